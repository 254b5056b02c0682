/-
  Numbers read back from their texts: the program's ParseInt; what the library's variables hold.
-/
import Derived.Test.YtdnpdfokdibmdaaGreatDoorZFmtI
import Derived.Test.YtdnpdfokdibmdaaGreatDoorZPrsS
import Derived.Test.YtdnpdfokdibmdaaGreatDoorZShA
import Derived.Lib.AtoiErrMem
namespace Go.Proofs.YtdnpdfokdibmdaaGreatDoor
open Go.RowKit

theorem var_grow {P : Program} {n : String} {v : Array Value} {w w' : World} (h : w.var? P n = some v) (hg : Grow w w') : w'.var? P n = some v := by
  unfold World.var? at *
  cases hg1 : P.globalNamed n with
  | none => simp [hg1] at h
  | some g =>
    simp only [hg1, Option.bind_some] at h ⊢
    have hlt : g < w.heap.size := by
      rcases Nat.lt_or_ge g w.heap.size with h' | h'
      · exact h'
      · rw [Array.getElem?_eq_none h'] at h; simp at h
    rw [hg.below.block g hlt]
    exact h
/-- What the library's variables hold. -/
structure Env (w : World) : Prop where
  tab : Tab w
  syn : ∃ tp p, w.var? Tryz.prog "strconv.ErrSyntax" = some #[.iface tp p]
  rng : ∃ tp p, w.var? Tryz.prog "strconv.ErrRange" = some #[.iface tp p]
  len : ∃ m, w.cell? ⟨0, 0, none⟩ = some (.int .i64 m)
theorem Env.grow {w w' : World} (h : Env w) (hg : Grow w w') : Env w' := by
  obtain ⟨h1, ⟨a, b, h2⟩, ⟨c, d, h3⟩, ⟨m, h4⟩⟩ := h
  exact ⟨h1.grow hg, ⟨a, b, var_grow h2 hg⟩, ⟨c, d, var_grow h3 hg⟩, ⟨m, hg.cell h4⟩⟩

set_option maxHeartbeats 4000000 in
set_option maxRecDepth 100000 in
theorem iParseInt_c (s : ByteArray) (w : World) (hs : s.size ≤ 1048576) (he : Env w) : Calls Tryz.prog 38 #[.string s] w fun e w' => e = .returned (.tuple #[.int .i64 (parIv s.data.toList), .bool (parIb s.data.toList)]) ∧ Grow w w' := by
  have He := Lib.hid he; clear he
  cases hat : Lib.atoiAll s.data.toList with
  | range =>
    obtain ⟨tp, p, hv⟩ := He.out.rng
    have hA := sh_strconv_Atoi_range_var s (by omega) hat tp p w hv
    clear hv
    have Hno := Lib.hid (parI_n (parI_bad (s := s.data.toList) (fun v e => by rw [hat] at e; cases e)))
    clear hat
    go_enter Tryz.func38, Tryz.ntmps38
    go_wp2_with fail
    refine hA.mono ?_
    rintro e w' ⟨N, rfl, -, -, hB⟩
    have hG := Below.toGrow hB
    clear hB
    go_wp2
    go_ret2
    exact ⟨by rw [Hno.out.1, Hno.out.2]; rfl, hG⟩
  | ok v =>
    have Hv := Lib.hid (parI_all hat)
    have hA := sh_strconv_Atoi_ok s (by omega) v hat w
    clear hat
    cases hnum : isNumB v with
    | false =>
      have Hno := Lib.hid (parI_n (s := s.data.toList) (by rw [Hv.out, hnum]; simp))
      go_enter Tryz.func38, Tryz.ntmps38
      go_wp2_with fail
      refine hA.mono ?_
      rintro e w2 ⟨rfl, hw⟩
      have hG : Grow w w2 := by
        rcases hw with rfl | ⟨t, rfl⟩
        · exact Grow.refl _
        · exact Below.toGrow (Lib.bytesWorld_below w _ t)
      clear hw
      go_wp2_with fail
      refine (isNumber_c v _).mono ?_
      rw [hnum]
      rintro e _ ⟨rfl, rfl⟩
      clear hnum
      go_wp2
      go_ret2
      exact ⟨by rw [Hno.out.1, Hno.out.2]; rfl, hG⟩
    | true =>
      have hr := isNumB_rng hnum
      go_enter Tryz.func38, Tryz.ntmps38
      go_wp2_with fail
      refine hA.mono ?_
      rintro e w2 ⟨rfl, hw⟩
      have hG : Grow w w2 := by
        rcases hw with rfl | ⟨t, rfl⟩
        · exact Grow.refl _
        · exact Below.toGrow (Lib.bytesWorld_below w _ t)
      clear hw
      go_wp2_with fail
      refine (isNumber_c v _).mono ?_
      rw [hnum]
      rintro e _ ⟨rfl, rfl⟩
      have Hnum := Lib.hid hnum; clear hnum
      go_wp2_with fail
      refine (iFormatInt_c v _ (by unfold I64; omega) (He.out.tab.grow hG)).mono ?_
      rintro e w3 ⟨rfl, hG3⟩
      by_cases he : Lib.itoa v = s.data.toList
      · have Hy := Lib.hid (parI_v (s := s.data.toList) (by rw [Hv.out, if_pos ⟨Hnum.out, he⟩]))
        have q2 : (Lib.itoa v == s.toList) = true := by rw [toList_data, he]; exact beq_self_eq_true _
        clear he
        go_wp2
        go_ret2
        exact ⟨by rw [Hy.out.1, Hy.out.2]; rfl, hG.trans hG3⟩
      · have Hno := Lib.hid (parI_n (s := s.data.toList) (by rw [Hv.out, if_neg (fun e => he e.2)]))
        have q2 : (Lib.itoa v == s.toList) = false := by rw [toList_data]; exact beq_eq_false_iff_ne.2 he
        clear he
        go_wp2
        go_ret2
        exact ⟨by rw [Hno.out.1, Hno.out.2]; rfl, hG.trans hG3⟩
  | _ =>
    obtain ⟨tp, p, hv⟩ := He.out.syn
    have hA : Calls Tryz.prog 54 #[.string s] w _ := Any.strconv_Atoi_syntax_var sh_laysC172 s (by omega) hat tp p w hv
    clear hv
    have Hno := Lib.hid (parI_n (parI_bad (s := s.data.toList) (fun v e => by rw [hat] at e; cases e)))
    clear hat
    go_enter Tryz.func38, Tryz.ntmps38
    go_wp2_with fail
    refine hA.mono ?_
    rintro e w' ⟨N, rfl, -, -, hB⟩
    have hG := Below.toGrow hB
    clear hB
    go_wp2
    go_ret2
    exact ⟨by rw [Hno.out.1, Hno.out.2]; rfl, hG⟩
end Go.Proofs.YtdnpdfokdibmdaaGreatDoor
