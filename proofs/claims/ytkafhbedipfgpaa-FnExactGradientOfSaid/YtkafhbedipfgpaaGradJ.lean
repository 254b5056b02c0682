/-
  GradientOf: the program's walk.
-/
import Derived.Test.YtkafhbedipfgpaaGradI
namespace Go.Proofs.Ytkafhbedipfgpaa
open Go.RowKit

theorem SlT.atHM {P : Program} {t e : TypeId} {z : Value} {sz bytes : Nat} (hT : SlT P t e z sz bytes) {a : Option Addr} {n cap k : Nat} {i j : Int} (hi : i = k) (hj : j = k) (hk : k ≤ cap) (w : World) :
    (Instr.sliceAt t (.slice a n cap) none (some (.int .i64 i)) (some (.int .i64 j))).run P w = .ok (.slice a k k) w := by
  subst hi; subst hj
  rw [hT.sliceAt]
  obtain ⟨ht, ⟨i, hi, hz, hsz, hby⟩, hzs⟩ := hT
  have h0 : ∀ p : Addr, p.add 0 = p := fun p => by cases p; rename_i b o s; cases s <;> simp [Addr.add]
  have hb := run_sliceBound (P := P) (w := w) .i64 (k : Int) cap .slice3Acap (by omega) (by omega)
  have hb2 := run_sliceBound (P := P) (w := w) .i64 (k : Int) k .slice3B (by omega) (by omega)
  cases a <;> simp [Instr.slice, run_underlying ht, Instr.sliceBounds, hb, hb2, sizeOf, typeInfo, hi, h0]
theorem RdCells.twoApp {w : World} {S : Nat → Prop} {vs : List Value} {ar : List Arw} {b1 b2 : Option Addr} {c1 c2 : Nat} {s t : List Int} (h : RdCells w S vs (flat ar)) (hl : vs.length = ar.length * 2) (h1 : RdI w S b1 s.length c1 s) (h2 : RdI w S b2 t.length c2 t) :
    RdCells w S (vs ++ [.slice b1 s.length c1, .slice b2 t.length c2]) (flat (ar ++ [(s, t)])) := by
  intro i xs hi
  rw [flat_append] at hi
  have hf := flat_len ar
  by_cases hlt : i < ar.length * 2
  · rw [List.getElem?_append_left (by omega)] at hi
    obtain ⟨b, c, h3, h4⟩ := h i xs hi
    exact ⟨b, c, by rw [List.getElem?_append_left (by omega)]; exact h3, h4⟩
  · rw [List.getElem?_append_right (by omega)] at hi
    obtain ⟨j, rfl⟩ : ∃ j, i = ar.length * 2 + j := ⟨i - ar.length * 2, by omega⟩
    rw [hf, Nat.add_sub_cancel_left] at hi
    rw [List.getElem?_append_right (by omega), hl, Nat.add_sub_cancel_left]
    match j, hi with
    | 0, hi => simp at hi; subst hi; exact ⟨b1, c1, rfl, h1⟩
    | 1, hi => simp at hi; subst hi; exact ⟨b2, c2, rfl, h2⟩
    | j + 2, hi => simp at hi

/-- The program's list of arrows: its own row, the simplices those of the argument. -/
theorem RdA.parts {w : World} {S : Nat → Prop} {a : Option Addr} {n cap : Nat} {l : List Arw} (h : RdA w S a n cap l) : ∃ vs, Row w S 2 a n cap vs ∧ RdCells w S vs (flat l) ∧ vs.length = l.length * 2 := by
  obtain ⟨⟨vs, h1, h2⟩, hl⟩ := h
  exact ⟨vs, h1, h2, by rw [hl]; exact h1.len⟩
theorem RdA.more {w4 w5 : World} {e : TypeId} {a b1 b2 : Option Addr} {m c3 c1 c2 : Nat} {ar : List Arw} {vs : List Value} {s t : List Int} (hV2 : RdCells w4 (fun _ => True) vs (flat ar)) (hV3 : vs.length = ar.length * 2) (hl : ar.length = m)
    (hO : Own w5 e 2 a (m + 1) c3 (vs ++ [.slice b1 s.length c1, .slice b2 t.length c2])) (hG : Grow w4 w5) (h1 : RdI w4 (fun _ => True) b1 s.length c1 s) (h2 : RdI w4 (fun _ => True) b2 t.length c2 t) : RdA w5 (fun _ => True) a (m + 1) c3 (ar ++ [(s, t)]) :=
  ⟨⟨_, hO.row fun _ _ => trivial, (hV2.grow hG).twoApp hV3 (h1.grow hG) (h2.grow hG)⟩, by simp [hl]⟩
set_option maxHeartbeats 4000000 in
set_option maxRecDepth 100000 in
theorem implGradientOf_c {S : Nat → Prop} (a : Option Addr) (n cap : Nat) (l : List (List Int)) (w : World) (h : RdII w S a n cap l) (hn : n ≤ 1048576) (ht : total l ≤ 1048576) :
    Calls Try.prog 44 #[.slice a n cap] w fun e w' => ∃ a' m c', e = .returned (.tuple #[.slice a' m c', .bool (isCplxB l)]) ∧ SepA w' (New w w') a' m c' (gradOut l) ∧ Grow w w' := by
  have Hl := Lib.hid h.len
  replace h := h.weak (T := fun _ => True) fun _ _ _ => trivial
  cases hB : isCplxB l with
  | false =>
    have he : gradOut l = [] := by unfold gradOut; rw [hB]; rfl
    rw [he]
    have HB := Lib.hid hB; clear hB he
    go_enter Try.func44, Try.ntmps44
    go_wp2_with fail
    refine (implIsComplex_c _ _ _ l _ h hn ht).mono ?_
    rintro e w1 ⟨rfl, hG⟩
    rw [HB.out]
    go_wp2
    go_ret2
    exact ⟨_, _, _, rfl, ⟨⟨[], Own.fresh (by unfold maxLen; omega) rfl, Inner.nilw⟩, fun g hg => by simp at hg; subst hg; exact ⟨hG.size, by simp⟩⟩, hG.alloc _ _⟩
  | true =>
    have he : gradOut l = gAt l n := by unfold gradOut; rw [hB, Hl.out]; rfl
    rw [he]
    have hok := gAt_ok l
    have hpos := fun {s : List Int} => cplx_pos (l := l) hB (s := s)
    have HB := Lib.hid hB; clear hB he
    go_enter Try.func44, Try.ntmps44
    go_wp2_with fail
    refine (implIsComplex_c _ _ _ l _ h hn ht).mono ?_
    rintro e w1 ⟨rfl, hG1⟩
    rw [HB.out]
    go_wp2
    go_loopw [4, 17] (fun v i wr => Grow w wr ∧ ∃ (j m c1 : Nat) (a1 : Option Addr), j ≤ n ∧ i = .int .i64 j ∧ v = .slice a1 m c1 ∧ RdA wr (fun _ => True) a1 m c1 (gAt l j)) (fun _ i _ => n - (intOf i).toNat)
    case atStart => exact ⟨hG1.alloc _ _, 0, 0, 0, _, Nat.zero_le _, rfl, rfl, ⟨[], Row.emptyAt, fun i xs hi => by simp [gAt] at hi⟩, rfl⟩
    case round =>
      obtain ⟨hG, j, m, c1, a1, hj, rfl, rfl, hA⟩ := hrel
      have hbd := (hok j).bd
      rw [hA.len, Hl.out] at hbd
      by_cases hlt : j < n
      · obtain ⟨b, off, s, sa, sc, rfl, hs, _, hbw, hc, rs⟩ := (h.grow hG).at hlt
        have hsl := List.mem_of_getElem? hs
        have hts := (total_at hs)
        have hst : gAt l (j + 1) = gStep l (gAt l j) j := rfl
        have Hs := Lib.hid hs; clear hs
        have hcap := h.row.choose_spec.1.le
        have hR := T_intss.atL (a := (some ⟨b, off, none⟩ : Option Addr)) (n := n) (cap := cap) (l := j + 1) (i := (j : Int) + 1) (by omega) (by omega)
        generalize har : gAt l j = ar at *
        have Har := Lib.hid har; clear har
        go_wp2_with fail
        refine (inArrows_c _ _ _ _ _ _ ar s _ hA rs (by omega) (by omega)).mono ?_
        rintro e w2 ⟨rfl, hG2⟩
        cases hin : inArB ar s with
        | true =>
          have Hst := Lib.hid (show gAt l (j + 1) = ar by rw [hst]; unfold gStep; rw [Hs.out]; simp [hin])
          have Hin := Lib.hid hin; clear hin hst
          go_wp2
          go_roundw
          case rel => exact ⟨hG.trans hG2, j + 1, m, c1, a1, by omega, by go_num, rfl, by rw [Hst.out]; exact hA.grow hG2⟩
          case measure => simp [intOf]; omega
        | false =>
          have Hst := Lib.hid (show gAt l (j + 1) = gRow ar s (l.drop (j + 1)) by rw [hst]; unfold gStep; rw [Hs.out]; simp [hin])
          have Hin := Lib.hid hin; clear hin hst
          have hG3 := hG.trans hG2
          go_wp2
          clear hR
          go_loopw [4, 30] (fun v i wr => Grow w2 wr ∧ ∃ k : Nat, k ≤ n - (j + 1) ∧ v = .slice a1 m c1 ∧ i = .int .i64 k ∧ gRow ar s (l.drop (j + 1)) = gRow ar s (l.drop (j + 1 + k))) (fun _ i _ => n - (j + 1) - (intOf i).toNat)
          case atStart => exact ⟨Grow.refl _, 0, Nat.zero_le _, rfl, rfl, rfl⟩
          case round =>
            obtain ⟨hGq, k, hk, rfl, rfl, hrow⟩ := hrel
            have Hrow := Lib.hid hrow; clear hrow
            by_cases hkn : k < n - (j + 1)
            · have hGw := hG3.trans hGq
              obtain ⟨b2, off2, t, ta, tc, e2, hy, _, hbt, hct, rt⟩ := (h.grow hGw).at (k := j + 1 + k) (by omega)
              obtain ⟨rfl, rfl⟩ : b2 = b ∧ off2 = off := by simpa using e2.symm
              clear e2
              have hsub : subA (some (⟨b2, off2, none⟩ : Addr)) cap (j + 1) 1 = some ⟨b2, off2 + (j + 1), none⟩ := by
                unfold subA
                rw [if_neg (by omega)]
                simp [Addr.add]
              rw [← Nat.add_assoc] at hct
              have htt := total_at hy
              have htl := List.mem_of_getElem? hy
              have Hy := Lib.hid hy; clear hy
              rw [hsub]
              have hA2 := (hA.grow hG2).grow hGq
              have rs2 := (rs.grow hG2).grow hGq
              cases hf : isFaceB s t with
              | false =>
                have HF := Lib.hid (show gFits ar s t = false by unfold gFits; rw [hf]; rfl)
                have Hf := Lib.hid hf; clear hf
                go_wp2_with fail
                refine (isFaceOf_c _ _ _ _ _ _ s t _ rs2 rt (by omega) (by omega)).mono ?_
                rintro e w3 ⟨rfl, hGa⟩
                rw [Hf.out]
                replace hGq := hGq.trans hGa
                go_wp2
                go_roundw
                case rel => exact ⟨hGq, k + 1, by omega, rfl, by go_num, by rw [Hrow.out, gRow_drop Hy.out, if_neg (by rw [HF.out]; simp)]; rfl⟩
                case measure => simp [intOf]; omega
              | true =>
                have Hf := Lib.hid hf
                cases hit : inArB ar t with
                | true =>
                  have HF := Lib.hid (show gFits ar s t = false by unfold gFits; rw [hit]; simp)
                  have Hit := Lib.hid hit; clear hit hf
                  go_wp2_with fail
                  refine (isFaceOf_c _ _ _ _ _ _ s t _ rs2 rt (by omega) (by omega)).mono ?_
                  rintro e w3 ⟨rfl, hGa⟩
                  rw [Hf.out]
                  go_wp2_with fail
                  refine (inArrows_c _ _ _ _ _ _ ar t _ (hA2.grow hGa) (rt.grow hGa) (by omega) (by omega)).mono ?_
                  rintro e w4 ⟨rfl, hGb⟩
                  rw [Hit.out]
                  replace hGq := (hGq.trans hGa).trans hGb
                  go_wp2
                  go_roundw
                  case rel => exact ⟨hGq, k + 1, by omega, rfl, by go_num, by rw [Hrow.out, gRow_drop Hy.out, if_neg (by rw [HF.out]; simp)]; rfl⟩
                  case measure => simp [intOf]; omega
                | false =>
                  have hok2 := (Har.out ▸ hok j : GOk l ar).add Hin.out hit hf hsl htl
                  have hbd2 := hok2.bd
                  have Hit := Lib.hid hit
                  have HF0 := Lib.hid (show gFits ar s t = acycB (ar ++ [(s, t)]) by unfold gFits; rw [hf, hit]; rfl)
                  clear hit hf hok2
                  go_wp2_with fail
                  refine (isFaceOf_c _ _ _ _ _ _ s t _ rs2 rt (by omega) (by omega)).mono ?_
                  rintro e w3 ⟨rfl, hGa⟩
                  rw [Hf.out]
                  go_wp2_with fail
                  refine (inArrows_c _ _ _ _ _ _ ar t _ (hA2.grow hGa) (rt.grow hGa) (by omega) (by omega)).mono ?_
                  rintro e w4 ⟨rfl, hGb⟩
                  rw [Hit.out]
                  replace hGq := (hGq.trans hGa).trans hGb
                  have hA4 := (hA2.grow hGa).grow hGb
                  have hAl := hA4.len
                  have hAc := hA4.cap_le
                  have rs4 := (rs2.grow hGa).grow hGb
                  have rt4 := (rt.grow hGa).grow hGb
                  obtain ⟨vs, hV1, hV2, hV3⟩ := hA4.parts
                  have hR2 := T_arrows.atHM (a := a1) (n := m) (cap := c1) (k := m) rfl rfl hAc.1
                  clear hA2 rs2 rt hGa hGb
                  go_wp2_with (at_builtin; refine wpList_app_new rfl (.tmp 48) (.tmp 52) _ rfl T_arrows rfl (hV1.trim.grow ((Grow.refl _).alloc _ _)) rfl (Row.built (S := fun _ => True) 1 (by unfold maxLen; omega) rfl trivial) (by omega) (by omega) (by unfold maxLen; omega) ?_; intro c3 w5 hO5 hG5)
                  have hGz : Grow w4 w5 := ((Grow.refl _).alloc _ _).trans hG5
                  have hA5 := RdA.more hV2 hV3 hAl hO5 hGz rs4 rt4
                  simp only [World.size_alloc] at hA5
                  clear hO5 hG5 hV1 hV2 hV3 hR2 hA4 rs4 rt4
                  simp only [List.length_append, List.length_cons, List.length_nil] at hbd2
                  refine (leadsAround_c _ _ _ (ar ++ [(s, t)]) _ hA5 (by omega) (by omega)).mono ?_
                  rintro e w6 ⟨rfl, hG6⟩
                  replace hGq := (hGq.trans hGz).trans hG6
                  cases hac : acycB (ar ++ [(s, t)]) with
                  | true =>
                    have Hout := Lib.hid (show gAt l (j + 1) = ar ++ [(s, t)] by
                      rw [Hst.out, Hrow.out, gRow_drop Hy.out, if_pos (by rw [HF0.out, hac])])
                    have Hac := Lib.hid hac; clear hac
                    go_wp2
                    go_roundw
                    case rel => exact ⟨hG3.trans hGq, j + 1, m + 1, c3, _, by omega, by go_num, rfl, by rw [Hout.out]; exact hA5.grow hG6⟩
                    case measure => simp [intOf]; omega
                  | false =>
                    have HF := Lib.hid (show gFits ar s t = false by rw [HF0.out, hac])
                    have Hac := Lib.hid hac; clear hac
                    go_wp2
                    go_roundw
                    case rel => exact ⟨hGq, k + 1, by omega, rfl, by go_num, by rw [Hrow.out, gRow_drop Hy.out, if_neg (by rw [HF.out]; simp)]; rfl⟩
                    case measure => simp [intOf]; omega
            · have hkk : k = n - (j + 1) := by omega
              have Hout := Lib.hid (show gAt l (j + 1) = ar by
                rw [Hst.out, Hrow.out, List.drop_of_length_le (by rw [Hl.out]; omega)]; rfl)
              go_wp2
              go_roundw
              case rel => exact ⟨hG3.trans hGq, j + 1, m, c1, a1, by omega, by go_num, rfl, by rw [Hout.out]; exact (hA.grow hG2).grow hGq⟩
              case measure => simp [intOf]; omega
      · have hjn : j = n := by omega
        subst hjn
        go_wp2_with fail
        refine (copyArrows_c _ _ _ _ _ hA (by omega) (by omega) (fun x hx => hpos ((hok j).2 x hx))).mono ?_
        rintro e w2 ⟨a2, c2, rfl, hS, hG2⟩
        go_wp2
        go_ret2
        exact ⟨_, _, _, rfl, hS.weak fun q _ hq => ⟨by have := hq.1; have := hG.size; omega, hq.2⟩, hG.trans hG2⟩
end Go.Proofs.Ytkafhbedipfgpaa
