/-
  Matrices read back from their texts: the reference's ParseMatrix.
-/
import Derived.Test.YtdnpdfokdibmdaaDoorZPrm
import Derived.Test.YtdnpdfokdibmdaaDoorZPrsS
import Derived.Test.YtdnpdfokdibmdaaDoorZSplS
import Derived.Test.YtdnpdfokdibmdaaDoorZFmtS
namespace Go.Proofs.YtdnpdfokdibmdaaDoor
open Go.RowKit

theorem getD_some {α : Type} {l : List α} {k : Nat} {x d : α} (h : l[k]? = some x) : l.getD k d = x := by rw [List.getD, h]; rfl
theorem filter_take {l : List (List UInt8)} {k : Nat} {x : List UInt8} (h : l[k]? = some x) : (l.take (k + 1)).filterMap parI = (l.take k).filterMap parI ++ (match parI x with | some n => [n] | none => []) := by
  rw [take_succ h, List.filterMap_append]
  congr 1
  cases hp : parI x with
  | none => rw [List.filterMap_cons_none hp]; rfl
  | some n => rw [List.filterMap_cons_some hp]; rfl
theorem filter_len (l : List (List UInt8)) : (l.filterMap parI).length ≤ l.length := List.length_filterMap_le _ _
theorem zeroM_own {w : World} {F : Nat → Prop} : OM w F (.agg #[.int .i64 0, .int .i64 0, .slice none 0 0]) zeroM :=
  ⟨none, 0, 0, rfl, ⟨by simp [zeroM], Nat.le_refl _, by unfold maxLen; omega, fun _ => rfl, fun p h => by cases h⟩, (fun x hx => by simp [zeroM] at hx), (fun g h => by cases h), ⟨by decide, by decide⟩, ⟨by decide, by decide⟩⟩

theorem RdS.piece {S : Nat → Prop} {w : World} {a : Option Addr} {n cap : Nat} {ps : List (List UInt8)} (h : RdS w S a n cap (ps.map bstr)) {k : Nat} (hk : k < n) :
    ∃ b off y, a = some ⟨b, off, none⟩ ∧ ps[k]? = some y ∧ b < w.heap.size ∧ w.cell? ⟨b, off + k, none⟩ = some (.string (bstr y)) := by
  obtain ⟨b, off, x, ha, hx, -, hb, hc⟩ := h.at hk
  rw [List.getElem?_map] at hx
  obtain ⟨y, hy, rfl⟩ := Option.map_eq_some_iff.1 hx
  exact ⟨b, off, y, ha, hy, hb, hc⟩
set_option maxHeartbeats 8000000 in
set_option maxRecDepth 100000 in
theorem sParseMatrix_c (s : ByteArray) (w : World) (hs : s.size ≤ 1048576) :
    Calls Tryd.prog 23 #[.string s] w fun e w' => ∃ v, e = .returned (.tuple #[v, .bool (parMb s.data.toList)]) ∧ OM w' (New w w') v (parMv s.data.toList) ∧ Grow w w' := by
  have hG1 := (Grow.refl w).alloc #[.int .i64 0, .int .i64 0, .slice none 0 0] 29
  have bZ := Blk.new w #[.int .i64 0, .int .i64 0, .slice none 0 0] 29
  have HL := Lib.hid (bytesLen s)
  have hpl := splitGo_len pm s.data.toList []
  have hpb := fun (x : List UInt8) (hx : x ∈ splitGo pm [] s.data.toList) => splitGo_bytes hx
  rw [HL.out] at hpl hpb
  obtain ⟨ps, hps⟩ : ∃ ps, ps = splitGo pm [] s.data.toList := ⟨_, rfl⟩
  rw [← hps] at hpl hpb
  have Hps := Lib.hid hps
  have Hpb := Lib.hid hpb
  clear hpb hps
  go_enter Tryd.func23, Tryd.ntmps23
  go_wp2_with fail
  refine (sSplit_c s ⟨#[120, 91, 93, 59, 32]⟩ _ hs (by decide)).mono ?_
  rintro e w2 ⟨v, rfl, ⟨pa, pn, pc, rfl, oP, lP⟩, hG2⟩
  have hG12 := hG1.trans hG2
  have bZ2 := bZ.grow hG2
  have hP : RdS w2 (fun _ => True) pa pn pc (ps.map bstr) := by
    have := oP.rdS (S := fun _ => True) fun _ _ => trivial
    rw [Hps.out]; exact this
  have hpn : ps.length = pn := by have := hP.len; simpa using this
  subst hpn
  clear oP lP
  have hle0 : w.heap.size ≤ w.heap.size := Nat.le_refl _
  have hltZ := bZ2.lt
  obtain ⟨⟨z0, z1, z2⟩, f0, f1, f2⟩ := bZ2.three
  by_cases h4 : ps.length < 4
  · have Hno := Lib.hid (parM_n (s := s.data.toList) (by unfold parM pcsM; rw [← Hps.out, if_neg (fun e => by omega)]))
    go_wp2
    exact ret_cell_tmp T_mat rfl rfl rfl (((bZ2.set 0 _).set 1 _).set 2 _) ⟨_, by rw [Hno.out.2]; rfl, by rw [Hno.out.1]; exact zeroM_own, ((hG12.setCell hle0 _).setCell hle0 _).setCell hle0 _⟩
  · by_cases h8 : 8000 < s.size
    · have Hno := Lib.hid (parM_n (s := s.data.toList) (by unfold parM; rw [if_neg (fun e => by have := HL.out; omega)]))
      go_wp2
      exact ret_cell_tmp T_mat rfl rfl rfl (((bZ2.set 0 _).set 1 _).set 2 _) ⟨_, by rw [Hno.out.2]; rfl, by rw [Hno.out.1]; exact zeroM_own, ((hG12.setCell hle0 _).setCell hle0 _).setCell hle0 _⟩
    · obtain ⟨b, off, y0, rfl, hx0, hbl, c0⟩ := hP.piece (k := 0) (by omega)
      obtain ⟨b', off', y1, hb', hx1, -, c1⟩ := hP.piece (k := 1) (by omega)
      injection hb' with hb'
      injection hb' with e1 e2
      subst e1; subst e2
      rw [Nat.add_zero] at c0
      have s0 : (bstr y0).size ≤ 1048576 := by rw [bstr_size]; have := Hpb.out y0 (List.mem_of_getElem? hx0); simp at this; omega
      have s1 : (bstr y1).size ≤ 1048576 := by rw [bstr_size]; have := Hpb.out y1 (List.mem_of_getElem? hx1); simp at this; omega
      have Hcand := Lib.hid (show candM s.data.toList = ⟨parIv y0, parIv y1, ((ps.drop 2).dropLast).filterMap parI⟩ by
        unfold candM pcsM
        rw [← Hps.out, getD_some hx0, getD_some hx1])
      have HparM := Lib.hid (show parM s.data.toList = if fmtM (candM s.data.toList) = s.data.toList then some (candM s.data.toList) else none by
        unfold parM pcsM
        rw [← Hps.out]
        by_cases hc : fmtM (candM s.data.toList) = s.data.toList
        · rw [if_pos hc, if_pos ⟨by omega, by have := HL.out; omega, hc⟩]
        · rw [if_neg hc, if_neg (fun e => hc e.2.2)])
      have hn0 := isNumB_rng (parIv_num y0)
      have hn1 := isNumB_rng (parIv_num y1)
      clear hx0 hx1
      go_wp2_with fail
      refine (sParseInt_c (bstr y0) _ s0).mono ?_
      rintro e _ ⟨rfl, rfl⟩
      rw [show (bstr y0).data.toList = y0 from rfl]
      go_wp2_with fail
      refine (sParseInt_c (bstr y1) _ s1).mono ?_
      rintro e _ ⟨rfl, rfl⟩
      rw [show (bstr y1).data.toList = y1 from rfl]
      obtain ⟨r0, hr0⟩ : ∃ r0, r0 = parIv y0 := ⟨_, rfl⟩
      obtain ⟨r1, hr1⟩ : ∃ r1, r1 = parIv y1 := ⟨_, rfl⟩
      rw [← hr0, ← hr1] at Hcand
      rw [← hr0] at hn0 ⊢
      rw [← hr1] at hn1 ⊢
      clear hr0 hr1 s0 s1 c0 c1
      have hGa := (Grow.refl w2).alloc #[.int .i64 r0, .int .i64 r1, .slice none 0 0] 29
      have bB := Blk.new w2 #[.int .i64 r0, .int .i64 r1, .slice none 0 0] 29
      go_wp2
      go_loopw [10, 11, 12] (fun iv _ _ wr => Grow w2 wr ∧ ∃ (i : Nat) (cs : List Int) (a' : Option Addr) (c' : Nat), 2 ≤ i ∧ i ≤ ps.length - 1 ∧ iv = .int .i64 i ∧ cs = (((ps.drop 2).dropLast).take (i - 2)).filterMap parI ∧ Own wr 3 1 a' cs.length c' (ints cs) ∧ (∀ g, blk a' = some g → w2.heap.size < g) ∧ Blk wr w2.heap.size #[.int .i64 r0, .int .i64 r1, .slice a' cs.length c'] 29) (fun iv _ _ _ => ps.length - (intOf iv).toNat)
      case atStart => exact ⟨hGa, 2, [], none, 0, Nat.le_refl _, by omega, rfl, by simp, ⟨by simp, Nat.le_refl _, by unfold maxLen; omega, fun _ => rfl, fun p h => by cases h⟩, (fun g h => by cases h), bB⟩
      case round =>
        clear bB hGa z0 z1 z2 f0 f1 f2
        obtain ⟨hGr, i, cs, a', c', hi2, hi, rfl, hcs, hO, hlo, bR⟩ := hrel
        have hcl : cs.length ≤ 1048577 := by
          rw [hcs]
          have h1 := filter_len (((ps.drop 2).dropLast).take (i - 2))
          simp at h1; omega
        have Hcs := Lib.hid hcs; clear hcs
        obtain ⟨⟨x0, x1, x2⟩, g0, g1, g2⟩ := bR.three
        have hltR := bR.lt
        by_cases hlt : i < ps.length - 1
        · obtain ⟨b', off', y, hb', hy, -, cy⟩ := (hP.grow hGr).piece (k := i) (by omega)
          injection hb' with hb'
          injection hb' with e1 e2
          subst e1; subst e2
          have sy : (bstr y).size ≤ 1048576 := by rw [bstr_size]; have := Hpb.out y (List.mem_of_getElem? hy); simp at this; omega
          have hd : ((ps.drop 2).dropLast)[i - 2]? = some y := by
            rw [List.getElem?_dropLast, if_pos (by simp; omega), List.getElem?_drop, show 2 + (i - 2) = i by omega]; exact hy
          have Hst := Lib.hid (filter_take hd)
          rw [show i - 2 + 1 = i + 1 - 2 by omega] at Hst
          clear hd hy
          go_wp2_with fail
          refine (sParseInt_c (bstr y) _ sy).mono ?_
          rintro e _ ⟨rfl, rfl⟩
          rw [show (bstr y).data.toList = y from rfl]
          cases hp : parI y with
          | none =>
            have Hq := Lib.hid (parI_n hp)
            rw [hp] at Hst
            rw [Hq.out.1, Hq.out.2]
            clear hp
            go_wp2
            go_roundw
            case rel => exact ⟨hGr, i + 1, cs, a', c', by omega, by omega, by go_num, by rw [Hst.out, ← Hcs.out]; simp, hO, hlo, bR⟩
            case measure => simp [intOf]; omega
          | some q =>
            have Hq := Lib.hid (parI_v hp)
            have hqn := isNumB_rng (parI_some hp).1
            rw [hp] at Hst
            rw [Hq.out.1, Hq.out.2]
            clear hp
            have hO2 := hO.grow ((Grow.refl wr).alloc #[.int .i64 q] 3)
            go_wp2_with (at_builtin; refine wpList_app rfl (.tmp 58) (.tmp 60) _ rfl T_ints rfl hO2 rfl (Row.built (S := fun _ => True) 1 (by unfold maxLen; omega) rfl trivial) (by simp [Value.oneCell']) (by omega) (by unfold maxLen; omega) ?_; intro a3 c3 w3 hA3; have bR3 := (bR.alloc (.cells #[.int .i64 q] 3)).keep hA3.keep (fun e => by have := hlo _ e; omega); obtain ⟨⟨y0', y1', y2'⟩, k0, k1, k2⟩ := bR3.three)
            have hG3 : Grow w2 w3 := hA3.grow (hGr.alloc _ _) fun g hg => Nat.le_of_lt (hlo g hg)
            have hl3 := hA3.lo (B := w2.heap.size + 1) (by have := hGr.size; simp; omega) hlo
            have hO3 := hA3.own
            have hle2 : w2.heap.size ≤ w2.heap.size := Nat.le_refl _
            have hK3 : Keep (fun q => q ≠ w2.heap.size) w3 (w3.setCell ⟨w2.heap.size, 2, none⟩ (.slice a3 (cs.length + 1) c3)) := (Keep.refl _ w3).setCell (fun _ e => e rfl) _
            clear hA3 hO hO2
            go_roundw
            case rel => exact ⟨hG3.setCell hle2 _, i + 1, cs ++ [q], a3, c3, by omega, by omega, by go_num, by rw [Hst.out, ← Hcs.out], by rw [List.length_append]; exact (by simpa [ints] using hO3.keep hK3 fun g hg _ e => by have := hl3 g hg; omega), hl3, by rw [List.length_append]; exact bR3.set 2 _⟩
            case measure => simp [intOf]; omega
        · have hie : i = ps.length - 1 := by omega
          have hrng : ∀ x ∈ cs, I64 x := fun x hx => by
            rw [Hcs.out] at hx
            obtain ⟨y, -, hy⟩ := List.mem_filterMap.1 hx
            have := isNumB_rng (parI_some hy).1
            unfold I64; omega
          have hcand : candM s.data.toList = ⟨r0, r1, cs⟩ := by
            rw [Hcand.out, Hcs.out, List.take_of_length_le (by simp; omega)]
          have Hc := Lib.hid hcand
          rw [hcand] at HparM
          have vM : VM wr (fun _ => True) (.agg #[.int .i64 r0, .int .i64 r1, .slice a' cs.length c']) ⟨r0, r1, cs⟩ := ⟨a', cs.length, c', rfl, hO.rdI (fun _ _ => trivial) hrng, by unfold I64; simp only; omega, by unfold I64; simp only; omega⟩
          have Hrng := Lib.hid hrng
          clear hcand hrng
          go_wp2_with fail
          refine (sFormatMatrix_c vM (by unfold bdM; simp only; omega)).mono ?_
          rintro e w4 ⟨rfl, hG4⟩
          have bR4 := bR.grow hG4
          have bZ4 := bZ2.grow (hGr.trans hG4)
          have hO4 := hO.grow hG4
          have hGw : Grow w w4 := (hG12.trans hGr).trans hG4
          have hsz := hG12.size
          have hsz4 := (hGr.trans hG4).size
          clear x0 x1 x2 g0 g1 g2
          obtain ⟨⟨x0, x1, x2⟩, g0, g1, g2⟩ := bR4.three
          obtain ⟨⟨z0, z1, z2⟩, f0, f1, f2⟩ := bZ4.three
          obtain ⟨F, hF⟩ : ∃ F, F = fmtM ⟨r0, r1, cs⟩ := ⟨_, rfl⟩
          rw [← hF] at HparM ⊢
          clear hF
          by_cases he : F = s.data.toList
          · have Hy := Lib.hid (parM_v (HparM.out.trans (if_pos he)))
            have q2 : (F == s.toList) = true := by rw [toList_data, he]; exact beq_self_eq_true _
            clear he
            go_wp2
            have hK : Keep (fun q => q ≠ w.heap.size) w4 (((w4.setCell ⟨w.heap.size, 0, none⟩ (.int .i64 r0)).setCell ⟨w.heap.size, 1, none⟩ (.int .i64 r1)).setCell ⟨w.heap.size, 2, none⟩ (.slice a' cs.length c')) :=
              (((Keep.refl _ w4).setCell (fun _ e => e rfl) _).setCell (fun _ e => e rfl) _).setCell (fun _ e => e rfl) _
            have hsk := hK.size
            exact ret_cell_tmp T_mat rfl rfl rfl (((bZ4.set 0 _).set 1 _).set 2 _) ⟨_, by rw [Hy.out.2]; rfl, by rw [Hy.out.1]; exact ⟨a', cs.length, c', rfl, hO4.keep hK (fun g hg _ e => by have := hlo g hg; omega), Hrng.out, (fun g hg => ⟨by have := hlo g hg; omega, by have := hO4.lt hg; omega⟩), by unfold I64; simp only; omega, by unfold I64; simp only; omega⟩, ((hGw.setCell hle0 _).setCell hle0 _).setCell hle0 _⟩
          · have Hno := Lib.hid (parM_n (HparM.out.trans (if_neg he)))
            have q2 : (F == s.toList) = false := by rw [toList_data]; exact beq_eq_false_iff_ne.2 he
            clear he
            go_wp2
            exact ret_cell_tmp T_mat rfl rfl rfl (((bZ4.set 0 _).set 1 _).set 2 _) ⟨_, by rw [Hno.out.2]; rfl, by rw [Hno.out.1]; exact zeroM_own, ((hGw.setCell hle0 _).setCell hle0 _).setCell hle0 _⟩
end Go.Proofs.YtdnpdfokdibmdaaDoor
