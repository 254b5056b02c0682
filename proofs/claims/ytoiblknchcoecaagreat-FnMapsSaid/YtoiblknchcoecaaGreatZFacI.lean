/-
  The program's FactorsOf.
-/
import Derived.Test.YtoiblknchcoecaaGreatZWkN
import Derived.Test.YtoiblknchcoecaaGreatZSmithT
set_option maxHeartbeats 8000000
set_option maxRecDepth 100000
namespace Go.Proofs.YtoiblknchcoecaaGreat
open Go.RowKit
def dgL (L : List Int) (E i : Nat) : Int := if i < E then cell L E i i else 0
theorem facP_dyes {m : List Int} {C n : Nat} (h : dgL m C n ≠ 0) : facP m C (min (n + 1) C) = facP m C (min n C) ++ [dgL m C n] := by
 unfold dgL at h ⊢
 by_cases hn : n < C
 ·rw [if_pos hn] at h ⊢; rw [show min (n + 1) C = n + 1 by omega, show min n C = n by omega]; exact facP_yes h
 ·rw [if_neg hn] at h; exact (h rfl).elim
theorem facP_dno {m : List Int} {C n : Nat} (h : dgL m C n = 0) : facP m C (min (n + 1) C) = facP m C (min n C) := by
 unfold dgL at h
 by_cases hn : n < C
 ·rw [if_pos hn] at h; rw [show min (n + 1) C = n + 1 by omega, show min n C = n by omega]; exact facP_no h
 ·rw [show min (n + 1) C = min n C by omega]
theorem facB_no {m : Mat} (h : facOk m = false) : facB m = [] := by
 unfold facOk at h; unfold facB
 cases hf : facR m with
 | none => rfl
 | some x => rw [hf] at h; cases h
theorem dgL_num {L : List Int} (h : NumL L) (E i : Nat) : -400000000 ≤ dgL L E i ∧ dgL L E i ≤ 400000000 := by
 unfold dgL; split
 ·exact cell_num h E i i
 ·omega
theorem iDiagonal_c {S : Nat → Prop} (aa : Option Addr) (na ca D E i : Nat) (L : List Int) (w : World) (h : RdI w S aa na ca L) (hl : L.length = D * E) (hD : D ≤ 24) (hE : E ≤ 24) (hi : i < D) :
  Calls Tryz.prog 64 #[.agg #[.int .i64 D, .int .i64 E, .slice aa na ca], .int .i64 i] w fun e w' => e = .returned (.int .i64 (dgL L E i)) ∧ Grow w w' := by
 have hDE : D * E ≤ 24 * 24 := Nat.mul_le_mul hD hE
 have hna : na = D * E := by rw [← h.len]; exact hl
 subst hna
 have hG0 := (Grow.refl w).alloc #[.int .i64 (D : Int), .int .i64 (E : Int), .slice aa (D * E) ca] 26
 have bM := Blk.new w #[.int .i64 (D : Int), .int .i64 (E : Int), .slice aa (D * E) ca] 26
 obtain ⟨⟨a0, a1, a2⟩, -⟩ := bM.three
 have hlt := bM.lt
 by_cases hiE : i < E
 ·have Hd := Lib.hid (show dgL L E i = cell L E i i by unfold dgL; rw [if_pos hiE])
  have hni : i * E + i < D * E := place_lt hiE hi
  have Hg := Lib.hid (show L[i * E + i]? = some (cell L E i i) from get_cell (by rw [hl]; exact hni))
  clear hni
  go_enter Tryz.func64, Tryz.ntmps64
  go_wp2_with fail
  refine (at_c aa _ ca E i i (i * E + i) (D : Int) _ L _ (h.grow hG0) rfl Hg.out (by omega) (by omega) (by omega) (by omega)).mono ?_
  rintro e w2 ⟨rfl, hG2⟩
  go_wp2
  go_ret
  exact ⟨by rw [Hd.out]; rfl, hG0.trans hG2⟩
 ·have hEi : E ≤ i := by omega
  have Hd := Lib.hid (show dgL L E i = 0 by unfold dgL; rw [if_neg hiE])
  go_enter Tryz.func64, Tryz.ntmps64
  go_wp2
  go_ret
  exact ⟨by rw [Hd.out]; rfl, hG0⟩
theorem iSmith_pk {S : Nat → Prop} {v : Value} {m : Mat} {w : World} (h : VM w S v m) (hb : bdM m ≤ 1048576) :
  Calls Tryz.prog 63 #[v] w fun e w' => Grow w w' ∧ ∃ D E aa na ca L b ub un uk vb vn vk ur uc vr vc, FacPk w' (fun _ => True) m D E aa na ca L b ∧ e = .returned (.tuple #[.agg #[.int .i64 ((D : Nat) : Int), .int .i64 ((E : Nat) : Int), .slice aa na ca], .agg #[.int .i64 ur, .int .i64 uc, .slice ub un uk], .agg #[.int .i64 vr, .int .i64 vc, .slice vb vn vk], .bool b]) := by
 have hVM := h
 obtain ⟨a, n, c, rfl, h, hr, hc⟩ := h
 cases hB : isMatB m with
 | false =>
  refine (iSmith_no hVM hb hB).mono ?_
  rintro e w' ⟨rfl, hG⟩
  exact ⟨hG, 0, 0, none, 0, 0, [], false, _, _, _, _, _, _, _, _, _, _, FacPk.zero (facR_no hB), rfl⟩
 | true =>
  obtain ⟨R, C, hmr, hmc, hR, hC, hl, hnum⟩ := isMatB_shape hB
  obtain ⟨mr, mc, cells⟩ := m
  simp only at hmr hmc hl hnum h
  subst hmr
  subst hmc
  refine (iSmith_yes h hl hnum hR hC).mono ?_
  rintro e w' ⟨hG, (⟨hn, rfl⟩ | ⟨s, aa, ca, ub, un, uk, vb, vn, vk, hs, rfl, rA⟩)⟩
  ·exact ⟨hG, 0, 0, none, 0, 0, [], false, _, _, _, _, _, _, _, _, _, _, FacPk.zero (by rw [facR_mat hB, hn]; rfl), rfl⟩
  ·have hS := smith_spec hl hnum hs
   have hf := fac_some (m := { rows := (R : Int), cols := (C : Int), cells := cells }) (by rw [facR_mat hB, hs]; rfl)
   exact ⟨hG, R, C, aa, R * C, ca, s.1, true, ub, un, uk, vb, vn, vk, _, _, _, _, ⟨rA.weak (fun _ _ _ => trivial), hS.la, hS.na, hR, hC, hf.1, hf.2⟩, rfl⟩
theorem iFactors_c {S : Nat → Prop} {v : Value} {m : Mat} {w : World} (h : VM w S v m) (hb : bdM m ≤ 1048576) :
  Calls Tryz.prog 31 #[v] w fun e w' => ∃ x, e = .returned (.tuple #[x, .bool (facOk m)]) ∧ OI w' (New w w') x (facB m) ∧ Grow w w' := by
 have hVM := h
 obtain ⟨a, n, c, rfl, h, hr, hc⟩ := h
 have hG1 := (Grow.refl w).alloc #[.int .i64 m.rows, .int .i64 m.cols, .slice a n c] 26
 go_enter Tryz.func31, Tryz.ntmps31
 go_wp2_with fail
 refine (iSmith_pk (hVM.grow hG1) hb).mono ?_
 rintro e w2 ⟨hG2, D, E, aa, na, ca, L, b, ub, un, uk, vb, vn, vk, ur, uc, vr, vc, hP, rfl⟩
 have hok := hP.ok
 have hfac := hP.fac
 have hD := hP.hD
 have hE := hP.hE
 have hG12 := hG1.trans hG2
 obtain ⟨w3, hw3⟩ : ∃ w3, w3 = (((w2.alloc (.cells #[.int .i64 ((D : Nat) : Int), .int .i64 ((E : Nat) : Int), .slice aa na ca] 26)).alloc (.cells #[.int .i64 ur, .int .i64 uc, .slice ub un uk] 26)).alloc (.cells #[.int .i64 vr, .int .i64 vc, .slice vb vn vk] 26)).alloc (.cells #[] 3) := ⟨_, rfl⟩
 have hG3 : Grow w2 w3 := by rw [hw3]; exact ((((Grow.refl w2).alloc _ _).alloc _ _).alloc _ _).alloc _ _
 have bD : Blk w3 w2.heap.size #[.int .i64 ((D : Nat) : Int), .int .i64 ((E : Nat) : Int), .slice aa na ca] 26 := by rw [hw3]; exact (((Blk.new w2 _ _).alloc _).alloc _).alloc _
 have hO : Own w3 3 1 (some ⟨w2.heap.size + 1 + 1 + 1, 0, none⟩) 0 0 [] := by rw [hw3]; exact Own.freshAt (cs := #[]) (by simp) (by unfold maxLen; omega) rfl
 have rd := (hP.rd.weak (T := fun g => g < w2.heap.size) (fun g hg _ => hg)).grow hG3
 have hs12 := hG12.size
 have hs3 := hG3.size
 have hle3 : w2.heap.size + 1 + 1 + 1 < w3.heap.size := by rw [hw3]; simp
 have hlen := hP.len
 have hnum := hP.num
 have Hok := Lib.hid hok; have Hfac := Lib.hid hfac
 have Hw3 := Lib.hid hw3
 clear hw3 hP hok hfac
 cases b with
 | false =>
  have He := Lib.hid (show facB m = [] by rw [facB_no Hok.out])
  go_wp2
  rw [← Hw3.out]
  go_ret2
  exact ⟨_, by rw [Hok.out]; rfl, by rw [He.out]; exact ⟨_, 0, 0, rfl, hO, (fun x hx => by cases hx), fun g hg => ⟨by simp at hg; omega, hO.lt hg⟩⟩, hG12.trans hG3⟩
 | true =>
  go_wp2
  rw [← Hw3.out]
  go_loopw [8, 9, 10] (fun ov iv _ wr => Keep (fun g => g < w2.heap.size ∨ g = w2.heap.size) w3 wr ∧ ∃ (i n1 c1 : Nat) (a1 : Option Addr), i ≤ D ∧ iv = .int .i64 i ∧ ov = .slice a1 n1 c1 ∧ n1 ≤ i ∧ Own wr 3 1 a1 n1 c1 (ints (facP L E (min i E))) ∧ (∀ g, blk a1 = some g → w2.heap.size < g)) (fun _ iv _ _ => D - (intOf iv).toNat)
  case atStart => exact ⟨Keep.refl _ _, 0, 0, 0, _, Nat.zero_le _, rfl, rfl, Nat.le_refl _, by rw [Nat.zero_min]; exact hO, fun g hg => by simp at hg; omega⟩
  case round =>
   clear hO
   obtain ⟨hK, i, n1, c1, a1, hi, rfl, rfl, hn1, hO, hlo⟩ := hrel
   have bDr := bD.keep hK (.inr rfl)
   have rdr := rd.keep hK (fun g _ hg => .inl hg)
   obtain ⟨⟨d0, d1, d2⟩, -⟩ := bDr.three
   have hltD := bDr.lt
   by_cases hiD : i < D
   ·go_wp2_with fail
    refine (iDiagonal_c aa na ca D E i L _ rdr hlen hD hE hiD).mono ?_
    rintro e w5 ⟨rfl, hG5⟩
    have hxn := dgL_num hnum E i
    by_cases hx0 : dgL L E i = 0
    ·have Hs := Lib.hid (facP_dno hx0)
     rw [hx0]
     clear hx0 hxn
     go_wp2
     go_roundw
     case rel => exact ⟨hK.trans hG5.any, i + 1, n1, c1, a1, by omega, by go_num, rfl, by omega, by rw [Hs.out]; exact hO.grow hG5, hlo⟩
     case measure => simp [intOf]; omega
    ·have Hs := Lib.hid (facP_dyes hx0)
     have q3 : (dgL L E i != 0) = true := by simpa using hx0
     have hO5 := (hO.grow hG5).grow ((Grow.refl w5).alloc #[.int .i64 (dgL L E i)] 3)
     have hK5 := hK.trans (hG5.trans ((Grow.refl w5).alloc #[.int .i64 (dgL L E i)] 3)).any
     clear hx0
     go_wp2_with (at_builtin; refine wpList_app rfl (.tmp 33) (.tmp 35) _ rfl T_ints rfl hO5 rfl (Row.bAt6 (S := fun _ => True) 1 rfl (by unfold maxLen; omega) rfl (fun _ => trivial)) (by simp [Value.oneCell']) (by omega) (by unfold maxLen; omega) ?_; intro a6 c6 w6 hA6)
     have hO6 : Own w6 3 1 a6 (n1 + 1) c6 (ints (facP L E (min (i + 1) E))) := by have := hA6.own; rw [Hs.out]; simpa [ints] using this
     have hK6 : Keep (fun g => g < w2.heap.size ∨ g = w2.heap.size) w3 w6 := hK5.trans (hA6.keep.mono fun q _ hq e => by have := hlo q e; omega)
     have hlo6 : ∀ g, blk a6 = some g → w2.heap.size < g := fun g hg => by
      rcases hA6.new with e | ⟨q, e, hq⟩
      ·exact hlo g (e ▸ hg)
      ·rw [e] at hg; obtain rfl := Option.some.inj hg; simp at hq; have := hG5.size; omega
     clear hA6 hO5 hK5 q3 hxn
     go_wp2
     go_roundw
     case rel => exact ⟨hK6, i + 1, n1 + 1, c6, a6, by omega, by go_num, by go_num, by omega, hO6, hlo6⟩
     case measure => simp [intOf]; omega
   ·have hiE : D = i := by omega
    have He := Lib.hid (show facB m = facP L E (min i E) by rw [Hfac.out, hiE])
    subst hiE
    go_wp2
    go_ret2
    exact ⟨_, by rw [Hok.out]; rfl, by rw [He.out]; exact ⟨a1, n1, c1, rfl, hO, num_rng (facP_rng hnum), fun g hg => ⟨by have := hlo g hg; omega, hO.lt hg⟩⟩, Grow.keep (S := fun g => g < w2.heap.size ∨ g = w2.heap.size) (hG12.trans hG3) hK (fun g hg => .inl (by omega))⟩
end Go.Proofs.YtoiblknchcoecaaGreat

namespace Go.Proofs.YtoiblknchcoecaaGreat
open Go.RowKit
def gt1 (L : List Int) : List Int := L.filter fun x => decide (1 < x)
theorem gt1_no {L : List Int} {k : Nat} {x : Int} (hx : L[k]? = some x) (h : ¬ 1 < x) : gt1 (L.take (k + 1)) = gt1 (L.take k) := by
 unfold gt1; rw [take_succ hx, List.filter_append]; simp [h]
theorem gt1_yes {L : List Int} {k : Nat} {x : Int} (hx : L[k]? = some x) (h : 1 < x) : gt1 (L.take (k + 1)) = gt1 (L.take k) ++ [x] := by
 unfold gt1; rw [take_succ hx, List.filter_append]; simp [h]
theorem gt1_i64 {L : List Int} (h : ∀ x ∈ L, I64 x) : ∀ x ∈ gt1 L, I64 x := fun x hx => h x (List.mem_filter.1 hx).1
theorem iGreater_c {S : Nat → Prop} (a : Option Addr) (n c : Nat) (L : List Int) (w : World) (h : RdI w S a n c L) (hn : n ≤ 1048576) :
  Calls Tryz.prog 32 #[.slice a n c] w fun e w' => ∃ x, e = .returned x ∧ OI w' (New w w') x (gt1 L) ∧ Grow w w' := by
 have hl := h.len
 obtain ⟨w3, hw3⟩ : ∃ w3, w3 = w.alloc (.cells #[] 3) := ⟨_, rfl⟩
 have hG3 : Grow w w3 := by rw [hw3]; exact (Grow.refl w).alloc _ _
 have hO : Own w3 3 1 (some ⟨w.heap.size, 0, none⟩) 0 0 [] := by rw [hw3]; exact Own.freshAt (cs := #[]) (by simp) (by unfold maxLen; omega) rfl
 have hr := (h.weak (T := fun g => g < w.heap.size) (fun g hg _ => hg)).grow hG3
 have hsz : w.heap.size < w3.heap.size := by rw [hw3]; simp
 have Hw3 := Lib.hid hw3
 clear hw3
 go_enter Tryz.func32, Tryz.ntmps32
 go_wp2
 rw [← Hw3.out]
 go_loopw [3, 5, 9] (fun ov _ iv wr => Keep (fun g => g < w.heap.size) w3 wr ∧ ∃ (k n1 c1 : Nat) (a1 : Option Addr), k ≤ n ∧ iv = .int .i64 k ∧ ov = .slice a1 n1 c1 ∧ n1 ≤ k ∧ Own wr 3 1 a1 n1 c1 (ints (gt1 (L.take k))) ∧ (∀ g, blk a1 = some g → w.heap.size ≤ g)) (fun _ _ iv _ => n - (intOf iv).toNat)
 case atStart => exact ⟨Keep.refl _ _, 0, 0, 0, _, Nat.zero_le _, rfl, rfl, Nat.le_refl _, by simpa [gt1, ints] using hO, fun g hg => by simp at hg; omega⟩
 case round =>
  clear hO
  obtain ⟨hK, k, n1, c1, a1, hk, rfl, rfl, hn1, hO, hlo⟩ := hrel
  by_cases hlt : k < n
  ·have hrr := hr.keep hK (fun g _ hg => hg)
   obtain ⟨b1, off1, x, hae, hx, hxr, hb1, hbw, hc⟩ := hrr.at hlt
   have Hx := Lib.hid hx; clear hx
   rw [hae]
   by_cases hx1 : 1 < x
   ·have Hs := Lib.hid (gt1_yes Hx.out hx1)
    have hO5 := hO.grow ((Grow.refl wr).alloc #[.int .i64 x] 3)
    have hK5 := hK.trans ((Grow.refl wr).alloc #[.int .i64 x] 3).any
    go_wp2_with (at_builtin; refine wpList_app rfl (.tmp 15) (.tmp 17) _ rfl T_ints rfl hO5 rfl (Row.bAt6 (S := fun _ => True) 1 rfl (by unfold maxLen; omega) rfl (fun _ => trivial)) (by simp [Value.oneCell']) (by omega) (by unfold maxLen; omega) ?_; intro a6 c6 w6 hA6)
    have hO6 : Own w6 3 1 a6 (n1 + 1) c6 (ints (gt1 (L.take (k + 1)))) := by have := hA6.own; rw [Hs.out]; simpa [ints] using this
    have hK6 : Keep (fun g => g < w.heap.size) w3 w6 := hK5.trans (hA6.keep.mono fun q _ hq e => by have := hlo q e; omega)
    have hsr := hG3.keep hK (fun g hg => hg)
    have hlo6 : ∀ g, blk a6 = some g → w.heap.size ≤ g := fun g hg => by
     rcases hA6.new with e | ⟨q, e, hq⟩
     ·exact hlo g (e ▸ hg)
     ·rw [e] at hg; obtain rfl := Option.some.inj hg; simp at hq; have := hsr.size; omega
    clear hA6 hO5 hK5 hsr
    go_wp2
    go_roundw
    case rel => exact ⟨hK6, k + 1, n1 + 1, c6, a6, by omega, by go_num, by go_num, by omega, hO6, hlo6⟩
    case measure => simp [intOf]; omega
   ·have Hs := Lib.hid (gt1_no Hx.out hx1)
    go_wp2
    go_roundw
    case rel => exact ⟨hK, k + 1, n1, c1, a1, by omega, by go_num, rfl, by omega, by rw [Hs.out]; exact hO, hlo⟩
    case measure => simp [intOf]; omega
  ·have hkE : n = k := by omega
   have He := Lib.hid (show L.take k = L by rw [← hkE, ← hl]; exact List.take_length)
   have hi64 := h.rng
   go_wp2
   go_ret
   exact ⟨_, rfl, ⟨a1, n1, c1, rfl, by rw [He.out] at hO; exact hO, gt1_i64 hi64, fun g hg => ⟨hlo g hg, hO.lt hg⟩⟩, Grow.keep (S := fun g => g < w.heap.size) hG3 hK (fun g hg => hg)⟩
end Go.Proofs.YtoiblknchcoecaaGreat

namespace Go.Proofs.YtoiblknchcoecaaGreat
open Go.RowKit
def invN (m : Mat) : Int := if facOk m = true then m.cols - (facB m).length else 0
theorem fac_ok {m : Mat} (h : facOk m = true) : 0 ≤ m.cols ∧ m.cols ≤ 24 ∧ (facB m).length ≤ 24 := by
 have hB : isMatB m = true := by
  cases hB : isMatB m with
  | true => rfl
  | false => rw [(fac_none (facR_no hB)).1] at h; cases h
 obtain ⟨R, C, hmr, hmc, hR, hC, hl, hnum⟩ := isMatB_shape hB
 have hlen : (facB m).length ≤ 24 := by
  unfold facB facR
  rw [hB, if_pos rfl]
  cases hs : smith m.cells m.rows.toNat m.cols.toNat with
  | none => simp
  | some s =>
   simp only [Option.map_some, Option.getD_some]
   have := facP_len s.1 m.cols.toNat (min m.rows.toNat m.cols.toNat)
   omega
 exact ⟨by omega, by omega, hlen⟩
theorem iInvariants_c {S : Nat → Prop} {v : Value} {m : Mat} {w : World} (h : VM w S v m) (hb : bdM m ≤ 1048576) :
  Calls Tryz.prog 12 #[v] w fun e w' => ∃ x, e = .returned (.tuple #[x, .int .i64 (invN m), .bool (facOk m)]) ∧ OI w' (New w w') x (gt1 (facB m)) ∧ Grow w w' := by
 have hVM := h
 obtain ⟨a, n, c, rfl, h, hr, hc⟩ := h
 have hG1 := (Grow.refl w).alloc #[.int .i64 m.rows, .int .i64 m.cols, .slice a n c] 26
 have bM := Blk.new w #[.int .i64 m.rows, .int .i64 m.cols, .slice a n c] 26
 have hno := fun h => facB_no (m := m) h
 have hyes := fun h => fac_ok (m := m) h
 have hin1 : facOk m = true → invN m = m.cols - (facB m).length := fun h => by unfold invN; rw [if_pos h]
 have hin2 : facOk m = false → invN m = 0 := fun h => by unfold invN; rw [h]; rfl
 obtain ⟨N, hN⟩ : ∃ N, N = invN m := ⟨_, rfl⟩
 rw [← hN] at hin1 hin2 ⊢
 obtain ⟨F, hF⟩ : ∃ F, F = facB m := ⟨_, rfl⟩
 rw [← hF] at hno hyes hin1 ⊢
 have HF := Lib.hid hF
 obtain ⟨ok, hok⟩ : ∃ ok, ok = facOk m := ⟨_, rfl⟩
 rw [← hok] at hno hyes hin1 hin2 ⊢
 have Hok := Lib.hid hok
 have Hno := Lib.hid hno; have Hyes := Lib.hid hyes; have Hi1 := Lib.hid hin1; have Hi2 := Lib.hid hin2
 clear hno hyes hin1 hin2 hN hF hok
 go_enter Tryz.func12, Tryz.ntmps12
 go_wp2_with fail
 refine (iFactors_c (hVM.grow hG1) hb).mono ?_
 rintro e w2 ⟨x, rfl, hO, hG2⟩
 rw [← HF.out] at hO
 rw [← Hok.out]
 obtain ⟨a1, n1, c1, rfl, hO, hi64, hlo⟩ := hO
 have hlF : F.length = n1 := by have := hO.len; simpa [ints] using this
 cases ok with
 | false =>
  have Hn := Lib.hid (Hno.out rfl)
  have Hn2 := Lib.hid (Hi2.out rfl)
  have hG3 := (Grow.refl w2).alloc #[] 3
  have hO3 : Own (w2.alloc (.cells #[] 3)) 3 1 (some ⟨w2.heap.size, 0, none⟩) 0 0 [] := Own.freshAt (cs := #[]) (by simp) (by unfold maxLen; omega) rfl
  have hs := hG1.trans hG2
  go_wp2
  go_ret3
  exact ⟨_, by rw [Hn2.out]; rfl, by rw [Hn.out]; exact ⟨_, 0, 0, rfl, hO3, (fun x hx => by cases hx), fun g hg => ⟨by have := hs.size; simp at hg; omega, hO3.lt hg⟩⟩, (hG1.trans hG2).trans hG3⟩
 | true =>
  obtain ⟨hc0, hc24, hF24⟩ := Hyes.out rfl
  have Hn2 := Lib.hid (show N = m.cols - n1 by rw [Hi1.out rfl, hlF])
  have bM2 := bM.grow hG2
  have hn24 : n1 ≤ 24 := by omega
  have r2 := hO.rdI (S := fun _ => True) (fun _ _ => trivial) hi64
  have c1' := bM2.cell 1
  simp only [List.getElem?_toArray, List.getElem?_cons_zero, List.getElem?_cons_succ] at c1'
  go_wp2
  refine wp_region_segs (S := Grow w2) [([0, 2, 3, 4, 5, 6], some 1), ([7, 8, 9], none)] P_mixed (by kernel_rfl) (fun _ _ _ _ _ h => h) (Grow.refl _).drew ?_
  show wpQuiet _ _ _ _ [_, _, _, _, _, _] _
  repeat (first | go_big_quiet_skip | (go_big_quiet_want; first | (apply quiet_load CT_int; rfl; rfl; exact (fun w' hG => hG.cell c1'); go_big_quiet_on; simp only [Act.put, List.setIfInBounds_toArray, List.set_cons_succ, List.set_cons_zero]) | (go_big_quiet_op; first | go_big_quiet_on | (refine ⟨_, (fun _ _ => rfl), ?_⟩; go_big_quiet_on))))
  refine wpQuiet_nil ?_
  refine seg_go rfl (fun K hK => ?_)
  go_wp2_with fail
  refine (iGreater_c a1 n1 c1 F _ (r2.grow (Grow.refl _).drew) (by omega)).mono ?_
  rintro e w3 ⟨x, rfl, hx, hG3⟩
  have hG23 : Grow w2 w3 := (Grow.refl w2).drew.trans hG3
  go_wp2_with fail
  refine hK _ _ (hG23) ?_
  clear hK K
  show wpQuiet _ _ _ _ [_, _, _] _
  try (conv => arg 6; simp only [Act.put, List.setIfInBounds_toArray, List.set_cons_succ, List.set_cons_zero])
  repeat (first | go_big_quiet_skip | (go_big_quiet_want; first | (apply quiet_load CT_int; rfl; rfl; exact (fun w' hG => hG.cell c1'); go_big_quiet_on; simp only [Act.put, List.setIfInBounds_toArray, List.set_cons_succ, List.set_cons_zero]) | (go_big_quiet_op; first | go_big_quiet_on | (refine ⟨_, (fun _ _ => rfl), ?_⟩; go_big_quiet_on))))
  refine wpQuiet_nil ?_
  refine wpSegs_nil ?_
  go_wp2
  go_ret3
  obtain ⟨a6, n6, c6, rfl, hO6, hi6, hl6⟩ := hx
  exact ⟨_, by rw [Hn2.out]; rfl, ⟨a6, n6, c6, rfl, hO6, hi6, fun g hg => ⟨by have := (hl6 g hg).1; have := (hG1.trans hG2).size; simp at *; omega, hO6.lt hg⟩⟩, (hG1.trans hG2).trans hG23⟩
end Go.Proofs.YtoiblknchcoecaaGreat

namespace Go.Proofs.YtoiblknchcoecaaGreat
open Go.RowKit
end Go.Proofs.YtoiblknchcoecaaGreat
