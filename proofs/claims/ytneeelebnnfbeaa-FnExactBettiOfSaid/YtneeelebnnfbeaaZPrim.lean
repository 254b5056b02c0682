/-
  Primitive rows: the program's makePrimitive and the reference's l7Primitive.
-/
import Derived.Test.YtneeelebnnfbeaaZEch
import Derived.Test.YtneeelebnnfbeaaZBase
import Derived.Test.YtneeelebnnfbeaaZHermS
import Derived.Test.YtneeelebnnfbeaaZResE
set_option maxHeartbeats 8000000
set_option maxRecDepth 100000
namespace Go.Proofs.Ytneeelebnnfbeaa
open Go.RowKit
theorem rowG_ex {m : List Int} {C i : Nat} (h : rowG m C i C ≠ 0) : ∃ k, k < C ∧ cell m C i k ≠ 0 := by
 rcases Classical.em (∃ k, k < C ∧ cell m C i k ≠ 0) with h1 | h1
 ·exact h1
 ·exact (h (rowG_zero.2 fun k hk => Classical.byContradiction fun h2 => h1 ⟨k, hk, h2⟩)).elim
theorem primD_ne {m : List Int} {C i : Nat} (h : rowG m C i C ≠ 0) : primD m C i ≠ 0 := by unfold primD; split <;> omega
theorem primD_num {m : List Int} {C i : Nat} (h : NumL m) : -400000000 ≤ primD m C i ∧ primD m C i ≤ 400000000 := by
 have := rowG_num (C := C) (i := i) h C
 unfold primD; split <;> omega
theorem primR_upd {m : List Int} {C i : Nat} (h : rowG m C i C ≠ 0) : primR m C i = updR (primV m C i) (i * C) C m := by unfold primR; rw [if_neg h]
theorem primR_same {m : List Int} {C i : Nat} (h : rowG m C i C = 0) : primR m C i = m := by unfold primR; rw [if_pos h]
theorem iPrim_c (a a1 : Option Addr) (n cp C i R : Nat) (m : List Int) (w : World) (h : Own w 3 1 a n cp (ints m)) (hmR : m.length = R * C) (hiR : i < R) (hm : NumL m) (hR : R ≤ 24) (hC : C ≤ 24) (hA : 0 < C → ∃ pb, a = some ⟨pb, 0, none⟩ ∧ a1 = some ⟨pb, i * C, none⟩) :
  Calls Try.prog 38 #[.slice a1 C (cp - i * C)] w fun e w' => e = .returned (.tuple #[]) ∧ Own w' 3 1 a n cp (ints (primR m C i)) ∧ Keep (fun q => blk a ≠ some q) w w' := by
 have hl : m.length = n := by have := h.len; simpa [ints] using this
 have Hn := Lib.hid (show R * C = n by rw [← hl, hmR])
 have hi : i * C + C ≤ n := by have := row_le hmR hiR; omega
 have hle := h.le
 have HmR := Lib.hid hmR
 have Hl := Lib.hid hl
 clear hl hmR
 go_enter Try.func38, Try.ntmps38
 go_wp2
 go_loopw [2, 8] (fun gv kv wr => Grow w wr ∧ ∃ k : Nat, k ≤ C ∧ kv = .int .i64 k ∧ gv = .int .i64 ((rowG m C i k : Nat) : Int)) (fun _ kv _ => C - (intOf kv).toNat)
 case atStart => exact ⟨Grow.refl _, 0, Nat.zero_le _, rfl, rfl⟩
 case round =>
  obtain ⟨wo, rfl⟩ : ∃ wo, wo = wr := ⟨_, rfl⟩
  obtain ⟨hG, k, hk, rfl, rfl⟩ := hrel
  have hO := h.grow hG
  by_cases hlt : k < C
  ·obtain ⟨pb, rfl, rfl⟩ := hA (by omega)
   have hcx : wo.cell? ⟨pb, i * C + k, none⟩ = some (.int .i64 (cell m C i k)) := by
    have h1 := hO.cell (ints_get (xs := m) (j := i * C + k) (by rw [Hl.out]; omega) rfl)
    simp only at h1
    exact h1
   have hpb := hO.lt (g := pb) rfl
   have hgn := rowG_num (C := C) (i := i) hm k
   have hcn := cell_num hm C i k
   have Hst := Lib.hid (rowG_step m C i k)
   generalize cell m C i k = x at *
   go_wp2_with fail
   refine (iGcd_c _ _ _ (by omega) hcn).mono ?_
   rintro e w3 ⟨rfl, hG3⟩
   rw [Hst.out]
   go_wp2
   go_roundw
   case rel => exact ⟨hG.trans hG3, k + 1, by omega, by go_num, rfl⟩
   case measure => simp [intOf]; omega
  ·have hkE : k = C := by omega
   rw [hkE]
   by_cases hg0 : rowG m C i C = 0
   ·have HE := Lib.hid (primR_same hg0)
    rw [hg0]
    go_wp2
    refine bodyPost_ret (results_none rfl _ _ _) rfl ?_
    exact ⟨rfl, by rw [HE.out]; exact hO, hG.any⟩
   ·obtain ⟨hfC, hfne⟩ := fz_row HmR.out hiR (rowG_ex hg0)
    have hfc := fc_row HmR.out hiR (rowG_ex hg0)
    have Hfc := Lib.hid hfc
    obtain ⟨pb, rfl, rfl⟩ := hA (by omega)
    have HE := Lib.hid (primR_upd hg0)
    have hDn := primD_num (C := C) (i := i) hm
    have hD0 := primD_ne hg0
    have hgn := rowG_num (C := C) (i := i) hm C
    have rd := hO.rdI (S := fun _ => True) (fun _ _ => trivial) (num_rng hm)
    have rs := rd.sub (l := i * C) (k := i * C + C) (by omega) (by omega)
    rw [show i * C + C - i * C = C by omega] at rs
    have hsub : subA (some (⟨pb, 0, none⟩ : Addr)) cp (i * C) 1 = some ⟨pb, i * C, none⟩ := by
     unfold subA
     rw [if_neg (by omega), Nat.mul_one]
     exact congrArg some (addr_add pb (i * C))
    rw [hsub] at rs
    have q1 : (((rowG m C i C : Nat) : Int) == 0) = false := by simp [hg0]
    have hcx : wo.cell? ⟨pb, i * C + fz (rowL m C i), none⟩ = some (.int .i64 (cell m C i (fz (rowL m C i)))) := by
     have h1 := hO.cell (ints_get (xs := m) (j := i * C + fz (rowL m C i)) (by rw [Hl.out]; omega) rfl)
     simp only at h1
     exact h1
    have hpb := hO.lt (g := pb) rfl
    have hDe : primD m C i = if 0 ≤ cell m C i (fz (rowL m C i)) then (rowG m C i C : Int) else -(rowG m C i C : Int) := rfl
    have HDe := Lib.hid hDe
    have hcf := cell_num hm C i (fz (rowL m C i))
    clear hDe hfc hsub rd hg0
    generalize hp : fz (rowL m C i) = p at *
    clear hp
    generalize hgg : rowG m C i C = g at *
    clear hgg
    generalize hfx : cell m C i p = fx at *
    clear hfx
    go_wp2_with fail
    refine (firstCell_c (some ⟨pb, i * C, none⟩) C (cp - i * C) (rowL m C i) _ rs (by omega)).mono ?_
    rintro e _ ⟨rfl, rfl⟩
    rw [Hfc.out]
    by_cases h0 : 0 ≤ fx
    ·have hDv : primD m C i = (g : Int) := by rw [HDe.out, if_pos h0]
     rw [hDv] at hDn hD0
     obtain ⟨D, hDD⟩ : ∃ D, D = (g : Int) := ⟨_, rfl⟩
     rw [← hDD] at hDn hD0 hDv
     have hlt0 : ¬ fx < 0 := by omega
     go_wp2
     rw [← hDD]
     clear hDD
     clear hcx hpb HDe hcf Hfc rs
     have Hcv := Lib.hid (fun k => (show primV m C i k = (cell m C i k).tdiv D by unfold primV; rw [hDv]))
     clear hDv
     go_wp2
     go_loopw [28] (fun q u => Keep (fun q => pb ≠ q) wo u ∧ ∃ k : Nat, k ≤ C ∧ q = .int .i64 k ∧ Own u 3 1 (some ⟨pb, 0, none⟩) n cp (ints (updR (primV m C i) (i * C) k m))) (fun q _ => C - (intOf q).toNat)
     case atStart => exact ⟨Keep.refl _ _, 0, Nat.zero_le _, rfl, hO⟩
     case round =>
      obtain ⟨u, rfl⟩ : ∃ u, u = wr := ⟨_, rfl⟩
      obtain ⟨hK, k, hk, rfl, hO2⟩ := hrel
      by_cases hlt2 : k < C
      ·have hzl : (updR (primV m C i) (i * C) k m).length = n := by rw [updR_len]; exact Hl.out
       have hcell : cell (updR (primV m C i) (i * C) k m) C i k = cell m C i k := cell_part HmR.out hiR hk hlt2 (.inr (Nat.le_refl _))
       have hcx : u.cell? ⟨pb, i * C + k, none⟩ = some (.int .i64 (cell m C i k)) := by
        have h1 := hO2.cell (ints_get (j := i * C + k) (by rw [hzl]; omega) (show (updR (primV m C i) (i * C) k m).getD (i * C + k) 0 = cell m C i k from hcell))
        simp only at h1
        exact h1
       have hpb := hO2.lt (g := pb) rfl
       have hfr := hO2.free (i * C + k)
       have hcn := cell_num hm C i k
       have hq := tdiv_num' (y := D) hcn
       have Hset := Lib.hid (show updR (primV m C i) (i * C) (k + 1) m = (updR (primV m C i) (i * C) k m).set (i * C + k) ((cell m C i k).tdiv D) by rw [← Hcv.out]; rfl)
       have hO9 : Own (u.setCell ⟨pb, i * C + k, none⟩ (.int .i64 ((cell m C i k).tdiv D))) 3 1 (some ⟨pb, 0, none⟩) n cp (ints (updR (primV m C i) (i * C) (k + 1) m)) := by
        have := hO2.set (i * C + k) (.int .i64 ((cell m C i k).tdiv D))
        rw [← ints_set, ← Hset.out] at this
        exact this
       have hK9 : Keep (fun q => pb ≠ q) wo (u.setCell ⟨pb, i * C + k, none⟩ (.int .i64 ((cell m C i k).tdiv D))) := hK.setCell (p := ⟨pb, i * C + k, none⟩) (fun _ e => e rfl) _
       simp only at hfr
       clear hcell hzl hO2
       generalize cell m C i k = x at *
       go_wp2
       go_roundw
       case rel => exact ⟨hK9, k + 1, by omega, by go_num, hO9⟩
       case measure => simp [intOf]; omega
      ·have hkE2 : k = C := by omega
       rw [hkE2, ← HE.out] at hO2
       go_wp2
       exact bodyPost_end (results_none rfl _ _ _) rfl ⟨rfl, hO2, (hG.any.trans hK).mono fun q _ hq e => hq (by simpa using e)⟩
    ·have hDv : primD m C i = -(g : Int) := by rw [HDe.out, if_neg h0]
     rw [hDv] at hDn hD0
     obtain ⟨D, hDD⟩ : ∃ D, D = -(g : Int) := ⟨_, rfl⟩
     rw [← hDD] at hDn hD0 hDv
     have hlt0 : fx < 0 := by omega
     go_wp2
     rw [← hDD]
     clear hDD
     clear hcx hpb HDe hcf Hfc rs
     have Hcv := Lib.hid (fun k => (show primV m C i k = (cell m C i k).tdiv D by unfold primV; rw [hDv]))
     clear hDv
     go_wp2
     go_loopw [28] (fun q u => Keep (fun q => pb ≠ q) wo u ∧ ∃ k : Nat, k ≤ C ∧ q = .int .i64 k ∧ Own u 3 1 (some ⟨pb, 0, none⟩) n cp (ints (updR (primV m C i) (i * C) k m))) (fun q _ => C - (intOf q).toNat)
     case atStart => exact ⟨Keep.refl _ _, 0, Nat.zero_le _, rfl, hO⟩
     case round =>
      obtain ⟨u, rfl⟩ : ∃ u, u = wr := ⟨_, rfl⟩
      obtain ⟨hK, k, hk, rfl, hO2⟩ := hrel
      by_cases hlt2 : k < C
      ·have hzl : (updR (primV m C i) (i * C) k m).length = n := by rw [updR_len]; exact Hl.out
       have hcell : cell (updR (primV m C i) (i * C) k m) C i k = cell m C i k := cell_part HmR.out hiR hk hlt2 (.inr (Nat.le_refl _))
       have hcx : u.cell? ⟨pb, i * C + k, none⟩ = some (.int .i64 (cell m C i k)) := by
        have h1 := hO2.cell (ints_get (j := i * C + k) (by rw [hzl]; omega) (show (updR (primV m C i) (i * C) k m).getD (i * C + k) 0 = cell m C i k from hcell))
        simp only at h1
        exact h1
       have hpb := hO2.lt (g := pb) rfl
       have hfr := hO2.free (i * C + k)
       have hcn := cell_num hm C i k
       have hq := tdiv_num' (y := D) hcn
       have Hset := Lib.hid (show updR (primV m C i) (i * C) (k + 1) m = (updR (primV m C i) (i * C) k m).set (i * C + k) ((cell m C i k).tdiv D) by rw [← Hcv.out]; rfl)
       have hO9 : Own (u.setCell ⟨pb, i * C + k, none⟩ (.int .i64 ((cell m C i k).tdiv D))) 3 1 (some ⟨pb, 0, none⟩) n cp (ints (updR (primV m C i) (i * C) (k + 1) m)) := by
        have := hO2.set (i * C + k) (.int .i64 ((cell m C i k).tdiv D))
        rw [← ints_set, ← Hset.out] at this
        exact this
       have hK9 : Keep (fun q => pb ≠ q) wo (u.setCell ⟨pb, i * C + k, none⟩ (.int .i64 ((cell m C i k).tdiv D))) := hK.setCell (p := ⟨pb, i * C + k, none⟩) (fun _ e => e rfl) _
       simp only at hfr
       clear hcell hzl hO2
       generalize cell m C i k = x at *
       go_wp2
       go_roundw
       case rel => exact ⟨hK9, k + 1, by omega, by go_num, hO9⟩
       case measure => simp [intOf]; omega
      ·have hkE2 : k = C := by omega
       rw [hkE2, ← HE.out] at hO2
       go_wp2
       exact bodyPost_end (results_none rfl _ _ _) rfl ⟨rfl, hO2, (hG.any.trans hK).mono fun q _ hq e => hq (by simpa using e)⟩
end Go.Proofs.Ytneeelebnnfbeaa

namespace Go.Proofs.Ytneeelebnnfbeaa
open Go.RowKit
def sgF (m : List Int) (C i : Nat) : Nat → Int
 | 0 => 0
 | n + 1 => if sgF m C i n = 0 ∧ cell m C i n ≠ 0 then (cell m C i n).tdiv ((cell m C i n).natAbs : Int) else sgF m C i n
theorem sg_one {x : Int} (h : x ≠ 0) : x.tdiv (x.natAbs : Int) = if 0 ≤ x then 1 else -1 := by
 split
 ·next h0 =>
  have : (x.natAbs : Int) = x := by omega
  rw [this]; exact Int.tdiv_self h
 ·next h0 =>
  have : (x.natAbs : Int) = -x := by omega
  rw [this, Int.tdiv_neg, Int.tdiv_self h]
theorem sgF_zero {m : List Int} {C i : Nat} : ∀ {n : Nat}, (∀ k, k < n → cell m C i k = 0) → sgF m C i n = 0
 | 0, _ => rfl
 | n + 1, h => by
  simp only [sgF]
  rw [if_neg (fun hh => hh.2 (h n (by omega)))]
  exact sgF_zero fun k hk => h k (by omega)
theorem sgF_first {m : List Int} {C i f : Nat} (h0 : ∀ k, k < f → cell m C i k = 0) (h1 : cell m C i f ≠ 0) : ∀ {n : Nat}, f < n → sgF m C i n = if 0 ≤ cell m C i f then 1 else -1
 | 0, h => by omega
 | n + 1, h => by
  simp only [sgF]
  by_cases e : f = n
  ·subst e
   rw [if_pos ⟨sgF_zero h0, h1⟩, sg_one h1]
  ·have ih := sgF_first h0 h1 (n := n) (by omega)
   rw [if_neg (fun hh => by rw [ih] at hh; split at hh <;> simp at hh), ih]
theorem sgF_rng (m : List Int) (C i : Nat) : ∀ n, -1 ≤ sgF m C i n ∧ sgF m C i n ≤ 1
 | 0 => by simp [sgF]
 | n + 1 => by
  have ih := sgF_rng m C i n
  simp only [sgF]
  split
  ·next h => rw [sg_one h.2]; split <;> omega
  ·exact ih
theorem sgF_prim {m : List Int} {C R i : Nat} (hl : m.length = R * C) (hi : i < R) (h : rowG m C i C ≠ 0) (k : Nat) : (sgF m C i C * cell m C i k).tdiv ((rowG m C i C : Nat) : Int) = primV m C i k := by
 obtain ⟨hfC, hfne⟩ := fz_row hl hi (rowG_ex h)
 have hz : ∀ k, k < fz (rowL m C i) → cell m C i k = 0 := fun k hk => by
  have hkC : k < C := by omega
  have hm : cell m C i k ∈ (rowL m C i).take (fz (rowL m C i)) := by
   have hr := rowL_at hl hi hkC
   have hll := rowL_len hl hi
   rw [List.mem_take_iff_getElem]
   refine ⟨k, by omega, ?_⟩
   rw [List.getElem?_eq_getElem (by omega)] at hr
   exact Option.some.inj hr
  exact fz_zero _ hm
 rw [sgF_first hz hfne hfC]
 unfold primV primD
 split
 ·rw [Int.one_mul]
 ·rw [Int.neg_mul, Int.one_mul, Int.neg_tdiv, Int.tdiv_neg]
theorem sPrim_c (a : Option Addr) (n cp C i R : Nat) (m : List Int) (w : World) (h : Own w 3 1 a n cp (ints m)) (hmR : m.length = R * C) (hiR : i < R) (hm : NumL m) (hR : R ≤ 24) (hC : C ≤ 24) :
  Calls Try.prog 47 #[.agg #[.int .i64 R, .int .i64 C, .slice a n cp], .int .i64 i] w fun e w' => e = .returned (.tuple #[]) ∧ Own w' 3 1 a n cp (ints (primR m C i)) ∧ Keep (fun q => blk a ≠ some q) w w' := by
 have hl : m.length = n := by have := h.len; simpa [ints] using this
 have Hn := Lib.hid (show R * C = n by rw [← hl, hmR])
 have hi : i * C + C ≤ n := by have := row_le hmR hiR; omega
 have hle := h.le
 have hn576 : n ≤ 576 := by have h1 := Nat.mul_le_mul hR hC; have h2 := Hn.out; omega
 have HmR := Lib.hid hmR
 have Hl := Lib.hid hl
 obtain ⟨w2, hw2⟩ : ∃ w2, w2 = w.alloc (.cells #[.int .i64 (R : Int), .int .i64 (C : Int), .slice a n cp] 32) := ⟨_, rfl⟩
 have hG2 : Grow w w2 := by rw [hw2]; exact (Grow.refl w).alloc _ _
 have bM : Blk w2 w.heap.size #[.int .i64 (R : Int), .int .i64 (C : Int), .slice a n cp] 32 := by rw [hw2]; exact Blk.new w _ _
 have hO2 := h.grow hG2
 have hna : blk a ≠ some w.heap.size := fun e => by have := h.lt e; omega
 have Hw2 := Lib.hid hw2; clear hw2 hl hmR h
 go_enter Try.func47, Try.ntmps47
 go_wp2
 rw [← Hw2.out]
 go_loopw [4, 5, 6] (fun gv sv kv wr => Grow w2 wr ∧ ∃ k : Nat, k ≤ C ∧ kv = .int .i64 k ∧ sv = .int .i64 (sgF m C i k) ∧ gv = .int .i64 ((rowG m C i k : Nat) : Int)) (fun _ _ kv _ => C - (intOf kv).toNat)
 case atStart => exact ⟨Grow.refl _, 0, Nat.zero_le _, rfl, rfl, rfl⟩
 case round =>
  obtain ⟨wo, rfl⟩ : ∃ wo, wo = wr := ⟨_, rfl⟩
  obtain ⟨hG, k, hk, rfl, rfl, rfl⟩ := hrel
  have hO := hO2.grow hG
  have bMr := bM.grow hG
  obtain ⟨⟨a0, a1, a2⟩, -⟩ := bMr.three
  by_cases hlt : k < C
  ·obtain ⟨pb, rfl⟩ : ∃ pb, a = some ⟨pb, 0, none⟩ := by
    cases a with
    | none => have := hO.nil rfl; have := hO.le; omega
    | some q => exact ⟨q.block, by rw [← (hO.block q rfl).1]⟩
   have hcx : wo.cell? ⟨pb, i * C + k, none⟩ = some (.int .i64 (cell m C i k)) := by
    have h1 := hO.cell (ints_get (xs := m) (j := i * C + k) (by rw [Hl.out]; omega) rfl)
    simp only at h1
    exact h1
   have hpb := hO.lt (g := pb) rfl
   have hgn := rowG_num (C := C) (i := i) hm k
   have hcn := cell_num hm C i k
   have hsr := sgF_rng m C i k
   have Hst := Lib.hid (rowG_step m C i k)
   have u1 := mul_wrap (i := i) (c := C) (by omega) (by omega)
   have u2 := idx_wrap (i := i) (c := C) (j := k) (by omega) (by omega) (by omega) rfl
   have hlt3 : i * C + k < n := by omega
   have hsgd : sgF m C i (k + 1) = if sgF m C i k = 0 ∧ cell m C i k ≠ 0 then (cell m C i k).tdiv ((cell m C i k).natAbs : Int) else sgF m C i k := rfl
   generalize hx : cell m C i k = x at *
   generalize sgF m C i k = s at *
   generalize i * C + k = s1 at *
   clear hx
   by_cases hs0 : s = 0 ∧ x ≠ 0
   ·have HS := Lib.hid (show sgF m C i (k + 1) = x.tdiv (x.natAbs : Int) by rw [hsgd, if_pos hs0])
    obtain ⟨hsz, hx0⟩ := hs0
    subst hsz
    have q1 : (x != 0) = true := by simp [hx0]
    have hab : (x.natAbs : Int) ≠ 0 := by omega
    have habr : 0 ≤ (x.natAbs : Int) ∧ (x.natAbs : Int) ≤ 400000000 := by omega
    have hq := tdiv_num' (y := (x.natAbs : Int)) hcn
    have q2 : ((0 : Int) == 0) = true := rfl
    clear hsgd
    go_wp2_with fail
    refine (l1Abs_c x _ (by omega)).mono ?_
    rintro e _ ⟨rfl, rfl⟩
    generalize (x.natAbs : Int) = ab at *
    go_wp2_with fail
    refine (sGcd_c _ _ _ (by omega) hcn).mono ?_
    rintro e w3 ⟨rfl, hG3⟩
    rw [Hst.out]
    clear a0 a1 a2
    go_wp2
    go_roundw
    case rel => exact ⟨hG.trans hG3, k + 1, by omega, by go_num, by rw [HS.out], rfl⟩
    case measure => simp [intOf]; omega
   ·have HS := Lib.hid (show sgF m C i (k + 1) = s by rw [hsgd, if_neg hs0])
    clear hsgd
    by_cases hsz : s = 0
    ·have hx0 : x = 0 := Classical.byContradiction fun hx0 => hs0 ⟨hsz, hx0⟩
     have q1 : (x != 0) = false := by simp [hx0]
     have q2 : (s == 0) = true := by simp [hsz]
     clear hs0 hx0 hsz
     go_wp2_with fail
     refine (sGcd_c _ _ _ (by omega) hcn).mono ?_
     rintro e w3 ⟨rfl, hG3⟩
     rw [Hst.out]
     clear a0 a1 a2
     go_wp2
     go_roundw
     case rel => exact ⟨hG.trans hG3, k + 1, by omega, by go_num, by rw [HS.out], rfl⟩
     case measure => simp [intOf]; omega
    ·have q2 : (s == 0) = false := by simp [hsz]
     clear hs0
     go_wp2_with fail
     refine (sGcd_c _ _ _ (by omega) hcn).mono ?_
     rintro e w3 ⟨rfl, hG3⟩
     rw [Hst.out]
     clear a0 a1 a2
     go_wp2
     go_roundw
     case rel => exact ⟨hG.trans hG3, k + 1, by omega, by go_num, by rw [HS.out], rfl⟩
     case measure => simp [intOf]; omega
  ·have hkE : k = C := by omega
   rw [hkE]
   have hgn := rowG_num (C := C) (i := i) hm C
   have hsr := sgF_rng m C i C
   by_cases hg0 : rowG m C i C = 0
   ·have HE := Lib.hid (primR_same hg0)
    rw [hg0]
    go_wp2
    go_loopw [8] (fun q u => wo = u ∧ q = .int .i64 0) (fun _ _ => 0)
    case atStart => exact ⟨rfl, rfl⟩
    case round =>
     obtain ⟨rfl, rfl⟩ := hrel
     by_cases hC0 : (0 : Int) < (C : Int)
     ·go_wp2
      exact bodyPost_end (results_none rfl _ _ _) rfl ⟨rfl, by rw [HE.out]; exact hO, (hG2.trans hG).any⟩
     ·go_wp2
      exact bodyPost_end (results_none rfl _ _ _) rfl ⟨rfl, by rw [HE.out]; exact hO, (hG2.trans hG).any⟩
   ·have HE := Lib.hid (primR_upd hg0)
    have HV := Lib.hid (sgF_prim HmR.out hiR hg0)
    have hgp : (0 : Int) < ((rowG m C i C : Nat) : Int) := by omega
    have hgne : ((rowG m C i C : Nat) : Int) ≠ 0 := by omega
    have hgr : ((rowG m C i C : Nat) : Int) ≤ 400000000 := by omega
    generalize hgg : ((rowG m C i C : Nat) : Int) = g at *
    clear hgg
    generalize sgF m C i C = s at *
    clear a0 a1 a2
    obtain ⟨⟨a0, a1, a2⟩, -⟩ := bMr.three
    go_wp2
    clear a0 a1 a2
    go_loopw [8] (fun q u => Keep (fun q => blk a ≠ some q) wo u ∧ ∃ k : Nat, k ≤ C ∧ q = .int .i64 k ∧ Own u 3 1 a n cp (ints (updR (primV m C i) (i * C) k m))) (fun q _ => C - (intOf q).toNat)
    case atStart => exact ⟨Keep.refl _ _, 0, Nat.zero_le _, rfl, hO⟩
    case round =>
     obtain ⟨u, rfl⟩ : ∃ u, u = wr := ⟨_, rfl⟩
     obtain ⟨hKp, k, hk, rfl, hO3⟩ := hrel
     have bMu := bMr.keep hKp hna
     obtain ⟨⟨a0, a1, a2⟩, -⟩ := bMu.three
     by_cases hlt2 : k < C
     ·obtain ⟨pb, rfl⟩ : ∃ pb, a = some ⟨pb, 0, none⟩ := by
       cases a with
       | none => have := hO3.nil rfl; have := hO3.le; omega
       | some q => exact ⟨q.block, by rw [← (hO3.block q rfl).1]⟩
      have hzl : (updR (primV m C i) (i * C) k m).length = n := by rw [updR_len]; exact Hl.out
      have hcell : cell (updR (primV m C i) (i * C) k m) C i k = cell m C i k := cell_part HmR.out hiR hk hlt2 (.inr (Nat.le_refl _))
      have hcx : u.cell? ⟨pb, i * C + k, none⟩ = some (.int .i64 (cell m C i k)) := by
       have h1 := hO3.cell (ints_get (j := i * C + k) (by rw [hzl]; omega) (show (updR (primV m C i) (i * C) k m).getD (i * C + k) 0 = cell m C i k from hcell))
       simp only at h1
       exact h1
      have hpb := hO3.lt (g := pb) rfl
      have hcn := cell_num hm C i k
      have hmul := mul_rng (x := s) (y := cell m C i k) (by omega) hcn
      have hsm : -400000000 ≤ s * cell m C i k ∧ s * cell m C i k ≤ 400000000 := by
       have : s = -1 ∨ s = 0 ∨ s = 1 := by omega
       rcases this with e | e | e <;> rw [e] <;> omega
      have hq := tdiv_num' (y := g) hsm
      have Hset := Lib.hid (show updR (primV m C i) (i * C) (k + 1) m = (updR (primV m C i) (i * C) k m).set (i * C + k) ((s * cell m C i k).tdiv g) by rw [HV.out]; rfl)
      have u1 := mul_wrap (i := i) (c := C) (by omega) (by omega)
      have u2 := idx_wrap (i := i) (c := C) (j := k) (by omega) (by omega) (by omega) rfl
      have hlt3 : i * C + k < n := by omega
      have hO1 := hO3
      clear hcell hzl hO3
      generalize cell m C i k = x at *
      generalize updR (primV m C i) (i * C) k m = z at *
      generalize i * C + k = s1 at *
      go_wp2
      refine wp_region_segsX (S := (Grow u)) (last := 23) [([0, 1, 2, 3, 4, 5, 6, 7, 8, 9, 10, 11, 12, 13, 14, 15, 16, 17, 18, 19, 20, 21, 22], some 23)] P_mixed (by kernel_rfl) (fun _ _ _ _ _ h => h) (Grow.refl _).drew ?_
      show wpQuiet _ _ _ _ [_, _, _, _, _, _, _, _, _, _, _, _, _, _, _, _, _, _, _, _, _, _, _] _
      repeat (first | go_big_quiet_skip | (go_big_quiet_want; first | (apply quiet_load CT_ints; rfl; rfl; exact (fun w' hG => hG.cell a2); go_big_quiet_on; simp only [Act.put, List.setIfInBounds_toArray, List.set_cons_succ, List.set_cons_zero]) | (apply quiet_load CT_int; rfl; rfl; exact (fun w' hG => hG.cell a1); go_big_quiet_on; simp only [Act.put, List.setIfInBounds_toArray, List.set_cons_succ, List.set_cons_zero]) | (apply quiet_load CT_int; rfl; rfl; exact (fun w' hG => hG.cell hcx); go_big_quiet_on; simp only [Act.put, List.setIfInBounds_toArray, List.set_cons_succ, List.set_cons_zero]) | (go_big_quiet_op; first | go_big_quiet_on | (refine ⟨_, (fun _ _ => rfl), ?_⟩; go_big_quiet_on))))
      refine wpQuiet_nil ?_
      refine seg_goX rfl (fun K hK => ?_)
      have hGu := (Grow.refl u).drew
      have hO4 := hO1.grow hGu
      have hfr := hO4.free s1
      have hc2 := hGu.cell hcx
      have hltu := hO4.lt (g := pb) rfl
      have hO9 : Own (u.drew.setCell ⟨pb, s1, none⟩ (.int .i64 ((s * x).tdiv g))) 3 1 (some ⟨pb, 0, none⟩) n cp (ints (updR (primV m C i) (i * C) (k + 1) m)) := by
       have := hO4.set s1 (.int .i64 ((s * x).tdiv g))
       rw [← ints_set, ← Hset.out] at this
       exact this
      have hK9 : Keep (fun q => blk (some (⟨pb, 0, none⟩ : Addr)) ≠ some q) wo (u.drew.setCell ⟨pb, s1, none⟩ (.int .i64 ((s * x).tdiv g))) := (hKp.trans hGu.any).setCell (p := ⟨pb, s1, none⟩) (fun _ e => e rfl) _
      simp only at hfr
      clear hO1 hO4
      go_wp2_with fail
      refine hK _ _ ((fun h => (h rfl).elim)) ?_
      clear hK K
      refine wpSegsX_nil ?_
      go_wp2
      go_roundw
      case rel => exact ⟨hK9, k + 1, by omega, by go_num, hO9⟩
      case measure => simp [intOf]; omega
     ·have hkE2 : k = C := by omega
      rw [hkE2, ← HE.out] at hO3
      go_wp2
      exact bodyPost_end (results_none rfl _ _ _) rfl ⟨rfl, hO3, (hG2.trans hG).any.trans hKp⟩
end Go.Proofs.Ytneeelebnnfbeaa
