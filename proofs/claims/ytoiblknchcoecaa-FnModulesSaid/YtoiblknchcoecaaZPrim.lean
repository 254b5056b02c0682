/-
  Primitive rows: the program's makePrimitive and the reference's l7Primitive.
-/
import Derived.Test.YtoiblknchcoecaaZEch
import Derived.Test.YtoiblknchcoecaaZBase
import Derived.Test.YtoiblknchcoecaaZHermS
import Derived.Test.YtoiblknchcoecaaZResE
set_option maxHeartbeats 8000000
set_option maxRecDepth 100000
namespace Go.Proofs.Ytoiblknchcoecaa
open Go.RowKit
theorem rowG_ex {m : List Int} {C i : Nat} (h : rowG m C i C ≠ 0) : ∃ k, k < C ∧ cell m C i k ≠ 0 := by
 rcases Classical.em (∃ k, k < C ∧ cell m C i k ≠ 0) with h1 | h1
 ·exact h1
 ·exact (h (rowG_zero.2 fun k hk => Classical.byContradiction fun h2 => h1 ⟨k, hk, h2⟩)).elim
theorem primD_ne {m : List Int} {C i : Nat} (h : rowG m C i C ≠ 0) : primD m C i ≠ 0 := by unfold primD; split <;> omega
theorem primD_num {m : List Int} {C i : Nat} (h : NumL m) : -400000000 ≤ primD m C i ∧ primD m C i ≤ 400000000 := by
 have := rowG_num (C := C) (i := i) h C
 unfold primD; split <;> omega
theorem primR_upd {m : List Int} {C i : Nat} (h : rowG m C i C ≠ 0) : primR m C i = updR (primV m C i) (i * C) C m := by unfold primR; rw [if_neg h]
theorem primR_same {m : List Int} {C i : Nat} (h : rowG m C i C = 0) : primR m C i = m := by unfold primR; rw [if_pos h]
theorem iPrim_c (a a1 : Option Addr) (n cp C i R : Nat) (m : List Int) (w : World) (h : Own w 3 1 a n cp (ints m)) (hmR : m.length = R * C) (hiR : i < R) (hm : NumL m) (hR : R ≤ 24) (hC : C ≤ 24) (hA : 0 < C → ∃ pb, a = some ⟨pb, 0, none⟩ ∧ a1 = some ⟨pb, i * C, none⟩) :
  Calls Try.prog 72 #[.slice a1 C (cp - i * C)] w fun e w' => e = .returned (.tuple #[]) ∧ Own w' 3 1 a n cp (ints (primR m C i)) ∧ Keep (fun q => blk a ≠ some q) w w' := by
 have hl : m.length = n := by have := h.len; simpa [ints] using this
 have Hn := Lib.hid (show R * C = n by rw [← hl, hmR])
 have hi : i * C + C ≤ n := by have := row_le hmR hiR; omega
 have hle := h.le
 have HmR := Lib.hid hmR
 have Hl := Lib.hid hl
 clear hl hmR
 go_enter Try.func72, Try.ntmps72
 go_wp2
 go_loopw [2, 8] (fun gv kv wr => Grow w wr ∧ ∃ k : Nat, k ≤ C ∧ kv = .int .i64 k ∧ gv = .int .i64 ((rowG m C i k : Nat) : Int)) (fun _ kv _ => C - (intOf kv).toNat)
 case atStart => exact ⟨Grow.refl _, 0, Nat.zero_le _, rfl, rfl⟩
 case round =>
  obtain ⟨wo, rfl⟩ : ∃ wo, wo = wr := ⟨_, rfl⟩
  obtain ⟨hG, k, hk, rfl, rfl⟩ := hrel
  have hO := h.grow hG
  by_cases hlt : k < C
  ·obtain ⟨pb, rfl, rfl⟩ := hA (by omega)
   have hcx : wo.cell? ⟨pb, i * C + k, none⟩ = some (.int .i64 (cell m C i k)) := by
    have h1 := hO.cell (ints_get (xs := m) (j := i * C + k) (by rw [Hl.out]; omega) rfl)
    simp only at h1
    exact h1
   have hpb := hO.lt (g := pb) rfl
   have hgn := rowG_num (C := C) (i := i) hm k
   have hcn := cell_num hm C i k
   have Hst := Lib.hid (rowG_step m C i k)
   generalize cell m C i k = x at *
   go_wp2_with fail
   refine (iGcd_c _ _ _ (by omega) hcn).mono ?_
   rintro e w3 ⟨rfl, hG3⟩
   rw [Hst.out]
   go_wp2
   go_roundw
   case rel => exact ⟨hG.trans hG3, k + 1, by omega, by go_num, rfl⟩
   case measure => simp [intOf]; omega
  ·have hkE : k = C := by omega
   rw [hkE]
   by_cases hg0 : rowG m C i C = 0
   ·have HE := Lib.hid (primR_same hg0)
    rw [hg0]
    go_wp2
    refine bodyPost_ret (results_none rfl _ _ _) rfl ?_
    exact ⟨rfl, by rw [HE.out]; exact hO, hG.any⟩
   ·obtain ⟨hfC, hfne⟩ := fz_row HmR.out hiR (rowG_ex hg0)
    have hfc := fc_row HmR.out hiR (rowG_ex hg0)
    have Hfc := Lib.hid hfc
    obtain ⟨pb, rfl, rfl⟩ := hA (by omega)
    have HE := Lib.hid (primR_upd hg0)
    have hDn := primD_num (C := C) (i := i) hm
    have hD0 := primD_ne hg0
    have hgn := rowG_num (C := C) (i := i) hm C
    have rd := hO.rdI (S := fun _ => True) (fun _ _ => trivial) (num_rng hm)
    have rs := rd.sub (l := i * C) (k := i * C + C) (by omega) (by omega)
    rw [show i * C + C - i * C = C by omega] at rs
    have hsub : subA (some (⟨pb, 0, none⟩ : Addr)) cp (i * C) 1 = some ⟨pb, i * C, none⟩ := by
     unfold subA
     rw [if_neg (by omega), Nat.mul_one]
     exact congrArg some (addr_add pb (i * C))
    rw [hsub] at rs
    have q1 : (((rowG m C i C : Nat) : Int) == 0) = false := by simp [hg0]
    have hcx : wo.cell? ⟨pb, i * C + fz (rowL m C i), none⟩ = some (.int .i64 (cell m C i (fz (rowL m C i)))) := by
     have h1 := hO.cell (ints_get (xs := m) (j := i * C + fz (rowL m C i)) (by rw [Hl.out]; omega) rfl)
     simp only at h1
     exact h1
    have hpb := hO.lt (g := pb) rfl
    have hDe : primD m C i = if 0 ≤ cell m C i (fz (rowL m C i)) then (rowG m C i C : Int) else -(rowG m C i C : Int) := rfl
    have HDe := Lib.hid hDe
    have hcf := cell_num hm C i (fz (rowL m C i))
    clear hDe hfc hsub rd hg0
    generalize hp : fz (rowL m C i) = p at *
    clear hp
    generalize hgg : rowG m C i C = g at *
    clear hgg
    generalize hfx : cell m C i p = fx at *
    clear hfx
    go_wp2_with fail
    refine (firstCell_c (some ⟨pb, i * C, none⟩) C (cp - i * C) (rowL m C i) _ rs (by omega)).mono ?_
    rintro e _ ⟨rfl, rfl⟩
    rw [Hfc.out]
    by_cases h0 : 0 ≤ fx
    ·have hDv : primD m C i = (g : Int) := by rw [HDe.out, if_pos h0]
     rw [hDv] at hDn hD0
     obtain ⟨D, hDD⟩ : ∃ D, D = (g : Int) := ⟨_, rfl⟩
     rw [← hDD] at hDn hD0 hDv
     have hlt0 : ¬ fx < 0 := by omega
     go_wp2
     rw [← hDD]
     clear hDD
     clear hcx hpb HDe hcf Hfc rs
     have Hcv := Lib.hid (fun k => (show primV m C i k = (cell m C i k).tdiv D by unfold primV; rw [hDv]))
     clear hDv
     go_wp2
     go_loopw [28] (fun q u => Keep (fun q => pb ≠ q) wo u ∧ ∃ k : Nat, k ≤ C ∧ q = .int .i64 k ∧ Own u 3 1 (some ⟨pb, 0, none⟩) n cp (ints (updR (primV m C i) (i * C) k m))) (fun q _ => C - (intOf q).toNat)
     case atStart => exact ⟨Keep.refl _ _, 0, Nat.zero_le _, rfl, hO⟩
     case round =>
      obtain ⟨u, rfl⟩ : ∃ u, u = wr := ⟨_, rfl⟩
      obtain ⟨hK, k, hk, rfl, hO2⟩ := hrel
      by_cases hlt2 : k < C
      ·have hzl : (updR (primV m C i) (i * C) k m).length = n := by rw [updR_len]; exact Hl.out
       have hcell : cell (updR (primV m C i) (i * C) k m) C i k = cell m C i k := cell_part HmR.out hiR hk hlt2 (.inr (Nat.le_refl _))
       have hcx : u.cell? ⟨pb, i * C + k, none⟩ = some (.int .i64 (cell m C i k)) := by
        have h1 := hO2.cell (ints_get (j := i * C + k) (by rw [hzl]; omega) (show (updR (primV m C i) (i * C) k m).getD (i * C + k) 0 = cell m C i k from hcell))
        simp only at h1
        exact h1
       have hpb := hO2.lt (g := pb) rfl
       have hfr := hO2.free (i * C + k)
       have hcn := cell_num hm C i k
       have hq := tdiv_num' (y := D) hcn
       have Hset := Lib.hid (show updR (primV m C i) (i * C) (k + 1) m = (updR (primV m C i) (i * C) k m).set (i * C + k) ((cell m C i k).tdiv D) by rw [← Hcv.out]; rfl)
       have hO9 : Own (u.setCell ⟨pb, i * C + k, none⟩ (.int .i64 ((cell m C i k).tdiv D))) 3 1 (some ⟨pb, 0, none⟩) n cp (ints (updR (primV m C i) (i * C) (k + 1) m)) := by
        have := hO2.set (i * C + k) (.int .i64 ((cell m C i k).tdiv D))
        rw [← ints_set, ← Hset.out] at this
        exact this
       have hK9 : Keep (fun q => pb ≠ q) wo (u.setCell ⟨pb, i * C + k, none⟩ (.int .i64 ((cell m C i k).tdiv D))) := hK.setCell (p := ⟨pb, i * C + k, none⟩) (fun _ e => e rfl) _
       simp only at hfr
       clear hcell hzl hO2
       generalize cell m C i k = x at *
       go_wp2
       go_roundw
       case rel => exact ⟨hK9, k + 1, by omega, by go_num, hO9⟩
       case measure => simp [intOf]; omega
      ·have hkE2 : k = C := by omega
       rw [hkE2, ← HE.out] at hO2
       go_wp2
       exact bodyPost_end (results_none rfl _ _ _) rfl ⟨rfl, hO2, (hG.any.trans hK).mono fun q _ hq e => hq (by simpa using e)⟩
    ·have hDv : primD m C i = -(g : Int) := by rw [HDe.out, if_neg h0]
     rw [hDv] at hDn hD0
     obtain ⟨D, hDD⟩ : ∃ D, D = -(g : Int) := ⟨_, rfl⟩
     rw [← hDD] at hDn hD0 hDv
     have hlt0 : fx < 0 := by omega
     go_wp2
     rw [← hDD]
     clear hDD
     clear hcx hpb HDe hcf Hfc rs
     have Hcv := Lib.hid (fun k => (show primV m C i k = (cell m C i k).tdiv D by unfold primV; rw [hDv]))
     clear hDv
     go_wp2
     go_loopw [28] (fun q u => Keep (fun q => pb ≠ q) wo u ∧ ∃ k : Nat, k ≤ C ∧ q = .int .i64 k ∧ Own u 3 1 (some ⟨pb, 0, none⟩) n cp (ints (updR (primV m C i) (i * C) k m))) (fun q _ => C - (intOf q).toNat)
     case atStart => exact ⟨Keep.refl _ _, 0, Nat.zero_le _, rfl, hO⟩
     case round =>
      obtain ⟨u, rfl⟩ : ∃ u, u = wr := ⟨_, rfl⟩
      obtain ⟨hK, k, hk, rfl, hO2⟩ := hrel
      by_cases hlt2 : k < C
      ·have hzl : (updR (primV m C i) (i * C) k m).length = n := by rw [updR_len]; exact Hl.out
       have hcell : cell (updR (primV m C i) (i * C) k m) C i k = cell m C i k := cell_part HmR.out hiR hk hlt2 (.inr (Nat.le_refl _))
       have hcx : u.cell? ⟨pb, i * C + k, none⟩ = some (.int .i64 (cell m C i k)) := by
        have h1 := hO2.cell (ints_get (j := i * C + k) (by rw [hzl]; omega) (show (updR (primV m C i) (i * C) k m).getD (i * C + k) 0 = cell m C i k from hcell))
        simp only at h1
        exact h1
       have hpb := hO2.lt (g := pb) rfl
       have hfr := hO2.free (i * C + k)
       have hcn := cell_num hm C i k
       have hq := tdiv_num' (y := D) hcn
       have Hset := Lib.hid (show updR (primV m C i) (i * C) (k + 1) m = (updR (primV m C i) (i * C) k m).set (i * C + k) ((cell m C i k).tdiv D) by rw [← Hcv.out]; rfl)
       have hO9 : Own (u.setCell ⟨pb, i * C + k, none⟩ (.int .i64 ((cell m C i k).tdiv D))) 3 1 (some ⟨pb, 0, none⟩) n cp (ints (updR (primV m C i) (i * C) (k + 1) m)) := by
        have := hO2.set (i * C + k) (.int .i64 ((cell m C i k).tdiv D))
        rw [← ints_set, ← Hset.out] at this
        exact this
       have hK9 : Keep (fun q => pb ≠ q) wo (u.setCell ⟨pb, i * C + k, none⟩ (.int .i64 ((cell m C i k).tdiv D))) := hK.setCell (p := ⟨pb, i * C + k, none⟩) (fun _ e => e rfl) _
       simp only at hfr
       clear hcell hzl hO2
       generalize cell m C i k = x at *
       go_wp2
       go_roundw
       case rel => exact ⟨hK9, k + 1, by omega, by go_num, hO9⟩
       case measure => simp [intOf]; omega
      ·have hkE2 : k = C := by omega
       rw [hkE2, ← HE.out] at hO2
       go_wp2
       exact bodyPost_end (results_none rfl _ _ _) rfl ⟨rfl, hO2, (hG.any.trans hK).mono fun q _ hq e => hq (by simpa using e)⟩
end Go.Proofs.Ytoiblknchcoecaa

namespace Go.Proofs.Ytoiblknchcoecaa
open Go.RowKit
end Go.Proofs.Ytoiblknchcoecaa
