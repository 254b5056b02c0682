/-
  TorsionOf: both walks.
-/
import Derived.Test.YtjepiemflpjjhaaGreatZFacI
import Derived.Test.YtjepiemflpjjhaaGreatZBoundary
import Derived.Test.YtjepiemflpjjhaaGreatZBase
set_option maxHeartbeats 8000000
set_option maxRecDepth 100000
namespace Go.Proofs.YtjepiemflpjjhaaGreat
open Go.RowKit
noncomputable def torIs (l : List (List Int)) (k : Int) : Bool := boundOk l (wrap64 (k + 1)) && inB k 0 3
noncomputable def torOk (l : List (List Int)) (k : Int) : Bool := torIs l k && facOk (boundB l (wrap64 (k + 1)))
noncomputable def torB (l : List (List Int)) (k : Int) : List Int := if torIs l k = true then gt1 (facB (boundB l (wrap64 (k + 1)))) else []
theorem tor_no {l : List (List Int)} {k : Int} (h : torIs l k = false) : torOk l k = false ∧ torB l k = [] := by
 unfold torOk torB; rw [h]; exact ⟨rfl, rfl⟩
theorem tor_yes {l : List (List Int)} {k : Int} (h : torIs l k = true) : torOk l k = facOk (boundB l (wrap64 (k + 1))) ∧ torB l k = gt1 (facB (boundB l (wrap64 (k + 1)))) := by
 unfold torOk torB; rw [h]; exact ⟨rfl, rfl⟩
theorem wrap_i64 (n : Int) : I64 (wrap64 n) := by unfold wrap64 I64; omega
theorem OI.nil (w : World) : OI (w.alloc (.cells #[] 3)) (fun g => w.heap.size ≤ g ∧ g < (w.alloc (.cells #[] 3)).heap.size) (.slice (some ⟨w.heap.size, 0, none⟩) 0 0) [] :=
 have hO : Own (w.alloc (.cells #[] 3)) 3 1 (some ⟨w.heap.size, 0, none⟩) 0 0 [] := Own.freshAt (cs := #[]) (by simp) (by unfold maxLen; omega) rfl
 ⟨_, 0, 0, rfl, hO, (fun x hx => by cases hx), fun g hg => ⟨by simp at hg; omega, hO.lt hg⟩⟩
theorem OI.up {w : World} {S T : Nat → Prop} {v : Value} {xs : List Int} (h : OI w S v xs) (hST : ∀ g, S g → T g) : OI w T v xs := by
 obtain ⟨a, n, c, h1, h2, h3, h4⟩ := h
 exact ⟨a, n, c, h1, h2, h3, fun g hg => hST g (h4 g hg)⟩
theorem OI.nilN {w0 w : World} {b : Nat} (hb : b = w.heap.size) (h : w0.heap.size ≤ w.heap.size) : OI (w.alloc (.cells #[] 3)) (New w0 (w.alloc (.cells #[] 3))) (.slice (some ⟨b, 0, none⟩) 0 0) [] := by
 subst hb
 exact (OI.nil w).up fun g hg => ⟨Nat.le_trans h hg.1, hg.2⟩
theorem implTorsionOf_v {S : Nat → Prop} {v : Value} {l : List (List Int)} {k : Int} {w : World} (h : VII w S v l) (hb : bdII l ≤ 1048576) (_hk : I64 k) :
  Calls Tryz.prog 10 #[v, .int .i64 k] w fun e w' => ∃ r, e = .returned (.tuple #[r, .bool (torOk l k)]) ∧ OI w' (New w w') r (torB l k) ∧ Grow w w' := by
 by_cases hk0 : 0 ≤ k ∧ k ≤ 3
 ·have hin : inB k 0 3 = true := by unfold inB; simp; omega
  have hkw := wrap_i64 (k + 1)
  have hwe : wrap64 (k + 1) = k + 1 := by unfold wrap64; omega
  obtain ⟨kk, hkk⟩ : ∃ kk, kk = wrap64 (k + 1) := ⟨_, rfl⟩
  rw [← hkk] at hkw
  have hke : kk = k + 1 := by rw [hkk, hwe]
  have Hkk := Lib.hid hkk
  obtain ⟨k0, k3⟩ := hk0
  clear hwe hkk
  go_enter Tryz.func10, Tryz.ntmps10
  go_wp2_with fail
  rw [← hke]
  refine (implBoundaryOf_v h hb hkw).mono ?_
  rintro e w2 ⟨ra, rfl, hA, hG2⟩
  have hbd := boundB_bd l kk
  have hVM := hA.rd (S := fun _ => True) fun _ _ => trivial
  obtain ⟨aa, an, ac, rfl, rA, iA1, iA2⟩ := hVM
  have hGa := (Grow.refl w2).alloc #[.int .i64 (boundB l kk).rows, .int .i64 (boundB l kk).cols, .slice aa an ac] 40
  have bA := Blk.new w2 #[.int .i64 (boundB l kk).rows, .int .i64 (boundB l kk).cols, .slice aa an ac] 40
  clear hke
  cases hok : boundOk l kk with
  | false =>
   have Hz := Lib.hid (tor_no (l := l) (k := k) (by unfold torIs; rw [← Hkk.out, hok]; rfl))
   have hs := (hG2.trans hGa).size
   clear hA rA bA hok
   go_wp2
   go_ret2
   exact ⟨_, by rw [Hz.out.1]; rfl, by rw [Hz.out.2]; exact OI.nilN (by simp) (by omega), (hG2.trans hGa).alloc _ _⟩
  | true =>
   have Hy := Lib.hid (tor_yes (l := l) (k := k) (by unfold torIs; rw [← Hkk.out, hok, hin]; rfl))
   obtain ⟨⟨a0, a1, a2⟩, -⟩ := bA.three
   have hVMa : VM _ _ _ (boundB l kk) := ⟨aa, an, ac, rfl, rA.grow hGa, iA1, iA2⟩
   have hGt := hG2.trans hGa
   clear hA hok
   go_wp2_with fail
   refine (iInvariants_c hVMa (by omega)).mono ?_
   rintro e w4 ⟨r, rfl, hR, hG4⟩
   have hs4 := hGt.size
   go_wp2
   go_ret2
   exact ⟨_, by rw [Hy.out.1, ← Hkk.out]; rfl, by rw [Hy.out.2, ← Hkk.out]; exact hR.up fun g hg => ⟨by have := hg.1; omega, hg.2⟩, hGt.trans hG4⟩
 ·have Hz := Lib.hid (tor_no (l := l) (k := k) (by unfold torIs; rw [show inB k 0 3 = false by unfold inB; simp; omega]; simp))
  by_cases h0 : k < 0
  ·go_enter Tryz.func10, Tryz.ntmps10
   go_wp2
   go_ret2
   exact ⟨_, by rw [Hz.out.1]; rfl, by rw [Hz.out.2]; exact OI.nilN rfl (Nat.le_refl _), (Grow.refl _).alloc _ _⟩
  ·have h3 : 3 < k := by omega
   go_enter Tryz.func10, Tryz.ntmps10
   go_wp2
   go_ret2
   exact ⟨_, by rw [Hz.out.1]; rfl, by rw [Hz.out.2]; exact OI.nilN rfl (Nat.le_refl _), (Grow.refl _).alloc _ _⟩
end Go.Proofs.YtjepiemflpjjhaaGreat
