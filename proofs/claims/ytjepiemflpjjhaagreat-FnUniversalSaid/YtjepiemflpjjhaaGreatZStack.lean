/-
  StackRows: the program's and the reference's.
-/
import Derived.Test.YtjepiemflpjjhaaGreatZBasI
import Derived.Laws.CopyOwn
import Derived.Test.YtjepiemflpjjhaaGreatZKer
import Derived.Test.YtjepiemflpjjhaaGreatZBase
import Derived.Test.YtjepiemflpjjhaaGreatZInts
import Derived.Test.YtjepiemflpjjhaaGreatZOrder
import Derived.Test.YtjepiemflpjjhaaGreatZNorm
set_option maxHeartbeats 8000000
set_option maxRecDepth 100000
namespace Go.Proofs.YtjepiemflpjjhaaGreat
open Go.RowKit
theorem isMatB_bd {m : Mat} (h : isMatB m = true) : bdM m ≤ 576 := by
 obtain ⟨R, C, _, _, hR, hC, hl, _⟩ := isMatB_shape h
 have hRC : R * C ≤ 24 * 24 := Nat.mul_le_mul hR hC
 unfold bdM; omega
end Go.Proofs.YtjepiemflpjjhaaGreat

namespace Go.Proofs.YtjepiemflpjjhaaGreat
open Go.RowKit
end Go.Proofs.YtjepiemflpjjhaaGreat

namespace Go.Proofs.YtjepiemflpjjhaaGreat
open Go.RowKit
theorem basB_bd (m : Mat) : bdM (basB m) ≤ 1024 := by
 cases hB : isMatB m with
 | false =>
  rw [(basB_none (by unfold hermR; rw [hB]; rfl)).2]; simp [bdM]
 | true =>
  obtain ⟨R, C, hmr, hmc, hR, hC, hl, hnum⟩ := isMatB_shape hB
  have hRC : R * C ≤ 24 * 24 := Nat.mul_le_mul hR hC
  unfold basB
  cases hh : hermR m with
  | none => simp [bdM]
  | some s =>
   have hs : herm m.cells R C = some s := by
    unfold hermR at hh
    rw [hB, if_pos rfl, hmr, hmc] at hh
    simpa using hh
   have := (herm_spec hl hnum hs).1.la
   unfold bdM
   simp only [List.length_take]
   omega
theorem kerB_bd (m : Mat) : bdM (kerB m) ≤ 1024 := by
 unfold kerB
 split
 ·exact basB_bd _
 ·simp [bdM]
structure Kern (m : Mat) (R N : Nat) (b : List Int) : Prop where
 eq : kerB m = { rows := (N : Int), cols := (R : Int), cells := b }
 rows : m.rows = (R : Int)
 hR : R ≤ 24
 hN : N ≤ 24
 len : b.length = N * R
 num : NumL b
theorem bas_of' {m : Mat} (h : basOk m = true) : ∃ (C N : Nat) (b : List Int), basB m = { rows := (N : Int), cols := (C : Int), cells := b } ∧ m.cols = ((C : Nat) : Int) ∧ C ≤ (24 : Nat) ∧ N ≤ (24 : Nat) ∧ b.length = N * C ∧ NumL b := by
 cases hB : isMatB m with
 | false =>
  have := (basB_none (m := m) (by unfold hermR; rw [hB]; rfl)).1
  rw [this] at h; cases h
 | true =>
  obtain ⟨R, C, hmr, hmc, hR, hC, hl, hnum⟩ := isMatB_shape hB
  obtain ⟨mr, mc, cells⟩ := m
  simp only at hmr hmc hl hnum
  subst hmr
  subst hmc
  cases hh : herm cells R C with
  | none =>
   have := (basB_none (m := { rows := (R : Int), cols := (C : Int), cells := cells }) (by rw [hermR_mat hB]; exact hh)).1
   rw [this] at h; cases h
  | some s =>
   obtain ⟨hs, t, ht, hE⟩ := herm_spec hl hnum hh
   have e := ech_last hE R (Nat.le_refl _) ht
   refine ⟨C, t, s.1.take (t * C), ?_, rfl, hC, by omega, ?_, fun x hx => hs.na x (List.mem_of_mem_take hx)⟩
   ·rw [(basB_some hB hh).2, e]
   ·rw [List.length_take, hs.la]
    have := Nat.mul_le_mul_right C ht
    omega
theorem kern_of {m : Mat} (h : kerOk m = true) : ∃ R N b, Kern m R N b := by
 cases hB : isMatB m with
 | false =>
  have := (kerB_none (m := m) (by unfold hermR; rw [hB]; rfl)).1
  rw [this] at h; cases h
 | true =>
  obtain ⟨R, C, hmr, hmc, hR, hC, hl, hnum⟩ := isMatB_shape hB
  obtain ⟨mr, mc, cells⟩ := m
  simp only at hmr hmc hl hnum
  subst hmr
  subst hmc
  cases hh : herm cells R C with
  | none =>
   have := (kerB_none (m := { rows := (R : Int), cols := (C : Int), cells := cells }) (by rw [hermR_mat hB]; exact hh)).1
   rw [this] at h; cases h
  | some s =>
   obtain ⟨k1, k2⟩ := kerB_some hB hh
   rw [k1] at h
   obtain ⟨C', N, b, e1, e2, e3, e4, e5, e6⟩ := bas_of' h
   have hcc : C' = R := by
    have : ((R : Nat) : Int) = (C' : Int) := e2
    omega
   subst hcc
   exact ⟨C', N, b, k2.trans e1, rfl, e3, e4, e5, e6⟩
end Go.Proofs.YtjepiemflpjjhaaGreat

namespace Go.Proofs.YtjepiemflpjjhaaGreat
open Go.RowKit
end Go.Proofs.YtjepiemflpjjhaaGreat

namespace Go.Proofs.YtjepiemflpjjhaaGreat
open Go.RowKit
end Go.Proofs.YtjepiemflpjjhaaGreat
