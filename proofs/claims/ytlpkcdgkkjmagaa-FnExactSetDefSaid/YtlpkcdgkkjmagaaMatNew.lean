/-
  New matrices; a cell of a matrix that is set.
-/
import Derived.Test.YtlpkcdgkkjmagaaMat
namespace Go.Proofs.Ytlpkcdgkkjmagaa
open Go.RowKit

/-- A load of a struct of three cells, in a region that draws. -/
theorem quiet_load3 {P : Program} {C : World → Prop} {o : Oper} {a : Act} {K : Act → Prop} {ty : TypeId} {x : Operand} {g : Nat} {u v z : Value} {t : TypeId} (hty : StT P ty 3) (ho : o.op = .load ty x) (hx : a.eval x = .pointer (some ⟨g, 0, none⟩))
    (hv : ∀ w', C w' → Blk w' g #[u, v, z] t) (hk : K (a.put o.dst (.agg #[u, v, z]))) : o.quiet P a C K := quiet_loadS (cs := #[u, v, z]) hty ho hx hv hk
theorem idx_lt {i c n f : Nat} (hi : i < n) (hf : f < c) : i * c + f < n * c := by
  have : (i + 1) * c ≤ n * c := Nat.mul_le_mul_right _ hi
  rw [Nat.add_mul] at this; omega
theorem ints_set (l : List Int) (i : Nat) (v : Int) : ints (l.set i v) = (ints l).set i (.int .i64 v) := by simp [ints, List.map_set]
theorem madeCells_ints (n : Nat) : (madeCells #[Value.int .i64 0] (n * 1)).toList = ints (List.replicate n 0) := by
  rw [Nat.mul_one, toList_madeCells_one]; simp [ints]
theorem zeros_rng {n : Nat} : ∀ x ∈ List.replicate n (0 : Int), I64 x := by
  intro x hx
  have := List.eq_of_mem_replicate hx
  subst this; unfold I64; omega

end Go.Proofs.Ytlpkcdgkkjmagaa
