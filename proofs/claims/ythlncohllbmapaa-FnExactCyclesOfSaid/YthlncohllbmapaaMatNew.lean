/-
  New matrices; a cell of a matrix that is set.
-/
import Derived.Test.YthlncohllbmapaaMat
namespace Go.Proofs.Ythlncohllbmapaa
open Go.RowKit

/-- A load of a struct of three cells, in a region that draws. -/
theorem quiet_load3 {P : Program} {C : World → Prop} {o : Oper} {a : Act} {K : Act → Prop} {ty : TypeId} {x : Operand} {g : Nat} {u v z : Value} {t : TypeId} (hty : StT P ty 3) (ho : o.op = .load ty x) (hx : a.eval x = .pointer (some ⟨g, 0, none⟩))
    (hv : ∀ w', C w' → Blk w' g #[u, v, z] t) (hk : K (a.put o.dst (.agg #[u, v, z]))) : o.quiet P a C K := quiet_loadS (cs := #[u, v, z]) hty ho hx hv hk
theorem idx_lt {i c n f : Nat} (hi : i < n) (hf : f < c) : i * c + f < n * c := by
  have : (i + 1) * c ≤ n * c := Nat.mul_le_mul_right _ hi
  rw [Nat.add_mul] at this; omega
theorem ints_set (l : List Int) (i : Nat) (v : Int) : ints (l.set i v) = (ints l).set i (.int .i64 v) := by simp [ints, List.map_set]
theorem madeCells_ints (n : Nat) : (madeCells #[Value.int .i64 0] (n * 1)).toList = ints (List.replicate n 0) := by
  rw [Nat.mul_one, toList_madeCells_one]; simp [ints]
theorem zeros_rng {n : Nat} : ∀ x ∈ List.replicate n (0 : Int), I64 x := by
  intro x hx
  have := List.eq_of_mem_replicate hx
  subst this; unfold I64; omega

set_option maxHeartbeats 1000000 in
theorem l3New_c (r c : Nat) (w : World) (hr : r ≤ 1048576) (hc : c ≤ 1048576) :
    Calls Try.prog 70 #[.int .i64 r, .int .i64 c] w fun e w' => ∃ a, e = .returned (.agg #[.int .i64 r, .int .i64 c, .slice a (r * c) (r * c)]) ∧ Own w' 3 1 a (r * c) (r * c) (ints (List.replicate (r * c) 0)) ∧ (∀ g, blk a = some g → w.heap.size ≤ g) ∧ Grow w w' := by
  have hrc : r * c ≤ 1048576 * 1048576 := Nat.mul_le_mul hr hc
  have hmk := T_ints.make (n := r * c) (by omega) (by unfold maxLen; omega)
  have hmul : ((r : Int) * (c : Int)) = ((r * c : Nat) : Int) := by simp
  have hmk2 : ∀ u : World, (Instr.makeSlice 22 (.int .i64 ((r : Int) * c)) (.int .i64 ((r : Int) * c))).run Try.prog u = .ok (.slice (some ⟨u.heap.size, 0, none⟩) (r * c) (r * c)) (u.alloc (.cells (madeCells #[.int .i64 0] (r * c * 1)) 3)) := fun u => by rw [hmul]; exact hmk u
  have hw : IntKind.i64.wrap ((r : Int) * c) = (r : Int) * c := IntWalk.i64_in _ (by rw [hmul]; omega)
  clear hmk hmul
  go_enter Try.func70, Try.ntmps70
  go_wp2
  have hB := (Blk.newAt w #[.int .i64 (r : Int), .int .i64 (c : Int), .slice (some ⟨w.heap.size + 1, 0, none⟩) (r * c) (r * c)] 27 rfl).alloc (.cells (madeCells #[.int .i64 0] (r * c)) 3)
  have hO := Own.freshAt (w := w.alloc (.cells #[.int .i64 (r : Int), .int .i64 (c : Int), .slice (some ⟨w.heap.size + 1, 0, none⟩) (r * c) (r * c)] 27)) (e := 3) (sz := 1) (cs := madeCells #[.int .i64 0] (r * c)) (n := r * c) (g := w.heap.size + 1) (by simp) (by unfold maxLen; omega) (by simp [madeCells])
  rw [toList_madeCells_one] at hO
  refine ret_cell T_mat rfl rfl rfl hB ⟨_, rfl, by simpa [ints] using hO, fun g hg => by simp at hg; omega, ((Grow.refl w).alloc _ _).alloc _ _⟩

set_option maxHeartbeats 1000000 in
theorem newMatrix_c (r c : Nat) (w : World) (hr : r ≤ 1048576) (hc : c ≤ 1048576) :
    Calls Try.prog 64 #[.int .i64 r, .int .i64 c] w fun e w' => ∃ a, e = .returned (.agg #[.int .i64 r, .int .i64 c, .slice a (r * c) (r * c)]) ∧ Own w' 3 1 a (r * c) (r * c) (ints (List.replicate (r * c) 0)) ∧ (∀ g, blk a = some g → w.heap.size ≤ g) ∧ Grow w w' := by
  have hrc : r * c ≤ 1048576 * 1048576 := Nat.mul_le_mul hr hc
  have hmk := T_ints.make (n := r * c) (by omega) (by unfold maxLen; omega)
  have hmul : ((r : Int) * (c : Int)) = ((r * c : Nat) : Int) := by simp
  have hmk2 : ∀ u : World, (Instr.makeSlice 22 (.int .i64 ((r : Int) * c)) (.int .i64 ((r : Int) * c))).run Try.prog u = .ok (.slice (some ⟨u.heap.size, 0, none⟩) (r * c) (r * c)) (u.alloc (.cells (madeCells #[.int .i64 0] (r * c * 1)) 3)) := fun u => by rw [hmul]; exact hmk u
  have hw : IntKind.i64.wrap ((r : Int) * c) = (r : Int) * c := IntWalk.i64_in _ (by rw [hmul]; omega)
  clear hmk hmul
  go_enter Try.func64, Try.ntmps64
  go_wp2
  have hB := (Blk.newAt w #[.int .i64 (r : Int), .int .i64 (c : Int), .slice (some ⟨w.heap.size + 1, 0, none⟩) (r * c) (r * c)] 27 rfl).alloc (.cells (madeCells #[.int .i64 0] (r * c)) 3)
  have hO := Own.freshAt (w := w.alloc (.cells #[.int .i64 (r : Int), .int .i64 (c : Int), .slice (some ⟨w.heap.size + 1, 0, none⟩) (r * c) (r * c)] 27)) (e := 3) (sz := 1) (cs := madeCells #[.int .i64 0] (r * c)) (n := r * c) (g := w.heap.size + 1) (by simp) (by unfold maxLen; omega) (by simp [madeCells])
  rw [toList_madeCells_one] at hO
  refine ret_cell T_mat rfl rfl rfl hB ⟨_, rfl, by simpa [ints] using hO, fun g hg => by simp at hg; omega, ((Grow.refl w).alloc _ _).alloc _ _⟩

set_option maxHeartbeats 1000000 in
theorem set_c (a : Option Addr) (n cp C i j idx : Nat) (R v : Int) (cells : List Int) (w : World) (h : Own w 3 1 a n cp (ints cells)) (hidx : idx = i * C + j) (hlt : idx < n) (hn : n ≤ 1048576) (hi : i ≤ 1048576) (hC : C ≤ 1048576) (_hj : j ≤ 1048576) :
    Calls Try.prog 66 #[.agg #[.int .i64 R, .int .i64 C, .slice a n cp], .int .i64 i, .int .i64 j, .int .i64 v] w fun e w' =>
      e = .returned (.tuple #[]) ∧ Own w' 3 1 a n cp (ints (cells.set idx v)) ∧ Keep (fun g => blk a ≠ some g) w w' := by
  have hl : cells.length = n := by simpa using h.len
  have hiC : i * C ≤ 1048576 * 1048576 := Nat.mul_le_mul hi hC
  cases a with
  | none => have := h.nil rfl; have := h.le; omega
  | some p =>
    have hp := (h.block p rfl).1
    obtain ⟨pb, po, ps⟩ := p
    simp only [Addr.mk.injEq, true_and] at hp
    obtain ⟨rfl, rfl⟩ := hp
    have hlt' := h.lt rfl
    have h1 := h.grow ((Grow.refl w).alloc #[.int .i64 R, .int .i64 (C : Int), .slice (some ⟨pb, 0, none⟩) n cp] 27)
    obtain ⟨c0, hc0⟩ : ∃ c0, (ints cells)[idx]? = some c0 := ⟨_, List.getElem?_eq_getElem (by simp; omega)⟩
    have hce := h1.cell hc0
    clear hc0
    have hfr := h1.free idx
    simp only at hce hfr hlt'
    have hw1 : IntKind.i64.wrap ((i : Int) * C) = (i : Int) * C := by
      have : ((i : Int) * C) = ((i * C : Nat) : Int) := by simp
      rw [this]; exact IntWalk.i64_in _ (by omega)
    have hsum : ((i : Int) * C + j) = ((idx : Nat) : Int) := by rw [hidx]; simp
    have hw2 : IntKind.i64.wrap ((i : Int) * C + j) = (idx : Int) := by rw [hsum]; exact IntWalk.i64_in _ (by omega)
    clear hsum hidx
    go_enter Try.func66, Try.ntmps66
    go_wp2
    exact bodyPost_end (results_none rfl _ _ _) rfl ⟨rfl, by rw [ints_set]; exact (h.set idx (.int .i64 v)).grow ((Grow.refl _).alloc _ _), ((Keep.refl (fun g => blk (some (⟨pb, 0, none⟩ : Addr)) ≠ some g) w).setCell (p := ⟨pb, idx, none⟩) (fun _ e => e rfl) _).alloc _ _⟩
end Go.Proofs.Ythlncohllbmapaa
