/-
  Matrices as values: read, owned; comparing and marking.
-/
import Derived.Test.YthlncohllbmapaaKindII
namespace Go.Proofs.Ythlncohllbmapaa
open Go.RowKit

structure Mat where
  rows : Int
  cols : Int
  cells : List Int

def VM (w : World) (S : Nat → Prop) (v : Value) (m : Mat) : Prop := ∃ a n c, v = .agg #[.int .i64 m.rows, .int .i64 m.cols, .slice a n c] ∧ RdI w S a n c m.cells ∧ I64 m.rows ∧ I64 m.cols
def OM (w : World) (F : Nat → Prop) (v : Value) (m : Mat) : Prop := ∃ a n c, v = .agg #[.int .i64 m.rows, .int .i64 m.cols, .slice a n c] ∧ Own w 3 1 a n c (ints m.cells) ∧ (∀ x ∈ m.cells, I64 x) ∧ (∀ g, blk a = some g → F g) ∧ I64 m.rows ∧ I64 m.cols
def bdM (m : Mat) : Nat := m.cells.length
def cntM (m : Mat) : Nat := m.cells.length
theorem VM.keep {S T : Nat → Prop} {w w' : World} {v : Value} {m : Mat} (h : VM w S v m) (hk : Keep T w w') (hST : ∀ b, b < w.heap.size → S b → T b) : VM w' S v m := by
  obtain ⟨a, n, c, rfl, h, hr, hc⟩ := h; exact ⟨a, n, c, rfl, h.keep hk hST, hr, hc⟩
theorem VM.grow {S : Nat → Prop} {w w' : World} {v : Value} {m : Mat} (h : VM w S v m) (hk : Grow w w') : VM w' S v m := h.keep hk fun _ _ _ => trivial
theorem VM.weak {S T : Nat → Prop} {w : World} {v : Value} {m : Mat} (h : VM w S v m) (hST : ∀ b, b < w.heap.size → S b → T b) : VM w T v m := by
  obtain ⟨a, n, c, rfl, h, hr, hc⟩ := h; exact ⟨a, n, c, rfl, h.weak hST, hr, hc⟩
theorem OM.keep {F T : Nat → Prop} {w w' : World} {v : Value} {m : Mat} (h : OM w F v m) (hk : Keep T w w') (hT : ∀ b, b < w.heap.size → F b → T b) : OM w' F v m := by
  obtain ⟨a, n, c, rfl, h1, h2, h3, hr, hc⟩ := h; exact ⟨a, n, c, rfl, h1.keep hk (fun g hg hlt => hT g hlt (h3 g hg)), h2, h3, hr, hc⟩
theorem OM.grow {F : Nat → Prop} {w w' : World} {v : Value} {m : Mat} (h : OM w F v m) (hk : Grow w w') : OM w' F v m := h.keep hk fun _ _ _ => trivial
theorem OM.weak {F G : Nat → Prop} {w : World} {v : Value} {m : Mat} (h : OM w F v m) (hF : ∀ b, b < w.heap.size → F b → G b) : OM w G v m := by
  obtain ⟨a, n, c, rfl, h1, h2, h3, hr, hc⟩ := h; exact ⟨a, n, c, rfl, h1, h2, fun g hg => hF g (h1.lt hg) (h3 g hg), hr, hc⟩
theorem OM.rd {F S : Nat → Prop} {w : World} {v : Value} {m : Mat} (h : OM w F v m) (hS : ∀ b, F b → S b) : VM w S v m := by
  obtain ⟨a, n, c, rfl, h1, h2, h3, hr, hc⟩ := h; exact ⟨a, n, c, rfl, h1.rdI (fun g hg => hS g (h3 g hg)) h2, hr, hc⟩

set_option maxHeartbeats 1000000 in
theorem eq_M {S T : Nat → Prop} {u v : Value} {m : Mat} {w : World} (h : VM w S u m) (h' : VM w T v m) (hb : bdM m ≤ 2097152) : Calls Try.prog 12 #[u, v] w fun e w' => e = .returned (.bool true) ∧ Grow w w' := by
  obtain ⟨a, n, c, rfl, h, _, _⟩ := h
  obtain ⟨a', n', c', rfl, h', _, _⟩ := h'
  have hl := h.len
  have hl' := h'.len
  unfold bdM at hb
  have e1 : (m.rows == m.rows) = true := by simp
  have e2 : (m.cols == m.cols) = true := by simp
  have e3 : sameI m.cells m.cells = true := sameI_self _
  have hG : Grow w ((w.alloc (.cells #[.int .i64 m.rows, .int .i64 m.cols, .slice a n c] 27)).alloc (.cells #[.int .i64 m.rows, .int .i64 m.cols, .slice a' n' c'] 27)) := ((Grow.refl w).alloc _ _).alloc _ _
  go_enter Try.func12, Try.ntmps12
  go_wp2_with fail
  refine (eqIntS_c _ _ _ _ _ _ m.cells m.cells _ (h.grow hG) (h'.grow hG) (by omega)).mono ?_
  rintro e w' ⟨rfl, hQ⟩
  go_wp2
  go_ret
  exact ⟨rfl, hG.trans hQ.grow⟩
def mkM (m : Mat) (k : Nat) : Mat := { m with cells := markI m.cells.length k }
set_option maxHeartbeats 1000000 in
theorem mark_M {F : Nat → Prop} {v : Value} {m : Mat} {w : World} (k : Nat) (h : OM w F v m) (hb : bdM m + k ≤ 4294967296) : Calls Try.prog 19 #[v, .int .i64 k] w fun e w' =>
    e = .returned (.int .i64 ((k + cntM m : Nat) : Int)) ∧ OM w' F v (mkM m k) ∧ Keep (fun g => ¬ F g) w w' := by
  obtain ⟨a, n, c, rfl, h1, h2, h3, hr, hc⟩ := h
  unfold bdM at hb
  have hl : m.cells.length = n := by simpa using h1.len
  subst hl
  have hG : Grow w (w.alloc (.cells #[.int .i64 m.rows, .int .i64 m.cols, .slice a m.cells.length c] 27)) := (Grow.refl w).alloc _ _
  go_enter Try.func19, Try.ntmps19
  go_wp2_with fail
  refine (markIntS_c a _ c k m.cells _ (h1.grow hG) hb).mono ?_
  rintro e w' ⟨rfl, hO, hK⟩
  go_wp2
  go_ret
  refine ⟨rfl, ⟨a, _, c, rfl, hO, markI_rng hb, h3, hr, hc⟩, ?_⟩
  exact (hG.any (S := fun g => ¬ F g)).trans (hK.mono fun q _ hq e => hq (h3 q e))
set_option maxHeartbeats 1000000 in
theorem held_M {S : Nat → Prop} {v : Value} {m : Mat} {w : World} (k : Nat) (h : VM w S v (mkM m k)) (hb : bdM m + k ≤ 4294967296) : Calls Try.prog 20 #[v, .int .i64 k] w fun e w' =>
    e = .returned (.int .i64 ((k + cntM m : Nat) : Int)) ∧ Grow w w' := by
  obtain ⟨a, n, c, rfl, h, _, _⟩ := h
  unfold bdM at hb
  have hl : m.cells.length = n := by simpa [mkM] using h.len
  subst hl
  have hG : Grow w (w.alloc (.cells #[.int .i64 (mkM m k).rows, .int .i64 (mkM m k).cols, .slice a m.cells.length c] 27)) := (Grow.refl w).alloc _ _
  go_enter Try.func20, Try.ntmps20
  go_wp2_with fail
  refine (heldIntS_c a _ c k _ (h.grow hG) hb).mono ?_
  rintro e w' ⟨rfl, rfl⟩
  go_wp2
  go_ret
  exact ⟨rfl, hG⟩
end Go.Proofs.Ythlncohllbmapaa
