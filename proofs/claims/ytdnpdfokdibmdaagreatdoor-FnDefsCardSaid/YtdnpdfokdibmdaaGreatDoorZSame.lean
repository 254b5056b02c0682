/-
  SameMatrix: the program's and the reference's.
-/
import Derived.Test.YtdnpdfokdibmdaaGreatDoorZInts
import Derived.Test.YtdnpdfokdibmdaaGreatDoorZOrder
namespace Go.Proofs.YtdnpdfokdibmdaaGreatDoor
open Go.RowKit

def sameMB (a b : Mat) : Bool := decide (a.rows = b.rows) && (decide (a.cols = b.cols) && sameI a.cells b.cells)
set_option maxHeartbeats 2000000 in
set_option maxRecDepth 100000 in
theorem iSameMatrix_c {S T : Nat → Prop} {u v : Value} {A B : Mat} {w : World} (hA : VM w S u A) (hB : VM w T v B) (hb : bdM A ≤ 2097152) :
    Calls Tryz.prog 9 #[u, v] w fun e w' => e = .returned (.bool (sameMB A B)) ∧ Grow w w' := by
  obtain ⟨aa, an, ac, rfl, hA, ia1, ia2⟩ := hA
  obtain ⟨ba, bn, bc, rfl, hB, ib1, ib2⟩ := hB
  obtain ⟨w3, hw3⟩ : ∃ w3, w3 = (w.alloc (.cells #[.int .i64 A.rows, .int .i64 A.cols, .slice aa an ac] 26)).alloc (.cells #[.int .i64 B.rows, .int .i64 B.cols, .slice ba bn bc] 26) := ⟨_, rfl⟩
  have hG3 : Grow w w3 := by rw [hw3]; exact ((Grow.refl w).alloc _ _).alloc _ _
  have bA : Blk w3 w.heap.size #[.int .i64 A.rows, .int .i64 A.cols, .slice aa an ac] 26 := by rw [hw3]; exact (Blk.new w _ _).alloc _
  have bB : Blk w3 (w.heap.size + 1) #[.int .i64 B.rows, .int .i64 B.cols, .slice ba bn bc] 26 := by rw [hw3]; exact Blk.newAt _ _ _ (by simp)
  obtain ⟨⟨x0, x1, x2⟩, -⟩ := bA.three
  obtain ⟨⟨y0, y1, y2⟩, -⟩ := bB.three
  have hltA := bA.lt
  have hltB := bB.lt
  have rA := hA.grow hG3
  have rB := hB.grow hG3
  have hla := rA.len
  have hlb := rB.len
  unfold bdM at hb
  have Hw3 := Lib.hid hw3
  rw [hw3] at x0 x1 x2 y0 y1 y2
  clear hw3
  by_cases h1 : A.rows = B.rows
  · have q1 : (A.rows == B.rows) = true := by simp [h1]
    by_cases h2 : A.cols = B.cols
    · have q2 : (A.cols == B.cols) = true := by simp [h2]
      have Hz := Lib.hid (show sameMB A B = sameI A.cells B.cells by unfold sameMB; rw [decide_eq_true h1, decide_eq_true h2]; rfl)
      clear h1 h2
      go_enter Tryz.func9, Tryz.ntmps9
      go_wp2_with fail
      rw [← Hw3.out]
      refine (equalI_c aa ba an bn ac bc A.cells B.cells _ rA rB (by omega)).mono ?_
      rintro e w4 ⟨rfl, hQ⟩
      go_wp2
      go_ret
      exact ⟨by rw [Hz.out]; rfl, hG3.trans hQ.grow⟩
    · have q2 : (A.cols == B.cols) = false := by simp [h2]
      have Hz := Lib.hid (show sameMB A B = false by unfold sameMB; rw [decide_eq_false h2]; simp)
      clear h1 h2
      go_enter Tryz.func9, Tryz.ntmps9
      go_wp2
      rw [← Hw3.out]
      go_ret
      exact ⟨by rw [Hz.out]; rfl, hG3⟩
  · have q1 : (A.rows == B.rows) = false := by simp [h1]
    have Hz := Lib.hid (show sameMB A B = false by unfold sameMB; rw [decide_eq_false h1]; rfl)
    clear h1
    go_enter Tryz.func9, Tryz.ntmps9
    go_wp2
    rw [← Hw3.out]
    go_ret
    exact ⟨by rw [Hz.out]; rfl, hG3⟩
end Go.Proofs.YtdnpdfokdibmdaaGreatDoor
