/-
  Matrices that come in: measured, copied.
-/
import Derived.Test.YtlpkcdgkkjmagaaMat
import Derived.Test.YtlpkcdgkkjmagaaClose
namespace Go.Proofs.Ytlpkcdgkkjmagaa
open Go.RowKit

theorem T_lmat : StT Try.prog 31 3 := ⟨_, Try.underlying31, by kernel_rfl⟩
set_option maxHeartbeats 1000000 in
theorem to_M {S : Nat → Prop} {v : Value} {m : Mat} {w : World} (h : VM w S v m) (hb : bdM m ≤ 1048576) : Calls Try.prog 36 #[v] w fun e w' => ∃ v', e = .returned v' ∧ OM w' (New w w') v' m ∧ Grow w w' := by
  obtain ⟨a, n, c, rfl, h, hr, hc⟩ := h
  have hl := h.len
  unfold bdM at hb
  go_enter Try.func36, Try.ntmps36
  go_wp2_with fail
  have hW := ((Grow.refl w).alloc #[.int .i64 m.rows, .int .i64 m.cols, .slice a n c] 31).alloc #[.int .i64 0, .int .i64 0, .slice none 0 0] 36 |>.alloc #[.int .i64 m.rows, .int .i64 m.cols, .slice none 0 0] 36
  have hb2 := Blk.newAt ((w.alloc (.cells #[.int .i64 m.rows, .int .i64 m.cols, .slice a n c] 31)).alloc (.cells #[.int .i64 0, .int .i64 0, .slice none 0 0] 36)) #[.int .i64 m.rows, .int .i64 m.cols, .slice none 0 0] 36 (g := w.heap.size + 1 + 1) (by simp)
  have hb1 := (Blk.newAt (w.alloc (.cells #[.int .i64 m.rows, .int .i64 m.cols, .slice a n c] 31)) #[.int .i64 0, .int .i64 0, .slice none 0 0] 36 (g := w.heap.size + 1) (by simp)).alloc (.cells #[.int .i64 m.rows, .int .i64 m.cols, .slice none 0 0] 36)
  refine (toIntS_c a n c m.cells _ (h.grow hW) (by omega)).mono ?_
  rintro e w1 ⟨rfl, hO, hG⟩
  obtain ⟨⟨c20, c21, c22⟩, f20, f21, f22⟩ := (hb2.grow hG).three
  obtain ⟨⟨c10, c11, c12⟩, f10, f11, f12⟩ := (hb1.grow hG).three
  simp only [World.size_alloc] at hO
  go_wp2
  have hs := hW.size
  simp only [World.size_alloc] at hs
  have hs1 := hG.size
  simp only [World.size_alloc] at hs1
  have hK : Keep (fun g => g ≠ w.heap.size + 1 + 1 ∧ g ≠ w.heap.size + 1) w1 _ := ((((Keep.refl _ w1).setCell (p := ⟨w.heap.size + 1 + 1, 2, none⟩) (by simp) (.slice (some ⟨w.heap.size + 1 + 1 + 1, 0, none⟩) n n)).setCell (p := ⟨w.heap.size + 1, 0, none⟩) (by simp) (.int .i64 m.rows)).setCell (p := ⟨w.heap.size + 1, 1, none⟩) (by simp) (.int .i64 m.cols)).setCell (p := ⟨w.heap.size + 1, 2, none⟩) (by simp) (.slice (some ⟨w.heap.size + 1 + 1 + 1, 0, none⟩) n n)
  have hB : Blk _ (w.heap.size + 1) #[.int .i64 m.rows, .int .i64 m.cols, .slice (some ⟨w.heap.size + 1 + 1 + 1, 0, none⟩) n n] 36 := (((((hb1.grow hG).other (p := ⟨w.heap.size + 1 + 1, 2, none⟩) (by simp) (.slice (some ⟨w.heap.size + 1 + 1 + 1, 0, none⟩) n n)).set 0 (.int .i64 m.rows)).set 1 (.int .i64 m.cols)).set 2 (.slice (some ⟨w.heap.size + 1 + 1 + 1, 0, none⟩) n n))
  have hGf : Grow w _ := (hW.trans hG).keep hK (fun i hi => by constructor <;> omega)
  have hOf := hO.keep hK (fun g hg hlt => by simp at hg; omega)
  refine ret_cell T_mat rfl rfl rfl hB ?_
  refine ⟨_, rfl, ⟨_, _, _, rfl, hOf, h.rng, fun g hg => ⟨?_, hOf.lt hg⟩, hr, hc⟩, hGf⟩
  simp at hg; omega

def szM (left : Int) (m : Mat) : Int := szI left m.cells.length
theorem sz_M_ok {l : Mat} {left : Int} (h : 0 ≤ szM left l) : szM left l = left - bdM l := by
  unfold szM szI at *; unfold bdM
  split at h
  · omega
  · rename_i h1; rw [if_neg h1]
set_option maxHeartbeats 1000000 in
theorem sz_M {S : Nat → Prop} {v : Value} {m : Mat} {w : World} {left : Int} (h : VM w S v m) (h0 : 0 ≤ left) (h1 : left ≤ 1048576) : Calls Try.prog 32 #[v, .int .i64 left] w fun e w' => e = .returned (.int .i64 (szM left m)) ∧ Grow w w' := by
  obtain ⟨a, n, c, rfl, h, _, _⟩ := h
  have hl := h.len
  have hm : n ≤ maxLen := Nat.le_trans h.row.le h.row.max
  have hG : Grow w (w.alloc (.cells #[.int .i64 m.rows, .int .i64 m.cols, .slice a n c] 31)) := (Grow.refl w).alloc _ _
  by_cases hlt : left < n
  · have hz : szI left n = -1 := by unfold szI; rw [if_pos hlt]
    have hz2 : szM left m = -1 := by unfold szM; rw [hl]; exact hz
    rw [hz2]
    go_enter Try.func32, Try.ntmps32
    go_wp2_with (go_at_call 50; refine (szIntS_c a n c left _ hm h0 h1).mono ?_; rintro e w' ⟨rfl, rfl⟩; rw [hz])
    go_ret
    exact ⟨rfl, hG⟩
  · have hz : szI left n = left - n := by unfold szI; rw [if_neg hlt]
    have hz2 : szM left m = left - n := by unfold szM; rw [hl]; exact hz
    rw [hz2]
    go_enter Try.func32, Try.ntmps32
    go_wp2_with (go_at_call 50; refine (szIntS_c a n c left _ hm h0 h1).mono ?_; rintro e w' ⟨rfl, rfl⟩; rw [hz])
    go_ret
    exact ⟨rfl, hG⟩
end Go.Proofs.Ytlpkcdgkkjmagaa
