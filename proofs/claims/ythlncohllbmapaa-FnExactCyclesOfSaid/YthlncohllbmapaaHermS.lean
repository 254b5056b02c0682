/-
  The reference's IdentityMatrix and HermiteForm.
-/
import Derived.Test.YthlncohllbmapaaHermW
import Derived.Test.YthlncohllbmapaaCopyM
namespace Go.Proofs.Ythlncohllbmapaa
open Go.RowKit

def idN (n k : Nat) : List Int := (List.range k).foldl (fun l i => l.set (i * n + i) 1) (List.replicate (n * n) 0)
theorem idN_succ (n k : Nat) : idN n (k + 1) = (idN n k).set (k * n + k) 1 := by unfold idN; rw [List.range_succ, List.foldl_append]; rfl
theorem idN_len (n k : Nat) : (idN n k).length = n * n := by
  induction k with
  | zero => simp [idN]
  | succ k ih => rw [idN_succ, List.length_set, ih]
set_option maxHeartbeats 2000000 in
set_option maxRecDepth 100000 in
theorem sIdentity_c (n : Nat) (w : World) (hn : n ≤ 24) :
    Calls Try.prog 105 #[.int .i64 n] w fun e w' => ∃ a, e = .returned (.tuple #[.agg #[.int .i64 n, .int .i64 n, .slice a (n * n) (n * n)], .bool true]) ∧ Own w' 3 1 a (n * n) (n * n) (ints (idL n)) ∧ (∀ q, blk a = some q → w.heap.size ≤ q) ∧ Grow w w' := by
  have hin : inB (n : Int) 0 24 = true := by unfold inB; simp; omega
  have Hin := Lib.hid hin; clear hin
  have hnn : n * n ≤ 24 * 24 := Nat.mul_le_mul hn hn
  go_enter Try.func105, Try.ntmps105
  go_wp2_with fail
  refine (l1In_c _ _ _ _).mono ?_
  rintro e _ ⟨rfl, rfl⟩
  rw [Hin.out]
  have hGz := (Grow.refl w).alloc #[.int .i64 0, .int .i64 0, .slice none 0 0] 27
  have bZ := Blk.new w #[.int .i64 0, .int .i64 0, .slice none 0 0] 27
  go_wp2_with fail
  refine (l3New_c n n _ (by omega) (by omega)).mono ?_
  rintro e w1 ⟨a, rfl, hO, hB, hG1⟩
  have hB' : ∀ q, blk a = some q → w.heap.size < q := fun q hq => by have := hB q hq; simp at this; omega
  have hG01 := hGz.trans hG1
  have bZ1 := bZ.grow hG1
  have hGa := (Grow.refl w1).alloc #[.int .i64 (n : Int), .int .i64 (n : Int), .slice a (n * n) (n * n)] 27
  have bM := Blk.new w1 #[.int .i64 (n : Int), .int .i64 (n : Int), .slice a (n * n) (n * n)] 27
  have hO2 := hO.grow hGa
  have bZ2 := bZ1.grow hGa
  have hG02 := hG01.trans hGa
  have nM : blk a ≠ some w1.heap.size := fun e => by have := hO.lt e; omega
  have nZ : blk a ≠ some w.heap.size := fun e => by have := hB' _ e; omega
  have hs1 := hG01.size
  clear hO bZ bZ1 hG01 hGz hG1
  go_wp2
  go_loopw [5] (fun q wr => Keep (fun q => blk a ≠ some q) (w1.alloc (.cells #[.int .i64 (n : Int), .int .i64 (n : Int), .slice a (n * n) (n * n)] 27)) wr ∧ ∃ k : Nat, k ≤ n ∧ q = .int .i64 k ∧ Own wr 3 1 a (n * n) (n * n) (ints (idN n k))) (fun q _ => n - (intOf q).toNat)
  case atStart => exact ⟨Keep.refl _ _, 0, Nat.zero_le _, rfl, by simpa [idN] using hO2⟩
  case round =>
    clear hO2
    obtain ⟨hK, k, hk, rfl, hO⟩ := hrel
    have bMr := bM.keep hK nM
    obtain ⟨⟨a0, a1, a2⟩, -⟩ := bMr.three
    have hltM := bMr.lt
    by_cases hlt : k < n
    · have hix : k * n + k < n * n := place_lt hlt hlt
      obtain ⟨pb, rfl⟩ : ∃ pb, a = some ⟨pb, 0, none⟩ := by
        cases a with
        | none => have := hO.nil rfl; have := hO.le; omega
        | some q => exact ⟨q.block, by rw [← (hO.block q rfl).1]⟩
      have hc1 := hO.cell (ints_get (j := k * n + k) (x := (idN n k).getD (k * n + k) 0) (by rw [idN_len]; exact hix) rfl)
      have hfr := hO.free (k * n + k)
      have u1 := mul_wrap (i := k) (c := n) (by omega) (by omega)
      have u2 := idx_wrap (i := k) (c := n) (j := k) (by omega) (by omega) (by omega) rfl
      have hO9 := hO.set (k * n + k) (.int .i64 1)
      rw [← ints_set, ← idN_succ] at hO9
      generalize (idN n k).getD (k * n + k) 0 = x at *
      generalize k * n + k = ix at *
      simp only at hc1 hfr hO9
      have hKs : Keep (fun q => blk (some (⟨pb, 0, none⟩ : Addr)) ≠ some q) wr (wr.setCell ⟨pb, ix, none⟩ (.int .i64 1)) := (Keep.refl _ wr).setCell (p := ⟨pb, ix, none⟩) (fun _ e => e rfl) _
      go_wp2
      go_roundw
      case rel => exact ⟨hK.trans hKs, k + 1, by omega, by go_num, hO9⟩
      case measure => simp [intOf]; omega
    · have hkn : k = n := by omega
      subst hkn
      have bZr := bZ2.keep hK nZ
      obtain ⟨⟨z0, z1, z2⟩, g0, g1, g2⟩ := bZr.three
      have hltZ := bZr.lt
      have hKs : Keep (fun q => q ≠ w.heap.size) wr (((wr.setCell ⟨w.heap.size, 0, none⟩ (.int .i64 (k : Int))).setCell ⟨w.heap.size, 1, none⟩ (.int .i64 (k : Int))).setCell ⟨w.heap.size, 2, none⟩ (.slice a (k * k) (k * k))) :=
        (((Keep.refl _ wr).setCell (fun _ e => e rfl) _).setCell (fun _ e => e rfl) _).setCell (fun _ e => e rfl) _
      go_wp2
      refine ret_cell_tmp T_mat rfl rfl rfl (((bZr.set 0 _).set 1 _).set 2 _) ⟨a, rfl, hO.keep hKs (fun q hq _ e => by have := hB' q hq; omega), (fun q hq => Nat.le_of_lt (hB' q hq)), ?_⟩
      exact (hG02.keep hK (fun q hq e => by have := hB' q e; omega)).keep hKs (fun q hq e => by omega)
end Go.Proofs.Ythlncohllbmapaa
