/-
  The reference's question whether a row is alone.
-/
import Derived.Test.YthlncohllbmapaaHermL
namespace Go.Proofs.Ythlncohllbmapaa
open Go.RowKit

theorem aloneB_no {m : List Int} {C R j p t i : Nat} (h1 : t ≤ i) (h2 : i < R) (h3 : i ≠ p) (h4 : cell m C i j ≠ 0) : aloneB m C R j p t = false := by
  rw [Bool.eq_false_iff]; intro e
  exact h4 (aloneB_iff.1 e i h1 h2 h3)
set_option maxHeartbeats 2000000 in
set_option maxRecDepth 100000 in
theorem l12Alone_c {S : Nat → Prop} (a : Option Addr) (n cp C R t j p : Nat) (cells : List Int) (w : World) (h : RdI w S a n cp cells) (hl : cells.length = R * C) (hn : NumL cells) (ht : t ≤ R) (hj : j < C) (hR : R ≤ 24) (hC : C ≤ 24) (_hp : p ≤ 24) :
    Calls Try.prog 130 #[.agg #[.int .i64 R, .int .i64 C, .slice a n cp], .int .i64 t, .int .i64 j, .int .i64 p] w fun e w' => e = .returned (.bool (aloneB cells C R j p t)) ∧ Grow w w' := by
  have hnl := h.len
  obtain ⟨w2, hw2⟩ : ∃ w2, w2 = w.alloc (.cells #[.int .i64 (R : Int), .int .i64 (C : Int), .slice a n cp] 27) := ⟨_, rfl⟩
  have hG2 : Grow w w2 := by rw [hw2]; exact (Grow.refl w).alloc _ _
  have bM : Blk w2 w.heap.size #[.int .i64 (R : Int), .int .i64 (C : Int), .slice a n cp] 27 := by rw [hw2]; exact Blk.new w _ _
  have Hw2 := Lib.hid hw2; clear hw2
  have Hl := Lib.hid hl; have Hnl := Lib.hid hnl; clear hl hnl
  replace h := h.grow hG2
  go_enter Try.func130, Try.ntmps130
  go_wp2
  rw [← Hw2.out]
  go_loopw [9] (fun q wr => Grow w2 wr ∧ ∃ k : Nat, k ≤ R - t ∧ q = .int .i64 ((t + k : Nat) : Int) ∧ ∀ d, d < k → t + d ≠ p → cell cells C (t + d) j = 0) (fun q _ => R - (intOf q).toNat)
  case atStart => exact ⟨Grow.refl _, 0, Nat.zero_le _, rfl, fun d hd => by omega⟩
  case round =>
    obtain ⟨hG, k, hk, rfl, hall⟩ := hrel
    have Hall := Lib.hid hall; clear hall
    have bMr := bM.grow hG
    have hr := h.grow hG
    obtain ⟨⟨a0, a1, a2⟩, -⟩ := bMr.three
    have hltM := bMr.lt
    by_cases hlt : t + k < R
    · by_cases hkp : t + k = p
      · have q1 : ((((t + k : Nat) : Int)) != (p : Int)) = false := by rw [hkp]; simp
        have q2 : (((t : Int) + (k : Int)) != (p : Int)) = false := by rw [← hkp]; simp
        have Hkp := Lib.hid hkp; clear hkp
        go_wp2
        go_roundw
        case rel =>
          refine ⟨hG, k + 1, by omega, by go_num, fun d hd hne => ?_⟩
          by_cases e : d = k
          · subst e; exact (hne Hkp.out).elim
          · exact Hall.out d (by omega) hne
        case measure => simp [intOf]; omega
      · have q1 : ((((t + k : Nat) : Int)) != (p : Int)) = true := by simp; omega
        have q2 : (((t : Int) + (k : Int)) != (p : Int)) = true := by simp; omega
        have hp1 := place_lt (i := t + k) hj hlt
        have hni : (t + k) * C + j < n := by rw [← Hnl.out, Hl.out]; exact hp1
        have hx := cell_num hn C (t + k) j
        have Hkp := Lib.hid hkp; clear hkp hp1
        go_wp2_with fail
        refine (l12Cell_c a n cp C (t + k) j (R : Int) cells _ hr hni (by omega) (by omega) (by omega)).mono ?_
        rintro e w3 ⟨rfl, hG3⟩
        clear hni
        by_cases hx0 : cell cells C (t + k) j = 0
        · have Hx0 := Lib.hid hx0
          rw [hx0]
          clear hx0
          go_wp2
          go_roundw
          case rel =>
            refine ⟨hG.trans hG3, k + 1, by omega, by go_num, fun d hd hne => ?_⟩
            by_cases e : d = k
            · subst e; exact Hx0.out
            · exact Hall.out d (by omega) hne
          case measure => simp [intOf]; omega
        · have HF := Lib.hid (aloneB_no (R := R) (p := p) (t := t) (by omega) hlt Hkp.out hx0)
          have q3 : (cell cells C (t + k) j != 0) = true := by simpa using hx0
          go_wp2
          go_ret
          exact ⟨by rw [HF.out]; rfl, (hG2.trans hG).trans hG3⟩
    · have HF := Lib.hid (show aloneB cells C R j p t = true from aloneB_iff.2 fun i h1 h2 h3 => by
        have := Hall.out (i - t) (by omega)
        rw [show t + (i - t) = i by omega] at this
        exact this h3)
      go_wp2
      go_ret
      exact ⟨by rw [HF.out]; rfl, hG2.trans hG⟩
end Go.Proofs.Ythlncohllbmapaa
