/-
  The reference's IdentityMatrix and HermiteForm.
-/
import Derived.Test.YtneeelebnnfbeaaZHermW
import Derived.Test.YtneeelebnnfbeaaZInts
import Derived.Test.YtneeelebnnfbeaaZIsMat
set_option maxHeartbeats 8000000
set_option maxRecDepth 100000
namespace Go.Proofs.Ytneeelebnnfbeaa
open Go.RowKit
end Go.Proofs.Ytneeelebnnfbeaa

namespace Go.Proofs.Ytneeelebnnfbeaa
open Go.RowKit
def hermR (m : Mat) : Option HS := if isMatB m = true then herm m.cells m.rows.toNat m.cols.toNat else none
theorem isMatB_ok {R C : Nat} {l : List Int} (hR : R ≤ 24) (hC : C ≤ 24) (hl : l.length = R * C) (h : NumL l) : isMatB { rows := R, cols := C, cells := l } = true := by
 unfold isMatB shapeB
 rw [show numsB l = true from List.all_eq_true.2 fun x hx => isNumB_iff.2 (h x hx), Bool.and_true, decide_eq_true_eq]
 exact ⟨by simp, by simp; omega, by simp, by simp; omega, by simp [hl]⟩
theorem VM.zero {w : World} {S : Nat → Prop} : VM w S (.agg #[.int .i64 0, .int .i64 0, .slice none 0 0]) { rows := 0, cols := 0, cells := [] } :=
 ⟨none, 0, 0, rfl, ⟨⟨rfl, Nat.le_refl _, by unfold maxLen; omega, fun _ => rfl, fun h => (h rfl).elim⟩, fun x hx => by cases hx⟩, by show I64 0; unfold I64; omega, by show I64 0; unfold I64; omega⟩
end Go.Proofs.Ytneeelebnnfbeaa

namespace Go.Proofs.Ytneeelebnnfbeaa
open Go.RowKit
theorem addr_add (g j : Nat) : (⟨g, 0, none⟩ : Addr).add j = ⟨g, j, none⟩ := by unfold Addr.add; split <;> simp_all
theorem row_c (a : Option Addr) (n cp C i : Nat) (R : Int) (m : List Int) (w : World) (h : Own w 3 1 a n cp (ints m)) (hi : i * C + C ≤ n) (hi2 : i ≤ 1048575) (hC2 : C ≤ 1048576) :
  Calls Try.prog 39 #[.agg #[.int .i64 R, .int .i64 C, .slice a n cp], .int .i64 i] w fun e w' => ∃ a1, e = .returned (.slice a1 C (cp - i * C)) ∧ (0 < C → ∃ pb, a = some ⟨pb, 0, none⟩ ∧ a1 = some ⟨pb, i * C, none⟩) ∧ Grow w w' := by
 have hle := h.le
 have u1 := mul_wrap (i := i) (c := C) (by omega) hC2
 have u3 : IntKind.i64.wrap (((i : Int) + 1) * C) = ((i : Int) + 1) * C := by
  have := mul_wrap (i := i + 1) (c := C) (by omega) hC2
  simpa using this
 have r := T_ints.atLH (a := a) (n := n) (cap := cp) (l := i * C) (k := i * C + C) (i := (i : Int) * C) (j := ((i : Int) + 1) * C) (by simp) (by rw [Int.add_mul]; simp) (by omega) (by omega)
 rw [show i * C + C - i * C = C by omega] at r
 have hA : 0 < C → ∃ pb, a = some ⟨pb, 0, none⟩ ∧ subA a cp (i * C) 1 = some ⟨pb, i * C, none⟩ := fun hC => by
  cases a with
  | none => have := h.nil rfl; omega
  | some q =>
   have hq := (h.block q rfl).1
   refine ⟨q.block, by rw [← hq], ?_⟩
   unfold subA
   rw [if_neg (by omega), hq, Nat.mul_one]
   exact congrArg some (addr_add q.block (i * C))
 have HA := Lib.hid hA; clear hA
 go_enter Try.func39, Try.ntmps39
 go_wp2
 go_ret
 exact ⟨_, rfl, HA.out, (Grow.refl w).alloc _ _⟩
end Go.Proofs.Ytneeelebnnfbeaa

namespace Go.Proofs.Ytneeelebnnfbeaa
open Go.RowKit
theorem rowOpSwap_c (a : Option Addr) (n cp C i p R : Nat) (t : Int) (m : List Int) (w : World) (h : Own w 3 1 a n cp (ints m)) (hmR : m.length = R * C) (hiR : i < R) (hpR : p < R) (hip : i ≠ p) (hi2 : i ≤ 1000) (hp2 : p ≤ 1000) (hC2 : C ≤ 1048576) :
  Calls Try.prog 41 #[.agg #[.int .i64 (R : Int), .int .i64 C, .slice a n cp], .agg #[.int .i64 0, .int .i64 i, .int .i64 p, .int .i64 t]] w fun e w' => e = .returned (.bool true) ∧ Own w' 3 1 a n cp (ints (swR m C i p)) ∧ Keep (fun q => blk a ≠ some q) w w' := by
 have hi := row_le hmR hiR
 have hp := row_le hmR hpR
 rw [show m.length = n by simpa using h.len] at hi hp
 obtain ⟨kd, hkd⟩ : ∃ kd : Int, kd = 0 := ⟨_, rfl⟩
 rw [← hkd]
 have hl : m.length = n := by simpa using h.len
 obtain ⟨w2, hw2⟩ : ∃ w2, w2 = (w.alloc (.cells #[.int .i64 (R : Int), .int .i64 (C : Int), .slice a n cp] 32)).alloc (.cells #[.int .i64 kd, .int .i64 (i : Int), .int .i64 (p : Int), .int .i64 t] 56) := ⟨_, rfl⟩
 have hG2 : Grow w w2 := by rw [hw2]; exact ((Grow.refl w).alloc _ _).alloc _ _
 have bM : Blk w2 w.heap.size #[.int .i64 (R : Int), .int .i64 (C : Int), .slice a n cp] 32 := by rw [hw2]; exact (Blk.new w _ _).alloc _
 have bX : Blk w2 (w.heap.size + 1) #[.int .i64 kd, .int .i64 (i : Int), .int .i64 (p : Int), .int .i64 t] 56 := by rw [hw2]; exact Blk.newAt _ _ _ (by simp)
 have hO0 : Own w2 3 1 a n cp (ints m) := h.grow hG2
 have nX : blk a ≠ some (w.heap.size + 1) := fun e => by have := h.lt e; omega
 have Hw2 := Lib.hid hw2; clear hw2
 have hlow : ∀ q, blk a = some q → q < w.heap.size := fun q hq => h.lt hq
 clear h
 subst hkd
 go_enter Try.func41, Try.ntmps41
 go_wp2_with fail
 rw [← Hw2.out]
 refine (row_c a n cp C i (R : Int) m _ hO0 hi (by omega) hC2).mono ?_
 rintro e w3 ⟨a1, rfl, hA1, hG3⟩
 have hO3 := hO0.grow hG3
 have bX3 := bX.grow hG3
 have bM3 := bM.grow hG3
 obtain ⟨⟨m0, m1, m2⟩, -⟩ := bM3.three
 have x0 := bX3.cell 0
 have x1 := bX3.cell 1
 have x2 := bX3.cell 2
 have x3 := bX3.cell 3
 simp only [List.getElem?_toArray, List.getElem?_cons_zero, List.getElem?_cons_succ] at x0 x1 x2 x3
 go_wp2_with fail
 refine (row_c a n cp C p (R : Int) m _ hO3 hp (by omega) hC2).mono ?_
 rintro e w4 ⟨b1, rfl, hB1, hG4⟩
 have hO4 := hO3.grow hG4
 have bX4 := bX3.grow hG4
 have hG24 := (hG2.trans hG3).trans hG4
 clear x0 x1 x2 x3 m0 m1 m2 bM3 bX3 hO3 hO0 bM bX
 go_wp2
 go_loopw [19] (fun q wr => Keep (fun q => blk a ≠ some q) w4 wr ∧ ∃ k : Nat, k ≤ C ∧ q = .int .i64 k ∧ Own wr 3 1 a n cp (ints (swN m C i p k))) (fun q _ => C - (intOf q).toNat)
 case atStart => exact ⟨Keep.refl _ _, 0, Nat.zero_le _, rfl, hO4⟩
 case round =>
  clear hO4
  obtain ⟨hK, k, hk, rfl, hO⟩ := hrel
  by_cases hlt : k < C
  ·have bXr := bX4.keep hK nX
   have x0 := bXr.cell 0
   simp only [List.getElem?_toArray, List.getElem?_cons_zero] at x0
   have hltX := bXr.lt
   have hlen : (swN m C i p k).length = n := by rw [swN_len, hl]
   have hg1 : (swN m C i p k).getD (i * C + k) 0 = cell m C i k := by rw [swN_getD hmR hiR hpR hip k (by omega) i k hlt, if_neg (by omega), if_neg (by omega)]
   have hg2 : (swN m C i p k).getD (p * C + k) 0 = cell m C p k := by rw [swN_getD hmR hiR hpR hip k (by omega) p k hlt, if_neg (by omega), if_neg (by omega)]
   obtain ⟨pb, rfl, rfl⟩ := hA1 (by omega)
   obtain ⟨pb', hpb', rfl⟩ := hB1 (by omega)
   obtain rfl : pb = pb' := by simpa using hpb'
   have hc1 := hO.cell (ints_get (by omega) hg1)
   have hc2 := hO.cell (ints_get (by omega) hg2)
   have hfr := hO.free (i * C + k)
   have hfr2 := hO.free (p * C + k)
   have hpb := hO.lt (g := pb) rfl
   have hcx : i * C + k ≠ p * C + k := fun e => hip (place_eq hlt hlt e).1
   have hO9 := ((hO.set (i * C + k) (.int .i64 (cell m C p k))).set (p * C + k) (.int .i64 (cell m C i k))).grow (Grow.refl _).drew
   rw [← ints_set, ← ints_set] at hO9
   have Hu := Lib.hid (show swN m C i p (k + 1) = ((swN m C i p k).set (i * C + k) (cell m C p k)).set (p * C + k) (cell m C i k) from rfl)
   have hKs : Keep (fun q => blk (some (⟨pb, 0, none⟩ : Addr)) ≠ some q) wr ((wr.setCell ⟨pb, i * C + k, none⟩ (.int .i64 (cell m C p k))).setCell ⟨pb, p * C + k, none⟩ (.int .i64 (cell m C i k))).drew := (((Keep.refl _ wr).setCell (p := ⟨pb, i * C + k, none⟩) (fun _ e => e rfl) _).setCell (p := ⟨pb, p * C + k, none⟩) (fun _ e => e rfl) _).drew
   clear hO hg1 hg2 hlen hA1 hB1 hpb'
   generalize cell m C i k = ca at hc1 hO9 Hu hKs
   generalize cell m C p k = cb at hc2 hO9 Hu hKs
   simp only at hc1 hc2 hfr hfr2
   go_wp2
   go_region
   go_wp2
   go_roundw
   case rel => exact ⟨hK.trans hKs, k + 1, by omega, by go_num, by rw [Hu.out]; exact hO9⟩
   case measure => simp [intOf]; omega
  ·have hkC : k = C := by omega
   subst hkC
   go_wp2
   go_ret
   exact ⟨rfl, hO, hG24.any.trans hK⟩
end Go.Proofs.Ytneeelebnnfbeaa
