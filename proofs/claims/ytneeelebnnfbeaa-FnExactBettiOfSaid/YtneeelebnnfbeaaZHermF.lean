/-
  The reference's numbers with marks: sums, products, quotients; cells; whether a mark is in a list.
-/
import Derived.Test.YtneeelebnnfbeaaZHerm
import Derived.Test.YtneeelebnnfbeaaZBase
set_option maxHeartbeats 8000000
set_option maxRecDepth 100000
namespace Go.Proofs.Ytneeelebnnfbeaa
open Go.RowKit
theorem l1Fit_c (n : Int) (w : World) : Calls Try.prog 50 #[.int .i64 n] w fun e w' => e = .returned (.int .i64 (fitB n)) ∧ w = w' := by
 cases h : inB n (-400000000) 400000000 with
 | true =>
  have e : fitB n = n := fitB_ok h
  have H := Lib.hid h; have E := Lib.hid e; clear h e
  go_enter Try.func50, Try.ntmps50
  go_wp2_with fail
  refine (l1In_c _ _ _ _).mono ?_
  rintro e w' ⟨rfl, rfl⟩
  rw [H.out]
  go_wp2
  go_ret
  exact ⟨by rw [E.out]; rfl, rfl⟩
 | false =>
  have e : fitB n = badN := fitB_bad h
  have H := Lib.hid h; have E := Lib.hid e; clear h e
  go_enter Try.func50, Try.ntmps50
  go_wp2_with fail
  refine (l1In_c _ _ _ _).mono ?_
  rintro e w' ⟨rfl, rfl⟩
  rw [H.out]
  go_wp2
  go_ret
  exact ⟨by rw [E.out]; rfl, rfl⟩
theorem l1Abs_c (a : Int) (w : World) (h : -9223372036854775807 ≤ a ∧ a ≤ 9223372036854775807) : Calls Try.prog 59 #[.int .i64 a] w fun e w' => e = .returned (.int .i64 (a.natAbs : Int)) ∧ w = w' := by
 go_enter Try.func59, Try.ntmps59
 go_wp2
 all_goals (go_ret; exact ⟨ret_int (by omega), rfl⟩)
end Go.Proofs.Ytneeelebnnfbeaa

namespace Go.Proofs.Ytneeelebnnfbeaa
open Go.RowKit
theorem absInt_c (a : Int) (w : World) (h : -9223372036854775807 ≤ a ∧ a ≤ 9223372036854775807) : Calls Try.prog 58 #[.int .i64 a] w fun e w' => e = .returned (.int .i64 (a.natAbs : Int)) ∧ w = w' := by
 go_enter Try.func58, Try.ntmps58
 go_wp2
 all_goals (go_ret; exact ⟨ret_int (by omega), rfl⟩)
end Go.Proofs.Ytneeelebnnfbeaa

namespace Go.Proofs.Ytneeelebnnfbeaa
open Go.RowKit
theorem ints_get {xs : List Int} {j : Nat} {x : Int} (hj : j < xs.length) (hx : xs.getD j 0 = x) : (ints xs)[j]? = some (.int .i64 x) := by
 rw [List.getElem?_map, List.getElem?_eq_getElem hj]
 simp [List.getD, List.getElem?_eq_getElem hj] at hx
 rw [← hx]; rfl
theorem Keep.on {S T : Nat → Prop} {a b c : World} (h : Keep S a b) (k : Keep T b c) (hT : ∀ i, i < a.heap.size → S i → T i) : Keep S a c :=
 ⟨k.os.trans h.os, k.tape.trans h.tape, k.output.trans h.output, Nat.le_trans h.size k.size, fun x hx => (k.frozen x (Nat.lt_of_lt_of_le hx h.size)).trans (h.frozen x hx),
  fun i hi hs => (k.block i (Nat.lt_of_lt_of_le hi h.size) (hT i hi hs)).trans (h.block i hi hs)⟩
end Go.Proofs.Ytneeelebnnfbeaa

namespace Go.Proofs.Ytneeelebnnfbeaa
open Go.RowKit
theorem l5Swap_c (a : Option Addr) (n cp C i p R : Nat) (t : Int) (m : List Int) (w : World) (h : Own w 3 1 a n cp (ints m)) (hmR : m.length = R * C) (hiR : i < R) (hpR : p < R) (hip : i ≠ p) (hm : NumL m) (hn : n ≤ 1048576) (hi2 : i ≤ 1048576) (hp2 : p ≤ 1048576) (hC2 : C ≤ 1048576) :
  Calls Try.prog 48 #[.agg #[.int .i64 (R : Int), .int .i64 C, .slice a n cp], .agg #[.int .i64 0, .int .i64 i, .int .i64 p, .int .i64 t]] w fun e w' => e = .returned (.tuple #[]) ∧ Own w' 3 1 a n cp (ints (swR m C i p)) ∧ Keep (fun q => blk a ≠ some q) w w' := by
 have hi := row_le hmR hiR
 have hp := row_le hmR hpR
 rw [show m.length = n by simpa using h.len] at hi hp
 obtain ⟨kd, hkd⟩ : ∃ kd : Int, kd = 0 := ⟨_, rfl⟩
 rw [← hkd]
 have hl : m.length = n := by simpa using h.len
 have hG2 : Grow w ((w.alloc (.cells #[.int .i64 R, .int .i64 (C : Int), .slice a n cp] 32)).alloc (.cells #[.int .i64 kd, .int .i64 (i : Int), .int .i64 (p : Int), .int .i64 t] 56)) := ((Grow.refl w).alloc _ _).alloc _ _
 obtain ⟨w2, hw2⟩ : ∃ w2, w2 = (w.alloc (.cells #[.int .i64 R, .int .i64 (C : Int), .slice a n cp] 32)).alloc (.cells #[.int .i64 kd, .int .i64 (i : Int), .int .i64 (p : Int), .int .i64 t] 56) := ⟨_, rfl⟩
 have bM : Blk w2 w.heap.size #[.int .i64 R, .int .i64 (C : Int), .slice a n cp] 32 := by rw [hw2]; exact (Blk.new w _ _).alloc _
 have bX : Blk w2 (w.heap.size + 1) #[.int .i64 kd, .int .i64 (i : Int), .int .i64 (p : Int), .int .i64 t] 56 := by rw [hw2]; exact Blk.newAt _ _ _ (by simp)
 have hO0 : Own w2 3 1 a n cp (ints m) := by rw [hw2]; exact h.grow hG2
 rw [← hw2] at hG2
 have nM : blk a ≠ some w.heap.size := fun e => by have := h.lt e; omega
 have nX : blk a ≠ some (w.heap.size + 1) := fun e => by have := h.lt e; omega
 have Hw2 := Lib.hid hw2; clear hw2
 clear h
 subst hkd
 go_enter Try.func48, Try.ntmps48
 go_wp2
 rw [← Hw2.out]
 go_loopw [4] (fun q wr => Keep (fun q => blk a ≠ some q) w2 wr ∧ ∃ k : Nat, k ≤ C ∧ q = .int .i64 k ∧ Own wr 3 1 a n cp (ints (swN m C i p k))) (fun q _ => C - (intOf q).toNat)
 case atStart => exact ⟨Keep.refl _ _, 0, Nat.zero_le _, rfl, hO0⟩
 case round =>
  clear hO0
  obtain ⟨hK, k, hk, rfl, hO⟩ := hrel
  have bMr := bM.keep hK nM
  obtain ⟨⟨a0, a1, a2⟩, -⟩ := bMr.three
  by_cases hlt : k < C
  ·have bXr := bX.keep hK nX
   have x0 := bXr.cell 0
   have x1 := bXr.cell 1
   have x2 := bXr.cell 2
   have x3 := bXr.cell 3
   simp only [List.getElem?_toArray, List.getElem?_cons_zero, List.getElem?_cons_succ] at x0 x1 x2 x3
   have hlen : (swN m C i p k).length = n := by rw [swN_len, hl]
   have hg1 : (swN m C i p k).getD (i * C + k) 0 = cell m C i k := by rw [swN_getD hmR hiR hpR hip k (by omega) i k hlt, if_neg (by omega), if_neg (by omega)]
   have hg2 : (swN m C i p k).getD (p * C + k) 0 = cell m C p k := by
    rw [swN_getD hmR hiR hpR hip k (by omega) p k hlt, if_neg (by omega), if_neg (by omega)]
   obtain ⟨pb, rfl⟩ : ∃ pb, a = some ⟨pb, 0, none⟩ := by
    cases a with
    | none => have := hO.nil rfl; have := hO.le; omega
    | some q => exact ⟨q.block, by rw [← (hO.block q rfl).1]⟩
   have hc1 := hO.cell (ints_get (by omega) hg1)
   have hc2 := hO.cell (ints_get (by omega) hg2)
   have hfr := hO.free (i * C + k)
   have hpb := hO.lt (g := pb) rfl
   have hsA := hm.getD (i * C + k)
   have hsB := hm.getD (p * C + k)
   have u1 := mul_wrap (i := i) (c := C) hi2 hC2
   have u2 := idx_wrap (i := i) (c := C) (j := k) hi2 hC2 (by omega) rfl
   have u3 := mul_wrap (i := p) (c := C) hp2 hC2
   have u4 := idx_wrap (i := p) (c := C) (j := k) hp2 hC2 (by omega) rfl
   have hle := hO.le
   change -400000000 ≤ cell m C i k ∧ cell m C i k ≤ 400000000 at hsA
   change -400000000 ≤ cell m C p k ∧ cell m C p k ≤ 400000000 at hsB
   have hcx : i * C + k ≠ p * C + k := fun e => hip (place_eq hlt hlt e).1
   have hO9 := ((hO.set (i * C + k) (.int .i64 (cell m C p k))).set (p * C + k) (.int .i64 (cell m C i k)))
   rw [← ints_set, ← ints_set] at hO9
   have Hu := Lib.hid (show swN m C i p (k + 1) = ((swN m C i p k).set (i * C + k) (cell m C p k)).set (p * C + k) (cell m C i k) from rfl)
   have hfr2 := hO.free (p * C + k)
   clear hO hg1 hg2 hlen
   generalize cell m C i k = ca at hc1 hsA hO9 Hu
   generalize cell m C p k = cb at hc2 hsB hO9 Hu
   generalize hix : i * C + k = ix at *
   generalize hiy : p * C + k = iy at *
   have hlx : ix < n := by omega
   have hly : iy < n := by omega
   clear hix hiy
   simp only at hc1 hc2 hfr hfr2 hO9
   have n1 : pb ≠ w.heap.size := fun e => nM (by rw [e]; rfl)
   have n2 : pb ≠ w.heap.size + 1 := fun e => nX (by rw [e]; rfl)
   have n3 := Ne.symm n1
   have n4 := Ne.symm n2
   go_wp2
   have hKs : Keep (fun q => blk (some (⟨pb, 0, none⟩ : Addr)) ≠ some q) wr ((wr.setCell ⟨pb, ix, none⟩ (.int .i64 cb)).setCell ⟨pb, iy, none⟩ (.int .i64 ca)) := ((Keep.refl _ wr).setCell (p := ⟨pb, ix, none⟩) (fun _ e => e rfl) _).setCell (p := ⟨pb, iy, none⟩) (fun _ e => e rfl) _
   go_roundw
   case rel => exact ⟨hK.trans hKs, k + 1, by omega, by go_num, by rw [Hu.out]; exact hO9⟩
   case measure => simp [intOf]; omega
  ·have hkC : k = C := by omega
   subst hkC
   go_wp2
   exact bodyPost_end (results_none rfl _ _ _) rfl ⟨rfl, hO, (hG2.any).on hK (fun q hq hne => hne)⟩
end Go.Proofs.Ytneeelebnnfbeaa

namespace Go.Proofs.Ytneeelebnnfbeaa
open Go.RowKit
structure Two (w : World) (a u : Option Addr) (na nu ca cu : Nat) (s : HS) : Prop where
 oa : Own w 3 1 a na ca (ints s.1)
 ou : Own w 3 1 u nu cu (ints s.2)
 ne : ∀ q, blk a = some q → blk u ≠ some q
theorem Two.keep {w w' : World} {T : Nat → Prop} {a u : Option Addr} {na nu ca cu : Nat} {s : HS} (h : Two w a u na nu ca cu s) (hk : Keep T w w') (h1 : ∀ g, blk a = some g → T g) (h2 : ∀ g, blk u = some g → T g) : Two w' a u na nu ca cu s :=
 ⟨h.oa.keep hk (fun g hg _ => h1 g hg), h.ou.keep hk (fun g hg _ => h2 g hg), h.ne⟩
theorem Two.grow {w w' : World} {a u : Option Addr} {na nu ca cu : Nat} {s : HS} (h : Two w a u na nu ca cu s) (hk : Grow w w') : Two w' a u na nu ca cu s := h.keep hk (fun _ _ => trivial) (fun _ _ => trivial)
end Go.Proofs.Ytneeelebnnfbeaa

namespace Go.Proofs.Ytneeelebnnfbeaa
open Go.RowKit
end Go.Proofs.Ytneeelebnnfbeaa

namespace Go.Proofs.Ytneeelebnnfbeaa
open Go.RowKit
end Go.Proofs.Ytneeelebnnfbeaa
