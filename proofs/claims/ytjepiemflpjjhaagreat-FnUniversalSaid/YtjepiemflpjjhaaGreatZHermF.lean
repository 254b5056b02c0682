/-
  The reference's numbers with marks: sums, products, quotients; cells; whether a mark is in a list.
-/
import Derived.Test.YtjepiemflpjjhaaGreatZHerm
import Derived.Test.YtjepiemflpjjhaaGreatZBase
set_option maxHeartbeats 8000000
set_option maxRecDepth 100000
namespace Go.Proofs.YtjepiemflpjjhaaGreat
open Go.RowKit
end Go.Proofs.YtjepiemflpjjhaaGreat

namespace Go.Proofs.YtjepiemflpjjhaaGreat
open Go.RowKit
theorem tmod_neg {n d : Int} (hd : d ≠ 0) (h : n.tmod d < 0) : n.tdiv d = n / d + d.sign ∧ n.tmod d + d.natAbs = n % d := by
 have h1 := Int.tdiv_eq_ediv (a := n) (b := d)
 have h2 := Int.tmod_eq_emod (a := n) (b := d)
 have h3 := Int.emod_nonneg n hd
 by_cases hc : 0 ≤ n ∨ d ∣ n
 ·rw [if_pos hc] at h2; omega
 ·rw [if_neg hc] at h1 h2; omega
theorem tmod_pos {n d : Int} (hd : d ≠ 0) (h : 0 ≤ n.tmod d) : n.tdiv d = n / d ∧ n.tmod d = n % d := by
 have h1 := Int.tdiv_eq_ediv (a := n) (b := d)
 have h2 := Int.tmod_eq_emod (a := n) (b := d)
 have h3 := Int.emod_lt n hd
 by_cases hc : 0 ≤ n ∨ d ∣ n
 ·rw [if_pos hc] at h1 h2; omega
 ·rw [if_neg hc] at h2; omega
theorem exact_quo {n d : Int} (hd : d ≠ 0) : (n - n % d).tdiv d = n / d := by
 have h : n - n % d = d * (n / d) := by have := Int.emod_def n d; omega
 rw [h, Int.mul_tdiv_cancel_left _ hd]
theorem ret_ii {a b c d : Int} (h1 : a = b) (h2 : c = d) : Ending.returned (.tuple #[.int .i64 a, .int .i64 c, .bool true]) = .returned (.tuple #[.int .i64 b, .int .i64 d, .bool true]) := by rw [h1, h2]
theorem absInt_c (a : Int) (w : World) (h : -9223372036854775807 ≤ a ∧ a ≤ 9223372036854775807) : Calls Tryz.prog 130 #[.int .i64 a] w fun e w' => e = .returned (.int .i64 (a.natAbs : Int)) ∧ w = w' := by
 go_enter Tryz.func130, Tryz.ntmps130
 go_wp2
 all_goals (go_ret; exact ⟨ret_int (by omega), rfl⟩)
theorem iDivideFloor_c (n d : Int) (w : World) (hn : -400000000 ≤ n ∧ n ≤ 400000000) (hd : -400000000 ≤ d ∧ d ≤ 400000000) (h0 : d ≠ 0) : Calls Tryz.prog 113 #[.int .i64 n, .int .i64 d] w fun e w' => e = .returned (.tuple #[.int .i64 (n / d), .int .i64 (n % d), .bool true]) ∧ w = w' := by
 have H := Lib.hid (isNumB_iff.2 hn); have H2 := Lib.hid (isNumB_iff.2 hd)
 have e0 : (d == 0) = false := by simpa using h0
 have hq := quo_num (n := n) (d := d) hn h0
 have hm1 := Int.emod_nonneg n h0
 have hm2 := Int.emod_lt n h0
 have HQ := Lib.hid (exact_quo (n := n) h0)
 by_cases h : n.tmod d < 0
 ·have h1 := (tmod_neg h0 h).2
  go_enter Tryz.func113, Tryz.ntmps113
  go_wp2_with fail
  refine (isNumber_c _ _).mono ?_
  rintro e w' ⟨rfl, rfl⟩
  rw [H.out]
  go_wp2_with fail
  refine (isNumber_c _ _).mono ?_
  rintro e w' ⟨rfl, rfl⟩
  rw [H2.out]
  go_wp2_with fail
  refine (absInt_c _ _ (by omega)).mono ?_
  rintro e w' ⟨rfl, rfl⟩
  have H1 := Lib.hid h1; clear h1
  go_wp2
  go_ret3
  have k1 : wrap64 (n.tmod d + ↑d.natAbs) = n % d := by rw [H1.out]; unfold wrap64; omega
  have k2 : wrap64 (n - n % d) = n - n % d := by unfold wrap64; omega
  have k3 : wrap64 (n / d) = n / d := by unfold wrap64; omega
  exact ⟨ret_ii (by first | rw [k1, k2, HQ.out, k3] | rw [H1.out, k2, HQ.out, k3]) (by first | exact k1 | exact H1.out), rfl⟩
 ·have h1 := (tmod_pos (n := n) (d := d) h0 (by omega)).2
  have H1 := Lib.hid h1; clear h1
  go_enter Tryz.func113, Tryz.ntmps113
  go_wp2_with fail
  refine (isNumber_c _ _).mono ?_
  rintro e w' ⟨rfl, rfl⟩
  rw [H.out]
  go_wp2_with fail
  refine (isNumber_c _ _).mono ?_
  rintro e w' ⟨rfl, rfl⟩
  rw [H2.out]
  go_wp2
  go_ret3
  have k2 : wrap64 (n - n % d) = n - n % d := by unfold wrap64; omega
  have k3 : wrap64 (n / d) = n / d := by unfold wrap64; omega
  exact ⟨ret_ii (by rw [H1.out, k2, HQ.out, k3]) H1.out, rfl⟩
end Go.Proofs.YtjepiemflpjjhaaGreat

namespace Go.Proofs.YtjepiemflpjjhaaGreat
open Go.RowKit
theorem ints_get {xs : List Int} {j : Nat} {x : Int} (hj : j < xs.length) (hx : xs.getD j 0 = x) : (ints xs)[j]? = some (.int .i64 x) := by
 rw [List.getElem?_map, List.getElem?_eq_getElem hj]
 simp [List.getD, List.getElem?_eq_getElem hj] at hx
 rw [← hx]; rfl
theorem Keep.on {S T : Nat → Prop} {a b c : World} (h : Keep S a b) (k : Keep T b c) (hT : ∀ i, i < a.heap.size → S i → T i) : Keep S a c :=
 ⟨k.os.trans h.os, k.tape.trans h.tape, k.output.trans h.output, Nat.le_trans h.size k.size, fun x hx => (k.frozen x (Nat.lt_of_lt_of_le hx h.size)).trans (h.frozen x hx),
  fun i hi hs => (k.block i (Nat.lt_of_lt_of_le hi h.size) (hT i hi hs)).trans (h.block i hi hs)⟩
end Go.Proofs.YtjepiemflpjjhaaGreat

namespace Go.Proofs.YtjepiemflpjjhaaGreat
open Go.RowKit
theorem l5Swap_c (a : Option Addr) (n cp C i p R : Nat) (t : Int) (m : List Int) (w : World) (h : Own w 3 1 a n cp (ints m)) (hmR : m.length = R * C) (hiR : i < R) (hpR : p < R) (hip : i ≠ p) (hm : NumL m) (hn : n ≤ 1048576) (hi2 : i ≤ 1048576) (hp2 : p ≤ 1048576) (hC2 : C ≤ 1048576) :
  Calls Tryz.prog 107 #[.agg #[.int .i64 (R : Int), .int .i64 C, .slice a n cp], .agg #[.int .i64 0, .int .i64 i, .int .i64 p, .int .i64 t]] w fun e w' => e = .returned (.tuple #[]) ∧ Own w' 3 1 a n cp (ints (swR m C i p)) ∧ Keep (fun q => blk a ≠ some q) w w' := by
 have hi := row_le hmR hiR
 have hp := row_le hmR hpR
 rw [show m.length = n by simpa using h.len] at hi hp
 obtain ⟨kd, hkd⟩ : ∃ kd : Int, kd = 0 := ⟨_, rfl⟩
 rw [← hkd]
 have hl : m.length = n := by simpa using h.len
 have hG2 : Grow w ((w.alloc (.cells #[.int .i64 R, .int .i64 (C : Int), .slice a n cp] 40)).alloc (.cells #[.int .i64 kd, .int .i64 (i : Int), .int .i64 (p : Int), .int .i64 t] 99)) := ((Grow.refl w).alloc _ _).alloc _ _
 obtain ⟨w2, hw2⟩ : ∃ w2, w2 = (w.alloc (.cells #[.int .i64 R, .int .i64 (C : Int), .slice a n cp] 40)).alloc (.cells #[.int .i64 kd, .int .i64 (i : Int), .int .i64 (p : Int), .int .i64 t] 99) := ⟨_, rfl⟩
 have bM : Blk w2 w.heap.size #[.int .i64 R, .int .i64 (C : Int), .slice a n cp] 40 := by rw [hw2]; exact (Blk.new w _ _).alloc _
 have bX : Blk w2 (w.heap.size + 1) #[.int .i64 kd, .int .i64 (i : Int), .int .i64 (p : Int), .int .i64 t] 99 := by rw [hw2]; exact Blk.newAt _ _ _ (by simp)
 have hO0 : Own w2 3 1 a n cp (ints m) := by rw [hw2]; exact h.grow hG2
 rw [← hw2] at hG2
 have nM : blk a ≠ some w.heap.size := fun e => by have := h.lt e; omega
 have nX : blk a ≠ some (w.heap.size + 1) := fun e => by have := h.lt e; omega
 have Hw2 := Lib.hid hw2; clear hw2
 clear h
 subst hkd
 go_enter Tryz.func107, Tryz.ntmps107
 go_wp2
 rw [← Hw2.out]
 go_loopw [4] (fun q wr => Keep (fun q => blk a ≠ some q) w2 wr ∧ ∃ k : Nat, k ≤ C ∧ q = .int .i64 k ∧ Own wr 3 1 a n cp (ints (swN m C i p k))) (fun q _ => C - (intOf q).toNat)
 case atStart => exact ⟨Keep.refl _ _, 0, Nat.zero_le _, rfl, hO0⟩
 case round =>
  clear hO0
  obtain ⟨hK, k, hk, rfl, hO⟩ := hrel
  have bMr := bM.keep hK nM
  obtain ⟨⟨a0, a1, a2⟩, -⟩ := bMr.three
  by_cases hlt : k < C
  ·have bXr := bX.keep hK nX
   have x0 := bXr.cell 0
   have x1 := bXr.cell 1
   have x2 := bXr.cell 2
   have x3 := bXr.cell 3
   simp only [List.getElem?_toArray, List.getElem?_cons_zero, List.getElem?_cons_succ] at x0 x1 x2 x3
   have hlen : (swN m C i p k).length = n := by rw [swN_len, hl]
   have hg1 : (swN m C i p k).getD (i * C + k) 0 = cell m C i k := by rw [swN_getD hmR hiR hpR hip k (by omega) i k hlt, if_neg (by omega), if_neg (by omega)]
   have hg2 : (swN m C i p k).getD (p * C + k) 0 = cell m C p k := by
    rw [swN_getD hmR hiR hpR hip k (by omega) p k hlt, if_neg (by omega), if_neg (by omega)]
   obtain ⟨pb, rfl⟩ : ∃ pb, a = some ⟨pb, 0, none⟩ := by
    cases a with
    | none => have := hO.nil rfl; have := hO.le; omega
    | some q => exact ⟨q.block, by rw [← (hO.block q rfl).1]⟩
   have hc1 := hO.cell (ints_get (by omega) hg1)
   have hc2 := hO.cell (ints_get (by omega) hg2)
   have hfr := hO.free (i * C + k)
   have hpb := hO.lt (g := pb) rfl
   have hsA := hm.getD (i * C + k)
   have hsB := hm.getD (p * C + k)
   have u1 := mul_wrap (i := i) (c := C) hi2 hC2
   have u2 := idx_wrap (i := i) (c := C) (j := k) hi2 hC2 (by omega) rfl
   have u3 := mul_wrap (i := p) (c := C) hp2 hC2
   have u4 := idx_wrap (i := p) (c := C) (j := k) hp2 hC2 (by omega) rfl
   have hle := hO.le
   change -400000000 ≤ cell m C i k ∧ cell m C i k ≤ 400000000 at hsA
   change -400000000 ≤ cell m C p k ∧ cell m C p k ≤ 400000000 at hsB
   have hcx : i * C + k ≠ p * C + k := fun e => hip (place_eq hlt hlt e).1
   have hO9 := ((hO.set (i * C + k) (.int .i64 (cell m C p k))).set (p * C + k) (.int .i64 (cell m C i k)))
   rw [← ints_set, ← ints_set] at hO9
   have Hu := Lib.hid (show swN m C i p (k + 1) = ((swN m C i p k).set (i * C + k) (cell m C p k)).set (p * C + k) (cell m C i k) from rfl)
   have hfr2 := hO.free (p * C + k)
   clear hO hg1 hg2 hlen
   generalize cell m C i k = ca at hc1 hsA hO9 Hu
   generalize cell m C p k = cb at hc2 hsB hO9 Hu
   generalize hix : i * C + k = ix at *
   generalize hiy : p * C + k = iy at *
   have hlx : ix < n := by omega
   have hly : iy < n := by omega
   clear hix hiy
   simp only at hc1 hc2 hfr hfr2 hO9
   have n1 : pb ≠ w.heap.size := fun e => nM (by rw [e]; rfl)
   have n2 : pb ≠ w.heap.size + 1 := fun e => nX (by rw [e]; rfl)
   have n3 := Ne.symm n1
   have n4 := Ne.symm n2
   go_wp2
   have hKs : Keep (fun q => blk (some (⟨pb, 0, none⟩ : Addr)) ≠ some q) wr ((wr.setCell ⟨pb, ix, none⟩ (.int .i64 cb)).setCell ⟨pb, iy, none⟩ (.int .i64 ca)) := ((Keep.refl _ wr).setCell (p := ⟨pb, ix, none⟩) (fun _ e => e rfl) _).setCell (p := ⟨pb, iy, none⟩) (fun _ e => e rfl) _
   go_roundw
   case rel => exact ⟨hK.trans hKs, k + 1, by omega, by go_num, by rw [Hu.out]; exact hO9⟩
   case measure => simp [intOf]; omega
  ·have hkC : k = C := by omega
   subst hkC
   go_wp2
   exact bodyPost_end (results_none rfl _ _ _) rfl ⟨rfl, hO, (hG2.any).on hK (fun q hq hne => hne)⟩
end Go.Proofs.YtjepiemflpjjhaaGreat

namespace Go.Proofs.YtjepiemflpjjhaaGreat
open Go.RowKit
structure Two (w : World) (a u : Option Addr) (na nu ca cu : Nat) (s : HS) : Prop where
 oa : Own w 3 1 a na ca (ints s.1)
 ou : Own w 3 1 u nu cu (ints s.2)
 ne : ∀ q, blk a = some q → blk u ≠ some q
theorem Two.keep {w w' : World} {T : Nat → Prop} {a u : Option Addr} {na nu ca cu : Nat} {s : HS} (h : Two w a u na nu ca cu s) (hk : Keep T w w') (h1 : ∀ g, blk a = some g → T g) (h2 : ∀ g, blk u = some g → T g) : Two w' a u na nu ca cu s :=
 ⟨h.oa.keep hk (fun g hg _ => h1 g hg), h.ou.keep hk (fun g hg _ => h2 g hg), h.ne⟩
theorem Two.grow {w w' : World} {a u : Option Addr} {na nu ca cu : Nat} {s : HS} (h : Two w a u na nu ca cu s) (hk : Grow w w') : Two w' a u na nu ca cu s := h.keep hk (fun _ _ => trivial) (fun _ _ => trivial)
theorem row_le' {R C i n : Nat} (hn : n = R * C) (hi : i < R) : i * C + C ≤ n := by
 subst hn
 have : (i + 1) * C ≤ R * C := Nat.mul_le_mul_right _ hi
 rw [Nat.add_mul] at this; omega
end Go.Proofs.YtjepiemflpjjhaaGreat

namespace Go.Proofs.YtjepiemflpjjhaaGreat
open Go.RowKit
end Go.Proofs.YtjepiemflpjjhaaGreat

namespace Go.Proofs.YtjepiemflpjjhaaGreat
open Go.RowKit
theorem aloneB_no {m : List Int} {C R j p t i : Nat} (h1 : t ≤ i) (h2 : i < R) (h3 : i ≠ p) (h4 : cell m C i j ≠ 0) : aloneB m C R j p t = false := by
 rw [Bool.eq_false_iff]; intro e
 exact h4 (aloneB_iff.1 e i h1 h2 h3)
end Go.Proofs.YtjepiemflpjjhaaGreat
