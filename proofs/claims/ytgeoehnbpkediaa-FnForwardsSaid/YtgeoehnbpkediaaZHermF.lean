/-
  The reference's numbers with marks: sums, products, quotients; cells; whether a mark is in a list.
-/
import Derived.Test.YtgeoehnbpkediaaZHerm
import Derived.Test.YtgeoehnbpkediaaZBase
set_option maxHeartbeats 8000000
set_option maxRecDepth 100000
namespace Go.Proofs.Ytgeoehnbpkediaa
open Go.RowKit
end Go.Proofs.Ytgeoehnbpkediaa

namespace Go.Proofs.Ytgeoehnbpkediaa
open Go.RowKit
theorem tmod_neg {n d : Int} (hd : d ≠ 0) (h : n.tmod d < 0) : n.tdiv d = n / d + d.sign ∧ n.tmod d + d.natAbs = n % d := by
 have h1 := Int.tdiv_eq_ediv (a := n) (b := d)
 have h2 := Int.tmod_eq_emod (a := n) (b := d)
 have h3 := Int.emod_nonneg n hd
 by_cases hc : 0 ≤ n ∨ d ∣ n
 ·rw [if_pos hc] at h2; omega
 ·rw [if_neg hc] at h1 h2; omega
theorem tmod_pos {n d : Int} (hd : d ≠ 0) (h : 0 ≤ n.tmod d) : n.tdiv d = n / d ∧ n.tmod d = n % d := by
 have h1 := Int.tdiv_eq_ediv (a := n) (b := d)
 have h2 := Int.tmod_eq_emod (a := n) (b := d)
 have h3 := Int.emod_lt n hd
 by_cases hc : 0 ≤ n ∨ d ∣ n
 ·rw [if_pos hc] at h1 h2; omega
 ·rw [if_neg hc] at h2; omega
theorem exact_quo {n d : Int} (hd : d ≠ 0) : (n - n % d).tdiv d = n / d := by
 have h : n - n % d = d * (n / d) := by have := Int.emod_def n d; omega
 rw [h, Int.mul_tdiv_cancel_left _ hd]
theorem ret_ii {a b c d : Int} (h1 : a = b) (h2 : c = d) : Ending.returned (.tuple #[.int .i64 a, .int .i64 c, .bool true]) = .returned (.tuple #[.int .i64 b, .int .i64 d, .bool true]) := by rw [h1, h2]
theorem absInt_c (a : Int) (w : World) (h : -9223372036854775807 ≤ a ∧ a ≤ 9223372036854775807) : Calls Try.prog 72 #[.int .i64 a] w fun e w' => e = .returned (.int .i64 (a.natAbs : Int)) ∧ w = w' := by
 go_enter Try.func72, Try.ntmps72
 go_wp2
 all_goals (go_ret; exact ⟨ret_int (by omega), rfl⟩)
theorem iDivideFloor_c (n d : Int) (w : World) (hn : -400000000 ≤ n ∧ n ≤ 400000000) (hd : -400000000 ≤ d ∧ d ≤ 400000000) (h0 : d ≠ 0) : Calls Try.prog 60 #[.int .i64 n, .int .i64 d] w fun e w' => e = .returned (.tuple #[.int .i64 (n / d), .int .i64 (n % d), .bool true]) ∧ w = w' := by
 have H := Lib.hid (isNumB_iff.2 hn); have H2 := Lib.hid (isNumB_iff.2 hd)
 have e0 : (d == 0) = false := by simpa using h0
 have hq := quo_num (n := n) (d := d) hn h0
 have hm1 := Int.emod_nonneg n h0
 have hm2 := Int.emod_lt n h0
 have HQ := Lib.hid (exact_quo (n := n) h0)
 by_cases h : n.tmod d < 0
 ·have h1 := (tmod_neg h0 h).2
  go_enter Try.func60, Try.ntmps60
  go_wp2_with fail
  refine (isNumber_c _ _).mono ?_
  rintro e w' ⟨rfl, rfl⟩
  rw [H.out]
  go_wp2_with fail
  refine (isNumber_c _ _).mono ?_
  rintro e w' ⟨rfl, rfl⟩
  rw [H2.out]
  go_wp2_with fail
  refine (absInt_c _ _ (by omega)).mono ?_
  rintro e w' ⟨rfl, rfl⟩
  have H1 := Lib.hid h1; clear h1
  go_wp2
  go_ret3
  have k1 : wrap64 (n.tmod d + ↑d.natAbs) = n % d := by rw [H1.out]; unfold wrap64; omega
  have k2 : wrap64 (n - n % d) = n - n % d := by unfold wrap64; omega
  have k3 : wrap64 (n / d) = n / d := by unfold wrap64; omega
  exact ⟨ret_ii (by first | rw [k1, k2, HQ.out, k3] | rw [H1.out, k2, HQ.out, k3]) (by first | exact k1 | exact H1.out), rfl⟩
 ·have h1 := (tmod_pos (n := n) (d := d) h0 (by omega)).2
  have H1 := Lib.hid h1; clear h1
  go_enter Try.func60, Try.ntmps60
  go_wp2_with fail
  refine (isNumber_c _ _).mono ?_
  rintro e w' ⟨rfl, rfl⟩
  rw [H.out]
  go_wp2_with fail
  refine (isNumber_c _ _).mono ?_
  rintro e w' ⟨rfl, rfl⟩
  rw [H2.out]
  go_wp2
  go_ret3
  have k2 : wrap64 (n - n % d) = n - n % d := by unfold wrap64; omega
  have k3 : wrap64 (n / d) = n / d := by unfold wrap64; omega
  exact ⟨ret_ii (by rw [H1.out, k2, HQ.out, k3]) H1.out, rfl⟩
end Go.Proofs.Ytgeoehnbpkediaa

namespace Go.Proofs.Ytgeoehnbpkediaa
open Go.RowKit
theorem ints_get {xs : List Int} {j : Nat} {x : Int} (hj : j < xs.length) (hx : xs.getD j 0 = x) : (ints xs)[j]? = some (.int .i64 x) := by
 rw [List.getElem?_map, List.getElem?_eq_getElem hj]
 simp [List.getD, List.getElem?_eq_getElem hj] at hx
 rw [← hx]; rfl
theorem Keep.on {S T : Nat → Prop} {a b c : World} (h : Keep S a b) (k : Keep T b c) (hT : ∀ i, i < a.heap.size → S i → T i) : Keep S a c :=
 ⟨k.os.trans h.os, k.tape.trans h.tape, k.output.trans h.output, Nat.le_trans h.size k.size, fun x hx => (k.frozen x (Nat.lt_of_lt_of_le hx h.size)).trans (h.frozen x hx),
  fun i hi hs => (k.block i (Nat.lt_of_lt_of_le hi h.size) (hT i hi hs)).trans (h.block i hi hs)⟩
end Go.Proofs.Ytgeoehnbpkediaa

namespace Go.Proofs.Ytgeoehnbpkediaa
open Go.RowKit
end Go.Proofs.Ytgeoehnbpkediaa

namespace Go.Proofs.Ytgeoehnbpkediaa
open Go.RowKit
structure Two (w : World) (a u : Option Addr) (na nu ca cu : Nat) (s : HS) : Prop where
 oa : Own w 3 1 a na ca (ints s.1)
 ou : Own w 3 1 u nu cu (ints s.2)
 ne : ∀ q, blk a = some q → blk u ≠ some q
theorem Two.keep {w w' : World} {T : Nat → Prop} {a u : Option Addr} {na nu ca cu : Nat} {s : HS} (h : Two w a u na nu ca cu s) (hk : Keep T w w') (h1 : ∀ g, blk a = some g → T g) (h2 : ∀ g, blk u = some g → T g) : Two w' a u na nu ca cu s :=
 ⟨h.oa.keep hk (fun g hg _ => h1 g hg), h.ou.keep hk (fun g hg _ => h2 g hg), h.ne⟩
theorem Two.grow {w w' : World} {a u : Option Addr} {na nu ca cu : Nat} {s : HS} (h : Two w a u na nu ca cu s) (hk : Grow w w') : Two w' a u na nu ca cu s := h.keep hk (fun _ _ => trivial) (fun _ _ => trivial)
theorem row_le' {R C i n : Nat} (hn : n = R * C) (hi : i < R) : i * C + C ≤ n := by
 subst hn
 have : (i + 1) * C ≤ R * C := Nat.mul_le_mul_right _ hi
 rw [Nat.add_mul] at this; omega
end Go.Proofs.Ytgeoehnbpkediaa

namespace Go.Proofs.Ytgeoehnbpkediaa
open Go.RowKit
end Go.Proofs.Ytgeoehnbpkediaa

namespace Go.Proofs.Ytgeoehnbpkediaa
open Go.RowKit
theorem aloneB_no {m : List Int} {C R j p t i : Nat} (h1 : t ≤ i) (h2 : i < R) (h3 : i ≠ p) (h4 : cell m C i j ≠ 0) : aloneB m C R j p t = false := by
 rw [Bool.eq_false_iff]; intro e
 exact h4 (aloneB_iff.1 e i h1 h2 h3)
end Go.Proofs.Ytgeoehnbpkediaa
