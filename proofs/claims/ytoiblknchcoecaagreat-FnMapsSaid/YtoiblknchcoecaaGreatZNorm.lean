/-
  The normal form of a vector over a basis: plain; the first place of a row that is not 0, both.
-/
import Derived.Test.YtoiblknchcoecaaGreatZBasI
import Derived.Test.YtoiblknchcoecaaGreatZBase
import Derived.Test.YtoiblknchcoecaaGreatZIsMat
set_option maxHeartbeats 8000000
set_option maxRecDepth 100000
namespace Go.Proofs.YtoiblknchcoecaaGreat
open Go.RowKit
structure Bas (m : Mat) (C N : Nat) (b : List Int) : Prop where
 eq : basB m = { rows := (N : Int), cols := (C : Int), cells := b }
 cols : m.cols = (C : Int)
 hC : C ≤ 24
 hN : N ≤ 24
 len : b.length = N * C
 num : NumL b
 full : ∀ i, i < N → ∃ k, k < C ∧ cell b C i k ≠ 0
theorem cell_take {m : List Int} {C t i k : Nat} (hi : i < t) (hk : k < C) : cell (m.take (t * C)) C i k = cell m C i k := by
 have h1 : i * C + k < t * C := place_lt hk hi
 unfold cell
 simp only [List.getD_eq_getElem?_getD, List.getElem?_take]
 rw [if_pos h1]
theorem bas_of {m : Mat} (h : basOk m = true) : ∃ C N b, Bas m C N b := by
 cases hB : isMatB m with
 | false =>
  have := (basB_none (m := m) (by unfold hermR; rw [hB]; rfl)).1
  rw [this] at h; cases h
 | true =>
  obtain ⟨R, C, hmr, hmc, hR, hC, hl, hnum⟩ := isMatB_shape hB
  obtain ⟨mr, mc, cells⟩ := m
  simp only at hmr hmc hl hnum
  subst hmr
  subst hmc
  cases hh : herm cells R C with
  | none =>
   have := (basB_none (m := { rows := (R : Int), cols := (C : Int), cells := cells }) (by rw [hermR_mat hB]; exact hh)).1
   rw [this] at h; cases h
  | some s =>
   obtain ⟨hs, t, ht, hE⟩ := herm_spec hl hnum hh
   have e := ech_last hE R (Nat.le_refl _) ht
   refine ⟨C, t, s.1.take (t * C), ?_, rfl, hC, by omega, ?_, fun x hx => hs.na x (List.mem_of_mem_take hx), fun i hi => ?_⟩
   ·rw [(basB_some hB hh).2, e]
   ·rw [List.length_take, hs.la]
    have := Nat.mul_le_mul_right C ht
    omega
   ·obtain ⟨k, hk, hne⟩ := hE.full i hi
    exact ⟨k, hk, by rw [cell_take hi hk]; exact hne⟩
def fz (xs : List Int) : Nat := xs.findIdx fun x => x != 0
theorem fz_eq {xs : List Int} {k : Nat} {x : Int} (hx : xs[k]? = some x) (hne : x ≠ 0) (hz : ∀ y ∈ xs.take k, y = 0) : fz xs = k := by
 unfold fz
 have hk : k < xs.length := (List.getElem?_eq_some_iff.1 hx).1
 have hxk : xs[k] = x := (List.getElem?_eq_some_iff.1 hx).2
 rw [List.findIdx_eq hk]
 refine ⟨by simp [hxk, hne], fun j hj => ?_⟩
 have hm : xs[j] ∈ xs.take k := by
  rw [List.mem_take_iff_getElem]
  exact ⟨j, by omega, rfl⟩
 simp [hz _ hm]
theorem fz_lt {xs : List Int} (h : ∃ x ∈ xs, x ≠ 0) : fz xs < xs.length := by
 obtain ⟨x, hx, hne⟩ := h
 exact List.findIdx_lt_length_of_exists ⟨x, hx, by simp [hne]⟩
theorem fz_ne {xs : List Int} (h : ∃ x ∈ xs, x ≠ 0) : ∃ x, xs[fz xs]? = some x ∧ x ≠ 0 := by
 have hlt := fz_lt h
 exact ⟨xs[fz xs], List.getElem?_eq_getElem hlt, fun e => by
  have h2 : (fun x : Int => x != 0) xs[fz xs] = true := List.findIdx_getElem (w := hlt)
  simp [e] at h2⟩
theorem fz_zero {xs : List Int} : ∀ y ∈ xs.take (fz xs), y = 0 := fun y hy => by
 rw [List.mem_take_iff_getElem] at hy
 obtain ⟨j, hj, rfl⟩ := hy
 have := List.not_of_lt_findIdx (p := fun x : Int => x != 0) (xs := xs) (i := j) (by unfold fz at hj; omega)
 simpa using this
def fcI (xs : List Int) : Int := if zeroL xs = true then -1 else (fz xs : Nat)
theorem fcI_some {xs : List Int} {k : Nat} {x : Int} (hx : xs[k]? = some x) (hne : x ≠ 0) (hz : ∀ y ∈ xs.take k, y = 0) : fcI xs = (k : Int) := by
 unfold fcI
 rw [zeroL_no hx (by simp [hne]), fz_eq hx hne hz]
 simp
theorem firstCell_c {S : Nat → Prop} (a : Option Addr) (n cap : Nat) (xs : List Int) (w : World) (h : RdI w S a n cap xs) (hn : n ≤ 2097152) :
  Calls Tryz.prog 70 #[.slice a n cap] w fun e w' => e = .returned (.int .i64 (fcI xs)) ∧ w = w' := by
 have hcl : ∀ (x : Int) (w : World), Calls Tryz.prog 98 #[.int .i64 x] w fun e w' => e = .returned (.bool (!(x == 0))) ∧ w = w' := fun x w => by
  by_cases hx : x = 0
  ·subst hx
   go_enter Tryz.func98, Tryz.ntmps98
   go_wp2
   go_ret
   exact ⟨ret_bool rfl, rfl⟩
  ·have e1 : (x == 0) = false := by simp [hx]
   have e2 : (x != 0) = true := by simp [hx]
   clear hx
   go_enter Tryz.func98, Tryz.ntmps98
   go_wp2
   go_ret
   exact ⟨ret_bool (by rw [e1]; rfl), rfl⟩
 have Hl := Lib.hid h.len
 have hidx : Calls Tryz.prog 97 #[.slice a n cap, .func (.func 98) #[] #[]] w fun e w' => e = .returned (.int .i64 (fcI xs)) ∧ w = w' := by
  go_enter Tryz.func97, Tryz.ntmps97
  go_wp2
  go_loop [8] (fun i => ∃ k : Nat, k ≤ n ∧ i = .int .i64 k ∧ ∀ x ∈ xs.take k, (x == 0) = true) (fun i => n - (intOf i).toNat)
  case atStart => exact ⟨0, Nat.zero_le _, rfl, by simp⟩
  case round =>
   obtain ⟨k, hk, rfl, he⟩ := hrel
   have He := Lib.hid he; clear he
   by_cases hlt : k < n
   ·obtain ⟨b, off, x, rfl, hx, hr, _, hb, hc⟩ := h.at hlt
    have Hx := Lib.hid hx; clear hx
    cases h0 : x == 0 with
    | true =>
     have H0 := Lib.hid h0; clear h0
     go_wp2_with fail
     refine (hcl _ _).mono ?_
     rintro e w' ⟨rfl, rfl⟩
     rw [H0.out]
     go_wp2
     go_round
     case rel =>
      refine ⟨k + 1, by omega, by go_num, fun z hz => ?_⟩
      rw [take_succ Hx.out, List.mem_append, List.mem_singleton] at hz
      rcases hz with hz | rfl
      ·exact He.out z hz
      ·exact H0.out
     case measure => simp [intOf]; omega
    | false =>
     have H0 := Lib.hid h0; clear h0
     go_wp2_with fail
     refine (hcl _ _).mono ?_
     rintro e w' ⟨rfl, rfl⟩
     rw [H0.out]
     go_wp2
     go_ret
     exact ⟨by rw [fcI_some Hx.out (by have := H0.out; simpa using this) (fun y hy => by have := He.out y hy; simpa using this)]; rfl, rfl⟩
   ·go_wp2
    go_ret
    have : k = n := by omega
    subst this
    have := He.out
    rw [take_all Hl.out] at this
    exact ⟨by unfold fcI; rw [zeroL_yes this]; rfl, rfl⟩
 go_enter Tryz.func70, Tryz.ntmps70
 go_wp2_with fail
 refine hidx.mono ?_
 rintro e w' ⟨rfl, rfl⟩
 go_wp2
 go_ret
 exact ⟨rfl, rfl⟩
theorem rowL_take {m : List Int} {C R i p : Nat} (hl : m.length = R * C) (hi : i < R) (hz : ∀ k, k < p → cell m C i k = 0) (hp : p ≤ C) : ∀ y ∈ (rowL m C i).take p, y = 0 := fun y hy => by
 rw [List.mem_take_iff_getElem] at hy
 obtain ⟨j, hj, rfl⟩ := hy
 have hjC : j < C := by omega
 have := rowL_at hl hi hjC
 rw [List.getElem?_eq_getElem (by omega)] at this
 rw [Option.some.inj this]
 exact hz j (by omega)
theorem rowL_ex {m : List Int} {C R i : Nat} (hl : m.length = R * C) (hi : i < R) (hf : ∃ k, k < C ∧ cell m C i k ≠ 0) : ∃ x ∈ rowL m C i, x ≠ 0 := by
 obtain ⟨k, hk, hne⟩ := hf
 exact ⟨_, List.mem_of_getElem? (rowL_at hl hi hk), hne⟩
theorem fz_row {m : List Int} {C R i : Nat} (hl : m.length = R * C) (hi : i < R) (hf : ∃ k, k < C ∧ cell m C i k ≠ 0) : fz (rowL m C i) < C ∧ cell m C i (fz (rowL m C i)) ≠ 0 := by
 have h1 := fz_lt (rowL_ex hl hi hf)
 rw [rowL_len hl hi] at h1
 obtain ⟨x, hx, hne⟩ := fz_ne (rowL_ex hl hi hf)
 rw [rowL_at hl hi h1] at hx
 exact ⟨h1, by rw [Option.some.inj hx]; exact hne⟩
theorem fc_row {m : List Int} {C R i : Nat} (hl : m.length = R * C) (hi : i < R) (hf : ∃ k, k < C ∧ cell m C i k ≠ 0) : fcI (rowL m C i) = (fz (rowL m C i) : Nat) := by
 obtain ⟨x, hx, hne⟩ := fz_ne (rowL_ex hl hi hf)
 exact fcI_some hx hne fz_zero
theorem l16Pivot_c {S : Nat → Prop} (a : Option Addr) (n cp C i R : Nat) (m : List Int) (w : World) (h : RdI w S a n cp m) (hl : m.length = R * C) (hi : i < R) (hR : R ≤ 24) (hC : C ≤ 24) (hf : ∃ k, k < C ∧ cell m C i k ≠ 0) :
  Calls Tryz.prog 87 #[.agg #[.int .i64 R, .int .i64 C, .slice a n cp], .int .i64 i] w fun e w' => e = .returned (.int .i64 ((fz (rowL m C i) : Nat) : Int)) ∧ Grow w w' := by
 obtain ⟨hfC, hfne⟩ := fz_row hl hi hf
 have hnl := h.len
 have Hz := Lib.hid (show ∀ k, (∀ j, j < k → cell m C i j = 0) → k ≤ C → cell m C i k ≠ 0 → k < C → fz (rowL m C i) = k from fun k hz hk hne hkC => fz_eq (rowL_at hl hi hkC) hne (rowL_take hl hi hz hk))
 obtain ⟨w2, hw2⟩ : ∃ w2, w2 = w.alloc (.cells #[.int .i64 (R : Int), .int .i64 (C : Int), .slice a n cp] 26) := ⟨_, rfl⟩
 have hG2 : Grow w w2 := by rw [hw2]; exact (Grow.refl w).alloc _ _
 have bM : Blk w2 w.heap.size #[.int .i64 (R : Int), .int .i64 (C : Int), .slice a n cp] 26 := by rw [hw2]; exact Blk.new w _ _
 have Hw2 := Lib.hid hw2; clear hw2
 have Hnl := Lib.hid (show R * C = n by rw [← hnl, hl])
 clear hnl hl
 generalize fz (rowL m C i) = f at *
 have Hf := Lib.hid hfne
 clear hfne hf
 replace h := h.grow hG2
 go_enter Tryz.func87, Tryz.ntmps87
 go_wp2
 rw [← Hw2.out]
 go_loopw [5] (fun q wr => Grow w2 wr ∧ ∃ k : Nat, k ≤ f ∧ q = .int .i64 k ∧ ∀ j, j < k → cell m C i j = 0) (fun q _ => f - (intOf q).toNat)
 case atStart => exact ⟨Grow.refl _, 0, Nat.zero_le _, rfl, fun j hj => by omega⟩
 case round =>
  obtain ⟨hG, k, hk, rfl, hz⟩ := hrel
  have HZ := Lib.hid hz; clear hz
  have bMr := bM.grow hG
  obtain ⟨⟨a0, a1, a2⟩, -⟩ := bMr.three
  have hltM := bMr.lt
  have hni : i * C + k < n := by rw [← Hnl.out]; exact place_lt (by omega) hi
  go_wp2_with fail
  refine (l12Cell_c a n cp C i k (R : Int) m _ (h.grow hG) hni (by omega) (by omega) (by omega)).mono ?_
  rintro e w3 ⟨rfl, hG3⟩
  by_cases hx0 : cell m C i k = 0
  ·have hkf : k ≠ f := fun e => Hf.out (e ▸ hx0)
   have H0 := Lib.hid hx0
   rw [hx0]
   clear hni hx0
   go_wp2
   go_roundw
   case rel => exact ⟨hG.trans hG3, k + 1, by omega, by go_num, fun j hj => by
    by_cases e : j = k
    ·subst e; exact H0.out
    ·exact HZ.out j (by omega)⟩
   case measure => simp [intOf]; omega
  ·have hfk := Hz.out k HZ.out (by omega) hx0 (by omega)
   have q3 : (cell m C i k == 0) = false := by simpa using hx0
   have Hfk := Lib.hid hfk
   clear hni hfk
   go_wp2
   go_ret
   exact ⟨by rw [Hfk.out]; rfl, (hG2.trans hG).trans hG3⟩
end Go.Proofs.YtoiblknchcoecaaGreat

namespace Go.Proofs.YtoiblknchcoecaaGreat
def nrmV (m : List Int) (C i : Nat) (v : List Int) (q : Int) (k : Nat) : Int := v.getD k 0 - cell m C i k * q
def nrmOk (m : List Int) (C i : Nat) (v : List Int) (q : Int) : Bool := (List.range C).all fun k => isNumB (cell m C i k * q) && isNumB (nrmV m C i v q k)
def nrmQ (m : List Int) (C i : Nat) (v : List Int) : Int := v.getD (fz (rowL m C i)) 0 / cell m C i (fz (rowL m C i))
def nrm1 (m : List Int) (C i : Nat) (v : List Int) : Option (List Int) := if nrmOk m C i v (nrmQ m C i v) = true then some (updR (nrmV m C i v (nrmQ m C i v)) 0 C v) else none
def nrmN (m : List Int) (C : Nat) : Nat → Nat → List Int → Option (List Int)
 | 0, _, v => some v
 | n + 1, i, v => (nrm1 m C i v).bind (nrmN m C n (i + 1))
def nrmIn (r : Mat) (v : List Int) : Bool := basOk r && (decide ((v.length : Int) = r.cols) && numsB v)
def nrmR (r : Mat) (v : List Int) : Option (List Int) := if nrmIn r v = true then nrmN (basB r).cells (basB r).cols.toNat (basB r).rows.toNat 0 v else none
def nrmB (r : Mat) (v : List Int) : Bool := (nrmR r v).isSome
def nrmL (r : Mat) (v : List Int) : List Int := (nrmR r v).getD []
theorem nrmOk_iff {m : List Int} {C i : Nat} {v : List Int} {q : Int} : nrmOk m C i v q = true ↔ ∀ k, k < C → isNumB (cell m C i k * q) = true ∧ isNumB (nrmV m C i v q k) = true := by
 unfold nrmOk; rw [List.all_eq_true]
 constructor
 ·intro h k hk
  have := h k (List.mem_range.2 hk)
  rwa [Bool.and_eq_true] at this
 ·intro h k hk
  have := h k (List.mem_range.1 hk)
  rwa [Bool.and_eq_true]
theorem nrm_none {r : Mat} {v : List Int} (h : nrmR r v = none) : nrmB r v = false ∧ nrmL r v = [] := by
 unfold nrmB nrmL; rw [h]; exact ⟨rfl, rfl⟩
theorem nrm_some {r : Mat} {v x : List Int} (h : nrmR r v = some x) : nrmB r v = true ∧ nrmL r v = x := by
 unfold nrmB nrmL; rw [h]; exact ⟨rfl, rfl⟩
theorem nrmR_no {r : Mat} {v : List Int} (h : nrmIn r v = false) : nrmR r v = none := by
 unfold nrmR; rw [h]; rfl
theorem nrmR_yes {r : Mat} {v b : List Int} {C N : Nat} (hb : Bas r C N b) (h : nrmIn r v = true) : nrmR r v = nrmN b C N 0 v := by
 unfold nrmR; rw [h, hb.eq]; rfl
theorem nrmIn_bas {r : Mat} {v : List Int} (h : basOk r = false) : nrmIn r v = false := by unfold nrmIn; rw [h]; rfl
theorem nrmIn_len {r : Mat} {v : List Int} (h : (v.length : Int) ≠ r.cols) : nrmIn r v = false := by unfold nrmIn; rw [decide_eq_false h]; simp
theorem nrmIn_num {r : Mat} {v : List Int} (h : numsB v = false) : nrmIn r v = false := by unfold nrmIn; rw [h]; simp
theorem nrmIn_yes {r : Mat} {v : List Int} (h1 : basOk r = true) (h2 : (v.length : Int) = r.cols) (h3 : numsB v = true) : nrmIn r v = true := by unfold nrmIn; rw [h1, h3, decide_eq_true h2]; rfl
theorem numsB_L {v : List Int} (h : numsB v = true) : NumL v := fun x hx => isNumB_iff.1 (List.all_eq_true.1 h x hx)
theorem nrm1_no {m : List Int} {C i : Nat} {v : List Int} (h : nrmOk m C i v (nrmQ m C i v) = false) : nrm1 m C i v = none := by unfold nrm1; rw [h]; rfl
theorem nrm1_yes {m : List Int} {C i : Nat} {v : List Int} (h : nrmOk m C i v (nrmQ m C i v) = true) : nrm1 m C i v = some (updR (nrmV m C i v (nrmQ m C i v)) 0 C v) := by unfold nrm1; rw [h]; rfl
theorem nrmV_num {m : List Int} {C i : Nat} {v : List Int} {q : Int} (hv : NumL v) (h : nrmOk m C i v q = true) : NumL (updR (nrmV m C i v q) 0 C v) := fun x hx => by
 rcases updR_mem hx with hx | ⟨k, hk, rfl⟩
 ·exact hv x hx
 ·exact isNumB_iff.1 (nrmOk_iff.1 h k hk).2
theorem nrmN_no {m : List Int} {C n i : Nat} {v : List Int} (hn : 0 < n) (h : nrm1 m C i v = none) : nrmN m C n i v = none := by
 obtain ⟨n, rfl⟩ : ∃ k, n = k + 1 := ⟨n - 1, by omega⟩
 simp only [nrmN, h]; rfl
theorem nrmN_yes {m : List Int} {C n i : Nat} {v x : List Int} (hn : 0 < n) (h : nrm1 m C i v = some x) : nrmN m C n i v = nrmN m C (n - 1) (i + 1) x := by
 obtain ⟨n, rfl⟩ : ∃ k, n = k + 1 := ⟨n - 1, by omega⟩
 simp only [nrmN, h]; rfl
theorem nrm1_spec {m : List Int} {C i : Nat} {v x : List Int} (hv : NumL v) (h : nrm1 m C i v = some x) : NumL x ∧ x.length = v.length := by
 unfold nrm1 at h
 split at h
 ·rename_i hok
  obtain rfl := Option.some.inj h
  exact ⟨nrmV_num hv hok, updR_len _ _ _ _⟩
 ·cases h
theorem nrmN_spec {m : List Int} {C : Nat} : ∀ {n i : Nat} {v x : List Int}, NumL v → nrmN m C n i v = some x → NumL x ∧ x.length = v.length
 | 0, _, v, x, hv, h => by obtain rfl := Option.some.inj h; exact ⟨hv, rfl⟩
 | n + 1, i, v, x, hv, h => by
  simp only [nrmN] at h
  cases h1 : nrm1 m C i v with
  | none => rw [h1] at h; cases h
  | some y =>
   rw [h1] at h
   obtain ⟨a1, a2⟩ := nrm1_spec hv h1
   obtain ⟨b1, b2⟩ := nrmN_spec a1 (show nrmN m C n (i + 1) y = some x from h)
   exact ⟨b1, b2.trans a2⟩
theorem nrmR_spec {r : Mat} {v x : List Int} (h : nrmR r v = some x) : nrmIn r v = true ∧ NumL x ∧ x.length = v.length ∧ NumL v ∧ basOk r = true ∧ (v.length : Int) = r.cols := by
 cases hi : nrmIn r v with
 | false => rw [nrmR_no hi] at h; cases h
 | true =>
  have h0 := hi
  unfold nrmIn at h0
  rw [Bool.and_eq_true, Bool.and_eq_true, decide_eq_true_eq] at h0
  have hv := numsB_L h0.2.2
  unfold nrmR at h
  rw [hi, if_pos rfl] at h
  obtain ⟨a1, a2⟩ := nrmN_spec hv h
  exact ⟨rfl, a1, a2, hv, h0.1, h0.2.1⟩
def nrmVS (m : List Int) (C i : Nat) (v : List Int) (q : Int) (k : Nat) : Int := addS (v.getD k 0) (mulS (cell m C i k) (-q))
theorem isNumB_neg (x : Int) : isNumB (-x) = isNumB x := by
 rw [Bool.eq_iff_iff, isNumB_iff, isNumB_iff]; omega
theorem nrmVS_ok {m : List Int} {C i : Nat} {v : List Int} {q : Int} {k : Nat} (hm : NumL m) (hv : NumL v) (hq : -400000000 ≤ q ∧ q ≤ 400000000) (h1 : isNumB (cell m C i k * q) = true) (h2 : isNumB (nrmV m C i v q k) = true) : nrmVS m C i v q k = nrmV m C i v q k := by
 have hx := cell_num hm C i k
 have hy := hv.getD k
 unfold nrmVS
 have e1 : mulS (cell m C i k) (-q) = -(cell m C i k * q) := by
  unfold mulS
  rw [if_neg (by rintro (e | e); exact num_ne hx e; exact num_ne (by omega) e), Int.mul_neg, fitB_ok (by rw [isNumB_neg]; exact h1)]
 have h3 := isNumB_iff.1 h1
 rw [e1]
 unfold addS
 rw [if_neg (by rintro (e | e); exact num_ne hy e; exact num_ne (by omega) e)]
 exact fitB_ok h2
theorem nrmVS_no {m : List Int} {C i : Nat} {v : List Int} {q : Int} {k : Nat} (hm : NumL m) (hq : -400000000 ≤ q ∧ q ≤ 400000000) (h : ¬ (isNumB (cell m C i k * q) = true ∧ isNumB (nrmV m C i v q k) = true)) : nrmVS m C i v q k = badN := by
 have hx := cell_num hm C i k
 unfold nrmVS
 cases h1 : isNumB (cell m C i k * q) with
 | false =>
  have e : mulS (cell m C i k) (-q) = badN := by
   unfold mulS
   split
   ·rfl
   ·rw [Int.mul_neg]; exact fitB_bad (by rw [isNumB_neg]; exact h1)
  rw [e]; unfold addS; rw [if_pos (.inr rfl)]
 | true =>
  have e1 : mulS (cell m C i k) (-q) = -(cell m C i k * q) := by
   unfold mulS
   rw [if_neg (by rintro (e | e); exact num_ne hx e; exact num_ne (by omega) e), Int.mul_neg, fitB_ok (by rw [isNumB_neg]; exact h1)]
  have h2 : isNumB (nrmV m C i v q k) = false := by
   cases h2 : isNumB (nrmV m C i v q k) with
   | false => rfl
   | true => exact (h ⟨h1, h2⟩).elim
  rw [e1]
  unfold addS
  split
  ·rfl
  ·exact fitB_bad h2
theorem nrmS_yes {m : List Int} {C i : Nat} {v : List Int} {q : Int} (hm : NumL m) (hv : NumL v) (hq : -400000000 ≤ q ∧ q ≤ 400000000) (h : nrmOk m C i v q = true) : updR (nrmVS m C i v q) 0 C v = updR (nrmV m C i v q) 0 C v :=
 updR_congr fun k hk => nrmVS_ok hm hv hq (nrmOk_iff.1 h k hk).1 (nrmOk_iff.1 h k hk).2
theorem nrmS_no {m : List Int} {C i : Nat} {v : List Int} {q : Int} (hm : NumL m) (hl : v.length = C) (hq : -400000000 ≤ q ∧ q ≤ 400000000) (h : nrmOk m C i v q = false) : badN ∈ updR (nrmVS m C i v q) 0 C v := by
 obtain ⟨k, hk, hno⟩ : ∃ k, k < C ∧ ¬ (isNumB (cell m C i k * q) = true ∧ isNumB (nrmV m C i v q k) = true) := by
  rcases Classical.em (∃ k, k < C ∧ ¬ (isNumB (cell m C i k * q) = true ∧ isNumB (nrmV m C i v q k) = true)) with h1 | h1
  ·exact h1
  ·have : nrmOk m C i v q = true := nrmOk_iff.2 fun k hk => Classical.byContradiction fun h2 => h1 ⟨k, hk, h2⟩
   rw [this] at h; cases h
 have e : (updR (nrmVS m C i v q) 0 C v).getD k 0 = badN := by
  rw [updR_getD (by omega), if_pos (by omega), Nat.sub_zero]
  exact nrmVS_no hm hq hno
 rw [← e]
 exact mem_getD (by rw [updR_len]; omega)
theorem nrmQ_num {m : List Int} {C R i : Nat} {v : List Int} (hv : NumL v) (hl : m.length = R * C) (hi : i < R) (hf : ∃ k, k < C ∧ cell m C i k ≠ 0) : -400000000 ≤ nrmQ m C i v ∧ nrmQ m C i v ≤ 400000000 :=
 quo_num (hv.getD _) (fz_row hl hi hf).2
end Go.Proofs.YtoiblknchcoecaaGreat

namespace Go.Proofs.YtoiblknchcoecaaGreat
open Go.RowKit
theorem OI.empty {w : World} {F : Nat → Prop} {g : Nat} (hg : g = w.heap.size) (hF : F g) : OI (w.alloc (.cells #[] 3)) F (.slice (some ⟨g, 0, none⟩) 0 0) [] :=
 ⟨_, _, _, rfl, Own.freshAt (cs := #[]) hg (by unfold maxLen; omega) rfl, (fun x hx => by cases hx), fun q hq => by simp at hq; subst hq; exact hF⟩
theorem iNormalIn_c {S T : Nat → Prop} {rv vv : Value} {r : Mat} {v : List Int} {w : World} (h : VM w S rv r) (hb : bdM r ≤ 1048576) (hv : VI w T vv v) (hbv : bdI v ≤ 1048576) :
  Calls Tryz.prog 41 #[rv, vv] w fun e w' => ∃ x, e = .returned (.tuple #[x, .bool (nrmB r v)]) ∧ OI w' (New w w') x (nrmL r v) ∧ Grow w w' := by
 have hVM := h
 obtain ⟨a, n, c, rfl, h, ir, ic⟩ := h
 obtain ⟨a2, n2, c2, rfl, hv⟩ := hv
 have hl2 := hv.len
 unfold bdI at hbv
 have hG1 := (Grow.refl w).alloc #[.int .i64 r.rows, .int .i64 r.cols, .slice a n c] 26
 have bM := Blk.new w #[.int .i64 r.rows, .int .i64 r.cols, .slice a n c] 26
 go_enter Tryz.func41, Tryz.ntmps41
 go_wp2_with fail
 refine (iBasisOf_c (hVM.grow hG1) hb).mono ?_
 rintro e w2 ⟨rb, rfl, hB, hG2⟩
 obtain ⟨ba, bn, bc, rfl, oB, rB, fB, i1, i2⟩ := hB
 have hG12 := hG1.trans hG2
 have bM2 := bM.grow hG2
 cases hok : basOk r with
 | false =>
  have Hz := Lib.hid (nrm_none (nrmR_no (nrmIn_bas (v := v) hok)))
  have hs2 := hG12.size
  clear hok oB rB fB
  go_wp2
  go_ret2
  exact ⟨_, by rw [Hz.out.1]; rfl, by rw [Hz.out.2]; exact OI.empty (by simp) ⟨by omega, by simp⟩, (hG12.alloc _ _).alloc _ _⟩
 | true =>
  obtain ⟨C, N, b, hbas⟩ := bas_of hok
  have Hbas := Lib.hid hbas
  have hC24 := hbas.hC
  have hN24 := hbas.hN
  have Hok := Lib.hid hok
  rw [hbas.eq] at oB rB ⊢
  clear i1 i2
  obtain ⟨w3, hw3⟩ : ∃ w3, w3 = w2.alloc (.cells #[.int .i64 (N : Int), .int .i64 (C : Int), .slice ba bn bc] 26) := ⟨_, rfl⟩
  have hG3 : Grow w2 w3 := by rw [hw3]; exact (Grow.refl w2).alloc _ _
  have bB : Blk w3 w2.heap.size #[.int .i64 (N : Int), .int .i64 (C : Int), .slice ba bn bc] 26 := by rw [hw3]; exact Blk.new w2 _ _
  have rB0 : RdI w3 (fun g => g < w2.heap.size) ba bn bc b := (oB.rdI (S := fun g => g < w2.heap.size) (fun g hg => (fB g hg).2) rB).grow hG3
  have bM3 := bM2.grow hG3
  obtain ⟨⟨m0, m1, m2⟩, -⟩ := bM3.three
  rw [hw3] at m0 m1 m2
  have hltM := bM2.lt
  have hs12 := hG12.size
  have hs3 := hG3.size
  have hs3l : w2.heap.size < w3.heap.size := by rw [hw3]; simp
  have Hw3 := Lib.hid hw3
  have hcols := hbas.cols
  clear hok hbas hw3 oB rB fB bM bM2 bM3
  by_cases hlen : (n2 : Int) = r.cols
  ·have q1 : ((n2 : Int) == r.cols) = true := by simp [hlen]
   have q2 : ((n2 : Int) != r.cols) = false := by simp [hlen]
   have hnC : n2 = C := by omega
   subst hnC
   have Hcols := Lib.hid hcols
   have Hlen := Lib.hid hlen
   clear hcols hlen
   cases hnum : numsB v with
   | false =>
    have Hz := Lib.hid (nrm_none (nrmR_no (nrmIn_num (r := r) hnum)))
    have HN := Lib.hid hnum; clear hnum
    go_wp2_with fail
    rw [← Hw3.out]
    refine (areNumbers_c a2 n2 c2 v _ ((hv.grow hG12).grow hG3) (by omega)).mono ?_
    rintro e _ ⟨rfl, rfl⟩
    rw [HN.out]
    clear m0 m1 m2
    go_wp2
    go_ret2
    exact ⟨_, by rw [Hz.out.1]; rfl, by rw [Hz.out.2]; exact OI.empty rfl ⟨by omega, by simp⟩, (hG12.trans hG3).alloc _ _⟩
   | true =>
    have Hin := Lib.hid (nrmIn_yes (v := v) Hok.out (by rw [hl2]; exact Hlen.out) hnum)
    have hvN := numsB_L hnum
    have HN := Lib.hid hnum; clear hnum
    go_wp2_with fail
    rw [← Hw3.out]
    refine (areNumbers_c a2 n2 c2 v _ ((hv.grow hG12).grow hG3) (by omega)).mono ?_
    rintro e _ ⟨rfl, rfl⟩
    rw [HN.out]
    clear m0 m1 m2 q1 q2
    have hE : Own (w3.alloc (.cells #[] 3)) 3 1 (some ⟨w3.heap.size, 0, none⟩) 0 0 [] := Own.freshAt (cs := #[]) rfl (by unfold maxLen; omega) rfl
    go_wp2_with (at_builtin; refine wpList_app rfl (.tmp 37) (.tmp 38) _ rfl T_ints rfl hE rfl ((((hv.row.grow hG12).grow hG3).grow ((Grow.refl _).alloc _ _))) (ints_one _) (by omega) (by unfold maxLen; omega) ?_; intro a5 c5 w5 hA5)
    have hG5 : Grow w3 w5 := hA5.grow ((Grow.refl _).alloc _ _) (fun g hg => by simp at hg; omega)
    have hl5 := hA5.lo (B := w3.heap.size) (by simp) (fun g hg => by simp at hg; omega)
    have hO5 : Own w5 3 1 a5 n2 c5 (ints v) := by simpa using hA5.own
    have bB5 := bB.grow hG5
    have rB5 := rB0.grow hG5
    have hs5 := hG5.size
    have hG15 := (hG12.trans hG3).trans hG5
    have n5 : blk a5 ≠ some w2.heap.size := fun e => by have := hl5 _ e; omega
    have hKR : ∀ g, g < w5.heap.size → g < w2.heap.size → blk a5 ≠ some g := fun g _ hg e => by have := hl5 _ e; omega
    obtain ⟨res, hres⟩ : ∃ res, res = nrmN b n2 N 0 v := ⟨_, rfl⟩
    have Hnone := Lib.hid (fun h0 : res = none => nrm_none (r := r) (v := v) (by rw [nrmR_yes Hbas.out Hin.out, ← hres]; exact h0))
    have Hsome := Lib.hid (fun x (h0 : res = some x) => nrm_some (r := r) (v := v) (x := x) (by rw [nrmR_yes Hbas.out Hin.out, ← hres]; exact h0))
    clear hA5 hE
    go_loopw [9] (fun q wr => Keep (fun g => blk a5 ≠ some g) w5 wr ∧ ∃ (i : Nat) (x : List Int), i ≤ N ∧ q = .int .i64 i ∧ Own wr 3 1 a5 n2 c5 (ints x) ∧ NumL x ∧ x.length = n2 ∧ nrmN b n2 (N - i) i x = res) (fun q _ => N - (intOf q).toNat)
    case atStart => exact ⟨Keep.refl _ _, 0, v, Nat.zero_le _, rfl, hO5, hvN, hl2, hres.symm⟩
    case round =>
     clear hO5 hvN hres
     obtain ⟨wo, rfl⟩ : ∃ wo, wo = wr := ⟨_, rfl⟩
     obtain ⟨hK, i, x, hi, rfl, hO, hx, hxl, hre⟩ := hrel
     have Hre := Lib.hid hre; clear hre
     have Hxl := Lib.hid hxl; clear hxl
     have bBr := bB5.keep hK n5
     have rBr := rB5.keep hK hKR
     obtain ⟨⟨b0, b1, b2⟩, -⟩ := bBr.three
     by_cases hiN : i < N
     ·obtain ⟨hfC, hfne⟩ := fz_row Hbas.out.len hiN (Hbas.out.full i hiN)
      have Hfc := Lib.hid (fc_row Hbas.out.len hiN (Hbas.out.full i hiN))
      go_wp2_with fail
      refine (rowRd_c ba bn bc n2 N i b _ rBr Hbas.out.len hiN hN24 hC24).mono ?_
      rintro e w7 ⟨a7, c7, rfl, rRow, hG7⟩
      go_wp2_with fail
      refine (firstCell_c a7 n2 c7 (rowL b n2 i) _ rRow (by omega)).mono ?_
      rintro e _ ⟨rfl, rfl⟩
      rw [Hfc.out]
      have hO7 := hO.grow hG7
      have HQ := Lib.hid (show nrmQ b n2 i x = x.getD (fz (rowL b n2 i)) 0 / cell b n2 i (fz (rowL b n2 i)) from rfl)
      have hqn := nrmQ_num hx Hbas.out.len hiN (Hbas.out.full i hiN)
      have hrat := rowL_at (k := fz (rowL b n2 i)) Hbas.out.len hiN hfC
      clear b0 b1 b2 Hfc
      generalize hp : fz (rowL b n2 i) = p at *
      clear hp
      obtain ⟨b1, off1, y, rfl, hy, -, -, hbw, hcy⟩ := rRow.at hfC
      obtain rfl : y = cell b n2 i p := by rw [hrat] at hy; exact (Option.some.inj hy).symm
      obtain ⟨pb, rfl⟩ : ∃ pb, a5 = some ⟨pb, 0, none⟩ := by
       cases a5 with
       | none => have := hO.nil rfl; have := hO.le; omega
       | some q => exact ⟨q.block, by rw [← (hO.block q rfl).1]⟩
      have hcx := hO7.cell (ints_get (by rw [Hxl.out]; exact hfC) (rfl : x.getD p 0 = x.getD p 0))
      have hny := cell_num Hbas.out.num n2 i p
      have hnx := hx.getD p
      have hpb := hO7.lt (g := pb) rfl
      have hle5 := hO7.le
      clear hrat hy
      simp only at hcx
      generalize hvx : x.getD p 0 = vx at *
      generalize hvy : cell b n2 i p = vy at *
      clear hvx hvy
      go_wp2
      refine wp_region_segs (S := Grow w7) [([0, 1, 2, 3, 4, 5, 6, 7], some 8), ([9, 10, 11, 12, 13, 14, 15], none)] P_mixed (by kernel_rfl) (fun _ _ _ _ _ h => h) (Grow.refl _).drew ?_
      show wpQuiet _ _ _ _ [_, _, _, _, _, _, _, _] _
      repeat (first | go_big_quiet_skip | (go_big_quiet_want; first | (apply quiet_load CT_int; rfl; rfl; exact (fun w' hG => hG.cell hcx); go_big_quiet_on; simp only [Act.put, List.setIfInBounds_toArray, List.set_cons_succ, List.set_cons_zero]) | (apply quiet_load CT_int; rfl; rfl; exact (fun w' hG => hG.cell hcy); go_big_quiet_on; simp only [Act.put, List.setIfInBounds_toArray, List.set_cons_succ, List.set_cons_zero]) | (go_big_quiet_op; first | go_big_quiet_on | (refine ⟨_, (fun _ _ => rfl), ?_⟩; go_big_quiet_on))))
      refine wpQuiet_nil ?_
      refine seg_go rfl (fun K hK => ?_)
      go_wp2_with fail
      refine (iDivideFloor_c _ _ _ hnx hny hfne).mono ?_
      rintro e _ ⟨rfl, rfl⟩
      go_wp2_with fail
      refine hK _ _ ((Grow.refl _).drew) ?_
      clear hK K
      show wpQuiet _ _ _ _ [_, _, _, _, _, _, _] _
      try (conv => arg 6; simp only [Act.put, List.setIfInBounds_toArray, List.set_cons_succ, List.set_cons_zero])
      repeat (first | go_big_quiet_skip | (go_big_quiet_want; first | (apply quiet_load CT_int; rfl; rfl; exact (fun w' hG => hG.cell hcx); go_big_quiet_on; simp only [Act.put, List.setIfInBounds_toArray, List.set_cons_succ, List.set_cons_zero]) | (apply quiet_load CT_int; rfl; rfl; exact (fun w' hG => hG.cell hcy); go_big_quiet_on; simp only [Act.put, List.setIfInBounds_toArray, List.set_cons_succ, List.set_cons_zero]) | (go_big_quiet_op; first | go_big_quiet_on | (refine ⟨_, (fun _ _ => rfl), ?_⟩; go_big_quiet_on))))
      refine wpQuiet_nil ?_
      refine wpSegs_nil ?_
      rw [← HQ.out]
      have Hnq := Lib.hid (show nrmOk b n2 i x (nrmQ b n2 i x) = false → res = none from fun h0 => by rw [← Hre.out]; exact nrmN_no (by omega) (nrm1_no h0))
      have Hyq := Lib.hid (show nrmOk b n2 i x (nrmQ b n2 i x) = true → nrmN b n2 (N - (i + 1)) (i + 1) (updR (nrmV b n2 i x (nrmQ b n2 i x)) 0 n2 x) = res from fun h0 => by rw [← Hre.out, nrmN_yes (by omega) (nrm1_yes h0)]; rfl)
      clear HQ hcx hcy hnx hny hfne
      generalize nrmQ b n2 i x = Q at *
      obtain ⟨w8, hw8⟩ : ∃ w8, w8 = w7.drew := ⟨_, rfl⟩
      rw [← hw8]
      have hG8 : Grow w7 w8 := by rw [hw8]; exact (Grow.refl _).drew
      clear hw8
      have hO8 := hO7.grow hG8
      have rR8 := rRow.grow hG8
      clear hO hO7 rRow
      go_wp2
      go_loopw [66] (fun q u => Keep (fun g => blk (some (⟨pb, 0, none⟩ : Addr)) ≠ some g) w8 u ∧ ∃ k : Nat, k ≤ n2 ∧ q = .int .i64 k ∧ Own u 3 1 (some ⟨pb, 0, none⟩) n2 c5 (ints (updR (nrmV b n2 i x Q) 0 k x)) ∧ ∀ k', k' < k → isNumB (cell b n2 i k' * Q) = true ∧ isNumB (nrmV b n2 i x Q k') = true) (fun q _ => n2 - (intOf q).toNat)
      case atStart => exact ⟨Keep.refl _ _, 0, Nat.zero_le _, rfl, hO8, fun k' h0 => by omega⟩
      case round =>
       clear hO8
       obtain ⟨u, rfl⟩ : ∃ u, u = wr := ⟨_, rfl⟩
       obtain ⟨hK2, k, hk, rfl, hO, hall⟩ := hrel
       have Hall := Lib.hid hall; clear hall
       by_cases hlt : k < n2
       ·have rRu := rR8.keep hK2 (fun g hg h0 e => by have := hl5 _ e; omega)
        obtain ⟨b2, off2, y, hae, hy, -, -, hbw2, hcy⟩ := rRu.at hlt
        obtain ⟨rfl, rfl⟩ : b1 = b2 ∧ off1 = off2 := by simpa using hae
        obtain rfl : y = cell b n2 i k := by rw [rowL_at Hbas.out.len hiN hlt] at hy; exact (Option.some.inj hy).symm
        have hlen : (updR (nrmV b n2 i x Q) 0 k x).length = n2 := by rw [updR_len, Hxl.out]
        have hg1 : (updR (nrmV b n2 i x Q) 0 k x).getD k 0 = x.getD k 0 := by rw [updR_getD (by rw [Hxl.out]; omega), if_neg (by omega)]
        have hcx := hO.cell (ints_get (by omega) hg1)
        have hfr := hO.free k
        have hpb2 := hO.lt (g := pb) rfl
        have hle2 := hO.le
        have hsA := hx.getD k
        have hsB := cell_num Hbas.out.num n2 i k
        have hmul := mul_rng hsB hqn
        have hO9 : Own (u.setCell ⟨pb, k, none⟩ (.int .i64 (nrmV b n2 i x Q k))) 3 1 (some ⟨pb, 0, none⟩) n2 c5 (ints (updR (nrmV b n2 i x Q) 0 (k + 1) x)) := by
         have := hO.set k (.int .i64 (nrmV b n2 i x Q k))
         rw [← ints_set] at this
         rw [show updR (nrmV b n2 i x Q) 0 (k + 1) x = (updR (nrmV b n2 i x Q) 0 k x).set k (nrmV b n2 i x Q k) by simp [updR]]
         exact this
        have hKs : Keep (fun g => blk (some (⟨pb, 0, none⟩ : Addr)) ≠ some g) u (u.setCell ⟨pb, k, none⟩ (.int .i64 (nrmV b n2 i x Q k))) := (Keep.refl _ u).setCell (p := ⟨pb, k, none⟩) (fun _ e => e rfl) _
        have Hv := Lib.hid (show nrmV b n2 i x Q k = x.getD k 0 - cell b n2 i k * Q from rfl)
        have Hno := Lib.hid (fun hno : ¬ (isNumB (cell b n2 i k * Q) = true ∧ isNumB (nrmV b n2 i x Q k) = true) => (show nrmOk b n2 i x Q = false by
         rw [Bool.eq_false_iff]; intro e
         exact hno (nrmOk_iff.1 e k hlt)))
        clear hO hg1 hlen hy hae
        simp only at hcx hfr
        have u5 : IntKind.i64.wrap (cell b n2 i k * Q) = cell b n2 i k * Q := IntWalk.i64_in _ (by omega)
        have u6 : wrap64 (cell b n2 i k * Q) = cell b n2 i k * Q := by unfold wrap64; omega
        have u7 : IntKind.i64.wrap (x.getD k 0 - cell b n2 i k * Q) = x.getD k 0 - cell b n2 i k * Q := IntWalk.i64_in _ (by omega)
        rw [Hv.out] at hO9 hKs Hno
        generalize hca : x.getD k 0 = ca at *
        generalize hcb : cell b n2 i k = cb at *
        have Hcb := Lib.hid hcb
        have Hca := Lib.hid hca
        clear hcb hca
        go_wp2_with fail
        refine (isNumber_c _ _).mono ?_
        rintro e _ ⟨rfl, rfl⟩
        have hGu := ((hG15.any.trans hK).trans (hG7.any.trans hG8.any)).trans (hK2.trans hKs)
        have hGu2 : Grow w (u.setCell ⟨pb, k, none⟩ (.int .i64 (ca - cb * Q))) := Grow.keep (S := fun g => blk (some (⟨pb, 0, none⟩ : Addr)) ≠ some g) (Grow.refl w) hGu (fun g hg e => by have := hl5 _ e; omega)
        cases hn1 : isNumB (cb * Q) with
        | false =>
         have HF := Lib.hid (Hnone.out (Hnq.out (Hno.out (fun h => by rw [hn1] at h; cases h.1))))
         have hsu := hGu2.size
         go_wp2
         go_ret2
         exact ⟨_, by rw [HF.out.1]; rfl, by rw [HF.out.2]; exact OI.empty (by simp) ⟨by simp at hsu; omega, by simp⟩, hGu2.alloc _ _⟩
        | true =>
         go_wp2_with fail
         refine (isNumber_c _ _).mono ?_
         rintro e _ ⟨rfl, rfl⟩
         cases hn2 : isNumB (ca - cb * Q) with
         | false =>
          have HF := Lib.hid (Hnone.out (Hnq.out (Hno.out (fun h => by rw [hn2] at h; cases h.2))))
          have hsu := hGu2.size
          go_wp2
          go_ret2
          exact ⟨_, by rw [HF.out.1]; rfl, by rw [HF.out.2]; exact OI.empty (by simp) ⟨by simp at hsu; omega, by simp⟩, hGu2.alloc _ _⟩
         | true =>
          have Hst := Lib.hid (show ∀ k', k' < k + 1 → isNumB (cell b n2 i k' * Q) = true ∧ isNumB (nrmV b n2 i x Q k') = true from fun k' hk' => by
           by_cases e : k' = k
           ·subst e; rw [Hv.out, Hcb.out]; exact ⟨hn1, hn2⟩
           ·exact Hall.out k' (by omega))
          go_wp2
          go_roundw
          case rel => exact ⟨hK2.trans hKs, k + 1, by omega, by go_num, hO9, Hst.out⟩
          case measure => simp [intOf]; omega
       ·have hkC : k = n2 := by omega
        have HT := Lib.hid (nrmOk_iff.2 (fun k' h0 => Hall.out k' (by omega)))
        have Hy2 := Lib.hid (Hyq.out HT.out)
        rw [hkC] at hO
        clear Hyq Hnq hkC
        go_wp2
        go_roundw
        case rel => exact ⟨(hK.trans (hG7.any.trans hG8.any)).trans hK2, i + 1, _, by omega, by go_num, hO, nrmV_num hx HT.out, by rw [updR_len]; exact Hxl.out, Hy2.out⟩
        case measure => simp [intOf]; omega
     ·have hiE : i = N := by omega
      subst hiE
      have Hend := Lib.hid (Hsome.out x (by rw [← Hre.out, Nat.sub_self]; rfl))
      go_wp2
      go_ret2
      exact ⟨_, by rw [Hend.out.1]; rfl, by rw [Hend.out.2]; exact ⟨a5, n2, c5, rfl, hO, num_rng hx, fun g hg => ⟨by have := hl5 g hg; omega, hO.lt hg⟩⟩, Grow.keep (S := fun g => blk a5 ≠ some g) hG15 hK (fun g hg e => by have := hl5 g e; omega)⟩
  ·have q1 : ((n2 : Int) == r.cols) = false := by simp [hlen]
   have q2 : ((n2 : Int) != r.cols) = true := by simp [hlen]
   have Hz := Lib.hid (nrm_none (nrmR_no (nrmIn_len (r := r) (v := v) (by rw [hl2]; exact hlen))))
   clear hcols
   go_wp2
   go_ret2
   exact ⟨_, by rw [Hz.out.1]; rfl, by rw [Hz.out.2]; exact OI.empty (by simp) ⟨by omega, by simp⟩, (hG12.alloc _ _).alloc _ _⟩
end Go.Proofs.YtoiblknchcoecaaGreat

namespace Go.Proofs.YtoiblknchcoecaaGreat
open Go.RowKit
theorem OI.emptyS {w : World} {F : Nat → Prop} {g : Nat} (hg : g = w.heap.size) (hF : F g) : OI (w.alloc (.cells #[] 3)) F (.slice (some ⟨g, 0, none⟩) 0 0) [] :=
 ⟨_, _, _, rfl, Own.freshAt (cs := #[]) hg (by unfold maxLen; omega) rfl, (fun x hx => by cases hx), fun q hq => by simp at hq; subst hq; exact hF⟩
theorem isMatB_row {v : List Int} (h : v.length ≤ 24) : isMatB { rows := 1, cols := v.length, cells := v } = numsB v := by
 unfold isMatB shapeB
 rw [decide_eq_true (by refine ⟨by simp, by simp, by simp, by simp; omega, by simp⟩), Bool.true_and]
theorem sNormalIn_c {S T : Nat → Prop} {rv vv : Value} {r : Mat} {v : List Int} {w : World} (h : VM w S rv r) (hb : bdM r ≤ 1048576) (hv : VI w T vv v) (hbv : bdI v ≤ 1048576) :
  Calls Tryz.prog 62 #[rv, vv] w fun e w' => ∃ x, e = .returned (.tuple #[x, .bool (nrmB r v)]) ∧ OI w' (New w w') x (nrmL r v) ∧ Grow w w' := by
 have hVM := h
 obtain ⟨a, n, c, rfl, h, ir, ic⟩ := h
 obtain ⟨a2, n2, c2, rfl, hv⟩ := hv
 have hl2 := hv.len
 unfold bdI at hbv
 have hG1 := (Grow.refl w).alloc #[.int .i64 r.rows, .int .i64 r.cols, .slice a n c] 26
 have bM := Blk.new w #[.int .i64 r.rows, .int .i64 r.cols, .slice a n c] 26
 go_enter Tryz.func62, Tryz.ntmps62
 go_wp2_with fail
 refine (sBasisOf_c (hVM.grow hG1) hb).mono ?_
 rintro e w2 ⟨rb, rfl, hB, hG2⟩
 obtain ⟨ba, bn, bc, rfl, oB, rB, fB, i1, i2⟩ := hB
 have hG12 := hG1.trans hG2
 have bM2 := bM.grow hG2
 cases hok : basOk r with
 | false =>
  have Hz := Lib.hid (nrm_none (nrmR_no (nrmIn_bas (v := v) hok)))
  have hs2 := hG12.size
  clear hok oB rB fB
  go_wp2
  go_ret2
  exact ⟨_, by rw [Hz.out.1]; rfl, by rw [Hz.out.2]; exact OI.emptyS (by simp) ⟨by omega, by simp⟩, (hG12.alloc _ _).alloc _ _⟩
 | true =>
  obtain ⟨C, N, b, hbas⟩ := bas_of hok
  have Hbas := Lib.hid hbas
  have hC24 := hbas.hC
  have hN24 := hbas.hN
  have Hok := Lib.hid hok
  rw [hbas.eq] at oB rB ⊢
  clear i1 i2
  obtain ⟨w3, hw3⟩ : ∃ w3, w3 = w2.alloc (.cells #[.int .i64 (N : Int), .int .i64 (C : Int), .slice ba bn bc] 26) := ⟨_, rfl⟩
  have hG3 : Grow w2 w3 := by rw [hw3]; exact (Grow.refl w2).alloc _ _
  have bB : Blk w3 w2.heap.size #[.int .i64 (N : Int), .int .i64 (C : Int), .slice ba bn bc] 26 := by rw [hw3]; exact Blk.new w2 _ _
  have hbn : bn = N * C := by have := oB.len; simpa [hbas.len] using this.symm
  have rB0 : RdI w3 (fun g => g < w2.heap.size) ba bn bc b := (oB.rdI (S := fun g => g < w2.heap.size) (fun g hg => (fB g hg).2) rB).grow hG3
  have Hbn := Lib.hid hbn
  have bM3 := bM2.grow hG3
  obtain ⟨⟨m0, m1, m2⟩, -⟩ := bM3.three
  rw [hw3] at m0 m1 m2
  have hltM := bM2.lt
  have hs12 := hG12.size
  have hs3 := hG3.size
  have hs3l : w2.heap.size < w3.heap.size := by rw [hw3]; simp
  have Hw3 := Lib.hid hw3
  have hcols := hbas.cols
  clear hok hbas hw3 oB rB fB bM bM2 bM3 hbn
  by_cases hlen : (n2 : Int) = r.cols
  ·have q1 : ((n2 : Int) == r.cols) = true := by simp [hlen]
   have q2 : ((n2 : Int) != r.cols) = false := by simp [hlen]
   have hnC : n2 = C := by omega
   subst hnC
   have Hcols := Lib.hid hcols
   have Hlen := Lib.hid hlen
   clear hcols hlen
   have hvM : VM w3 T (.agg #[.int .i64 1, .int .i64 (n2 : Int), .slice a2 n2 c2]) { rows := 1, cols := (n2 : Int), cells := v } := ⟨a2, n2, c2, rfl, (hv.grow hG12).grow hG3, by unfold I64; simp, by unfold I64; simp; omega⟩
   have hmb : isMatB { rows := 1, cols := (n2 : Int), cells := v } = numsB v := by rw [← hl2]; exact isMatB_row (by omega)
   have hbdv : bdM { rows := 1, cols := (n2 : Int), cells := v } ≤ 2097152 := by unfold bdM; simp only; omega
   cases hnum : numsB v with
   | false =>
    have Hz := Lib.hid (nrm_none (nrmR_no (nrmIn_num (r := r) hnum)))
    have HN := Lib.hid (hmb.trans hnum); clear hnum hmb
    go_wp2_with fail
    rw [← Hw3.out]
    refine (sIsMatrix_c hvM hbdv).mono ?_
    rintro e w4 ⟨rfl, hG4⟩
    rw [HN.out]
    have hs4 := hG4.size
    clear m0 m1 m2
    go_wp2
    go_ret2
    exact ⟨_, by rw [Hz.out.1]; rfl, by rw [Hz.out.2]; exact OI.emptyS rfl ⟨by omega, by simp⟩, ((hG12.trans hG3).trans hG4).alloc _ _⟩
   | true =>
    have Hin := Lib.hid (nrmIn_yes (v := v) Hok.out (by rw [hl2]; exact Hlen.out) hnum)
    have hvN := numsB_L hnum
    have HN := Lib.hid (hmb.trans hnum); clear hnum hmb
    go_wp2_with fail
    rw [← Hw3.out]
    refine (sIsMatrix_c hvM hbdv).mono ?_
    rintro e w4 ⟨rfl, hG4⟩
    rw [HN.out]
    clear m0 m1 m2 q1 q2 hvM hbdv
    have hs4 := hG4.size
    have hE : Own (w4.alloc (.cells #[] 3)) 3 1 (some ⟨w4.heap.size, 0, none⟩) 0 0 [] := Own.freshAt (cs := #[]) rfl (by unfold maxLen; omega) rfl
    go_wp2_with (at_builtin; refine wpList_app rfl (.tmp 38) (.tmp 39) _ rfl T_ints rfl hE rfl ((((hv.row.grow hG12).grow hG3).grow (hG4.alloc _ _))) (ints_one _) (by omega) (by unfold maxLen; omega) ?_; intro a5 c5 w5 hA5)
    have hG45 : Grow w4 w5 := hA5.grow ((Grow.refl _).alloc _ _) (fun g hg => by simp at hg; omega)
    have hG5 : Grow w3 w5 := hG4.trans hG45
    have hl5 := hA5.lo (B := w4.heap.size) (by simp) (fun g hg => by simp at hg; omega)
    have hO5 : Own w5 3 1 a5 n2 c5 (ints v) := by simpa using hA5.own
    have bB5 := bB.grow hG5
    have rB5 := rB0.grow hG5
    have hs5 := hG5.size
    have hG15 := (hG12.trans hG3).trans hG5
    have n5 : blk a5 ≠ some w2.heap.size := fun e => by have := hl5 _ e; omega
    have hKR : ∀ g, g < w5.heap.size → g < w2.heap.size → blk a5 ≠ some g := fun g _ hg e => by have := hl5 _ e; omega
    obtain ⟨res, hres⟩ : ∃ res, res = nrmN b n2 N 0 v := ⟨_, rfl⟩
    have Hnone := Lib.hid (fun h0 : res = none => nrm_none (r := r) (v := v) (by rw [nrmR_yes Hbas.out Hin.out, ← hres]; exact h0))
    have Hsome := Lib.hid (fun x (h0 : res = some x) => nrm_some (r := r) (v := v) (x := x) (by rw [nrmR_yes Hbas.out Hin.out, ← hres]; exact h0))
    clear hA5 hE
    go_loopw [9] (fun q wr => Keep (fun g => blk a5 ≠ some g) w5 wr ∧ ∃ (i : Nat) (x : List Int), i ≤ N ∧ q = .int .i64 i ∧ Own wr 3 1 a5 n2 c5 (ints x) ∧ NumL x ∧ x.length = n2 ∧ nrmN b n2 (N - i) i x = res) (fun q _ => N - (intOf q).toNat)
    case atStart => exact ⟨Keep.refl _ _, 0, v, Nat.zero_le _, rfl, hO5, hvN, hl2, hres.symm⟩
    case round =>
     clear hO5 hvN hres
     obtain ⟨wo, rfl⟩ : ∃ wo, wo = wr := ⟨_, rfl⟩
     obtain ⟨hK, i, x, hi, rfl, hO, hx, hxl, hre⟩ := hrel
     have Hre := Lib.hid hre; clear hre
     have Hxl := Lib.hid hxl; clear hxl
     have bBr := bB5.keep hK n5
     have rBr := rB5.keep hK hKR
     obtain ⟨⟨b0, b1, b2⟩, -⟩ := bBr.three
     by_cases hiN : i < N
     ·obtain ⟨hfC, hfne⟩ := fz_row Hbas.out.len hiN (Hbas.out.full i hiN)
      go_wp2_with fail
      refine (l16Pivot_c ba bn bc n2 i N b _ rBr Hbas.out.len hiN hN24 hC24 (Hbas.out.full i hiN)).mono ?_
      rintro e w7 ⟨rfl, hG7⟩
      have hO7 := hO.grow hG7
      have bB7 := bBr.grow hG7
      have rB7 := rBr.grow hG7
      have HQ := Lib.hid (show nrmQ b n2 i x = x.getD (fz (rowL b n2 i)) 0 / cell b n2 i (fz (rowL b n2 i)) from rfl)
      have hqn := nrmQ_num hx Hbas.out.len hiN (Hbas.out.full i hiN)
      clear b0 b1 b2
      generalize hp : fz (rowL b n2 i) = p at *
      clear hp
      obtain ⟨pb, rfl⟩ : ∃ pb, a5 = some ⟨pb, 0, none⟩ := by
       cases a5 with
       | none => have := hO.nil rfl; have := hO.le; omega
       | some q => exact ⟨q.block, by rw [← (hO.block q rfl).1]⟩
      have hcx := hO7.cell (ints_get (by rw [Hxl.out]; exact hfC) (rfl : x.getD p 0 = x.getD p 0))
      have hny := cell_num Hbas.out.num n2 i p
      have hnx := hx.getD p
      have hpb := hO7.lt (g := pb) rfl
      have hle5 := hO7.le
      have hni : i * n2 + p < bn := by rw [Hbn.out]; exact place_lt hfC hiN
      have HB := Lib.hid (And.intro (isNumB_iff.2 hnx) (And.intro (isNumB_iff.2 hny) hfne))
      simp only at hcx
      generalize hvx : x.getD p 0 = vx at *
      clear hvx hnx hny hfne
      go_wp2
      refine wp_region_segs (S := Grow w7) [([0, 1, 2, 3, 4, 5, 6], some 7), ([], some 8), ([9, 10, 11, 12, 13, 14, 15], none)] P_mixed (by kernel_rfl) (fun _ _ _ _ _ h => h) (Grow.refl _).drew ?_
      show wpQuiet _ _ _ _ [_, _, _, _, _, _, _] _
      repeat (first | go_big_quiet_skip | (go_big_quiet_want; first | (apply quiet_load3 T_mat; rfl; rfl; exact (fun w' hG => bB7.grow hG); go_big_quiet_on; simp only [Act.put, List.setIfInBounds_toArray, List.set_cons_succ, List.set_cons_zero]) | (apply quiet_load CT_int; rfl; rfl; exact (fun w' hG => hG.cell hcx); go_big_quiet_on; simp only [Act.put, List.setIfInBounds_toArray, List.set_cons_succ, List.set_cons_zero]) | (go_big_quiet_op; first | go_big_quiet_on | (refine ⟨_, (fun _ _ => rfl), ?_⟩; go_big_quiet_on))))
      refine wpQuiet_nil ?_
      refine seg_go rfl (fun K hK => ?_)
      go_wp2_with fail
      refine (l12Cell_c ba bn bc n2 i p (N : Int) b _ (rB7.grow (Grow.refl _).drew) hni (by omega) (by omega) (by omega)).mono ?_
      rintro e w9 ⟨rfl, hG9⟩
      have hG09 := (Grow.refl w7).drew.trans hG9
      go_wp2_with fail
      refine hK _ _ (hG09) ?_
      clear hK K
      show wpQuiet _ _ _ _ [] _
      try (conv => arg 6; simp only [Act.put, List.setIfInBounds_toArray, List.set_cons_succ, List.set_cons_zero])
      refine wpQuiet_nil ?_
      refine seg_go rfl (fun K hK => ?_)
      go_wp2_with fail
      refine (sDivideFloor_c _ _ _).mono ?_
      rintro e _ ⟨Q, qr, qb, rfl, hQn, hQe, rfl⟩
      obtain rfl : nrmQ b n2 i x = Q := by rw [HQ.out]; exact (hQe HB.out.1 HB.out.2.1 HB.out.2.2).symm
      go_wp2_with fail
      refine hK _ _ (hG09) ?_
      clear hK K
      show wpQuiet _ _ _ _ [_, _, _, _, _, _, _] _
      try (conv => arg 6; simp only [Act.put, List.setIfInBounds_toArray, List.set_cons_succ, List.set_cons_zero])
      repeat (first | go_big_quiet_skip | (go_big_quiet_want; first | (apply quiet_load3 T_mat; rfl; rfl; exact (fun w' hG => bB7.grow hG); go_big_quiet_on; simp only [Act.put, List.setIfInBounds_toArray, List.set_cons_succ, List.set_cons_zero]) | (apply quiet_load CT_int; rfl; rfl; exact (fun w' hG => hG.cell hcx); go_big_quiet_on; simp only [Act.put, List.setIfInBounds_toArray, List.set_cons_succ, List.set_cons_zero]) | (go_big_quiet_op; first | go_big_quiet_on | (refine ⟨_, (fun _ _ => rfl), ?_⟩; go_big_quiet_on))))
      refine wpQuiet_nil ?_
      refine wpSegs_nil ?_
      have Hnq := Lib.hid (show nrmOk b n2 i x (nrmQ b n2 i x) = false → res = none from fun h0 => by rw [← Hre.out]; exact nrmN_no (by omega) (nrm1_no h0))
      have Hyq := Lib.hid (show nrmOk b n2 i x (nrmQ b n2 i x) = true → nrmN b n2 (N - (i + 1)) (i + 1) (updR (nrmV b n2 i x (nrmQ b n2 i x)) 0 n2 x) = res from fun h0 => by rw [← Hre.out, nrmN_yes (by omega) (nrm1_yes h0)]; rfl)
      clear HQ hcx hQe HB hQn
      generalize nrmQ b n2 i x = Q at *
      have hO8 := hO7.grow hG09
      have bB8 := bB7.grow hG09
      have rB8 := rB7.grow hG09
      have hK8 : Keep (fun g => blk (some (⟨pb, 0, none⟩ : Addr)) ≠ some g) wo w9 := (hG7.trans hG09).any
      clear hO hO7 hG09 hG9 hG7 bB7 rB7
      go_wp2
      go_loopw [14] (fun q u => Keep (fun g => blk (some (⟨pb, 0, none⟩ : Addr)) ≠ some g) w9 u ∧ ∃ k : Nat, k ≤ n2 ∧ q = .int .i64 k ∧ Own u 3 1 (some ⟨pb, 0, none⟩) n2 c5 (ints (updR (nrmVS b n2 i x Q) 0 k x))) (fun q _ => n2 - (intOf q).toNat)
      case atStart => exact ⟨Keep.refl _ _, 0, Nat.zero_le _, rfl, hO8⟩
      case round =>
       clear hO8
       obtain ⟨u, rfl⟩ : ∃ u, u = wr := ⟨_, rfl⟩
       obtain ⟨hK2, k, hk, rfl, hO⟩ := hrel
       have bBu := bB8.keep hK2 n5
       have rBu := rB8.keep hK2 (fun g hg h0 e => by have := hl5 _ e; omega)
       obtain ⟨⟨b0, b1, b2⟩, -⟩ := bBu.three
       by_cases hlt : k < n2
       ·have hlen : (updR (nrmVS b n2 i x Q) 0 k x).length = n2 := by rw [updR_len, Hxl.out]
        have hg1 : (updR (nrmVS b n2 i x Q) 0 k x).getD k 0 = x.getD k 0 := by rw [updR_getD (by rw [Hxl.out]; omega), if_neg (by omega)]
        have hcx := hO.cell (ints_get (by omega) hg1)
        have hpb2 := hO.lt (g := pb) rfl
        have hle2 := hO.le
        have hsA : NumS (x.getD k 0) := .inl (hx.getD k)
        have hsB : NumS (cell b n2 i k) := .inl (cell_num Hbas.out.num n2 i k)
        have hnk : i * n2 + k < bn := by rw [Hbn.out]; exact place_lt hlt hiN
        have Hv := Lib.hid (show nrmVS b n2 i x Q k = addS (x.getD k 0) (mulS (cell b n2 i k) (-Q)) from rfl)
        have Hset := Lib.hid (show updR (nrmVS b n2 i x Q) 0 (k + 1) x = (updR (nrmVS b n2 i x Q) 0 k x).set k (nrmVS b n2 i x Q k) by simp [updR])
        have hO1 := hO
        clear hg1 hlen hO
        simp only at hcx
        generalize hca : x.getD k 0 = ca at *
        clear hca
        go_wp2
        refine wp_region_segsX (S := (Grow u)) (last := 15) [([0, 1, 2, 3, 4, 5, 6, 7, 8, 10, 11], some 9), ([], some 12), ([], some 13), ([14], some 15)] P_mixed (by kernel_rfl) (fun _ _ _ _ _ h => h) (Grow.refl _).drew ?_
        show wpQuiet _ _ _ _ [_, _, _, _, _, _, _, _, _, _, _] _
        repeat (first | go_big_quiet_skip | (go_big_quiet_want; first | (apply quiet_load3 T_mat; rfl; rfl; exact (fun w' hG => bBu.grow hG); go_big_quiet_on; simp only [Act.put, List.setIfInBounds_toArray, List.set_cons_succ, List.set_cons_zero]) | (apply quiet_load CT_int; rfl; rfl; exact (fun w' hG => hG.cell hcx); go_big_quiet_on; simp only [Act.put, List.setIfInBounds_toArray, List.set_cons_succ, List.set_cons_zero]) | (go_big_quiet_op; first | go_big_quiet_on | (refine ⟨_, (fun _ _ => rfl), ?_⟩; go_big_quiet_on))))
        refine wpQuiet_nil ?_
        refine seg_goX rfl (fun K hK => ?_)
        go_wp2_with fail
        refine (l12Cell_c ba bn bc n2 i k (N : Int) b _ (rBu.grow (Grow.refl _).drew) hnk (by omega) (by omega) (by omega)).mono ?_
        rintro e w10 ⟨rfl, hG10⟩
        have hGu := (Grow.refl u).drew.trans hG10
        go_wp2_with fail
        refine hK _ _ ((fun _ => hGu)) ?_
        clear hK K
        show wpQuiet _ _ _ _ [] _
        try (conv => arg 6; simp only [Act.put, List.setIfInBounds_toArray, List.set_cons_succ, List.set_cons_zero])
        refine wpQuiet_nil ?_
        refine seg_goX rfl (fun K hK => ?_)
        go_wp2_with fail
        refine (l1Mul_c (cell b n2 i k) (-Q) _ hsB (.inl (by omega))).mono ?_
        rintro e _ ⟨rfl, rfl⟩
        go_wp2_with fail
        refine hK _ _ ((fun _ => hGu)) ?_
        clear hK K
        show wpQuiet _ _ _ _ [] _
        try (conv => arg 6; simp only [Act.put, List.setIfInBounds_toArray, List.set_cons_succ, List.set_cons_zero])
        refine wpQuiet_nil ?_
        refine seg_goX rfl (fun K hK => ?_)
        go_wp2_with fail
        refine (l1Add_c ca (mulS (cell b n2 i k) (-Q)) _ hsA (mulS_s _ _)).mono ?_
        rintro e _ ⟨rfl, rfl⟩
        rw [← Hv.out]
        go_wp2_with fail
        refine hK _ _ ((fun _ => hGu)) ?_
        clear hK K
        show wpQuiet _ _ _ _ [_] _
        try (conv => arg 6; simp only [Act.put, List.setIfInBounds_toArray, List.set_cons_succ, List.set_cons_zero])
        repeat (first | go_big_quiet_skip | (go_big_quiet_want; first | (apply quiet_load3 T_mat; rfl; rfl; exact (fun w' hG => bBu.grow hG); go_big_quiet_on; simp only [Act.put, List.setIfInBounds_toArray, List.set_cons_succ, List.set_cons_zero]) | (apply quiet_load CT_int; rfl; rfl; exact (fun w' hG => hG.cell hcx); go_big_quiet_on; simp only [Act.put, List.setIfInBounds_toArray, List.set_cons_succ, List.set_cons_zero]) | (go_big_quiet_op; first | go_big_quiet_on | (refine ⟨_, (fun _ _ => rfl), ?_⟩; go_big_quiet_on))))
        refine wpQuiet_nil ?_
        refine seg_goX rfl (fun K hK => ?_)
        have hO2 := hO1.grow hGu
        have hfr := hO2.free k
        have hc2 := hGu.cell hcx
        have hltu := hO2.lt (g := pb) rfl
        have hO9 : Own (w10.setCell ⟨pb, k, none⟩ (.int .i64 (nrmVS b n2 i x Q k))) 3 1 (some ⟨pb, 0, none⟩) n2 c5 (ints (updR (nrmVS b n2 i x Q) 0 (k + 1) x)) := by
         have := hO2.set k (.int .i64 (nrmVS b n2 i x Q k))
         rw [← ints_set, ← Hset.out] at this
         exact this
        have hKs : Keep (fun g => blk (some (⟨pb, 0, none⟩ : Addr)) ≠ some g) u (w10.setCell ⟨pb, k, none⟩ (.int .i64 (nrmVS b n2 i x Q k))) := hGu.any.setCell (p := ⟨pb, k, none⟩) (fun _ e => e rfl) _
        simp only at hfr hc2
        go_wp2_with fail
        refine hK _ _ ((fun h => (h rfl).elim)) ?_
        clear hK K
        refine wpSegsX_nil ?_
        go_wp2
        go_roundw
        case rel => exact ⟨hK2.trans hKs, k + 1, by omega, by go_num, hO9⟩
        case measure => simp [intOf]; omega
       ·have hkC : k = n2 := by omega
        have hbl : NumBL (updR (nrmVS b n2 i x Q) 0 n2 x) := fun z hz => by
         rcases updR_mem hz with hz | ⟨k, _, rfl⟩
         ·exact .inl (hx z hz)
         ·exact addS_s _ _
        rw [hkC] at hO
        have rO := hO.rdI (S := fun _ => True) (fun _ _ => trivial) (bl_rng hbl)
        go_wp2_with fail
        refine (l1Bads_c _ n2 c5 _ _ rO (by omega)).mono ?_
        rintro e w10 ⟨rfl, hQ10⟩
        have hG10 := hQ10.grow
        have hO10 := hO.grow hG10
        have hGu := (hG15.any.trans hK).trans ((hK8.trans hK2).trans hG10.any)
        have hGu2 : Grow w w10 := Grow.keep (S := fun g => blk (some (⟨pb, 0, none⟩ : Addr)) ≠ some g) (Grow.refl w) hGu (fun g hg e => by have := hl5 _ e; omega)
        cases hok : nrmOk b n2 i x Q with
        | false =>
         have HF := Lib.hid (Hnone.out (Hnq.out hok))
         have hsu := hGu2.size
         rw [hasBad_iff.2 (nrmS_no Hbas.out.num Hxl.out hqn hok)]
         clear hok
         go_wp2
         go_ret2
         exact ⟨_, by rw [HF.out.1]; rfl, by rw [HF.out.2]; exact OI.emptyS rfl ⟨by omega, by simp⟩, hGu2.alloc _ _⟩
        | true =>
         have hnum := nrmV_num hx hok
         have hno : hasBad (updR (nrmVS b n2 i x Q) 0 n2 x) = false := by
          rw [Bool.eq_false_iff]; intro e
          have := hasBad_iff.1 e
          rw [nrmS_yes Hbas.out.num hx hqn hok] at this
          exact num_ne (hnum _ this) rfl
         rw [hno]
         rw [nrmS_yes Hbas.out.num hx hqn hok] at hO10
         have Hy2 := Lib.hid (Hyq.out hok)
         have HT := Lib.hid hok
         clear Hyq Hnq hkC hok hno
         go_wp2
         go_roundw
         case rel => exact ⟨hK.trans ((hK8.trans hK2).trans hG10.any), i + 1, _, by omega, by go_num, hO10, hnum, by rw [updR_len]; exact Hxl.out, Hy2.out⟩
         case measure => simp [intOf]; omega
     ·have hiE : i = N := by omega
      subst hiE
      have Hend := Lib.hid (Hsome.out x (by rw [← Hre.out, Nat.sub_self]; rfl))
      go_wp2
      go_ret2
      exact ⟨_, by rw [Hend.out.1]; rfl, by rw [Hend.out.2]; exact ⟨a5, n2, c5, rfl, hO, num_rng hx, fun g hg => ⟨by have := hl5 g hg; omega, hO.lt hg⟩⟩, Grow.keep (S := fun g => blk a5 ≠ some g) hG15 hK (fun g hg e => by have := hl5 g e; omega)⟩
  ·have q1 : ((n2 : Int) == r.cols) = false := by simp [hlen]
   have q2 : ((n2 : Int) != r.cols) = true := by simp [hlen]
   have Hz := Lib.hid (nrm_none (nrmR_no (nrmIn_len (r := r) (v := v) (by rw [hl2]; exact hlen))))
   clear hcols
   go_wp2
   go_ret2
   exact ⟨_, by rw [Hz.out.1]; rfl, by rw [Hz.out.2]; exact OI.emptyS (by simp) ⟨by omega, by simp⟩, (hG12.alloc _ _).alloc _ _⟩
end Go.Proofs.YtoiblknchcoecaaGreat

namespace Go.Proofs.YtoiblknchcoecaaGreat
open Go.RowKit
def zinB (r : Mat) (v : List Int) : Bool := nrmB r v && zeroL (nrmL r v)
theorem nrmL_len (r : Mat) (v : List Int) : (nrmL r v).length ≤ v.length := by
 cases h : nrmR r v with
 | none => rw [(nrm_none h).2]; simp
 | some x => rw [(nrm_some h).2, (nrmR_spec h).2.2.1]; exact Nat.le_refl _
theorem iIsZeroIn_c {S T : Nat → Prop} {rv vv : Value} {r : Mat} {v : List Int} {w : World} (h : VM w S rv r) (hb : bdM r ≤ 1048576) (hv : VI w T vv v) (hbv : bdI v ≤ 1048576) :
  Calls Tryz.prog 18 #[rv, vv] w fun e w' => e = .returned (.tuple #[.bool (zinB r v), .bool (nrmB r v)]) ∧ Grow w w' := by
 have hVM := h
 obtain ⟨a, n, c, rfl, h, ir, ic⟩ := h
 have hG1 := (Grow.refl w).alloc #[.int .i64 r.rows, .int .i64 r.cols, .slice a n c] 26
 have hnl := nrmL_len r v
 go_enter Tryz.func18, Tryz.ntmps18
 go_wp2_with fail
 refine (iNormalIn_c (hVM.grow hG1) hb (hv.grow hG1) hbv).mono ?_
 rintro e w2 ⟨x, rfl, hX, hG2⟩
 obtain ⟨xa, xn, xc, rfl, oX, rX, fX⟩ := hX
 cases hok : nrmB r v with
 | false =>
  have Hz := Lib.hid (show zinB r v = false ∧ nrmB r v = false from ⟨by unfold zinB; rw [hok]; rfl, hok⟩)
  clear hok
  go_wp2
  go_ret2
  exact ⟨by rw [Hz.out.1, Hz.out.2]; rfl, hG1.trans hG2⟩
 | true =>
  have Hz := Lib.hid (show zinB r v = zeroL (nrmL r v) ∧ nrmB r v = true from ⟨by unfold zinB; rw [hok]; rfl, hok⟩)
  clear hok
  have rd := oX.rdI (S := fun _ => True) (fun _ _ => trivial) rX
  have hl := rd.len
  unfold bdI at hbv
  go_wp2_with fail
  refine (isZeroRow_c xa xn xc (nrmL r v) _ rd (by omega)).mono ?_
  rintro e _ ⟨rfl, rfl⟩
  go_wp2
  go_ret2
  exact ⟨by rw [Hz.out.1, Hz.out.2]; rfl, hG1.trans hG2⟩
theorem sIsZeroIn_c {S T : Nat → Prop} {rv vv : Value} {r : Mat} {v : List Int} {w : World} (h : VM w S rv r) (hb : bdM r ≤ 1048576) (hv : VI w T vv v) (hbv : bdI v ≤ 1048576) :
  Calls Tryz.prog 30 #[rv, vv] w fun e w' => e = .returned (.tuple #[.bool (zinB r v), .bool (nrmB r v)]) ∧ Grow w w' := by
 have hVM := h
 obtain ⟨a, n, c, rfl, h, ir, ic⟩ := h
 have hG1 := (Grow.refl w).alloc #[.int .i64 r.rows, .int .i64 r.cols, .slice a n c] 26
 have hnl := nrmL_len r v
 go_enter Tryz.func30, Tryz.ntmps30
 go_wp2_with fail
 refine (sNormalIn_c (hVM.grow hG1) hb (hv.grow hG1) hbv).mono ?_
 rintro e w2 ⟨x, rfl, hX, hG2⟩
 obtain ⟨xa, xn, xc, rfl, oX, rX, fX⟩ := hX
 have rd := oX.rdI (S := fun _ => True) (fun _ _ => trivial) rX
 have hl := rd.len
 unfold bdI at hbv
 have Hno := Lib.hid (fun (k : Nat) (y : Int) (hy : (nrmL r v)[k]? = some y) (hne : (y == 0) = false) => show zinB r v = false by unfold zinB; rw [zeroL_no hy hne, Bool.and_false])
 have Hyes := Lib.hid (fun (hy : ∀ y ∈ nrmL r v, (y == 0) = true) => show zinB r v = nrmB r v by unfold zinB; rw [zeroL_yes hy, Bool.and_true])
 have Hl := Lib.hid hl
 generalize nrmL r v = xs at *
 clear hl oX rX fX
 have hxn : xn ≤ 1048576 := by have := Hl.out; omega
 go_wp2
 go_loopw [8] (fun q wr => w2 = wr ∧ ∃ k : Nat, k ≤ xn ∧ q = .int .i64 k ∧ ∀ y ∈ xs.take k, (y == 0) = true) (fun q _ => xn - (intOf q).toNat)
 case atStart => exact ⟨by trivial, 0, Nat.zero_le _, rfl, by simp⟩
 case round =>
  obtain ⟨rfl, k, hk, rfl, hz⟩ := hrel
  have HZ := Lib.hid hz; clear hz
  by_cases hlt : k < xn
  ·obtain ⟨b1, off1, y, rfl, hy, -, -, hbw, hcy⟩ := rd.at hlt
   have Hy := Lib.hid hy; clear hy
   cases h0 : y == 0 with
   | false =>
    have HN := Lib.hid (Hno.out k y Hy.out h0)
    have q2 : (y != 0) = true := by simpa using h0
    go_wp2
    go_ret2
    exact ⟨by rw [HN.out]; rfl, hG1.trans hG2⟩
   | true =>
    have q2 : (y != 0) = false := by simpa using h0
    have H0 := Lib.hid h0; clear h0
    go_wp2
    go_roundw
    case rel =>
     refine ⟨by trivial, k + 1, by omega, by go_num, fun z hz => ?_⟩
     rw [take_succ Hy.out, List.mem_append, List.mem_singleton] at hz
     rcases hz with hz | rfl
     ·exact HZ.out z hz
     ·exact H0.out
    case measure => simp [intOf]; omega
  ·have hkn : k = xn := by omega
   subst hkn
   have HY := Lib.hid (Hyes.out (by have := HZ.out; rwa [take_all Hl.out] at this))
   go_wp2
   go_ret2
   exact ⟨by rw [HY.out]; rfl, hG1.trans hG2⟩
def mapAll (s p : Mat) : Bool := (List.range p.rows.toNat).all fun i => zinB s (rowL p.cells p.cols.toNat i)
def mapB (r s f : Mat) : Bool := mulOk r f && (decide (f.cols = s.cols) && mapAll s (mulB r f))
theorem map_mul {r s f : Mat} (h : mulOk r f = false) : mapB r s f = false := by unfold mapB; rw [h]; rfl
theorem map_cols {r s f : Mat} (h : f.cols ≠ s.cols) : mapB r s f = false := by unfold mapB; rw [decide_eq_false h]; simp
theorem map_go {r s f : Mat} (h : mulOk r f = true) (h2 : f.cols = s.cols) : mapB r s f = mapAll s (mulB r f) := by unfold mapB; rw [h, decide_eq_true h2]; rfl
theorem mulB_mat {r f : Mat} (h : mulOk r f = true) : isMatB (mulB r f) = true := by
 unfold mulOk at h
 rw [Bool.and_eq_true] at h
 unfold mulB okM
 rw [if_pos h.1, if_pos h.2]; exact h.2
theorem mapAll_no {s p : Mat} {R C i : Nat} (hr : p.rows = (R : Int)) (hc : p.cols = (C : Int)) (hi : i < R) (h : zinB s (rowL p.cells C i) = false) : mapAll s p = false := by
 unfold mapAll; rw [hr, hc, Int.toNat_natCast, Int.toNat_natCast, List.all_eq_false]
 exact ⟨i, List.mem_range.2 hi, by rw [h]; simp⟩
theorem mapAll_yes {s p : Mat} {R C : Nat} (hr : p.rows = (R : Int)) (hc : p.cols = (C : Int)) (h : ∀ i, i < R → zinB s (rowL p.cells C i) = true) : mapAll s p = true := by
 unfold mapAll; rw [hr, hc, Int.toNat_natCast, Int.toNat_natCast, List.all_eq_true]
 exact fun i hi => h i (List.mem_range.1 hi)
theorem implIsMap_v {S T U : Nat → Prop} {rv sv fv : Value} {r s f : Mat} {w : World} (hr : VM w S rv r) (hbr : bdM r ≤ 1048576) (hs : VM w T sv s) (hbs : bdM s ≤ 1048576) (hf : VM w U fv f) (hbf : bdM f ≤ 1048576) :
  Calls Tryz.prog 10 #[rv, sv, fv] w fun e w' => e = .returned (.bool (mapB r s f)) ∧ Grow w w' := by
 have hVR := hr; have hVS := hs; have hVF := hf
 obtain ⟨ra, rn, rc, rfl, hr, ir1, ir2⟩ := hr
 obtain ⟨sa, sn, sc, rfl, hs, is1, is2⟩ := hs
 obtain ⟨fa, fn, fc, rfl, hf, if1, if2⟩ := hf
 obtain ⟨w3, hw3⟩ : ∃ w3, w3 = ((w.alloc (.cells #[.int .i64 r.rows, .int .i64 r.cols, .slice ra rn rc] 26)).alloc (.cells #[.int .i64 s.rows, .int .i64 s.cols, .slice sa sn sc] 26)).alloc (.cells #[.int .i64 f.rows, .int .i64 f.cols, .slice fa fn fc] 26) := ⟨_, rfl⟩
 have hG3 : Grow w w3 := by rw [hw3]; exact (((Grow.refl w).alloc _ _).alloc _ _).alloc _ _
 have bR : Blk w3 w.heap.size #[.int .i64 r.rows, .int .i64 r.cols, .slice ra rn rc] 26 := by rw [hw3]; exact ((Blk.new w _ _).alloc _).alloc _
 have bS : Blk w3 (w.heap.size + 1) #[.int .i64 s.rows, .int .i64 s.cols, .slice sa sn sc] 26 := by rw [hw3]; exact (Blk.newAt _ _ _ (by simp)).alloc _
 have bF : Blk w3 (w.heap.size + 1 + 1) #[.int .i64 f.rows, .int .i64 f.cols, .slice fa fn fc] 26 := by rw [hw3]; exact Blk.newAt _ _ _ (by simp)
 have Hw3 := Lib.hid hw3; clear hw3
 go_enter Tryz.func10, Tryz.ntmps10
 go_wp2_with fail
 rw [← Hw3.out]
 refine (implMul_c (hVR.grow hG3) (hVF.grow hG3) (by omega) (by omega)).mono ?_
 rintro e w4 ⟨pv, rfl, hP, hG4⟩
 have hmm : mulOk r f = true → isMatB (mulB r f) = true := mulB_mat
 have hgo : mulOk r f = true → f.cols = s.cols → mapB r s f = mapAll s (mulB r f) := map_go
 generalize mulB r f = M at *
 obtain ⟨mr, mc, m⟩ := M
 obtain ⟨pa, pn, pc, rfl, oP, rP, fP, ip1, ip2⟩ := hP
 simp only at oP rP ip1 ip2
 have hG34 := hG3.trans hG4
 have bS4 := bS.grow hG4
 have bF4 := bF.grow hG4
 have hltS := bS4.lt
 have hltF := bF4.lt
 have hGa := (Grow.refl w4).alloc #[.int .i64 mr, .int .i64 mc, .slice pa pn pc] 26
 cases hok : mulOk r f with
 | false =>
  have Hz := Lib.hid (map_mul (s := s) hok)
  clear hok
  go_wp2
  go_ret
  exact ⟨by rw [Hz.out]; rfl, hG34.trans hGa⟩
 | true =>
  obtain ⟨⟨s0, s1, s2⟩, -⟩ := (bS4.grow hGa).three
  obtain ⟨⟨f0, f1, f2⟩, -⟩ := (bF4.grow hGa).three
  by_cases hcol : f.cols = s.cols
  ·have q2 : (f.cols != s.cols) = false := by simp [hcol]
   have Hgo := Lib.hid (hgo hok hcol)
   obtain ⟨R, C, hpr, hpc, hR, hC, hl, hnum⟩ := isMatB_shape (hmm hok)
   simp only at hpr hpc hl
   have Hno := Lib.hid (fun (i : Nat) hi h0 => mapAll_no (s := s) (p := { rows := mr, cols := mc, cells := m }) (i := i) hpr hpc hi h0)
   have Hyes := Lib.hid (fun h0 => mapAll_yes (s := s) (p := { rows := mr, cols := mc, cells := m }) hpr hpc h0)
   have rd := oP.rdI (S := fun _ => True) (fun _ _ => trivial) rP
   have Hl := Lib.hid hl
   subst hpr
   subst hpc
   generalize mapAll s { rows := (R : Int), cols := (C : Int), cells := m } = res at *
   clear hok hcol hl oP rP fP ip1 ip2 hnum hgo hmm
   obtain ⟨w5, hw5⟩ : ∃ w5, w5 = w4.alloc (.cells #[.int .i64 (R : Int), .int .i64 (C : Int), .slice pa pn pc] 26) := ⟨_, rfl⟩
   have bP : Blk w5 w4.heap.size #[.int .i64 (R : Int), .int .i64 (C : Int), .slice pa pn pc] 26 := by rw [hw5]; exact Blk.new w4 _ _
   have hG5 : Grow w4 w5 := by rw [hw5]; exact hGa
   have bS5 := bS4.grow hG5
   have rd5 := rd.grow hG5
   have hG05 := hG34.trans hG5
   have Hw5 := Lib.hid hw5
   clear hw5 hGa
   go_wp2_with fail
   rw [← Hw5.out]
   clear s0 s1 s2 f0 f1 f2 q2
   go_loopw [9] (fun q wr => Grow w5 wr ∧ ∃ i : Nat, i ≤ R ∧ q = .int .i64 i ∧ ∀ i', i' < i → zinB s (rowL m C i') = true) (fun q _ => R - (intOf q).toNat)
   case atStart => exact ⟨Grow.refl _, 0, Nat.zero_le _, rfl, fun i' h0 => by omega⟩
   case round =>
    obtain ⟨hG, i, hi, rfl, hall⟩ := hrel
    have Hall := Lib.hid hall; clear hall
    have bPr := bP.grow hG
    have bSr := bS5.grow hG
    have rdr := rd5.grow hG
    have hvS := hVS.grow (hG05.trans hG)
    obtain ⟨⟨p0, p1, p2⟩, -⟩ := bPr.three
    by_cases hlt : i < R
    ·have hrl := rowL_len Hl.out hlt
     go_wp2
     refine wp_region_segs (S := Grow wr) [([0, 1, 2], some 3), ([], some 4), ([5, 6, 7, 8, 9], none)] P_mixed (by kernel_rfl) (fun _ _ _ _ _ h => h) (Grow.refl _).drew ?_
     show wpQuiet _ _ _ _ [_, _, _] _
     repeat (first | go_big_quiet_skip | (go_big_quiet_want; first | (apply quiet_load3 T_mat; rfl; rfl; exact (fun w' hG => bSr.grow hG); go_big_quiet_on; simp only [Act.put, List.setIfInBounds_toArray, List.set_cons_succ, List.set_cons_zero]) | (apply quiet_load3 T_mat; rfl; rfl; exact (fun w' hG => bPr.grow hG); go_big_quiet_on; simp only [Act.put, List.setIfInBounds_toArray, List.set_cons_succ, List.set_cons_zero]) | (go_big_quiet_op; first | go_big_quiet_on | (refine ⟨_, (fun _ _ => rfl), ?_⟩; go_big_quiet_on))))
     refine wpQuiet_nil ?_
     refine seg_go rfl (fun K hK => ?_)
     go_wp2_with fail
     refine (rowRd_c pa pn pc C R i m _ (rdr.grow (Grow.refl _).drew) Hl.out hlt hR hC).mono ?_
     rintro e w7 ⟨a7, c7, rfl, rRow, hG7⟩
     have hG07 := (Grow.refl wr).drew.trans hG7
     go_wp2_with fail
     refine hK _ _ (hG07) ?_
     clear hK K
     show wpQuiet _ _ _ _ [] _
     try (conv => arg 6; simp only [Act.put, List.setIfInBounds_toArray, List.set_cons_succ, List.set_cons_zero])
     refine wpQuiet_nil ?_
     refine seg_go rfl (fun K hK => ?_)
     go_wp2_with fail
     refine (iIsZeroIn_c (v := rowL m C i) (hvS.grow hG07) hbs ⟨_, _, _, rfl, rRow⟩ (by unfold bdI; omega)).mono ?_
     rintro e w8 ⟨rfl, hG8⟩
     have hGz := hG07.trans hG8
     go_wp2_with fail
     refine hK _ _ (hGz) ?_
     clear hK K
     show wpQuiet _ _ _ _ [_, _, _, _, _] _
     try (conv => arg 6; simp only [Act.put, List.setIfInBounds_toArray, List.set_cons_succ, List.set_cons_zero])
     repeat (first | go_big_quiet_skip | (go_big_quiet_want; first | (apply quiet_load3 T_mat; rfl; rfl; exact (fun w' hG => bSr.grow hG); go_big_quiet_on; simp only [Act.put, List.setIfInBounds_toArray, List.set_cons_succ, List.set_cons_zero]) | (apply quiet_load3 T_mat; rfl; rfl; exact (fun w' hG => bPr.grow hG); go_big_quiet_on; simp only [Act.put, List.setIfInBounds_toArray, List.set_cons_succ, List.set_cons_zero]) | (go_big_quiet_op; first | go_big_quiet_on | (refine ⟨_, (fun _ _ => rfl), ?_⟩; go_big_quiet_on))))
     refine wpQuiet_nil ?_
     refine wpSegs_nil ?_
     have hGr := hGz
     cases hz : zinB s (rowL m C i) with
     | false =>
      have HN := Lib.hid (Hno.out i hlt hz)
      go_wp2
      go_ret
      exact ⟨by rw [Hgo.out, HN.out]; rfl, (hG05.trans hG).trans hGr⟩
     | true =>
      have Hzz := Lib.hid hz
      have hnb : nrmB s (rowL m C i) = true := by unfold zinB at hz; rw [Bool.and_eq_true] at hz; exact hz.1
      rw [hnb]
      clear hz hnb
      go_wp2
      go_roundw
      case rel => exact ⟨hG.trans hGr, i + 1, by omega, by go_num, fun i' h0 => by
       by_cases e : i' = i
       ·subst e; exact Hzz.out
       ·exact Hall.out i' (by omega)⟩
      case measure => simp [intOf]; omega
    ·have hiE : i = R := by omega
     subst hiE
     have HY := Lib.hid (Hyes.out Hall.out)
     go_wp2
     go_ret
     exact ⟨by rw [Hgo.out, HY.out]; rfl, hG05.trans hG⟩
  ·have q2 : (f.cols != s.cols) = true := by simp [hcol]
   have Hz := Lib.hid (map_cols (r := r) hcol)
   clear hok
   go_wp2
   go_ret
   exact ⟨by rw [Hz.out]; rfl, hG34.trans hGa⟩
theorem specIsMap_v {S T U : Nat → Prop} {rv sv fv : Value} {r s f : Mat} {w : World} (hr : VM w S rv r) (hbr : bdM r ≤ 1048576) (hs : VM w T sv s) (hbs : bdM s ≤ 1048576) (hf : VM w U fv f) (hbf : bdM f ≤ 1048576) :
  Calls Tryz.prog 11 #[rv, sv, fv] w fun e w' => e = .returned (.bool (mapB r s f)) ∧ Grow w w' := by
 have hVR := hr; have hVS := hs; have hVF := hf
 obtain ⟨ra, rn, rc, rfl, hr, ir1, ir2⟩ := hr
 obtain ⟨sa, sn, sc, rfl, hs, is1, is2⟩ := hs
 obtain ⟨fa, fn, fc, rfl, hf, if1, if2⟩ := hf
 obtain ⟨w3, hw3⟩ : ∃ w3, w3 = ((w.alloc (.cells #[.int .i64 r.rows, .int .i64 r.cols, .slice ra rn rc] 26)).alloc (.cells #[.int .i64 s.rows, .int .i64 s.cols, .slice sa sn sc] 26)).alloc (.cells #[.int .i64 f.rows, .int .i64 f.cols, .slice fa fn fc] 26) := ⟨_, rfl⟩
 have hG3 : Grow w w3 := by rw [hw3]; exact (((Grow.refl w).alloc _ _).alloc _ _).alloc _ _
 have bR : Blk w3 w.heap.size #[.int .i64 r.rows, .int .i64 r.cols, .slice ra rn rc] 26 := by rw [hw3]; exact ((Blk.new w _ _).alloc _).alloc _
 have bS : Blk w3 (w.heap.size + 1) #[.int .i64 s.rows, .int .i64 s.cols, .slice sa sn sc] 26 := by rw [hw3]; exact (Blk.newAt _ _ _ (by simp)).alloc _
 have bF : Blk w3 (w.heap.size + 1 + 1) #[.int .i64 f.rows, .int .i64 f.cols, .slice fa fn fc] 26 := by rw [hw3]; exact Blk.newAt _ _ _ (by simp)
 have Hw3 := Lib.hid hw3; clear hw3
 go_enter Tryz.func11, Tryz.ntmps11
 go_wp2_with fail
 rw [← Hw3.out]
 refine (specMul_c (hVR.grow hG3) (hVF.grow hG3) (by omega) (by omega)).mono ?_
 rintro e w4 ⟨pv, rfl, hP, hG4⟩
 have hmm : mulOk r f = true → isMatB (mulB r f) = true := mulB_mat
 have hgo : mulOk r f = true → f.cols = s.cols → mapB r s f = mapAll s (mulB r f) := map_go
 generalize mulB r f = M at *
 obtain ⟨mr, mc, m⟩ := M
 obtain ⟨pa, pn, pc, rfl, oP, rP, fP, ip1, ip2⟩ := hP
 simp only at oP rP ip1 ip2
 have hG34 := hG3.trans hG4
 have bS4 := bS.grow hG4
 have bF4 := bF.grow hG4
 have hltS := bS4.lt
 have hltF := bF4.lt
 have hGa := (Grow.refl w4).alloc #[.int .i64 mr, .int .i64 mc, .slice pa pn pc] 26
 cases hok : mulOk r f with
 | false =>
  have Hz := Lib.hid (map_mul (s := s) hok)
  clear hok
  go_wp2
  go_ret
  exact ⟨by rw [Hz.out]; rfl, hG34.trans hGa⟩
 | true =>
  obtain ⟨⟨s0, s1, s2⟩, -⟩ := (bS4.grow hGa).three
  obtain ⟨⟨f0, f1, f2⟩, -⟩ := (bF4.grow hGa).three
  by_cases hcol : f.cols = s.cols
  ·have q2 : (f.cols != s.cols) = false := by simp [hcol]
   have Hgo := Lib.hid (hgo hok hcol)
   obtain ⟨R, C, hpr, hpc, hR, hC, hl, hnum⟩ := isMatB_shape (hmm hok)
   simp only at hpr hpc hl
   have Hno := Lib.hid (fun (i : Nat) hi h0 => mapAll_no (s := s) (p := { rows := mr, cols := mc, cells := m }) (i := i) hpr hpc hi h0)
   have Hyes := Lib.hid (fun h0 => mapAll_yes (s := s) (p := { rows := mr, cols := mc, cells := m }) hpr hpc h0)
   have rd := oP.rdI (S := fun _ => True) (fun _ _ => trivial) rP
   have Hl := Lib.hid hl
   subst hpr
   subst hpc
   generalize mapAll s { rows := (R : Int), cols := (C : Int), cells := m } = res at *
   clear hok hcol hl oP rP fP ip1 ip2 hnum hgo hmm
   obtain ⟨w5, hw5⟩ : ∃ w5, w5 = w4.alloc (.cells #[.int .i64 (R : Int), .int .i64 (C : Int), .slice pa pn pc] 26) := ⟨_, rfl⟩
   have bP : Blk w5 w4.heap.size #[.int .i64 (R : Int), .int .i64 (C : Int), .slice pa pn pc] 26 := by rw [hw5]; exact Blk.new w4 _ _
   have hG5 : Grow w4 w5 := by rw [hw5]; exact hGa
   have bS5 := bS4.grow hG5
   have rd5 := rd.grow hG5
   have hG05 := hG34.trans hG5
   have Hw5 := Lib.hid hw5
   clear hw5 hGa
   go_wp2_with fail
   rw [← Hw5.out]
   clear s0 s1 s2 f0 f1 f2 q2
   go_loopw [9] (fun q wr => Grow w5 wr ∧ ∃ i : Nat, i ≤ R ∧ q = .int .i64 i ∧ ∀ i', i' < i → zinB s (rowL m C i') = true) (fun q _ => R - (intOf q).toNat)
   case atStart => exact ⟨Grow.refl _, 0, Nat.zero_le _, rfl, fun i' h0 => by omega⟩
   case round =>
    obtain ⟨hG, i, hi, rfl, hall⟩ := hrel
    have Hall := Lib.hid hall; clear hall
    have bPr := bP.grow hG
    have bSr := bS5.grow hG
    have rdr := rd5.grow hG
    have hvS := hVS.grow (hG05.trans hG)
    obtain ⟨⟨p0, p1, p2⟩, -⟩ := bPr.three
    by_cases hlt : i < R
    ·have hrl := rowL_len Hl.out hlt
     have hrl0 := row_le Hl.out hlt
     have u1 := mul_wrap (i := i) (c := C) (by omega) (by omega)
     have u3 : IntKind.i64.wrap (((i : Int) + 1) * C) = ((i : Int) + 1) * C := by
      have := mul_wrap (i := i + 1) (c := C) (by omega) (by omega)
      simpa using this
     have hle := rdr.row.le
     have hpl := rdr.len
     have rsl := T_ints.atLH (a := pa) (n := pn) (cap := pc) (l := i * C) (k := i * C + C) (i := (i : Int) * C) (j := ((i : Int) + 1) * C) (by simp) (by rw [Int.add_mul]; simp) (by omega) (by omega)
     have rs := rdr.sub (l := i * C) (k := i * C + C) (by omega) (by omega)
     rw [show i * C + C - i * C = C by omega] at rsl rs
     have Hpl := Lib.hid hpl; clear hpl hrl0
     have hrl1 := Lib.hid hrl; clear hrl
     go_wp2
     refine wp_region_segs (S := Grow wr) [([0, 1, 2, 3, 4, 5, 6, 7, 8, 9, 10, 11, 12], some 13), ([14, 15, 16, 17, 18], none)] P_mixed (by kernel_rfl) (fun _ _ _ _ _ h => h) (Grow.refl _).drew ?_
     show wpQuiet _ _ _ _ [_, _, _, _, _, _, _, _, _, _, _, _, _] _
     repeat (first | go_big_quiet_skip | (go_big_quiet_want; first | (apply quiet_load3 T_mat; rfl; rfl; exact (fun w' hG => bSr.grow hG); go_big_quiet_on; simp only [Act.put, List.setIfInBounds_toArray, List.set_cons_succ, List.set_cons_zero]) | (apply quiet_load CT_ints; rfl; rfl; exact (fun w' hG => hG.cell p2); go_big_quiet_on; simp only [Act.put, List.setIfInBounds_toArray, List.set_cons_succ, List.set_cons_zero]) | (apply quiet_load CT_int; rfl; rfl; exact (fun w' hG => hG.cell p1); go_big_quiet_on; simp only [Act.put, List.setIfInBounds_toArray, List.set_cons_succ, List.set_cons_zero]) | (apply quiet_sliceLH (x := .tmp 36) (l := .tmp 40) (h := .tmp 45); rfl; exact rsl; go_big_quiet_on; simp only [Act.put, List.setIfInBounds_toArray, List.set_cons_succ, List.set_cons_zero]) | (go_big_quiet_op; first | go_big_quiet_on | (refine ⟨_, (fun _ _ => rfl), ?_⟩; go_big_quiet_on))))
     refine wpQuiet_nil ?_
     refine seg_go rfl (fun K hK => ?_)
     go_wp2_with fail
     refine (sIsZeroIn_c (v := rowL m C i) (hvS.grow (Grow.refl _).drew) hbs ⟨_, _, _, rfl, rs.grow (Grow.refl _).drew⟩ (by unfold bdI; rw [hrl1.out]; omega)).mono ?_
     rintro e w8 ⟨rfl, hG8⟩
     have hGz := (Grow.refl wr).drew.trans hG8
     go_wp2_with fail
     refine hK _ _ (hGz) ?_
     clear hK K
     show wpQuiet _ _ _ _ [_, _, _, _, _] _
     try (conv => arg 6; simp only [Act.put, List.setIfInBounds_toArray, List.set_cons_succ, List.set_cons_zero])
     repeat (first | go_big_quiet_skip | (go_big_quiet_want; first | (apply quiet_load3 T_mat; rfl; rfl; exact (fun w' hG => bSr.grow hG); go_big_quiet_on; simp only [Act.put, List.setIfInBounds_toArray, List.set_cons_succ, List.set_cons_zero]) | (apply quiet_load CT_ints; rfl; rfl; exact (fun w' hG => hG.cell p2); go_big_quiet_on; simp only [Act.put, List.setIfInBounds_toArray, List.set_cons_succ, List.set_cons_zero]) | (apply quiet_load CT_int; rfl; rfl; exact (fun w' hG => hG.cell p1); go_big_quiet_on; simp only [Act.put, List.setIfInBounds_toArray, List.set_cons_succ, List.set_cons_zero]) | (apply quiet_sliceLH (x := .tmp 36) (l := .tmp 40) (h := .tmp 45); rfl; exact rsl; go_big_quiet_on; simp only [Act.put, List.setIfInBounds_toArray, List.set_cons_succ, List.set_cons_zero]) | (go_big_quiet_op; first | go_big_quiet_on | (refine ⟨_, (fun _ _ => rfl), ?_⟩; go_big_quiet_on))))
     refine wpQuiet_nil ?_
     refine wpSegs_nil ?_
     have hGr := hGz
     cases hz : zinB s (rowL m C i) with
     | false =>
      have HN := Lib.hid (Hno.out i hlt hz)
      go_wp2
      go_ret
      exact ⟨by rw [Hgo.out, HN.out]; rfl, (hG05.trans hG).trans hGr⟩
     | true =>
      have Hzz := Lib.hid hz
      have hnb : nrmB s (rowL m C i) = true := by unfold zinB at hz; rw [Bool.and_eq_true] at hz; exact hz.1
      rw [hnb]
      clear hz hnb
      go_wp2
      go_roundw
      case rel => exact ⟨hG.trans hGr, i + 1, by omega, by go_num, fun i' h0 => by
       by_cases e : i' = i
       ·subst e; exact Hzz.out
       ·exact Hall.out i' (by omega)⟩
      case measure => simp [intOf]; omega
    ·have hiE : i = R := by omega
     subst hiE
     have HY := Lib.hid (Hyes.out Hall.out)
     go_wp2
     go_ret
     exact ⟨by rw [Hgo.out, HY.out]; rfl, hG05.trans hG⟩
  ·have q2 : (f.cols != s.cols) = true := by simp [hcol]
   have Hz := Lib.hid (map_cols (r := r) hcol)
   clear hok
   go_wp2
   go_ret
   exact ⟨by rw [Hz.out]; rfl, hG34.trans hGa⟩
end Go.Proofs.YtoiblknchcoecaaGreat
