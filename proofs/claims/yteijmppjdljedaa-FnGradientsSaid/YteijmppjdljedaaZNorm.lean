/-
  The normal form of a vector over a basis: plain; the first place of a row that is not 0, both.
-/
import Derived.Test.YteijmppjdljedaaZBasI
namespace Go.Proofs.Yteijmppjdljedaa
open Go.RowKit

/-! ### What is known of a basis -/
structure Bas (m : Mat) (C N : Nat) (b : List Int) : Prop where
  eq : basB m = { rows := (N : Int), cols := (C : Int), cells := b }
  cols : m.cols = (C : Int)
  hC : C ≤ 24
  hN : N ≤ 24
  len : b.length = N * C
  num : NumL b
  full : ∀ i, i < N → ∃ k, k < C ∧ cell b C i k ≠ 0
theorem cell_take {m : List Int} {C t i k : Nat} (hi : i < t) (hk : k < C) : cell (m.take (t * C)) C i k = cell m C i k := by
  have h1 : i * C + k < t * C := place_lt hk hi
  unfold cell
  simp only [List.getD_eq_getElem?_getD, List.getElem?_take]
  rw [if_pos h1]
theorem bas_of {m : Mat} (h : basOk m = true) : ∃ C N b, Bas m C N b := by
  cases hB : isMatB m with
  | false =>
    have := (basB_none (m := m) (by unfold hermR; rw [hB]; rfl)).1
    rw [this] at h; cases h
  | true =>
    obtain ⟨R, C, hmr, hmc, hR, hC, hl, hnum⟩ := isMatB_shape hB
    obtain ⟨mr, mc, cells⟩ := m
    simp only at hmr hmc hl hnum
    subst hmr
    subst hmc
    cases hh : herm cells R C with
    | none =>
      have := (basB_none (m := { rows := (R : Int), cols := (C : Int), cells := cells }) (by rw [hermR_mat hB]; exact hh)).1
      rw [this] at h; cases h
    | some s =>
      obtain ⟨hs, t, ht, hE⟩ := herm_spec hl hnum hh
      have e := ech_last hE R (Nat.le_refl _) ht
      refine ⟨C, t, s.1.take (t * C), ?_, rfl, hC, by omega, ?_, fun x hx => hs.na x (List.mem_of_mem_take hx), fun i hi => ?_⟩
      · rw [(basB_some hB hh).2, e]
      · rw [List.length_take, hs.la]
        have := Nat.mul_le_mul_right C ht
        omega
      · obtain ⟨k, hk, hne⟩ := hE.full i hi
        exact ⟨k, hk, by rw [cell_take hi hk]; exact hne⟩

/-! ### The first place of a row that is not 0 -/
def fz (xs : List Int) : Nat := xs.findIdx fun x => x != 0
theorem fz_eq {xs : List Int} {k : Nat} {x : Int} (hx : xs[k]? = some x) (hne : x ≠ 0) (hz : ∀ y ∈ xs.take k, y = 0) : fz xs = k := by
  unfold fz
  have hk : k < xs.length := (List.getElem?_eq_some_iff.1 hx).1
  have hxk : xs[k] = x := (List.getElem?_eq_some_iff.1 hx).2
  rw [List.findIdx_eq hk]
  refine ⟨by simp [hxk, hne], fun j hj => ?_⟩
  have hm : xs[j] ∈ xs.take k := by
    rw [List.mem_take_iff_getElem]
    exact ⟨j, by omega, rfl⟩
  simp [hz _ hm]
theorem fz_lt {xs : List Int} (h : ∃ x ∈ xs, x ≠ 0) : fz xs < xs.length := by
  obtain ⟨x, hx, hne⟩ := h
  exact List.findIdx_lt_length_of_exists ⟨x, hx, by simp [hne]⟩
theorem fz_ne {xs : List Int} (h : ∃ x ∈ xs, x ≠ 0) : ∃ x, xs[fz xs]? = some x ∧ x ≠ 0 := by
  have hlt := fz_lt h
  exact ⟨xs[fz xs], List.getElem?_eq_getElem hlt, fun e => by
    have h2 : (fun x : Int => x != 0) xs[fz xs] = true := List.findIdx_getElem (w := hlt)
    simp [e] at h2⟩
theorem fz_zero {xs : List Int} : ∀ y ∈ xs.take (fz xs), y = 0 := fun y hy => by
  rw [List.mem_take_iff_getElem] at hy
  obtain ⟨j, hj, rfl⟩ := hy
  have := List.not_of_lt_findIdx (p := fun x : Int => x != 0) (xs := xs) (i := j) (by unfold fz at hj; omega)
  simpa using this
def fcI (xs : List Int) : Int := if zeroL xs = true then -1 else (fz xs : Nat)
theorem fcI_some {xs : List Int} {k : Nat} {x : Int} (hx : xs[k]? = some x) (hne : x ≠ 0) (hz : ∀ y ∈ xs.take k, y = 0) : fcI xs = (k : Int) := by
  unfold fcI
  rw [zeroL_no hx (by simp [hne]), fz_eq hx hne hz]
  simp

set_option maxHeartbeats 1000000 in
theorem firstCell_c {S : Nat → Prop} (a : Option Addr) (n cap : Nat) (xs : List Int) (w : World) (h : RdI w S a n cap xs) (hn : n ≤ 2097152) :
    Calls Try.prog 66 #[.slice a n cap] w fun e w' => e = .returned (.int .i64 (fcI xs)) ∧ w = w' := by
  have hcl : ∀ (x : Int) (w : World), Calls Try.prog 70 #[.int .i64 x] w fun e w' => e = .returned (.bool (!(x == 0))) ∧ w = w' := fun x w => by
    by_cases hx : x = 0
    · subst hx
      go_enter Try.func70, Try.ntmps70
      go_wp2
      go_ret
      exact ⟨ret_bool rfl, rfl⟩
    · have e1 : (x == 0) = false := by simp [hx]
      have e2 : (x != 0) = true := by simp [hx]
      clear hx
      go_enter Try.func70, Try.ntmps70
      go_wp2
      go_ret
      exact ⟨ret_bool (by rw [e1]; rfl), rfl⟩
  have Hl := Lib.hid h.len
  have hidx : Calls Try.prog 69 #[.slice a n cap, .func (.func 70) #[] #[]] w fun e w' => e = .returned (.int .i64 (fcI xs)) ∧ w = w' := by
    go_enter Try.func69, Try.ntmps69
    go_wp2
    go_loop [8] (fun i => ∃ k : Nat, k ≤ n ∧ i = .int .i64 k ∧ ∀ x ∈ xs.take k, (x == 0) = true) (fun i => n - (intOf i).toNat)
    case atStart => exact ⟨0, Nat.zero_le _, rfl, by simp⟩
    case round =>
      obtain ⟨k, hk, rfl, he⟩ := hrel
      have He := Lib.hid he; clear he
      by_cases hlt : k < n
      · obtain ⟨b, off, x, rfl, hx, hr, _, hb, hc⟩ := h.at hlt
        have Hx := Lib.hid hx; clear hx
        cases h0 : x == 0 with
        | true =>
          have H0 := Lib.hid h0; clear h0
          go_wp2_with fail
          refine (hcl _ _).mono ?_
          rintro e w' ⟨rfl, rfl⟩
          rw [H0.out]
          go_wp2
          go_round
          case rel =>
            refine ⟨k + 1, by omega, by go_num, fun z hz => ?_⟩
            rw [take_succ Hx.out, List.mem_append, List.mem_singleton] at hz
            rcases hz with hz | rfl
            · exact He.out z hz
            · exact H0.out
          case measure => simp [intOf]; omega
        | false =>
          have H0 := Lib.hid h0; clear h0
          go_wp2_with fail
          refine (hcl _ _).mono ?_
          rintro e w' ⟨rfl, rfl⟩
          rw [H0.out]
          go_wp2
          go_ret
          exact ⟨by rw [fcI_some Hx.out (by have := H0.out; simpa using this) (fun y hy => by have := He.out y hy; simpa using this)]; rfl, rfl⟩
      · go_wp2
        go_ret
        have : k = n := by omega
        subst this
        have := He.out
        rw [take_all Hl.out] at this
        exact ⟨by unfold fcI; rw [zeroL_yes this]; rfl, rfl⟩
  go_enter Try.func66, Try.ntmps66
  go_wp2_with fail
  refine hidx.mono ?_
  rintro e w' ⟨rfl, rfl⟩
  go_wp2
  go_ret
  exact ⟨rfl, rfl⟩
theorem rowL_take {m : List Int} {C R i p : Nat} (hl : m.length = R * C) (hi : i < R) (hz : ∀ k, k < p → cell m C i k = 0) (hp : p ≤ C) : ∀ y ∈ (rowL m C i).take p, y = 0 := fun y hy => by
  rw [List.mem_take_iff_getElem] at hy
  obtain ⟨j, hj, rfl⟩ := hy
  have hjC : j < C := by omega
  have := rowL_at hl hi hjC
  rw [List.getElem?_eq_getElem (by omega)] at this
  rw [Option.some.inj this]
  exact hz j (by omega)
theorem rowL_ex {m : List Int} {C R i : Nat} (hl : m.length = R * C) (hi : i < R) (hf : ∃ k, k < C ∧ cell m C i k ≠ 0) : ∃ x ∈ rowL m C i, x ≠ 0 := by
  obtain ⟨k, hk, hne⟩ := hf
  exact ⟨_, List.mem_of_getElem? (rowL_at hl hi hk), hne⟩
theorem fz_row {m : List Int} {C R i : Nat} (hl : m.length = R * C) (hi : i < R) (hf : ∃ k, k < C ∧ cell m C i k ≠ 0) : fz (rowL m C i) < C ∧ cell m C i (fz (rowL m C i)) ≠ 0 := by
  have h1 := fz_lt (rowL_ex hl hi hf)
  rw [rowL_len hl hi] at h1
  obtain ⟨x, hx, hne⟩ := fz_ne (rowL_ex hl hi hf)
  rw [rowL_at hl hi h1] at hx
  exact ⟨h1, by rw [Option.some.inj hx]; exact hne⟩
theorem fc_row {m : List Int} {C R i : Nat} (hl : m.length = R * C) (hi : i < R) (hf : ∃ k, k < C ∧ cell m C i k ≠ 0) : fcI (rowL m C i) = (fz (rowL m C i) : Nat) := by
  obtain ⟨x, hx, hne⟩ := fz_ne (rowL_ex hl hi hf)
  exact fcI_some hx hne fz_zero

end Go.Proofs.Yteijmppjdljedaa

namespace Go.Proofs.Yteijmppjdljedaa

def nrmV (m : List Int) (C i : Nat) (v : List Int) (q : Int) (k : Nat) : Int := v.getD k 0 - cell m C i k * q
def nrmOk (m : List Int) (C i : Nat) (v : List Int) (q : Int) : Bool := (List.range C).all fun k => isNumB (cell m C i k * q) && isNumB (nrmV m C i v q k)
def nrmQ (m : List Int) (C i : Nat) (v : List Int) : Int := v.getD (fz (rowL m C i)) 0 / cell m C i (fz (rowL m C i))
def nrm1 (m : List Int) (C i : Nat) (v : List Int) : Option (List Int) := if nrmOk m C i v (nrmQ m C i v) = true then some (updR (nrmV m C i v (nrmQ m C i v)) 0 C v) else none
def nrmN (m : List Int) (C : Nat) : Nat → Nat → List Int → Option (List Int)
  | 0, _, v => some v
  | n + 1, i, v => (nrm1 m C i v).bind (nrmN m C n (i + 1))
def nrmIn (r : Mat) (v : List Int) : Bool := basOk r && (decide ((v.length : Int) = r.cols) && numsB v)
def nrmR (r : Mat) (v : List Int) : Option (List Int) := if nrmIn r v = true then nrmN (basB r).cells (basB r).cols.toNat (basB r).rows.toNat 0 v else none
def nrmB (r : Mat) (v : List Int) : Bool := (nrmR r v).isSome
def nrmL (r : Mat) (v : List Int) : List Int := (nrmR r v).getD []
theorem nrmOk_iff {m : List Int} {C i : Nat} {v : List Int} {q : Int} : nrmOk m C i v q = true ↔ ∀ k, k < C → isNumB (cell m C i k * q) = true ∧ isNumB (nrmV m C i v q k) = true := by
  unfold nrmOk; rw [List.all_eq_true]
  constructor
  · intro h k hk
    have := h k (List.mem_range.2 hk)
    rwa [Bool.and_eq_true] at this
  · intro h k hk
    have := h k (List.mem_range.1 hk)
    rwa [Bool.and_eq_true]
theorem nrm_none {r : Mat} {v : List Int} (h : nrmR r v = none) : nrmB r v = false ∧ nrmL r v = [] := by
  unfold nrmB nrmL; rw [h]; exact ⟨rfl, rfl⟩
theorem nrm_some {r : Mat} {v x : List Int} (h : nrmR r v = some x) : nrmB r v = true ∧ nrmL r v = x := by
  unfold nrmB nrmL; rw [h]; exact ⟨rfl, rfl⟩
theorem nrmR_no {r : Mat} {v : List Int} (h : nrmIn r v = false) : nrmR r v = none := by
  unfold nrmR; rw [h]; rfl
theorem nrmR_yes {r : Mat} {v b : List Int} {C N : Nat} (hb : Bas r C N b) (h : nrmIn r v = true) : nrmR r v = nrmN b C N 0 v := by
  unfold nrmR; rw [h, hb.eq]; rfl
theorem nrmIn_bas {r : Mat} {v : List Int} (h : basOk r = false) : nrmIn r v = false := by unfold nrmIn; rw [h]; rfl
theorem nrmIn_len {r : Mat} {v : List Int} (h : (v.length : Int) ≠ r.cols) : nrmIn r v = false := by unfold nrmIn; rw [decide_eq_false h]; simp
theorem nrmIn_num {r : Mat} {v : List Int} (h : numsB v = false) : nrmIn r v = false := by unfold nrmIn; rw [h]; simp
theorem nrmIn_yes {r : Mat} {v : List Int} (h1 : basOk r = true) (h2 : (v.length : Int) = r.cols) (h3 : numsB v = true) : nrmIn r v = true := by unfold nrmIn; rw [h1, h3, decide_eq_true h2]; rfl
theorem numsB_L {v : List Int} (h : numsB v = true) : NumL v := fun x hx => isNumB_iff.1 (List.all_eq_true.1 h x hx)
theorem L_numsB {v : List Int} (h : NumL v) : numsB v = true := List.all_eq_true.2 fun x hx => isNumB_iff.2 (h x hx)
theorem nrm1_no {m : List Int} {C i : Nat} {v : List Int} (h : nrmOk m C i v (nrmQ m C i v) = false) : nrm1 m C i v = none := by unfold nrm1; rw [h]; rfl
theorem nrm1_yes {m : List Int} {C i : Nat} {v : List Int} (h : nrmOk m C i v (nrmQ m C i v) = true) : nrm1 m C i v = some (updR (nrmV m C i v (nrmQ m C i v)) 0 C v) := by unfold nrm1; rw [h]; rfl
theorem nrmV_num {m : List Int} {C i : Nat} {v : List Int} {q : Int} (hv : NumL v) (h : nrmOk m C i v q = true) : NumL (updR (nrmV m C i v q) 0 C v) := fun x hx => by
  rcases updR_mem hx with hx | ⟨k, hk, rfl⟩
  · exact hv x hx
  · exact isNumB_iff.1 (nrmOk_iff.1 h k hk).2
theorem nrmN_no {m : List Int} {C n i : Nat} {v : List Int} (hn : 0 < n) (h : nrm1 m C i v = none) : nrmN m C n i v = none := by
  obtain ⟨n, rfl⟩ : ∃ k, n = k + 1 := ⟨n - 1, by omega⟩
  simp only [nrmN, h]; rfl
theorem nrmN_yes {m : List Int} {C n i : Nat} {v x : List Int} (hn : 0 < n) (h : nrm1 m C i v = some x) : nrmN m C n i v = nrmN m C (n - 1) (i + 1) x := by
  obtain ⟨n, rfl⟩ : ∃ k, n = k + 1 := ⟨n - 1, by omega⟩
  simp only [nrmN, h]; rfl
theorem nrm1_spec {m : List Int} {C i : Nat} {v x : List Int} (hv : NumL v) (h : nrm1 m C i v = some x) : NumL x ∧ x.length = v.length := by
  unfold nrm1 at h
  split at h
  · rename_i hok
    obtain rfl := Option.some.inj h
    exact ⟨nrmV_num hv hok, updR_len _ _ _ _⟩
  · cases h
theorem nrmN_spec {m : List Int} {C : Nat} : ∀ {n i : Nat} {v x : List Int}, NumL v → nrmN m C n i v = some x → NumL x ∧ x.length = v.length
  | 0, _, v, x, hv, h => by obtain rfl := Option.some.inj h; exact ⟨hv, rfl⟩
  | n + 1, i, v, x, hv, h => by
    simp only [nrmN] at h
    cases h1 : nrm1 m C i v with
    | none => rw [h1] at h; cases h
    | some y =>
      rw [h1] at h
      obtain ⟨a1, a2⟩ := nrm1_spec hv h1
      obtain ⟨b1, b2⟩ := nrmN_spec a1 (show nrmN m C n (i + 1) y = some x from h)
      exact ⟨b1, b2.trans a2⟩
theorem nrmR_spec {r : Mat} {v x : List Int} (h : nrmR r v = some x) : nrmIn r v = true ∧ NumL x ∧ x.length = v.length ∧ NumL v ∧ basOk r = true ∧ (v.length : Int) = r.cols := by
  cases hi : nrmIn r v with
  | false => rw [nrmR_no hi] at h; cases h
  | true =>
    have h0 := hi
    unfold nrmIn at h0
    rw [Bool.and_eq_true, Bool.and_eq_true, decide_eq_true_eq] at h0
    have hv := numsB_L h0.2.2
    unfold nrmR at h
    rw [hi, if_pos rfl] at h
    obtain ⟨a1, a2⟩ := nrmN_spec hv h
    exact ⟨rfl, a1, a2, hv, h0.1, h0.2.1⟩

/-! ### With marks -/
def nrmVS (m : List Int) (C i : Nat) (v : List Int) (q : Int) (k : Nat) : Int := addS (v.getD k 0) (mulS (cell m C i k) (-q))
theorem isNumB_neg (x : Int) : isNumB (-x) = isNumB x := by
  rw [Bool.eq_iff_iff, isNumB_iff, isNumB_iff]; omega
theorem nrmVS_ok {m : List Int} {C i : Nat} {v : List Int} {q : Int} {k : Nat} (hm : NumL m) (hv : NumL v) (hq : -400000000 ≤ q ∧ q ≤ 400000000) (h1 : isNumB (cell m C i k * q) = true) (h2 : isNumB (nrmV m C i v q k) = true) : nrmVS m C i v q k = nrmV m C i v q k := by
  have hx := cell_num hm C i k
  have hy := hv.getD k
  unfold nrmVS
  have e1 : mulS (cell m C i k) (-q) = -(cell m C i k * q) := by
    unfold mulS
    rw [if_neg (by rintro (e | e); exact num_ne hx e; exact num_ne (by omega) e), Int.mul_neg, fitB_ok (by rw [isNumB_neg]; exact h1)]
  have h3 := isNumB_iff.1 h1
  rw [e1]
  unfold addS
  rw [if_neg (by rintro (e | e); exact num_ne hy e; exact num_ne (by omega) e)]
  exact fitB_ok h2
theorem nrmVS_no {m : List Int} {C i : Nat} {v : List Int} {q : Int} {k : Nat} (hm : NumL m) (hq : -400000000 ≤ q ∧ q ≤ 400000000) (h : ¬ (isNumB (cell m C i k * q) = true ∧ isNumB (nrmV m C i v q k) = true)) : nrmVS m C i v q k = badN := by
  have hx := cell_num hm C i k
  unfold nrmVS
  cases h1 : isNumB (cell m C i k * q) with
  | false =>
    have e : mulS (cell m C i k) (-q) = badN := by
      unfold mulS
      split
      · rfl
      · rw [Int.mul_neg]; exact fitB_bad (by rw [isNumB_neg]; exact h1)
    rw [e]; unfold addS; rw [if_pos (.inr rfl)]
  | true =>
    have e1 : mulS (cell m C i k) (-q) = -(cell m C i k * q) := by
      unfold mulS
      rw [if_neg (by rintro (e | e); exact num_ne hx e; exact num_ne (by omega) e), Int.mul_neg, fitB_ok (by rw [isNumB_neg]; exact h1)]
    have h2 : isNumB (nrmV m C i v q k) = false := by
      cases h2 : isNumB (nrmV m C i v q k) with
      | false => rfl
      | true => exact (h ⟨h1, h2⟩).elim
    rw [e1]
    unfold addS
    split
    · rfl
    · exact fitB_bad h2
theorem nrmS_yes {m : List Int} {C i : Nat} {v : List Int} {q : Int} (hm : NumL m) (hv : NumL v) (hq : -400000000 ≤ q ∧ q ≤ 400000000) (h : nrmOk m C i v q = true) : updR (nrmVS m C i v q) 0 C v = updR (nrmV m C i v q) 0 C v :=
  updR_congr fun k hk => nrmVS_ok hm hv hq (nrmOk_iff.1 h k hk).1 (nrmOk_iff.1 h k hk).2
theorem nrmS_no {m : List Int} {C i : Nat} {v : List Int} {q : Int} (hm : NumL m) (hl : v.length = C) (hq : -400000000 ≤ q ∧ q ≤ 400000000) (h : nrmOk m C i v q = false) : badN ∈ updR (nrmVS m C i v q) 0 C v := by
  obtain ⟨k, hk, hno⟩ : ∃ k, k < C ∧ ¬ (isNumB (cell m C i k * q) = true ∧ isNumB (nrmV m C i v q k) = true) := by
    rcases Classical.em (∃ k, k < C ∧ ¬ (isNumB (cell m C i k * q) = true ∧ isNumB (nrmV m C i v q k) = true)) with h1 | h1
    · exact h1
    · have : nrmOk m C i v q = true := nrmOk_iff.2 fun k hk => Classical.byContradiction fun h2 => h1 ⟨k, hk, h2⟩
      rw [this] at h; cases h
  have e : (updR (nrmVS m C i v q) 0 C v).getD k 0 = badN := by
    rw [updR_getD (by omega), if_pos (by omega), Nat.sub_zero]
    exact nrmVS_no hm hq hno
  rw [← e]
  exact mem_getD (by rw [updR_len]; omega)
theorem nrmQ_num {m : List Int} {C R i : Nat} {v : List Int} (hv : NumL v) (hl : m.length = R * C) (hi : i < R) (hf : ∃ k, k < C ∧ cell m C i k ≠ 0) : -400000000 ≤ nrmQ m C i v ∧ nrmQ m C i v ≤ 400000000 :=
  quo_num (hv.getD _) (fz_row hl hi hf).2
end Go.Proofs.Yteijmppjdljedaa
