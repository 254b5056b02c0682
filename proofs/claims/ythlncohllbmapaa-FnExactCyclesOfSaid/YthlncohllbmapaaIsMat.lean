/-
  Numbers within the limit; matrices that are valid.
-/
import Derived.Test.YthlncohllbmapaaMatNew
import Derived.Test.YthlncohllbmapaaL1In
namespace Go.Proofs.Ythlncohllbmapaa
open Go.RowKit

def isNumB (n : Int) : Bool := inB n (-400000000) 400000000
def numsB (xs : List Int) : Bool := xs.all isNumB
theorem isNumB_rng {n : Int} (h : isNumB n = true) : -400000000 ≤ n ∧ n ≤ 400000000 := by unfold isNumB inB at h; simpa using h
theorem isNumB_iff {n : Int} : isNumB n = true ↔ -400000000 ≤ n ∧ n ≤ 400000000 := by unfold isNumB inB; simp
theorem numsB_take_succ {xs : List Int} {k : Nat} {x : Int} (h : xs[k]? = some x) : numsB (xs.take (k + 1)) = (numsB (xs.take k) && isNumB x) := by
  rw [take_succ h]; unfold numsB; simp
theorem numsB_no {xs : List Int} {k : Nat} {x : Int} (h : xs[k]? = some x) (hx : isNumB x = false) : numsB xs = false := by
  unfold numsB
  rw [List.all_eq_false]
  exact ⟨x, List.mem_of_getElem? h, by simp [hx]⟩
/-- The valid shapes. -/
def shapeB (m : Mat) : Bool := decide (0 ≤ m.rows ∧ m.rows ≤ 24 ∧ 0 ≤ m.cols ∧ m.cols ≤ 24 ∧ (m.cells.length : Int) = m.rows * m.cols)
def isMatB (m : Mat) : Bool := shapeB m && numsB m.cells

theorem isNumber_c (n : Int) (w : World) : Calls Try.prog 95 #[.int .i64 n] w fun e w' => e = .returned (.bool (isNumB n)) ∧ w = w' := by
  by_cases h1 : -400000000 ≤ n
  · by_cases h2 : n ≤ 400000000
    · have H := Lib.hid (isNumB_iff.2 ⟨h1, h2⟩)
      go_enter Try.func95, Try.ntmps95
      go_wp2
      go_ret
      exact ⟨by rw [H.out]; rfl, rfl⟩
    · have H := Lib.hid (show isNumB n = false by cases h : isNumB n with | false => rfl | true => exact absurd (isNumB_rng h).2 h2)
      go_enter Try.func95, Try.ntmps95
      go_wp2
      go_ret
      exact ⟨by rw [H.out]; rfl, rfl⟩
  · have H := Lib.hid (show isNumB n = false by cases h : isNumB n with | false => rfl | true => exact absurd (isNumB_rng h).1 h1)
    go_enter Try.func95, Try.ntmps95
    go_wp2
    go_ret
    exact ⟨by rw [H.out]; rfl, rfl⟩
theorem sIsNumber_c (n : Int) (w : World) : Calls Try.prog 100 #[.int .i64 n] w fun e w' => e = .returned (.bool (isNumB n)) ∧ w = w' := by
  go_enter Try.func100, Try.ntmps100
  go_wp2_with fail
  refine (l1In_c _ _ _ _).mono ?_
  rintro e w' ⟨rfl, rfl⟩
  go_wp2
  go_ret
  exact ⟨rfl, rfl⟩

set_option maxHeartbeats 1000000 in
theorem areNumbers_c {S : Nat → Prop} (a : Option Addr) (n cap : Nat) (xs : List Int) (w : World) (h : RdI w S a n cap xs) (hn : n ≤ 2097152) :
    Calls Try.prog 92 #[.slice a n cap] w fun e w' => e = .returned (.bool (numsB xs)) ∧ w = w' := by
  have hl := h.len
  go_enter Try.func92, Try.ntmps92
  go_wp2
  go_loopw [7] (fun i wr => w = wr ∧ ∃ k : Nat, k ≤ n ∧ i = .int .i64 k ∧ numsB (xs.take k) = true) (fun i _ => n - (intOf i).toNat)
  case atStart => exact ⟨by trivial, 0, Nat.zero_le _, rfl, rfl⟩
  case round =>
    obtain ⟨rfl, k, hk, rfl, hall⟩ := hrel
    have Hall := Lib.hid hall; clear hall
    by_cases hlt : k < n
    · obtain ⟨b, off, x, rfl, hx, hr, _, hb, hc⟩ := h.at hlt
      have Hx := Lib.hid hx; clear hx
      unfold I64 at hr
      cases hN : isNumB x with
      | true =>
        have HN := Lib.hid hN; clear hN
        go_wp2_with fail
        refine (isNumber_c _ _).mono ?_
        rintro e w' ⟨rfl, rfl⟩
        rw [HN.out]
        go_wp2
        go_roundw
        case rel => exact ⟨by trivial, k + 1, by omega, by go_num, by rw [numsB_take_succ Hx.out, Hall.out, HN.out]; rfl⟩
        case measure => simp [intOf]; omega
      | false =>
        have HN := Lib.hid hN; clear hN
        go_wp2_with fail
        refine (isNumber_c _ _).mono ?_
        rintro e w' ⟨rfl, rfl⟩
        rw [HN.out]
        go_wp2
        go_ret
        exact ⟨by rw [numsB_no Hx.out HN.out]; rfl, rfl⟩
    · have : k = n := by omega
      subst this
      rw [take_all hl] at Hall
      go_wp2
      go_ret
      exact ⟨by rw [Hall.out]; rfl, rfl⟩

set_option maxHeartbeats 2000000 in
set_option maxRecDepth 100000 in
theorem isMatrix_c {S : Nat → Prop} {v : Value} {m : Mat} {w : World} (h : VM w S v m) (hb : bdM m ≤ 2097152) :
    Calls Try.prog 63 #[v] w fun e w' => e = .returned (.bool (isMatB m)) ∧ Grow w w' := by
  obtain ⟨a, n, c, rfl, h, hr, hc⟩ := h
  have hl := h.len
  unfold bdM at hb
  obtain ⟨r, k, cells⟩ := m
  simp only at *
  unfold I64 at hr hc
  have hG : Grow w (w.alloc (.cells #[.int .i64 r, .int .i64 k, .slice a n c] 27)) := (Grow.refl w).alloc _ _
  by_cases h1 : 0 ≤ r
  · by_cases h2 : r ≤ 24
    · by_cases h3 : 0 ≤ k
      · by_cases h4 : k ≤ 24
        · obtain ⟨R, rfl⟩ := Int.eq_ofNat_of_zero_le h1
          obtain ⟨K, rfl⟩ := Int.eq_ofNat_of_zero_le h3
          have hm : R * K ≤ 24 * 24 := Nat.mul_le_mul (by omega) (by omega)
          have hmul : ((R : Int) * (K : Int)) = ((R * K : Nat) : Int) := by simp
          have hw1 : IntKind.i64.wrap ((R : Int) * K) = ((R * K : Nat) : Int) := by rw [hmul]; exact IntWalk.i64_in _ (by omega)
          obtain ⟨p, hp⟩ : ∃ p, p = R * K := ⟨_, rfl⟩
          rw [← hp] at hw1
          by_cases h5 : n = p
          · have q1 : ((n : Int) == (p : Int)) = true := by simp [h5]
            have q2 : ((n : Int) != (p : Int)) = false := by simp [h5]
            have Hsh := Lib.hid (show shapeB ⟨(R : Int), (K : Int), cells⟩ = true by unfold shapeB; simp only [decide_eq_true_eq]; refine ⟨h1, h2, h3, h4, ?_⟩; rw [hmul]; omega)
            clear hmul hp h5 hm
            go_enter Try.func63, Try.ntmps63
            go_wp2_with fail
            refine (areNumbers_c _ _ _ cells _ (h.grow hG) (by omega)).mono ?_
            rintro e w' ⟨rfl, rfl⟩
            go_wp2
            go_ret
            exact ⟨by unfold isMatB; rw [Hsh.out]; simp, hG⟩
          · have q1 : ((n : Int) == (p : Int)) = false := by simp; omega
            have q2 : ((n : Int) != (p : Int)) = true := by simp; omega
            have H := Lib.hid (show isMatB ⟨(R : Int), (K : Int), cells⟩ = false by unfold isMatB shapeB; rw [decide_eq_false (fun hh => h5 (by have := hh.2.2.2.2; rw [hmul] at this; simp only at this; omega))]; rfl)
            clear hmul hp h5 hm
            go_enter Try.func63, Try.ntmps63
            go_wp2
            go_ret
            exact ⟨by rw [H.out]; rfl, hG⟩
        · have H := Lib.hid (show isMatB ⟨r, k, cells⟩ = false by unfold isMatB shapeB; rw [decide_eq_false (fun hh => h4 hh.2.2.2.1)]; rfl)
          go_enter Try.func63, Try.ntmps63
          go_wp2
          go_ret
          exact ⟨by rw [H.out]; rfl, hG⟩
      · have H := Lib.hid (show isMatB ⟨r, k, cells⟩ = false by unfold isMatB shapeB; rw [decide_eq_false (fun hh => h3 hh.2.2.1)]; rfl)
        go_enter Try.func63, Try.ntmps63
        go_wp2
        go_ret
        exact ⟨by rw [H.out]; rfl, hG⟩
    · have H := Lib.hid (show isMatB ⟨r, k, cells⟩ = false by unfold isMatB shapeB; rw [decide_eq_false (fun hh => h2 hh.2.1)]; rfl)
      go_enter Try.func63, Try.ntmps63
      go_wp2
      go_ret
      exact ⟨by rw [H.out]; rfl, hG⟩
  · have H := Lib.hid (show isMatB ⟨r, k, cells⟩ = false by unfold isMatB shapeB; rw [decide_eq_false (fun hh => h1 hh.1)]; rfl)
    go_enter Try.func63, Try.ntmps63
    go_wp2
    go_ret
    exact ⟨by rw [H.out]; rfl, hG⟩

set_option maxHeartbeats 1000000 in
set_option maxRecDepth 100000 in
theorem at_c {S : Nat → Prop} (a : Option Addr) (n cp C i j idx : Nat) (R x : Int) (cells : List Int) (w : World) (h : RdI w S a n cp cells) (hidx : idx = i * C + j) (hx : cells[idx]? = some x) (hn : n ≤ 1048576) (hi : i ≤ 1048576) (hC : C ≤ 1048576) (_hj : j ≤ 1048576) :
    Calls Try.prog 65 #[.agg #[.int .i64 R, .int .i64 C, .slice a n cp], .int .i64 i, .int .i64 j] w fun e w' => e = .returned (.int .i64 x) ∧ Grow w w' := by
  have hl := h.len
  have hlt : idx < n := by rw [← hl]; exact (List.getElem?_eq_some_iff.1 hx).1
  have hG : Grow w (w.alloc (.cells #[.int .i64 R, .int .i64 C, .slice a n cp] 27)) := (Grow.refl w).alloc _ _
  have hiC : i * C ≤ 1048576 * 1048576 := Nat.mul_le_mul hi hC
  obtain ⟨b, off, y, rfl, hy, hr, _, hb, hc⟩ := (h.grow hG).at hlt
  obtain rfl : x = y := Option.some.inj (hx.symm.trans hy)
  clear hx hy
  have hw1 : IntKind.i64.wrap ((i : Int) * C) = (i : Int) * C := by
    have : ((i : Int) * C) = ((i * C : Nat) : Int) := by simp
    rw [this]; exact IntWalk.i64_in _ (by omega)
  have hsum : ((i : Int) * C + j) = ((idx : Nat) : Int) := by rw [hidx]; simp
  have hw2 : IntKind.i64.wrap ((i : Int) * C + j) = (idx : Int) := by rw [hsum]; exact IntWalk.i64_in _ (by omega)
  clear hsum hidx
  go_enter Try.func65, Try.ntmps65
  go_wp2
  go_ret
  exact ⟨rfl, hG⟩

theorem inB_iff {x lo hi : Int} : inB x lo hi = true ↔ lo ≤ x ∧ x ≤ hi := by unfold inB; simp
theorem inB_no {x lo hi : Int} (h : ¬ (lo ≤ x ∧ x ≤ hi)) : inB x lo hi = false := by
  cases e : inB x lo hi with
  | false => rfl
  | true => exact absurd (inB_iff.1 e) h
set_option maxHeartbeats 2000000 in
set_option maxRecDepth 100000 in
theorem sIsMatrix_c {S : Nat → Prop} {v : Value} {m : Mat} {w : World} (h : VM w S v m) (hb : bdM m ≤ 2097152) :
    Calls Try.prog 60 #[v] w fun e w' => e = .returned (.bool (isMatB m)) ∧ Grow w w' := by
  obtain ⟨a, n, c, rfl, h, hr, hc⟩ := h
  have hl := h.len
  unfold bdM at hb
  obtain ⟨r, k, cells⟩ := m
  simp only at *
  unfold I64 at hr hc
  have hG : Grow w (w.alloc (.cells #[.int .i64 r, .int .i64 k, .slice a n c] 27)) := (Grow.refl w).alloc _ _
  by_cases h1 : 0 ≤ r ∧ r ≤ 24
  · have I1 := Lib.hid (inB_iff.2 h1)
    by_cases h2 : 0 ≤ k ∧ k ≤ 24
    · have I2 := Lib.hid (inB_iff.2 h2)
      obtain ⟨R, rfl⟩ := Int.eq_ofNat_of_zero_le h1.1
      obtain ⟨K, rfl⟩ := Int.eq_ofNat_of_zero_le h2.1
      have hm : R * K ≤ 24 * 24 := Nat.mul_le_mul (by omega) (by omega)
      have hmul : ((R : Int) * (K : Int)) = ((R * K : Nat) : Int) := by simp
      have hw1 : IntKind.i64.wrap ((R : Int) * K) = ((R * K : Nat) : Int) := by rw [hmul]; exact IntWalk.i64_in _ (by omega)
      obtain ⟨p, hp⟩ : ∃ p, p = R * K := ⟨_, rfl⟩
      rw [← hp] at hw1
      by_cases h5 : n = p
      · have q1 : ((n : Int) == (p : Int)) = true := by simp [h5]
        have q2 : ((n : Int) != (p : Int)) = false := by simp [h5]
        have Hsh := Lib.hid (show shapeB ⟨(R : Int), (K : Int), cells⟩ = true by unfold shapeB; simp only [decide_eq_true_eq]; refine ⟨h1.1, h1.2, h2.1, h2.2, ?_⟩; rw [hmul]; omega)
        clear hmul hp h5 hm
        have hB0 := Blk.new w #[.int .i64 (R : Int), .int .i64 (K : Int), .slice a n c] 27
        go_enter Try.func60, Try.ntmps60
        go_wp2_with fail
        refine (l1In_c _ _ _ _).mono ?_
        rintro e w' ⟨rfl, rfl⟩
        rw [I1.out]
        go_wp2_with fail
        refine (l1In_c _ _ _ _).mono ?_
        rintro e w' ⟨rfl, rfl⟩
        rw [I2.out]
        go_wp2
        go_loopw [3] (fun i wr => (w.alloc (.cells #[.int .i64 (R : Int), .int .i64 (K : Int), .slice a n c] 27)) = wr ∧ ∃ k : Nat, k ≤ n ∧ i = .int .i64 k ∧ numsB (cells.take k) = true) (fun i _ => n - (intOf i).toNat)
        case atStart => exact ⟨by trivial, 0, Nat.zero_le _, rfl, rfl⟩
        case round =>
          obtain ⟨rfl, i, hk, rfl, hall⟩ := hrel
          have Hall := Lib.hid hall; clear hall
          by_cases hlt : i < n
          · obtain ⟨b, off, x, rfl, hx, hr, _, hb, hc⟩ := (h.grow hG).at hlt
            have Hx := Lib.hid hx; clear hx
            unfold I64 at hr
            cases hN : isNumB x with
            | true =>
              have HN := Lib.hid hN; clear hN
              go_wp2_with fail
              refine (sIsNumber_c _ _).mono ?_
              rintro e w' ⟨rfl, rfl⟩
              rw [HN.out]
              go_wp2
              go_roundw
              case rel => exact ⟨by trivial, i + 1, by omega, by go_num, by rw [numsB_take_succ Hx.out, Hall.out, HN.out]; rfl⟩
              case measure => simp [intOf]; omega
            | false =>
              have HN := Lib.hid hN; clear hN
              go_wp2_with fail
              refine (sIsNumber_c _ _).mono ?_
              rintro e w' ⟨rfl, rfl⟩
              rw [HN.out]
              go_wp2
              go_ret
              exact ⟨by unfold isMatB; rw [numsB_no Hx.out HN.out]; simp, hG⟩
          · have : i = n := by omega
            subst this
            rw [take_all hl] at Hall
            go_wp2
            go_ret
            exact ⟨by unfold isMatB; rw [Hall.out, Hsh.out]; rfl, hG⟩
      · have q1 : ((n : Int) == (p : Int)) = false := by simp; omega
        have q2 : ((n : Int) != (p : Int)) = true := by simp; omega
        have H := Lib.hid (show isMatB ⟨(R : Int), (K : Int), cells⟩ = false by unfold isMatB shapeB; rw [decide_eq_false (fun hh => h5 (by have := hh.2.2.2.2; rw [hmul] at this; simp only at this; omega))]; rfl)
        clear hmul hp h5 hm
        go_enter Try.func60, Try.ntmps60
        go_wp2_with fail
        refine (l1In_c _ _ _ _).mono ?_
        rintro e w' ⟨rfl, rfl⟩
        rw [I1.out]
        go_wp2_with fail
        refine (l1In_c _ _ _ _).mono ?_
        rintro e w' ⟨rfl, rfl⟩
        rw [I2.out]
        go_wp2
        go_ret
        exact ⟨by rw [H.out]; rfl, hG⟩
    · have I2 := Lib.hid (inB_no h2)
      have H := Lib.hid (show isMatB ⟨r, k, cells⟩ = false by unfold isMatB shapeB; rw [decide_eq_false (fun hh => h2 ⟨hh.2.2.1, hh.2.2.2.1⟩)]; rfl)
      go_enter Try.func60, Try.ntmps60
      go_wp2_with fail
      refine (l1In_c _ _ _ _).mono ?_
      rintro e w' ⟨rfl, rfl⟩
      rw [I1.out]
      go_wp2_with fail
      refine (l1In_c _ _ _ _).mono ?_
      rintro e w' ⟨rfl, rfl⟩
      rw [I2.out]
      go_wp2
      go_ret
      exact ⟨by rw [H.out]; rfl, hG⟩
  · have I1 := Lib.hid (inB_no h1)
    have H := Lib.hid (show isMatB ⟨r, k, cells⟩ = false by unfold isMatB shapeB; rw [decide_eq_false (fun hh => h1 ⟨hh.1, hh.2.1⟩)]; rfl)
    go_enter Try.func60, Try.ntmps60
    go_wp2_with fail
    refine (l1In_c _ _ _ _).mono ?_
    rintro e w' ⟨rfl, rfl⟩
    rw [I1.out]
    go_wp2
    go_ret
    exact ⟨by rw [H.out]; rfl, hG⟩

/-- A matrix, if it is valid. -/
def okM (m : Mat) : Mat := if isMatB m = true then m else { rows := 0, cols := 0, cells := [] }
theorem isMatB_shape {m : Mat} (h : isMatB m = true) : ∃ R C : Nat, m.rows = R ∧ m.cols = C ∧ R ≤ 24 ∧ C ≤ 24 ∧ m.cells.length = R * C ∧ ∀ x ∈ m.cells, -400000000 ≤ x ∧ x ≤ 400000000 := by
  unfold isMatB shapeB at h
  simp only [Bool.and_eq_true, decide_eq_true_eq] at h
  obtain ⟨⟨h1, h2, h3, h4, h5⟩, h6⟩ := h
  obtain ⟨R, hR⟩ := Int.eq_ofNat_of_zero_le h1
  obtain ⟨C, hC⟩ := Int.eq_ofNat_of_zero_le h3
  refine ⟨R, C, hR, hC, by omega, by omega, ?_, fun x hx => ?_⟩
  · rw [hR, hC] at h5; exact_mod_cast h5
  · unfold numsB at h6; exact isNumB_rng (List.all_eq_true.1 h6 x hx)
theorem okM_bd {m : Mat} : bdM (okM m) ≤ 576 := by
  unfold okM
  split
  · rename_i h
    obtain ⟨R, C, _, _, h1, h2, h3, _⟩ := isMatB_shape h
    have := Nat.mul_le_mul h1 h2
    unfold bdM; omega
  · simp [bdM]

set_option maxHeartbeats 1000000 in
set_option maxRecDepth 100000 in
theorem checked_c {F : Nat → Prop} {v : Value} {m : Mat} {w : World} (h : OM w F v m) (hb : bdM m ≤ 2097152) :
    Calls Try.prog 67 #[v] w fun e w' => ∃ u, e = .returned (.tuple #[u, .bool (isMatB m)]) ∧ OM w' F u (okM m) ∧ Grow w w' := by
  obtain ⟨a, n, c, rfl, h, hx, hF, hr, hk⟩ := h
  have hG2 : Grow w ((w.alloc (.cells #[.int .i64 m.rows, .int .i64 m.cols, .slice a n c] 27)).alloc (.cells #[.int .i64 0, .int .i64 0, .slice none 0 0] 27)) := ((Grow.refl w).alloc _ _).alloc _ _
  have hb1 := (Blk.new w #[.int .i64 m.rows, .int .i64 m.cols, .slice a n c] 27).alloc (.cells #[.int .i64 0, .int .i64 0, .slice none 0 0] 27)
  have hb2 := Blk.newAt (w.alloc (.cells #[.int .i64 m.rows, .int .i64 m.cols, .slice a n c] 27)) #[.int .i64 0, .int .i64 0, .slice none 0 0] 27 (g := w.heap.size + 1) (by simp)
  have hO : OM w F (.agg #[.int .i64 m.rows, .int .i64 m.cols, .slice a n c]) m := ⟨a, n, c, rfl, h, hx, hF, hr, hk⟩
  obtain ⟨⟨a0, a1, a2⟩, -⟩ := hb1.three
  cases hM : isMatB m with
  | true =>
    have HM := Lib.hid hM; clear hM
    go_enter Try.func67, Try.ntmps67
    go_wp2_with fail
    refine (isMatrix_c ((hO.grow hG2).rd (S := fun _ => True) fun _ _ => trivial) hb).mono ?_
    rintro e w3 ⟨rfl, hG3⟩
    rw [HM.out]
    replace hb1 := hb1.grow hG3
    replace hb2 := hb2.grow hG3
    replace hO := (hO.grow hG2).grow hG3
    have hG := hG2.trans hG3
    have h0 := h
    clear hG2 hG3 a0 a1 a2 h
    obtain ⟨⟨a0, a1, a2⟩, -⟩ := hb1.three
    obtain ⟨⟨c0, c1, c2⟩, f0, f1, f2⟩ := hb2.three
    have hle : w.heap.size ≤ w.heap.size + 1 := Nat.le_succ _
    go_wp2
    have hKs : Grow w (((w3.setCell ⟨w.heap.size + 1, 0, none⟩ (.int .i64 m.rows)).setCell ⟨w.heap.size + 1, 1, none⟩ (.int .i64 m.cols)).setCell ⟨w.heap.size + 1, 2, none⟩ (.slice a n c)) := ((hG.setCell hle _).setCell hle _).setCell hle _
    have _hKo : Keep (fun q => q ≠ w.heap.size + 1) w3 (((w3.setCell ⟨w.heap.size + 1, 0, none⟩ (.int .i64 m.rows)).setCell ⟨w.heap.size + 1, 1, none⟩ (.int .i64 m.cols)).setCell ⟨w.heap.size + 1, 2, none⟩ (.slice a n c)) :=
      (((Keep.refl _ w3).setCell (fun _ e => e rfl) _).setCell (fun _ e => e rfl) _).setCell (fun _ e => e rfl) _
    refine ret_cell_tmp T_mat rfl rfl rfl (((hb2.set 0 _).set 1 _).set 2 _) ⟨_, rfl, ?_, hKs⟩
    unfold okM; rw [if_pos HM.out]
    refine ⟨a, n, c, rfl, h0.grow hKs, hx, hF, hr, hk⟩
  | false =>
    have HM := Lib.hid hM; clear hM
    go_enter Try.func67, Try.ntmps67
    go_wp2_with fail
    refine (isMatrix_c ((hO.grow hG2).rd (S := fun _ => True) fun _ _ => trivial) hb).mono ?_
    rintro e w3 ⟨rfl, hG3⟩
    rw [HM.out]
    replace hb1 := hb1.grow hG3
    replace hb2 := hb2.grow hG3
    replace hO := (hO.grow hG2).grow hG3
    have hG := hG2.trans hG3
    have h0 := h
    clear hG2 hG3 a0 a1 a2 h
    obtain ⟨⟨a0, a1, a2⟩, -⟩ := hb1.three
    obtain ⟨⟨c0, c1, c2⟩, f0, f1, f2⟩ := hb2.three
    have hle : w.heap.size ≤ w.heap.size + 1 := Nat.le_succ _
    go_wp2
    have hKs : Grow w (((w3.setCell ⟨w.heap.size + 1, 0, none⟩ (.int .i64 0)).setCell ⟨w.heap.size + 1, 1, none⟩ (.int .i64 0)).setCell ⟨w.heap.size + 1, 2, none⟩ (.slice none 0 0)) := ((hG.setCell hle _).setCell hle _).setCell hle _
    refine ret_cell_tmp T_mat rfl rfl rfl (((hb2.set 0 _).set 1 _).set 2 _) ⟨_, rfl, ?_, hKs⟩
    unfold okM; rw [if_neg (by rw [HM.out]; simp)]
    exact ⟨none, 0, 0, rfl, Own.nilw, (fun x hx => by cases hx), (fun g hg => by simp at hg), by simp [I64], by simp [I64]⟩

set_option maxHeartbeats 1000000 in
set_option maxRecDepth 100000 in
theorem l3Done_c {F : Nat → Prop} {v : Value} {m : Mat} {w : World} (h : OM w F v m) (hb : bdM m ≤ 2097152) :
    Calls Try.prog 61 #[v] w fun e w' => ∃ u, e = .returned (.tuple #[u, .bool (isMatB m)]) ∧ OM w' F u (okM m) ∧ Grow w w' := by
  obtain ⟨a, n, c, rfl, h, hx, hF, hr, hk⟩ := h
  have hG2 : Grow w ((w.alloc (.cells #[.int .i64 m.rows, .int .i64 m.cols, .slice a n c] 27)).alloc (.cells #[.int .i64 0, .int .i64 0, .slice none 0 0] 27)) := ((Grow.refl w).alloc _ _).alloc _ _
  have hb1 := (Blk.new w #[.int .i64 m.rows, .int .i64 m.cols, .slice a n c] 27).alloc (.cells #[.int .i64 0, .int .i64 0, .slice none 0 0] 27)
  have hb2 := Blk.newAt (w.alloc (.cells #[.int .i64 m.rows, .int .i64 m.cols, .slice a n c] 27)) #[.int .i64 0, .int .i64 0, .slice none 0 0] 27 (g := w.heap.size + 1) (by simp)
  have hO : OM w F (.agg #[.int .i64 m.rows, .int .i64 m.cols, .slice a n c]) m := ⟨a, n, c, rfl, h, hx, hF, hr, hk⟩
  obtain ⟨⟨a0, a1, a2⟩, -⟩ := hb1.three
  cases hM : isMatB m with
  | true =>
    have HM := Lib.hid hM; clear hM
    go_enter Try.func61, Try.ntmps61
    go_wp2_with fail
    refine (sIsMatrix_c ((hO.grow hG2).rd (S := fun _ => True) fun _ _ => trivial) hb).mono ?_
    rintro e w3 ⟨rfl, hG3⟩
    rw [HM.out]
    replace hb1 := hb1.grow hG3
    replace hb2 := hb2.grow hG3
    replace hO := (hO.grow hG2).grow hG3
    have hG := hG2.trans hG3
    have h0 := h
    clear hG2 hG3 a0 a1 a2 h
    obtain ⟨⟨a0, a1, a2⟩, -⟩ := hb1.three
    obtain ⟨⟨c0, c1, c2⟩, f0, f1, f2⟩ := hb2.three
    have hle : w.heap.size ≤ w.heap.size + 1 := Nat.le_succ _
    go_wp2
    have hKs : Grow w (((w3.setCell ⟨w.heap.size + 1, 0, none⟩ (.int .i64 m.rows)).setCell ⟨w.heap.size + 1, 1, none⟩ (.int .i64 m.cols)).setCell ⟨w.heap.size + 1, 2, none⟩ (.slice a n c)) := ((hG.setCell hle _).setCell hle _).setCell hle _
    have _hKo : Keep (fun q => q ≠ w.heap.size + 1) w3 (((w3.setCell ⟨w.heap.size + 1, 0, none⟩ (.int .i64 m.rows)).setCell ⟨w.heap.size + 1, 1, none⟩ (.int .i64 m.cols)).setCell ⟨w.heap.size + 1, 2, none⟩ (.slice a n c)) :=
      (((Keep.refl _ w3).setCell (fun _ e => e rfl) _).setCell (fun _ e => e rfl) _).setCell (fun _ e => e rfl) _
    refine ret_cell_tmp T_mat rfl rfl rfl (((hb2.set 0 _).set 1 _).set 2 _) ⟨_, rfl, ?_, hKs⟩
    unfold okM; rw [if_pos HM.out]
    refine ⟨a, n, c, rfl, h0.grow hKs, hx, hF, hr, hk⟩
  | false =>
    have HM := Lib.hid hM; clear hM
    go_enter Try.func61, Try.ntmps61
    go_wp2_with fail
    refine (sIsMatrix_c ((hO.grow hG2).rd (S := fun _ => True) fun _ _ => trivial) hb).mono ?_
    rintro e w3 ⟨rfl, hG3⟩
    rw [HM.out]
    replace hb1 := hb1.grow hG3
    replace hb2 := hb2.grow hG3
    replace hO := (hO.grow hG2).grow hG3
    have hG := hG2.trans hG3
    have h0 := h
    clear hG2 hG3 a0 a1 a2 h
    obtain ⟨⟨a0, a1, a2⟩, -⟩ := hb1.three
    obtain ⟨⟨c0, c1, c2⟩, f0, f1, f2⟩ := hb2.three
    have hle : w.heap.size ≤ w.heap.size + 1 := Nat.le_succ _
    go_wp2
    have hKs : Grow w (((w3.setCell ⟨w.heap.size + 1, 0, none⟩ (.int .i64 0)).setCell ⟨w.heap.size + 1, 1, none⟩ (.int .i64 0)).setCell ⟨w.heap.size + 1, 2, none⟩ (.slice none 0 0)) := ((hG.setCell hle _).setCell hle _).setCell hle _
    refine ret_cell_tmp T_mat rfl rfl rfl (((hb2.set 0 _).set 1 _).set 2 _) ⟨_, rfl, ?_, hKs⟩
    unfold okM; rw [if_neg (by rw [HM.out]; simp)]
    exact ⟨none, 0, 0, rfl, Own.nilw, (fun x hx => by cases hx), (fun g hg => by simp at hg), by simp [I64], by simp [I64]⟩
end Go.Proofs.Ythlncohllbmapaa
