/-
  Quotients that are rounded down: the reference's and the program's.
-/
import Derived.Test.YthlncohllbmapaaHermF
namespace Go.Proofs.Ythlncohllbmapaa
open Go.RowKit

theorem tmod_neg {n d : Int} (hd : d ≠ 0) (h : n.tmod d < 0) : n.tdiv d = n / d + d.sign ∧ n.tmod d + d.natAbs = n % d := by
  have h1 := Int.tdiv_eq_ediv (a := n) (b := d)
  have h2 := Int.tmod_eq_emod (a := n) (b := d)
  have h3 := Int.emod_nonneg n hd
  by_cases hc : 0 ≤ n ∨ d ∣ n
  · rw [if_pos hc] at h2; omega
  · rw [if_neg hc] at h1 h2; omega
theorem tmod_pos {n d : Int} (hd : d ≠ 0) (h : 0 ≤ n.tmod d) : n.tdiv d = n / d ∧ n.tmod d = n % d := by
  have h1 := Int.tdiv_eq_ediv (a := n) (b := d)
  have h2 := Int.tmod_eq_emod (a := n) (b := d)
  have h3 := Int.emod_lt n hd
  by_cases hc : 0 ≤ n ∨ d ∣ n
  · rw [if_pos hc] at h1 h2; omega
  · rw [if_neg hc] at h2; omega
theorem exact_quo {n d : Int} (hd : d ≠ 0) : (n - n % d).tdiv d = n / d := by
  have h : n - n % d = d * (n / d) := by have := Int.emod_def n d; omega
  rw [h, Int.mul_tdiv_cancel_left _ hd]
theorem quo_neg {n d : Int} : n / d = -(n / -d) := by rw [Int.ediv_neg]; omega
theorem l1Floor_c (n d : Int) (w : World) (hn : -400000000 ≤ n ∧ n ≤ 400000000) (hd : 0 < d ∧ d ≤ 400000000) : Calls Try.prog 117 #[.int .i64 n, .int .i64 d] w fun e w' => e = .returned (.int .i64 (n / d)) ∧ w = w' := by
  have hq := quo_num (n := n) (d := d) hn (by omega)
  by_cases h : n.tmod d < 0
  · have h1 := (tmod_neg (by omega) h).1
    rw [Int.sign_eq_one_of_pos hd.1] at h1
    have H := Lib.hid h1; clear h1
    go_enter Try.func117, Try.ntmps117
    go_wp2
    go_ret
    refine ⟨ret_int ?_, rfl⟩
    rw [H.out]; unfold wrap64; omega
  · have h1 := (tmod_pos (n := n) (d := d) (by omega) (by omega)).1
    have H := Lib.hid h1; clear h1
    go_enter Try.func117, Try.ntmps117
    go_wp2
    go_ret
    exact ⟨ret_int H.out, rfl⟩
set_option maxHeartbeats 1000000 in
theorem sDivideFloor_c (n d : Int) (w : World) : Calls Try.prog 85 #[.int .i64 n, .int .i64 d] w fun e w' => ∃ q r b, e = .returned (.tuple #[.int .i64 q, .int .i64 r, .bool b]) ∧ (-400000000 ≤ q ∧ q ≤ 400000000) ∧ (isNumB n = true → isNumB d = true → d ≠ 0 → q = n / d) ∧ w = w' := by
  cases hn : isNumB n with
  | false =>
    have H := Lib.hid hn; clear hn
    go_enter Try.func85, Try.ntmps85
    go_wp2_with fail
    refine (sIsNumber_c _ _).mono ?_
    rintro e w' ⟨rfl, rfl⟩
    rw [H.out]
    go_wp2
    go_ret3
    exact ⟨_, _, _, rfl, by omega, (fun h => by cases h), rfl⟩
  | true =>
    have hnr := isNumB_iff.1 hn
    cases hd : isNumB d with
    | false =>
      have H := Lib.hid hn; have H2 := Lib.hid hd; clear hn hd
      go_enter Try.func85, Try.ntmps85
      go_wp2_with fail
      refine (sIsNumber_c _ _).mono ?_
      rintro e w' ⟨rfl, rfl⟩
      rw [H.out]
      go_wp2_with fail
      refine (sIsNumber_c _ _).mono ?_
      rintro e w' ⟨rfl, rfl⟩
      rw [H2.out]
      go_wp2
      go_ret3
      exact ⟨_, _, _, rfl, by omega, (fun _ h => by cases h), rfl⟩
    | true =>
      have hdr := isNumB_iff.1 hd
      have H := Lib.hid hn; have H2 := Lib.hid hd; clear hn hd
      by_cases h0 : d = 0
      · subst h0
        go_enter Try.func85, Try.ntmps85
        go_wp2_with fail
        refine (sIsNumber_c _ _).mono ?_
        rintro e w' ⟨rfl, rfl⟩
        rw [H.out]
        go_wp2_with fail
        refine (sIsNumber_c _ _).mono ?_
        rintro e w' ⟨rfl, rfl⟩
        rw [H2.out]
        go_wp2
        go_ret3
        exact ⟨_, _, _, rfl, by omega, (fun _ _ h => (h rfl).elim), rfl⟩
      · have e0 : (d == 0) = false := by simpa using h0
        have hq := quo_num (n := n) (d := (d.natAbs : Int)) hnr (by omega)
        go_enter Try.func85, Try.ntmps85
        go_wp2_with fail
        refine (sIsNumber_c _ _).mono ?_
        rintro e w' ⟨rfl, rfl⟩
        rw [H.out]
        go_wp2_with fail
        refine (sIsNumber_c _ _).mono ?_
        rintro e w' ⟨rfl, rfl⟩
        rw [H2.out]
        go_wp2_with fail
        refine (l1Abs_c _ _ (by omega)).mono ?_
        rintro e w' ⟨rfl, rfl⟩
        go_wp2_with fail
        refine (l1Floor_c _ _ _ hnr (by omega)).mono ?_
        rintro e w' ⟨rfl, rfl⟩
        by_cases hneg : d < 0
        · have hE := Lib.hid (show n / d = -(n / (d.natAbs : Int)) by rw [show (d.natAbs : Int) = -d by omega]; exact quo_neg)
          generalize n / (d.natAbs : Int) = q at *
          go_wp2_with fail
          refine (l1Abs_c _ _ (by omega)).mono ?_
          rintro e w' ⟨rfl, rfl⟩
          go_wp2
          go_ret3
          exact ⟨_, _, _, rfl, by omega, (fun _ _ _ => hE.out.symm), rfl⟩
        · have hE := Lib.hid (show n / d = n / (d.natAbs : Int) by rw [show (d.natAbs : Int) = d by omega])
          generalize n / (d.natAbs : Int) = q at *
          go_wp2
          go_ret3
          exact ⟨_, _, _, rfl, by omega, (fun _ _ _ => hE.out.symm), rfl⟩
theorem ret_ii {a b c d : Int} (h1 : a = b) (h2 : c = d) : Ending.returned (.tuple #[.int .i64 a, .int .i64 c, .bool true]) = .returned (.tuple #[.int .i64 b, .int .i64 d, .bool true]) := by rw [h1, h2]
theorem absInt_c (a : Int) (w : World) (h : -9223372036854775807 ≤ a ∧ a ≤ 9223372036854775807) : Calls Try.prog 123 #[.int .i64 a] w fun e w' => e = .returned (.int .i64 (a.natAbs : Int)) ∧ w = w' := by
  go_enter Try.func123, Try.ntmps123
  go_wp2
  all_goals (go_ret; exact ⟨ret_int (by omega), rfl⟩)
set_option maxHeartbeats 1000000 in
theorem iDivideFloor_c (n d : Int) (w : World) (hn : -400000000 ≤ n ∧ n ≤ 400000000) (hd : -400000000 ≤ d ∧ d ≤ 400000000) (h0 : d ≠ 0) : Calls Try.prog 94 #[.int .i64 n, .int .i64 d] w fun e w' => e = .returned (.tuple #[.int .i64 (n / d), .int .i64 (n % d), .bool true]) ∧ w = w' := by
  have H := Lib.hid (isNumB_iff.2 hn); have H2 := Lib.hid (isNumB_iff.2 hd)
  have e0 : (d == 0) = false := by simpa using h0
  have hq := quo_num (n := n) (d := d) hn h0
  have hm1 := Int.emod_nonneg n h0
  have hm2 := Int.emod_lt n h0
  have HQ := Lib.hid (exact_quo (n := n) h0)
  by_cases h : n.tmod d < 0
  · have h1 := (tmod_neg h0 h).2
    go_enter Try.func94, Try.ntmps94
    go_wp2_with fail
    refine (isNumber_c _ _).mono ?_
    rintro e w' ⟨rfl, rfl⟩
    rw [H.out]
    go_wp2_with fail
    refine (isNumber_c _ _).mono ?_
    rintro e w' ⟨rfl, rfl⟩
    rw [H2.out]
    go_wp2_with fail
    refine (absInt_c _ _ (by omega)).mono ?_
    rintro e w' ⟨rfl, rfl⟩
    have H1 := Lib.hid h1; clear h1
    go_wp2
    go_ret3
    have k1 : wrap64 (n.tmod d + ↑d.natAbs) = n % d := by rw [H1.out]; unfold wrap64; omega
    have k2 : wrap64 (n - n % d) = n - n % d := by unfold wrap64; omega
    have k3 : wrap64 (n / d) = n / d := by unfold wrap64; omega
    exact ⟨ret_ii (by first | rw [k1, k2, HQ.out, k3] | rw [H1.out, k2, HQ.out, k3]) (by first | exact k1 | exact H1.out), rfl⟩
  · have h1 := (tmod_pos (n := n) (d := d) h0 (by omega)).2
    have H1 := Lib.hid h1; clear h1
    go_enter Try.func94, Try.ntmps94
    go_wp2_with fail
    refine (isNumber_c _ _).mono ?_
    rintro e w' ⟨rfl, rfl⟩
    rw [H.out]
    go_wp2_with fail
    refine (isNumber_c _ _).mono ?_
    rintro e w' ⟨rfl, rfl⟩
    rw [H2.out]
    go_wp2
    go_ret3
    have k2 : wrap64 (n - n % d) = n - n % d := by unfold wrap64; omega
    have k3 : wrap64 (n / d) = n / d := by unfold wrap64; omega
    exact ⟨ret_ii (by rw [H1.out, k2, HQ.out, k3]) H1.out, rfl⟩
end Go.Proofs.Ythlncohllbmapaa
