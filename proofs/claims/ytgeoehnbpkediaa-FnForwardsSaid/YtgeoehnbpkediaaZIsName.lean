/-
  Names of definitions: what the reference's and the program's IsName return, for all strings.
-/
import Derived.Test.YtgeoehnbpkediaaZBase
import Derived.Test.YtgeoehnbpkediaaZDef
import Derived.Test.YtgeoehnbpkediaaZRdc
set_option maxHeartbeats 8000000
set_option maxRecDepth 100000
namespace Go.Proofs.Ytgeoehnbpkediaa
open Go.RowKit
def capsTo (s : ByteArray) (k : Nat) : Prop := ∀ j (h : j < s.size), j < k → 65 ≤ (s[j].toNat : Int) ∧ (s[j].toNat : Int) ≤ 90
def isNameL (l : List UInt8) : Bool := l.all (fun c => decide (65 ≤ c.toNat) && decide (c.toNat ≤ 90)) && (decide (1 ≤ l.length) && decide (l.length ≤ 6))
def isNameB (s : ByteArray) : Bool := isNameL s.data.toList
theorem isNameB_iff (s : ByteArray) : isNameB s = true ↔ capsTo s s.size ∧ 1 ≤ s.size ∧ s.size ≤ 6 := by
 have e : s.data.toList.length = s.size := by rw [Array.length_toList]; rfl
 unfold isNameB isNameL capsTo
 rw [Bool.and_eq_true, Bool.and_eq_true, e, List.all_eq_true, decide_eq_true_eq, decide_eq_true_eq]
 refine and_congr_left fun _ => ⟨fun h j hj _ => ?_, fun h c hc => ?_⟩
 ·have := h s[j] (List.mem_iff_getElem.2 ⟨j, by omega, rfl⟩)
  simp at this; omega
 ·obtain ⟨j, hj, rfl⟩ := List.mem_iff_getElem.1 hc
  have := h j (by omega) (by omega)
  have e2 : s[j] = s.data[j] := rfl
  rw [e2] at this; simp; omega
theorem isNameB_no {s : ByteArray} {k : Nat} (hk : k < s.size) (h : (s[k].toNat : Int) < 65 ∨ 90 < (s[k].toNat : Int)) : isNameB s = false := by
 rw [Bool.eq_false_iff, ne_eq, isNameB_iff]
 intro hh; have := hh.1 k hk hk; omega
theorem capsTo_succ {s : ByteArray} {k : Nat} (h : capsTo s k) (hk : k < s.size) (h1 : 65 ≤ (s[k].toNat : Int)) (h2 : (s[k].toNat : Int) ≤ 90) : capsTo s (k + 1) := fun j hj hlt => by
 by_cases e : j = k
 ·subst e; exact ⟨h1, h2⟩
 ·exact h j hj (by omega)
theorem specIsName_c (s : ByteArray) (w : World) (hs : s.size ≤ maxLen) : Calls Try.prog 25 #[.string s] w fun e w' => e = .returned (.bool (isNameB s)) ∧ w = w' := by
 unfold maxLen at hs
 go_enter Try.func25, Try.ntmps25
 go_wp2
 go_loop [3] (fun i => ∃ k : Nat, k ≤ s.size ∧ i = .int .i64 k ∧ capsTo s k) (fun i => s.size - (intOf i).toNat)
 case atStart => exact ⟨0, Nat.zero_le _, rfl, fun _ _ h => by omega⟩
 case round =>
  obtain ⟨k, hk, rfl, he⟩ := hrel
  have He := Lib.hid he; clear he
  by_cases hlt : k < s.size
  ·by_cases h1 : (s[k].toNat : Int) < 65
   ·go_wp2
    go_ret
    exact ⟨ret_bool (isNameB_no hlt (by omega)).symm, rfl⟩
   ·by_cases h2 : 90 < (s[k].toNat : Int)
    ·go_wp2
     go_ret
     exact ⟨ret_bool (isNameB_no hlt (by omega)).symm, rfl⟩
    ·go_wp2
     go_round
     case rel => exact ⟨k + 1, by omega, by go_num, capsTo_succ He.out hlt (by omega) (by omega)⟩
     case measure => simp [intOf]; omega
  ·have : k = s.size := by omega
   subst this
   go_wp2_with (go_at_call 26; refine (l1In_c _ _ _ _).mono ?_; rintro e w' ⟨rfl, rfl⟩)
   go_ret
   refine ⟨ret_bool ?_, rfl⟩
   have := He.out
   rw [Bool.eq_iff_iff, isNameB_iff]; simp [inB, this]; omega
theorem implIsName_c (s : ByteArray) (w : World) (hs : s.size ≤ maxLen) : Calls Try.prog 33 #[.string s] w fun e w' => e = .returned (.bool (isNameB s)) ∧ w = w' := by
 unfold maxLen at hs
 go_enter Try.func33, Try.ntmps33
 go_wp2
 go_loop [6] (fun i => ∃ k : Nat, k ≤ s.size ∧ i = .int .i64 k ∧ capsTo s k) (fun i => s.size - (intOf i).toNat)
 case atStart => exact ⟨0, Nat.zero_le _, rfl, fun _ _ h => by omega⟩
 case round =>
  obtain ⟨k, hk, rfl, he⟩ := hrel
  have He := Lib.hid he; clear he
  by_cases hlt : k < s.size
  ·by_cases h1 : (s[k].toNat : Int) < 65
   ·go_wp2
    go_ret
    exact ⟨ret_bool (isNameB_no hlt (by omega)).symm, rfl⟩
   ·by_cases h2 : 90 < (s[k].toNat : Int)
    ·go_wp2
     go_ret
     exact ⟨ret_bool (isNameB_no hlt (by omega)).symm, rfl⟩
    ·go_wp2
     go_round
     case rel => exact ⟨k + 1, by omega, by go_num, capsTo_succ He.out hlt (by omega) (by omega)⟩
     case measure => simp [intOf]; omega
  ·have : k = s.size := by omega
   subst this
   have := He.out
   by_cases h1 : 1 ≤ s.size
   ·go_wp2
    go_ret
    refine ⟨ret_bool ?_, rfl⟩
    rw [Bool.eq_iff_iff, isNameB_iff]; simp [this]; try omega
   ·go_wp2
    go_ret
    refine ⟨ret_bool ?_, rfl⟩
    rw [Bool.eq_iff_iff, isNameB_iff]; simp [this]; try omega
end Go.Proofs.Ytgeoehnbpkediaa

namespace Go.Proofs.Ytgeoehnbpkediaa
open Go.RowKit
def zeroMB (m : Mat) : Bool := decide (m.rows = 0) && (decide (m.cols = 0) && decide (m.cells.length = 0))
def isDefB (d : Dfn) : Bool := isNameB d.name && (decide (0 ≤ d.op ∧ d.op ≤ 9) &&
 (if d.op = 0 then d.a.toList.isEmpty && (d.b.toList.isEmpty && isMatB d.value)
  else if d.op ≤ 2 then isNameB d.a && (isNameB d.b && zeroMB d.value)
  else isNameB d.a && (d.b.toList.isEmpty && zeroMB d.value)))
theorem isZeroMatrix_c {S : Nat → Prop} {v : Value} {m : Mat} {w : World} (h : VM w S v m) : Calls Try.prog 35 #[v] w fun e w' => e = .returned (.bool (zeroMB m)) ∧ Grow w w' := by
 obtain ⟨a, n, c, rfl, h, hr, hc⟩ := h
 have hl := h.len
 have hG : Grow w (w.alloc (.cells #[.int .i64 m.rows, .int .i64 m.cols, .slice a n c] 28)) := (Grow.refl w).alloc _ _
 by_cases h1 : m.rows = 0
 ·have e1 : (m.rows == 0) = true := by simp [h1]
  by_cases h2 : m.cols = 0
  ·have e2 : (m.cols == 0) = true := by simp [h2]
   by_cases h3 : n = 0
   ·have e3 : ((n : Int) == 0) = true := by simp [h3]
    have H := Lib.hid (show zeroMB m = true by unfold zeroMB; simp [h1, h2, hl, h3])
    clear h1 h2 h3 hl
    go_enter Try.func35, Try.ntmps35
    go_wp2
    all_goals (go_ret; exact ⟨ret_bool (by rw [H.out]), hG⟩)
   ·have e3 : ((n : Int) == 0) = false := by simp [h3]
    have H := Lib.hid (show zeroMB m = false by unfold zeroMB; simp [h1, h2, hl, h3])
    clear h1 h2 h3 hl
    go_enter Try.func35, Try.ntmps35
    go_wp2
    all_goals (go_ret; exact ⟨ret_bool (by rw [H.out]), hG⟩)
  ·have e2 : (m.cols == 0) = false := by simp [h2]
   have H := Lib.hid (show zeroMB m = false by unfold zeroMB; simp [h1, h2])
   clear h1 h2 hl
   go_enter Try.func35, Try.ntmps35
   go_wp2
   all_goals (go_ret; exact ⟨ret_bool (by rw [H.out]), hG⟩)
 ·have e1 : (m.rows == 0) = false := by simp [h1]
  have H := Lib.hid (show zeroMB m = false by unfold zeroMB; simp [h1])
  clear h1 hl
  go_enter Try.func35, Try.ntmps35
  go_wp2
  all_goals (go_ret; exact ⟨ret_bool (by rw [H.out]), hG⟩)
theorem implIsDef_c {S : Nat → Prop} {v : Value} {d : Dfn} {w : World} (h : VD w S v d) (hb : d.value.cells.length ≤ 2097152) : Calls Try.prog 20 #[v] w fun e w' => e = .returned (.bool (isDefB d)) ∧ Grow w w' := by
 obtain ⟨a, n, c, rfl, h, ho⟩ := h
 obtain ⟨o1, o2, o3, o4, o5, o6⟩ := ho
 have hlen := h.len
 obtain ⟨w0, hw0⟩ : ∃ w0, w0 = w.alloc (.cells #[.string d.name, .int .i64 d.op, .string d.a, .string d.b, .int .i64 d.value.rows, .int .i64 d.value.cols, .slice a n c] 30) := ⟨_, rfl⟩
 have hG0 : Grow w w0 := by rw [hw0]; exact (Grow.refl w).alloc _ _
 have hvm : VM w0 S (.agg #[.int .i64 d.value.rows, .int .i64 d.value.cols, .slice a n c]) d.value := ⟨a, n, c, rfl, h.grow hG0, o5, o6⟩
 unfold I64 at o2
 have Hw0 := Lib.hid hw0; clear hw0
 have Hlen := Lib.hid hlen; clear hlen
 cases hN : isNameB d.name with
 | false =>
  have H := Lib.hid (show isDefB d = false by unfold isDefB; rw [hN]; rfl)
  have HN := Lib.hid hN; clear hN
  go_enter Try.func20, Try.ntmps20
  go_wp2_with fail
  refine (implIsName_c _ _ o1).mono ?_
  rintro e w' ⟨rfl, rfl⟩
  rw [HN.out]
  go_wp2
  go_ret
  exact ⟨ret_bool (by rw [H.out]), by rw [← Hw0.out]; exact hG0⟩
 | true =>
  have HN := Lib.hid hN; clear hN
  by_cases hr : 0 ≤ d.op ∧ d.op ≤ 9
  ·obtain ⟨hr1, hr2⟩ := hr
   by_cases h0 : d.op = 0
   ·have e0 : (d.op == 0) = true := by simp [h0]
    have HD := Lib.hid (show isDefB d = (d.a.toList.isEmpty && (d.b.toList.isEmpty && isMatB d.value)) by unfold isDefB; rw [HN.out, if_pos h0, decide_eq_true ⟨hr1, hr2⟩]; rfl)
    clear h0
    cases ha : d.a.toList.isEmpty with
    | false =>
     have H := Lib.hid (show isDefB d = false by rw [HD.out, ha]; rfl)
     go_enter Try.func20, Try.ntmps20
     go_wp2_with fail
     refine (implIsName_c _ _ o1).mono ?_
     rintro e w' ⟨rfl, rfl⟩
     rw [HN.out]
     go_wp2
     go_ret
     exact ⟨ret_bool (by rw [H.out]), by rw [← Hw0.out]; exact hG0⟩
    | true =>
     cases hb0 : d.b.toList.isEmpty with
     | false =>
      have H := Lib.hid (show isDefB d = false by rw [HD.out, ha, hb0]; rfl)
      go_enter Try.func20, Try.ntmps20
      go_wp2_with fail
      refine (implIsName_c _ _ o1).mono ?_
      rintro e w' ⟨rfl, rfl⟩
      rw [HN.out]
      go_wp2
      go_ret
      exact ⟨ret_bool (by rw [H.out]), by rw [← Hw0.out]; exact hG0⟩
     | true =>
      have H := Lib.hid (show isDefB d = isMatB d.value by rw [HD.out, ha, hb0]; rfl)
      go_enter Try.func20, Try.ntmps20
      go_wp2_with fail
      refine (implIsName_c _ _ o1).mono ?_
      rintro e w' ⟨rfl, rfl⟩
      rw [HN.out]
      go_wp2_with fail
      rw [← Hw0.out]
      refine (isMatrix_c hvm (by unfold bdM; omega)).mono ?_
      rintro e w1 ⟨rfl, hG1⟩
      go_wp2
      go_ret
      exact ⟨ret_bool (by rw [H.out]), hG0.trans hG1⟩
   ·have e0 : (d.op == 0) = false := by simp [h0]
    by_cases h2 : d.op ≤ 2
    ·skip
     by_cases h1 : d.op = 1
     ·have e1 : (d.op == 1) = true := by simp [h1]
      clear h1
      have HD := Lib.hid (show isDefB d = (isNameB d.a && (isNameB d.b && zeroMB d.value)) by unfold isDefB; rw [HN.out, if_neg h0, if_pos h2, decide_eq_true ⟨hr1, hr2⟩]; rfl)
      cases ha0 : isNameB d.a with
      | false =>
       have H := Lib.hid (show isDefB d = false by rw [HD.out, ha0]; rfl)
       have HA := Lib.hid ha0; clear ha0
       go_enter Try.func20, Try.ntmps20
       go_wp2_with fail
       refine (implIsName_c _ _ o1).mono ?_
       rintro e w' ⟨rfl, rfl⟩
       rw [HN.out]
       go_wp2_with fail
       refine (implIsName_c _ _ o3).mono ?_
       rintro e w' ⟨rfl, rfl⟩
       rw [HA.out]
       go_wp2
       go_ret
       exact ⟨ret_bool (by rw [H.out]), by rw [← Hw0.out]; exact hG0⟩
      | true =>
       have HA := Lib.hid ha0; clear ha0
       cases hb0 : isNameB d.b with
       | false =>
        have H := Lib.hid (show isDefB d = false by rw [HD.out, HA.out, hb0]; rfl)
        have HBB := Lib.hid hb0; clear hb0
        go_enter Try.func20, Try.ntmps20
        go_wp2_with fail
        refine (implIsName_c _ _ o1).mono ?_
        rintro e w' ⟨rfl, rfl⟩
        rw [HN.out]
        go_wp2_with fail
        refine (implIsName_c _ _ o3).mono ?_
        rintro e w' ⟨rfl, rfl⟩
        rw [HA.out]
        go_wp2_with fail
        refine (implIsName_c _ _ o4).mono ?_
        rintro e w' ⟨rfl, rfl⟩
        rw [HBB.out]
        go_wp2
        go_ret
        exact ⟨ret_bool (by rw [H.out]), by rw [← Hw0.out]; exact hG0⟩
       | true =>
        have H := Lib.hid (show isDefB d = zeroMB d.value by rw [HD.out, HA.out, hb0]; rfl)
        have HBB := Lib.hid hb0; clear hb0
        go_enter Try.func20, Try.ntmps20
        go_wp2_with fail
        refine (implIsName_c _ _ o1).mono ?_
        rintro e w' ⟨rfl, rfl⟩
        rw [HN.out]
        go_wp2_with fail
        refine (implIsName_c _ _ o3).mono ?_
        rintro e w' ⟨rfl, rfl⟩
        rw [HA.out]
        go_wp2_with fail
        refine (implIsName_c _ _ o4).mono ?_
        rintro e w' ⟨rfl, rfl⟩
        rw [HBB.out]
        go_wp2_with fail
        rw [← Hw0.out]
        refine (isZeroMatrix_c hvm).mono ?_
        rintro e w1 ⟨rfl, hG1⟩
        go_wp2
        go_ret
        exact ⟨ret_bool (by rw [H.out]), hG0.trans hG1⟩
     ·have e1 : (d.op == 1) = false := by simp [h1]
      have e2 : (d.op == 2) = true := by simp; omega
      have HD := Lib.hid (show isDefB d = (isNameB d.a && (isNameB d.b && zeroMB d.value)) by unfold isDefB; rw [HN.out, if_neg h0, if_pos h2, decide_eq_true ⟨hr1, hr2⟩]; rfl)
      cases ha0 : isNameB d.a with
      | false =>
       have H := Lib.hid (show isDefB d = false by rw [HD.out, ha0]; rfl)
       have HA := Lib.hid ha0; clear ha0
       go_enter Try.func20, Try.ntmps20
       go_wp2_with fail
       refine (implIsName_c _ _ o1).mono ?_
       rintro e w' ⟨rfl, rfl⟩
       rw [HN.out]
       go_wp2_with fail
       refine (implIsName_c _ _ o3).mono ?_
       rintro e w' ⟨rfl, rfl⟩
       rw [HA.out]
       go_wp2
       go_ret
       exact ⟨ret_bool (by rw [H.out]), by rw [← Hw0.out]; exact hG0⟩
      | true =>
       have HA := Lib.hid ha0; clear ha0
       cases hb0 : isNameB d.b with
       | false =>
        have H := Lib.hid (show isDefB d = false by rw [HD.out, HA.out, hb0]; rfl)
        have HBB := Lib.hid hb0; clear hb0
        go_enter Try.func20, Try.ntmps20
        go_wp2_with fail
        refine (implIsName_c _ _ o1).mono ?_
        rintro e w' ⟨rfl, rfl⟩
        rw [HN.out]
        go_wp2_with fail
        refine (implIsName_c _ _ o3).mono ?_
        rintro e w' ⟨rfl, rfl⟩
        rw [HA.out]
        go_wp2_with fail
        refine (implIsName_c _ _ o4).mono ?_
        rintro e w' ⟨rfl, rfl⟩
        rw [HBB.out]
        go_wp2
        go_ret
        exact ⟨ret_bool (by rw [H.out]), by rw [← Hw0.out]; exact hG0⟩
       | true =>
        have H := Lib.hid (show isDefB d = zeroMB d.value by rw [HD.out, HA.out, hb0]; rfl)
        have HBB := Lib.hid hb0; clear hb0
        go_enter Try.func20, Try.ntmps20
        go_wp2_with fail
        refine (implIsName_c _ _ o1).mono ?_
        rintro e w' ⟨rfl, rfl⟩
        rw [HN.out]
        go_wp2_with fail
        refine (implIsName_c _ _ o3).mono ?_
        rintro e w' ⟨rfl, rfl⟩
        rw [HA.out]
        go_wp2_with fail
        refine (implIsName_c _ _ o4).mono ?_
        rintro e w' ⟨rfl, rfl⟩
        rw [HBB.out]
        go_wp2_with fail
        rw [← Hw0.out]
        refine (isZeroMatrix_c hvm).mono ?_
        rintro e w1 ⟨rfl, hG1⟩
        go_wp2
        go_ret
        exact ⟨ret_bool (by rw [H.out]), hG0.trans hG1⟩
    ·skip
     have e1 : (d.op == 1) = false := by simp; omega
     have e2 : (d.op == 2) = false := by simp; omega
     have HD := Lib.hid (show isDefB d = (isNameB d.a && (d.b.toList.isEmpty && zeroMB d.value)) by unfold isDefB; rw [HN.out, if_neg h0, if_neg h2, decide_eq_true ⟨hr1, hr2⟩]; rfl)
     cases ha0 : isNameB d.a with
     | false =>
      have H := Lib.hid (show isDefB d = false by rw [HD.out, ha0]; rfl)
      have HA := Lib.hid ha0; clear ha0
      go_enter Try.func20, Try.ntmps20
      go_wp2_with fail
      refine (implIsName_c _ _ o1).mono ?_
      rintro e w' ⟨rfl, rfl⟩
      rw [HN.out]
      go_wp2_with fail
      refine (implIsName_c _ _ o3).mono ?_
      rintro e w' ⟨rfl, rfl⟩
      rw [HA.out]
      go_wp2
      go_ret
      exact ⟨ret_bool (by rw [H.out]), by rw [← Hw0.out]; exact hG0⟩
     | true =>
      have HA := Lib.hid ha0; clear ha0
      cases hb0 : d.b.toList.isEmpty with
      | false =>
       have H := Lib.hid (show isDefB d = false by rw [HD.out, HA.out, hb0]; rfl)
       go_enter Try.func20, Try.ntmps20
       go_wp2_with fail
       refine (implIsName_c _ _ o1).mono ?_
       rintro e w' ⟨rfl, rfl⟩
       rw [HN.out]
       go_wp2_with fail
       refine (implIsName_c _ _ o3).mono ?_
       rintro e w' ⟨rfl, rfl⟩
       rw [HA.out]
       go_wp2
       go_ret
       exact ⟨ret_bool (by rw [H.out]), by rw [← Hw0.out]; exact hG0⟩
      | true =>
       have H := Lib.hid (show isDefB d = zeroMB d.value by rw [HD.out, HA.out, hb0]; rfl)
       go_enter Try.func20, Try.ntmps20
       go_wp2_with fail
       refine (implIsName_c _ _ o1).mono ?_
       rintro e w' ⟨rfl, rfl⟩
       rw [HN.out]
       go_wp2_with fail
       refine (implIsName_c _ _ o3).mono ?_
       rintro e w' ⟨rfl, rfl⟩
       rw [HA.out]
       go_wp2_with fail
       rw [← Hw0.out]
       refine (isZeroMatrix_c hvm).mono ?_
       rintro e w1 ⟨rfl, hG1⟩
       go_wp2
       go_ret
       exact ⟨ret_bool (by rw [H.out]), hG0.trans hG1⟩
  ·have H := Lib.hid (show isDefB d = false by unfold isDefB; rw [HN.out, decide_eq_false hr]; rfl)
   by_cases hr1 : 0 ≤ d.op
   ·have hr2 : ¬ d.op ≤ 9 := fun e => hr ⟨hr1, e⟩
    clear hr
    go_enter Try.func20, Try.ntmps20
    go_wp2_with fail
    refine (implIsName_c _ _ o1).mono ?_
    rintro e w' ⟨rfl, rfl⟩
    rw [HN.out]
    go_wp2
    go_ret
    exact ⟨ret_bool (by rw [H.out]), by rw [← Hw0.out]; exact hG0⟩
   ·clear hr
    go_enter Try.func20, Try.ntmps20
    go_wp2_with fail
    refine (implIsName_c _ _ o1).mono ?_
    rintro e w' ⟨rfl, rfl⟩
    rw [HN.out]
    go_wp2
    go_ret
    exact ⟨ret_bool (by rw [H.out]), by rw [← Hw0.out]; exact hG0⟩
end Go.Proofs.Ytgeoehnbpkediaa
