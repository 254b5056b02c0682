/-
  IsDef: the program's and the reference's.
-/
import Derived.Test.YtdnpdfokdibmdaaGreatDoorZDefK2
import Derived.Test.YtdnpdfokdibmdaaGreatDoorZIsMat
import Derived.Test.YtdnpdfokdibmdaaGreatDoorZIsName
namespace Go.Proofs.YtdnpdfokdibmdaaGreatDoor
open Go.RowKit

def zeroMB (m : Mat) : Bool := decide (m.rows = 0) && (decide (m.cols = 0) && decide (m.cells.length = 0))
def isDefB (d : Dfn) : Bool := isNameB d.name && (decide (0 ≤ d.op ∧ d.op ≤ 9) &&
  (if d.op = 0 then d.a.toList.isEmpty && (d.b.toList.isEmpty && isMatB d.value)
   else if d.op ≤ 2 then isNameB d.a && (isNameB d.b && zeroMB d.value)
   else isNameB d.a && (d.b.toList.isEmpty && zeroMB d.value)))

set_option maxHeartbeats 1000000 in
theorem isZeroMatrix_c {S : Nat → Prop} {v : Value} {m : Mat} {w : World} (h : VM w S v m) : Calls Tryz.prog 32 #[v] w fun e w' => e = .returned (.bool (zeroMB m)) ∧ Grow w w' := by
  obtain ⟨a, n, c, rfl, h, hr, hc⟩ := h
  have hl := h.len
  have hG : Grow w (w.alloc (.cells #[.int .i64 m.rows, .int .i64 m.cols, .slice a n c] 26)) := (Grow.refl w).alloc _ _
  by_cases h1 : m.rows = 0
  · have e1 : (m.rows == 0) = true := by simp [h1]
    by_cases h2 : m.cols = 0
    · have e2 : (m.cols == 0) = true := by simp [h2]
      by_cases h3 : n = 0
      · have e3 : ((n : Int) == 0) = true := by simp [h3]
        have H := Lib.hid (show zeroMB m = true by unfold zeroMB; simp [h1, h2, hl, h3])
        clear h1 h2 h3 hl
        go_enter Tryz.func32, Tryz.ntmps32
        go_wp2
        all_goals (go_ret; exact ⟨ret_bool (by rw [H.out]), hG⟩)
      · have e3 : ((n : Int) == 0) = false := by simp [h3]
        have H := Lib.hid (show zeroMB m = false by unfold zeroMB; simp [h1, h2, hl, h3])
        clear h1 h2 h3 hl
        go_enter Tryz.func32, Tryz.ntmps32
        go_wp2
        all_goals (go_ret; exact ⟨ret_bool (by rw [H.out]), hG⟩)
    · have e2 : (m.cols == 0) = false := by simp [h2]
      have H := Lib.hid (show zeroMB m = false by unfold zeroMB; simp [h1, h2])
      clear h1 h2 hl
      go_enter Tryz.func32, Tryz.ntmps32
      go_wp2
      all_goals (go_ret; exact ⟨ret_bool (by rw [H.out]), hG⟩)
  · have e1 : (m.rows == 0) = false := by simp [h1]
    have H := Lib.hid (show zeroMB m = false by unfold zeroMB; simp [h1])
    clear h1 hl
    go_enter Tryz.func32, Tryz.ntmps32
    go_wp2
    all_goals (go_ret; exact ⟨ret_bool (by rw [H.out]), hG⟩)

set_option maxHeartbeats 4000000 in
set_option maxRecDepth 100000 in
theorem implIsDef_c {S : Nat → Prop} {v : Value} {d : Dfn} {w : World} (h : VD w S v d) (hb : d.value.cells.length ≤ 2097152) : Calls Tryz.prog 13 #[v] w fun e w' => e = .returned (.bool (isDefB d)) ∧ Grow w w' := by
  obtain ⟨a, n, c, rfl, h, ho⟩ := h
  obtain ⟨o1, o2, o3, o4, o5, o6⟩ := ho
  have hlen := h.len
  obtain ⟨w0, hw0⟩ : ∃ w0, w0 = w.alloc (.cells #[.string d.name, .int .i64 d.op, .string d.a, .string d.b, .int .i64 d.value.rows, .int .i64 d.value.cols, .slice a n c] 28) := ⟨_, rfl⟩
  have hG0 : Grow w w0 := by rw [hw0]; exact (Grow.refl w).alloc _ _
  have hvm : VM w0 S (.agg #[.int .i64 d.value.rows, .int .i64 d.value.cols, .slice a n c]) d.value := ⟨a, n, c, rfl, h.grow hG0, o5, o6⟩
  unfold I64 at o2
  have Hw0 := Lib.hid hw0; clear hw0
  have Hlen := Lib.hid hlen; clear hlen
  cases hN : isNameB d.name with
  | false =>
    have H := Lib.hid (show isDefB d = false by unfold isDefB; rw [hN]; rfl)
    have HN := Lib.hid hN; clear hN
    go_enter Tryz.func13, Tryz.ntmps13
    go_wp2_with fail
    refine (implIsName_c _ _ o1).mono ?_
    rintro e w' ⟨rfl, rfl⟩
    rw [HN.out]
    go_wp2
    go_ret
    exact ⟨ret_bool (by rw [H.out]), by rw [← Hw0.out]; exact hG0⟩
  | true =>
    have HN := Lib.hid hN; clear hN
    by_cases hr : 0 ≤ d.op ∧ d.op ≤ 9
    · obtain ⟨hr1, hr2⟩ := hr
      by_cases h0 : d.op = 0
      · have e0 : (d.op == 0) = true := by simp [h0]
        have HD := Lib.hid (show isDefB d = (d.a.toList.isEmpty && (d.b.toList.isEmpty && isMatB d.value)) by unfold isDefB; rw [HN.out, if_pos h0, decide_eq_true ⟨hr1, hr2⟩]; rfl)
        clear h0
        cases ha : d.a.toList.isEmpty with
        | false =>
          have H := Lib.hid (show isDefB d = false by rw [HD.out, ha]; rfl)
          go_enter Tryz.func13, Tryz.ntmps13
          go_wp2_with fail
          refine (implIsName_c _ _ o1).mono ?_
          rintro e w' ⟨rfl, rfl⟩
          rw [HN.out]
          go_wp2
          go_ret
          exact ⟨ret_bool (by rw [H.out]), by rw [← Hw0.out]; exact hG0⟩
        | true =>
          cases hb0 : d.b.toList.isEmpty with
          | false =>
            have H := Lib.hid (show isDefB d = false by rw [HD.out, ha, hb0]; rfl)
            go_enter Tryz.func13, Tryz.ntmps13
            go_wp2_with fail
            refine (implIsName_c _ _ o1).mono ?_
            rintro e w' ⟨rfl, rfl⟩
            rw [HN.out]
            go_wp2
            go_ret
            exact ⟨ret_bool (by rw [H.out]), by rw [← Hw0.out]; exact hG0⟩
          | true =>
            have H := Lib.hid (show isDefB d = isMatB d.value by rw [HD.out, ha, hb0]; rfl)
            go_enter Tryz.func13, Tryz.ntmps13
            go_wp2_with fail
            refine (implIsName_c _ _ o1).mono ?_
            rintro e w' ⟨rfl, rfl⟩
            rw [HN.out]
            go_wp2_with fail
            rw [← Hw0.out]
            refine (isMatrix_c hvm (by unfold bdM; omega)).mono ?_
            rintro e w1 ⟨rfl, hG1⟩
            go_wp2
            go_ret
            exact ⟨ret_bool (by rw [H.out]), hG0.trans hG1⟩
      · have e0 : (d.op == 0) = false := by simp [h0]
        by_cases h2 : d.op ≤ 2
        · skip
          by_cases h1 : d.op = 1
          · have e1 : (d.op == 1) = true := by simp [h1]
            clear h1
            have HD := Lib.hid (show isDefB d = (isNameB d.a && (isNameB d.b && zeroMB d.value)) by unfold isDefB; rw [HN.out, if_neg h0, if_pos h2, decide_eq_true ⟨hr1, hr2⟩]; rfl)
            cases ha0 : isNameB d.a with
            | false =>
              have H := Lib.hid (show isDefB d = false by rw [HD.out, ha0]; rfl)
              have HA := Lib.hid ha0; clear ha0
              go_enter Tryz.func13, Tryz.ntmps13
              go_wp2_with fail
              refine (implIsName_c _ _ o1).mono ?_
              rintro e w' ⟨rfl, rfl⟩
              rw [HN.out]
              go_wp2_with fail
              refine (implIsName_c _ _ o3).mono ?_
              rintro e w' ⟨rfl, rfl⟩
              rw [HA.out]
              go_wp2
              go_ret
              exact ⟨ret_bool (by rw [H.out]), by rw [← Hw0.out]; exact hG0⟩
            | true =>
              have HA := Lib.hid ha0; clear ha0
              cases hb0 : isNameB d.b with
              | false =>
                have H := Lib.hid (show isDefB d = false by rw [HD.out, HA.out, hb0]; rfl)
                have HBB := Lib.hid hb0; clear hb0
                go_enter Tryz.func13, Tryz.ntmps13
                go_wp2_with fail
                refine (implIsName_c _ _ o1).mono ?_
                rintro e w' ⟨rfl, rfl⟩
                rw [HN.out]
                go_wp2_with fail
                refine (implIsName_c _ _ o3).mono ?_
                rintro e w' ⟨rfl, rfl⟩
                rw [HA.out]
                go_wp2_with fail
                refine (implIsName_c _ _ o4).mono ?_
                rintro e w' ⟨rfl, rfl⟩
                rw [HBB.out]
                go_wp2
                go_ret
                exact ⟨ret_bool (by rw [H.out]), by rw [← Hw0.out]; exact hG0⟩
              | true =>
                have H := Lib.hid (show isDefB d = zeroMB d.value by rw [HD.out, HA.out, hb0]; rfl)
                have HBB := Lib.hid hb0; clear hb0
                go_enter Tryz.func13, Tryz.ntmps13
                go_wp2_with fail
                refine (implIsName_c _ _ o1).mono ?_
                rintro e w' ⟨rfl, rfl⟩
                rw [HN.out]
                go_wp2_with fail
                refine (implIsName_c _ _ o3).mono ?_
                rintro e w' ⟨rfl, rfl⟩
                rw [HA.out]
                go_wp2_with fail
                refine (implIsName_c _ _ o4).mono ?_
                rintro e w' ⟨rfl, rfl⟩
                rw [HBB.out]
                go_wp2_with fail
                rw [← Hw0.out]
                refine (isZeroMatrix_c hvm).mono ?_
                rintro e w1 ⟨rfl, hG1⟩
                go_wp2
                go_ret
                exact ⟨ret_bool (by rw [H.out]), hG0.trans hG1⟩
          · have e1 : (d.op == 1) = false := by simp [h1]
            have e2 : (d.op == 2) = true := by simp; omega
            have HD := Lib.hid (show isDefB d = (isNameB d.a && (isNameB d.b && zeroMB d.value)) by unfold isDefB; rw [HN.out, if_neg h0, if_pos h2, decide_eq_true ⟨hr1, hr2⟩]; rfl)
            cases ha0 : isNameB d.a with
            | false =>
              have H := Lib.hid (show isDefB d = false by rw [HD.out, ha0]; rfl)
              have HA := Lib.hid ha0; clear ha0
              go_enter Tryz.func13, Tryz.ntmps13
              go_wp2_with fail
              refine (implIsName_c _ _ o1).mono ?_
              rintro e w' ⟨rfl, rfl⟩
              rw [HN.out]
              go_wp2_with fail
              refine (implIsName_c _ _ o3).mono ?_
              rintro e w' ⟨rfl, rfl⟩
              rw [HA.out]
              go_wp2
              go_ret
              exact ⟨ret_bool (by rw [H.out]), by rw [← Hw0.out]; exact hG0⟩
            | true =>
              have HA := Lib.hid ha0; clear ha0
              cases hb0 : isNameB d.b with
              | false =>
                have H := Lib.hid (show isDefB d = false by rw [HD.out, HA.out, hb0]; rfl)
                have HBB := Lib.hid hb0; clear hb0
                go_enter Tryz.func13, Tryz.ntmps13
                go_wp2_with fail
                refine (implIsName_c _ _ o1).mono ?_
                rintro e w' ⟨rfl, rfl⟩
                rw [HN.out]
                go_wp2_with fail
                refine (implIsName_c _ _ o3).mono ?_
                rintro e w' ⟨rfl, rfl⟩
                rw [HA.out]
                go_wp2_with fail
                refine (implIsName_c _ _ o4).mono ?_
                rintro e w' ⟨rfl, rfl⟩
                rw [HBB.out]
                go_wp2
                go_ret
                exact ⟨ret_bool (by rw [H.out]), by rw [← Hw0.out]; exact hG0⟩
              | true =>
                have H := Lib.hid (show isDefB d = zeroMB d.value by rw [HD.out, HA.out, hb0]; rfl)
                have HBB := Lib.hid hb0; clear hb0
                go_enter Tryz.func13, Tryz.ntmps13
                go_wp2_with fail
                refine (implIsName_c _ _ o1).mono ?_
                rintro e w' ⟨rfl, rfl⟩
                rw [HN.out]
                go_wp2_with fail
                refine (implIsName_c _ _ o3).mono ?_
                rintro e w' ⟨rfl, rfl⟩
                rw [HA.out]
                go_wp2_with fail
                refine (implIsName_c _ _ o4).mono ?_
                rintro e w' ⟨rfl, rfl⟩
                rw [HBB.out]
                go_wp2_with fail
                rw [← Hw0.out]
                refine (isZeroMatrix_c hvm).mono ?_
                rintro e w1 ⟨rfl, hG1⟩
                go_wp2
                go_ret
                exact ⟨ret_bool (by rw [H.out]), hG0.trans hG1⟩
        · skip
          have e1 : (d.op == 1) = false := by simp; omega
          have e2 : (d.op == 2) = false := by simp; omega
          have HD := Lib.hid (show isDefB d = (isNameB d.a && (d.b.toList.isEmpty && zeroMB d.value)) by unfold isDefB; rw [HN.out, if_neg h0, if_neg h2, decide_eq_true ⟨hr1, hr2⟩]; rfl)
          cases ha0 : isNameB d.a with
          | false =>
            have H := Lib.hid (show isDefB d = false by rw [HD.out, ha0]; rfl)
            have HA := Lib.hid ha0; clear ha0
            go_enter Tryz.func13, Tryz.ntmps13
            go_wp2_with fail
            refine (implIsName_c _ _ o1).mono ?_
            rintro e w' ⟨rfl, rfl⟩
            rw [HN.out]
            go_wp2_with fail
            refine (implIsName_c _ _ o3).mono ?_
            rintro e w' ⟨rfl, rfl⟩
            rw [HA.out]
            go_wp2
            go_ret
            exact ⟨ret_bool (by rw [H.out]), by rw [← Hw0.out]; exact hG0⟩
          | true =>
            have HA := Lib.hid ha0; clear ha0
            cases hb0 : d.b.toList.isEmpty with
            | false =>
              have H := Lib.hid (show isDefB d = false by rw [HD.out, HA.out, hb0]; rfl)
              go_enter Tryz.func13, Tryz.ntmps13
              go_wp2_with fail
              refine (implIsName_c _ _ o1).mono ?_
              rintro e w' ⟨rfl, rfl⟩
              rw [HN.out]
              go_wp2_with fail
              refine (implIsName_c _ _ o3).mono ?_
              rintro e w' ⟨rfl, rfl⟩
              rw [HA.out]
              go_wp2
              go_ret
              exact ⟨ret_bool (by rw [H.out]), by rw [← Hw0.out]; exact hG0⟩
            | true =>
              have H := Lib.hid (show isDefB d = zeroMB d.value by rw [HD.out, HA.out, hb0]; rfl)
              go_enter Tryz.func13, Tryz.ntmps13
              go_wp2_with fail
              refine (implIsName_c _ _ o1).mono ?_
              rintro e w' ⟨rfl, rfl⟩
              rw [HN.out]
              go_wp2_with fail
              refine (implIsName_c _ _ o3).mono ?_
              rintro e w' ⟨rfl, rfl⟩
              rw [HA.out]
              go_wp2_with fail
              rw [← Hw0.out]
              refine (isZeroMatrix_c hvm).mono ?_
              rintro e w1 ⟨rfl, hG1⟩
              go_wp2
              go_ret
              exact ⟨ret_bool (by rw [H.out]), hG0.trans hG1⟩
    · have H := Lib.hid (show isDefB d = false by unfold isDefB; rw [HN.out, decide_eq_false hr]; rfl)
      by_cases hr1 : 0 ≤ d.op
      · have hr2 : ¬ d.op ≤ 9 := fun e => hr ⟨hr1, e⟩
        clear hr
        go_enter Tryz.func13, Tryz.ntmps13
        go_wp2_with fail
        refine (implIsName_c _ _ o1).mono ?_
        rintro e w' ⟨rfl, rfl⟩
        rw [HN.out]
        go_wp2
        go_ret
        exact ⟨ret_bool (by rw [H.out]), by rw [← Hw0.out]; exact hG0⟩
      · clear hr
        go_enter Tryz.func13, Tryz.ntmps13
        go_wp2_with fail
        refine (implIsName_c _ _ o1).mono ?_
        rintro e w' ⟨rfl, rfl⟩
        rw [HN.out]
        go_wp2
        go_ret
        exact ⟨ret_bool (by rw [H.out]), by rw [← Hw0.out]; exact hG0⟩

end Go.Proofs.YtdnpdfokdibmdaaGreatDoor
