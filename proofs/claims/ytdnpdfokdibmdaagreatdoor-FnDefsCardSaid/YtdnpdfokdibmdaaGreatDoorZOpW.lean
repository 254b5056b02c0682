/-
  The words of the operations: the reference's and the program's.
-/
import Derived.Test.YtdnpdfokdibmdaaGreatDoorZFmtN
import Derived.Test.YtdnpdfokdibmdaaGreatDoorZBase
import Derived.Test.YtdnpdfokdibmdaaGreatDoorZStrs
namespace Go.Proofs.YtdnpdfokdibmdaaGreatDoor
open Go.RowKit

def opWords : List (List UInt8) := [[], [97, 100, 100], [109, 117, 108], [116, 117, 114, 110], [100, 101, 116], [104, 101, 114, 109, 105, 116, 101], [115, 109, 105, 116, 104], [107, 101, 114, 110, 101, 108], [103, 114, 97, 109], [114, 101, 100, 117, 99, 101]]
def opw (op : Int) : List UInt8 := if 1 ≤ op ∧ op ≤ 9 then opWords.getD op.toNat [] else []
theorem opw_no {op : Int} (h : ¬ (1 ≤ op ∧ op ≤ 9)) : opw op = [] := by unfold opw; rw [if_neg h]
theorem opw_len (op : Int) : (opw op).length ≤ 7 := by
  unfold opw
  split
  · rename_i h
    obtain ⟨k, rfl⟩ := Int.eq_ofNat_of_zero_le (show 0 ≤ op by omega)
    have hk : k < 10 := by omega
    match k, hk with
    | 0, _ | 1, _ | 2, _ | 3, _ | 4, _ | 5, _ | 6, _ | 7, _ | 8, _ | 9, _ => decide
  · simp

set_option maxHeartbeats 4000000 in
set_option maxRecDepth 100000 in
theorem l37Op_c (op : Int) (w : World) (h : I64 op) : Calls Tryz.prog 45 #[.int .i64 op] w fun e w' => e = .returned (.string (bstr (opw op))) ∧ Grow w w' := by
  unfold I64 at h
  by_cases hin : 1 ≤ op ∧ op ≤ 9
  · have q1 : inB 1 1 9 = true := rfl
    have q2 : inB 2 1 9 = true := rfl
    have q3 : inB 3 1 9 = true := rfl
    have q4 : inB 4 1 9 = true := rfl
    have q5 : inB 5 1 9 = true := rfl
    have q6 : inB 6 1 9 = true := rfl
    have q7 : inB 7 1 9 = true := rfl
    have q8 : inB 8 1 9 = true := rfl
    have q9 : inB 9 1 9 = true := rfl
    obtain ⟨k, rfl⟩ := Int.eq_ofNat_of_zero_le (show 0 ≤ op by omega)
    have hk : k < 10 := by omega
    have hk0 : 0 < k := by omega
    clear hin h
    match k, hk, hk0 with
    | 1, _, _ | 2, _, _ | 3, _, _ | 4, _, _ | 5, _, _ | 6, _, _ | 7, _, _ | 8, _, _ | 9, _, _ =>
      go_enter Tryz.func45, Tryz.ntmps45
      go_wp2_with fail
      refine (l1In_c _ _ _ _).mono ?_
      rintro e w' ⟨rfl, rfl⟩
      go_wp2
      go_ret
      exact ⟨rfl, (Grow.refl _).alloc _ _⟩
  · have hI : inB op 1 9 = false := by unfold inB; simp; omega
    have Hz := Lib.hid (opw_no hin)
    clear hin
    go_enter Tryz.func45, Tryz.ntmps45
    go_wp2_with fail
    refine (l1In_c _ _ _ _).mono ?_
    rw [hI]
    rintro e w' ⟨rfl, rfl⟩
    clear hI
    go_wp2
    go_ret
    exact ⟨by rw [Hz.out]; rfl, Grow.refl _⟩

set_option maxHeartbeats 4000000 in
set_option maxRecDepth 100000 in
theorem opWord_c (op : Int) (w : World) (h : 0 ≤ op ∧ op ≤ 9) : Calls Tryz.prog 15 #[.int .i64 op] w fun e w' => e = .returned (.string (bstr (opw op))) ∧ Grow w w' := by
  obtain ⟨k, rfl⟩ := Int.eq_ofNat_of_zero_le h.1
  have hk : k < 10 := by omega
  clear h
  match k, hk with
  | 0, _ | 1, _ | 2, _ | 3, _ | 4, _ | 5, _ | 6, _ | 7, _ | 8, _ | 9, _ =>
    go_enter Tryz.func15, Tryz.ntmps15
    go_wp2
    go_ret
    exact ⟨rfl, (Grow.refl _).alloc _ _⟩
end Go.Proofs.YtdnpdfokdibmdaaGreatDoor
