/-
  Numbers as text: the reference's FormatInt.
-/
import Derived.Test.YtdnpdfokdibmdaaGreatDoorZFmt
import Derived.Laws.DeepStrings4
namespace Go.Proofs.YtdnpdfokdibmdaaGreatDoor
open Go.RowKit

/-- A string out of its bytes. -/
abbrev bstr (l : List UInt8) : ByteArray := ⟨l.toArray⟩
theorem bstr_size (l : List UInt8) : (bstr l).size = l.length := by show (l.toArray).size = _; simp
theorem bstr_append (a b : List UInt8) : bstr a ++ bstr b = bstr (a ++ b) := by
  apply ByteArray.ext
  show (bstr a ++ bstr b).data = _
  rw [ByteArray.data_append]; simp
theorem bstr_cons {e : ByteArray} {c : UInt8} (h : e = bstr [c]) (s : List UInt8) : e ++ bstr s = bstr (c :: s) := by rw [h, bstr_append]; rfl
theorem restD_len (x : Int) (h : I64 x) : (restD x).length ≤ 20 := by
  unfold restD
  split
  · simp
  · rw [Lib.decDigits_length]; exact Lib.nDigits_le20 _ (by unfold I64 at h; omega)
theorem digit_at : ∀ d : Fin 10, (ByteArray.extract ⟨#[48, 49, 50, 51, 52, 53, 54, 55, 56, 57]⟩ d.val (d.val + 1)) = bstr [UInt8.ofNat (48 + d.val)] := by decide +kernel

def dgt (d : Nat) : UInt8 := UInt8.ofNat (48 + d)
theorem slice_digit {d : Nat} (h : d < 10) (w : World) : (Instr.slice 9 (.string ⟨#[48, 49, 50, 51, 52, 53, 54, 55, 56, 57]⟩) (some (.int .i64 (d : Int))) (some (.int .i64 ((d : Int) + 1))) none).run Tryz.prog w =   .ok (.string (bstr [dgt d])) w := by
  have e := digit_at ⟨d, h⟩
  have hs : ((ByteArray.size ⟨#[48, 49, 50, 51, 52, 53, 54, 55, 56, 57]⟩ : Nat) : Int) = 10 := rfl
  rw [run_slice_string_if _ _ _ _ _ _ _ Tryz.underlying9, hs, if_pos (by omega), if_pos (by omega)]
  rw [show ((d : Int)).toNat = d by omega, show ((d : Int) + 1).toNat = d + 1 by omega, e]; rfl

set_option maxHeartbeats 1000000 in
set_option maxRecDepth 100000 in
theorem sFormatInt_c (n : Int) (w : World) (hn : I64 n) : Calls Tryz.prog 60 #[.int .i64 n] w fun e w' => e = .returned (.string (bstr (Lib.itoa n))) ∧ w = w' := by
  have hI := hn
  unfold I64 at hn
  go_enter Tryz.func60, Tryz.ntmps60
  go_wp2
  go_loop [3, 4, 5] (fun sv xv _ => ∃ (s : List UInt8) (x : Int), sv = .string (bstr s) ∧ xv = .int .i64 x ∧ I64 x ∧ restD x ++ s = restD n) (fun _ xv _ => (intOf xv).natAbs)
  case atStart => exact ⟨[], n, rfl, rfl, hI, by simp⟩
  case round =>
    obtain ⟨s, x, rfl, rfl, hx, he⟩ := hrel
    have hl : s.length ≤ 20 := by
      have h1 := restD_len n hI
      rw [← he] at h1; simp at h1; omega
    have He := Lib.hid he; clear he
    have hIx := hx
    unfold I64 at hx
    by_cases h0 : x = 0
    · subst h0
      have Hi := Lib.hid (itoa_rest n)
      by_cases hn0 : n = 0
      · subst hn0
        go_wp2
        go_ret
        refine ⟨?_, rfl⟩
        rw [Hi.out]; rfl
      · have e0 : restD 0 ++ s = s := rfl
        rw [e0] at He
        by_cases hn1 : n < 0
        · go_wp2
          go_ret
          refine ⟨?_, rfl⟩
          rw [Hi.out, if_neg hn0, if_pos hn1, ← He.out]
          show Ending.returned (Value.string (bstr [45] ++ bstr s)) = _
          rw [bstr_append]; rfl
        · go_wp2
          go_ret
          refine ⟨?_, rfl⟩
          rw [Hi.out, if_neg hn0, if_neg (by omega), ← He.out]; rfl
    · have hstep := restD_step h0
      obtain ⟨d, hd⟩ : ∃ d : Nat, x.natAbs % 10 = d := ⟨x.natAbs % 10, rfl⟩
      have hdl : d < 10 := by omega
      have Hst := Lib.hid (show restD (x.tdiv 10) ++ (dgt d :: s) = restD n by rw [← He.out, hstep, hd]; simp [dgt])
      have Hdg := Lib.hid (digit_at ⟨d, hdl⟩)
      have htq : I64 (x.tdiv 10) ∧ (x.tdiv 10).natAbs < x.natAbs := by
        have e1 : (x.tdiv 10).natAbs = x.natAbs / 10 := Int.natAbs_tdiv x 10
        unfold I64; omega
      have Htq := Lib.hid htq
      clear hstep htq
      by_cases hneg : x < 0
      · have hm : x.tmod 10 = -(d : Int) := by
          have e1 : (x.tmod 10).natAbs = x.natAbs % 10 := Int.natAbs_tmod x 10
          have e2 : x.tmod 10 ≤ 0 := by
            rcases Int.lt_or_le 0 (x.tmod 10) with h | h
            · exfalso
              have := Int.tmod_nonneg (a := -x) 10 (by omega)
              rw [Int.neg_tmod] at this; omega
            · exact h
          omega
        clear hd
        rcases Nat.eq_zero_or_pos d with hd0 | hd0
        · subst hd0
          have hm0 : x.tmod 10 = 0 := by rw [hm]; rfl
          clear hm
          go_wp2
          refine ⟨⟨_, _, congrArg Value.string (bstr_cons Hdg.out s), rfl, Htq.out.1, Hst.out⟩, Htq.out.2⟩
        · have hm0 : x.tmod 10 < 0 := by omega
          have hsl := slice_digit hdl
          go_wp2
          refine ⟨⟨_, _, congrArg Value.string (bstr_append _ _), rfl, Htq.out.1, Hst.out⟩, Htq.out.2⟩
      · have hm : x % 10 = (d : Int) := by omega
        clear hd
        have hsl := slice_digit hdl
        have hm0 : decide ((d : Int) < 0) = false := by simp
        have e10 : x.tdiv 10 = x / 10 := Int.tdiv_eq_ediv_of_nonneg (by omega)
        rw [e10] at Htq Hst
        clear e10
        go_wp2
        refine ⟨⟨_, _, congrArg Value.string (bstr_append _ _), rfl, Htq.out.1, Hst.out⟩, Htq.out.2⟩
end Go.Proofs.YtdnpdfokdibmdaaGreatDoor
