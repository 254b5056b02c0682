/-
  Numbers read back from their texts: the reference's ParseInt.
-/
import Derived.Test.YtdnpdfokdibmdaaDoorZPrs
import Derived.Test.YtdnpdfokdibmdaaDoorZBase
import Derived.Test.YtdnpdfokdibmdaaDoorZStr
namespace Go.Proofs.YtdnpdfokdibmdaaDoor
open Go.RowKit

theorem bytes_at (s : ByteArray) {k : Nat} (h : k < s.size) : s.data.toList[k]? = some s[k] := by
  rw [List.getElem?_eq_getElem (by simpa using h)]; simp; rfl
theorem bytes_len (s : ByteArray) : s.data.toList.length = s.size := by rw [Array.length_toList]; rfl
def sg (s : ByteArray) : Nat := if negL s.data.toList then 1 else 0
theorem sg_le (s : ByteArray) : sg s ≤ s.size ∧ sg s ≤ 1 := by
  unfold sg
  split
  · rename_i h
    refine ⟨?_, Nat.le_refl _⟩
    unfold negL at h
    rw [← bytes_len]
    cases hl : s.data.toList with
    | nil => rw [hl] at h; simp at h
    | cons => simp
  · omega
theorem tail_len (s : ByteArray) : (tailL s.data.toList).length + sg s = s.size := by
  have h1 := (sg_le s).1
  have h2 := bytes_len s
  unfold tailL
  unfold sg at *
  by_cases hn : negL s.data.toList = true
  · rw [if_pos hn] at h1
    rw [if_pos hn, if_pos hn, List.length_drop]; omega
  · rw [if_neg hn, if_neg hn]; omega
theorem tail_at (s : ByteArray) {d : Nat} (h : d + sg s < s.size) : (tailL s.data.toList)[d]? = some s[d + sg s] := by
  have e := bytes_at s h
  unfold tailL
  unfold sg at e
  split at e
  · rename_i hn; rw [if_pos hn]; rw [List.getElem?_drop, Nat.add_comm]; simp only [sg, hn, if_true]; exact e
  · rename_i hn; rw [if_neg hn]; simp only [sg, hn]; exact e
theorem tail_at' (s : ByteArray) {d i : Nat} (hid : i = d + sg s) (h : i < s.size) : (tailL s.data.toList)[d]? = some s[i] := by subst hid; exact tail_at s h
theorem head_at (s : ByteArray) (h : 0 < s.size) : negL s.data.toList = ((s[0].toNat : Int) == 45) := by
  have e := bytes_at s h
  unfold negL
  rw [List.head?_eq_getElem?, e]
  rw [Bool.eq_iff_iff, beq_iff_eq, beq_iff_eq, Option.some.injEq]
  refine ⟨fun e => by rw [e]; rfl, fun e => UInt8.toNat_inj.1 (by have : ((45 : UInt8)).toNat = 45 := rfl; omega)⟩
/-- How far the reading has come. -/
structure PI (s : ByteArray) (i d u : Nat) : Prop where
  read : Lib.decFrom 0 ((tailL s.data.toList).take d) = some u
  at_ : i = d + sg s ∨ (i = 0 ∧ d = 0)
  le : d ≤ 12
theorem PI.lt {s : ByteArray} {i d u : Nat} (h : PI s i d u) : u < 1000000000000 := by
  have := Lib.decFrom_lt _ _ _ h.read
  have h2 : ((tailL s.data.toList).take d).length ≤ 12 := by simp; have := h.le; omega
  have h3 : (10 : Nat) ^ ((tailL s.data.toList).take d).length ≤ 10 ^ 12 := Nat.pow_le_pow_right (by decide) h2
  omega

set_option maxHeartbeats 4000000 in
set_option maxRecDepth 100000 in
theorem sParseInt_c (s : ByteArray) (w : World) (hs : s.size ≤ 1048576) : Calls Tryd.prog 44 #[.string s] w fun e w' => e = .returned (.tuple #[.int .i64 (parIv s.data.toList), .bool (parIb s.data.toList)]) ∧ w = w' := by
  have hsg := sg_le s
  have Htl := Lib.hid (tail_len s)
  go_enter Tryd.func44, Tryd.ntmps44
  go_wp2
  go_loop [4, 5, 6] (fun nv dv iv => ∃ i d u : Nat, nv = .int .i64 u ∧ dv = .int .i64 d ∧ iv = .int .i64 i ∧ i ≤ s.size ∧ PI s i d u) (fun _ _ iv => s.size - (intOf iv).toNat)
  case atStart => exact ⟨0, 0, 0, rfl, rfl, rfl, Nat.zero_le _, ⟨rfl, .inr ⟨rfl, rfl⟩, by omega⟩⟩
  case round =>
    obtain ⟨i, d, u, rfl, rfl, rfl, hi, hP⟩ := hrel
    have hu := hP.lt
    have hd12 := hP.le
    have hat := Lib.hid hP.at_
    have Hrd := Lib.hid hP.read
    clear hP
    by_cases hlt : i < s.size
    · by_cases hd : d < 12
      · by_cases hmin : i = 0 ∧ negL s.data.toList = true
        · obtain ⟨rfl, hneg⟩ := hmin
          have hq := head_at s hlt
          rw [hneg] at hq
          have q1 := hq.symm
          have Hneg := Lib.hid hneg
          clear hq hneg
          go_wp2
          refine ⟨⟨1, d, u, rfl, rfl, rfl, by omega, ?_⟩, by simp [intOf]; omega⟩
          have hs1 : sg s = 1 := by unfold sg; rw [if_pos Hneg.out]
          have hd0 : d = 0 := by rcases hat.out with e | e <;> omega
          exact ⟨Hrd.out, .inl (by omega), by omega⟩
        · have hid : i = d + sg s := by
            rcases hat.out with e | ⟨rfl, rfl⟩
            · exact e
            · have : negL s.data.toList = false := by cases hn : negL s.data.toList with
                | false => rfl
                | true => exact absurd ⟨rfl, hn⟩ hmin
              unfold sg; rw [this]; rfl
          have Hb := Lib.hid (tail_at' s hid hlt)
          have Hix := Lib.hid hid
          clear hid
          rcases Nat.eq_zero_or_pos i with h0 | h0
          · subst h0
            have hc0 : ((s[0].toNat : Int) == 45) = false := by
              rw [← head_at s hlt]
              cases hn : negL s.data.toList with
              | false => rfl
              | true => exact absurd ⟨rfl, hn⟩ hmin
            clear hmin
            by_cases h1 : (s[0].toNat : Int) < 48
            · have Hno := Lib.hid (parI_n (parI_unread (s := s.data.toList) (.inl ⟨d, _, Hb.out, by unfold Lib.digitVal; rw [if_neg (by omega)]⟩)))
              go_wp2
              go_ret2
              exact ⟨by rw [Hno.out.1, Hno.out.2]; rfl, rfl⟩
            · by_cases h2 : 57 < (s[0].toNat : Int)
              · have Hno := Lib.hid (parI_n (parI_unread (s := s.data.toList) (.inl ⟨d, _, Hb.out, by unfold Lib.digitVal; rw [if_neg (by omega)]⟩)))
                go_wp2
                go_ret2
                exact ⟨by rw [Hno.out.1, Hno.out.2]; rfl, rfl⟩
              · go_wp2
                have Hdv := Lib.hid (show Lib.digitVal s[0] = some (s[0].toNat - 48) by unfold Lib.digitVal; rw [if_pos (by omega)])
                go_wp2
                refine ⟨⟨0 + 1, d + 1, u * 10 + (s[0].toNat - 48), ?_, by simp, by simp, by omega, Lib.decFrom_take _ _ _ _ _ _ Hrd.out Hb.out Hdv.out, .inl (by have := Hix.out; omega), by omega⟩, by simp [intOf]; omega⟩
                congr 1; omega
          · have hc0 : ((i : Int) == 0) = false := by simp; omega
            clear hmin
            by_cases h1 : (s[i].toNat : Int) < 48
            · have Hno := Lib.hid (parI_n (parI_unread (s := s.data.toList) (.inl ⟨d, _, Hb.out, by unfold Lib.digitVal; rw [if_neg (by omega)]⟩)))
              go_wp2
              go_ret2
              exact ⟨by rw [Hno.out.1, Hno.out.2]; rfl, rfl⟩
            · by_cases h2 : 57 < (s[i].toNat : Int)
              · have Hno := Lib.hid (parI_n (parI_unread (s := s.data.toList) (.inl ⟨d, _, Hb.out, by unfold Lib.digitVal; rw [if_neg (by omega)]⟩)))
                go_wp2
                go_ret2
                exact ⟨by rw [Hno.out.1, Hno.out.2]; rfl, rfl⟩
              · go_wp2
                have Hdv := Lib.hid (show Lib.digitVal s[i] = some (s[i].toNat - 48) by unfold Lib.digitVal; rw [if_pos (by omega)])
                go_wp2
                refine ⟨⟨i + 1, d + 1, u * 10 + (s[i].toNat - 48), ?_, by simp, by simp, by omega, Lib.decFrom_take _ _ _ _ _ _ Hrd.out Hb.out Hdv.out, .inl (by have := Hix.out; omega), by omega⟩, by simp [intOf]; omega⟩
                congr 1; omega
      · have hd : d = 12 := by omega
        have hlen : 10 < (tailL s.data.toList).length := by
          have := Htl.out
          rcases hat.out with e | e <;> omega
        have Hno := Lib.hid (parI_n (parI_unread (s := s.data.toList) (.inr (.inr hlen))))
        clear hlen
        subst hd
        go_wp2
        all_goals (go_ret2; exact ⟨by rw [Hno.out.1, Hno.out.2]; rfl, rfl⟩)
    · obtain rfl : i = s.size := by omega
      by_cases hd0 : d = 0
      · have hnil : tailL s.data.toList = [] := by
          have := Htl.out
          apply List.eq_nil_of_length_eq_zero
          rcases hat.out with e | e <;> omega
        have Hno := Lib.hid (parI_n (parI_unread (s := s.data.toList) (.inr (.inl hnil))))
        subst hd0
        clear hnil
        go_wp2
        go_ret2
        exact ⟨by rw [Hno.out.1, Hno.out.2]; rfl, rfl⟩
      · have Hall := Lib.hid (show (tailL s.data.toList).length = d by
          have := Htl.out
          rcases hat.out with e | e <;> omega)
        have hpos : 0 < s.size := by
          have := Htl.out; have := Hall.out; omega
        by_cases hd10 : 10 < d
        · have Hno := Lib.hid (parI_n (parI_unread (s := s.data.toList) (.inr (.inr (by have := Hall.out; omega)))))
          go_wp2
          all_goals (go_ret2; exact ⟨by rw [Hno.out.1, Hno.out.2]; rfl, rfl⟩)
        · have Hv := Lib.hid (parI_read (s := s.data.toList) (u := u) (by have := Hrd.out; rw [← Hall.out, List.take_length] at this; exact this))
          have hq := head_at s hpos
          cases hn : negL s.data.toList with
          | true =>
            have e1 : sgn true u = -(u : Int) := rfl
            rw [hn] at hq Hv
            rw [e1] at Hv
            have q1 := hq.symm
            clear hn hq e1
            go_wp2_with fail
            refine (sIsNumber_c (-(u : Int)) _).mono ?_
            rintro e _ ⟨rfl, rfl⟩
            cases hnum : isNumB (-(u : Int)) with
            | false =>
              have Hno := Lib.hid (parI_n (s := s.data.toList) (by rw [Hv.out, hnum]; simp))
              clear hnum
              go_wp2
              go_ret2
              exact ⟨by rw [Hno.out.1, Hno.out.2]; rfl, rfl⟩
            | true =>
              have hI : I64 (-(u : Int)) := by unfold I64; omega
              have Hnum := Lib.hid hnum; clear hnum
              go_wp2_with fail
              refine (sFormatInt_c (-(u : Int)) _ hI).mono ?_
              rintro e _ ⟨rfl, rfl⟩
              clear hI
              by_cases he : Lib.itoa (-(u : Int)) = s.data.toList
              · have Hy := Lib.hid (parI_v (s := s.data.toList) (by rw [Hv.out, if_pos ⟨Hnum.out, he⟩]))
                have q2 : (Lib.itoa (-(u : Int)) == s.toList) = true := by rw [toList_data, he]; exact beq_self_eq_true _
                clear he
                go_wp2
                go_ret2
                exact ⟨by rw [Hy.out.1, Hy.out.2]; rfl, rfl⟩
              · have Hno := Lib.hid (parI_n (s := s.data.toList) (by rw [Hv.out, if_neg (fun e => he e.2)]))
                have q2 : (Lib.itoa (-(u : Int)) == s.toList) = false := by rw [toList_data]; exact beq_eq_false_iff_ne.2 he
                clear he
                go_wp2
                go_ret2
                exact ⟨by rw [Hno.out.1, Hno.out.2]; rfl, rfl⟩
          | false =>
            have e1 : sgn false u = (u : Int) := rfl
            rw [hn] at hq Hv
            rw [e1] at Hv
            have q1 := hq.symm
            clear hn hq e1
            go_wp2_with fail
            refine (sIsNumber_c (u : Int) _).mono ?_
            rintro e _ ⟨rfl, rfl⟩
            cases hnum : isNumB (u : Int) with
            | false =>
              have Hno := Lib.hid (parI_n (s := s.data.toList) (by rw [Hv.out, hnum]; simp))
              clear hnum
              go_wp2
              go_ret2
              exact ⟨by rw [Hno.out.1, Hno.out.2]; rfl, rfl⟩
            | true =>
              have hI : I64 (u : Int) := by unfold I64; omega
              have Hnum := Lib.hid hnum; clear hnum
              go_wp2_with fail
              refine (sFormatInt_c (u : Int) _ hI).mono ?_
              rintro e _ ⟨rfl, rfl⟩
              clear hI
              by_cases he : Lib.itoa (u : Int) = s.data.toList
              · have Hy := Lib.hid (parI_v (s := s.data.toList) (by rw [Hv.out, if_pos ⟨Hnum.out, he⟩]))
                have q2 : (Lib.itoa (u : Int) == s.toList) = true := by rw [toList_data, he]; exact beq_self_eq_true _
                clear he
                go_wp2
                go_ret2
                exact ⟨by rw [Hy.out.1, Hy.out.2]; rfl, rfl⟩
              · have Hno := Lib.hid (parI_n (s := s.data.toList) (by rw [Hv.out, if_neg (fun e => he e.2)]))
                have q2 : (Lib.itoa (u : Int) == s.toList) = false := by rw [toList_data]; exact beq_eq_false_iff_ne.2 he
                clear he
                go_wp2
                go_ret2
                exact ⟨by rw [Hno.out.1, Hno.out.2]; rfl, rfl⟩
end Go.Proofs.YtdnpdfokdibmdaaDoor
