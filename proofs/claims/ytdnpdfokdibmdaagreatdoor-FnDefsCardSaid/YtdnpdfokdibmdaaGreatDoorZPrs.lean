/-
  Numbers read back from their texts: the plain functions.
-/
import Derived.Test.YtdnpdfokdibmdaaGreatDoorZFmtN
import Derived.Lib.AtoiTie
namespace Go.Proofs.YtdnpdfokdibmdaaGreatDoor
open Go.RowKit

theorem decFrom_append : ∀ (a b : List UInt8) (acc : Nat), Lib.decFrom acc (a ++ b) = (Lib.decFrom acc a).bind fun x => Lib.decFrom x b
  | [], b, acc => rfl
  | c :: a, b, acc => by
    simp only [List.cons_append, Lib.decFrom]
    cases Lib.digitVal c with
    | none => rfl
    | some d => exact decFrom_append a b _
theorem digitVal_dgt {d : Nat} (h : d < 10) : Lib.digitVal (UInt8.ofNat (48 + d)) = some d := by
  have e : (UInt8.ofNat (48 + d)).toNat = 48 + d := by rw [UInt8.toNat_ofNat']; omega
  unfold Lib.digitVal
  rw [e, if_pos (by omega)]; congr 1; omega
theorem decFrom_digits : ∀ (u : Nat), Lib.decFrom 0 (Lib.decDigits u) = some u := by
  intro u
  induction u using Nat.strongRecOn with
  | _ u ih =>
    by_cases h : u < 10
    · rw [Lib.decDigits, dif_pos h]
      simp only [Lib.decFrom, digitVal_dgt h]; simp
    · rw [decDigits_step h, decFrom_append, ih (u / 10) (by omega)]
      simp only [Option.bind_some, Lib.decFrom, digitVal_dgt (Nat.mod_lt u (by decide))]
      congr 1; omega
theorem decDigits_ne (u : Nat) : Lib.decDigits u ≠ [] := fun e => by
  have h1 := Lib.decDigits_length u
  have h2 := Lib.nDigits_pos u
  rw [e] at h1; simp at h1; omega
theorem decDigits_mem {u : Nat} {b : UInt8} (h : b ∈ Lib.decDigits u) : 48 ≤ b.toNat ∧ b.toNat ≤ 57 := by
  obtain ⟨k, hk⟩ := List.mem_iff_getElem?.1 h
  obtain ⟨d, hd⟩ := Lib.digit_of_decFrom _ _ _ (decFrom_digits u) k b hk
  have := Lib.digitVal_eq hd; omega
/-- The bytes of a number's text. -/
theorem itoa_mem {n : Int} {b : UInt8} (h : b ∈ Lib.itoa n) : b.toNat = 45 ∨ (48 ≤ b.toNat ∧ b.toNat ≤ 57) := by
  unfold Lib.itoa at h
  split at h
  · rcases List.mem_cons.1 h with rfl | h
    · exact .inl rfl
    · exact .inr (decDigits_mem h)
  · exact .inr (decDigits_mem h)
theorem decNat_digits (u : Nat) : Lib.decNat (Lib.decDigits u) = some u := by
  unfold Lib.decNat
  rw [if_neg (by rw [List.isEmpty_iff]; exact decDigits_ne u), decFrom_digits]
theorem atoi_itoa (n : Int) : Lib.atoi (Lib.itoa n) = some n := by
  unfold Lib.itoa
  by_cases h : n < 0
  · rw [if_pos h]
    simp only [Lib.atoi, beq_self_eq_true, if_true, decNat_digits, Option.map_some]
    congr 1; omega
  · rw [if_neg h]
    match hd : Lib.decDigits n.toNat, decDigits_ne n.toNat with
    | b :: r, _ =>
      have hb := decDigits_mem (u := n.toNat) (b := b) (by rw [hd]; simp)
      have h45 : (b == 45) = false := by rw [beq_eq_false_iff_ne]; intro e; subst e; simp at hb
      have h43 : (b == 43) = false := by rw [beq_eq_false_iff_ne]; intro e; subst e; simp at hb
      simp only [Lib.atoi, h45, h43, ← hd, decNat_digits]
      simp; omega
theorem itoa_inj {n m : Int} (h : Lib.itoa n = Lib.itoa m) : n = m := by
  have := atoi_itoa n
  rw [h, atoi_itoa] at this
  exact (Option.some.inj this).symm
theorem atoiAll_itoa {n : Int} (h : isNumB n = true) : Lib.atoiAll (Lib.itoa n) = .ok n := by
  have := isNumB_rng h
  rw [Lib.atoiAll_short _ (by have := itoa_len10 this.1 this.2; omega), atoi_itoa]; rfl
/-- A number out of its text. -/
def parI (s : List UInt8) : Option Int := match Lib.atoi s with
  | some n => if isNumB n = true ∧ Lib.itoa n = s then some n else none
  | none => none
theorem parI_yes {s : List UInt8} {n : Int} (h1 : isNumB n = true) (h2 : Lib.itoa n = s) : parI s = some n := by
  unfold parI
  rw [← h2, atoi_itoa]
  simp [h1]
theorem parI_some {s : List UInt8} {n : Int} (h : parI s = some n) : isNumB n = true ∧ Lib.itoa n = s := by
  unfold parI at h
  split at h
  · split at h
    · rename_i hh; obtain rfl := Option.some.inj h; exact hh
    · cases h
  · cases h
theorem parI_none {s : List UInt8} (h : ∀ n, isNumB n = true → Lib.itoa n ≠ s) : parI s = none := by
  cases hp : parI s with
  | none => rfl
  | some n => exact absurd (parI_some hp).2 (h n (parI_some hp).1)
def parIv (s : List UInt8) : Int := (parI s).getD 0
def parIb (s : List UInt8) : Bool := (parI s).isSome
theorem parI_v {s : List UInt8} {n : Int} (h : parI s = some n) : parIv s = n ∧ parIb s = true := by unfold parIv parIb; rw [h]; exact ⟨rfl, rfl⟩
theorem parI_n {s : List UInt8} (h : parI s = none) : parIv s = 0 ∧ parIb s = false := by unfold parIv parIb; rw [h]; exact ⟨rfl, rfl⟩
theorem parIv_num (s : List UInt8) : isNumB (parIv s) = true := by
  unfold parIv
  cases h : parI s with
  | none => rfl
  | some n => exact (parI_some h).1
/-- What the program's way gives. -/
theorem parI_all {s : List UInt8} {v : Int} (h : Lib.atoiAll s = .ok v) : parI s = if isNumB v = true ∧ Lib.itoa v = s then some v else none := by
  split
  · rename_i hh; exact parI_yes hh.1 hh.2
  · rename_i hh
    refine parI_none fun n h1 h2 => hh ?_
    rw [← h2, atoiAll_itoa h1] at h
    injection h with h
    subst h
    exact ⟨h1, h2⟩
theorem parI_bad {s : List UInt8} (h : ∀ v, Lib.atoiAll s ≠ .ok v) : parI s = none :=
  parI_none fun n h1 h2 => h n (by rw [← h2, atoiAll_itoa h1])
/-- The sign and what stands behind it. -/
def negL (s : List UInt8) : Bool := s.head? == some 45
def tailL (s : List UInt8) : List UInt8 := if negL s then s.drop 1 else s
def sgn (b : Bool) (n : Nat) : Int := if b then -(n : Int) else n
theorem tailL_itoa (n : Int) : negL (Lib.itoa n) = decide (n < 0) ∧ tailL (Lib.itoa n) = Lib.decDigits n.natAbs := by
  unfold tailL
  unfold Lib.itoa
  by_cases h : n < 0
  · rw [if_pos h]; simp [negL, h]
  · rw [if_neg h]
    have hng : negL (Lib.decDigits n.toNat) = false := by
      unfold negL
      rw [beq_eq_false_iff_ne]
      intro e
      have := decDigits_mem (u := n.toNat) (b := 45) (List.mem_of_mem_head? e)
      simp at this
    rw [hng]
    refine ⟨by simp; omega, ?_⟩
    rw [if_neg (by simp), show n.toNat = n.natAbs by omega]
/-- What the reference's way gives, where all the digits were read. -/
theorem parI_read {s : List UInt8} {u : Nat} (h : Lib.decFrom 0 (tailL s) = some u) : parI s = if isNumB (sgn (negL s) u) = true ∧ Lib.itoa (sgn (negL s) u) = s then some (sgn (negL s) u) else none := by
  split
  · rename_i hh; exact parI_yes hh.1 hh.2
  · rename_i hh
    refine parI_none fun n h1 h2 => hh ?_
    obtain ⟨e1, e2⟩ := tailL_itoa n
    rw [h2] at e1 e2
    rw [e2, decFrom_digits] at h
    obtain rfl := Option.some.inj h
    have : sgn (negL s) n.natAbs = n := by rw [e1]; unfold sgn; split <;> simp_all <;> omega
    rw [this]
    exact ⟨h1, h2⟩
/-- .. and where not. -/
theorem parI_unread {s : List UInt8} (h : (∃ (k : Nat) (b : UInt8), (tailL s)[k]? = some b ∧ Lib.digitVal b = none) ∨ tailL s = [] ∨ 10 < (tailL s).length) : parI s = none := by
  refine parI_none fun n h1 h2 => ?_
  obtain ⟨-, e2⟩ := tailL_itoa n
  rw [h2] at e2
  rw [e2] at h
  rcases h with ⟨k, b, hk, hb⟩ | h | h
  · obtain ⟨d, hd⟩ := Lib.digit_of_decFrom _ _ _ (decFrom_digits n.natAbs) k b hk
    rw [hd] at hb; cases hb
  · exact decDigits_ne _ h
  · rw [Lib.decDigits_length] at h
    have := isNumB_rng h1
    have := nDigits_le9 n.natAbs (by omega)
    omega
end Go.Proofs.YtdnpdfokdibmdaaGreatDoor
