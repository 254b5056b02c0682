/-
  Fractions in lowest terms, and the account of a form: plain. (0, 0) stands for none.
-/
import Derived.Test.YtgeoehnbpkediaaZDet
set_option maxHeartbeats 8000000
set_option maxRecDepth 100000
namespace Go.Proofs.Ytgeoehnbpkediaa
abbrev Rt := Int × Int
def isR (r : Rt) : Bool := decide (1 ≤ r.2 ∧ r.2 ≤ 400000000) && (isNumB r.1 && decide (Int.gcd r.1 r.2 = 1))
def rt0 : Rt := (0, 0)
def sgD (n d : Int) : Int := if d < 0 then -((Int.gcd n d : Nat) : Int) else ((Int.gcd n d : Nat) : Int)
def lowR (n d : Int) : Rt := if isR (n.tdiv (sgD n d), d.tdiv (sgD n d)) = true then (n.tdiv (sgD n d), d.tdiv (sgD n d)) else rt0
def addRt (a b : Rt) : Rt := if isR a && isR b then lowR (a.1 * b.2 + b.1 * a.2) (a.2 * b.2) else rt0
def negRt (a : Rt) : Rt := if isR a then (-a.1, a.2) else rt0
def mulRt (a b : Rt) : Rt := if isR a && isR b then lowR (a.1 * b.1) (a.2 * b.2) else rt0
def divRt (a b : Rt) : Rt := if isR a && (isR b && !decide (b.1 = 0)) then lowR (a.1 * b.2) (a.2 * b.1) else rt0
def cmpRt (a b : Rt) : Int := if isR a && isR b then (if a.1 * b.2 < b.1 * a.2 then -1 else if b.1 * a.2 < a.1 * b.2 then 1 else 0) else 2
def rndRt (a : Rt) : Int := if isR a then (2 * a.1 + a.2) / (2 * a.2) else 0
theorem isR_iff {r : Rt} : isR r = true ↔ (1 ≤ r.2 ∧ r.2 ≤ 400000000) ∧ (-400000000 ≤ r.1 ∧ r.1 ≤ 400000000) ∧ Int.gcd r.1 r.2 = 1 := by
 unfold isR
 rw [Bool.and_eq_true, Bool.and_eq_true, decide_eq_true_eq, decide_eq_true_eq, isNumB_iff]
def RtN (r : Rt) : Prop := (-400000000 ≤ r.1 ∧ r.1 ≤ 400000000) ∧ (0 ≤ r.2 ∧ r.2 ≤ 400000000)
theorem RtN.of {r : Rt} (h : isR r = true) : RtN r := by
 obtain ⟨h1, h2, -⟩ := isR_iff.1 h
 exact ⟨h2, by omega, h1.2⟩
theorem RtN.zero : RtN rt0 := by unfold RtN rt0; simp
theorem rnd_num (a : Rt) : -400000000 ≤ rndRt a ∧ rndRt a ≤ 400000000 := by
 unfold rndRt
 split
 ·rename_i h
  obtain ⟨h1, h2, -⟩ := isR_iff.1 h
  constructor
  ·refine Int.le_ediv_of_mul_le (by omega) ?_
   have : -400000000 * (2 * a.2) ≤ -400000000 * 2 := by omega
   omega
  ·refine Int.lt_add_one_iff.1 (Int.ediv_lt_of_lt_mul (by omega) ?_)
   omega
 ·omega
def rAt (l : List Rt) (k : Nat) : Rt := l.getD k rt0
def accK (mu : List (List Rt)) (s row : List Rt) (i j : Nat) : Nat → Rt → Rt
 | 0, r => r
 | k + 1, r => addRt (accK mu s row i j k r) (negRt (mulRt (mulRt (rAt row k) (if j = i then rAt row k else rAt (mu.getD j []) k)) (rAt s k)))
def accJ (g : List Int) (n : Nat) (mu : List (List Rt)) (s : List Rt) (i : Nat) : Nat → Option (List Rt)
 | 0 => some []
 | j + 1 => (accJ g n mu s i j).bind fun row => if isR (accK mu s row i j j (cell g n i j, 1)) then some (row ++ [divRt (accK mu s row i j j (cell g n i j, 1)) (rAt s j)]) else none
def accI (g : List Int) (n : Nat) : Nat → Option (List (List Rt) × List Rt)
 | 0 => some ([], [])
 | i + 1 => (accI g n i).bind fun o => (accJ g n o.1 o.2 i i).bind fun row =>
   if isR (accK o.1 o.2 row i i i (cell g n i i, 1)) && decide (0 < (accK o.1 o.2 row i i i (cell g n i i, 1)).1) then some (o.1 ++ [row], o.2 ++ [accK o.1 o.2 row i i i (cell g n i i, 1)]) else none
theorem accJ_len {g : List Int} {n i : Nat} {mu : List (List Rt)} {s : List Rt} : ∀ {j : Nat} {row : List Rt}, accJ g n mu s i j = some row → row.length = j
 | 0, row, h => by rw [← Option.some.inj (show some [] = some row from h)]; rfl
 | j + 1, row, h => by
  simp only [accJ] at h
  cases h1 : accJ g n mu s i j with
  | none => rw [h1] at h; cases h
  | some r0 =>
   rw [h1, Option.bind_some] at h
   split at h
   ·rw [← Option.some.inj h]; simp [accJ_len h1]
   ·cases h
theorem accI_len {g : List Int} {n : Nat} : ∀ {i : Nat} {o : List (List Rt) × List Rt}, accI g n i = some o → o.1.length = i ∧ o.2.length = i ∧ ∀ (k : Nat) (row : List Rt), o.1[k]? = some row → row.length = k
 | 0, o, h => by rw [← Option.some.inj (show some ([], []) = some o from h)]; exact ⟨rfl, rfl, fun k row hk => by simp at hk⟩
 | i + 1, o, h => by
  simp only [accI] at h
  cases h1 : accI g n i with
  | none => rw [h1] at h; cases h
  | some o0 =>
   rw [h1, Option.bind_some] at h
   cases h2 : accJ g n o0.1 o0.2 i i with
   | none => rw [h2] at h; cases h
   | some row =>
    rw [h2, Option.bind_some] at h
    split at h
    ·obtain ⟨a1, a2, a3⟩ := accI_len h1
     rw [← Option.some.inj h]
     refine ⟨by simp [a1], by simp [a2], fun k r hk => ?_⟩
     by_cases e : k < i
     ·rw [List.getElem?_append_left (by omega)] at hk; exact a3 k r hk
     ·rw [List.getElem?_append_right (by omega)] at hk
      have e2 : k = i := by
       rcases Nat.eq_zero_or_pos (k - i) with h0 | h0
       ·omega
       ·rw [List.getElem?_eq_none (by simp; omega)] at hk; cases hk
      subst e2
      simp [a1] at hk
      rw [← hk]; exact accJ_len h2
    ·cases h
end Go.Proofs.Ytgeoehnbpkediaa
