/-
  The Hermite form with marks: what the reference does where a number is beyond the limit.
-/
import Derived.Test.YthlncohllbmapaaHerm
namespace Go.Proofs.Ythlncohllbmapaa

def badN : Int := -4611686018427387904
def fitB (n : Int) : Int := if isNumB n = true then n else badN
def addS (a b : Int) : Int := if a = badN ∨ b = badN then badN else fitB (a + b)
def mulS (a b : Int) : Int := if a = badN ∨ b = badN then badN else fitB (a * b)
def NumS (x : Int) : Prop := (-400000000 ≤ x ∧ x ≤ 400000000) ∨ x = badN
def NumBL (l : List Int) : Prop := ∀ x ∈ l, NumS x
theorem NumS.i64 {x : Int} (h : NumS x) : I64 x := by unfold NumS badN at h; unfold I64; omega
theorem NumL.bl {l : List Int} (h : NumL l) : NumBL l := fun x hx => .inl (h x hx)
theorem NumBL.getD {l : List Int} (h : NumBL l) (i : Nat) : NumS (l.getD i 0) := by
  rcases Nat.lt_or_ge i l.length with hi | hi
  · have e : l.getD i 0 = l[i] := by simp [List.getD, List.getElem?_eq_getElem hi]
    rw [e]; exact h _ (List.getElem_mem hi)
  · have e : l.getD i 0 = 0 := by simp [List.getD, List.getElem?_eq_none hi]
    rw [e]; exact .inl (by omega)
theorem fitB_s (n : Int) : NumS (fitB n) := by
  unfold fitB
  split
  · rename_i h; exact .inl (isNumB_iff.1 h)
  · exact .inr rfl
theorem fitB_ok {n : Int} (h : isNumB n = true) : fitB n = n := by unfold fitB; rw [if_pos h]
theorem fitB_bad {n : Int} (h : isNumB n = false) : fitB n = badN := by unfold fitB; rw [if_neg (by simp [h])]
theorem num_ne {x : Int} (h : -400000000 ≤ x ∧ x ≤ 400000000) : x ≠ badN := by unfold badN; omega
theorem addS_s (a b : Int) : NumS (addS a b) := by
  unfold addS
  split
  · exact .inr rfl
  · exact fitB_s _
theorem mulS_s (a b : Int) : NumS (mulS a b) := by
  unfold mulS
  split
  · exact .inr rfl
  · exact fitB_s _
theorem addS_bad (b : Int) : addS badN b = badN := by unfold addS; rw [if_pos (.inl rfl)]
def addVS (m : List Int) (C i p : Nat) (t : Int) (k : Nat) : Int := addS (cell m C i k) (mulS (cell m C p k) t)
def addRS (m : List Int) (C i p : Nat) (t : Int) : List Int := updR (addVS m C i p t) (i * C) C m
theorem addVS_ok {m : List Int} {C i p : Nat} {t : Int} {k : Nat} (h : NumL m) (ht : -400000000 ≤ t ∧ t ≤ 400000000) (h1 : isNumB (cell m C p k * t) = true) (h2 : isNumB (addV m C i p t k) = true) : addVS m C i p t k = addV m C i p t k := by
  unfold addVS
  have e : mulS (cell m C p k) t = cell m C p k * t := by
    unfold mulS
    rw [if_neg (by rintro (e | e); exact num_ne (cell_num h C p k) e; exact num_ne ht e), fitB_ok h1]
  rw [e]
  unfold addS
  rw [if_neg (by rintro (e | e); exact num_ne (cell_num h C i k) e; exact num_ne (isNumB_iff.1 h1) e)]
  exact fitB_ok h2
theorem addVS_no {m : List Int} {C i p : Nat} {t : Int} {k : Nat} (h : NumL m) (ht : -400000000 ≤ t ∧ t ≤ 400000000) (h1 : ¬ (isNumB (cell m C p k * t) = true ∧ isNumB (addV m C i p t k) = true)) : addVS m C i p t k = badN := by
  unfold addVS
  cases e1 : isNumB (cell m C p k * t) with
  | false =>
    have e : mulS (cell m C p k) t = badN := by
      unfold mulS
      split
      · rfl
      · exact fitB_bad e1
    rw [e]; unfold addS; rw [if_pos (.inr rfl)]
  | true =>
    have e : mulS (cell m C p k) t = cell m C p k * t := by
      unfold mulS
      rw [if_neg (by rintro (e | e); exact num_ne (cell_num h C p k) e; exact num_ne ht e), fitB_ok e1]
    rw [e]
    have e2 : isNumB (addV m C i p t k) = false := by
      cases e2 : isNumB (addV m C i p t k) with
      | false => rfl
      | true => exact (h1 ⟨e1, e2⟩).elim
    unfold addS
    split
    · rfl
    · exact fitB_bad e2
theorem updR_congr {f g : Nat → Int} {o : Nat} : ∀ {k : Nat} {m : List Int}, (∀ i, i < k → f i = g i) → updR f o k m = updR g o k m
  | 0, _, _ => rfl
  | k + 1, m, h => by simp only [updR]; rw [updR_congr (fun i hi => h i (by omega)), h k (by omega)]
theorem addRS_ok {m : List Int} {C i p : Nat} {t : Int} (h : NumL m) (ht : -400000000 ≤ t ∧ t ≤ 400000000) (hok : addOk m C i p t = true) : addRS m C i p t = addR m C i p t :=
  updR_congr fun k hk => addVS_ok h ht (addOk_iff.1 hok k hk).1 (addOk_iff.1 hok k hk).2
theorem row_le {m : List Int} {C R i : Nat} (hl : m.length = R * C) (hi : i < R) : i * C + C ≤ m.length := by
  have : (i + 1) * C ≤ R * C := Nat.mul_le_mul_right _ hi
  rw [Nat.add_mul] at this; omega
theorem mem_getD {l : List Int} {i : Nat} (h : i < l.length) : l.getD i 0 ∈ l := by
  have e : l.getD i 0 = l[i] := by simp [List.getD, List.getElem?_eq_getElem h]
  rw [e]; exact List.getElem_mem h
theorem addRS_no {m : List Int} {C R i p : Nat} {t : Int} (hl : m.length = R * C) (hi : i < R) (h : NumL m) (ht : -400000000 ≤ t ∧ t ≤ 400000000) (hok : addOk m C i p t = false) : badN ∈ addRS m C i p t := by
  obtain ⟨k, hk, hno⟩ : ∃ k, k < C ∧ ¬ (isNumB (cell m C p k * t) = true ∧ isNumB (addV m C i p t k) = true) := by
    rcases Classical.em (∃ k, k < C ∧ ¬ (isNumB (cell m C p k * t) = true ∧ isNumB (addV m C i p t k) = true)) with h1 | h1
    · exact h1
    · have : addOk m C i p t = true := addOk_iff.2 fun k hk => Classical.byContradiction fun h2 => h1 ⟨k, hk, h2⟩
      rw [this] at hok; cases hok
  have hle := row_le hl hi
  have e : (addRS m C i p t).getD (i * C + k) 0 = badN := by
    unfold addRS
    rw [updR_getD hle, if_pos (by omega), show i * C + k - i * C = k by omega]
    exact addVS_no h ht hno
  rw [← e]
  exact mem_getD (by unfold addRS; rw [updR_len]; omega)
theorem addRS_keep {m : List Int} {C R i p : Nat} {t : Int} (hl : m.length = R * C) (hi : i < R) (hb : badN ∈ m) : badN ∈ addRS m C i p t := by
  obtain ⟨q, hq, e⟩ := List.mem_iff_getElem.1 hb
  have hle := row_le hl hi
  have e1 : m.getD q 0 = badN := by simp [List.getD, List.getElem?_eq_getElem hq, e]
  have e2 : (addRS m C i p t).getD q 0 = badN := by
    unfold addRS
    rw [updR_getD hle]
    by_cases h1 : i * C ≤ q ∧ q < i * C + C
    · rw [if_pos h1]
      unfold addVS
      have : cell m C i (q - i * C) = badN := by
        unfold cell; rw [show i * C + (q - i * C) = q by omega, e1]
      rw [this, addS_bad]
    · rw [if_neg h1, e1]
  rw [← e2]
  exact mem_getD (by unfold addRS; rw [updR_len]; exact hq)
theorem addRS_bl {m : List Int} {C i p : Nat} {t : Int} (h : NumBL m) : NumBL (addRS m C i p t) := fun x hx => by
  rcases updR_mem hx with hx | ⟨k, _, rfl⟩
  · exact h x hx
  · exact addS_s _ _
theorem addRS_len (m : List Int) (C i p : Nat) (t : Int) : (addRS m C i p t).length = m.length := updR_len _ _ _ _
/-- A quotient of numbers is a number. -/
theorem quo_num {n d : Int} (hn : -400000000 ≤ n ∧ n ≤ 400000000) (hd : d ≠ 0) : -400000000 ≤ n / d ∧ n / d ≤ 400000000 := by
  have h1 := Int.emod_nonneg n hd
  have h2 := Int.emod_lt n hd
  rcases Int.lt_or_gt_of_ne hd with h | h
  · have e : n / d = -(n / -d) := by rw [Int.ediv_neg]; omega
    have h4 : 0 < -d := by omega
    have h5 : n / -d ≤ 400000000 := Int.ediv_le_of_le_mul h4 (by
      have : 400000000 * 1 ≤ 400000000 * -d := Int.mul_le_mul_of_nonneg_left (by omega) (by omega)
      omega)
    have h6 : -400000000 ≤ n / -d := Int.le_ediv_of_mul_le h4 (by
      have : 400000000 * 1 ≤ 400000000 * -d := Int.mul_le_mul_of_nonneg_left (by omega) (by omega)
      rw [Int.neg_mul]; omega)
    omega
  · have h5 : n / d ≤ 400000000 := Int.ediv_le_of_le_mul h (by
      have : 400000000 * 1 ≤ 400000000 * d := Int.mul_le_mul_of_nonneg_left (by omega) (by omega)
      omega)
    have h6 : -400000000 ≤ n / d := Int.le_ediv_of_mul_le h (by
      have : 400000000 * 1 ≤ 400000000 * d := Int.mul_le_mul_of_nonneg_left (by omega) (by omega)
      rw [Int.neg_mul]; omega)
    exact ⟨h6, h5⟩
/-- The state of the reference within a pass: as it should be, or marked. r: what is to come out of it. -/
structure Hm (C R : Nat) (s : HS) : Prop where
  la : s.1.length = R * C
  lu : s.2.length = R * R
  na : NumBL s.1
  nu : NumBL s.2
def add2S (C R i p : Nat) (t : Int) (s : HS) : HS := (addRS s.1 C i p t, addRS s.2 R i p t)
theorem add2S_hm {C R i p : Nat} {t : Int} {s : HS} (h : Hm C R s) : Hm C R (add2S C R i p t s) := ⟨by simp [add2S, addRS_len, h.la], by simp [add2S, addRS_len, h.lu], addRS_bl h.na, addRS_bl h.nu⟩
def Mk (s : HS) : Prop := badN ∈ s.1 ∨ badN ∈ s.2
theorem add2S_mk {C R i p : Nat} {t : Int} {s : HS} (h : Hm C R s) (hi : i < R) (hb : Mk s) : Mk (add2S C R i p t s) := by
  rcases hb with hb | hb
  · exact .inl (addRS_keep h.la hi hb)
  · exact .inr (addRS_keep h.lu hi hb)
theorem add2S_cases {C R i p : Nat} {t : Int} {s : HS} (h : Hs C R s) (hi : i < R) (ht : -400000000 ≤ t ∧ t ≤ 400000000) : (add2 C R i p t s = some (add2S C R i p t s)) ∨ (add2 C R i p t s = none ∧ Mk (add2S C R i p t s)) := by
  unfold add2 add2S
  cases h1 : addOk s.1 C i p t with
  | false => exact .inr ⟨rfl, .inl (addRS_no h.la hi h.na ht h1)⟩
  | true =>
    cases h2 : addOk s.2 R i p t with
    | false => exact .inr ⟨rfl, .inr (addRS_no h.lu hi h.nu ht h2)⟩
    | true => exact .inl (by rw [addRS_ok h.na ht h1, addRS_ok h.nu ht h2]; rfl)
theorem Hs.hm {C R : Nat} {s : HS} (h : Hs C R s) : Hm C R s := ⟨h.la, h.lu, h.na.bl, h.nu.bl⟩
theorem Hs.no {C R : Nat} {s : HS} (h : Hs C R s) : ¬ Mk s := by
  rintro (hb | hb)
  · exact num_ne (h.na _ hb) rfl
  · exact num_ne (h.nu _ hb) rfl
end Go.Proofs.Ythlncohllbmapaa
