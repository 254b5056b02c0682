/-
  The Hermite form, as plain Lean: cells row by row, the two matrices together; nothing where a number is beyond the limit.
-/
import Derived.Test.YtneeelebnnfbeaaZIsMat
set_option maxHeartbeats 8000000
set_option maxRecDepth 100000
namespace Go.Proofs.Ytneeelebnnfbeaa
def updR (f : Nat → Int) (o : Nat) : Nat → List Int → List Int
 | 0, m => m
 | k + 1, m => (updR f o k m).set (o + k) (f k)
theorem updR_len (f : Nat → Int) (o : Nat) : ∀ (k : Nat) (m : List Int), (updR f o k m).length = m.length
 | 0, _ => rfl
 | k + 1, m => by simp [updR, updR_len f o k m]
theorem getD_setL {l : List Int} {i j : Nat} {v : Int} (h : i < l.length) : (l.set i v).getD j 0 = if j = i then v else l.getD j 0 := by
 simp only [List.getD_eq_getElem?_getD, List.getElem?_set]
 by_cases e : i = j
 ·subst e; simp [h]
 ·rw [if_neg e, if_neg (fun h => e h.symm)]
theorem updR_getD {f : Nat → Int} {o : Nat} : ∀ {k : Nat} {m : List Int} (_ : o + k ≤ m.length) (j : Nat), (updR f o k m).getD j 0 = if o ≤ j ∧ j < o + k then f (j - o) else m.getD j 0
 | 0, m, _, j => by simp only [updR]; rw [if_neg (by omega)]
 | k + 1, m, h, j => by
  simp only [updR]
  rw [getD_setL (by rw [updR_len]; omega), updR_getD (by omega)]
  by_cases e : j = o + k
  ·subst e; rw [if_pos rfl, if_pos (by omega)]; congr 1; omega
  ·rw [if_neg e]
   by_cases e2 : o ≤ j ∧ j < o + k
   ·rw [if_pos e2, if_pos (by omega)]
   ·rw [if_neg e2, if_neg (by omega)]
theorem updR_mem {f : Nat → Int} {o : Nat} : ∀ {k : Nat} {m : List Int} {x : Int}, x ∈ updR f o k m → x ∈ m ∨ ∃ i, i < k ∧ x = f i
 | 0, m, x, h => .inl h
 | k + 1, m, x, h => by
  rcases List.mem_or_eq_of_mem_set h with h | h
  ·rcases updR_mem h with h | ⟨i, hi, e⟩
   ·exact .inl h
   ·exact .inr ⟨i, by omega, e⟩
  ·exact .inr ⟨k, by omega, h⟩
def cell (m : List Int) (C i j : Nat) : Int := m.getD (i * C + j) 0
theorem cell_num {m : List Int} (h : NumL m) (C i j : Nat) : -400000000 ≤ cell m C i j ∧ cell m C i j ≤ 400000000 := h.getD _
theorem place_lt {i C j : Nat} (hj : j < C) {R : Nat} (hi : i < R) : i * C + j < R * C := by
 have : (i + 1) * C ≤ R * C := Nat.mul_le_mul_right _ hi
 rw [Nat.add_mul] at this; omega
theorem place_eq {i C j i' j' : Nat} (hj : j < C) (hj' : j' < C) (h : i * C + j = i' * C + j') : i = i' ∧ j = j' := by
 rcases Nat.lt_trichotomy i i' with hl | hl | hl
 ·have := place_lt hj hl; omega
 ·subst hl; exact ⟨rfl, by omega⟩
 ·have := place_lt hj' hl; omega
theorem cell_upd {f : Nat → Int} {m : List Int} {C R i i' j : Nat} (hl : m.length = R * C) (hi : i < R) (hj : j < C) : cell (updR f (i * C) C m) C i' j = if i' = i then f j else cell m C i' j := by
 unfold cell
 have h1 : i * C + C ≤ m.length := by
  have : (i + 1) * C ≤ R * C := Nat.mul_le_mul_right _ hi
  rw [Nat.add_mul] at this; omega
 rw [updR_getD h1]
 by_cases e : i' = i
 ·subst e; rw [if_pos rfl, if_pos (by omega)]; congr 1; omega
 ·rw [if_neg e, if_neg]
  rintro ⟨h2, h3⟩
  obtain ⟨e1, _⟩ := place_eq (i := i') (i' := i) (j' := i' * C + j - i * C) hj (by omega) (by omega)
  exact e e1
def addV (m : List Int) (C i p : Nat) (t : Int) (k : Nat) : Int := cell m C i k + cell m C p k * t
def addOk (m : List Int) (C i p : Nat) (t : Int) : Bool := (List.range C).all fun k => isNumB (cell m C p k * t) && isNumB (addV m C i p t k)
def addR (m : List Int) (C i p : Nat) (t : Int) : List Int := updR (addV m C i p t) (i * C) C m
def negR (m : List Int) (C i : Nat) : List Int := updR (fun k => -cell m C i k) (i * C) C m
def swN (m : List Int) (C p t : Nat) : Nat → List Int
 | 0 => m
 | k + 1 => ((swN m C p t k).set (p * C + k) (cell m C t k)).set (t * C + k) (cell m C p k)
def swR (m : List Int) (C p t : Nat) : List Int := swN m C p t C
theorem swN_len (m : List Int) (C p t : Nat) : ∀ k, (swN m C p t k).length = m.length
 | 0 => rfl
 | k + 1 => by simp [swN, swN_len m C p t k]
theorem addOk_iff {m : List Int} {C i p : Nat} {t : Int} : addOk m C i p t = true ↔ ∀ k, k < C → isNumB (cell m C p k * t) = true ∧ isNumB (addV m C i p t k) = true := by
 unfold addOk; rw [List.all_eq_true]
 constructor
 ·intro h k hk
  have := h k (List.mem_range.2 hk)
  rwa [Bool.and_eq_true] at this
 ·intro h k hk
  have := h k (List.mem_range.1 hk)
  rwa [Bool.and_eq_true]
theorem addR_num {m : List Int} {C i p : Nat} {t : Int} (h : NumL m) (hok : addOk m C i p t = true) : NumL (addR m C i p t) := fun x hx => by
 rcases updR_mem hx with hx | ⟨k, hk, rfl⟩
 ·exact h x hx
 ·exact isNumB_iff.1 (addOk_iff.1 hok k hk).2
theorem swN_num {m : List Int} {C p t : Nat} (h : NumL m) : ∀ k, NumL (swN m C p t k)
 | 0 => h
 | k + 1 => fun x hx => by
  rcases List.mem_or_eq_of_mem_set hx with hx | rfl
  ·rcases List.mem_or_eq_of_mem_set hx with hx | rfl
   ·exact swN_num h k x hx
   ·exact cell_num h C t k
  ·exact cell_num h C p k
theorem cell_addR {m : List Int} {C R i i' p j : Nat} {t : Int} (hl : m.length = R * C) (hi : i < R) (hj : j < C) : cell (addR m C i p t) C i' j = if i' = i then cell m C i j + cell m C p j * t else cell m C i' j := cell_upd hl hi hj
theorem swN_getD {m : List Int} {C R p t : Nat} (hl : m.length = R * C) (hp : p < R) (ht : t < R) (hne : p ≠ t) : ∀ k, k ≤ C → ∀ i j, j < C → (swN m C p t k).getD (i * C + j) 0 = if i = p ∧ j < k then cell m C t j else if i = t ∧ j < k then cell m C p j else cell m C i j
 | 0, _, i, j, _ => by simp [swN, cell]
 | k + 1, hk, i, j, hj => by
  have hlen : (swN m C p t k).length = R * C := by rw [swN_len, hl]
  have h1 : p * C + k < R * C := place_lt (by omega) hp
  have h2 : t * C + k < R * C := place_lt (by omega) ht
  simp only [swN]
  rw [getD_setL (by rw [List.length_set]; omega), getD_setL (by omega), swN_getD hl hp ht hne k (by omega) i j hj]
  by_cases e1 : i * C + j = t * C + k
  ·obtain ⟨rfl, rfl⟩ := place_eq hj (by omega) e1
   rw [if_pos rfl, if_neg (by omega), if_pos (by omega)]
  ·rw [if_neg e1]
   by_cases e2 : i * C + j = p * C + k
   ·obtain ⟨rfl, rfl⟩ := place_eq hj (by omega) e2
    rw [if_pos rfl, if_pos (by omega)]
   ·rw [if_neg e2]
    by_cases e3 : i = p
    ·subst e3
     have hk2 : j < k + 1 ↔ j < k := by
      have : j ≠ k := fun e => e2 (by rw [e])
      omega
     simp only [hk2]
    ·simp only [e3, false_and, if_false]
     by_cases e5 : i = t
     ·subst e5
      have hk2 : j < k + 1 ↔ j < k := by
       have : j ≠ k := fun e => e1 (by rw [e])
       omega
      simp only [hk2]
     ·simp only [e5, false_and, if_false]
theorem cell_swR {m : List Int} {C R p t i j : Nat} (hl : m.length = R * C) (hp : p < R) (ht : t < R) (hne : p ≠ t) (hj : j < C) : cell (swR m C p t) C i j = if i = p then cell m C t j else if i = t then cell m C p j else cell m C i j := by
 have := swN_getD hl hp ht hne C (Nat.le_refl _) i j hj
 unfold cell swR at *
 rw [this]
 by_cases e : i = p
 ·rw [if_pos ⟨e, hj⟩, if_pos e]
 ·rw [if_neg (by omega), if_neg e]
  by_cases e2 : i = t
  ·rw [if_pos ⟨e2, hj⟩, if_pos e2]
  ·rw [if_neg (by omega), if_neg e2]
abbrev HS := List Int × List Int
def add2 (C R i p : Nat) (t : Int) (s : HS) : Option HS := if addOk s.1 C i p t && addOk s.2 R i p t then some (addR s.1 C i p t, addR s.2 R i p t) else none
def sw2 (C R p t : Nat) (s : HS) : HS := (swR s.1 C p t, swR s.2 R p t)
def neg2 (C R t : Nat) (s : HS) : HS := (negR s.1 C t, negR s.2 R t)
structure Hs (C R : Nat) (s : HS) : Prop where
 la : s.1.length = R * C
 lu : s.2.length = R * R
 na : NumL s.1
 nu : NumL s.2
theorem add2_hs {C R i p : Nat} {t : Int} {s s' : HS} (h : Hs C R s) (he : add2 C R i p t s = some s') : Hs C R s' ∧ s' = (addR s.1 C i p t, addR s.2 R i p t) := by
 unfold add2 at he
 split at he
 ·rename_i hok
  rw [Bool.and_eq_true] at hok
  obtain rfl := Option.some.inj he
  exact ⟨⟨by simp [addR, updR_len, h.la], by simp [addR, updR_len, h.lu], addR_num h.na hok.1, addR_num h.nu hok.2⟩, rfl⟩
 ·cases he
def leastN (m : List Int) (C j t : Nat) : Nat → Int
 | 0 => -1
 | n + 1 => if cell m C (t + n) j ≠ 0 ∧ (leastN m C j t n < 0 ∨ (cell m C (t + n) j).natAbs < (cell m C (leastN m C j t n).toNat j).natAbs) then ((t + n : Nat) : Int) else leastN m C j t n
def aloneB (m : List Int) (C R j p t : Nat) : Bool := (List.range (R - t)).all fun d => decide (t + d = p) || decide (cell m C (t + d) j = 0)
structure Piv (m : List Int) (C R j p t : Nat) : Prop where
 lo : t ≤ p
 hi : p < R
 ne : cell m C p j ≠ 0
 least : ∀ i, t ≤ i → i < R → cell m C i j ≠ 0 → (cell m C p j).natAbs ≤ (cell m C i j).natAbs
def pass (C R j p : Nat) : Nat → Nat → HS → Option HS
 | 0, _, s => some s
 | n + 1, i, s => if i ≠ p ∧ cell s.1 C i j ≠ 0 then (add2 C R i p (-(cell s.1 C i j / cell s.1 C p j)) s).bind (pass C R j p n (i + 1)) else pass C R j p n (i + 1) s
def mu (m : List Int) (C R j p t : Nat) : Nat := (cell m C p j).natAbs + (if aloneB m C R j p t then 0 else 1)
def gcdL (C R j t : Nat) : Nat → HS → Nat → Option (HS × Nat)
 | 0, _, _ => none
 | n + 1, s, p => if aloneB s.1 C R j p t then some (s, p) else (pass C R j p (R - t) t s).bind fun s' => gcdL C R j t n s' (leastN s'.1 C j t (R - t)).toNat
def gcdA (C R j t : Nat) (s : HS) (p : Nat) : Option (HS × Nat) := gcdL C R j t (mu s.1 C R j p t + 1) s p
def red (C R j t : Nat) : Nat → Nat → HS → Option HS
 | 0, _, s => some s
 | n + 1, i, s => (add2 C R i t (-(cell s.1 C i j / cell s.1 C t j)) s).bind (red C R j t n (i + 1))
def top2 (C R p t : Nat) (s : HS) : HS := if p = t then s else sw2 C R p t s
def pos2 (C R j t : Nat) (s : HS) : HS := if cell s.1 C t j < 0 then neg2 C R t s else s
def colE (C R j t p : Nat) (s : HS) : Option HS := red C R j t t 0 (pos2 C R j t (top2 C R p t s))
def hLoop (C R : Nat) : Nat → Nat → Nat → HS → Option HS
 | 0, _, _, s => some s
 | n + 1, j, t, s => if t < R then
   (if leastN s.1 C j t (R - t) < 0 then hLoop C R n (j + 1) t s
    else (gcdA C R j t s (leastN s.1 C j t (R - t)).toNat).bind fun r => (colE C R j t r.2 r.1).bind (hLoop C R n (j + 1) (t + 1)))
  else some s
def idL (n : Nat) : List Int := (List.range n).foldl (fun l i => l.set (i * n + i) 1) (List.replicate (n * n) 0)
def herm (m : List Int) (R C : Nat) : Option HS := hLoop C R C 0 0 (m, idL R)
end Go.Proofs.Ytneeelebnnfbeaa

namespace Go.Proofs.Ytneeelebnnfbeaa
def badN : Int := -4611686018427387904
def fitB (n : Int) : Int := if isNumB n = true then n else badN
def addS (a b : Int) : Int := if a = badN ∨ b = badN then badN else fitB (a + b)
def mulS (a b : Int) : Int := if a = badN ∨ b = badN then badN else fitB (a * b)
def NumS (x : Int) : Prop := (-400000000 ≤ x ∧ x ≤ 400000000) ∨ x = badN
def NumBL (l : List Int) : Prop := ∀ x ∈ l, NumS x
theorem NumS.i64 {x : Int} (h : NumS x) : I64 x := by unfold NumS badN at h; unfold I64; omega
theorem NumL.bl {l : List Int} (h : NumL l) : NumBL l := fun x hx => .inl (h x hx)
theorem NumBL.getD {l : List Int} (h : NumBL l) (i : Nat) : NumS (l.getD i 0) := by
 rcases Nat.lt_or_ge i l.length with hi | hi
 ·have e : l.getD i 0 = l[i] := by simp [List.getD, List.getElem?_eq_getElem hi]
  rw [e]; exact h _ (List.getElem_mem hi)
 ·have e : l.getD i 0 = 0 := by simp [List.getD, List.getElem?_eq_none hi]
  rw [e]; exact .inl (by omega)
theorem fitB_ok {n : Int} (h : isNumB n = true) : fitB n = n := by unfold fitB; rw [if_pos h]
theorem fitB_bad {n : Int} (h : isNumB n = false) : fitB n = badN := by unfold fitB; rw [if_neg (by simp [h])]
theorem num_ne {x : Int} (h : -400000000 ≤ x ∧ x ≤ 400000000) : x ≠ badN := by unfold badN; omega
theorem addS_bad (b : Int) : addS badN b = badN := by unfold addS; rw [if_pos (.inl rfl)]
def addVS (m : List Int) (C i p : Nat) (t : Int) (k : Nat) : Int := addS (cell m C i k) (mulS (cell m C p k) t)
def addRS (m : List Int) (C i p : Nat) (t : Int) : List Int := updR (addVS m C i p t) (i * C) C m
theorem addVS_ok {m : List Int} {C i p : Nat} {t : Int} {k : Nat} (h : NumL m) (ht : -400000000 ≤ t ∧ t ≤ 400000000) (h1 : isNumB (cell m C p k * t) = true) (h2 : isNumB (addV m C i p t k) = true) : addVS m C i p t k = addV m C i p t k := by
 unfold addVS
 have e : mulS (cell m C p k) t = cell m C p k * t := by
  unfold mulS
  rw [if_neg (by rintro (e | e); exact num_ne (cell_num h C p k) e; exact num_ne ht e), fitB_ok h1]
 rw [e]
 unfold addS
 rw [if_neg (by rintro (e | e); exact num_ne (cell_num h C i k) e; exact num_ne (isNumB_iff.1 h1) e)]
 exact fitB_ok h2
theorem addVS_no {m : List Int} {C i p : Nat} {t : Int} {k : Nat} (h : NumL m) (ht : -400000000 ≤ t ∧ t ≤ 400000000) (h1 : ¬ (isNumB (cell m C p k * t) = true ∧ isNumB (addV m C i p t k) = true)) : addVS m C i p t k = badN := by
 unfold addVS
 cases e1 : isNumB (cell m C p k * t) with
 | false =>
  have e : mulS (cell m C p k) t = badN := by
   unfold mulS
   split
   ·rfl
   ·exact fitB_bad e1
  rw [e]; unfold addS; rw [if_pos (.inr rfl)]
 | true =>
  have e : mulS (cell m C p k) t = cell m C p k * t := by
   unfold mulS
   rw [if_neg (by rintro (e | e); exact num_ne (cell_num h C p k) e; exact num_ne ht e), fitB_ok e1]
  rw [e]
  have e2 : isNumB (addV m C i p t k) = false := by
   cases e2 : isNumB (addV m C i p t k) with
   | false => rfl
   | true => exact (h1 ⟨e1, e2⟩).elim
  unfold addS
  split
  ·rfl
  ·exact fitB_bad e2
theorem updR_congr {f g : Nat → Int} {o : Nat} : ∀ {k : Nat} {m : List Int}, (∀ i, i < k → f i = g i) → updR f o k m = updR g o k m
 | 0, _, _ => rfl
 | k + 1, m, h => by simp only [updR]; rw [updR_congr (fun i hi => h i (by omega)), h k (by omega)]
theorem addRS_ok {m : List Int} {C i p : Nat} {t : Int} (h : NumL m) (ht : -400000000 ≤ t ∧ t ≤ 400000000) (hok : addOk m C i p t = true) : addRS m C i p t = addR m C i p t :=
 updR_congr fun k hk => addVS_ok h ht (addOk_iff.1 hok k hk).1 (addOk_iff.1 hok k hk).2
theorem row_le {m : List Int} {C R i : Nat} (hl : m.length = R * C) (hi : i < R) : i * C + C ≤ m.length := by
 have : (i + 1) * C ≤ R * C := Nat.mul_le_mul_right _ hi
 rw [Nat.add_mul] at this; omega
theorem mem_getD {l : List Int} {i : Nat} (h : i < l.length) : l.getD i 0 ∈ l := by
 have e : l.getD i 0 = l[i] := by simp [List.getD, List.getElem?_eq_getElem h]
 rw [e]; exact List.getElem_mem h
theorem addRS_no {m : List Int} {C R i p : Nat} {t : Int} (hl : m.length = R * C) (hi : i < R) (h : NumL m) (ht : -400000000 ≤ t ∧ t ≤ 400000000) (hok : addOk m C i p t = false) : badN ∈ addRS m C i p t := by
 obtain ⟨k, hk, hno⟩ : ∃ k, k < C ∧ ¬ (isNumB (cell m C p k * t) = true ∧ isNumB (addV m C i p t k) = true) := by
  rcases Classical.em (∃ k, k < C ∧ ¬ (isNumB (cell m C p k * t) = true ∧ isNumB (addV m C i p t k) = true)) with h1 | h1
  ·exact h1
  ·have : addOk m C i p t = true := addOk_iff.2 fun k hk => Classical.byContradiction fun h2 => h1 ⟨k, hk, h2⟩
   rw [this] at hok; cases hok
 have hle := row_le hl hi
 have e : (addRS m C i p t).getD (i * C + k) 0 = badN := by
  unfold addRS
  rw [updR_getD hle, if_pos (by omega), show i * C + k - i * C = k by omega]
  exact addVS_no h ht hno
 rw [← e]
 exact mem_getD (by unfold addRS; rw [updR_len]; omega)
theorem addRS_keep {m : List Int} {C R i p : Nat} {t : Int} (hl : m.length = R * C) (hi : i < R) (hb : badN ∈ m) : badN ∈ addRS m C i p t := by
 obtain ⟨q, hq, e⟩ := List.mem_iff_getElem.1 hb
 have hle := row_le hl hi
 have e1 : m.getD q 0 = badN := by simp [List.getD, List.getElem?_eq_getElem hq, e]
 have e2 : (addRS m C i p t).getD q 0 = badN := by
  unfold addRS
  rw [updR_getD hle]
  by_cases h1 : i * C ≤ q ∧ q < i * C + C
  ·rw [if_pos h1]
   unfold addVS
   have : cell m C i (q - i * C) = badN := by
    unfold cell; rw [show i * C + (q - i * C) = q by omega, e1]
   rw [this, addS_bad]
  ·rw [if_neg h1, e1]
 rw [← e2]
 exact mem_getD (by unfold addRS; rw [updR_len]; exact hq)
structure Hm (C R : Nat) (s : HS) : Prop where
 la : s.1.length = R * C
 lu : s.2.length = R * R
 na : NumBL s.1
 nu : NumBL s.2
def add2S (C R i p : Nat) (t : Int) (s : HS) : HS := (addRS s.1 C i p t, addRS s.2 R i p t)
def Mk (s : HS) : Prop := badN ∈ s.1 ∨ badN ∈ s.2
theorem add2S_mk {C R i p : Nat} {t : Int} {s : HS} (h : Hm C R s) (hi : i < R) (hb : Mk s) : Mk (add2S C R i p t s) := by
 rcases hb with hb | hb
 ·exact .inl (addRS_keep h.la hi hb)
 ·exact .inr (addRS_keep h.lu hi hb)
theorem add2S_cases {C R i p : Nat} {t : Int} {s : HS} (h : Hs C R s) (hi : i < R) (ht : -400000000 ≤ t ∧ t ≤ 400000000) : (add2 C R i p t s = some (add2S C R i p t s)) ∨ (add2 C R i p t s = none ∧ Mk (add2S C R i p t s)) := by
 unfold add2 add2S
 cases h1 : addOk s.1 C i p t with
 | false => exact .inr ⟨rfl, .inl (addRS_no h.la hi h.na ht h1)⟩
 | true =>
  cases h2 : addOk s.2 R i p t with
  | false => exact .inr ⟨rfl, .inr (addRS_no h.lu hi h.nu ht h2)⟩
  | true => exact .inl (by rw [addRS_ok h.na ht h1, addRS_ok h.nu ht h2]; rfl)
theorem Hs.hm {C R : Nat} {s : HS} (h : Hs C R s) : Hm C R s := ⟨h.la, h.lu, h.na.bl, h.nu.bl⟩
end Go.Proofs.Ytneeelebnnfbeaa

namespace Go.Proofs.Ytneeelebnnfbeaa
structure Ech (C R : Nat) (m : List Int) (j t : Nat) : Prop where
 full : ∀ i, i < t → ∃ k, k < j ∧ cell m C i k ≠ 0
 zero : ∀ i, t ≤ i → i < R → ∀ k, k < j → cell m C i k = 0
end Go.Proofs.Ytneeelebnnfbeaa

namespace Go.Proofs.Ytneeelebnnfbeaa
def nzB (m : List Int) (C i : Nat) : Bool := (List.range C).any fun k => cell m C i k != 0
def lastN (m : List Int) (C : Nat) : Nat → Nat
 | 0 => 0
 | i + 1 => if nzB m C i = true then i + 1 else lastN m C i
def rowL (m : List Int) (C i : Nat) : List Int := (m.drop (i * C)).take C
end Go.Proofs.Ytneeelebnnfbeaa
