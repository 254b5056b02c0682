/-
  ComplexOf: plain part: all parts of simplices.
-/
import Derived.Test.YteijmppjdljedaaZLink
namespace Go.Proofs.Yteijmppjdljedaa
open Go.RowKit

/-- The elements of s at the ones of b. -/
def sel : List Int → Nat → List Int
  | [], _ => []
  | v :: s, b => if b % 2 = 1 then v :: sel s (b / 2) else sel s (b / 2)
theorem sel_sub : ∀ (s : List Int) (b : Nat), (sel s b).Sublist s
  | [], _ => List.Sublist.slnil
  | v :: s, b => by
    simp only [sel]
    split
    · exact (sel_sub s _).cons_cons _
    · exact (sel_sub s _).cons _
theorem sel_ne : ∀ {s : List Int} {b : Nat}, 1 ≤ b → b < 2 ^ s.length → sel s b ≠ []
  | [], b, h1, h2 => by simp at h2; omega
  | v :: s, b, h1, h2 => by
    simp only [sel]
    split
    · simp
    · rw [List.length_cons, Nat.pow_succ] at h2
      exact sel_ne (by omega) (by omega)
theorem sel_all : ∀ {s x : List Int}, x.Sublist s → ∃ b, b < 2 ^ s.length ∧ sel s b = x
  | [], x, h => ⟨0, by simp, by rw [List.sublist_nil.1 h]; rfl⟩
  | v :: s, x, h => by
    cases h with
    | cons _ h =>
      obtain ⟨b, hb, rfl⟩ := sel_all h
      refine ⟨2 * b, by rw [List.length_cons, Nat.pow_succ]; omega, ?_⟩
      simp only [sel]
      rw [if_neg (by omega), show 2 * b / 2 = b from by omega]
    | cons_cons _ h =>
      obtain ⟨b, hb, rfl⟩ := sel_all h
      refine ⟨2 * b + 1, by rw [List.length_cons, Nat.pow_succ]; omega, ?_⟩
      simp only [sel]
      rw [if_pos (by omega), show (2 * b + 1) / 2 = b from by omega]
theorem sel_zero : ∀ s : List Int, sel s 0 = []
  | [] => rfl
  | v :: s => by simp only [sel]; rw [if_neg (by omega)]; exact sel_zero s
/-- The parts of s from 1 to below k. -/
def partsTo (s : List Int) (k : Nat) : List (List Int) := (List.range k).flatMap fun b => if b = 0 then [] else [sel s b]
theorem partsTo_succ {s : List Int} {k : Nat} (h : 1 ≤ k) : partsTo s (k + 1) = partsTo s k ++ [sel s k] := by
  unfold partsTo
  rw [List.range_succ, List.flatMap_append]
  simp only [List.flatMap_cons, List.flatMap_nil, List.append_nil]
  rw [if_neg (by omega)]
theorem partsTo_one (s : List Int) : partsTo s 1 = [] := by simp [partsTo]
def partsAll (l : List (List Int)) : List (List Int) := l.flatMap fun s => partsTo s (2 ^ s.length)
theorem partsAll_succ {l : List (List Int)} {i : Nat} {s : List Int} (h : l[i]? = some s) : partsAll (l.take (i + 1)) = partsAll (l.take i) ++ partsTo s (2 ^ s.length) := by
  unfold partsAll; rw [take_succ h, List.flatMap_append]; simp
/-- A part that is not empty of one of the list. -/
def PartOf (l : List (List Int)) (x : List Int) : Prop := x ≠ [] ∧ ∃ s ∈ l, x.Sublist s
theorem mem_partsTo {s x : List Int} {k : Nat} : x ∈ partsTo s k ↔ ∃ b, 1 ≤ b ∧ b < k ∧ x = sel s b := by
  unfold partsTo
  rw [List.mem_flatMap]
  constructor
  · rintro ⟨b, hb, hx⟩
    split at hx
    · cases hx
    · rw [List.mem_singleton] at hx
      exact ⟨b, by omega, by simpa using hb, hx⟩
  · rintro ⟨b, h1, h2, rfl⟩
    exact ⟨b, by simpa using h2, by rw [if_neg (by omega)]; simp⟩
theorem mem_partsAll {l : List (List Int)} {x : List Int} : x ∈ partsAll l ↔ PartOf l x := by
  unfold partsAll PartOf
  rw [List.mem_flatMap]
  constructor
  · rintro ⟨s, hs, hx⟩
    obtain ⟨b, h1, h2, rfl⟩ := mem_partsTo.1 hx
    exact ⟨sel_ne h1 h2, s, hs, sel_sub s b⟩
  · rintro ⟨hne, s, hs, hx⟩
    obtain ⟨b, hb, rfl⟩ := sel_all hx
    refine ⟨s, hs, mem_partsTo.2 ⟨b, ?_, hb, rfl⟩⟩
    rcases Nat.eq_zero_or_pos b with h0 | h0
    · subst h0; exact (hne (sel_zero s)).elim
    · exact h0
theorem ordOf_congr {A B : List (List Int)} (h : ∀ x, x ∈ A ↔ x ∈ B) : ordOf A = ordOf B := ord_ext (ordOf_ord A) (ordOf_ord B) fun x => by rw [mem_ordOf, mem_ordOf, h]

theorem del_sublist (s : List Int) (k : Nat) : (del s k).Sublist s := by
  unfold del
  conv => rhs; rw [← List.take_append_drop k s]
  exact (List.Sublist.refl _).append (List.drop_sublist_drop_left s (Nat.le_succ k))
theorem sublist_del : ∀ {s x : List Int}, x.Sublist s → x ≠ s → ∃ k, k < s.length ∧ x.Sublist (del s k)
  | [], x, h, hne => (hne (List.sublist_nil.1 h)).elim
  | v :: s, x, h, hne => by
    cases h with
    | cons _ h => exact ⟨0, by simp, by simpa [del] using h⟩
    | cons_cons _ h =>
      rename_i x'
      obtain ⟨k, hk, hx⟩ := sublist_del h (fun e => hne (by rw [e]))
      refine ⟨k + 1, by simp; omega, ?_⟩
      have : del (v :: s) (k + 1) = v :: del s k := by simp [del]
      rw [this]; exact hx.cons_cons v
/-- A list that holds l and, of each of its own, all faces, holds all parts. -/
theorem closed_parts {l T : List (List Int)} (hl : ∀ s ∈ l, s ∈ T) (hc : ∀ y ∈ T, 1 < y.length → ∀ k, k < y.length → del y k ∈ T) : ∀ x, PartOf l x → x ∈ T := by
  have key : ∀ (n : Nat) (y x : List Int), y.length = n → y ∈ T → x.Sublist y → x ≠ [] → x ∈ T := by
    intro n
    induction n with
    | zero => intro y x hy _ hx hne; rw [List.eq_nil_of_length_eq_zero hy] at hx; exact (hne (List.sublist_nil.1 hx)).elim
    | succ n ih =>
      intro y x hy hyT hx hne
      by_cases e : x = y
      · rw [e]; exact hyT
      · obtain ⟨k, hk, hxk⟩ := sublist_del hx e
        have hd := del_len hk
        have hpos : 0 < x.length := List.length_pos_iff.2 hne
        have hle := hxk.length_le
        exact ih (del y k) x (by omega) (hc y hyT (by omega) k hk) hxk hne
  rintro x ⟨hne, s, hs, hx⟩
  exact key _ s x rfl (hl s hs) hx hne
/-- How many a simplex of a length brings. -/
def wtL : Nat → Nat
  | 0 => 1
  | 1 => 1
  | n + 2 => 1 + (n + 2) * wtL (n + 1)
theorem wtL_pos : ∀ n, 1 ≤ wtL n
  | 0 => Nat.le_refl _
  | 1 => Nat.le_refl _
  | n + 2 => by simp only [wtL]; omega
def pot (T : List (List Int)) : Nat := (T.map fun x => wtL x.length).sum
@[simp] theorem pot_nil : pot [] = 0 := rfl
@[simp] theorem pot_cons (x : List Int) (T : List (List Int)) : pot (x :: T) = wtL x.length + pot T := by simp [pot]
theorem pot_append (A B : List (List Int)) : pot (A ++ B) = pot A + pot B := by simp [pot]
theorem pot_len : ∀ T : List (List Int), T.length ≤ pot T
  | [] => Nat.le_refl _
  | x :: T => by have := pot_len T; have := wtL_pos x.length; simp; omega
theorem pot_le {T : List (List Int)} (h : ∀ x ∈ T, x.length ≤ 4) : pot T ≤ 41 * T.length := by
  induction T with
  | nil => simp
  | cons x T ih =>
    have := ih fun y hy => h y (by simp [hy])
    have hx := h x (by simp)
    have h41 : wtL x.length ≤ 41 := by
      have : x.length = 0 ∨ x.length = 1 ∨ x.length = 2 ∨ x.length = 3 ∨ x.length = 4 := by omega
      rcases this with e | e | e | e | e <;> rw [e] <;> decide
    simp; omega
/-- The faces of y up to k. -/
def facesTo (y : List Int) (k : Nat) : List (List Int) := (List.range k).map (del y)
theorem facesTo_succ (y : List Int) (k : Nat) : facesTo y (k + 1) = facesTo y k ++ [del y k] := by unfold facesTo; rw [List.range_succ, List.map_append]; rfl
theorem facesTo_zero (y : List Int) : facesTo y 0 = [] := rfl
theorem mem_facesTo {y x : List Int} {k : Nat} : x ∈ facesTo y k ↔ ∃ j, j < k ∧ x = del y j := by
  unfold facesTo
  rw [List.mem_map]
  exact ⟨fun ⟨j, hj, e⟩ => ⟨j, by simpa using hj, e.symm⟩, fun ⟨j, hj, e⟩ => ⟨j, by simpa using hj, e.symm⟩⟩
theorem pot_faces {y : List Int} : ∀ {k : Nat}, k ≤ y.length → pot (facesTo y k) = k * wtL (y.length - 1)
  | 0, _ => by simp [facesTo]
  | k + 1, h => by
    rw [facesTo_succ, pot_append, pot_faces (by omega), pot_cons, pot_nil, del_len (by omega), Nat.add_mul]; omega
theorem wt_step {y : List Int} (h : 1 < y.length) : wtL y.length = 1 + pot (facesTo y y.length) := by
  rw [pot_faces (Nat.le_refl _)]
  obtain ⟨n, hn⟩ : ∃ n, y.length = n + 2 := ⟨y.length - 2, by omega⟩
  rw [hn]; rfl

/-- The work list of the reference: the first i are done. -/
structure Work (l T : List (List Int)) (i : Nat) : Prop where
  part : ∀ x ∈ T, PartOf l x
  has : ∀ s ∈ l, s ∈ T
  done : ∀ j y, j < i → T[j]? = some y → 1 < y.length → ∀ k, k < y.length → del y k ∈ T
  pot : i + pot (T.drop i) ≤ 41 * l.length
theorem Work.start {l : List (List Int)} (h : ∀ s ∈ l, 1 ≤ s.length ∧ s.length ≤ 4) : Work l l 0 :=
  ⟨fun x hx => ⟨fun e => by have := h x hx; rw [e] at this; simp at this, x, hx, List.Sublist.refl _⟩, fun _ h => h, fun j y hj => by omega, by
    rw [List.drop_zero, Nat.zero_add]; exact pot_le fun x hx => (h x hx).2⟩
theorem Work.step {l T : List (List Int)} {i : Nat} {y : List Int} (h : Work l T i) (hy : T[i]? = some y) : Work l (T ++ if 1 < y.length then facesTo y y.length else []) (i + 1) := by
  obtain ⟨hi, hyi⟩ := List.getElem?_eq_some_iff.1 hy
  have hdr : T.drop i = y :: T.drop (i + 1) := by rw [List.drop_eq_getElem_cons hi, hyi]
  have hp := h.pot
  rw [hdr, pot_cons] at hp
  obtain ⟨hyn, s, hs, hys⟩ := h.part y (List.mem_of_getElem? hy)
  refine ⟨fun x hx => ?_, fun s hs => List.mem_append_left _ (h.has s hs), fun j z hj hz hlen k hk => ?_, ?_⟩
  · rcases List.mem_append.1 hx with hx | hx
    · exact h.part x hx
    · split at hx
      · rename_i h1
        obtain ⟨j, hj, rfl⟩ := mem_facesTo.1 hx
        refine ⟨fun e => ?_, s, hs, (del_sublist y j).trans hys⟩
        have := del_len hj
        rw [e] at this; simp at this; omega
      · cases hx
  · rw [List.getElem?_append_left (by omega)] at hz
    by_cases e : j = i
    · subst e
      obtain rfl := Option.some.inj (hz.symm.trans hy)
      rw [if_pos hlen]
      exact List.mem_append_right _ (mem_facesTo.2 ⟨k, hk, rfl⟩)
    · exact List.mem_append_left _ (h.done j z (by omega) hz hlen k hk)
  · rw [List.drop_append_of_le_length (by omega), pot_append]
    split
    · rename_i h1
      have := wt_step h1
      omega
    · have := wtL_pos y.length
      simp; omega
theorem Work.len {l T : List (List Int)} {i : Nat} (h : Work l T i) (_hi : i ≤ T.length) : T.length ≤ 41 * l.length := by
  have h1 := h.pot
  have h2 := pot_len (T.drop i)
  simp at h2; omega
theorem Work.short {l T : List (List Int)} {i : Nat} (h : Work l T i) (hl : ∀ s ∈ l, s.length ≤ 4) : ∀ x ∈ T, 1 ≤ x.length ∧ x.length ≤ 4 := fun x hx => by
  obtain ⟨hne, s, hs, hx⟩ := h.part x hx
  have := hx.length_le
  have := hl s hs
  exact ⟨List.length_pos_iff.2 hne, by omega⟩
/-- At the end the list is closed. -/
theorem Work.fin {l T : List (List Int)} {i : Nat} (h : Work l T i) (hi : T.length ≤ i) : ordOf (T.take i) = ordOf (partsAll l) := by
  rw [List.take_of_length_le hi]
  refine ordOf_congr fun x => ?_
  rw [mem_partsAll]
  refine ⟨h.part x, closed_parts h.has (fun y hy hlen k hk => ?_) x⟩
  obtain ⟨j, hj, rfl⟩ := List.mem_iff_getElem.1 hy
  exact h.done j _ (by omega) (List.getElem?_eq_getElem hj) hlen k hk
open Classical in
/-- What comes out, and whether it does. -/
noncomputable def cplxOk (l : List (List Int)) : Bool := decide (l.length ≤ 96) && (l.all isSimpB && isCplxB (ordOf (partsAll l)))
noncomputable def cplxOut (l : List (List Int)) : List (List Int) := if cplxOk l = true then ordOf (partsAll l) else []
end Go.Proofs.Yteijmppjdljedaa
