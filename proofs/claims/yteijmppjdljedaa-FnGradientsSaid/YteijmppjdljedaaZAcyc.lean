/-
  Arrows: whether a way along them leads around, in plain lists: the reference's way of finding it out, and what it means.
-/
import Derived.Test.YteijmppjdljedaaZArrow
import Derived.Test.YteijmppjdljedaaZFreeFace
import Derived.Test.YteijmppjdljedaaZBase
namespace Go.Proofs.Yteijmppjdljedaa
open Go.RowKit

/-- Arrow k goes on from the end of arrow i. -/
def goesB (l : List Arw) (i k : Nat) : Bool := decide (k ≠ i) && isFaceB (l.getD k ([], [])).1 (l.getD i ([], [])).2
/-- A way that leads around. -/
def HasCyc (l : List Arw) : Prop := ∃ C : Nat → Prop, (∃ i, C i) ∧ ∀ i, C i → i < l.length ∧ ∃ k, C k ∧ goesB l i k = true
def freeAt (l : List Arw) (g : List Bool) (i : Nat) : Bool := (List.range l.length).all fun j => !(!g.getD j false && goesB l i j)
def peelRow (l : List Arw) : Nat → List Bool → List Bool
  | 0, g => g
  | i + 1, g => (peelRow l i g).set i ((peelRow l i g).getD i false || freeAt l (peelRow l i g) i)
def peel (l : List Arw) : Nat → List Bool
  | 0 => List.replicate l.length false
  | r + 1 => peelRow l l.length (peel l r)
def acycB (l : List Arw) : Bool := (peel l l.length).all id
theorem peelRow_len (l : List Arw) : ∀ (i : Nat) (g : List Bool), (peelRow l i g).length = g.length
  | 0, _ => rfl
  | i + 1, g => by simp [peelRow, peelRow_len l i g]
theorem peel_len (l : List Arw) : ∀ r, (peel l r).length = l.length
  | 0 => by simp [peel]
  | r + 1 => by unfold peel; rw [peelRow_len, peel_len l r]
theorem getD_set_ne {g : List Bool} {i j : Nat} {v : Bool} (h : i ≠ j) : (g.set i v).getD j false = g.getD j false := by
  simp [List.getD, List.getElem?_set_ne h]
theorem getD_set_eq {g : List Bool} {i : Nat} {v : Bool} (h : i < g.length) : (g.set i v).getD i false = v := by
  simp [List.getD, List.getElem?_set_self h]
theorem peelRow_safe {l : List Arw} {C : Nat → Prop} (hC : ∀ i, C i → i < l.length ∧ ∃ k, C k ∧ goesB l i k = true) : ∀ (i : Nat) (g : List Bool), (∀ j, C j → g.getD j false = false) → ∀ j, C j → (peelRow l i g).getD j false = false
  | 0, _, h => h
  | i + 1, g, h => by
    have ih := peelRow_safe hC i g h
    intro j hj
    unfold peelRow
    by_cases e : i = j
    · subst e
      by_cases hl : i < (peelRow l i g).length
      · rw [getD_set_eq hl, ih i hj, Bool.false_or]
        obtain ⟨_, k, hk, hg⟩ := hC i hj
        unfold freeAt
        rw [List.all_eq_false]
        exact ⟨k, by simpa using (hC k hk).1, by rw [ih k hk, hg]; simp⟩
      · rw [List.set_eq_of_length_le (by omega)]; exact ih i hj
    · rw [getD_set_ne e]; exact ih j hj
theorem peel_safe {l : List Arw} {C : Nat → Prop} (hC : ∀ i, C i → i < l.length ∧ ∃ k, C k ∧ goesB l i k = true) : ∀ (r : Nat), ∀ j, C j → (peel l r).getD j false = false
  | 0, j, _ => by unfold peel; simp [List.getD, List.getElem?_replicate]; split <;> rfl
  | r + 1, j, hj => peelRow_safe hC _ _ (peel_safe hC r) j hj
theorem acyc_sound {l : List Arw} (h : acycB l = true) : ¬ HasCyc l := by
  rintro ⟨C, ⟨i, hi⟩, hC⟩
  have h1 := peel_safe hC l.length i hi
  have hlt : i < (peel l l.length).length := by rw [peel_len]; exact (hC i hi).1
  unfold acycB at h
  have h2 := List.all_eq_true.1 h _ (List.getElem_mem hlt)
  simp [List.getD, List.getElem?_eq_getElem hlt] at h1
  simp [h1] at h2
theorem count_set {g : List Bool} {i : Nat} (h : i < g.length) (hf : g[i] = false) : (g.set i true).count true = g.count true + 1 := by
  rw [List.count_set h]; simp [hf]
theorem set_getD {g : List Bool} {i : Nat} : g.set i (g.getD i false) = g := by
  by_cases h : i < g.length
  · simp [List.getD, List.getElem?_eq_getElem h]
  · exact List.set_eq_of_length_le (by omega)
theorem peelRow_count (l : List Arw) : ∀ (i : Nat) (g : List Bool), g.count true ≤ (peelRow l i g).count true ∧ ((peelRow l i g).count true ≤ g.count true → peelRow l i g = g)
  | 0, g => ⟨Nat.le_refl _, fun _ => rfl⟩
  | i + 1, g => by
    have ih := peelRow_count l i g
    unfold peelRow
    by_cases hl : i < (peelRow l i g).length
    · cases hg : (peelRow l i g).getD i false with
      | true => rw [Bool.true_or]; have := set_getD (g := peelRow l i g) (i := i); rw [hg] at this; rw [this]; exact ih
      | false =>
        rw [Bool.false_or]
        cases hf : freeAt l (peelRow l i g) i with
        | false => have := set_getD (g := peelRow l i g) (i := i); rw [hg] at this; rw [this]; exact ih
        | true =>
          have h0 : (peelRow l i g)[i] = false := by simpa [List.getD, List.getElem?_eq_getElem hl] using hg
          rw [count_set hl h0]
          exact ⟨by omega, fun h => by omega⟩
    · rw [List.set_eq_of_length_le (by omega)]; exact ih
theorem peelRow_fix {l : List Arw} : ∀ {m : Nat} {g : List Bool}, peelRow l m g = g → ∀ i, i < m → i < g.length → g.getD i false = false → freeAt l g i = false
  | m + 1, g, h, i, hi, hl, hg => by
    have h1 := peelRow_count l m g
    have h2 : (peelRow l m g).count true ≤ (peelRow l (m + 1) g).count true := by
      have h3 : peelRow l (m + 1) g = (peelRow l m g).set m ((peelRow l m g).getD m false || freeAt l (peelRow l m g) m) := rfl
      by_cases hm : m < (peelRow l m g).length
      · rw [h3]
        cases hgm : (peelRow l m g).getD m false with
        | true => rw [Bool.true_or]; have := set_getD (g := peelRow l m g) (i := m); rw [hgm] at this; rw [this]; exact Nat.le_refl _
        | false =>
          rw [Bool.false_or]
          cases hf : freeAt l (peelRow l m g) m with
          | false => have := set_getD (g := peelRow l m g) (i := m); rw [hgm] at this; rw [this]; exact Nat.le_refl _
          | true =>
            have h0 : (peelRow l m g)[m] = false := by simpa [List.getD, List.getElem?_eq_getElem hm] using hgm
            rw [count_set hm h0]; omega
      · rw [h3, List.set_eq_of_length_le (by omega)]; exact Nat.le_refl _
    rw [h] at h2
    have h4 := h1.2 h2
    by_cases e : i = m
    · subst e
      have h3 : peelRow l (i + 1) g = (peelRow l i g).set i ((peelRow l i g).getD i false || freeAt l (peelRow l i g) i) := rfl
      rw [h, h4, hg, Bool.false_or] at h3
      have h5 := congrArg (fun x => x.getD i false) h3
      simp only [getD_set_eq hl] at h5
      rw [← h5]; exact hg
    · exact peelRow_fix h4 i (by omega) hl hg
theorem peel_many (l : List Arw) : ∀ r, r ≤ (peel l r).count true ∨ peelRow l l.length (peel l r) = peel l r
  | 0 => .inl (Nat.zero_le _)
  | r + 1 => by
    have h1 := peelRow_count l l.length (peel l r)
    rcases peel_many l r with h | h
    · by_cases hc : (peelRow l l.length (peel l r)).count true ≤ (peel l r).count true
      · right
        have h2 := h1.2 hc
        have h3 : peel l (r + 1) = peel l r := h2
        rw [h3]; exact h2
      · left
        have h3 : peel l (r + 1) = peelRow l l.length (peel l r) := rfl
        rw [h3]; omega
    · right
      have h3 : peel l (r + 1) = peel l r := h
      rw [h3]; exact h
theorem acyc_complete {l : List Arw} (h : acycB l = false) : HasCyc l := by
  have hlen := peel_len l l.length
  unfold acycB at h
  rw [List.all_eq_false] at h
  obtain ⟨x, hx, hx2⟩ := h
  have hxf : x = false := by simpa using hx2
  subst hxf
  obtain ⟨i0, hi0, hv0⟩ := List.mem_iff_getElem.1 hx
  have hfix : peelRow l l.length (peel l l.length) = peel l l.length := by
    rcases peel_many l l.length with h | h
    · exfalso
      have h1 : (peel l l.length).count true = (peel l l.length).length := by
        have := List.count_le_length (a := true) (l := peel l l.length); omega
      have h2 := List.count_eq_length.1 h1 false hx
      simp at h2
    · exact h
  refine ⟨fun i => i < l.length ∧ (peel l l.length).getD i false = false, ⟨i0, by omega, by simp [List.getD, List.getElem?_eq_getElem hi0, hv0]⟩, fun i ⟨h1, h2⟩ => ⟨h1, ?_⟩⟩
  have h3 := peelRow_fix hfix i h1 (by omega) h2
  unfold freeAt at h3
  rw [List.all_eq_false] at h3
  obtain ⟨k, hk, hk2⟩ := h3
  simp only [List.mem_range] at hk
  have hk3 : (peel l l.length).getD k false = false ∧ goesB l i k = true := by
    generalize (peel l l.length).getD k false = x at hk2 ⊢
    generalize goesB l i k = y at hk2 ⊢
    cases x <;> cases y <;> simp at hk2 ⊢
  exact ⟨k, ⟨hk, hk3.1⟩, hk3.2⟩
def inArB (l : List Arw) (s : List Int) : Bool := l.any fun p => sameI p.1 s || sameI p.2 s

/-! ### The program's search -/
theorem HasCyc.mk {l : List Arw} (C : Nat → Prop) (i : Nat) (hi : C i) (hC : ∀ i, C i → i < l.length ∧ ∃ k, C k ∧ goesB l i k = true) : HasCyc l := ⟨C, ⟨i, hi⟩, hC⟩
/-- What is settled lies on no way around. -/
structure VOk (l : List Arw) (st : List Int) : Prop where
  len : st.length = l.length
  val : ∀ (j : Nat) (v : Int), st[j]? = some v → v = 0 ∨ v = 1 ∨ v = 2
  black : ∀ C : Nat → Prop, (∀ i, C i → i < l.length ∧ ∃ k, C k ∧ goesB l i k = true) → ∀ j, C j → st[j]? ≠ some 2
/-- Each that is in work goes on to one that is in work, or to i. -/
def VPre (l : List Arw) (st : List Int) (i : Nat) : Prop := ∀ j, st[j]? = some 1 → ∃ k, (st[k]? = some 1 ∨ k = i) ∧ goesB l j k = true
/-- What a visit leaves. -/
structure VRel (l : List Arw) (st : List Int) (i : Nat) (st' : List Int) : Prop where
  ok : VOk l st'
  done : st'[i]? = some 2
  one : ∀ j : Nat, st'[j]? = some 1 ↔ st[j]? = some 1
  two : ∀ j : Nat, st[j]? = some 2 → st'[j]? = some 2
  cnt : st'.count 0 ≤ st.count 0
/-- A visit's inside, when the first k arrows have been looked at. -/
structure VIn (l : List Arw) (st : List Int) (i k : Nat) (s : List Int) : Prop where
  ok : VOk l s
  self : s[i]? = some 1
  one : ∀ j : Nat, s[j]? = some 1 ↔ (st[j]? = some 1 ∨ j = i)
  two : ∀ j : Nat, st[j]? = some 2 → s[j]? = some 2
  cnt : s.count 0 < st.count 0
  next : ∀ j : Nat, j < k → goesB l i j = true → s[j]? = some 2
theorem val_set {st : List Int} {i : Nat} {x : Int} (h : ∀ (j : Nat) (v : Int), st[j]? = some v → v = 0 ∨ v = 1 ∨ v = 2) (hx : x = 0 ∨ x = 1 ∨ x = 2) : ∀ (j : Nat) (v : Int), (st.set i x)[j]? = some v → v = 0 ∨ v = 1 ∨ v = 2 := fun j v hj => by
  rcases List.mem_or_eq_of_mem_set (List.mem_of_getElem? hj) with h1 | h1
  · obtain ⟨k, hk, rfl⟩ := List.mem_iff_getElem.1 h1
    exact h k _ (List.getElem?_eq_getElem hk)
  · subst h1; exact hx
theorem VIn.start {l : List Arw} {st : List Int} {i : Nat} (h : VOk l st) (hi : st[i]? = some 0) : VIn l st i 0 (st.set i 1) := by
  obtain ⟨hil, hi0⟩ := List.getElem?_eq_some_iff.1 hi
  refine ⟨⟨by simp [h.len], val_set h.val (by omega), fun C hC j hj e => ?_⟩, by simp [hil], fun j => ?_, fun j hj => ?_, ?_, fun j hj => by omega⟩
  · by_cases hij : i = j
    · subst hij; simp [hil] at e
    · rw [List.getElem?_set_ne hij] at e; exact h.black C hC j hj e
  · by_cases hij : i = j
    · subst hij; simp [hil]
    · rw [List.getElem?_set_ne hij]; simp [Ne.symm hij]
  · by_cases hij : i = j
    · subst hij; rw [hi] at hj; simp at hj
    · rw [List.getElem?_set_ne hij]; exact hj
  · rw [List.count_set hil]
    have : 0 < st.count 0 := List.count_pos_iff.2 (List.mem_of_getElem? hi)
    simp [hi0]; omega
theorem VIn.pre {l : List Arw} {st s : List Int} {i k : Nat} (h : VIn l st i k s) (hp : VPre l st i) (hg : goesB l i k = true) : VPre l s k := fun j hj => by
  by_cases hij : j = i
  · subst hij; exact ⟨k, .inr rfl, hg⟩
  · have h1 : st[j]? = some 1 := ((h.one j).1 hj).resolve_right hij
    obtain ⟨q, hq, hg'⟩ := hp j h1
    exact ⟨q, .inl ((h.one q).2 hq), hg'⟩
theorem VIn.pass {l : List Arw} {st s : List Int} {i k : Nat} (h : VIn l st i k s) (hg : goesB l i k = false) : VIn l st i (k + 1) s :=
  ⟨h.ok, h.self, h.one, h.two, h.cnt, fun j hj hj' => by
    by_cases e : j = k
    · subst e; rw [hg] at hj'; cases hj'
    · exact h.next j (by omega) hj'⟩
theorem VIn.more {l : List Arw} {st s s' : List Int} {i k : Nat} (h : VIn l st i k s) (hr : VRel l s k s') : VIn l st i (k + 1) s' :=
  ⟨hr.ok, (hr.one i).2 h.self, fun j => (hr.one j).trans (h.one j), fun j hj => hr.two j (h.two j hj), Nat.lt_of_le_of_lt hr.cnt h.cnt, fun j hj hj' => by
    by_cases e : j = k
    · subst e; exact hr.done
    · exact hr.two j (h.next j (by omega) hj')⟩
theorem VIn.finish {l : List Arw} {st s : List Int} {i : Nat} (h : VIn l st i l.length s) (hi : st[i]? = some 0) : VRel l st i (s.set i 2) := by
  have hil : i < s.length := (List.getElem?_eq_some_iff.1 h.self).1
  have hs1 : s[i] = 1 := (List.getElem?_eq_some_iff.1 h.self).2
  refine ⟨⟨by simp [h.ok.len], val_set h.ok.val (by omega), fun C hC j hj e => ?_⟩, by simp [hil], fun j => ?_, fun j hj => ?_, ?_⟩
  · by_cases hij : i = j
    · subst hij
      obtain ⟨_, k, hk, hg⟩ := hC i hj
      exact h.ok.black C hC k hk (h.next k (hC k hk).1 hg)
    · rw [List.getElem?_set_ne hij] at e; exact h.ok.black C hC j hj e
  · by_cases hij : i = j
    · subst hij; simp [hil, hi]
    · rw [List.getElem?_set_ne hij, h.one j]; simp [Ne.symm hij]
  · by_cases hij : i = j
    · subst hij; simp [hil]
    · rw [List.getElem?_set_ne hij]; exact h.two j hj
  · rw [List.count_set hil]; have := h.cnt; simp [hs1]; omega
theorem VPre.cyc {l : List Arw} {st : List Int} {i : Nat} (h : VOk l st) (hp : VPre l st i) (hi : st[i]? = some 1) : HasCyc l :=
  HasCyc.mk (fun j => st[j]? = some 1) i hi fun j hj => ⟨by rw [← h.len]; exact (List.getElem?_eq_some_iff.1 hj).1, by
    obtain ⟨k, hk, hg⟩ := hp j hj
    exact ⟨k, hk.elim id (fun e => e ▸ hi), hg⟩⟩
theorem VRel.id {l : List Arw} {st : List Int} {i : Nat} (h : VOk l st) (hi : st[i]? = some 2) : VRel l st i st := ⟨h, hi, fun _ => Iff.rfl, fun _ h => h, Nat.le_refl _⟩
theorem VOk.start (l : List Arw) : VOk l (List.replicate l.length 0) := ⟨by simp, fun j v e => by rw [List.getElem?_replicate] at e; split at e <;> simp at e; exact .inl e.symm, fun C hC j hj e => by rw [List.getElem?_replicate] at e; split at e <;> simp at e⟩
theorem VPre.top {l : List Arw} {st : List Int} (h : ∀ j : Nat, st[j]? ≠ some 1) (i : Nat) : VPre l st i := fun j hj => absurd hj (h j)
theorem VOk.none {l : List Arw} {st : List Int} (h : VOk l st) (hall : ∀ j, j < l.length → st[j]? = some 2) : acycB l = true := by
  cases hb : acycB l with
  | true => rfl
  | false =>
    obtain ⟨C, ⟨i, hi⟩, hC⟩ := acyc_complete hb
    exact absurd (hall i (hC i hi).1) (h.black C hC i hi)
theorem HasCyc.not {l : List Arw} (h : HasCyc l) : acycB l = false := by
  cases hb : acycB l with
  | false => rfl
  | true => exact absurd h (acyc_sound hb)
end Go.Proofs.Yteijmppjdljedaa
