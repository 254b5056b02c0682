/-
  LinkOf: plain part; lists in order, each once.
-/
import Derived.Test.YteijmppjdljedaaZPut
import Derived.Test.YteijmppjdljedaaZOrder
namespace Go.Proofs.Yteijmppjdljedaa
open Go.RowKit

theorem beforeB_ne {a b : List Int} (h : a ≠ b) : beforeB a b = !beforeB b a := by
  unfold beforeB
  by_cases e : a.length = b.length
  · rw [if_pos e, if_pos e.symm]; exact lessL_ne e h
  · rw [if_neg e, if_neg (fun h => e h.symm), Bool.eq_iff_iff]; simp; omega
theorem beforeB_irr (a : List Int) : beforeB a a = false := by unfold beforeB; rw [if_pos rfl]; exact lessL_self a
abbrev Ord (l : List (List Int)) : Prop := l.Pairwise fun a b => beforeB a b = true
theorem ord_ext : ∀ {A B : List (List Int)}, Ord A → Ord B → (∀ x, x ∈ A ↔ x ∈ B) → A = B
  | [], [], _, _, _ => rfl
  | [], b :: B, _, _, h => by have := (h b).2 (by simp); simp at this
  | a :: A, [], _, _, h => by have := (h a).1 (by simp); simp at this
  | a :: A, b :: B, hA, hB, h => by
    rw [Ord, List.pairwise_cons] at hA hB
    have hab : a = b := by
      have h1 := (h a).1 (by simp)
      have h2 := (h b).2 (by simp)
      rcases List.mem_cons.1 h1 with e | h1
      · exact e
      · rcases List.mem_cons.1 h2 with e | h2
        · exact e.symm
        · have h3 := beforeB_trans (hB.1 a h1) (hA.1 b h2)
          rw [beforeB_irr] at h3; cases h3
    subst hab
    rw [ord_ext hA.2 hB.2 fun x => ?_]
    constructor
    · intro hx
      rcases List.mem_cons.1 ((h x).1 (by simp [hx])) with e | hx'
      · subst e; have := hA.1 x hx; rw [beforeB_irr] at this; cases this
      · exact hx'
    · intro hx
      rcases List.mem_cons.1 ((h x).2 (by simp [hx])) with e | hx'
      · subst e; have := hB.1 x hx; rw [beforeB_irr] at this; cases this
      · exact hx'
theorem mem_putS : ∀ {l : List (List Int)} {s x : List Int}, x ∈ putS l s ↔ x ∈ l ∨ x = s
  | [], s, x => by simp [putS]
  | y :: r, s, x => by
    simp only [putS]
    split
    · rw [List.mem_cons, mem_putS, List.mem_cons, or_assoc]
    · split
      · rename_i hs
        unfold sameI at hs
        rw [decide_eq_true_eq] at hs
        subst hs
        simp only [List.mem_cons]
        exact ⟨.inl, fun h => h.elim id fun e => .inl e⟩
      · simp only [List.mem_cons]
        exact ⟨fun h => h.elim .inr .inl, fun h => h.elim .inr .inl⟩
theorem putS_ord : ∀ {l : List (List Int)} {s : List Int}, Ord l → Ord (putS l s)
  | [], s, _ => by simp [putS, Ord]
  | y :: r, s, h => by
    rw [Ord, List.pairwise_cons] at h
    simp only [putS]
    split
    · rename_i hb
      rw [Ord, List.pairwise_cons]
      refine ⟨fun z hz => ?_, putS_ord h.2⟩
      rcases mem_putS.1 hz with hz | rfl
      · exact h.1 z hz
      · exact hb
    · rename_i hb
      split
      · rw [Ord, List.pairwise_cons]; exact h
      · rename_i hs
        have hne : s ≠ y := fun e => hs (by rw [e]; exact sameI_self y)
        have hsy : beforeB s y = true := by rw [beforeB_ne hne]; simpa using hb
        rw [Ord, List.pairwise_cons, List.pairwise_cons]
        refine ⟨fun z hz => ?_, h⟩
        rcases List.mem_cons.1 hz with rfl | hz
        · exact hsy
        · exact beforeB_trans hsy (h.1 z hz)
def ordOf (M : List (List Int)) : List (List Int) := M.foldl putS []
theorem foldl_putS : ∀ (M acc : List (List Int)), Ord acc → Ord (M.foldl putS acc) ∧ (∀ x, x ∈ M.foldl putS acc ↔ x ∈ acc ∨ x ∈ M) ∧ (M.foldl putS acc).length ≤ acc.length + M.length
  | [], acc, h => by simp [h]
  | s :: M, acc, h => by
    obtain ⟨h1, h2, h3⟩ := foldl_putS M (putS acc s) (putS_ord h)
    have := putS_len acc s
    refine ⟨h1, fun x => ?_, by simp only [List.foldl_cons, List.length_cons]; omega⟩
    rw [List.foldl_cons, h2, mem_putS, List.mem_cons, or_assoc]
theorem ordOf_ord (M : List (List Int)) : Ord (ordOf M) := (foldl_putS M [] List.Pairwise.nil).1
theorem mem_ordOf {M : List (List Int)} {x : List Int} : x ∈ ordOf M ↔ x ∈ M := by
  have := (foldl_putS M [] List.Pairwise.nil).2.1 x
  show x ∈ List.foldl putS [] M ↔ _
  simpa using this
theorem ordOf_len (M : List (List Int)) : (ordOf M).length ≤ M.length := by
  have := (foldl_putS M [] List.Pairwise.nil).2.2
  show (List.foldl putS [] M).length ≤ _
  simpa using this
theorem ordOf_snoc (M : List (List Int)) (s : List Int) : ordOf (M ++ [s]) = putS (ordOf M) s := by unfold ordOf; rw [List.foldl_append]; rfl
/-- A sorted arrangement of lists that are all different is the one in order. -/
theorem sorted_ordOf {M D : List (List Int)} (hM : M.Nodup) (hp : D.Perm M) (hs : D.Pairwise fun a b => beforeB b a = false) : D = ordOf M := by
  refine ord_ext ?_ (ordOf_ord M) fun x => by rw [hp.mem_iff, mem_ordOf]
  have hD : D.Nodup := hp.nodup_iff.2 hM
  exact List.Pairwise.imp₂ (fun a b h1 h2 => by rw [beforeB_ne h2, h1]; rfl) hs hD

def linkOne (s : List Int) (v : Int) (k : Nat) : List (List Int) := if s[k]? = some v ∧ 1 < s.length then [del s k] else []
def linkRow (s : List Int) (v : Int) (k : Nat) : List (List Int) := (List.range k).flatMap (linkOne s v)
def linkAll (l : List (List Int)) (v : Int) : List (List Int) := l.flatMap fun s => linkRow s v s.length
noncomputable def linkOut (l : List (List Int)) (v : Int) : List (List Int) := if isCplxB l = true then ordOf (linkAll l v) else []
theorem linkRow_succ (s : List Int) (v : Int) (k : Nat) : linkRow s v (k + 1) = linkRow s v k ++ linkOne s v k := by
  unfold linkRow; rw [List.range_succ, List.flatMap_append]; simp
theorem linkAll_succ {l : List (List Int)} {i : Nat} {s : List Int} (v : Int) (h : l[i]? = some s) : linkAll (l.take (i + 1)) v = linkAll (l.take i) v ++ linkRow s v s.length := by
  unfold linkAll; rw [take_succ h, List.flatMap_append]; simp
theorem linkRow_len (s : List Int) (v : Int) : ∀ k, (linkRow s v k).length ≤ k
  | 0 => by simp [linkRow]
  | k + 1 => by
    have := linkRow_len s v k
    rw [linkRow_succ, List.length_append]
    unfold linkOne; split <;> simp <;> omega
theorem linkRow_mem {s : List Int} {v : Int} {k : Nat} {x : List Int} (h : x ∈ linkRow s v k) : ∃ j, j < k ∧ s[j]? = some v ∧ 1 < s.length ∧ x = del s j := by
  unfold linkRow at h
  obtain ⟨j, hj, hx⟩ := List.mem_flatMap.1 h
  unfold linkOne at hx
  split at hx
  · rename_i hc
    rw [List.mem_singleton] at hx
    exact ⟨j, by simpa using hj, hc.1, hc.2, hx⟩
  · cases hx
theorem cplx_len {l : List (List Int)} (h : isCplxB l = true) : l.length ≤ 96 := by
  obtain ⟨⟨h1, _⟩, _, h3⟩ := isCplxB_iff.1 h
  have key : ∀ r : List (List Int), (∀ s ∈ r, isSimpB s = true) → r.length = (facesB r ((0 : Nat) : Int)).length + (facesB r ((1 : Nat) : Int)).length + (facesB r ((2 : Nat) : Int)).length + (facesB r ((3 : Nat) : Int)).length := by
    intro r
    induction r with
    | nil => intro _; simp [facesB]
    | cons s r ih =>
      intro hr
      have ih := ih fun x hx => hr x (by simp [hx])
      have hs := hr s (by simp)
      unfold isSimpB at hs
      rw [decide_eq_true_eq] at hs
      obtain ⟨_, g1, g2⟩ := hs
      unfold facesB at ih ⊢
      simp only [List.filter_cons, List.length_cons]
      have : s.length = 1 ∨ s.length = 2 ∨ s.length = 3 ∨ s.length = 4 := by omega
      rcases this with e | e | e | e <;> simp [e] at ih ⊢ <;> omega
  have := key l h1
  have a0 := h3 0 (by omega)
  have a1 := h3 1 (by omega)
  have a2 := h3 2 (by omega)
  have a3 := h3 3 (by omega)
  omega
theorem simp_len {s : List Int} (h : isSimpB s = true) : 1 ≤ s.length ∧ s.length ≤ 4 := by
  unfold isSimpB at h; rw [decide_eq_true_eq] at h; exact h.2
theorem total_small {c : Nat} : ∀ {l : List (List Int)}, (∀ x ∈ l, x.length ≤ c) → total l ≤ c * l.length
  | [], _ => by simp
  | x :: r, h => by
    have := total_small (l := r) fun y hy => h y (by simp [hy])
    have := h x (by simp)
    simp only [total_cons, List.length_cons, Nat.mul_add]; omega
/-- What has been collected stays small. -/
theorem linkAll_small {l : List (List Int)} {v : Int} (h : isCplxB l = true) {i : Nat} (hi : i ≤ l.length) : (linkAll (l.take i) v).length ≤ 4 * i ∧ ∀ x ∈ linkAll (l.take i) v, 1 ≤ x.length ∧ x.length ≤ 3 := by
  have hs := (isCplxB_iff.1 h).1.1
  induction i with
  | zero => simp [linkAll]
  | succ i ih =>
    obtain ⟨h1, h2⟩ := ih (by omega)
    have hx : l[i]? = some l[i] := List.getElem?_eq_getElem (by omega)
    have hl := simp_len (hs l[i] (List.getElem_mem _))
    have hr := linkRow_len l[i] v l[i].length
    rw [linkAll_succ v hx]
    refine ⟨by rw [List.length_append]; omega, fun x hx => ?_⟩
    rcases List.mem_append.1 hx with hx | hx
    · exact h2 x hx
    · obtain ⟨j, hj, _, h4, rfl⟩ := linkRow_mem hx
      rw [del_len hj]; omega
end Go.Proofs.Yteijmppjdljedaa
