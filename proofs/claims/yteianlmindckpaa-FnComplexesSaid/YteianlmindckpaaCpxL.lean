/-
  Complexes: closing twice changes nothing; a cone's Euler number and the link of its tip. Plain.
-/
import Derived.Test.YteianlmindckpaaCone
import Derived.Test.YteianlmindckpaaEuler
namespace Go.Proofs.Yteianlmindckpaa

theorem cplx_has {x : List (List Int)} (h : IsCplx x) {y : List Int} (hy : PartOf x y) : y ∈ x := closed_parts (T := x) (fun _ h => h) h.2.1 y hy
theorem simp_ne {s : List Int} (h : isSimpB s = true) : s ≠ [] := fun e => by have := (simp_len h).1; rw [e] at this; simp at this
theorem parts_self {x : List (List Int)} (h : IsCplx x) : ordOf (partsAll x) = x :=
  ord_ext (ordOf_ord _) h.1.2 fun y => by
    rw [mem_ordOf, mem_partsAll]
    exact ⟨cplx_has h, fun hy => ⟨simp_ne (h.1.1 y hy), y, hy, List.Sublist.refl _⟩⟩
theorem cplx_self {x : List (List Int)} (h : isCplxB x = true) : cplxOk x = true ∧ cplxOut x = x := by
  have hC := isCplxB_iff.1 h
  have h1 : cplxOk x = true := by
    unfold cplxOk
    rw [parts_self hC, h, decide_eq_true (cplx_len h), List.all_eq_true.2 hC.1.1]; rfl
  exact ⟨h1, by unfold cplxOut; rw [if_pos h1, parts_self hC]⟩
theorem out_cplx {l : List (List Int)} (h : cplxOk l = true) : isCplxB (cplxOut l) = true := by
  unfold cplxOut; rw [if_pos h]
  unfold cplxOk at h
  simp only [Bool.and_eq_true] at h
  exact h.2.2
/-- The tip is in none of the simplices. -/
theorem tip_not {x : List (List Int)} (h : IsCplx x) {v : Int} (hv : [v] ∉ x) {s : List Int} (hs : s ∈ x) : v ∉ s := fun hm =>
  hv (cplx_has h ⟨by simp, s, hs, List.singleton_sublist.2 hm⟩)
theorem tip_ins {x : List (List Int)} (h : IsCplx x) (hv : [(9 : Int)] ∉ x) {s : List Int} (hs : s ∈ x) : insB s 9 = s ++ [9] := by
  have hn := tip_not h hv hs
  have h1 := h.1.1 s hs
  unfold isSimpB at h1
  rw [decide_eq_true_eq] at h1
  obtain ⟨⟨hr, hp⟩, _⟩ := h1
  have := insB_eq (s := s) (v := 9) (k := s.length) hp (Nat.le_refl _) (fun j x hj hx => by rw [List.getElem?_eq_none hj] at hx; cases hx) (fun x _ hx => (hr x (List.mem_of_getElem? hx)).2)
  simpa using this
theorem cone_mem {x : List (List Int)} (h : IsCplx x) (hv : [(9 : Int)] ∉ x) (y : List Int) : y ∈ ordOf (partsAll (coneAll x 9)) ↔ y = [9] ∨ y ∈ x ∨ ∃ s ∈ x, y = s ++ [9] := by
  rw [mem_ordOf, mem_partsAll]
  constructor
  · rintro ⟨hne, t, ht, hy⟩
    have last : ∀ z : List Int, z.Sublist [9] → z = [] ∨ z = [9] := fun z hz => by
      cases z with
      | nil => exact .inl rfl
      | cons a r =>
        have hl := hz.length_le
        have ha : a ∈ [(9 : Int)] := hz.mem (by simp)
        cases r with
        | nil => simp at ha; exact .inr (by rw [ha])
        | cons b r => simp at hl
    rcases mem_coneAll.1 ht with rfl | ht | ⟨s, hs, rfl⟩
    · exact .inl ((last y hy).resolve_left hne)
    · exact .inr (.inl (cplx_has h ⟨hne, t, ht, hy⟩))
    · rw [tip_ins h hv hs] at hy
      obtain ⟨y1, y2, rfl, h1, h2⟩ := List.sublist_append_iff.1 hy
      rcases last y2 h2 with rfl | rfl
      · rw [List.append_nil] at hne ⊢
        exact .inr (.inl (cplx_has h ⟨hne, s, hs, h1⟩))
      · by_cases e : y1 = []
        · subst e; exact .inl rfl
        · exact .inr (.inr ⟨y1, cplx_has h ⟨e, s, hs, h1⟩, rfl⟩)
  · rintro (rfl | hy | ⟨s, hs, rfl⟩)
    · exact ⟨by simp, [9], mem_coneAll.2 (.inl rfl), List.Sublist.refl _⟩
    · exact ⟨simp_ne (h.1.1 y hy), y, mem_coneAll.2 (.inr (.inl hy)), List.Sublist.refl _⟩
    · exact ⟨by simp, s ++ [9], mem_coneAll.2 (.inr (.inr ⟨s, hs, (tip_ins h hv hs).symm⟩)), List.Sublist.refl _⟩
theorem eulS_perm {A B : List (List Int)} (h : A.Perm B) : eulS A = eulS B := by
  induction h with
  | nil => rfl
  | cons x _ ih => unfold eulS at *; simp only [List.map_cons, List.sum_cons]; rw [ih]
  | swap x y l => unfold eulS; simp only [List.map_cons, List.sum_cons]; omega
  | trans _ _ h1 h2 => exact h1.trans h2
theorem eulS_app (A B : List (List Int)) : eulS (A ++ B) = eulS A + eulS B := by unfold eulS; rw [List.map_append, List.sum_append]
theorem eulS_tip : ∀ x : List (List Int), eulS (x.map (· ++ [9])) = -eulS x
  | [] => rfl
  | s :: r => by
    have ih := eulS_tip r
    unfold eulS at *
    simp only [List.map_cons, List.sum_cons]
    rw [ih]
    have : signOf (s ++ [9]) = -signOf s := by
      unfold signOf
      rw [List.length_append]
      simp only [List.length_cons, List.length_nil]
      split <;> split <;> omega
    rw [this]; omega
theorem ord_nodup {x : List (List Int)} (h : Ord x) : x.Nodup := h.imp fun {a b} hab e => by subst e; rw [beforeB_irr] at hab; cases hab
theorem cone_eul {x : List (List Int)} (h : IsCplx x) (hv : [(9 : Int)] ∉ x) : eulS (ordOf (partsAll (coneAll x 9))) = 1 := by
  have hnx := ord_nodup h.1.2
  have hp : (ordOf (partsAll (coneAll x 9))).Perm ([9] :: (x ++ x.map (· ++ [9]))) := by
    refine (List.perm_ext_iff_of_nodup (ord_nodup (ordOf_ord _)) ?_).2 fun y => ?_
    · rw [List.nodup_cons, List.nodup_append]
      refine ⟨fun hm => ?_, hnx, ?_, fun a ha b hb e => ?_⟩
      · rcases List.mem_append.1 hm with hm | hm
        · exact hv hm
        · obtain ⟨s, hs, e⟩ := List.mem_map.1 hm
          have := congrArg List.length e
          have h1 := (simp_len (h.1.1 s hs)).1
          rw [List.length_append] at this; simp only [List.length_cons, List.length_nil] at this; omega
      · rw [List.Nodup, List.pairwise_map]
        exact hnx.imp fun hab e => hab (List.append_cancel_right e)
      · subst e
        obtain ⟨s, hs, e⟩ := List.mem_map.1 hb
        exact tip_not h hv ha (by rw [← e]; simp)
    · rw [cone_mem h hv, List.mem_cons, List.mem_append, List.mem_map]
      constructor
      · rintro (h1 | h1 | ⟨s, hs, rfl⟩)
        · exact .inl h1
        · exact .inr (.inl h1)
        · exact .inr (.inr ⟨s, hs, rfl⟩)
      · rintro (h1 | h1 | ⟨s, hs, rfl⟩)
        · exact .inl h1
        · exact .inr (.inl h1)
        · exact .inr (.inr ⟨s, hs, rfl⟩)
  rw [eulS_perm hp]
  have e : eulS ([9] :: (x ++ x.map (· ++ [9]))) = signOf [9] + eulS (x ++ x.map (· ++ [9])) := by unfold eulS; rw [List.map_cons, List.sum_cons]
  rw [e, eulS_app, eulS_tip]
  have : signOf [9] = 1 := rfl
  omega
theorem mem_linkAll {l : List (List Int)} {v : Int} {y : List Int} : y ∈ linkAll l v ↔ ∃ t ∈ l, ∃ j, j < t.length ∧ t[j]? = some v ∧ 1 < t.length ∧ y = del t j := by
  unfold linkAll
  rw [List.mem_flatMap]
  constructor
  · rintro ⟨t, ht, hy⟩
    obtain ⟨j, h1, h2, h3, h4⟩ := linkRow_mem hy
    exact ⟨t, ht, j, h1, h2, h3, h4⟩
  · rintro ⟨t, ht, j, h1, h2, h3, rfl⟩
    refine ⟨t, ht, ?_⟩
    unfold linkRow
    rw [List.mem_flatMap]
    exact ⟨j, List.mem_range.2 h1, by unfold linkOne; rw [if_pos ⟨h2, h3⟩]; simp⟩
theorem cone_link {x : List (List Int)} (h : IsCplx x) (hv : [(9 : Int)] ∉ x) : ordOf (linkAll (ordOf (partsAll (coneAll x 9))) 9) = x := by
  refine ord_ext (ordOf_ord _) h.1.2 fun y => ?_
  rw [mem_ordOf, mem_linkAll]
  constructor
  · rintro ⟨t, ht, j, h1, h2, h3, rfl⟩
    rcases (cone_mem h hv t).1 ht with rfl | ht | ⟨s, hs, rfl⟩
    · simp at h3
    · exact (tip_not h hv ht (List.mem_of_getElem? h2)).elim
    · have hj : j = s.length := by
        rcases Nat.lt_or_ge j s.length with hlt | hge
        · rw [List.getElem?_append_left hlt] at h2
          exact (tip_not h hv hs (List.mem_of_getElem? h2)).elim
        · simp at h1; omega
      subst hj
      have : del (s ++ [9]) s.length = s := by unfold del; simp
      rw [this]; exact hs
  · intro hy
    have hl := (simp_len (h.1.1 y hy)).1
    exact ⟨y ++ [9], (cone_mem h hv _).2 (.inr (.inr ⟨y, hy, rfl⟩)), y.length, by simp, by simp, by simp; omega, by unfold del; simp⟩
/-- What the law asks of a cone. -/
theorem cone_law {x : List (List Int)} (h : isCplxB x = true) (ho : coneOk x 9 = true) : isCplxB (coneOut x 9) = true ∧ eulB (coneOut x 9) = 1 ∧ linkOut (coneOut x 9) 9 = x := by
  unfold coneOk at ho
  rw [Bool.and_eq_true] at ho
  have hC := isCplxB_iff.1 h
  have hv : [(9 : Int)] ∉ x := by
    have := ho.1
    unfold coneIs at this
    simp only [Bool.and_eq_true, decide_eq_true_eq] at this
    exact this.2.2
  have e : coneOut x 9 = ordOf (partsAll (coneAll x 9)) := by unfold coneOut; rw [if_pos ho.1]; unfold cplxOut; rw [if_pos ho.2]
  have hB : isCplxB (coneOut x 9) = true := by unfold coneOut; rw [if_pos ho.1]; exact out_cplx ho.2
  refine ⟨hB, ?_, ?_⟩
  · unfold eulB; rw [if_pos hB, e]; exact cone_eul hC hv
  · unfold linkOut; rw [if_pos hB, e]; exact cone_link hC hv
end Go.Proofs.Yteianlmindckpaa
