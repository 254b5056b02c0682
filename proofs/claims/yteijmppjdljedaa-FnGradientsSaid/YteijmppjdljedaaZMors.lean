/-
  Arrows that lead around nowhere are no more than the rank: the plain law.
-/
import Derived.Test.YteijmppjdljedaaZRnkP
import Derived.Test.YteijmppjdljedaaZBd
import Derived.Test.YteijmppjdljedaaZOrder
namespace Go.Proofs.Yteijmppjdljedaa
open Go.RowKit

/-- Columns on which nothing but 0 is made 0 are no more than the rank. -/
theorem rank_ge {C R T : Nat} {m z : List Int} {p : Nat → Nat} (h : Pvs C R z C T p) (hk : ∀ x, kerL m C R x ↔ kerL z C R x) {K : List Nat} (hK : K.Nodup)
    (hx : ∀ x : Nat → Int, (∀ k, k ∉ K → x k = 0) → kerL m C R x → ∀ k, x k = 0) : K.length ≤ T := by
  by_cases hlt : K.length ≤ T
  · exact hlt
  · exfalso
    obtain ⟨x, h1, ⟨k, h2⟩, h3⟩ := siegel z C T K hK (by omega)
    refine h2 (hx x h1 ((hk x).2 fun i hi => ?_) k)
    by_cases e : i < T
    · exact h3 i e
    · exact rdot_zero fun k hk => by rw [h.low i (by omega) hi k hk, Int.zero_mul]
theorem ecT_ge {m : Mat} (h : ecOk m = true) {K : List Nat} (hK : K.Nodup)
    (hx : ∀ x : Nat → Int, (∀ k, k ∉ K → x k = 0) → kerL m.cells m.cols.toNat m.rows.toNat x → ∀ k, x k = 0) : K.length ≤ ecT m := by
  obtain ⟨⟨a, z⟩, ha⟩ := Option.isSome_iff_exists.1 (show (echR m).isSome = true from h)
  rw [(ec_some ha).2]
  obtain ⟨p, hp, k1⟩ := echR_spec ha
  exact rank_ge hp k1 hK hx
/-- Arrows from rows to columns that lead around nowhere: what is made 0 and lies on their columns is 0. -/
theorem arrows_ker {m : List Int} {C R : Nat} {I : List Nat} {r c : Nat → Nat} (hr : ∀ i ∈ I, r i < R ∧ c i < C) (hd : ∀ i ∈ I, cell m C (r i) (c i) ≠ 0)
    (hac : ¬ ∃ S : Nat → Prop, (∃ i, S i) ∧ ∀ i, S i → i ∈ I ∧ ∃ k, S k ∧ k ≠ i ∧ cell m C (r i) (c k) ≠ 0)
    {x : Nat → Int} (hs : ∀ k, k ∉ I.map c → x k = 0) (hk : kerL m C R x) : ∀ k, x k = 0 := by
  have hz : ∀ i ∈ I, x (c i) = 0 := fun i0 hi0 => by
    by_cases e0 : x (c i0) = 0
    · exact e0
    · exfalso
      apply hac
      refine ⟨fun i => i ∈ I ∧ x (c i) ≠ 0, ⟨i0, hi0, e0⟩, ?_⟩
      rintro i ⟨hi, hxi⟩
      refine ⟨hi, ?_⟩
      by_cases hc : ∃ k, (k ∈ I ∧ x (c k) ≠ 0) ∧ k ≠ i ∧ cell m C (r i) (c k) ≠ 0
      · exact hc
      · exfalso
        have h0 := hk (r i) (hr i hi).1
        rw [rdot_one (hr i hi).2 fun k hk hne => ?_] at h0
        · rcases Int.mul_eq_zero.1 h0 with h | h
          · exact hd i hi h
          · exact hxi h
        · by_cases hm : k ∈ I.map c
          · obtain ⟨j, hj, rfl⟩ := List.mem_map.1 hm
            by_cases hx0 : x (c j) = 0
            · rw [hx0, Int.mul_zero]
            · by_cases hcell : cell m C (r i) (c j) = 0
              · rw [hcell, Int.zero_mul]
              · exact (hc ⟨j, ⟨hj, hx0⟩, fun e => hne (by rw [e]), hcell⟩).elim
          · rw [hs k hm, Int.mul_zero]
  intro k
  by_cases hm : k ∈ I.map c
  · obtain ⟨j, hj, rfl⟩ := List.mem_map.1 hm
    exact hz j hj
  · exact hs k hm
end Go.Proofs.Yteijmppjdljedaa

namespace Go.Proofs.Yteijmppjdljedaa
open Go.RowKit

theorem sgn_ne (x : Nat) : sgn x ≠ 0 := by unfold sgn; split <;> omega
theorem inc_face {s t : List Int} (h : incB s t ≠ 0) : ∃ x, x < s.length ∧ del s x = t := by
  by_cases hc : ∃ x, x < s.length ∧ del s x = t
  · exact hc
  · exact (h (sumN_zero fun x hx => if_neg fun e => hc ⟨x, hx, e⟩)).elim
theorem inc_ne {s t : List Int} (hs : s.Pairwise (· < ·)) {x : Nat} (hx : x < s.length) (h : del s x = t) : incB s t ≠ 0 := by
  have e : incB s t = if del s x = t then sgn x else 0 := sumN_one hx fun y hy hne => if_neg fun e => by
    rcases Nat.lt_or_gt_of_ne hne with h1 | h1
    · exact asc_del_ne hs h1 hx (e.trans h.symm)
    · exact asc_del_ne hs h1 hy (h.trans e.symm)
  rw [e, if_pos h]
  exact sgn_ne x
theorem bound_ge {l : List (List Int)} {k : Int} (hk : 0 < k) (hB : boundOk l k = true) (hok : ecOk (boundB l k) = true) {I : List Nat} {tl hd : Nat → List Int} (hI : I.Nodup)
    (ht : ∀ i ∈ I, tl i ∈ facesB l (k - 1)) (hh : ∀ i ∈ I, hd i ∈ facesB l k) (hf : ∀ i ∈ I, ∃ x, x < (hd i).length ∧ del (hd i) x = tl i)
    (hinj : ∀ i ∈ I, ∀ j ∈ I, tl i = tl j → i = j)
    (hac : ¬ ∃ S : Nat → Prop, (∃ i, S i) ∧ ∀ i, S i → i ∈ I ∧ ∃ j, S j ∧ j ≠ i ∧ ∃ x, x < (hd i).length ∧ del (hd i) x = tl j) : I.length ≤ ecT (boundB l k) := by
  have hC : IsCplx l := isCplxB_iff.1 (by unfold boundOk at hB; simp at hB; exact hB.1)
  have hbm : boundB l k = boundM l k := by unfold boundB; rw [if_pos hB]
  have hc : ∀ i ∈ I, (findI (facesB l (k - 1)) (tl i)).toNat < (facesB l (k - 1)).length ∧ (facesB l (k - 1)).getD (findI (facesB l (k - 1)) (tl i)).toNat [] = tl i := fun i hi => findI_lt (ht i hi)
  have hr : ∀ i ∈ I, (findI (facesB l k) (hd i)).toNat < (facesB l k).length ∧ (facesB l k).getD (findI (facesB l k) (hd i)).toNat [] = hd i := fun i hi => findI_lt (hh i hi)
  have hlt : ∀ i ∈ I, (hd i).Pairwise (· < ·) := fun i hi => simp_lt (hC.1.1 _ (mem_facesB.1 (hh i hi)).1)
  have hcell : ∀ i ∈ I, ∀ j ∈ I, cell (boundM l k).cells (facesB l (k - 1)).length (findI (facesB l k) (hd i)).toNat (findI (facesB l (k - 1)) (tl j)).toNat = incB (hd i) (tl j) := fun i hi j hj => by
    have := bound_at hC hk (hr i hi).1 (hc j hj).1
    rw [(hr i hi).2, (hc j hj).2] at this
    exact this
  have hnd : (I.map fun i => (findI (facesB l (k - 1)) (tl i)).toNat).Nodup := by
    unfold List.Nodup
    rw [List.pairwise_map]
    refine List.Pairwise.imp_of_mem (fun {x y} hx hy hne e => hne ?_) hI
    refine hinj x hx y hy ?_
    rw [← (hc x hx).2, ← (hc y hy).2, e]
  have h := ecT_ge (m := boundB l k) hok hnd fun x hx hker => by
    rw [hbm] at hker
    have e1 : (boundM l k).cols.toNat = (facesB l (k - 1)).length := Int.toNat_natCast _
    have e2 : (boundM l k).rows.toNat = (facesB l k).length := Int.toNat_natCast _
    rw [e1, e2] at hker
    refine arrows_ker (r := fun i => (findI (facesB l k) (hd i)).toNat) (c := fun i => (findI (facesB l (k - 1)) (tl i)).toNat) (fun i hi => ⟨(hr i hi).1, (hc i hi).1⟩) (fun i hi => ?_) ?_ hx hker
    · rw [hcell i hi i hi]
      obtain ⟨y, h1, h2⟩ := hf i hi
      exact inc_ne (hlt i hi) h1 h2
    · rintro ⟨S, hne, hS⟩
      apply hac
      refine ⟨S, hne, fun i hi => ?_⟩
      obtain ⟨hiI, j, hj, hji, hn⟩ := hS i hi
      refine ⟨hiI, j, hj, hji, ?_⟩
      rw [hcell i hiI j (hS j hj).1] at hn
      exact inc_face hn
  rwa [List.length_map] at h
end Go.Proofs.Yteijmppjdljedaa

namespace Go.Proofs.Yteijmppjdljedaa
open Go.RowKit

theorem perm_mem {α : Type} [DecidableEq α] : ∀ {A B : List α}, A.Nodup → B.Nodup → (∀ x, x ∈ A ↔ x ∈ B) → A.Perm B
  | [], B, _, _, h => by
    have : B = [] := List.eq_nil_iff_forall_not_mem.2 fun x hx => by have := (h x).2 hx; simp at this
    rw [this]
  | a :: A, B, hA, hB, h => by
    have ha : a ∈ B := (h a).1 (by simp)
    have hn := List.nodup_cons.1 hA
    have ih := perm_mem (A := A) (B := B.erase a) hn.2 (hB.erase a) fun x => by
      rw [hB.mem_erase_iff]
      constructor
      · intro hx; exact ⟨fun e => hn.1 (e ▸ hx), (h x).1 (by simp [hx])⟩
      · rintro ⟨h1, h2⟩
        rcases List.mem_cons.1 ((h x).2 h2) with e | e
        · exact (h1 e).elim
        · exact e
    exact (ih.cons a).trans (List.perm_cons_erase ha).symm
/-- What does not lie on F, then F. -/
theorem split_perm {l F : List (List Int)} (hl : l.Nodup) (hF : F.Nodup) (hs : ∀ x ∈ F, x ∈ l) : l.Perm ((l.filter fun s => !decide (s ∈ F)) ++ F) := by
  refine perm_mem hl ?_ fun x => ?_
  · rw [List.nodup_append]
    refine ⟨hl.filter _, hF, fun a ha b hb e => ?_⟩
    have := (List.mem_filter.1 ha).2
    simp at this
    exact this (e ▸ hb)
  · rw [List.mem_append, List.mem_filter]
    by_cases hx : x ∈ F
    · simp [hx, hs x hx]
    · simp [hx]
theorem split_count {l F : List (List Int)} (hl : l.Nodup) (hF : F.Nodup) (hs : ∀ x ∈ F, x ∈ l) (q : List Int → Bool) :
    (l.filter q).length = ((l.filter fun s => !decide (s ∈ F)).filter q).length + (F.filter q).length := by
  have h := ((split_perm hl hF hs).filter q).length_eq
  rw [List.filter_append, List.length_append] at h
  exact h
theorem split_sum {l F : List (List Int)} (hl : l.Nodup) (hF : F.Nodup) (hs : ∀ x ∈ F, x ∈ l) (f : List Int → Int) :
    (l.map f).sum = ((l.filter fun s => !decide (s ∈ F)).map f).sum + (F.map f).sum := by
  have h := ((split_perm hl hF hs).map f)
  have key : ∀ {A B : List Int}, A.Perm B → A.sum = B.sum := fun {A B} h => by
    induction h with
    | nil => rfl
    | cons x _ ih => simp [ih]
    | swap x y r => simp; omega
    | trans _ _ h1 h2 => exact h1.trans h2
  rw [key h, List.map_append, List.sum_append]
/-- Tails and heads. -/
theorem flat_count (q : List Int → Bool) : ∀ (ar : List (List Int × List Int)) (F : List (List Int)), F = ar.flatMap (fun p => [p.1, p.2]) → (F.filter q).length = (ar.filter fun p => q p.1).length + (ar.filter fun p => q p.2).length
  | [], F, h => by subst h; rfl
  | p :: r, F, h => by
    subst h
    have ih := flat_count q r _ rfl
    rw [List.flatMap_cons, List.filter_append, List.length_append, ih]
    simp only [List.filter_cons, List.filter_nil]
    split <;> split <;> simp <;> omega
end Go.Proofs.Yteijmppjdljedaa
