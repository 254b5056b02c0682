/-
  slices.CompactFunc with the equality of simplices, on an owned list of lists.
-/
import Derived.Test.YteianlmindckpaaLinkI
import Derived.Test.YteianlmindckpaaApp2
import Derived.Lib.SliceRun
namespace Go.Proofs.Yteianlmindckpaa
open Go.RowKit

/-- The places below p whose element parts from the one before. -/
def cIdx (M : List (List Int)) (p : Nat) : List Nat := (List.range p).filter fun i => i == 0 || !sameI (M.getD i []) (M.getD (i - 1) [])
def compB (M : List (List Int)) : List (List Int) := (cIdx M M.length).map fun i => M.getD i []
theorem cIdx_succ (M : List (List Int)) (p : Nat) : cIdx M (p + 1) = cIdx M p ++ (if (p == 0 || !sameI (M.getD p []) (M.getD (p - 1) [])) = true then [p] else []) := by
  unfold cIdx
  rw [List.range_succ, List.filter_append]
  simp only [List.filter_cons, List.filter_nil]
theorem cIdx_new {M : List (List Int)} {p : Nat} (h : sameI (M.getD p []) (M.getD (p - 1) []) = false) : cIdx M (p + 1) = cIdx M p ++ [p] := by
  rw [cIdx_succ, h]; simp
theorem cIdx_old {M : List (List Int)} {p : Nat} (hp : 0 < p) (h : sameI (M.getD p []) (M.getD (p - 1) []) = true) : cIdx M (p + 1) = cIdx M p := by
  rw [cIdx_succ, h, if_neg (by simp; omega), List.append_nil]
theorem cIdx_lt {M : List (List Int)} {p i : Nat} (h : i ∈ cIdx M p) : i < p := by unfold cIdx at h; simpa using (List.mem_filter.1 h).1
theorem cIdx_len (M : List (List Int)) (p : Nat) : (cIdx M p).length ≤ p := by
  have := List.length_filter_le (fun i => i == 0 || !sameI (M.getD i []) (M.getD (i - 1) [])) (List.range p)
  unfold cIdx; simpa using this
theorem cIdx_range {M : List (List Int)} : ∀ {p : Nat}, (∀ i, 0 < i → i < p → sameI (M.getD i []) (M.getD (i - 1) []) = false) → cIdx M p = List.range p
  | 0, _ => rfl
  | p + 1, h => by
    rw [cIdx_succ, cIdx_range fun i h1 h2 => h i h1 (by omega), List.range_succ]
    by_cases h0 : p = 0
    · subst h0; simp
    · rw [h p (by omega) (by omega)]; simp
/-- A sorted list without its repeats is in order; it holds the same. -/
theorem compB_ord {M : List (List Int)} (hs : M.Pairwise fun a b => beforeB b a = false) : compB M = ordOf M := by
  have hle : ∀ i j, i ≤ j → j < M.length → M.getD i [] = M.getD j [] ∨ beforeB (M.getD i []) (M.getD j []) = true := fun i j hij hj => by
    by_cases e : i = j
    · subst e; exact .inl rfl
    · have := List.pairwise_iff_getElem.1 hs i j (by omega) hj (by omega)
      rw [List.getD_eq_getElem?_getD, List.getD_eq_getElem?_getD, List.getElem?_eq_getElem hj, List.getElem?_eq_getElem (by omega : i < M.length)]
      by_cases e2 : M[i] = M[j]
      · exact .inl e2
      · exact .inr (by show beforeB M[i] M[j] = true; rw [beforeB_ne e2, this]; rfl)
  refine ord_ext ?_ (ordOf_ord M) fun x => ?_
  · unfold compB cIdx
    rw [Ord, List.pairwise_map]
    refine (List.pairwise_lt_range).filter _ |>.imp_of_mem fun {i j} hi hj hij => ?_
    obtain ⟨hj1, hj2⟩ := List.mem_filter.1 hj
    have hjl : j < M.length := by simpa using hj1
    have hjs : sameI (M.getD j []) (M.getD (j - 1) []) = false := by
      simp only [Bool.or_eq_true, beq_iff_eq, Bool.not_eq_true'] at hj2
      rcases hj2 with h | h
      · omega
      · exact h
    have hne : M.getD (j - 1) [] ≠ M.getD j [] := fun e => by rw [e, sameI_self] at hjs; cases hjs
    have h1 := (hle (j - 1) j (by omega) hjl).resolve_left hne
    rcases hle i (j - 1) (by omega) (by omega) with h2 | h2
    · rw [h2]; exact h1
    · exact beforeB_trans h2 h1
  · rw [mem_ordOf]
    unfold compB
    rw [List.mem_map]
    constructor
    · rintro ⟨i, hi, rfl⟩
      have := cIdx_lt hi
      rw [List.getD_eq_getElem?_getD, List.getElem?_eq_getElem this]
      exact List.getElem_mem _
    · intro hx
      obtain ⟨k, hk, rfl⟩ := List.mem_iff_getElem.1 hx
      have key : ∀ k, k < M.length → ∃ i ∈ cIdx M M.length, M.getD i [] = M.getD k [] := by
        intro k
        induction k with
        | zero => intro hk; exact ⟨0, by unfold cIdx; exact List.mem_filter.2 ⟨by simpa using hk, by simp⟩, rfl⟩
        | succ k ih =>
          intro hk
          cases hsm : sameI (M.getD (k + 1) []) (M.getD k []) with
          | true =>
            obtain ⟨i, hi, e⟩ := ih (by omega)
            unfold sameI at hsm
            rw [decide_eq_true_eq] at hsm
            exact ⟨i, hi, by rw [e, hsm]⟩
          | false => exact ⟨k + 1, by unfold cIdx; exact List.mem_filter.2 ⟨by simpa using hk, by show ((k + 1 == 0) || !sameI (M.getD (k + 1) []) (M.getD (k + 1 - 1) [])) = true; rw [Nat.add_sub_cancel, hsm]; simp⟩, rfl⟩
      obtain ⟨i, hi, e⟩ := key k hk
      exact ⟨i, hi, by rw [e, List.getD_eq_getElem?_getD, List.getElem?_eq_getElem hk]; rfl⟩

/-- Fewer elements of an owned row. -/
theorem Own.pre {w : World} {e : TypeId} {a : Option Addr} {n cap k : Nat} {cs : List Value} (h : Own w e 1 a n cap cs) (hk : k ≤ n) : Own w e 1 a k cap (cs.take k) := by
  have hl := h.len
  have hle := h.le
  refine ⟨by simp; omega, by omega, h.max, h.nil, fun p hp => ?_⟩
  obtain ⟨h1, cur, h2, h3, h4⟩ := h.block p hp
  refine ⟨h1, cur, h2, h3, ?_⟩
  rw [← h4, List.take_take, Nat.mul_one, Nat.mul_one, Nat.min_eq_left hk]
theorem Own.setCells {e : TypeId} {g n cap : Nat} : ∀ (vs : List Value) {w : World} {o : Nat} {cs : List Value}, Own w e 1 (some ⟨g, 0, none⟩) n cap cs → ∃ cs', Own (w.setCells g o vs) e 1 (some ⟨g, 0, none⟩) n cap cs' ∧ cs'.take o = cs.take o ∧ Keep (fun q => q ≠ g) w (w.setCells g o vs)
  | [], w, o, cs, h => ⟨cs, h, rfl, Keep.refl _ _⟩
  | v :: r, w, o, cs, h => by
    obtain ⟨cs', h1, h2, h3⟩ := Own.setCells r (o := o + 1) (h.set o v)
    refine ⟨cs', h1, ?_, ((Keep.refl _ w).setCell (p := ⟨g, o, none⟩) (fun _ e => e rfl) v).trans h3⟩
    have := congrArg (List.take o) h2
    rw [List.take_take, List.take_take, Nat.min_eq_left (Nat.le_succ o)] at this
    rw [this, List.take_set_of_le (Nat.le_refl o)]
set_option maxHeartbeats 400000 in
theorem eqClosure_c {S T : Nat → Prop} (a b : Option Addr) (n m cap cap' : Nat) (xs s : List Int) (w : World) (h : RdI w S a n cap xs) (h' : RdI w T b m cap' s) (hn : n ≤ 2097152) :
    Calls Try.prog 38 #[.slice a n cap, .slice b m cap'] w fun e w' => e = .returned (.bool (sameI xs s)) ∧ Qt w w' := by
  go_enter Try.func38, Try.ntmps38
  go_wp2_with (go_at_call 39; refine (equalI_c _ _ _ _ _ _ xs s _ h h' hn).mono ?_; rintro e w' ⟨rfl, hQ⟩)
  go_ret
  exact ⟨rfl, hQ⟩
end Go.Proofs.Yteianlmindckpaa
