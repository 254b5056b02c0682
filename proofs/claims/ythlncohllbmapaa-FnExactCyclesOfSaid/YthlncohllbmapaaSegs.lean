/-
  A region that draws its order, in segments: in each some operations that are free (one value in every world of the class), then one that stands alone. No condition.
-/
import Derived.Test.YthlncohllbmapaaBase
namespace Go.Proofs.Ythlncohllbmapaa
open Go.RowKit

def segsB (ops : Array Oper) : List (List Nat × Option Nat) → Array Bool → Bool
  | [], listed => (Region.ready .any ops listed).isEmpty
  | (fs, none) :: r, listed => match mixFree ops fs listed with
    | some l' => segsB ops r l'
    | none => false
  | (fs, some i) :: r, listed => match mixFree ops fs listed with
    | some l' => Region.ready .any ops l' == [i] && segsB ops r (l'.setIfInBounds i true)
    | none => false
def segsN : List (List Nat × Option Nat) → Nat
  | [] => 0
  | (fs, none) :: r => fs.length + segsN r
  | (fs, some _) :: r => fs.length + (segsN r + 1)
def segsIn (n : Nat) : List (List Nat × Option Nat) → Bool
  | [] => true
  | (fs, none) :: r => fs.all (· < n) && segsIn n r
  | (fs, some i) :: r => fs.all (· < n) && (decide (i < n) && segsIn n r)
def wpSegs (P : Program) (ops : Array Oper) (l : List Oper) (S : World → Prop) (Q : Exit → Act → World → Prop) : List (List Nat × Option Nat) → Act → World → Prop
  | [], a, w => Q .normal a w
  | (fs, none) :: r, a, w => wpQuiet P ops S (fun a' => wpSegs P ops l S Q r a' w) (pickL l fs) a
  | (fs, some i) :: r, a, w => wpQuiet P ops S (fun a' => match l[i]? with
      | some o => if Region.wanted o (yielded ops a'.tmps) then o.wp P a' w (fun a2 w2 => S w2 ∧ wpSegs P ops l S Q r a2 w2) Q else S w ∧ wpSegs P ops l S Q r (a'.put o.dst undef) w
      | none => False) (pickL l fs) a
section
variable {P : Program} {ops : Array Oper} {S : World → Prop} {Q : Exit → Act → World → Prop}
theorem wpAnyH_of_free (hsel : Region.noSelect ops = true) (hQ : ∀ c (a : Act) d v w, Q (.panic c) (a.put (some d) v) w → Q (.panic c) a w) {w : World} (hS : S w) (n2 : Nat) (K : Act → Prop) :
    ∀ (p : List Nat) (l : List Oper) (listed listed' : Array Bool) (a : Act), p.map (ops[·]?) = l.map some → mixFree ops p listed = some listed' → wpQuiet P ops S K l a → (∀ a', K a' → wpAnyH P .any ops Q S n2 listed' a' w) → wpAnyH P .any ops Q S (p.length + n2) listed a w
  | [], [], listed, listed', a, _, hF, h, hK => by
    simp only [mixFree, Option.some.injEq] at hF
    subst hF
    simpa using hK a h
  | [], _ :: _, _, _, _, hl, _, _, _ => by simp at hl
  | _ :: _, [], _, _, _, hl, _, _, _ => by simp at hl
  | i :: p, o :: l, listed, listed', a, hl, hF, h, hK => by
    simp only [List.map_cons, List.cons.injEq] at hl
    simp only [mixFree] at hF
    split at hF
    · rename_i hc
      simp only [Bool.and_eq_true, hl.1, Option.map_some, Option.getD_some] at hc
      obtain ⟨⟨hr, hf⟩, hp, hd⟩ := hc
      obtain ⟨d, hd⟩ := Option.isSome_iff_exists.1 hd
      have ih := fun a' h' => wpAnyH_of_free hsel hQ hS n2 K p l _ listed' a' hl.2 hF h' hK
      rw [List.length_cons, Nat.add_right_comm]
      unfold wpQuiet at h
      by_cases hw : Region.wanted o (yielded ops a.tmps) = true
      · rw [if_pos hw] at h
        obtain ⟨v, hv, hK'⟩ := h
        refine wpAnyH_take (v := v) hl.1 hsel hf hr (fun c a w hh => by rw [hd] at hh; exact hQ c a d v w hh) (.inl ⟨hw, fun w' hw' => ?_⟩) hS (ih _ hK')
        have := hv w' hw'
        unfold Oper.quietAt at this
        cases hrun : (execOp a.eval o).run P w' with
        | halt x u => rw [hrun] at this; simp [Oper.quietUpon] at this
        | ok r u =>
          obtain ⟨v', rfl⟩ := Op.plain_run hp hrun
          rw [hrun] at this
          simp only [Oper.quietUpon] at this
          rw [this.1, this.2]
      · rw [if_neg hw] at h
        exact wpAnyH_take (v := undef) hl.1 hsel hf hr (fun c a w hh => by rw [hd] at hh; exact hQ c a d undef w hh) (.inr ⟨by simpa using hw, rfl⟩) hS (ih _ h)
    · cases hF
theorem wpAnyH_of_segs (l : List Oper) (hops : ops = l.toArray) (hsel : Region.noSelect ops = true) (hQ : ∀ c (a : Act) d v w, Q (.panic c) (a.put (some d) v) w → Q (.panic c) a w) :
    ∀ (sg : List (List Nat × Option Nat)) (listed : Array Bool) (a : Act) (w : World), S w → segsIn l.length sg = true → segsB ops sg listed = true → wpSegs P ops l S Q sg a w → wpAnyH P .any ops Q S (segsN sg) listed a w
  | [], listed, a, w, hS, _, hB, h => ⟨by simpa [segsB] using hB, h⟩
  | (fs, none) :: r, listed, a, w, hS, hin, hB, h => by
    simp only [segsB] at hB
    simp only [segsIn, Bool.and_eq_true] at hin
    split at hB
    · rename_i listed' hF
      exact wpAnyH_of_free hsel hQ hS _ _ fs (pickL l fs) listed listed' a (by rw [hops]; exact pickL_spec hin.1) hF h fun a' h' => wpAnyH_of_segs l hops hsel hQ r listed' a' w hS hin.2 hB h'
    · cases hB
  | (fs, some i) :: r, listed, a, w, hS, hin, hB, h => by
    simp only [segsB] at hB
    simp only [segsIn, Bool.and_eq_true, decide_eq_true_eq] at hin
    split at hB
    · rename_i listed' hF
      simp only [Bool.and_eq_true, beq_iff_eq] at hB
      have hi : l[i]? = some l[i] := List.getElem?_eq_getElem hin.2.1
      refine wpAnyH_of_free hsel hQ hS _ _ fs (pickL l fs) listed listed' a (by rw [hops]; exact pickL_spec hin.1) hF h fun a' h' => ?_
      simp only [hi] at h'
      refine wpAnyH_all hB.1 (by simp) fun j hj => ?_
      obtain rfl := List.mem_singleton.1 hj
      unfold wpOp
      have ho : ops[j]? = some l[j] := by rw [hops]; simp
      simp only [ho]
      split
      · rename_i hw
        rw [if_pos hw] at h'
        exact .inl (Oper.wp_mono (fun a2 w2 h2 => ⟨h2.1, wpAnyH_of_segs l hops hsel hQ r _ a2 w2 h2.1 hin.2.2 hB.2 h2.2⟩) h')
      · rename_i hw
        rw [if_neg hw] at h'
        exact ⟨h'.1, wpAnyH_of_segs l hops hsel hQ r _ _ w hS hin.2.2 hB.2 h'.2⟩
    · cases hB
end
theorem wp_region_segs {P : Program} {S : World → Prop} {Q : Exit → Act → World → Prop} {id : Nat} {l : List Oper} {a : Act} {w : World} (sg : List (List Nat × Option Nat)) (hm : P.follows .mixedOrders = true)
    (hB : (Region.noSelect l.toArray && (segsN sg == l.length && (segsIn l.length sg && segsB l.toArray sg (Array.replicate l.length false)))) = true)
    (hQ : ∀ c (a : Act) d v w, Q (.panic c) (a.put (some d) v) w → Q (.panic c) a w) (hS : S w.drew) (h : wpSegs P l.toArray l S Q sg a w.drew) : (Code.region id l.toArray true).wp P Q a w := by
  simp only [Bool.and_eq_true, beq_iff_eq] at hB
  obtain ⟨hsel, hn, hin, hb⟩ := hB
  refine wp_region_held (S := S) hm ?_
  have := wpAnyH_of_segs (P := P) (Q := Q) l rfl hsel hQ sg _ a _ hS hin hb h
  rw [hn] at this
  simpa using this
/-- The one that stands alone: it is wanted; it is not. -/
theorem seg_go {P : Program} {ops : Array Oper} {S : World → Prop} {Q : Exit → Act → World → Prop} {o : Oper} {a : Act} {w : World} {N : Act → World → Prop} (hw : Region.wanted o (yielded ops a.tmps) = true)
    (h : ∀ K : Act → World → Prop, (∀ a w, S w → N a w → K a w) → o.wp P a w K Q) : if Region.wanted o (yielded ops a.tmps) = true then o.wp P a w (fun a2 w2 => S w2 ∧ N a2 w2) Q else S w ∧ N (a.put o.dst undef) w := by
  rw [if_pos hw]
  exact h _ fun a w h1 h2 => ⟨h1, h2⟩
theorem seg_skip {P : Program} {ops : Array Oper} {S : World → Prop} {Q : Exit → Act → World → Prop} {o : Oper} {a : Act} {w : World} {N : Act → World → Prop} (hw : Region.wanted o (yielded ops a.tmps) = false) (hS : S w)
    (h : N (a.put o.dst undef) w) : if Region.wanted o (yielded ops a.tmps) = true then o.wp P a w (fun a2 w2 => S w2 ∧ N a2 w2) Q else S w ∧ N (a.put o.dst undef) w := by
  rw [if_neg (by rw [hw]; simp)]
  exact ⟨hS, h⟩
theorem wpSegs_nil {P : Program} {ops : Array Oper} {l : List Oper} {S : World → Prop} {Q : Exit → Act → World → Prop} {a : Act} {w : World} (h : Q .normal a w) : wpSegs P ops l S Q [] a w := h
end Go.Proofs.Ythlncohllbmapaa
