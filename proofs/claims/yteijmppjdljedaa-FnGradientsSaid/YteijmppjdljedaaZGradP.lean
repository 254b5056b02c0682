/-
  The arrows that are made are a gradient: plain.
-/
import Derived.Test.YteijmppjdljedaaZGrad
import Derived.Test.YteijmppjdljedaaZMors
import Derived.Test.YteijmppjdljedaaZCritical
import Derived.Test.YteijmppjdljedaaZEuler
import Derived.Test.YteijmppjdljedaaZBetQ
namespace Go.Proofs.Yteijmppjdljedaa
open Go.RowKit
--BODY
theorem arwB_app {l : List (List Int)} {ar : List Arw} {p : Arw} {i : Nat} (h : i < ar.length) : arwB l (ar ++ [p]) i = arwB l ar i := by
  unfold arwB
  have e1 : (ar ++ [p]).getD i ([], []) = ar.getD i ([], []) := by
    rw [List.getD_eq_getElem?_getD, List.getD_eq_getElem?_getD, List.getElem?_append_left h]
  have e2 : (ar ++ [p]).take i = ar.take i := by rw [List.take_append_of_le_length (by omega)]
  rw [e1, e2]
theorem gradTo_app {l : List (List Int)} {ar : List Arw} {p : Arw} : ∀ {n : Nat}, n ≤ ar.length → gradTo l (ar ++ [p]) n = gradTo l ar n
  | 0, _ => rfl
  | n + 1, h => by
    unfold gradTo
    rw [gradTo_app (n := n) (by omega), arwB_app (by omega)]
/-- What also holds of the arrows that have been collected. -/
def AOk (l : List (List Int)) (ar : List Arw) : Prop := gradTo l ar ar.length = true ∧ acycB ar = true ∧ ∀ p ∈ ar, isFaceB p.1 p.2 = true
theorem AOk.step {l : List (List Int)} {ar : List Arw} (h : AOk l ar) (i : Nat) : AOk l (gStep l ar i) := by
  unfold gStep
  split
  · rename_i s hs
    split
    · exact h
    · rename_i hin
      rcases gRow_or ar s (l.drop (i + 1)) with e | ⟨t, ht, hf, e⟩
      · rw [e]; exact h
      · rw [e]
        unfold gFits at hf
        simp only [Bool.and_eq_true, Bool.not_eq_true'] at hf
        have hsl : s ∈ l := List.mem_of_getElem? hs
        have htl : t ∈ l := List.mem_of_mem_drop ht
        have hat : (ar ++ [(s, t)])[ar.length]? = some (s, t) := by simp
        refine ⟨?_, hf.2.2, fun p hp => ?_⟩
        · rw [List.length_append, List.length_cons, List.length_nil]
          unfold gradTo
          rw [gradTo_app (Nat.le_refl _), h.1, arwB_at hat, decide_eq_true (findI_mem.2 hsl), decide_eq_true (findI_mem.2 htl), hf.1, List.take_left, hf.2.1]
          simp only [Bool.true_and, Bool.and_eq_true, Bool.not_eq_true', Bool.not_false, and_true]
          simpa using hin
        · rcases List.mem_append.1 hp with hp | hp
          · exact h.2.2 p hp
          · rw [List.mem_singleton.1 hp]; exact hf.1
  · exact h
theorem gAt_grad (l : List (List Int)) : ∀ i, AOk l (gAt l i)
  | 0 => ⟨rfl, by unfold acycB gAt; rfl, fun p hp => by simp [gAt] at hp⟩
  | i + 1 => (gAt_grad l i).step i
theorem grad_is {l : List (List Int)} (h : isCplxB l = true) : isGradB l (gradOut l) = true := by
  have hg : gradOut l = gAt l l.length := by unfold gradOut; rw [if_pos h]
  obtain ⟨h1, h2, -⟩ := gAt_grad l l.length
  have h3 := (gAt_ok l l.length).bd.2
  rw [hg]
  unfold isGradB
  rw [h, h1, h2, decide_eq_true (by omega)]; rfl
theorem range_filter {α : Type} (q : α → Bool) (d : α) (l : List α) : ((List.range l.length).filter fun i => q (l.getD i d)).length = (l.filter q).length := by
  have e : l = (List.range l.length).map fun i => l.getD i d := by
    refine List.ext_getElem (by simp) fun i h1 h2 => ?_
    simp [List.getD_eq_getElem?_getD, h1]
  conv => rhs; rw [e]
  rw [List.filter_map, List.length_map]
  rfl
theorem face_del {s t : List Int} (h : isFaceB s t = true) : ∃ x, x < t.length ∧ del t x = s := by
  unfold isFaceB at h
  rw [List.any_eq_true] at h
  obtain ⟨x, hx, he⟩ := h
  unfold sameI at he
  rw [decide_eq_true_eq] at he
  exact ⟨x, by simpa using hx, he.symm⟩
theorem del_face {s t : List Int} {x : Nat} (hx : x < t.length) (h : del t x = s) : isFaceB s t = true :=
  isFaceB_yes hx (by unfold sameI; rw [decide_eq_true_eq]; exact h.symm)
def dimB (k : Int) (s : List Int) : Bool := (s.length : Int) - 1 == k
theorem flat_mem {ar : List Arw} {i : Nat} (h : i < ar.length) : (ar.getD i ([], [])).1 ∈ flat ar ∧ (ar.getD i ([], [])).2 ∈ flat ar := by
  have e : ar[i]? = some (ar.getD i ([], [])) := by rw [List.getD_eq_getElem?_getD, List.getElem?_eq_getElem h]; rfl
  have := flat_at e
  exact ⟨List.mem_of_getElem? this.1, List.mem_of_getElem? this.2⟩
theorem flat_inj {ar : List Arw} (hn : (flat ar).Nodup) {i j : Nat} (hi : i < ar.length) (hj : j < ar.length) (e : (ar.getD i ([], [])).1 = (ar.getD j ([], [])).1) : i = j := by
  have e1 : ar[i]? = some (ar.getD i ([], [])) := by rw [List.getD_eq_getElem?_getD, List.getElem?_eq_getElem hi]; rfl
  have e2 : ar[j]? = some (ar.getD j ([], [])) := by rw [List.getD_eq_getElem?_getD, List.getElem?_eq_getElem hj]; rfl
  have h1 := (flat_at e1).1
  have h2 := (flat_at e2).1
  have l1 : i * 2 < (flat ar).length := by rw [flat_len]; omega
  have l2 : j * 2 < (flat ar).length := by rw [flat_len]; omega
  rw [List.getElem?_eq_getElem l1] at h1
  rw [List.getElem?_eq_getElem l2] at h2
  have := (List.getElem_inj hn).1 ((Option.some.inj h1).trans (e.trans (Option.some.inj h2).symm))
  omega
/-- The arrows whose heads have dimension k are no more than the rank of the boundary there. -/
theorem heads_le {l : List (List Int)} {ar : List Arw} {k : Int} (hk : 0 < k) (hB : boundOk l k = true) (hok : ecOk (boundB l k) = true) (hg : GOk l ar) (hf : ∀ p ∈ ar, isFaceB p.1 p.2 = true) (hac : ¬ HasCyc ar) :
    (ar.filter fun p : Arw => dimB k p.2).length ≤ ecT (boundB l k) := by
  rw [← range_filter (fun p : Arw => dimB k p.2) ([], []) ar]
  have hin : ∀ i ∈ (List.range ar.length).filter (fun i => dimB k (ar.getD i ([], [])).2), i < ar.length ∧ (((ar.getD i ([], [])).2.length : Int) - 1 = k) := fun i hi => by
    obtain ⟨h1, h2⟩ := List.mem_filter.1 hi
    exact ⟨List.mem_range.1 h1, by unfold dimB at h2; simpa using h2⟩
  have hfa : ∀ i, i < ar.length → isFaceB (ar.getD i ([], [])).1 (ar.getD i ([], [])).2 = true := fun i hi => hf _ (by
    rw [List.getD_eq_getElem?_getD, List.getElem?_eq_getElem hi]; exact List.getElem_mem _)
  refine bound_ge (tl := fun i => (ar.getD i ([], [])).1) (hd := fun i => (ar.getD i ([], [])).2) hk hB hok (List.nodup_range.filter _) (fun i hi => ?_) (fun i hi => ?_) (fun i hi => face_del (hfa i (hin i hi).1)) (fun i hi j hj e => flat_inj hg.1 (hin i hi).1 (hin j hj).1 e) ?_
  · have h1 := isFaceB_len (hfa i (hin i hi).1)
    have h2 := (hin i hi).2
    exact mem_facesB.2 ⟨hg.2 _ (flat_mem (hin i hi).1).1, by show (((ar.getD i ([], [])).1.length : Int) - 1 = k - 1); omega⟩
  · exact mem_facesB.2 ⟨hg.2 _ (flat_mem (hin i hi).1).2, (hin i hi).2⟩
  · rintro ⟨S, hne, hS⟩
    apply hac
    refine ⟨S, hne, fun i hi => ?_⟩
    obtain ⟨hiI, j, hj, hji, x, hx, he⟩ := hS i hi
    refine ⟨(hin i hiI).1, j, hj, ?_⟩
    unfold goesB
    rw [decide_eq_true hji, del_face hx he]; rfl
theorem flat_map : ∀ ar : List Arw, flat ar = ar.flatMap fun p => [p.1, p.2]
  | [] => rfl
  | p :: r => by rw [flat_cons, flat_map r]; rfl
/-- The weak inequality: the critical simplices of a dimension are no fewer than the infinite groups. -/
theorem morse {l : List (List Int)} {ar : List Arw} {k : Int} (hk : 0 ≤ k) (hB : boundOk l k = true) (hB1 : boundOk l (k + 1) = true) (hok : ecOk (boundB l k) = true) (hok1 : ecOk (boundB l (k + 1)) = true)
    (hg : GOk l ar) (hf : ∀ p ∈ ar, isFaceB p.1 p.2 = true) (hac : ¬ HasCyc ar) (hn : l.Nodup) (hp : ∀ s ∈ l, 1 ≤ s.length) :
    (facesB l k).length ≤ ((l.filter fun s => !decide (s ∈ flat ar)).filter (dimB k)).length + ecT (boundB l k) + ecT (boundB l (k + 1)) := by
  have h1 := split_count hn hg.1 hg.2 (dimB k)
  have h2 : ((flat ar).filter (dimB k)).length = (ar.filter fun p : Arw => dimB k p.1).length + (ar.filter fun p : Arw => dimB k p.2).length := flat_count (dimB k) ar (flat ar) (flat_map ar)
  have h3 := heads_le (by omega) hB1 hok1 hg hf hac
  have h4 : (ar.filter fun p : Arw => dimB k p.1).length = (ar.filter fun p : Arw => dimB (k + 1) p.2).length := by
    congr 1
    refine List.filter_congr fun p hp => ?_
    have := isFaceB_len (hf p hp)
    unfold dimB
    rw [Bool.eq_iff_iff]
    simp only [beq_iff_eq]
    omega
  have h5 : (ar.filter fun p : Arw => dimB k p.2).length ≤ ecT (boundB l k) := by
    by_cases h0 : 0 < k
    · exact heads_le h0 hB hok hg hf hac
    · have : ar.filter (fun p => dimB k p.2) = [] := List.filter_eq_nil_iff.2 fun p hp' e => by
        have e1 := isFaceB_len (hf p hp')
        obtain ⟨i, hi, rfl⟩ := List.getElem_of_mem hp'
        have e2 := hp _ (hg.2 _ (flat_mem hi).1)
        rw [List.getD_eq_getElem?_getD, List.getElem?_eq_getElem hi] at e2
        simp only [Option.getD_some] at e2
        unfold dimB at e
        simp only [beq_iff_eq] at e
        omega
      rw [this]; simp
  show (l.filter (dimB k)).length ≤ _
  omega
theorem freeOf_eq (l : List (List Int)) (ar : List Arw) : freeOf l ar = l.filter fun s => !decide (s ∈ flat ar) := by
  unfold freeOf
  refine List.filter_congr fun s _ => ?_
  congr 1
  rw [Bool.eq_iff_iff, decide_eq_true_eq]
  exact inArB_iff
theorem flat_sum : ∀ {ar : List Arw}, (∀ p ∈ ar, isFaceB p.1 p.2 = true) → ((flat ar).map signOf).sum = 0
  | [], _ => rfl
  | p :: r, h => by
    have h1 := isFaceB_len (h p (by simp))
    have h2 := flat_sum (ar := r) fun q hq => h q (by simp [hq])
    rw [flat_cons, List.map_cons, List.map_cons, List.sum_cons, List.sum_cons, h2]
    unfold signOf
    split <;> split <;> omega
/-- The critical simplices have the same Euler number. -/
theorem euler_free {l : List (List Int)} {ar : List Arw} (hn : l.Nodup) (hg : GOk l ar) (hf : ∀ p ∈ ar, isFaceB p.1 p.2 = true) : eulS l = eulS (freeOf l ar) := by
  have h := split_sum hn hg.1 hg.2 signOf
  rw [flat_sum hf] at h
  unfold eulS
  rw [freeOf_eq, h]; omega
theorem free_count {l : List (List Int)} {ar : List Arw} (hn : l.Nodup) (hg : GOk l ar) : (freeOf l ar).length + 2 * ar.length = l.length := by
  have h := split_count hn hg.1 hg.2 fun _ => true
  have ht : ∀ m : List (List Int), m.filter (fun _ => true) = m := fun m => List.filter_eq_self.2 fun _ _ => rfl
  rw [ht, ht, ht, flat_len] at h
  rw [freeOf_eq]; omega
--END
end Go.Proofs.Yteijmppjdljedaa

namespace Go.Proofs.Yteijmppjdljedaa
open Go.RowKit
/-- How many have a dimension, as the law counts them. -/
def cntAt (l : List (List Int)) (k : Nat) : Nat := (l.filter fun s => (s.length + 3) % 4 == k).length
def cntG (l : List (List Int)) : List Int := (List.range 4).map fun k => (cntAt l k : Int)
theorem cntG_len (l : List (List Int)) : (cntG l).length = 4 := by simp [cntG]
theorem cntG_at (l : List (List Int)) {k : Nat} (h : k < 4) : (cntG l)[k]? = some (cntAt l k : Int) := by
  unfold cntG
  rw [List.getElem?_map, List.getElem?_range h]; rfl
theorem cntAt_le (l : List (List Int)) (k : Nat) : cntAt l k ≤ l.length := List.length_filter_le _ _
theorem cntG_snoc (l : List (List Int)) (x : List Int) : cntG (l ++ [x]) = (cntG l).set ((x.length + 3) % 4) ((cntAt l ((x.length + 3) % 4) : Int) + 1) := by
  refine List.ext_getElem? fun k => ?_
  rw [List.getElem?_set, cntG_len]
  by_cases hk : k < 4
  · rw [cntG_at _ hk, cntG_at _ hk]
    have h4 : (x.length + 3) % 4 < 4 := Nat.mod_lt _ (by omega)
    unfold cntAt
    rw [List.filter_append, List.length_append]
    by_cases e : (x.length + 3) % 4 = k
    · subst e
      simp [h4]
    · rw [if_neg e]
      have : ([x].filter fun s => (s.length + 3) % 4 == k) = [] := by simp [e]
      rw [this]; simp
  · rw [List.getElem?_eq_none (by rw [cntG_len]; omega), List.getElem?_eq_none (by rw [cntG_len]; omega)]
    split
    · split
      · omega
      · rfl
    · rfl
theorem cplx_simp {l : List (List Int)} (h : isCplxB l = true) : ∀ s ∈ l, 1 ≤ s.length ∧ s.length ≤ 4 := fun s hs => simp_len ((isCplxB_iff.1 h).1.1 s hs)
theorem grad_aok {l : List (List Int)} (h : isCplxB l = true) : AOk l (gradOut l) ∧ GOk l (gradOut l) := by
  have hg : gradOut l = gAt l l.length := by unfold gradOut; rw [if_pos h]
  rw [hg]
  exact ⟨gAt_grad l _, gAt_ok l _⟩
theorem crit_grad {l : List (List Int)} (h : isCplxB l = true) : critB l (gradOut l) = freeOf l (gradOut l) := by
  unfold critB; rw [if_pos (grad_is h)]
theorem crit_count {l : List (List Int)} (h : isCplxB l = true) : (critB l (gradOut l)).length + 2 * (gradOut l).length = l.length := by
  rw [crit_grad h]; exact free_count (cplx_nodup h) (grad_aok h).2
theorem crit_euler {l : List (List Int)} (h : isCplxB l = true) : eulS (critB l (gradOut l)) = eulB l := by
  unfold eulB
  rw [if_pos h, crit_grad h]
  exact (euler_free (cplx_nodup h) (grad_aok h).2 (grad_aok h).1.2.2).symm
theorem crit_betti {l : List (List Int)} (h : isCplxB l = true) {k : Nat} (hk : k < 4) (hb : bqOk l (k : Int) = true) : bqN l (k : Int) ≤ (cntAt (critB l (gradOut l)) k : Int) := by
  have hw : wrap64 ((k : Int) + 1) = (k : Int) + 1 := by unfold wrap64; omega
  have hy := (bq_yes hb).2
  unfold bqOk at hb
  rw [hw] at hb hy
  simp only [Bool.and_eq_true] at hb
  obtain ⟨-, hB, hB1, ho, ho1⟩ := hb
  have hm := morse (k := (k : Int)) (by omega) hB hB1 ho ho1 (grad_aok h).2 (grad_aok h).1.2.2 (acyc_sound (grad_aok h).1.2.1) (cplx_nodup h) fun s hs => (cplx_simp h s hs).1
  rw [hy]
  have hr : (boundB l (k : Int)).rows = ((facesB l k).length : Int) := by unfold boundB; rw [if_pos hB]; rfl
  rw [hr]
  have hc : cntAt (critB l (gradOut l)) k = ((l.filter fun s => !decide (s ∈ flat (gradOut l))).filter (dimB k)).length := by
    rw [crit_grad h, freeOf_eq]
    unfold cntAt
    congr 1
    refine List.filter_congr fun s hs => ?_
    have := cplx_simp h s (List.mem_filter.1 hs).1
    unfold dimB
    rw [Bool.eq_iff_iff]
    simp only [beq_iff_eq]
    omega
  rw [hc]; omega
theorem crit_len {l : List (List Int)} : (critB l (gradOut l)).length ≤ l.length := by
  unfold critB
  split
  · exact freeOf_len _ _
  · simp
theorem crit_small {l : List (List Int)} (h : ∀ s ∈ l, s.length ≤ 4) : ∀ s ∈ critB l (gradOut l), s.length ≤ 4 := fun s hs => by
  unfold critB at hs
  split at hs
  · unfold freeOf at hs; exact h s (List.mem_filter.1 hs).1
  · cases hs
theorem crit_no {l : List (List Int)} (h : isCplxB l = false) : gradOut l = [] := by unfold gradOut; rw [h]; rfl
theorem sign_at (x : List Int) : signOf x = 2 * ((x.length : Int) % 2) - 1 := by
  unfold signOf; split <;> omega
theorem grad_bd (l : List (List Int)) : total (flat (gradOut l)) ≤ total l := by
  unfold gradOut
  split
  · exact (gAt_ok l l.length).bd.1
  · simp
theorem grad_len (l : List (List Int)) : (gradOut l).length ≤ l.length := by
  unfold gradOut
  split
  · have := (gAt_ok l l.length).bd.2; omega
  · simp
end Go.Proofs.Yteijmppjdljedaa
