/-
  A region that draws its order, where several operations that change the world may come up in whatever order: each leaves a value of which something is known that stays. No condition.
-/
import Derived.Test.YthlncohllbmapaaSegs
namespace Go.Proofs.Ythlncohllbmapaa
open Go.RowKit

def dstOf (ops : Array Oper) (i : Nat) : Option Tmp := (ops[i]?).bind (·.dst)
def parB (ops : Array Oper) (R F : List Nat) (target : Array Bool) : Nat → Array Bool → Bool
  | 0, listed => (R ++ F).all (fun i => listed.getD i false) && listed == target
  | n + 1, listed => match F.find? (fun i => (Region.ready .any ops listed).contains i) with
    | some f => Region.free .any ops listed f && parB ops R F target n (listed.setIfInBounds f true)
    | none => !(Region.ready .any ops listed).isEmpty && (Region.ready .any ops listed).all fun i => R.contains i && parB ops R F target n (listed.setIfInBounds i true)
/-- The dsts are of their own, the operations not guarded. -/
def parOK (ops : Array Oper) (sz : Nat) : List Nat → Bool
  | [] => true
  | i :: R => (match ops[i]? with
      | some o => o.guard.isNone && (match o.dst with
          | some d => decide (d < sz) && R.all (fun j => dstOf ops j != some d)
          | none => false)
      | none => false) && (!R.contains i && parOK ops sz R)
def fillL (ops : Array Oper) (listed : Array Bool) (vs : Nat → Value) : List Nat → Act → Act
  | [], a => a
  | i :: R, a => fillL ops listed vs R (if listed.getD i false = true then a.put (dstOf ops i) (vs i) else a)
def fillA (ops : Array Oper) (vs : Nat → Value) : List Nat → Act → Act
  | [], a => a
  | i :: R, a => fillA ops vs R (a.put (dstOf ops i) (vs i))
section
variable {ops : Array Oper}
theorem fillL_put {listed : Array Bool} {vs : Nat → Value} {d : Option Tmp} {v : Value} : ∀ {R : List Nat} {a : Act}, (∀ j ∈ R, ∀ q, d = some q → dstOf ops j ≠ some q) → fillL ops listed vs R (a.put d v) = (fillL ops listed vs R a).put d v
  | [], a, _ => rfl
  | i :: R, a, h => by
    unfold fillL
    have h1 : ∀ q, d = some q → dstOf ops i ≠ some q := h i (List.mem_cons_self)
    have h2 : ∀ j ∈ R, ∀ q, d = some q → dstOf ops j ≠ some q := fun j hj => h j (List.mem_cons_of_mem _ hj)
    split
    · rw [Act.put_comm a v (vs i) h1, fillL_put h2]
    · rw [fillL_put h2]
theorem fillL_congr {listed listed' : Array Bool} {vs vs' : Nat → Value} : ∀ {R : List Nat} {a : Act}, (∀ j ∈ R, listed.getD j false = listed'.getD j false ∧ vs j = vs' j) → fillL ops listed vs R a = fillL ops listed' vs' R a
  | [], a, _ => rfl
  | i :: R, a, h => by
    unfold fillL
    obtain ⟨h1, h2⟩ := h i (List.mem_cons_self)
    rw [h1, h2]
    exact fillL_congr fun j hj => h j (List.mem_cons_of_mem _ hj)
theorem fillL_add {listed : Array Bool} {vs : Nat → Value} {sz : Nat} {j : Nat} {v : Value} : ∀ {R : List Nat} {a : Act}, parOK ops sz R = true → j ∈ R → j < listed.size → listed.getD j false = false →
    fillL ops (listed.setIfInBounds j true) (fun k => if k = j then v else vs k) R a = (fillL ops listed vs R a).put (dstOf ops j) v
  | [], a, _, hj, _, _ => by cases hj
  | i :: R, a, hok, hj, hs, hf => by
    simp only [parOK, Bool.and_eq_true] at hok
    obtain ⟨h1, h2, h3⟩ := hok
    have hni : i ∉ R := by simpa using h2
    by_cases e : i = j
    · subst e
      have hc : fillL ops (listed.setIfInBounds i true) (fun k => if k = i then v else vs k) R (a.put (dstOf ops i) v) = fillL ops listed vs R (a.put (dstOf ops i) v) :=
        fillL_congr fun k hk => by
          have hki : k ≠ i := fun e => hni (e ▸ hk)
          exact ⟨by rw [getD_set_ne false (Ne.symm hki)], by simp [hki]⟩
      have hd : ∀ k ∈ R, ∀ q, dstOf ops i = some q → dstOf ops k ≠ some q := fun k hk q hq e => by
        cases ho : ops[i]? with
        | none => rw [ho] at h1; simp at h1
        | some o =>
          rw [ho] at h1
          cases hd : o.dst with
          | none => simp [hd] at h1
          | some d =>
            simp [hd] at h1
            have : q = d := by unfold dstOf at hq; rw [ho] at hq; simp [hd] at hq; exact hq.symm
            subst this
            exact h1.2.2 k hk e
      have e1 : fillL ops listed vs (i :: R) a = fillL ops listed vs R a := by
        show fillL ops listed vs R (if listed.getD i false = true then a.put (dstOf ops i) (vs i) else a) = _
        rw [if_neg (by rw [hf]; simp)]
      have e2 : fillL ops (listed.setIfInBounds i true) (fun k => if k = i then v else vs k) (i :: R) a = fillL ops (listed.setIfInBounds i true) (fun k => if k = i then v else vs k) R (a.put (dstOf ops i) v) := by
        show fillL ops (listed.setIfInBounds i true) _ R (if (listed.setIfInBounds i true).getD i false = true then a.put (dstOf ops i) (if i = i then v else vs i) else a) = _
        rw [if_pos (by simp [hs]), if_pos rfl]
      rw [e1, e2, hc, fillL_put hd]
    · have hjR : j ∈ R := by
        rcases List.mem_cons.1 hj with h | h
        · exact (e h.symm).elim
        · exact h
      unfold fillL
      rw [getD_set_ne false (Ne.symm e), if_neg e]
      exact fillL_add h3 hjR hs hf
theorem fillL_all {listed : Array Bool} {vs : Nat → Value} : ∀ {R : List Nat} {a : Act}, (∀ j ∈ R, listed.getD j false = true) → fillL ops listed vs R a = fillA ops vs R a
  | [], a, _ => rfl
  | i :: R, a, h => by
    unfold fillL fillA
    rw [if_pos (h i (List.mem_cons_self))]
    exact fillL_all fun j hj => h j (List.mem_cons_of_mem _ hj)
theorem fillL_none {listed : Array Bool} {vs : Nat → Value} : ∀ {R : List Nat} {a : Act}, (∀ j ∈ R, listed.getD j false = false) → fillL ops listed vs R a = a
  | [], a, _ => rfl
  | i :: R, a, h => by
    unfold fillL
    rw [if_neg (by rw [h i (List.mem_cons_self)]; simp)]
    exact fillL_none fun j hj => h j (List.mem_cons_of_mem _ hj)
theorem put_getD_ne {a : Act} {d : Option Tmp} {v : Value} {s : Nat} (h : d ≠ some s) : (a.put d v).tmps.getD s undef = a.tmps.getD s undef := by
  cases d with
  | none => rfl
  | some q =>
    have : q ≠ s := fun e => h (by rw [e])
    simp [Act.put, Array.getElem?_setIfInBounds_ne this]
theorem put_size {a : Act} {d : Option Tmp} {v : Value} : (a.put d v).tmps.size = a.tmps.size := by
  cases d <;> simp [Act.put]
theorem fillL_frame {listed : Array Bool} {vs : Nat → Value} {s : Nat} : ∀ {R : List Nat} {a : Act}, (∀ j ∈ R, dstOf ops j ≠ some s) → (fillL ops listed vs R a).tmps.getD s undef = a.tmps.getD s undef
  | [], a, _ => rfl
  | i :: R, a, h => by
    unfold fillL
    rw [fillL_frame fun j hj => h j (List.mem_cons_of_mem _ hj)]
    split
    · exact put_getD_ne (h i (List.mem_cons_self))
    · rfl
theorem fillL_size {listed : Array Bool} {vs : Nat → Value} : ∀ {R : List Nat} {a : Act}, (fillL ops listed vs R a).tmps.size = a.tmps.size
  | [], a => rfl
  | i :: R, a => by
    unfold fillL
    rw [fillL_size]
    split
    · exact put_size
    · rfl
theorem fillL_at {listed : Array Bool} {vs : Nat → Value} {j d : Nat} : ∀ {R : List Nat} {a : Act}, parOK ops a.tmps.size R = true → j ∈ R → listed.getD j false = true → dstOf ops j = some d → (fillL ops listed vs R a).tmps.getD d undef = vs j
  | [], a, _, hj, _, _ => by cases hj
  | i :: R, a, hok, hj, hf, hd => by
    have hok' := hok
    simp only [parOK, Bool.and_eq_true] at hok
    obtain ⟨h1, h2, h3⟩ := hok
    have hsz : (if listed.getD i false = true then a.put (dstOf ops i) (vs i) else a).tmps.size = a.tmps.size := by split <;> simp [put_size]
    by_cases hjR : j ∈ R
    · unfold fillL
      exact fillL_at (by rw [hsz]; exact h3) hjR hf hd
    · have e : j = i := by rcases List.mem_cons.1 hj with h | h; exact h; exact (hjR h).elim
      subst e
      cases ho : ops[j]? with
      | none => rw [ho] at h1; simp at h1
      | some o =>
        rw [ho] at h1
        have hod : o.dst = some d := by unfold dstOf at hd; rw [ho] at hd; simpa using hd
        simp [hod] at h1
        unfold fillL
        rw [if_pos hf, fillL_frame fun k hk => h1.2.2 k hk, hd]
        simp [Act.put, h1.2.1]
end
theorem parB_ops {ops : Array Oper} {sz : Nat} : ∀ {R : List Nat}, parOK ops sz R = true → ∀ i ∈ R, ∃ o d, ops[i]? = some o ∧ o.guard = none ∧ o.dst = some d ∧ d < sz
  | [], _, i, hi => by cases hi
  | k :: R, hok, i, hi => by
    simp only [parOK, Bool.and_eq_true] at hok
    obtain ⟨h1, h2, h3⟩ := hok
    rcases List.mem_cons.1 hi with e | e
    · subst e
      cases ho : ops[i]? with
      | none => rw [ho] at h1; simp at h1
      | some o =>
        rw [ho] at h1
        cases hd : o.dst with
        | none => simp [hd] at h1
        | some d => simp [hd] at h1; exact ⟨o, d, rfl, h1.1, hd, h1.2.1⟩
    · exact parB_ops h3 i e
section
variable {P : Program} {ops : Array Oper} {S : World → Prop} {Q : Exit → Act → World → Prop}
theorem wpAnyH_of_par {R F : List Nat} {target : Array Bool} {a0 : Act} {n2 : Nat} (hsel : Region.noSelect ops = true) (hQ : ∀ c (a : Act) d v w, Q (.panic c) (a.put (some d) v) w → Q (.panic c) a w)
    (Post : Nat → Value → World → Prop) (ob : Nat → Value → Option Nat) (hst : ∀ i v w w', Grow w w' → Post i v w → Post i v w') (hlt : ∀ i v w, Post i v w → ∀ g, ob i v = some g → g < w.heap.size) (hob : ∀ i ∈ F, ∀ v, ob i v = none)
    (hok : parOK ops a0.tmps.size (R ++ F) = true) {w0 : World}
    (step : ∀ i ∈ R, ∀ o, ops[i]? = some o → ∀ (a : Act) (w : World), Grow w0 w → S w →
      (∀ j ∈ R ++ F, (∃ e ∈ o.after, Region.binds .any e = true ∧ e.on = j) → ∀ d, dstOf ops j = some d → Post j (a.tmps.getD d undef) w) →
      (∀ s, (∀ j ∈ R ++ F, dstOf ops j ≠ some s) → a.tmps.getD s undef = a0.tmps.getD s undef) →
      ∀ K : Act → World → Prop, (∀ v w', Grow w w' → S w' → Post i v w' → (∀ g, ob i v = some g → w.heap.size ≤ g) → K (a.put o.dst v) w') → o.wp P a w K Q)
    (stepF : ∀ i ∈ F, ∀ o, ops[i]? = some o → ∀ (a : Act) (w : World), Grow w0 w → S w →
      (∀ j ∈ R ++ F, (∃ e ∈ o.after, Region.binds .any e = true ∧ e.on = j) → ∀ d, dstOf ops j = some d → Post j (a.tmps.getD d undef) w) →
      (∀ s, (∀ j ∈ R ++ F, dstOf ops j ≠ some s) → a.tmps.getD s undef = a0.tmps.getD s undef) →
      ∃ v, (∀ w', S w' → (execOp a.eval o).run P w' = .ok (.value v) w') ∧ Post i v w)
    (fin : ∀ (vs : Nat → Value) (w : World), Grow w0 w → S w → (∀ i ∈ R ++ F, Post i (vs i) w) → (∀ i ∈ R ++ F, ∀ j ∈ R ++ F, i ≠ j → ∀ g, ob i (vs i) = some g → ob j (vs j) ≠ some g) → wpAnyH P .any ops Q S n2 target (fillA ops vs (R ++ F) a0) w) :
    ∀ (n : Nat) (listed : Array Bool) (vs : Nat → Value) (w : World), Grow w0 w → S w → listed.size = ops.size → parB ops R F target n listed = true → (∀ i ∈ R ++ F, listed.getD i false = true → Post i (vs i) w) →
      (∀ i ∈ R ++ F, listed.getD i false = true → ∀ j ∈ R ++ F, listed.getD j false = true → i ≠ j → ∀ g, ob i (vs i) = some g → ob j (vs j) ≠ some g) →
      wpAnyH P .any ops Q S (n + n2) listed (fillL ops listed vs (R ++ F) a0) w
  | 0, listed, vs, w, hT, hS, _, hB, hI, hD => by
    simp only [parB, Bool.and_eq_true, beq_iff_eq] at hB
    obtain ⟨hall, rfl⟩ := hB
    have hall' : ∀ j ∈ R ++ F, listed.getD j false = true := fun j hj => by simpa using List.all_eq_true.1 hall j hj
    rw [fillL_all hall', Nat.zero_add]
    exact fin vs w hT hS (fun i hi => hI i hi (hall' i hi)) fun i hi j hj => hD i hi (hall' i hi) j hj (hall' j hj)
  | n + 1, listed, vs, w, hT, hS, hsz, hB, hI, hD => by
    -- what one more operation leaves
    have next : ∀ (i : Nat) (v : Value) (w' : World), i ∈ R ++ F → i < listed.size → listed.getD i false = false → Grow w w' → S w' → Post i v w' → (∀ g, ob i v = some g → w.heap.size ≤ g) → parB ops R F target n (listed.setIfInBounds i true) = true →
        wpAnyH P .any ops Q S (n + n2) (listed.setIfInBounds i true) ((fillL ops listed vs (R ++ F) a0).put (dstOf ops i) v) w' := by
      intro i v w' hiR hil hf hT' hS' hP hfr hrest
      rw [← fillL_add hok hiR hil hf]
      refine wpAnyH_of_par hsel hQ Post ob hst hlt hob hok step stepF fin n _ _ w' (hT.trans hT') hS' (by simpa using hsz) hrest (fun j hj hl => ?_) fun j hj hl k hk hl2 hne2 g hg1 hg2 => ?_
      · by_cases e : j = i
        · subst e; simpa using hP
        · rw [getD_set_ne false (Ne.symm e)] at hl
          simp only [e, if_false]
          exact hst j _ _ _ hT' (hI j hj hl)
      · by_cases e : j = i
        · subst e
          have e2 : k ≠ j := fun e => hne2 e.symm
          rw [getD_set_ne false (Ne.symm e2)] at hl2
          simp only [if_true] at hg1
          simp only [e2, if_false] at hg2
          have h1 := hfr g hg1
          have h2 := hlt k _ _ (hI k hk hl2) g hg2
          omega
        · rw [getD_set_ne false (Ne.symm e)] at hl
          simp only [e, if_false] at hg1
          by_cases e2 : k = i
          · subst e2
            simp only [if_true] at hg2
            have h1 := hfr g hg2
            have h2 := hlt j _ _ (hI j hj hl) g hg1
            omega
          · rw [getD_set_ne false (Ne.symm e2)] at hl2
            simp only [e2, if_false] at hg2
            exact hD j hj hl k hk hl2 hne2 g hg1 hg2
    have deps : ∀ (i : Nat) (o : Oper), ops[i]? = some o → i ∈ Region.ready .any ops listed → ∀ j ∈ R ++ F, (∃ e ∈ o.after, Region.binds .any e = true ∧ e.on = j) → ∀ d, dstOf ops j = some d → Post j ((fillL ops listed vs (R ++ F) a0).tmps.getD d undef) w := by
      intro i o ho hi j hj ⟨e, he, hb, hej⟩ dj hdj
      obtain ⟨hun, o', ho', hall'⟩ := mem_ready.1 hi
      obtain rfl : o' = o := Option.some.inj (ho'.symm.trans ho)
      have hl := hall' e he hb
      rw [hej] at hl
      rw [fillL_at hok hj hl hdj]
      exact hI j hj hl
    have base : ∀ (i : Nat), i ∈ R ++ F → i ∈ Region.ready .any ops listed → ∃ o, ops[i]? = some o ∧ o.guard = none ∧ dstOf ops i = o.dst ∧ (∃ d, o.dst = some d) ∧ i < listed.size ∧ listed.getD i false = false := by
      intro i hiR hi
      obtain ⟨o, d, ho, hg, hd, hlt'⟩ := parB_ops hok i hiR
      obtain ⟨hun, _⟩ := mem_ready.1 hi
      have hil : i < listed.size := by rw [hsz]; exact (Array.getElem?_eq_some_iff.1 ho).1
      exact ⟨o, ho, hg, by unfold dstOf; rw [ho]; rfl, ⟨d, hd⟩, hil, by simpa [hil] using hun⟩
    simp only [parB] at hB
    rw [Nat.add_right_comm]
    split at hB
    · rename_i f hfind
      simp only [Bool.and_eq_true] at hB
      obtain ⟨hfree, hrest⟩ := hB
      have hfr := List.find?_some hfind
      have hfF : f ∈ F := List.mem_of_find?_eq_some hfind
      have hfR : f ∈ R ++ F := List.mem_append_right _ hfF
      have hready : f ∈ Region.ready .any ops listed := by simpa using hfr
      obtain ⟨o, ho, hg, hdst, ⟨d, hd⟩, hil, hf⟩ := base f hfR hready
      obtain ⟨v, hv, hP⟩ := stepF f hfF o ho _ w hT hS (deps f o ho hready) (fun s hs => fillL_frame hs)
      refine wpAnyH_take (v := v) ho hsel hfree hfr (fun c a w hh => by rw [hd] at hh; exact hQ c a d v w hh) (.inl ⟨by simp [Region.wanted, hg], hv⟩) hS ?_
      rw [← hdst]
      exact next f v w hfR hil hf (Grow.refl _) hS hP (fun g hg => by rw [hob f hfF] at hg; cases hg) hrest
    · simp only [Bool.and_eq_true, Bool.not_eq_true', List.all_eq_true] at hB
      obtain ⟨hne, hall⟩ := hB
      refine wpAnyH_all rfl (by intro e; rw [e] at hne; simp at hne) fun i hi => ?_
      obtain ⟨hR, hrest⟩ := hall i hi
      have hiR0 : i ∈ R := by simpa using hR
      have hiR : i ∈ R ++ F := List.mem_append_left _ hiR0
      obtain ⟨o, ho, hg, hdst, ⟨d, hd⟩, hil, hf⟩ := base i hiR hi
      unfold wpOp
      simp only [ho]
      rw [if_pos (by simp [Region.wanted, hg])]
      refine .inl (step i hiR0 o ho _ w hT hS (deps i o ho hi) (fun s hs => fillL_frame hs) _ fun v w' hT' hS' hP hfr => ⟨hS', ?_⟩)
      rw [← hdst]
      exact next i v w' hiR hil hf hT' hS' hP hfr hrest
end
structure Shut (p : Prop) : Prop where
  out : p
/-- First the free ones (fs), then R in whatever order, then segments. -/
def wpPar (P : Program) (ops : Array Oper) (l : List Oper) (S : World → Prop) (Q : Exit → Act → World → Prop) (R F : List Nat) (sg : List (List Nat × Option Nat)) (a0 : Act) (w0 : World) : Prop :=
  parOK ops a0.tmps.size (R ++ F) = true ∧ ∃ (Post : Nat → Value → World → Prop) (ob : Nat → Value → Option Nat), (∀ i v w w', Grow w w' → Post i v w → Post i v w') ∧ (∀ i v w, Post i v w → ∀ g, ob i v = some g → g < w.heap.size) ∧ (∀ i ∈ F, ∀ v, ob i v = none) ∧
    (∀ i ∈ R, ∀ o, ops[i]? = some o → ∀ (a : Act) (w : World), Grow w0 w → S w →
      (∀ j ∈ R ++ F, (∃ e ∈ o.after, Region.binds .any e = true ∧ e.on = j) → ∀ d, dstOf ops j = some d → Post j (a.tmps.getD d undef) w) →
      (∀ s, (∀ j ∈ R ++ F, dstOf ops j ≠ some s) → a.tmps.getD s undef = a0.tmps.getD s undef) →
      ∀ K : Act → World → Prop, (∀ v w', Grow w w' → S w' → Post i v w' → (∀ g, ob i v = some g → w.heap.size ≤ g) → K (a.put o.dst v) w') → o.wp P a w K Q) ∧
    (∀ i ∈ F, ∀ o, ops[i]? = some o → ∀ (a : Act) (w : World), Grow w0 w → S w →
      (∀ j ∈ R ++ F, (∃ e ∈ o.after, Region.binds .any e = true ∧ e.on = j) → ∀ d, dstOf ops j = some d → Post j (a.tmps.getD d undef) w) →
      (∀ s, (∀ j ∈ R ++ F, dstOf ops j ≠ some s) → a.tmps.getD s undef = a0.tmps.getD s undef) →
      ∃ v, (∀ w', S w' → (execOp a.eval o).run P w' = .ok (.value v) w') ∧ Post i v w) ∧
    ∀ (vs : Nat → Value) (w : World), Grow w0 w → S w → (∀ i ∈ R ++ F, Post i (vs i) w) → (∀ i ∈ R ++ F, ∀ j ∈ R ++ F, i ≠ j → ∀ g, ob i (vs i) = some g → ob j (vs j) ≠ some g) → Shut (wpSegs P ops l S Q sg (fillA ops vs (R ++ F) a0) w)
def listed1 (n : Nat) (fs : List Nat) : Array Bool := fs.foldl (fun l i => l.setIfInBounds i true) (Array.replicate n false)
theorem mixFree_listed {ops : Array Oper} : ∀ {fs : List Nat} {listed l' : Array Bool}, mixFree ops fs listed = some l' → l' = fs.foldl (fun l i => l.setIfInBounds i true) listed
  | [], _, _, h => by simp [mixFree] at h; simp [h]
  | i :: fs, listed, l', h => by
    simp only [mixFree] at h
    split at h
    · simpa using mixFree_listed h
    · cases h
theorem wp_region_par {P : Program} {S : World → Prop} {Q : Exit → Act → World → Prop} {id : Nat} {l : List Oper} {a : Act} {w : World} (fs R F : List Nat) (sg : List (List Nat × Option Nat)) (hm : P.follows .mixedOrders = true)
    (hB : (Region.noSelect l.toArray && ((fs.length + ((R ++ F).length + segsN sg) == l.length && (fs.all (· < l.length) && segsIn l.length sg)) && ((mixFree l.toArray fs (Array.replicate l.length false)).isSome &&
      ((R ++ F).all (fun i => !(listed1 l.length fs).getD i false) && (parB l.toArray R F (listed1 l.length (fs ++ (R ++ F))) (R ++ F).length (listed1 l.length fs) && segsB l.toArray sg (listed1 l.length (fs ++ (R ++ F)))))))) = true)
    (hQ : ∀ c (a : Act) d v w, Q (.panic c) (a.put (some d) v) w → Q (.panic c) a w) (hS : S w.drew) (h : wpQuiet P l.toArray S (fun a' => wpPar P l.toArray l S Q R F sg a' w.drew) (pickL l fs) a) : (Code.region id l.toArray true).wp P Q a w := by
  simp only [Bool.and_eq_true, beq_iff_eq] at hB
  obtain ⟨hsel, ⟨hn, hin1, hin2⟩, hF, hR0, hp, hs⟩ := hB
  obtain ⟨l1, hl1⟩ := Option.isSome_iff_exists.1 hF
  have e1 := mixFree_listed hl1
  have hsz : (listed1 l.length fs).size = l.length := by
    unfold listed1
    have : ∀ (fs : List Nat) (q : Array Bool), (fs.foldl (fun l i => l.setIfInBounds i true) q).size = q.size := by
      intro fs
      induction fs with
      | nil => intro q; rfl
      | cons i fs ih => intro q; simp [ih]
    rw [this]; simp
  refine wp_region_held (S := S) hm ?_
  have := wpAnyH_of_free (P := P) (ops := l.toArray) (S := S) (Q := Q) hsel hQ hS ((R ++ F).length + segsN sg) (fun a' => wpPar P l.toArray l S Q R F sg a' w.drew) fs (pickL l fs) (Array.replicate l.length false) l1 a (pickL_spec hin1) hl1 h
    (fun a0 ⟨hok, Post, ob, hst, hlt, hob, step, stepF, fin⟩ => by
      have hr0 : ∀ j ∈ R ++ F, (listed1 l.length fs).getD j false = false := fun j hj => by simpa using List.all_eq_true.1 hR0 j hj
      have hl1' : l1 = listed1 l.length fs := e1
      have key := wpAnyH_of_par (P := P) (ops := l.toArray) (S := S) (Q := Q) (R := R) (F := F) (target := listed1 l.length (fs ++ (R ++ F))) (a0 := a0) (n2 := segsN sg) hsel hQ Post ob hst hlt hob hok step stepF
        (fun vs w' hT hS' hI hD => wpAnyH_of_segs l rfl hsel hQ sg _ _ w' hS' hin2 hs (fin vs w' hT hS' hI hD).out) (R ++ F).length (listed1 l.length fs) (fun _ => undef) w.drew (Grow.refl _) hS (by simpa using hsz) hp (fun i hi hl => by rw [hr0 i hi] at hl; cases hl) (fun i hi hl => by rw [hr0 i hi] at hl; cases hl)
      rw [fillL_none hr0] at key
      rw [hl1']; exact key)
  rw [hn] at this
  simpa using this

def fillD : List (Option Tmp × Value) → Act → Act
  | [], a => a
  | (d, v) :: r, a => fillD r (a.put d v)
section
variable {P : Program} {o : Oper} {a : Act} {w : World} {K : Act → World → Prop} {Q : Exit → Act → World → Prop}
theorem par_call {f : FuncId} {args : Array Operand} {ts : Array TypeId} {fn : Func} {c : Code} (ho : o.op = .call { callee := .value (.func f), args := args, argTypes := ts }) (hf : P.funcs[f]? = some fn) (hname : (fn.name == "runtime.NumGoroutine") = false) (hb : fn.body = some c)
    (h : Calls P f (args.map a.eval) w fun e w' => ∃ v, e = .returned v ∧ K (a.put o.dst v) w') : o.wp P a w K Q := by
  have h1 : fn.name ≠ "runtime.NumGoroutine" := by simpa using hname
  unfold Oper.wp execOp
  simp only [ho, resolve, Act.eval, Deferred.ofValue, invoke, Sem.run_bind, Sem.run_pure, Result.andThen_ok]
  have he : (callFunc f (args.map a.eval)).run P w = .ok (.enter f (args.map a.eval)) w := by simp [callFunc, hf, h1, hb, mark]
  simp only [Array.empty_append, Array.append_empty]
  rw [he]
  exact Calls.mono h fun e w' ⟨v, hv, hk⟩ => by subst hv; exact hk
theorem par_move {x : Operand} (ho : o.op = .move x) (h : K (a.put o.dst (a.eval x)) w) : o.wp P a w K Q := by
  unfold Oper.wp execOp
  simp only [ho, Sem.run_pure, Oper.upon]
  exact h
theorem par_value {v : Value} {w' : World} (hr : (execOp a.eval o).run P w = .ok (.value v) w') (h : K (a.put o.dst v) w') : o.wp P a w K Q := by
  unfold Oper.wp; rw [hr]; exact h
theorem par_call1 {f : FuncId} {x : Operand} {v : Value} {ts : Array TypeId} {fn : Func} {c : Code} (ho : o.op = .call { callee := .value (.func f), args := #[x], argTypes := ts }) (hf : P.funcs[f]? = some fn) (hname : (fn.name == "runtime.NumGoroutine") = false) (hb : fn.body = some c)
    (hx : a.eval x = v) (h : Calls P f #[v] w fun e w' => ∃ v, e = .returned v ∧ K (a.put o.dst v) w') : o.wp P a w K Q := by
  subst hx; exact par_call ho hf hname hb (by simpa using h)
theorem par_call2 {f : FuncId} {x y : Operand} {v u : Value} {ts : Array TypeId} {fn : Func} {c : Code} (ho : o.op = .call { callee := .value (.func f), args := #[x, y], argTypes := ts }) (hf : P.funcs[f]? = some fn) (hname : (fn.name == "runtime.NumGoroutine") = false) (hb : fn.body = some c)
    (hx : a.eval x = v) (hy : a.eval y = u) (h : Calls P f #[v, u] w fun e w' => ∃ v, e = .returned v ∧ K (a.put o.dst v) w') : o.wp P a w K Q := by
  subst hx; subst hy; exact par_call ho hf hname hb (by simpa using h)
theorem par_alloc {t : TypeId} {z : Value} (ho : o.op = .alloc t) (hz : (zeroValue t).run P w = .ok z w) (h : K (a.put o.dst (.pointer (some ⟨w.heap.size, 0, none⟩))) (w.alloc (.cells z.cells t))) : o.wp P a w K Q := by
  refine par_value (v := .pointer (some ⟨w.heap.size, 0, none⟩)) (w' := w.alloc (.cells z.cells t)) ?_ h
  unfold execOp
  simp only [ho, Instr.alloc, Sem.run_bind, hz, Result.andThen_ok]
  rfl
/-- A free extract of a tuple. -/
theorem free_extract {i : Nat} {x : Operand} {vs : Array Value} {v : Value} (ho : o.op = .extract x i) (hx : a.eval x = .tuple vs) (hv : vs[i]? = some v) (w' : World) : (execOp a.eval o).run P w' = .ok (.value v) w' := by
  unfold execOp
  simp only [ho, hx, Instr.extract, hv, Sem.run_bind, Sem.run_pure, Result.andThen_ok]
end
theorem fill_to {P : Program} {ops : Array Oper} {l : List Oper} {S : World → Prop} {Q : Exit → Act → World → Prop} {sg : List (List Nat × Option Nat)} {vs : Nat → Value} {w : World} :
    ∀ {L : List Nat} {ds : List (Option Tmp)} {a0 : Act}, L.map (dstOf ops) = ds → Shut (wpSegs P ops l S Q sg (fillD (ds.zip (L.map vs)) a0) w) → Shut (wpSegs P ops l S Q sg (fillA ops vs L a0) w)
  | [], ds, a0, hd, h => by subst hd; exact h
  | i :: L, ds, a0, hd, h => by
    subst hd
    exact fill_to (L := L) rfl h
end Go.Proofs.Ythlncohllbmapaa
