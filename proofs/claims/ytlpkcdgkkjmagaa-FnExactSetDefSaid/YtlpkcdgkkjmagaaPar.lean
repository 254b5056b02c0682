/-
  A region that draws its order, where several operations that change the world may come up in whatever order: each leaves a value of which something is known that stays. No condition.
-/
import Derived.Test.YtlpkcdgkkjmagaaSegs
namespace Go.Proofs.Ytlpkcdgkkjmagaa
open Go.RowKit

def dstOf (ops : Array Oper) (i : Nat) : Option Tmp := (ops[i]?).bind (·.dst)
def parB (ops : Array Oper) (R : List Nat) (target : Array Bool) : Nat → Array Bool → Bool
  | 0, listed => R.all (fun i => listed.getD i false) && listed == target
  | n + 1, listed => !(Region.ready .any ops listed).isEmpty && (Region.ready .any ops listed).all fun i => R.contains i && parB ops R target n (listed.setIfInBounds i true)
/-- The dsts are of their own, the operations not guarded. -/
def parOK (ops : Array Oper) (sz : Nat) : List Nat → Bool
  | [] => true
  | i :: R => (match ops[i]? with
      | some o => o.guard.isNone && (match o.dst with
          | some d => decide (d < sz) && R.all (fun j => dstOf ops j != some d)
          | none => false)
      | none => false) && (!R.contains i && parOK ops sz R)
def fillL (ops : Array Oper) (listed : Array Bool) (vs : Nat → Value) : List Nat → Act → Act
  | [], a => a
  | i :: R, a => fillL ops listed vs R (if listed.getD i false = true then a.put (dstOf ops i) (vs i) else a)
def fillA (ops : Array Oper) (vs : Nat → Value) : List Nat → Act → Act
  | [], a => a
  | i :: R, a => fillA ops vs R (a.put (dstOf ops i) (vs i))
section
variable {ops : Array Oper}
theorem fillL_put {listed : Array Bool} {vs : Nat → Value} {d : Option Tmp} {v : Value} : ∀ {R : List Nat} {a : Act}, (∀ j ∈ R, ∀ q, d = some q → dstOf ops j ≠ some q) → fillL ops listed vs R (a.put d v) = (fillL ops listed vs R a).put d v
  | [], a, _ => rfl
  | i :: R, a, h => by
    unfold fillL
    have h1 : ∀ q, d = some q → dstOf ops i ≠ some q := h i (List.mem_cons_self)
    have h2 : ∀ j ∈ R, ∀ q, d = some q → dstOf ops j ≠ some q := fun j hj => h j (List.mem_cons_of_mem _ hj)
    split
    · rw [Act.put_comm a v (vs i) h1, fillL_put h2]
    · rw [fillL_put h2]
theorem fillL_congr {listed listed' : Array Bool} {vs vs' : Nat → Value} : ∀ {R : List Nat} {a : Act}, (∀ j ∈ R, listed.getD j false = listed'.getD j false ∧ vs j = vs' j) → fillL ops listed vs R a = fillL ops listed' vs' R a
  | [], a, _ => rfl
  | i :: R, a, h => by
    unfold fillL
    obtain ⟨h1, h2⟩ := h i (List.mem_cons_self)
    rw [h1, h2]
    exact fillL_congr fun j hj => h j (List.mem_cons_of_mem _ hj)
theorem fillL_add {listed : Array Bool} {vs : Nat → Value} {sz : Nat} {j : Nat} {v : Value} : ∀ {R : List Nat} {a : Act}, parOK ops sz R = true → j ∈ R → j < listed.size → listed.getD j false = false →
    fillL ops (listed.setIfInBounds j true) (fun k => if k = j then v else vs k) R a = (fillL ops listed vs R a).put (dstOf ops j) v
  | [], a, _, hj, _, _ => by cases hj
  | i :: R, a, hok, hj, hs, hf => by
    simp only [parOK, Bool.and_eq_true] at hok
    obtain ⟨h1, h2, h3⟩ := hok
    have hni : i ∉ R := by simpa using h2
    by_cases e : i = j
    · subst e
      have hc : fillL ops (listed.setIfInBounds i true) (fun k => if k = i then v else vs k) R (a.put (dstOf ops i) v) = fillL ops listed vs R (a.put (dstOf ops i) v) :=
        fillL_congr fun k hk => by
          have hki : k ≠ i := fun e => hni (e ▸ hk)
          exact ⟨by rw [getD_set_ne false (Ne.symm hki)], by simp [hki]⟩
      have hd : ∀ k ∈ R, ∀ q, dstOf ops i = some q → dstOf ops k ≠ some q := fun k hk q hq e => by
        cases ho : ops[i]? with
        | none => rw [ho] at h1; simp at h1
        | some o =>
          rw [ho] at h1
          cases hd : o.dst with
          | none => simp [hd] at h1
          | some d =>
            simp [hd] at h1
            have : q = d := by unfold dstOf at hq; rw [ho] at hq; simp [hd] at hq; exact hq.symm
            subst this
            exact h1.2.2 k hk e
      have e1 : fillL ops listed vs (i :: R) a = fillL ops listed vs R a := by
        show fillL ops listed vs R (if listed.getD i false = true then a.put (dstOf ops i) (vs i) else a) = _
        rw [if_neg (by rw [hf]; simp)]
      have e2 : fillL ops (listed.setIfInBounds i true) (fun k => if k = i then v else vs k) (i :: R) a = fillL ops (listed.setIfInBounds i true) (fun k => if k = i then v else vs k) R (a.put (dstOf ops i) v) := by
        show fillL ops (listed.setIfInBounds i true) _ R (if (listed.setIfInBounds i true).getD i false = true then a.put (dstOf ops i) (if i = i then v else vs i) else a) = _
        rw [if_pos (by simp [hs]), if_pos rfl]
      rw [e1, e2, hc, fillL_put hd]
    · have hjR : j ∈ R := by
        rcases List.mem_cons.1 hj with h | h
        · exact (e h.symm).elim
        · exact h
      unfold fillL
      rw [getD_set_ne false (Ne.symm e), if_neg e]
      exact fillL_add h3 hjR hs hf
theorem fillL_all {listed : Array Bool} {vs : Nat → Value} : ∀ {R : List Nat} {a : Act}, (∀ j ∈ R, listed.getD j false = true) → fillL ops listed vs R a = fillA ops vs R a
  | [], a, _ => rfl
  | i :: R, a, h => by
    unfold fillL fillA
    rw [if_pos (h i (List.mem_cons_self))]
    exact fillL_all fun j hj => h j (List.mem_cons_of_mem _ hj)
theorem fillL_none {listed : Array Bool} {vs : Nat → Value} : ∀ {R : List Nat} {a : Act}, (∀ j ∈ R, listed.getD j false = false) → fillL ops listed vs R a = a
  | [], a, _ => rfl
  | i :: R, a, h => by
    unfold fillL
    rw [if_neg (by rw [h i (List.mem_cons_self)]; simp)]
    exact fillL_none fun j hj => h j (List.mem_cons_of_mem _ hj)
theorem put_getD_ne {a : Act} {d : Option Tmp} {v : Value} {s : Nat} (h : d ≠ some s) : (a.put d v).tmps.getD s undef = a.tmps.getD s undef := by
  cases d with
  | none => rfl
  | some q =>
    have : q ≠ s := fun e => h (by rw [e])
    simp [Act.put, Array.getElem?_setIfInBounds_ne this]
theorem put_size {a : Act} {d : Option Tmp} {v : Value} : (a.put d v).tmps.size = a.tmps.size := by
  cases d <;> simp [Act.put]
theorem fillL_frame {listed : Array Bool} {vs : Nat → Value} {s : Nat} : ∀ {R : List Nat} {a : Act}, (∀ j ∈ R, dstOf ops j ≠ some s) → (fillL ops listed vs R a).tmps.getD s undef = a.tmps.getD s undef
  | [], a, _ => rfl
  | i :: R, a, h => by
    unfold fillL
    rw [fillL_frame fun j hj => h j (List.mem_cons_of_mem _ hj)]
    split
    · exact put_getD_ne (h i (List.mem_cons_self))
    · rfl
theorem fillL_size {listed : Array Bool} {vs : Nat → Value} : ∀ {R : List Nat} {a : Act}, (fillL ops listed vs R a).tmps.size = a.tmps.size
  | [], a => rfl
  | i :: R, a => by
    unfold fillL
    rw [fillL_size]
    split
    · exact put_size
    · rfl
theorem fillL_at {listed : Array Bool} {vs : Nat → Value} {j d : Nat} : ∀ {R : List Nat} {a : Act}, parOK ops a.tmps.size R = true → j ∈ R → listed.getD j false = true → dstOf ops j = some d → (fillL ops listed vs R a).tmps.getD d undef = vs j
  | [], a, _, hj, _, _ => by cases hj
  | i :: R, a, hok, hj, hf, hd => by
    have hok' := hok
    simp only [parOK, Bool.and_eq_true] at hok
    obtain ⟨h1, h2, h3⟩ := hok
    have hsz : (if listed.getD i false = true then a.put (dstOf ops i) (vs i) else a).tmps.size = a.tmps.size := by split <;> simp [put_size]
    by_cases hjR : j ∈ R
    · unfold fillL
      exact fillL_at (by rw [hsz]; exact h3) hjR hf hd
    · have e : j = i := by rcases List.mem_cons.1 hj with h | h; exact h; exact (hjR h).elim
      subst e
      cases ho : ops[j]? with
      | none => rw [ho] at h1; simp at h1
      | some o =>
        rw [ho] at h1
        have hod : o.dst = some d := by unfold dstOf at hd; rw [ho] at hd; simpa using hd
        simp [hod] at h1
        unfold fillL
        rw [if_pos hf, fillL_frame fun k hk => h1.2.2 k hk, hd]
        simp [Act.put, h1.2.1]
end
theorem parB_ops {ops : Array Oper} {sz : Nat} : ∀ {R : List Nat}, parOK ops sz R = true → ∀ i ∈ R, ∃ o d, ops[i]? = some o ∧ o.guard = none ∧ o.dst = some d ∧ d < sz
  | [], _, i, hi => by cases hi
  | k :: R, hok, i, hi => by
    simp only [parOK, Bool.and_eq_true] at hok
    obtain ⟨h1, h2, h3⟩ := hok
    rcases List.mem_cons.1 hi with e | e
    · subst e
      cases ho : ops[i]? with
      | none => rw [ho] at h1; simp at h1
      | some o =>
        rw [ho] at h1
        cases hd : o.dst with
        | none => simp [hd] at h1
        | some d => simp [hd] at h1; exact ⟨o, d, rfl, h1.1, hd, h1.2.1⟩
    · exact parB_ops h3 i e
section
variable {P : Program} {ops : Array Oper} {S : World → Prop} {Q : Exit → Act → World → Prop}
theorem wpAnyH_of_par {R : List Nat} {target : Array Bool} {a0 : Act} {n2 : Nat} (T : World → World → Prop) (hTt : ∀ {a b c}, T a b → T b c → T a c) (Post : Nat → Value → World → Prop) (hst : ∀ i v w w', T w w' → Post i v w → Post i v w')
    (hok : parOK ops a0.tmps.size R = true) {w0 : World}
    (step : ∀ i ∈ R, ∀ o, ops[i]? = some o → ∀ (a : Act) (w : World), T w0 w → S w →
      (∀ j ∈ R, (∃ e ∈ o.after, Region.binds .any e = true ∧ e.on = j) → ∀ d, dstOf ops j = some d → Post j (a.tmps.getD d undef) w) →
      (∀ s, (∀ j ∈ R, dstOf ops j ≠ some s) → a.tmps.getD s undef = a0.tmps.getD s undef) →
      ∀ K : Act → World → Prop, (∀ v w', T w w' → S w' → Post i v w' → K (a.put o.dst v) w') → o.wp P a w K Q)
    (fin : ∀ (vs : Nat → Value) (w : World), T w0 w → S w → (∀ i ∈ R, Post i (vs i) w) → wpAnyH P .any ops Q S n2 target (fillA ops vs R a0) w) :
    ∀ (n : Nat) (listed : Array Bool) (vs : Nat → Value) (w : World), T w0 w → S w → listed.size = ops.size → parB ops R target n listed = true → (∀ i ∈ R, listed.getD i false = true → Post i (vs i) w) →
      wpAnyH P .any ops Q S (n + n2) listed (fillL ops listed vs R a0) w
  | 0, listed, vs, w, hT, hS, _, hB, hI => by
    simp only [parB, Bool.and_eq_true, beq_iff_eq] at hB
    obtain ⟨hall, rfl⟩ := hB
    have hall' : ∀ j ∈ R, listed.getD j false = true := fun j hj => by simpa using List.all_eq_true.1 hall j hj
    rw [fillL_all hall', Nat.zero_add]
    exact fin vs w hT hS fun i hi => hI i hi (hall' i hi)
  | n + 1, listed, vs, w, hT, hS, hsz, hB, hI => by
    simp only [parB, Bool.and_eq_true, Bool.not_eq_true', List.all_eq_true] at hB
    obtain ⟨hne, hall⟩ := hB
    rw [Nat.add_right_comm]
    refine wpAnyH_all rfl (by intro e; rw [e] at hne; simp at hne) fun i hi => ?_
    obtain ⟨hR, hrest⟩ := hall i hi
    have hiR : i ∈ R := by simpa using hR
    obtain ⟨o, d, ho, hg, hd, hlt⟩ := parB_ops hok i hiR
    obtain ⟨hun, o', ho', hall'⟩ := mem_ready.1 hi
    have : o' = o := Option.some.inj (ho'.symm.trans ho)
    subst this
    have hdst : dstOf ops i = o'.dst := by unfold dstOf; rw [ho]; rfl
    have hil : i < listed.size := by rw [hsz]; exact (Array.getElem?_eq_some_iff.1 ho).1
    have hf : listed.getD i false = false := by simpa [hil] using hun
    unfold wpOp
    simp only [ho]
    rw [if_pos (by simp [Region.wanted, hg])]
    refine .inl (step i hiR o' ho _ w hT hS (fun j hj ⟨e, he, hb, hej⟩ dj hdj => ?_) (fun s hs => fillL_frame hs) _ fun v w' hT' hS' hP => ⟨hS', ?_⟩)
    · have hl := hall' e he hb
      rw [hej] at hl
      rw [fillL_at hok hj hl hdj]
      exact hI j hj hl
    · rw [← hdst, ← fillL_add hok hiR hil hf]
      refine wpAnyH_of_par T hTt Post hst hok step fin n _ _ w' (hTt hT hT') hS' (by simpa using hsz) hrest fun j hj hl => ?_
      by_cases e : j = i
      · subst e; simpa using hP
      · rw [getD_set_ne false (Ne.symm e)] at hl
        simp only [e, if_false]
        exact hst j _ _ _ hT' (hI j hj hl)
end
/-- First the free ones (fs), then R in whatever order, then segments. -/
def wpPar (P : Program) (ops : Array Oper) (l : List Oper) (S : World → Prop) (Q : Exit → Act → World → Prop) (R : List Nat) (sg : List (List Nat × Option Nat)) (a0 : Act) (w0 : World) : Prop :=
  parOK ops a0.tmps.size R = true ∧ ∃ Post : Nat → Value → World → Prop, (∀ i v w w', Grow w w' → Post i v w → Post i v w') ∧
    (∀ i ∈ R, ∀ o, ops[i]? = some o → ∀ (a : Act) (w : World), Grow w0 w → S w →
      (∀ j ∈ R, (∃ e ∈ o.after, Region.binds .any e = true ∧ e.on = j) → ∀ d, dstOf ops j = some d → Post j (a.tmps.getD d undef) w) →
      (∀ s, (∀ j ∈ R, dstOf ops j ≠ some s) → a.tmps.getD s undef = a0.tmps.getD s undef) →
      ∀ K : Act → World → Prop, (∀ v w', Grow w w' → S w' → Post i v w' → K (a.put o.dst v) w') → o.wp P a w K Q) ∧
    ∀ (vs : Nat → Value) (w : World), Grow w0 w → S w → (∀ i ∈ R, Post i (vs i) w) → wpSegs P ops l S Q sg (fillA ops vs R a0) w
def listed1 (n : Nat) (fs : List Nat) : Array Bool := fs.foldl (fun l i => l.setIfInBounds i true) (Array.replicate n false)
theorem mixFree_listed {ops : Array Oper} : ∀ {fs : List Nat} {listed l' : Array Bool}, mixFree ops fs listed = some l' → l' = fs.foldl (fun l i => l.setIfInBounds i true) listed
  | [], _, _, h => by simp [mixFree] at h; simp [h]
  | i :: fs, listed, l', h => by
    simp only [mixFree] at h
    split at h
    · simpa using mixFree_listed h
    · cases h
theorem wp_region_par {P : Program} {S : World → Prop} {Q : Exit → Act → World → Prop} {id : Nat} {l : List Oper} {a : Act} {w : World} (fs R : List Nat) (sg : List (List Nat × Option Nat)) (hm : P.follows .mixedOrders = true)
    (hB : (Region.noSelect l.toArray && ((fs.length + (R.length + segsN sg) == l.length && (fs.all (· < l.length) && segsIn l.length sg)) && ((mixFree l.toArray fs (Array.replicate l.length false)).isSome &&
      (R.all (fun i => !(listed1 l.length fs).getD i false) && (parB l.toArray R (listed1 l.length (fs ++ R)) R.length (listed1 l.length fs) && segsB l.toArray sg (listed1 l.length (fs ++ R))))))) = true)
    (hQ : ∀ c (a : Act) d v w, Q (.panic c) (a.put (some d) v) w → Q (.panic c) a w) (hS : S w.drew) (h : wpQuiet P l.toArray S (fun a' => wpPar P l.toArray l S Q R sg a' w.drew) (pickL l fs) a) : (Code.region id l.toArray true).wp P Q a w := by
  simp only [Bool.and_eq_true, beq_iff_eq] at hB
  obtain ⟨hsel, ⟨hn, hin1, hin2⟩, hF, hR0, hp, hs⟩ := hB
  obtain ⟨l1, hl1⟩ := Option.isSome_iff_exists.1 hF
  have e1 := mixFree_listed hl1
  have hsz : (listed1 l.length fs).size = l.length := by
    unfold listed1
    have : ∀ (fs : List Nat) (q : Array Bool), (fs.foldl (fun l i => l.setIfInBounds i true) q).size = q.size := by
      intro fs
      induction fs with
      | nil => intro q; rfl
      | cons i fs ih => intro q; simp [ih]
    rw [this]; simp
  refine wp_region_held (S := S) hm ?_
  have := wpAnyH_of_free (P := P) (ops := l.toArray) (S := S) (Q := Q) hsel hQ hS (R.length + segsN sg) (fun a' => wpPar P l.toArray l S Q R sg a' w.drew) fs (pickL l fs) (Array.replicate l.length false) l1 a (pickL_spec hin1) hl1 h
    (fun a0 ⟨hok, Post, hst, step, fin⟩ => by
      have hr0 : ∀ j ∈ R, (listed1 l.length fs).getD j false = false := fun j hj => by simpa using List.all_eq_true.1 hR0 j hj
      have hl1' : l1 = listed1 l.length fs := e1
      have key := wpAnyH_of_par (P := P) (ops := l.toArray) (S := S) (Q := Q) (R := R) (target := listed1 l.length (fs ++ R)) (a0 := a0) (n2 := segsN sg) Grow (fun h k => h.trans k) Post hst hok step
        (fun vs w' hT hS' hI => wpAnyH_of_segs l rfl hsel hQ sg _ _ w' hS' hin2 hs (fin vs w' hT hS' hI)) R.length (listed1 l.length fs) (fun _ => undef) w.drew (Grow.refl _) hS (by simpa using hsz) hp (fun i hi hl => by rw [hr0 i hi] at hl; cases hl)
      rw [fillL_none hr0] at key
      rw [hl1']; exact key)
  rw [hn] at this
  simpa using this
end Go.Proofs.Ytlpkcdgkkjmagaa
