/-
  l32Put: a simplex put into its place, once.
-/
import Derived.Test.YtjepiemflpjjhaaGreatZBase
import Derived.Test.YtjepiemflpjjhaaGreatZOrder
import Derived.Test.YtjepiemflpjjhaaGreatZRdc
set_option maxHeartbeats 8000000
set_option maxRecDepth 100000
namespace Go.Proofs.YtjepiemflpjjhaaGreat
open Go.RowKit
def putS : List (List Int) → List Int → List (List Int)
 | [], s => [s]
 | x :: r, s => if beforeB x s then x :: putS r s else if sameI x s then x :: r else s :: x :: r
theorem putS_at : ∀ {l : List (List Int)} {k : Nat} {s : List Int}, (∀ x ∈ l.take k, beforeB x s = true) → k ≤ l.length → putS l s = l.take k ++ putS (l.drop k) s
 | l, 0, s, _, _ => by simp
 | [], k + 1, s, _, h => by simp at h
 | x :: r, k + 1, s, h, hk => by
  have hx := h x (by simp)
  simp only [putS, hx, if_true, List.take_succ_cons, List.drop_succ_cons, List.cons_append]
  rw [putS_at (l := r) (k := k) (fun y hy => h y (by simp [hy])) (by simpa using hk)]
theorem putS_len : ∀ (l : List (List Int)) (s : List Int), (putS l s).length ≤ l.length + 1
 | [], s => by simp [putS]
 | x :: r, s => by
  have := putS_len r s
  simp only [putS]
  split
  ·simp; omega
  ·split <;> simp
def PutPost (z k : Nat) (vs : List Value) (x : List Int) : Nat → Value → World → Prop
 | 0, v, w => ∃ g, v = .slice (some ⟨g, 0, none⟩) 0 0 ∧ z ≤ g ∧ Own w 27 1 (some ⟨g, 0, none⟩) 0 0 []
 | 4, v, w => ∃ a c, v = .slice a k c ∧ (∀ g, blk a = some g → z ≤ g) ∧ Own w 27 1 a k c (vs.take k)
 | 5, v, _ => ∃ g, v = .slice (some ⟨g, 0, none⟩) 0 0
 | 7, v, w => ∃ g c, v = .slice (some ⟨g, 0, none⟩) x.length c ∧ z ≤ g ∧ Own w 3 1 (some ⟨g, 0, none⟩) x.length c (ints x)
 | _, _, _ => True
theorem PutPost.stays {z k : Nat} {vs : List Value} {x : List Int} : ∀ i v w w', Grow w w' → PutPost z k vs x i v w → PutPost z k vs x i v w' := fun i v w w' hG h => by
 unfold PutPost at *
 split at h
 ·obtain ⟨g, h1, h2, h3⟩ := h; exact ⟨g, h1, h2, h3.grow hG⟩
 ·obtain ⟨a, c, h1, h2, h3⟩ := h; exact ⟨a, c, h1, h2, h3.grow hG⟩
 ·exact h
 ·obtain ⟨g, c, h1, h2, h3⟩ := h; exact ⟨g, c, h1, h2, h3.grow hG⟩
 ·trivial
theorem Row.suf {w : World} {S : Nat → Prop} {a : Option Addr} {n cap k : Nat} {cs : List Value} (h : Row w S 1 a n cap cs) (hk : k ≤ n) : Row w S 1 (subA a cap k 1) (n - k) (cap - k) (cs.drop k) := by
 have hl := h.len
 have hle := h.le
 refine ⟨by simp; omega, by omega, by have := h.max; omega, fun e => ?_, fun hne => ?_⟩
 ·cases a with
  | none => have := h.nil rfl; omega
  | some p =>
   unfold subA at e
   split at e <;> simp at e
 ·have hlt : k < cs.length := by
   rcases Nat.lt_or_ge k cs.length with h1 | h1
   ·exact h1
   ·rw [List.drop_of_length_le h1] at hne; exact (hne rfl).elim
  obtain ⟨b, off, rfl, hS, hc⟩ := h.addr (by intro e; rw [e] at hlt; simp at hlt)
  refine ⟨b, off + k, ?_, hS, fun j c hj => ?_⟩
  ·unfold subA
   rw [if_neg (by omega)]
   simp [Addr.add]
  ·rw [List.getElem?_drop] at hj
   rw [Nat.add_assoc]; exact hc _ _ hj
theorem RdCells.put {w : World} {S : Nat → Prop} {vs : List Value} {l : List (List Int)} {k : Nat} {b : Option Addr} {c : Nat} {s : List Int} (h : RdCells w S vs l) (hl : vs.length = l.length) (hk : k ≤ l.length) (hs : RdI w S b s.length c s) :
  RdCells w S ((vs.take k ++ [.slice b s.length c]) ++ vs.drop k) ((l.take k ++ [s]) ++ l.drop k) := by
 intro i xs hi
 have e1 : (vs.take k ++ [Value.slice b s.length c]).length = k + 1 := by simp; omega
 have e2 : (l.take k ++ [s]).length = k + 1 := by simp; omega
 by_cases h1 : i < k + 1
 ·rw [List.getElem?_append_left (by omega)] at hi ⊢
  by_cases h2 : i < k
  ·rw [List.getElem?_append_left (by simp; omega), List.getElem?_take_of_lt h2] at hi ⊢
   exact h i xs hi
  ·obtain rfl : i = k := by omega
   rw [List.getElem?_append_right (by simp; omega)] at hi
   rw [List.getElem?_append_right (by simp; omega)]
   have e3 : i - (l.take i).length = 0 := by simp; omega
   have e4 : i - (vs.take i).length = 0 := by simp; omega
   rw [e3] at hi
   rw [e4]
   simp at hi
   subst hi
   exact ⟨b, c, rfl, hs⟩
 ·rw [List.getElem?_append_right (by omega), List.getElem?_drop] at hi
  rw [List.getElem?_append_right (by omega), List.getElem?_drop]
  rw [e2] at hi
  rw [e1]
  exact h _ xs hi
theorem RdCells.one {w : World} {S : Nat → Prop} {vs : List Value} {l : List (List Int)} (h : RdCells w S vs l) (hl : vs.length = l.length) : ∀ u ∈ vs, u.oneCell' = true := by
 intro u hu
 obtain ⟨i, hi, rfl⟩ := List.mem_iff_getElem.1 hu
 obtain ⟨b, c, h1, _⟩ := h i _ (List.getElem?_eq_getElem (by omega))
 rw [List.getElem?_eq_getElem hi] at h1
 rw [Option.some.inj h1]; rfl
theorem l32Put_c {S T : Nat → Prop} (a b : Option Addr) (n m cap cap' : Nat) (l : List (List Int)) (s : List Int) (w : World) (h : RdII w S a n cap l) (h' : RdI w T b m cap' s) (hn : n ≤ 1048576) (ht : total l ≤ 2097152) (hm : m ≤ 1048576) (hs : 1 ≤ m) :
  Calls Tryz.prog 117 #[.slice a n cap, .slice b m cap'] w fun e w' => ∃ a' n' c', e = .returned (.slice a' n' c') ∧ RdII w' (fun g => S g ∨ w.heap.size ≤ g) a' n' c' (putS l s) ∧ Grow w w' := by
 have Hl := Lib.hid h.len
 have hml : s.length = m := h'.len
 subst hml
 go_enter Tryz.func117, Tryz.ntmps117
 go_wp2
 go_loopw [5] (fun i wr => Grow w wr ∧ ∃ k : Nat, k ≤ n ∧ i = .int .i64 k ∧ ∀ x ∈ l.take k, beforeB x s = true) (fun i _ => n - (intOf i).toNat)
 case atStart => exact ⟨Grow.refl _, 0, Nat.zero_le _, rfl, by simp⟩
 case round =>
  obtain ⟨hG, k, hk, rfl, hb⟩ := hrel
  have Hb := Lib.hid hb; clear hb
  by_cases hlt : k < n
  ·obtain ⟨b1, off, x, xa, xc, rfl, hx, hSb, hbw, hc, rx⟩ := (h.grow hG).at hlt
   have htx := total_at hx
   have Hx := Lib.hid hx; clear hx
   cases hbf : beforeB x s with
   | true =>
    have Hbf := Lib.hid hbf; clear hbf
    go_wp2_with fail
    refine (l32Before_c _ _ _ _ _ _ x s _ rx (h'.grow hG) (by omega) (by omega)).mono ?_
    rintro e w1 ⟨rfl, hG1⟩
    rw [Hbf.out]
    go_wp2
    go_roundw
    case rel =>
     refine ⟨hG.trans hG1.grow, k + 1, by omega, by go_num, fun z hz => ?_⟩
     rw [take_succ Hx.out, List.mem_append, List.mem_singleton] at hz
     rcases hz with hz | rfl
     ·exact Hb.out z hz
     ·exact Hbf.out
    case measure => simp [intOf]; omega
   | false =>
    have Hbf := Lib.hid hbf
    have hat := putS_at (s := s) Hb.out (by rw [Hl.out]; exact hk)
    have hdr : l.drop k = x :: l.drop (k + 1) := by
     obtain ⟨hj, rfl⟩ := List.getElem?_eq_some_iff.1 Hx.out
     exact List.drop_eq_getElem_cons hj
    cases hsm : sameI x s with
    | true =>
     have hput : putS l s = l := by
      rw [hat, hdr]
      simp only [putS, hbf, hsm, if_true]
      rw [if_neg (by simp), ← hdr, List.take_append_drop]
     have Hsm := Lib.hid hsm
     clear hat hdr hsm hbf
     go_wp2_with fail
     refine (l32Before_c _ _ _ _ _ _ x s _ rx (h'.grow hG) (by omega) (by omega)).mono ?_
     rintro e w1 ⟨rfl, hQ1⟩
     rw [Hbf.out]
     have hG1 := hQ1.grow
     have hc1 := hG1.cell hc
     go_wp2_with fail
     refine (l32Same_c _ _ _ _ _ _ x s _ (rx.grow hG1) ((h'.grow hG).grow hG1) (by omega) (by omega)).mono ?_
     rintro e w3 ⟨rfl, hQ2⟩
     rw [Hsm.out]
     have hG3 := (hG.trans hG1).trans hQ2.grow
     go_wp2
     go_ret
     exact ⟨_, _, _, rfl, by rw [hput]; exact (h.grow hG3).weak fun _ _ hb => .inl hb, hG3⟩
    | false =>
     have hput : putS l s = (l.take k ++ [s]) ++ l.drop k := by
      rw [hat, hdr]
      simp only [putS, hbf, hsm]
      simp
     have Hsm := Lib.hid hsm
     clear hat hdr hsm hbf
     go_wp2_with fail
     refine (l32Before_c _ _ _ _ _ _ x s _ rx (h'.grow hG) (by omega) (by omega)).mono ?_
     rintro e w1 ⟨rfl, hQ1⟩
     rw [Hbf.out]
     have hG1 := hQ1.grow
     have hc1 := hG1.cell hc
     go_wp2_with fail
     refine (l32Same_c _ _ _ _ _ _ x s _ (rx.grow hG1) ((h'.grow hG).grow hG1) (by omega) (by omega)).mono ?_
     rintro e w3 ⟨rfl, hQ2⟩
     rw [Hsm.out]
     have hG3 := (hG.trans hG1).trans hQ2.grow
     clear hQ1 hQ2 hG1 hc1 hc rx
     generalize (some (⟨b1, off, none⟩ : Addr)) = a at *
     obtain ⟨⟨vs, hV1, hV2⟩, hV3⟩ := h.grow hG3
     replace hV2 : RdCells w3 S vs l := hV2
     have hvl : vs.length = n := by have := hV1.len; omega
     have hlen := Hl.out
     have r3 := h'.grow hG3
     have hle := hV1.le
     have hs3 := hG3.size
     have hV4 : RdCells w3 (fun g => S g ∨ w.heap.size ≤ g) vs l := hV2.weak fun _ _ hb => .inl hb
     have h1c := hV2.one (by omega)
     have hR1 := T_intss.atH (a := a) (n := n) (cap := cap) (k := k) (i := k) rfl (by omega)
     have hR2 := T_intss.atL (a := a) (n := n) (cap := cap) (l := k) (i := k) rfl hk
     go_wp2
     refine wp_region_par (S := Grow w3) [1, 2, 3, 6, 10, 11, 12] [0, 4, 5, 7] [] [([], some 8), ([], some 9), ([], some 13), ([14], none)] P_mixed (by kernel_rfl) (fun _ _ _ _ _ h => h) (Grow.refl _).drew ?_
     show wpQuiet _ _ _ _ [_, _, _, _, _, _, _] _
     repeat (first | go_big_quiet_skip | (go_big_quiet_want; first | (apply quiet_sliceH (x := .tmp 34) (h := .tmp 35); rfl; exact hR1; go_big_quiet_on; simp only [Act.put, List.setIfInBounds_toArray, List.set_cons_succ, List.set_cons_zero]) | (apply quiet_sliceL (x := .tmp 43) (l := .tmp 44); rfl; exact hR2; go_big_quiet_on; simp only [Act.put, List.setIfInBounds_toArray, List.set_cons_succ, List.set_cons_zero]) | (go_big_quiet_op; first | go_big_quiet_on | (refine ⟨_, (fun _ _ => rfl), ?_⟩; go_big_quiet_on))))
     refine wpQuiet_nil ?_
     refine ⟨by kernel_rfl, PutPost w3.heap.size k vs s, fun _ _ => none, PutPost.stays, (fun _ _ _ _ _ h => by cases h), (fun _ h _ => by cases h), ?_, (fun _ h => by cases h), ?_⟩
     ·intro i hi o' ho' a' w4 hGw hSw hdep hfr K hK
      have hs4 := (show Grow w3 w4 from hSw).size
      simp only [List.mem_cons, List.not_mem_nil, or_false] at hi
      rcases hi with rfl | rfl | rfl | rfl
      ·obtain rfl := Option.some.inj (show some _ = some _ from ho')
       refine par_built0 rfl T_intss ?_
       exact hK _ _ ((Grow.refl _).alloc _ _) (hSw.alloc _ _) ⟨_, rfl, hs4, Own.freshAt rfl (by unfold maxLen; omega) rfl⟩ (fun _ h => by cases h)
      ·obtain rfl := Option.some.inj (show some _ = some _ from ho')
       obtain ⟨g, e, hz, hE⟩ : ∃ g, a'.tmps.getD 33 undef = .slice (some ⟨g, 0, none⟩) 0 0 ∧ w3.heap.size ≤ g ∧ Own w4 27 1 (some ⟨g, 0, none⟩) 0 0 [] := hdep 0 (by decide) ⟨⟨0, .data⟩, by simp, rfl, rfl⟩ 33 rfl
       have e36 : a'.eval (.tmp 36) = .slice a k cap := hfr 36 (by decide)
       by_cases hk0 : k = 0
       ·rw [hk0] at e36
        refine par_app_nil (s := .tmp 33) (x := .tmp 36) rfl T_intss e e36 ?_
        exact hK _ _ (Grow.refl _) hSw ⟨_, 0, by rw [hk0], fun q hq => by simp at hq; omega, by rw [hk0]; exact hE⟩ (fun _ h => by cases h)
       ·have hpre := (hV1.pre hk).grow hSw
        rw [Nat.mul_one] at hpre
        refine par_app (s := .tmp 33) (x := .tmp 36) rfl T_intss e (Row.emptyAt (S := fun _ => True)) e36 hpre (by omega) (by omega) (by unfold maxLen; omega) ?_
        intro c' w5 h1 h2
        rw [Nat.zero_add] at h1 ⊢
        exact hK _ _ h2 (hSw.trans h2) ⟨_, c', rfl, fun q hq => by simp at hq; omega, h1⟩ (fun _ h => by cases h)
      ·obtain rfl := Option.some.inj (show some _ = some _ from ho')
       refine par_built0 rfl T_ints ?_
       exact hK _ _ ((Grow.refl _).alloc _ _) (hSw.alloc _ _) ⟨_, rfl⟩ (fun _ h => by cases h)
      ·obtain rfl := Option.some.inj (show some _ = some _ from ho')
       obtain ⟨g, e⟩ : ∃ g, a'.tmps.getD 38 undef = .slice (some ⟨g, 0, none⟩) 0 0 := hdep 5 (by decide) ⟨⟨5, .data⟩, by simp, rfl, rfl⟩ 38 rfl
       refine par_app (s := .tmp 38) (x := .tmp 39) rfl T_ints e (Row.emptyAt (S := fun _ => True)) (hfr 39 (by decide)) (r3.grow hSw).row (by omega) (by omega) (by unfold maxLen; omega) ?_
       intro c' w5 h1 h2
       rw [Nat.zero_add] at h1 ⊢
       exact hK _ _ h2 (hSw.trans h2) ⟨_, c', rfl, by omega, h1⟩ (fun _ h => by cases h)
     intro vs' w4 hGw hSw hP _
     apply fill_to
     ·show _ = ([some 33, some 37, some 38, some 40] : List (Option Tmp))
      kernel_rfl
     simp only [fillD, List.cons_append, List.nil_append, List.map_cons, List.map_nil, List.zip_cons_cons, List.zip_nil_right, Act.put, List.setIfInBounds_toArray, List.set_cons_succ, List.set_cons_zero]
     refine ⟨?_⟩
     have hgw : Grow w3 w4 := hSw
     have hs4 := hgw.size
     obtain ⟨a2, c2, e4, hz2, O4⟩ : ∃ a c, vs' 4 = .slice a k c ∧ (∀ g, blk a = some g → w3.heap.size ≤ g) ∧ Own w4 27 1 a k c (vs.take k) := hP 4 (by decide)
     obtain ⟨g7, c7, e7, hz7, o7⟩ : ∃ g c, vs' 7 = .slice (some ⟨g, 0, none⟩) s.length c ∧ w3.heap.size ≤ g ∧ Own w4 3 1 (some ⟨g, 0, none⟩) s.length c (ints s) := hP 7 (by decide)
     rw [e4, e7]
     clear hP e4 e7
     show wpQuiet _ _ _ _ [] _
     apply wpQuiet_nil
     apply seg_go rfl
     intro K hK
     go_wp2_with fail
     refine hK _ _ (hSw.alloc _ _) ?_
     clear hK K
     show wpQuiet _ _ _ _ [] _
     try (conv => arg 6; simp only [Act.put, List.setIfInBounds_toArray, List.set_cons_succ, List.set_cons_zero])
     refine wpQuiet_nil ?_
     refine seg_go rfl (fun K hK => ?_)
     have hGz := (Grow.refl w4).alloc #[.slice (some ⟨g7, 0, none⟩) s.length c7] 27
     refine op_app rfl T_intss rfl (O4.grow hGz) rfl (Row.built (S := fun _ => True) 1 (by unfold maxLen; omega) rfl trivial) (by simp [Value.oneCell']) (by omega) (by unfold maxLen; omega) ?_
     intro a3 c3 w5 hA5
     have hG5 : Grow w3 w5 := hA5.grow (hgw.trans hGz) hz2
     have hl3 := hA5.lo (B := w3.heap.size) (by have := hGz.size; omega) hz2
     have n7 := Own.ne_own (O4.grow hGz) (o7.grow hGz) (by decide)
     have o75 := (o7.grow hGz).keep hA5.keep (fun g hg _ e => n7 g e hg)
     have O5 := hA5.own
     have hs5 := hG5.size
     refine hK _ _ hG5 ?_
     clear hK K hA5 O4 o7 n7 hGz hSw hgw hGw hz2
     show wpQuiet _ _ _ _ [] _
     try (conv => arg 6; simp only [Act.put, List.setIfInBounds_toArray, List.set_cons_succ, List.set_cons_zero])
     refine wpQuiet_nil ?_
     refine seg_go rfl (fun K hK => ?_)
     refine op_app rfl T_intss rfl O5 rfl ((hV1.suf hk).grow hG5) (fun u hu => h1c u (List.mem_of_mem_drop hu)) (by omega) (by unfold maxLen; omega) ?_
     intro a6 c6 w6 hA6
     have hG6 : Grow w3 w6 := hA6.grow hG5 hl3
     have hl6 := hA6.lo (B := w3.heap.size) hs5 hl3
     have n76 := Own.ne_own O5 o75 (by decide)
     have q7 := (o75.keep hA6.keep (fun g hg _ e => n76 g e hg)).rdI (S := fun g => S g ∨ w.heap.size ≤ g) (fun g hg => by simp at hg; exact .inr (by omega)) h'.rng
     have hrow := hA6.own.row (S := fun g => S g ∨ w.heap.size ≤ g) (fun g hg => .inr (by have := hl6 g hg; omega))
     have hcells := (hV4.grow hG6).put (k := k) (by omega) (by omega) q7
     have hfin : RdII w6 (fun g => S g ∨ w.heap.size ≤ g) a6 (k + 1 + (n - k)) c6 (putS l s) := by
      rw [hput]; exact ⟨⟨_, hrow, hcells⟩, by simp; omega⟩
     refine hK _ _ hG6 ?_
     clear hK K hA6 O5 o75 n76 q7 hrow hcells
     show wpQuiet _ _ _ _ [_] _
     try (conv => arg 6; simp only [Act.put, List.setIfInBounds_toArray, List.set_cons_succ, List.set_cons_zero])
     repeat (first | go_big_quiet_skip | (go_big_quiet_want; first | (apply quiet_sliceH (x := .tmp 34) (h := .tmp 35); rfl; exact hR1; go_big_quiet_on; simp only [Act.put, List.setIfInBounds_toArray, List.set_cons_succ, List.set_cons_zero]) | (apply quiet_sliceL (x := .tmp 43) (l := .tmp 44); rfl; exact hR2; go_big_quiet_on; simp only [Act.put, List.setIfInBounds_toArray, List.set_cons_succ, List.set_cons_zero]) | (go_big_quiet_op; first | go_big_quiet_on | (refine ⟨_, (fun _ _ => rfl), ?_⟩; go_big_quiet_on))))
     refine wpQuiet_nil ?_
     refine wpSegs_nil ?_
     go_wp2
     go_ret
     exact ⟨_, _, _, rfl, hfin, hG3.trans hG6⟩
  ·have hkn : k = n := by omega
   have hput : putS l s = (l.take k ++ [s]) ++ l.drop k := by
    rw [putS_at (s := s) Hb.out (by rw [Hl.out]; exact hk), List.drop_of_length_le (by rw [Hl.out]; omega)]
    simp [putS]
   generalize hww : wr = w3 at *
   clear hww
   have hG3 := hG
   clear hkn
   go_wp2
   obtain ⟨⟨vs, hV1, hV2⟩, hV3⟩ := h.grow hG3
   replace hV2 : RdCells w3 S vs l := hV2
   have hvl : vs.length = n := by have := hV1.len; omega
   have hlen := Hl.out
   have r3 := h'.grow hG3
   have hle := hV1.le
   have hs3 := hG3.size
   have hV4 : RdCells w3 (fun g => S g ∨ w.heap.size ≤ g) vs l := hV2.weak fun _ _ hb => .inl hb
   have h1c := hV2.one (by omega)
   have hR1 := T_intss.atH (a := a) (n := n) (cap := cap) (k := k) (i := k) rfl (by omega)
   have hR2 := T_intss.atL (a := a) (n := n) (cap := cap) (l := k) (i := k) rfl hk
   go_wp2
   refine wp_region_par (S := Grow w3) [1, 2, 3, 6, 10, 11, 12] [0, 4, 5, 7] [] [([], some 8), ([], some 9), ([], some 13), ([14], none)] P_mixed (by kernel_rfl) (fun _ _ _ _ _ h => h) (Grow.refl _).drew ?_
   show wpQuiet _ _ _ _ [_, _, _, _, _, _, _] _
   repeat (first | go_big_quiet_skip | (go_big_quiet_want; first | (apply quiet_sliceH (x := .tmp 34) (h := .tmp 35); rfl; exact hR1; go_big_quiet_on; simp only [Act.put, List.setIfInBounds_toArray, List.set_cons_succ, List.set_cons_zero]) | (apply quiet_sliceL (x := .tmp 43) (l := .tmp 44); rfl; exact hR2; go_big_quiet_on; simp only [Act.put, List.setIfInBounds_toArray, List.set_cons_succ, List.set_cons_zero]) | (go_big_quiet_op; first | go_big_quiet_on | (refine ⟨_, (fun _ _ => rfl), ?_⟩; go_big_quiet_on))))
   refine wpQuiet_nil ?_
   refine ⟨by kernel_rfl, PutPost w3.heap.size k vs s, fun _ _ => none, PutPost.stays, (fun _ _ _ _ _ h => by cases h), (fun _ h _ => by cases h), ?_, (fun _ h => by cases h), ?_⟩
   ·intro i hi o' ho' a' w4 hGw hSw hdep hfr K hK
    have hs4 := (show Grow w3 w4 from hSw).size
    simp only [List.mem_cons, List.not_mem_nil, or_false] at hi
    rcases hi with rfl | rfl | rfl | rfl
    ·obtain rfl := Option.some.inj (show some _ = some _ from ho')
     refine par_built0 rfl T_intss ?_
     exact hK _ _ ((Grow.refl _).alloc _ _) (hSw.alloc _ _) ⟨_, rfl, hs4, Own.freshAt rfl (by unfold maxLen; omega) rfl⟩ (fun _ h => by cases h)
    ·obtain rfl := Option.some.inj (show some _ = some _ from ho')
     obtain ⟨g, e, hz, hE⟩ : ∃ g, a'.tmps.getD 33 undef = .slice (some ⟨g, 0, none⟩) 0 0 ∧ w3.heap.size ≤ g ∧ Own w4 27 1 (some ⟨g, 0, none⟩) 0 0 [] := hdep 0 (by decide) ⟨⟨0, .data⟩, by simp, rfl, rfl⟩ 33 rfl
     have e36 : a'.eval (.tmp 36) = .slice a k cap := hfr 36 (by decide)
     by_cases hk0 : k = 0
     ·rw [hk0] at e36
      refine par_app_nil (s := .tmp 33) (x := .tmp 36) rfl T_intss e e36 ?_
      exact hK _ _ (Grow.refl _) hSw ⟨_, 0, by rw [hk0], fun q hq => by simp at hq; omega, by rw [hk0]; exact hE⟩ (fun _ h => by cases h)
     ·have hpre := (hV1.pre hk).grow hSw
      rw [Nat.mul_one] at hpre
      refine par_app (s := .tmp 33) (x := .tmp 36) rfl T_intss e (Row.emptyAt (S := fun _ => True)) e36 hpre (by omega) (by omega) (by unfold maxLen; omega) ?_
      intro c' w5 h1 h2
      rw [Nat.zero_add] at h1 ⊢
      exact hK _ _ h2 (hSw.trans h2) ⟨_, c', rfl, fun q hq => by simp at hq; omega, h1⟩ (fun _ h => by cases h)
    ·obtain rfl := Option.some.inj (show some _ = some _ from ho')
     refine par_built0 rfl T_ints ?_
     exact hK _ _ ((Grow.refl _).alloc _ _) (hSw.alloc _ _) ⟨_, rfl⟩ (fun _ h => by cases h)
    ·obtain rfl := Option.some.inj (show some _ = some _ from ho')
     obtain ⟨g, e⟩ : ∃ g, a'.tmps.getD 38 undef = .slice (some ⟨g, 0, none⟩) 0 0 := hdep 5 (by decide) ⟨⟨5, .data⟩, by simp, rfl, rfl⟩ 38 rfl
     refine par_app (s := .tmp 38) (x := .tmp 39) rfl T_ints e (Row.emptyAt (S := fun _ => True)) (hfr 39 (by decide)) (r3.grow hSw).row (by omega) (by omega) (by unfold maxLen; omega) ?_
     intro c' w5 h1 h2
     rw [Nat.zero_add] at h1 ⊢
     exact hK _ _ h2 (hSw.trans h2) ⟨_, c', rfl, by omega, h1⟩ (fun _ h => by cases h)
   intro vs' w4 hGw hSw hP _
   apply fill_to
   ·show _ = ([some 33, some 37, some 38, some 40] : List (Option Tmp))
    kernel_rfl
   simp only [fillD, List.cons_append, List.nil_append, List.map_cons, List.map_nil, List.zip_cons_cons, List.zip_nil_right, Act.put, List.setIfInBounds_toArray, List.set_cons_succ, List.set_cons_zero]
   refine ⟨?_⟩
   have hgw : Grow w3 w4 := hSw
   have hs4 := hgw.size
   obtain ⟨a2, c2, e4, hz2, O4⟩ : ∃ a c, vs' 4 = .slice a k c ∧ (∀ g, blk a = some g → w3.heap.size ≤ g) ∧ Own w4 27 1 a k c (vs.take k) := hP 4 (by decide)
   obtain ⟨g7, c7, e7, hz7, o7⟩ : ∃ g c, vs' 7 = .slice (some ⟨g, 0, none⟩) s.length c ∧ w3.heap.size ≤ g ∧ Own w4 3 1 (some ⟨g, 0, none⟩) s.length c (ints s) := hP 7 (by decide)
   rw [e4, e7]
   clear hP e4 e7
   show wpQuiet _ _ _ _ [] _
   apply wpQuiet_nil
   apply seg_go rfl
   intro K hK
   go_wp2_with fail
   refine hK _ _ (hSw.alloc _ _) ?_
   clear hK K
   show wpQuiet _ _ _ _ [] _
   try (conv => arg 6; simp only [Act.put, List.setIfInBounds_toArray, List.set_cons_succ, List.set_cons_zero])
   refine wpQuiet_nil ?_
   refine seg_go rfl (fun K hK => ?_)
   have hGz := (Grow.refl w4).alloc #[.slice (some ⟨g7, 0, none⟩) s.length c7] 27
   refine op_app rfl T_intss rfl (O4.grow hGz) rfl (Row.built (S := fun _ => True) 1 (by unfold maxLen; omega) rfl trivial) (by simp [Value.oneCell']) (by omega) (by unfold maxLen; omega) ?_
   intro a3 c3 w5 hA5
   have hG5 : Grow w3 w5 := hA5.grow (hgw.trans hGz) hz2
   have hl3 := hA5.lo (B := w3.heap.size) (by have := hGz.size; omega) hz2
   have n7 := Own.ne_own (O4.grow hGz) (o7.grow hGz) (by decide)
   have o75 := (o7.grow hGz).keep hA5.keep (fun g hg _ e => n7 g e hg)
   have O5 := hA5.own
   have hs5 := hG5.size
   refine hK _ _ hG5 ?_
   clear hK K hA5 O4 o7 n7 hGz hSw hgw hGw hz2
   show wpQuiet _ _ _ _ [] _
   try (conv => arg 6; simp only [Act.put, List.setIfInBounds_toArray, List.set_cons_succ, List.set_cons_zero])
   refine wpQuiet_nil ?_
   refine seg_go rfl (fun K hK => ?_)
   refine op_app rfl T_intss rfl O5 rfl ((hV1.suf hk).grow hG5) (fun u hu => h1c u (List.mem_of_mem_drop hu)) (by omega) (by unfold maxLen; omega) ?_
   intro a6 c6 w6 hA6
   have hG6 : Grow w3 w6 := hA6.grow hG5 hl3
   have hl6 := hA6.lo (B := w3.heap.size) hs5 hl3
   have n76 := Own.ne_own O5 o75 (by decide)
   have q7 := (o75.keep hA6.keep (fun g hg _ e => n76 g e hg)).rdI (S := fun g => S g ∨ w.heap.size ≤ g) (fun g hg => by simp at hg; exact .inr (by omega)) h'.rng
   have hrow := hA6.own.row (S := fun g => S g ∨ w.heap.size ≤ g) (fun g hg => .inr (by have := hl6 g hg; omega))
   have hcells := (hV4.grow hG6).put (k := k) (by omega) (by omega) q7
   have hfin : RdII w6 (fun g => S g ∨ w.heap.size ≤ g) a6 (k + 1 + (n - k)) c6 (putS l s) := by
    rw [hput]; exact ⟨⟨_, hrow, hcells⟩, by simp; omega⟩
   refine hK _ _ hG6 ?_
   clear hK K hA6 O5 o75 n76 q7 hrow hcells
   show wpQuiet _ _ _ _ [_] _
   try (conv => arg 6; simp only [Act.put, List.setIfInBounds_toArray, List.set_cons_succ, List.set_cons_zero])
   repeat (first | go_big_quiet_skip | (go_big_quiet_want; first | (apply quiet_sliceH (x := .tmp 34) (h := .tmp 35); rfl; exact hR1; go_big_quiet_on; simp only [Act.put, List.setIfInBounds_toArray, List.set_cons_succ, List.set_cons_zero]) | (apply quiet_sliceL (x := .tmp 43) (l := .tmp 44); rfl; exact hR2; go_big_quiet_on; simp only [Act.put, List.setIfInBounds_toArray, List.set_cons_succ, List.set_cons_zero]) | (go_big_quiet_op; first | go_big_quiet_on | (refine ⟨_, (fun _ _ => rfl), ?_⟩; go_big_quiet_on))))
   refine wpQuiet_nil ?_
   refine wpSegs_nil ?_
   go_wp2
   go_ret
   exact ⟨_, _, _, rfl, hfin, hG3.trans hG6⟩
end Go.Proofs.YtjepiemflpjjhaaGreat

namespace Go.Proofs.YtjepiemflpjjhaaGreat
open Go.RowKit
theorem beforeB_ne {a b : List Int} (h : a ≠ b) : beforeB a b = !beforeB b a := by
 unfold beforeB
 by_cases e : a.length = b.length
 ·rw [if_pos e, if_pos e.symm]; exact lessL_ne e h
 ·rw [if_neg e, if_neg (fun h => e h.symm), Bool.eq_iff_iff]; simp; omega
theorem beforeB_irr (a : List Int) : beforeB a a = false := by unfold beforeB; rw [if_pos rfl]; exact lessL_self a
abbrev Ord (l : List (List Int)) : Prop := l.Pairwise fun a b => beforeB a b = true
theorem ord_ext : ∀ {A B : List (List Int)}, Ord A → Ord B → (∀ x, x ∈ A ↔ x ∈ B) → A = B
 | [], [], _, _, _ => rfl
 | [], b :: B, _, _, h => by have := (h b).2 (by simp); simp at this
 | a :: A, [], _, _, h => by have := (h a).1 (by simp); simp at this
 | a :: A, b :: B, hA, hB, h => by
  rw [Ord, List.pairwise_cons] at hA hB
  have hab : a = b := by
   have h1 := (h a).1 (by simp)
   have h2 := (h b).2 (by simp)
   rcases List.mem_cons.1 h1 with e | h1
   ·exact e
   ·rcases List.mem_cons.1 h2 with e | h2
    ·exact e.symm
    ·have h3 := beforeB_trans (hB.1 a h1) (hA.1 b h2)
     rw [beforeB_irr] at h3; cases h3
  subst hab
  rw [ord_ext hA.2 hB.2 fun x => ?_]
  constructor
  ·intro hx
   rcases List.mem_cons.1 ((h x).1 (by simp [hx])) with e | hx'
   ·subst e; have := hA.1 x hx; rw [beforeB_irr] at this; cases this
   ·exact hx'
  ·intro hx
   rcases List.mem_cons.1 ((h x).2 (by simp [hx])) with e | hx'
   ·subst e; have := hB.1 x hx; rw [beforeB_irr] at this; cases this
   ·exact hx'
theorem mem_putS : ∀ {l : List (List Int)} {s x : List Int}, x ∈ putS l s ↔ x ∈ l ∨ x = s
 | [], s, x => by simp [putS]
 | y :: r, s, x => by
  simp only [putS]
  split
  ·rw [List.mem_cons, mem_putS, List.mem_cons, or_assoc]
  ·split
   ·rename_i hs
    unfold sameI at hs
    rw [decide_eq_true_eq] at hs
    subst hs
    simp only [List.mem_cons]
    exact ⟨.inl, fun h => h.elim id fun e => .inl e⟩
   ·simp only [List.mem_cons]
    exact ⟨fun h => h.elim .inr .inl, fun h => h.elim .inr .inl⟩
theorem putS_ord : ∀ {l : List (List Int)} {s : List Int}, Ord l → Ord (putS l s)
 | [], s, _ => by simp [putS, Ord]
 | y :: r, s, h => by
  rw [Ord, List.pairwise_cons] at h
  simp only [putS]
  split
  ·rename_i hb
   rw [Ord, List.pairwise_cons]
   refine ⟨fun z hz => ?_, putS_ord h.2⟩
   rcases mem_putS.1 hz with hz | rfl
   ·exact h.1 z hz
   ·exact hb
  ·rename_i hb
   split
   ·rw [Ord, List.pairwise_cons]; exact h
   ·rename_i hs
    have hne : s ≠ y := fun e => hs (by rw [e]; exact sameI_self y)
    have hsy : beforeB s y = true := by rw [beforeB_ne hne]; simpa using hb
    rw [Ord, List.pairwise_cons, List.pairwise_cons]
    refine ⟨fun z hz => ?_, h⟩
    rcases List.mem_cons.1 hz with rfl | hz
    ·exact hsy
    ·exact beforeB_trans hsy (h.1 z hz)
def ordOf (M : List (List Int)) : List (List Int) := M.foldl putS []
theorem foldl_putS : ∀ (M acc : List (List Int)), Ord acc → Ord (M.foldl putS acc) ∧ (∀ x, x ∈ M.foldl putS acc ↔ x ∈ acc ∨ x ∈ M) ∧ (M.foldl putS acc).length ≤ acc.length + M.length
 | [], acc, h => by simp [h]
 | s :: M, acc, h => by
  obtain ⟨h1, h2, h3⟩ := foldl_putS M (putS acc s) (putS_ord h)
  have := putS_len acc s
  refine ⟨h1, fun x => ?_, by simp only [List.foldl_cons, List.length_cons]; omega⟩
  rw [List.foldl_cons, h2, mem_putS, List.mem_cons, or_assoc]
theorem ordOf_ord (M : List (List Int)) : Ord (ordOf M) := (foldl_putS M [] List.Pairwise.nil).1
theorem mem_ordOf {M : List (List Int)} {x : List Int} : x ∈ ordOf M ↔ x ∈ M := by
 have := (foldl_putS M [] List.Pairwise.nil).2.1 x
 show x ∈ List.foldl putS [] M ↔ _
 simpa using this
theorem ordOf_len (M : List (List Int)) : (ordOf M).length ≤ M.length := by
 have := (foldl_putS M [] List.Pairwise.nil).2.2
 show (List.foldl putS [] M).length ≤ _
 simpa using this
theorem ordOf_snoc (M : List (List Int)) (s : List Int) : ordOf (M ++ [s]) = putS (ordOf M) s := by unfold ordOf; rw [List.foldl_append]; rfl
theorem cplx_len {l : List (List Int)} (h : isCplxB l = true) : l.length ≤ 96 := by
 obtain ⟨⟨h1, _⟩, _, h3⟩ := isCplxB_iff.1 h
 have key : ∀ r : List (List Int), (∀ s ∈ r, isSimpB s = true) → r.length = (facesB r ((0 : Nat) : Int)).length + (facesB r ((1 : Nat) : Int)).length + (facesB r ((2 : Nat) : Int)).length + (facesB r ((3 : Nat) : Int)).length := by
  intro r
  induction r with
  | nil => intro _; simp [facesB]
  | cons s r ih =>
   intro hr
   have ih := ih fun x hx => hr x (by simp [hx])
   have hs := hr s (by simp)
   unfold isSimpB at hs
   rw [decide_eq_true_eq] at hs
   obtain ⟨_, g1, g2⟩ := hs
   unfold facesB at ih ⊢
   simp only [List.filter_cons, List.length_cons]
   have : s.length = 1 ∨ s.length = 2 ∨ s.length = 3 ∨ s.length = 4 := by omega
   rcases this with e | e | e | e <;> simp [e] at ih ⊢ <;> omega
 have := key l h1
 have a0 := h3 0 (by omega)
 have a1 := h3 1 (by omega)
 have a2 := h3 2 (by omega)
 have a3 := h3 3 (by omega)
 omega
theorem simp_len {s : List Int} (h : isSimpB s = true) : 1 ≤ s.length ∧ s.length ≤ 4 := by
 unfold isSimpB at h; rw [decide_eq_true_eq] at h; exact h.2
theorem total_small {c : Nat} : ∀ {l : List (List Int)}, (∀ x ∈ l, x.length ≤ c) → total l ≤ c * l.length
 | [], _ => by simp
 | x :: r, h => by
  have := total_small (l := r) fun y hy => h y (by simp [hy])
  have := h x (by simp)
  simp only [total_cons, List.length_cons, Nat.mul_add]; omega
end Go.Proofs.YtjepiemflpjjhaaGreat
