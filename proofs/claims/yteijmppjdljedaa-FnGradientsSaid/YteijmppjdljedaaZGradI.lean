/-
  GradientOf: the program's; its copy of arrows.
-/
import Derived.Test.YteijmppjdljedaaZGrad
import Derived.Test.YteijmppjdljedaaZInts
namespace Go.Proofs.Yteijmppjdljedaa
open Go.RowKit

/-- The slice am is apart from all that the arrows own. -/
def FreshA (w0 : World) (a1 am : Option Addr) (ss : List Value) : Prop := ∀ q, blk am = some q → w0.heap.size ≤ q ∧ blk a1 ≠ some q ∧ ∀ v ∈ ss, v.ownBlock ≠ some q
theorem FreshA.mk' {w0 wr : World} {a1 am : Option Addr} {ss : List Value} {xss : List (List Int)} {G : Nat → Prop} (hI : Inner wr G (blk a1) ss xss) (hlo : ∀ g, blk a1 = some g → g < wr.heap.size) (h0 : w0.heap.size ≤ wr.heap.size) (hf : ∀ q, blk am = some q → wr.heap.size ≤ q) : FreshA w0 a1 am ss :=
  fun q hq => ⟨by have := hf q hq; omega, fun e => by have := hlo q e; have := hf q hq; omega, fun v hv e => by have := (hI.lt hv e).1; have := hf q hq; omega⟩
theorem SepA.app {w0 w2 w3 : World} {a1 a3 b1 b2 : Option Addr} {k c1 c2 c3 : Nat} {L : List Arw} {vs : List Value} {x y : List Int} (hI : Inner w2 (New w0 w2) (blk a1) vs (flat L)) (hlo : ∀ g, blk a1 = some g → New w0 w2 g)
    (o1 : Own w2 3 1 b1 x.length c1 (ints x)) (h1 : ∀ z ∈ x, I64 z) (o2 : Own w2 3 1 b2 y.length c2 (ints y)) (h2 : ∀ z ∈ y, I64 z) (f1 : FreshA w0 a1 b1 vs) (f2 : FreshA w0 a1 b2 vs) (hap : ∀ q, blk b1 = some q → blk b2 ≠ some q) (h0 : w0.heap.size ≤ w2.heap.size)
    (hA : Apped w2 w3 43 2 a1 a3 (k + 1) c3 (vs ++ [.slice b1 x.length c1, .slice b2 y.length c2])) : SepA w3 (New w0 w3) a3 (k + 1) c3 (L ++ [(x, y)]) := by
  have hs3 := hA.keep.size
  have hl3 := hA.lo (B := w0.heap.size) (by omega) (fun g hg => (hlo g hg).1)
  refine ⟨⟨vs ++ [.slice b1 x.length c1, .slice b2 y.length c2], hA.own, ?_⟩, fun g hg => ⟨hl3 g hg, hA.own.lt hg⟩⟩
  have q1 := hI.snoc o1 h1 (fun q hq => ⟨⟨(f1 q hq).1, o1.lt hq⟩, (f1 q hq).2.1⟩) (fun q hq v hv hvq => (f1 q hq).2.2 v hv hvq)
  have q2 := q1.snoc o2 h2 (fun q hq => ⟨⟨(f2 q hq).1, o2.lt hq⟩, (f2 q hq).2.1⟩) (fun q hq v hv hvq => by
    rcases List.mem_append.1 hv with hv | hv
    · exact (f2 q hq).2.2 v hv hvq
    · rw [List.mem_singleton] at hv; subst hv; rw [ownBlock_slice] at hvq; exact hap q hvq hq)
  have e1 : flat (L ++ [(x, y)]) = (flat L ++ [x]) ++ [y] := by rw [flat_append]; simp
  have e2 : vs ++ [.slice b1 x.length c1, .slice b2 y.length c2] = (vs ++ [.slice b1 x.length c1]) ++ [.slice b2 y.length c2] := by simp
  rw [e1, e2]
  refine q2.move (G := New w0 w3) (g' := blk a3) hA.keep fun b hb hF hne => ⟨hne, ⟨hF.1, by omega⟩, fun e => ?_⟩
  rcases hA.new with e2 | ⟨g', e2, hg'⟩
  · rw [e2] at e; exact hne e
  · rw [e2] at e
    obtain rfl := Option.some.inj e
    omega

def CArPost (z : Nat) (x y : List Int) : Nat → Value → World → Prop
  | 1, v, _ => ∃ g, v = .slice (some ⟨g, 0, none⟩) 0 0
  | 5, v, _ => ∃ g, v = .slice (some ⟨g, 0, none⟩) 0 0
  | 4, v, w => ∃ g c, v = .slice (some ⟨g, 0, none⟩) x.length c ∧ z ≤ g ∧ Own w 3 1 (some ⟨g, 0, none⟩) x.length c (ints x)
  | 8, v, w => ∃ g c, v = .slice (some ⟨g, 0, none⟩) y.length c ∧ z ≤ g ∧ Own w 3 1 (some ⟨g, 0, none⟩) y.length c (ints y)
  | _, _, _ => True
def carOb (i : Nat) (v : Value) : Option Nat := if i = 4 ∨ i = 8 then v.ownBlock else none
theorem CArPost.stays {z : Nat} {x y : List Int} : ∀ i v w w', Grow w w' → CArPost z x y i v w → CArPost z x y i v w' := fun i v w w' hG h => by
  unfold CArPost at *
  split at h
  · exact h
  · exact h
  · obtain ⟨g, c, h1, h2, h3⟩ := h; exact ⟨g, c, h1, h2, h3.grow hG⟩
  · obtain ⟨g, c, h1, h2, h3⟩ := h; exact ⟨g, c, h1, h2, h3.grow hG⟩
  · trivial
theorem CArPost.lt {z : Nat} {x y : List Int} : ∀ i v w, CArPost z x y i v w → ∀ g, carOb i v = some g → g < w.heap.size := fun i v w h g hg => by
  unfold carOb at hg
  split at hg
  · rename_i hi
    rcases hi with rfl | rfl
    · obtain ⟨g', c, rfl, h2, h3⟩ := h
      rw [ownBlock_slice] at hg
      exact h3.lt hg
    · obtain ⟨g', c, rfl, h2, h3⟩ := h
      rw [ownBlock_slice] at hg
      exact h3.lt hg
  · cases hg

set_option maxHeartbeats 4000000 in
set_option maxRecDepth 100000 in
theorem copyArrows_c {S : Nat → Prop} (a : Option Addr) (n cap : Nat) (ar : List Arw) (w : World) (h : RdA w S a n cap ar) (hn : n ≤ 1048576) (hf : total (flat ar) ≤ 1048576) (hne : ∀ x ∈ flat ar, 1 ≤ x.length) :
    Calls Try.prog 19 #[.slice a n cap] w fun e w' => ∃ a' c', e = .returned (.slice a' n c') ∧ SepA w' (New w w') a' n c' ar ∧ Grow w w' := by
  have Hl := Lib.hid h.len
  go_enter Try.func19, Try.ntmps19
  go_wp2
  go_loopw [3, 9] (fun v i wr => Grow w wr ∧ ∃ (k c1 : Nat) (a1 : Option Addr), k ≤ n ∧ i = .int .i64 k ∧ v = .slice a1 k c1 ∧ SepA wr (New w wr) a1 k c1 (ar.take k)) (fun _ i _ => n - (intOf i).toNat)
  case atStart =>
    refine ⟨(Grow.refl w).alloc _ _, 0, 0, _, Nat.zero_le _, rfl, rfl, ⟨⟨[], Own.fresh (by unfold maxLen; omega) rfl, Inner.nilw⟩, fun g hg => ?_⟩⟩
    simp at hg; subst hg; exact ⟨Nat.le_refl _, by simp⟩
  case round =>
    obtain ⟨hG, k, c1, a1, hk, rfl, rfl, hS⟩ := hrel
    by_cases hlt : k < n
    · obtain ⟨b, off, x, y, ax, cx, ay, cy, rfl, hx, _, hbw, ⟨hc1, hc2⟩, r1, r2⟩ := (h.grow hG).at hlt
      have htx := (flat_total_at hx).2
      have hfl := flat_at hx
      have hxp := hne x (List.mem_of_getElem? hfl.1)
      have hyp := hne y (List.mem_of_getElem? hfl.2)
      have Hx := Lib.hid hx; clear hx hfl
      obtain ⟨wb, hwb⟩ : ∃ wb, wb = wr.alloc (.cells #[.slice ax x.length cx, .slice ay y.length cy] 43) := ⟨_, rfl⟩
      have hGb : Grow wr wb := by rw [hwb]; exact (Grow.refl _).alloc _ _
      have hsb : wb.heap.size = wr.heap.size + 1 := by rw [hwb]; simp
      have hBb : Blk wb wr.heap.size #[.slice ax x.length cx, .slice ay y.length cy] 43 := by rw [hwb]; exact Blk.new _ _ _
      have Hwb := Lib.hid hwb; clear hwb
      have p0 : wb.cell? ⟨wr.heap.size, 0, none⟩ = some (.slice ax x.length cx) := hBb.cell 0
      have p1 : wb.cell? ⟨wr.heap.size, 1, none⟩ = some (.slice ay y.length cy) := hBb.cell 1
      obtain ⟨⟨vs, hO, hI⟩, hlo⟩ := hS
      have hnb : blk a1 ≠ some wr.heap.size := fun e => by have := (hlo _ e).2; omega
      go_wp2
      rw [← Hwb.out]
      refine wp_region_par (S := (Keep (fun q => blk a1 ≠ some q) wb)) [0, 2, 3, 6, 7] [1, 4, 5, 8] [] [([], some 9), ([], some 10), ([], some 11), ([12], none)] P_mixed (by kernel_rfl) (fun _ _ _ _ _ h => h) (Keep.refl _ _).drew ?_
      show wpQuiet _ _ _ _ [_, _, _, _, _] _
      repeat (first | go_big_quiet_skip | (go_big_quiet_want; first | (apply quiet_load CT_ints; rfl; rfl; exact (fun w' hG => hG.cell hnb p0); go_big_quiet_on; simp only [Act.put, List.setIfInBounds_toArray, List.set_cons_succ, List.set_cons_zero]) | (apply quiet_load CT_ints; rfl; rfl; exact (fun w' hG => hG.cell hnb p1); go_big_quiet_on; simp only [Act.put, List.setIfInBounds_toArray, List.set_cons_succ, List.set_cons_zero]) | (go_big_quiet_op; first | go_big_quiet_on | (refine ⟨_, (fun _ _ => rfl), ?_⟩; go_big_quiet_on))))
      refine wpQuiet_nil ?_
      refine ⟨by kernel_rfl, CArPost wr.heap.size x y, carOb, CArPost.stays, CArPost.lt, (fun _ h _ => by cases h), ?_, (fun _ h => by cases h), ?_⟩
      · intro i hi o ho a w2 hGw hSw hdep hfr K hK
        have hgw : Grow wb w2 := (Grow.refl wb).drew.trans hGw
        have hs2 := hgw.size
        simp only [List.mem_cons, List.not_mem_nil, or_false] at hi
        rcases hi with rfl | rfl | rfl | rfl
        · obtain rfl := Option.some.inj (show some _ = some _ from ho)
          refine par_built0 rfl T_ints ?_
          exact hK _ _ ((Grow.refl _).alloc _ _) (hSw.alloc _ _) ⟨_, rfl⟩ (fun _ h => by cases h)
        · obtain rfl := Option.some.inj (show some _ = some _ from ho)
          obtain ⟨g, e⟩ : ∃ g, a.tmps.getD 14 undef = .slice (some ⟨g, 0, none⟩) 0 0 := hdep 1 (by decide) ⟨⟨1, .data⟩, by simp, rfl, rfl⟩ 14 rfl
          refine par_app (s := .tmp 14) (x := .tmp 16) rfl T_ints e (Row.emptyAt (S := fun _ => True)) (hfr 16 (by decide)) ((r1.grow hGb).grow hgw).row (by omega) (by omega) (by unfold maxLen; omega) ?_
          intro c' w3 h1 h2
          rw [Nat.zero_add] at h1 ⊢
          exact hK _ _ h2 (hSw.trans (h2.mono fun _ _ _ => trivial)) ⟨_, c', rfl, by omega, h1⟩ (fun g hg => by simp [carOb, ownBlock_slice] at hg; omega)
        · obtain rfl := Option.some.inj (show some _ = some _ from ho)
          refine par_built0 rfl T_ints ?_
          exact hK _ _ ((Grow.refl _).alloc _ _) (hSw.alloc _ _) ⟨_, rfl⟩ (fun _ h => by cases h)
        · obtain rfl := Option.some.inj (show some _ = some _ from ho)
          obtain ⟨g, e⟩ : ∃ g, a.tmps.getD 18 undef = .slice (some ⟨g, 0, none⟩) 0 0 := hdep 5 (by decide) ⟨⟨5, .data⟩, by simp, rfl, rfl⟩ 18 rfl
          refine par_app (s := .tmp 18) (x := .tmp 20) rfl T_ints e (Row.emptyAt (S := fun _ => True)) (hfr 20 (by decide)) ((r2.grow hGb).grow hgw).row (by omega) (by omega) (by unfold maxLen; omega) ?_
          intro c' w3 h1 h2
          rw [Nat.zero_add] at h1 ⊢
          exact hK _ _ h2 (hSw.trans (h2.mono fun _ _ _ => trivial)) ⟨_, c', rfl, by omega, h1⟩ (fun g hg => by simp [carOb, ownBlock_slice] at hg; omega)
      intro vs' w2 hGw hSw hP hD
      apply fill_to
      · show _ = ([some 14, some 17, some 18, some 21] : List (Option Tmp))
        kernel_rfl
      simp only [fillD, List.cons_append, List.nil_append, List.map_cons, List.map_nil, List.zip_cons_cons, List.zip_nil_right, Act.put, List.setIfInBounds_toArray, List.set_cons_succ, List.set_cons_zero]
      refine ⟨?_⟩
      have hgw : Grow wb w2 := (Grow.refl wb).drew.trans hGw
      have hs2 := hgw.size
      obtain ⟨g4, c4, e4, hz4, o4⟩ : ∃ g c, vs' 4 = .slice (some ⟨g, 0, none⟩) x.length c ∧ wr.heap.size ≤ g ∧ Own w2 3 1 (some ⟨g, 0, none⟩) x.length c (ints x) := hP 4 (by decide)
      obtain ⟨g8, c8, e8, hz8, o8⟩ : ∃ g c, vs' 8 = .slice (some ⟨g, 0, none⟩) y.length c ∧ wr.heap.size ≤ g ∧ Own w2 3 1 (some ⟨g, 0, none⟩) y.length c (ints y) := hP 8 (by decide)
      have hap : g4 ≠ g8 := fun e => hD 4 (by decide) 8 (by decide) (by decide) g4 (by rw [e4]; rfl) (by rw [e8, e]; rfl)
      rw [e4, e8]
      clear hP hD e4 e8
      have hs := hG.size
      have hIw := (hI.grow (hGb.trans hgw)).weak (G := New w w2) (g' := blk a1) fun b _ hF hne => ⟨⟨hF.1, by have := hF.2; omega⟩, hne⟩
      have hf4 : FreshA w a1 (some ⟨g4, 0, none⟩) vs := FreshA.mk' hI (fun g hg => (hlo g hg).2) hs (fun q hq => by simp at hq; omega)
      have hf8 : FreshA w a1 (some ⟨g8, 0, none⟩) vs := FreshA.mk' hI (fun g hg => (hlo g hg).2) hs (fun q hq => by simp at hq; omega)
      have hOw := hO.grow (hGb.trans hgw)
      have hlow : ∀ g, blk a1 = some g → New w w2 g := fun g hg => ⟨(hlo g hg).1, by have := (hlo g hg).2; omega⟩
      have hGw2 := hG.trans (hGb.trans hgw)
      clear hO hI hgw hGw hBb p0 p1 hGb
      show wpQuiet _ _ _ _ [] _
      apply wpQuiet_nil
      apply seg_go rfl
      intro K hK
      go_wp2_with fail
      refine hK _ _ hSw ?_
      clear hK K
      show wpQuiet _ _ _ _ [] _
      try (conv => arg 6; simp only [Act.put, List.setIfInBounds_toArray, List.set_cons_succ, List.set_cons_zero])
      refine wpQuiet_nil ?_
      refine seg_go rfl (fun K hK => ?_)
      go_wp2_with fail
      refine hK _ _ (hSw.alloc _ _) ?_
      clear hK K
      show wpQuiet _ _ _ _ [] _
      try (conv => arg 6; simp only [Act.put, List.setIfInBounds_toArray, List.set_cons_succ, List.set_cons_zero])
      refine wpQuiet_nil ?_
      refine seg_go rfl (fun K hK => ?_)
      have hGz := (Grow.refl w2).alloc #[.slice (some ⟨g4, 0, none⟩) x.length c4, .slice (some ⟨g8, 0, none⟩) y.length c8] 43
      refine op_app rfl T_arrows rfl (hOw.grow hGz) rfl (Row.built (S := fun _ => True) 1 (by unfold maxLen; omega) rfl trivial) (by simp [Value.oneCell']) (by omega) (by unfold maxLen; omega) ?_
      intro a3 c3 w3 hA3
      have hS3 := SepA.app ((hIw.grow hGz).weak fun b hb hF hne => ⟨⟨hF.1, hb⟩, hne⟩) (fun g hg => ⟨(hlow g hg).1, Nat.lt_of_lt_of_le (hlow g hg).2 hGz.size⟩) (o4.grow hGz) r1.rng (o8.grow hGz) r2.rng hf4 hf8 (fun q h1 h2 => by simp at h1 h2; omega) (by have := hGz.size; have := hGw2.size; omega) hA3
      have hG3 : Grow w w3 := hA3.grow (hGw2.trans hGz) (fun g hg => (hlow g hg).1)
      rw [← take_succ Hx.out] at hS3
      refine hK _ _ ((hSw.alloc _ _).trans hA3.keep) ?_
      clear hK K hA3 hSw
      show wpQuiet _ _ _ _ [_] _
      try (conv => arg 6; simp only [Act.put, List.setIfInBounds_toArray, List.set_cons_succ, List.set_cons_zero])
      repeat (first | go_big_quiet_skip | (go_big_quiet_want; first | (apply quiet_load CT_ints; rfl; rfl; exact (fun w' hG => hG.cell hnb p0); go_big_quiet_on; simp only [Act.put, List.setIfInBounds_toArray, List.set_cons_succ, List.set_cons_zero]) | (apply quiet_load CT_ints; rfl; rfl; exact (fun w' hG => hG.cell hnb p1); go_big_quiet_on; simp only [Act.put, List.setIfInBounds_toArray, List.set_cons_succ, List.set_cons_zero]) | (go_big_quiet_op; first | go_big_quiet_on | (refine ⟨_, (fun _ _ => rfl), ?_⟩; go_big_quiet_on))))
      refine wpQuiet_nil ?_
      refine wpSegs_nil ?_
      go_wp2
      go_roundw
      case rel => exact ⟨hG3, k + 1, c3, a3, by omega, by go_num, rfl, hS3⟩
      case measure => simp [intOf]; omega
    · go_wp2
      go_ret
      have : k = n := by omega
      subst this
      rw [take_all Hl.out] at hS
      exact ⟨_, _, rfl, hS, hG⟩
end Go.Proofs.Yteijmppjdljedaa

namespace Go.Proofs.Yteijmppjdljedaa
open Go.RowKit

theorem SlT.atHM {P : Program} {t e : TypeId} {z : Value} {sz bytes : Nat} (hT : SlT P t e z sz bytes) {a : Option Addr} {n cap k : Nat} {i j : Int} (hi : i = k) (hj : j = k) (hk : k ≤ cap) (w : World) :
    (Instr.sliceAt t (.slice a n cap) none (some (.int .i64 i)) (some (.int .i64 j))).run P w = .ok (.slice a k k) w := by
  subst hi; subst hj
  rw [hT.sliceAt]
  obtain ⟨ht, ⟨i, hi, hz, hsz, hby⟩, hzs⟩ := hT
  have h0 : ∀ p : Addr, p.add 0 = p := fun p => by cases p; rename_i b o s; cases s <;> simp [Addr.add]
  have hb := run_sliceBound (P := P) (w := w) .i64 (k : Int) cap .slice3Acap (by omega) (by omega)
  have hb2 := run_sliceBound (P := P) (w := w) .i64 (k : Int) k .slice3B (by omega) (by omega)
  cases a <;> simp [Instr.slice, run_underlying ht, Instr.sliceBounds, hb, hb2, sizeOf, typeInfo, hi, h0]
theorem RdCells.twoApp {w : World} {S : Nat → Prop} {vs : List Value} {ar : List Arw} {b1 b2 : Option Addr} {c1 c2 : Nat} {s t : List Int} (h : RdCells w S vs (flat ar)) (hl : vs.length = ar.length * 2) (h1 : RdI w S b1 s.length c1 s) (h2 : RdI w S b2 t.length c2 t) :
    RdCells w S (vs ++ [.slice b1 s.length c1, .slice b2 t.length c2]) (flat (ar ++ [(s, t)])) := by
  intro i xs hi
  rw [flat_append] at hi
  have hf := flat_len ar
  by_cases hlt : i < ar.length * 2
  · rw [List.getElem?_append_left (by omega)] at hi
    obtain ⟨b, c, h3, h4⟩ := h i xs hi
    exact ⟨b, c, by rw [List.getElem?_append_left (by omega)]; exact h3, h4⟩
  · rw [List.getElem?_append_right (by omega)] at hi
    obtain ⟨j, rfl⟩ : ∃ j, i = ar.length * 2 + j := ⟨i - ar.length * 2, by omega⟩
    rw [hf, Nat.add_sub_cancel_left] at hi
    rw [List.getElem?_append_right (by omega), hl, Nat.add_sub_cancel_left]
    match j, hi with
    | 0, hi => simp at hi; subst hi; exact ⟨b1, c1, rfl, h1⟩
    | 1, hi => simp at hi; subst hi; exact ⟨b2, c2, rfl, h2⟩
    | j + 2, hi => simp at hi

/-- The program's list of arrows: its own row, the simplices those of the argument. -/
theorem RdA.parts {w : World} {S : Nat → Prop} {a : Option Addr} {n cap : Nat} {l : List Arw} (h : RdA w S a n cap l) : ∃ vs, Row w S 2 a n cap vs ∧ RdCells w S vs (flat l) ∧ vs.length = l.length * 2 := by
  obtain ⟨⟨vs, h1, h2⟩, hl⟩ := h
  exact ⟨vs, h1, h2, by rw [hl]; exact h1.len⟩
theorem RdA.more {w4 w5 : World} {e : TypeId} {a b1 b2 : Option Addr} {m c3 c1 c2 : Nat} {ar : List Arw} {vs : List Value} {s t : List Int} (hV2 : RdCells w4 (fun _ => True) vs (flat ar)) (hV3 : vs.length = ar.length * 2) (hl : ar.length = m)
    (hO : Own w5 e 2 a (m + 1) c3 (vs ++ [.slice b1 s.length c1, .slice b2 t.length c2])) (hG : Grow w4 w5) (h1 : RdI w4 (fun _ => True) b1 s.length c1 s) (h2 : RdI w4 (fun _ => True) b2 t.length c2 t) : RdA w5 (fun _ => True) a (m + 1) c3 (ar ++ [(s, t)]) :=
  ⟨⟨_, hO.row fun _ _ => trivial, (hV2.grow hG).twoApp hV3 (h1.grow hG) (h2.grow hG)⟩, by simp [hl]⟩
set_option maxHeartbeats 4000000 in
set_option maxRecDepth 100000 in
theorem implGradientOf_c {S : Nat → Prop} (a : Option Addr) (n cap : Nat) (l : List (List Int)) (w : World) (h : RdII w S a n cap l) (hn : n ≤ 1048576) (ht : total l ≤ 1048576) :
    Calls Try.prog 6 #[.slice a n cap] w fun e w' => ∃ a' m c', e = .returned (.tuple #[.slice a' m c', .bool (isCplxB l)]) ∧ SepA w' (New w w') a' m c' (gradOut l) ∧ Grow w w' := by
  have Hl := Lib.hid h.len
  replace h := h.weak (T := fun _ => True) fun _ _ _ => trivial
  cases hB : isCplxB l with
  | false =>
    have he : gradOut l = [] := by unfold gradOut; rw [hB]; rfl
    rw [he]
    have HB := Lib.hid hB; clear hB he
    go_enter Try.func6, Try.ntmps6
    go_wp2_with fail
    refine (implIsComplex_c _ _ _ l _ h hn ht).mono ?_
    rintro e w1 ⟨rfl, hG⟩
    rw [HB.out]
    go_wp2
    go_ret2
    exact ⟨_, _, _, rfl, ⟨⟨[], Own.fresh (by unfold maxLen; omega) rfl, Inner.nilw⟩, fun g hg => by simp at hg; subst hg; exact ⟨hG.size, by simp⟩⟩, hG.alloc _ _⟩
  | true =>
    have he : gradOut l = gAt l n := by unfold gradOut; rw [hB, Hl.out]; rfl
    rw [he]
    have hok := gAt_ok l
    have hpos := fun {s : List Int} => cplx_pos (l := l) hB (s := s)
    have HB := Lib.hid hB; clear hB he
    go_enter Try.func6, Try.ntmps6
    go_wp2_with fail
    refine (implIsComplex_c _ _ _ l _ h hn ht).mono ?_
    rintro e w1 ⟨rfl, hG1⟩
    rw [HB.out]
    go_wp2
    go_loopw [4, 17] (fun v i wr => Grow w wr ∧ ∃ (j m c1 : Nat) (a1 : Option Addr), j ≤ n ∧ i = .int .i64 j ∧ v = .slice a1 m c1 ∧ RdA wr (fun _ => True) a1 m c1 (gAt l j)) (fun _ i _ => n - (intOf i).toNat)
    case atStart => exact ⟨hG1.alloc _ _, 0, 0, 0, _, Nat.zero_le _, rfl, rfl, ⟨[], Row.emptyAt, fun i xs hi => by simp [gAt] at hi⟩, rfl⟩
    case round =>
      obtain ⟨hG, j, m, c1, a1, hj, rfl, rfl, hA⟩ := hrel
      have hbd := (hok j).bd
      rw [hA.len, Hl.out] at hbd
      by_cases hlt : j < n
      · obtain ⟨b, off, s, sa, sc, rfl, hs, _, hbw, hc, rs⟩ := (h.grow hG).at hlt
        have hsl := List.mem_of_getElem? hs
        have hts := (total_at hs)
        have hst : gAt l (j + 1) = gStep l (gAt l j) j := rfl
        have Hs := Lib.hid hs; clear hs
        have hcap := h.row.choose_spec.1.le
        have hR := T_intss.atL (a := (some ⟨b, off, none⟩ : Option Addr)) (n := n) (cap := cap) (l := j + 1) (i := (j : Int) + 1) (by omega) (by omega)
        generalize har : gAt l j = ar at *
        have Har := Lib.hid har; clear har
        go_wp2_with fail
        refine (inArrows_c _ _ _ _ _ _ ar s _ hA rs (by omega) (by omega)).mono ?_
        rintro e w2 ⟨rfl, hG2⟩
        cases hin : inArB ar s with
        | true =>
          have Hst := Lib.hid (show gAt l (j + 1) = ar by rw [hst]; unfold gStep; rw [Hs.out]; simp [hin])
          have Hin := Lib.hid hin; clear hin hst
          go_wp2
          go_roundw
          case rel => exact ⟨hG.trans hG2, j + 1, m, c1, a1, by omega, by go_num, rfl, by rw [Hst.out]; exact hA.grow hG2⟩
          case measure => simp [intOf]; omega
        | false =>
          have Hst := Lib.hid (show gAt l (j + 1) = gRow ar s (l.drop (j + 1)) by rw [hst]; unfold gStep; rw [Hs.out]; simp [hin])
          have Hin := Lib.hid hin; clear hin hst
          have hG3 := hG.trans hG2
          go_wp2
          clear hR
          go_loopw [4, 30] (fun v i wr => Grow w2 wr ∧ ∃ k : Nat, k ≤ n - (j + 1) ∧ v = .slice a1 m c1 ∧ i = .int .i64 k ∧ gRow ar s (l.drop (j + 1)) = gRow ar s (l.drop (j + 1 + k))) (fun _ i _ => n - (j + 1) - (intOf i).toNat)
          case atStart => exact ⟨Grow.refl _, 0, Nat.zero_le _, rfl, rfl, rfl⟩
          case round =>
            obtain ⟨hGq, k, hk, rfl, rfl, hrow⟩ := hrel
            have Hrow := Lib.hid hrow; clear hrow
            by_cases hkn : k < n - (j + 1)
            · have hGw := hG3.trans hGq
              obtain ⟨b2, off2, t, ta, tc, e2, hy, _, hbt, hct, rt⟩ := (h.grow hGw).at (k := j + 1 + k) (by omega)
              obtain ⟨rfl, rfl⟩ : b2 = b ∧ off2 = off := by simpa using e2.symm
              clear e2
              have hsub : subA (some (⟨b2, off2, none⟩ : Addr)) cap (j + 1) 1 = some ⟨b2, off2 + (j + 1), none⟩ := by
                unfold subA
                rw [if_neg (by omega)]
                simp [Addr.add]
              rw [← Nat.add_assoc] at hct
              have htt := total_at hy
              have htl := List.mem_of_getElem? hy
              have Hy := Lib.hid hy; clear hy
              rw [hsub]
              have hA2 := (hA.grow hG2).grow hGq
              have rs2 := (rs.grow hG2).grow hGq
              cases hf : isFaceB s t with
              | false =>
                have HF := Lib.hid (show gFits ar s t = false by unfold gFits; rw [hf]; rfl)
                have Hf := Lib.hid hf; clear hf
                go_wp2_with fail
                refine (isFaceOf_c _ _ _ _ _ _ s t _ rs2 rt (by omega) (by omega)).mono ?_
                rintro e w3 ⟨rfl, hGa⟩
                rw [Hf.out]
                replace hGq := hGq.trans hGa
                go_wp2
                go_roundw
                case rel => exact ⟨hGq, k + 1, by omega, rfl, by go_num, by rw [Hrow.out, gRow_drop Hy.out, if_neg (by rw [HF.out]; simp)]; rfl⟩
                case measure => simp [intOf]; omega
              | true =>
                have Hf := Lib.hid hf
                cases hit : inArB ar t with
                | true =>
                  have HF := Lib.hid (show gFits ar s t = false by unfold gFits; rw [hit]; simp)
                  have Hit := Lib.hid hit; clear hit hf
                  go_wp2_with fail
                  refine (isFaceOf_c _ _ _ _ _ _ s t _ rs2 rt (by omega) (by omega)).mono ?_
                  rintro e w3 ⟨rfl, hGa⟩
                  rw [Hf.out]
                  go_wp2_with fail
                  refine (inArrows_c _ _ _ _ _ _ ar t _ (hA2.grow hGa) (rt.grow hGa) (by omega) (by omega)).mono ?_
                  rintro e w4 ⟨rfl, hGb⟩
                  rw [Hit.out]
                  replace hGq := (hGq.trans hGa).trans hGb
                  go_wp2
                  go_roundw
                  case rel => exact ⟨hGq, k + 1, by omega, rfl, by go_num, by rw [Hrow.out, gRow_drop Hy.out, if_neg (by rw [HF.out]; simp)]; rfl⟩
                  case measure => simp [intOf]; omega
                | false =>
                  have hok2 := (Har.out ▸ hok j : GOk l ar).add Hin.out hit hf hsl htl
                  have hbd2 := hok2.bd
                  have Hit := Lib.hid hit
                  have HF0 := Lib.hid (show gFits ar s t = acycB (ar ++ [(s, t)]) by unfold gFits; rw [hf, hit]; rfl)
                  clear hit hf hok2
                  go_wp2_with fail
                  refine (isFaceOf_c _ _ _ _ _ _ s t _ rs2 rt (by omega) (by omega)).mono ?_
                  rintro e w3 ⟨rfl, hGa⟩
                  rw [Hf.out]
                  go_wp2_with fail
                  refine (inArrows_c _ _ _ _ _ _ ar t _ (hA2.grow hGa) (rt.grow hGa) (by omega) (by omega)).mono ?_
                  rintro e w4 ⟨rfl, hGb⟩
                  rw [Hit.out]
                  replace hGq := (hGq.trans hGa).trans hGb
                  have hA4 := (hA2.grow hGa).grow hGb
                  have hAl := hA4.len
                  have hAc := hA4.cap_le
                  have rs4 := (rs2.grow hGa).grow hGb
                  have rt4 := (rt.grow hGa).grow hGb
                  obtain ⟨vs, hV1, hV2, hV3⟩ := hA4.parts
                  have hR2 := T_arrows.atHM (a := a1) (n := m) (cap := c1) (k := m) rfl rfl hAc.1
                  clear hA2 rs2 rt hGa hGb
                  go_wp2_with (at_builtin; refine wpList_app_new rfl (.tmp 48) (.tmp 52) _ rfl T_arrows rfl (hV1.trim.grow ((Grow.refl _).alloc _ _)) rfl (Row.built (S := fun _ => True) 1 (by unfold maxLen; omega) rfl trivial) (by omega) (by omega) (by unfold maxLen; omega) ?_; intro c3 w5 hO5 hG5)
                  have hGz : Grow w4 w5 := ((Grow.refl _).alloc _ _).trans hG5
                  have hA5 := RdA.more hV2 hV3 hAl hO5 hGz rs4 rt4
                  simp only [World.size_alloc] at hA5
                  clear hO5 hG5 hV1 hV2 hV3 hR2 hA4 rs4 rt4
                  simp only [List.length_append, List.length_cons, List.length_nil] at hbd2
                  refine (leadsAround_c _ _ _ (ar ++ [(s, t)]) _ hA5 (by omega) (by omega)).mono ?_
                  rintro e w6 ⟨rfl, hG6⟩
                  replace hGq := (hGq.trans hGz).trans hG6
                  cases hac : acycB (ar ++ [(s, t)]) with
                  | true =>
                    have Hout := Lib.hid (show gAt l (j + 1) = ar ++ [(s, t)] by
                      rw [Hst.out, Hrow.out, gRow_drop Hy.out, if_pos (by rw [HF0.out, hac])])
                    have Hac := Lib.hid hac; clear hac
                    go_wp2
                    go_roundw
                    case rel => exact ⟨hG3.trans hGq, j + 1, m + 1, c3, _, by omega, by go_num, rfl, by rw [Hout.out]; exact hA5.grow hG6⟩
                    case measure => simp [intOf]; omega
                  | false =>
                    have HF := Lib.hid (show gFits ar s t = false by rw [HF0.out, hac])
                    have Hac := Lib.hid hac; clear hac
                    go_wp2
                    go_roundw
                    case rel => exact ⟨hGq, k + 1, by omega, rfl, by go_num, by rw [Hrow.out, gRow_drop Hy.out, if_neg (by rw [HF.out]; simp)]; rfl⟩
                    case measure => simp [intOf]; omega
            · have hkk : k = n - (j + 1) := by omega
              have Hout := Lib.hid (show gAt l (j + 1) = ar by
                rw [Hst.out, Hrow.out, List.drop_of_length_le (by rw [Hl.out]; omega)]; rfl)
              go_wp2
              go_roundw
              case rel => exact ⟨hG3.trans hGq, j + 1, m, c1, a1, by omega, by go_num, rfl, by rw [Hout.out]; exact (hA.grow hG2).grow hGq⟩
              case measure => simp [intOf]; omega
      · have hjn : j = n := by omega
        subst hjn
        go_wp2_with fail
        refine (copyArrows_c _ _ _ _ _ hA (by omega) (by omega) (fun x hx => hpos ((hok j).2 x hx))).mono ?_
        rintro e w2 ⟨a2, c2, rfl, hS, hG2⟩
        go_wp2
        go_ret2
        exact ⟨_, _, _, rfl, hS.weak fun q _ hq => ⟨by have := hq.1; have := hG.size; omega, hq.2⟩, hG.trans hG2⟩
end Go.Proofs.Yteijmppjdljedaa
