/-
  GradientOf: the program's; its copy of arrows.
-/
import Derived.Test.YtkafhbedipfgpaaGrad
import Derived.Test.YtkafhbedipfgpaaCopyM
namespace Go.Proofs.Ytkafhbedipfgpaa
open Go.RowKit

theorem Row.emptyAt {w : World} {S : Nat → Prop} {sz g : Nat} : Row w S sz (some ⟨g, 0, none⟩) 0 0 [] := ⟨by simp, Nat.le_refl _, by unfold maxLen; omega, (fun h => by cases h), fun h => (h rfl).elim⟩
/-- The slice am is apart from all that the arrows own. -/
def FreshA (w0 : World) (a1 am : Option Addr) (ss : List Value) : Prop := ∀ q, blk am = some q → w0.heap.size ≤ q ∧ blk a1 ≠ some q ∧ ∀ v ∈ ss, v.ownBlock ≠ some q
theorem FreshA.mk' {w0 wr : World} {a1 am : Option Addr} {ss : List Value} {xss : List (List Int)} {G : Nat → Prop} (hI : Inner wr G (blk a1) ss xss) (hlo : ∀ g, blk a1 = some g → g < wr.heap.size) (h0 : w0.heap.size ≤ wr.heap.size) (hf : ∀ q, blk am = some q → wr.heap.size ≤ q) : FreshA w0 a1 am ss :=
  fun q hq => ⟨by have := hf q hq; omega, fun e => by have := hlo q e; have := hf q hq; omega, fun v hv e => by have := (hI.lt hv e).1; have := hf q hq; omega⟩
theorem SepA.app {w0 w2 w3 : World} {a1 a3 b1 b2 : Option Addr} {k c1 c2 c3 : Nat} {L : List Arw} {vs : List Value} {x y : List Int} (hI : Inner w2 (New w0 w2) (blk a1) vs (flat L)) (hlo : ∀ g, blk a1 = some g → New w0 w2 g)
    (o1 : Own w2 3 1 b1 x.length c1 (ints x)) (h1 : ∀ z ∈ x, I64 z) (o2 : Own w2 3 1 b2 y.length c2 (ints y)) (h2 : ∀ z ∈ y, I64 z) (f1 : FreshA w0 a1 b1 vs) (f2 : FreshA w0 a1 b2 vs) (hap : ∀ q, blk b1 = some q → blk b2 ≠ some q) (h0 : w0.heap.size ≤ w2.heap.size)
    (hA : Apped w2 w3 79 2 a1 a3 (k + 1) c3 (vs ++ [.slice b1 x.length c1, .slice b2 y.length c2])) : SepA w3 (New w0 w3) a3 (k + 1) c3 (L ++ [(x, y)]) := by
  have hs3 := hA.keep.size
  have hl3 := hA.lo (B := w0.heap.size) (by omega) (fun g hg => (hlo g hg).1)
  refine ⟨⟨vs ++ [.slice b1 x.length c1, .slice b2 y.length c2], hA.own, ?_⟩, fun g hg => ⟨hl3 g hg, hA.own.lt hg⟩⟩
  have q1 := hI.snoc o1 h1 (fun q hq => ⟨⟨(f1 q hq).1, o1.lt hq⟩, (f1 q hq).2.1⟩) (fun q hq v hv hvq => (f1 q hq).2.2 v hv hvq)
  have q2 := q1.snoc o2 h2 (fun q hq => ⟨⟨(f2 q hq).1, o2.lt hq⟩, (f2 q hq).2.1⟩) (fun q hq v hv hvq => by
    rcases List.mem_append.1 hv with hv | hv
    · exact (f2 q hq).2.2 v hv hvq
    · rw [List.mem_singleton] at hv; subst hv; rw [ownBlock_slice] at hvq; exact hap q hvq hq)
  have e1 : flat (L ++ [(x, y)]) = (flat L ++ [x]) ++ [y] := by rw [flat_append]; simp
  have e2 : vs ++ [.slice b1 x.length c1, .slice b2 y.length c2] = (vs ++ [.slice b1 x.length c1]) ++ [.slice b2 y.length c2] := by simp
  rw [e1, e2]
  refine q2.move (G := New w0 w3) (g' := blk a3) hA.keep fun b hb hF hne => ⟨hne, ⟨hF.1, by omega⟩, fun e => ?_⟩
  rcases hA.new with e2 | ⟨g', e2, hg'⟩
  · rw [e2] at e; exact hne e
  · rw [e2] at e
    obtain rfl := Option.some.inj e
    omega

def CArPost (z : Nat) (x y : List Int) : Nat → Value → World → Prop
  | 1, v, _ => ∃ g, v = .slice (some ⟨g, 0, none⟩) 0 0
  | 5, v, _ => ∃ g, v = .slice (some ⟨g, 0, none⟩) 0 0
  | 4, v, w => ∃ g c, v = .slice (some ⟨g, 0, none⟩) x.length c ∧ z ≤ g ∧ Own w 3 1 (some ⟨g, 0, none⟩) x.length c (ints x)
  | 8, v, w => ∃ g c, v = .slice (some ⟨g, 0, none⟩) y.length c ∧ z ≤ g ∧ Own w 3 1 (some ⟨g, 0, none⟩) y.length c (ints y)
  | _, _, _ => True
def carOb (i : Nat) (v : Value) : Option Nat := if i = 4 ∨ i = 8 then v.ownBlock else none
theorem CArPost.stays {z : Nat} {x y : List Int} : ∀ i v w w', Grow w w' → CArPost z x y i v w → CArPost z x y i v w' := fun i v w w' hG h => by
  unfold CArPost at *
  split at h
  · exact h
  · exact h
  · obtain ⟨g, c, h1, h2, h3⟩ := h; exact ⟨g, c, h1, h2, h3.grow hG⟩
  · obtain ⟨g, c, h1, h2, h3⟩ := h; exact ⟨g, c, h1, h2, h3.grow hG⟩
  · trivial
theorem CArPost.lt {z : Nat} {x y : List Int} : ∀ i v w, CArPost z x y i v w → ∀ g, carOb i v = some g → g < w.heap.size := fun i v w h g hg => by
  unfold carOb at hg
  split at hg
  · rename_i hi
    rcases hi with rfl | rfl
    · obtain ⟨g', c, rfl, h2, h3⟩ := h
      rw [ownBlock_slice] at hg
      exact h3.lt hg
    · obtain ⟨g', c, rfl, h2, h3⟩ := h
      rw [ownBlock_slice] at hg
      exact h3.lt hg
  · cases hg

set_option maxHeartbeats 4000000 in
set_option maxRecDepth 100000 in
theorem copyArrows_c {S : Nat → Prop} (a : Option Addr) (n cap : Nat) (ar : List Arw) (w : World) (h : RdA w S a n cap ar) (hn : n ≤ 1048576) (hf : total (flat ar) ≤ 1048576) (hne : ∀ x ∈ flat ar, 1 ≤ x.length) :
    Calls Try.prog 90 #[.slice a n cap] w fun e w' => ∃ a' c', e = .returned (.slice a' n c') ∧ SepA w' (New w w') a' n c' ar ∧ Grow w w' := by
  have Hl := Lib.hid h.len
  go_enter Try.func90, Try.ntmps90
  go_wp2
  go_loopw [3, 9] (fun v i wr => Grow w wr ∧ ∃ (k c1 : Nat) (a1 : Option Addr), k ≤ n ∧ i = .int .i64 k ∧ v = .slice a1 k c1 ∧ SepA wr (New w wr) a1 k c1 (ar.take k)) (fun _ i _ => n - (intOf i).toNat)
  case atStart =>
    refine ⟨(Grow.refl w).alloc _ _, 0, 0, _, Nat.zero_le _, rfl, rfl, ⟨⟨[], Own.fresh (by unfold maxLen; omega) rfl, Inner.nilw⟩, fun g hg => ?_⟩⟩
    simp at hg; subst hg; exact ⟨Nat.le_refl _, by simp⟩
  case round =>
    obtain ⟨hG, k, c1, a1, hk, rfl, rfl, hS⟩ := hrel
    by_cases hlt : k < n
    · obtain ⟨b, off, x, y, ax, cx, ay, cy, rfl, hx, _, hbw, ⟨hc1, hc2⟩, r1, r2⟩ := (h.grow hG).at hlt
      have htx := (flat_total_at hx).2
      have hfl := flat_at hx
      have hxp := hne x (List.mem_of_getElem? hfl.1)
      have hyp := hne y (List.mem_of_getElem? hfl.2)
      have Hx := Lib.hid hx; clear hx hfl
      obtain ⟨wb, hwb⟩ : ∃ wb, wb = wr.alloc (.cells #[.slice ax x.length cx, .slice ay y.length cy] 79) := ⟨_, rfl⟩
      have hGb : Grow wr wb := by rw [hwb]; exact (Grow.refl _).alloc _ _
      have hsb : wb.heap.size = wr.heap.size + 1 := by rw [hwb]; simp
      have hBb : Blk wb wr.heap.size #[.slice ax x.length cx, .slice ay y.length cy] 79 := by rw [hwb]; exact Blk.new _ _ _
      have Hwb := Lib.hid hwb; clear hwb
      have p0 : wb.cell? ⟨wr.heap.size, 0, none⟩ = some (.slice ax x.length cx) := hBb.cell 0
      have p1 : wb.cell? ⟨wr.heap.size, 1, none⟩ = some (.slice ay y.length cy) := hBb.cell 1
      obtain ⟨⟨vs, hO, hI⟩, hlo⟩ := hS
      have hnb : blk a1 ≠ some wr.heap.size := fun e => by have := (hlo _ e).2; omega
      go_wp2
      rw [← Hwb.out]
      refine wp_region_par (S := (Keep (fun q => blk a1 ≠ some q) wb)) [0, 2, 3, 6, 7] [1, 4, 5, 8] [] [([], some 9), ([], some 10), ([], some 11), ([12], none)] P_mixed (by kernel_rfl) (fun _ _ _ _ _ h => h) (Keep.refl _ _).drew ?_
      show wpQuiet _ _ _ _ [_, _, _, _, _] _
      repeat (first | go_big_quiet_skip | (go_big_quiet_want; first | (apply quiet_load CT_ints; rfl; rfl; exact (fun w' hG => hG.cell hnb p0); go_big_quiet_on; simp only [Act.put, List.setIfInBounds_toArray, List.set_cons_succ, List.set_cons_zero]) | (apply quiet_load CT_ints; rfl; rfl; exact (fun w' hG => hG.cell hnb p1); go_big_quiet_on; simp only [Act.put, List.setIfInBounds_toArray, List.set_cons_succ, List.set_cons_zero]) | (go_big_quiet_op; first | go_big_quiet_on | (refine ⟨_, (fun _ _ => rfl), ?_⟩; go_big_quiet_on))))
      refine wpQuiet_nil ?_
      refine ⟨by kernel_rfl, CArPost wr.heap.size x y, carOb, CArPost.stays, CArPost.lt, (fun _ h _ => by cases h), ?_, (fun _ h => by cases h), ?_⟩
      · intro i hi o ho a w2 hGw hSw hdep hfr K hK
        have hgw : Grow wb w2 := (Grow.refl wb).drew.trans hGw
        have hs2 := hgw.size
        simp only [List.mem_cons, List.not_mem_nil, or_false] at hi
        rcases hi with rfl | rfl | rfl | rfl
        · obtain rfl := Option.some.inj (show some _ = some _ from ho)
          refine par_built0 rfl T_ints ?_
          exact hK _ _ ((Grow.refl _).alloc _ _) (hSw.alloc _ _) ⟨_, rfl⟩ (fun _ h => by cases h)
        · obtain rfl := Option.some.inj (show some _ = some _ from ho)
          obtain ⟨g, e⟩ : ∃ g, a.tmps.getD 14 undef = .slice (some ⟨g, 0, none⟩) 0 0 := hdep 1 (by decide) ⟨⟨1, .data⟩, by simp, rfl, rfl⟩ 14 rfl
          refine par_app (s := .tmp 14) (x := .tmp 16) rfl T_ints e (Row.emptyAt (S := fun _ => True)) (hfr 16 (by decide)) ((r1.grow hGb).grow hgw).row (by omega) (by omega) (by unfold maxLen; omega) ?_
          intro c' w3 h1 h2
          rw [Nat.zero_add] at h1 ⊢
          exact hK _ _ h2 (hSw.trans (h2.mono fun _ _ _ => trivial)) ⟨_, c', rfl, by omega, h1⟩ (fun g hg => by simp [carOb, ownBlock_slice] at hg; omega)
        · obtain rfl := Option.some.inj (show some _ = some _ from ho)
          refine par_built0 rfl T_ints ?_
          exact hK _ _ ((Grow.refl _).alloc _ _) (hSw.alloc _ _) ⟨_, rfl⟩ (fun _ h => by cases h)
        · obtain rfl := Option.some.inj (show some _ = some _ from ho)
          obtain ⟨g, e⟩ : ∃ g, a.tmps.getD 18 undef = .slice (some ⟨g, 0, none⟩) 0 0 := hdep 5 (by decide) ⟨⟨5, .data⟩, by simp, rfl, rfl⟩ 18 rfl
          refine par_app (s := .tmp 18) (x := .tmp 20) rfl T_ints e (Row.emptyAt (S := fun _ => True)) (hfr 20 (by decide)) ((r2.grow hGb).grow hgw).row (by omega) (by omega) (by unfold maxLen; omega) ?_
          intro c' w3 h1 h2
          rw [Nat.zero_add] at h1 ⊢
          exact hK _ _ h2 (hSw.trans (h2.mono fun _ _ _ => trivial)) ⟨_, c', rfl, by omega, h1⟩ (fun g hg => by simp [carOb, ownBlock_slice] at hg; omega)
      intro vs' w2 hGw hSw hP hD
      apply fill_to
      · show _ = ([some 14, some 17, some 18, some 21] : List (Option Tmp))
        kernel_rfl
      simp only [fillD, List.cons_append, List.nil_append, List.map_cons, List.map_nil, List.zip_cons_cons, List.zip_nil_right, Act.put, List.setIfInBounds_toArray, List.set_cons_succ, List.set_cons_zero]
      refine ⟨?_⟩
      have hgw : Grow wb w2 := (Grow.refl wb).drew.trans hGw
      have hs2 := hgw.size
      obtain ⟨g4, c4, e4, hz4, o4⟩ : ∃ g c, vs' 4 = .slice (some ⟨g, 0, none⟩) x.length c ∧ wr.heap.size ≤ g ∧ Own w2 3 1 (some ⟨g, 0, none⟩) x.length c (ints x) := hP 4 (by decide)
      obtain ⟨g8, c8, e8, hz8, o8⟩ : ∃ g c, vs' 8 = .slice (some ⟨g, 0, none⟩) y.length c ∧ wr.heap.size ≤ g ∧ Own w2 3 1 (some ⟨g, 0, none⟩) y.length c (ints y) := hP 8 (by decide)
      have hap : g4 ≠ g8 := fun e => hD 4 (by decide) 8 (by decide) (by decide) g4 (by rw [e4]; rfl) (by rw [e8, e]; rfl)
      rw [e4, e8]
      clear hP hD e4 e8
      have hs := hG.size
      have hIw := (hI.grow (hGb.trans hgw)).weak (G := New w w2) (g' := blk a1) fun b _ hF hne => ⟨⟨hF.1, by have := hF.2; omega⟩, hne⟩
      have hf4 : FreshA w a1 (some ⟨g4, 0, none⟩) vs := FreshA.mk' hI (fun g hg => (hlo g hg).2) hs (fun q hq => by simp at hq; omega)
      have hf8 : FreshA w a1 (some ⟨g8, 0, none⟩) vs := FreshA.mk' hI (fun g hg => (hlo g hg).2) hs (fun q hq => by simp at hq; omega)
      have hOw := hO.grow (hGb.trans hgw)
      have hlow : ∀ g, blk a1 = some g → New w w2 g := fun g hg => ⟨(hlo g hg).1, by have := (hlo g hg).2; omega⟩
      have hGw2 := hG.trans (hGb.trans hgw)
      clear hO hI hgw hGw hBb p0 p1 hGb
      show wpQuiet _ _ _ _ [] _
      apply wpQuiet_nil
      apply seg_go rfl
      intro K hK
      go_wp2_with fail
      refine hK _ _ hSw ?_
      clear hK K
      show wpQuiet _ _ _ _ [] _
      try (conv => arg 6; simp only [Act.put, List.setIfInBounds_toArray, List.set_cons_succ, List.set_cons_zero])
      refine wpQuiet_nil ?_
      refine seg_go rfl (fun K hK => ?_)
      go_wp2_with fail
      refine hK _ _ (hSw.alloc _ _) ?_
      clear hK K
      show wpQuiet _ _ _ _ [] _
      try (conv => arg 6; simp only [Act.put, List.setIfInBounds_toArray, List.set_cons_succ, List.set_cons_zero])
      refine wpQuiet_nil ?_
      refine seg_go rfl (fun K hK => ?_)
      have hGz := (Grow.refl w2).alloc #[.slice (some ⟨g4, 0, none⟩) x.length c4, .slice (some ⟨g8, 0, none⟩) y.length c8] 79
      refine op_app rfl T_arrows rfl (hOw.grow hGz) rfl (Row.built (S := fun _ => True) 1 (by unfold maxLen; omega) rfl trivial) (by simp [Value.oneCell']) (by omega) (by unfold maxLen; omega) ?_
      intro a3 c3 w3 hA3
      have hS3 := SepA.app ((hIw.grow hGz).weak fun b hb hF hne => ⟨⟨hF.1, hb⟩, hne⟩) (fun g hg => ⟨(hlow g hg).1, Nat.lt_of_lt_of_le (hlow g hg).2 hGz.size⟩) (o4.grow hGz) r1.rng (o8.grow hGz) r2.rng hf4 hf8 (fun q h1 h2 => by simp at h1 h2; omega) (by have := hGz.size; have := hGw2.size; omega) hA3
      have hG3 : Grow w w3 := hA3.grow (hGw2.trans hGz) (fun g hg => (hlow g hg).1)
      rw [← take_succ Hx.out] at hS3
      refine hK _ _ ((hSw.alloc _ _).trans hA3.keep) ?_
      clear hK K hA3 hSw
      show wpQuiet _ _ _ _ [_] _
      try (conv => arg 6; simp only [Act.put, List.setIfInBounds_toArray, List.set_cons_succ, List.set_cons_zero])
      repeat (first | go_big_quiet_skip | (go_big_quiet_want; first | (apply quiet_load CT_ints; rfl; rfl; exact (fun w' hG => hG.cell hnb p0); go_big_quiet_on; simp only [Act.put, List.setIfInBounds_toArray, List.set_cons_succ, List.set_cons_zero]) | (apply quiet_load CT_ints; rfl; rfl; exact (fun w' hG => hG.cell hnb p1); go_big_quiet_on; simp only [Act.put, List.setIfInBounds_toArray, List.set_cons_succ, List.set_cons_zero]) | (go_big_quiet_op; first | go_big_quiet_on | (refine ⟨_, (fun _ _ => rfl), ?_⟩; go_big_quiet_on))))
      refine wpQuiet_nil ?_
      refine wpSegs_nil ?_
      go_wp2
      go_roundw
      case rel => exact ⟨hG3, k + 1, c3, a3, by omega, by go_num, rfl, hS3⟩
      case measure => simp [intOf]; omega
    · go_wp2
      go_ret
      have : k = n := by omega
      subst this
      rw [take_all Hl.out] at hS
      exact ⟨_, _, rfl, hS, hG⟩
end Go.Proofs.Ytkafhbedipfgpaa
