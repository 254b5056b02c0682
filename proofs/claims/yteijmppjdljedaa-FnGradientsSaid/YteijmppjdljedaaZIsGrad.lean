/-
  IsGradient: the program's and the reference's.
-/
import Derived.Test.YteijmppjdljedaaZLeads
import Derived.Test.YteijmppjdljedaaZOrder
import Derived.Test.YteijmppjdljedaaZArrow
namespace Go.Proofs.Yteijmppjdljedaa
open Go.RowKit

/-- What an arrow must be, beside those before it. -/
def arwB (l : List (List Int)) (ar : List Arw) (i : Nat) : Bool :=
  decide (0 ≤ findI l (ar.getD i ([], [])).1) && (decide (0 ≤ findI l (ar.getD i ([], [])).2) && (isFaceB (ar.getD i ([], [])).1 (ar.getD i ([], [])).2 && (!inArB (ar.take i) (ar.getD i ([], [])).1 && !inArB (ar.take i) (ar.getD i ([], [])).2)))
def gradTo (l : List (List Int)) (ar : List Arw) : Nat → Bool
  | 0 => true
  | k + 1 => gradTo l ar k && arwB l ar k
noncomputable def isGradB (l : List (List Int)) (ar : List Arw) : Bool := isCplxB l && (decide (ar.length ≤ l.length) && (gradTo l ar ar.length && acycB ar))
theorem gradTo_no {l : List (List Int)} {ar : List Arw} {k : Nat} (h : arwB l ar k = false) : ∀ {m : Nat}, k < m → gradTo l ar m = false
  | m + 1, hm => by
    unfold gradTo
    by_cases e : k = m
    · subst e; rw [h]; simp
    · rw [gradTo_no h (show k < m by omega)]; rfl
theorem arwB_at {l : List (List Int)} {ar : List Arw} {k : Nat} {x y : List Int} (h : ar[k]? = some (x, y)) : arwB l ar k = (decide (0 ≤ findI l x) && (decide (0 ≤ findI l y) && (isFaceB x y && (!inArB (ar.take k) x && !inArB (ar.take k) y)))) := by
  unfold arwB
  have : ar.getD k ([], []) = (x, y) := by simp [List.getD, h]
  rw [this]

set_option maxHeartbeats 4000000 in
set_option maxRecDepth 100000 in
theorem implIsGradient_c {S T : Nat → Prop} (a b : Option Addr) (n cap m cap' : Nat) (l : List (List Int)) (ar : List Arw) (w : World) (h : RdII w S a n cap l) (h' : RdA w T b m cap' ar) (hn : n ≤ 1048576) (ht : total l ≤ 1048576) (hm : m ≤ 1048576) (hf : total (flat ar) ≤ 1048576) :
    Calls Try.prog 9 #[.slice a n cap, .slice b m cap'] w fun e w' => e = .returned (.bool (isGradB l ar)) ∧ Grow w w' := by
  have hl := h.len
  have hl' := h'.len
  have hcap' := h'.cap_le
  have Hl := Lib.hid hl; have Hl' := Lib.hid hl'
  clear hl hl'
  cases hB : isCplxB l with
  | false =>
    have HB := Lib.hid hB; clear hB
    go_enter Try.func9, Try.ntmps9
    go_wp2_with fail
    refine (implIsComplex_c _ _ _ l _ h hn ht).mono ?_
    rintro e w1 ⟨rfl, hG⟩
    rw [HB.out]
    go_wp2
    go_ret
    exact ⟨ret_bool (by unfold isGradB; rw [HB.out]; rfl), hG⟩
  | true =>
    have HB := Lib.hid hB; clear hB
    by_cases hmn : n < m
    · go_enter Try.func9, Try.ntmps9
      go_wp2_with fail
      refine (implIsComplex_c _ _ _ l _ h hn ht).mono ?_
      rintro e w1 ⟨rfl, hG⟩
      rw [HB.out]
      go_wp2
      go_ret
      exact ⟨ret_bool (by unfold isGradB; rw [Hl.out, Hl'.out, decide_eq_false (by omega : ¬ m ≤ n)]; simp), hG⟩
    · go_enter Try.func9, Try.ntmps9
      go_wp2_with fail
      refine (implIsComplex_c _ _ _ l _ h hn ht).mono ?_
      rintro e w1 ⟨rfl, hG⟩
      rw [HB.out]
      go_wp2
      go_loopw [19] (fun q wr => Grow w wr ∧ ∃ k : Nat, k ≤ m ∧ q = .int .i64 k ∧ gradTo l ar k = true) (fun q _ => m - (intOf q).toNat)
      case atStart => exact ⟨hG, 0, Nat.zero_le _, rfl, rfl⟩
      case round =>
        clear hG
        obtain ⟨hG0, k, hk, rfl, hgt⟩ := hrel
        have Hgt := Lib.hid hgt; clear hgt
        by_cases hlt : k < m
        · have hrA := h'.grow hG0
          obtain ⟨bb, off, x, y, a1, c1, a2, c2, rfl, hx, hbs, hbw, ⟨hc1, hc2⟩, r1, r2⟩ := hrA.at hlt
          have htx := (flat_total_at hx).2
          have hpt : total (flat (ar.take k)) ≤ 1048576 := by omega
          have hst := arwB_at (l := l) hx
          have hR := T_arrows.atH (a := some (⟨bb, off, none⟩ : Addr)) (n := m) (cap := cap') (k := k) (i := k) rfl (by omega)
          have hpre := hrA.pre (k := k) (by omega)
          have hGa : Grow wr (wr.alloc (.cells #[.slice a1 x.length c1, .slice a2 y.length c2] 43)) := (Grow.refl _).alloc _ _
          have hBa := Blk.new wr #[.slice a1 x.length c1, .slice a2 y.length c2] 43
          have p0 : (wr.alloc (.cells #[.slice a1 x.length c1, .slice a2 y.length c2] 43)).cell? ⟨wr.heap.size, 0, none⟩ = some (.slice a1 x.length c1) := hBa.cell 0
          have p1 : (wr.alloc (.cells #[.slice a1 x.length c1, .slice a2 y.length c2] 43)).cell? ⟨wr.heap.size, 1, none⟩ = some (.slice a2 y.length c2) := hBa.cell 1
          have rl := (h.grow hG0).grow hGa
          have r1a := r1.grow hGa
          have r2a := r2.grow hGa
          have rpa := hpre.grow hGa
          have htk := take_succ hx
          have Hx := Lib.hid hx
          clear hx hpre htk
          generalize hwa : wr.alloc (.cells #[.slice a1 x.length c1, .slice a2 y.length c2] 43) = wa at *
          have Hwa := Lib.hid hwa
          clear hwa
          generalize hfx : findI l x = fx at *
          generalize hfy : findI l y = fy at *
          have Hfx := Lib.hid hfx; have Hfy := Lib.hid hfy
          clear hfx hfy
          have Hst := Lib.hid hst; clear hst
          by_cases d1 : fx < 0
          · have Hs := Lib.hid (show arwB l ar k = false by rw [Hst.out, decide_eq_false (by omega : ¬ 0 ≤ fx)]; rfl)
            have D1 : decide (fx < 0) = true := by simpa using d1
            go_wp2
            rw [Hwa.out]
            refine wp_region_segs (S := Grow wa) [([0, 1, 2], some 3), ([4, 5, 6, 7, 8], some 9), ([10, 11, 12, 13, 14, 15, 16], some 17), ([18, 19, 20, 21, 22, 23, 24, 25], some 26), ([27, 28, 29, 30, 31, 32, 33], some 34), ([35], none)] P_mixed (by kernel_rfl) (fun _ _ _ _ _ h => h) (Grow.refl _).drew ?_
            show wpQuiet _ _ _ _ [_, _, _] _
            repeat (first | go_big_quiet_skip | (go_big_quiet_want; first | (apply quiet_load CT_ints; rfl; rfl; exact (fun w' hG => hG.cell p0); go_big_quiet_on; simp only [Act.put, List.setIfInBounds_toArray, List.set_cons_succ, List.set_cons_zero]) | (apply quiet_load CT_ints; rfl; rfl; exact (fun w' hG => hG.cell p1); go_big_quiet_on; simp only [Act.put, List.setIfInBounds_toArray, List.set_cons_succ, List.set_cons_zero]) | (apply quiet_sliceH (x := .tmp 45) (h := .tmp 46); rfl; exact hR; go_big_quiet_on; simp only [Act.put, List.setIfInBounds_toArray, List.set_cons_succ, List.set_cons_zero]) | (apply quiet_sliceH (x := .tmp 53) (h := .tmp 54); rfl; exact hR; go_big_quiet_on; simp only [Act.put, List.setIfInBounds_toArray, List.set_cons_succ, List.set_cons_zero]) | (go_big_quiet_op; first | go_big_quiet_on | (refine ⟨_, (fun _ _ => rfl), ?_⟩; go_big_quiet_on))))
            refine wpQuiet_nil ?_
            refine seg_go rfl (fun K hK => ?_)
            go_wp2_with fail
            refine (indexOfSimplex_c _ _ _ _ _ _ l x _ (rl.grow (Grow.refl _).drew) (r1a.grow (Grow.refl _).drew) (by omega) (by omega)).mono ?_
            rintro e w1 ⟨rfl, hGq⟩
            have hGx := (Grow.refl wa).drew.trans hGq
            clear hGq
            rw [Hfx.out]
            go_wp2_with fail
            refine hK _ _ (hGx) ?_
            clear hK K
            show wpQuiet _ _ _ _ [_, _, _, _, _] _
            try (conv => arg 6; simp only [Act.put, List.setIfInBounds_toArray, List.set_cons_succ, List.set_cons_zero])
            repeat (first | go_big_quiet_skip | (go_big_quiet_want; first | (apply quiet_load CT_ints; rfl; rfl; exact (fun w' hG => hG.cell p0); go_big_quiet_on; simp only [Act.put, List.setIfInBounds_toArray, List.set_cons_succ, List.set_cons_zero]) | (apply quiet_load CT_ints; rfl; rfl; exact (fun w' hG => hG.cell p1); go_big_quiet_on; simp only [Act.put, List.setIfInBounds_toArray, List.set_cons_succ, List.set_cons_zero]) | (apply quiet_sliceH (x := .tmp 45) (h := .tmp 46); rfl; exact hR; go_big_quiet_on; simp only [Act.put, List.setIfInBounds_toArray, List.set_cons_succ, List.set_cons_zero]) | (apply quiet_sliceH (x := .tmp 53) (h := .tmp 54); rfl; exact hR; go_big_quiet_on; simp only [Act.put, List.setIfInBounds_toArray, List.set_cons_succ, List.set_cons_zero]) | (go_big_quiet_op; first | go_big_quiet_on | (refine ⟨_, (fun _ _ => rfl), ?_⟩; go_big_quiet_on))))
            refine wpQuiet_nil ?_
            refine seg_skip rfl (hGx) ?_
            show wpQuiet _ _ _ _ [_, _, _, _, _, _, _] _
            try (conv => arg 6; simp only [Act.put, List.setIfInBounds_toArray, List.set_cons_succ, List.set_cons_zero])
            repeat (first | go_big_quiet_skip | (go_big_quiet_want; first | (apply quiet_load CT_ints; rfl; rfl; exact (fun w' hG => hG.cell p0); go_big_quiet_on; simp only [Act.put, List.setIfInBounds_toArray, List.set_cons_succ, List.set_cons_zero]) | (apply quiet_load CT_ints; rfl; rfl; exact (fun w' hG => hG.cell p1); go_big_quiet_on; simp only [Act.put, List.setIfInBounds_toArray, List.set_cons_succ, List.set_cons_zero]) | (apply quiet_sliceH (x := .tmp 45) (h := .tmp 46); rfl; exact hR; go_big_quiet_on; simp only [Act.put, List.setIfInBounds_toArray, List.set_cons_succ, List.set_cons_zero]) | (apply quiet_sliceH (x := .tmp 53) (h := .tmp 54); rfl; exact hR; go_big_quiet_on; simp only [Act.put, List.setIfInBounds_toArray, List.set_cons_succ, List.set_cons_zero]) | (go_big_quiet_op; first | go_big_quiet_on | (refine ⟨_, (fun _ _ => rfl), ?_⟩; go_big_quiet_on))))
            refine wpQuiet_nil ?_
            refine seg_skip rfl (hGx) ?_
            show wpQuiet _ _ _ _ [_, _, _, _, _, _, _, _] _
            try (conv => arg 6; simp only [Act.put, List.setIfInBounds_toArray, List.set_cons_succ, List.set_cons_zero])
            repeat (first | go_big_quiet_skip | (go_big_quiet_want; first | (apply quiet_load CT_ints; rfl; rfl; exact (fun w' hG => hG.cell p0); go_big_quiet_on; simp only [Act.put, List.setIfInBounds_toArray, List.set_cons_succ, List.set_cons_zero]) | (apply quiet_load CT_ints; rfl; rfl; exact (fun w' hG => hG.cell p1); go_big_quiet_on; simp only [Act.put, List.setIfInBounds_toArray, List.set_cons_succ, List.set_cons_zero]) | (apply quiet_sliceH (x := .tmp 45) (h := .tmp 46); rfl; exact hR; go_big_quiet_on; simp only [Act.put, List.setIfInBounds_toArray, List.set_cons_succ, List.set_cons_zero]) | (apply quiet_sliceH (x := .tmp 53) (h := .tmp 54); rfl; exact hR; go_big_quiet_on; simp only [Act.put, List.setIfInBounds_toArray, List.set_cons_succ, List.set_cons_zero]) | (go_big_quiet_op; first | go_big_quiet_on | (refine ⟨_, (fun _ _ => rfl), ?_⟩; go_big_quiet_on))))
            refine wpQuiet_nil ?_
            refine seg_skip rfl (hGx) ?_
            show wpQuiet _ _ _ _ [_, _, _, _, _, _, _] _
            try (conv => arg 6; simp only [Act.put, List.setIfInBounds_toArray, List.set_cons_succ, List.set_cons_zero])
            repeat (first | go_big_quiet_skip | (go_big_quiet_want; first | (apply quiet_load CT_ints; rfl; rfl; exact (fun w' hG => hG.cell p0); go_big_quiet_on; simp only [Act.put, List.setIfInBounds_toArray, List.set_cons_succ, List.set_cons_zero]) | (apply quiet_load CT_ints; rfl; rfl; exact (fun w' hG => hG.cell p1); go_big_quiet_on; simp only [Act.put, List.setIfInBounds_toArray, List.set_cons_succ, List.set_cons_zero]) | (apply quiet_sliceH (x := .tmp 45) (h := .tmp 46); rfl; exact hR; go_big_quiet_on; simp only [Act.put, List.setIfInBounds_toArray, List.set_cons_succ, List.set_cons_zero]) | (apply quiet_sliceH (x := .tmp 53) (h := .tmp 54); rfl; exact hR; go_big_quiet_on; simp only [Act.put, List.setIfInBounds_toArray, List.set_cons_succ, List.set_cons_zero]) | (go_big_quiet_op; first | go_big_quiet_on | (refine ⟨_, (fun _ _ => rfl), ?_⟩; go_big_quiet_on))))
            refine wpQuiet_nil ?_
            refine seg_skip rfl (hGx) ?_
            show wpQuiet _ _ _ _ [_] _
            try (conv => arg 6; simp only [Act.put, List.setIfInBounds_toArray, List.set_cons_succ, List.set_cons_zero])
            repeat (first | go_big_quiet_skip | (go_big_quiet_want; first | (apply quiet_load CT_ints; rfl; rfl; exact (fun w' hG => hG.cell p0); go_big_quiet_on; simp only [Act.put, List.setIfInBounds_toArray, List.set_cons_succ, List.set_cons_zero]) | (apply quiet_load CT_ints; rfl; rfl; exact (fun w' hG => hG.cell p1); go_big_quiet_on; simp only [Act.put, List.setIfInBounds_toArray, List.set_cons_succ, List.set_cons_zero]) | (apply quiet_sliceH (x := .tmp 45) (h := .tmp 46); rfl; exact hR; go_big_quiet_on; simp only [Act.put, List.setIfInBounds_toArray, List.set_cons_succ, List.set_cons_zero]) | (apply quiet_sliceH (x := .tmp 53) (h := .tmp 54); rfl; exact hR; go_big_quiet_on; simp only [Act.put, List.setIfInBounds_toArray, List.set_cons_succ, List.set_cons_zero]) | (go_big_quiet_op; first | go_big_quiet_on | (refine ⟨_, (fun _ _ => rfl), ?_⟩; go_big_quiet_on))))
            refine wpQuiet_nil ?_
            refine wpSegs_nil ?_
            go_wp2
            go_ret
            exact ⟨ret_bool (by unfold isGradB; rw [gradTo_no Hs.out (by rw [Hl'.out]; exact hlt)]; simp), hG0.trans (hGa.trans hGx)⟩
          · have D1 : decide (fx < 0) = false := by simpa using d1
            by_cases d2 : fy < 0
            · have Hs := Lib.hid (show arwB l ar k = false by rw [Hst.out, decide_eq_false (by omega : ¬ 0 ≤ fy)]; simp)
              have D2 : decide (fy < 0) = true := by simpa using d2
              go_wp2
              rw [Hwa.out]
              refine wp_region_segs (S := Grow wa) [([0, 1, 2], some 3), ([4, 5, 6, 7, 8], some 9), ([10, 11, 12, 13, 14, 15, 16], some 17), ([18, 19, 20, 21, 22, 23, 24, 25], some 26), ([27, 28, 29, 30, 31, 32, 33], some 34), ([35], none)] P_mixed (by kernel_rfl) (fun _ _ _ _ _ h => h) (Grow.refl _).drew ?_
              show wpQuiet _ _ _ _ [_, _, _] _
              repeat (first | go_big_quiet_skip | (go_big_quiet_want; first | (apply quiet_load CT_ints; rfl; rfl; exact (fun w' hG => hG.cell p0); go_big_quiet_on; simp only [Act.put, List.setIfInBounds_toArray, List.set_cons_succ, List.set_cons_zero]) | (apply quiet_load CT_ints; rfl; rfl; exact (fun w' hG => hG.cell p1); go_big_quiet_on; simp only [Act.put, List.setIfInBounds_toArray, List.set_cons_succ, List.set_cons_zero]) | (apply quiet_sliceH (x := .tmp 45) (h := .tmp 46); rfl; exact hR; go_big_quiet_on; simp only [Act.put, List.setIfInBounds_toArray, List.set_cons_succ, List.set_cons_zero]) | (apply quiet_sliceH (x := .tmp 53) (h := .tmp 54); rfl; exact hR; go_big_quiet_on; simp only [Act.put, List.setIfInBounds_toArray, List.set_cons_succ, List.set_cons_zero]) | (go_big_quiet_op; first | go_big_quiet_on | (refine ⟨_, (fun _ _ => rfl), ?_⟩; go_big_quiet_on))))
              refine wpQuiet_nil ?_
              refine seg_go rfl (fun K hK => ?_)
              go_wp2_with fail
              refine (indexOfSimplex_c _ _ _ _ _ _ l x _ (rl.grow (Grow.refl _).drew) (r1a.grow (Grow.refl _).drew) (by omega) (by omega)).mono ?_
              rintro e w1 ⟨rfl, hGq⟩
              have hGx := (Grow.refl wa).drew.trans hGq
              clear hGq
              rw [Hfx.out]
              go_wp2_with fail
              refine hK _ _ (hGx) ?_
              clear hK K
              show wpQuiet _ _ _ _ [_, _, _, _, _] _
              try (conv => arg 6; simp only [Act.put, List.setIfInBounds_toArray, List.set_cons_succ, List.set_cons_zero])
              repeat (first | go_big_quiet_skip | (go_big_quiet_want; first | (apply quiet_load CT_ints; rfl; rfl; exact (fun w' hG => hG.cell p0); go_big_quiet_on; simp only [Act.put, List.setIfInBounds_toArray, List.set_cons_succ, List.set_cons_zero]) | (apply quiet_load CT_ints; rfl; rfl; exact (fun w' hG => hG.cell p1); go_big_quiet_on; simp only [Act.put, List.setIfInBounds_toArray, List.set_cons_succ, List.set_cons_zero]) | (apply quiet_sliceH (x := .tmp 45) (h := .tmp 46); rfl; exact hR; go_big_quiet_on; simp only [Act.put, List.setIfInBounds_toArray, List.set_cons_succ, List.set_cons_zero]) | (apply quiet_sliceH (x := .tmp 53) (h := .tmp 54); rfl; exact hR; go_big_quiet_on; simp only [Act.put, List.setIfInBounds_toArray, List.set_cons_succ, List.set_cons_zero]) | (go_big_quiet_op; first | go_big_quiet_on | (refine ⟨_, (fun _ _ => rfl), ?_⟩; go_big_quiet_on))))
              refine wpQuiet_nil ?_
              refine seg_go rfl (fun K hK => ?_)
              go_wp2_with fail
              refine (indexOfSimplex_c _ _ _ _ _ _ l y _ (rl.grow hGx) (r2a.grow hGx) (by omega) (by omega)).mono ?_
              rintro e w2 ⟨rfl, hGq⟩
              replace hGx := hGx.trans hGq
              clear hGq
              rw [Hfy.out]
              go_wp2_with fail
              refine hK _ _ (hGx) ?_
              clear hK K
              show wpQuiet _ _ _ _ [_, _, _, _, _, _, _] _
              try (conv => arg 6; simp only [Act.put, List.setIfInBounds_toArray, List.set_cons_succ, List.set_cons_zero])
              repeat (first | go_big_quiet_skip | (go_big_quiet_want; first | (apply quiet_load CT_ints; rfl; rfl; exact (fun w' hG => hG.cell p0); go_big_quiet_on; simp only [Act.put, List.setIfInBounds_toArray, List.set_cons_succ, List.set_cons_zero]) | (apply quiet_load CT_ints; rfl; rfl; exact (fun w' hG => hG.cell p1); go_big_quiet_on; simp only [Act.put, List.setIfInBounds_toArray, List.set_cons_succ, List.set_cons_zero]) | (apply quiet_sliceH (x := .tmp 45) (h := .tmp 46); rfl; exact hR; go_big_quiet_on; simp only [Act.put, List.setIfInBounds_toArray, List.set_cons_succ, List.set_cons_zero]) | (apply quiet_sliceH (x := .tmp 53) (h := .tmp 54); rfl; exact hR; go_big_quiet_on; simp only [Act.put, List.setIfInBounds_toArray, List.set_cons_succ, List.set_cons_zero]) | (go_big_quiet_op; first | go_big_quiet_on | (refine ⟨_, (fun _ _ => rfl), ?_⟩; go_big_quiet_on))))
              refine wpQuiet_nil ?_
              refine seg_skip rfl (hGx) ?_
              show wpQuiet _ _ _ _ [_, _, _, _, _, _, _, _] _
              try (conv => arg 6; simp only [Act.put, List.setIfInBounds_toArray, List.set_cons_succ, List.set_cons_zero])
              repeat (first | go_big_quiet_skip | (go_big_quiet_want; first | (apply quiet_load CT_ints; rfl; rfl; exact (fun w' hG => hG.cell p0); go_big_quiet_on; simp only [Act.put, List.setIfInBounds_toArray, List.set_cons_succ, List.set_cons_zero]) | (apply quiet_load CT_ints; rfl; rfl; exact (fun w' hG => hG.cell p1); go_big_quiet_on; simp only [Act.put, List.setIfInBounds_toArray, List.set_cons_succ, List.set_cons_zero]) | (apply quiet_sliceH (x := .tmp 45) (h := .tmp 46); rfl; exact hR; go_big_quiet_on; simp only [Act.put, List.setIfInBounds_toArray, List.set_cons_succ, List.set_cons_zero]) | (apply quiet_sliceH (x := .tmp 53) (h := .tmp 54); rfl; exact hR; go_big_quiet_on; simp only [Act.put, List.setIfInBounds_toArray, List.set_cons_succ, List.set_cons_zero]) | (go_big_quiet_op; first | go_big_quiet_on | (refine ⟨_, (fun _ _ => rfl), ?_⟩; go_big_quiet_on))))
              refine wpQuiet_nil ?_
              refine seg_skip rfl (hGx) ?_
              show wpQuiet _ _ _ _ [_, _, _, _, _, _, _] _
              try (conv => arg 6; simp only [Act.put, List.setIfInBounds_toArray, List.set_cons_succ, List.set_cons_zero])
              repeat (first | go_big_quiet_skip | (go_big_quiet_want; first | (apply quiet_load CT_ints; rfl; rfl; exact (fun w' hG => hG.cell p0); go_big_quiet_on; simp only [Act.put, List.setIfInBounds_toArray, List.set_cons_succ, List.set_cons_zero]) | (apply quiet_load CT_ints; rfl; rfl; exact (fun w' hG => hG.cell p1); go_big_quiet_on; simp only [Act.put, List.setIfInBounds_toArray, List.set_cons_succ, List.set_cons_zero]) | (apply quiet_sliceH (x := .tmp 45) (h := .tmp 46); rfl; exact hR; go_big_quiet_on; simp only [Act.put, List.setIfInBounds_toArray, List.set_cons_succ, List.set_cons_zero]) | (apply quiet_sliceH (x := .tmp 53) (h := .tmp 54); rfl; exact hR; go_big_quiet_on; simp only [Act.put, List.setIfInBounds_toArray, List.set_cons_succ, List.set_cons_zero]) | (go_big_quiet_op; first | go_big_quiet_on | (refine ⟨_, (fun _ _ => rfl), ?_⟩; go_big_quiet_on))))
              refine wpQuiet_nil ?_
              refine seg_skip rfl (hGx) ?_
              show wpQuiet _ _ _ _ [_] _
              try (conv => arg 6; simp only [Act.put, List.setIfInBounds_toArray, List.set_cons_succ, List.set_cons_zero])
              repeat (first | go_big_quiet_skip | (go_big_quiet_want; first | (apply quiet_load CT_ints; rfl; rfl; exact (fun w' hG => hG.cell p0); go_big_quiet_on; simp only [Act.put, List.setIfInBounds_toArray, List.set_cons_succ, List.set_cons_zero]) | (apply quiet_load CT_ints; rfl; rfl; exact (fun w' hG => hG.cell p1); go_big_quiet_on; simp only [Act.put, List.setIfInBounds_toArray, List.set_cons_succ, List.set_cons_zero]) | (apply quiet_sliceH (x := .tmp 45) (h := .tmp 46); rfl; exact hR; go_big_quiet_on; simp only [Act.put, List.setIfInBounds_toArray, List.set_cons_succ, List.set_cons_zero]) | (apply quiet_sliceH (x := .tmp 53) (h := .tmp 54); rfl; exact hR; go_big_quiet_on; simp only [Act.put, List.setIfInBounds_toArray, List.set_cons_succ, List.set_cons_zero]) | (go_big_quiet_op; first | go_big_quiet_on | (refine ⟨_, (fun _ _ => rfl), ?_⟩; go_big_quiet_on))))
              refine wpQuiet_nil ?_
              refine wpSegs_nil ?_
              go_wp2
              go_ret
              exact ⟨ret_bool (by unfold isGradB; rw [gradTo_no Hs.out (by rw [Hl'.out]; exact hlt)]; simp), hG0.trans (hGa.trans hGx)⟩
            · have D2 : decide (fy < 0) = false := by simpa using d2
              cases hf0 : isFaceB x y with
              | false =>
                have Hs := Lib.hid (show arwB l ar k = false by rw [Hst.out, hf0]; simp)
                have Hf := Lib.hid hf0; clear hf0
                go_wp2
                rw [Hwa.out]
                refine wp_region_segs (S := Grow wa) [([0, 1, 2], some 3), ([4, 5, 6, 7, 8], some 9), ([10, 11, 12, 13, 14, 15, 16], some 17), ([18, 19, 20, 21, 22, 23, 24, 25], some 26), ([27, 28, 29, 30, 31, 32, 33], some 34), ([35], none)] P_mixed (by kernel_rfl) (fun _ _ _ _ _ h => h) (Grow.refl _).drew ?_
                show wpQuiet _ _ _ _ [_, _, _] _
                repeat (first | go_big_quiet_skip | (go_big_quiet_want; first | (apply quiet_load CT_ints; rfl; rfl; exact (fun w' hG => hG.cell p0); go_big_quiet_on; simp only [Act.put, List.setIfInBounds_toArray, List.set_cons_succ, List.set_cons_zero]) | (apply quiet_load CT_ints; rfl; rfl; exact (fun w' hG => hG.cell p1); go_big_quiet_on; simp only [Act.put, List.setIfInBounds_toArray, List.set_cons_succ, List.set_cons_zero]) | (apply quiet_sliceH (x := .tmp 45) (h := .tmp 46); rfl; exact hR; go_big_quiet_on; simp only [Act.put, List.setIfInBounds_toArray, List.set_cons_succ, List.set_cons_zero]) | (apply quiet_sliceH (x := .tmp 53) (h := .tmp 54); rfl; exact hR; go_big_quiet_on; simp only [Act.put, List.setIfInBounds_toArray, List.set_cons_succ, List.set_cons_zero]) | (go_big_quiet_op; first | go_big_quiet_on | (refine ⟨_, (fun _ _ => rfl), ?_⟩; go_big_quiet_on))))
                refine wpQuiet_nil ?_
                refine seg_go rfl (fun K hK => ?_)
                go_wp2_with fail
                refine (indexOfSimplex_c _ _ _ _ _ _ l x _ (rl.grow (Grow.refl _).drew) (r1a.grow (Grow.refl _).drew) (by omega) (by omega)).mono ?_
                rintro e w1 ⟨rfl, hGq⟩
                have hGx := (Grow.refl wa).drew.trans hGq
                clear hGq
                rw [Hfx.out]
                go_wp2_with fail
                refine hK _ _ (hGx) ?_
                clear hK K
                show wpQuiet _ _ _ _ [_, _, _, _, _] _
                try (conv => arg 6; simp only [Act.put, List.setIfInBounds_toArray, List.set_cons_succ, List.set_cons_zero])
                repeat (first | go_big_quiet_skip | (go_big_quiet_want; first | (apply quiet_load CT_ints; rfl; rfl; exact (fun w' hG => hG.cell p0); go_big_quiet_on; simp only [Act.put, List.setIfInBounds_toArray, List.set_cons_succ, List.set_cons_zero]) | (apply quiet_load CT_ints; rfl; rfl; exact (fun w' hG => hG.cell p1); go_big_quiet_on; simp only [Act.put, List.setIfInBounds_toArray, List.set_cons_succ, List.set_cons_zero]) | (apply quiet_sliceH (x := .tmp 45) (h := .tmp 46); rfl; exact hR; go_big_quiet_on; simp only [Act.put, List.setIfInBounds_toArray, List.set_cons_succ, List.set_cons_zero]) | (apply quiet_sliceH (x := .tmp 53) (h := .tmp 54); rfl; exact hR; go_big_quiet_on; simp only [Act.put, List.setIfInBounds_toArray, List.set_cons_succ, List.set_cons_zero]) | (go_big_quiet_op; first | go_big_quiet_on | (refine ⟨_, (fun _ _ => rfl), ?_⟩; go_big_quiet_on))))
                refine wpQuiet_nil ?_
                refine seg_go rfl (fun K hK => ?_)
                go_wp2_with fail
                refine (indexOfSimplex_c _ _ _ _ _ _ l y _ (rl.grow hGx) (r2a.grow hGx) (by omega) (by omega)).mono ?_
                rintro e w2 ⟨rfl, hGq⟩
                replace hGx := hGx.trans hGq
                clear hGq
                rw [Hfy.out]
                go_wp2_with fail
                refine hK _ _ (hGx) ?_
                clear hK K
                show wpQuiet _ _ _ _ [_, _, _, _, _, _, _] _
                try (conv => arg 6; simp only [Act.put, List.setIfInBounds_toArray, List.set_cons_succ, List.set_cons_zero])
                repeat (first | go_big_quiet_skip | (go_big_quiet_want; first | (apply quiet_load CT_ints; rfl; rfl; exact (fun w' hG => hG.cell p0); go_big_quiet_on; simp only [Act.put, List.setIfInBounds_toArray, List.set_cons_succ, List.set_cons_zero]) | (apply quiet_load CT_ints; rfl; rfl; exact (fun w' hG => hG.cell p1); go_big_quiet_on; simp only [Act.put, List.setIfInBounds_toArray, List.set_cons_succ, List.set_cons_zero]) | (apply quiet_sliceH (x := .tmp 45) (h := .tmp 46); rfl; exact hR; go_big_quiet_on; simp only [Act.put, List.setIfInBounds_toArray, List.set_cons_succ, List.set_cons_zero]) | (apply quiet_sliceH (x := .tmp 53) (h := .tmp 54); rfl; exact hR; go_big_quiet_on; simp only [Act.put, List.setIfInBounds_toArray, List.set_cons_succ, List.set_cons_zero]) | (go_big_quiet_op; first | go_big_quiet_on | (refine ⟨_, (fun _ _ => rfl), ?_⟩; go_big_quiet_on))))
                refine wpQuiet_nil ?_
                refine seg_go rfl (fun K hK => ?_)
                go_wp2_with fail
                refine (isFaceOf_c _ _ _ _ _ _ x y _ (r1a.grow hGx) (r2a.grow hGx) (by omega) (by omega)).mono ?_
                rintro e w3 ⟨rfl, hGq⟩
                replace hGx := hGx.trans hGq
                clear hGq
                rw [Hf.out]
                go_wp2_with fail
                refine hK _ _ (hGx) ?_
                clear hK K
                show wpQuiet _ _ _ _ [_, _, _, _, _, _, _, _] _
                try (conv => arg 6; simp only [Act.put, List.setIfInBounds_toArray, List.set_cons_succ, List.set_cons_zero])
                repeat (first | go_big_quiet_skip | (go_big_quiet_want; first | (apply quiet_load CT_ints; rfl; rfl; exact (fun w' hG => hG.cell p0); go_big_quiet_on; simp only [Act.put, List.setIfInBounds_toArray, List.set_cons_succ, List.set_cons_zero]) | (apply quiet_load CT_ints; rfl; rfl; exact (fun w' hG => hG.cell p1); go_big_quiet_on; simp only [Act.put, List.setIfInBounds_toArray, List.set_cons_succ, List.set_cons_zero]) | (apply quiet_sliceH (x := .tmp 45) (h := .tmp 46); rfl; exact hR; go_big_quiet_on; simp only [Act.put, List.setIfInBounds_toArray, List.set_cons_succ, List.set_cons_zero]) | (apply quiet_sliceH (x := .tmp 53) (h := .tmp 54); rfl; exact hR; go_big_quiet_on; simp only [Act.put, List.setIfInBounds_toArray, List.set_cons_succ, List.set_cons_zero]) | (go_big_quiet_op; first | go_big_quiet_on | (refine ⟨_, (fun _ _ => rfl), ?_⟩; go_big_quiet_on))))
                refine wpQuiet_nil ?_
                refine seg_skip rfl (hGx) ?_
                show wpQuiet _ _ _ _ [_, _, _, _, _, _, _] _
                try (conv => arg 6; simp only [Act.put, List.setIfInBounds_toArray, List.set_cons_succ, List.set_cons_zero])
                repeat (first | go_big_quiet_skip | (go_big_quiet_want; first | (apply quiet_load CT_ints; rfl; rfl; exact (fun w' hG => hG.cell p0); go_big_quiet_on; simp only [Act.put, List.setIfInBounds_toArray, List.set_cons_succ, List.set_cons_zero]) | (apply quiet_load CT_ints; rfl; rfl; exact (fun w' hG => hG.cell p1); go_big_quiet_on; simp only [Act.put, List.setIfInBounds_toArray, List.set_cons_succ, List.set_cons_zero]) | (apply quiet_sliceH (x := .tmp 45) (h := .tmp 46); rfl; exact hR; go_big_quiet_on; simp only [Act.put, List.setIfInBounds_toArray, List.set_cons_succ, List.set_cons_zero]) | (apply quiet_sliceH (x := .tmp 53) (h := .tmp 54); rfl; exact hR; go_big_quiet_on; simp only [Act.put, List.setIfInBounds_toArray, List.set_cons_succ, List.set_cons_zero]) | (go_big_quiet_op; first | go_big_quiet_on | (refine ⟨_, (fun _ _ => rfl), ?_⟩; go_big_quiet_on))))
                refine wpQuiet_nil ?_
                refine seg_skip rfl (hGx) ?_
                show wpQuiet _ _ _ _ [_] _
                try (conv => arg 6; simp only [Act.put, List.setIfInBounds_toArray, List.set_cons_succ, List.set_cons_zero])
                repeat (first | go_big_quiet_skip | (go_big_quiet_want; first | (apply quiet_load CT_ints; rfl; rfl; exact (fun w' hG => hG.cell p0); go_big_quiet_on; simp only [Act.put, List.setIfInBounds_toArray, List.set_cons_succ, List.set_cons_zero]) | (apply quiet_load CT_ints; rfl; rfl; exact (fun w' hG => hG.cell p1); go_big_quiet_on; simp only [Act.put, List.setIfInBounds_toArray, List.set_cons_succ, List.set_cons_zero]) | (apply quiet_sliceH (x := .tmp 45) (h := .tmp 46); rfl; exact hR; go_big_quiet_on; simp only [Act.put, List.setIfInBounds_toArray, List.set_cons_succ, List.set_cons_zero]) | (apply quiet_sliceH (x := .tmp 53) (h := .tmp 54); rfl; exact hR; go_big_quiet_on; simp only [Act.put, List.setIfInBounds_toArray, List.set_cons_succ, List.set_cons_zero]) | (go_big_quiet_op; first | go_big_quiet_on | (refine ⟨_, (fun _ _ => rfl), ?_⟩; go_big_quiet_on))))
                refine wpQuiet_nil ?_
                refine wpSegs_nil ?_
                go_wp2
                go_ret
                exact ⟨ret_bool (by unfold isGradB; rw [gradTo_no Hs.out (by rw [Hl'.out]; exact hlt)]; simp), hG0.trans (hGa.trans hGx)⟩
              | true =>
                have Hf := Lib.hid hf0; clear hf0
                cases hd0 : inArB (ar.take k) x with
                | true =>
                  have Hs := Lib.hid (show arwB l ar k = false by rw [Hst.out, hd0]; simp)
                  have Hd := Lib.hid hd0; clear hd0
                  go_wp2
                  rw [Hwa.out]
                  refine wp_region_segs (S := Grow wa) [([0, 1, 2], some 3), ([4, 5, 6, 7, 8], some 9), ([10, 11, 12, 13, 14, 15, 16], some 17), ([18, 19, 20, 21, 22, 23, 24, 25], some 26), ([27, 28, 29, 30, 31, 32, 33], some 34), ([35], none)] P_mixed (by kernel_rfl) (fun _ _ _ _ _ h => h) (Grow.refl _).drew ?_
                  show wpQuiet _ _ _ _ [_, _, _] _
                  repeat (first | go_big_quiet_skip | (go_big_quiet_want; first | (apply quiet_load CT_ints; rfl; rfl; exact (fun w' hG => hG.cell p0); go_big_quiet_on; simp only [Act.put, List.setIfInBounds_toArray, List.set_cons_succ, List.set_cons_zero]) | (apply quiet_load CT_ints; rfl; rfl; exact (fun w' hG => hG.cell p1); go_big_quiet_on; simp only [Act.put, List.setIfInBounds_toArray, List.set_cons_succ, List.set_cons_zero]) | (apply quiet_sliceH (x := .tmp 45) (h := .tmp 46); rfl; exact hR; go_big_quiet_on; simp only [Act.put, List.setIfInBounds_toArray, List.set_cons_succ, List.set_cons_zero]) | (apply quiet_sliceH (x := .tmp 53) (h := .tmp 54); rfl; exact hR; go_big_quiet_on; simp only [Act.put, List.setIfInBounds_toArray, List.set_cons_succ, List.set_cons_zero]) | (go_big_quiet_op; first | go_big_quiet_on | (refine ⟨_, (fun _ _ => rfl), ?_⟩; go_big_quiet_on))))
                  refine wpQuiet_nil ?_
                  refine seg_go rfl (fun K hK => ?_)
                  go_wp2_with fail
                  refine (indexOfSimplex_c _ _ _ _ _ _ l x _ (rl.grow (Grow.refl _).drew) (r1a.grow (Grow.refl _).drew) (by omega) (by omega)).mono ?_
                  rintro e w1 ⟨rfl, hGq⟩
                  have hGx := (Grow.refl wa).drew.trans hGq
                  clear hGq
                  rw [Hfx.out]
                  go_wp2_with fail
                  refine hK _ _ (hGx) ?_
                  clear hK K
                  show wpQuiet _ _ _ _ [_, _, _, _, _] _
                  try (conv => arg 6; simp only [Act.put, List.setIfInBounds_toArray, List.set_cons_succ, List.set_cons_zero])
                  repeat (first | go_big_quiet_skip | (go_big_quiet_want; first | (apply quiet_load CT_ints; rfl; rfl; exact (fun w' hG => hG.cell p0); go_big_quiet_on; simp only [Act.put, List.setIfInBounds_toArray, List.set_cons_succ, List.set_cons_zero]) | (apply quiet_load CT_ints; rfl; rfl; exact (fun w' hG => hG.cell p1); go_big_quiet_on; simp only [Act.put, List.setIfInBounds_toArray, List.set_cons_succ, List.set_cons_zero]) | (apply quiet_sliceH (x := .tmp 45) (h := .tmp 46); rfl; exact hR; go_big_quiet_on; simp only [Act.put, List.setIfInBounds_toArray, List.set_cons_succ, List.set_cons_zero]) | (apply quiet_sliceH (x := .tmp 53) (h := .tmp 54); rfl; exact hR; go_big_quiet_on; simp only [Act.put, List.setIfInBounds_toArray, List.set_cons_succ, List.set_cons_zero]) | (go_big_quiet_op; first | go_big_quiet_on | (refine ⟨_, (fun _ _ => rfl), ?_⟩; go_big_quiet_on))))
                  refine wpQuiet_nil ?_
                  refine seg_go rfl (fun K hK => ?_)
                  go_wp2_with fail
                  refine (indexOfSimplex_c _ _ _ _ _ _ l y _ (rl.grow hGx) (r2a.grow hGx) (by omega) (by omega)).mono ?_
                  rintro e w2 ⟨rfl, hGq⟩
                  replace hGx := hGx.trans hGq
                  clear hGq
                  rw [Hfy.out]
                  go_wp2_with fail
                  refine hK _ _ (hGx) ?_
                  clear hK K
                  show wpQuiet _ _ _ _ [_, _, _, _, _, _, _] _
                  try (conv => arg 6; simp only [Act.put, List.setIfInBounds_toArray, List.set_cons_succ, List.set_cons_zero])
                  repeat (first | go_big_quiet_skip | (go_big_quiet_want; first | (apply quiet_load CT_ints; rfl; rfl; exact (fun w' hG => hG.cell p0); go_big_quiet_on; simp only [Act.put, List.setIfInBounds_toArray, List.set_cons_succ, List.set_cons_zero]) | (apply quiet_load CT_ints; rfl; rfl; exact (fun w' hG => hG.cell p1); go_big_quiet_on; simp only [Act.put, List.setIfInBounds_toArray, List.set_cons_succ, List.set_cons_zero]) | (apply quiet_sliceH (x := .tmp 45) (h := .tmp 46); rfl; exact hR; go_big_quiet_on; simp only [Act.put, List.setIfInBounds_toArray, List.set_cons_succ, List.set_cons_zero]) | (apply quiet_sliceH (x := .tmp 53) (h := .tmp 54); rfl; exact hR; go_big_quiet_on; simp only [Act.put, List.setIfInBounds_toArray, List.set_cons_succ, List.set_cons_zero]) | (go_big_quiet_op; first | go_big_quiet_on | (refine ⟨_, (fun _ _ => rfl), ?_⟩; go_big_quiet_on))))
                  refine wpQuiet_nil ?_
                  refine seg_go rfl (fun K hK => ?_)
                  go_wp2_with fail
                  refine (isFaceOf_c _ _ _ _ _ _ x y _ (r1a.grow hGx) (r2a.grow hGx) (by omega) (by omega)).mono ?_
                  rintro e w3 ⟨rfl, hGq⟩
                  replace hGx := hGx.trans hGq
                  clear hGq
                  rw [Hf.out]
                  go_wp2_with fail
                  refine hK _ _ (hGx) ?_
                  clear hK K
                  show wpQuiet _ _ _ _ [_, _, _, _, _, _, _, _] _
                  try (conv => arg 6; simp only [Act.put, List.setIfInBounds_toArray, List.set_cons_succ, List.set_cons_zero])
                  repeat (first | go_big_quiet_skip | (go_big_quiet_want; first | (apply quiet_load CT_ints; rfl; rfl; exact (fun w' hG => hG.cell p0); go_big_quiet_on; simp only [Act.put, List.setIfInBounds_toArray, List.set_cons_succ, List.set_cons_zero]) | (apply quiet_load CT_ints; rfl; rfl; exact (fun w' hG => hG.cell p1); go_big_quiet_on; simp only [Act.put, List.setIfInBounds_toArray, List.set_cons_succ, List.set_cons_zero]) | (apply quiet_sliceH (x := .tmp 45) (h := .tmp 46); rfl; exact hR; go_big_quiet_on; simp only [Act.put, List.setIfInBounds_toArray, List.set_cons_succ, List.set_cons_zero]) | (apply quiet_sliceH (x := .tmp 53) (h := .tmp 54); rfl; exact hR; go_big_quiet_on; simp only [Act.put, List.setIfInBounds_toArray, List.set_cons_succ, List.set_cons_zero]) | (go_big_quiet_op; first | go_big_quiet_on | (refine ⟨_, (fun _ _ => rfl), ?_⟩; go_big_quiet_on))))
                  refine wpQuiet_nil ?_
                  refine seg_go rfl (fun K hK => ?_)
                  go_wp2_with fail
                  refine (inArrows_c _ _ _ _ _ _ (ar.take k) x _ (rpa.grow hGx) (r1a.grow hGx) (by omega) (by omega)).mono ?_
                  rintro e w4 ⟨rfl, hGq⟩
                  replace hGx := hGx.trans hGq
                  clear hGq
                  rw [Hd.out]
                  go_wp2_with fail
                  refine hK _ _ (hGx) ?_
                  clear hK K
                  show wpQuiet _ _ _ _ [_, _, _, _, _, _, _] _
                  try (conv => arg 6; simp only [Act.put, List.setIfInBounds_toArray, List.set_cons_succ, List.set_cons_zero])
                  repeat (first | go_big_quiet_skip | (go_big_quiet_want; first | (apply quiet_load CT_ints; rfl; rfl; exact (fun w' hG => hG.cell p0); go_big_quiet_on; simp only [Act.put, List.setIfInBounds_toArray, List.set_cons_succ, List.set_cons_zero]) | (apply quiet_load CT_ints; rfl; rfl; exact (fun w' hG => hG.cell p1); go_big_quiet_on; simp only [Act.put, List.setIfInBounds_toArray, List.set_cons_succ, List.set_cons_zero]) | (apply quiet_sliceH (x := .tmp 45) (h := .tmp 46); rfl; exact hR; go_big_quiet_on; simp only [Act.put, List.setIfInBounds_toArray, List.set_cons_succ, List.set_cons_zero]) | (apply quiet_sliceH (x := .tmp 53) (h := .tmp 54); rfl; exact hR; go_big_quiet_on; simp only [Act.put, List.setIfInBounds_toArray, List.set_cons_succ, List.set_cons_zero]) | (go_big_quiet_op; first | go_big_quiet_on | (refine ⟨_, (fun _ _ => rfl), ?_⟩; go_big_quiet_on))))
                  refine wpQuiet_nil ?_
                  refine seg_skip rfl (hGx) ?_
                  show wpQuiet _ _ _ _ [_] _
                  try (conv => arg 6; simp only [Act.put, List.setIfInBounds_toArray, List.set_cons_succ, List.set_cons_zero])
                  repeat (first | go_big_quiet_skip | (go_big_quiet_want; first | (apply quiet_load CT_ints; rfl; rfl; exact (fun w' hG => hG.cell p0); go_big_quiet_on; simp only [Act.put, List.setIfInBounds_toArray, List.set_cons_succ, List.set_cons_zero]) | (apply quiet_load CT_ints; rfl; rfl; exact (fun w' hG => hG.cell p1); go_big_quiet_on; simp only [Act.put, List.setIfInBounds_toArray, List.set_cons_succ, List.set_cons_zero]) | (apply quiet_sliceH (x := .tmp 45) (h := .tmp 46); rfl; exact hR; go_big_quiet_on; simp only [Act.put, List.setIfInBounds_toArray, List.set_cons_succ, List.set_cons_zero]) | (apply quiet_sliceH (x := .tmp 53) (h := .tmp 54); rfl; exact hR; go_big_quiet_on; simp only [Act.put, List.setIfInBounds_toArray, List.set_cons_succ, List.set_cons_zero]) | (go_big_quiet_op; first | go_big_quiet_on | (refine ⟨_, (fun _ _ => rfl), ?_⟩; go_big_quiet_on))))
                  refine wpQuiet_nil ?_
                  refine wpSegs_nil ?_
                  go_wp2
                  go_ret
                  exact ⟨ret_bool (by unfold isGradB; rw [gradTo_no Hs.out (by rw [Hl'.out]; exact hlt)]; simp), hG0.trans (hGa.trans hGx)⟩
                | false =>
                  have Hd := Lib.hid hd0; clear hd0
                  cases he0 : inArB (ar.take k) y with
                  | true =>
                    have Hs := Lib.hid (show arwB l ar k = false by rw [Hst.out, he0]; simp)
                    have He := Lib.hid he0; clear he0
                    go_wp2
                    rw [Hwa.out]
                    refine wp_region_segs (S := Grow wa) [([0, 1, 2], some 3), ([4, 5, 6, 7, 8], some 9), ([10, 11, 12, 13, 14, 15, 16], some 17), ([18, 19, 20, 21, 22, 23, 24, 25], some 26), ([27, 28, 29, 30, 31, 32, 33], some 34), ([35], none)] P_mixed (by kernel_rfl) (fun _ _ _ _ _ h => h) (Grow.refl _).drew ?_
                    show wpQuiet _ _ _ _ [_, _, _] _
                    repeat (first | go_big_quiet_skip | (go_big_quiet_want; first | (apply quiet_load CT_ints; rfl; rfl; exact (fun w' hG => hG.cell p0); go_big_quiet_on; simp only [Act.put, List.setIfInBounds_toArray, List.set_cons_succ, List.set_cons_zero]) | (apply quiet_load CT_ints; rfl; rfl; exact (fun w' hG => hG.cell p1); go_big_quiet_on; simp only [Act.put, List.setIfInBounds_toArray, List.set_cons_succ, List.set_cons_zero]) | (apply quiet_sliceH (x := .tmp 45) (h := .tmp 46); rfl; exact hR; go_big_quiet_on; simp only [Act.put, List.setIfInBounds_toArray, List.set_cons_succ, List.set_cons_zero]) | (apply quiet_sliceH (x := .tmp 53) (h := .tmp 54); rfl; exact hR; go_big_quiet_on; simp only [Act.put, List.setIfInBounds_toArray, List.set_cons_succ, List.set_cons_zero]) | (go_big_quiet_op; first | go_big_quiet_on | (refine ⟨_, (fun _ _ => rfl), ?_⟩; go_big_quiet_on))))
                    refine wpQuiet_nil ?_
                    refine seg_go rfl (fun K hK => ?_)
                    go_wp2_with fail
                    refine (indexOfSimplex_c _ _ _ _ _ _ l x _ (rl.grow (Grow.refl _).drew) (r1a.grow (Grow.refl _).drew) (by omega) (by omega)).mono ?_
                    rintro e w1 ⟨rfl, hGq⟩
                    have hGx := (Grow.refl wa).drew.trans hGq
                    clear hGq
                    rw [Hfx.out]
                    go_wp2_with fail
                    refine hK _ _ (hGx) ?_
                    clear hK K
                    show wpQuiet _ _ _ _ [_, _, _, _, _] _
                    try (conv => arg 6; simp only [Act.put, List.setIfInBounds_toArray, List.set_cons_succ, List.set_cons_zero])
                    repeat (first | go_big_quiet_skip | (go_big_quiet_want; first | (apply quiet_load CT_ints; rfl; rfl; exact (fun w' hG => hG.cell p0); go_big_quiet_on; simp only [Act.put, List.setIfInBounds_toArray, List.set_cons_succ, List.set_cons_zero]) | (apply quiet_load CT_ints; rfl; rfl; exact (fun w' hG => hG.cell p1); go_big_quiet_on; simp only [Act.put, List.setIfInBounds_toArray, List.set_cons_succ, List.set_cons_zero]) | (apply quiet_sliceH (x := .tmp 45) (h := .tmp 46); rfl; exact hR; go_big_quiet_on; simp only [Act.put, List.setIfInBounds_toArray, List.set_cons_succ, List.set_cons_zero]) | (apply quiet_sliceH (x := .tmp 53) (h := .tmp 54); rfl; exact hR; go_big_quiet_on; simp only [Act.put, List.setIfInBounds_toArray, List.set_cons_succ, List.set_cons_zero]) | (go_big_quiet_op; first | go_big_quiet_on | (refine ⟨_, (fun _ _ => rfl), ?_⟩; go_big_quiet_on))))
                    refine wpQuiet_nil ?_
                    refine seg_go rfl (fun K hK => ?_)
                    go_wp2_with fail
                    refine (indexOfSimplex_c _ _ _ _ _ _ l y _ (rl.grow hGx) (r2a.grow hGx) (by omega) (by omega)).mono ?_
                    rintro e w2 ⟨rfl, hGq⟩
                    replace hGx := hGx.trans hGq
                    clear hGq
                    rw [Hfy.out]
                    go_wp2_with fail
                    refine hK _ _ (hGx) ?_
                    clear hK K
                    show wpQuiet _ _ _ _ [_, _, _, _, _, _, _] _
                    try (conv => arg 6; simp only [Act.put, List.setIfInBounds_toArray, List.set_cons_succ, List.set_cons_zero])
                    repeat (first | go_big_quiet_skip | (go_big_quiet_want; first | (apply quiet_load CT_ints; rfl; rfl; exact (fun w' hG => hG.cell p0); go_big_quiet_on; simp only [Act.put, List.setIfInBounds_toArray, List.set_cons_succ, List.set_cons_zero]) | (apply quiet_load CT_ints; rfl; rfl; exact (fun w' hG => hG.cell p1); go_big_quiet_on; simp only [Act.put, List.setIfInBounds_toArray, List.set_cons_succ, List.set_cons_zero]) | (apply quiet_sliceH (x := .tmp 45) (h := .tmp 46); rfl; exact hR; go_big_quiet_on; simp only [Act.put, List.setIfInBounds_toArray, List.set_cons_succ, List.set_cons_zero]) | (apply quiet_sliceH (x := .tmp 53) (h := .tmp 54); rfl; exact hR; go_big_quiet_on; simp only [Act.put, List.setIfInBounds_toArray, List.set_cons_succ, List.set_cons_zero]) | (go_big_quiet_op; first | go_big_quiet_on | (refine ⟨_, (fun _ _ => rfl), ?_⟩; go_big_quiet_on))))
                    refine wpQuiet_nil ?_
                    refine seg_go rfl (fun K hK => ?_)
                    go_wp2_with fail
                    refine (isFaceOf_c _ _ _ _ _ _ x y _ (r1a.grow hGx) (r2a.grow hGx) (by omega) (by omega)).mono ?_
                    rintro e w3 ⟨rfl, hGq⟩
                    replace hGx := hGx.trans hGq
                    clear hGq
                    rw [Hf.out]
                    go_wp2_with fail
                    refine hK _ _ (hGx) ?_
                    clear hK K
                    show wpQuiet _ _ _ _ [_, _, _, _, _, _, _, _] _
                    try (conv => arg 6; simp only [Act.put, List.setIfInBounds_toArray, List.set_cons_succ, List.set_cons_zero])
                    repeat (first | go_big_quiet_skip | (go_big_quiet_want; first | (apply quiet_load CT_ints; rfl; rfl; exact (fun w' hG => hG.cell p0); go_big_quiet_on; simp only [Act.put, List.setIfInBounds_toArray, List.set_cons_succ, List.set_cons_zero]) | (apply quiet_load CT_ints; rfl; rfl; exact (fun w' hG => hG.cell p1); go_big_quiet_on; simp only [Act.put, List.setIfInBounds_toArray, List.set_cons_succ, List.set_cons_zero]) | (apply quiet_sliceH (x := .tmp 45) (h := .tmp 46); rfl; exact hR; go_big_quiet_on; simp only [Act.put, List.setIfInBounds_toArray, List.set_cons_succ, List.set_cons_zero]) | (apply quiet_sliceH (x := .tmp 53) (h := .tmp 54); rfl; exact hR; go_big_quiet_on; simp only [Act.put, List.setIfInBounds_toArray, List.set_cons_succ, List.set_cons_zero]) | (go_big_quiet_op; first | go_big_quiet_on | (refine ⟨_, (fun _ _ => rfl), ?_⟩; go_big_quiet_on))))
                    refine wpQuiet_nil ?_
                    refine seg_go rfl (fun K hK => ?_)
                    go_wp2_with fail
                    refine (inArrows_c _ _ _ _ _ _ (ar.take k) x _ (rpa.grow hGx) (r1a.grow hGx) (by omega) (by omega)).mono ?_
                    rintro e w4 ⟨rfl, hGq⟩
                    replace hGx := hGx.trans hGq
                    clear hGq
                    rw [Hd.out]
                    go_wp2_with fail
                    refine hK _ _ (hGx) ?_
                    clear hK K
                    show wpQuiet _ _ _ _ [_, _, _, _, _, _, _] _
                    try (conv => arg 6; simp only [Act.put, List.setIfInBounds_toArray, List.set_cons_succ, List.set_cons_zero])
                    repeat (first | go_big_quiet_skip | (go_big_quiet_want; first | (apply quiet_load CT_ints; rfl; rfl; exact (fun w' hG => hG.cell p0); go_big_quiet_on; simp only [Act.put, List.setIfInBounds_toArray, List.set_cons_succ, List.set_cons_zero]) | (apply quiet_load CT_ints; rfl; rfl; exact (fun w' hG => hG.cell p1); go_big_quiet_on; simp only [Act.put, List.setIfInBounds_toArray, List.set_cons_succ, List.set_cons_zero]) | (apply quiet_sliceH (x := .tmp 45) (h := .tmp 46); rfl; exact hR; go_big_quiet_on; simp only [Act.put, List.setIfInBounds_toArray, List.set_cons_succ, List.set_cons_zero]) | (apply quiet_sliceH (x := .tmp 53) (h := .tmp 54); rfl; exact hR; go_big_quiet_on; simp only [Act.put, List.setIfInBounds_toArray, List.set_cons_succ, List.set_cons_zero]) | (go_big_quiet_op; first | go_big_quiet_on | (refine ⟨_, (fun _ _ => rfl), ?_⟩; go_big_quiet_on))))
                    refine wpQuiet_nil ?_
                    refine seg_go rfl (fun K hK => ?_)
                    go_wp2_with fail
                    refine (inArrows_c _ _ _ _ _ _ (ar.take k) y _ (rpa.grow hGx) (r2a.grow hGx) (by omega) (by omega)).mono ?_
                    rintro e w5 ⟨rfl, hGq⟩
                    replace hGx := hGx.trans hGq
                    clear hGq
                    rw [He.out]
                    go_wp2_with fail
                    refine hK _ _ (hGx) ?_
                    clear hK K
                    show wpQuiet _ _ _ _ [_] _
                    try (conv => arg 6; simp only [Act.put, List.setIfInBounds_toArray, List.set_cons_succ, List.set_cons_zero])
                    repeat (first | go_big_quiet_skip | (go_big_quiet_want; first | (apply quiet_load CT_ints; rfl; rfl; exact (fun w' hG => hG.cell p0); go_big_quiet_on; simp only [Act.put, List.setIfInBounds_toArray, List.set_cons_succ, List.set_cons_zero]) | (apply quiet_load CT_ints; rfl; rfl; exact (fun w' hG => hG.cell p1); go_big_quiet_on; simp only [Act.put, List.setIfInBounds_toArray, List.set_cons_succ, List.set_cons_zero]) | (apply quiet_sliceH (x := .tmp 45) (h := .tmp 46); rfl; exact hR; go_big_quiet_on; simp only [Act.put, List.setIfInBounds_toArray, List.set_cons_succ, List.set_cons_zero]) | (apply quiet_sliceH (x := .tmp 53) (h := .tmp 54); rfl; exact hR; go_big_quiet_on; simp only [Act.put, List.setIfInBounds_toArray, List.set_cons_succ, List.set_cons_zero]) | (go_big_quiet_op; first | go_big_quiet_on | (refine ⟨_, (fun _ _ => rfl), ?_⟩; go_big_quiet_on))))
                    refine wpQuiet_nil ?_
                    refine wpSegs_nil ?_
                    go_wp2
                    go_ret
                    exact ⟨ret_bool (by unfold isGradB; rw [gradTo_no Hs.out (by rw [Hl'.out]; exact hlt)]; simp), hG0.trans (hGa.trans hGx)⟩
                  | false =>
                    have He := Lib.hid he0; clear he0
                    have Hs := Lib.hid (show arwB l ar k = true by rw [Hst.out, Hf.out, Hd.out, He.out, decide_eq_true (by omega : 0 ≤ fx), decide_eq_true (by omega : 0 ≤ fy)]; rfl)
                    go_wp2
                    rw [Hwa.out]
                    refine wp_region_segs (S := Grow wa) [([0, 1, 2], some 3), ([4, 5, 6, 7, 8], some 9), ([10, 11, 12, 13, 14, 15, 16], some 17), ([18, 19, 20, 21, 22, 23, 24, 25], some 26), ([27, 28, 29, 30, 31, 32, 33], some 34), ([35], none)] P_mixed (by kernel_rfl) (fun _ _ _ _ _ h => h) (Grow.refl _).drew ?_
                    show wpQuiet _ _ _ _ [_, _, _] _
                    repeat (first | go_big_quiet_skip | (go_big_quiet_want; first | (apply quiet_load CT_ints; rfl; rfl; exact (fun w' hG => hG.cell p0); go_big_quiet_on; simp only [Act.put, List.setIfInBounds_toArray, List.set_cons_succ, List.set_cons_zero]) | (apply quiet_load CT_ints; rfl; rfl; exact (fun w' hG => hG.cell p1); go_big_quiet_on; simp only [Act.put, List.setIfInBounds_toArray, List.set_cons_succ, List.set_cons_zero]) | (apply quiet_sliceH (x := .tmp 45) (h := .tmp 46); rfl; exact hR; go_big_quiet_on; simp only [Act.put, List.setIfInBounds_toArray, List.set_cons_succ, List.set_cons_zero]) | (apply quiet_sliceH (x := .tmp 53) (h := .tmp 54); rfl; exact hR; go_big_quiet_on; simp only [Act.put, List.setIfInBounds_toArray, List.set_cons_succ, List.set_cons_zero]) | (go_big_quiet_op; first | go_big_quiet_on | (refine ⟨_, (fun _ _ => rfl), ?_⟩; go_big_quiet_on))))
                    refine wpQuiet_nil ?_
                    refine seg_go rfl (fun K hK => ?_)
                    go_wp2_with fail
                    refine (indexOfSimplex_c _ _ _ _ _ _ l x _ (rl.grow (Grow.refl _).drew) (r1a.grow (Grow.refl _).drew) (by omega) (by omega)).mono ?_
                    rintro e w1 ⟨rfl, hGq⟩
                    have hGx := (Grow.refl wa).drew.trans hGq
                    clear hGq
                    rw [Hfx.out]
                    go_wp2_with fail
                    refine hK _ _ (hGx) ?_
                    clear hK K
                    show wpQuiet _ _ _ _ [_, _, _, _, _] _
                    try (conv => arg 6; simp only [Act.put, List.setIfInBounds_toArray, List.set_cons_succ, List.set_cons_zero])
                    repeat (first | go_big_quiet_skip | (go_big_quiet_want; first | (apply quiet_load CT_ints; rfl; rfl; exact (fun w' hG => hG.cell p0); go_big_quiet_on; simp only [Act.put, List.setIfInBounds_toArray, List.set_cons_succ, List.set_cons_zero]) | (apply quiet_load CT_ints; rfl; rfl; exact (fun w' hG => hG.cell p1); go_big_quiet_on; simp only [Act.put, List.setIfInBounds_toArray, List.set_cons_succ, List.set_cons_zero]) | (apply quiet_sliceH (x := .tmp 45) (h := .tmp 46); rfl; exact hR; go_big_quiet_on; simp only [Act.put, List.setIfInBounds_toArray, List.set_cons_succ, List.set_cons_zero]) | (apply quiet_sliceH (x := .tmp 53) (h := .tmp 54); rfl; exact hR; go_big_quiet_on; simp only [Act.put, List.setIfInBounds_toArray, List.set_cons_succ, List.set_cons_zero]) | (go_big_quiet_op; first | go_big_quiet_on | (refine ⟨_, (fun _ _ => rfl), ?_⟩; go_big_quiet_on))))
                    refine wpQuiet_nil ?_
                    refine seg_go rfl (fun K hK => ?_)
                    go_wp2_with fail
                    refine (indexOfSimplex_c _ _ _ _ _ _ l y _ (rl.grow hGx) (r2a.grow hGx) (by omega) (by omega)).mono ?_
                    rintro e w2 ⟨rfl, hGq⟩
                    replace hGx := hGx.trans hGq
                    clear hGq
                    rw [Hfy.out]
                    go_wp2_with fail
                    refine hK _ _ (hGx) ?_
                    clear hK K
                    show wpQuiet _ _ _ _ [_, _, _, _, _, _, _] _
                    try (conv => arg 6; simp only [Act.put, List.setIfInBounds_toArray, List.set_cons_succ, List.set_cons_zero])
                    repeat (first | go_big_quiet_skip | (go_big_quiet_want; first | (apply quiet_load CT_ints; rfl; rfl; exact (fun w' hG => hG.cell p0); go_big_quiet_on; simp only [Act.put, List.setIfInBounds_toArray, List.set_cons_succ, List.set_cons_zero]) | (apply quiet_load CT_ints; rfl; rfl; exact (fun w' hG => hG.cell p1); go_big_quiet_on; simp only [Act.put, List.setIfInBounds_toArray, List.set_cons_succ, List.set_cons_zero]) | (apply quiet_sliceH (x := .tmp 45) (h := .tmp 46); rfl; exact hR; go_big_quiet_on; simp only [Act.put, List.setIfInBounds_toArray, List.set_cons_succ, List.set_cons_zero]) | (apply quiet_sliceH (x := .tmp 53) (h := .tmp 54); rfl; exact hR; go_big_quiet_on; simp only [Act.put, List.setIfInBounds_toArray, List.set_cons_succ, List.set_cons_zero]) | (go_big_quiet_op; first | go_big_quiet_on | (refine ⟨_, (fun _ _ => rfl), ?_⟩; go_big_quiet_on))))
                    refine wpQuiet_nil ?_
                    refine seg_go rfl (fun K hK => ?_)
                    go_wp2_with fail
                    refine (isFaceOf_c _ _ _ _ _ _ x y _ (r1a.grow hGx) (r2a.grow hGx) (by omega) (by omega)).mono ?_
                    rintro e w3 ⟨rfl, hGq⟩
                    replace hGx := hGx.trans hGq
                    clear hGq
                    rw [Hf.out]
                    go_wp2_with fail
                    refine hK _ _ (hGx) ?_
                    clear hK K
                    show wpQuiet _ _ _ _ [_, _, _, _, _, _, _, _] _
                    try (conv => arg 6; simp only [Act.put, List.setIfInBounds_toArray, List.set_cons_succ, List.set_cons_zero])
                    repeat (first | go_big_quiet_skip | (go_big_quiet_want; first | (apply quiet_load CT_ints; rfl; rfl; exact (fun w' hG => hG.cell p0); go_big_quiet_on; simp only [Act.put, List.setIfInBounds_toArray, List.set_cons_succ, List.set_cons_zero]) | (apply quiet_load CT_ints; rfl; rfl; exact (fun w' hG => hG.cell p1); go_big_quiet_on; simp only [Act.put, List.setIfInBounds_toArray, List.set_cons_succ, List.set_cons_zero]) | (apply quiet_sliceH (x := .tmp 45) (h := .tmp 46); rfl; exact hR; go_big_quiet_on; simp only [Act.put, List.setIfInBounds_toArray, List.set_cons_succ, List.set_cons_zero]) | (apply quiet_sliceH (x := .tmp 53) (h := .tmp 54); rfl; exact hR; go_big_quiet_on; simp only [Act.put, List.setIfInBounds_toArray, List.set_cons_succ, List.set_cons_zero]) | (go_big_quiet_op; first | go_big_quiet_on | (refine ⟨_, (fun _ _ => rfl), ?_⟩; go_big_quiet_on))))
                    refine wpQuiet_nil ?_
                    refine seg_go rfl (fun K hK => ?_)
                    go_wp2_with fail
                    refine (inArrows_c _ _ _ _ _ _ (ar.take k) x _ (rpa.grow hGx) (r1a.grow hGx) (by omega) (by omega)).mono ?_
                    rintro e w4 ⟨rfl, hGq⟩
                    replace hGx := hGx.trans hGq
                    clear hGq
                    rw [Hd.out]
                    go_wp2_with fail
                    refine hK _ _ (hGx) ?_
                    clear hK K
                    show wpQuiet _ _ _ _ [_, _, _, _, _, _, _] _
                    try (conv => arg 6; simp only [Act.put, List.setIfInBounds_toArray, List.set_cons_succ, List.set_cons_zero])
                    repeat (first | go_big_quiet_skip | (go_big_quiet_want; first | (apply quiet_load CT_ints; rfl; rfl; exact (fun w' hG => hG.cell p0); go_big_quiet_on; simp only [Act.put, List.setIfInBounds_toArray, List.set_cons_succ, List.set_cons_zero]) | (apply quiet_load CT_ints; rfl; rfl; exact (fun w' hG => hG.cell p1); go_big_quiet_on; simp only [Act.put, List.setIfInBounds_toArray, List.set_cons_succ, List.set_cons_zero]) | (apply quiet_sliceH (x := .tmp 45) (h := .tmp 46); rfl; exact hR; go_big_quiet_on; simp only [Act.put, List.setIfInBounds_toArray, List.set_cons_succ, List.set_cons_zero]) | (apply quiet_sliceH (x := .tmp 53) (h := .tmp 54); rfl; exact hR; go_big_quiet_on; simp only [Act.put, List.setIfInBounds_toArray, List.set_cons_succ, List.set_cons_zero]) | (go_big_quiet_op; first | go_big_quiet_on | (refine ⟨_, (fun _ _ => rfl), ?_⟩; go_big_quiet_on))))
                    refine wpQuiet_nil ?_
                    refine seg_go rfl (fun K hK => ?_)
                    go_wp2_with fail
                    refine (inArrows_c _ _ _ _ _ _ (ar.take k) y _ (rpa.grow hGx) (r2a.grow hGx) (by omega) (by omega)).mono ?_
                    rintro e w5 ⟨rfl, hGq⟩
                    replace hGx := hGx.trans hGq
                    clear hGq
                    rw [He.out]
                    go_wp2_with fail
                    refine hK _ _ (hGx) ?_
                    clear hK K
                    show wpQuiet _ _ _ _ [_] _
                    try (conv => arg 6; simp only [Act.put, List.setIfInBounds_toArray, List.set_cons_succ, List.set_cons_zero])
                    repeat (first | go_big_quiet_skip | (go_big_quiet_want; first | (apply quiet_load CT_ints; rfl; rfl; exact (fun w' hG => hG.cell p0); go_big_quiet_on; simp only [Act.put, List.setIfInBounds_toArray, List.set_cons_succ, List.set_cons_zero]) | (apply quiet_load CT_ints; rfl; rfl; exact (fun w' hG => hG.cell p1); go_big_quiet_on; simp only [Act.put, List.setIfInBounds_toArray, List.set_cons_succ, List.set_cons_zero]) | (apply quiet_sliceH (x := .tmp 45) (h := .tmp 46); rfl; exact hR; go_big_quiet_on; simp only [Act.put, List.setIfInBounds_toArray, List.set_cons_succ, List.set_cons_zero]) | (apply quiet_sliceH (x := .tmp 53) (h := .tmp 54); rfl; exact hR; go_big_quiet_on; simp only [Act.put, List.setIfInBounds_toArray, List.set_cons_succ, List.set_cons_zero]) | (go_big_quiet_op; first | go_big_quiet_on | (refine ⟨_, (fun _ _ => rfl), ?_⟩; go_big_quiet_on))))
                    refine wpQuiet_nil ?_
                    refine wpSegs_nil ?_
                    go_wp2
                    go_roundw
                    case rel => exact ⟨hG0.trans (hGa.trans hGx), k + 1, by omega, by go_num, by unfold gradTo; rw [Hgt.out, Hs.out]; rfl⟩
                    case measure => simp [intOf]; omega
        · have hkm : k = m := by omega
          subst hkm
          go_wp2_with fail
          refine (leadsAround_c _ _ _ ar _ (h'.grow hG0) hm hf).mono ?_
          rintro e w1 ⟨rfl, hG1⟩
          have hfin := Lib.hid (show isGradB l ar = acycB ar by unfold isGradB; rw [HB.out, Hl.out, Hl'.out, Hgt.out, decide_eq_true (by omega : k ≤ n)]; rfl)
          go_wp2
          go_ret
          exact ⟨ret_bool (by rw [hfin.out]), hG0.trans hG1⟩
end Go.Proofs.Yteijmppjdljedaa

namespace Go.Proofs.Yteijmppjdljedaa
open Go.RowKit

theorem sameI_comm (a b : List Int) : sameI a b = sameI b a := by unfold sameI; rw [Bool.eq_iff_iff]; simp [eq_comm]
theorem inArB_succ {ar : List Arw} {j : Nat} {u v : List Int} (h : ar[j]? = some (u, v)) (s : List Int) : inArB (ar.take (j + 1)) s = (inArB (ar.take j) s || (sameI s u || sameI s v)) := by
  unfold inArB; rw [take_succ h, List.any_append]; simp [sameI_comm]
theorem inArB_more {ar : List Arw} {i k : Nat} {s : List Int} (h : inArB (ar.take i) s = true) (hik : i ≤ k) : inArB (ar.take k) s = true := by
  unfold inArB at *
  rw [List.any_eq_true] at *
  obtain ⟨p, hp, hs⟩ := h
  refine ⟨p, ?_, hs⟩
  rw [← Nat.min_eq_left hik, ← List.take_take] at hp
  exact List.mem_of_mem_take hp

set_option maxHeartbeats 4000000 in
set_option maxRecDepth 100000 in
theorem specIsGradient_c {S T : Nat → Prop} (a b : Option Addr) (n cap m cap' : Nat) (l : List (List Int)) (ar : List Arw) (w : World) (h : RdII w S a n cap l) (h' : RdA w T b m cap' ar) (hn : n ≤ 1048576) (ht : total l ≤ 1048576) (hm : m ≤ 1048576) (hf : total (flat ar) ≤ 1048576) :
    Calls Try.prog 10 #[.slice a n cap, .slice b m cap'] w fun e w' => e = .returned (.bool (isGradB l ar)) ∧ Grow w w' := by
  have hl := h.len
  have hl' := h'.len
  have Hl := Lib.hid hl; have Hl' := Lib.hid hl'
  clear hl hl'
  cases hB : isCplxB l with
  | false =>
    have HB := Lib.hid hB; clear hB
    go_enter Try.func10, Try.ntmps10
    go_wp2_with fail
    refine (specIsComplex_c _ _ _ l _ h hn ht).mono ?_
    rintro e w1 ⟨rfl, hG⟩
    rw [HB.out]
    go_wp2
    go_ret
    exact ⟨ret_bool (by unfold isGradB; rw [HB.out]; rfl), hG⟩
  | true =>
    have HB := Lib.hid hB; clear hB
    by_cases hmn : n < m
    · go_enter Try.func10, Try.ntmps10
      go_wp2_with fail
      refine (specIsComplex_c _ _ _ l _ h hn ht).mono ?_
      rintro e w1 ⟨rfl, hG⟩
      rw [HB.out]
      go_wp2
      go_ret
      exact ⟨ret_bool (by unfold isGradB; rw [Hl.out, Hl'.out, decide_eq_false (by omega : ¬ m ≤ n)]; simp), hG⟩
    · go_enter Try.func10, Try.ntmps10
      go_wp2_with fail
      refine (specIsComplex_c _ _ _ l _ h hn ht).mono ?_
      rintro e w1 ⟨rfl, hG⟩
      rw [HB.out]
      go_wp2
      go_loopw [5] (fun q wr => Grow w wr ∧ ∃ k : Nat, k ≤ m ∧ q = .int .i64 k ∧ gradTo l ar k = true) (fun q _ => m - (intOf q).toNat)
      case atStart => exact ⟨hG, 0, Nat.zero_le _, rfl, rfl⟩
      case round =>
        clear hG
        obtain ⟨hG0, k, hk, rfl, hgt⟩ := hrel
        have Hgt := Lib.hid hgt; clear hgt
        by_cases hlt : k < m
        · have hrA := h'.grow hG0
          obtain ⟨bb, off, x, y, a1, c1, a2, c2, rfl, hx, hbs, hbw, ⟨hc1, hc2⟩, r1, r2⟩ := hrA.at hlt
          have htx := (flat_total_at hx).2
          have hst := arwB_at (l := l) hx
          have hGa : Grow wr (wr.alloc (.cells #[.slice a1 x.length c1, .slice a2 y.length c2] 43)) := (Grow.refl _).alloc _ _
          have hBa := Blk.new wr #[.slice a1 x.length c1, .slice a2 y.length c2] 43
          have p0 : (wr.alloc (.cells #[.slice a1 x.length c1, .slice a2 y.length c2] 43)).cell? ⟨wr.heap.size, 0, none⟩ = some (.slice a1 x.length c1) := hBa.cell 0
          have p1 : (wr.alloc (.cells #[.slice a1 x.length c1, .slice a2 y.length c2] 43)).cell? ⟨wr.heap.size, 1, none⟩ = some (.slice a2 y.length c2) := hBa.cell 1
          have rl := (h.grow hG0).grow hGa
          have r1a := r1.grow hGa
          have r2a := r2.grow hGa
          have Hx := Lib.hid hx
          clear hx
          obtain ⟨wa, hwa⟩ : ∃ wa, wa = wr.alloc (.cells #[.slice a1 x.length c1, .slice a2 y.length c2] 43) := ⟨_, rfl⟩
          rw [← hwa] at hGa hBa rl r1a r2a
          have Hwa := Lib.hid hwa
          clear hwa
          generalize hfx : findI l x = fx at *
          generalize hfy : findI l y = fy at *
          have Hfx := Lib.hid hfx; have Hfy := Lib.hid hfy
          clear hfx hfy
          have Hst := Lib.hid hst; clear hst
          by_cases d1 : fx < 0
          · have Hs := Lib.hid (show arwB l ar k = false by rw [Hst.out, decide_eq_false (by omega : ¬ 0 ≤ fx)]; rfl)
            go_wp2_with fail
            rw [← Hwa.out] at p0 p1 ⊢
            refine (l32Find_c _ _ _ _ _ _ l x _ rl r1a (by omega) (by omega) (by omega)).mono ?_
            rintro e w1 ⟨rfl, hGq⟩
            have hGx := hGq.grow
            clear hGq
            rw [Hfx.out]
            replace p0 := hGx.cell p0; replace p1 := hGx.cell p1
            go_wp2
            go_ret
            exact ⟨ret_bool (by unfold isGradB; rw [gradTo_no Hs.out (by rw [Hl'.out]; exact hlt)]; simp), hG0.trans (hGa.trans hGx)⟩
          · by_cases d2 : fy < 0
            · have Hs := Lib.hid (show arwB l ar k = false by rw [Hst.out, decide_eq_false (by omega : ¬ 0 ≤ fy)]; simp)
              go_wp2_with fail
              rw [← Hwa.out] at p0 p1 ⊢
              refine (l32Find_c _ _ _ _ _ _ l x _ rl r1a (by omega) (by omega) (by omega)).mono ?_
              rintro e w1 ⟨rfl, hGq⟩
              have hGx := hGq.grow
              clear hGq
              rw [Hfx.out]
              replace p0 := hGx.cell p0; replace p1 := hGx.cell p1
              go_wp2_with fail
              refine (l32Find_c _ _ _ _ _ _ l y _ (rl.grow hGx) (r2a.grow hGx) (by omega) (by omega) (by omega)).mono ?_
              rintro e w2 ⟨rfl, hGq⟩
              replace hGx := hGx.trans hGq.grow
              replace p0 := hGq.grow.cell p0; replace p1 := hGq.grow.cell p1
              clear hGq
              rw [Hfy.out]
              go_wp2
              go_ret
              exact ⟨ret_bool (by unfold isGradB; rw [gradTo_no Hs.out (by rw [Hl'.out]; exact hlt)]; simp), hG0.trans (hGa.trans hGx)⟩
            · cases hf0 : isFaceB x y with
              | false =>
                have Hs := Lib.hid (show arwB l ar k = false by rw [Hst.out, hf0]; simp)
                have Hf := Lib.hid hf0; clear hf0
                go_wp2_with fail
                rw [← Hwa.out] at p0 p1 ⊢
                refine (l32Find_c _ _ _ _ _ _ l x _ rl r1a (by omega) (by omega) (by omega)).mono ?_
                rintro e w1 ⟨rfl, hGq⟩
                have hGx := hGq.grow
                clear hGq
                rw [Hfx.out]
                replace p0 := hGx.cell p0; replace p1 := hGx.cell p1
                go_wp2_with fail
                refine (l32Find_c _ _ _ _ _ _ l y _ (rl.grow hGx) (r2a.grow hGx) (by omega) (by omega) (by omega)).mono ?_
                rintro e w2 ⟨rfl, hGq⟩
                replace hGx := hGx.trans hGq.grow
                replace p0 := hGq.grow.cell p0; replace p1 := hGq.grow.cell p1
                clear hGq
                rw [Hfy.out]
                go_wp2_with fail
                refine (l35Face_c _ _ _ _ _ _ x y _ (r1a.grow hGx) (r2a.grow hGx) (by omega) (by omega)).mono ?_
                rintro e w3 ⟨rfl, hGq⟩
                replace hGx := hGx.trans hGq
                replace p0 := hGq.cell p0; replace p1 := hGq.cell p1
                clear hGq
                rw [Hf.out]
                go_wp2
                go_ret
                exact ⟨ret_bool (by unfold isGradB; rw [gradTo_no Hs.out (by rw [Hl'.out]; exact hlt)]; simp), hG0.trans (hGa.trans hGx)⟩
              | true =>
                have Hf := Lib.hid hf0; clear hf0
                go_wp2_with fail
                rw [← Hwa.out] at p0 p1 ⊢
                refine (l32Find_c _ _ _ _ _ _ l x _ rl r1a (by omega) (by omega) (by omega)).mono ?_
                rintro e w1 ⟨rfl, hGq⟩
                have hGx := hGq.grow
                clear hGq
                rw [Hfx.out]
                replace p0 := hGx.cell p0; replace p1 := hGx.cell p1
                go_wp2_with fail
                refine (l32Find_c _ _ _ _ _ _ l y _ (rl.grow hGx) (r2a.grow hGx) (by omega) (by omega) (by omega)).mono ?_
                rintro e w2 ⟨rfl, hGq⟩
                replace hGx := hGx.trans hGq.grow
                replace p0 := hGq.grow.cell p0; replace p1 := hGq.grow.cell p1
                clear hGq
                rw [Hfy.out]
                go_wp2_with fail
                refine (l35Face_c _ _ _ _ _ _ x y _ (r1a.grow hGx) (r2a.grow hGx) (by omega) (by omega)).mono ?_
                rintro e w3 ⟨rfl, hGq⟩
                replace hGx := hGx.trans hGq
                replace p0 := hGq.cell p0; replace p1 := hGq.cell p1
                clear hGq
                rw [Hf.out]
                go_wp2
                obtain ⟨wo, rfl⟩ : ∃ wo : World, wo = w3 := ⟨_, rfl⟩
                go_loopw [7] (fun q wr => Grow wo wr ∧ ∃ j : Nat, j ≤ k ∧ q = .int .i64 j ∧ inArB (ar.take j) x = false ∧ inArB (ar.take j) y = false) (fun q _ => k - (intOf q).toNat)
                case atStart => exact ⟨Grow.refl _, 0, Nat.zero_le _, rfl, rfl, rfl⟩
                case round =>
                  obtain ⟨hGi, j, hj, rfl, hjx, hjy⟩ := hrel
                  have Hjx := Lib.hid hjx; have Hjy := Lib.hid hjy
                  clear hjx hjy
                  have q0 := hGi.cell p0
                  have q1 := hGi.cell p1
                  by_cases hjk : j < k
                  · have hGt := (hGa.trans hGx).trans hGi
                    obtain ⟨bb', off', u, v, d1', e1, d2', e2, he, hu, hbs', hbw', ⟨hd1, hd2⟩, s1, s2⟩ := (hrA.grow hGt).at (show j < m by omega)
                    obtain ⟨rfl, rfl⟩ : bb = bb' ∧ off = off' := by simpa using he
                    have hsx := Lib.hid (inArB_succ hu x)
                    have hsy := Lib.hid (inArB_succ hu y)
                    have htu := (flat_total_at hu).2
                    have hBb := Blk.new wr #[.slice d1' u.length e1, .slice d2' v.length e2] 43
                    have hGb : Grow wr (wr.alloc (.cells #[.slice d1' u.length e1, .slice d2' v.length e2] 43)) := (Grow.refl _).alloc _ _
                    have u0 : (wr.alloc (.cells #[.slice d1' u.length e1, .slice d2' v.length e2] 43)).cell? ⟨wr.heap.size, 0, none⟩ = some (.slice d1' u.length e1) := hBb.cell 0
                    have u1 : (wr.alloc (.cells #[.slice d1' u.length e1, .slice d2' v.length e2] 43)).cell? ⟨wr.heap.size, 1, none⟩ = some (.slice d2' v.length e2) := hBb.cell 1
                    replace q0 := hGb.cell q0
                    replace q1 := hGb.cell q1
                    have rx := ((r1a.grow hGx).grow hGi).grow hGb
                    have ry := ((r2a.grow hGx).grow hGi).grow hGb
                    have ru := s1.grow hGb
                    have rv := s2.grow hGb
                    have hGtb := hGt.trans hGb
                    obtain ⟨wb, hwb⟩ : ∃ wb, wb = wr.alloc (.cells #[.slice d1' u.length e1, .slice d2' v.length e2] 43) := ⟨_, rfl⟩
                    rw [← hwb] at hGb rx ry ru rv hGtb
                    have Hwb := Lib.hid hwb
                    clear hwb he hu hBb
                    obtain ⟨y0, hy0⟩ : ∃ y0 : Nat, y0 = wr.heap.size := ⟨_, rfl⟩
                    have hul : u.length ≤ 2097152 := by omega
                    have hvl : v.length ≤ 2097152 := by omega
                    have hxl : x.length ≤ 2097152 := by omega
                    have hyl : y.length ≤ 2097152 := by omega
                    cases hxu : sameI x u with
                    | true =>
                      have Hxu := Lib.hid hxu; clear hxu
                      go_wp2_with fail
                      rw [← Hwb.out] at q0 q1 u0 u1 ⊢
                      refine (l32Same_c _ _ _ _ _ _ x u _ rx ru hxl hul).mono ?_
                      rintro e w5 ⟨rfl, hQ⟩
                      have hGs := hQ.grow
                      rw [Hxu.out]
                      replace q0 := hGs.cell q0; replace q1 := hGs.cell q1; replace u0 := hGs.cell u0; replace u1 := hGs.cell u1
                      clear hQ
                      have Hs : arwB l ar k = false := by rw [Hst.out, inArB_more (i := j + 1) (s := x) (by rw [hsx.out, Hxu.out]; simp) (by omega)]; simp
                      go_wp2
                      go_ret
                      exact ⟨ret_bool (by unfold isGradB; rw [gradTo_no Hs (by rw [Hl'.out]; exact hlt)]; simp), hG0.trans (hGtb.trans hGs)⟩
                    | false =>
                      have Hxu := Lib.hid hxu; clear hxu
                      cases hyv : sameI y v with
                      | true =>
                        have Hyv := Lib.hid hyv; clear hyv
                        go_wp2_with fail
                        rw [← Hwb.out] at q0 q1 u0 u1 ⊢
                        refine (l32Same_c _ _ _ _ _ _ x u _ rx ru hxl hul).mono ?_
                        rintro e w5 ⟨rfl, hQ⟩
                        have hGs := hQ.grow
                        rw [Hxu.out]
                        replace q0 := hGs.cell q0; replace q1 := hGs.cell q1; replace u0 := hGs.cell u0; replace u1 := hGs.cell u1
                        clear hQ
                        go_wp2_with fail
                        refine (l32Same_c _ _ _ _ _ _ y v _ (ry.grow hGs) (rv.grow hGs) hyl hvl).mono ?_
                        rintro e w6 ⟨rfl, hQ⟩
                        replace hGs := hGs.trans hQ.grow
                        rw [Hyv.out]
                        replace q0 := hQ.grow.cell q0; replace q1 := hQ.grow.cell q1; replace u0 := hQ.grow.cell u0; replace u1 := hQ.grow.cell u1
                        clear hQ
                        have Hs : arwB l ar k = false := by rw [Hst.out, inArB_more (i := j + 1) (s := y) (by rw [hsy.out, Hyv.out]; simp) (by omega)]; simp
                        go_wp2
                        go_ret
                        exact ⟨ret_bool (by unfold isGradB; rw [gradTo_no Hs (by rw [Hl'.out]; exact hlt)]; simp), hG0.trans (hGtb.trans hGs)⟩
                      | false =>
                        have Hyv := Lib.hid hyv; clear hyv
                        cases hxv : sameI x v with
                        | true =>
                          have Hxv := Lib.hid hxv; clear hxv
                          go_wp2_with fail
                          rw [← Hwb.out] at q0 q1 u0 u1 ⊢
                          refine (l32Same_c _ _ _ _ _ _ x u _ rx ru hxl hul).mono ?_
                          rintro e w5 ⟨rfl, hQ⟩
                          have hGs := hQ.grow
                          rw [Hxu.out]
                          replace q0 := hGs.cell q0; replace q1 := hGs.cell q1; replace u0 := hGs.cell u0; replace u1 := hGs.cell u1
                          clear hQ
                          go_wp2_with fail
                          refine (l32Same_c _ _ _ _ _ _ y v _ (ry.grow hGs) (rv.grow hGs) hyl hvl).mono ?_
                          rintro e w6 ⟨rfl, hQ⟩
                          replace hGs := hGs.trans hQ.grow
                          rw [Hyv.out]
                          replace q0 := hQ.grow.cell q0; replace q1 := hQ.grow.cell q1; replace u0 := hQ.grow.cell u0; replace u1 := hQ.grow.cell u1
                          clear hQ
                          go_wp2_with fail
                          refine (l32Same_c _ _ _ _ _ _ x v _ (rx.grow hGs) (rv.grow hGs) hxl hvl).mono ?_
                          rintro e w7 ⟨rfl, hQ⟩
                          replace hGs := hGs.trans hQ.grow
                          rw [Hxv.out]
                          replace q0 := hQ.grow.cell q0; replace q1 := hQ.grow.cell q1; replace u0 := hQ.grow.cell u0; replace u1 := hQ.grow.cell u1
                          clear hQ
                          have Hs : arwB l ar k = false := by rw [Hst.out, inArB_more (i := j + 1) (s := x) (by rw [hsx.out, Hxv.out]; simp) (by omega)]; simp
                          go_wp2
                          go_ret
                          exact ⟨ret_bool (by unfold isGradB; rw [gradTo_no Hs (by rw [Hl'.out]; exact hlt)]; simp), hG0.trans (hGtb.trans hGs)⟩
                        | false =>
                          have Hxv := Lib.hid hxv; clear hxv
                          cases hyu : sameI y u with
                          | true =>
                            have Hyu := Lib.hid hyu; clear hyu
                            go_wp2_with fail
                            rw [← Hwb.out] at q0 q1 u0 u1 ⊢
                            refine (l32Same_c _ _ _ _ _ _ x u _ rx ru hxl hul).mono ?_
                            rintro e w5 ⟨rfl, hQ⟩
                            have hGs := hQ.grow
                            rw [Hxu.out]
                            replace q0 := hGs.cell q0; replace q1 := hGs.cell q1; replace u0 := hGs.cell u0; replace u1 := hGs.cell u1
                            clear hQ
                            go_wp2_with fail
                            refine (l32Same_c _ _ _ _ _ _ y v _ (ry.grow hGs) (rv.grow hGs) hyl hvl).mono ?_
                            rintro e w6 ⟨rfl, hQ⟩
                            replace hGs := hGs.trans hQ.grow
                            rw [Hyv.out]
                            replace q0 := hQ.grow.cell q0; replace q1 := hQ.grow.cell q1; replace u0 := hQ.grow.cell u0; replace u1 := hQ.grow.cell u1
                            clear hQ
                            go_wp2_with fail
                            refine (l32Same_c _ _ _ _ _ _ x v _ (rx.grow hGs) (rv.grow hGs) hxl hvl).mono ?_
                            rintro e w7 ⟨rfl, hQ⟩
                            replace hGs := hGs.trans hQ.grow
                            rw [Hxv.out]
                            replace q0 := hQ.grow.cell q0; replace q1 := hQ.grow.cell q1; replace u0 := hQ.grow.cell u0; replace u1 := hQ.grow.cell u1
                            clear hQ
                            go_wp2_with fail
                            refine (l32Same_c _ _ _ _ _ _ y u _ (ry.grow hGs) (ru.grow hGs) hyl hul).mono ?_
                            rintro e w8 ⟨rfl, hQ⟩
                            replace hGs := hGs.trans hQ.grow
                            rw [Hyu.out]
                            clear hQ
                            have Hs : arwB l ar k = false := by rw [Hst.out, inArB_more (i := j + 1) (s := y) (by rw [hsy.out, Hyu.out]; simp) (by omega)]; simp
                            go_wp2
                            go_ret
                            exact ⟨ret_bool (by unfold isGradB; rw [gradTo_no Hs (by rw [Hl'.out]; exact hlt)]; simp), hG0.trans (hGtb.trans hGs)⟩
                          | false =>
                            have Hyu := Lib.hid hyu; clear hyu
                            go_wp2_with fail
                            rw [← Hwb.out] at q0 q1 u0 u1 ⊢
                            refine (l32Same_c _ _ _ _ _ _ x u _ rx ru hxl hul).mono ?_
                            rintro e w5 ⟨rfl, hQ⟩
                            have hGs := hQ.grow
                            rw [Hxu.out]
                            replace q0 := hGs.cell q0; replace q1 := hGs.cell q1; replace u0 := hGs.cell u0; replace u1 := hGs.cell u1
                            clear hQ
                            go_wp2_with fail
                            refine (l32Same_c _ _ _ _ _ _ y v _ (ry.grow hGs) (rv.grow hGs) hyl hvl).mono ?_
                            rintro e w6 ⟨rfl, hQ⟩
                            replace hGs := hGs.trans hQ.grow
                            rw [Hyv.out]
                            replace q0 := hQ.grow.cell q0; replace q1 := hQ.grow.cell q1; replace u0 := hQ.grow.cell u0; replace u1 := hQ.grow.cell u1
                            clear hQ
                            go_wp2_with fail
                            refine (l32Same_c _ _ _ _ _ _ x v _ (rx.grow hGs) (rv.grow hGs) hxl hvl).mono ?_
                            rintro e w7 ⟨rfl, hQ⟩
                            replace hGs := hGs.trans hQ.grow
                            rw [Hxv.out]
                            replace q0 := hQ.grow.cell q0; replace q1 := hQ.grow.cell q1; replace u0 := hQ.grow.cell u0; replace u1 := hQ.grow.cell u1
                            clear hQ
                            go_wp2_with fail
                            refine (l32Same_c _ _ _ _ _ _ y u _ (ry.grow hGs) (ru.grow hGs) hyl hul).mono ?_
                            rintro e w8 ⟨rfl, hQ⟩
                            replace hGs := hGs.trans hQ.grow
                            rw [Hyu.out]
                            clear hQ
                            go_wp2
                            go_roundw
                            case rel => exact ⟨hGi.trans (hGb.trans hGs), j + 1, by omega, by go_num, by rw [hsx.out, Hjx.out, Hxu.out, Hxv.out]; rfl, by rw [hsy.out, Hjy.out, Hyv.out, Hyu.out]; rfl⟩
                            case measure => simp [intOf]; omega
                  · have hjk' : j = k := by omega
                    subst hjk'
                    have Hs := Lib.hid (show arwB l ar j = true by rw [Hst.out, Hf.out, Hjx.out, Hjy.out, decide_eq_true (by omega : 0 ≤ fx), decide_eq_true (by omega : 0 ≤ fy)]; rfl)
                    go_wp2
                    go_roundw
                    case rel => exact ⟨(hG0.trans (hGa.trans hGx)).trans hGi, j + 1, by omega, by go_num, by unfold gradTo; rw [Hgt.out, Hs.out]; rfl⟩
                    case measure => simp [intOf]; omega
        · have hkm : k = m := by omega
          subst hkm
          go_wp2_with fail
          refine (l35Acyclic_c _ _ _ ar _ (h'.grow hG0) hm hf).mono ?_
          rintro e w1 ⟨rfl, hG1⟩
          have hfin := Lib.hid (show isGradB l ar = acycB ar by unfold isGradB; rw [HB.out, Hl.out, Hl'.out, Hgt.out, decide_eq_true (by omega : k ≤ n)]; rfl)
          go_wp2
          go_ret
          exact ⟨ret_bool (by rw [hfin.out]), hG0.trans hG1⟩
end Go.Proofs.Yteijmppjdljedaa
