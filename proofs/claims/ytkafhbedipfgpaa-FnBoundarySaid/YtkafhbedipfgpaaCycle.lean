/-
  IsCycle: the program's and the reference's.
-/
import Derived.Test.YtkafhbedipfgpaaBoundary
import Derived.Test.YtkafhbedipfgpaaMulI
import Derived.Test.YtkafhbedipfgpaaPar
namespace Go.Proofs.Ytkafhbedipfgpaa
open Go.RowKit

def zeroL (l : List Int) : Bool := l.all fun x => x == 0
theorem zeroL_no {l : List Int} {k : Nat} {x : Int} (h : l[k]? = some x) (hx : (x == 0) = false) : zeroL l = false := by
  unfold zeroL; rw [List.all_eq_false]; exact ⟨x, List.mem_of_getElem? h, by simp [hx]⟩
theorem zeroL_yes {l : List Int} (h : ∀ x ∈ l, (x == 0) = true) : zeroL l = true := by
  unfold zeroL; rw [List.all_eq_true]; exact h
/-- A row, as a matrix. -/
def rowM (c : List Int) : Mat := { rows := 1, cols := c.length, cells := c }
noncomputable def isCycB (l : List (List Int)) (k : Int) (c : List Int) : Bool := boundOk l k && (mulOk (rowM c) (boundB l k) && zeroL (mulB (rowM c) (boundB l k)).cells)

set_option maxHeartbeats 1000000 in
theorem isZeroRow_c {S : Nat → Prop} (a : Option Addr) (n cap : Nat) (xs : List Int) (w : World) (h : RdI w S a n cap xs) (hn : n ≤ 2097152) :
    Calls Try.prog 79 #[.slice a n cap] w fun e w' => e = .returned (.bool (zeroL xs)) ∧ w = w' := by
  have hcl : ∀ (x : Int) (w : World), Calls Try.prog 108 #[.int .i64 x] w fun e w' => e = .returned (.bool (!(x == 0))) ∧ w = w' := fun x w => by
    by_cases hx : x = 0
    · subst hx
      go_enter Try.func108, Try.ntmps108
      go_wp2
      go_ret
      exact ⟨ret_bool rfl, rfl⟩
    · have e1 : (x == 0) = false := by simp [hx]
      have e2 : (x != 0) = true := by simp [hx]
      clear hx
      go_enter Try.func108, Try.ntmps108
      go_wp2
      go_ret
      exact ⟨ret_bool (by rw [e1]; rfl), rfl⟩
  have Hl := Lib.hid h.len
  have hidx : Calls Try.prog 123 #[.slice a n cap, .func (.func 108) #[] #[]] w fun e w' => (∃ r : Int, e = .returned (.int .i64 r) ∧ decide (0 ≤ r) = !zeroL xs) ∧ w = w' := by
    go_enter Try.func123, Try.ntmps123
    go_wp2
    go_loop [8] (fun i => ∃ k : Nat, k ≤ n ∧ i = .int .i64 k ∧ ∀ x ∈ xs.take k, (x == 0) = true) (fun i => n - (intOf i).toNat)
    case atStart => exact ⟨0, Nat.zero_le _, rfl, by simp⟩
    case round =>
      obtain ⟨k, hk, rfl, he⟩ := hrel
      have He := Lib.hid he; clear he
      by_cases hlt : k < n
      · obtain ⟨b, off, x, rfl, hx, hr, _, hb, hc⟩ := h.at hlt
        have Hx := Lib.hid hx; clear hx
        cases h0 : x == 0 with
        | true =>
          have H0 := Lib.hid h0; clear h0
          go_wp2_with fail
          refine (hcl _ _).mono ?_
          rintro e w' ⟨rfl, rfl⟩
          rw [H0.out]
          go_wp2
          go_round
          case rel =>
            refine ⟨k + 1, by omega, by go_num, fun z hz => ?_⟩
            rw [take_succ Hx.out, List.mem_append, List.mem_singleton] at hz
            rcases hz with hz | rfl
            · exact He.out z hz
            · exact H0.out
          case measure => simp [intOf]; omega
        | false =>
          have H0 := Lib.hid h0; clear h0
          go_wp2_with fail
          refine (hcl _ _).mono ?_
          rintro e w' ⟨rfl, rfl⟩
          rw [H0.out]
          go_wp2
          go_ret
          exact ⟨⟨k, rfl, by rw [zeroL_no Hx.out H0.out]; simp⟩, rfl⟩
      · go_wp2
        go_ret
        have : k = n := by omega
        subst this
        have := He.out
        rw [take_all Hl.out] at this
        exact ⟨⟨-1, rfl, by rw [zeroL_yes this]; rfl⟩, rfl⟩
  have hcon : Calls Try.prog 107 #[.slice a n cap, .func (.func 108) #[] #[]] w fun e w' => e = .returned (.bool (!zeroL xs)) ∧ w = w' := by
    go_enter Try.func107, Try.ntmps107
    go_wp2_with fail
    refine hidx.mono ?_
    rintro e w' ⟨⟨r, rfl, hr⟩, rfl⟩
    have Hr := Lib.hid hr; clear hr
    go_wp2
    go_ret
    exact ⟨ret_bool Hr.out, rfl⟩
  clear hidx
  go_enter Try.func79, Try.ntmps79
  go_wp2_with fail
  refine hcon.mono ?_
  rintro e w' ⟨rfl, rfl⟩
  cases hz : zeroL xs with
  | true =>
    have Hz := Lib.hid hz; clear hz
    go_wp2
    go_ret
    exact ⟨ret_bool (by rw [Hz.out]), rfl⟩
  | false =>
    have Hz := Lib.hid hz; clear hz
    go_wp2
    go_ret
    exact ⟨ret_bool (by rw [Hz.out]), rfl⟩

set_option maxHeartbeats 1000000 in
theorem rowMatrix_c {S : Nat → Prop} (a : Option Addr) (n cap : Nat) (xs : List Int) (w : World) (h : RdI w S a n cap xs) (hn : n ≤ 2097152) :
    Calls Try.prog 78 #[.slice a n cap] w fun e w' => ∃ r, e = .returned r ∧ OM w' (New w w') r (rowM xs) ∧ Grow w w' := by
  have hl := h.len
  go_enter Try.func78, Try.ntmps78
  have hE : Own (((w.alloc (.cells #[.int .i64 0, .int .i64 0, .slice none 0 0] 30)).alloc (.cells #[] 3))) 3 1 (some ⟨w.heap.size + 1, 0, none⟩) 0 0 [] := Own.freshAt (by simp) (by unfold maxLen; omega) rfl
  have hbz := (Blk.new w #[.int .i64 0, .int .i64 0, .slice none 0 0] 30).alloc (.cells #[] 3)
  have hGz : Grow w ((w.alloc (.cells #[.int .i64 0, .int .i64 0, .slice none 0 0] 30)).alloc (.cells #[] 3)) := ((Grow.refl _).alloc _ _).alloc _ _
  go_wp2_with (at_builtin; refine wpList_app rfl (.tmp 5) (.tmp 6) _ rfl T_ints rfl hE rfl (h.row.grow (((Grow.refl _).alloc _ _).alloc _ _)) (ints_one _) (by omega) (by unfold maxLen; omega) ?_; intro a2 c2 w2 hA2; obtain ⟨⟨z0, z1, z2⟩, g0, g1, g2⟩ := (hbz.keep hA2.keep (by simp)).three)
  have hB2 := hbz.keep hA2.keep (by simp)
  have hG2 : Grow w w2 := hA2.grow hGz (fun g hg => by simp at hg; omega)
  have hl2 := hA2.lo (B := w.heap.size + 1) (by simp) (fun g hg => by simp at hg; omega)
  have ho2 : Own w2 3 1 a2 n c2 (ints xs) := by simpa using hA2.own
  have hK : Keep (fun q => q ≠ w.heap.size) w2 (((w2.setCell ⟨w.heap.size, 0, none⟩ (.int .i64 1)).setCell ⟨w.heap.size, 1, none⟩ (.int .i64 (n : Int))).setCell ⟨w.heap.size, 2, none⟩ (.slice a2 n c2)) :=
    (((Keep.refl _ w2).setCell (fun _ e => e rfl) _).setCell (fun _ e => e rfl) _).setCell (fun _ e => e rfl) _
  have hof := ho2.keep hK (fun g hg _ e => by have := hl2 g hg; omega)
  refine ret_cell T_mat rfl rfl rfl (((hB2.set 0 (.int .i64 1)).set 1 (.int .i64 (n : Int))).set 2 (.slice a2 n c2)) ⟨_, rfl, ⟨a2, n, c2, by unfold rowM; rw [← hl]; rfl, hof, h.rng, fun g hg => ⟨by have := hl2 g hg; omega, hof.lt hg⟩, by simp [rowM, I64], by simp only [rowM, I64, hl]; omega⟩, hG2.keep hK fun q hq => by omega⟩

theorem Own.ne_blk {w : World} {e t : TypeId} {sz : Nat} {a : Option Addr} {n cap g : Nat} {cs : List Value} {ds : Array Value} (ho : Own w e sz a n cap cs) (hb : Blk w g ds t) (hne : e ≠ t) : blk a ≠ some g := fun h => by
  cases a with
  | none => simp at h
  | some p =>
    simp at h
    obtain ⟨_, cur, h2, _⟩ := ho.block p rfl
    rw [h] at h2
    have := h2.symm.trans hb
    simp only [Option.some.injEq, Obj.cells.injEq] at this
    exact hne this.2.1
theorem mulB_bd {A B : Mat} : bdM (mulB A B) ≤ 576 := by
  unfold mulB
  by_cases hF : mulFit A B = true
  · rw [if_pos hF]
    have := mulM_bd hF
    unfold okM
    split
    · exact this
    · simp [bdM]
  · rw [if_neg hF]; simp [bdM]
def CycPost (z : Nat) (A B : Mat) : Nat → Value → World → Prop
  | 1, v, w => OM w (fun g => z ≤ g) v A
  | 3, v, w => ∃ r, v = .tuple #[r, .bool (mulOk A B)] ∧ OM w (fun g => z ≤ g) r (mulB A B)
  | 4, v, w => ∃ r, v = .tuple #[r, .bool (mulOk A B)] ∧ OM w (fun g => z ≤ g) r (mulB A B)
  | 5, v, w => OM w (fun g => z ≤ g) v (mulB A B)
  | 6, v, _ => v = .bool (mulOk A B)
  | 7, v, w => ∃ g, v = .pointer (some ⟨g, 0, none⟩) ∧ z ≤ g ∧ Blk w g #[.int .i64 0, .int .i64 0, .slice none 0 0] 30
  | _, _, _ => True
theorem CycPost.stays {z : Nat} {A B : Mat} : ∀ i v w w', Grow w w' → CycPost z A B i v w → CycPost z A B i v w' := fun i v w w' hG h => by
  unfold CycPost at *
  split at h
  · exact h.grow hG
  · obtain ⟨r, h1, h2⟩ := h; exact ⟨r, h1, h2.grow hG⟩
  · obtain ⟨r, h1, h2⟩ := h; exact ⟨r, h1, h2.grow hG⟩
  · exact h.grow hG
  · exact h
  · obtain ⟨g, h1, h2, h3⟩ := h; exact ⟨g, h1, h2, h3.grow hG⟩
  · trivial

set_option maxHeartbeats 4000000 in
set_option maxRecDepth 100000 in
theorem implIsCycle_c {S T : Nat → Prop} {v u : Value} {l : List (List Int)} {k : Int} {c : List Int} {w : World} (h : VII w S v l) (hb : bdII l ≤ 1048576) (hk : I64 k) (h' : VI w T u c) (hb' : bdI c ≤ 1048576) :
    Calls Try.prog 34 #[v, .int .i64 k, u] w fun e w' => e = .returned (.bool (isCycB l k c)) ∧ Grow w w' := by
  cases hB : boundOk l k with
  | false =>
    have H := Lib.hid (show isCycB l k c = false by unfold isCycB; rw [hB]; rfl)
    have HB := Lib.hid hB; clear hB
    go_enter Try.func34, Try.ntmps34
    go_wp2_with fail
    refine (implBoundaryOf_v h hb hk).mono ?_
    rintro e w1 ⟨r, rfl, ⟨am, nm, cm, rfl, om, xm, fm, rm, km⟩, hG1⟩
    rw [HB.out]
    go_wp2
    go_ret
    exact ⟨ret_bool H.out.symm, hG1.alloc _ _⟩
  | true =>
    have HB := Lib.hid hB; clear hB
    have hbd := boundB_bd l k
    have hC := Lib.hid (show isCycB l k c = (mulOk (rowM c) (boundB l k) && zeroL (mulB (rowM c) (boundB l k)).cells) by unfold isCycB; rw [HB.out]; rfl)
    go_enter Try.func34, Try.ntmps34
    go_wp2_with fail
    refine (implBoundaryOf_v h hb hk).mono ?_
    rintro e w1 ⟨r, rfl, ⟨am, nm, cm, rfl, om, xm, fm, rm, km⟩, hG1⟩
    rw [HB.out]
    obtain ⟨wa, hwa⟩ : ∃ wa, wa = w1.alloc (.cells #[.int .i64 (boundB l k).rows, .int .i64 (boundB l k).cols, .slice am nm cm] 30) := ⟨_, rfl⟩
    have hGa : Grow w1 wa := by rw [hwa]; exact (Grow.refl _).alloc _ _
    have hBm : Blk wa w1.heap.size #[.int .i64 (boundB l k).rows, .int .i64 (boundB l k).cols, .slice am nm cm] 30 := by rw [hwa]; exact Blk.new _ _ _
    have vB : VM wa (fun _ => True) (.agg #[.int .i64 (boundB l k).rows, .int .i64 (boundB l k).cols, .slice am nm cm]) (boundB l k) := (OM.rd (F := New w w1) ⟨am, nm, cm, rfl, om, xm, fm, rm, km⟩ fun _ _ => trivial).grow hGa
    have vC : VI wa T u c := (h'.grow hG1).grow hGa
    obtain ⟨ua, un, uc, rfl, rC⟩ := vC
    have hlc := rC.len
    unfold bdI at hb'
    have Hwa := Lib.hid hwa
    clear hwa
    generalize boundB l k = B at *
    generalize hA : rowM c = A at *
    have HA := Lib.hid hA; clear hA
    go_wp2
    rw [← Hwa.out]
    refine wp_region_par (S := Grow wa) [0, 2] [1, 3, 7] [4, 5, 6] [([], some 8), ([9], none)] P_mixed (by kernel_rfl) (fun _ _ _ _ _ h => h) (Grow.refl _).drew ?_
    show wpQuiet _ _ _ _ [_, _] _
    repeat (first | go_big_quiet_skip | (go_big_quiet_want; first | (apply quiet_load3 T_mat; rfl; rfl; exact (fun w' hG => hBm.grow hG); go_big_quiet_on; simp only [Act.put, List.setIfInBounds_toArray, List.set_cons_succ, List.set_cons_zero]) | (go_big_quiet_op; first | go_big_quiet_on | (refine ⟨_, (fun _ _ => rfl), ?_⟩; go_big_quiet_on))))
    refine wpQuiet_nil ?_
    refine ⟨by kernel_rfl, CycPost wa.heap.size A B, fun _ _ => none, CycPost.stays, (fun _ _ _ _ _ h => by cases h), (fun _ _ _ => rfl), ?_, ?_, ?_⟩
    · intro i hi o ho a w2 hGw hSw hdep hfr K hK
      have t20 : a.tmps.getD 20 undef = .slice ua un uc := hfr 20 (by decide)
      have t22 : a.tmps.getD 22 undef = .agg #[.int .i64 B.rows, .int .i64 B.cols, .slice am nm cm] := hfr 22 (by decide)
      have hs2 := hSw.size
      simp only [List.mem_cons, List.not_mem_nil, or_false] at hi
      rcases hi with rfl | rfl | rfl
      · obtain rfl := Option.some.inj (show some _ = some _ from ho)
        refine par_call1 (x := .tmp 20) rfl Try.func78 rfl rfl t20 ?_
        refine (rowMatrix_c _ _ _ c _ (rC.grow hSw) (by omega)).mono ?_
        rintro e w3 ⟨r, rfl, hO, hG3⟩
        exact ⟨r, rfl, hK r w3 hG3 (hSw.trans hG3) (by rw [HA.out] at hO; exact hO.weak fun b _ hb => Nat.le_trans hs2 hb.1) (fun _ h => by cases h)⟩
      · obtain rfl := Option.some.inj (show some _ = some _ from ho)
        have d1 : OM w2 (fun g => wa.heap.size ≤ g) (a.tmps.getD 21 undef) A := hdep 1 (by decide) ⟨⟨1, .data⟩, by simp, rfl, rfl⟩ 21 rfl
        refine par_call2 (x := .tmp 21) (y := .tmp 22) rfl Try.func33 rfl rfl rfl t22 ?_
        refine (implMul_c (d1.rd (S := fun _ => True) fun _ _ => trivial) (vB.grow hSw) (by rw [← HA.out]; show c.length ≤ _; omega) (by omega)).mono ?_
        rintro e w3 ⟨r, rfl, hO, hG3⟩
        exact ⟨_, rfl, hK _ w3 hG3 (hSw.trans hG3) ⟨r, rfl, hO.weak fun b _ hb => Nat.le_trans hs2 hb.1⟩ (fun _ h => by cases h)⟩
      · obtain rfl := Option.some.inj (show some _ = some _ from ho)
        refine par_alloc (z := .agg #[.int .i64 0, .int .i64 0, .slice none 0 0]) rfl (by rfl) ?_
        exact hK _ _ ((Grow.refl _).alloc _ _) (hSw.alloc _ _) ⟨w2.heap.size, rfl, hs2, Blk.new _ _ _⟩ (fun _ h => by cases h)
    · intro i hi o ho a w2 hGw hSw hdep hfr
      simp only [List.mem_cons, List.not_mem_nil, or_false] at hi
      rcases hi with rfl | rfl | rfl
      · obtain rfl := Option.some.inj (show some _ = some _ from ho)
        have d3 : ∃ r, a.tmps.getD 23 undef = .tuple #[r, .bool (mulOk A B)] ∧ OM w2 (fun g => wa.heap.size ≤ g) r (mulB A B) := hdep 3 (by decide) ⟨⟨3, .data⟩, by simp, rfl, rfl⟩ 23 rfl
        exact ⟨a.tmps.getD 23 undef, fun _ _ => rfl, d3⟩
      · obtain rfl := Option.some.inj (show some _ = some _ from ho)
        obtain ⟨r, e4, hO⟩ : ∃ r, a.tmps.getD 19 undef = .tuple #[r, .bool (mulOk A B)] ∧ OM w2 (fun g => wa.heap.size ≤ g) r (mulB A B) := hdep 4 (by decide) ⟨⟨4, .data⟩, by simp, rfl, rfl⟩ 19 rfl
        exact ⟨r, fun w' _ => free_extract (x := .tmp 19) rfl e4 rfl w', hO⟩
      · obtain rfl := Option.some.inj (show some _ = some _ from ho)
        obtain ⟨r, e4, hO⟩ : ∃ r, a.tmps.getD 19 undef = .tuple #[r, .bool (mulOk A B)] ∧ OM w2 (fun g => wa.heap.size ≤ g) r (mulB A B) := hdep 4 (by decide) ⟨⟨4, .data⟩, by simp, rfl, rfl⟩ 19 rfl
        exact ⟨.bool (mulOk A B), fun w' _ => free_extract (x := .tmp 19) rfl e4 rfl w', rfl⟩
    · intro vs w2 hGw hSw hP _
      apply fill_to
      · show _ = ([some 21, some 23, some 9, some 19, some 24, some 25] : List (Option Tmp))
        kernel_rfl
      simp only [fillD, List.cons_append, List.nil_append, List.map_cons, List.map_nil, List.zip_cons_cons, List.zip_nil_right, Act.put, List.setIfInBounds_toArray, List.set_cons_succ, List.set_cons_zero]
      refine ⟨?_⟩
      have p5 : OM w2 (fun g => wa.heap.size ≤ g) (vs 5) (mulB A B) := hP 5 (by decide)
      have p6 : vs 6 = .bool (mulOk A B) := hP 6 (by decide)
      obtain ⟨g, p7, hzg, hBg⟩ : ∃ g, vs 7 = .pointer (some ⟨g, 0, none⟩) ∧ wa.heap.size ≤ g ∧ Blk w2 g #[.int .i64 0, .int .i64 0, .slice none 0 0] 30 := hP 7 (by decide)
      obtain ⟨ap, np, cp, e5, op, xp, fp, ip, jp⟩ := p5
      have hne := op.ne_blk hBg (by decide)
      have hlp : (mulB A B).cells.length = np := by simpa using op.len
      have hbp := mulB_bd (A := A) (B := B)
      unfold bdM at hbp
      rw [e5, p6, p7]
      show wpQuiet _ _ _ _ [] _
      apply wpQuiet_nil
      apply seg_go rfl
      intro K hK
      obtain ⟨⟨z0, z1, z2⟩, g0, g1, g2⟩ := hBg.three
      go_wp2_with fail
      have hK3 : Keep (fun q => q ≠ g) w2 (((w2.setCell ⟨g, 0, none⟩ (.int .i64 (mulB A B).rows)).setCell ⟨g, 1, none⟩ (.int .i64 (mulB A B).cols)).setCell ⟨g, 2, none⟩ (.slice ap np cp)) :=
        (((Keep.refl _ w2).setCell (fun _ e => e rfl) _).setCell (fun _ e => e rfl) _).setCell (fun _ e => e rfl) _
      have hB3 : Blk (((w2.setCell ⟨g, 0, none⟩ (.int .i64 (mulB A B).rows)).setCell ⟨g, 1, none⟩ (.int .i64 (mulB A B).cols)).setCell ⟨g, 2, none⟩ (.slice ap np cp)) g #[.int .i64 (mulB A B).rows, .int .i64 (mulB A B).cols, .slice ap np cp] 30 := ((hBg.set 0 _).set 1 _).set 2 _
      have hG3 := hSw.keep hK3 fun q hq => by omega
      have op3 := op.keep hK3 fun q hq _ e => hne (e ▸ hq)
      refine hK _ _ hG3 ?_
      clear hK K
      generalize hw3 : (((w2.setCell ⟨g, 0, none⟩ (.int .i64 (mulB A B).rows)).setCell ⟨g, 1, none⟩ (.int .i64 (mulB A B).cols)).setCell ⟨g, 2, none⟩ (.slice ap np cp)) = w3 at *
      clear hw3 hK3 z0 z1 z2 g0 g1 g2
      show wpQuiet _ _ _ _ [_] _
      try (conv => arg 6; simp only [Act.put, List.setIfInBounds_toArray, List.set_cons_succ, List.set_cons_zero])
      repeat (first | go_big_quiet_skip | (go_big_quiet_want; first | (apply quiet_load3 T_mat; rfl; rfl; exact (fun w' hG => hBm.grow hG); go_big_quiet_on; simp only [Act.put, List.setIfInBounds_toArray, List.set_cons_succ, List.set_cons_zero]) | (go_big_quiet_op; first | go_big_quiet_on | (refine ⟨_, (fun _ _ => rfl), ?_⟩; go_big_quiet_on))))
      refine wpQuiet_nil ?_
      refine wpSegs_nil ?_
      have hG : Grow w w3 := (hG1.trans hGa).trans hG3
      cases hm : mulOk A B with
      | false =>
        have H : isCycB l k c = false := by rw [hC.out, hm]; rfl
        have HM := Lib.hid hm; clear hm
        go_wp2
        go_ret
        exact ⟨ret_bool H.symm, hG⟩
      | true =>
        have H : isCycB l k c = zeroL (mulB A B).cells := by rw [hC.out, hm]; rfl
        have HM := Lib.hid hm; clear hm
        have HH := Lib.hid H; clear H
        obtain ⟨⟨z0, z1, z2⟩, g0, g1, g2⟩ := hB3.three
        go_wp2_with fail
        refine (isZeroRow_c (S := fun _ => True) _ _ _ (mulB A B).cells _ (op3.rdI (fun _ _ => trivial) xp) (by omega)).mono ?_
        rintro e w4 ⟨rfl, rfl⟩
        go_wp2
        go_ret
        exact ⟨ret_bool HH.out.symm, hG⟩
end Go.Proofs.Ytkafhbedipfgpaa
