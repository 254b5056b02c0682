/-
  The law FnExactComposeMaps returns true for all arguments: the program's ComposeMaps and the reference's return the same; arguments stay; results share no memory.
-/
import Derived.Test.YtdpjfblkmkjedaaCompose
import Derived.Test.YtdpjfblkmkjedaaMatO
import Derived.Test.YtdpjfblkmkjedaaMatT
import Derived.Test.YtdpjfblkmkjedaaSegs
import Derived.Test.YtdpjfblkmkjedaaPar
namespace Go.Proofs.Ytdpjfblkmkjedaa.lawComposeMaps
open Go.ChangeShapes Go.WideShapes Go.ChangeAt Go.RowKit

def CompPost (z : Nat) (A B : Mat) : Nat → Value → World → Prop
  | 1, v, w => OM w (fun g => z ≤ g) v A
  | 3, v, w => OM w (fun g => z ≤ g) v B
  | 4, v, w => ∃ r, v = .tuple #[r, .bool (mulOk A B)] ∧ OM w (fun g => z ≤ g) r (mulB A B)
  | 5, v, w => ∃ r, v = .tuple #[r, .bool (mulOk A B)] ∧ OM w (fun g => z ≤ g) r (mulB A B)
  | 6, v, w => OM w (fun g => z ≤ g) v (mulB A B)
  | 7, v, _ => v = .bool (mulOk A B)
  | 8, v, w => ∃ g, v = .pointer (some ⟨g, 0, none⟩) ∧ z ≤ g ∧ Blk w g #[.int .i64 0, .int .i64 0, .slice none 0 0] 46
  | _, _, _ => True
theorem CompPost.stays {z : Nat} {A B : Mat} : ∀ i v w w', Grow w w' → CompPost z A B i v w → CompPost z A B i v w' := fun i v w w' hG h => by
  unfold CompPost at *
  split at h
  · exact h.grow hG
  · exact h.grow hG
  · obtain ⟨r, h1, h2⟩ := h; exact ⟨r, h1, h2.grow hG⟩
  · obtain ⟨r, h1, h2⟩ := h; exact ⟨r, h1, h2.grow hG⟩
  · exact h.grow hG
  · exact h
  · obtain ⟨g, h1, h2, h3⟩ := h; exact ⟨g, h1, h2, h3.grow hG⟩
  · trivial
set_option maxHeartbeats 8000000 in
set_option maxRecDepth 100000 in
theorem walk (fv : Value) (f : Mat) (gv : Value) (g : Mat) (w : World) (hf0 : VM w (fun _ => True) fv f) (hg0 : VM w (fun _ => True) gv g) :
    Calls Try.prog 8 #[fv, gv] w fun e w' => e = .returned (.bool true) ∧ Grow w w' := by
  have hs0 : w.heap.size ≤ w.heap.size := Nat.le_refl _
  have hAf : VM w (fun b => b < w.heap.size) fv f := hf0.weak fun _ hb _ => hb
  have hAg : VM w (fun b => b < w.heap.size) gv g := hg0.weak fun _ hb _ => hb
  clear hf0
  clear hg0
  have hq0f := hAf; obtain ⟨fa, fn, fc, rfl, -⟩ := hq0f
  have hq0g := hAg; obtain ⟨ga, gn, gc, rfl, -⟩ := hq0g
  obtain ⟨wB, hwB⟩ : ∃ wB, wB = ((w.alloc (.cells #[.int .i64 f.rows, .int .i64 f.cols, .slice fa fn fc] 41)).alloc (.cells #[.int .i64 g.rows, .int .i64 g.cols, .slice ga gn gc] 41)) := ⟨_, rfl⟩
  have hT : Grow w wB := by rw [hwB]; exact (((Grow.refl w).alloc _ _).alloc _ _)
  have hBpf := ((Blk.newAt w #[.int .i64 f.rows, .int .i64 f.cols, .slice fa fn fc] 41 (g := w.heap.size) (by simp)).alloc (.cells #[.int .i64 g.rows, .int .i64 g.cols, .slice ga gn gc] 41))
  have hBpg := Blk.newAt (w.alloc (.cells #[.int .i64 f.rows, .int .i64 f.cols, .slice fa fn fc] 41)) #[.int .i64 g.rows, .int .i64 g.cols, .slice ga gn gc] 41 (g := w.heap.size + 1) (by simp)
  rw [← hwB] at hBpf
  rw [← hwB] at hBpg
  have HwB := Lib.hid hwB; clear hwB
  have hsB := hT.size
  replace hAf := hAf.grow hT
  replace hAg := hAg.grow hT
  by_cases hbf : szM 1048576 f < 0
  · skip
    go_enter Try.func8, Try.ntmps8
    go_wp2_with fail
    rw [← HwB.out]
    refine (sz_M hAf (by omega) (by omega)).mono ?_; rintro e wz0 ⟨rfl, hGz0⟩; have hsz0 := hGz0.size; replace hT := hT.trans hGz0; replace hAf := hAf.grow hGz0; replace hAg := hAg.grow hGz0; replace hBpf := hBpf.grow hGz0; replace hBpg := hBpg.grow hGz0; clear hGz0
    obtain ⟨⟨pchBpf0_1, pchBpf1_1, pchBpf2_1⟩, -⟩ := hBpf.three
    obtain ⟨⟨pchBpg0_2, pchBpg1_2, pchBpg2_2⟩, -⟩ := hBpg.three
    go_wp2_with fail
    clear pchBpf0_1 pchBpf1_1 pchBpf2_1
    clear pchBpg0_2 pchBpg1_2 pchBpg2_2
    all_goals (go_ret; exact ⟨rfl, hT⟩)
  have hzf := sz_M_ok (l := f) (left := 1048576) (by omega)
  have hBf : bdM f ≤ 1048576 := by omega
  by_cases hbg : szM (1048576 - (bdM f : Int)) g < 0
  · skip
    go_enter Try.func8, Try.ntmps8
    go_wp2_with fail
    rw [← HwB.out]
    refine (sz_M hAf (by omega) (by omega)).mono ?_; rintro e wz0 ⟨rfl, hGz0⟩; have hsz0 := hGz0.size; replace hT := hT.trans hGz0; replace hAf := hAf.grow hGz0; replace hAg := hAg.grow hGz0; replace hBpf := hBpf.grow hGz0; replace hBpg := hBpg.grow hGz0; clear hGz0
    obtain ⟨⟨pchBpf0_3, pchBpf1_3, pchBpf2_3⟩, -⟩ := hBpf.three
    obtain ⟨⟨pchBpg0_4, pchBpg1_4, pchBpg2_4⟩, -⟩ := hBpg.three
    go_wp2_with fail
    clear pchBpf0_3 pchBpf1_3 pchBpf2_3
    clear pchBpg0_4 pchBpg1_4 pchBpg2_4
    refine (sz_M hAg (by omega) (by omega)).mono ?_; rintro e wz1 ⟨rfl, hGz1⟩; have hsz1 := hGz1.size; replace hT := hT.trans hGz1; replace hAf := hAf.grow hGz1; replace hAg := hAg.grow hGz1; replace hBpf := hBpf.grow hGz1; replace hBpg := hBpg.grow hGz1; clear hGz1
    obtain ⟨⟨pchBpf0_5, pchBpf1_5, pchBpf2_5⟩, -⟩ := hBpf.three
    obtain ⟨⟨pchBpg0_6, pchBpg1_6, pchBpg2_6⟩, -⟩ := hBpg.three
    go_wp2_with fail
    clear pchBpf0_5 pchBpf1_5 pchBpf2_5
    clear pchBpg0_6 pchBpg1_6 pchBpg2_6
    all_goals (go_ret; exact ⟨rfl, hT⟩)
  have hzg := sz_M_ok (l := g) (left := (1048576 - (bdM f : Int))) (by omega)
  have hBg : bdM g ≤ 1048576 := by omega
  have hB_0 : bdM (mulB f g) ≤ 2097152 := by have := mulB_bd' (A := f) (B := g); omega
  have hB_1 : bdM (mulB f g) ≤ 1024 := by have := mulB_bd' (A := f) (B := g); omega
  go_enter Try.func8, Try.ntmps8
  go_wp2_with fail
  rw [← HwB.out]
  refine (sz_M hAf (by omega) (by omega)).mono ?_; rintro e wz0 ⟨rfl, hGz0⟩; have hsz0 := hGz0.size; replace hT := hT.trans hGz0; replace hAf := hAf.grow hGz0; replace hAg := hAg.grow hGz0; replace hBpf := hBpf.grow hGz0; replace hBpg := hBpg.grow hGz0; clear hGz0
  obtain ⟨⟨pchBpf0_7, pchBpf1_7, pchBpf2_7⟩, -⟩ := hBpf.three
  obtain ⟨⟨pchBpg0_8, pchBpg1_8, pchBpg2_8⟩, -⟩ := hBpg.three
  go_wp2_with fail
  clear pchBpf0_7 pchBpf1_7 pchBpf2_7
  clear pchBpg0_8 pchBpg1_8 pchBpg2_8
  refine (sz_M hAg (by omega) (by omega)).mono ?_; rintro e wz1 ⟨rfl, hGz1⟩; have hsz1 := hGz1.size; replace hT := hT.trans hGz1; replace hAf := hAf.grow hGz1; replace hAg := hAg.grow hGz1; replace hBpf := hBpf.grow hGz1; replace hBpg := hBpg.grow hGz1; clear hGz1
  obtain ⟨⟨pchBpf0_9, pchBpf1_9, pchBpf2_9⟩, -⟩ := hBpf.three
  obtain ⟨⟨pchBpg0_10, pchBpg1_10, pchBpg2_10⟩, -⟩ := hBpg.three
  go_wp2_with fail
  clear pchBpf0_9 pchBpf1_9 pchBpf2_9
  clear pchBpg0_10 pchBpg1_10 pchBpg2_10
  have hltpg := hBpg.lt
  refine wp_region_par (S := Grow wz1) [0, 2] [1, 3, 4, 8] [5, 6, 7] [([], some 9), ([10], none)] P_mixed (by kernel_rfl) (fun _ _ _ _ _ h => h) (Grow.refl _).drew ?_
  show wpQuiet _ _ _ _ [_, _] _
  repeat (first | go_big_quiet_skip | (go_big_quiet_want; first | (apply quiet_load3 T_lmat; rfl; rfl; exact (fun w' hG => hBpf.grow hG); go_big_quiet_on; simp only [Act.put, List.setIfInBounds_toArray, List.set_cons_succ, List.set_cons_zero]) | (apply quiet_load3 T_lmat; rfl; rfl; exact (fun w' hG => hBpg.grow hG); go_big_quiet_on; simp only [Act.put, List.setIfInBounds_toArray, List.set_cons_succ, List.set_cons_zero]) | (go_big_quiet_op; first | go_big_quiet_on | (refine ⟨_, (fun _ _ => rfl), ?_⟩; go_big_quiet_on))))
  refine wpQuiet_nil ?_
  refine ⟨by kernel_rfl, CompPost wz1.heap.size f g, fun _ _ => none, CompPost.stays, (fun _ _ _ _ _ h => by cases h), (fun _ _ _ => rfl), ?_, ?_, ?_⟩
  · intro i hi o ho a w2 hGw hSw hdep hfr K hK
    have hs2 := hSw.size
    simp only [List.mem_cons, List.not_mem_nil, or_false] at hi
    rcases hi with rfl | rfl | rfl | rfl
    · obtain rfl := Option.some.inj (show some _ = some _ from ho)
      refine par_call1 (x := .tmp 28) rfl Try.func34 rfl rfl (hfr 28 (by decide)) ?_
      refine (to_M (hAf.grow hSw) hBf).mono ?_
      rintro e w3 ⟨r, rfl, hO, hG3⟩
      exact ⟨r, rfl, hK r w3 hG3 (hSw.trans hG3) (hO.weak fun b _ hb => Nat.le_trans hs2 hb.1) (fun _ h => by cases h)⟩
    · obtain rfl := Option.some.inj (show some _ = some _ from ho)
      refine par_call1 (x := .tmp 30) rfl Try.func34 rfl rfl (hfr 30 (by decide)) ?_
      refine (to_M (hAg.grow hSw) hBg).mono ?_
      rintro e w3 ⟨r, rfl, hO, hG3⟩
      exact ⟨r, rfl, hK r w3 hG3 (hSw.trans hG3) (hO.weak fun b _ hb => Nat.le_trans hs2 hb.1) (fun _ h => by cases h)⟩
    · obtain rfl := Option.some.inj (show some _ = some _ from ho)
      have d1 : OM w2 (fun q => wz1.heap.size ≤ q) (a.tmps.getD 29 undef) f := hdep 1 (by decide) ⟨⟨1, .data⟩, by simp, rfl, rfl⟩ 29 rfl
      have d3 : OM w2 (fun q => wz1.heap.size ≤ q) (a.tmps.getD 31 undef) g := hdep 3 (by decide) ⟨⟨3, .data⟩, by simp, rfl, rfl⟩ 31 rfl
      refine par_call2 (x := .tmp 29) (y := .tmp 31) rfl Try.func33 rfl rfl rfl rfl ?_
      refine (specCompose_v (d1.rd (S := fun _ => True) fun _ _ => trivial) hBf (d3.rd (S := fun _ => True) fun _ _ => trivial) hBg).mono ?_
      rintro e w3 ⟨r, rfl, hO, hG3⟩
      exact ⟨_, rfl, hK _ w3 hG3 (hSw.trans hG3) ⟨r, rfl, hO.weak fun b _ hb => Nat.le_trans hs2 hb.1⟩ (fun _ h => by cases h)⟩
    · obtain rfl := Option.some.inj (show some _ = some _ from ho)
      refine par_alloc (z := .agg #[.int .i64 0, .int .i64 0, .slice none 0 0]) rfl (by rfl) ?_
      exact hK _ _ ((Grow.refl _).alloc _ _) (hSw.alloc _ _) ⟨w2.heap.size, rfl, hs2, Blk.new _ _ _⟩ (fun _ h => by cases h)
  · intro i hi o ho a w2 hGw hSw hdep hfr
    simp only [List.mem_cons, List.not_mem_nil, or_false] at hi
    rcases hi with rfl | rfl | rfl
    · obtain rfl := Option.some.inj (show some _ = some _ from ho)
      have d3 : ∃ r, a.tmps.getD 32 undef = .tuple #[r, .bool (mulOk f g)] ∧ OM w2 (fun q => wz1.heap.size ≤ q) r (mulB f g) := hdep 4 (by decide) ⟨⟨4, .data⟩, by simp, rfl, rfl⟩ 32 rfl
      exact ⟨a.tmps.getD 32 undef, fun _ _ => rfl, d3⟩
    · obtain rfl := Option.some.inj (show some _ = some _ from ho)
      obtain ⟨r, e4, hO⟩ : ∃ r, a.tmps.getD 27 undef = .tuple #[r, .bool (mulOk f g)] ∧ OM w2 (fun q => wz1.heap.size ≤ q) r (mulB f g) := hdep 5 (by decide) ⟨⟨5, .data⟩, by simp, rfl, rfl⟩ 27 rfl
      exact ⟨r, fun w' _ => free_extract (x := .tmp 27) rfl e4 rfl w', hO⟩
    · obtain rfl := Option.some.inj (show some _ = some _ from ho)
      obtain ⟨r, e4, hO⟩ : ∃ r, a.tmps.getD 27 undef = .tuple #[r, .bool (mulOk f g)] ∧ OM w2 (fun q => wz1.heap.size ≤ q) r (mulB f g) := hdep 5 (by decide) ⟨⟨5, .data⟩, by simp, rfl, rfl⟩ 27 rfl
      exact ⟨.bool (mulOk f g), fun w' _ => free_extract (x := .tmp 27) rfl e4 rfl w', rfl⟩
  intro vs w2 hGw hSw hP _
  apply fill_to
  · show _ = ([some 29, some 31, some 32, some 6, some 27, some 33, some 34] : List (Option Tmp))
    kernel_rfl
  simp only [fillD, List.cons_append, List.nil_append, List.map_cons, List.map_nil, List.zip_cons_cons, List.zip_nil_right, Act.put, List.setIfInBounds_toArray, List.set_cons_succ, List.set_cons_zero]
  refine ⟨?_⟩
  have p6 : OM w2 (fun q => wz1.heap.size ≤ q) (vs 6) (mulB f g) := hP 6 (by decide)
  have p7 : vs 7 = .bool (mulOk f g) := hP 7 (by decide)
  obtain ⟨ga0, p8, hzg, hBg0⟩ : ∃ q, vs 8 = .pointer (some ⟨q, 0, none⟩) ∧ wz1.heap.size ≤ q ∧ Blk w2 q #[.int .i64 0, .int .i64 0, .slice none 0 0] 46 := hP 8 (by decide)
  obtain ⟨a0a, a0n, a0c, e6, op, xp, fp, ip, jp⟩ := p6
  have hne := op.ne_blk' hBg0 (by decide)
  rw [e6, p7, p8]
  show wpQuiet _ _ _ _ [] _
  apply wpQuiet_nil
  apply seg_go rfl
  intro K hK
  obtain ⟨⟨z0, z1, z2⟩, g0, g1, g2⟩ := hBg0.three
  go_wp2_with fail
  have hK3 : Keep (fun q => q ≠ ga0) w2 (((w2.setCell ⟨ga0, 0, none⟩ (.int .i64 (mulB f g).rows)).setCell ⟨ga0, 1, none⟩ (.int .i64 (mulB f g).cols)).setCell ⟨ga0, 2, none⟩ (.slice a0a a0n a0c)) :=
    (((Keep.refl _ w2).setCell (fun _ e => e rfl) _).setCell (fun _ e => e rfl) _).setCell (fun _ e => e rfl) _
  have hBka0 : Blk (((w2.setCell ⟨ga0, 0, none⟩ (.int .i64 (mulB f g).rows)).setCell ⟨ga0, 1, none⟩ (.int .i64 (mulB f g).cols)).setCell ⟨ga0, 2, none⟩ (.slice a0a a0n a0c)) ga0 #[.int .i64 (mulB f g).rows, .int .i64 (mulB f g).cols, .slice a0a a0n a0c] 46 := ((hBg0.set 0 _).set 1 _).set 2 _
  have hG3 := hSw.keep hK3 fun q hq => by omega
  have op3 := op.keep hK3 fun q hq _ e => hne (e ▸ hq)
  refine hK _ _ hG3 ?_
  clear hK K
  generalize hw3 : (((w2.setCell ⟨ga0, 0, none⟩ (.int .i64 (mulB f g).rows)).setCell ⟨ga0, 1, none⟩ (.int .i64 (mulB f g).cols)).setCell ⟨ga0, 2, none⟩ (.slice a0a a0n a0c)) = w3 at *
  clear hw3 hK3 z0 z1 z2 g0 g1 g2
  show wpQuiet _ _ _ _ [_] _
  try (conv => arg 6; simp only [Act.put, List.setIfInBounds_toArray, List.set_cons_succ, List.set_cons_zero])
  repeat (first | go_big_quiet_skip | (go_big_quiet_want; first | (apply quiet_load3 T_lmat; rfl; rfl; exact (fun w' hG => hBpf.grow hG); go_big_quiet_on; simp only [Act.put, List.setIfInBounds_toArray, List.set_cons_succ, List.set_cons_zero]) | (apply quiet_load3 T_lmat; rfl; rfl; exact (fun w' hG => hBpg.grow hG); go_big_quiet_on; simp only [Act.put, List.setIfInBounds_toArray, List.set_cons_succ, List.set_cons_zero]) | (go_big_quiet_op; first | go_big_quiet_on | (refine ⟨_, (fun _ _ => rfl), ?_⟩; go_big_quiet_on))))
  refine wpQuiet_nil ?_
  refine wpSegs_nil ?_
  have hs3 := hG3.size
  replace hAf := hAf.grow hG3
  replace hAg := hAg.grow hG3
  replace hBpf := hBpf.grow hG3
  replace hBpg := hBpg.grow hG3
  replace hT := hT.trans hG3
  have hW0 : VM w3 (fun b => b < w3.heap.size) (.agg #[.int .i64 (mulB f g).rows, .int .i64 (mulB f g).cols, .slice a0a a0n a0c]) (mulB f g) :=
    ⟨a0a, a0n, a0c, rfl, op3.rdI (fun q hq => op3.lt hq) xp, ip, jp⟩
  have hsb3 := hBka0.lt
  clear hG3 hGw hSw hP hBg0 op op3 hne e6 p7 p8 fp
  obtain ⟨⟨chBka00, chBka01, chBka02⟩, -⟩ := hBka0.three
  obtain ⟨⟨pchBpf0_15, pchBpf1_15, pchBpf2_15⟩, -⟩ := hBpf.three
  obtain ⟨⟨pchBpg0_16, pchBpg1_16, pchBpg2_16⟩, -⟩ := hBpg.three
  go_wp2_with fail
  clear chBka00
  clear chBka01
  clear chBka02
  clear pchBpf0_15 pchBpf1_15 pchBpf2_15
  clear pchBpg0_16 pchBpg1_16 pchBpg2_16
  refine (to_M hAf hBf).mono ?_
  rintro e w4 ⟨xf, rfl, hXf, hG4⟩
  have hs4 := hG4.size
  replace hAf := hAf.grow hG4
  replace hAg := hAg.grow hG4
  replace hW0 := hW0.grow hG4
  replace hBka0 := hBka0.grow hG4
  replace hBpf := hBpf.grow hG4
  replace hBpg := hBpg.grow hG4
  replace hT := hT.trans hG4
  clear hG4
  obtain ⟨xfa, xfn, xfc, rfl, hXfx⟩ := hXf
  replace hXf : OM w4 (New w3 w4) (.agg #[.int .i64 (f).rows, .int .i64 (f).cols, .slice xfa xfn xfc]) f := ⟨_, _, _, rfl, hXfx⟩
  clear hXfx
  have hGa := (Grow.refl w4).alloc #[.int .i64 (f).rows, .int .i64 (f).cols, .slice xfa xfn xfc] 46
  have hBkxf := Blk.newAt w4 #[.int .i64 (f).rows, .int .i64 (f).cols, .slice xfa xfn xfc] 46 rfl
  replace hAf := hAf.grow hGa
  replace hAg := hAg.grow hGa
  replace hW0 := hW0.grow hGa
  replace hXf := hXf.grow hGa
  replace hBka0 := hBka0.grow hGa
  replace hBpf := hBpf.grow hGa
  replace hBpg := hBpg.grow hGa
  replace hT := hT.trans hGa
  have hsa4 := hGa.size
  have hsb4 := hBkxf.lt
  clear hGa
  obtain ⟨⟨chBka00, chBka01, chBka02⟩, -⟩ := hBka0.three
  obtain ⟨⟨chBkxf0, chBkxf1, chBkxf2⟩, -⟩ := hBkxf.three
  obtain ⟨⟨pchBpf0_17, pchBpf1_17, pchBpf2_17⟩, -⟩ := hBpf.three
  obtain ⟨⟨pchBpg0_18, pchBpg1_18, pchBpg2_18⟩, -⟩ := hBpg.three
  go_wp2_with fail
  clear chBka00
  clear chBka01
  clear chBka02
  clear chBkxf0
  clear chBkxf1
  clear chBkxf2
  clear pchBpf0_17 pchBpf1_17 pchBpf2_17
  clear pchBpg0_18 pchBpg1_18 pchBpg2_18
  refine (to_M hAg hBg).mono ?_
  rintro e w5 ⟨xg, rfl, hXg, hG5⟩
  have hs5 := hG5.size
  replace hAf := hAf.grow hG5
  replace hAg := hAg.grow hG5
  replace hW0 := hW0.grow hG5
  replace hXf := hXf.grow hG5
  replace hBka0 := hBka0.grow hG5
  replace hBkxf := hBkxf.grow hG5
  replace hBpf := hBpf.grow hG5
  replace hBpg := hBpg.grow hG5
  replace hT := hT.trans hG5
  clear hG5
  obtain ⟨xga, xgn, xgc, rfl, hXgx⟩ := hXg
  replace hXg : OM w5 (New (w4.alloc (.cells #[.int .i64 (f).rows, .int .i64 (f).cols, .slice xfa xfn xfc] 46)) w5) (.agg #[.int .i64 (g).rows, .int .i64 (g).cols, .slice xga xgn xgc]) g := ⟨_, _, _, rfl, hXgx⟩
  clear hXgx
  have hGa := (Grow.refl w5).alloc #[.int .i64 (g).rows, .int .i64 (g).cols, .slice xga xgn xgc] 46
  have hBkxg := Blk.newAt w5 #[.int .i64 (g).rows, .int .i64 (g).cols, .slice xga xgn xgc] 46 rfl
  replace hAf := hAf.grow hGa
  replace hAg := hAg.grow hGa
  replace hW0 := hW0.grow hGa
  replace hXf := hXf.grow hGa
  replace hXg := hXg.grow hGa
  replace hBka0 := hBka0.grow hGa
  replace hBkxf := hBkxf.grow hGa
  replace hBpf := hBpf.grow hGa
  replace hBpg := hBpg.grow hGa
  replace hT := hT.trans hGa
  have hsa5 := hGa.size
  have hsb5 := hBkxg.lt
  clear hGa
  obtain ⟨⟨chBka00, chBka01, chBka02⟩, -⟩ := hBka0.three
  obtain ⟨⟨chBkxf0, chBkxf1, chBkxf2⟩, -⟩ := hBkxf.three
  obtain ⟨⟨chBkxg0, chBkxg1, chBkxg2⟩, -⟩ := hBkxg.three
  obtain ⟨⟨pchBpf0_19, pchBpf1_19, pchBpf2_19⟩, -⟩ := hBpf.three
  obtain ⟨⟨pchBpg0_20, pchBpg1_20, pchBpg2_20⟩, -⟩ := hBpg.three
  go_wp2_with fail
  clear chBka00
  clear chBka01
  clear chBka02
  clear chBkxf0
  clear chBkxf1
  clear chBkxf2
  clear chBkxg0
  clear chBkxg1
  clear chBkxg2
  clear pchBpf0_19 pchBpf1_19 pchBpf2_19
  clear pchBpg0_20 pchBpg1_20 pchBpg2_20
  refine (implCompose_v (hXf.rd (S := fun _ => True) fun _ _ => trivial) hBf (hXg.rd (S := fun _ => True) fun _ _ => trivial) hBg).mono ?_
  rintro e w6 ⟨g0, rfl, hVg0, hG6⟩
  have hs6 := hG6.size
  replace hAf := hAf.grow hG6
  replace hAg := hAg.grow hG6
  replace hW0 := hW0.grow hG6
  replace hXf := hXf.grow hG6
  replace hXg := hXg.grow hG6
  replace hBka0 := hBka0.grow hG6
  replace hBkxf := hBkxf.grow hG6
  replace hBkxg := hBkxg.grow hG6
  replace hBpf := hBpf.grow hG6
  replace hBpg := hBpg.grow hG6
  replace hT := hT.trans hG6
  clear hG6
  obtain ⟨g0a, g0n, g0c, rfl, hg0x⟩ := hVg0
  replace hVg0 : OM w6 (_) (.agg #[.int .i64 ((mulB f g)).rows, .int .i64 ((mulB f g)).cols, .slice g0a g0n g0c]) (mulB f g) := ⟨_, _, _, rfl, hg0x⟩
  clear hg0x
  have hGa := (Grow.refl w6).alloc #[.int .i64 ((mulB f g)).rows, .int .i64 ((mulB f g)).cols, .slice g0a g0n g0c] 46
  have hBkg0 := Blk.newAt w6 #[.int .i64 ((mulB f g)).rows, .int .i64 ((mulB f g)).cols, .slice g0a g0n g0c] 46 rfl
  replace hAf := hAf.grow hGa
  replace hAg := hAg.grow hGa
  replace hW0 := hW0.grow hGa
  replace hXf := hXf.grow hGa
  replace hXg := hXg.grow hGa
  replace hVg0 := hVg0.grow hGa
  replace hBka0 := hBka0.grow hGa
  replace hBkxf := hBkxf.grow hGa
  replace hBkxg := hBkxg.grow hGa
  replace hBpf := hBpf.grow hGa
  replace hBpg := hBpg.grow hGa
  replace hT := hT.trans hGa
  have hsa6 := hGa.size
  have hsb6 := hBkg0.lt
  clear hGa
  obtain ⟨⟨chBka00, chBka01, chBka02⟩, -⟩ := hBka0.three
  obtain ⟨⟨chBkxf0, chBkxf1, chBkxf2⟩, -⟩ := hBkxf.three
  obtain ⟨⟨chBkxg0, chBkxg1, chBkxg2⟩, -⟩ := hBkxg.three
  obtain ⟨⟨chBkg00, chBkg01, chBkg02⟩, -⟩ := hBkg0.three
  obtain ⟨⟨pchBpf0_21, pchBpf1_21, pchBpf2_21⟩, -⟩ := hBpf.three
  obtain ⟨⟨pchBpg0_22, pchBpg1_22, pchBpg2_22⟩, -⟩ := hBpg.three
  go_wp2_with fail
  clear chBka00
  clear chBka01
  clear chBka02
  clear chBkxf0
  clear chBkxf1
  clear chBkxf2
  clear chBkxg0
  clear chBkxg1
  clear chBkxg2
  clear chBkg00
  clear chBkg01
  clear chBkg02
  clear pchBpf0_21 pchBpf1_21 pchBpf2_21
  clear pchBpg0_22 pchBpg1_22 pchBpg2_22
  refine (eq_M (hVg0.rd (S := fun _ => True) fun _ _ => trivial) hW0 hB_0).mono ?_
  rintro e w7 ⟨rfl, hG7⟩
  have hs7 := hG7.size
  replace hAf := hAf.grow hG7
  replace hAg := hAg.grow hG7
  replace hW0 := hW0.grow hG7
  replace hXf := hXf.grow hG7
  replace hXg := hXg.grow hG7
  replace hVg0 := hVg0.grow hG7
  replace hBka0 := hBka0.grow hG7
  replace hBkxf := hBkxf.grow hG7
  replace hBkxg := hBkxg.grow hG7
  replace hBkg0 := hBkg0.grow hG7
  replace hBpf := hBpf.grow hG7
  replace hBpg := hBpg.grow hG7
  replace hT := hT.trans hG7
  clear hG7
  obtain ⟨⟨chBka00, chBka01, chBka02⟩, -⟩ := hBka0.three
  obtain ⟨⟨chBkxf0, chBkxf1, chBkxf2⟩, -⟩ := hBkxf.three
  obtain ⟨⟨chBkxg0, chBkxg1, chBkxg2⟩, -⟩ := hBkxg.three
  obtain ⟨⟨chBkg00, chBkg01, chBkg02⟩, -⟩ := hBkg0.three
  obtain ⟨⟨pchBpf0_23, pchBpf1_23, pchBpf2_23⟩, -⟩ := hBpf.three
  obtain ⟨⟨pchBpg0_24, pchBpg1_24, pchBpg2_24⟩, -⟩ := hBpg.three
  go_wp2_with fail
  clear chBka00
  clear chBka01
  clear chBka02
  clear chBkxf0
  clear chBkxf1
  clear chBkxf2
  clear chBkxg0
  clear chBkxg1
  clear chBkxg2
  clear chBkg00
  clear chBkg01
  clear chBkg02
  clear pchBpf0_23 pchBpf1_23 pchBpf2_23
  clear pchBpg0_24 pchBpg1_24 pchBpg2_24
  refine wp_region_segs (S := Grow w7) [([0, 1], some 2), ([], some 3), ([4], none)] P_mixed (by kernel_rfl) (fun _ _ _ _ _ h => h) (Grow.refl _).drew ?_
  show wpQuiet _ _ _ _ [_, _] _
  repeat (first | go_big_quiet_skip | (go_big_quiet_want; first | (apply quiet_load3 T_mat; rfl; rfl; exact (fun w' hG => hBkxf.grow hG); go_big_quiet_on; simp only [Act.put, List.setIfInBounds_toArray, List.set_cons_succ, List.set_cons_zero]) | (apply quiet_load3 T_lmat; rfl; rfl; exact (fun w' hG => hBpf.grow hG); go_big_quiet_on; simp only [Act.put, List.setIfInBounds_toArray, List.set_cons_succ, List.set_cons_zero]) | (go_big_quiet_op; first | go_big_quiet_on | (refine ⟨_, (fun _ _ => rfl), ?_⟩; go_big_quiet_on))))
  refine wpQuiet_nil ?_
  generalize hwd : w7.drew = w8
  have hQ : Grow w7 w8 := by rw [← hwd]; exact (Grow.refl _).drew
  clear hwd
  have hs8 := hQ.size
  replace hAf := hAf.grow hQ
  replace hAg := hAg.grow hQ
  replace hW0 := hW0.grow hQ
  replace hXf := hXf.grow hQ
  replace hXg := hXg.grow hQ
  replace hVg0 := hVg0.grow hQ
  replace hBka0 := hBka0.grow hQ
  replace hBkxf := hBkxf.grow hQ
  replace hBkxg := hBkxg.grow hQ
  replace hBkg0 := hBkg0.grow hQ
  replace hBpf := hBpf.grow hQ
  replace hBpg := hBpg.grow hQ
  replace hT := hT.trans hQ
  refine seg_go rfl (fun K hK => ?_)
  go_wp2_with fail
  refine (to_M hAf hBf).mono ?_
  rintro e w9 ⟨tf, rfl, hCf, hG9⟩
  have hs9 := hG9.size
  replace hAf := hAf.grow hG9
  replace hAg := hAg.grow hG9
  replace hW0 := hW0.grow hG9
  replace hXf := hXf.grow hG9
  replace hXg := hXg.grow hG9
  replace hVg0 := hVg0.grow hG9
  replace hBka0 := hBka0.grow hG9
  replace hBkxf := hBkxf.grow hG9
  replace hBkxg := hBkxg.grow hG9
  replace hBkg0 := hBkg0.grow hG9
  replace hBpf := hBpf.grow hG9
  replace hBpg := hBpg.grow hG9
  replace hT := hT.trans hG9
  replace hQ := hQ.trans hG9
  clear hG9
  obtain ⟨tfa, tfn, tfc, rfl, hCfx⟩ := hCf
  replace hCf : OM w9 (New w8 w9) (.agg #[.int .i64 (f).rows, .int .i64 (f).cols, .slice tfa tfn tfc]) f := ⟨_, _, _, rfl, hCfx⟩
  clear hCfx
  go_wp2_with fail
  refine hK _ _ (hQ) ?_
  clear hK K
  show wpQuiet _ _ _ _ [] _
  try (conv => arg 6; simp only [Act.put, List.setIfInBounds_toArray, List.set_cons_succ, List.set_cons_zero])
  refine wpQuiet_nil ?_
  refine seg_go rfl (fun K hK => ?_)
  go_wp2_with fail
  refine (eq_M (hXf.rd (S := fun _ => True) fun _ _ => trivial) (hCf.rd (S := fun _ => True) fun _ _ => trivial) (by omega)).mono ?_
  rintro e w10 ⟨rfl, hG10⟩
  have hs10 := hG10.size
  replace hAf := hAf.grow hG10
  replace hAg := hAg.grow hG10
  replace hW0 := hW0.grow hG10
  replace hXf := hXf.grow hG10
  replace hXg := hXg.grow hG10
  replace hVg0 := hVg0.grow hG10
  replace hBka0 := hBka0.grow hG10
  replace hBkxf := hBkxf.grow hG10
  replace hBkxg := hBkxg.grow hG10
  replace hBkg0 := hBkg0.grow hG10
  replace hBpf := hBpf.grow hG10
  replace hBpg := hBpg.grow hG10
  replace hT := hT.trans hG10
  replace hQ := hQ.trans hG10
  clear hG10 hCf
  go_wp2_with fail
  refine hK _ _ (hQ) ?_
  clear hK K
  show wpQuiet _ _ _ _ [_] _
  try (conv => arg 6; simp only [Act.put, List.setIfInBounds_toArray, List.set_cons_succ, List.set_cons_zero])
  repeat (first | go_big_quiet_skip | (go_big_quiet_want; first | (apply quiet_load3 T_mat; rfl; rfl; exact (fun w' hG => hBkxf.grow hG); go_big_quiet_on; simp only [Act.put, List.setIfInBounds_toArray, List.set_cons_succ, List.set_cons_zero]) | (apply quiet_load3 T_lmat; rfl; rfl; exact (fun w' hG => hBpf.grow hG); go_big_quiet_on; simp only [Act.put, List.setIfInBounds_toArray, List.set_cons_succ, List.set_cons_zero]) | (go_big_quiet_op; first | go_big_quiet_on | (refine ⟨_, (fun _ _ => rfl), ?_⟩; go_big_quiet_on))))
  refine wpQuiet_nil ?_
  clear hQ
  refine wpSegs_nil ?_
  obtain ⟨⟨chBka00, chBka01, chBka02⟩, -⟩ := hBka0.three
  obtain ⟨⟨chBkxf0, chBkxf1, chBkxf2⟩, -⟩ := hBkxf.three
  obtain ⟨⟨chBkxg0, chBkxg1, chBkxg2⟩, -⟩ := hBkxg.three
  obtain ⟨⟨chBkg00, chBkg01, chBkg02⟩, -⟩ := hBkg0.three
  obtain ⟨⟨pchBpf0_25, pchBpf1_25, pchBpf2_25⟩, -⟩ := hBpf.three
  obtain ⟨⟨pchBpg0_26, pchBpg1_26, pchBpg2_26⟩, -⟩ := hBpg.three
  go_wp2_with fail
  clear chBka00
  clear chBka01
  clear chBka02
  clear chBkxf0
  clear chBkxf1
  clear chBkxf2
  clear chBkxg0
  clear chBkxg1
  clear chBkxg2
  clear chBkg00
  clear chBkg01
  clear chBkg02
  clear pchBpf0_25 pchBpf1_25 pchBpf2_25
  clear pchBpg0_26 pchBpg1_26 pchBpg2_26
  refine wp_region_segs (S := Grow w10) [([0, 1], some 2), ([], some 3), ([4], none)] P_mixed (by kernel_rfl) (fun _ _ _ _ _ h => h) (Grow.refl _).drew ?_
  show wpQuiet _ _ _ _ [_, _] _
  repeat (first | go_big_quiet_skip | (go_big_quiet_want; first | (apply quiet_load3 T_mat; rfl; rfl; exact (fun w' hG => hBkxg.grow hG); go_big_quiet_on; simp only [Act.put, List.setIfInBounds_toArray, List.set_cons_succ, List.set_cons_zero]) | (apply quiet_load3 T_lmat; rfl; rfl; exact (fun w' hG => hBpg.grow hG); go_big_quiet_on; simp only [Act.put, List.setIfInBounds_toArray, List.set_cons_succ, List.set_cons_zero]) | (go_big_quiet_op; first | go_big_quiet_on | (refine ⟨_, (fun _ _ => rfl), ?_⟩; go_big_quiet_on))))
  refine wpQuiet_nil ?_
  generalize hwd : w10.drew = w11
  have hQ : Grow w10 w11 := by rw [← hwd]; exact (Grow.refl _).drew
  clear hwd
  have hs11 := hQ.size
  replace hAf := hAf.grow hQ
  replace hAg := hAg.grow hQ
  replace hW0 := hW0.grow hQ
  replace hXf := hXf.grow hQ
  replace hXg := hXg.grow hQ
  replace hVg0 := hVg0.grow hQ
  replace hBka0 := hBka0.grow hQ
  replace hBkxf := hBkxf.grow hQ
  replace hBkxg := hBkxg.grow hQ
  replace hBkg0 := hBkg0.grow hQ
  replace hBpf := hBpf.grow hQ
  replace hBpg := hBpg.grow hQ
  replace hT := hT.trans hQ
  refine seg_go rfl (fun K hK => ?_)
  go_wp2_with fail
  refine (to_M hAg hBg).mono ?_
  rintro e w12 ⟨tg, rfl, hCg, hG12⟩
  have hs12 := hG12.size
  replace hAf := hAf.grow hG12
  replace hAg := hAg.grow hG12
  replace hW0 := hW0.grow hG12
  replace hXf := hXf.grow hG12
  replace hXg := hXg.grow hG12
  replace hVg0 := hVg0.grow hG12
  replace hBka0 := hBka0.grow hG12
  replace hBkxf := hBkxf.grow hG12
  replace hBkxg := hBkxg.grow hG12
  replace hBkg0 := hBkg0.grow hG12
  replace hBpf := hBpf.grow hG12
  replace hBpg := hBpg.grow hG12
  replace hT := hT.trans hG12
  replace hQ := hQ.trans hG12
  clear hG12
  obtain ⟨tga, tgn, tgc, rfl, hCgx⟩ := hCg
  replace hCg : OM w12 (New w11 w12) (.agg #[.int .i64 (g).rows, .int .i64 (g).cols, .slice tga tgn tgc]) g := ⟨_, _, _, rfl, hCgx⟩
  clear hCgx
  go_wp2_with fail
  refine hK _ _ (hQ) ?_
  clear hK K
  show wpQuiet _ _ _ _ [] _
  try (conv => arg 6; simp only [Act.put, List.setIfInBounds_toArray, List.set_cons_succ, List.set_cons_zero])
  refine wpQuiet_nil ?_
  refine seg_go rfl (fun K hK => ?_)
  go_wp2_with fail
  refine (eq_M (hXg.rd (S := fun _ => True) fun _ _ => trivial) (hCg.rd (S := fun _ => True) fun _ _ => trivial) (by omega)).mono ?_
  rintro e w13 ⟨rfl, hG13⟩
  have hs13 := hG13.size
  replace hAf := hAf.grow hG13
  replace hAg := hAg.grow hG13
  replace hW0 := hW0.grow hG13
  replace hXf := hXf.grow hG13
  replace hXg := hXg.grow hG13
  replace hVg0 := hVg0.grow hG13
  replace hBka0 := hBka0.grow hG13
  replace hBkxf := hBkxf.grow hG13
  replace hBkxg := hBkxg.grow hG13
  replace hBkg0 := hBkg0.grow hG13
  replace hBpf := hBpf.grow hG13
  replace hBpg := hBpg.grow hG13
  replace hT := hT.trans hG13
  replace hQ := hQ.trans hG13
  clear hG13 hCg
  go_wp2_with fail
  refine hK _ _ (hQ) ?_
  clear hK K
  show wpQuiet _ _ _ _ [_] _
  try (conv => arg 6; simp only [Act.put, List.setIfInBounds_toArray, List.set_cons_succ, List.set_cons_zero])
  repeat (first | go_big_quiet_skip | (go_big_quiet_want; first | (apply quiet_load3 T_mat; rfl; rfl; exact (fun w' hG => hBkxg.grow hG); go_big_quiet_on; simp only [Act.put, List.setIfInBounds_toArray, List.set_cons_succ, List.set_cons_zero]) | (apply quiet_load3 T_lmat; rfl; rfl; exact (fun w' hG => hBpg.grow hG); go_big_quiet_on; simp only [Act.put, List.setIfInBounds_toArray, List.set_cons_succ, List.set_cons_zero]) | (go_big_quiet_op; first | go_big_quiet_on | (refine ⟨_, (fun _ _ => rfl), ?_⟩; go_big_quiet_on))))
  refine wpQuiet_nil ?_
  clear hQ
  refine wpSegs_nil ?_
  obtain ⟨⟨chBka00, chBka01, chBka02⟩, -⟩ := hBka0.three
  obtain ⟨⟨chBkxf0, chBkxf1, chBkxf2⟩, -⟩ := hBkxf.three
  obtain ⟨⟨chBkxg0, chBkxg1, chBkxg2⟩, -⟩ := hBkxg.three
  obtain ⟨⟨chBkg00, chBkg01, chBkg02⟩, -⟩ := hBkg0.three
  obtain ⟨⟨pchBpf0_27, pchBpf1_27, pchBpf2_27⟩, -⟩ := hBpf.three
  obtain ⟨⟨pchBpg0_28, pchBpg1_28, pchBpg2_28⟩, -⟩ := hBpg.three
  go_wp2_with fail
  clear chBka00
  clear chBka01
  clear chBka02
  clear chBkxf0
  clear chBkxf1
  clear chBkxf2
  clear chBkxg0
  clear chBkxg1
  clear chBkxg2
  clear chBkg00
  clear chBkg01
  clear chBkg02
  clear pchBpf0_27 pchBpf1_27 pchBpf2_27
  clear pchBpg0_28 pchBpg1_28 pchBpg2_28
  have hq_f : cntM f ≤ bdM f := by unfold cntM bdM; omega
  have hq_g : cntM g ≤ bdM g := by unfold cntM bdM; omega
  refine (mark_M (1) hXf (by omega)).mono ?_
  rintro e w14 ⟨rfl, hXfm, hK14⟩
  have hs14 := hK14.size
  replace hAf := hAf.keep hK14 (fun b _ hb => by simp only [New] at hb ⊢; omega)
  replace hAg := hAg.keep hK14 (fun b _ hb => by simp only [New] at hb ⊢; omega)
  replace hW0 := hW0.keep hK14 (fun b _ hb => by simp only [New] at hb ⊢; omega)
  replace hXg := hXg.keep hK14 (fun b _ hb => by simp only [New] at hb ⊢; omega)
  replace hVg0 := hVg0.keep hK14 (fun b _ hb => by simp only [New] at hb ⊢; omega)
  replace hBka0 := hBka0.keep hK14 (by simp only [New]; omega)
  replace hBkxf := hBkxf.keep hK14 (by simp only [New]; omega)
  replace hBkxg := hBkxg.keep hK14 (by simp only [New]; omega)
  replace hBkg0 := hBkg0.keep hK14 (by simp only [New]; omega)
  replace hBpf := hBpf.keep hK14 (by simp only [New]; omega)
  replace hBpg := hBpg.keep hK14 (by simp only [New]; omega)
  replace hT : Grow w w14 := hT.keep hK14 (fun b hb => by simp only [New]; omega)
  clear hK14
  obtain ⟨⟨chBka00, chBka01, chBka02⟩, -⟩ := hBka0.three
  obtain ⟨⟨chBkxf0, chBkxf1, chBkxf2⟩, -⟩ := hBkxf.three
  obtain ⟨⟨chBkxg0, chBkxg1, chBkxg2⟩, -⟩ := hBkxg.three
  obtain ⟨⟨chBkg00, chBkg01, chBkg02⟩, -⟩ := hBkg0.three
  obtain ⟨⟨pchBpf0_29, pchBpf1_29, pchBpf2_29⟩, -⟩ := hBpf.three
  obtain ⟨⟨pchBpg0_30, pchBpg1_30, pchBpg2_30⟩, -⟩ := hBpg.three
  go_wp2_with fail
  clear chBka00
  clear chBka01
  clear chBka02
  clear chBkxf0
  clear chBkxf1
  clear chBkxf2
  clear chBkxg0
  clear chBkxg1
  clear chBkxg2
  clear chBkg00
  clear chBkg01
  clear chBkg02
  clear pchBpf0_29 pchBpf1_29 pchBpf2_29
  clear pchBpg0_30 pchBpg1_30 pchBpg2_30
  refine (mark_M (1 + cntM f) hXg (by omega)).mono ?_
  rintro e w15 ⟨rfl, hXgm, hK15⟩
  have hs15 := hK15.size
  replace hAf := hAf.keep hK15 (fun b _ hb => by simp only [New] at hb ⊢; omega)
  replace hAg := hAg.keep hK15 (fun b _ hb => by simp only [New] at hb ⊢; omega)
  replace hW0 := hW0.keep hK15 (fun b _ hb => by simp only [New] at hb ⊢; omega)
  replace hVg0 := hVg0.keep hK15 (fun b _ hb => by simp only [New] at hb ⊢; omega)
  replace hXfm := hXfm.keep hK15 (fun b _ hb => by simp only [New] at hb ⊢; omega)
  replace hBka0 := hBka0.keep hK15 (by simp only [New]; omega)
  replace hBkxf := hBkxf.keep hK15 (by simp only [New]; omega)
  replace hBkxg := hBkxg.keep hK15 (by simp only [New]; omega)
  replace hBkg0 := hBkg0.keep hK15 (by simp only [New]; omega)
  replace hBpf := hBpf.keep hK15 (by simp only [New]; omega)
  replace hBpg := hBpg.keep hK15 (by simp only [New]; omega)
  replace hT : Grow w w15 := hT.keep hK15 (fun b hb => by simp only [New]; omega)
  clear hK15
  obtain ⟨⟨chBka00, chBka01, chBka02⟩, -⟩ := hBka0.three
  obtain ⟨⟨chBkxf0, chBkxf1, chBkxf2⟩, -⟩ := hBkxf.three
  obtain ⟨⟨chBkxg0, chBkxg1, chBkxg2⟩, -⟩ := hBkxg.three
  obtain ⟨⟨chBkg00, chBkg01, chBkg02⟩, -⟩ := hBkg0.three
  obtain ⟨⟨pchBpf0_31, pchBpf1_31, pchBpf2_31⟩, -⟩ := hBpf.three
  obtain ⟨⟨pchBpg0_32, pchBpg1_32, pchBpg2_32⟩, -⟩ := hBpg.three
  go_wp2_with fail
  clear chBka00
  clear chBka01
  clear chBka02
  clear chBkxf0
  clear chBkxf1
  clear chBkxf2
  clear chBkxg0
  clear chBkxg1
  clear chBkxg2
  clear chBkg00
  clear chBkg01
  clear chBkg02
  clear pchBpf0_31 pchBpf1_31 pchBpf2_31
  clear pchBpg0_32 pchBpg1_32 pchBpg2_32
  refine (eq_M (hVg0.rd (S := fun _ => True) fun _ _ => trivial) hW0 hB_0).mono ?_
  rintro e w16 ⟨rfl, hG16⟩
  have hs16 := hG16.size
  replace hAf := hAf.grow hG16
  replace hAg := hAg.grow hG16
  replace hW0 := hW0.grow hG16
  replace hVg0 := hVg0.grow hG16
  replace hXfm := hXfm.grow hG16
  replace hXgm := hXgm.grow hG16
  replace hBka0 := hBka0.grow hG16
  replace hBkxf := hBkxf.grow hG16
  replace hBkxg := hBkxg.grow hG16
  replace hBkg0 := hBkg0.grow hG16
  replace hBpf := hBpf.grow hG16
  replace hBpg := hBpg.grow hG16
  replace hT := hT.trans hG16
  clear hG16
  obtain ⟨⟨chBka00, chBka01, chBka02⟩, -⟩ := hBka0.three
  obtain ⟨⟨chBkxf0, chBkxf1, chBkxf2⟩, -⟩ := hBkxf.three
  obtain ⟨⟨chBkxg0, chBkxg1, chBkxg2⟩, -⟩ := hBkxg.three
  obtain ⟨⟨chBkg00, chBkg01, chBkg02⟩, -⟩ := hBkg0.three
  obtain ⟨⟨pchBpf0_33, pchBpf1_33, pchBpf2_33⟩, -⟩ := hBpf.three
  obtain ⟨⟨pchBpg0_34, pchBpg1_34, pchBpg2_34⟩, -⟩ := hBpg.three
  go_wp2_with fail
  clear chBka00
  clear chBka01
  clear chBka02
  clear chBkxf0
  clear chBkxf1
  clear chBkxf2
  clear chBkxg0
  clear chBkxg1
  clear chBkxg2
  clear chBkg00
  clear chBkg01
  clear chBkg02
  clear pchBpf0_33 pchBpf1_33 pchBpf2_33
  clear pchBpg0_34 pchBpg1_34 pchBpg2_34
  refine (mark_M (1) hVg0 (by omega)).mono ?_
  rintro e w17 ⟨rfl, hVg0m, hK17⟩
  have hs17 := hK17.size
  replace hAf := hAf.keep hK17 (fun b _ hb => by simp only [New] at hb ⊢; omega)
  replace hAg := hAg.keep hK17 (fun b _ hb => by simp only [New] at hb ⊢; omega)
  replace hW0 := hW0.keep hK17 (fun b _ hb => by simp only [New] at hb ⊢; omega)
  replace hXfm := hXfm.keep hK17 (fun b _ hb => by simp only [New] at hb ⊢; omega)
  replace hXgm := hXgm.keep hK17 (fun b _ hb => by simp only [New] at hb ⊢; omega)
  replace hBka0 := hBka0.keep hK17 (by simp only [New]; omega)
  replace hBkxf := hBkxf.keep hK17 (by simp only [New]; omega)
  replace hBkxg := hBkxg.keep hK17 (by simp only [New]; omega)
  replace hBkg0 := hBkg0.keep hK17 (by simp only [New]; omega)
  replace hBpf := hBpf.keep hK17 (by simp only [New]; omega)
  replace hBpg := hBpg.keep hK17 (by simp only [New]; omega)
  replace hT : Grow w w17 := hT.keep hK17 (fun b hb => by simp only [New]; omega)
  clear hK17
  obtain ⟨⟨chBka00, chBka01, chBka02⟩, -⟩ := hBka0.three
  obtain ⟨⟨chBkxf0, chBkxf1, chBkxf2⟩, -⟩ := hBkxf.three
  obtain ⟨⟨chBkxg0, chBkxg1, chBkxg2⟩, -⟩ := hBkxg.three
  obtain ⟨⟨chBkg00, chBkg01, chBkg02⟩, -⟩ := hBkg0.three
  obtain ⟨⟨pchBpf0_35, pchBpf1_35, pchBpf2_35⟩, -⟩ := hBpf.three
  obtain ⟨⟨pchBpg0_36, pchBpg1_36, pchBpg2_36⟩, -⟩ := hBpg.three
  go_wp2_with fail
  clear chBka00
  clear chBka01
  clear chBka02
  clear chBkxf0
  clear chBkxf1
  clear chBkxf2
  clear chBkxg0
  clear chBkxg1
  clear chBkxg2
  clear chBkg00
  clear chBkg01
  clear chBkg02
  clear pchBpf0_35 pchBpf1_35 pchBpf2_35
  clear pchBpg0_36 pchBpg1_36 pchBpg2_36
  refine (held_M (1) (hVg0m.rd (S := fun _ => True) fun _ _ => trivial) (by omega)).mono ?_
  rintro e w18 ⟨rfl, hG18⟩
  have hs18 := hG18.size
  replace hAf := hAf.grow hG18
  replace hAg := hAg.grow hG18
  replace hW0 := hW0.grow hG18
  replace hXfm := hXfm.grow hG18
  replace hXgm := hXgm.grow hG18
  replace hVg0m := hVg0m.grow hG18
  replace hBka0 := hBka0.grow hG18
  replace hBkxf := hBkxf.grow hG18
  replace hBkxg := hBkxg.grow hG18
  replace hBkg0 := hBkg0.grow hG18
  replace hBpf := hBpf.grow hG18
  replace hBpg := hBpg.grow hG18
  replace hT := hT.trans hG18
  clear hG18
  obtain ⟨⟨chBka00, chBka01, chBka02⟩, -⟩ := hBka0.three
  obtain ⟨⟨chBkxf0, chBkxf1, chBkxf2⟩, -⟩ := hBkxf.three
  obtain ⟨⟨chBkxg0, chBkxg1, chBkxg2⟩, -⟩ := hBkxg.three
  obtain ⟨⟨chBkg00, chBkg01, chBkg02⟩, -⟩ := hBkg0.three
  obtain ⟨⟨pchBpf0_37, pchBpf1_37, pchBpf2_37⟩, -⟩ := hBpf.three
  obtain ⟨⟨pchBpg0_38, pchBpg1_38, pchBpg2_38⟩, -⟩ := hBpg.three
  go_wp2_with fail
  clear chBka00
  clear chBka01
  clear chBka02
  clear chBkxf0
  clear chBkxf1
  clear chBkxf2
  clear chBkxg0
  clear chBkxg1
  clear chBkxg2
  clear chBkg00
  clear chBkg01
  clear chBkg02
  clear pchBpf0_37 pchBpf1_37 pchBpf2_37
  clear pchBpg0_38 pchBpg1_38 pchBpg2_38
  refine wp_region_par (S := Grow w18) [0, 2] [1, 3, 4, 8] [5, 6, 7] [([], some 9), ([10], none)] P_mixed (by kernel_rfl) (fun _ _ _ _ _ h => h) (Grow.refl _).drew ?_
  show wpQuiet _ _ _ _ [_, _] _
  repeat (first | go_big_quiet_skip | (go_big_quiet_want; first | (apply quiet_load3 T_lmat; rfl; rfl; exact (fun w' hG => hBpf.grow hG); go_big_quiet_on; simp only [Act.put, List.setIfInBounds_toArray, List.set_cons_succ, List.set_cons_zero]) | (apply quiet_load3 T_lmat; rfl; rfl; exact (fun w' hG => hBpg.grow hG); go_big_quiet_on; simp only [Act.put, List.setIfInBounds_toArray, List.set_cons_succ, List.set_cons_zero]) | (go_big_quiet_op; first | go_big_quiet_on | (refine ⟨_, (fun _ _ => rfl), ?_⟩; go_big_quiet_on))))
  refine wpQuiet_nil ?_
  refine ⟨by kernel_rfl, CompPost w18.heap.size f g, fun _ _ => none, CompPost.stays, (fun _ _ _ _ _ h => by cases h), (fun _ _ _ => rfl), ?_, ?_, ?_⟩
  · intro i hi o ho a w20 hGw hSw hdep hfr K hK
    have hs2 := hSw.size
    simp only [List.mem_cons, List.not_mem_nil, or_false] at hi
    rcases hi with rfl | rfl | rfl | rfl
    · obtain rfl := Option.some.inj (show some _ = some _ from ho)
      refine par_call1 (x := .tmp 95) rfl Try.func34 rfl rfl (hfr 95 (by decide)) ?_
      refine (to_M (hAf.grow hSw) hBf).mono ?_
      rintro e w21 ⟨r, rfl, hO, hG3⟩
      exact ⟨r, rfl, hK r w21 hG3 (hSw.trans hG3) (hO.weak fun b _ hb => Nat.le_trans hs2 hb.1) (fun _ h => by cases h)⟩
    · obtain rfl := Option.some.inj (show some _ = some _ from ho)
      refine par_call1 (x := .tmp 97) rfl Try.func34 rfl rfl (hfr 97 (by decide)) ?_
      refine (to_M (hAg.grow hSw) hBg).mono ?_
      rintro e w21 ⟨r, rfl, hO, hG3⟩
      exact ⟨r, rfl, hK r w21 hG3 (hSw.trans hG3) (hO.weak fun b _ hb => Nat.le_trans hs2 hb.1) (fun _ h => by cases h)⟩
    · obtain rfl := Option.some.inj (show some _ = some _ from ho)
      have d1 : OM w20 (fun q => w18.heap.size ≤ q) (a.tmps.getD 96 undef) f := hdep 1 (by decide) ⟨⟨1, .data⟩, by simp, rfl, rfl⟩ 96 rfl
      have d3 : OM w20 (fun q => w18.heap.size ≤ q) (a.tmps.getD 98 undef) g := hdep 3 (by decide) ⟨⟨3, .data⟩, by simp, rfl, rfl⟩ 98 rfl
      refine par_call2 (x := .tmp 96) (y := .tmp 98) rfl Try.func35 rfl rfl rfl rfl ?_
      refine (implCompose_v (d1.rd (S := fun _ => True) fun _ _ => trivial) hBf (d3.rd (S := fun _ => True) fun _ _ => trivial) hBg).mono ?_
      rintro e w21 ⟨r, rfl, hO, hG3⟩
      exact ⟨_, rfl, hK _ w21 hG3 (hSw.trans hG3) ⟨r, rfl, hO.weak fun b _ hb => Nat.le_trans hs2 hb.1⟩ (fun _ h => by cases h)⟩
    · obtain rfl := Option.some.inj (show some _ = some _ from ho)
      refine par_alloc (z := .agg #[.int .i64 0, .int .i64 0, .slice none 0 0]) rfl (by rfl) ?_
      exact hK _ _ ((Grow.refl _).alloc _ _) (hSw.alloc _ _) ⟨w20.heap.size, rfl, hs2, Blk.new _ _ _⟩ (fun _ h => by cases h)
  · intro i hi o ho a w20 hGw hSw hdep hfr
    simp only [List.mem_cons, List.not_mem_nil, or_false] at hi
    rcases hi with rfl | rfl | rfl
    · obtain rfl := Option.some.inj (show some _ = some _ from ho)
      have d3 : ∃ r, a.tmps.getD 99 undef = .tuple #[r, .bool (mulOk f g)] ∧ OM w20 (fun q => w18.heap.size ≤ q) r (mulB f g) := hdep 4 (by decide) ⟨⟨4, .data⟩, by simp, rfl, rfl⟩ 99 rfl
      exact ⟨a.tmps.getD 99 undef, fun _ _ => rfl, d3⟩
    · obtain rfl := Option.some.inj (show some _ = some _ from ho)
      obtain ⟨r, e4, hO⟩ : ∃ r, a.tmps.getD 94 undef = .tuple #[r, .bool (mulOk f g)] ∧ OM w20 (fun q => w18.heap.size ≤ q) r (mulB f g) := hdep 5 (by decide) ⟨⟨5, .data⟩, by simp, rfl, rfl⟩ 94 rfl
      exact ⟨r, fun w' _ => free_extract (x := .tmp 94) rfl e4 rfl w', hO⟩
    · obtain rfl := Option.some.inj (show some _ = some _ from ho)
      obtain ⟨r, e4, hO⟩ : ∃ r, a.tmps.getD 94 undef = .tuple #[r, .bool (mulOk f g)] ∧ OM w20 (fun q => w18.heap.size ≤ q) r (mulB f g) := hdep 5 (by decide) ⟨⟨5, .data⟩, by simp, rfl, rfl⟩ 94 rfl
      exact ⟨.bool (mulOk f g), fun w' _ => free_extract (x := .tmp 94) rfl e4 rfl w', rfl⟩
  intro vs w20 hGw hSw hP _
  apply fill_to
  · show _ = ([some 96, some 98, some 99, some 15, some 94, some 100, some 101] : List (Option Tmp))
    kernel_rfl
  simp only [fillD, List.cons_append, List.nil_append, List.map_cons, List.map_nil, List.zip_cons_cons, List.zip_nil_right, Act.put, List.setIfInBounds_toArray, List.set_cons_succ, List.set_cons_zero]
  refine ⟨?_⟩
  have p6 : OM w20 (fun q => w18.heap.size ≤ q) (vs 6) (mulB f g) := hP 6 (by decide)
  have p7 : vs 7 = .bool (mulOk f g) := hP 7 (by decide)
  obtain ⟨gh0, p8, hzg, hBg0⟩ : ∃ q, vs 8 = .pointer (some ⟨q, 0, none⟩) ∧ w18.heap.size ≤ q ∧ Blk w20 q #[.int .i64 0, .int .i64 0, .slice none 0 0] 46 := hP 8 (by decide)
  obtain ⟨h0a, h0n, h0c, e6, op, xp, fp, ip, jp⟩ := p6
  have hne := op.ne_blk' hBg0 (by decide)
  rw [e6, p7, p8]
  show wpQuiet _ _ _ _ [] _
  apply wpQuiet_nil
  apply seg_go rfl
  intro K hK
  obtain ⟨⟨z0, z1, z2⟩, g0, g1, g2⟩ := hBg0.three
  go_wp2_with fail
  have hK3 : Keep (fun q => q ≠ gh0) w20 (((w20.setCell ⟨gh0, 0, none⟩ (.int .i64 (mulB f g).rows)).setCell ⟨gh0, 1, none⟩ (.int .i64 (mulB f g).cols)).setCell ⟨gh0, 2, none⟩ (.slice h0a h0n h0c)) :=
    (((Keep.refl _ w20).setCell (fun _ e => e rfl) _).setCell (fun _ e => e rfl) _).setCell (fun _ e => e rfl) _
  have hBkh0 : Blk (((w20.setCell ⟨gh0, 0, none⟩ (.int .i64 (mulB f g).rows)).setCell ⟨gh0, 1, none⟩ (.int .i64 (mulB f g).cols)).setCell ⟨gh0, 2, none⟩ (.slice h0a h0n h0c)) gh0 #[.int .i64 (mulB f g).rows, .int .i64 (mulB f g).cols, .slice h0a h0n h0c] 46 := ((hBg0.set 0 _).set 1 _).set 2 _
  have hG3 := hSw.keep hK3 fun q hq => by omega
  have op3 := op.keep hK3 fun q hq _ e => hne (e ▸ hq)
  refine hK _ _ hG3 ?_
  clear hK K
  generalize hw3 : (((w20.setCell ⟨gh0, 0, none⟩ (.int .i64 (mulB f g).rows)).setCell ⟨gh0, 1, none⟩ (.int .i64 (mulB f g).cols)).setCell ⟨gh0, 2, none⟩ (.slice h0a h0n h0c)) = w21 at *
  clear hw3 hK3 z0 z1 z2 g0 g1 g2
  show wpQuiet _ _ _ _ [_] _
  try (conv => arg 6; simp only [Act.put, List.setIfInBounds_toArray, List.set_cons_succ, List.set_cons_zero])
  repeat (first | go_big_quiet_skip | (go_big_quiet_want; first | (apply quiet_load3 T_lmat; rfl; rfl; exact (fun w' hG => hBpf.grow hG); go_big_quiet_on; simp only [Act.put, List.setIfInBounds_toArray, List.set_cons_succ, List.set_cons_zero]) | (apply quiet_load3 T_lmat; rfl; rfl; exact (fun w' hG => hBpg.grow hG); go_big_quiet_on; simp only [Act.put, List.setIfInBounds_toArray, List.set_cons_succ, List.set_cons_zero]) | (go_big_quiet_op; first | go_big_quiet_on | (refine ⟨_, (fun _ _ => rfl), ?_⟩; go_big_quiet_on))))
  refine wpQuiet_nil ?_
  refine wpSegs_nil ?_
  have hs3 := hG3.size
  replace hAf := hAf.grow hG3
  replace hAg := hAg.grow hG3
  replace hW0 := hW0.grow hG3
  replace hXfm := hXfm.grow hG3
  replace hXgm := hXgm.grow hG3
  replace hVg0m := hVg0m.grow hG3
  replace hBka0 := hBka0.grow hG3
  replace hBkxf := hBkxf.grow hG3
  replace hBkxg := hBkxg.grow hG3
  replace hBkg0 := hBkg0.grow hG3
  replace hBpf := hBpf.grow hG3
  replace hBpg := hBpg.grow hG3
  replace hT := hT.trans hG3
  have hVh0 : OM w21 (fun q => w18.heap.size ≤ q) (.agg #[.int .i64 (mulB f g).rows, .int .i64 (mulB f g).cols, .slice h0a h0n h0c]) (mulB f g) := ⟨h0a, h0n, h0c, rfl, op3, xp, fp, ip, jp⟩
  have hsb3 := hBkh0.lt
  clear hG3 hGw hSw hP hBg0 op op3 hne e6 p7 p8 fp
  obtain ⟨⟨chBka00, chBka01, chBka02⟩, -⟩ := hBka0.three
  obtain ⟨⟨chBkxf0, chBkxf1, chBkxf2⟩, -⟩ := hBkxf.three
  obtain ⟨⟨chBkxg0, chBkxg1, chBkxg2⟩, -⟩ := hBkxg.three
  obtain ⟨⟨chBkg00, chBkg01, chBkg02⟩, -⟩ := hBkg0.three
  obtain ⟨⟨chBkh00, chBkh01, chBkh02⟩, -⟩ := hBkh0.three
  obtain ⟨⟨pchBpf0_43, pchBpf1_43, pchBpf2_43⟩, -⟩ := hBpf.three
  obtain ⟨⟨pchBpg0_44, pchBpg1_44, pchBpg2_44⟩, -⟩ := hBpg.three
  go_wp2_with fail
  clear chBka00
  clear chBka01
  clear chBka02
  clear chBkxf0
  clear chBkxf1
  clear chBkxf2
  clear chBkxg0
  clear chBkxg1
  clear chBkxg2
  clear chBkg00
  clear chBkg01
  clear chBkg02
  clear chBkh00
  clear chBkh01
  clear chBkh02
  clear pchBpf0_43 pchBpf1_43 pchBpf2_43
  clear pchBpg0_44 pchBpg1_44 pchBpg2_44
  refine (eq_M (hVh0.rd (S := fun _ => True) fun _ _ => trivial) hW0 hB_0).mono ?_
  rintro e w22 ⟨rfl, hG22⟩
  have hs22 := hG22.size
  replace hAf := hAf.grow hG22
  replace hAg := hAg.grow hG22
  replace hW0 := hW0.grow hG22
  replace hXfm := hXfm.grow hG22
  replace hXgm := hXgm.grow hG22
  replace hVg0m := hVg0m.grow hG22
  replace hVh0 := hVh0.grow hG22
  replace hBka0 := hBka0.grow hG22
  replace hBkxf := hBkxf.grow hG22
  replace hBkxg := hBkxg.grow hG22
  replace hBkg0 := hBkg0.grow hG22
  replace hBkh0 := hBkh0.grow hG22
  replace hBpf := hBpf.grow hG22
  replace hBpg := hBpg.grow hG22
  replace hT := hT.trans hG22
  clear hG22
  obtain ⟨⟨chBka00, chBka01, chBka02⟩, -⟩ := hBka0.three
  obtain ⟨⟨chBkxf0, chBkxf1, chBkxf2⟩, -⟩ := hBkxf.three
  obtain ⟨⟨chBkxg0, chBkxg1, chBkxg2⟩, -⟩ := hBkxg.three
  obtain ⟨⟨chBkg00, chBkg01, chBkg02⟩, -⟩ := hBkg0.three
  obtain ⟨⟨chBkh00, chBkh01, chBkh02⟩, -⟩ := hBkh0.three
  obtain ⟨⟨pchBpf0_45, pchBpf1_45, pchBpf2_45⟩, -⟩ := hBpf.three
  obtain ⟨⟨pchBpg0_46, pchBpg1_46, pchBpg2_46⟩, -⟩ := hBpg.three
  go_wp2_with fail
  clear chBka00
  clear chBka01
  clear chBka02
  clear chBkxf0
  clear chBkxf1
  clear chBkxf2
  clear chBkxg0
  clear chBkxg1
  clear chBkxg2
  clear chBkg00
  clear chBkg01
  clear chBkg02
  clear chBkh00
  clear chBkh01
  clear chBkh02
  clear pchBpf0_45 pchBpf1_45 pchBpf2_45
  clear pchBpg0_46 pchBpg1_46 pchBpg2_46
  refine (held_M (1) (hVg0m.rd (S := fun _ => True) fun _ _ => trivial) (by omega)).mono ?_
  rintro e w23 ⟨rfl, hG23⟩
  have hs23 := hG23.size
  replace hAf := hAf.grow hG23
  replace hAg := hAg.grow hG23
  replace hW0 := hW0.grow hG23
  replace hXfm := hXfm.grow hG23
  replace hXgm := hXgm.grow hG23
  replace hVg0m := hVg0m.grow hG23
  replace hVh0 := hVh0.grow hG23
  replace hBka0 := hBka0.grow hG23
  replace hBkxf := hBkxf.grow hG23
  replace hBkxg := hBkxg.grow hG23
  replace hBkg0 := hBkg0.grow hG23
  replace hBkh0 := hBkh0.grow hG23
  replace hBpf := hBpf.grow hG23
  replace hBpg := hBpg.grow hG23
  replace hT := hT.trans hG23
  clear hG23
  obtain ⟨⟨chBka00, chBka01, chBka02⟩, -⟩ := hBka0.three
  obtain ⟨⟨chBkxf0, chBkxf1, chBkxf2⟩, -⟩ := hBkxf.three
  obtain ⟨⟨chBkxg0, chBkxg1, chBkxg2⟩, -⟩ := hBkxg.three
  obtain ⟨⟨chBkg00, chBkg01, chBkg02⟩, -⟩ := hBkg0.three
  obtain ⟨⟨chBkh00, chBkh01, chBkh02⟩, -⟩ := hBkh0.three
  obtain ⟨⟨pchBpf0_47, pchBpf1_47, pchBpf2_47⟩, -⟩ := hBpf.three
  obtain ⟨⟨pchBpg0_48, pchBpg1_48, pchBpg2_48⟩, -⟩ := hBpg.three
  go_wp2_with fail
  clear chBka00
  clear chBka01
  clear chBka02
  clear chBkxf0
  clear chBkxf1
  clear chBkxf2
  clear chBkxg0
  clear chBkxg1
  clear chBkxg2
  clear chBkg00
  clear chBkg01
  clear chBkg02
  clear chBkh00
  clear chBkh01
  clear chBkh02
  clear pchBpf0_47 pchBpf1_47 pchBpf2_47
  clear pchBpg0_48 pchBpg1_48 pchBpg2_48
  go_ret
  exact ⟨rfl, hT⟩
set_option maxRecDepth 100000 in
theorem lifted (os : Os) (started : os.Started) (H : Type) (enc : TypeId × Value → H) :
    ReturnsInHanded {} Try.checked os 8 .any (Rows.fnExactComposeMapsSpec.pre6 enc Try.prog Try.f8 Rows.fnExactComposeMapsRow.domain false) (Rows.fnExactComposeMapsSpec.post enc Try.prog Try.f8 false true false false) := by
  refine law_close (C := Try.checked) (tb := 4) P_own started (by kernel_rfl) Try.func8
    (ChangeSpec.witness6 (enc := enc) (C := Try.checked) false ⟨#[], #[.agg #[.int .i64 0, .int .i64 0, .slice none 0 0], .agg #[.int .i64 0, .int .i64 0, .slice none 0 0]], []⟩ 8 (by kernel_rfl) (by kernel_rfl) (by kernel_rfl) (by kernel_rfl))
    P_laid ?_ rfl Try.underlying4 rfl ?_ ?_
  · exact of_decide_eq_true (by kernel_rfl)
  · intro ds hds
    match ds, hds with
    | [d0, d1], _ => rfl
  · intro W args ds ps hval0 hA0
    have hval : ∀ (j : Nat) t v, Try.f8.params[j]? = some t → args[j]? = some v → Value.okWide Try.prog W .any 0 t v := hval0
    have hA : DataW.TrodAll enc Try.prog W 0 (fun _ => true) true Try.f8.params.toList args.toList ds ps := hA0
    rw [Try.params8] at hA hval
    obtain ⟨v0, vs0, d0, ds0, p0, q0, hargs, rfl, rfl, h0, r0⟩ := trodAll_cons hA
    obtain ⟨v1, vs1, d1, ds1, p1, q1, rfl, rfl, rfl, h1, r1⟩ := trodAll_cons r0
    obtain ⟨rfl, rfl, rfl⟩ := trodAll_nil r1
    obtain rfl : args = #[v0, v1] := by cases args; simp_all
    obtain ⟨x0, hx0⟩ := openMx (hval 0 41 v0 rfl rfl) h0
    obtain ⟨x1, hx1⟩ := openMx (hval 1 41 v1 rfl rfl) h1
    exact walk _ x0 _ x1 W hx0 hx1

theorem proved : Rows.FnExactComposeMapsSaid :=
  OpenClaim.holds_of_wide 8 Try.f8 rfl rfl rfl rfl rfl rfl rfl ⟨rfl, rfl, rfl, rfl, rfl⟩ rfl rfl rfl rfl rfl (by kernel_rfl) Try.func8 (by kernel_rfl)
    (of_decide_eq_true (by kernel_rfl)) (by unfold Func.isWrapper; first | (rw [if_pos (by decide +kernel)]; kernel_rfl) | (rw [if_neg (by decide +kernel)]; exact ⟨rfl, rfl⟩))
    (fun os started H enc _ => lifted os started H enc)
end Go.Proofs.Ytdpjfblkmkjedaa.lawComposeMaps
