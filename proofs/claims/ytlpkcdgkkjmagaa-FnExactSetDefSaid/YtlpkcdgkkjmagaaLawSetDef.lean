/-
  The law FnExactSetDef returns true for all arguments: the program's SetDef and the reference's return the same; arguments stay; results share no memory.
-/
import Derived.Test.YtlpkcdgkkjmagaaSetDefI
import Derived.Test.YtlpkcdgkkjmagaaSetDefS
import Derived.Test.YtlpkcdgkkjmagaaMarkD
import Derived.Test.YtlpkcdgkkjmagaaDefO
namespace Go.Proofs.Ytlpkcdgkkjmagaa
open Go.RowKit
theorem bdDs_set (d : Dfn) : ∀ (l : List Dfn) (k : Nat), bdDs (l.set k d) ≤ bdDs l + bdD d
  | [], k => by simp
  | x :: l, 0 => by simp; omega
  | x :: l, k + 1 => by
    have := bdDs_set d l k
    simp only [List.set_cons_succ, bdDs_cons]; omega
theorem setDef_bd (l : List Dfn) (d : Dfn) : bdDD (setDefB l d).1 ≤ bdDD l + bdD d + 1 := by
  unfold setDefB
  split
  · unfold setDefL bdDD
    split
    · have := bdDs_set d l (findName l d.name).toNat
      simp only [List.length_set]; omega
    · simp only [List.length_append, bdDs_append, bdDs_cons, bdDs_nil, List.length_cons, List.length_nil]; omega
  · unfold bdDD; simp
def mkD (d : Dfn) (k : Nat) : Dfn := ⟨d.name, d.op, d.a, d.b, mkM d.value k⟩
set_option maxHeartbeats 1000000 in
theorem mark_D {F : Nat → Prop} {v : Value} {d : Dfn} {w : World} (k : Nat) (h : OD w F v d) (hb : bdD d + k ≤ 4294967296) : Calls Try.prog 28 #[v, .int .i64 k] w fun e w' =>
    e = .returned (.int .i64 ((k + cntD d : Nat) : Int)) ∧ OD w' F v (mkD d k) ∧ Keep (fun g => ¬ F g) w w' := by
  obtain ⟨a, n, c, rfl, h1, h2, h3, ho⟩ := h
  have hl : d.value.cells.length = n := by simpa using h1.len
  subst hl
  unfold bdD at hb
  obtain ⟨w1, hw1⟩ : ∃ w1, w1 = w.alloc (.cells #[.string d.name, .int .i64 d.op, .string d.a, .string d.b, .int .i64 d.value.rows, .int .i64 d.value.cols, .slice a d.value.cells.length c] 38) := ⟨_, rfl⟩
  have hG1 : Grow w w1 := by rw [hw1]; exact (Grow.refl w).alloc _ _
  have hB1 : Blk w1 w.heap.size #[.string d.name, .int .i64 d.op, .string d.a, .string d.b, .int .i64 d.value.rows, .int .i64 d.value.cols, .slice a d.value.cells.length c] 38 := by rw [hw1]; exact Blk.new _ _ _
  obtain ⟨⟨z0, z1, z2, z3, z4, z5, z6⟩, -⟩ := hB1.seven
  have Hw1 := Lib.hid hw1; clear hw1
  go_enter Try.func28, Try.ntmps28
  go_wp2_with fail
  rw [← Hw1.out]
  have hom : OM w1 F (.agg #[.int .i64 d.value.rows, .int .i64 d.value.cols, .slice a d.value.cells.length c]) d.value := ⟨a, _, c, rfl, h1.grow hG1, h2, h3, ho.2.2.2.2.1, ho.2.2.2.2.2⟩
  refine (mark_M k hom (by unfold bdM; omega)).mono ?_
  rintro e w2 ⟨rfl, ⟨a', n', c', e1, o1, x1, f1, r1, k1⟩, hK⟩
  have e2 : Value.slice a d.value.cells.length c = Value.slice a' n' c' := by simpa [mkM] using e1
  have hv : OD w2 F (.agg #[.string d.name, .int .i64 d.op, .string d.a, .string d.b, .int .i64 d.value.rows, .int .i64 d.value.cols, .slice a d.value.cells.length c]) (mkD d k) := ⟨a', n', c', by rw [e2]; rfl, o1, x1, f1, ho⟩
  clear e1 e2 o1 x1 f1
  go_wp2
  go_ret
  exact ⟨rfl, hv, (hG1.mono fun _ _ _ => trivial).trans hK⟩
theorem specSetDef_v {S T : Nat → Prop} {v u : Value} {l : List Dfn} {d : Dfn} {w : World} (h : VDD w S v l) (hb : bdDD l ≤ 1048576) (hd : VD w T u d) (hbd : bdD d ≤ 1048576) :
    Calls Try.prog 26 #[v, u] w fun e w' => ∃ r, e = .returned (.tuple #[r, .bool (setDefB l d).2]) ∧ VDD w' (fun _ => True) r (setDefB l d).1 ∧ Grow w w' := by
  obtain ⟨a, n, c, rfl, h⟩ := h
  refine (specSetDef_c a n c l u d w h hd hb hbd).mono ?_
  rintro e w' ⟨r, rfl, hO, hG⟩
  exact ⟨r, rfl, hO.rd fun _ _ => trivial, hG⟩
theorem implSetDef_v {S T : Nat → Prop} {v u : Value} {l : List Dfn} {d : Dfn} {w : World} (h : VDD w S v l) (hb : bdDD l ≤ 1048576) (hd : VD w T u d) (hbd : bdD d ≤ 1048576) :
    Calls Try.prog 27 #[v, u] w fun e w' => ∃ r, e = .returned (.tuple #[r, .bool (setDefB l d).2]) ∧ ODD w' (New w w') r (setDefB l d).1 ∧ Grow w w' := by
  obtain ⟨a, n, c, rfl, h⟩ := h
  exact implSetDef_c a n c l u d w h hd hb hbd
end Go.Proofs.Ytlpkcdgkkjmagaa
namespace Go.Proofs.Ytlpkcdgkkjmagaa.lawSetDef
open Go.ChangeShapes Go.WideShapes Go.ChangeAt Go.RowKit

set_option maxHeartbeats 4000000 in
theorem walk (lv : Value) (l : List Dfn) (dv : Value) (d : Dfn) (w : World) (hl0 : VDD w (fun _ => True) lv l) (hd0 : VD w (fun _ => True) dv d) :
    Calls Try.prog 7 #[lv, dv] w fun e w' => e = .returned (.bool true) ∧ Grow w w' := by
  have hs0 : w.heap.size ≤ w.heap.size := Nat.le_refl _
  have hAl : VDD w (fun b => b < w.heap.size) lv l := hl0.weak fun _ hb _ => hb
  have hAd : VD w (fun b => b < w.heap.size) dv d := hd0.weak fun _ hb _ => hb
  clear hl0
  clear hd0
  have hq0d := hAd; obtain ⟨da, dn, dc, rfl, -⟩ := hq0d
  obtain ⟨wB, hwB⟩ : ∃ wB, wB = (w.alloc (.cells #[.string d.name, .int .i64 d.op, .string d.a, .string d.b, .int .i64 d.value.rows, .int .i64 d.value.cols, .slice da dn dc] 33)) := ⟨_, rfl⟩
  have hT : Grow w wB := by rw [hwB]; exact ((Grow.refl w).alloc _ _)
  have hBpd := Blk.newAt w #[.string d.name, .int .i64 d.op, .string d.a, .string d.b, .int .i64 d.value.rows, .int .i64 d.value.cols, .slice da dn dc] 33 (g := w.heap.size) (by simp)
  rw [← hwB] at hBpd
  have HwB := Lib.hid hwB; clear hwB
  have hsB := hT.size
  have hlthBpd := hBpd.lt
  replace hAl := hAl.grow hT
  replace hAd := hAd.grow hT
  by_cases hbl : szDD 1048576 l < 0
  · skip
    go_enter Try.func7, Try.ntmps7
    go_wp2_with fail
    rw [← HwB.out]
    refine (sz_DD hAl (by omega) (by omega)).mono ?_; rintro e wz0 ⟨rfl, hGz0⟩; have hsz0 := hGz0.size; replace hT := hT.trans hGz0; replace hAl := hAl.grow hGz0; replace hAd := hAd.grow hGz0; replace hBpd := hBpd.grow hGz0; clear hGz0
    obtain ⟨⟨pchBpd0_1, pchBpd1_1, pchBpd2_1, pchBpd3_1, pchBpd4_1, pchBpd5_1, pchBpd6_1⟩, -⟩ := hBpd.seven
    go_wp2_with fail
    clear pchBpd0_1 pchBpd1_1 pchBpd2_1 pchBpd3_1 pchBpd4_1 pchBpd5_1 pchBpd6_1
    all_goals (go_ret; exact ⟨rfl, hT⟩)
  have hzl := sz_DD_ok (l := l) (left := 1048576) (by omega)
  have hBl : bdDD l ≤ 1048576 := by omega
  by_cases hbd : szD (1048576 - (bdDD l : Int)) d < 0
  · skip
    go_enter Try.func7, Try.ntmps7
    go_wp2_with fail
    rw [← HwB.out]
    refine (sz_DD hAl (by omega) (by omega)).mono ?_; rintro e wz0 ⟨rfl, hGz0⟩; have hsz0 := hGz0.size; replace hT := hT.trans hGz0; replace hAl := hAl.grow hGz0; replace hAd := hAd.grow hGz0; replace hBpd := hBpd.grow hGz0; clear hGz0
    obtain ⟨⟨pchBpd0_2, pchBpd1_2, pchBpd2_2, pchBpd3_2, pchBpd4_2, pchBpd5_2, pchBpd6_2⟩, -⟩ := hBpd.seven
    go_wp2_with fail
    clear pchBpd0_2 pchBpd1_2 pchBpd2_2 pchBpd3_2 pchBpd4_2 pchBpd5_2 pchBpd6_2
    refine (sz_D hAd (by omega) (by omega)).mono ?_; rintro e wz1 ⟨rfl, hGz1⟩; have hsz1 := hGz1.size; replace hT := hT.trans hGz1; replace hAl := hAl.grow hGz1; replace hAd := hAd.grow hGz1; replace hBpd := hBpd.grow hGz1; clear hGz1
    obtain ⟨⟨pchBpd0_3, pchBpd1_3, pchBpd2_3, pchBpd3_3, pchBpd4_3, pchBpd5_3, pchBpd6_3⟩, -⟩ := hBpd.seven
    go_wp2_with fail
    clear pchBpd0_3 pchBpd1_3 pchBpd2_3 pchBpd3_3 pchBpd4_3 pchBpd5_3 pchBpd6_3
    all_goals (go_ret; exact ⟨rfl, hT⟩)
  have hzd := sz_D_ok (l := d) (left := (1048576 - (bdDD l : Int))) (by omega)
  have hBd : bdD d ≤ 1048576 := by omega
  have hB_0 : bdDD (setDefB l d).1 ≤ 2097152 := by have := setDef_bd l d; omega
  go_enter Try.func7, Try.ntmps7
  go_wp2_with fail
  rw [← HwB.out]
  refine (sz_DD hAl (by omega) (by omega)).mono ?_; rintro e wz0 ⟨rfl, hGz0⟩; have hsz0 := hGz0.size; replace hT := hT.trans hGz0; replace hAl := hAl.grow hGz0; replace hAd := hAd.grow hGz0; replace hBpd := hBpd.grow hGz0; clear hGz0
  obtain ⟨⟨pchBpd0_4, pchBpd1_4, pchBpd2_4, pchBpd3_4, pchBpd4_4, pchBpd5_4, pchBpd6_4⟩, -⟩ := hBpd.seven
  go_wp2_with fail
  clear pchBpd0_4 pchBpd1_4 pchBpd2_4 pchBpd3_4 pchBpd4_4 pchBpd5_4 pchBpd6_4
  refine (sz_D hAd (by omega) (by omega)).mono ?_; rintro e wz1 ⟨rfl, hGz1⟩; have hsz1 := hGz1.size; replace hT := hT.trans hGz1; replace hAl := hAl.grow hGz1; replace hAd := hAd.grow hGz1; replace hBpd := hBpd.grow hGz1; clear hGz1
  obtain ⟨⟨pchBpd0_5, pchBpd1_5, pchBpd2_5, pchBpd3_5, pchBpd4_5, pchBpd5_5, pchBpd6_5⟩, -⟩ := hBpd.seven
  go_wp2_with fail
  clear pchBpd0_5 pchBpd1_5 pchBpd2_5 pchBpd3_5 pchBpd4_5 pchBpd5_5 pchBpd6_5
  refine wp_region_segs (S := Grow wz1) [([0, 2], some 1), ([], some 3), ([], some 4), ([5, 6, 7, 8, 9], none)] P_mixed (by kernel_rfl) (fun _ _ _ _ _ h => h) (Grow.refl _).drew ?_
  show wpQuiet _ _ _ _ [_, _] _
  repeat (first | go_big_quiet_skip | (go_big_quiet_want; first | (apply quiet_load7 (d := d) (s := .slice da dn dc) T_ldef; rfl; rfl; exact (fun w' hG => DAt.of_blk (hBpd.grow hG)); go_big_quiet_on; simp only [Act.put, List.setIfInBounds_toArray, List.set_cons_succ, List.set_cons_zero]) | (go_big_quiet_op; first | go_big_quiet_on | (refine ⟨_, (fun _ _ => rfl), ?_⟩; go_big_quiet_on))))
  refine wpQuiet_nil ?_
  generalize hwd : wz1.drew = w1
  have hQ : Grow wz1 w1 := by rw [← hwd]; exact (Grow.refl _).drew
  clear hwd
  have hs1 := hQ.size
  replace hAl := hAl.grow hQ
  replace hAd := hAd.grow hQ
  replace hBpd := hBpd.grow hQ
  replace hT := hT.trans hQ
  refine seg_go rfl (fun K hK => ?_)
  go_wp2_with fail
  refine (to_DD hAl hBl).mono ?_
  rintro e w2 ⟨tl, rfl, hCl, hG2⟩
  have hs2 := hG2.size
  replace hAl := hAl.grow hG2
  replace hAd := hAd.grow hG2
  replace hBpd := hBpd.grow hG2
  replace hT := hT.trans hG2
  replace hQ := hQ.trans hG2
  clear hG2
  go_wp2_with fail
  refine hK _ _ (hQ) ?_
  clear hK K
  show wpQuiet _ _ _ _ [] _
  try (conv => arg 6; simp only [Act.put, List.setIfInBounds_toArray, List.set_cons_succ, List.set_cons_zero])
  refine wpQuiet_nil ?_
  refine seg_go rfl (fun K hK => ?_)
  go_wp2_with fail
  refine (to_D hAd hBd).mono ?_
  rintro e w3 ⟨td, rfl, hCd, hG3⟩
  have hs3 := hG3.size
  replace hAl := hAl.grow hG3
  replace hAd := hAd.grow hG3
  replace hCl := hCl.grow hG3
  replace hBpd := hBpd.grow hG3
  replace hT := hT.trans hG3
  replace hQ := hQ.trans hG3
  clear hG3
  obtain ⟨tda, tdn, tdc, rfl, hCdx⟩ := hCd
  replace hCd : OD w3 (New w2 w3) (.agg #[.string (d).name, .int .i64 (d).op, .string (d).a, .string (d).b, .int .i64 (d).value.rows, .int .i64 (d).value.cols, .slice tda tdn tdc]) d := ⟨_, _, _, rfl, hCdx⟩
  clear hCdx
  go_wp2_with fail
  refine hK _ _ (hQ) ?_
  clear hK K
  show wpQuiet _ _ _ _ [] _
  try (conv => arg 6; simp only [Act.put, List.setIfInBounds_toArray, List.set_cons_succ, List.set_cons_zero])
  refine wpQuiet_nil ?_
  refine seg_go rfl (fun K hK => ?_)
  go_wp2_with fail
  refine (specSetDef_v (hCl.rd (S := fun _ => True) fun _ _ => trivial) hBl (hCd.rd (S := fun _ => True) fun _ _ => trivial) hBd).mono ?_
  rintro e w4 ⟨a0, rfl, hVa0, hG4⟩
  clear hCl
  clear hCd
  have hs4 := hG4.size
  replace hAl := hAl.grow hG4
  replace hAd := hAd.grow hG4
  replace hBpd := hBpd.grow hG4
  replace hT := hT.trans hG4
  replace hQ := hQ.trans hG4
  clear hG4
  go_wp2_with fail
  refine hK _ _ (hQ) ?_
  clear hK K
  show wpQuiet _ _ _ _ [_, _, _, _, _] _
  try (conv => arg 6; simp only [Act.put, List.setIfInBounds_toArray, List.set_cons_succ, List.set_cons_zero])
  repeat (first | go_big_quiet_skip | (go_big_quiet_want; first | (apply quiet_load7 (d := d) (s := .slice da dn dc) T_ldef; rfl; rfl; exact (fun w' hG => DAt.of_blk (hBpd.grow hG)); go_big_quiet_on; simp only [Act.put, List.setIfInBounds_toArray, List.set_cons_succ, List.set_cons_zero]) | (go_big_quiet_op; first | go_big_quiet_on | (refine ⟨_, (fun _ _ => rfl), ?_⟩; go_big_quiet_on))))
  refine wpQuiet_nil ?_
  clear hQ
  refine wpSegs_nil ?_
  have hW0 : VDD w4 (fun b => b < w4.heap.size) a0 ((setDefB l d).1) := hVa0.weak fun _ hb _ => hb
  clear hVa0
  obtain ⟨⟨pchBpd0_6, pchBpd1_6, pchBpd2_6, pchBpd3_6, pchBpd4_6, pchBpd5_6, pchBpd6_6⟩, -⟩ := hBpd.seven
  go_wp2_with fail
  clear pchBpd0_6 pchBpd1_6 pchBpd2_6 pchBpd3_6 pchBpd4_6 pchBpd5_6 pchBpd6_6
  refine (to_DD hAl hBl).mono ?_
  rintro e w5 ⟨xl, rfl, hXl, hG5⟩
  have hs5 := hG5.size
  replace hAl := hAl.grow hG5
  replace hAd := hAd.grow hG5
  replace hW0 := hW0.grow hG5
  replace hBpd := hBpd.grow hG5
  replace hT := hT.trans hG5
  clear hG5
  obtain ⟨⟨pchBpd0_7, pchBpd1_7, pchBpd2_7, pchBpd3_7, pchBpd4_7, pchBpd5_7, pchBpd6_7⟩, -⟩ := hBpd.seven
  go_wp2_with fail
  clear pchBpd0_7 pchBpd1_7 pchBpd2_7 pchBpd3_7 pchBpd4_7 pchBpd5_7 pchBpd6_7
  refine (to_D hAd hBd).mono ?_
  rintro e w6 ⟨xd, rfl, hXd, hG6⟩
  have hs6 := hG6.size
  replace hAl := hAl.grow hG6
  replace hAd := hAd.grow hG6
  replace hW0 := hW0.grow hG6
  replace hXl := hXl.grow hG6
  replace hBpd := hBpd.grow hG6
  replace hT := hT.trans hG6
  clear hG6
  obtain ⟨xda, xdn, xdc, rfl, hXdx⟩ := hXd
  replace hXd : OD w6 (New w5 w6) (.agg #[.string (d).name, .int .i64 (d).op, .string (d).a, .string (d).b, .int .i64 (d).value.rows, .int .i64 (d).value.cols, .slice xda xdn xdc]) d := ⟨_, _, _, rfl, hXdx⟩
  clear hXdx
  have hGa := (Grow.refl w6).alloc #[.string (d).name, .int .i64 (d).op, .string (d).a, .string (d).b, .int .i64 (d).value.rows, .int .i64 (d).value.cols, .slice xda xdn xdc] 38
  have hBkxd := Blk.newAt w6 #[.string (d).name, .int .i64 (d).op, .string (d).a, .string (d).b, .int .i64 (d).value.rows, .int .i64 (d).value.cols, .slice xda xdn xdc] 38 rfl
  replace hAl := hAl.grow hGa
  replace hAd := hAd.grow hGa
  replace hW0 := hW0.grow hGa
  replace hXl := hXl.grow hGa
  replace hXd := hXd.grow hGa
  replace hBpd := hBpd.grow hGa
  replace hT := hT.trans hGa
  have hsa6 := hGa.size
  have hsb6 := hBkxd.lt
  clear hGa
  obtain ⟨⟨chBkxd0, chBkxd1, chBkxd2, chBkxd3, chBkxd4, chBkxd5, chBkxd6⟩, -⟩ := hBkxd.seven
  obtain ⟨⟨pchBpd0_8, pchBpd1_8, pchBpd2_8, pchBpd3_8, pchBpd4_8, pchBpd5_8, pchBpd6_8⟩, -⟩ := hBpd.seven
  go_wp2_with fail
  clear chBkxd0
  clear chBkxd1
  clear chBkxd2
  clear chBkxd3
  clear chBkxd4
  clear chBkxd5
  clear chBkxd6
  clear pchBpd0_8 pchBpd1_8 pchBpd2_8 pchBpd3_8 pchBpd4_8 pchBpd5_8 pchBpd6_8
  refine (implSetDef_v (hXl.rd (S := fun _ => True) fun _ _ => trivial) hBl (hXd.rd (S := fun _ => True) fun _ _ => trivial) hBd).mono ?_
  rintro e w7 ⟨g0, rfl, hVg0, hG7⟩
  have hs7 := hG7.size
  replace hAl := hAl.grow hG7
  replace hAd := hAd.grow hG7
  replace hW0 := hW0.grow hG7
  replace hXl := hXl.grow hG7
  replace hXd := hXd.grow hG7
  replace hBkxd := hBkxd.grow hG7
  replace hBpd := hBpd.grow hG7
  replace hT := hT.trans hG7
  clear hG7
  obtain ⟨⟨chBkxd0, chBkxd1, chBkxd2, chBkxd3, chBkxd4, chBkxd5, chBkxd6⟩, -⟩ := hBkxd.seven
  obtain ⟨⟨pchBpd0_9, pchBpd1_9, pchBpd2_9, pchBpd3_9, pchBpd4_9, pchBpd5_9, pchBpd6_9⟩, -⟩ := hBpd.seven
  go_wp2_with fail
  clear chBkxd0
  clear chBkxd1
  clear chBkxd2
  clear chBkxd3
  clear chBkxd4
  clear chBkxd5
  clear chBkxd6
  clear pchBpd0_9 pchBpd1_9 pchBpd2_9 pchBpd3_9 pchBpd4_9 pchBpd5_9 pchBpd6_9
  refine (eq_DD (hVg0.rd (S := fun _ => True) fun _ _ => trivial) hW0 hB_0).mono ?_
  rintro e w8 ⟨rfl, hG8⟩
  have hs8 := hG8.size
  replace hAl := hAl.grow hG8
  replace hAd := hAd.grow hG8
  replace hW0 := hW0.grow hG8
  replace hXl := hXl.grow hG8
  replace hXd := hXd.grow hG8
  replace hVg0 := hVg0.grow hG8
  replace hBkxd := hBkxd.grow hG8
  replace hBpd := hBpd.grow hG8
  replace hT := hT.trans hG8
  clear hG8
  obtain ⟨⟨chBkxd0, chBkxd1, chBkxd2, chBkxd3, chBkxd4, chBkxd5, chBkxd6⟩, -⟩ := hBkxd.seven
  obtain ⟨⟨pchBpd0_10, pchBpd1_10, pchBpd2_10, pchBpd3_10, pchBpd4_10, pchBpd5_10, pchBpd6_10⟩, -⟩ := hBpd.seven
  go_wp2_with fail
  clear chBkxd0
  clear chBkxd1
  clear chBkxd2
  clear chBkxd3
  clear chBkxd4
  clear chBkxd5
  clear chBkxd6
  clear pchBpd0_10 pchBpd1_10 pchBpd2_10 pchBpd3_10 pchBpd4_10 pchBpd5_10 pchBpd6_10
  refine (to_DD hAl hBl).mono ?_
  rintro e w9 ⟨tl, rfl, hCl, hG9⟩
  have hs9 := hG9.size
  replace hAl := hAl.grow hG9
  replace hAd := hAd.grow hG9
  replace hW0 := hW0.grow hG9
  replace hXl := hXl.grow hG9
  replace hXd := hXd.grow hG9
  replace hVg0 := hVg0.grow hG9
  replace hBkxd := hBkxd.grow hG9
  replace hBpd := hBpd.grow hG9
  replace hT := hT.trans hG9
  clear hG9
  obtain ⟨⟨chBkxd0, chBkxd1, chBkxd2, chBkxd3, chBkxd4, chBkxd5, chBkxd6⟩, -⟩ := hBkxd.seven
  obtain ⟨⟨pchBpd0_11, pchBpd1_11, pchBpd2_11, pchBpd3_11, pchBpd4_11, pchBpd5_11, pchBpd6_11⟩, -⟩ := hBpd.seven
  go_wp2_with fail
  clear chBkxd0
  clear chBkxd1
  clear chBkxd2
  clear chBkxd3
  clear chBkxd4
  clear chBkxd5
  clear chBkxd6
  clear pchBpd0_11 pchBpd1_11 pchBpd2_11 pchBpd3_11 pchBpd4_11 pchBpd5_11 pchBpd6_11
  refine (eq_DD (hXl.rd (S := fun _ => True) fun _ _ => trivial) (hCl.rd (S := fun _ => True) fun _ _ => trivial) (by omega)).mono ?_
  rintro e w10 ⟨rfl, hG10⟩
  have hs10 := hG10.size
  replace hAl := hAl.grow hG10
  replace hAd := hAd.grow hG10
  replace hW0 := hW0.grow hG10
  replace hXl := hXl.grow hG10
  replace hXd := hXd.grow hG10
  replace hVg0 := hVg0.grow hG10
  replace hBkxd := hBkxd.grow hG10
  replace hBpd := hBpd.grow hG10
  replace hT := hT.trans hG10
  clear hG10
  clear hCl
  obtain ⟨⟨chBkxd0, chBkxd1, chBkxd2, chBkxd3, chBkxd4, chBkxd5, chBkxd6⟩, -⟩ := hBkxd.seven
  obtain ⟨⟨pchBpd0_12, pchBpd1_12, pchBpd2_12, pchBpd3_12, pchBpd4_12, pchBpd5_12, pchBpd6_12⟩, -⟩ := hBpd.seven
  go_wp2_with fail
  clear chBkxd0
  clear chBkxd1
  clear chBkxd2
  clear chBkxd3
  clear chBkxd4
  clear chBkxd5
  clear chBkxd6
  clear pchBpd0_12 pchBpd1_12 pchBpd2_12 pchBpd3_12 pchBpd4_12 pchBpd5_12 pchBpd6_12
  refine wp_region_segs (S := Grow w10) [([0, 1], some 2), ([], some 3), ([4], none)] P_mixed (by kernel_rfl) (fun _ _ _ _ _ h => h) (Grow.refl _).drew ?_
  show wpQuiet _ _ _ _ [_, _] _
  repeat (first | go_big_quiet_skip | (go_big_quiet_want; first | (apply quiet_load7 (d := d) (s := .slice xda xdn xdc) T_def; rfl; rfl; exact (fun w' hG => DAt.of_blk (hBkxd.grow hG)); go_big_quiet_on; simp only [Act.put, List.setIfInBounds_toArray, List.set_cons_succ, List.set_cons_zero]) | (apply quiet_load7 (d := d) (s := .slice da dn dc) T_ldef; rfl; rfl; exact (fun w' hG => DAt.of_blk (hBpd.grow hG)); go_big_quiet_on; simp only [Act.put, List.setIfInBounds_toArray, List.set_cons_succ, List.set_cons_zero]) | (go_big_quiet_op; first | go_big_quiet_on | (refine ⟨_, (fun _ _ => rfl), ?_⟩; go_big_quiet_on))))
  refine wpQuiet_nil ?_
  generalize hwd : w10.drew = w11
  have hQ : Grow w10 w11 := by rw [← hwd]; exact (Grow.refl _).drew
  clear hwd
  have hs11 := hQ.size
  replace hAl := hAl.grow hQ
  replace hAd := hAd.grow hQ
  replace hW0 := hW0.grow hQ
  replace hXl := hXl.grow hQ
  replace hXd := hXd.grow hQ
  replace hVg0 := hVg0.grow hQ
  replace hBkxd := hBkxd.grow hQ
  replace hBpd := hBpd.grow hQ
  replace hT := hT.trans hQ
  refine seg_go rfl (fun K hK => ?_)
  go_wp2_with fail
  refine (to_D hAd hBd).mono ?_
  rintro e w12 ⟨td, rfl, hCd, hG12⟩
  have hs12 := hG12.size
  replace hAl := hAl.grow hG12
  replace hAd := hAd.grow hG12
  replace hW0 := hW0.grow hG12
  replace hXl := hXl.grow hG12
  replace hXd := hXd.grow hG12
  replace hVg0 := hVg0.grow hG12
  replace hBkxd := hBkxd.grow hG12
  replace hBpd := hBpd.grow hG12
  replace hT := hT.trans hG12
  replace hQ := hQ.trans hG12
  clear hG12
  obtain ⟨tda, tdn, tdc, rfl, hCdx⟩ := hCd
  replace hCd : OD w12 (New w11 w12) (.agg #[.string (d).name, .int .i64 (d).op, .string (d).a, .string (d).b, .int .i64 (d).value.rows, .int .i64 (d).value.cols, .slice tda tdn tdc]) d := ⟨_, _, _, rfl, hCdx⟩
  clear hCdx
  go_wp2_with fail
  refine hK _ _ (hQ) ?_
  clear hK K
  show wpQuiet _ _ _ _ [] _
  try (conv => arg 6; simp only [Act.put, List.setIfInBounds_toArray, List.set_cons_succ, List.set_cons_zero])
  refine wpQuiet_nil ?_
  refine seg_go rfl (fun K hK => ?_)
  go_wp2_with fail
  refine (eq_D (hXd.rd (S := fun _ => True) fun _ _ => trivial) (hCd.rd (S := fun _ => True) fun _ _ => trivial) (by omega)).mono ?_
  rintro e w13 ⟨rfl, hG13⟩
  have hs13 := hG13.size
  replace hAl := hAl.grow hG13
  replace hAd := hAd.grow hG13
  replace hW0 := hW0.grow hG13
  replace hXl := hXl.grow hG13
  replace hXd := hXd.grow hG13
  replace hVg0 := hVg0.grow hG13
  replace hBkxd := hBkxd.grow hG13
  replace hBpd := hBpd.grow hG13
  replace hT := hT.trans hG13
  replace hQ := hQ.trans hG13
  clear hG13 hCd
  go_wp2_with fail
  refine hK _ _ (hQ) ?_
  clear hK K
  show wpQuiet _ _ _ _ [_] _
  try (conv => arg 6; simp only [Act.put, List.setIfInBounds_toArray, List.set_cons_succ, List.set_cons_zero])
  repeat (first | go_big_quiet_skip | (go_big_quiet_want; first | (apply quiet_load7 (d := d) (s := .slice xda xdn xdc) T_def; rfl; rfl; exact (fun w' hG => DAt.of_blk (hBkxd.grow hG)); go_big_quiet_on; simp only [Act.put, List.setIfInBounds_toArray, List.set_cons_succ, List.set_cons_zero]) | (apply quiet_load7 (d := d) (s := .slice da dn dc) T_ldef; rfl; rfl; exact (fun w' hG => DAt.of_blk (hBpd.grow hG)); go_big_quiet_on; simp only [Act.put, List.setIfInBounds_toArray, List.set_cons_succ, List.set_cons_zero]) | (go_big_quiet_op; first | go_big_quiet_on | (refine ⟨_, (fun _ _ => rfl), ?_⟩; go_big_quiet_on))))
  refine wpQuiet_nil ?_
  clear hQ
  refine wpSegs_nil ?_
  obtain ⟨⟨chBkxd0, chBkxd1, chBkxd2, chBkxd3, chBkxd4, chBkxd5, chBkxd6⟩, -⟩ := hBkxd.seven
  obtain ⟨⟨pchBpd0_13, pchBpd1_13, pchBpd2_13, pchBpd3_13, pchBpd4_13, pchBpd5_13, pchBpd6_13⟩, -⟩ := hBpd.seven
  go_wp2_with fail
  clear chBkxd0
  clear chBkxd1
  clear chBkxd2
  clear chBkxd3
  clear chBkxd4
  clear chBkxd5
  clear chBkxd6
  clear pchBpd0_13 pchBpd1_13 pchBpd2_13 pchBpd3_13 pchBpd4_13 pchBpd5_13 pchBpd6_13
  have hq_l := cntDD_le l
  have hq_d : cntD d ≤ bdD d := by unfold cntD bdD; omega
  refine (mark_DD (1) hXl (by omega)).mono ?_
  rintro e w14 ⟨rfl, hXlm, hK14⟩
  have hs14 := hK14.size
  replace hAl := hAl.keep hK14 (fun b _ hb => by simp only [New] at hb ⊢; omega)
  replace hAd := hAd.keep hK14 (fun b _ hb => by simp only [New] at hb ⊢; omega)
  replace hW0 := hW0.keep hK14 (fun b _ hb => by simp only [New] at hb ⊢; omega)
  replace hXd := hXd.keep hK14 (fun b _ hb => by simp only [New] at hb ⊢; omega)
  replace hVg0 := hVg0.keep hK14 (fun b _ hb => by simp only [New] at hb ⊢; omega)
  replace hBkxd := hBkxd.keep hK14 (by simp only [New]; omega)
  replace hBpd := hBpd.keep hK14 (by simp only [New]; omega)
  replace hT : Grow w w14 := hT.keep hK14 (fun b hb => by simp only [New]; omega)
  clear hK14
  obtain ⟨⟨chBkxd0, chBkxd1, chBkxd2, chBkxd3, chBkxd4, chBkxd5, chBkxd6⟩, -⟩ := hBkxd.seven
  obtain ⟨⟨pchBpd0_14, pchBpd1_14, pchBpd2_14, pchBpd3_14, pchBpd4_14, pchBpd5_14, pchBpd6_14⟩, -⟩ := hBpd.seven
  go_wp2_with fail
  clear chBkxd0
  clear chBkxd1
  clear chBkxd2
  clear chBkxd3
  clear chBkxd4
  clear chBkxd5
  clear chBkxd6
  clear pchBpd0_14 pchBpd1_14 pchBpd2_14 pchBpd3_14 pchBpd4_14 pchBpd5_14 pchBpd6_14
  refine (mark_D (1 + cntDD l) hXd (by omega)).mono ?_
  rintro e w15 ⟨rfl, hXdm, hK15⟩
  have hs15 := hK15.size
  replace hAl := hAl.keep hK15 (fun b _ hb => by simp only [New] at hb ⊢; omega)
  replace hAd := hAd.keep hK15 (fun b _ hb => by simp only [New] at hb ⊢; omega)
  replace hW0 := hW0.keep hK15 (fun b _ hb => by simp only [New] at hb ⊢; omega)
  replace hVg0 := hVg0.keep hK15 (fun b _ hb => by simp only [New] at hb ⊢; omega)
  replace hXlm := hXlm.keep hK15 (fun b _ hb => by simp only [New] at hb ⊢; omega)
  replace hBkxd := hBkxd.keep hK15 (by simp only [New]; omega)
  replace hBpd := hBpd.keep hK15 (by simp only [New]; omega)
  replace hT : Grow w w15 := hT.keep hK15 (fun b hb => by simp only [New]; omega)
  clear hK15
  obtain ⟨⟨chBkxd0, chBkxd1, chBkxd2, chBkxd3, chBkxd4, chBkxd5, chBkxd6⟩, -⟩ := hBkxd.seven
  obtain ⟨⟨pchBpd0_15, pchBpd1_15, pchBpd2_15, pchBpd3_15, pchBpd4_15, pchBpd5_15, pchBpd6_15⟩, -⟩ := hBpd.seven
  go_wp2_with fail
  clear chBkxd0
  clear chBkxd1
  clear chBkxd2
  clear chBkxd3
  clear chBkxd4
  clear chBkxd5
  clear chBkxd6
  clear pchBpd0_15 pchBpd1_15 pchBpd2_15 pchBpd3_15 pchBpd4_15 pchBpd5_15 pchBpd6_15
  refine (eq_DD (hVg0.rd (S := fun _ => True) fun _ _ => trivial) hW0 hB_0).mono ?_
  rintro e w16 ⟨rfl, hG16⟩
  have hs16 := hG16.size
  replace hAl := hAl.grow hG16
  replace hAd := hAd.grow hG16
  replace hW0 := hW0.grow hG16
  replace hVg0 := hVg0.grow hG16
  replace hXlm := hXlm.grow hG16
  replace hXdm := hXdm.grow hG16
  replace hBkxd := hBkxd.grow hG16
  replace hBpd := hBpd.grow hG16
  replace hT := hT.trans hG16
  clear hG16
  obtain ⟨⟨chBkxd0, chBkxd1, chBkxd2, chBkxd3, chBkxd4, chBkxd5, chBkxd6⟩, -⟩ := hBkxd.seven
  obtain ⟨⟨pchBpd0_16, pchBpd1_16, pchBpd2_16, pchBpd3_16, pchBpd4_16, pchBpd5_16, pchBpd6_16⟩, -⟩ := hBpd.seven
  go_wp2_with fail
  clear chBkxd0
  clear chBkxd1
  clear chBkxd2
  clear chBkxd3
  clear chBkxd4
  clear chBkxd5
  clear chBkxd6
  clear pchBpd0_16 pchBpd1_16 pchBpd2_16 pchBpd3_16 pchBpd4_16 pchBpd5_16 pchBpd6_16
  refine (mark_DD (1) hVg0 (by omega)).mono ?_
  rintro e w17 ⟨rfl, hVg0m, hK17⟩
  have hs17 := hK17.size
  replace hAl := hAl.keep hK17 (fun b _ hb => by simp only [New] at hb ⊢; omega)
  replace hAd := hAd.keep hK17 (fun b _ hb => by simp only [New] at hb ⊢; omega)
  replace hW0 := hW0.keep hK17 (fun b _ hb => by simp only [New] at hb ⊢; omega)
  replace hXlm := hXlm.keep hK17 (fun b _ hb => by simp only [New] at hb ⊢; omega)
  replace hXdm := hXdm.keep hK17 (fun b _ hb => by simp only [New] at hb ⊢; omega)
  replace hBkxd := hBkxd.keep hK17 (by simp only [New]; omega)
  replace hBpd := hBpd.keep hK17 (by simp only [New]; omega)
  replace hT : Grow w w17 := hT.keep hK17 (fun b hb => by simp only [New]; omega)
  clear hK17
  obtain ⟨⟨chBkxd0, chBkxd1, chBkxd2, chBkxd3, chBkxd4, chBkxd5, chBkxd6⟩, -⟩ := hBkxd.seven
  obtain ⟨⟨pchBpd0_17, pchBpd1_17, pchBpd2_17, pchBpd3_17, pchBpd4_17, pchBpd5_17, pchBpd6_17⟩, -⟩ := hBpd.seven
  go_wp2_with fail
  clear chBkxd0
  clear chBkxd1
  clear chBkxd2
  clear chBkxd3
  clear chBkxd4
  clear chBkxd5
  clear chBkxd6
  clear pchBpd0_17 pchBpd1_17 pchBpd2_17 pchBpd3_17 pchBpd4_17 pchBpd5_17 pchBpd6_17
  refine (held_DD (1) (hVg0m.rd (S := fun _ => True) fun _ _ => trivial) (by omega)).mono ?_
  rintro e w18 ⟨rfl, hG18⟩
  have hs18 := hG18.size
  replace hAl := hAl.grow hG18
  replace hAd := hAd.grow hG18
  replace hW0 := hW0.grow hG18
  replace hXlm := hXlm.grow hG18
  replace hXdm := hXdm.grow hG18
  replace hVg0m := hVg0m.grow hG18
  replace hBkxd := hBkxd.grow hG18
  replace hBpd := hBpd.grow hG18
  replace hT := hT.trans hG18
  clear hG18
  obtain ⟨⟨chBkxd0, chBkxd1, chBkxd2, chBkxd3, chBkxd4, chBkxd5, chBkxd6⟩, -⟩ := hBkxd.seven
  obtain ⟨⟨pchBpd0_18, pchBpd1_18, pchBpd2_18, pchBpd3_18, pchBpd4_18, pchBpd5_18, pchBpd6_18⟩, -⟩ := hBpd.seven
  go_wp2_with fail
  clear chBkxd0
  clear chBkxd1
  clear chBkxd2
  clear chBkxd3
  clear chBkxd4
  clear chBkxd5
  clear chBkxd6
  clear pchBpd0_18 pchBpd1_18 pchBpd2_18 pchBpd3_18 pchBpd4_18 pchBpd5_18 pchBpd6_18
  refine wp_region_segs (S := Grow w18) [([0, 2], some 1), ([], some 3), ([], some 4), ([5, 6, 7, 8, 9], none)] P_mixed (by kernel_rfl) (fun _ _ _ _ _ h => h) (Grow.refl _).drew ?_
  show wpQuiet _ _ _ _ [_, _] _
  repeat (first | go_big_quiet_skip | (go_big_quiet_want; first | (apply quiet_load7 (d := d) (s := .slice da dn dc) T_ldef; rfl; rfl; exact (fun w' hG => DAt.of_blk (hBpd.grow hG)); go_big_quiet_on; simp only [Act.put, List.setIfInBounds_toArray, List.set_cons_succ, List.set_cons_zero]) | (go_big_quiet_op; first | go_big_quiet_on | (refine ⟨_, (fun _ _ => rfl), ?_⟩; go_big_quiet_on))))
  refine wpQuiet_nil ?_
  generalize hwd : w18.drew = w19
  have hQ : Grow w18 w19 := by rw [← hwd]; exact (Grow.refl _).drew
  clear hwd
  have hs19 := hQ.size
  replace hAl := hAl.grow hQ
  replace hAd := hAd.grow hQ
  replace hW0 := hW0.grow hQ
  replace hXlm := hXlm.grow hQ
  replace hXdm := hXdm.grow hQ
  replace hVg0m := hVg0m.grow hQ
  replace hBkxd := hBkxd.grow hQ
  replace hBpd := hBpd.grow hQ
  replace hT := hT.trans hQ
  refine seg_go rfl (fun K hK => ?_)
  go_wp2_with fail
  refine (to_DD hAl hBl).mono ?_
  rintro e w20 ⟨tl, rfl, hCl, hG20⟩
  have hs20 := hG20.size
  replace hAl := hAl.grow hG20
  replace hAd := hAd.grow hG20
  replace hW0 := hW0.grow hG20
  replace hXlm := hXlm.grow hG20
  replace hXdm := hXdm.grow hG20
  replace hVg0m := hVg0m.grow hG20
  replace hBkxd := hBkxd.grow hG20
  replace hBpd := hBpd.grow hG20
  replace hT := hT.trans hG20
  replace hQ := hQ.trans hG20
  clear hG20
  go_wp2_with fail
  refine hK _ _ (hQ) ?_
  clear hK K
  show wpQuiet _ _ _ _ [] _
  try (conv => arg 6; simp only [Act.put, List.setIfInBounds_toArray, List.set_cons_succ, List.set_cons_zero])
  refine wpQuiet_nil ?_
  refine seg_go rfl (fun K hK => ?_)
  go_wp2_with fail
  refine (to_D hAd hBd).mono ?_
  rintro e w21 ⟨td, rfl, hCd, hG21⟩
  have hs21 := hG21.size
  replace hAl := hAl.grow hG21
  replace hAd := hAd.grow hG21
  replace hW0 := hW0.grow hG21
  replace hXlm := hXlm.grow hG21
  replace hXdm := hXdm.grow hG21
  replace hVg0m := hVg0m.grow hG21
  replace hCl := hCl.grow hG21
  replace hBkxd := hBkxd.grow hG21
  replace hBpd := hBpd.grow hG21
  replace hT := hT.trans hG21
  replace hQ := hQ.trans hG21
  clear hG21
  obtain ⟨tda, tdn, tdc, rfl, hCdx⟩ := hCd
  replace hCd : OD w21 (New w20 w21) (.agg #[.string (d).name, .int .i64 (d).op, .string (d).a, .string (d).b, .int .i64 (d).value.rows, .int .i64 (d).value.cols, .slice tda tdn tdc]) d := ⟨_, _, _, rfl, hCdx⟩
  clear hCdx
  go_wp2_with fail
  refine hK _ _ (hQ) ?_
  clear hK K
  show wpQuiet _ _ _ _ [] _
  try (conv => arg 6; simp only [Act.put, List.setIfInBounds_toArray, List.set_cons_succ, List.set_cons_zero])
  refine wpQuiet_nil ?_
  refine seg_go rfl (fun K hK => ?_)
  go_wp2_with fail
  refine (implSetDef_v (hCl.rd (S := fun _ => True) fun _ _ => trivial) hBl (hCd.rd (S := fun _ => True) fun _ _ => trivial) hBd).mono ?_
  rintro e w22 ⟨h0, rfl, hVh0, hG22⟩
  clear hCl
  clear hCd
  have hs22 := hG22.size
  replace hAl := hAl.grow hG22
  replace hAd := hAd.grow hG22
  replace hW0 := hW0.grow hG22
  replace hXlm := hXlm.grow hG22
  replace hXdm := hXdm.grow hG22
  replace hVg0m := hVg0m.grow hG22
  replace hBkxd := hBkxd.grow hG22
  replace hBpd := hBpd.grow hG22
  replace hT := hT.trans hG22
  replace hQ := hQ.trans hG22
  clear hG22
  go_wp2_with fail
  refine hK _ _ (hQ) ?_
  clear hK K
  show wpQuiet _ _ _ _ [_, _, _, _, _] _
  try (conv => arg 6; simp only [Act.put, List.setIfInBounds_toArray, List.set_cons_succ, List.set_cons_zero])
  repeat (first | go_big_quiet_skip | (go_big_quiet_want; first | (apply quiet_load7 (d := d) (s := .slice da dn dc) T_ldef; rfl; rfl; exact (fun w' hG => DAt.of_blk (hBpd.grow hG)); go_big_quiet_on; simp only [Act.put, List.setIfInBounds_toArray, List.set_cons_succ, List.set_cons_zero]) | (go_big_quiet_op; first | go_big_quiet_on | (refine ⟨_, (fun _ _ => rfl), ?_⟩; go_big_quiet_on))))
  refine wpQuiet_nil ?_
  clear hQ
  refine wpSegs_nil ?_
  obtain ⟨⟨chBkxd0, chBkxd1, chBkxd2, chBkxd3, chBkxd4, chBkxd5, chBkxd6⟩, -⟩ := hBkxd.seven
  obtain ⟨⟨pchBpd0_19, pchBpd1_19, pchBpd2_19, pchBpd3_19, pchBpd4_19, pchBpd5_19, pchBpd6_19⟩, -⟩ := hBpd.seven
  go_wp2_with fail
  clear chBkxd0
  clear chBkxd1
  clear chBkxd2
  clear chBkxd3
  clear chBkxd4
  clear chBkxd5
  clear chBkxd6
  clear pchBpd0_19 pchBpd1_19 pchBpd2_19 pchBpd3_19 pchBpd4_19 pchBpd5_19 pchBpd6_19
  refine (eq_DD (hVh0.rd (S := fun _ => True) fun _ _ => trivial) hW0 hB_0).mono ?_
  rintro e w23 ⟨rfl, hG23⟩
  have hs23 := hG23.size
  replace hAl := hAl.grow hG23
  replace hAd := hAd.grow hG23
  replace hW0 := hW0.grow hG23
  replace hXlm := hXlm.grow hG23
  replace hXdm := hXdm.grow hG23
  replace hVg0m := hVg0m.grow hG23
  replace hVh0 := hVh0.grow hG23
  replace hBkxd := hBkxd.grow hG23
  replace hBpd := hBpd.grow hG23
  replace hT := hT.trans hG23
  clear hG23
  obtain ⟨⟨chBkxd0, chBkxd1, chBkxd2, chBkxd3, chBkxd4, chBkxd5, chBkxd6⟩, -⟩ := hBkxd.seven
  obtain ⟨⟨pchBpd0_20, pchBpd1_20, pchBpd2_20, pchBpd3_20, pchBpd4_20, pchBpd5_20, pchBpd6_20⟩, -⟩ := hBpd.seven
  go_wp2_with fail
  clear chBkxd0
  clear chBkxd1
  clear chBkxd2
  clear chBkxd3
  clear chBkxd4
  clear chBkxd5
  clear chBkxd6
  clear pchBpd0_20 pchBpd1_20 pchBpd2_20 pchBpd3_20 pchBpd4_20 pchBpd5_20 pchBpd6_20
  refine (held_DD (1) (hVg0m.rd (S := fun _ => True) fun _ _ => trivial) (by omega)).mono ?_
  rintro e w24 ⟨rfl, hG24⟩
  have hs24 := hG24.size
  replace hAl := hAl.grow hG24
  replace hAd := hAd.grow hG24
  replace hW0 := hW0.grow hG24
  replace hXlm := hXlm.grow hG24
  replace hXdm := hXdm.grow hG24
  replace hVg0m := hVg0m.grow hG24
  replace hVh0 := hVh0.grow hG24
  replace hBkxd := hBkxd.grow hG24
  replace hBpd := hBpd.grow hG24
  replace hT := hT.trans hG24
  clear hG24
  obtain ⟨⟨chBkxd0, chBkxd1, chBkxd2, chBkxd3, chBkxd4, chBkxd5, chBkxd6⟩, -⟩ := hBkxd.seven
  obtain ⟨⟨pchBpd0_21, pchBpd1_21, pchBpd2_21, pchBpd3_21, pchBpd4_21, pchBpd5_21, pchBpd6_21⟩, -⟩ := hBpd.seven
  go_wp2_with fail
  clear chBkxd0
  clear chBkxd1
  clear chBkxd2
  clear chBkxd3
  clear chBkxd4
  clear chBkxd5
  clear chBkxd6
  clear pchBpd0_21 pchBpd1_21 pchBpd2_21 pchBpd3_21 pchBpd4_21 pchBpd5_21 pchBpd6_21
  go_ret
  exact ⟨rfl, hT⟩
set_option maxRecDepth 100000 in
theorem lifted (os : Os) (started : os.Started) (H : Type) (enc : TypeId × Value → H) :
    ReturnsInHanded {} Try.checked os 7 .any (Rows.fnExactSetDefSpec.pre6 enc Try.prog Try.f7 Rows.fnExactSetDefRow.domain false) (Rows.fnExactSetDefSpec.post enc Try.prog Try.f7 false true false false) := by
  refine law_close (C := Try.checked) (tb := 4) P_own started (by kernel_rfl) Try.func7
    (ChangeSpec.witness6 (enc := enc) (C := Try.checked) false ⟨#[], #[.slice none 0 0, .agg #[.string .empty, .int .i64 0, .string .empty, .string .empty, .int .i64 0, .int .i64 0, .slice none 0 0]], []⟩ 8 (by kernel_rfl) (by kernel_rfl) (by kernel_rfl) (by kernel_rfl))
    P_laid ?_ rfl Try.underlying4 rfl ?_ ?_
  · exact of_decide_eq_true (by kernel_rfl)
  · intro ds hds
    match ds, hds with
    | [d0, d1], _ => rfl
  · intro W args ds ps hval0 hA0
    have hval : ∀ (j : Nat) t v, Try.f7.params[j]? = some t → args[j]? = some v → Value.okWide Try.prog W .any 0 t v := hval0
    have hA : DataW.TrodAll enc Try.prog W 0 (fun _ => true) true Try.f7.params.toList args.toList ds ps := hA0
    rw [Try.params7] at hA hval
    obtain ⟨v0, vs0, d0, ds0, p0, q0, hargs, rfl, rfl, h0, r0⟩ := trodAll_cons hA
    obtain ⟨v1, vs1, d1, ds1, p1, q1, rfl, rfl, rfl, h1, r1⟩ := trodAll_cons r0
    obtain ⟨rfl, rfl, rfl⟩ := trodAll_nil r1
    obtain rfl : args = #[v0, v1] := by cases args; simp_all
    obtain ⟨x0a, x0n, x0c, x0, rfl, hx0⟩ := openDDx (hval 0 22 v0 rfl rfl) h0
    obtain ⟨x1, hx1⟩ := openDx (hval 1 33 v1 rfl rfl) h1
    exact walk _ x0 _ x1 W ⟨_, _, _, rfl, hx0⟩ hx1

theorem proved : Rows.FnExactSetDefSaid :=
  OpenClaim.holds_of_wide 7 Try.f7 rfl rfl rfl rfl rfl rfl rfl ⟨rfl, rfl, rfl, rfl, rfl⟩ rfl rfl rfl rfl rfl (by kernel_rfl) Try.func7 (by kernel_rfl)
    (of_decide_eq_true (by kernel_rfl)) (by unfold Func.isWrapper; first | (rw [if_pos (by decide +kernel)]; kernel_rfl) | (rw [if_neg (by decide +kernel)]; exact ⟨rfl, rfl⟩))
    (fun os started H enc _ => lifted os started H enc)
end Go.Proofs.Ytlpkcdgkkjmagaa.lawSetDef
