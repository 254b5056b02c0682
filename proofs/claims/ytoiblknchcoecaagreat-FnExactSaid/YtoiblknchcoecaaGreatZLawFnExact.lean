/-
  The law FnExact returns true for all arguments: a sequence of two maps is exact exactly if both together are 0 and nothing is between. No condition.
-/
import Derived.Test.YtoiblknchcoecaaGreatZDrawN
import Derived.Test.YtoiblknchcoecaaGreatZLatB
import Derived.Test.YtoiblknchcoecaaGreatZMods
import Derived.Test.YtoiblknchcoecaaGreatZCompose
set_option maxHeartbeats 8000000
set_option maxRecDepth 100000
namespace Go.Proofs.YtoiblknchcoecaaGreat.lawFnExact
open Go.ChangeShapes Go.WideShapes Go.ChangeAt Go.RowKit
theorem cells_u8 : Tryz.prog.cellsOf 5 = 1 := by kernel_rfl
theorem big_c (a : Option Addr) (n cap : Nat) (w : World) (b : Bool) (hb : decide (1048576 < n) = b) :
  Calls Tryz.prog 5 #[.slice a n cap] w fun e w' => e = .returned (.bool b) ∧ w = w' := by
 cases b with
 | true =>
  have h := of_decide_eq_true hb
  go_enter Tryz.func5, Tryz.ntmps5
  go_wp2
  go_ret
  exact ⟨ret_bool (by simp; omega), rfl⟩
 | false =>
  have h := of_decide_eq_false hb
  go_enter Tryz.func5, Tryz.ntmps5
  go_wp2
  go_ret
  exact ⟨ret_bool (by simp; omega), rfl⟩
theorem sameInts_t {S T : Nat → Prop} (a b : Option Addr) (n m cap cap' : Nat) (xs : List Int) (w : World) (h : RdI w S a n cap xs) (h' : RdI w T b m cap' xs) (hn : n ≤ 2097152) :
  Calls Tryz.prog 19 #[.slice a n cap, .slice b m cap'] w fun e w' => e = .returned (.bool true) ∧ Qt w w' := by
 have hl := h.len
 have hl' := h'.len
 obtain rfl : n = m := by omega
 go_enter Tryz.func19, Tryz.ntmps19
 go_wp2
 go_loopw [5] (fun i wr => Qt w wr ∧ ∃ k : Nat, k ≤ n ∧ i = .int .i64 k) (fun i _ => n - (intOf i).toNat)
 case atStart => exact ⟨Qt.refl _, 0, Nat.zero_le _, rfl⟩
 case round =>
  obtain ⟨hG, k, hk, rfl⟩ := hrel
  by_cases hlt : k < n
  ·obtain ⟨b1, off1, x, rfl, hx, hxr, _, hbw, hc⟩ := (h.grow hG.grow).at hlt
   obtain ⟨b2, off2, y, rfl, hy, hyr, _, hbw2, hc2⟩ := (h'.grow hG.grow).at hlt
   obtain rfl : x = y := Option.some.inj (hx.symm.trans hy)
   clear hx hy
   go_wp2
   go_quiet (fail)
   go_wp2
   go_roundw
   case rel => exact ⟨hG.drewN _, k + 1, by omega, by go_num⟩
   case measure => simp [intOf]; omega
  ·go_wp2
   go_ret
   exact ⟨rfl, hG⟩
theorem same_eq {A B : Mat} (h : sameMB A B = true) : A = B := by
 unfold sameMB at h
 simp only [Bool.and_eq_true, decide_eq_true_eq] at h
 obtain ⟨R, C, l⟩ := A
 obtain ⟨R', C', l'⟩ := B
 obtain ⟨h1, h2, h3⟩ := h
 simp only at h1 h2 h3
 subst h1; subst h2
 rw [show l = l' from of_decide_eq_true h3]
theorem exact_same {r s t f g : Mat} (ho : exOk r s t f g = true) (he : exB r s t f g = true) :
  imgIs r s f = kerIs s t g ∧ imB s f = tzB t g := by
 have h1 : imB s f = tzB t g := same_eq (by rw [(ex_yes ho).1] at he; exact he)
 unfold exOk at ho
 simp only [Bool.and_eq_true] at ho
 obtain ⟨h2, h3, h4, h5⟩ := ho
 refine ⟨?_, h1⟩
 unfold imgIs kerIs
 rw [h2, h3, h4, h5]
theorem comp_shape (f g : Mat) : ∃ R C : Nat, (mulB f g).rows = (R : Int) ∧ (mulB f g).cols = (C : Int) ∧ R ≤ 24 ∧ C ≤ 24 ∧ (mulB f g).cells.length = R * C ∧ (mulOk f g = false → R = 0) := by
 cases hm : mulOk f g with
 | true =>
  obtain ⟨R, C, h1, h2, h3, h4, h5, -⟩ := isMatB_shape (mulB_mat hm)
  exact ⟨R, C, h1, h2, h3, h4, h5, fun e => nomatch e⟩
 | false =>
  have h0 : mulB f g = { rows := 0, cols := 0, cells := [] } := by
   unfold mulB
   cases hf : mulFit f g with
   | false => simp
   | true =>
    unfold mulOk at hm
    rw [hf, Bool.true_and] at hm
    simp [okM, hm]
  exact ⟨0, 0, by rw [h0]; rfl, by rw [h0]; rfl, by omega, by omega, by rw [h0]; rfl, fun _ => rfl⟩
theorem walk (a : Option Addr) (n cap : Nat) (bs : List Int) (w : World) (h : RdB w (fun _ => True) a n cap bs) :
  Calls Tryz.prog 4 #[.slice a n cap] w fun e w' => e = .returned (.bool true) ∧ Grow w w' := by
 by_cases hbig : 1048576 < n
 ·go_enter Tryz.func4, Tryz.ntmps4
  go_wp2_with fail
  refine (big_c a n cap _ true (decide_eq_true hbig)).mono ?_
  rintro e _ ⟨rfl, rfl⟩
  go_wp2
  go_ret
  exact ⟨rfl, Grow.refl _⟩
 have hbg := decide_eq_false hbig
 go_enter Tryz.func4, Tryz.ntmps4
 go_wp2_with fail
 refine (big_c a n cap _ false hbg).mono ?_
 rintro e _ ⟨rfl, rfl⟩
 clear hbg
 go_wp2_with fail
 refine (DrawIsExactAt_c a n cap bs _ h (by omega)).mono ?_
 rintro e w1 ⟨v1, v2, v3, v4, v5, rfl, ⟨r, a1, n1, c1, rfl, p1⟩, ⟨s, a2, n2, c2, rfl, p2⟩, ⟨t, a3, n3, c3, rfl, p3⟩, ⟨f, a4, n4, c4, rfl, p4⟩, ⟨g, a5, n5, c5, rfl, p5⟩, hG1⟩
 obtain ⟨w2, hw2⟩ : ∃ w2, w2 = ((((w1.alloc (.cells #[.int .i64 r.rows, .int .i64 r.cols, .slice a1 n1 c1] 26)).alloc (.cells #[.int .i64 s.rows, .int .i64 s.cols, .slice a2 n2 c2] 26)).alloc (.cells #[.int .i64 t.rows, .int .i64 t.cols, .slice a3 n3 c3] 26)).alloc (.cells #[.int .i64 f.rows, .int .i64 f.cols, .slice a4 n4 c4] 26)).alloc (.cells #[.int .i64 g.rows, .int .i64 g.cols, .slice a5 n5 c5] 26) := ⟨_, rfl⟩
 have hG2 : Grow w1 w2 := by rw [hw2]; exact (((((Grow.refl _).alloc _ _).alloc _ _).alloc _ _).alloc _ _).alloc _ _
 have b1 : Blk w2 w1.heap.size #[.int .i64 r.rows, .int .i64 r.cols, .slice a1 n1 c1] 26 := by rw [hw2]; exact ((((Blk.new _ _ _).alloc _).alloc _).alloc _).alloc _
 have b2 : Blk w2 (w1.heap.size + 1) #[.int .i64 s.rows, .int .i64 s.cols, .slice a2 n2 c2] 26 := by rw [hw2]; exact (((Blk.newAt _ _ _ (by simp)).alloc _).alloc _).alloc _
 have b3 : Blk w2 (w1.heap.size + 1 + 1) #[.int .i64 t.rows, .int .i64 t.cols, .slice a3 n3 c3] 26 := by rw [hw2]; exact ((Blk.newAt _ _ _ (by simp)).alloc _).alloc _
 have b4 : Blk w2 (w1.heap.size + 1 + 1 + 1) #[.int .i64 f.rows, .int .i64 f.cols, .slice a4 n4 c4] 26 := by rw [hw2]; exact (Blk.newAt _ _ _ (by simp)).alloc _
 have b5 : Blk w2 (w1.heap.size + 1 + 1 + 1 + 1) #[.int .i64 g.rows, .int .i64 g.cols, .slice a5 n5 c5] 26 := by rw [hw2]; exact Blk.newAt _ _ _ (by simp)
 have V1 := (p1.grow hG2).vm
 have V2 := (p2.grow hG2).vm
 have V3 := (p3.grow hG2).vm
 have V4 := (p4.grow hG2).vm
 have V5 := (p5.grow hG2).vm
 have d1 : bdM r ≤ 1048576 := by have := p1.bd; omega
 have d2 : bdM s ≤ 1048576 := by have := p2.bd; omega
 have d3 : bdM t ≤ 1048576 := by have := p3.bd; omega
 have d4 : bdM f ≤ 1048576 := by have := p4.bd; omega
 have d5 : bdM g ≤ 1048576 := by have := p5.bd; omega
 have D1 := Lib.hid d1
 have D2 := Lib.hid d2
 have D3 := Lib.hid d3
 have D4 := Lib.hid d4
 have D5 := Lib.hid d5
 have hGw := hG1.trans hG2
 clear p1 p2 p3 p4 p5 hG1 d1 d2 d3 d4 d5 hbig h
 obtain ⟨⟨x10, x11, x12⟩, -⟩ := b1.three
 obtain ⟨⟨x20, x21, x22⟩, -⟩ := b2.three
 obtain ⟨⟨x30, x31, x32⟩, -⟩ := b3.three
 obtain ⟨⟨x40, x41, x42⟩, -⟩ := b4.three
 obtain ⟨⟨x50, x51, x52⟩, -⟩ := b5.three
 have l1 := b1.lt
 have l2 := b2.lt
 have l3 := b3.lt
 have l4 := b4.lt
 have l5 := b5.lt
 rw [hw2] at x10 x11 x12 x20 x21 x22 x30 x31 x32 x40 x41 x42 x50 x51 x52 l1 l2 l3 l4 l5
 go_wp2_with fail
 rw [← hw2]
 clear x10 x11 x12 x20 x21 x22 x30 x31 x32 x40 x41 x42 x50 x51 x52 l1 l2 l3 l4 l5 hw2 hG2
 refine (implIsExactAt_v V1 D1.out V2 D2.out V3 D3.out V4 D4.out V5 D5.out).mono ?_
 rintro e w3 ⟨rfl, hG3⟩
 have HS := Lib.hid (fun (ho : exOk r s t f g = true) (he : exB r s t f g = true) => exact_same ho he)
 have HZ := Lib.hid (fun (ho : exOk r s t f g = true) (he : exB r s t f g = true) (hm : mulOk f g = true) (R D i : Nat) hR hD hi hn => exact_zero (R := R) (D := D) (i := i) ho he hm hR hD hi hn)
 have hno : exOk r s t f g = false → exB r s t f g = false := fun e => (ex_no e).1
 obtain ⟨ex, hex⟩ : ∃ x, exB r s t f g = x := ⟨_, rfl⟩
 obtain ⟨ok, hok⟩ : ∃ x, exOk r s t f g = x := ⟨_, rfl⟩
 rw [hex, hok]
 rw [hex, hok] at HS HZ hno
 have Hex := Lib.hid hex
 have Hok := Lib.hid hok
 clear hex hok
 replace V1 := V1.grow hG3
 replace V2 := V2.grow hG3
 replace V3 := V3.grow hG3
 replace V4 := V4.grow hG3
 replace V5 := V5.grow hG3
 replace b1 := b1.grow hG3
 replace b2 := b2.grow hG3
 replace b3 := b3.grow hG3
 replace b4 := b4.grow hG3
 replace b5 := b5.grow hG3
 replace hGw := hGw.trans hG3
 clear hG3
 obtain ⟨⟨x10, x11, x12⟩, -⟩ := b1.three
 obtain ⟨⟨x20, x21, x22⟩, -⟩ := b2.three
 obtain ⟨⟨x30, x31, x32⟩, -⟩ := b3.three
 obtain ⟨⟨x40, x41, x42⟩, -⟩ := b4.three
 obtain ⟨⟨x50, x51, x52⟩, -⟩ := b5.three
 go_wp2_with fail
 clear x10 x11 x12 x20 x21 x22 x30 x31 x32 x40 x41 x42 x50 x51 x52
 refine (specIsExactAt_v V1 D1.out V2 D2.out V3 D3.out V4 D4.out V5 D5.out).mono ?_
 rintro e w4 ⟨rfl, hG4⟩
 rw [Hex.out, Hok.out]
 replace V1 := V1.grow hG4
 replace V2 := V2.grow hG4
 replace V3 := V3.grow hG4
 replace V4 := V4.grow hG4
 replace V5 := V5.grow hG4
 replace b1 := b1.grow hG4
 replace b2 := b2.grow hG4
 replace b3 := b3.grow hG4
 replace b4 := b4.grow hG4
 replace b5 := b5.grow hG4
 replace hGw := hGw.trans hG4
 clear hG4
 cases ok with
 | false =>
  obtain rfl := hno rfl
  go_wp2
  go_ret
  exact ⟨rfl, hGw⟩
 | true =>
  clear hno
  obtain ⟨⟨x10, x11, x12⟩, -⟩ := b1.three
  obtain ⟨⟨x20, x21, x22⟩, -⟩ := b2.three
  obtain ⟨⟨x30, x31, x32⟩, -⟩ := b3.three
  obtain ⟨⟨x40, x41, x42⟩, -⟩ := b4.three
  obtain ⟨⟨x50, x51, x52⟩, -⟩ := b5.three
  go_wp2_with fail
  clear x10 x11 x12 x20 x21 x22 x30 x31 x32 x40 x41 x42 x50 x51 x52
  refine (implCompose_v V4 D4.out V5 D5.out).mono ?_
  rintro e w5 ⟨cv, rfl, ⟨ca, cn, cc, rfl, oC, rC, fC, ic1, ic2⟩, hG5⟩
  obtain ⟨R, C, hpr, hpc, hR24, hC24, hl, hfit⟩ := comp_shape f g
  have HZ2 := Lib.hid (fun (he : ex = true) (hm : mulOk f g = true) (i : Nat) hi hn => HZ.out (by simp) he hm R C i hpr hpc hi hn)
  have rd := oC.rdI (S := fun _ => True) (fun _ _ => trivial) rC
  clear HZ oC rC fC ic1 ic2
  generalize mulB f g = M at *
  obtain ⟨mr, mc, m⟩ := M
  simp only at hpr hpc hl HZ2 rd
  subst hpr
  subst hpc
  generalize mulOk f g = fits at *
  replace V1 := V1.grow hG5
  replace V2 := V2.grow hG5
  replace V3 := V3.grow hG5
  replace V4 := V4.grow hG5
  replace V5 := V5.grow hG5
  replace b1 := b1.grow hG5
  replace b2 := b2.grow hG5
  replace b3 := b3.grow hG5
  replace b4 := b4.grow hG5
  replace b5 := b5.grow hG5
  replace hGw := hGw.trans hG5
  clear hG5
  obtain ⟨w6, hw6⟩ : ∃ w6, w6 = w5.alloc (.cells #[.int .i64 (R : Int), .int .i64 (C : Int), .slice ca cn cc] 26) := ⟨_, rfl⟩
  have hG6 : Grow w5 w6 := by rw [hw6]; exact (Grow.refl _).alloc _ _
  have bP : Blk w6 w5.heap.size #[.int .i64 (R : Int), .int .i64 (C : Int), .slice ca cn cc] 26 := by rw [hw6]; exact Blk.new _ _ _
  have rd5 := rd.grow hG6
  replace V1 := V1.grow hG6
  replace V2 := V2.grow hG6
  replace V3 := V3.grow hG6
  replace V4 := V4.grow hG6
  replace V5 := V5.grow hG6
  replace b1 := b1.grow hG6
  replace b2 := b2.grow hG6
  replace b3 := b3.grow hG6
  replace b4 := b4.grow hG6
  replace b5 := b5.grow hG6
  replace hGw := hGw.trans hG6
  have Hl := Lib.hid hl
  have Hw6 := Lib.hid hw6
  clear rd hG6 hw6 hl
  go_wp2_with fail
  rw [← Hw6.out]
  go_loopw [14, 15] (fun q i wr => Grow w6 wr ∧ ∃ (k : Nat) (zb : Bool), k ≤ R ∧ i = .int .i64 k ∧ q = .bool zb ∧ (ex = true → zb = true)) (fun _ i _ => R - (intOf i).toNat)
  case atStart => exact ⟨Grow.refl _, 0, true, Nat.zero_le _, rfl, rfl, fun _ => rfl⟩
  case round =>
   obtain ⟨hG, i, zb, hi, rfl, rfl, hzb⟩ := hrel
   have bPr := bP.grow hG
   have bSr := b3.grow hG
   have rdr := rd5.grow hG
   have hvS := V3.grow hG
   obtain ⟨⟨p0, p1, p2⟩, -⟩ := bPr.three
   by_cases hlt : i < R
   ·have hfits : fits = true := by
     cases fits with
     | true => rfl
     | false => have := hfit rfl; omega
    subst hfits
    have hrl := rowL_len Hl.out hlt
    have hrl0 := row_le Hl.out hlt
    have u1 := mul_wrap (i := i) (c := C) (by omega) (by omega)
    have u3 : IntKind.i64.wrap (((i : Int) + 1) * C) = ((i : Int) + 1) * C := by
     have := mul_wrap (i := i + 1) (c := C) (by omega) (by omega)
     simpa using this
    have hle := rdr.row.le
    have hpl := rdr.len
    have rsl := T_ints.atLH (a := ca) (n := cn) (cap := cc) (l := i * C) (k := i * C + C) (i := (i : Int) * C) (j := ((i : Int) + 1) * C) (by simp) (by rw [Int.add_mul]; simp) (by omega) (by omega)
    have rs := rdr.sub (l := i * C) (k := i * C + C) (by omega) (by omega)
    rw [show i * C + C - i * C = C by omega] at rsl rs
    have Hpl := Lib.hid hpl; clear hpl hrl0
    have hrl1 := Lib.hid hrl; clear hrl
    go_wp2
    refine wp_region_segs (S := Grow wr) [([0, 1, 2, 3, 4, 5, 6, 7, 8, 9, 10, 11, 12], some 13), ([14, 15, 16, 17, 18], none)] P_mixed (by kernel_rfl) (fun _ _ _ _ _ h => h) (Grow.refl _).drew ?_
    show wpQuiet _ _ _ _ [_, _, _, _, _, _, _, _, _, _, _, _, _] _
    repeat (first | go_big_quiet_skip | (go_big_quiet_want; first | (apply quiet_load3 T_mat; rfl; rfl; exact (fun w' hG => bSr.grow hG); go_big_quiet_on; simp only [Act.put, List.setIfInBounds_toArray, List.set_cons_succ, List.set_cons_zero]) | (apply quiet_load CT_ints; rfl; rfl; exact (fun w' hG => hG.cell p2); go_big_quiet_on; simp only [Act.put, List.setIfInBounds_toArray, List.set_cons_succ, List.set_cons_zero]) | (apply quiet_load CT_int; rfl; rfl; exact (fun w' hG => hG.cell p1); go_big_quiet_on; simp only [Act.put, List.setIfInBounds_toArray, List.set_cons_succ, List.set_cons_zero]) | (apply quiet_sliceLH (x := .tmp 77) (l := .tmp 81) (h := .tmp 86); rfl; exact rsl; go_big_quiet_on; simp only [Act.put, List.setIfInBounds_toArray, List.set_cons_succ, List.set_cons_zero]) | (go_big_quiet_op; first | go_big_quiet_on | (refine ⟨_, (fun _ _ => rfl), ?_⟩; go_big_quiet_on))))
    refine wpQuiet_nil ?_
    refine seg_go rfl (fun K hK => ?_)
    go_wp2_with fail
    refine (iIsZeroIn_c (v := rowL m C i) (hvS.grow (Grow.refl _).drew) D3.out ⟨_, _, _, rfl, rs.grow (Grow.refl _).drew⟩ (by unfold bdI; rw [hrl1.out]; omega)).mono ?_
    rintro e w8 ⟨rfl, hG8⟩
    have hGz := (Grow.refl wr).drew.trans hG8
    go_wp2_with fail
    refine hK _ _ (hGz) ?_
    clear hK K
    show wpQuiet _ _ _ _ [_, _, _, _, _] _
    try (conv => arg 6; simp only [Act.put, List.setIfInBounds_toArray, List.set_cons_succ, List.set_cons_zero])
    repeat (first | go_big_quiet_skip | (go_big_quiet_want; first | (apply quiet_load3 T_mat; rfl; rfl; exact (fun w' hG => bSr.grow hG); go_big_quiet_on; simp only [Act.put, List.setIfInBounds_toArray, List.set_cons_succ, List.set_cons_zero]) | (apply quiet_load CT_ints; rfl; rfl; exact (fun w' hG => hG.cell p2); go_big_quiet_on; simp only [Act.put, List.setIfInBounds_toArray, List.set_cons_succ, List.set_cons_zero]) | (apply quiet_load CT_int; rfl; rfl; exact (fun w' hG => hG.cell p1); go_big_quiet_on; simp only [Act.put, List.setIfInBounds_toArray, List.set_cons_succ, List.set_cons_zero]) | (apply quiet_sliceLH (x := .tmp 77) (l := .tmp 81) (h := .tmp 86); rfl; exact rsl; go_big_quiet_on; simp only [Act.put, List.setIfInBounds_toArray, List.set_cons_succ, List.set_cons_zero]) | (go_big_quiet_op; first | go_big_quiet_on | (refine ⟨_, (fun _ _ => rfl), ?_⟩; go_big_quiet_on))))
    refine wpQuiet_nil ?_
    refine wpSegs_nil ?_
    have HZi := Lib.hid (fun (he : ex = true) hn => HZ2.out he (by simp) i hlt hn)
    clear HZ2 p0 p1 p2 rsl rs rdr hle u1 u3
    generalize zinB t (rowL m C i) = zz at *
    generalize nrmB t (rowL m C i) = su at *
    have hGn := hG.trans hGz
    cases zb with
    | false =>
     go_wp2
     go_roundw
     case rel => exact ⟨hGn, i + 1, false, by omega, by go_num, rfl, hzb⟩
     case measure => simp [intOf]; omega
    | true =>
     cases zz with
     | true =>
      go_wp2
      go_roundw
      case rel => exact ⟨hGn, i + 1, true, by omega, by go_num, rfl, fun _ => rfl⟩
      case measure => simp [intOf]; omega
     | false =>
      cases su with
      | false =>
       go_wp2
       go_roundw
       case rel => exact ⟨hGn, i + 1, true, by omega, by go_num, rfl, fun _ => rfl⟩
       case measure => simp [intOf]; omega
      | true =>
       go_wp2
       go_roundw
       case rel => exact ⟨hGn, i + 1, false, by omega, by go_num, rfl, fun he => absurd (HZi.out he rfl) (by simp)⟩
       case measure => simp [intOf]; omega
   ·clear HZ2
    replace V1 := V1.grow hG
    replace V2 := V2.grow hG
    replace V3 := V3.grow hG
    replace V4 := V4.grow hG
    replace V5 := V5.grow hG
    replace b1 := b1.grow hG
    replace b2 := b2.grow hG
    replace b3 := b3.grow hG
    replace b4 := b4.grow hG
    replace b5 := b5.grow hG
    replace hGw := hGw.trans hG
    obtain ⟨⟨x10, x11, x12⟩, -⟩ := b1.three
    obtain ⟨⟨x20, x21, x22⟩, -⟩ := b2.three
    obtain ⟨⟨x30, x31, x32⟩, -⟩ := b3.three
    obtain ⟨⟨x40, x41, x42⟩, -⟩ := b4.three
    obtain ⟨⟨x50, x51, x52⟩, -⟩ := b5.three
    clear bPr bSr rdr hvS
    go_wp2_with fail
    clear x10 x11 x12 x20 x21 x22 x30 x31 x32 x40 x41 x42 x50 x51 x52
    refine (implImageIn_v V1 D1.out V2 D2.out V4 D4.out).mono ?_
    rintro e w7 ⟨x, rfl, hX, hG7⟩
    have hXb := hX
    obtain ⟨xa, xn, xc, rfl, rX⟩ := hX.rd (S := fun _ => True) fun _ _ => trivial
    replace V1 := V1.grow hG7
    replace V2 := V2.grow hG7
    replace V3 := V3.grow hG7
    replace V4 := V4.grow hG7
    replace V5 := V5.grow hG7
    replace b1 := b1.grow hG7
    replace b2 := b2.grow hG7
    replace b3 := b3.grow hG7
    replace b4 := b4.grow hG7
    replace b5 := b5.grow hG7
    replace hGw := hGw.trans hG7
    obtain ⟨⟨x10, x11, x12⟩, -⟩ := b1.three
    obtain ⟨⟨x20, x21, x22⟩, -⟩ := b2.three
    obtain ⟨⟨x30, x31, x32⟩, -⟩ := b3.three
    obtain ⟨⟨x40, x41, x42⟩, -⟩ := b4.three
    obtain ⟨⟨x50, x51, x52⟩, -⟩ := b5.three
    go_wp2_with fail
    clear x10 x11 x12 x20 x21 x22 x30 x31 x32 x40 x41 x42 x50 x51 x52
    refine (implKernelIn_v V2 D2.out V3 D3.out V5 D5.out).mono ?_
    rintro e w8 ⟨y, rfl, hY, hG8⟩
    obtain ⟨ya, yn, yc, rfl, rY⟩ := hY.rd (S := fun _ => True) fun _ _ => trivial
    replace rX := rX.grow hG8
    replace hGw := hGw.trans hG8
    clear hX hY hXb b1 b2 b3 b4 b5
    cases ex with
    | false =>
     go_wp2
     go_ret
     exact ⟨rfl, hGw⟩
    | true =>
     obtain rfl := hzb rfl
     obtain ⟨e1, e2⟩ := HS.out (by simp) (by simp)
     rw [← e1, ← e2] at rY ⊢
     have hLb : (mqB (imgIs r s f) (imB s f) (basB s)).length ≤ 2097152 := Nat.le_trans (mqB_bd _ _ _) (by decide)
     generalize mqB (imgIs r s f) (imB s f) (basB s) = L at *
     generalize mqN (imgIs r s f) (imB s f) (basB s) = N at *
     generalize mqOk (imgIs r s f) (imB s f) (basB s) = b at *
     have hxl := rX.len
     cases b with
     | false =>
      go_wp2
      go_ret
      exact ⟨rfl, hGw⟩
     | true =>
      go_wp2_with fail
      refine (sameInts_t _ _ _ _ _ _ L _ rX rY (by omega)).mono ?_
      rintro e w9 ⟨rfl, hQ⟩
      go_wp2
      go_ret
      exact ⟨rfl, hGw.trans hQ.grow⟩
theorem lifted (os : Os) (started : os.Started) (H : Type) (enc : TypeId × Value → H) :
  ReturnsInHanded {} Tryz.checked os 4 .any (Rows.fnExactSpec.pre6 enc Tryz.prog Tryz.f4 Rows.fnExactRow.domain false) (Rows.fnExactSpec.post enc Tryz.prog Tryz.f4 false true false false) := by
 refine law_close (C := Tryz.checked) (tb := 4) P_own started (by kernel_rfl) Tryz.func4
  (ChangeSpec.witness6 (enc := enc) (C := Tryz.checked) false ⟨#[], #[.slice none 0 0], []⟩ 8 (by kernel_rfl) (by kernel_rfl) (by kernel_rfl) (by kernel_rfl))
  P_laid ?_ rfl Tryz.underlying4 rfl ?_ ?_
 ·exact of_decide_eq_true (by kernel_rfl)
 ·intro ds hds
  match ds, hds with
  | [d0], _ => rfl
 ·intro W args ds ps hval0 hA0
  have hval : ∀ (j : Nat) t v, Tryz.f4.params[j]? = some t → args[j]? = some v → Value.okWide Tryz.prog W .any 0 t v := hval0
  have hA : DataW.TrodAll enc Tryz.prog W 0 (fun _ => true) true Tryz.f4.params.toList args.toList ds ps := hA0
  rw [Tryz.params4] at hA hval
  obtain ⟨v0, vs0, d0, ds0, p0, q0, hargs, rfl, rfl, h0, r0⟩ := trodAll_cons hA
  obtain ⟨rfl, rfl, rfl⟩ := trodAll_nil r0
  obtain rfl : args = #[v0] := by cases args; simp_all
  obtain ⟨x0a, x0n, x0c, x0, rfl, hx0⟩ := openB Tryz.underlying22 Tryz.underlying5 cells_u8 (hval 0 22 v0 rfl rfl) h0
  exact walk _ _ _ x0 W hx0
theorem proved : Rows.FnExactSaid :=
 OpenClaim.holds_of_wide 4 Tryz.f4 rfl rfl rfl rfl rfl rfl rfl ⟨rfl, rfl, rfl, rfl, rfl⟩ rfl rfl rfl rfl rfl (by kernel_rfl) Tryz.func4 (by kernel_rfl)
  (of_decide_eq_true (by kernel_rfl)) (by unfold Func.isWrapper; first | (rw [if_pos (by decide +kernel)]; kernel_rfl) | (rw [if_neg (by decide +kernel)]; exact ⟨rfl, rfl⟩))
  (fun os started H enc _ => lifted os started H enc)
end Go.Proofs.YtoiblknchcoecaaGreat.lawFnExact
