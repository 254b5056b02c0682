/-
  The law FnMaps returns true for all arguments: kernel and image of a map have as many elements together as the module, and image and what is left of the other module as many as that. No condition.
-/
import Derived.Test.YtoiblknchcoecaaGreatZDrawK
import Derived.Test.YtoiblknchcoecaaGreatZMinP
set_option maxHeartbeats 8000000
set_option maxRecDepth 100000
namespace Go.Proofs.YtoiblknchcoecaaGreat.lawFnMaps
open Go.ChangeShapes Go.WideShapes Go.ChangeAt Go.RowKit
theorem cells_u8 : Tryz.prog.cellsOf 5 = 1 := by kernel_rfl
theorem big_c (a : Option Addr) (n cap : Nat) (w : World) (b : Bool) (hb : decide (1048576 < n) = b) :
  Calls Tryz.prog 5 #[.slice a n cap] w fun e w' => e = .returned (.bool b) ∧ w = w' := by
 cases b with
 | true =>
  have h := of_decide_eq_true hb
  go_enter Tryz.func5, Tryz.ntmps5
  go_wp2
  go_ret
  exact ⟨ret_bool (by simp; omega), rfl⟩
 | false =>
  have h := of_decide_eq_false hb
  go_enter Tryz.func5, Tryz.ntmps5
  go_wp2
  go_ret
  exact ⟨ret_bool (by simp; omega), rfl⟩
theorem abs_c (x : Int) (w : World) (hx : 0 ≤ x ∧ x ≤ 1152921504606846976) : Calls Tryz.prog 33 #[.int .i64 x] w fun e w' => e = .returned (.int .i64 x) ∧ w = w' := by
 go_enter Tryz.func33, Tryz.ntmps33
 go_wp2
 all_goals (go_ret; exact ⟨ret_int (by omega), rfl⟩)
theorem product_c {S : Nat → Prop} (a : Option Addr) (n cap : Nat) (xs : List Int) (w : World) (h : RdI w S a n cap xs) (hx : ∀ x ∈ xs, 1 ≤ x ∧ x ≤ 400000000) (hp : ∀ k, k < n → prd (xs.take k) < 1073741824) :
  Calls Tryz.prog 13 #[.slice a n cap] w fun e w' => e = .returned (.int .i64 (prd xs)) ∧ Grow w w' := by
 have hl := h.len
 have hmax : n ≤ 9223372036854775807 := by have h2 := h.row.max; have h3 := h.row.le; simp only [maxLen] at h2; omega
 have HX := Lib.hid hx
 have HP := Lib.hid hp
 clear hx hp
 go_enter Tryz.func13, Tryz.ntmps13
 go_wp2
 go_loopw [3, 4] (fun q i wr => Grow w wr ∧ ∃ k : Nat, k ≤ n ∧ i = .int .i64 k ∧ q = .int .i64 (prd (xs.take k))) (fun _ i _ => n - (intOf i).toNat)
 case atStart => exact ⟨Grow.refl _, 0, Nat.zero_le _, rfl, by simp [prd]⟩
 case round =>
  obtain ⟨hG, k, hk, rfl, rfl⟩ := hrel
  by_cases hlt : k < n
  ·obtain ⟨b1, o1, x, rfl, hxk, hxr, _, hb1, hc1⟩ := (h.grow hG).at hlt
   have h1 := HX.out x (List.mem_of_getElem? hxk)
   have h2 := HP.out k hlt
   have h3 := (prd_take (l := xs) (fun x hx => (HX.out x hx).1) k).1
   have h4 : prd (xs.take (k + 1)) = prd (xs.take k) * x := by rw [take_succ hxk, prd_snoc]
   obtain ⟨P, hP⟩ : ∃ P, prd (xs.take k) = P := ⟨_, rfl⟩
   obtain ⟨P', hP'⟩ : ∃ P, prd (xs.take (k + 1)) = P := ⟨_, rfl⟩
   rw [hP] at h2 h3 h4
   rw [hP'] at h4
   rw [hP]
   have h5 : P * x ≤ 1073741824 * 400000000 := Int.mul_le_mul (by omega) (by omega) (by omega) (by omega)
   have h6 : 0 ≤ P * x := Int.mul_nonneg (by omega) (by omega)
   have hw : wrap64 (P * x) = P' := by rw [h4]; unfold wrap64; omega
   have HP' := Lib.hid hP'
   clear h4 h5 h6 hP hP' HX HP hxk
   go_wp2_with (go_at_call 33; refine (abs_c P _ (by omega)).mono ?_; rintro e w' ⟨rfl, rfl⟩)
   go_roundw
   case rel => exact ⟨hG, k + 1, by omega, by go_num, by rw [HP'.out, hw]⟩
   case measure => simp [intOf]; omega
  ·obtain rfl : k = n := by omega
   go_wp2
   go_ret
   exact ⟨by rw [take_all hl]; rfl, hG⟩
theorem walk (a : Option Addr) (n cap : Nat) (bs : List Int) (w : World) (h : RdB w (fun _ => True) a n cap bs) :
  Calls Tryz.prog 3 #[.slice a n cap] w fun e w' => e = .returned (.bool true) ∧ Grow w w' := by
 by_cases hbig : 1048576 < n
 ·go_enter Tryz.func3, Tryz.ntmps3
  go_wp2_with fail
  refine (big_c a n cap _ true (decide_eq_true hbig)).mono ?_
  rintro e _ ⟨rfl, rfl⟩
  go_wp2
  go_ret
  exact ⟨rfl, Grow.refl _⟩
 have hbg := decide_eq_false hbig
 go_enter Tryz.func3, Tryz.ntmps3
 go_wp2_with fail
 refine (big_c a n cap _ false hbg).mono ?_
 rintro e _ ⟨rfl, rfl⟩
 clear hbg
 go_wp2_with fail
 refine (DrawKernelIn_c a n cap bs _ h (by omega)).mono ?_
 rintro e w1 ⟨v1, v2, v3, rfl, ⟨r, a1, n1, c1, rfl, p1, sr⟩, ⟨s, a2, n2, c2, rfl, p2, ss⟩, ⟨f, a3, n3, c3, rfl, p3⟩, hG1⟩
 obtain ⟨w2, hw2⟩ : ∃ w2, w2 = (((w1.alloc (.cells #[.int .i64 r.rows, .int .i64 r.cols, .slice a1 n1 c1] 26)).alloc (.cells #[.int .i64 s.rows, .int .i64 s.cols, .slice a2 n2 c2] 26)).alloc (.cells #[.int .i64 f.rows, .int .i64 f.cols, .slice a3 n3 c3] 26)) := ⟨_, rfl⟩
 have hG2 : Grow w1 w2 := by rw [hw2]; exact (((Grow.refl _).alloc _ _).alloc _ _).alloc _ _
 have b1 : Blk w2 w1.heap.size #[.int .i64 r.rows, .int .i64 r.cols, .slice a1 n1 c1] 26 := by rw [hw2]; exact ((Blk.new _ _ _).alloc _).alloc _
 have b2 : Blk w2 (w1.heap.size + 1) #[.int .i64 s.rows, .int .i64 s.cols, .slice a2 n2 c2] 26 := by rw [hw2]; exact (Blk.newAt _ _ _ (by simp)).alloc _
 have b3 : Blk w2 (w1.heap.size + 1 + 1) #[.int .i64 f.rows, .int .i64 f.cols, .slice a3 n3 c3] 26 := by rw [hw2]; exact Blk.newAt _ _ _ (by simp)
 have V1 := (p1.grow hG2).vm
 have V2 := (p2.grow hG2).vm
 have V3 := (p3.grow hG2).vm
 have d1 : bdM r ≤ 1048576 := by have := p1.bd; omega
 have d2 : bdM s ≤ 1048576 := by have := p2.bd; omega
 have d3 : bdM f ≤ 1048576 := by have := p3.bd; omega
 have D1 := Lib.hid d1
 have D2 := Lib.hid d2
 have D3 := Lib.hid d3
 have Sr' : SdR r := sr
 have Ss' : SdR s := ss
 have SR := Lib.hid Sr'
 have SS' := Lib.hid Ss'
 have hGw := hG1.trans hG2
 clear p1 p2 p3 hG1 d1 d2 d3 hbig h sr ss Sr' Ss'
 obtain ⟨⟨x10, x11, x12⟩, -⟩ := b1.three
 obtain ⟨⟨x20, x21, x22⟩, -⟩ := b2.three
 obtain ⟨⟨x30, x31, x32⟩, -⟩ := b3.three
 have l1 := b1.lt
 have l2 := b2.lt
 have l3 := b3.lt
 rw [hw2] at x10 x11 x12 x20 x21 x22 x30 x31 x32 l1 l2 l3
 go_wp2_with fail
 rw [← hw2]
 clear x10 x11 x12 x20 x21 x22 x30 x31 x32 l1 l2 l3 hw2 hG2
 refine (implKernelIn_v V1 D1.out V2 D2.out V3 D3.out).mono ?_
 rintro e w3 ⟨va, rfl, hA, hG3⟩
 obtain ⟨ta, hb1⟩ : ∃ x, mqOk (kerIs r s f) (tzB s f) (basB r) = x := ⟨_, rfl⟩
 obtain ⟨M1, hM1⟩ : ∃ x, mqN (kerIs r s f) (tzB s f) (basB r) = x := ⟨_, rfl⟩
 obtain ⟨LA, hLA⟩ : ∃ x, mqB (kerIs r s f) (tzB s f) (basB r) = x := ⟨_, rfl⟩
 rw [hb1, hM1]
 rw [hLA] at hA
 have HB1 := Lib.hid hb1
 have HM1 := Lib.hid hM1
 have HLA := Lib.hid hLA
 clear hb1 hM1 hLA
 obtain ⟨aa, an, ac, rfl, rA⟩ := hA.rd (S := fun _ => True) fun _ _ => trivial
 clear hA
 replace V1 := V1.grow hG3
 replace V2 := V2.grow hG3
 replace V3 := V3.grow hG3
 replace b1 := b1.grow hG3
 replace b2 := b2.grow hG3
 replace b3 := b3.grow hG3
 replace hGw := hGw.trans hG3
 clear hG3
 obtain ⟨⟨x10, x11, x12⟩, -⟩ := b1.three
 obtain ⟨⟨x20, x21, x22⟩, -⟩ := b2.three
 obtain ⟨⟨x30, x31, x32⟩, -⟩ := b3.three
 go_wp2_with fail
 clear x10 x11 x12 x20 x21 x22 x30 x31 x32
 refine (implImageIn_v V1 D1.out V2 D2.out V3 D3.out).mono ?_
 rintro e w4 ⟨vb, rfl, hB, hG4⟩
 obtain ⟨tb, hb2⟩ : ∃ x, mqOk (imgIs r s f) (imB s f) (basB s) = x := ⟨_, rfl⟩
 obtain ⟨M2, hM2⟩ : ∃ x, mqN (imgIs r s f) (imB s f) (basB s) = x := ⟨_, rfl⟩
 obtain ⟨LB, hLB⟩ : ∃ x, mqB (imgIs r s f) (imB s f) (basB s) = x := ⟨_, rfl⟩
 rw [hb2, hM2]
 rw [hLB] at hB
 have HB2 := Lib.hid hb2
 have HM2 := Lib.hid hM2
 have HLB := Lib.hid hLB
 clear hb2 hM2 hLB
 obtain ⟨ba, bn, bc, rfl, rB⟩ := hB.rd (S := fun _ => True) fun _ _ => trivial
 clear hB
 replace rA := rA.grow hG4
 replace V1 := V1.grow hG4
 replace V2 := V2.grow hG4
 replace V3 := V3.grow hG4
 replace b1 := b1.grow hG4
 replace b2 := b2.grow hG4
 replace b3 := b3.grow hG4
 replace hGw := hGw.trans hG4
 clear hG4
 obtain ⟨⟨x10, x11, x12⟩, -⟩ := b1.three
 obtain ⟨⟨x20, x21, x22⟩, -⟩ := b2.three
 obtain ⟨⟨x30, x31, x32⟩, -⟩ := b3.three
 go_wp2_with fail
 clear x10 x11 x12 x20 x21 x22 x30 x31 x32
 refine (implCokernelIn_v V1 D1.out V2 D2.out V3 D3.out).mono ?_
 rintro e w5 ⟨vc, rfl, hC, hG5⟩
 obtain ⟨tc, hb3⟩ : ∃ x, cokOk r s f = x := ⟨_, rfl⟩
 obtain ⟨M3, hM3⟩ : ∃ x, cokN r s f = x := ⟨_, rfl⟩
 obtain ⟨LC, hLC⟩ : ∃ x, cokB r s f = x := ⟨_, rfl⟩
 rw [hb3, hM3]
 rw [hLC] at hC
 have HB3 := Lib.hid hb3
 have HM3 := Lib.hid hM3
 have HLC := Lib.hid hLC
 clear hb3 hM3 hLC
 obtain ⟨ca, cn, cc, rfl, rC⟩ := hC.rd (S := fun _ => True) fun _ _ => trivial
 clear hC
 replace rA := rA.grow hG5
 replace rB := rB.grow hG5
 replace V1 := V1.grow hG5
 replace V2 := V2.grow hG5
 replace V3 := V3.grow hG5
 replace b1 := b1.grow hG5
 replace b2 := b2.grow hG5
 replace b3 := b3.grow hG5
 replace hGw := hGw.trans hG5
 clear hG5
 obtain ⟨⟨x10, x11, x12⟩, -⟩ := b1.three
 obtain ⟨⟨x20, x21, x22⟩, -⟩ := b2.three
 obtain ⟨⟨x30, x31, x32⟩, -⟩ := b3.three
 go_wp2_with fail
 clear x10 x11 x12 x20 x21 x22 x30 x31 x32
 refine (implIsMap_v V1 D1.out V2 D2.out V3 D3.out).mono ?_
 rintro e w6 ⟨rfl, hG6⟩
 replace rA := rA.grow hG6
 replace rB := rB.grow hG6
 replace rC := rC.grow hG6
 replace V1 := V1.grow hG6
 replace V2 := V2.grow hG6
 replace V3 := V3.grow hG6
 replace b1 := b1.grow hG6
 replace b2 := b2.grow hG6
 replace b3 := b3.grow hG6
 replace hGw := hGw.trans hG6
 clear hG6
 cases hm : mapB r s f with
 | false =>
  have Hm := Lib.hid hm
  obtain ⟨e1, e2, e3⟩ := maps_no hm
  have e1' : false = ta := e1.symm.trans HB1.out
  have e2' : false = tb := e2.symm.trans HB2.out
  have e3' : false = tc := e3.symm.trans HB3.out
  subst e1' e2' e3'
  clear e1 e2 e3 hm
  obtain ⟨⟨x10, x11, x12⟩, -⟩ := b1.three
  obtain ⟨⟨x20, x21, x22⟩, -⟩ := b2.three
  obtain ⟨⟨x30, x31, x32⟩, -⟩ := b3.three
  go_wp2_with fail
  clear x10 x11 x12 x20 x21 x22 x30 x31 x32
  refine (specIsMap_v V1 D1.out V2 D2.out V3 D3.out).mono ?_
  rintro e w7 ⟨rfl, hG7⟩
  rw [Hm.out]
  go_wp2
  go_ret
  exact ⟨rfl, hGw.trans hG7⟩
 | true =>
  clear hm
  obtain ⟨⟨x10, x11, x12⟩, -⟩ := b1.three
  obtain ⟨⟨x20, x21, x22⟩, -⟩ := b2.three
  obtain ⟨⟨x30, x31, x32⟩, -⟩ := b3.three
  go_wp2_with fail
  clear x10 x11 x12 x20 x21 x22 x30 x31 x32
  refine (iInvariants_c V1 D1.out).mono ?_
  rintro e w7 ⟨vo, rfl, hO, hG7⟩
  obtain ⟨td, hb4⟩ : ∃ x, facOk r = x := ⟨_, rfl⟩
  obtain ⟨N1, hN1⟩ : ∃ x, invN r = x := ⟨_, rfl⟩
  obtain ⟨LO, hLO⟩ : ∃ x, gt1 (facB r) = x := ⟨_, rfl⟩
  rw [hb4, hN1]
  rw [hLO] at hO
  have HB4 := Lib.hid hb4
  have HN1 := Lib.hid hN1
  have HLO := Lib.hid hLO
  clear hb4 hN1 hLO
  obtain ⟨oa, on, oc, rfl, rO⟩ := hO.rd (S := fun _ => True) fun _ _ => trivial
  clear hO
  replace rA := rA.grow hG7
  replace rB := rB.grow hG7
  replace rC := rC.grow hG7
  replace V1 := V1.grow hG7
  replace V2 := V2.grow hG7
  replace V3 := V3.grow hG7
  replace b1 := b1.grow hG7
  replace b2 := b2.grow hG7
  replace b3 := b3.grow hG7
  replace hGw := hGw.trans hG7
  clear hG7
  obtain ⟨⟨x10, x11, x12⟩, -⟩ := b1.three
  obtain ⟨⟨x20, x21, x22⟩, -⟩ := b2.three
  obtain ⟨⟨x30, x31, x32⟩, -⟩ := b3.three
  go_wp2_with fail
  clear x10 x11 x12 x20 x21 x22 x30 x31 x32
  refine (iInvariants_c V2 D2.out).mono ?_
  rintro e w8 ⟨vp, rfl, hP, hG8⟩
  obtain ⟨tp, hb5⟩ : ∃ x, facOk s = x := ⟨_, rfl⟩
  obtain ⟨N2, hN2⟩ : ∃ x, invN s = x := ⟨_, rfl⟩
  obtain ⟨LP, hLP⟩ : ∃ x, gt1 (facB s) = x := ⟨_, rfl⟩
  rw [hb5, hN2]
  rw [hLP] at hP
  have HM := Lib.hid (maps_all SR.out SS'.out HB1.out HB2.out HB3.out HB4.out hb5 HM1.out HM2.out HM3.out HN1.out hN2 HLA.out HLB.out HLC.out HLO.out hLP)
  clear hb5 hN2 hLP HB1 HB2 HB3 HB4 HM1 HM2 HM3 HN1 HLA HLB HLC HLO SR SS'
  obtain ⟨pa, pn, pc, rfl, rP⟩ := hP.rd (S := fun _ => True) fun _ _ => trivial
  clear hP
  replace rA := rA.grow hG8
  replace rB := rB.grow hG8
  replace rC := rC.grow hG8
  replace rO := rO.grow hG8
  replace hGw := hGw.trans hG8
  clear V1 V2 V3 b1 b2 b3 hG8
  cases ta with
  | false => go_wp2; go_ret; exact ⟨rfl, hGw⟩
  | true =>
   cases tb with
   | false => go_wp2; go_ret; exact ⟨rfl, hGw⟩
   | true =>
    cases tc with
    | false => go_wp2; go_ret; exact ⟨rfl, hGw⟩
    | true =>
     cases td with
     | false => go_wp2; go_ret; exact ⟨rfl, hGw⟩
     | true =>
      cases tp with
      | false => go_wp2; go_ret; exact ⟨rfl, hGw⟩
      | true =>
       obtain ⟨g1, g2, g3, g4, g5, g6, g7⟩ := HM.out rfl rfl rfl rfl rfl
       have G6 := Lib.hid g6
       have G7 := Lib.hid g7
       clear g6 g7 HM
       subst g1 g2
       have w1' : wrap64 (M1 + M2) = M1 + M2 := by unfold wrap64; omega
       have w2' : wrap64 (M2 + M3) = M2 + M3 := by unfold wrap64; omega
       have HW1 := Lib.hid w1'
       have HW2 := Lib.hid w2'
       by_cases z1 : M1 + M2 = 0
       ·have zz1 : ¬ 0 < M1 + M2 := by omega
        obtain ⟨s1, s2, s3, s4⟩ := G6.out z1
        have tA := small_bd s1
        have tB := small_bd s2
        have tC := small_bd s3
        obtain ⟨PA, hPA⟩ : ∃ x, prd LA = x := ⟨_, rfl⟩
        obtain ⟨PB, hPB⟩ : ∃ x, prd LB = x := ⟨_, rfl⟩
        obtain ⟨PC, hPC⟩ : ∃ x, prd LO = x := ⟨_, rfl⟩
        rw [hPA] at tA s4
        rw [hPB] at tB s4
        rw [hPC] at tC s4
        have hw : wrap64 (PA * PB) = PC := by rw [s4]; unfold wrap64; omega
        have HPA := Lib.hid hPA
        have HPB := Lib.hid hPB
        have HPC := Lib.hid hPC
        have S1 := Lib.hid s1
        have S2 := Lib.hid s2
        have S3 := Lib.hid s3
        clear s1 s2 s3 s4 hPA hPB hPC tA tB tC
        go_wp2_with fail
        refine (product_c _ _ _ LA _ rA S1.out.1 (fun k hk => S1.out.2 k (by have := rA.len; omega))).mono ?_
        rintro e wx ⟨rfl, hGx⟩
        rw [HPA.out]
        replace rA := rA.grow hGx
        replace rB := rB.grow hGx
        replace rC := rC.grow hGx
        replace rO := rO.grow hGx
        replace rP := rP.grow hGx
        replace hGw := hGw.trans hGx
        clear hGx
        go_wp2_with fail
        refine (product_c _ _ _ LB _ rB S2.out.1 (fun k hk => S2.out.2 k (by have := rB.len; omega))).mono ?_
        rintro e wy ⟨rfl, hGx⟩
        rw [HPB.out]
        replace rA := rA.grow hGx
        replace rB := rB.grow hGx
        replace rC := rC.grow hGx
        replace rO := rO.grow hGx
        replace rP := rP.grow hGx
        replace hGw := hGw.trans hGx
        clear hGx
        go_wp2_with fail
        refine (product_c _ _ _ LO _ rO S3.out.1 (fun k hk => S3.out.2 k (by have := rO.len; omega))).mono ?_
        rintro e wz ⟨rfl, hGx⟩
        rw [HPC.out]
        replace rA := rA.grow hGx
        replace rB := rB.grow hGx
        replace rC := rC.grow hGx
        replace rO := rO.grow hGx
        replace rP := rP.grow hGx
        replace hGw := hGw.trans hGx
        clear hGx
        by_cases z2 : M2 + M3 = 0
        ·have zz2 : ¬ 0 < M2 + M3 := by omega
         obtain ⟨s1, s2, s3, s4⟩ := G7.out z2
         have tA := small_bd s1
         have tB := small_bd s2
         have tC := small_bd s3
         obtain ⟨PA, hPA⟩ : ∃ x, prd LB = x := ⟨_, rfl⟩
         obtain ⟨PB, hPB⟩ : ∃ x, prd LC = x := ⟨_, rfl⟩
         obtain ⟨PC, hPC⟩ : ∃ x, prd LP = x := ⟨_, rfl⟩
         rw [hPA] at tA s4
         rw [hPB] at tB s4
         rw [hPC] at tC s4
         have hw : wrap64 (PA * PB) = PC := by rw [s4]; unfold wrap64; omega
         have HPA := Lib.hid hPA
         have HPB := Lib.hid hPB
         have HPC := Lib.hid hPC
         have S1 := Lib.hid s1
         have S2 := Lib.hid s2
         have S3 := Lib.hid s3
         clear s1 s2 s3 s4 hPA hPB hPC tA tB tC
         go_wp2_with fail
         refine (product_c _ _ _ LB _ rB S1.out.1 (fun k hk => S1.out.2 k (by have := rB.len; omega))).mono ?_
         rintro e wx ⟨rfl, hGx⟩
         rw [HPA.out]
         replace rA := rA.grow hGx
         replace rB := rB.grow hGx
         replace rC := rC.grow hGx
         replace rO := rO.grow hGx
         replace rP := rP.grow hGx
         replace hGw := hGw.trans hGx
         clear hGx
         go_wp2_with fail
         refine (product_c _ _ _ LC _ rC S2.out.1 (fun k hk => S2.out.2 k (by have := rC.len; omega))).mono ?_
         rintro e wy ⟨rfl, hGx⟩
         rw [HPB.out]
         replace rA := rA.grow hGx
         replace rB := rB.grow hGx
         replace rC := rC.grow hGx
         replace rO := rO.grow hGx
         replace rP := rP.grow hGx
         replace hGw := hGw.trans hGx
         clear hGx
         go_wp2_with fail
         refine (product_c _ _ _ LP _ rP S3.out.1 (fun k hk => S3.out.2 k (by have := rP.len; omega))).mono ?_
         rintro e wz ⟨rfl, hGx⟩
         rw [HPC.out]
         replace rA := rA.grow hGx
         replace rB := rB.grow hGx
         replace rC := rC.grow hGx
         replace rO := rO.grow hGx
         replace rP := rP.grow hGx
         replace hGw := hGw.trans hGx
         clear hGx
         go_wp2
         go_ret
         exact ⟨rfl, hGw⟩
        ·have zz2 : 0 < M2 + M3 := by omega
         go_wp2
         go_ret
         exact ⟨rfl, hGw⟩
       ·have zz1 : 0 < M1 + M2 := by omega
        by_cases z2 : M2 + M3 = 0
        ·have zz2 : ¬ 0 < M2 + M3 := by omega
         obtain ⟨s1, s2, s3, s4⟩ := G7.out z2
         have tA := small_bd s1
         have tB := small_bd s2
         have tC := small_bd s3
         obtain ⟨PA, hPA⟩ : ∃ x, prd LB = x := ⟨_, rfl⟩
         obtain ⟨PB, hPB⟩ : ∃ x, prd LC = x := ⟨_, rfl⟩
         obtain ⟨PC, hPC⟩ : ∃ x, prd LP = x := ⟨_, rfl⟩
         rw [hPA] at tA s4
         rw [hPB] at tB s4
         rw [hPC] at tC s4
         have hw : wrap64 (PA * PB) = PC := by rw [s4]; unfold wrap64; omega
         have HPA := Lib.hid hPA
         have HPB := Lib.hid hPB
         have HPC := Lib.hid hPC
         have S1 := Lib.hid s1
         have S2 := Lib.hid s2
         have S3 := Lib.hid s3
         clear s1 s2 s3 s4 hPA hPB hPC tA tB tC
         go_wp2_with fail
         refine (product_c _ _ _ LB _ rB S1.out.1 (fun k hk => S1.out.2 k (by have := rB.len; omega))).mono ?_
         rintro e wx ⟨rfl, hGx⟩
         rw [HPA.out]
         replace rA := rA.grow hGx
         replace rB := rB.grow hGx
         replace rC := rC.grow hGx
         replace rO := rO.grow hGx
         replace rP := rP.grow hGx
         replace hGw := hGw.trans hGx
         clear hGx
         go_wp2_with fail
         refine (product_c _ _ _ LC _ rC S2.out.1 (fun k hk => S2.out.2 k (by have := rC.len; omega))).mono ?_
         rintro e wy ⟨rfl, hGx⟩
         rw [HPB.out]
         replace rA := rA.grow hGx
         replace rB := rB.grow hGx
         replace rC := rC.grow hGx
         replace rO := rO.grow hGx
         replace rP := rP.grow hGx
         replace hGw := hGw.trans hGx
         clear hGx
         go_wp2_with fail
         refine (product_c _ _ _ LP _ rP S3.out.1 (fun k hk => S3.out.2 k (by have := rP.len; omega))).mono ?_
         rintro e wz ⟨rfl, hGx⟩
         rw [HPC.out]
         replace rA := rA.grow hGx
         replace rB := rB.grow hGx
         replace rC := rC.grow hGx
         replace rO := rO.grow hGx
         replace rP := rP.grow hGx
         replace hGw := hGw.trans hGx
         clear hGx
         go_wp2
         go_ret
         exact ⟨rfl, hGw⟩
        ·have zz2 : 0 < M2 + M3 := by omega
         go_wp2
         go_ret
         exact ⟨rfl, hGw⟩
theorem lifted (os : Os) (started : os.Started) (H : Type) (enc : TypeId × Value → H) :
  ReturnsInHanded {} Tryz.checked os 3 .any (Rows.fnMapsSpec.pre6 enc Tryz.prog Tryz.f3 Rows.fnMapsRow.domain false) (Rows.fnMapsSpec.post enc Tryz.prog Tryz.f3 false true false false) := by
 refine law_close (C := Tryz.checked) (tb := 4) P_own started (by kernel_rfl) Tryz.func3
  (ChangeSpec.witness6 (enc := enc) (C := Tryz.checked) false ⟨#[], #[.slice none 0 0], []⟩ 8 (by kernel_rfl) (by kernel_rfl) (by kernel_rfl) (by kernel_rfl))
  P_laid ?_ rfl Tryz.underlying4 rfl ?_ ?_
 ·exact of_decide_eq_true (by kernel_rfl)
 ·intro ds hds
  match ds, hds with
  | [d0], _ => rfl
 ·intro W args ds ps hval0 hA0
  have hval : ∀ (j : Nat) t v, Tryz.f3.params[j]? = some t → args[j]? = some v → Value.okWide Tryz.prog W .any 0 t v := hval0
  have hA : DataW.TrodAll enc Tryz.prog W 0 (fun _ => true) true Tryz.f3.params.toList args.toList ds ps := hA0
  rw [Tryz.params3] at hA hval
  obtain ⟨v0, vs0, d0, ds0, p0, q0, hargs, rfl, rfl, h0, r0⟩ := trodAll_cons hA
  obtain ⟨rfl, rfl, rfl⟩ := trodAll_nil r0
  obtain rfl : args = #[v0] := by cases args; simp_all
  obtain ⟨x0a, x0n, x0c, x0, rfl, hx0⟩ := openB Tryz.underlying22 Tryz.underlying5 cells_u8 (hval 0 22 v0 rfl rfl) h0
  exact walk _ _ _ x0 W hx0
theorem proved : Rows.FnMapsSaid :=
 OpenClaim.holds_of_wide 3 Tryz.f3 rfl rfl rfl rfl rfl rfl rfl ⟨rfl, rfl, rfl, rfl, rfl⟩ rfl rfl rfl rfl rfl (by kernel_rfl) Tryz.func3 (by kernel_rfl)
  (of_decide_eq_true (by kernel_rfl)) (by unfold Func.isWrapper; first | (rw [if_pos (by decide +kernel)]; kernel_rfl) | (rw [if_neg (by decide +kernel)]; exact ⟨rfl, rfl⟩))
  (fun os started H enc _ => lifted os started H enc)
end Go.Proofs.YtoiblknchcoecaaGreat.lawFnMaps
