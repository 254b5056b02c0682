/-
  OrderIn: the program's and the reference's.
-/
import Derived.Test.YtoiblknchcoecaaZAdd
import Derived.Test.YtoiblknchcoecaaZEchI
import Derived.Test.YtoiblknchcoecaaZOrdP
import Derived.Test.YtoiblknchcoecaaZNorm
import Derived.Test.YtoiblknchcoecaaZBase
set_option maxHeartbeats 8000000
set_option maxRecDepth 100000
namespace Go.Proofs.Ytoiblknchcoecaa
open Go.RowKit
def ordN (r : Mat) (x : List Int) : Nat → Nat → List Int → Int × Bool
 | 0, _, _ => (0, false)
 | f + 1, n, s => if zeroL s = true then ((n : Int), true) else if nrmB r (adL s x) = true then ordN r x f (n + 1) (nrmL r (adL s x)) else (0, false)
def ordOk (r : Mat) (v : List Int) : Bool := stackOk r (rowM v) && (ecOk r && ecOk (stackB r (rowM v)))
def ordR (r : Mat) (v : List Int) : Int × Bool := if nrmB r v = true then (if ordOk r v = true then (if ecT r < ecT (stackB r (rowM v)) then (0, true) else ordN r (nrmL r v) 500 1 (nrmL r v)) else (0, false)) else (0, false)
theorem ord_none {r : Mat} {v : List Int} (h : nrmB r v = false) : ordR r v = (0, false) := by unfold ordR; rw [h]; rfl
theorem ord_bad {r : Mat} {v : List Int} (h : ordOk r v = false) : ordR r v = (0, false) := by
 unfold ordR; rw [h]; simp
theorem ord_free {r : Mat} {v : List Int} (h1 : nrmB r v = true) (h2 : ordOk r v = true) (h3 : ecT r < ecT (stackB r (rowM v))) : ordR r v = (0, true) := by
 unfold ordR; rw [if_pos h1, if_pos h2, if_pos h3]
theorem ord_run {r : Mat} {v : List Int} (h1 : nrmB r v = true) (h2 : ordOk r v = true) (h3 : ¬ ecT r < ecT (stackB r (rowM v))) : ordR r v = ordN r (nrmL r v) 500 1 (nrmL r v) := by
 unfold ordR; rw [if_pos h1, if_pos h2, if_neg h3]
theorem ordN_hit {r : Mat} {x s : List Int} {f n : Nat} (hf : 0 < f) (h : zeroL s = true) : ordN r x f n s = ((n : Int), true) := by
 obtain ⟨f, rfl⟩ : ∃ k, f = k + 1 := ⟨f - 1, by omega⟩
 simp only [ordN]; rw [if_pos h]
theorem ordN_no {r : Mat} {x s : List Int} {f n : Nat} (hf : 0 < f) (h : zeroL s = false) (h2 : nrmB r (adL s x) = false) : ordN r x f n s = (0, false) := by
 obtain ⟨f, rfl⟩ : ∃ k, f = k + 1 := ⟨f - 1, by omega⟩
 simp only [ordN]; rw [h, h2]; rfl
theorem ordN_go {r : Mat} {x s : List Int} {f n : Nat} (hf : 0 < f) (h : zeroL s = false) (h2 : nrmB r (adL s x) = true) : ordN r x f n s = ordN r x (f - 1) (n + 1) (nrmL r (adL s x)) := by
 obtain ⟨f, rfl⟩ : ∃ k, f = k + 1 := ⟨f - 1, by omega⟩
 simp only [ordN]; rw [h, h2]; rfl
theorem stackB_bd (a b : Mat) : bdM (stackB a b) ≤ 576 := isMatB_bd (stackB_mat a b)
structure Nrm (r : Mat) (x : List Int) : Prop where
 fix : nrmR r x = some x
 num : NumL x
 len : x.length ≤ 24
theorem nrm_of {r : Mat} {v : List Int} (h : nrmB r v = true) : Nrm r (nrmL r v) ∧ ((nrmL r v).length : Int) = r.cols := by
 obtain ⟨x, hx⟩ := Option.isSome_iff_exists.1 (show (nrmR r v).isSome = true from h)
 obtain ⟨h1, h2, h3, h4, h5, h6⟩ := nrmR_spec hx
 obtain ⟨C, N, b, hb⟩ := bas_of h5
 have hc := hb.cols
 have hC := hb.hC
 rw [(nrm_some hx).2]
 exact ⟨⟨nrm_idem hx, h2, by omega⟩, by omega⟩
theorem ord_gt {r : Mat} {v : List Int} (h : ordOk r v = true) : ecT r ≤ ecT (stackB r (rowM v)) := by
 unfold ordOk at h
 rw [Bool.and_eq_true, Bool.and_eq_true] at h
 exact ecT_stack h.1 h.2.1 h.2.2
def OrdPost (z : Nat) (A B : Mat) : Nat → Value → World → Prop
 | 2, v, w => OM w (fun g => z ≤ g) v B
 | 3, v, w => ∃ r, v = .tuple #[r, .bool (stackOk A B)] ∧ OM w (fun g => z ≤ g) r (stackB A B)
 | 4, v, w => ∃ r, v = .tuple #[r, .bool (stackOk A B)] ∧ OM w (fun g => z ≤ g) r (stackB A B)
 | 5, v, w => OM w (fun g => z ≤ g) v (stackB A B)
 | 6, v, _ => v = .bool (stackOk A B)
 | 7, v, w => ∃ g, v = .pointer (some ⟨g, 0, none⟩) ∧ z ≤ g ∧ Blk w g #[.int .i64 0, .int .i64 0, .slice none 0 0] 26
 | _, _, _ => True
theorem OrdPost.stays {z : Nat} {A B : Mat} : ∀ i v w w', Grow w w' → OrdPost z A B i v w → OrdPost z A B i v w' := fun i v w w' hG h => by
 unfold OrdPost at *
 split at h
 ·exact h.grow hG
 ·obtain ⟨r, h1, h2⟩ := h; exact ⟨r, h1, h2.grow hG⟩
 ·obtain ⟨r, h1, h2⟩ := h; exact ⟨r, h1, h2.grow hG⟩
 ·exact h.grow hG
 ·exact h
 ·obtain ⟨g, h1, h2, h3⟩ := h; exact ⟨g, h1, h2, h3.grow hG⟩
 ·trivial
theorem implOrderIn_v {S T : Nat → Prop} {rv vv : Value} {r : Mat} {v : List Int} {w : World} (h : VM w S rv r) (hb : bdM r ≤ 1048576) (hv : VI w T vv v) (hbv : bdI v ≤ 1048576) :
  Calls Try.prog 11 #[rv, vv] w fun e w' => e = .returned (.tuple #[.int .i64 (ordR r v).1, .bool (ordR r v).2]) ∧ Grow w w' := by
 have hVM := h
 have hVI := hv
 obtain ⟨a, n, c, rfl, h, ir, ic⟩ := h
 obtain ⟨a2, n2, c2, rfl, hv⟩ := hv
 have hl2 := hv.len
 have hn2 : n2 ≤ 1048576 := by unfold bdI at hbv; omega
 have hG1 := (Grow.refl w).alloc #[.int .i64 r.rows, .int .i64 r.cols, .slice a n c] 26
 have bM := Blk.new w #[.int .i64 r.rows, .int .i64 r.cols, .slice a n c] 26
 have hrow : rowM v = { rows := 1, cols := (n2 : Int), cells := v } := by unfold rowM; rw [hl2]
 have hbs := stackB_bd r (rowM v)
 have hdf : ordOk r v = (stackOk r (rowM v) && (ecOk r && ecOk (stackB r (rowM v)))) := rfl
 have Hdf := Lib.hid hdf
 have Hrow := Lib.hid hrow
 clear hdf hrow
 obtain ⟨res, hres⟩ : ∃ res, res = ordR r v := ⟨_, rfl⟩
 rw [← hres]
 have Hres := Lib.hid hres
 clear hres
 go_enter Try.func11, Try.ntmps11
 go_wp2_with fail
 refine (iNormalIn_c (hVM.grow hG1) hb (hVI.grow hG1) hbv).mono ?_
 rintro e w2 ⟨xv, rfl, hX, hG2⟩
 obtain ⟨xa, xn, xc, rfl, oX, rX, fX⟩ := hX
 have hG12 := hG1.trans hG2
 have bM2 := bM.grow hG2
 cases hok : nrmB r v with
 | false =>
  have Hz := Lib.hid (Hres.out.trans (ord_none hok))
  have hGz := hG12
  clear hok oX rX
  go_wp2
  go_ret2
  exact ⟨by rw [Hz.out]; rfl, hGz⟩
 | true =>
  obtain ⟨hNrm, hxc⟩ := nrm_of hok
  have Hok := Lib.hid hok
  have HN := Lib.hid hNrm
  have rX2 : RdI w2 (fun _ => True) xa xn xc (nrmL r v) := oX.rdI (fun _ _ => trivial) rX
  have hVM2 := hVM.grow hG12
  have rv2 := hv.grow hG12
  obtain ⟨⟨m0, m1, m2⟩, -⟩ := bM2.three
  have hltM := bM2.lt
  have Hrun := Lib.hid (fun (h0 : ordOk r v = true) (h1 : ¬ ecT r < ecT (stackB r (rowM v))) => Hres.out.trans (ord_run hok h0 h1))
  have Hfree := Lib.hid (fun (h0 : ordOk r v = true) (h1 : ecT r < ecT (stackB r (rowM v))) => Hres.out.trans (ord_free hok h0 h1))
  have Hge := Lib.hid (fun (h0 : ordOk r v = true) => ord_gt h0)
  have Hbad := Lib.hid (fun (h0 : ordOk r v = false) => Hres.out.trans (ord_bad h0))
  have hxr := hNrm.num
  have hx24 := hNrm.len
  clear hok hNrm oX
  obtain ⟨X, hX⟩ : ∃ X, X = nrmL r v := ⟨_, rfl⟩
  rw [← hX] at rX rX2 HN hxr hx24 Hrun hxc
  have HX := Lib.hid hX
  clear hX
  generalize hA : rowM v = A at *
  have HA := Lib.hid hA; clear hA
  have hbA : bdM A ≤ 1048576 := by rw [← HA.out]; show v.length ≤ _; omega
  go_wp2
  refine wp_region_par (S := Grow w2) (T := fun _ => True) [0, 1] [2, 3, 7] [4, 5, 6] [([], some 8), ([9], none)] P_mixed (by kernel_rfl) (fun _ _ _ _ _ h => h) (Grow.refl _).drew ?_
  show wpQuiet _ _ _ _ [_, _] _
  repeat (first | go_big_quiet_skip | (go_big_quiet_want; first | (apply quiet_load3 T_mat; rfl; rfl; exact (fun w' hG => bM2.grow hG); go_big_quiet_on; simp only [Act.put, List.setIfInBounds_toArray, List.set_cons_succ, List.set_cons_zero]) | (go_big_quiet_op; first | go_big_quiet_on | (refine ⟨_, (fun _ _ => rfl), ?_⟩; go_big_quiet_on))))
  refine wpQuiet_nil ?_
  refine ⟨by kernel_rfl, OrdPost w2.heap.size r A, fun _ _ => none, OrdPost.stays, (fun _ _ _ _ _ h => by cases h), (fun _ _ _ => rfl), ?_, ?_, ?_⟩
  ·intro i hi o ho b w3 hGw hSw hdep hfr K hK
   have t27 : b.tmps.getD 27 undef = .agg #[.int .i64 r.rows, .int .i64 r.cols, .slice a n c] := hfr 27 (by decide)
   have t28 : b.tmps.getD 28 undef = .slice a2 n2 c2 := hfr 28 (by decide)
   have hs2 := hSw.size
   simp only [List.mem_cons, List.not_mem_nil, or_false] at hi
   rcases hi with rfl | rfl | rfl
   ·obtain rfl := Option.some.inj (show some _ = some _ from ho)
    refine par_call1 (x := .tmp 28) rfl Try.func31 rfl rfl t28 ?_
    refine (rowMatrix_c _ _ _ v _ (rv2.grow hSw) (by omega)).mono ?_
    rintro e w3 ⟨y, rfl, hO, hG3⟩
    exact ⟨y, rfl, hK y w3 hG3 (hSw.trans hG3) (by rw [HA.out] at hO; exact hO.weak fun b _ hb => Nat.le_trans hs2 hb.1) (fun _ h => by cases h)⟩
   ·obtain rfl := Option.some.inj (show some _ = some _ from ho)
    have d1 : OM w3 (fun g => w2.heap.size ≤ g) (b.tmps.getD 29 undef) A := hdep 2 (by decide) ⟨⟨2, .data⟩, by simp, rfl, rfl⟩ 29 rfl
    refine par_call2 (x := .tmp 27) (y := .tmp 29) rfl Try.func30 rfl rfl t27 rfl ?_
    refine (iStackRows_c (hVM2.grow hSw) (d1.rd (S := fun _ => True) fun _ _ => trivial) hb hbA).mono ?_
    rintro e w3 ⟨y, rfl, hO, hG3⟩
    exact ⟨_, rfl, hK _ w3 hG3 (hSw.trans hG3) ⟨y, rfl, hO.weak fun b _ hb => Nat.le_trans hs2 hb.1⟩ (fun _ h => by cases h)⟩
   ·obtain rfl := Option.some.inj (show some _ = some _ from ho)
    refine par_alloc (z := .agg #[.int .i64 0, .int .i64 0, .slice none 0 0]) rfl (by rfl) ?_
    exact hK _ _ ((Grow.refl _).alloc _ _) (hSw.alloc _ _) ⟨w3.heap.size, rfl, hs2, Blk.new _ _ _⟩ (fun _ h => by cases h)
  ·intro i hi o ho b w3 hGw hSw hdep hfr
   simp only [List.mem_cons, List.not_mem_nil, or_false] at hi
   rcases hi with rfl | rfl | rfl
   ·obtain rfl := Option.some.inj (show some _ = some _ from ho)
    have d3 : ∃ y, b.tmps.getD 30 undef = .tuple #[y, .bool (stackOk r A)] ∧ OM w3 (fun g => w2.heap.size ≤ g) y (stackB r A) := hdep 3 (by decide) ⟨⟨3, .data⟩, by simp, rfl, rfl⟩ 30 rfl
    exact ⟨b.tmps.getD 30 undef, fun _ _ => rfl, d3⟩
   ·obtain rfl := Option.some.inj (show some _ = some _ from ho)
    obtain ⟨y, e4, hO⟩ : ∃ y, b.tmps.getD 26 undef = .tuple #[y, .bool (stackOk r A)] ∧ OM w3 (fun g => w2.heap.size ≤ g) y (stackB r A) := hdep 4 (by decide) ⟨⟨4, .data⟩, by simp, rfl, rfl⟩ 26 rfl
    exact ⟨y, fun w' _ => free_extract (x := .tmp 26) rfl e4 rfl w', hO⟩
   ·obtain rfl := Option.some.inj (show some _ = some _ from ho)
    obtain ⟨y, e4, hO⟩ : ∃ y, b.tmps.getD 26 undef = .tuple #[y, .bool (stackOk r A)] ∧ OM w3 (fun g => w2.heap.size ≤ g) y (stackB r A) := hdep 4 (by decide) ⟨⟨4, .data⟩, by simp, rfl, rfl⟩ 26 rfl
    exact ⟨.bool (stackOk r A), fun w' _ => free_extract (x := .tmp 26) rfl e4 rfl w', rfl⟩
  ·intro vs w3 hGw hSw hP _
   apply fill_to
   ·show _ = ([some 29, some 30, some 8, some 26, some 31, some 32] : List (Option Tmp))
    kernel_rfl
   simp only [fillD, List.cons_append, List.nil_append, List.map_cons, List.map_nil, List.zip_cons_cons, List.zip_nil_right, Act.put, List.setIfInBounds_toArray, List.set_cons_succ, List.set_cons_zero]
   refine ⟨?_⟩
   have p5 : OM w3 (fun g => w2.heap.size ≤ g) (vs 5) (stackB r A) := hP 5 (by decide)
   have p6 : vs 6 = .bool (stackOk r A) := hP 6 (by decide)
   obtain ⟨g, p7, hzg, hBg⟩ : ∃ g, vs 7 = .pointer (some ⟨g, 0, none⟩) ∧ w2.heap.size ≤ g ∧ Blk w3 g #[.int .i64 0, .int .i64 0, .slice none 0 0] 26 := hP 7 (by decide)
   obtain ⟨ap, np, cp, e5, op, xp, fp, ip, jp⟩ := p5
   have hne := op.ne_blk hBg (by decide)
   rw [e5, p6, p7]
   show wpQuiet _ _ _ _ [] _
   apply wpQuiet_nil
   apply seg_go rfl
   intro K hK
   obtain ⟨⟨z0, z1, z2⟩, g0, g1, g2⟩ := hBg.three
   go_wp2_with fail
   have hK3 : Keep (fun q => q ≠ g) w3 (((w3.setCell ⟨g, 0, none⟩ (.int .i64 (stackB r A).rows)).setCell ⟨g, 1, none⟩ (.int .i64 (stackB r A).cols)).setCell ⟨g, 2, none⟩ (.slice ap np cp)) :=
    (((Keep.refl _ w3).setCell (fun _ e => e rfl) _).setCell (fun _ e => e rfl) _).setCell (fun _ e => e rfl) _
   have hB3 : Blk (((w3.setCell ⟨g, 0, none⟩ (.int .i64 (stackB r A).rows)).setCell ⟨g, 1, none⟩ (.int .i64 (stackB r A).cols)).setCell ⟨g, 2, none⟩ (.slice ap np cp)) g #[.int .i64 (stackB r A).rows, .int .i64 (stackB r A).cols, .slice ap np cp] 26 := ((hBg.set 0 _).set 1 _).set 2 _
   have hG3 := hSw.keep hK3 fun q hq => by omega
   have op3 := op.keep hK3 fun q hq _ e => hne (e ▸ hq)
   refine hK _ _ hG3 ?_
   clear hK K
   generalize hw4 : (((w3.setCell ⟨g, 0, none⟩ (.int .i64 (stackB r A).rows)).setCell ⟨g, 1, none⟩ (.int .i64 (stackB r A).cols)).setCell ⟨g, 2, none⟩ (.slice ap np cp)) = w4 at *
   clear hw4 hK3 z0 z1 z2 g0 g1 g2
   show wpQuiet _ _ _ _ [_] _
   try (conv => arg 6; simp only [Act.put, List.setIfInBounds_toArray, List.set_cons_succ, List.set_cons_zero])
   repeat (first | go_big_quiet_skip | (go_big_quiet_want; first | (apply quiet_load3 T_mat; rfl; rfl; exact (fun w' hG => bM2.grow hG); go_big_quiet_on; simp only [Act.put, List.setIfInBounds_toArray, List.set_cons_succ, List.set_cons_zero]) | (go_big_quiet_op; first | go_big_quiet_on | (refine ⟨_, (fun _ _ => rfl), ?_⟩; go_big_quiet_on))))
   refine wpQuiet_nil ?_
   refine wpSegs_nil ?_
   have hG4 : Grow w w4 := hG12.trans hG3
   have vS : VM w4 (fun _ => True) (.agg #[.int .i64 (stackB r A).rows, .int .i64 (stackB r A).cols, .slice ap np cp]) (stackB r A) := ⟨ap, np, cp, rfl, op3.rdI (fun _ _ => trivial) xp, ip, jp⟩
   have bM4 := bM2.grow hG3
   obtain ⟨⟨m0, m1, m2⟩, -⟩ := bM4.three
   have hltM4 := bM4.lt
   have rX4 := rX2.grow hG3
   clear hP hSw op op3 e5 p6 p7 hBg
   go_wp2_with fail
   refine (iRankOf_c (hVM.grow hG4) hb).mono ?_
   rintro e w5 ⟨rfl, hG5⟩
   have hB5 := hB3.grow hG5
   obtain ⟨⟨s0, s1, s2⟩, -⟩ := hB5.three
   have hltS := hB5.lt
   have bM5 := bM4.grow hG5
   have rX5 := rX4.grow hG5
   clear m0 m1 m2
   go_wp2_with fail
   refine (iRankOf_c (vS.grow hG5) (by omega)).mono ?_
   rintro e w6 ⟨rfl, hG6⟩
   have bM6 := bM5.grow hG6
   have rX6 := rX5.grow hG6
   have hGz := (hG4.trans hG5).trans hG6
   clear s0 s1 s2 hB5 hB3 vS
   cases h1 : stackOk r A with
   | false =>
    have Hz := Lib.hid (Hbad.out (by rw [Hdf.out, h1]; rfl))
    clear h1 rX
    go_wp2
    go_ret2
    exact ⟨by rw [Hz.out]; rfl, hGz⟩
   | true =>
    cases h2 : ecOk r with
    | false =>
     have Hz := Lib.hid (Hbad.out (by rw [Hdf.out, h2]; simp))
     clear h1 h2
     go_wp2
     go_ret2
     exact ⟨by rw [Hz.out]; rfl, hGz⟩
    | true =>
     cases h3 : ecOk (stackB r A) with
     | false =>
      have Hz := Lib.hid (Hbad.out (by rw [Hdf.out, h3]; simp))
      clear h1 h2 h3
      go_wp2
      go_ret2
      exact ⟨by rw [Hz.out]; rfl, hGz⟩
     | true =>
      have hyes : ordOk r v = true := by rw [Hdf.out, h1, h2, h3]; rfl
      have hge := Hge.out hyes
      obtain ⟨ta, hta⟩ : ∃ ta, ta = ecT r := ⟨_, rfl⟩
      obtain ⟨tb, htb⟩ : ∃ tb, tb = ecT (stackB r A) := ⟨_, rfl⟩
      by_cases hgt : ecT r < ecT (stackB r A)
      ·have Hz := Lib.hid (Hfree.out hyes hgt)
       clear h1 h2 h3 hyes
       rw [← hta, ← htb] at hgt hge ⊢
       clear hta htb
       have q1 : ((tb : Int) != (ta : Int)) = true := by simp; omega
       have q2 : ((tb : Int) == (ta : Int)) = false := by simp; omega
       go_wp2
       go_ret2
       exact ⟨by rw [Hz.out]; rfl, hGz⟩
      ·have Hr := Lib.hid (Hrun.out hyes hgt)
       clear h1 h2 h3 hyes
       rw [← hta, ← htb] at hgt hge ⊢
       clear hta htb Hrun Hfree Hge Hbad Hdf
       have q1 : ((tb : Int) != (ta : Int)) = false := by simp; omega
       have q2 : ((tb : Int) == (ta : Int)) = true := by simp; omega
       go_wp2
       go_loopw [14, 15] (fun sv nv wr => Grow w wr ∧ ∃ (k : Nat) (s : List Int) (sa : Option Addr) (sn sc : Nat), 1 ≤ k ∧ k ≤ 501 ∧ nv = .int .i64 k ∧ sv = .slice sa sn sc ∧ RdI wr (fun _ => True) sa sn sc s ∧ Nrm r s ∧ s.length = X.length ∧ ordN r X (501 - k) k s = res ∧ RdI wr (fun _ => True) xa xn xc X ∧ Blk wr w.heap.size #[.int .i64 r.rows, .int .i64 r.cols, .slice a n c] 26) (fun _ nv _ => 501 - (intOf nv).toNat)
       case atStart => exact ⟨hGz, 1, X, xa, xn, xc, by omega, by omega, rfl, rfl, rX6, HN.out, rfl, Hr.out.symm, rX6, bM6⟩
       case round =>
        clear rX6 bM6 q1 q2 hgt hge Hr
        obtain ⟨hGr, k, s, sa, sn, sc, hk1, hk, rfl, rfl, rS, hNs, hsl, hre, rXr, bMr⟩ := hrel
        have Hre := Lib.hid hre
        have Hns := Lib.hid hNs
        have hsn := hNs.num
        have hs24 := hNs.len
        have hlS := rS.len
        clear hre hNs
        obtain ⟨⟨m0, m1, m2⟩, -⟩ := bMr.three
        have hltMr := bMr.lt
        by_cases hlt : k ≤ 500
        ·go_wp2_with fail
         refine (isZeroRow_c sa sn sc s _ rS (by omega)).mono ?_
         rintro e _ ⟨rfl, rfl⟩
         cases hz : zeroL s with
         | true =>
          have Hz := Lib.hid (Hre.out.symm.trans (ordN_hit (by omega) hz))
          clear hz
          go_wp2
          go_ret2
          exact ⟨by rw [Hz.out]; rfl, hGr⟩
         | false =>
          have Hzf := Lib.hid hz; clear hz
          go_wp2_with fail
          refine (iAddIn_c (hVM.grow hGr) hb rS rXr hsn hxr hs24 hsl.symm).mono ?_
          rintro e w8 ⟨yv, rfl, hY, hG8⟩
          obtain ⟨ya, yn, yc, rfl, oY, rY, fY⟩ := hY
          cases hn : nrmB r (adL s X) with
          | false =>
           have Hz := Lib.hid (Hre.out.symm.trans (ordN_no (by omega) Hzf.out hn))
           clear hn oY rY
           go_wp2
           go_ret2
           exact ⟨by rw [Hz.out]; rfl, (hGr).trans hG8⟩
          | true =>
           obtain ⟨hN8, hl8⟩ := nrm_of hn
           have Hg := Lib.hid (show ordN r X (501 - (k + 1)) (k + 1) (nrmL r (adL s X)) = res by rw [← Hre.out, ordN_go (by omega) Hzf.out hn]; rfl)
           have hlY : (nrmL r (adL s X)).length = X.length := by omega
           have HlY := Lib.hid hlY
           have Hn8 := Lib.hid hN8
           clear hn hN8 hl8 hlY
           go_wp2
           go_roundw
           case rel => exact ⟨(hGr).trans hG8, k + 1, _, ya, yn, yc, by omega, by omega, by go_num, rfl, oY.rdI (fun _ _ => trivial) rY, Hn8.out, HlY.out, Hg.out, rXr.grow hG8, bMr.grow hG8⟩
           case measure => simp [intOf]; omega
        ·have hkE : k = 501 := by omega
         subst hkE
         have Hz := Lib.hid (show res = (0, false) from Hre.out.symm)
         go_wp2
         go_ret2
         exact ⟨by rw [Hz.out]; rfl, hGr⟩
end Go.Proofs.Ytoiblknchcoecaa
