/-
  BoundaryOf: the program's and the reference's set the signs of the faces, row by row.
-/
import Derived.Test.YtneeelebnnfbeaaZOrder
import Derived.Test.YtneeelebnnfbeaaZInts
import Derived.Test.YtneeelebnnfbeaaZIsMat
import Derived.Test.YtneeelebnnfbeaaZBase
set_option maxHeartbeats 8000000
set_option maxRecDepth 100000
namespace Go.Proofs.Ytneeelebnnfbeaa
open Go.RowKit
def sgn (x : Nat) : Int := if x % 2 = 0 then 1 else -1
theorem sgn_succ (x : Nat) : sgn (x + 1) = -sgn x := by unfold sgn; split <;> split <;> omega
theorem sgn_rng (x : Nat) : -1 ≤ sgn x ∧ sgn x ≤ 1 := by unfold sgn; split <;> omega
def bRow (k : Int) (C : List (List Int)) (s : List Int) (base : Nat) : Nat → List Int → List Int
 | 0, cells => cells
 | x + 1, cells => if 0 < k then (bRow k C s base x cells).set (base + (findI C (del s x)).toNat) (sgn x) else bRow k C s base x cells
def bRows (k : Int) (R C : List (List Int)) : Nat → List Int
 | 0 => List.replicate (R.length * C.length) 0
 | i + 1 => bRow k C (R.getD i []) (i * C.length) (R.getD i []).length (bRows k R C i)
theorem bRow_len (k : Int) (C : List (List Int)) (s : List Int) (base : Nat) : ∀ (x : Nat) (cells : List Int), (bRow k C s base x cells).length = cells.length
 | 0, _ => rfl
 | x + 1, cells => by unfold bRow; split <;> simp [bRow_len k C s base x cells]
theorem bRows_len (k : Int) (R C : List (List Int)) : ∀ i, (bRows k R C i).length = R.length * C.length
 | 0 => by simp [bRows]
 | i + 1 => by unfold bRows; rw [bRow_len, bRows_len k R C i]
theorem bRow_zero {k : Int} (hk : ¬ 0 < k) (C : List (List Int)) (s : List Int) (base : Nat) : ∀ (x : Nat) (cells : List Int), bRow k C s base x cells = cells
 | 0, _ => rfl
 | x + 1, cells => by unfold bRow; rw [if_neg hk]; exact bRow_zero hk C s base x cells
theorem bRows_zero {k : Int} (hk : ¬ 0 < k) (R C : List (List Int)) : ∀ i, bRows k R C i = List.replicate (R.length * C.length) 0
 | 0 => rfl
 | i + 1 => by unfold bRows; rw [bRow_zero hk, bRows_zero hk R C i]
theorem bRow_rng (k : Int) (C : List (List Int)) (s : List Int) (base : Nat) : ∀ (x : Nat) (cells : List Int), (∀ y ∈ cells, I64 y) → ∀ y ∈ bRow k C s base x cells, I64 y
 | 0, _, h => h
 | x + 1, cells, h => by
  have ih := bRow_rng k C s base x cells h
  unfold bRow; split
  ·intro y hy
   rcases List.mem_or_eq_of_mem_set hy with h1 | h1
   ·exact ih y h1
   ·subst h1; have := sgn_rng x; unfold I64; omega
  ·exact ih
theorem bRows_rng (k : Int) (R C : List (List Int)) : ∀ i, ∀ y ∈ bRows k R C i, I64 y
 | 0 => zeros_rng
 | i + 1 => by unfold bRows; exact bRow_rng _ _ _ _ _ _ (bRows_rng k R C i)
def boundM (l : List (List Int)) (k : Int) : Mat := { rows := (facesB l k).length, cols := (facesB l (k - 1)).length, cells := bRows k (facesB l k) (facesB l (k - 1)) (facesB l k).length }
noncomputable def boundOk (l : List (List Int)) (k : Int) : Bool := isCplxB l && inB k 0 4
noncomputable def boundB (l : List (List Int)) (k : Int) : Mat := if boundOk l k = true then boundM l k else { rows := 0, cols := 0, cells := [] }
theorem mem_facesB {l : List (List Int)} {k : Int} {s : List Int} : s ∈ facesB l k ↔ s ∈ l ∧ (s.length : Int) - 1 = k := by
 unfold facesB; simp
theorem cplx_faces {l : List (List Int)} (h : IsCplx l) {k : Int} {s : List Int} (hs : s ∈ facesB l k) (hk : 0 < k) {x : Nat} (hx : x < s.length) : del s x ∈ facesB l (k - 1) := by
 obtain ⟨h1, h2⟩ := mem_facesB.1 hs
 refine mem_facesB.2 ⟨h.2.1 s h1 (by omega) x hx, ?_⟩
 rw [del_len hx]; omega
theorem cplx_few {l : List (List Int)} (h : IsCplx l) (k : Int) : (facesB l k).length ≤ 24 := by
 by_cases h0 : 0 ≤ k ∧ k < 4
 ·obtain ⟨kn, rfl⟩ := Int.eq_ofNat_of_zero_le h0.1
  exact h.2.2 kn (by omega)
 ·have : facesB l k = [] := by
   rcases List.eq_nil_or_concat (facesB l k) with e | ⟨r, s, e⟩
   ·exact e
   ·have hs : s ∈ facesB l k := by rw [e]; simp
    obtain ⟨h1, h2⟩ := mem_facesB.1 hs
    have := isSimpB_len (h.1.1 s h1)
    omega
  rw [this]; simp
theorem cplx_none {l : List (List Int)} (h : IsCplx l) : facesB l (-1) = [] := by
 rcases List.eq_nil_or_concat (facesB l (-1)) with e | ⟨r, s, e⟩
 ·exact e
 ·have hs : s ∈ facesB l (-1) := by rw [e]; simp
  obtain ⟨h1, h2⟩ := mem_facesB.1 hs
  have := isSimpB_len (h.1.1 s h1)
  omega
theorem implBoundaryOf_c {S : Nat → Prop} (a : Option Addr) (n cap : Nat) (l : List (List Int)) (k : Int) (w : World) (h : RdII w S a n cap l) (hn : n ≤ 1048576) (ht : total l ≤ 1048576) (hk : I64 k) :
  Calls Try.prog 23 #[.slice a n cap, .int .i64 k] w fun e w' => ∃ v, e = .returned (.tuple #[v, .bool (boundOk l k)]) ∧ OM w' (New w w') v (boundB l k) ∧ Grow w w' := by
 have hl := h.len
 have hw0 : Grow w (w.alloc (.cells #[.int .i64 0, .int .i64 0, .slice none 0 0] 32)) := (Grow.refl w).alloc _ _
 have hb4 := Blk.newAt w #[.int .i64 0, .int .i64 0, .slice none 0 0] 32 rfl
 unfold I64 at hk
 cases hB : isCplxB l with
 | false =>
  have he : boundOk l k = false := by unfold boundOk; rw [hB]; rfl
  have he2 : boundB l k = { rows := 0, cols := 0, cells := [] } := by unfold boundB; rw [he]; rfl
  rw [he, he2]
  have HB := Lib.hid hB; clear hB he he2
  go_enter Try.func23, Try.ntmps23
  go_wp2_with fail
  refine (implIsComplex_c _ _ _ l _ (h.grow hw0) hn ht).mono ?_
  rintro e w1 ⟨rfl, hG⟩
  rw [HB.out]
  have hb := hb4.grow hG
  obtain ⟨⟨c0, c1, c2⟩, f0, f1, f2⟩ := hb.three
  go_wp2
  refine ret_cell_tmp T_mat rfl rfl rfl (((hb.set 0 _).set 1 _).set 2 _) ⟨_, rfl, ⟨none, 0, 0, rfl, Own.nilw, (fun x hx => by cases hx), (fun g hg => by simp at hg), ?_, ?_⟩, ?_⟩
  ·simp [I64]
  ·simp [I64]
  ·exact (((hw0.trans hG).setCell (Nat.le_refl _) _).setCell (Nat.le_refl _) _).setCell (Nat.le_refl _) _
 | true =>
  by_cases hk4 : 0 ≤ k ∧ k ≤ 4
  ·have he : boundOk l k = true := by unfold boundOk inB; rw [hB]; simp; omega
   have he2 : boundB l k = boundM l k := by unfold boundB; rw [if_pos he]
   rw [he, he2]
   have hC := Lib.hid (isCplxB_iff.1 hB)
   have HB := Lib.hid hB; clear hB he he2
   have hk0 : ¬ k < 0 := by omega
   have hk5 : ¬ 4 < k := by omega
   go_enter Try.func23, Try.ntmps23
   go_wp2_with fail
   refine (implIsComplex_c _ _ _ l _ (h.grow hw0) hn ht).mono ?_
   rintro e w1 ⟨rfl, hG1⟩
   rw [HB.out]
   replace hb4 := hb4.grow hG1
   go_wp2_with fail
   refine (implFacesOf_c _ _ _ l k _ (h.grow (hw0.trans hG1)) hn ht).mono ?_
   rintro e w2 ⟨ra, rn, rc, rfl, hR, hG2⟩
   go_wp2_with fail
   refine (implFacesOf_c _ _ _ l (k - 1) _ (h.grow ((hw0.trans hG1).trans hG2)) hn ht).mono ?_
   rintro e w3 ⟨ca, cn, cc, rfl, hCo, hG3⟩
   have hG03 : Grow w w3 := ((hw0.trans hG1).trans hG2).trans hG3
   have hR3 : RdII w3 (fun _ => True) ra rn rc (facesB l k) := (hR.rdII fun _ _ => trivial).grow hG3
   replace hb4 := (hb4.grow hG2).grow hG3
   by_cases hkz : k = 0
   ·have q1 : (k == 0) = true := by simpa using hkz
    have q2 : (k != 0) = false := by simpa using hkz
    have hC3 : RdII (w3.alloc (.cells #[] 30)) (fun _ => True) (some ⟨w3.heap.size, 0, none⟩) 0 0 (facesB l (k - 1)) := by
     subst hkz; rw [show (0 : Int) - 1 = -1 from rfl, cplx_none hC.out]; exact (SepII.fresh0 w3).rdII fun _ _ => trivial
    have hG34 : Grow w3 (w3.alloc (.cells #[] 30)) := (Grow.refl _).alloc _ _
    have hG04 := hG03.trans hG34
    have hR4 := hR3.grow hG34
    replace hb4 := hb4.grow hG34
    clear hR3 hR hCo hkz hG34 hG03
    go_wp2_with fail
    obtain ⟨ca, hca⟩ : ∃ ca : Option Addr, ca = some ⟨w3.heap.size, 0, none⟩ := ⟨_, rfl⟩
    obtain ⟨cn, hcn0⟩ : ∃ cn : Nat, cn = 0 := ⟨_, rfl⟩
    obtain ⟨cc, hcc0⟩ : ∃ cc : Nat, cc = 0 := ⟨_, rfl⟩
    have hz1 : Value.slice (some ⟨w3.heap.size, 0, none⟩) 0 0 = Value.slice ca cn cc := by subst hca hcn0 hcc0; rfl
    have hz2 : Value.int .i64 0 = Value.int .i64 (cn : Int) := by subst hcn0; rfl
    have hC4 : RdII (w3.alloc (.cells #[] 30)) (fun _ => True) ca cn cc (facesB l (k - 1)) := by subst hca hcn0 hcc0; exact hC3
    rw [hz1, hz2]
    clear hz1 hz2 hC3 hca hcn0 hcc0
    generalize w3.alloc (.cells #[] 30) = w4 at *
    have hrd0 : RdII w4 (fun b => b < w4.heap.size) ra rn rc (facesB l k) := hR4.weak fun _ hb _ => hb
    have hcd0 : RdII w4 (fun b => b < w4.heap.size) ca cn cc (facesB l (k - 1)) := hC4.weak fun _ hb _ => hb
    have hrn : rn ≤ 24 := by have := cplx_few hC.out k; have := hrd0.len; omega
    have hcn : cn ≤ 24 := by have := cplx_few hC.out (k - 1); have := hcd0.len; omega
    refine (newMatrix_c rn cn _ (by omega) (by omega)).mono ?_
    rintro e w5 ⟨am, rfl, hO, hB5, hG5⟩
    have hs5 := hG5.size
    have hN : rn * cn ≤ 1048576 := Nat.le_trans (Nat.mul_le_mul hrn hcn) (by omega)
    have hbm0 := Blk.newAt w5 #[.int .i64 (rn : Int), .int .i64 (cn : Int), .slice am (rn * cn) (rn * cn)] 32 rfl
    have hGb : Grow w5 (w5.alloc (.cells #[.int .i64 (rn : Int), .int .i64 (cn : Int), .slice am (rn * cn) (rn * cn)] 32)) := (Grow.refl _).alloc _ _
    have hne : blk am ≠ some w5.heap.size := fun e => by have := hO.lt e; omega
    have hrd1 : RdII w5 (fun q => blk am ≠ some q) ra rn rc (facesB l k) := (hrd0.grow hG5).weak fun b hb hb2 e => by have := hB5 b e; omega
    have hcd1 : RdII w5 (fun q => blk am ≠ some q) ca cn cc (facesB l (k - 1)) := (hcd0.grow hG5).weak fun b hb hb2 e => by have := hB5 b e; omega
    replace hO : Own w5 3 1 am (rn * cn) (rn * cn) (ints (bRows k (facesB l k) (facesB l (k - 1)) 0)) := by unfold bRows; rw [hrd0.len, hcd0.len]; exact hO
    clear hR4 hC4 hrd0 hcd0
    go_wp2
    go_loopw [42] (fun q wr => Keep (fun q => blk am ≠ some q) w5 wr ∧ Blk wr w5.heap.size #[.int .i64 (rn : Int), .int .i64 (cn : Int), .slice am (rn * cn) (rn * cn)] 32 ∧ ∃ i : Nat, i ≤ rn ∧ q = .int .i64 i ∧ Own wr 3 1 am (rn * cn) (rn * cn) (ints (bRows k (facesB l k) (facesB l (k - 1)) i))) (fun q _ => rn - (intOf q).toNat)
    case atStart => exact ⟨hGb.any, hbm0, 0, Nat.zero_le _, rfl, hO.grow hGb⟩
    case round =>
     clear hbm0 hO hGb
     obtain ⟨hK, hbm, i, hi, rfl, hO⟩ := hrel
     by_cases hin : i < rn
     ·obtain ⟨b, off, s, sa, sc, rfl, hx, hbS, hbw, hc, hrd⟩ := (hrd1.keep hK fun _ _ h => h).at hin
      have hcd := hcd1.keep hK fun _ _ h => h
      have hmem := List.mem_of_getElem? hx
      have hsl : s.length ≤ 4 := isSimpB_len (hC.out.1.1 s (mem_facesB.1 hmem).1) |>.2
      have hgd : (facesB l k).getD i [] = s := by simp [List.getD, hx]
      have Hmem := Lib.hid hmem; have Hgd := Lib.hid hgd; clear hmem hgd hx
      obtain ⟨wo, rfl⟩ : ∃ wo : World, wo = wr := ⟨_, rfl⟩
      go_wp2
      go_loopw [49, 11] (fun q sg wr => Keep (fun q => blk am ≠ some q) wo wr ∧ ∃ x : Nat, x ≤ s.length ∧ q = .int .i64 x ∧ sg = .int .i64 (sgn x) ∧ Own wr 3 1 am (rn * cn) (rn * cn) (ints (bRow k (facesB l (k - 1)) s (i * cn) x (bRows k (facesB l k) (facesB l (k - 1)) i)))) (fun q _ _ => s.length - (intOf q).toNat)
      case atStart => exact ⟨Keep.refl _ _, 0, Nat.zero_le _, rfl, rfl, hO⟩
      case round =>
       clear hO
       obtain ⟨hKi, x, hxl, rfl, rfl, hO⟩ := hrel
       have hsg := sgn_rng x
       have hsn := Lib.hid (sgn_succ x)
       by_cases hxs : x < s.length
       ·skip
        by_cases hkp : 0 < k
        ·have hdm := cplx_faces hC.out Hmem.out hkp hxs
         obtain ⟨f, hf⟩ := Int.eq_ofNat_of_zero_le (findI_mem.2 hdm)
         have hfl := (findI_lo (facesB l (k - 1)) (del s x)).2
         have hfc : f < cn := by have := hcd1.len; omega
         have hlt := idx_lt hin hfc
         have hbi := hbm.keep hKi hne
         have hrdi := hrd.keep hKi fun _ _ h => h
         have hcdi := hcd.keep hKi fun _ _ h => h
         have hct : total (facesB l (k - 1)) ≤ 2097152 := by have := facesB_total l (k - 1); omega
         have Hf := Lib.hid hf; clear hf hdm hfl
         go_wp2
         refine wp_region_mix (S := (Keep (fun q => blk am ≠ some q) wr)) [0, 1, 2, 3, 4, 7] [5, 6, 8] P_mixed (by kernel_rfl) (fun _ _ _ _ _ h => h) (Keep.refl _ _).drew ?_
         show wpQuiet _ _ _ (fun a' => wpListS _ _ _ _ [_, _, _] a' _) [_, _, _, _, _, _] _
         repeat (first | go_big_quiet_skip | (go_big_quiet_want; first | (apply quiet_load3 T_mat; rfl; rfl; exact (fun w' hG => hbi.keep hG hne); go_big_quiet_on; simp only [Act.put, List.setIfInBounds_toArray, List.set_cons_succ, List.set_cons_zero]) | (go_big_quiet_op; first | go_big_quiet_on | (refine ⟨_, (fun _ _ => rfl), ?_⟩; go_big_quiet_on))))
         refine wpQuiet_nil ?_
         show wpListS _ _ _ _ _ _ _
         refine wpListS_step rfl (fun K hK => ?_)
         go_wp2_with fail
         refine (without_c _ _ _ x s _ (hrdi.grow (Grow.refl _).drew) hxs (by omega)).mono ?_
         rintro e w6 ⟨a3, c3, rfl, hO3, hB3, hG6⟩
         have hG06 : Grow wr w6 := (Grow.refl wr).drew.trans hG6
         have hr3 := hO3.rdI (S := fun _ => True) (fun _ _ => trivial) (fun z hz => hrd.rng z (del_sub hz))
         go_wp2_with fail
         refine hK _ _ (hG06.any) ?_
         clear hK K
         refine wpListS_step rfl (fun K hK => ?_)
         go_wp2_with fail
         refine (indexOfSimplex_c _ _ _ _ _ _ _ (del s x) _ (hcdi.grow hG06) hr3 (by omega) hct).mono ?_
         rintro e w7 ⟨rfl, hG7⟩
         have hG07 := hG06.trans hG7
         rw [Hf.out]
         go_wp2_with fail
         refine hK _ _ (hG07.any) ?_
         clear hK K
         refine wpListS_step rfl (fun K hK => ?_)
         go_wp2_with fail
         refine (set_c am _ _ _ i f (i * cn + f) _ _ _ _ (hO.grow hG07) rfl hlt (by omega) (by omega) (by omega) (by omega)).mono ?_
         rintro e w8 ⟨rfl, hO8, hK8⟩
         have hK08 : Keep (fun q => blk am ≠ some q) wr w8 := hG07.any.trans hK8
         go_wp2_with fail
         refine hK _ _ (hK08) ?_
         clear hK K
         refine wpListS_nil ?_
         go_wp2
         go_roundw
         case rel => exact ⟨hKi.trans hK08, x + 1, by omega, by go_num, by rw [hsn.out], by conv => { arg 7; arg 1; unfold bRow }; rw [if_pos hkp, Hf.out]; exact hO8⟩
         case measure => simp [intOf]; omega
        ·go_wp2
         go_roundw
         case rel => exact ⟨hKi, x + 1, by omega, by go_num, by rw [hsn.out], by rw [bRow_zero hkp] at hO ⊢; exact hO⟩
         case measure => simp [intOf]; omega
       ·have hx' : x = s.length := by omega
        subst hx'
        go_wp2
        go_roundw
        case rel => exact ⟨hK.trans hKi, hbm.keep hKi hne, i + 1, by omega, by go_num, by unfold bRows; rw [Hgd.out, show (facesB l (k - 1)).length = cn from hcd1.len]; exact hO⟩
        case measure => simp [intOf]; omega
     ·have hi' : i = rn := by omega
      subst hi'
      obtain ⟨⟨c0, c1, c2⟩, f0, f1, f2⟩ := hbm.three
      have hb4r := (hb4.grow hG5).keep hK (fun e => by have := hB5 _ e; have := hb4.lt; omega)
      obtain ⟨⟨d0, d1, d2⟩, g0, g1, g2⟩ := hb4r.three
      go_wp2
      have er := hrd1.len
      have ec := hcd1.len
      have hlt4 := hb4.lt
      have hKs : Keep (fun q => q ≠ w.heap.size) wr (((wr.setCell ⟨w.heap.size, 0, none⟩ (.int .i64 (i : Int))).setCell ⟨w.heap.size, 1, none⟩ (.int .i64 (cn : Int))).setCell ⟨w.heap.size, 2, none⟩ (.slice am (i * cn) (i * cn))) :=
       (((Keep.refl _ wr).setCell (fun _ e => e rfl) _).setCell (fun _ e => e rfl) _).setCell (fun _ e => e rfl) _
      have hGr : Grow w wr := (hG04.trans hG5).keep hK fun j hj e => by have := hB5 j e; have := hG04.size; omega
      refine ret_cell_tmp T_mat rfl rfl rfl (((hb4r.set 0 _).set 1 _).set 2 _) ⟨_, rfl, ⟨am, i * cn, i * cn, ?_, ?_, bRows_rng _ _ _ _, (fun g hg => ?_), ?_, ?_⟩, ?_⟩
      ·simp [boundM, er, ec]
      ·have := hO.keep hKs (fun g hg _ e => by have := hB5 g hg; omega)
       rw [← er] at this
       rw [← er]
       exact this
      ·have h1 := hO.lt hg
       have h2 := hB5 g hg
       exact ⟨by have := hG04.size; omega, by simpa using h1⟩
      ·simp only [boundM, er, I64]; omega
      ·simp only [boundM, ec, I64]; omega
      ·exact hGr.keep hKs (fun j hj e => by omega)
   ·have q1 : (k == 0) = false := by simpa using hkz
    have q2 : (k != 0) = true := by simpa using hkz
    have hC3 : RdII w3 (fun _ => True) ca cn cc (facesB l (k - 1)) := hCo.rdII fun _ _ => trivial
    obtain ⟨w4, rfl⟩ : ∃ w4 : World, w4 = w3 := ⟨_, rfl⟩
    have hR4 := hR3
    have hC4 := hC3
    have hG04 := hG03
    clear hR3 hC3 hR hCo hkz
    go_wp2_with fail
    have hrd0 : RdII w4 (fun b => b < w4.heap.size) ra rn rc (facesB l k) := hR4.weak fun _ hb _ => hb
    have hcd0 : RdII w4 (fun b => b < w4.heap.size) ca cn cc (facesB l (k - 1)) := hC4.weak fun _ hb _ => hb
    have hrn : rn ≤ 24 := by have := cplx_few hC.out k; have := hrd0.len; omega
    have hcn : cn ≤ 24 := by have := cplx_few hC.out (k - 1); have := hcd0.len; omega
    refine (newMatrix_c rn cn _ (by omega) (by omega)).mono ?_
    rintro e w5 ⟨am, rfl, hO, hB5, hG5⟩
    have hs5 := hG5.size
    have hN : rn * cn ≤ 1048576 := Nat.le_trans (Nat.mul_le_mul hrn hcn) (by omega)
    have hbm0 := Blk.newAt w5 #[.int .i64 (rn : Int), .int .i64 (cn : Int), .slice am (rn * cn) (rn * cn)] 32 rfl
    have hGb : Grow w5 (w5.alloc (.cells #[.int .i64 (rn : Int), .int .i64 (cn : Int), .slice am (rn * cn) (rn * cn)] 32)) := (Grow.refl _).alloc _ _
    have hne : blk am ≠ some w5.heap.size := fun e => by have := hO.lt e; omega
    have hrd1 : RdII w5 (fun q => blk am ≠ some q) ra rn rc (facesB l k) := (hrd0.grow hG5).weak fun b hb hb2 e => by have := hB5 b e; omega
    have hcd1 : RdII w5 (fun q => blk am ≠ some q) ca cn cc (facesB l (k - 1)) := (hcd0.grow hG5).weak fun b hb hb2 e => by have := hB5 b e; omega
    replace hO : Own w5 3 1 am (rn * cn) (rn * cn) (ints (bRows k (facesB l k) (facesB l (k - 1)) 0)) := by unfold bRows; rw [hrd0.len, hcd0.len]; exact hO
    clear hR4 hC4 hrd0 hcd0
    go_wp2
    go_loopw [42] (fun q wr => Keep (fun q => blk am ≠ some q) w5 wr ∧ Blk wr w5.heap.size #[.int .i64 (rn : Int), .int .i64 (cn : Int), .slice am (rn * cn) (rn * cn)] 32 ∧ ∃ i : Nat, i ≤ rn ∧ q = .int .i64 i ∧ Own wr 3 1 am (rn * cn) (rn * cn) (ints (bRows k (facesB l k) (facesB l (k - 1)) i))) (fun q _ => rn - (intOf q).toNat)
    case atStart => exact ⟨hGb.any, hbm0, 0, Nat.zero_le _, rfl, hO.grow hGb⟩
    case round =>
     clear hbm0 hO hGb
     obtain ⟨hK, hbm, i, hi, rfl, hO⟩ := hrel
     by_cases hin : i < rn
     ·obtain ⟨b, off, s, sa, sc, rfl, hx, hbS, hbw, hc, hrd⟩ := (hrd1.keep hK fun _ _ h => h).at hin
      have hcd := hcd1.keep hK fun _ _ h => h
      have hmem := List.mem_of_getElem? hx
      have hsl : s.length ≤ 4 := isSimpB_len (hC.out.1.1 s (mem_facesB.1 hmem).1) |>.2
      have hgd : (facesB l k).getD i [] = s := by simp [List.getD, hx]
      have Hmem := Lib.hid hmem; have Hgd := Lib.hid hgd; clear hmem hgd hx
      obtain ⟨wo, rfl⟩ : ∃ wo : World, wo = wr := ⟨_, rfl⟩
      go_wp2
      go_loopw [49, 11] (fun q sg wr => Keep (fun q => blk am ≠ some q) wo wr ∧ ∃ x : Nat, x ≤ s.length ∧ q = .int .i64 x ∧ sg = .int .i64 (sgn x) ∧ Own wr 3 1 am (rn * cn) (rn * cn) (ints (bRow k (facesB l (k - 1)) s (i * cn) x (bRows k (facesB l k) (facesB l (k - 1)) i)))) (fun q _ _ => s.length - (intOf q).toNat)
      case atStart => exact ⟨Keep.refl _ _, 0, Nat.zero_le _, rfl, rfl, hO⟩
      case round =>
       clear hO
       obtain ⟨hKi, x, hxl, rfl, rfl, hO⟩ := hrel
       have hsg := sgn_rng x
       have hsn := Lib.hid (sgn_succ x)
       by_cases hxs : x < s.length
       ·skip
        by_cases hkp : 0 < k
        ·have hdm := cplx_faces hC.out Hmem.out hkp hxs
         obtain ⟨f, hf⟩ := Int.eq_ofNat_of_zero_le (findI_mem.2 hdm)
         have hfl := (findI_lo (facesB l (k - 1)) (del s x)).2
         have hfc : f < cn := by have := hcd1.len; omega
         have hlt := idx_lt hin hfc
         have hbi := hbm.keep hKi hne
         have hrdi := hrd.keep hKi fun _ _ h => h
         have hcdi := hcd.keep hKi fun _ _ h => h
         have hct : total (facesB l (k - 1)) ≤ 2097152 := by have := facesB_total l (k - 1); omega
         have Hf := Lib.hid hf; clear hf hdm hfl
         go_wp2
         refine wp_region_mix (S := (Keep (fun q => blk am ≠ some q) wr)) [0, 1, 2, 3, 4, 7] [5, 6, 8] P_mixed (by kernel_rfl) (fun _ _ _ _ _ h => h) (Keep.refl _ _).drew ?_
         show wpQuiet _ _ _ (fun a' => wpListS _ _ _ _ [_, _, _] a' _) [_, _, _, _, _, _] _
         repeat (first | go_big_quiet_skip | (go_big_quiet_want; first | (apply quiet_load3 T_mat; rfl; rfl; exact (fun w' hG => hbi.keep hG hne); go_big_quiet_on; simp only [Act.put, List.setIfInBounds_toArray, List.set_cons_succ, List.set_cons_zero]) | (go_big_quiet_op; first | go_big_quiet_on | (refine ⟨_, (fun _ _ => rfl), ?_⟩; go_big_quiet_on))))
         refine wpQuiet_nil ?_
         show wpListS _ _ _ _ _ _ _
         refine wpListS_step rfl (fun K hK => ?_)
         go_wp2_with fail
         refine (without_c _ _ _ x s _ (hrdi.grow (Grow.refl _).drew) hxs (by omega)).mono ?_
         rintro e w6 ⟨a3, c3, rfl, hO3, hB3, hG6⟩
         have hG06 : Grow wr w6 := (Grow.refl wr).drew.trans hG6
         have hr3 := hO3.rdI (S := fun _ => True) (fun _ _ => trivial) (fun z hz => hrd.rng z (del_sub hz))
         go_wp2_with fail
         refine hK _ _ (hG06.any) ?_
         clear hK K
         refine wpListS_step rfl (fun K hK => ?_)
         go_wp2_with fail
         refine (indexOfSimplex_c _ _ _ _ _ _ _ (del s x) _ (hcdi.grow hG06) hr3 (by omega) hct).mono ?_
         rintro e w7 ⟨rfl, hG7⟩
         have hG07 := hG06.trans hG7
         rw [Hf.out]
         go_wp2_with fail
         refine hK _ _ (hG07.any) ?_
         clear hK K
         refine wpListS_step rfl (fun K hK => ?_)
         go_wp2_with fail
         refine (set_c am _ _ _ i f (i * cn + f) _ _ _ _ (hO.grow hG07) rfl hlt (by omega) (by omega) (by omega) (by omega)).mono ?_
         rintro e w8 ⟨rfl, hO8, hK8⟩
         have hK08 : Keep (fun q => blk am ≠ some q) wr w8 := hG07.any.trans hK8
         go_wp2_with fail
         refine hK _ _ (hK08) ?_
         clear hK K
         refine wpListS_nil ?_
         go_wp2
         go_roundw
         case rel => exact ⟨hKi.trans hK08, x + 1, by omega, by go_num, by rw [hsn.out], by conv => { arg 7; arg 1; unfold bRow }; rw [if_pos hkp, Hf.out]; exact hO8⟩
         case measure => simp [intOf]; omega
        ·go_wp2
         go_roundw
         case rel => exact ⟨hKi, x + 1, by omega, by go_num, by rw [hsn.out], by rw [bRow_zero hkp] at hO ⊢; exact hO⟩
         case measure => simp [intOf]; omega
       ·have hx' : x = s.length := by omega
        subst hx'
        go_wp2
        go_roundw
        case rel => exact ⟨hK.trans hKi, hbm.keep hKi hne, i + 1, by omega, by go_num, by unfold bRows; rw [Hgd.out, show (facesB l (k - 1)).length = cn from hcd1.len]; exact hO⟩
        case measure => simp [intOf]; omega
     ·have hi' : i = rn := by omega
      subst hi'
      obtain ⟨⟨c0, c1, c2⟩, f0, f1, f2⟩ := hbm.three
      have hb4r := (hb4.grow hG5).keep hK (fun e => by have := hB5 _ e; have := hb4.lt; omega)
      obtain ⟨⟨d0, d1, d2⟩, g0, g1, g2⟩ := hb4r.three
      go_wp2
      have er := hrd1.len
      have ec := hcd1.len
      have hlt4 := hb4.lt
      have hKs : Keep (fun q => q ≠ w.heap.size) wr (((wr.setCell ⟨w.heap.size, 0, none⟩ (.int .i64 (i : Int))).setCell ⟨w.heap.size, 1, none⟩ (.int .i64 (cn : Int))).setCell ⟨w.heap.size, 2, none⟩ (.slice am (i * cn) (i * cn))) :=
       (((Keep.refl _ wr).setCell (fun _ e => e rfl) _).setCell (fun _ e => e rfl) _).setCell (fun _ e => e rfl) _
      have hGr : Grow w wr := (hG04.trans hG5).keep hK fun j hj e => by have := hB5 j e; have := hG04.size; omega
      refine ret_cell_tmp T_mat rfl rfl rfl (((hb4r.set 0 _).set 1 _).set 2 _) ⟨_, rfl, ⟨am, i * cn, i * cn, ?_, ?_, bRows_rng _ _ _ _, (fun g hg => ?_), ?_, ?_⟩, ?_⟩
      ·simp [boundM, er, ec]
      ·have := hO.keep hKs (fun g hg _ e => by have := hB5 g hg; omega)
       rw [← er] at this
       rw [← er]
       exact this
      ·have h1 := hO.lt hg
       have h2 := hB5 g hg
       exact ⟨by have := hG04.size; omega, by simpa using h1⟩
      ·simp only [boundM, er, I64]; omega
      ·simp only [boundM, ec, I64]; omega
      ·exact hGr.keep hKs (fun j hj e => by omega)
  ·have he : boundOk l k = false := by unfold boundOk inB; rw [hB]; simp; omega
   have he2 : boundB l k = { rows := 0, cols := 0, cells := [] } := by unfold boundB; rw [he]; rfl
   rw [he, he2]
   have HB := Lib.hid hB; clear hB he he2
   by_cases hk0 : k < 0
   ·skip
    go_enter Try.func23, Try.ntmps23
    go_wp2_with fail
    refine (implIsComplex_c _ _ _ l _ (h.grow hw0) hn ht).mono ?_
    rintro e w1 ⟨rfl, hG⟩
    rw [HB.out]
    have hb := hb4.grow hG
    obtain ⟨⟨c0, c1, c2⟩, f0, f1, f2⟩ := hb.three
    go_wp2
    refine ret_cell_tmp T_mat rfl rfl rfl (((hb.set 0 _).set 1 _).set 2 _) ⟨_, rfl, ⟨none, 0, 0, rfl, Own.nilw, (fun x hx => by cases hx), (fun g hg => by simp at hg), ?_, ?_⟩, ?_⟩
    ·simp [I64]
    ·simp [I64]
    ·exact (((hw0.trans hG).setCell (Nat.le_refl _) _).setCell (Nat.le_refl _) _).setCell (Nat.le_refl _) _
   ·have hk5 : 4 < k := by omega
    go_enter Try.func23, Try.ntmps23
    go_wp2_with fail
    refine (implIsComplex_c _ _ _ l _ (h.grow hw0) hn ht).mono ?_
    rintro e w1 ⟨rfl, hG⟩
    rw [HB.out]
    have hb := hb4.grow hG
    obtain ⟨⟨c0, c1, c2⟩, f0, f1, f2⟩ := hb.three
    go_wp2
    refine ret_cell_tmp T_mat rfl rfl rfl (((hb.set 0 _).set 1 _).set 2 _) ⟨_, rfl, ⟨none, 0, 0, rfl, Own.nilw, (fun x hx => by cases hx), (fun g hg => by simp at hg), ?_, ?_⟩, ?_⟩
    ·simp [I64]
    ·simp [I64]
    ·exact (((hw0.trans hG).setCell (Nat.le_refl _) _).setCell (Nat.le_refl _) _).setCell (Nat.le_refl _) _
theorem specBoundaryOf_c {S : Nat → Prop} (a : Option Addr) (n cap : Nat) (l : List (List Int)) (k : Int) (w : World) (h : RdII w S a n cap l) (hn : n ≤ 1048576) (ht : total l ≤ 1048576) (hk : I64 k) :
  Calls Try.prog 10 #[.slice a n cap, .int .i64 k] w fun e w' => ∃ v, e = .returned (.tuple #[v, .bool (boundOk l k)]) ∧ OM w' (New w w') v (boundB l k) ∧ Grow w w' := by
 have hl := h.len
 have hw0 : Grow w (w.alloc (.cells #[.int .i64 0, .int .i64 0, .slice none 0 0] 32)) := (Grow.refl w).alloc _ _
 have hb4 := Blk.newAt w #[.int .i64 0, .int .i64 0, .slice none 0 0] 32 rfl
 unfold I64 at hk
 cases hB : isCplxB l with
 | false =>
  have he : boundOk l k = false := by unfold boundOk; rw [hB]; rfl
  have he2 : boundB l k = { rows := 0, cols := 0, cells := [] } := by unfold boundB; rw [he]; rfl
  rw [he, he2]
  have HB := Lib.hid hB; clear hB he he2
  go_enter Try.func10, Try.ntmps10
  go_wp2_with fail
  refine (specIsComplex_c _ _ _ l _ (h.grow hw0) hn ht).mono ?_
  rintro e w1 ⟨rfl, hG⟩
  rw [HB.out]
  have hb := hb4.grow hG
  obtain ⟨⟨c0, c1, c2⟩, f0, f1, f2⟩ := hb.three
  go_wp2
  refine ret_cell_tmp T_mat rfl rfl rfl (((hb.set 0 _).set 1 _).set 2 _) ⟨_, rfl, ⟨none, 0, 0, rfl, Own.nilw, (fun x hx => by cases hx), (fun g hg => by simp at hg), ?_, ?_⟩, ?_⟩
  ·simp [I64]
  ·simp [I64]
  ·exact (((hw0.trans hG).setCell (Nat.le_refl _) _).setCell (Nat.le_refl _) _).setCell (Nat.le_refl _) _
 | true =>
  by_cases hk4 : 0 ≤ k ∧ k ≤ 4
  ·have he : boundOk l k = true := by unfold boundOk inB; rw [hB]; simp; omega
   have he2 : boundB l k = boundM l k := by unfold boundB; rw [if_pos he]
   rw [he, he2]
   have hC := Lib.hid (isCplxB_iff.1 hB)
   have HB := Lib.hid hB
   have HI := Lib.hid (show inB k 0 4 = true by unfold inB; simp; omega)
   clear hB he he2
   go_enter Try.func10, Try.ntmps10
   go_wp2_with fail
   refine (specIsComplex_c _ _ _ l _ (h.grow hw0) hn ht).mono ?_
   rintro e w1 ⟨rfl, hG1⟩
   rw [HB.out]
   replace hb4 := hb4.grow hG1
   go_wp2_with fail
   refine (l1In_c _ _ _ _).mono ?_
   rintro e w' ⟨rfl, rfl⟩
   rw [HI.out]
   go_wp2_with fail
   refine (specFacesOf_c _ _ _ l k _ (h.grow (hw0.trans hG1)) hn ht).mono ?_
   rintro e w2 ⟨ra, rn, rc, rfl, hR, hG2⟩
   go_wp2_with fail
   refine (specFacesOf_c _ _ _ l (k - 1) _ (h.grow ((hw0.trans hG1).trans hG2)) hn ht).mono ?_
   rintro e w4 ⟨ca, cn, cc, rfl, hCo, hG3⟩
   have hG04 : Grow w w4 := ((hw0.trans hG1).trans hG2).trans hG3
   have hrd0 : RdII w4 (fun b => b < w4.heap.size) ra rn rc (facesB l k) := ((hR.rdII (S := fun _ => True) fun _ _ => trivial).grow hG3).weak fun _ hb _ => hb
   have hcd0 : RdII w4 (fun b => b < w4.heap.size) ca cn cc (facesB l (k - 1)) := (hCo.rdII (S := fun _ => True) fun _ _ => trivial).weak fun _ hb _ => hb
   replace hb4 := (hb4.grow hG2).grow hG3
   have hrn : rn ≤ 24 := by have := cplx_few hC.out k; have := hrd0.len; omega
   have hcn : cn ≤ 24 := by have := cplx_few hC.out (k - 1); have := hcd0.len; omega
   go_wp2_with fail
   refine (l3New_c rn cn _ (by omega) (by omega)).mono ?_
   rintro e w5 ⟨am, rfl, hO, hB5, hG5⟩
   have hs5 := hG5.size
   have hN : rn * cn ≤ 1048576 := Nat.le_trans (Nat.mul_le_mul hrn hcn) (by omega)
   have hbm0 := Blk.newAt w5 #[.int .i64 (rn : Int), .int .i64 (cn : Int), .slice am (rn * cn) (rn * cn)] 32 rfl
   have hGb : Grow w5 (w5.alloc (.cells #[.int .i64 (rn : Int), .int .i64 (cn : Int), .slice am (rn * cn) (rn * cn)] 32)) := (Grow.refl _).alloc _ _
   have hne : blk am ≠ some w5.heap.size := fun e => by have := hO.lt e; omega
   have hrd1 : RdII w5 (fun q => blk am ≠ some q) ra rn rc (facesB l k) := (hrd0.grow hG5).weak fun b hb hb2 e => by have := hB5 b e; omega
   have hcd1 : RdII w5 (fun q => blk am ≠ some q) ca cn cc (facesB l (k - 1)) := (hcd0.grow hG5).weak fun b hb hb2 e => by have := hB5 b e; omega
   replace hO : Own w5 3 1 am (rn * cn) (rn * cn) (ints (bRows k (facesB l k) (facesB l (k - 1)) 0)) := by unfold bRows; rw [hrd0.len, hcd0.len]; exact hO
   clear hrd0 hcd0 hR hCo
   go_wp2
   go_loopw [9] (fun q wr => Keep (fun q => blk am ≠ some q) w5 wr ∧ Blk wr w5.heap.size #[.int .i64 (rn : Int), .int .i64 (cn : Int), .slice am (rn * cn) (rn * cn)] 32 ∧ ∃ i : Nat, i ≤ rn ∧ q = .int .i64 i ∧ Own wr 3 1 am (rn * cn) (rn * cn) (ints (bRows k (facesB l k) (facesB l (k - 1)) i))) (fun q _ => rn - (intOf q).toNat)
   case atStart => exact ⟨hGb.any, hbm0, 0, Nat.zero_le _, rfl, hO.grow hGb⟩
   case round =>
    clear hbm0 hO hGb
    obtain ⟨hK, hbm, i, hi, rfl, hO⟩ := hrel
    by_cases hin : i < rn ∧ 0 < k
    ·obtain ⟨hin, hkp⟩ := hin
     obtain ⟨b, off, s, sa, sc, rfl, hx, hbS, hbw, hc, hrd⟩ := (hrd1.keep hK fun _ _ h => h).at hin
     have hcd := hcd1.keep hK fun _ _ h => h
     have hmem := List.mem_of_getElem? hx
     have hsl : s.length ≤ 4 := isSimpB_len (hC.out.1.1 s (mem_facesB.1 hmem).1) |>.2
     have hsk : (s.length : Int) - 1 = k := (mem_facesB.1 hmem).2
     have hgd : (facesB l k).getD i [] = s := by simp [List.getD, hx]
     have Hmem := Lib.hid hmem; have Hgd := Lib.hid hgd; clear hmem hgd hx
     obtain ⟨wo, rfl⟩ : ∃ wo : World, wo = wr := ⟨_, rfl⟩
     go_wp2
     go_loopw [11, 10] (fun q sg wr => Keep (fun q => blk am ≠ some q) wo wr ∧ ∃ x : Nat, x ≤ s.length ∧ q = .int .i64 x ∧ sg = .int .i64 (sgn x) ∧ Own wr 3 1 am (rn * cn) (rn * cn) (ints (bRow k (facesB l (k - 1)) s (i * cn) x (bRows k (facesB l k) (facesB l (k - 1)) i)))) (fun q _ _ => s.length - (intOf q).toNat)
     case atStart => exact ⟨Keep.refl _ _, 0, Nat.zero_le _, rfl, rfl, hO⟩
     case round =>
      clear hO
      obtain ⟨hKi, x, hxl, rfl, rfl, hO⟩ := hrel
      have hsg := sgn_rng x
      have hsn := Lib.hid (sgn_succ x)
      by_cases hxs : x < s.length
      ·skip
       have hdm := cplx_faces hC.out Hmem.out hkp hxs
       obtain ⟨f, hf⟩ := Int.eq_ofNat_of_zero_le (findI_mem.2 hdm)
       have hfl := (findI_lo (facesB l (k - 1)) (del s x)).2
       have hfc : f < cn := by have := hcd1.len; omega
       have hlt := idx_lt hin hfc
       have hbi := hbm.keep hKi hne
       have hrdi := hrd.keep hKi fun _ _ h => h
       have hcdi := hcd.keep hKi fun _ _ h => h
       have hci := hKi.cell hbS hc
       have hct : total (facesB l (k - 1)) ≤ 2097152 := by have := facesB_total l (k - 1); omega
       have Hf := Lib.hid hf; clear hf hdm hfl
       obtain ⟨⟨c0, c1, c2⟩, f0, f1, f2⟩ := hbi.three
       have hicn : i * cn ≤ 24 * 24 := Nat.mul_le_mul (by omega) hcn
       have hmul : ((i : Int) * (cn : Int)) = ((i * cn : Nat) : Int) := by simp
       have hw1 : IntKind.i64.wrap ((i : Int) * cn) = (i : Int) * cn := by rw [hmul]; exact IntWalk.i64_in _ (by omega)
       have hsum : ((i : Int) * cn + f) = ((i * cn + f : Nat) : Int) := by simp
       have hw2 : IntKind.i64.wrap ((i : Int) * cn + f) = ((i * cn + f : Nat) : Int) := by rw [hsum]; exact IntWalk.i64_in _ (by omega)
       obtain ⟨ix, hix⟩ : ∃ ix, ix = i * cn + f := ⟨_, rfl⟩
       rw [← hix] at hw2 hlt
       have Hix := Lib.hid hix
       clear hmul hsum hix hicn
       cases am with
       | none => have := hO.nil rfl; have := hO.le; omega
       | some p =>
        have hp := (hO.block p rfl).1
        obtain ⟨pb, po, ps⟩ := p
        simp only [Addr.mk.injEq, true_and] at hp
        obtain ⟨rfl, rfl⟩ := hp
        have hOl := hO.len
        have Hlen := Lib.hid (show (bRow k (facesB l (k - 1)) s (i * cn) x (bRows k (facesB l k) (facesB l (k - 1)) i)).length = rn * cn by simpa using hOl)
        clear hOl
        go_wp2
        refine wp_region_mix (S := (Keep (fun q => blk (some (⟨pb, 0, none⟩ : Addr)) ≠ some q) wr)) [0, 1, 2, 3, 4, 5, 6, 7, 8, 9, 10, 11, 15] [12, 13, 14, 16, 17] P_mixed (by kernel_rfl) (fun _ _ _ _ _ h => h) (Keep.refl _ _).drew ?_
        show wpQuiet _ _ _ (fun a' => wpListS _ _ _ _ [_, _, _, _, _] a' _) [_, _, _, _, _, _, _, _, _, _, _, _, _] _
        repeat (first | go_big_quiet_skip | (go_big_quiet_want; first | (apply quiet_load CT_ints; rfl; rfl; exact (fun w' hG => hG.cell hne c2); go_big_quiet_on; simp only [Act.put, List.setIfInBounds_toArray, List.set_cons_succ, List.set_cons_zero]) | (apply quiet_load CT_int; rfl; rfl; exact (fun w' hG => hG.cell hne c1); go_big_quiet_on; simp only [Act.put, List.setIfInBounds_toArray, List.set_cons_succ, List.set_cons_zero]) | (apply quiet_load CT_ints; rfl; rfl; exact (fun w' hG => hG.cell hbS hci); go_big_quiet_on; simp only [Act.put, List.setIfInBounds_toArray, List.set_cons_succ, List.set_cons_zero]) | (go_big_quiet_op; first | go_big_quiet_on | (refine ⟨_, (fun _ _ => rfl), ?_⟩; go_big_quiet_on))))
        refine wpQuiet_nil ?_
        show wpListS _ _ _ _ _ _ _
        refine wpListS_step rfl (fun K hK => ?_)
        go_wp2_with fail
        refine (l32Face_c _ _ _ x s _ (hrdi.grow (Grow.refl _).drew) hxs (by omega)).mono ?_
        rintro e w6 ⟨a3, c3, rfl, hO3, hB3, hG6⟩
        have hG06 : Grow wr w6 := (Grow.refl wr).drew.trans hG6
        have hr3 := hO3.rdI (S := fun _ => True) (fun _ _ => trivial) (fun z hz => hrd.rng z (del_sub hz))
        go_wp2_with fail
        refine hK _ _ (hG06.any) ?_
        clear hK K
        refine wpListS_step rfl (fun K hK => ?_)
        go_wp2_with fail
        refine (l32Find_c _ _ _ _ _ _ _ (del s x) _ (hcdi.grow hG06) hr3 (by omega) hct (by rw [del_len hxs]; omega)).mono ?_
        rintro e w7 ⟨rfl, hQ7⟩
        have hG07 := hG06.trans hQ7.grow
        rw [Hf.out]
        go_wp2_with fail
        refine hK _ _ (hG07.any) ?_
        clear hK K
        have hO7 := hO.grow hG07
        obtain ⟨cv, hcv⟩ : ∃ cv, (ints (bRow k (facesB l (k - 1)) s (i * cn) x (bRows k (facesB l k) (facesB l (k - 1)) i)))[ix]? = some cv := ⟨_, List.getElem?_eq_getElem (by rw [List.length_map, Hlen.out]; exact hlt)⟩
        have hce := hO7.cell hcv
        have hfr := hO7.free ix
        simp only at hce hfr
        clear hcv
        refine wpListS_step rfl (fun K hK => ?_)
        go_wp2_with fail
        refine hK _ _ (hG07.any) ?_
        clear hK K
        refine wpListS_step rfl (fun K hK => ?_)
        go_wp2_with fail
        refine hK _ _ (hG07.any) ?_
        clear hK K
        refine wpListS_step rfl (fun K hK => ?_)
        go_wp2_with fail
        have hK08 : Keep (fun q => blk (some (⟨pb, 0, none⟩ : Addr)) ≠ some q) wr (w7.setCell ⟨pb, ix, none⟩ (.int .i64 (sgn x))) := hG07.any.setCell (fun _ e => e rfl) _
        refine hK _ _ (hK08) ?_
        clear hK K
        refine wpListS_nil ?_
        have hO8 := hO7.set ix (.int .i64 (sgn x))
        clear hO7
        go_wp2
        go_roundw
        case rel => exact ⟨hKi.trans hK08, x + 1, by omega, by go_num, by rw [hsn.out], by conv => { arg 7; arg 1; unfold bRow }; rw [if_pos hkp, Hf.out, ints_set, Int.toNat_natCast, ← Hix.out]; exact hO8⟩
        case measure => simp [intOf]; omega
      ·have hx' : x = s.length := by omega
       subst hx'
       go_wp2
       go_roundw
       case rel => exact ⟨hK.trans hKi, hbm.keep hKi hne, i + 1, by omega, by go_num, by unfold bRows; rw [Hgd.out, show (facesB l (k - 1)).length = cn from hcd1.len]; exact hO⟩
       case measure => simp [intOf]; omega
    ·have hend : ¬ (i < rn) ∨ ¬ 0 < k := by omega
     replace hO : Own wr 3 1 am (rn * cn) (rn * cn) (ints (bRows k (facesB l k) (facesB l (k - 1)) rn)) := by
      by_cases hz : 0 < k
      ·rwa [show i = rn by omega] at hO
      ·rwa [bRows_zero hz] at hO ⊢
     obtain ⟨⟨c0, c1, c2⟩, f0, f1, f2⟩ := hbm.three
     have hb4r := (hb4.grow hG5).keep hK (fun e => by have := hB5 _ e; have := hb4.lt; omega)
     obtain ⟨⟨d0, d1, d2⟩, g0, g1, g2⟩ := hb4r.three
     have er := hrd1.len
     have ec := hcd1.len
     have hlt4 := hb4.lt
     have hKs : Keep (fun q => q ≠ w.heap.size) wr (((wr.setCell ⟨w.heap.size, 0, none⟩ (.int .i64 (rn : Int))).setCell ⟨w.heap.size, 1, none⟩ (.int .i64 (cn : Int))).setCell ⟨w.heap.size, 2, none⟩ (.slice am (rn * cn) (rn * cn))) :=
      (((Keep.refl _ wr).setCell (fun _ e => e rfl) _).setCell (fun _ e => e rfl) _).setCell (fun _ e => e rfl) _
     have hGr : Grow w wr := (hG04.trans hG5).keep hK fun j hj e => by have := hB5 j e; have := hG04.size; omega
     have Her := Lib.hid er; have Hec := Lib.hid ec; clear er ec
     rcases hend with hend | hend
     ·go_wp2
      have er := Her.out; have ec := Hec.out
      refine ret_cell_tmp T_mat rfl rfl rfl (((hb4r.set 0 _).set 1 _).set 2 _) ⟨_, rfl, ⟨am, rn * cn, rn * cn, ?_, ?_, bRows_rng _ _ _ _, (fun g hg => ?_), ?_, ?_⟩, ?_⟩
      ·simp [boundM, er, ec]
      ·have := hO.keep hKs (fun g hg _ e => by have := hB5 g hg; omega)
       rw [← er] at this
       rw [← er]
       exact this
      ·have h1 := hO.lt hg
       have h2 := hB5 g hg
       exact ⟨by have := hG04.size; omega, by simpa using h1⟩
      ·simp only [boundM, er, I64]; omega
      ·simp only [boundM, ec, I64]; omega
      ·exact hGr.keep hKs (fun j hj e => by omega)
     ·by_cases hi2 : i < rn
      ·go_wp2
       have er := Her.out; have ec := Hec.out
       refine ret_cell_tmp T_mat rfl rfl rfl (((hb4r.set 0 _).set 1 _).set 2 _) ⟨_, rfl, ⟨am, rn * cn, rn * cn, ?_, ?_, bRows_rng _ _ _ _, (fun g hg => ?_), ?_, ?_⟩, ?_⟩
       ·simp [boundM, er, ec]
       ·have := hO.keep hKs (fun g hg _ e => by have := hB5 g hg; omega)
        rw [← er] at this
        rw [← er]
        exact this
       ·have h1 := hO.lt hg
        have h2 := hB5 g hg
        exact ⟨by have := hG04.size; omega, by simpa using h1⟩
       ·simp only [boundM, er, I64]; omega
       ·simp only [boundM, ec, I64]; omega
       ·exact hGr.keep hKs (fun j hj e => by omega)
      ·go_wp2
       have er := Her.out; have ec := Hec.out
       refine ret_cell_tmp T_mat rfl rfl rfl (((hb4r.set 0 _).set 1 _).set 2 _) ⟨_, rfl, ⟨am, rn * cn, rn * cn, ?_, ?_, bRows_rng _ _ _ _, (fun g hg => ?_), ?_, ?_⟩, ?_⟩
       ·simp [boundM, er, ec]
       ·have := hO.keep hKs (fun g hg _ e => by have := hB5 g hg; omega)
        rw [← er] at this
        rw [← er]
        exact this
       ·have h1 := hO.lt hg
        have h2 := hB5 g hg
        exact ⟨by have := hG04.size; omega, by simpa using h1⟩
       ·simp only [boundM, er, I64]; omega
       ·simp only [boundM, ec, I64]; omega
       ·exact hGr.keep hKs (fun j hj e => by omega)
  ·have he : boundOk l k = false := by unfold boundOk inB; rw [hB]; simp; omega
   have he2 : boundB l k = { rows := 0, cols := 0, cells := [] } := by unfold boundB; rw [he]; rfl
   rw [he, he2]
   have HB := Lib.hid hB
   have HI := Lib.hid (show inB k 0 4 = false by unfold inB; simp; omega)
   clear hB he he2
   go_enter Try.func10, Try.ntmps10
   go_wp2_with fail
   refine (specIsComplex_c _ _ _ l _ (h.grow hw0) hn ht).mono ?_
   rintro e w1 ⟨rfl, hG⟩
   rw [HB.out]
   have hb := hb4.grow hG
   obtain ⟨⟨c0, c1, c2⟩, f0, f1, f2⟩ := hb.three
   go_wp2_with fail
   refine (l1In_c _ _ _ _).mono ?_
   rintro e w' ⟨rfl, rfl⟩
   rw [HI.out]
   go_wp2
   refine ret_cell_tmp T_mat rfl rfl rfl (((hb.set 0 _).set 1 _).set 2 _) ⟨_, rfl, ⟨none, 0, 0, rfl, Own.nilw, (fun x hx => by cases hx), (fun g hg => by simp at hg), ?_, ?_⟩, ?_⟩
   ·simp [I64]
   ·simp [I64]
   ·exact (((hw0.trans hG).setCell (Nat.le_refl _) _).setCell (Nat.le_refl _) _).setCell (Nat.le_refl _) _
theorem boundB_bd (l : List (List Int)) (k : Int) : bdM (boundB l k) ≤ 1024 := by
 unfold boundB
 split
 ·rename_i h
  have hC : IsCplx l := isCplxB_iff.1 (by unfold boundOk at h; simp at h; exact h.1)
  have : (boundM l k).cells.length = (facesB l k).length * (facesB l (k - 1)).length := bRows_len _ _ _ _
  unfold bdM
  rw [this]
  have := Nat.mul_le_mul (cplx_few hC k) (cplx_few hC (k - 1))
  omega
 ·simp [bdM]
theorem specBoundaryOf_v {S : Nat → Prop} {v : Value} {l : List (List Int)} {k : Int} {w : World} (h : VII w S v l) (hb : bdII l ≤ 1048576) (hk : I64 k) :
  Calls Try.prog 10 #[v, .int .i64 k] w fun e w' => ∃ r, e = .returned (.tuple #[r, .bool (boundOk l k)]) ∧ OM w' (New w w') r (boundB l k) ∧ Grow w w' := by
 obtain ⟨a, n, c, rfl, h⟩ := h
 have hl := h.len
 unfold bdII at hb
 exact specBoundaryOf_c a n c l k w h (by omega) (by omega) hk
theorem implBoundaryOf_v {S : Nat → Prop} {v : Value} {l : List (List Int)} {k : Int} {w : World} (h : VII w S v l) (hb : bdII l ≤ 1048576) (hk : I64 k) :
  Calls Try.prog 23 #[v, .int .i64 k] w fun e w' => ∃ r, e = .returned (.tuple #[r, .bool (boundOk l k)]) ∧ OM w' (New w w') r (boundB l k) ∧ Grow w w' := by
 obtain ⟨a, n, c, rfl, h⟩ := h
 have hl := h.len
 unfold bdII at hb
 exact implBoundaryOf_c a n c l k w h (by omega) (by omega) hk
end Go.Proofs.Ytneeelebnnfbeaa

namespace Go.Proofs.Ytneeelebnnfbeaa
open Go.RowKit
end Go.Proofs.Ytneeelebnnfbeaa
