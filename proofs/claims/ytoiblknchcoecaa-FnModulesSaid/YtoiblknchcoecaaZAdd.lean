/-
  AddMatrices of two rows, AddIn: the program's and the reference's.
-/
import Derived.Test.YtoiblknchcoecaaZNorm
import Derived.Test.YtoiblknchcoecaaZIsMat
import Derived.Test.YtoiblknchcoecaaZInts
import Derived.Test.YtoiblknchcoecaaZStack
set_option maxHeartbeats 8000000
set_option maxRecDepth 100000
namespace Go.Proofs.Ytoiblknchcoecaa
open Go.RowKit
def adV (xs ys : List Int) (k : Nat) : Int := xs.getD k 0 + ys.getD k 0
def adL (xs ys : List Int) : List Int := (List.range xs.length).map (adV xs ys)
theorem adL_len (xs ys : List Int) : (adL xs ys).length = xs.length := by simp [adL]
theorem updR_map {f : Nat → Int} : ∀ {n : Nat} {zs : List Int}, zs.length = n → updR f 0 n zs = (List.range n).map f := fun {n zs} h => by
 apply List.ext_getElem
 ·rw [updR_len]; simp [h]
 ·intro i h1 h2
  have h3 : i < n := by simpa using h2
  have := updR_getD (f := f) (o := 0) (k := n) (m := zs) (by omega) i
  rw [if_pos (by omega)] at this
  rw [List.getD_eq_getElem?_getD, List.getElem?_eq_getElem h1] at this
  simpa using this
theorem adV_rng {xs ys : List Int} (nx : NumL xs) (ny : NumL ys) (k : Nat) : -800000000 ≤ adV xs ys k ∧ adV xs ys k ≤ 800000000 := by
 have := nx.getD k; have := ny.getD k; unfold adV; omega
theorem adL_rng {xs ys : List Int} (nx : NumL xs) (ny : NumL ys) : ∀ x ∈ adL xs ys, I64 x := fun x hx => by
 unfold adL at hx
 obtain ⟨k, _, rfl⟩ := List.mem_map.1 hx
 have := adV_rng nx ny k
 unfold I64; omega
theorem isMatB_rowN {v : List Int} (h : v.length ≤ 24) : isMatB (rowM v) = numsB v := isMatB_row h
theorem iAddRows_c {S T : Nat → Prop} {aa ab : Option Addr} {na nb ca cb : Nat} {xs ys : List Int} {w : World} (hA : RdI w S aa na ca xs) (hB : RdI w T ab nb cb ys) (nx : NumL xs) (ny : NumL ys) (hC : xs.length ≤ 24) (hxy : ys.length = xs.length) :
  Calls Try.prog 53 #[.agg #[.int .i64 1, .int .i64 (na : Int), .slice aa na ca], .agg #[.int .i64 1, .int .i64 (nb : Int), .slice ab nb cb]] w fun e w' => ∃ r, e = .returned (.tuple #[r, .bool (numsB (adL xs ys))]) ∧ OM w' (New w w') r (okM (rowM (adL xs ys))) ∧ Grow w w' := by
 have hlx := hA.len
 have hly := hB.len
 obtain ⟨C, hCe⟩ : ∃ C, C = na := ⟨_, rfl⟩
 obtain rfl : nb = C := by omega
 obtain rfl : na = nb := by omega
 clear hCe
 have hC24 : na ≤ 24 := by omega
 have vA : VM w S (.agg #[.int .i64 1, .int .i64 (na : Int), .slice aa na ca]) { rows := 1, cols := (na : Int), cells := xs } := ⟨aa, na, ca, rfl, hA, by unfold I64; simp, by unfold I64; simp; omega⟩
 have vB : VM w T (.agg #[.int .i64 1, .int .i64 (na : Int), .slice ab na cb]) { rows := 1, cols := (na : Int), cells := ys } := ⟨ab, na, cb, rfl, hB, by unfold I64; simp, by unfold I64; simp; omega⟩
 have HMA := Lib.hid (show isMatB { rows := 1, cols := (na : Int), cells := xs } = true by rw [← hlx]; exact (isMatB_row hC).trans (L_numsB nx))
 have HMB := Lib.hid (show isMatB { rows := 1, cols := (na : Int), cells := ys } = true by rw [← hly]; exact (isMatB_row (by omega)).trans (L_numsB ny))
 have hbA : bdM { rows := 1, cols := (na : Int), cells := xs } ≤ 1048576 := by unfold bdM; simp only; omega
 have hbB : bdM { rows := 1, cols := (na : Int), cells := ys } ≤ 1048576 := by unfold bdM; simp only; omega
 have Hnum := Lib.hid (show isMatB (rowM (adL xs ys)) = numsB (adL xs ys) from isMatB_rowN (by rw [adL_len]; exact hC))
 have Hrow := Lib.hid (show rowM (adL xs ys) = { rows := 1, cols := (na : Int), cells := adL xs ys } by unfold rowM; rw [adL_len, hlx])
 have hrng := adL_rng nx ny
 have Hlx := Lib.hid hlx
 have Hly := Lib.hid hly
 have q0 : ((1 : Int) != (1 : Int)) = false := by decide
 have q1 : ((na : Int) != (na : Int)) = false := by simp
 obtain ⟨w3, hw3⟩ : ∃ w3, w3 = (((w.alloc (.cells #[.int .i64 1, .int .i64 (na : Int), .slice aa na ca] 26)).alloc (.cells #[.int .i64 1, .int .i64 (na : Int), .slice ab na cb] 26)).alloc (.cells #[.int .i64 0, .int .i64 0, .slice none 0 0] 26)) := ⟨_, rfl⟩
 have hG3 : Grow w w3 := by rw [hw3]; exact (((Grow.refl w).alloc _ _).alloc _ _).alloc _ _
 have hs3 : w3.heap.size = w.heap.size + 3 := by rw [hw3]; simp
 have bA : Blk w3 w.heap.size #[.int .i64 1, .int .i64 (na : Int), .slice aa na ca] 26 := by rw [hw3]; exact ((Blk.new w _ _).alloc _).alloc _
 have bB : Blk w3 (w.heap.size + 1) #[.int .i64 1, .int .i64 (na : Int), .slice ab na cb] 26 := by rw [hw3]; exact (Blk.newAt _ _ _ (by simp)).alloc _
 have bZ : Blk w3 (w.heap.size + 2) #[.int .i64 0, .int .i64 0, .slice none 0 0] 26 := by rw [hw3]; exact Blk.newAt _ _ _ (by simp)
 obtain ⟨⟨a0, a1, a2⟩, -⟩ := bA.three
 rw [hw3] at a0 a1 a2
 have Hw3 := Lib.hid hw3; clear hw3 hlx hly
 go_enter Try.func53, Try.ntmps53
 go_wp2_with fail
 rw [← Hw3.out]
 refine (isMatrix_c (vA.grow hG3) (by omega)).mono ?_
 rintro e w4 ⟨rfl, hG4⟩
 rw [HMA.out]
 clear a0 a1 a2
 obtain ⟨⟨b0, b1, b2⟩, -⟩ := (bB.grow hG4).three
 go_wp2_with fail
 refine (isMatrix_c ((vB.grow hG3).grow hG4) (by omega)).mono ?_
 rintro e w5 ⟨rfl, hG5⟩
 rw [HMB.out]
 clear b0 b1 b2
 have hG35 := (hG3.trans hG4).trans hG5
 replace bA := (bA.grow hG4).grow hG5
 replace bB := (bB.grow hG4).grow hG5
 replace bZ := (bZ.grow hG4).grow hG5
 obtain ⟨⟨a0, a1, a2⟩, -⟩ := bA.three
 obtain ⟨⟨b0, b1, b2⟩, -⟩ := bB.three
 have hltA := bA.lt
 have hltB := bB.lt
 have hltZ := bZ.lt
 have hs35 := hG35.size
 go_wp2_with fail
 refine (copyMatrix_c (vA.grow hG35) (by omega)).mono ?_
 rintro e w6 ⟨rv, rfl, hR6, hG6⟩
 obtain ⟨ra, rn, rc, rfl, oR, rR, fR', i1, i2⟩ := hR6
 have hrn' : rn = na := by have h1 := oR.len; have h2 := Hlx.out; simp [ints] at h1; omega
 subst hrn'
 obtain ⟨zs, hzs⟩ : ∃ zs, zs = xs := ⟨_, rfl⟩
 have Hzs := Lib.hid (show zs.length = rn by rw [hzs]; exact Hlx.out)
 have Hzx := Lib.hid hzs
 simp only at oR rR i1 i2
 rw [← hzs] at oR
 have fR : ∀ g, blk ra = some g → w5.heap.size ≤ g := fun g hg => (fR' g hg).1
 obtain ⟨na, hna⟩ : ∃ na, na = rn := ⟨_, rfl⟩
 subst hna
 clear hzs i1 i2 rR fR'
 have hrn : na ≤ 24 := hC24
 have bA6 := bA.grow hG6
 have bB6 := bB.grow hG6
 have bZ6 := bZ.grow hG6
 have hG36 := hG35.trans hG6
 have hlo : ∀ g, blk ra = some g → w5.heap.size ≤ g := fun g hg => fR g hg
 have hlt6 : ∀ g, blk ra = some g → g < w6.heap.size := fun g hg => oR.lt hg
 have hs6 := hG6.size
 obtain ⟨w7, hw7⟩ : ∃ w7, w7 = w6.alloc (.cells #[.int .i64 1, .int .i64 (na : Int), .slice ra na rc] 26) := ⟨_, rfl⟩
 have hG7 : Grow w6 w7 := by rw [hw7]; exact (Grow.refl w6).alloc _ _
 have bO7 : Blk w7 w6.heap.size #[.int .i64 1, .int .i64 (na : Int), .slice ra na rc] 26 := by rw [hw7]; exact Blk.new w6 _ _
 have hO7 := oR.grow hG7
 have bA7 := bA6.grow hG7
 have bB7 := bB6.grow hG7
 have bZ7 := bZ6.grow hG7
 have hG37 := hG36.trans hG7
 have hs7 := hG7.size
 have hKR : ∀ g, g < w7.heap.size → g < w5.heap.size → blk ra ≠ some g := fun g _ hg e => by have := hlo _ e; omega
 have rA7 := (((hA.grow hG35).weak (T := fun g => g < w5.heap.size) (fun g hg _ => hg)).grow hG6).grow hG7
 have rB7 := (((hB.grow hG35).weak (T := fun g => g < w5.heap.size) (fun g hg _ => hg)).grow hG6).grow hG7
 have Hw7 := Lib.hid hw7
 have Had := Lib.hid (show updR (adV xs ys) 0 na zs = adL xs ys by unfold adL; rw [Hlx.out]; exact updR_map Hzs.out)
 clear hw7 a0 a1 a2 b0 b1 b2 oR bA bB bZ bA6 bB6 bZ6 vA vB
 go_wp2
 rw [← Hw7.out]
 go_loopw [36] (fun q wr => Keep (fun g => blk ra ≠ some g) w7 wr ∧ ∃ k : Nat, k ≤ na ∧ q = .int .i64 k ∧ Own wr 3 1 ra na rc (ints (updR (adV xs ys) 0 k zs))) (fun q _ => na - (intOf q).toNat)
 case atStart => exact ⟨Keep.refl _ _, 0, Nat.zero_le _, rfl, hO7⟩
 case round =>
  clear hO7
  obtain ⟨u, rfl⟩ : ∃ u, u = wr := ⟨_, rfl⟩
  obtain ⟨hKp, k, hk, rfl, hO⟩ := hrel
  have bOu := bO7.keep hKp (fun e => by have := hlt6 _ e; omega)
  have bAu := bA7.keep hKp (fun e => by have := hlo _ e; omega)
  have bBu := bB7.keep hKp (fun e => by have := hlo _ e; omega)
  obtain ⟨⟨o0, o1, o2⟩, -⟩ := bOu.three
  have hltO := bOu.lt
  by_cases hlt : k < na
  ·obtain ⟨⟨a0, a1, a2⟩, -⟩ := bAu.three
   obtain ⟨⟨b0, b1, b2⟩, -⟩ := bBu.three
   have hltA' := bAu.lt
   have hltB' := bBu.lt
   have hlen : (updR (adV xs ys) 0 k zs).length = na := by rw [updR_len, Hzs.out]
   have rAu := rA7.keep hKp hKR
   have rBu := rB7.keep hKp hKR
   have hx := nx.getD k
   have hy := ny.getD k
   obtain ⟨pb, rfl⟩ : ∃ pb, ra = some ⟨pb, 0, none⟩ := by
    cases ra with
    | none => have := hO.nil rfl; have := hO.le; omega
    | some q => exact ⟨q.block, by rw [← (hO.block q rfl).1]⟩
   have hg1 : (updR (adV xs ys) 0 k zs).getD k 0 = xs.getD k 0 := by rw [updR_getD (by rw [Hzs.out]; omega), if_neg (by omega), Hzx.out]
   have hcx := hO.cell (ints_get (by omega) hg1)
   obtain ⟨b2b, off2, y, rfl, hyy, -, -, hbw2, hcy⟩ := rBu.at hlt
   obtain rfl : y = ys.getD k 0 := by rw [List.getD_eq_getElem?_getD, hyy]; rfl
   have hpb := hO.lt (g := pb) rfl
   have hfr := hO.free k
   have hle := hO.le
   have Hst := Lib.hid (show updR (adV xs ys) 0 (k + 1) zs = (updR (adV xs ys) 0 k zs).set k (xs.getD k 0 + ys.getD k 0) by simp [updR, adV])
   have hO9 : Own ((u.setCell ⟨pb, k, none⟩ (.int .i64 (xs.getD k 0 + ys.getD k 0))).drew) 3 1 (some ⟨pb, 0, none⟩) na rc (ints (updR (adV xs ys) 0 (k + 1) zs)) := by
    have := (hO.set k (.int .i64 (xs.getD k 0 + ys.getD k 0))).grow (Grow.refl _).drew
    rw [← ints_set, ← Hst.out] at this
    exact this
   have hK9 : Keep (fun g => blk (some (⟨pb, 0, none⟩ : Addr)) ≠ some g) w7 ((u.setCell ⟨pb, k, none⟩ (.int .i64 (xs.getD k 0 + ys.getD k 0))).drew) := (hKp.setCell (p := ⟨pb, k, none⟩) (fun _ e => e rfl) _).drew
   have u5 : IntKind.i64.wrap (xs.getD k 0 + ys.getD k 0) = xs.getD k 0 + ys.getD k 0 := IntWalk.i64_in _ (by omega)
   clear hlen hO hyy
   clear hg1
   simp only at hcx hcy hfr
   generalize xs.getD k 0 = x at *
   generalize ys.getD k 0 = y at *
   go_wp2
   go_region
   go_wp2
   go_roundw
   case rel => exact ⟨hK9, k + 1, by omega, by go_num, hO9⟩
   case measure => simp [intOf]; omega
  ·have hkE : k = na := by omega
   rw [hkE, Had.out] at hO
   clear hkE
   have bZu := bZ7.keep hKp (fun e => by have := hlo _ e; omega)
   have hGu : Grow w u := Grow.keep (S := fun g => blk ra ≠ some g) hG37 hKp (fun g hg e => by have := hlo _ e; omega)
   have hsu := hGu.size
   have hOM : OM u (fun g => w.heap.size + 2 < g ∧ g < u.heap.size) (.agg #[.int .i64 1, .int .i64 (na : Int), .slice ra na rc]) (rowM (adL xs ys)) := by
    rw [Hrow.out]
    exact ⟨ra, na, rc, rfl, hO, hrng, (fun g hg => ⟨by have := hlo g hg; omega, hO.lt hg⟩), by unfold I64; simp, by unfold I64; simp; omega⟩
   have hbd : bdM (rowM (adL xs ys)) ≤ 24 := by unfold bdM rowM; simp only; rw [adL_len]; exact hC
   go_wp2_with fail
   refine (checked_c hOM (by omega)).mono ?_
   rintro e w9 ⟨m9, rfl, hO9, hG9⟩
   rw [Hnum.out]
   obtain ⟨a9, n9, c9, rfl, o9, x9, f9, i9, j9⟩ := hO9
   have hs9 := hG9.size
   have bZ9 := bZu.grow hG9
   have hGa := hGu.trans hG9
   clear o0 o1 o2
   obtain ⟨⟨z0, z1, z2⟩, g0, g1, g2⟩ := bZ9.three
   have hltZ9 := bZ9.lt
   go_wp2
   have hle : w.heap.size ≤ w.heap.size + 2 := by omega
   refine ret_cell_tmp T_mat rfl rfl rfl (((bZ9.set 0 _).set 1 _).set 2 _) ⟨_, rfl, ⟨a9, n9, c9, rfl, ?_, x9, ?_, i9, j9⟩, ((hGa.setCell hle _).setCell hle _).setCell hle _⟩
   ·exact o9.keep ((((Keep.refl (fun q => q ≠ w.heap.size + 2) w9).setCell (fun _ e => e rfl) _).setCell (fun _ e => e rfl) _).setCell (fun _ e => e rfl) _) (fun g hg _ e => by have := (f9 g hg).1; omega)
   ·intro g hg
    have h1 := o9.lt hg
    have h2 := (f9 g hg).1
    exact ⟨by omega, by simpa using h1⟩
end Go.Proofs.Ytoiblknchcoecaa

namespace Go.Proofs.Ytoiblknchcoecaa
open Go.RowKit
theorem rowMatN_c {S : Nat → Prop} {a : Option Addr} {n c : Nat} {xs : List Int} {w : World} (h : RdI w S a n c xs) (hb : n ≤ 1048576) : Calls Try.prog 31 #[.slice a n c] w fun e w' => ∃ a' c', e = .returned (.agg #[.int .i64 1, .int .i64 (n : Int), .slice a' n c']) ∧ Own w' 3 1 a' n c' (ints xs) ∧ (∀ g, blk a' = some g → New w w' g) ∧ Grow w w' := by
 have hl := h.len
 refine (rowMatrix_c a n c xs w h (by omega)).mono ?_
 rintro e w' ⟨r, rfl, ⟨a', n', c', rfl, o, -, f, -, -⟩, hG⟩
 have ho : xs.length = n' := by have := o.len; simpa [rowM, ints] using this
 obtain rfl : n' = n := by omega
 exact ⟨a', c', by unfold rowM; rw [hl], o, f, hG⟩
theorem okM_yes {m : Mat} (h : isMatB m = true) : okM m = m := by unfold okM; rw [if_pos h]
theorem iAddIn_c {S T U : Nat → Prop} {rv : Value} {r : Mat} {aa ab : Option Addr} {na nb ca cb : Nat} {xs ys : List Int} {w : World} (h : VM w S rv r) (hb : bdM r ≤ 1048576) (hA : RdI w T aa na ca xs) (hB : RdI w U ab nb cb ys) (nx : NumL xs) (ny : NumL ys) (hC : xs.length ≤ 24) (hxy : ys.length = xs.length) :
  Calls Try.prog 34 #[rv, .slice aa na ca, .slice ab nb cb] w fun e w' => ∃ x, e = .returned (.tuple #[x, .bool (nrmB r (adL xs ys))]) ∧ OI w' (New w w') x (nrmL r (adL xs ys)) ∧ Grow w w' := by
 have hVM := h
 obtain ⟨a, n, c, rfl, h, ir, ic⟩ := h
 have hla := hA.len
 have hlb := hB.len
 have hG1 := (Grow.refl w).alloc #[.int .i64 r.rows, .int .i64 r.cols, .slice a n c] 26
 have bM := Blk.new w #[.int .i64 r.rows, .int .i64 r.cols, .slice a n c] 26
 have hin := isMatB_rowN (v := adL xs ys) (by rw [adL_len]; exact hC)
 have hadl := adL_len xs ys
 have Hno := Lib.hid (fun h0 : numsB (adL xs ys) = false => nrm_none (nrmR_no (nrmIn_num (r := r) h0)))
 have Hok := Lib.hid (fun h0 : numsB (adL xs ys) = true => okM_yes (hin.trans h0))
 clear hin
 go_enter Try.func34, Try.ntmps34
 go_wp2_with fail
 refine (rowMatN_c (hA.grow hG1) (by omega)).mono ?_
 rintro e w2 ⟨a1, c1, rfl, o1, f1, hG2⟩
 have hG12 := hG1.trans hG2
 go_wp2_with fail
 refine (rowMatN_c (hB.grow hG12) (by omega)).mono ?_
 rintro e w3 ⟨a2, c2, rfl, o2, f2, hG3⟩
 have hG13 := hG12.trans hG3
 have bM3 := (bM.grow hG2).grow hG3
 go_wp2_with fail
 refine (iAddRows_c ((o1.rdI (S := fun _ => True) (fun _ _ => trivial) (num_rng nx)).grow hG3) (o2.rdI (S := fun _ => True) (fun _ _ => trivial) (num_rng ny)) nx ny hC hxy).mono ?_
 rintro e w4 ⟨rs, rfl, hS, hG4⟩
 obtain ⟨sa, sn, sc, rfl, oS, rS, fS, i1, i2⟩ := hS
 have hG14 := hG13.trans hG4
 have hs4 := hG14.size
 have bM4 := bM3.grow hG4
 have hltM := bM4.lt
 cases hn : numsB (adL xs ys) with
 | false =>
  have Hz := Lib.hid (Hno.out hn)
  clear hn oS rS fS i1 i2
  go_wp2
  go_ret2
  exact ⟨_, by rw [Hz.out.1]; rfl, by rw [Hz.out.2]; exact OI.empty (by simp) ⟨by omega, by simp⟩, (hG14.alloc _ _).alloc _ _⟩
 | true =>
  have hok := Hok.out hn
  rw [hok] at oS rS i1 i2 ⊢
  have hrr : (rowM (adL xs ys)).cells = adL xs ys := rfl
  rw [hrr] at oS rS
  have hsn : (adL xs ys).length = sn := by have := oS.len; simpa [ints] using this
  obtain ⟨w5, hw5⟩ : ∃ w5, w5 = w4.alloc (.cells #[.int .i64 (rowM (adL xs ys)).rows, .int .i64 (rowM (adL xs ys)).cols, .slice sa sn sc] 26) := ⟨_, rfl⟩
  have hG5 : Grow w4 w5 := by rw [hw5]; exact (Grow.refl w4).alloc _ _
  have bX : Blk w5 w4.heap.size #[.int .i64 (rowM (adL xs ys)).rows, .int .i64 (rowM (adL xs ys)).cols, .slice sa sn sc] 26 := by rw [hw5]; exact Blk.new w4 _ _
  have bM5 := bM4.grow hG5
  obtain ⟨⟨m0, m1, m2⟩, -⟩ := bM5.three
  obtain ⟨⟨x0, x1, x2⟩, -⟩ := bX.three
  have rS5 : RdI w5 (fun _ => True) sa sn sc (adL xs ys) := (oS.rdI (fun _ _ => trivial) rS).grow hG5
  have hG15 := hG14.trans hG5
  rw [hw5] at m0 m1 m2 x0 x1 x2
  have Hw5 := Lib.hid hw5
  have hs5 := hG15.size
  clear hw5 hn hok oS rS fS i1 i2 hrr Hno Hok
  go_wp2_with fail
  rw [← Hw5.out]
  refine (iNormalIn_c (hVM.grow hG15) hb ⟨sa, sn, sc, rfl, rS5⟩ (by unfold bdI; omega)).mono ?_
  rintro e w6 ⟨xv, rfl, hX, hG6⟩
  obtain ⟨xa, xn, xc, rfl, oX, rX, fX⟩ := hX
  go_wp2
  go_ret2
  exact ⟨_, rfl, ⟨xa, xn, xc, rfl, oX, rX, fun g hg => ⟨by have := (fX g hg).1; omega, oX.lt hg⟩⟩, hG15.trans hG6⟩
end Go.Proofs.Ytoiblknchcoecaa
