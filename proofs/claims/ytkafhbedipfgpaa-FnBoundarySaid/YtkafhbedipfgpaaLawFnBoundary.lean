/-
  The law FnBoundary returns true for all arguments: boundaries have no boundary. No condition.
-/
import Derived.Test.YtkafhbedipfgpaaDrawD
import Derived.Test.YtkafhbedipfgpaaBdL
import Derived.Test.YtkafhbedipfgpaaCycleS
namespace Go.Proofs.Ytkafhbedipfgpaa.lawFnBoundary
open Go.ChangeShapes Go.WideShapes Go.ChangeAt Go.RowKit

theorem cells_u8 : Try.prog.cellsOf 5 = 1 := by kernel_rfl
set_option maxHeartbeats 400000 in
theorem big_c (a : Option Addr) (n cap : Nat) (w : World) (b : Bool) (hb : decide (1048576 < n) = b) :
    Calls Try.prog 31 #[.slice a n cap] w fun e w' => e = .returned (.bool b) ∧ w = w' := by
  cases b with
  | true =>
    have h := of_decide_eq_true hb
    go_enter Try.func31, Try.ntmps31
    go_wp2
    go_ret
    exact ⟨ret_bool (by simp; omega), rfl⟩
  | false =>
    have h := of_decide_eq_false hb
    go_enter Try.func31, Try.ntmps31
    go_wp2
    go_ret
    exact ⟨ret_bool (by simp; omega), rfl⟩
theorem boundB_shape (l : List (List Int)) (k : Int) : ∃ R C : Nat, (boundB l k).rows = R ∧ (boundB l k).cols = C ∧ (boundB l k).cells.length = R * C ∧ R ≤ 24 ∧ C ≤ 24 := by
  cases h : boundOk l k with
  | true =>
    obtain ⟨e, hC, _⟩ := boundB_yes h
    rw [e]
    exact ⟨_, _, rfl, rfl, bRows_len _ _ _ _, cplx_few hC _, cplx_few hC _⟩
  | false =>
    have e : boundB l k = { rows := 0, cols := 0, cells := [] } := by unfold boundB; rw [h]; rfl
    rw [e]
    exact ⟨0, 0, rfl, rfl, rfl, by omega, by omega⟩
set_option maxHeartbeats 4000000 in
set_option maxRecDepth 100000 in
theorem walk (a : Option Addr) (n cap : Nat) (bs : List Int) (w : World) (h : RdB w (fun _ => True) a n cap bs) :
    Calls Try.prog 7 #[.slice a n cap] w fun e w' => e = .returned (.bool true) ∧ Grow w w' := by
  by_cases hbig : 1048576 < n
  · go_enter Try.func7, Try.ntmps7
    go_wp2_with fail
    refine (big_c a n cap _ true (decide_eq_true hbig)).mono ?_
    rintro e _ ⟨rfl, rfl⟩
    go_wp2
    go_ret
    exact ⟨rfl, Grow.refl _⟩
  have hbg := decide_eq_false hbig
  go_enter Try.func7, Try.ntmps7
  go_wp2_with fail
  refine (big_c a n cap _ false hbg).mono ?_
  rintro e _ ⟨rfl, rfl⟩
  clear hbg
  go_wp2_with fail
  refine (DrawBoundaryOf_c a n cap bs _ h (by omega)).mono ?_
  rintro e w1 ⟨la, m, lc, l, k, rfl, hR, hm, h4, hk, hG1⟩
  have hbl : bdII l ≤ 1048576 := by
    have := total_small h4
    have := hR.len
    unfold bdII; omega
  have hV : VII w1 (fun _ => True) (.slice la m lc) l := ⟨_, _, _, rfl, hR.weak fun _ _ _ => trivial⟩
  clear hR h4 hm h
  have hI : I64 ((k : Int) - 1) := by unfold I64; omega
  have hI2 : I64 ((k : Int) - 1 - 1) := by unfold I64; omega
  have Hbl := Lib.hid hbl; clear hbl
  go_wp2_with fail
  refine (implBoundaryOf_v hV Hbl.out hI).mono ?_
  rintro e w2 ⟨ra, rfl, hA, hG2⟩
  replace hA := hA.rd (S := fun _ => True) fun _ _ => trivial
  obtain ⟨R, C, eR, eC, hRl, hR24, hC24⟩ := boundB_shape l ((k : Int) - 1)
  obtain ⟨aa, an, ac, rfl, rA, iA1, iA2⟩ := hA
  clear iA1 iA2
  rw [eR, eC]
  replace hV := hV.grow hG2
  have bA := Blk.new w2 #[.int .i64 (R : Int), .int .i64 (C : Int), .slice aa an ac] 30
  have hGa := (Grow.refl w2).alloc #[.int .i64 (R : Int), .int .i64 (C : Int), .slice aa an ac] 30
  have hGt := (hG1.trans hG2).trans hGa
  go_wp2_with fail
  refine (specBoundaryOf_v (hV.grow hGa) Hbl.out hI).mono ?_
  rintro e w3 ⟨rb, rfl, hB, hG3⟩
  replace bA := bA.grow hG3
  replace rA := rA.grow (hGa.trans hG3)
  replace hV := hV.grow (hGa.trans hG3)
  replace hGt := hGt.trans hG3
  obtain ⟨ba, bn, bc, rfl, rB, iB1, iB2⟩ := hB.rd (S := fun _ => True) fun _ _ => trivial
  clear hB hG1 hG2 hGa hG3 rB iB1 iB2
  rw [eR, eC]
  have hGb := (Grow.refl w3).alloc #[.int .i64 (R : Int), .int .i64 (C : Int), .slice ba bn bc] 30
  replace bA := bA.grow hGb
  replace rA := rA.grow hGb
  replace hV := hV.grow hGb
  replace hGt := hGt.trans hGb
  clear hGb
  have hlA := rA.len
  cases h1 : boundOk l ((k : Int) - 1) with
  | false =>
    have h0 : an = 0 := by rw [← hlA]; unfold boundB; rw [h1]; rfl
    subst h0
    go_wp2_with fail
    refine (implBoundaryOf_v hV Hbl.out hI2).mono ?_
    rintro e w4 ⟨rc, rfl, hC, hG4⟩
    obtain ⟨ca, cn, cc, rfl, rC, iC1, iC2⟩ := hC.rd (S := fun _ => True) fun _ _ => trivial
    replace bA := bA.grow hG4
    obtain ⟨⟨a0, a1, a2⟩, -⟩ := bA.three
    have hlt := bA.lt
    go_wp2
    go_ret
    exact ⟨rfl, (hGt.trans hG4).alloc _ _⟩
  | true =>
    go_wp2_with fail
    refine (implBoundaryOf_v hV Hbl.out hI2).mono ?_
    rintro e w4 ⟨rc, rfl, hC, hG4⟩
    obtain ⟨R2, C2, eR2, eC2, hRl2, hR242, hC242⟩ := boundB_shape l ((k : Int) - 1 - 1)
    obtain ⟨ca, cn, cc, rfl, rC, iC1, iC2⟩ := hC.rd (S := fun _ => True) fun _ _ => trivial
    rw [eR2, eC2]
    have hGc := hG4.alloc #[.int .i64 (R2 : Int), .int .i64 (C2 : Int), .slice ca cn cc] 30
    replace hGt := hGt.trans hGc
    cases h2 : boundOk l ((k : Int) - 1 - 1) with
    | false =>
      go_wp2
      go_ret
      exact ⟨rfl, hGt⟩
    | true =>
      have bC := Blk.new w4 #[.int .i64 (R2 : Int), .int .i64 (C2 : Int), .slice ca cn cc] 30
      have hlt := (bA.grow hG4).lt
      replace bA := bA.grow hGc
      replace rA := rA.grow hGc
      replace hV := hV.grow hGc
      replace rC := rC.grow ((Grow.refl _).alloc #[.int .i64 (R2 : Int), .int .i64 (C2 : Int), .slice ca cn cc] 30)
      clear hGc hG4 hC
      obtain ⟨⟨a0, a1, a2⟩, -⟩ := bA.three
      obtain ⟨⟨b0, b1, b2⟩, -⟩ := bC.three
      go_wp2_with fail
      have hRC : R * C ≤ 24 * 24 := Nat.mul_le_mul hR24 hC24
      have hRC2 : R2 * C2 ≤ 24 * 24 := Nat.mul_le_mul hR242 hC242
      obtain ⟨hM1, hM2⟩ := bdd h1 h2
      have hRn : (facesB l ((k : Int) - 1)).length = R := by
        have := eR
        rw [(boundB_yes h1).1] at this
        exact Int.ofNat.inj this
      have hCn : (facesB l ((k : Int) - 1 - 1)).length = C := by
        have := eC
        rw [(boundB_yes h1).1] at this
        exact Int.ofNat.inj this
      have hcyc := fun i (hi : i < R) => bdd_row (l := l) (k := (k : Int) - 1) h1 h2 (i := i) (by rw [hRn]; exact hi)
      rw [hCn] at hcyc
      refine (implMul_c (S := fun _ => True) (T := fun _ => True) (A := boundB l ((k : Int) - 1)) (B := boundB l ((k : Int) - 1 - 1)) ⟨aa, an, ac, by rw [eR, eC], rA, by rw [eR]; unfold I64; omega, by rw [eC]; unfold I64; omega⟩ ⟨ca, cn, cc, by rw [eR2, eC2], rC, iC1, iC2⟩ (by unfold bdM; omega) (by unfold bdM; omega)).mono ?_
      rintro e w5 ⟨rp, rfl, hP, hG5⟩
      rw [hM1]
      obtain ⟨pa, pn, pc, rfl, rP, iP1, iP2⟩ := hP.rd (S := fun _ => True) fun _ _ => trivial
      have hpn : pn ≤ 2097152 := by
        have h9 := rP.len
        have := okM_bd (m := mulM (boundB l ((k : Int) - 1)) (boundB l ((k : Int) - 1 - 1)))
        unfold mulB at h9
        split at h9
        · unfold bdM at this; omega
        · simp at h9; omega
      generalize (mulB (boundB l ((k : Int) - 1)) (boundB l ((k : Int) - 1 - 1))).cells = pl at *
      generalize (mulB (boundB l ((k : Int) - 1)) (boundB l ((k : Int) - 1 - 1))).rows = pr at *
      generalize (mulB (boundB l ((k : Int) - 1)) (boundB l ((k : Int) - 1 - 1))).cols = pq at *
      clear hP hM1 a0 a1 a2 b0 b1 b2 bC rC iC1 iC2 hRl2 eR2 eC2 hRC2 hR242 hC242
      have bP := Blk.new w5 #[.int .i64 pr, .int .i64 pq, .slice pa pn pc] 30
      have hGp := hG5.alloc #[.int .i64 pr, .int .i64 pq, .slice pa pn pc] 30
      replace bA := bA.grow hGp
      replace rA := rA.grow hGp
      replace hV := hV.grow hGp
      replace hGt := hGt.trans hGp
      replace rP := rP.grow ((Grow.refl _).alloc #[.int .i64 pr, .int .i64 pq, .slice pa pn pc] 30)
      clear hGp hG5 hlt
      go_wp2
      generalize w5.alloc (.cells #[.int .i64 pr, .int .i64 pq, .slice pa pn pc] 30) = wp at *
      go_loopw [13] (fun i wr => wr = wp ∧ ∃ j : Nat, j ≤ pn ∧ i = .int .i64 j) (fun i _ => pn - (intOf i).toNat)
      case atStart => exact ⟨rfl, 0, Nat.zero_le _, rfl⟩
      case round =>
        obtain ⟨hwr, j, hj, rfl⟩ := hrel
        subst hwr
        obtain ⟨⟨p0, p1, p2⟩, -⟩ := bP.three
        have hltp := bP.lt
        by_cases hlt : j < pn
        · obtain ⟨b, off, x, rfl, hx, _, _, hbw, hc⟩ := rP.at hlt
          obtain rfl : x = 0 := hM2 x (List.mem_of_getElem? hx)
          clear hx
          go_wp2
          go_roundw
          case rel => exact ⟨trivial, j + 1, by omega, by go_num⟩
          case measure => simp [intOf]; omega
        · go_wp2
          go_loopw [14] (fun i v => Grow wr v ∧ ∃ j : Nat, j ≤ R ∧ i = .int .i64 j) (fun i _ => R - (intOf i).toNat)
          case atStart => exact ⟨Grow.refl _, 0, Nat.zero_le _, rfl⟩
          case round =>
            obtain ⟨hGr, i, hi, rfl⟩ := hrel
            have bA := bA.grow hGr
            obtain ⟨⟨a0, a1, a2⟩, -⟩ := bA.three
            have hltA := bA.lt
            by_cases hiR : i < R
            · have hcy := hcyc i hiR
              have u1 := mul_wrap (i := i) (c := C) (by omega) (by omega)
              have u3 : IntKind.i64.wrap (((i : Int) + 1) * C) = ((i : Int) + 1) * C := by
                have := mul_wrap (i := i + 1) (c := C) (by omega) (by omega)
                simpa using this
              have hle : i * C + C ≤ R * C := by
                have : (i + 1) * C ≤ R * C := Nat.mul_le_mul_right _ hiR
                rwa [Nat.add_mul, Nat.one_mul] at this
              have hca := rA.row.le
              have r := T_ints.atLH (a := aa) (n := an) (cap := ac) (l := i * C) (k := i * C + C) (i := (i : Int) * C) (j := ((i : Int) + 1) * C) (by simp) (by rw [Int.add_mul]; simp) (by omega) (by omega)
              have rs := (rA.grow hGr).sub (l := i * C) (k := i * C + C) (by omega) (by omega)
              rw [show i * C + C - i * C = C by omega] at r rs
              have Hcy := Lib.hid hcy; clear hcy hcyc hle hca hM2
              go_wp2_with fail
              refine (implIsCycle_c (hV.grow hGr) Hbl.out hI2 ⟨_, _, _, rfl, rs⟩ (by have := rs.len; unfold bdI; omega)).mono ?_
              rintro e w6 ⟨rfl, hG6⟩
              rw [Hcy.out]
              go_wp2
              go_roundw
              case rel => exact ⟨hGr.trans hG6, i + 1, by omega, by go_num⟩
              case measure => simp [intOf]; omega
            · go_wp2
              go_ret
              exact ⟨rfl, hGt.trans hGr⟩
set_option maxRecDepth 100000 in
theorem lifted (os : Os) (started : os.Started) (H : Type) (enc : TypeId × Value → H) :
    ReturnsInHanded {} Try.checked os 7 .any (Rows.fnBoundarySpec.pre6 enc Try.prog Try.f7 Rows.fnBoundaryRow.domain false) (Rows.fnBoundarySpec.post enc Try.prog Try.f7 false true false false) := by
  refine law_close (C := Try.checked) (tb := 4) P_own started (by kernel_rfl) Try.func7
    (ChangeSpec.witness6 (enc := enc) (C := Try.checked) false ⟨#[], #[.slice none 0 0], []⟩ 8 (by kernel_rfl) (by kernel_rfl) (by kernel_rfl) (by kernel_rfl))
    P_laid ?_ rfl Try.underlying4 rfl ?_ ?_
  · exact of_decide_eq_true (by kernel_rfl)
  · intro ds hds
    match ds, hds with
    | [d0], _ => rfl
  · intro W args ds ps hval0 hA0
    have hval : ∀ (j : Nat) t v, Try.f7.params[j]? = some t → args[j]? = some v → Value.okWide Try.prog W .any 0 t v := hval0
    have hA : DataW.TrodAll enc Try.prog W 0 (fun _ => true) true Try.f7.params.toList args.toList ds ps := hA0
    rw [Try.params7] at hA hval
    obtain ⟨v0, vs0, d0, ds0, p0, q0, hargs, rfl, rfl, h0, r0⟩ := trodAll_cons hA
    obtain ⟨rfl, rfl, rfl⟩ := trodAll_nil r0
    obtain rfl : args = #[v0] := by cases args; simp_all
    obtain ⟨x0a, x0n, x0c, x0, rfl, hx0⟩ := openB Try.underlying38 Try.underlying5 cells_u8 (hval 0 38 v0 rfl rfl) h0
    exact walk _ _ _ x0 W hx0

theorem proved : Rows.FnBoundarySaid :=
  OpenClaim.holds_of_wide 7 Try.f7 rfl rfl rfl rfl rfl rfl rfl ⟨rfl, rfl, rfl, rfl, rfl⟩ rfl rfl rfl rfl rfl (by kernel_rfl) Try.func7 (by kernel_rfl)
    (of_decide_eq_true (by kernel_rfl)) (by unfold Func.isWrapper; first | (rw [if_pos (by decide +kernel)]; kernel_rfl) | (rw [if_neg (by decide +kernel)]; exact ⟨rfl, rfl⟩))
    (fun os started H enc _ => lifted os started H enc)
end Go.Proofs.Ytkafhbedipfgpaa.lawFnBoundary
