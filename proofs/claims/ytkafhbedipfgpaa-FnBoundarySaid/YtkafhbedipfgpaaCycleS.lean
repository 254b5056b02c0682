/-
  IsCycle: the reference's.
-/
import Derived.Test.YtkafhbedipfgpaaCycle
namespace Go.Proofs.Ytkafhbedipfgpaa
open Go.RowKit

set_option maxHeartbeats 4000000 in
set_option maxRecDepth 100000 in
theorem specIsCycle_c {S T : Nat → Prop} {v u : Value} {l : List (List Int)} {k : Int} {c : List Int} {w : World} (h : VII w S v l) (hb : bdII l ≤ 1048576) (hk : I64 k) (h' : VI w T u c) (hb' : bdI c ≤ 1048576) :
    Calls Try.prog 40 #[v, .int .i64 k, u] w fun e w' => e = .returned (.bool (isCycB l k c)) ∧ Grow w w' := by
  cases hB : boundOk l k with
  | false =>
    have H := Lib.hid (show isCycB l k c = false by unfold isCycB; rw [hB]; rfl)
    have HB := Lib.hid hB; clear hB
    go_enter Try.func40, Try.ntmps40
    go_wp2_with fail
    refine (specBoundaryOf_v h hb hk).mono ?_
    rintro e w1 ⟨r, rfl, ⟨am, nm, cm, rfl, om, xm, fm, rm, km⟩, hG1⟩
    rw [HB.out]
    go_wp2
    go_ret
    exact ⟨ret_bool H.out.symm, hG1.alloc _ _⟩
  | true =>
    have HB := Lib.hid hB; clear hB
    have hbd := boundB_bd l k
    have hC := Lib.hid (show isCycB l k c = (mulOk (rowM c) (boundB l k) && zeroL (mulB (rowM c) (boundB l k)).cells) by unfold isCycB; rw [HB.out]; rfl)
    go_enter Try.func40, Try.ntmps40
    go_wp2_with fail
    refine (specBoundaryOf_v h hb hk).mono ?_
    rintro e w1 ⟨r, rfl, ⟨am, nm, cm, rfl, om, xm, fm, rm, km⟩, hG1⟩
    rw [HB.out]
    obtain ⟨wa, hwa⟩ : ∃ wa, wa = w1.alloc (.cells #[.int .i64 (boundB l k).rows, .int .i64 (boundB l k).cols, .slice am nm cm] 30) := ⟨_, rfl⟩
    have hGa : Grow w1 wa := by rw [hwa]; exact (Grow.refl _).alloc _ _
    have vB : VM wa (fun _ => True) (.agg #[.int .i64 (boundB l k).rows, .int .i64 (boundB l k).cols, .slice am nm cm]) (boundB l k) := (OM.rd (F := New w w1) ⟨am, nm, cm, rfl, om, xm, fm, rm, km⟩ fun _ _ => trivial).grow hGa
    have vC : VI wa T u c := (h'.grow hG1).grow hGa
    obtain ⟨ua, un, uc, rfl, rC⟩ := vC
    have hlc := rC.len
    unfold bdI at hb'
    have vA : VM wa T (.agg #[.int .i64 1, .int .i64 (un : Int), .slice ua un uc]) (rowM c) := ⟨ua, un, uc, by unfold rowM; rw [hlc], rC, by simp [rowM, I64], by simp only [rowM, I64]; omega⟩
    have Hwa := Lib.hid hwa
    clear hwa
    have hbA : bdM (rowM c) ≤ 2097152 := by show c.length ≤ _; omega
    generalize boundB l k = B at *
    generalize hA : rowM c = A at *
    clear hA
    go_wp2_with fail
    rw [← Hwa.out]
    refine (specMul_c vA vB hbA (by omega)).mono ?_
    rintro e w4 ⟨r, rfl, ⟨ap, np, cp, rfl, op, xp, fp, ip, jp⟩, hG4⟩
    have hlp : (mulB A B).cells.length = np := by simpa using op.len
    have hbp := mulB_bd (A := A) (B := B)
    unfold bdM at hbp
    have hBp : Blk (w4.alloc (.cells #[.int .i64 (mulB A B).rows, .int .i64 (mulB A B).cols, .slice ap np cp] 30)) w4.heap.size #[.int .i64 (mulB A B).rows, .int .i64 (mulB A B).cols, .slice ap np cp] 30 := Blk.new _ _ _
    have hGb : Grow w4 (w4.alloc (.cells #[.int .i64 (mulB A B).rows, .int .i64 (mulB A B).cols, .slice ap np cp] 30)) := (Grow.refl _).alloc _ _
    have hR : RdI (w4.alloc (.cells #[.int .i64 (mulB A B).rows, .int .i64 (mulB A B).cols, .slice ap np cp] 30)) (fun _ => True) ap np cp (mulB A B).cells := (op.grow hGb).rdI (fun _ _ => trivial) xp
    have hG : Grow w (w4.alloc (.cells #[.int .i64 (mulB A B).rows, .int .i64 (mulB A B).cols, .slice ap np cp] 30)) := ((hG1.trans hGa).trans hG4).trans hGb
    obtain ⟨⟨z0, z1, z2⟩, -⟩ := hBp.three
    generalize hM : mulB A B = M at *
    clear hM
    go_wp2
    go_loop [11] (fun i => ∃ k : Nat, k ≤ np ∧ i = .int .i64 k ∧ ∀ x ∈ M.cells.take k, (x == 0) = true) (fun i => np - (intOf i).toNat)
    case atStart => exact ⟨0, Nat.zero_le _, rfl, by simp⟩
    case round =>
      obtain ⟨k, hk, rfl, he⟩ := hrel
      have He := Lib.hid he; clear he
      by_cases hlt : k < np
      · obtain ⟨b, off, x, rfl, hx, hr, _, hb, hc⟩ := hR.at hlt
        have Hx := Lib.hid hx; clear hx
        cases h0 : x == 0 with
        | true =>
          have e2 : (x != 0) = false := by simp [bne, h0]
          have H0 := Lib.hid h0; clear h0
          go_wp2
          go_round
          case rel =>
            refine ⟨k + 1, by omega, by go_num, fun z hz => ?_⟩
            rw [take_succ Hx.out, List.mem_append, List.mem_singleton] at hz
            rcases hz with hz | rfl
            · exact He.out z hz
            · exact H0.out
          case measure => simp [intOf]; omega
        | false =>
          have e2 : (x != 0) = true := by simp [bne, h0]
          have H0 := Lib.hid h0; clear h0
          go_wp2
          go_ret
          exact ⟨ret_bool (by rw [hC.out, zeroL_no Hx.out H0.out, Bool.and_false]), hG⟩
      · go_wp2
        go_ret
        have : k = np := by omega
        subst this
        have := He.out
        rw [take_all hlp] at this
        exact ⟨ret_bool (by rw [hC.out, zeroL_yes this, Bool.and_true]), hG⟩
end Go.Proofs.Ytkafhbedipfgpaa
