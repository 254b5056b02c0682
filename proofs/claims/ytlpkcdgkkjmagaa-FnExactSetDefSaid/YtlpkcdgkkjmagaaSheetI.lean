/-
  IsSheet: the program's.
-/
import Derived.Test.YtlpkcdgkkjmagaaSheet
import Derived.Test.YtlpkcdgkkjmagaaIsDef
namespace Go.Proofs.Ytlpkcdgkkjmagaa
open Go.RowKit

set_option maxHeartbeats 4000000 in
set_option maxRecDepth 100000 in
theorem implIsSheet_c {S : Nat → Prop} (a : Option Addr) (n cap : Nat) (l : List Dfn) (w : World) (h : RdD w S a n cap l) (hn : n ≤ 1048576) (hcl : ∀ d ∈ l, d.value.cells.length ≤ 2097152) :
    Calls Try.prog 19 #[.slice a n cap] w fun e w' => e = .returned (.bool (sheetB l)) ∧ Grow w w' := by
  have Hl := Lib.hid h.len
  go_enter Try.func19, Try.ntmps19
  go_wp2
  go_loopw [7] (fun i wr => Grow w wr ∧ ∃ k : Nat, k ≤ n ∧ i = .int .i64 k ∧ ∀ j, j < k → defGood l j = true) (fun i _ => n - (intOf i).toNat)
  case atStart => exact ⟨Grow.refl _, 0, Nat.zero_le _, rfl, fun j hj => by omega⟩
  case round =>
    obtain ⟨hG, k, hk, rfl, he⟩ := hrel
    have He := Lib.hid he; clear he
    by_cases hlt : k < n
    · obtain ⟨b, off, d, a1, c1, rfl, hx, _, hbw, ⟨e0, e1, e2, e3, e4, e5, e6⟩, r1, ho⟩ := (h.grow hG).at hlt
      have hcd := hcl d (List.mem_of_getElem? hx)
      have hself := findName_self hx
      have hgd : defGood l k = (isDefB d && decide (findName (l.take k) d.name < 0)) := by unfold defGood; rw [hx]
      have Hx := Lib.hid hx; clear hx
      have Hg := Lib.hid hgd; clear hgd
      have Hs := Lib.hid hself; clear hself
      have hkl := Lib.hid (show k < l.length by rw [Hl.out]; exact hlt)
      obtain ⟨wb, hwb⟩ : ∃ wb, wb = wr.alloc (.cells #[.string d.name, .int .i64 d.op, .string d.a, .string d.b, .int .i64 d.value.rows, .int .i64 d.value.cols, .slice a1 d.value.cells.length c1] 38) := ⟨_, rfl⟩
      have hGb : Grow wr wb := by rw [hwb]; exact (Grow.refl _).alloc _ _
      have hBb : Blk wb wr.heap.size #[.string d.name, .int .i64 d.op, .string d.a, .string d.b, .int .i64 d.value.rows, .int .i64 d.value.cols, .slice a1 d.value.cells.length c1] 38 := by rw [hwb]; exact Blk.new _ _ _
      have Hwb := Lib.hid hwb; clear hwb
      go_wp2_with fail
      rw [← Hwb.out]
      refine (implIsDef_c (d := d) ⟨_, _, _, rfl, r1.grow hGb, ho⟩ hcd).mono ?_
      rintro e w1 ⟨rfl, hG1⟩
      have hBb1 := hBb.grow hG1
      obtain ⟨⟨z0, z1, z2, z3, z4, z5, z6⟩, -⟩ := hBb1.seven
      cases hd : isDefB d with
      | false =>
        have HD := Lib.hid hd; clear hd
        go_wp2
        go_ret
        exact ⟨ret_bool (sheet_no hkl.out (by rw [Hg.out, HD.out]; rfl)).symm, (hG.trans hGb).trans hG1⟩
      | true =>
        have HD := Lib.hid hd; clear hd
        go_wp2_with fail
        refine (implFindDef_c _ _ _ l d.name _ (((h.grow hG).grow hGb).grow hG1) (by omega)).mono ?_
        rintro e w2 ⟨rfl, hG2⟩
        have hG' := ((hG.trans hGb).trans hG1).trans hG2
        cases hq : (findName l d.name == (k : Int)) with
        | false =>
          have hq2 : (findName l d.name != (k : Int)) = true := by simp [bne, hq]
          have HQ := Lib.hid hq; clear hq
          go_wp2
          go_ret
          exact ⟨ret_bool (sheet_no hkl.out (by rw [Hg.out, HD.out, ← Hs.out, HQ.out]; rfl)).symm, hG'⟩
        | true =>
          have hq2 : (findName l d.name != (k : Int)) = false := by simp [bne, hq]
          have HQ := Lib.hid hq; clear hq
          go_wp2
          go_roundw
          case rel =>
            refine ⟨hG', k + 1, by omega, by go_num, fun j hj => ?_⟩
            rcases Nat.lt_succ_iff_lt_or_eq.1 hj with hj | rfl
            · exact He.out j hj
            · rw [Hg.out, HD.out, ← Hs.out, HQ.out]; rfl
          case measure => simp [intOf]; omega
    · go_wp2
      go_ret
      have : k = n := by omega
      subst this
      have hy := sheet_yes (l := l) fun j hj => He.out j (by rw [Hl.out] at hj; exact hj)
      exact ⟨ret_bool (by rw [hy, Hl.out, decide_eq_decide]; omega), hG⟩
end Go.Proofs.Ytlpkcdgkkjmagaa
