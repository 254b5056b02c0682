/-
  Definitions read back from their texts: the program's ParseDef, the walk.
-/
import Derived.Test.YtdnpdfokdibmdaaGreatDoorZPrdP
import Derived.Test.YtdnpdfokdibmdaaGreatDoorZPrnJ
import Derived.Test.YtdnpdfokdibmdaaGreatDoorZPrdS
namespace Go.Proofs.YtdnpdfokdibmdaaGreatDoor
open Go.RowKit

set_option maxHeartbeats 3000000 in
set_option maxRecDepth 100000 in
theorem iParseDef_c (s : ByteArray) (w : World) (hs : s.size ≤ 1048576) (he : Env w) :
    Calls Tryz.prog 7 #[.string s] w fun e w' => ∃ v, e = .returned (.tuple #[v, .bool (parDb s.data.toList)]) ∧ OD w' (New w w') v (parDv s.data.toList) ∧ Grow w w' := by
  have hG1 := (Grow.refl w).alloc zdefA 28
  have bZ := Blk.new w zdefA 28
  have He := Lib.hid he; clear he
  have hle0 : w.heap.size ≤ w.heap.size := Nat.le_refl _
  obtain ⟨mx, hmx⟩ := (He.out.grow hG1).len
  obtain ⟨L, hL⟩ : ∃ L, L = s.data.toList := ⟨_, rfl⟩
  have hcl := cut_len L [32]
  have hLs : L.length = s.size := by rw [hL]; exact bytesLen s
  have HLL := Lib.hid hL
  obtain ⟨Nm, hNm⟩ : ∃ x, x = nmI L := ⟨_, rfl⟩
  obtain ⟨Rs, hRs⟩ : ∃ x, x = rsI L := ⟨_, rfl⟩
  have hNl : Nm.length ≤ s.size := by rw [hNm]; unfold nmI; omega
  have hRl : Rs.length ≤ s.size := by rw [hRs]; unfold rsI; omega
  have c1 := sh_strings_Cut s (bstr [32]) mx (w.alloc (.cells zdefA 28)) (by omega) hmx
  rw [← hL, data_b, show (⟨(Lib.cut L [32]).1.toArray⟩ : ByteArray) = bstr Nm by rw [hNm]; rfl, show (⟨(Lib.cut L [32]).2.1.toArray⟩ : ByteArray) = bstr Rs by rw [hRs]; rfl] at c1
  have C1 := Lib.hid c1
  have HNm := Lib.hid hNm
  have HRs := Lib.hid hRs
  clear c1 hL hNm hRs hcl hLs hmx
  have hnmz : (bstr Nm).size ≤ s.size := by rw [bstr_size]; exact hNl
  have hrsz : (bstr Rs).size ≤ s.size := by rw [bstr_size]; exact hRl
  go_enter Tryz.func7, Tryz.ntmps7
  go_wp2_with fail
  refine C1.out.mono ?_
  rintro e w2 ⟨rfl, q2, rfl⟩
  obtain ⟨wa, hwa⟩ : ∃ wa, wa = (w.alloc (.cells zdefA 28)).drewN q2 := ⟨_, rfl⟩
  rw [← hwa]
  have hGa : Grow w wa := by rw [hwa]; exact hG1.drewN _
  have bZa : Blk wa w.heap.size zdefA 28 := by rw [hwa]; exact bZ.grow ((Grow.refl _).drewN _)
  clear hwa C1 hG1 bZ
  obtain ⟨g1, hg1⟩ : ∃ g, g = wa.heap.size := ⟨_, rfl⟩
  have hltZ := bZa.lt
  have hG2 := hGa.alloc #[.string (bstr Nm), .int .i64 0, .string ⟨#[]⟩, .string ⟨#[]⟩, .int .i64 0, .int .i64 0, .slice none 0 0] 28
  have bD := Blk.newAt wa #[.string (bstr Nm), .int .i64 0, .string ⟨#[]⟩, .string ⟨#[]⟩, .int .i64 0, .int .i64 0, .slice none 0 0] 28 (g := g1) hg1
  have bZ2 := bZa.alloc (.cells #[.string (bstr Nm), .int .i64 0, .string ⟨#[]⟩, .string ⟨#[]⟩, .int .i64 0, .int .i64 0, .slice none 0 0] 28)
  go_wp2_with fail
  rw [← hg1]
  refine (iParseMatrix_c (bstr Rs) _ (by omega) (He.out.grow hG2)).mono ?_
  rw [show (bstr Rs).data.toList = Rs from rfl]
  rintro e w3 ⟨mv, rfl, ⟨ma, mn, mc, rfl, oM, xM, fM, iM, jM⟩, hG3⟩
  have hGn := hG2.trans hG3
  have bD3 := bD.grow hG3
  have bZ3 := bZ2.grow hG3
  have hsz : g1 + 1 ≤ w3.heap.size := by have := hG3.size; simp at this; omega
  have hfM : ∀ g, blk ma = some g → g1 + 1 ≤ g := fun g hg => by have := (fM g hg).1; simp at this; omega
  have hleg : w.heap.size + 1 ≤ g1 := by omega
  clear hg1 hG2 hGa bZa bZ2 bD fM
  have hle1 : w.heap.size ≤ g1 := by omega
  have hltD := bD3.lt
  obtain ⟨⟨d0, d1, d2, d3, d4, d5, d6⟩, df0⟩ := bD3.seven
  have df1 := bD3.free 1
  have df2 := bD3.free 2
  have df3 := bD3.free 3
  have df4 := bD3.free 4
  have df5 := bD3.free 5
  have df6 := bD3.free 6
  obtain ⟨M, hM⟩ : ∃ M, M = parMv Rs := ⟨_, rfl⟩
  rw [← hM] at oM xM iM jM ⊢
  have HM := Lib.hid hM
  clear hM
  cases hp : parMb Rs with
  | true =>
    have Hp := Lib.hid hp
    clear hp
    have hK1 : Keep (fun q => q ≠ g1) w3 (((w3.setCell ⟨g1, 4, none⟩ (.int .i64 M.rows)).setCell ⟨g1, 5, none⟩ (.int .i64 M.cols)).setCell ⟨g1, 6, none⟩ (.slice ma mn mc)) :=
      (((Keep.refl _ w3).setCell (fun _ e => e rfl) _).setCell (fun _ e => e rfl) _).setCell (fun _ e => e rfl) _
    have bD4 : Blk (((w3.setCell ⟨g1, 4, none⟩ (.int .i64 M.rows)).setCell ⟨g1, 5, none⟩ (.int .i64 M.cols)).setCell ⟨g1, 6, none⟩ (.slice ma mn mc)) g1 #[.string (bstr Nm), .int .i64 0, .string ⟨#[]⟩, .string ⟨#[]⟩, .int .i64 M.rows, .int .i64 M.cols, .slice ma mn mc] 28 := ((bD3.set 4 _).set 5 _).set 6 _
    have hG4 : Grow w (((w3.setCell ⟨g1, 4, none⟩ (.int .i64 M.rows)).setCell ⟨g1, 5, none⟩ (.int .i64 M.cols)).setCell ⟨g1, 6, none⟩ (.slice ma mn mc)) := ((hGn.setCell hle1 _).setCell hle1 _).setCell hle1 _
    have hfresh : ∀ g, blk ma = some g → w.heap.size + 1 ≤ g := fun g hg => by have := hfM g hg; omega
    go_wp2_with fail
    generalize hw4 : (((w3.setCell ⟨g1, 4, none⟩ (.int .i64 M.rows)).setCell ⟨g1, 5, none⟩ (.int .i64 M.cols)).setCell ⟨g1, 6, none⟩ (.slice ma mn mc)) = w4 at *
    have oM4 := oM.keep hK1 (fun g hg _ e => by have := hfM g hg; omega)
    have bZ4 := bZ3.keep hK1 (by omega)
    clear hw4 hK1 d0 d1 d2 d3 d4 d5 d6 df0 df1 df2 df3 df4 df5 df6
    have hGal := (Grow.refl w4).alloc #[.int .i64 M.rows, .int .i64 M.cols, .slice ma mn mc] 26
    have bDc := bD4.grow hGal
    have bZc := bZ4.grow hGal
    have oc := oM4.grow hGal
    have hGc := hG4.trans hGal
    have hmb : isMatB M = true := by rw [HM.out]; exact parMv_mat Rs
    obtain ⟨R, C, hR, hC, hR24, hC24, hln, -⟩ := isMatB_shape hmb
    have hml : M.cells.length ≤ 2097152 := by have : R * C ≤ 24 * 24 := Nat.mul_le_mul hR24 hC24; omega
    have hDok : DOk ⟨bstr Nm, 0, ⟨#[]⟩, ⟨#[]⟩, M⟩ := ⟨by show (bstr Nm).size ≤ maxLen; unfold maxLen; omega, ⟨by show _ ≤ (0 : Int); decide, by show (0 : Int) ≤ _; decide⟩, Nat.zero_le _, Nat.zero_le _, iM, jM⟩
    have hps : parM (rsI L) = some M := by
      rw [← HRs.out]
      have h1 := Hp.out
      unfold parMb at h1
      obtain ⟨m, hm⟩ := Option.isSome_iff_exists.1 h1
      rw [hm, HM.out, (parM_v hm).1]
    have Hsp := Lib.hid (pd_mat hps).1
    have Hc := Lib.hid (show candD L = ⟨bstr Nm, 0, ⟨#[]⟩, ⟨#[]⟩, M⟩ by rw [(pd_mat hps).2, HNm.out])
    clear hR hC hln hmb hps bD4 bZ4 oM4 hG4 hGal bD3 bZ3 hGn oM hfM
    refine (iFormatDef_c (d := ⟨bstr Nm, 0, ⟨#[]⟩, ⟨#[]⟩, M⟩) (S := fun _ => True) ⟨ma, mn, mc, rfl, oc.rdI (fun _ _ => trivial) xM, hDok⟩ hml (He.out.tab.grow hGc)).mono ?_
    rintro e w5 ⟨rfl, hG5⟩
    have bZ5 := bZc.grow hG5
    have bD5 := bDc.grow hG5
    have o5 := oc.grow hG5
    have hG6 := hGc.trans hG5
    have hltD5 := bD5.lt
    clear bZc bDc oc hGc
    obtain ⟨F, hF⟩ : ∃ F, F = fmtD ⟨bstr Nm, 0, ⟨#[]⟩, ⟨#[]⟩, M⟩ := ⟨_, rfl⟩
    rw [← hF]
    have HF := Lib.hid hF
    clear hF
    cases hq : F.isEmpty with
    | true =>
      have Hno := Lib.hid (show parDv s.data.toList = zdef ∧ parDb s.data.toList = false from HLL.out ▸ parD_n (show parD L = none by unfold parD; rw [Hc.out, if_neg (fun e => pd_ne e.1 (HF.out.trans e.2) hq)]))
      have hltZ5 := bZ5.lt
      obtain ⟨⟨z0, z1, z2, z3, z4, z5, z6⟩, zf0⟩ := bZ5.seven
      have zf1 := bZ5.free 1
      have zf2 := bZ5.free 2
      have zf3 := bZ5.free 3
      have zf4 := bZ5.free 4
      have zf5 := bZ5.free 5
      have zf6 := bZ5.free 6
      go_wp2
      exact ret_cell_tmp T_def rfl rfl rfl (((((((bZ5.set 0 _).set 1 _).set 2 _).set 3 _).set 4 _).set 5 _).set 6 _) ⟨_, by rw [Hno.out.2]; rfl, by rw [Hno.out.1]; exact zdef_own, ((((((hG6.setCell hle0 _).setCell hle0 _).setCell hle0 _).setCell hle0 _).setCell hle0 _).setCell hle0 _).setCell hle0 _⟩
    | false =>
      obtain ⟨⟨d0, d1, d2, d3, d4, d5, d6⟩, df0⟩ := bD5.seven
      go_wp2_with fail
      refine (iFormatDef_c (d := ⟨bstr Nm, 0, ⟨#[]⟩, ⟨#[]⟩, M⟩) (S := fun _ => True) ⟨ma, mn, mc, rfl, o5.rdI (fun _ _ => trivial) xM, hDok⟩ hml (He.out.tab.grow hG6)).mono ?_
      rintro e w7 ⟨rfl, hG7⟩
      rw [← HF.out]
      clear d0 d1 d2 d3 d4 d5 d6 df0
      have bZ7 := bZ5.grow hG7
      have bD7 := bD5.grow hG7
      have o7 := o5.grow hG7
      have hG8 := hG6.trans hG7
      have hltD7 := bD7.lt
      have hltZ7 := bZ7.lt
      obtain ⟨⟨d0, d1, d2, d3, d4, d5, d6⟩, df0⟩ := bD7.seven
      obtain ⟨⟨z0, z1, z2, z3, z4, z5, z6⟩, zf0⟩ := bZ7.seven
      have zf1 := bZ7.free 1
      have zf2 := bZ7.free 2
      have zf3 := bZ7.free 3
      have zf4 := bZ7.free 4
      have zf5 := bZ7.free 5
      have zf6 := bZ7.free 6
      by_cases he : F = L
      · have Hy := Lib.hid (show parDv s.data.toList = ⟨bstr Nm, 0, ⟨#[]⟩, ⟨#[]⟩, M⟩ ∧ parDb s.data.toList = true from HLL.out ▸ parD_v (show parD L = some ⟨bstr Nm, 0, ⟨#[]⟩, ⟨#[]⟩, M⟩ by unfold parD; rw [Hc.out, if_pos ⟨Hsp.out, HF.out.symm.trans he⟩]))
        have q2 : (F == s.toList) = true := by rw [toList_data, he, HLL.out]; exact beq_self_eq_true _
        clear he
        go_wp2
        have hK : Keep (fun q => q ≠ w.heap.size) w7 (((((((w7.setCell ⟨w.heap.size, 0, none⟩ (.string (bstr Nm))).setCell ⟨w.heap.size, 1, none⟩ (.int .i64 0)).setCell ⟨w.heap.size, 2, none⟩ (.string ⟨#[]⟩)).setCell ⟨w.heap.size, 3, none⟩ (.string ⟨#[]⟩)).setCell ⟨w.heap.size, 4, none⟩ (.int .i64 M.rows)).setCell ⟨w.heap.size, 5, none⟩ (.int .i64 M.cols)).setCell ⟨w.heap.size, 6, none⟩ (.slice ma mn mc)) :=
          (((((((Keep.refl _ w7).setCell (fun _ e => e rfl) _).setCell (fun _ e => e rfl) _).setCell (fun _ e => e rfl) _).setCell (fun _ e => e rfl) _).setCell (fun _ e => e rfl) _).setCell (fun _ e => e rfl) _).setCell (fun _ e => e rfl) _
        have hsk := hK.size
        exact ret_cell_tmp T_def rfl rfl rfl (((((((bZ7.set 0 _).set 1 _).set 2 _).set 3 _).set 4 _).set 5 _).set 6 _) ⟨_, by rw [Hy.out.2]; rfl, by rw [Hy.out.1]; exact ⟨ma, mn, mc, rfl, o7.keep hK (fun g hg _ e => by have := hfresh g hg; omega), xM, (fun g hg => ⟨by have := hfresh g hg; omega, by have := o7.lt hg; omega⟩), hDok⟩, ((((((hG8.setCell hle0 _).setCell hle0 _).setCell hle0 _).setCell hle0 _).setCell hle0 _).setCell hle0 _).setCell hle0 _⟩
      · have Hno := Lib.hid (show parDv s.data.toList = zdef ∧ parDb s.data.toList = false from HLL.out ▸ parD_n (show parD L = none by unfold parD; rw [Hc.out, if_neg (fun e => he (HF.out.trans e.2))]))
        have q2 : (F == s.toList) = false := by rw [toList_data, ← HLL.out]; exact beq_eq_false_iff_ne.2 he
        clear he
        go_wp2
        exact ret_cell_tmp T_def rfl rfl rfl (((((((bZ7.set 0 _).set 1 _).set 2 _).set 3 _).set 4 _).set 5 _).set 6 _) ⟨_, by rw [Hno.out.2]; rfl, by rw [Hno.out.1]; exact zdef_own, ((((((hG8.setCell hle0 _).setCell hle0 _).setCell hle0 _).setCell hle0 _).setCell hle0 _).setCell hle0 _).setCell hle0 _⟩
  | false =>
    have Hp := Lib.hid hp
    clear hp
    have hGal := (Grow.refl w3).alloc #[.int .i64 M.rows, .int .i64 M.cols, .slice ma mn mc] 26
    have hGb := hGn.trans hGal
    obtain ⟨mx, hmx⟩ := (He.out.grow hGb).len
    have hS := sh_strings_Split (bstr Rs) (bstr [32]) mx (w3.alloc (.cells #[.int .i64 M.rows, .int .i64 M.cols, .slice ma mn mc] 26)) (by omega) hmx (by decide)
    obtain ⟨ps, hps⟩ : ∃ ps, ps = splitGo sp [] Rs := ⟨_, rfl⟩
    rw [(splitB_sp Rs).1, (splitB_sp Rs).2, ← hps] at hS
    have HS := Lib.hid hS
    clear hS
    have hpm : parM (rsI L) = none := by
      rw [← HRs.out]
      have h1 := Hp.out
      unfold parMb at h1
      cases hq : parM Rs with
      | none => rfl
      | some m => rw [hq] at h1; cases h1
    have hp1 := splitGo_len sp Rs []
    have hwb := fun (x : List UInt8) (hx : x ∈ ps) => splitGo_bytes (cur := []) (hps ▸ hx)
    rw [← hps] at hp1
    have Hps := Lib.hid (show ps = splitGo sp [] (rsI L) by rw [hps, HRs.out])
    have Hpm := Lib.hid hpm
    have Hwb := Lib.hid hwb
    clear hps hpm hwb
    obtain ⟨x0, hx0⟩ : ∃ x0, ps[0]? = some x0 := ⟨_, List.getElem?_eq_getElem (by omega)⟩
    have Hx0 := Lib.hid hx0
    clear hx0
    go_wp2_with fail
    refine HS.out.mono ?_
    rintro e w4 ⟨rfl, hw4⟩
    have hG4 : Grow (w3.alloc (.cells #[.int .i64 M.rows, .int .i64 M.cols, .slice ma mn mc] 26)) w4 := by rw [hw4]; exact (Grow.refl _).alloc _ _
    have hGc4 := hGb.trans hG4
    have bD4 := (bD3.grow hGal).grow hG4
    have bZ4 := (bZ3.grow hGal).grow hG4
    obtain ⟨pb, hpb⟩ : ∃ b, b = (w3.alloc (.cells #[.int .i64 M.rows, .int .i64 M.cols, .slice ma mn mc] 26)).heap.size := ⟨_, rfl⟩
    have hpg : g1 + 1 ≤ pb := by simp at hpb; omega
    have hP : RdS w4 (fun b => b = pb) (some ⟨pb, 0, none⟩) ps.length ps.length (ps.map bstr) := by
      have := Own.freshAt (w := w3.alloc (.cells #[.int .i64 M.rows, .int .i64 M.cols, .slice ma mn mc] 26)) (e := 9) (sz := 1) (cs := ((ps.map bstr).map Value.string).toArray) (n := ps.length) hpb (by unfold maxLen; omega) (by simp)
      rw [← hw4] at this
      exact this.rdS fun g hg => by simp at hg; exact hg.symm
    rw [← hpb]
    clear hw4 hpb HS hmx hGal hGb bD3 bZ3 hGn hG3 hG4 d0 d1 d2 d3 d4 d5 d6 df0 df1 df2 df3 df4 df5 df6 oM xM hfM iM jM
    go_wp2
    go_loopw [11] (fun ov wr => Grow w wr ∧ RdS wr (fun b => b = pb) (some ⟨pb, 0, none⟩) ps.length ps.length (ps.map bstr) ∧ Blk wr w.heap.size zdefA 28 ∧ ∃ i : Nat, 1 ≤ i ∧ i ≤ 10 ∧ ov = .int .i64 i ∧ Blk wr g1 #[.string (bstr Nm), .int .i64 (opOf x0 (i - 1)), .string ⟨#[]⟩, .string ⟨#[]⟩, .int .i64 0, .int .i64 0, .slice none 0 0] 28) (fun ov _ => 10 - (intOf ov).toNat)
    case atStart => exact ⟨hGc4, hP, bZ4, 1, by omega, by omega, rfl, bD4⟩
    case round =>
      clear hGc4 hP bZ4 bD4
      obtain ⟨hGr, hPr, bZr, i, hi1, hi, rfl, bDr⟩ := hrel
      have hltDr := bDr.lt
      by_cases hlt : i ≤ 9
      · have hst := opOf_step (x := x0) hi1
        obtain ⟨b, off, y, hpa, hy, -, cy⟩ := hPr.piece (k := 0) (by omega)
        injection hpa with hpa
        injection hpa with e1 e2
        subst e1; subst e2
        obtain rfl : x0 = y := Option.some.inj (Hx0.out.symm.trans hy)
        rw [Nat.add_zero] at cy
        clear hy
        have hor := opOf_rng x0 (i - 1)
        obtain ⟨oi, hoi⟩ : ∃ oi, oi = opOf x0 (i - 1) := ⟨_, rfl⟩
        rw [← hoi] at bDr hst hor
        clear hoi
        by_cases hw : x0 = opw (i : Int)
        · have q1 : (x0 == opw (i : Int)) = true := by rw [← hw]; exact beq_self_eq_true _
          rw [if_pos hw] at hst
          have Hst := Lib.hid hst
          clear hst hw
          go_wp2
          refine wp_region_segs (S := Grow wr) [([0, 1, 2, 3], some 4), ([5], none)] P_mixed (by kernel_rfl) (fun _ _ _ _ _ h => h) (Grow.refl _).drew ?_
          show wpQuiet _ _ _ _ [_, _, _, _] _
          repeat (first | go_big_quiet_skip | (go_big_quiet_want; first | (apply quiet_load CT_string; rfl; rfl; exact (fun w' hG => hG.cell cy); go_big_quiet_on; simp only [Act.put, List.setIfInBounds_toArray, List.set_cons_succ, List.set_cons_zero]) | (go_big_quiet_op; first | go_big_quiet_on | (refine ⟨_, (fun _ _ => rfl), ?_⟩; go_big_quiet_on))))
          refine wpQuiet_nil ?_
          refine seg_go rfl (fun K hK => ?_)
          go_wp2_with fail
          refine (opWord_c (i : Int) _ (by omega)).mono ?_
          rintro e w6 ⟨rfl, hG6⟩
          have hGa := (Grow.refl wr).drew.trans hG6
          go_wp2_with fail
          refine hK _ _ (hGa) ?_
          clear hK K
          show wpQuiet _ _ _ _ [_] _
          try (conv => arg 6; simp only [Act.put, List.setIfInBounds_toArray, List.set_cons_succ, List.set_cons_zero])
          repeat (first | go_big_quiet_skip | (go_big_quiet_want; first | (apply quiet_load CT_string; rfl; rfl; exact (fun w' hG => hG.cell cy); go_big_quiet_on; simp only [Act.put, List.setIfInBounds_toArray, List.set_cons_succ, List.set_cons_zero]) | (go_big_quiet_op; first | go_big_quiet_on | (refine ⟨_, (fun _ _ => rfl), ?_⟩; go_big_quiet_on))))
          refine wpQuiet_nil ?_
          refine wpSegs_nil ?_
          have hG7 := hGr.trans hGa
          have hP7 := hPr.grow hGa
          have bZ7 := bZr.grow hGa
          have bD7 := bDr.grow hGa
          have hltD7 := bD7.lt
          obtain ⟨⟨d0, d1, d2, d3, d4, d5, d6⟩, df0⟩ := bD7.seven
          have df1 := bD7.free 1
          clear bDr bZr hPr hGr cy
          go_wp2
          have hK7 : Keep (fun q => q ≠ g1) w6 (w6.setCell ⟨g1, 1, none⟩ (.int .i64 (i : Int))) := (Keep.refl _ w6).setCell (fun _ e => e rfl) _
          go_roundw
          case rel => exact ⟨hG7.setCell hle1 _, hP7.keep hK7 (fun g _ hg e => by omega), bZ7.keep hK7 (by omega), i + 1, by omega, by omega, by go_num, by rw [Nat.add_sub_cancel, Hst.out]; exact bD7.set 1 _⟩
          case measure => simp [intOf]; omega
        · have q1 : (x0 == opw (i : Int)) = false := beq_eq_false_iff_ne.2 hw
          rw [if_neg hw] at hst
          have Hst := Lib.hid hst
          clear hst hw
          go_wp2
          refine wp_region_segs (S := Grow wr) [([0, 1, 2, 3], some 4), ([5], none)] P_mixed (by kernel_rfl) (fun _ _ _ _ _ h => h) (Grow.refl _).drew ?_
          show wpQuiet _ _ _ _ [_, _, _, _] _
          repeat (first | go_big_quiet_skip | (go_big_quiet_want; first | (apply quiet_load CT_string; rfl; rfl; exact (fun w' hG => hG.cell cy); go_big_quiet_on; simp only [Act.put, List.setIfInBounds_toArray, List.set_cons_succ, List.set_cons_zero]) | (go_big_quiet_op; first | go_big_quiet_on | (refine ⟨_, (fun _ _ => rfl), ?_⟩; go_big_quiet_on))))
          refine wpQuiet_nil ?_
          refine seg_go rfl (fun K hK => ?_)
          go_wp2_with fail
          refine (opWord_c (i : Int) _ (by omega)).mono ?_
          rintro e w6 ⟨rfl, hG6⟩
          have hGa := (Grow.refl wr).drew.trans hG6
          go_wp2_with fail
          refine hK _ _ (hGa) ?_
          clear hK K
          show wpQuiet _ _ _ _ [_] _
          try (conv => arg 6; simp only [Act.put, List.setIfInBounds_toArray, List.set_cons_succ, List.set_cons_zero])
          repeat (first | go_big_quiet_skip | (go_big_quiet_want; first | (apply quiet_load CT_string; rfl; rfl; exact (fun w' hG => hG.cell cy); go_big_quiet_on; simp only [Act.put, List.setIfInBounds_toArray, List.set_cons_succ, List.set_cons_zero]) | (go_big_quiet_op; first | go_big_quiet_on | (refine ⟨_, (fun _ _ => rfl), ?_⟩; go_big_quiet_on))))
          refine wpQuiet_nil ?_
          refine wpSegs_nil ?_
          have hG7 := hGr.trans hGa
          have hP7 := hPr.grow hGa
          have bZ7 := bZr.grow hGa
          have bD7 := bDr.grow hGa
          have hltD7 := bD7.lt
          obtain ⟨⟨d0, d1, d2, d3, d4, d5, d6⟩, df0⟩ := bD7.seven
          have df1 := bD7.free 1
          clear bDr bZr hPr hGr cy
          go_wp2
          go_roundw
          case rel => exact ⟨hG7, hP7, bZ7, i + 1, by omega, by omega, by go_num, by rw [Nat.add_sub_cancel, Hst.out]; exact bD7⟩
          case measure => simp [intOf]; omega
      · obtain rfl : i = 10 := by omega
        obtain ⟨op, hop⟩ : ∃ op, op = opOf x0 9 := ⟨_, rfl⟩
        have bDe : Blk wr g1 #[.string (bstr Nm), .int .i64 op, .string ⟨#[]⟩, .string ⟨#[]⟩, .int .i64 0, .int .i64 0, .slice none 0 0] 28 := hop ▸ bDr
        clear bDr
        have hopr : 0 ≤ op ∧ op ≤ 9 := hop ▸ opOf_rng x0 9
        have hope : opOf ((splitGo sp [] (rsI L)).getD 0 []) 9 = op := by rw [← Hps.out, List.getD_eq_getElem?_getD, Hx0.out, hop]; rfl
        have Hbad := Lib.hid (fun hb : op = 0 ∨ ps.length < 2 ∨ 3 < ps.length => HLL.out ▸ parD_n (pd_bad Hpm.out (by rw [hope, ← Hps.out]; exact hb)))
        have Hwd := Lib.hid (fun hb : op ≠ 0 => show hasSp L = true ∧ candD L = ⟨bstr Nm, op, bstr (ps.getD 1 []), bstr (ps.getD 2 []), zeroM⟩ by
          have h := pd_words Hpm.out (by rw [hope]; exact hb)
          rw [hope, ← HNm.out, ← Hps.out] at h
          exact h)
        clear hop hope
        have hltDr := bDe.lt
        have hltZr := bZr.lt
        obtain ⟨⟨d0, d1, d2, d3, d4, d5, d6⟩, df0⟩ := bDe.seven
        have df2 := bDe.free 2
        have df3 := bDe.free 3
        by_cases hall : op = 0 ∨ ps.length < 2 ∨ 3 < ps.length
        · have Hno := Lib.hid (Hbad.out hall)
          obtain ⟨⟨z0, z1, z2, z3, z4, z5, z6⟩, zf0⟩ := bZr.seven
          have zf1 := bZr.free 1
          have zf2 := bZr.free 2
          have zf3 := bZr.free 3
          have zf4 := bZr.free 4
          have zf5 := bZr.free 5
          have zf6 := bZr.free 6
          by_cases ho : op = 0
          · clear hall
            go_wp2
            exact ret_cell_tmp T_def rfl rfl rfl (((((((bZr.set 0 _).set 1 _).set 2 _).set 3 _).set 4 _).set 5 _).set 6 _) ⟨_, by rw [Hno.out.2]; rfl, by rw [Hno.out.1]; exact zdef_own, ((((((hGr.setCell hle0 _).setCell hle0 _).setCell hle0 _).setCell hle0 _).setCell hle0 _).setCell hle0 _).setCell hle0 _⟩
          · by_cases hl1 : ps.length < 2
            · clear hall
              go_wp2
              exact ret_cell_tmp T_def rfl rfl rfl (((((((bZr.set 0 _).set 1 _).set 2 _).set 3 _).set 4 _).set 5 _).set 6 _) ⟨_, by rw [Hno.out.2]; rfl, by rw [Hno.out.1]; exact zdef_own, ((((((hGr.setCell hle0 _).setCell hle0 _).setCell hle0 _).setCell hle0 _).setCell hle0 _).setCell hle0 _).setCell hle0 _⟩
            · have hl3 : 3 < ps.length := by omega
              clear hall
              go_wp2
              exact ret_cell_tmp T_def rfl rfl rfl (((((((bZr.set 0 _).set 1 _).set 2 _).set 3 _).set 4 _).set 5 _).set 6 _) ⟨_, by rw [Hno.out.2]; rfl, by rw [Hno.out.1]; exact zdef_own, ((((((hGr.setCell hle0 _).setCell hle0 _).setCell hle0 _).setCell hle0 _).setCell hle0 _).setCell hle0 _).setCell hle0 _⟩
        · have ho : op ≠ 0 := fun e => hall (.inl e)
          have hl2 : 2 ≤ ps.length ∧ ps.length ≤ 3 := by omega
          clear hall
          obtain ⟨hspv, hcv⟩ := Hwd.out ho
          have Hsp := Lib.hid hspv
          have Hcand := Lib.hid hcv
          clear hspv hcv Hwd Hbad
          have hfresh : ∀ g, blk (none : Option Addr) = some g → w.heap.size + 1 ≤ g := fun g hg => by cases hg
          have xM : ∀ x ∈ zeroM.cells, I64 x := fun x hx => by simp [zeroM] at hx
          have hml : zeroM.cells.length ≤ 2097152 := Nat.zero_le _
          obtain ⟨b, off, A, hpa, hy1, hb1, cy1⟩ := hPr.piece (k := 1) (by omega)
          injection hpa with hpa
          injection hpa with e1 e2
          subst e1; subst e2
          have hY1 : A.length ≤ s.size := by have := Hwb.out A (List.mem_of_getElem? hy1); simp at this; omega
          have hA : ps.getD 1 [] = A := by rw [List.getD_eq_getElem?_getD, hy1]; rfl
          have Hy1 := Lib.hid hy1
          clear hy1
          by_cases hl : ps.length = 2
          · have Hc := Lib.hid (show candD L = ⟨bstr Nm, op, bstr A, bstr [], zeroM⟩ by rw [Hcand.out, hA, getD_none (by omega)])
            have hDok : DOk ⟨bstr Nm, op, bstr A, bstr [], zeroM⟩ := dok_words (by unfold maxLen; omega) hopr (by unfold maxLen; omega) (by decide)
            obtain ⟨B, hB⟩ : ∃ B : List UInt8, B = [] := ⟨_, rfl⟩
            rw [← hB] at Hc hDok
            have hBe : (⟨#[]⟩ : ByteArray) = bstr B := hB ▸ rfl
            have hGc := hGr.setCell hle1 (.string (bstr A)) (p := ⟨g1, 2, none⟩)
            have bZc := bZr.other (p := ⟨g1, 2, none⟩) (by simp; omega) (.string (bstr A))
            have bDc := bDe.set 2 (.string (bstr A))
            have oc : Own (wr.setCell ⟨g1, 2, none⟩ (.string (bstr A))) 3 1 none 0 0 (ints []) := Own.nilw
            rw [hBe] at d3
            have HB := Lib.hid hB
            clear hB hBe hA
            go_wp2_with fail
            have bDc : Blk (wr.setCell ⟨g1, 2, none⟩ (.string (bstr A))) g1 #[.string (bstr Nm), .int .i64 op, .string (bstr A), .string (bstr B), .int .i64 0, .int .i64 0, .slice none 0 0] 28 := by rw [HB.out]; exact bDc
            clear bZr bDe hPr hGr cy1 d0 d1 d2 d3 d4 d5 d6 df0 df2 df3
            generalize hwc : wr.setCell ⟨g1, 2, none⟩ (.string (bstr A)) = wc at *
            clear hwc
            refine (iFormatDef_c (d := ⟨bstr Nm, op, bstr A, bstr B, zeroM⟩) (S := fun _ => True) ⟨none, 0, 0, rfl, oc.rdI (fun _ _ => trivial) xM, hDok⟩ hml (He.out.tab.grow hGc)).mono ?_
            rintro e w5 ⟨rfl, hG5⟩
            have bZ5 := bZc.grow hG5
            have bD5 := bDc.grow hG5
            have o5 := oc.grow hG5
            have hG6 := hGc.trans hG5
            have hltD5 := bD5.lt
            clear bZc bDc oc hGc
            obtain ⟨F, hF⟩ : ∃ F, F = fmtD ⟨bstr Nm, op, bstr A, bstr B, zeroM⟩ := ⟨_, rfl⟩
            rw [← hF]
            have HF := Lib.hid hF
            clear hF
            cases hq : F.isEmpty with
            | true =>
              have Hno := Lib.hid (show parDv s.data.toList = zdef ∧ parDb s.data.toList = false from HLL.out ▸ parD_n (show parD L = none by unfold parD; rw [Hc.out, if_neg (fun e => pd_ne e.1 (HF.out.trans e.2) hq)]))
              have hltZ5 := bZ5.lt
              obtain ⟨⟨z0, z1, z2, z3, z4, z5, z6⟩, zf0⟩ := bZ5.seven
              have zf1 := bZ5.free 1
              have zf2 := bZ5.free 2
              have zf3 := bZ5.free 3
              have zf4 := bZ5.free 4
              have zf5 := bZ5.free 5
              have zf6 := bZ5.free 6
              go_wp2
              exact ret_cell_tmp T_def rfl rfl rfl (((((((bZ5.set 0 _).set 1 _).set 2 _).set 3 _).set 4 _).set 5 _).set 6 _) ⟨_, by rw [Hno.out.2]; rfl, by rw [Hno.out.1]; exact zdef_own, ((((((hG6.setCell hle0 _).setCell hle0 _).setCell hle0 _).setCell hle0 _).setCell hle0 _).setCell hle0 _).setCell hle0 _⟩
            | false =>
              obtain ⟨⟨d0, d1, d2, d3, d4, d5, d6⟩, df0⟩ := bD5.seven
              go_wp2_with fail
              refine (iFormatDef_c (d := ⟨bstr Nm, op, bstr A, bstr B, zeroM⟩) (S := fun _ => True) ⟨none, 0, 0, rfl, o5.rdI (fun _ _ => trivial) xM, hDok⟩ hml (He.out.tab.grow hG6)).mono ?_
              rintro e w7 ⟨rfl, hG7⟩
              rw [← HF.out]
              clear d0 d1 d2 d3 d4 d5 d6 df0
              have bZ7 := bZ5.grow hG7
              have bD7 := bD5.grow hG7
              have o7 := o5.grow hG7
              have hG8 := hG6.trans hG7
              have hltD7 := bD7.lt
              have hltZ7 := bZ7.lt
              obtain ⟨⟨d0, d1, d2, d3, d4, d5, d6⟩, df0⟩ := bD7.seven
              obtain ⟨⟨z0, z1, z2, z3, z4, z5, z6⟩, zf0⟩ := bZ7.seven
              have zf1 := bZ7.free 1
              have zf2 := bZ7.free 2
              have zf3 := bZ7.free 3
              have zf4 := bZ7.free 4
              have zf5 := bZ7.free 5
              have zf6 := bZ7.free 6
              by_cases he : F = L
              · have Hy := Lib.hid (show parDv s.data.toList = ⟨bstr Nm, op, bstr A, bstr B, zeroM⟩ ∧ parDb s.data.toList = true from HLL.out ▸ parD_v (show parD L = some ⟨bstr Nm, op, bstr A, bstr B, zeroM⟩ by unfold parD; rw [Hc.out, if_pos ⟨Hsp.out, HF.out.symm.trans he⟩]))
                have q2 : (F == s.toList) = true := by rw [toList_data, he, HLL.out]; exact beq_self_eq_true _
                clear he
                go_wp2
                have hK : Keep (fun q => q ≠ w.heap.size) w7 (((((((w7.setCell ⟨w.heap.size, 0, none⟩ (.string (bstr Nm))).setCell ⟨w.heap.size, 1, none⟩ (.int .i64 op)).setCell ⟨w.heap.size, 2, none⟩ (.string (bstr A))).setCell ⟨w.heap.size, 3, none⟩ (.string (bstr B))).setCell ⟨w.heap.size, 4, none⟩ (.int .i64 0)).setCell ⟨w.heap.size, 5, none⟩ (.int .i64 0)).setCell ⟨w.heap.size, 6, none⟩ (.slice none 0 0)) :=
                  (((((((Keep.refl _ w7).setCell (fun _ e => e rfl) _).setCell (fun _ e => e rfl) _).setCell (fun _ e => e rfl) _).setCell (fun _ e => e rfl) _).setCell (fun _ e => e rfl) _).setCell (fun _ e => e rfl) _).setCell (fun _ e => e rfl) _
                have hsk := hK.size
                exact ret_cell_tmp T_def rfl rfl rfl (((((((bZ7.set 0 _).set 1 _).set 2 _).set 3 _).set 4 _).set 5 _).set 6 _) ⟨_, by rw [Hy.out.2]; rfl, by rw [Hy.out.1]; exact ⟨none, 0, 0, rfl, o7.keep hK (fun g hg _ e => by have := hfresh g hg; omega), xM, (fun g hg => ⟨by have := hfresh g hg; omega, by have := o7.lt hg; omega⟩), hDok⟩, ((((((hG8.setCell hle0 _).setCell hle0 _).setCell hle0 _).setCell hle0 _).setCell hle0 _).setCell hle0 _).setCell hle0 _⟩
              · have Hno := Lib.hid (show parDv s.data.toList = zdef ∧ parDb s.data.toList = false from HLL.out ▸ parD_n (show parD L = none by unfold parD; rw [Hc.out, if_neg (fun e => he (HF.out.trans e.2))]))
                have q2 : (F == s.toList) = false := by rw [toList_data, ← HLL.out]; exact beq_eq_false_iff_ne.2 he
                clear he
                go_wp2
                exact ret_cell_tmp T_def rfl rfl rfl (((((((bZ7.set 0 _).set 1 _).set 2 _).set 3 _).set 4 _).set 5 _).set 6 _) ⟨_, by rw [Hno.out.2]; rfl, by rw [Hno.out.1]; exact zdef_own, ((((((hG8.setCell hle0 _).setCell hle0 _).setCell hle0 _).setCell hle0 _).setCell hle0 _).setCell hle0 _).setCell hle0 _⟩
          · obtain ⟨b', off', B, hpa', hy2, -, cy2⟩ := hPr.piece (k := 2) (by omega)
            injection hpa' with hpa'
            injection hpa' with e1 e2
            subst e1; subst e2
            have hY2 : B.length ≤ s.size := by have := Hwb.out B (List.mem_of_getElem? hy2); simp at this; omega
            have Hc := Lib.hid (show candD L = ⟨bstr Nm, op, bstr A, bstr B, zeroM⟩ by rw [Hcand.out, hA, List.getD_eq_getElem?_getD, hy2]; rfl)
            have hDok : DOk ⟨bstr Nm, op, bstr A, bstr B, zeroM⟩ := dok_words (by unfold maxLen; omega) hopr (by unfold maxLen; omega) (by unfold maxLen; omega)
            have Hy2 := Lib.hid hy2
            have hl3 : ps.length = 3 := by omega
            clear hy2 hA
            have hGc := (hGr.setCell hle1 (.string (bstr A)) (p := ⟨g1, 2, none⟩)).setCell hle1 (.string (bstr B)) (p := ⟨g1, 3, none⟩)
            have bZc := (bZr.other (p := ⟨g1, 2, none⟩) (by simp; omega) (.string (bstr A))).other (p := ⟨g1, 3, none⟩) (by simp; omega) (.string (bstr B))
            have bDc := (bDe.set 2 (.string (bstr A))).set 3 (.string (bstr B))
            have oc : Own ((wr.setCell ⟨g1, 2, none⟩ (.string (bstr A))).setCell ⟨g1, 3, none⟩ (.string (bstr B))) 3 1 none 0 0 (ints []) := Own.nilw
            have cy3 : (wr.setCell ⟨g1, 2, none⟩ (.string (bstr A))).cell? ⟨pb, 0 + 2, none⟩ = some (.string (bstr B)) := ((Keep.refl (fun q => q ≠ g1) wr).setCell (fun _ e => e rfl) _).cell (by simp; omega) cy2
            go_wp2_with fail
            have bDc : Blk ((wr.setCell ⟨g1, 2, none⟩ (.string (bstr A))).setCell ⟨g1, 3, none⟩ (.string (bstr B))) g1 #[.string (bstr Nm), .int .i64 op, .string (bstr A), .string (bstr B), .int .i64 0, .int .i64 0, .slice none 0 0] 28 := bDc
            clear bZr bDe hPr hGr cy1 cy2 cy3 d0 d1 d2 d3 d4 d5 d6 df0 df2 df3
            generalize hwc : (wr.setCell ⟨g1, 2, none⟩ (.string (bstr A))).setCell ⟨g1, 3, none⟩ (.string (bstr B)) = wc at *
            clear hwc
            refine (iFormatDef_c (d := ⟨bstr Nm, op, bstr A, bstr B, zeroM⟩) (S := fun _ => True) ⟨none, 0, 0, rfl, oc.rdI (fun _ _ => trivial) xM, hDok⟩ hml (He.out.tab.grow hGc)).mono ?_
            rintro e w5 ⟨rfl, hG5⟩
            have bZ5 := bZc.grow hG5
            have bD5 := bDc.grow hG5
            have o5 := oc.grow hG5
            have hG6 := hGc.trans hG5
            have hltD5 := bD5.lt
            clear bZc bDc oc hGc
            obtain ⟨F, hF⟩ : ∃ F, F = fmtD ⟨bstr Nm, op, bstr A, bstr B, zeroM⟩ := ⟨_, rfl⟩
            rw [← hF]
            have HF := Lib.hid hF
            clear hF
            cases hq : F.isEmpty with
            | true =>
              have Hno := Lib.hid (show parDv s.data.toList = zdef ∧ parDb s.data.toList = false from HLL.out ▸ parD_n (show parD L = none by unfold parD; rw [Hc.out, if_neg (fun e => pd_ne e.1 (HF.out.trans e.2) hq)]))
              have hltZ5 := bZ5.lt
              obtain ⟨⟨z0, z1, z2, z3, z4, z5, z6⟩, zf0⟩ := bZ5.seven
              have zf1 := bZ5.free 1
              have zf2 := bZ5.free 2
              have zf3 := bZ5.free 3
              have zf4 := bZ5.free 4
              have zf5 := bZ5.free 5
              have zf6 := bZ5.free 6
              go_wp2
              exact ret_cell_tmp T_def rfl rfl rfl (((((((bZ5.set 0 _).set 1 _).set 2 _).set 3 _).set 4 _).set 5 _).set 6 _) ⟨_, by rw [Hno.out.2]; rfl, by rw [Hno.out.1]; exact zdef_own, ((((((hG6.setCell hle0 _).setCell hle0 _).setCell hle0 _).setCell hle0 _).setCell hle0 _).setCell hle0 _).setCell hle0 _⟩
            | false =>
              obtain ⟨⟨d0, d1, d2, d3, d4, d5, d6⟩, df0⟩ := bD5.seven
              go_wp2_with fail
              refine (iFormatDef_c (d := ⟨bstr Nm, op, bstr A, bstr B, zeroM⟩) (S := fun _ => True) ⟨none, 0, 0, rfl, o5.rdI (fun _ _ => trivial) xM, hDok⟩ hml (He.out.tab.grow hG6)).mono ?_
              rintro e w7 ⟨rfl, hG7⟩
              rw [← HF.out]
              clear d0 d1 d2 d3 d4 d5 d6 df0
              have bZ7 := bZ5.grow hG7
              have bD7 := bD5.grow hG7
              have o7 := o5.grow hG7
              have hG8 := hG6.trans hG7
              have hltD7 := bD7.lt
              have hltZ7 := bZ7.lt
              obtain ⟨⟨d0, d1, d2, d3, d4, d5, d6⟩, df0⟩ := bD7.seven
              obtain ⟨⟨z0, z1, z2, z3, z4, z5, z6⟩, zf0⟩ := bZ7.seven
              have zf1 := bZ7.free 1
              have zf2 := bZ7.free 2
              have zf3 := bZ7.free 3
              have zf4 := bZ7.free 4
              have zf5 := bZ7.free 5
              have zf6 := bZ7.free 6
              by_cases he : F = L
              · have Hy := Lib.hid (show parDv s.data.toList = ⟨bstr Nm, op, bstr A, bstr B, zeroM⟩ ∧ parDb s.data.toList = true from HLL.out ▸ parD_v (show parD L = some ⟨bstr Nm, op, bstr A, bstr B, zeroM⟩ by unfold parD; rw [Hc.out, if_pos ⟨Hsp.out, HF.out.symm.trans he⟩]))
                have q2 : (F == s.toList) = true := by rw [toList_data, he, HLL.out]; exact beq_self_eq_true _
                clear he
                go_wp2
                have hK : Keep (fun q => q ≠ w.heap.size) w7 (((((((w7.setCell ⟨w.heap.size, 0, none⟩ (.string (bstr Nm))).setCell ⟨w.heap.size, 1, none⟩ (.int .i64 op)).setCell ⟨w.heap.size, 2, none⟩ (.string (bstr A))).setCell ⟨w.heap.size, 3, none⟩ (.string (bstr B))).setCell ⟨w.heap.size, 4, none⟩ (.int .i64 0)).setCell ⟨w.heap.size, 5, none⟩ (.int .i64 0)).setCell ⟨w.heap.size, 6, none⟩ (.slice none 0 0)) :=
                  (((((((Keep.refl _ w7).setCell (fun _ e => e rfl) _).setCell (fun _ e => e rfl) _).setCell (fun _ e => e rfl) _).setCell (fun _ e => e rfl) _).setCell (fun _ e => e rfl) _).setCell (fun _ e => e rfl) _).setCell (fun _ e => e rfl) _
                have hsk := hK.size
                exact ret_cell_tmp T_def rfl rfl rfl (((((((bZ7.set 0 _).set 1 _).set 2 _).set 3 _).set 4 _).set 5 _).set 6 _) ⟨_, by rw [Hy.out.2]; rfl, by rw [Hy.out.1]; exact ⟨none, 0, 0, rfl, o7.keep hK (fun g hg _ e => by have := hfresh g hg; omega), xM, (fun g hg => ⟨by have := hfresh g hg; omega, by have := o7.lt hg; omega⟩), hDok⟩, ((((((hG8.setCell hle0 _).setCell hle0 _).setCell hle0 _).setCell hle0 _).setCell hle0 _).setCell hle0 _).setCell hle0 _⟩
              · have Hno := Lib.hid (show parDv s.data.toList = zdef ∧ parDb s.data.toList = false from HLL.out ▸ parD_n (show parD L = none by unfold parD; rw [Hc.out, if_neg (fun e => he (HF.out.trans e.2))]))
                have q2 : (F == s.toList) = false := by rw [toList_data, ← HLL.out]; exact beq_eq_false_iff_ne.2 he
                clear he
                go_wp2
                exact ret_cell_tmp T_def rfl rfl rfl (((((((bZ7.set 0 _).set 1 _).set 2 _).set 3 _).set 4 _).set 5 _).set 6 _) ⟨_, by rw [Hno.out.2]; rfl, by rw [Hno.out.1]; exact zdef_own, ((((((hG8.setCell hle0 _).setCell hle0 _).setCell hle0 _).setCell hle0 _).setCell hle0 _).setCell hle0 _).setCell hle0 _⟩
end Go.Proofs.YtdnpdfokdibmdaaGreatDoor
