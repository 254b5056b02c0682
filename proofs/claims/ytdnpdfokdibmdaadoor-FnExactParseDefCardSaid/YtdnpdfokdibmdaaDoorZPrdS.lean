/-
  Definitions read back from their texts: the reference's ParseDef.
-/
import Derived.Test.YtdnpdfokdibmdaaDoorZPrd
import Derived.Test.YtdnpdfokdibmdaaDoorZPrmS
import Derived.Test.YtdnpdfokdibmdaaDoorZFmtE
namespace Go.Proofs.YtdnpdfokdibmdaaDoor
open Go.RowKit

theorem head_stop {L : List UInt8} {k : Nat} (h : ∀ x ∈ L.take k, sp x = false) (hk : L[k]? = some 32) : headD L = L.take k ∧ restDf L = L.drop (k + 1) ∧ hasSp L = true := by
  have hlt := (List.getElem?_eq_some_iff.1 hk).1
  have he : L = L.take k ++ 32 :: L.drop (k + 1) := by
    have : L[k] = 32 := (List.getElem?_eq_some_iff.1 hk).2
    rw [← this, ← List.drop_eq_getElem_cons hlt, List.take_append_drop]
  have := head_at32 (r := L.drop (k + 1)) h
  rw [← he] at this
  exact this
theorem no_sp {L : List UInt8} (h : ∀ x ∈ L, sp x = false) : hasSp L = false := by
  unfold hasSp
  rw [List.any_eq_false]
  intro x hx; rw [h x hx]; simp
theorem parD_no {L : List UInt8} (h : hasSp L = false) : parD L = none := by unfold parD; rw [if_neg (fun e => by rw [h] at e; cases e.1)]
theorem opOf_step {x : List UInt8} {i : Nat} (h : 1 ≤ i) : opOf x i = if x = opw (i : Int) then (i : Int) else opOf x (i - 1) := by
  obtain ⟨n, rfl⟩ : ∃ n, i = n + 1 := ⟨i - 1, by omega⟩
  simp only [opOf, Nat.add_sub_cancel]
  rfl
abbrev zdefA : Array Value := #[.string ⟨#[]⟩, .int .i64 0, .string ⟨#[]⟩, .string ⟨#[]⟩, .int .i64 0, .int .i64 0, .slice none 0 0]
theorem zdef_own {w : World} {F : Nat → Prop} : OD w F (.agg zdefA) zdef :=
  ⟨none, 0, 0, rfl, Own.nilw, (fun x hx => by simp [zdef] at hx), (fun g h => by cases h), ⟨Nat.zero_le _, ⟨by decide, by decide⟩, Nat.zero_le _, Nat.zero_le _, ⟨by decide, by decide⟩, ⟨by decide, by decide⟩⟩⟩

theorem getD_none {ps : List (List UInt8)} {k : Nat} (h : ps.length ≤ k) : ps.getD k [] = [] := by rw [List.getD_eq_getElem?_getD, List.getElem?_eq_none h]; rfl
theorem dok_words {n : ByteArray} {op : Int} {A B : List UInt8} (hn : n.size ≤ maxLen) (ho : 0 ≤ op ∧ op ≤ 9) (ha : A.length ≤ maxLen) (hb : B.length ≤ maxLen) : DOk ⟨n, op, bstr A, bstr B, zeroM⟩ :=
  ⟨hn, ⟨by show _ ≤ op; omega, by show op ≤ _; omega⟩, by show (bstr A).size ≤ _; rw [bstr_size]; exact ha, by show (bstr B).size ≤ _; rw [bstr_size]; exact hb, ⟨by show _ ≤ (0 : Int); decide, by show (0 : Int) ≤ _; decide⟩, ⟨by show _ ≤ (0 : Int); decide, by show (0 : Int) ≤ _; decide⟩⟩

set_option maxHeartbeats 1500000 in
set_option maxRecDepth 100000 in
theorem sParseDef_c (s : ByteArray) (w : World) (hs : s.size ≤ 1048576) :
    Calls Tryd.prog 10 #[.string s] w fun e w' => ∃ v, e = .returned (.tuple #[v, .bool (parDb s.data.toList)]) ∧ OD w' (New w w') v (parDv s.data.toList) ∧ Grow w w' := by
  have hG1 := (Grow.refl w).alloc zdefA 31
  have bZ := Blk.new w zdefA 31
  have HL := Lib.hid (bytesLen s)
  have hle0 : w.heap.size ≤ w.heap.size := Nat.le_refl _
  go_enter Tryd.func10, Tryd.ntmps10
  go_wp2
  go_loopw [4] (fun iv wr => wr = w.alloc (.cells zdefA 31) ∧ ∃ k : Nat, k ≤ s.size ∧ iv = .int .i64 k ∧ ∀ x ∈ s.data.toList.take k, sp x = false) (fun iv _ => s.size - (intOf iv).toNat)
  case atStart => exact ⟨rfl, 0, Nat.zero_le _, rfl, fun x hx => by simp at hx⟩
  case round =>
    obtain ⟨rfl, k, hk, rfl, hsp⟩ := hrel
    have Hsp := Lib.hid hsp; clear hsp
    by_cases hlt : k < s.size
    · have Hb := Lib.hid (bytes_at s hlt)
      by_cases h32 : (s[k].toNat : Int) = 32
      · have q1 : ((s[k].toNat : Int) != 32) = false := by simp [h32]
        have hbk : s.data.toList[k]? = some 32 := by rw [Hb.out]; congr 1; exact UInt8.toNat_inj.1 (by have : ((32 : UInt8)).toNat = 32 := rfl; omega)
        obtain ⟨e1, e2, e3⟩ := head_stop Hsp.out hbk
        have he1 : s.extract 0 k = bstr (headD s.data.toList) := by rw [extract_bstr, e1, List.drop_zero]
        have he2 : s.extract (k + 1) s.size = bstr (restDf s.data.toList) := by rw [extract_bstr, e2, ← HL.out, List.take_length]
        have hLs := HL.out
        have hhl : (headD s.data.toList).length ≤ s.size := by rw [e1, List.length_take]; omega
        have hrl : (restDf s.data.toList).length ≤ s.size := by rw [e2, List.length_drop]; omega
        have hwl := splitGo_len sp (restDf s.data.toList) []
        have hwb := fun (x : List UInt8) (hx : x ∈ wordsD s.data.toList) => splitGo_bytes (cur := []) hx
        obtain ⟨L, hL⟩ : ∃ L, L = s.data.toList := ⟨_, rfl⟩
        rw [← hL] at he1 he2 hhl hrl hwl hwb e3 ⊢
        obtain ⟨Nm, hNm⟩ : ∃ x, x = headD L := ⟨_, rfl⟩
        obtain ⟨Rs, hRs⟩ : ∃ x, x = restDf L := ⟨_, rfl⟩
        rw [← hNm] at he1 hhl
        rw [← hRs] at he2 hrl hwl hwb
        have HLL := Lib.hid hL
        have HNm := Lib.hid hNm
        have HRs := Lib.hid hRs
        have Hwb := Lib.hid hwb
        have H3 := Lib.hid e3
        have hkk : ((k : Int) == (s.size : Int)) = false := by simp; omega
        clear hbk e1 e2 e3 hLs hwb hL hNm hRs
        have hnmz : (bstr Nm).size ≤ s.size := by rw [bstr_size]; exact hhl
        have hrsz : (bstr Rs).size ≤ s.size := by rw [bstr_size]; exact hrl
        have hG2 := hG1.alloc #[.string (bstr Nm), .int .i64 0, .string ⟨#[]⟩, .string ⟨#[]⟩, .int .i64 0, .int .i64 0, .slice none 0 0] 31
        have bD := Blk.newAt (w.alloc (.cells zdefA 31)) #[.string (bstr Nm), .int .i64 0, .string ⟨#[]⟩, .string ⟨#[]⟩, .int .i64 0, .int .i64 0, .slice none 0 0] 31 (g := w.heap.size + 1) (by simp)
        have bZ2 := bZ.alloc (.cells #[.string (bstr Nm), .int .i64 0, .string ⟨#[]⟩, .string ⟨#[]⟩, .int .i64 0, .int .i64 0, .slice none 0 0] 31)
        go_wp2_with fail
        refine (sParseMatrix_c (bstr Rs) _ (by omega)).mono ?_
        rw [show (bstr Rs).data.toList = Rs from rfl]
        rintro e w3 ⟨mv, rfl, ⟨ma, mn, mc, rfl, oM, xM, fM, iM, jM⟩, hG3⟩
        have hGn := hG2.trans hG3
        have bD3 := bD.grow hG3
        have bZ3 := bZ2.grow hG3
        have hsz := hG3.size
        have hltD := bD3.lt
        obtain ⟨⟨d0, d1, d2, d3, d4, d5, d6⟩, df0⟩ := bD3.seven
        have df1 := bD3.free 1
        have df2 := bD3.free 2
        have df3 := bD3.free 3
        have df4 := bD3.free 4
        have df5 := bD3.free 5
        have df6 := bD3.free 6
        clear hG2 hG1 bZ bZ2 bD
        obtain ⟨M, hM⟩ : ∃ M, M = parMv Rs := ⟨_, rfl⟩
        rw [← hM] at oM xM iM jM ⊢
        have HM := Lib.hid hM
        clear hM
        cases hp : parMb Rs with
        | true =>
          have Hp := Lib.hid hp
          clear hp
          have hK1 : Keep (fun q => q ≠ w.heap.size + 1) w3 (((w3.setCell ⟨w.heap.size + 1, 4, none⟩ (.int .i64 M.rows)).setCell ⟨w.heap.size + 1, 5, none⟩ (.int .i64 M.cols)).setCell ⟨w.heap.size + 1, 6, none⟩ (.slice ma mn mc)) :=
            (((Keep.refl _ w3).setCell (fun _ e => e rfl) _).setCell (fun _ e => e rfl) _).setCell (fun _ e => e rfl) _
          have bD4 : Blk (((w3.setCell ⟨w.heap.size + 1, 4, none⟩ (.int .i64 M.rows)).setCell ⟨w.heap.size + 1, 5, none⟩ (.int .i64 M.cols)).setCell ⟨w.heap.size + 1, 6, none⟩ (.slice ma mn mc)) (w.heap.size + 1) #[.string (bstr Nm), .int .i64 0, .string ⟨#[]⟩, .string ⟨#[]⟩, .int .i64 M.rows, .int .i64 M.cols, .slice ma mn mc] 31 := ((bD3.set 4 _).set 5 _).set 6 _
          have hle1 : w.heap.size ≤ w.heap.size + 1 := by omega
          have hG4 : Grow w (((w3.setCell ⟨w.heap.size + 1, 4, none⟩ (.int .i64 M.rows)).setCell ⟨w.heap.size + 1, 5, none⟩ (.int .i64 M.cols)).setCell ⟨w.heap.size + 1, 6, none⟩ (.slice ma mn mc)) := ((hGn.setCell hle1 _).setCell hle1 _).setCell hle1 _
          have hfresh : ∀ g, blk ma = some g → w.heap.size + 2 ≤ g := fun g hg => by have := (fM g hg).1; simpa using this
          go_wp2_with fail
          generalize hw4 : (((w3.setCell ⟨w.heap.size + 1, 4, none⟩ (.int .i64 M.rows)).setCell ⟨w.heap.size + 1, 5, none⟩ (.int .i64 M.cols)).setCell ⟨w.heap.size + 1, 6, none⟩ (.slice ma mn mc)) = w4 at *
          have oM4 := oM.keep hK1 (fun g hg _ e => by have := hfresh g hg; omega)
          have bZ4 := bZ3.keep hK1 (by omega)
          clear hw4 hK1 d0 d1 d2 d3 d4 d5 d6 df0 df1 df2 df3 df4 df5 df6
          have hGal := (Grow.refl w4).alloc #[.int .i64 M.rows, .int .i64 M.cols, .slice ma mn mc] 29
          have bDc := bD4.grow hGal
          have bZc := bZ4.grow hGal
          have oc := oM4.grow hGal
          have hGc := hG4.trans hGal
          have hmb : isMatB M = true := by rw [HM.out]; exact parMv_mat Rs
          obtain ⟨R, C, hR, hC, hR24, hC24, hln, -⟩ := isMatB_shape hmb
          have hml : M.cells.length ≤ 576 := by have : R * C ≤ 24 * 24 := Nat.mul_le_mul hR24 hC24; omega
          have hDok : DOk ⟨bstr Nm, 0, ⟨#[]⟩, ⟨#[]⟩, M⟩ := ⟨by show (bstr Nm).size ≤ maxLen; unfold maxLen; omega, ⟨by show _ ≤ (0 : Int); decide, by show (0 : Int) ≤ _; decide⟩, Nat.zero_le _, Nat.zero_le _, iM, jM⟩
          have Hc := Lib.hid (show candD L = ⟨bstr Nm, 0, ⟨#[]⟩, ⟨#[]⟩, M⟩ by
            unfold candD
            rw [← HRs.out]
            have hps : parM Rs = some M := by
              have h1 := Hp.out
              unfold parMb at h1
              obtain ⟨m, hm⟩ := Option.isSome_iff_exists.1 h1
              rw [hm, HM.out, (parM_v hm).1]
            rw [hps, ← HNm.out])
          clear hR hC hln hmb
          refine (sFormatDef_c (d := ⟨bstr Nm, 0, ⟨#[]⟩, ⟨#[]⟩, M⟩) (S := fun _ => True) ⟨ma, mn, mc, rfl, oc.rdI (fun _ _ => trivial) xM, hDok⟩ (by simp only; omega)).mono ?_
          rintro e w5 ⟨rfl, hG5⟩
          have bZ5 := bZc.grow hG5
          have bD5 := bDc.grow hG5
          have o5 := oc.grow hG5
          have hG6 := hGc.trans hG5
          have hltD5 := bD5.lt
          have hltZ5 := bZ5.lt
          obtain ⟨⟨d0, d1, d2, d3, d4, d5, d6⟩, df0⟩ := bD5.seven
          obtain ⟨⟨z0, z1, z2, z3, z4, z5, z6⟩, zf0⟩ := bZ5.seven
          have zf1 := bZ5.free 1
          have zf2 := bZ5.free 2
          have zf3 := bZ5.free 3
          have zf4 := bZ5.free 4
          have zf5 := bZ5.free 5
          have zf6 := bZ5.free 6
          obtain ⟨F, hF⟩ : ∃ F, F = fmtD ⟨bstr Nm, 0, ⟨#[]⟩, ⟨#[]⟩, M⟩ := ⟨_, rfl⟩
          rw [← hF]
          have HF := Lib.hid hF
          clear hF
          by_cases he : F = L
          · have Hy := Lib.hid (show parDv s.data.toList = ⟨bstr Nm, 0, ⟨#[]⟩, ⟨#[]⟩, M⟩ ∧ parDb s.data.toList = true from HLL.out ▸ parD_v (show parD L = some ⟨bstr Nm, 0, ⟨#[]⟩, ⟨#[]⟩, M⟩ by unfold parD; rw [Hc.out, if_pos ⟨H3.out, HF.out.symm.trans he⟩]))
            have q2 : (F == s.toList) = true := by rw [toList_data, he, HLL.out]; exact beq_self_eq_true _
            clear he
            go_wp2
            have hK : Keep (fun q => q ≠ w.heap.size) w5 (((((((w5.setCell ⟨w.heap.size, 0, none⟩ (.string (bstr Nm))).setCell ⟨w.heap.size, 1, none⟩ (.int .i64 0)).setCell ⟨w.heap.size, 2, none⟩ (.string ⟨#[]⟩)).setCell ⟨w.heap.size, 3, none⟩ (.string ⟨#[]⟩)).setCell ⟨w.heap.size, 4, none⟩ (.int .i64 M.rows)).setCell ⟨w.heap.size, 5, none⟩ (.int .i64 M.cols)).setCell ⟨w.heap.size, 6, none⟩ (.slice ma mn mc)) :=
              (((((((Keep.refl _ w5).setCell (fun _ e => e rfl) _).setCell (fun _ e => e rfl) _).setCell (fun _ e => e rfl) _).setCell (fun _ e => e rfl) _).setCell (fun _ e => e rfl) _).setCell (fun _ e => e rfl) _).setCell (fun _ e => e rfl) _
            have hsk := hK.size
            exact ret_cell_tmp T_def rfl rfl rfl (((((((bZ5.set 0 _).set 1 _).set 2 _).set 3 _).set 4 _).set 5 _).set 6 _) ⟨_, by rw [Hy.out.2]; rfl, by rw [Hy.out.1]; exact ⟨ma, mn, mc, rfl, o5.keep hK (fun g hg _ e => by have := hfresh g hg; omega), xM, (fun g hg => ⟨by have := hfresh g hg; omega, by have := o5.lt hg; omega⟩), hDok⟩, ((((((hG6.setCell hle0 _).setCell hle0 _).setCell hle0 _).setCell hle0 _).setCell hle0 _).setCell hle0 _).setCell hle0 _⟩
          · have Hno := Lib.hid (show parDv s.data.toList = zdef ∧ parDb s.data.toList = false from HLL.out ▸ parD_n (show parD L = none by unfold parD; rw [Hc.out, if_neg (fun e => he (HF.out.trans e.2))]))
            have q2 : (F == s.toList) = false := by rw [toList_data, ← HLL.out]; exact beq_eq_false_iff_ne.2 he
            clear he
            go_wp2
            exact ret_cell_tmp T_def rfl rfl rfl (((((((bZ5.set 0 _).set 1 _).set 2 _).set 3 _).set 4 _).set 5 _).set 6 _) ⟨_, by rw [Hno.out.2]; rfl, by rw [Hno.out.1]; exact zdef_own, ((((((hG6.setCell hle0 _).setCell hle0 _).setCell hle0 _).setCell hle0 _).setCell hle0 _).setCell hle0 _).setCell hle0 _⟩
        | false =>
          have Hp := Lib.hid hp
          clear hp
          have hGal := (Grow.refl w3).alloc #[.int .i64 M.rows, .int .i64 M.cols, .slice ma mn mc] 29
          go_wp2_with fail
          refine (sSplit_c (bstr Rs) ⟨#[32]⟩ _ (by omega) (by decide)).mono ?_
          rintro e w4 ⟨sv, rfl, ⟨pa, pn, pc, rfl, oP, lP⟩, hG4⟩
          have hGb := hGal.trans hG4
          have hGc4 := hGn.trans hGb
          have bD4 := bD3.grow hGb
          have bZ4 := bZ3.grow hGb
          have hpm : parM Rs = none := by
            have h1 := Hp.out
            unfold parMb at h1
            cases hq : parM Rs with
            | none => rfl
            | some m => rw [hq] at h1; cases h1
          obtain ⟨ps, hps⟩ : ∃ ps, ps = wordsD L := ⟨_, rfl⟩
          have hspc : (fun c => (bstr [32]).data.toList.contains c) = sp := by
            funext c
            show [32].contains c = sp c
            unfold sp
            simp [List.contains_eq_mem, BEq.beq]
          have hP : RdS w4 (fun b => w.heap.size + 2 ≤ b) pa pn pc (ps.map bstr) := by
            have := oP.rdS (S := fun b => w.heap.size + 2 ≤ b) fun g hg => by
              have h1 := (lP g hg).1
              have h2 := hGal.size
              simp at hsz
              omega
            rw [hps]
            unfold wordsD
            rw [← HRs.out, ← hspc]
            exact this
          have hpn : ps.length = pn := by have := hP.len; simpa using this
          have hp1 : 1 ≤ ps.length ∧ ps.length ≤ 1048577 := by
            rw [hps]; unfold wordsD; rw [← HRs.out]; omega
          have Hps := Lib.hid hps
          have Hpm := Lib.hid hpm
          subst hpn
          clear hps hpm hspc oP lP hGal hGb bD3 bZ3 hGn hG3 hG4 d0 d1 d2 d3 d4 d5 d6 df0 df1 df2 df3 df4 df5 df6 oM xM fM iM jM hwl
          obtain ⟨x0, hx0⟩ : ∃ x0, ps[0]? = some x0 := ⟨_, List.getElem?_eq_getElem (by omega)⟩
          have Hx0 := Lib.hid hx0
          clear hx0
          have hle1 : w.heap.size ≤ w.heap.size + 1 := by omega
          go_wp2
          go_loopw [9] (fun ov wr => Grow w wr ∧ RdS wr (fun b => w.heap.size + 2 ≤ b) pa ps.length pc (ps.map bstr) ∧ Blk wr w.heap.size zdefA 31 ∧ ∃ i : Nat, 1 ≤ i ∧ i ≤ 10 ∧ ov = .int .i64 i ∧ Blk wr (w.heap.size + 1) #[.string (bstr Nm), .int .i64 (opOf x0 (i - 1)), .string ⟨#[]⟩, .string ⟨#[]⟩, .int .i64 0, .int .i64 0, .slice none 0 0] 31) (fun ov _ => 10 - (intOf ov).toNat)
          case atStart => exact ⟨hGc4, hP, bZ4, 1, by omega, by omega, rfl, bD4⟩
          case round =>
            clear hGc4 hP bZ4 bD4
            obtain ⟨hGr, hPr, bZr, i, hi1, hi, rfl, bDr⟩ := hrel
            have hltDr := bDr.lt
            by_cases hlt : i ≤ 9
            · have hst := opOf_step (x := x0) hi1
              obtain ⟨b, off, y, hpa, hy, -, cy⟩ := hPr.piece (k := 0) (by omega)
              obtain rfl : x0 = y := Option.some.inj (Hx0.out.symm.trans hy)
              subst hpa
              rw [Nat.add_zero] at cy
              clear hy
              have hor := opOf_rng x0 (i - 1)
              obtain ⟨oi, hoi⟩ : ∃ oi, oi = opOf x0 (i - 1) := ⟨_, rfl⟩
              rw [← hoi] at bDr hst hor
              clear hoi
              by_cases hw : x0 = opw (i : Int)
              · have q1 : (x0 == opw (i : Int)) = true := by rw [← hw]; exact beq_self_eq_true _
                rw [if_pos hw] at hst
                have Hst := Lib.hid hst
                clear hst hw
                go_wp2
                refine wp_region_segs (S := Grow wr) [([0, 1, 2, 3], some 4), ([5], none)] P_mixed (by kernel_rfl) (fun _ _ _ _ _ h => h) (Grow.refl _).drew ?_
                show wpQuiet _ _ _ _ [_, _, _, _] _
                repeat (first | go_big_quiet_skip | (go_big_quiet_want; first | (apply quiet_load CT_string; rfl; rfl; exact (fun w' hG => hG.cell cy); go_big_quiet_on; simp only [Act.put, List.setIfInBounds_toArray, List.set_cons_succ, List.set_cons_zero]) | (go_big_quiet_op; first | go_big_quiet_on | (refine ⟨_, (fun _ _ => rfl), ?_⟩; go_big_quiet_on))))
                refine wpQuiet_nil ?_
                refine seg_go rfl (fun K hK => ?_)
                go_wp2_with fail
                refine (l37Op_c (i : Int) _ (by unfold I64; omega)).mono ?_
                rintro e w6 ⟨rfl, hG6⟩
                have hGa := (Grow.refl wr).drew.trans hG6
                go_wp2_with fail
                refine hK _ _ (hGa) ?_
                clear hK K
                show wpQuiet _ _ _ _ [_] _
                try (conv => arg 6; simp only [Act.put, List.setIfInBounds_toArray, List.set_cons_succ, List.set_cons_zero])
                repeat (first | go_big_quiet_skip | (go_big_quiet_want; first | (apply quiet_load CT_string; rfl; rfl; exact (fun w' hG => hG.cell cy); go_big_quiet_on; simp only [Act.put, List.setIfInBounds_toArray, List.set_cons_succ, List.set_cons_zero]) | (go_big_quiet_op; first | go_big_quiet_on | (refine ⟨_, (fun _ _ => rfl), ?_⟩; go_big_quiet_on))))
                refine wpQuiet_nil ?_
                refine wpSegs_nil ?_
                have hG7 := hGr.trans hGa
                have hP7 := hPr.grow hGa
                have bZ7 := bZr.grow hGa
                have bD7 := bDr.grow hGa
                have hltD7 := bD7.lt
                obtain ⟨⟨d0, d1, d2, d3, d4, d5, d6⟩, df0⟩ := bD7.seven
                have df1 := bD7.free 1
                clear bDr bZr hPr hGr cy
                go_wp2
                have hK7 : Keep (fun q => q ≠ w.heap.size + 1) w6 (w6.setCell ⟨w.heap.size + 1, 1, none⟩ (.int .i64 (i : Int))) := (Keep.refl _ w6).setCell (fun _ e => e rfl) _
                go_roundw
                case rel => exact ⟨hG7.setCell hle1 _, hP7.keep hK7 (fun g _ hg e => by omega), bZ7.keep hK7 (by omega), i + 1, by omega, by omega, by go_num, by rw [Nat.add_sub_cancel, Hst.out]; exact bD7.set 1 _⟩
                case measure => simp [intOf]; omega
              · have q1 : (x0 == opw (i : Int)) = false := beq_eq_false_iff_ne.2 hw
                rw [if_neg hw] at hst
                have Hst := Lib.hid hst
                clear hst hw
                go_wp2
                refine wp_region_segs (S := Grow wr) [([0, 1, 2, 3], some 4), ([5], none)] P_mixed (by kernel_rfl) (fun _ _ _ _ _ h => h) (Grow.refl _).drew ?_
                show wpQuiet _ _ _ _ [_, _, _, _] _
                repeat (first | go_big_quiet_skip | (go_big_quiet_want; first | (apply quiet_load CT_string; rfl; rfl; exact (fun w' hG => hG.cell cy); go_big_quiet_on; simp only [Act.put, List.setIfInBounds_toArray, List.set_cons_succ, List.set_cons_zero]) | (go_big_quiet_op; first | go_big_quiet_on | (refine ⟨_, (fun _ _ => rfl), ?_⟩; go_big_quiet_on))))
                refine wpQuiet_nil ?_
                refine seg_go rfl (fun K hK => ?_)
                go_wp2_with fail
                refine (l37Op_c (i : Int) _ (by unfold I64; omega)).mono ?_
                rintro e w6 ⟨rfl, hG6⟩
                have hGa := (Grow.refl wr).drew.trans hG6
                go_wp2_with fail
                refine hK _ _ (hGa) ?_
                clear hK K
                show wpQuiet _ _ _ _ [_] _
                try (conv => arg 6; simp only [Act.put, List.setIfInBounds_toArray, List.set_cons_succ, List.set_cons_zero])
                repeat (first | go_big_quiet_skip | (go_big_quiet_want; first | (apply quiet_load CT_string; rfl; rfl; exact (fun w' hG => hG.cell cy); go_big_quiet_on; simp only [Act.put, List.setIfInBounds_toArray, List.set_cons_succ, List.set_cons_zero]) | (go_big_quiet_op; first | go_big_quiet_on | (refine ⟨_, (fun _ _ => rfl), ?_⟩; go_big_quiet_on))))
                refine wpQuiet_nil ?_
                refine wpSegs_nil ?_
                have hG7 := hGr.trans hGa
                have hP7 := hPr.grow hGa
                have bZ7 := bZr.grow hGa
                have bD7 := bDr.grow hGa
                have hltD7 := bD7.lt
                obtain ⟨⟨d0, d1, d2, d3, d4, d5, d6⟩, df0⟩ := bD7.seven
                have df1 := bD7.free 1
                clear bDr bZr hPr hGr cy
                go_wp2
                go_roundw
                case rel => exact ⟨hG7, hP7, bZ7, i + 1, by omega, by omega, by go_num, by rw [Nat.add_sub_cancel, Hst.out]; exact bD7⟩
                case measure => simp [intOf]; omega
            · obtain rfl : i = 10 := by omega
              obtain ⟨op, hop⟩ : ∃ op, op = opOf x0 9 := ⟨_, rfl⟩
              have bDe : Blk wr (w.heap.size + 1) #[.string (bstr Nm), .int .i64 op, .string ⟨#[]⟩, .string ⟨#[]⟩, .int .i64 0, .int .i64 0, .slice none 0 0] 31 := hop ▸ bDr
              clear bDr
              have hopr : 0 ≤ op ∧ op ≤ 9 := hop ▸ opOf_rng x0 9
              have Hcand := Lib.hid (show candD L = ⟨bstr Nm, op, bstr (ps.getD 1 []), bstr (ps.getD 2 []), zeroM⟩ by
                unfold candD
                rw [← HRs.out, Hpm.out, ← Hps.out, ← HNm.out, hop, List.getD_eq_getElem?_getD, Hx0.out]
                rfl)
              clear hop
              have hSb : ∀ b o, pa = some ⟨b, o, none⟩ → b ≠ w.heap.size + 1 ∧ b ≠ w.heap.size := fun b o hb => by
                obtain ⟨b', o', _, ha', -, h2, -, -⟩ := hPr.at (k := 0) (by omega)
                rw [ha'] at hb
                have := congrArg (fun z => z.map Addr.block) hb
                simp only [Option.map_some] at this
                obtain rfl := Option.some.inj this
                exact ⟨by omega, by omega⟩
              have hltDr := bDe.lt
              have hle1' : w.heap.size ≤ w.heap.size + 1 := by omega
              obtain ⟨⟨d0, d1, d2, d3, d4, d5, d6⟩, df0⟩ := bDe.seven
              have df2 := bDe.free 2
              have df3 := bDe.free 3
              have hfresh : ∀ g, blk (none : Option Addr) = some g → w.heap.size + 2 ≤ g := fun g hg => by cases hg
              by_cases hl1 : ps.length = 1
              · have Hc := Lib.hid (show candD L = ⟨bstr Nm, op, bstr [], bstr [], zeroM⟩ by rw [Hcand.out, getD_none (by omega), getD_none (by omega)])
                have hDok : DOk ⟨bstr Nm, op, bstr [], bstr [], zeroM⟩ := dok_words (by unfold maxLen; omega) hopr (by decide) (by decide)
                obtain ⟨A, hA⟩ : ∃ A : List UInt8, A = [] := ⟨_, rfl⟩
                obtain ⟨B, hB⟩ : ∃ A : List UInt8, A = [] := ⟨_, rfl⟩
                have hAe : (⟨#[]⟩ : ByteArray) = bstr A := hA ▸ rfl
                have hBe : (⟨#[]⟩ : ByteArray) = bstr B := hB ▸ rfl
                have Hc : Hid (candD L = ⟨bstr Nm, op, bstr A, bstr B, zeroM⟩) := by rw [hA, hB]; exact Hc
                have hDok : DOk ⟨bstr Nm, op, bstr A, bstr B, zeroM⟩ := by rw [hA, hB]; exact hDok
                have hGc := hGr
                have bZc := bZr
                have bDc := bDe
                have oc : Own wr 3 1 none 0 0 (ints []) := Own.nilw
                rw [hAe] at d2
                rw [hBe] at d3
                have HA := Lib.hid hA
                have HB := Lib.hid hB
                clear hA hB hAe hBe
                go_wp2_with fail
                refine (sFormatDef_c (d := ⟨bstr Nm, op, bstr A, bstr B, zeroM⟩) (S := fun _ => True) ⟨none, 0, 0, rfl, oc.rdI (fun _ _ => trivial) (fun x hx => by simp [zeroM] at hx), hDok⟩ (Nat.zero_le _)).mono ?_
                clear bZr bDe hPr hGr d0 d1 d2 d3 d4 d5 d6 df0 df2 df3 
                have bDc : Blk wr (w.heap.size + 1) #[.string (bstr Nm), .int .i64 op, .string (bstr A), .string (bstr B), .int .i64 0, .int .i64 0, .slice none 0 0] 31 := by
                  rw [HA.out, HB.out]; exact bDc
                rintro e w5 ⟨rfl, hG5⟩
                have bZ5 := bZc.grow hG5
                have bD5 := bDc.grow hG5
                have o5 := oc.grow hG5
                have hG6 := hGc.trans hG5
                have hltD5 := bD5.lt
                have hltZ5 := bZ5.lt
                obtain ⟨⟨d0, d1, d2, d3, d4, d5, d6⟩, df0⟩ := bD5.seven
                obtain ⟨⟨z0, z1, z2, z3, z4, z5, z6⟩, zf0⟩ := bZ5.seven
                have zf1 := bZ5.free 1
                have zf2 := bZ5.free 2
                have zf3 := bZ5.free 3
                have zf4 := bZ5.free 4
                have zf5 := bZ5.free 5
                have zf6 := bZ5.free 6
                obtain ⟨F, hF⟩ : ∃ F, F = fmtD ⟨bstr Nm, op, bstr A, bstr B, zeroM⟩ := ⟨_, rfl⟩
                rw [← hF]
                have HF := Lib.hid hF
                clear hF
                by_cases he : F = L
                · have Hy := Lib.hid (show parDv s.data.toList = ⟨bstr Nm, op, bstr A, bstr B, zeroM⟩ ∧ parDb s.data.toList = true from HLL.out ▸ parD_v (show parD L = some ⟨bstr Nm, op, bstr A, bstr B, zeroM⟩ by unfold parD; rw [Hc.out, if_pos ⟨H3.out, HF.out.symm.trans he⟩]))
                  have q2 : (F == s.toList) = true := by rw [toList_data, he, HLL.out]; exact beq_self_eq_true _
                  clear he
                  go_wp2
                  have hK : Keep (fun q => q ≠ w.heap.size) w5 (((((((w5.setCell ⟨w.heap.size, 0, none⟩ (.string (bstr Nm))).setCell ⟨w.heap.size, 1, none⟩ (.int .i64 op)).setCell ⟨w.heap.size, 2, none⟩ (.string (bstr A))).setCell ⟨w.heap.size, 3, none⟩ (.string (bstr B))).setCell ⟨w.heap.size, 4, none⟩ (.int .i64 0)).setCell ⟨w.heap.size, 5, none⟩ (.int .i64 0)).setCell ⟨w.heap.size, 6, none⟩ (.slice none 0 0)) :=
                    (((((((Keep.refl _ w5).setCell (fun _ e => e rfl) _).setCell (fun _ e => e rfl) _).setCell (fun _ e => e rfl) _).setCell (fun _ e => e rfl) _).setCell (fun _ e => e rfl) _).setCell (fun _ e => e rfl) _).setCell (fun _ e => e rfl) _
                  have hsk := hK.size
                  exact ret_cell_tmp T_def rfl rfl rfl (((((((bZ5.set 0 _).set 1 _).set 2 _).set 3 _).set 4 _).set 5 _).set 6 _) ⟨_, by rw [Hy.out.2]; rfl, by rw [Hy.out.1]; exact ⟨none, 0, 0, rfl, o5.keep hK (fun g hg _ e => by have := hfresh g hg; omega), (fun x hx => by simp [zeroM] at hx), (fun g hg => ⟨by have := hfresh g hg; omega, by have := o5.lt hg; omega⟩), hDok⟩, ((((((hG6.setCell hle0 _).setCell hle0 _).setCell hle0 _).setCell hle0 _).setCell hle0 _).setCell hle0 _).setCell hle0 _⟩
                · have Hno := Lib.hid (show parDv s.data.toList = zdef ∧ parDb s.data.toList = false from HLL.out ▸ parD_n (show parD L = none by unfold parD; rw [Hc.out, if_neg (fun e => he (HF.out.trans e.2))]))
                  have q2 : (F == s.toList) = false := by rw [toList_data, ← HLL.out]; exact beq_eq_false_iff_ne.2 he
                  clear he
                  go_wp2
                  exact ret_cell_tmp T_def rfl rfl rfl (((((((bZ5.set 0 _).set 1 _).set 2 _).set 3 _).set 4 _).set 5 _).set 6 _) ⟨_, by rw [Hno.out.2]; rfl, by rw [Hno.out.1]; exact zdef_own, ((((((hG6.setCell hle0 _).setCell hle0 _).setCell hle0 _).setCell hle0 _).setCell hle0 _).setCell hle0 _).setCell hle0 _⟩
              · obtain ⟨b, off, y1, hpa, hy1, hb1, cy1⟩ := hPr.piece (k := 1) (by omega)
                obtain ⟨hb2, hb3⟩ := hSb b off hpa
                have hY1 : y1.length ≤ s.size := by have := Hwb.out y1 (Hps.out ▸ List.mem_of_getElem? hy1); simp at this; omega
                have hA : ps.getD 1 [] = y1 := by rw [List.getD_eq_getElem?_getD, hy1]; rfl
                by_cases hl2 : ps.length = 2
                · have Hc := Lib.hid (show candD L = ⟨bstr Nm, op, bstr y1, bstr [], zeroM⟩ by rw [Hcand.out, hA, getD_none (by omega)])
                  have hDok : DOk ⟨bstr Nm, op, bstr y1, bstr [], zeroM⟩ := dok_words (by unfold maxLen; omega) hopr (by unfold maxLen; omega) (by decide)
                  obtain ⟨A, rfl⟩ : ∃ A, A = y1 := ⟨_, rfl⟩
                  obtain ⟨B, hB⟩ : ∃ B : List UInt8, B = [] := ⟨_, rfl⟩
                  rw [← hB] at Hc hDok
                  have hBe : (⟨#[]⟩ : ByteArray) = bstr B := hB ▸ rfl
                  have hGc := hGr.setCell hle1' (.string (bstr A)) (p := ⟨w.heap.size + 1, 2, none⟩)
                  have bZc := bZr.other (p := ⟨w.heap.size + 1, 2, none⟩) (by simp) (.string (bstr A))
                  have bDc := bDe.set 2 (.string (bstr A))
                  have oc : Own (wr.setCell ⟨w.heap.size + 1, 2, none⟩ (.string (bstr A))) 3 1 none 0 0 (ints []) := Own.nilw
                  rw [hBe] at d3
                  have HB := Lib.hid hB
                  clear hB hBe
                  go_wp2_with fail
                  refine (sFormatDef_c (d := ⟨bstr Nm, op, bstr A, bstr B, zeroM⟩) (S := fun _ => True) ⟨none, 0, 0, rfl, oc.rdI (fun _ _ => trivial) (fun x hx => by simp [zeroM] at hx), hDok⟩ (Nat.zero_le _)).mono ?_
                  clear bZr bDe hPr hGr cy1 d0 d1 d2 d3 d4 d5 d6 df0 df2 df3 
                  have bDc : Blk (wr.setCell ⟨w.heap.size + 1, 2, none⟩ (.string (bstr A))) (w.heap.size + 1) #[.string (bstr Nm), .int .i64 op, .string (bstr A), .string (bstr B), .int .i64 0, .int .i64 0, .slice none 0 0] 31 := by rw [HB.out]; exact bDc
                  rintro e w5 ⟨rfl, hG5⟩
                  have bZ5 := bZc.grow hG5
                  have bD5 := bDc.grow hG5
                  have o5 := oc.grow hG5
                  have hG6 := hGc.trans hG5
                  have hltD5 := bD5.lt
                  have hltZ5 := bZ5.lt
                  obtain ⟨⟨d0, d1, d2, d3, d4, d5, d6⟩, df0⟩ := bD5.seven
                  obtain ⟨⟨z0, z1, z2, z3, z4, z5, z6⟩, zf0⟩ := bZ5.seven
                  have zf1 := bZ5.free 1
                  have zf2 := bZ5.free 2
                  have zf3 := bZ5.free 3
                  have zf4 := bZ5.free 4
                  have zf5 := bZ5.free 5
                  have zf6 := bZ5.free 6
                  obtain ⟨F, hF⟩ : ∃ F, F = fmtD ⟨bstr Nm, op, bstr A, bstr B, zeroM⟩ := ⟨_, rfl⟩
                  rw [← hF]
                  have HF := Lib.hid hF
                  clear hF
                  by_cases he : F = L
                  · have Hy := Lib.hid (show parDv s.data.toList = ⟨bstr Nm, op, bstr A, bstr B, zeroM⟩ ∧ parDb s.data.toList = true from HLL.out ▸ parD_v (show parD L = some ⟨bstr Nm, op, bstr A, bstr B, zeroM⟩ by unfold parD; rw [Hc.out, if_pos ⟨H3.out, HF.out.symm.trans he⟩]))
                    have q2 : (F == s.toList) = true := by rw [toList_data, he, HLL.out]; exact beq_self_eq_true _
                    clear he
                    go_wp2
                    have hK : Keep (fun q => q ≠ w.heap.size) w5 (((((((w5.setCell ⟨w.heap.size, 0, none⟩ (.string (bstr Nm))).setCell ⟨w.heap.size, 1, none⟩ (.int .i64 op)).setCell ⟨w.heap.size, 2, none⟩ (.string (bstr A))).setCell ⟨w.heap.size, 3, none⟩ (.string (bstr B))).setCell ⟨w.heap.size, 4, none⟩ (.int .i64 0)).setCell ⟨w.heap.size, 5, none⟩ (.int .i64 0)).setCell ⟨w.heap.size, 6, none⟩ (.slice none 0 0)) :=
                      (((((((Keep.refl _ w5).setCell (fun _ e => e rfl) _).setCell (fun _ e => e rfl) _).setCell (fun _ e => e rfl) _).setCell (fun _ e => e rfl) _).setCell (fun _ e => e rfl) _).setCell (fun _ e => e rfl) _).setCell (fun _ e => e rfl) _
                    have hsk := hK.size
                    exact ret_cell_tmp T_def rfl rfl rfl (((((((bZ5.set 0 _).set 1 _).set 2 _).set 3 _).set 4 _).set 5 _).set 6 _) ⟨_, by rw [Hy.out.2]; rfl, by rw [Hy.out.1]; exact ⟨none, 0, 0, rfl, o5.keep hK (fun g hg _ e => by have := hfresh g hg; omega), (fun x hx => by simp [zeroM] at hx), (fun g hg => ⟨by have := hfresh g hg; omega, by have := o5.lt hg; omega⟩), hDok⟩, ((((((hG6.setCell hle0 _).setCell hle0 _).setCell hle0 _).setCell hle0 _).setCell hle0 _).setCell hle0 _).setCell hle0 _⟩
                  · have Hno := Lib.hid (show parDv s.data.toList = zdef ∧ parDb s.data.toList = false from HLL.out ▸ parD_n (show parD L = none by unfold parD; rw [Hc.out, if_neg (fun e => he (HF.out.trans e.2))]))
                    have q2 : (F == s.toList) = false := by rw [toList_data, ← HLL.out]; exact beq_eq_false_iff_ne.2 he
                    clear he
                    go_wp2
                    exact ret_cell_tmp T_def rfl rfl rfl (((((((bZ5.set 0 _).set 1 _).set 2 _).set 3 _).set 4 _).set 5 _).set 6 _) ⟨_, by rw [Hno.out.2]; rfl, by rw [Hno.out.1]; exact zdef_own, ((((((hG6.setCell hle0 _).setCell hle0 _).setCell hle0 _).setCell hle0 _).setCell hle0 _).setCell hle0 _).setCell hle0 _⟩
                · obtain ⟨b', off', y2, hpa', hy2, -, cy2⟩ := hPr.piece (k := 2) (by omega)
                  subst hpa
                  obtain ⟨rfl, rfl⟩ : b = b' ∧ off = off' := by injection hpa' with h; injection h with h1 h2; exact ⟨h1, h2⟩
                  clear hpa'
                  have hY2 : y2.length ≤ s.size := by have := Hwb.out y2 (Hps.out ▸ List.mem_of_getElem? hy2); simp at this; omega
                  have Hc := Lib.hid (show candD L = ⟨bstr Nm, op, bstr y1, bstr y2, zeroM⟩ by rw [Hcand.out, hA, List.getD_eq_getElem?_getD, hy2]; rfl)
                  have hDok : DOk ⟨bstr Nm, op, bstr y1, bstr y2, zeroM⟩ := dok_words (by unfold maxLen; omega) hopr (by unfold maxLen; omega) (by unfold maxLen; omega)
                  obtain ⟨A, rfl⟩ : ∃ A, A = y1 := ⟨_, rfl⟩
                  obtain ⟨B, rfl⟩ : ∃ B, B = y2 := ⟨_, rfl⟩
                  have hGc := (hGr.setCell hle1' (.string (bstr A)) (p := ⟨w.heap.size + 1, 2, none⟩)).setCell hle1' (.string (bstr B)) (p := ⟨w.heap.size + 1, 3, none⟩)
                  have bZc := (bZr.other (p := ⟨w.heap.size + 1, 2, none⟩) (by simp) (.string (bstr A))).other (p := ⟨w.heap.size + 1, 3, none⟩) (by simp) (.string (bstr B))
                  have bDc := (bDe.set 2 (.string (bstr A))).set 3 (.string (bstr B))
                  have oc : Own ((wr.setCell ⟨w.heap.size + 1, 2, none⟩ (.string (bstr A))).setCell ⟨w.heap.size + 1, 3, none⟩ (.string (bstr B))) 3 1 none 0 0 (ints []) := Own.nilw
                  have cy3 : (wr.setCell ⟨w.heap.size + 1, 2, none⟩ (.string (bstr A))).cell? ⟨b, off + 2, none⟩ = some (.string (bstr B)) := ((Keep.refl (fun q => q ≠ w.heap.size + 1) wr).setCell (fun _ e => e rfl) _).cell (by simpa using hb2) cy2
                  go_wp2_with fail
                  refine (sFormatDef_c (d := ⟨bstr Nm, op, bstr A, bstr B, zeroM⟩) (S := fun _ => True) ⟨none, 0, 0, rfl, oc.rdI (fun _ _ => trivial) (fun x hx => by simp [zeroM] at hx), hDok⟩ (Nat.zero_le _)).mono ?_
                  clear bZr bDe hPr hGr cy1 cy2 cy3 d0 d1 d2 d3 d4 d5 d6 df0 df2 df3 
                  have bDc : Blk _ _ #[.string (bstr Nm), .int .i64 op, .string (bstr A), .string (bstr B), .int .i64 0, .int .i64 0, .slice none 0 0] _ := bDc
                  rintro e w5 ⟨rfl, hG5⟩
                  have bZ5 := bZc.grow hG5
                  have bD5 := bDc.grow hG5
                  have o5 := oc.grow hG5
                  have hG6 := hGc.trans hG5
                  have hltD5 := bD5.lt
                  have hltZ5 := bZ5.lt
                  obtain ⟨⟨d0, d1, d2, d3, d4, d5, d6⟩, df0⟩ := bD5.seven
                  obtain ⟨⟨z0, z1, z2, z3, z4, z5, z6⟩, zf0⟩ := bZ5.seven
                  have zf1 := bZ5.free 1
                  have zf2 := bZ5.free 2
                  have zf3 := bZ5.free 3
                  have zf4 := bZ5.free 4
                  have zf5 := bZ5.free 5
                  have zf6 := bZ5.free 6
                  obtain ⟨F, hF⟩ : ∃ F, F = fmtD ⟨bstr Nm, op, bstr A, bstr B, zeroM⟩ := ⟨_, rfl⟩
                  rw [← hF]
                  have HF := Lib.hid hF
                  clear hF
                  by_cases he : F = L
                  · have Hy := Lib.hid (show parDv s.data.toList = ⟨bstr Nm, op, bstr A, bstr B, zeroM⟩ ∧ parDb s.data.toList = true from HLL.out ▸ parD_v (show parD L = some ⟨bstr Nm, op, bstr A, bstr B, zeroM⟩ by unfold parD; rw [Hc.out, if_pos ⟨H3.out, HF.out.symm.trans he⟩]))
                    have q2 : (F == s.toList) = true := by rw [toList_data, he, HLL.out]; exact beq_self_eq_true _
                    clear he
                    go_wp2
                    have hK : Keep (fun q => q ≠ w.heap.size) w5 (((((((w5.setCell ⟨w.heap.size, 0, none⟩ (.string (bstr Nm))).setCell ⟨w.heap.size, 1, none⟩ (.int .i64 op)).setCell ⟨w.heap.size, 2, none⟩ (.string (bstr A))).setCell ⟨w.heap.size, 3, none⟩ (.string (bstr B))).setCell ⟨w.heap.size, 4, none⟩ (.int .i64 0)).setCell ⟨w.heap.size, 5, none⟩ (.int .i64 0)).setCell ⟨w.heap.size, 6, none⟩ (.slice none 0 0)) :=
                      (((((((Keep.refl _ w5).setCell (fun _ e => e rfl) _).setCell (fun _ e => e rfl) _).setCell (fun _ e => e rfl) _).setCell (fun _ e => e rfl) _).setCell (fun _ e => e rfl) _).setCell (fun _ e => e rfl) _).setCell (fun _ e => e rfl) _
                    have hsk := hK.size
                    exact ret_cell_tmp T_def rfl rfl rfl (((((((bZ5.set 0 _).set 1 _).set 2 _).set 3 _).set 4 _).set 5 _).set 6 _) ⟨_, by rw [Hy.out.2]; rfl, by rw [Hy.out.1]; exact ⟨none, 0, 0, rfl, o5.keep hK (fun g hg _ e => by have := hfresh g hg; omega), (fun x hx => by simp [zeroM] at hx), (fun g hg => ⟨by have := hfresh g hg; omega, by have := o5.lt hg; omega⟩), hDok⟩, ((((((hG6.setCell hle0 _).setCell hle0 _).setCell hle0 _).setCell hle0 _).setCell hle0 _).setCell hle0 _).setCell hle0 _⟩
                  · have Hno := Lib.hid (show parDv s.data.toList = zdef ∧ parDb s.data.toList = false from HLL.out ▸ parD_n (show parD L = none by unfold parD; rw [Hc.out, if_neg (fun e => he (HF.out.trans e.2))]))
                    have q2 : (F == s.toList) = false := by rw [toList_data, ← HLL.out]; exact beq_eq_false_iff_ne.2 he
                    clear he
                    go_wp2
                    exact ret_cell_tmp T_def rfl rfl rfl (((((((bZ5.set 0 _).set 1 _).set 2 _).set 3 _).set 4 _).set 5 _).set 6 _) ⟨_, by rw [Hno.out.2]; rfl, by rw [Hno.out.1]; exact zdef_own, ((((((hG6.setCell hle0 _).setCell hle0 _).setCell hle0 _).setCell hle0 _).setCell hle0 _).setCell hle0 _).setCell hle0 _⟩
      · have q1 : ((s[k].toNat : Int) != 32) = true := by simp [h32]
        have Hnx := Lib.hid (show ∀ x ∈ s.data.toList.take (k + 1), sp x = false from fun x hx => by
          rw [take_succ Hb.out] at hx
          rcases List.mem_append.1 hx with hx | hx
          · exact Hsp.out x hx
          · rw [List.mem_singleton.1 hx]; unfold sp; rw [beq_eq_false_iff_ne]; intro e; rw [e] at h32; exact h32 rfl)
        clear h32
        go_wp2
        go_roundw
        case rel => exact ⟨trivial, k + 1, by omega, by go_num, Hnx.out⟩
        case measure => simp [intOf]; omega
    · obtain rfl : k = s.size := by omega
      have Hno := Lib.hid (parD_n (parD_no (L := s.data.toList) (no_sp (by have := Hsp.out; rw [← HL.out, List.take_length] at this; exact this))))
      go_wp2
      exact ret_cell_tmp T_def rfl rfl rfl bZ ⟨_, by rw [Hno.out.2]; rfl, by rw [Hno.out.1]; exact zdef_own, hG1⟩
end Go.Proofs.YtdnpdfokdibmdaaDoor
