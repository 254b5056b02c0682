/-
  The law FnDefs returns true for all arguments: a definition's text is read back, and what is read has that text. The listed variables of the library hold what the program's text lays.
-/
import Derived.Test.YtdnpdfokdibmdaaGreatDoorCards
import Derived.Test.YtdnpdfokdibmdaaGreatDoorTie
import Derived.Test.YtdnpdfokdibmdaaGreatDoorZPrdI
import Derived.Test.YtdnpdfokdibmdaaGreatDoorZPrdB
import Derived.Test.YtdnpdfokdibmdaaGreatDoorZDrawG
import Derived.Test.YtdnpdfokdibmdaaGreatDoorZIsDefS
import Derived.Test.YtdnpdfokdibmdaaGreatDoorZSame
import Derived.Test.YtdnpdfokdibmdaaGreatDoorZShM
import Derived.Test.YtdnpdfokdibmdaaGreatDoorZCloseL
import Derived.Stop.LaidErr
import Derived.Lay
namespace Go.Proofs.YtdnpdfokdibmdaaGreatDoor
open Go.RowKit Go.ChangeShapes
theorem row_err (u : TypeId) (h : Tryz.prog.typeName? 3 u = some "*errors.errorString") : u = 128 :=
  typeName_ptr_named (nm := "errors.errorString") (by rw [show "*" ++ "errors.errorString" = "*errors.errorString" by decide]; kernel_rfl) (by kernel_rfl) (by decide) u (by rw [show "*" ++ "errors.errorString" = "*errors.errorString" by decide]; exact h)
theorem sent {n : String} {text : List UInt8} {r : List (String × DataW Unit)} {W : World} {g : Nat} (h : laidMet Tryz.prog ((n, .iface "*errors.errorString" (.ptr (.agg [.lit (.string text)]))) :: r) W)
    (hg : Tryz.prog.globalNamed n = some g) (ht : (Tryz.prog.globals[g]?).map (·.type) = some 77) : ∃ tp p, W.var? Tryz.prog n = some #[.iface tp p] := by
  obtain ⟨a, s, h1, -⟩ := laid_sentinel h hg ht Tryz.underlying77 row_err Tryz.underlying128 Tryz.underlying130 rfl rfl Tryz.underlying9 (by kernel_rfl) (by kernel_rfl)
  exact ⟨_, _, h1⟩
theorem sameMB_self (m : Mat) : sameMB m m = true := by
  have hI : ∀ l : List Int, sameI l l = true := by
    intro l
    induction l with
    | nil => rfl
    | cons a l ih => unfold sameI; simp [ih]
  unfold sameMB
  rw [hI]; simp
theorem parD_nil : parD [] = none := by unfold parD; rw [if_neg]; rintro ⟨h, -⟩; simp [hasSp] at h
end Go.Proofs.YtdnpdfokdibmdaaGreatDoor
namespace Go.Proofs.YtdnpdfokdibmdaaGreatDoor.lawFnDefs
open Go.ChangeShapes Go.WideShapes Go.ChangeAt Go.RowKit

theorem cells_u8 : Tryz.prog.cellsOf 5 = 1 := by kernel_rfl
theorem table {W : World} (h : laidMetH Tryz.prog Rows.fnDefsRow.laid W) (hS : W.ShapedOpen Tryz.prog) : Env W := by
  rw [MakeChecks.laidMetH_plain _ _ _ (by kernel_rfl)] at h
  have h3 := h.tail.tail
  have h6 := h3.tail.tail
  have h7 := h6.tail
  exact ⟨Lib.tabIs_of_head (n := 20) (by kernel_rfl : Tryz.prog.globalNamed "internal/strconv.uint64pow10" = some 5) (by kernel_rfl) Tryz.underlying124 Tryz.underlying108 (by kernel_rfl) (by kernel_rfl) h3,
    sent (g := 1) h7 (by kernel_rfl) (by kernel_rfl), sent (g := 2) h6 (by kernel_rfl) (by kernel_rfl), sh_laysM145.s1_3 W hS⟩
set_option maxHeartbeats 400000 in
theorem big_c (a : Option Addr) (n cap : Nat) (w : World) (b : Bool) (hb : decide (1048576 < n) = b) :
    Calls Tryz.prog 4 #[.slice a n cap] w fun e w' => e = .returned (.bool b) ∧ w = w' := by
  cases b with
  | true =>
    have h := of_decide_eq_true hb
    go_enter Tryz.func4, Tryz.ntmps4
    go_wp2
    go_ret
    exact ⟨ret_bool (by simp; omega), rfl⟩
  | false =>
    have h := of_decide_eq_false hb
    go_enter Tryz.func4, Tryz.ntmps4
    go_wp2
    go_ret
    exact ⟨ret_bool (by simp; omega), rfl⟩
set_option maxHeartbeats 800000 in
set_option maxRecDepth 100000 in
theorem walk (a : Option Addr) (n cap : Nat) (bs : List Int) (w : World) (h : RdB w (fun _ => True) a n cap bs) (he : Env w) :
    Calls Tryz.prog 3 #[.slice a n cap] w fun e w' => e = .returned (.bool true) ∧ Grow w w' := by
  have He := Lib.hid he; clear he
  by_cases hbig : 1048576 < n
  · go_enter Tryz.func3, Tryz.ntmps3
    go_wp2_with fail
    refine (big_c a n cap _ true (decide_eq_true hbig)).mono ?_
    rintro e _ ⟨rfl, rfl⟩
    go_wp2
    go_ret
    exact ⟨rfl, Grow.refl _⟩
  have hbg := decide_eq_false hbig
  go_enter Tryz.func3, Tryz.ntmps3
  go_wp2_with fail
  refine (big_c a n cap _ false hbg).mono ?_
  rintro e _ ⟨rfl, rfl⟩
  clear hbg
  go_wp2_with fail
  refine (DrawFormatDef_c a n cap bs _ h (by omega)).mono ?_
  rintro e w1 ⟨v, d, rfl, ⟨da, dn, dc, rfl, hO, hx, hlo, hDok⟩, hbd, hG1⟩
  have hGd := (Grow.refl w1).alloc #[.string d.name, .int .i64 d.op, .string d.a, .string d.b, .int .i64 d.value.rows, .int .i64 d.value.cols, .slice da dn dc] 28
  have bD := Blk.new w1 #[.string d.name, .int .i64 d.op, .string d.a, .string d.b, .int .i64 d.value.rows, .int .i64 d.value.cols, .slice da dn dc] 28
  have hml : d.value.cells.length ≤ 2097152 := by unfold bdD at hbd; omega
  have hfl := fmtD_small hbd
  go_wp2_with fail
  refine (iFormatDef_c (d := d) (S := fun _ => True) ⟨da, dn, dc, rfl, (hO.grow hGd).rdI (fun _ _ => trivial) hx, hDok⟩ hml (He.out.tab.grow (hG1.trans hGd))).mono ?_
  rintro e w2 ⟨rfl, hG2⟩
  have hT2 := (hG1.trans hGd).trans hG2
  obtain ⟨F, hF⟩ : ∃ F, F = fmtD d := ⟨_, rfl⟩
  rw [← hF] at hfl ⊢
  have HF := Lib.hid hF
  clear hF
  go_wp2_with fail
  refine (iParseDef_c (bstr F) _ (by rw [bstr_size]; omega) (He.out.grow hT2)).mono ?_
  rw [show (bstr F).data.toList = F from rfl]
  rintro e w3 ⟨xv, rfl, ⟨xa, xn, xc, rfl, hOx, hxx, fx, hDx⟩, hG3⟩
  have hT3 := hT2.trans hG3
  have hG13 := (hGd.trans hG2).trans hG3
  obtain ⟨X, hX⟩ : ∃ X, X = parDv F := ⟨_, rfl⟩
  rw [← hX] at hOx hxx hDx ⊢
  have HX := Lib.hid hX
  clear hX
  have hGx := (Grow.refl w3).alloc #[.string X.name, .int .i64 X.op, .string X.a, .string X.b, .int .i64 X.value.rows, .int .i64 X.value.cols, .slice xa xn xc] 28
  have bX := Blk.new w3 #[.string X.name, .int .i64 X.op, .string X.a, .string X.b, .int .i64 X.value.rows, .int .i64 X.value.cols, .slice xa xn xc] 28
  have bD3 := (bD.grow (hG2.trans hG3)).grow hGx
  have hT4 := hT3.trans hGx
  obtain ⟨⟨d0, d1, d2, d3, d4, d5, d6⟩, -⟩ := bD3.seven
  go_wp2_with fail
  cases hd : isDefB d with
  | true =>
    have hpd := parD_fmt hd
    rw [← HF.out] at hpd
    obtain rfl : X = d := HX.out.trans (parD_v hpd).1
    have hpb : parDb F = true := (parD_v hpd).2
    rw [hpb]
    clear hpb hpd
    refine (specIsDef_c (d := X) (S := fun _ => True) ⟨da, dn, dc, rfl, (hO.grow (hG13.trans hGx)).rdI (fun _ _ => trivial) hx, hDok⟩ hml).mono ?_
    rw [hd]
    rintro e w5 ⟨rfl, hG5⟩
    have bX5 := bX.grow hG5
    have bD5 := bD3.grow hG5
    have hOd5 := (hO.grow (hG13.trans hGx)).grow hG5
    have hOx5 := (hOx.grow hGx).grow hG5
    have hT := hT4.trans hG5
    clear d0 d1 d2 d3 d4 d5 d6 bX bD3
    obtain ⟨⟨d0, d1, d2, d3, d4, d5, d6⟩, -⟩ := bD5.seven
    obtain ⟨⟨x0, x1, x2, x3, x4, x5, x6⟩, -⟩ := bX5.seven
    have hltD := bD5.lt
    have hltX := bX5.lt
    go_wp2_with fail
    refine (iSameMatrix_c (S := fun _ => True) (T := fun _ => True) (A := X.value) (B := X.value) ⟨xa, xn, xc, rfl, hOx5.rdI (fun _ _ => trivial) hxx, hDx.2.2.2.2.1, hDx.2.2.2.2.2⟩ ⟨da, dn, dc, rfl, hOd5.rdI (fun _ _ => trivial) hx, hDok.2.2.2.2.1, hDok.2.2.2.2.2⟩ (by unfold bdM; omega)).mono ?_
    rw [sameMB_self]
    rintro e w6 ⟨rfl, hG6⟩
    replace hT := hT.trans hG6
    go_wp2_with fail
    refine (DrawParseDef_c a n cap bs _ (h.grow hT) (by omega)).mono ?_
    rintro e wa ⟨t, ht, rfl, hGa⟩
    have hTa := hT.trans hGa
    go_wp2_with fail
    refine (iParseDef_c t _ (by omega) (He.out.grow hTa)).mono ?_
    rintro e wb ⟨v, rfl, ⟨ya, yn, yc, rfl, hOy, hxy, fy, hDy⟩, hGb⟩
    have hTb := hTa.trans hGb
    obtain ⟨tl, htl⟩ : ∃ tl, tl = t.data.toList := ⟨_, rfl⟩
    rw [← htl]
    have htt : t.toList = tl := by rw [toList_data, htl]
    rw [← htl] at hOy hxy hDy
    have Htl := Lib.hid htl
    clear htl
    cases hp : parDb tl with
    | false =>
      go_wp2
      go_ret
      exact ⟨rfl, hTb.alloc _ _⟩
    | true =>
      obtain ⟨y, hy⟩ : ∃ y, parD tl = some y := Option.isSome_iff_exists.1 hp
      rw [(parD_v hy).1] at hOy hxy hDy ⊢
      obtain ⟨-, hf, -, -⟩ := parD_some hy
      have hGy := (Grow.refl wb).alloc #[.string y.name, .int .i64 y.op, .string y.a, .string y.b, .int .i64 y.value.rows, .int .i64 y.value.cols, .slice ya yn yc] 28
      have hml : y.value.cells.length ≤ 2097152 := by
        have h1 := parD_bd tl
        rw [(parD_v hy).1] at h1
        have h2 : tl.length = t.size := by rw [Htl.out]; exact bytesLen t
        unfold bdD at h1
        omega
      have q2 : (fmtD y == t.toList) = true := by rw [htt, hf]; exact beq_self_eq_true _
      clear hp hf htt
      go_wp2_with fail
      refine (iFormatDef_c (d := y) (S := fun _ => True) ⟨ya, yn, yc, rfl, (hOy.grow hGy).rdI (fun _ _ => trivial) hxy, hDy⟩ hml (He.out.tab.grow (hTb.trans hGy))).mono ?_
      rintro e wc ⟨rfl, hGc⟩
      go_wp2
      go_ret
      exact ⟨rfl, (hTb.trans hGy).trans hGc⟩
  | false =>
    have hpd := fmtD_no hd
    rw [← HF.out] at hpd
    subst hpd
    obtain rfl : X = zdef := HX.out.trans (parD_n parD_nil).1
    have hpb : parDb [] = false := (parD_n parD_nil).2
    rw [hpb]
    clear hpb
    refine (specIsDef_c (d := d) (S := fun _ => True) ⟨da, dn, dc, rfl, (hO.grow (hG13.trans hGx)).rdI (fun _ _ => trivial) hx, hDok⟩ hml).mono ?_
    rw [hd]
    rintro e w5 ⟨rfl, hG5⟩
    have hT := hT4.trans hG5
    go_wp2_with fail
    refine (DrawParseDef_c a n cap bs _ (h.grow hT) (by omega)).mono ?_
    rintro e wa ⟨t, ht, rfl, hGa⟩
    have hTa := hT.trans hGa
    go_wp2_with fail
    refine (iParseDef_c t _ (by omega) (He.out.grow hTa)).mono ?_
    rintro e wb ⟨v, rfl, ⟨ya, yn, yc, rfl, hOy, hxy, fy, hDy⟩, hGb⟩
    have hTb := hTa.trans hGb
    obtain ⟨tl, htl⟩ : ∃ tl, tl = t.data.toList := ⟨_, rfl⟩
    rw [← htl]
    have htt : t.toList = tl := by rw [toList_data, htl]
    rw [← htl] at hOy hxy hDy
    have Htl := Lib.hid htl
    clear htl
    cases hp : parDb tl with
    | false =>
      go_wp2
      go_ret
      exact ⟨rfl, hTb.alloc _ _⟩
    | true =>
      obtain ⟨y, hy⟩ : ∃ y, parD tl = some y := Option.isSome_iff_exists.1 hp
      rw [(parD_v hy).1] at hOy hxy hDy ⊢
      obtain ⟨-, hf, -, -⟩ := parD_some hy
      have hGy := (Grow.refl wb).alloc #[.string y.name, .int .i64 y.op, .string y.a, .string y.b, .int .i64 y.value.rows, .int .i64 y.value.cols, .slice ya yn yc] 28
      have hml : y.value.cells.length ≤ 2097152 := by
        have h1 := parD_bd tl
        rw [(parD_v hy).1] at h1
        have h2 : tl.length = t.size := by rw [Htl.out]; exact bytesLen t
        unfold bdD at h1
        omega
      have q2 : (fmtD y == t.toList) = true := by rw [htt, hf]; exact beq_self_eq_true _
      clear hp hf htt
      go_wp2_with fail
      refine (iFormatDef_c (d := y) (S := fun _ => True) ⟨ya, yn, yc, rfl, (hOy.grow hGy).rdI (fun _ _ => trivial) hxy, hDy⟩ hml (He.out.tab.grow (hTb.trans hGy))).mono ?_
      rintro e wc ⟨rfl, hGc⟩
      go_wp2
      go_ret
      exact ⟨rfl, (hTb.trans hGy).trans hGc⟩
set_option maxRecDepth 100000 in
theorem contract (H : Type) (enc : TypeId × Value → H) (W : World) (base : Nat) (args : Array Value) (ds gs : List (DataW H)) (before : List MemPlace)
    (hval : ∀ (j : Nat) t v, Tryz.f3.params[j]? = some t → args[j]? = some v → Value.okWide Tryz.prog W .any base t v)
    (hW : DataW.Whole enc Tryz.prog Tryz.f3.params.toList Rows.fnDefsSpec.vars false W args.toList ds gs before) (hL : laidMetH Tryz.prog Rows.fnDefsRow.laid W) (hS : W.ShapedOpen Tryz.prog) :
    Calls Tryz.prog 3 args W fun e W' => ∃ v, e = .returned v ∧ Rows.fnDefsSpec.post enc Tryz.prog Tryz.f3 false true false false W args v W' := by
  refine law_calls P_laid ?_ rfl Tryz.underlying4 rfl ?_ hval hW ?_
  · exact of_decide_eq_true (by kernel_rfl)
  · intro ds hds
    match ds, hds with
    | [d0], _ => rfl
  · intro ps hval0 hA0
    clear hval hW
    have hval : ∀ (j : Nat) t v, Tryz.f3.params[j]? = some t → args[j]? = some v → Value.okWide Tryz.prog W .any 0 t v := hval0
    have hA : DataW.TrodAll enc Tryz.prog W 0 (fun _ => true) true Tryz.f3.params.toList args.toList ds ps := hA0
    rw [Tryz.params3] at hA hval
    obtain ⟨v0, vs0, d0, ds0, p0, q0, hargs, rfl, rfl, h0, r0⟩ := trodAll_cons hA
    obtain ⟨rfl, rfl, rfl⟩ := trodAll_nil r0
    obtain rfl : args = #[v0] := by cases args; simp_all
    obtain ⟨x0a, x0n, x0c, x0, rfl, hx0⟩ := openB Tryz.underlying22 Tryz.underlying5 cells_u8 (hval 0 22 v0 rfl rfl) h0
    exact walk _ _ _ x0 W hx0 (table hL hS)
set_option maxRecDepth 100000 in
theorem laid_met (os : Os) : laidMetH Tryz.prog Rows.fnDefsRow.laid ((World.laidAll Tryz.prog os Rows.fnDefsRow.laid).forCall (fun _ _ => 0) ⟨#[], #[.slice none 0 0], []⟩).memory :=
  by rw [MakeChecks.laidMetH_plain _ _ _ (by kernel_rfl)]; exact laidMet_laidAll _ (by kernel_rfl) (by kernel_rfl)
set_option maxRecDepth 100000 in
theorem reads (os : Os) {H : Type} (enc : TypeId × Value → H) : ∃ places, DataW.whole enc Tryz.prog ((World.laidAll Tryz.prog os Rows.fnDefsRow.laid).forCall (fun _ _ => 0) ⟨#[], #[.slice none 0 0], []⟩).memory Tryz.f3.params.toList Rows.fnDefsSpec.vars false (#[.slice none 0 0] : Array Value).toList 8 = some ([.nil], [], places) :=
  ⟨[], by kernel_rfl⟩
set_option maxRecDepth 100000 in
theorem lifted (os : Os) (started : os.Started) (H : Type) (enc : TypeId × Value → H) (F : Stop.Interp) :
    ReturnsInHanded {} Tryz.checked os 3 .any ((OpenSpec.ofChange Rows.fnDefsSpec).preRow enc Tryz.prog Tryz.f3 Rows.fnDefsRow.domain false Rows.fnDefsRow.laid) (((OpenSpec.ofChange Rows.fnDefsSpec).at F).post enc Tryz.prog Tryz.f3 false true false false) := by
  obtain ⟨places, hx⟩ := reads os enc
  refine returnsInHanded_of_row (C := Tryz.checked) (s := OpenSpec.ofChange Rows.fnDefsSpec) P_own started (by kernel_rfl) Tryz.func3
    (witness_row_atRef (enc := enc) (C := Tryz.checked) false (World.laidAll Tryz.prog os Rows.fnDefsRow.laid) #[.slice none 0 0] (World.laidAll_os _ _ _) (by kernel_rfl) (by kernel_rfl) (by kernel_rfl)
      (OpenSpec.preRow_of_cond 8 hx (by kernel_rfl) (fun k hk => by cases hk) (by kernel_rfl) (laid_met os))) ?_
  intro W base args ds gs before hval hW _ _ _ hL hS _
  exact contract H enc W base args ds gs before hval hW hL hS
theorem said : Rows.FnDefsSaid :=
  OpenClaim.holds_of_cond 3 Tryz.f3 rfl rfl rfl rfl rfl rfl rfl ⟨rfl, rfl, rfl, rfl, rfl⟩ rfl rfl rfl rfl rfl (by kernel_rfl) Tryz.func3 (by kernel_rfl)
    (of_decide_eq_true (by kernel_rfl)) (by unfold Func.isWrapper; first | (rw [if_pos (by decide +kernel)]; kernel_rfl) | (rw [if_neg (by decide +kernel)]; exact ⟨rfl, rfl⟩))
    (fun os started H enc _ F => by rw [OpenClaim.pre_eq_preRow]; exact lifted os started H enc F)
theorem plain (f : FuncId) (fn : Func) (hf : Tryz.pinned.checked.prog.funcNamed Tryz.f3.name = some f) (hfn : Tryz.pinned.checked.prog.funcs[f]? = some fn) :
    true = Tryz.pinned.checked.prog.looks [] ∧ ∀ (j : Nat) t, fn.params[j]? = some t → Tryz.pinned.checked.prog.wantsStandIn t = false := by
  obtain rfl : f = 3 := Option.some.inj ((show Tryz.prog.funcNamed Tryz.f3.name = some 3 by kernel_rfl).symm.trans hf) |>.symm
  obtain rfl : fn = Tryz.f3 := (Option.some.inj (Tryz.func3.symm.trans hfn)).symm
  refine ⟨by kernel_rfl, fun j t ht => ?_⟩
  rw [Tryz.params3] at ht
  have hm : t ∈ [22] := by simpa using Array.mem_of_getElem? ht
  have hall : ([22].all fun u => !Tryz.prog.wantsStandIn u) = true := by kernel_rfl
  exact (show Tryz.prog.wantsStandIn t = false by simpa using List.all_eq_true.1 hall t hm)
theorem proved : Rows.FnDefsCardSaid :=
  Claim7.holds_tied_plain_at .later [] _ _ _ _ said (fun _ h => by cases h) (by kernel_rfl) (fun _ h => by cases h) fnDefs_row_tie rfl ⟨rfl, rfl⟩ (by kernel_rfl) rfl plain (by kernel_rfl)
end Go.Proofs.YtdnpdfokdibmdaaGreatDoor.lawFnDefs
