/-
  The law FnExactParseDef returns true for all arguments: the program's ParseDef and the reference's return the same; results share no memory. The listed variables of the library hold what the program's text lays.
-/
import Derived.Test.YtdnpdfokdibmdaaDoorCards
import Derived.Test.YtdnpdfokdibmdaaDoorTie
import Derived.Test.YtdnpdfokdibmdaaDoorZPrdI
import Derived.Test.YtdnpdfokdibmdaaDoorZPrdB
import Derived.Test.YtdnpdfokdibmdaaDoorZMarkD1
import Derived.Test.YtdnpdfokdibmdaaDoorZShM
import Derived.Test.YtdnpdfokdibmdaaDoorZCloseL
import Derived.Stop.LaidErr
import Derived.Lay
namespace Go.Proofs.YtdnpdfokdibmdaaDoor
open Go.RowKit Go.ChangeShapes
theorem specParseDef_v {s : ByteArray} {w : World} (hs : s.size ≤ 1048576) (_he : Env w) :
    Calls Tryd.prog 10 #[.string s] w fun e w' => ∃ r, e = .returned (.tuple #[r, .bool (parDb s.data.toList)]) ∧ OD w' (New w w') r (parDv s.data.toList) ∧ Grow w w' := sParseDef_c s w hs
theorem implParseDef_v {s : ByteArray} {w : World} (hs : s.size ≤ 1048576) (he : Env w) :
    Calls Tryd.prog 11 #[.string s] w fun e w' => ∃ r, e = .returned (.tuple #[r, .bool (parDb s.data.toList)]) ∧ OD w' (New w w') r (parDv s.data.toList) ∧ Grow w w' := iParseDef_c s w hs he
theorem row_err (u : TypeId) (h : Tryd.prog.typeName? 3 u = some "*errors.errorString") : u = 125 :=
  typeName_ptr_named (nm := "errors.errorString") (by rw [show "*" ++ "errors.errorString" = "*errors.errorString" by decide]; kernel_rfl) (by kernel_rfl) (by decide) u (by rw [show "*" ++ "errors.errorString" = "*errors.errorString" by decide]; exact h)
theorem sent {n : String} {text : List UInt8} {r : List (String × DataW Unit)} {W : World} {g : Nat} (h : laidMet Tryd.prog ((n, .iface "*errors.errorString" (.ptr (.agg [.lit (.string text)]))) :: r) W)
    (hg : Tryd.prog.globalNamed n = some g) (ht : (Tryd.prog.globals[g]?).map (·.type) = some 74) : ∃ tp p, W.var? Tryd.prog n = some #[.iface tp p] := by
  obtain ⟨a, s, h1, -⟩ := laid_sentinel h hg ht Tryd.underlying74 row_err Tryd.underlying125 Tryd.underlying127 rfl rfl Tryd.underlying9 (by kernel_rfl) (by kernel_rfl)
  exact ⟨_, _, h1⟩
end Go.Proofs.YtdnpdfokdibmdaaDoor
namespace Go.Proofs.YtdnpdfokdibmdaaDoor.lawParseDef
open Go.ChangeShapes Go.WideShapes Go.ChangeAt Go.RowKit

theorem table {W : World} (h : laidMetH Tryd.prog Rows.fnExactParseDefRow.laid W) (hS : W.ShapedOpen Tryd.prog) : Env W := by
  rw [MakeChecks.laidMetH_plain _ _ _ (by kernel_rfl)] at h
  have h3 := h.tail.tail
  have h6 := h3.tail.tail
  have h7 := h6.tail
  exact ⟨Lib.tabIs_of_head (n := 20) (by kernel_rfl : Tryd.prog.globalNamed "internal/strconv.uint64pow10" = some 5) (by kernel_rfl) Tryd.underlying121 Tryd.underlying105 (by kernel_rfl) (by kernel_rfl) h3,
    sent (g := 1) h7 (by kernel_rfl) (by kernel_rfl), sent (g := 2) h6 (by kernel_rfl) (by kernel_rfl), sh_laysM145.s1_3 W hS⟩

set_option maxHeartbeats 16000000 in
set_option maxRecDepth 100000 in
theorem walk (x : ByteArray) (w : World) (hx : x.size ≤ maxLen) (henv : Env w) :
    Calls Tryd.prog 4 #[.string x] w fun e w' => e = .returned (.bool true) ∧ Grow w w' := by
  have Henv := Lib.hid henv; clear henv
  have hs0 : w.heap.size ≤ w.heap.size := Nat.le_refl _
  have hT : Grow w w := Grow.refl w
  by_cases hbx : 1048576 < x.size
  · skip
    go_enter Tryd.func4, Tryd.ntmps4
    go_wp2_with fail
    all_goals (go_ret; exact ⟨rfl, hT⟩)
  have hB_0 : bdD (parDv x.data.toList) ≤ 2097152 := by have := parD_bd x.data.toList; have h2 := bytesLen x; omega
  go_enter Tryd.func4, Tryd.ntmps4
  go_wp2_with fail
  refine (specParseDef_v (by omega) (Henv.out.grow hT)).mono ?_
  rintro e w1 ⟨a0, rfl, hVa0, hG1⟩
  have hs1 := hG1.size
  replace hT := hT.trans hG1
  clear hG1
  obtain ⟨a0a, a0n, a0c, rfl, ha0x⟩ := hVa0
  replace hVa0 : OD w1 (New w w1) (.agg #[.string ((parDv x.data.toList)).name, .int .i64 ((parDv x.data.toList)).op, .string ((parDv x.data.toList)).a, .string ((parDv x.data.toList)).b, .int .i64 ((parDv x.data.toList)).value.rows, .int .i64 ((parDv x.data.toList)).value.cols, .slice a0a a0n a0c]) (parDv x.data.toList) := ⟨_, _, _, rfl, ha0x⟩
  clear ha0x
  have hW0 := (hVa0.rd (S := fun _ => True) fun _ _ => trivial).weak (T := fun b => b < w1.heap.size) fun _ hb _ => hb
  clear hVa0
  have hGa := (Grow.refl w1).alloc #[.string ((parDv x.data.toList)).name, .int .i64 ((parDv x.data.toList)).op, .string ((parDv x.data.toList)).a, .string ((parDv x.data.toList)).b, .int .i64 ((parDv x.data.toList)).value.rows, .int .i64 ((parDv x.data.toList)).value.cols, .slice a0a a0n a0c] 31
  have hBka0 := Blk.newAt w1 #[.string ((parDv x.data.toList)).name, .int .i64 ((parDv x.data.toList)).op, .string ((parDv x.data.toList)).a, .string ((parDv x.data.toList)).b, .int .i64 ((parDv x.data.toList)).value.rows, .int .i64 ((parDv x.data.toList)).value.cols, .slice a0a a0n a0c] 31 rfl
  replace hW0 := hW0.grow hGa
  replace hT := hT.trans hGa
  have hsa1 := hGa.size
  have hsb1 := hBka0.lt
  clear hGa
  obtain ⟨⟨chBka00, chBka01, chBka02, chBka03, chBka04, chBka05, chBka06⟩, -⟩ := hBka0.seven
  go_wp2_with fail
  clear chBka00
  clear chBka01
  clear chBka02
  clear chBka03
  clear chBka04
  clear chBka05
  clear chBka06
  refine (implParseDef_v (by omega) (Henv.out.grow hT)).mono ?_
  rintro e w2 ⟨g0, rfl, hVg0, hG2⟩
  have hs2 := hG2.size
  replace hW0 := hW0.grow hG2
  replace hBka0 := hBka0.grow hG2
  replace hT := hT.trans hG2
  clear hG2
  obtain ⟨g0a, g0n, g0c, rfl, hg0x⟩ := hVg0
  replace hVg0 : OD w2 (_) (.agg #[.string ((parDv x.data.toList)).name, .int .i64 ((parDv x.data.toList)).op, .string ((parDv x.data.toList)).a, .string ((parDv x.data.toList)).b, .int .i64 ((parDv x.data.toList)).value.rows, .int .i64 ((parDv x.data.toList)).value.cols, .slice g0a g0n g0c]) (parDv x.data.toList) := ⟨_, _, _, rfl, hg0x⟩
  clear hg0x
  have hGa := (Grow.refl w2).alloc #[.string ((parDv x.data.toList)).name, .int .i64 ((parDv x.data.toList)).op, .string ((parDv x.data.toList)).a, .string ((parDv x.data.toList)).b, .int .i64 ((parDv x.data.toList)).value.rows, .int .i64 ((parDv x.data.toList)).value.cols, .slice g0a g0n g0c] 31
  have hBkg0 := Blk.newAt w2 #[.string ((parDv x.data.toList)).name, .int .i64 ((parDv x.data.toList)).op, .string ((parDv x.data.toList)).a, .string ((parDv x.data.toList)).b, .int .i64 ((parDv x.data.toList)).value.rows, .int .i64 ((parDv x.data.toList)).value.cols, .slice g0a g0n g0c] 31 rfl
  replace hW0 := hW0.grow hGa
  replace hVg0 := hVg0.grow hGa
  replace hBka0 := hBka0.grow hGa
  replace hT := hT.trans hGa
  have hsa2 := hGa.size
  have hsb2 := hBkg0.lt
  clear hGa
  obtain ⟨⟨chBka00, chBka01, chBka02, chBka03, chBka04, chBka05, chBka06⟩, -⟩ := hBka0.seven
  obtain ⟨⟨chBkg00, chBkg01, chBkg02, chBkg03, chBkg04, chBkg05, chBkg06⟩, -⟩ := hBkg0.seven
  go_wp2_with fail
  clear chBka00
  clear chBka01
  clear chBka02
  clear chBka03
  clear chBka04
  clear chBka05
  clear chBka06
  clear chBkg00
  clear chBkg01
  clear chBkg02
  clear chBkg03
  clear chBkg04
  clear chBkg05
  clear chBkg06
  refine (eq_D (hVg0.rd (S := fun _ => True) fun _ _ => trivial) hW0 hB_0).mono ?_
  rintro e w3 ⟨rfl, hG3⟩
  have hs3 := hG3.size
  replace hW0 := hW0.grow hG3
  replace hVg0 := hVg0.grow hG3
  replace hBka0 := hBka0.grow hG3
  replace hBkg0 := hBkg0.grow hG3
  replace hT := hT.trans hG3
  clear hG3
  obtain ⟨⟨chBka00, chBka01, chBka02, chBka03, chBka04, chBka05, chBka06⟩, -⟩ := hBka0.seven
  obtain ⟨⟨chBkg00, chBkg01, chBkg02, chBkg03, chBkg04, chBkg05, chBkg06⟩, -⟩ := hBkg0.seven
  go_wp2_with fail
  clear chBka00
  clear chBka01
  clear chBka02
  clear chBka03
  clear chBka04
  clear chBka05
  clear chBka06
  clear chBkg00
  clear chBkg01
  clear chBkg02
  clear chBkg03
  clear chBkg04
  clear chBkg05
  clear chBkg06
  refine (mark_D (1) hVg0 (by omega)).mono ?_
  rintro e w4 ⟨rfl, hVg0m, hK4⟩
  have hs4 := hK4.size
  replace hW0 := hW0.keep hK4 (fun b _ hb => by (try simp only [New] at hb ⊢); omega)
  replace hBka0 := hBka0.keep hK4 (by (try simp only [New]); omega)
  replace hBkg0 := hBkg0.keep hK4 (by (try simp only [New]); omega)
  replace hT : Grow w w4 := hT.keep hK4 (fun b hb => by (try simp only [New]); omega)
  clear hK4
  obtain ⟨⟨chBka00, chBka01, chBka02, chBka03, chBka04, chBka05, chBka06⟩, -⟩ := hBka0.seven
  obtain ⟨⟨chBkg00, chBkg01, chBkg02, chBkg03, chBkg04, chBkg05, chBkg06⟩, -⟩ := hBkg0.seven
  go_wp2_with fail
  clear chBka00
  clear chBka01
  clear chBka02
  clear chBka03
  clear chBka04
  clear chBka05
  clear chBka06
  clear chBkg00
  clear chBkg01
  clear chBkg02
  clear chBkg03
  clear chBkg04
  clear chBkg05
  clear chBkg06
  refine (held_D (1) (hVg0m.rd (S := fun _ => True) fun _ _ => trivial) (by omega)).mono ?_
  rintro e w5 ⟨rfl, hG5⟩
  have hs5 := hG5.size
  replace hW0 := hW0.grow hG5
  replace hVg0m := hVg0m.grow hG5
  replace hBka0 := hBka0.grow hG5
  replace hBkg0 := hBkg0.grow hG5
  replace hT := hT.trans hG5
  clear hG5
  obtain ⟨⟨chBka00, chBka01, chBka02, chBka03, chBka04, chBka05, chBka06⟩, -⟩ := hBka0.seven
  obtain ⟨⟨chBkg00, chBkg01, chBkg02, chBkg03, chBkg04, chBkg05, chBkg06⟩, -⟩ := hBkg0.seven
  go_wp2_with fail
  clear chBka00
  clear chBka01
  clear chBka02
  clear chBka03
  clear chBka04
  clear chBka05
  clear chBka06
  clear chBkg00
  clear chBkg01
  clear chBkg02
  clear chBkg03
  clear chBkg04
  clear chBkg05
  clear chBkg06
  refine (implParseDef_v (by omega) (Henv.out.grow hT)).mono ?_
  rintro e w6 ⟨h0, rfl, hVh0, hG6⟩
  have hs6 := hG6.size
  replace hW0 := hW0.grow hG6
  replace hVg0m := hVg0m.grow hG6
  replace hBka0 := hBka0.grow hG6
  replace hBkg0 := hBkg0.grow hG6
  replace hT := hT.trans hG6
  clear hG6
  obtain ⟨h0a, h0n, h0c, rfl, hh0x⟩ := hVh0
  replace hVh0 : OD w6 (_) (.agg #[.string ((parDv x.data.toList)).name, .int .i64 ((parDv x.data.toList)).op, .string ((parDv x.data.toList)).a, .string ((parDv x.data.toList)).b, .int .i64 ((parDv x.data.toList)).value.rows, .int .i64 ((parDv x.data.toList)).value.cols, .slice h0a h0n h0c]) (parDv x.data.toList) := ⟨_, _, _, rfl, hh0x⟩
  clear hh0x
  have hGa := (Grow.refl w6).alloc #[.string ((parDv x.data.toList)).name, .int .i64 ((parDv x.data.toList)).op, .string ((parDv x.data.toList)).a, .string ((parDv x.data.toList)).b, .int .i64 ((parDv x.data.toList)).value.rows, .int .i64 ((parDv x.data.toList)).value.cols, .slice h0a h0n h0c] 31
  have hBkh0 := Blk.newAt w6 #[.string ((parDv x.data.toList)).name, .int .i64 ((parDv x.data.toList)).op, .string ((parDv x.data.toList)).a, .string ((parDv x.data.toList)).b, .int .i64 ((parDv x.data.toList)).value.rows, .int .i64 ((parDv x.data.toList)).value.cols, .slice h0a h0n h0c] 31 rfl
  replace hW0 := hW0.grow hGa
  replace hVg0m := hVg0m.grow hGa
  replace hVh0 := hVh0.grow hGa
  replace hBka0 := hBka0.grow hGa
  replace hBkg0 := hBkg0.grow hGa
  replace hT := hT.trans hGa
  have hsa6 := hGa.size
  have hsb6 := hBkh0.lt
  clear hGa
  obtain ⟨⟨chBka00, chBka01, chBka02, chBka03, chBka04, chBka05, chBka06⟩, -⟩ := hBka0.seven
  obtain ⟨⟨chBkg00, chBkg01, chBkg02, chBkg03, chBkg04, chBkg05, chBkg06⟩, -⟩ := hBkg0.seven
  obtain ⟨⟨chBkh00, chBkh01, chBkh02, chBkh03, chBkh04, chBkh05, chBkh06⟩, -⟩ := hBkh0.seven
  go_wp2_with fail
  clear chBka00
  clear chBka01
  clear chBka02
  clear chBka03
  clear chBka04
  clear chBka05
  clear chBka06
  clear chBkg00
  clear chBkg01
  clear chBkg02
  clear chBkg03
  clear chBkg04
  clear chBkg05
  clear chBkg06
  clear chBkh00
  clear chBkh01
  clear chBkh02
  clear chBkh03
  clear chBkh04
  clear chBkh05
  clear chBkh06
  refine (eq_D (hVh0.rd (S := fun _ => True) fun _ _ => trivial) hW0 hB_0).mono ?_
  rintro e w7 ⟨rfl, hG7⟩
  have hs7 := hG7.size
  replace hW0 := hW0.grow hG7
  replace hVg0m := hVg0m.grow hG7
  replace hVh0 := hVh0.grow hG7
  replace hBka0 := hBka0.grow hG7
  replace hBkg0 := hBkg0.grow hG7
  replace hBkh0 := hBkh0.grow hG7
  replace hT := hT.trans hG7
  clear hG7
  obtain ⟨⟨chBka00, chBka01, chBka02, chBka03, chBka04, chBka05, chBka06⟩, -⟩ := hBka0.seven
  obtain ⟨⟨chBkg00, chBkg01, chBkg02, chBkg03, chBkg04, chBkg05, chBkg06⟩, -⟩ := hBkg0.seven
  obtain ⟨⟨chBkh00, chBkh01, chBkh02, chBkh03, chBkh04, chBkh05, chBkh06⟩, -⟩ := hBkh0.seven
  go_wp2_with fail
  clear chBka00
  clear chBka01
  clear chBka02
  clear chBka03
  clear chBka04
  clear chBka05
  clear chBka06
  clear chBkg00
  clear chBkg01
  clear chBkg02
  clear chBkg03
  clear chBkg04
  clear chBkg05
  clear chBkg06
  clear chBkh00
  clear chBkh01
  clear chBkh02
  clear chBkh03
  clear chBkh04
  clear chBkh05
  clear chBkh06
  refine (held_D (1) (hVg0m.rd (S := fun _ => True) fun _ _ => trivial) (by omega)).mono ?_
  rintro e w8 ⟨rfl, hG8⟩
  have hs8 := hG8.size
  replace hW0 := hW0.grow hG8
  replace hVg0m := hVg0m.grow hG8
  replace hVh0 := hVh0.grow hG8
  replace hBka0 := hBka0.grow hG8
  replace hBkg0 := hBkg0.grow hG8
  replace hBkh0 := hBkh0.grow hG8
  replace hT := hT.trans hG8
  clear hG8
  obtain ⟨⟨chBka00, chBka01, chBka02, chBka03, chBka04, chBka05, chBka06⟩, -⟩ := hBka0.seven
  obtain ⟨⟨chBkg00, chBkg01, chBkg02, chBkg03, chBkg04, chBkg05, chBkg06⟩, -⟩ := hBkg0.seven
  obtain ⟨⟨chBkh00, chBkh01, chBkh02, chBkh03, chBkh04, chBkh05, chBkh06⟩, -⟩ := hBkh0.seven
  go_wp2_with fail
  clear chBka00
  clear chBka01
  clear chBka02
  clear chBka03
  clear chBka04
  clear chBka05
  clear chBka06
  clear chBkg00
  clear chBkg01
  clear chBkg02
  clear chBkg03
  clear chBkg04
  clear chBkg05
  clear chBkg06
  clear chBkh00
  clear chBkh01
  clear chBkh02
  clear chBkh03
  clear chBkh04
  clear chBkh05
  clear chBkh06
  go_ret
  exact ⟨rfl, hT⟩
set_option maxRecDepth 100000 in
theorem contract (H : Type) (enc : TypeId × Value → H) (W : World) (base : Nat) (args : Array Value) (ds gs : List (DataW H)) (before : List MemPlace)
    (hval : ∀ (j : Nat) t v, Tryd.f4.params[j]? = some t → args[j]? = some v → Value.okWide Tryd.prog W .any base t v)
    (hW : DataW.Whole enc Tryd.prog Tryd.f4.params.toList Rows.fnExactParseDefSpec.vars false W args.toList ds gs before) (hL : laidMetH Tryd.prog Rows.fnExactParseDefRow.laid W) (hS : W.ShapedOpen Tryd.prog) :
    Calls Tryd.prog 4 args W fun e W' => ∃ v, e = .returned v ∧ Rows.fnExactParseDefSpec.post enc Tryd.prog Tryd.f4 false true false false W args v W' := by
  refine law_calls P_laid ?_ rfl Tryd.underlying4 rfl ?_ hval hW ?_
  · exact of_decide_eq_true (by kernel_rfl)
  · intro ds hds
    match ds, hds with
    | [d0], _ => rfl
  · intro ps hval0 hA0
    clear hval hW
    have hval : ∀ (j : Nat) t v, Tryd.f4.params[j]? = some t → args[j]? = some v → Value.okWide Tryd.prog W .any 0 t v := hval0
    have hA : DataW.TrodAll enc Tryd.prog W 0 (fun _ => true) true Tryd.f4.params.toList args.toList ds ps := hA0
    rw [Tryd.params4] at hA hval
    obtain ⟨v0, vs0, d0, ds0, p0, q0, hargs, rfl, rfl, h0, r0⟩ := trodAll_cons hA
    obtain ⟨rfl, rfl, rfl⟩ := trodAll_nil r0
    obtain rfl : args = #[v0] := by cases args; simp_all
    obtain ⟨x0, rfl, _, _, hx0⟩ := Go.ChangeMaps.open_string Tryd.underlying9 (hval 0 9 v0 rfl rfl) h0
    exact walk x0 W hx0 (table hL hS)
set_option maxRecDepth 100000 in
theorem laid_met (os : Os) : laidMetH Tryd.prog Rows.fnExactParseDefRow.laid ((World.laidAll Tryd.prog os Rows.fnExactParseDefRow.laid).forCall (fun _ _ => 0) ⟨#[], #[.string .empty], []⟩).memory :=
  by rw [MakeChecks.laidMetH_plain _ _ _ (by kernel_rfl)]; exact laidMet_laidAll _ (by kernel_rfl) (by kernel_rfl)
set_option maxRecDepth 100000 in
theorem reads (os : Os) {H : Type} (enc : TypeId × Value → H) : ∃ places, DataW.whole enc Tryd.prog ((World.laidAll Tryd.prog os Rows.fnExactParseDefRow.laid).forCall (fun _ _ => 0) ⟨#[], #[.string .empty], []⟩).memory Tryd.f4.params.toList Rows.fnExactParseDefSpec.vars false (#[.string .empty] : Array Value).toList 8 = some ([.lit (.string [])], [], places) :=
  ⟨[], by kernel_rfl⟩
set_option maxRecDepth 100000 in
theorem lifted (os : Os) (started : os.Started) (H : Type) (enc : TypeId × Value → H) (F : Stop.Interp) :
    ReturnsInHanded {} Tryd.checked os 4 .any ((OpenSpec.ofChange Rows.fnExactParseDefSpec).preRow enc Tryd.prog Tryd.f4 Rows.fnExactParseDefRow.domain false Rows.fnExactParseDefRow.laid) (((OpenSpec.ofChange Rows.fnExactParseDefSpec).at F).post enc Tryd.prog Tryd.f4 false true false false) := by
  obtain ⟨places, hx⟩ := reads os enc
  refine returnsInHanded_of_row (C := Tryd.checked) (s := OpenSpec.ofChange Rows.fnExactParseDefSpec) P_own started (by kernel_rfl) Tryd.func4
    (witness_row_atRef (enc := enc) (C := Tryd.checked) false (World.laidAll Tryd.prog os Rows.fnExactParseDefRow.laid) #[.string .empty] (World.laidAll_os _ _ _) (by kernel_rfl) (by kernel_rfl) (by kernel_rfl)
      (OpenSpec.preRow_of_cond 8 hx (by kernel_rfl) (fun k hk => by cases hk) (by kernel_rfl) (laid_met os))) ?_
  intro W base args ds gs before hval hW _ _ _ hL hS _
  exact contract H enc W base args ds gs before hval hW hL hS
theorem said : Rows.FnExactParseDefSaid :=
  OpenClaim.holds_of_cond 4 Tryd.f4 rfl rfl rfl rfl rfl rfl rfl ⟨rfl, rfl, rfl, rfl, rfl⟩ rfl rfl rfl rfl rfl (by kernel_rfl) Tryd.func4 (by kernel_rfl)
    (of_decide_eq_true (by kernel_rfl)) (by unfold Func.isWrapper; first | (rw [if_pos (by decide +kernel)]; kernel_rfl) | (rw [if_neg (by decide +kernel)]; exact ⟨rfl, rfl⟩))
    (fun os started H enc _ F => by rw [OpenClaim.pre_eq_preRow]; exact lifted os started H enc F)
theorem plain (f : FuncId) (fn : Func) (hf : Tryd.pinned.checked.prog.funcNamed Tryd.f4.name = some f) (hfn : Tryd.pinned.checked.prog.funcs[f]? = some fn) :
    true = Tryd.pinned.checked.prog.looks [] ∧ ∀ (j : Nat) t, fn.params[j]? = some t → Tryd.pinned.checked.prog.wantsStandIn t = false := by
  obtain rfl : f = 4 := Option.some.inj ((show Tryd.prog.funcNamed Tryd.f4.name = some 4 by kernel_rfl).symm.trans hf) |>.symm
  obtain rfl : fn = Tryd.f4 := (Option.some.inj (Tryd.func4.symm.trans hfn)).symm
  refine ⟨by kernel_rfl, fun j t ht => ?_⟩
  rw [Tryd.params4] at ht
  have hm : t ∈ [9] := by simpa using Array.mem_of_getElem? ht
  have hall : ([9].all fun u => !Tryd.prog.wantsStandIn u) = true := by kernel_rfl
  exact (show Tryd.prog.wantsStandIn t = false by simpa using List.all_eq_true.1 hall t hm)
theorem proved : Rows.FnExactParseDefCardSaid :=
  Claim7.holds_tied_plain_at .later [] _ _ _ _ said (fun _ h => by cases h) (by kernel_rfl) (fun _ h => by cases h) fnExactParseDef_row_tie rfl ⟨rfl, rfl⟩ (by kernel_rfl) rfl plain (by kernel_rfl)
end Go.Proofs.YtdnpdfokdibmdaaDoor.lawParseDef
