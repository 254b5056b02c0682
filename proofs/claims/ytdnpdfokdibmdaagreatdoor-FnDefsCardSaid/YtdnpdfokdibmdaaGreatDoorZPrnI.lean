/-
  Matrices read back from their texts: the program's ParseMatrix.
-/
import Derived.Test.YtdnpdfokdibmdaaGreatDoorZPrn
import Derived.Test.YtdnpdfokdibmdaaGreatDoorZPrsI
import Derived.Test.YtdnpdfokdibmdaaGreatDoorZPrmS
import Derived.Test.YtdnpdfokdibmdaaGreatDoorZFmtJ
import Derived.Test.YtdnpdfokdibmdaaGreatDoorZShP
namespace Go.Proofs.YtdnpdfokdibmdaaGreatDoor
open Go.RowKit

theorem par_facts {L : List UInt8} {m0 : Mat} (h : parM L = some m0) : ∃ (R C : Nat) (cells : List Int), m0 = ⟨R, C, cells⟩ ∧ isMatB m0 = true ∧ fmtM m0 = L ∧ (∀ x ∈ cells, isNumB x = true) ∧ L.length ≤ 6400 ∧
    Lib.cut L [91] = (Lib.itoa R ++ 120 :: Lib.itoa C, cellsT C 0 cells ++ [93], true) ∧ Lib.cut (Lib.itoa R ++ 120 :: Lib.itoa C) [120] = (Lib.itoa R, Lib.itoa C, true) ∧ parI (Lib.itoa R) = some (R : Int) ∧ parI (Lib.itoa C) = some (C : Int) := by
  obtain ⟨h1, h2⟩ := parM_iff.1 h
  obtain ⟨R, C, hR, hC, hR24, hC24, hlen, hnum⟩ := isMatB_shape h1
  obtain ⟨r, k, cells⟩ := m0
  simp only at hR hC hlen hnum
  subst hR; subst hC
  obtain ⟨c1, c2⟩ := fmt_cuts h1
  rw [h2] at c1
  exact ⟨R, C, cells, rfl, h1, h2, fun x hx => isNumB_iff.2 (hnum x hx), by rw [← h2]; exact fmtM_len _, c1, c2, parI_yes (isNumB_iff.2 (by omega)) rfl, parI_yes (isNumB_iff.2 (by omega)) rfl⟩
theorem opt_none {α : Type} {o : Option α} (h : ∀ x, o = some x → False) : o = none := by
  cases o with
  | none => rfl
  | some x => exact (h x rfl).elim
section
variable {L : List UInt8}
theorem pn0 (h : 8000 < L.length) : parM L = none := opt_none fun m0 e => by obtain ⟨R, C, cells, -, -, -, -, h5, -⟩ := par_facts e; omega
theorem pn1 (h : (Lib.cut L [91]).2.2 = false) : parM L = none := opt_none fun m0 e => by obtain ⟨R, C, cells, -, -, -, -, -, h6, -⟩ := par_facts e; rw [h6] at h; cases h
theorem pn2 (h : (Lib.cut (Lib.cut L [91]).1 [120]).2.2 = false) : parM L = none := opt_none fun m0 e => by obtain ⟨R, C, cells, -, -, -, -, -, h6, h7, -⟩ := par_facts e; rw [h6] at h; simp only at h; rw [h7] at h; cases h
theorem pn3 (h : parIb (Lib.cut (Lib.cut L [91]).1 [120]).1 = false) : parM L = none := opt_none fun m0 e => by obtain ⟨R, C, cells, -, -, -, -, -, h6, h7, h8, -⟩ := par_facts e; rw [h6] at h; simp only at h; rw [h7] at h; simp only at h; rw [(parI_v h8).2] at h; cases h
theorem pn4 (h : parIb (Lib.cut (Lib.cut L [91]).1 [120]).2.1 = false) : parM L = none := opt_none fun m0 e => by obtain ⟨R, C, cells, -, -, -, -, -, h6, h7, -, h9⟩ := par_facts e; rw [h6] at h; simp only at h; rw [h7] at h; simp only at h; rw [(parI_v h9).2] at h; cases h
theorem pn5 (h : Lib.hasSuffix (Lib.cut L [91]).2.1 [93] = false) : parM L = none := opt_none fun m0 e => by
  obtain ⟨R, C, cells, -, -, -, -, -, h6, -⟩ := par_facts e
  rw [h6] at h
  unfold Lib.hasSuffix at h
  rw [Bool.eq_false_iff] at h
  exact h (by rw [List.isSuffixOf_iff_suffix]; exact List.suffix_append _ _)
theorem fields_of {Y : List UInt8} (hT : (Lib.cut L [91]).2.1 = Y ++ [93]) {m0 : Mat} (e : parM L = some m0) : Lib.goFieldsP rq (bstr Y) = (m0.cells.map Lib.itoa).map bstr ∧ (∀ x ∈ m0.cells, isNumB x = true) ∧ (Y = [] → m0.cells = []) := by
  obtain ⟨R, C, cells, rfl, -, -, h4, -, h6, -⟩ := par_facts e
  rw [h6] at hT
  simp only at hT
  have hY : cellsT C 0 cells = Y := (List.append_cancel_right hT)
  refine ⟨?_, h4, fun e0 => ?_⟩
  · rw [← hY, goFields_ascii _ (fun x hx => (cellsT_mem hx).1)]
    show (fld fq [] (cellsT C 0 cells)).map bstr = _
    rw [fld_cells0]
  · rw [e0] at hY
    cases cells with
    | nil => rfl
    | cons x l =>
      exfalso
      simp only [cellsT] at hY
      rw [if_neg (fun e => by omega), if_neg (by omega)] at hY
      simp only [List.nil_append, List.append_eq_nil_iff] at hY
      exact itoa_ne x hY.1
theorem pn6 {Y : List UInt8} (hT : (Lib.cut L [91]).2.1 = Y ++ [93]) {x : ByteArray} (hx : x ∈ Lib.goFieldsP rq (bstr Y)) (h : parIb x.data.toList = false) : parM L = none := opt_none fun m0 e => by
  obtain ⟨h1, h2, -⟩ := fields_of hT e
  rw [h1] at hx
  obtain ⟨y, hy, rfl⟩ := List.mem_map.1 hx
  obtain ⟨n, hn, rfl⟩ := List.mem_map.1 hy
  rw [show (bstr (Lib.itoa n)).data.toList = Lib.itoa n from rfl, (parI_v (parI_yes (h2 n hn) rfl)).2] at h
  cases h
def csOf (Y : List UInt8) : List Int := if Y = [] then [] else (Lib.goFieldsP rq (bstr Y)).map fun x => parIv x.data.toList
def candI (L Y : List UInt8) : Mat := ⟨parIv (Lib.cut (Lib.cut L [91]).1 [120]).1, parIv (Lib.cut (Lib.cut L [91]).1 [120]).2.1, csOf Y⟩
theorem pn7 {Y : List UInt8} (hT : (Lib.cut L [91]).2.1 = Y ++ [93]) (h : ¬ (isMatB (candI L Y) = true ∧ fmtM (candI L Y) = L)) : parM L = none := opt_none fun m0 e => h (by
  obtain ⟨h1, h2, h3⟩ := fields_of hT e
  obtain ⟨R, C, cells, rfl, h4, h5, -, -, h6, h7, h8, h9⟩ := par_facts e
  have hc : candI L Y = ⟨R, C, cells⟩ := by
    unfold candI
    rw [h6]
    simp only
    rw [h7]
    simp only
    rw [(parI_v h8).1, (parI_v h9).1]
    congr 1
    unfold csOf
    split
    · rename_i h0; exact (h3 h0).symm
    · rw [h1, List.map_map, List.map_map]
      have : ∀ {l : List Int}, (∀ x ∈ l, isNumB x = true) → l.map (((fun x : ByteArray => parIv x.data.toList) ∘ bstr) ∘ Lib.itoa) = l := by
        intro l
        induction l with
        | nil => intro _; rfl
        | cons a l ih =>
          intro hl
          rw [List.map_cons, ih fun y hy => hl y (by simp [hy])]
          congr 1
          exact (parI_v (parI_yes (hl a (by simp)) rfl)).1
      exact this h2
  rw [hc]; exact ⟨h4, h5⟩)
end
theorem body_pred (w : World) : PredAt Tryz.prog 41 #[] encR rq w := fun W x _ => by
  show Calls Tryz.prog 41 #[.int .i32 (x : Int)] W _
  by_cases h1 : x = 32
  · subst h1
    go_enter Tryz.func41, Tryz.ntmps41
    go_wp2
    go_ret
    exact ⟨rfl, 0, rfl⟩
  · have q1 : ((x : Int) == 32) = false := by simp; omega
    have e1 : (x == 32) = false := by simp [h1]
    by_cases h2 : x = 59
    · subst h2
      go_enter Tryz.func41, Tryz.ntmps41
      go_wp2
      go_ret
      exact ⟨rfl, 0, rfl⟩
    · have q2 : ((x : Int) == 59) = false := by simp; omega
      have e2 : (x == 59) = false := by simp [h2]
      have Hr := Lib.hid (show rq x = false by unfold rq; rw [e1, e2]; rfl)
      clear h1 h2 e1 e2
      go_enter Tryz.func41, Tryz.ntmps41
      go_wp2
      go_ret
      exact ⟨by rw [Hr.out]; rfl, 0, rfl⟩
end Go.Proofs.YtdnpdfokdibmdaaGreatDoor
