/-
  Definitions read back from their texts: the plain function.
-/
import Derived.Test.YtdnpdfokdibmdaaGreatDoorZFmtD
import Derived.Test.YtdnpdfokdibmdaaGreatDoorZPrm
import Derived.Test.YtdnpdfokdibmdaaGreatDoorZDefK3
namespace Go.Proofs.YtdnpdfokdibmdaaGreatDoor
open Go.RowKit

def sp (c : UInt8) : Bool := c == 32
def joinS : List (List UInt8) → List UInt8
  | [] => []
  | [x] => x
  | x :: y :: r => x ++ 32 :: joinS (y :: r)
theorem joinS_cons (x : List UInt8) {r : List (List UInt8)} (h : r ≠ []) : joinS (x :: r) = x ++ 32 :: joinS r := by
  cases r with
  | nil => exact absurd rfl h
  | cons y r => rfl
theorem split_join : ∀ (l cur : List UInt8), joinS (splitGo sp cur l) = cur ++ l
  | [], cur => by simp [splitGo, joinS]
  | c :: r, cur => by
    unfold splitGo
    split
    · rename_i h
      have : c = 32 := by simpa [sp] using h
      subst this
      have hne : splitGo sp [] r ≠ [] := fun e => by have := (splitGo_len sp r []).2; rw [e] at this; simp at this
      rw [joinS_cons _ hne, split_join r []]; simp
    · rw [split_join r (cur ++ [c])]; simp
/-- The last operation with this word. -/
def opOf (x : List UInt8) : Nat → Int
  | 0 => 0
  | n + 1 => if x = opw ((n : Int) + 1) then (n : Int) + 1 else opOf x n
theorem opOf_rng (x : List UInt8) : ∀ n, 0 ≤ opOf x n ∧ opOf x n ≤ n
  | 0 => by simp [opOf]
  | n + 1 => by
    unfold opOf
    have := opOf_rng x n
    split <;> omega
theorem opOf_word {x : List UInt8} : ∀ {n : Nat}, opOf x n ≠ 0 → x = opw (opOf x n)
  | 0, h => by simp [opOf] at h
  | n + 1, h => by
    unfold opOf at h ⊢
    split
    · assumption
    · rename_i hx; rw [if_neg hx] at h; exact opOf_word h
theorem opw_inj : ∀ (i j : Fin 10), 1 ≤ i.val → 1 ≤ j.val → opw (i.val : Int) = opw (j.val : Int) → i = j := by decide +kernel
theorem opw_eq {a b : Int} (ha : 1 ≤ a ∧ a ≤ 9) (hb : 1 ≤ b ∧ b ≤ 9) (h : opw a = opw b) : a = b := by
  obtain ⟨i, rfl⟩ := Int.eq_ofNat_of_zero_le (show 0 ≤ a by omega)
  obtain ⟨j, rfl⟩ := Int.eq_ofNat_of_zero_le (show 0 ≤ b by omega)
  have := opw_inj ⟨i, by omega⟩ ⟨j, by omega⟩ (by simp; omega) (by simp; omega) h
  have := Fin.mk.inj_iff.1 this
  omega
theorem opOf_hit {op : Int} (h : 1 ≤ op ∧ op ≤ 9) : opOf (opw op) 9 = op := by
  have key : ∀ n : Nat, op ≤ n → n ≤ 9 → opOf (opw op) n = op := by
    intro n
    induction n with
    | zero => intro h1; omega
    | succ n ih =>
      intro h1 h2
      unfold opOf
      split
      · rename_i e; exact (opw_eq h (by omega) e).symm
      · rename_i e
        by_cases ho : op = (n : Int) + 1
        · exact absurd (by rw [ho]) e
        · exact ih (by omega) (by omega)
  exact key 9 h.2 (Nat.le_refl _)
theorem opw_mem : ∀ (i : Fin 10), ∀ x ∈ opw (i.val : Int), sp x = false := by decide +kernel
theorem opw_sp {op : Int} (h : 1 ≤ op ∧ op ≤ 9) : ∀ x ∈ opw op, sp x = false := by
  obtain ⟨i, rfl⟩ := Int.eq_ofNat_of_zero_le (show 0 ≤ op by omega)
  exact opw_mem ⟨i, by omega⟩
theorem name_sp {s : ByteArray} (h : isNameB s = true) : ∀ x ∈ s.data.toList, sp x = false := fun x hx => by
  unfold isNameB isNameL at h
  rw [Bool.and_eq_true, List.all_eq_true] at h
  have := h.1 x hx
  unfold sp
  rw [beq_eq_false_iff_ne]
  intro e; subst e; simp at this
/-- The text up to the first space, and what is behind it. -/
def headD (s : List UInt8) : List UInt8 := s.takeWhile fun c => !sp c
def restDf (s : List UInt8) : List UInt8 := s.drop ((headD s).length + 1)
def hasSp (s : List UInt8) : Bool := s.any sp
theorem head_at32 {a r : List UInt8} (h : ∀ x ∈ a, sp x = false) : headD (a ++ 32 :: r) = a ∧ restDf (a ++ 32 :: r) = r ∧ hasSp (a ++ 32 :: r) = true := by
  have e : headD (a ++ 32 :: r) = a := by
    unfold headD
    rw [List.takeWhile_append_of_pos (fun x hx => by rw [h x hx]; rfl)]
    simp [sp]
  refine ⟨e, ?_, ?_⟩
  · unfold restDf; rw [e]; simp
  · unfold hasSp; simp [sp]
theorem has_split {s : List UInt8} (h : hasSp s = true) : s = headD s ++ 32 :: restDf s := by
  induction s with
  | nil => simp [hasSp] at h
  | cons c s ih =>
    by_cases hc : sp c = true
    · have : c = 32 := by simpa [sp] using hc
      subst this
      simp [headD, restDf, sp]
    · have hs : hasSp s = true := by unfold hasSp at h ⊢; simpa [hc] using h
      have e : headD (c :: s) = c :: headD s := by unfold headD; simp [hc]
      unfold restDf
      rw [e]
      have := ih hs
      unfold restDf at this
      simpa using this
def wordsD (s : List UInt8) : List (List UInt8) := splitGo sp [] (restDf s)
def candD (s : List UInt8) : Dfn := match parM (restDf s) with
  | some m => ⟨bstr (headD s), 0, ⟨#[]⟩, ⟨#[]⟩, m⟩
  | none => ⟨bstr (headD s), opOf ((wordsD s).getD 0 []) 9, bstr ((wordsD s).getD 1 []), bstr ((wordsD s).getD 2 []), zeroM⟩
def parD (s : List UInt8) : Option Dfn := if hasSp s = true ∧ fmtD (candD s) = s then some (candD s) else none
theorem fmtD_ne {s : List UInt8} (h : hasSp s = true) {d : Dfn} (e : fmtD d = s) : isDefB d = true := by
  cases hd : isDefB d with
  | true => rfl
  | false => rw [fmtD_no hd] at e; subst e; simp [hasSp] at h
theorem parD_some {s : List UInt8} {d : Dfn} (h : parD s = some d) : isDefB d = true ∧ fmtD d = s ∧ hasSp s = true ∧ candD s = d := by
  unfold parD at h
  split at h
  · rename_i hh
    obtain rfl := Option.some.inj h
    exact ⟨fmtD_ne hh.1 hh.2, hh.2, hh.1, rfl⟩
  · cases h
/-- What is known of a candidate that is a definition, where the rest is no matrix. -/
theorem cand_words {s : List UInt8} (h : hasSp s = true) (hf : fmtD (candD s) = s) (hp : parM (restDf s) = none) :
    opOf ((wordsD s).getD 0 []) 9 ≠ 0 ∧ 2 ≤ (wordsD s).length ∧ (wordsD s).length ≤ 3 := by
  have hd := fmtD_ne h hf
  have hs := has_split h
  have hj := split_join (restDf s) []
  rw [List.nil_append] at hj
  have hw : wordsD s = splitGo sp [] (restDf s) := rfl
  rw [← hw] at hj
  have hc : candD s = ⟨bstr (headD s), opOf ((wordsD s).getD 0 []) 9, bstr ((wordsD s).getD 1 []), bstr ((wordsD s).getD 2 []), zeroM⟩ := by unfold candD; rw [hp]
  rw [hc] at hd hf
  have hdf := hd
  unfold fmtD at hf
  rw [if_pos hd] at hf
  simp only at hf
  have hcut : ∀ {x : List UInt8}, headD s ++ 32 :: x = s → x = restDf s := fun {x} e => by
    have e2 : headD s ++ 32 :: x = headD s ++ 32 :: restDf s := e.trans hs
    exact (List.cons.inj (List.append_cancel_left e2)).2
  by_cases h0 : opOf ((wordsD s).getD 0 []) 9 = 0
  · exfalso
    rw [if_pos h0] at hf
    have := hcut hf
    rw [← this] at hp
    rw [parM_iff.2 ⟨(by rfl : isMatB zeroM = true), rfl⟩] at hp
    cases hp
  · refine ⟨h0, ?_⟩
    rw [if_neg h0, ← opOf_word h0] at hf
    have hrest := hcut hf
    rw [← hj] at hrest
    unfold isDefB at hd
    rw [Bool.and_eq_true, Bool.and_eq_true] at hd
    have hd2 := hd.2.2
    simp only at hd2
    rw [if_neg h0] at hd2
    have hA : isNameB (bstr ((wordsD s).getD 1 [])) = true := by
      split at hd2
      · rw [Bool.and_eq_true] at hd2; exact hd2.1
      · rw [Bool.and_eq_true] at hd2; exact hd2.1
    have hA1 : (wordsD s).getD 1 [] ≠ [] := fun e => by
      have := ((isNameB_iff _).1 hA).2.1
      rw [e] at this
      have h0 : (bstr []).size = 0 := rfl
      omega
    match hww : wordsD s, hA1, hrest with
    | [], hA1, _ => simp at hA1
    | [x], hA1, _ => simp at hA1
    | [x, y], _, _ => simp
    | [x, y, z], _, _ => simp
    | x :: y :: z :: t :: r, _, hrest =>
      exfalso
      have := congrArg List.length hrest
      simp only [List.getD_cons_zero, List.getD_cons_succ, joinS, List.length_append, List.length_cons] at this
      have hz : (if (bstr z).toList.isEmpty = true then ([] : List UInt8) else 32 :: z).length ≤ z.length + 1 := by split <;> simp
      omega
theorem ba_empty {s : ByteArray} (h : s.toList.isEmpty = true) : s = ⟨#[]⟩ := by
  have := empty_size h
  apply ByteArray.ext
  exact Array.eq_empty_of_size_eq_zero this
theorem bstr_empty (l : List UInt8) : (bstr l).toList.isEmpty = l.isEmpty := by
  rw [toList_data]
/-- A definition's text is read back. -/
theorem parD_fmt {d : Dfn} (h : isDefB d = true) : parD (fmtD d) = some d := by
  have hd := h
  unfold isDefB at hd
  rw [Bool.and_eq_true, Bool.and_eq_true, decide_eq_true_eq] at hd
  obtain ⟨hn, hr, hv⟩ := hd
  have hnm := name_sp hn
  obtain ⟨nm, op, a, b, val⟩ := d
  simp only at hn hr hv hnm
  have key : candD (fmtD ⟨nm, op, a, b, val⟩) = ⟨nm, op, a, b, val⟩ ∧ hasSp (fmtD ⟨nm, op, a, b, val⟩) = true := by
    unfold fmtD
    rw [if_pos h]
    simp only
    by_cases h0 : op = 0
    · rw [if_pos h0] at hv ⊢
      rw [Bool.and_eq_true, Bool.and_eq_true] at hv
      obtain ⟨e1, e2, e3⟩ := head_at32 (r := fmtM val) hnm
      refine ⟨?_, e3⟩
      unfold candD
      rw [e2, parM_iff.2 ⟨hv.2.2, rfl⟩]
      simp only
      rw [e1, bstr_of, h0, ba_empty hv.1, ba_empty hv.2.1]
    · rw [if_neg h0] at hv ⊢
      have hop : 1 ≤ op ∧ op ≤ 9 := by omega
      obtain ⟨e1, e2, e3⟩ := head_at32 (r := opw op ++ (32 :: (a.data.toList ++ (if b.toList.isEmpty = true then [] else 32 :: b.data.toList)))) hnm
      refine ⟨?_, e3⟩
      have hzero : isNameB a = true ∧ zeroMB val = true ∧ (b.toList.isEmpty = true ∨ isNameB b = true) := by
        split at hv
        · simp only [Bool.and_eq_true] at hv; exact ⟨hv.1, hv.2.2, .inr hv.2.1⟩
        · simp only [Bool.and_eq_true] at hv; exact ⟨hv.1, hv.2.2, .inl hv.2.1⟩
      obtain ⟨ha, hz, hb⟩ := hzero
      have hval : val = zeroM := by
        unfold zeroMB at hz
        simp only [Bool.and_eq_true, decide_eq_true_eq] at hz
        obtain ⟨r, k, cs⟩ := val
        simp only at hz
        obtain ⟨rfl, rfl, h3⟩ := hz
        rw [List.length_eq_zero_iff.1 h3]; rfl
      have hw : splitGo sp [] (opw op ++ (32 :: (a.data.toList ++ (if b.toList.isEmpty = true then [] else 32 :: b.data.toList)))) = opw op :: a.data.toList :: (if b.toList.isEmpty = true then [] else [b.data.toList]) := by
        rw [splitGo_piece (by rfl) (opw_sp hop), List.nil_append]
        by_cases hbe : b.toList.isEmpty = true
        · rw [if_pos hbe, if_pos hbe, List.append_nil, splitGo_last (name_sp ha)]; rfl
        · rw [if_neg hbe, if_neg hbe, splitGo_piece (by rfl) (name_sp ha), List.nil_append, splitGo_last (name_sp (hb.resolve_left hbe))]; rfl
      have hpm : parM (opw op ++ (32 :: (a.data.toList ++ (if b.toList.isEmpty = true then [] else 32 :: b.data.toList)))) = none := parM_none fun m hm e => by
        obtain ⟨R, C, -, -, -, -, -, -⟩ := isMatB_shape hm
        rw [fmtM_yes hm] at e
        have h1 : ∀ x, (opw op).head? = some x → ¬ (x.toNat = 45 ∨ (48 ≤ x.toNat ∧ x.toNat ≤ 57)) := by
          have : ∀ i : Fin 10, ∀ x ∈ (opw (i.val : Int)).head?, ¬ (x.toNat = 45 ∨ (48 ≤ x.toNat ∧ x.toNat ≤ 57)) := by decide +kernel
          obtain ⟨i, rfl⟩ := Int.eq_ofNat_of_zero_le (show 0 ≤ op by omega)
          exact fun x hx => this ⟨i, by omega⟩ x hx
        have h2 : ∃ x, (opw op).head? = some x := by
          have : ∀ i : Fin 10, 1 ≤ i.val → ∃ x, (opw (i.val : Int)).head? = some x := by
            intro i hi
            match i, hi with
            | ⟨1, _⟩, _ | ⟨2, _⟩, _ | ⟨3, _⟩, _ | ⟨4, _⟩, _ | ⟨5, _⟩, _ | ⟨6, _⟩, _ | ⟨7, _⟩, _ | ⟨8, _⟩, _ | ⟨9, _⟩, _ => exact ⟨_, rfl⟩
          obtain ⟨i, rfl⟩ := Int.eq_ofNat_of_zero_le (show 0 ≤ op by omega)
          exact this ⟨i, by omega⟩ (by simp; omega)
        obtain ⟨x, hx⟩ := h2
        have h3 : ∃ y, (Lib.itoa m.rows).head? = some y := by
          cases hi : Lib.itoa m.rows with
          | nil => exact absurd hi (itoa_ne _)
          | cons y l => exact ⟨y, rfl⟩
        obtain ⟨y, hy⟩ := h3
        have e2 := congrArg List.head? e
        rw [List.head?_append, List.head?_append, hx, hy] at e2
        have e3 : y = x := Option.some.inj e2
        exact h1 x hx (itoa_mem (e3 ▸ List.mem_of_mem_head? hy))
      unfold candD wordsD
      rw [e2, hpm]
      simp only
      rw [e1, hw]
      simp only [List.getD_cons_zero, List.getD_cons_succ]
      rw [opOf_hit hop, bstr_of, bstr_of, hval]
      congr 1
      split
      · rename_i hbe; rw [ba_empty hbe]; rfl
      · exact bstr_of b
  unfold parD
  rw [key.1, if_pos ⟨key.2, rfl⟩]
def parDv (s : List UInt8) : Dfn := (parD s).getD zdef
def parDb (s : List UInt8) : Bool := (parD s).isSome
theorem parD_v {s : List UInt8} {m : Dfn} (h : parD s = some m) : parDv s = m ∧ parDb s = true := by unfold parDv parDb; rw [h]; exact ⟨rfl, rfl⟩
theorem parD_n {s : List UInt8} (h : parD s = none) : parDv s = zdef ∧ parDb s = false := by unfold parDv parDb; rw [h]; exact ⟨rfl, rfl⟩
end Go.Proofs.YtdnpdfokdibmdaaGreatDoor
