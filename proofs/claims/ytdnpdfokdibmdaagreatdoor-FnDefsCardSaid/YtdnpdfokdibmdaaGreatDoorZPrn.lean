/-
  Matrices read back from their texts, the program's way: the plain laws.
-/
import Derived.Test.YtdnpdfokdibmdaaGreatDoorZPrm
import Derived.Lib.FieldsP
import Derived.Lib.IndexMore
import Derived.Lib.Strings
import Derived.Laws.RangeString
namespace Go.Proofs.YtdnpdfokdibmdaaGreatDoor
open Go.RowKit

theorem index_skip {c : UInt8} : ∀ {a r : List UInt8}, (∀ x ∈ a, x ≠ c) → Lib.index (a ++ c :: r) [c] = (a.length : Int)
  | [], r, _ => by
    have e : [c].isPrefixOf (c :: r) = true := by simp [List.isPrefixOf]
    simp only [List.nil_append, Lib.index, e, if_true]; rfl
  | b :: a, r, h => by
    have hb : [c].isPrefixOf (b :: (a ++ c :: r)) = false := by
      simp only [List.isPrefixOf, Bool.and_true]
      exact beq_eq_false_iff_ne.2 fun e => h b (by simp) e.symm
    have ih := index_skip (r := r) fun x hx => h x (List.mem_cons_of_mem b hx)
    simp only [List.cons_append, Lib.index, hb, ih]
    rw [if_neg (by simp), if_neg (by simp)]
    simp
theorem index_miss {c : UInt8} : ∀ {a : List UInt8}, (∀ x ∈ a, x ≠ c) → Lib.index a [c] = -1
  | [], _ => by simp [Lib.index]
  | b :: a, h => by
    have hb : [c].isPrefixOf (b :: a) = false := by
      simp only [List.isPrefixOf, Bool.and_true]
      exact beq_eq_false_iff_ne.2 fun e => h b (by simp) e.symm
    have ih := index_miss fun x hx => h x (List.mem_cons_of_mem b hx)
    simp only [Lib.index, hb, ih]
    simp
theorem cut_at {c : UInt8} {a r : List UInt8} (h : ∀ x ∈ a, x ≠ c) : Lib.cut (a ++ c :: r) [c] = (a, r, true) := by
  unfold Lib.cut
  rw [index_skip h, if_pos (by omega)]
  have : ((a.length : Int)).toNat = a.length := by omega
  rw [this]
  simp
theorem cut_no {c : UInt8} {a : List UInt8} (h : ∀ x ∈ a, x ≠ c) : Lib.cut a [c] = (a, [], false) := by
  unfold Lib.cut
  rw [index_miss h, if_neg (by omega)]
theorem cut_len (s sep : List UInt8) : (Lib.cut s sep).1.length ≤ s.length ∧ (Lib.cut s sep).2.1.length ≤ s.length := by
  unfold Lib.cut
  split
  · simp; omega
  · simp

/-- The pieces that are not empty. -/
def fld (q : UInt8 → Bool) (cur : List UInt8) : List UInt8 → List (List UInt8)
  | [] => if cur = [] then [] else [cur]
  | c :: r => if q c = true then (if cur = [] then fld q [] r else cur :: fld q [] r) else fld q (cur ++ [c]) r
theorem fld_in {q : UInt8 → Bool} {r : List UInt8} : ∀ {a cur : List UInt8}, (∀ x ∈ a, q x = false) → fld q cur (a ++ r) = fld q (cur ++ a) r
  | [], cur, _ => by simp
  | x :: a, cur, h => by
    have hx := h x (by simp)
    simp only [List.cons_append, fld, hx]
    rw [if_neg (by simp), fld_in (a := a) fun y hy => h y (by simp [hy])]
    simp
def fq (c : UInt8) : Bool := c == 32 || c == 59
theorem fq_itoa {n : Int} : ∀ x ∈ Lib.itoa n, fq x = false := fun x hx => by
  have := itoa_mem hx
  unfold fq
  rw [Bool.eq_false_iff]
  intro e
  simp only [Bool.or_eq_true, beq_iff_eq] at e
  rcases e with rfl | rfl <;> simp at this
theorem fld_cells {C : Nat} : ∀ {l : List Int} {k : Nat} {cur : List UInt8}, 0 < k → cur ≠ [] → fld fq cur (cellsT C k l) = cur :: l.map Lib.itoa
  | [], k, cur, _, hc => by simp [cellsT, fld, hc]
  | x :: l, k, cur, hk, hc => by
    have ih := fld_cells (C := C) (l := l) (k := k + 1) (cur := Lib.itoa x) (by omega) (itoa_ne x)
    have e : ∀ c : UInt8, fq c = true → fld fq cur (c :: (Lib.itoa x ++ cellsT C (k + 1) l)) = cur :: (x :: l).map Lib.itoa := fun c hc0 => by
      simp only [fld]
      rw [if_pos hc0, if_neg hc, fld_in fq_itoa, List.nil_append, ih]; rfl
    simp only [cellsT]
    by_cases hm : k % C = 0
    · rw [if_pos ⟨hk, hm⟩]; exact e 59 rfl
    · rw [if_neg (fun e => hm e.2), if_pos hk]; exact e 32 rfl
theorem fld_cells0 {C : Nat} (l : List Int) : fld fq [] (cellsT C 0 l) = l.map Lib.itoa := by
  cases l with
  | nil => rfl
  | cons x l =>
    simp only [cellsT]
    rw [if_neg (fun e => by omega), if_neg (by omega)]
    simp only [List.nil_append]
    rw [fld_in fq_itoa, List.nil_append, fld_cells (by omega) (itoa_ne x)]; rfl
/-- What the library's FieldsFunc gives of a text of ASCII letters. -/
def rq (r : Nat) : Bool := r == 32 || r == 59
theorem rq_byte (c : UInt8) : rq c.toNat = fq c := by
  unfold rq fq
  rw [Bool.eq_iff_iff]
  simp only [Bool.or_eq_true, beq_iff_eq]
  constructor
  · rintro (h | h)
    · exact .inl (UInt8.toNat_inj.1 h)
    · exact .inr (UInt8.toNat_inj.1 h)
  · rintro (rfl | rfl) <;> simp
def curOf (L : List UInt8) (pos : Nat) : Option Nat → List UInt8
  | none => []
  | some a => (L.take pos).drop a
theorem fields_ascii (s : ByteArray) (ha : ∀ x ∈ s.data.toList, x.toNat < 128) : ∀ (f pos : Nat) (st : Option Nat) (acc : List (Nat × Nat)), s.size ≤ pos + f → pos ≤ s.size → (∀ a, st = some a → a < pos) →
    (Lib.closeSpans s (Lib.spansFromP rq s f pos st acc)).map (fun x => (s.data.toList.take x.2).drop x.1) = acc.map (fun x => (s.data.toList.take x.2).drop x.1) ++ fld fq (curOf s.data.toList pos st) (s.data.toList.drop pos)
  | f, pos, st, acc, hf, hp, hst => by
    have hlen : s.data.toList.length = s.size := by rw [Array.length_toList]; rfl
    by_cases hlt : pos < s.size
    · match f, hf with
      | 0, hf => omega
      | f + 1, hf =>
        have hlt' : pos < s.data.toList.length := by rw [hlen]; exact hlt
        have hget : s.data.toList[pos] = s[pos] := by simp; rfl
        have hasc : (s[pos]).toNat < 128 := by rw [← hget]; exact ha _ (List.getElem_mem hlt')
        have hdec := decode_ascii s pos hlt hasc
        have hdrop : s.data.toList.drop pos = s[pos] :: s.data.toList.drop (pos + 1) := by rw [List.drop_eq_getElem_cons hlt', hget]
        have hcs : s.data.toList[pos]? = some s[pos] := by rw [List.getElem?_eq_getElem hlt', hget]
        simp only [Lib.spansFromP, hlt, if_true, hdec, rq_byte]
        rw [hdrop]
        by_cases hq : fq s[pos] = true
        · rw [if_pos hq]
          cases st with
          | none =>
            simp only
            rw [fields_ascii s ha f (pos + 1) none acc (by omega) (by omega) (fun a e => by cases e)]
            simp only [fld, curOf, hq]
            simp
          | some a =>
            have hap := hst a rfl
            have hne : curOf s.data.toList pos (some a) ≠ [] := by
              unfold curOf
              intro e
              have := congrArg List.length e
              simp at this; omega
            simp only
            rw [fields_ascii s ha f (pos + 1) none (acc ++ [(a, pos)]) (by omega) (by omega) (fun a e => by cases e)]
            simp only [fld, hq, if_true, if_neg hne]
            simp [curOf]
        · rw [if_neg hq]
          cases st with
          | none =>
            simp only
            rw [fields_ascii s ha f (pos + 1) (some pos) acc (by omega) (by omega) (fun a e => by cases e; omega)]
            simp only [fld, hq]
            have : curOf s.data.toList (pos + 1) (some pos) = curOf s.data.toList pos none ++ [s[pos]] := by
              show (s.data.toList.take (pos + 1)).drop pos = [] ++ [s[pos]]
              rw [take_succ hcs, List.drop_append_of_le_length (by simp; omega), List.drop_of_length_le (by simp; omega)]
            rw [this]; simp
          | some a =>
            have hap := hst a rfl
            simp only
            rw [fields_ascii s ha f (pos + 1) (some a) acc (by omega) (by omega) (fun b e => by cases e; omega)]
            simp only [fld, hq]
            have : curOf s.data.toList (pos + 1) (some a) = curOf s.data.toList pos (some a) ++ [s[pos]] := by
              show (s.data.toList.take (pos + 1)).drop a = (s.data.toList.take pos).drop a ++ [s[pos]]
              rw [take_succ hcs, List.drop_append_of_le_length (by simp; omega)]
            rw [this]; simp
    · have hpe : pos = s.size := by omega
      subst hpe
      rw [Lib.spansFromP_end _ _ _ _ _ _ (by omega), List.drop_of_length_le (by omega)]
      cases st with
      | none => simp [Lib.closeSpans, fld, curOf]
      | some a =>
        have hap := hst a rfl
        have hne : curOf s.data.toList s.size (some a) ≠ [] := by
          unfold curOf
          intro e
          have := congrArg List.length e
          simp at this; omega
        simp only [Lib.closeSpans, fld, if_neg hne, List.map_append, List.map_cons, List.map_nil]
        rfl
theorem goFields_ascii (s : ByteArray) (ha : ∀ x ∈ s.data.toList, x.toNat < 128) : Lib.goFieldsP rq s = (fld fq [] s.data.toList).map bstr := by
  have h := fields_ascii s ha s.size 0 none [] (by omega) (by omega) (fun a e => by cases e)
  simp only [List.map_nil, List.nil_append, curOf, List.drop_zero] at h
  unfold Lib.goFieldsP Lib.spansOfP
  rw [← h, List.map_map]
  refine List.map_congr_left fun x _ => ?_
  exact extract_bstr s x.1 x.2
theorem goFields_size {p : Nat → Bool} {s x : ByteArray} (h : x ∈ Lib.goFieldsP p s) : x.size ≤ s.size := by
  unfold Lib.goFieldsP at h
  obtain ⟨y, -, rfl⟩ := List.mem_map.1 h
  rw [ByteArray.size_extract]; omega
theorem spans_len (p : Nat → Bool) (s : ByteArray) : ∀ (f pos : Nat) (st : Option Nat) (acc : List (Nat × Nat)), (Lib.spansFromP p s f pos st acc).1.length ≤ acc.length + f
  | 0, _, _, acc => by simp [Lib.spansFromP]
  | f + 1, pos, st, acc => by
    unfold Lib.spansFromP
    split
    · split
      · split
        · have := spans_len p s f (pos + (Utf8.decode s pos).2) none (acc ++ [(‹Nat›, pos)]); simp at this ⊢; omega
        · have := spans_len p s f (pos + (Utf8.decode s pos).2) none acc; omega
      · split
        · have := spans_len p s f (pos + (Utf8.decode s pos).2) (some ‹Nat›) acc; omega
        · have := spans_len p s f (pos + (Utf8.decode s pos).2) (some pos) acc; omega
    · simp
theorem goFields_len (p : Nat → Bool) (s : ByteArray) : (Lib.goFieldsP p s).length ≤ s.size + 1 := by
  unfold Lib.goFieldsP Lib.spansOfP
  rw [List.length_map]
  have h := spans_len p s s.size 0 none []
  unfold Lib.closeSpans
  split
  · simp at h ⊢; omega
  · simp at h ⊢; omega
theorem cellsT_mem {C : Nat} : ∀ {l : List Int} {k : Nat} {b : UInt8}, b ∈ cellsT C k l → b.toNat < 128 ∧ b ≠ 91
  | [], _, _, h => by simp [cellsT] at h
  | x :: l, k, b, h => by
    simp only [cellsT, List.mem_append] at h
    rcases h with h | h | h
    · split at h
      · simp only [List.mem_singleton] at h; subst h; decide
      · split at h
        · simp only [List.mem_singleton] at h; subst h; decide
        · simp at h
    · have := itoa_mem h
      refine ⟨by omega, fun e => ?_⟩
      subst e; simp at this
    · exact cellsT_mem h
/-- What the program finds in a matrix's text. -/
theorem fmt_cuts {R C : Nat} {cells : List Int} (h : isMatB ⟨R, C, cells⟩ = true) :
    Lib.cut (fmtM ⟨R, C, cells⟩) [91] = (Lib.itoa R ++ 120 :: Lib.itoa C, cellsT C 0 cells ++ [93], true) ∧ Lib.cut (Lib.itoa R ++ 120 :: Lib.itoa C) [120] = (Lib.itoa R, Lib.itoa C, true) := by
  have hi : ∀ (n : Int) (c : UInt8), (c = 91 ∨ c = 120) → ∀ x ∈ Lib.itoa n, x ≠ c := fun n c hc x hx e => by
    have := itoa_mem hx
    subst e
    rcases hc with rfl | rfl <;> simp at this
  refine ⟨?_, cut_at (hi _ _ (.inr rfl))⟩
  rw [fmtM_head h]
  have e : headM R C ++ cellsT C 0 cells ++ [93] = (Lib.itoa R ++ 120 :: Lib.itoa C) ++ 91 :: (cellsT C 0 cells ++ [93]) := by simp [headM]
  rw [e]
  refine cut_at fun x hx => ?_
  rcases List.mem_append.1 hx with hx | hx
  · exact hi _ _ (.inl rfl) x hx
  · rcases List.mem_cons.1 hx with rfl | hx
    · decide
    · exact hi _ _ (.inl rfl) x hx
end Go.Proofs.YtdnpdfokdibmdaaGreatDoor
