/-
  A text cut at some bytes: the plain function and the reference's way.
-/
import Derived.Test.YtdnpdfokdibmdaaGreatDoorZFmtN
import Derived.Test.YtdnpdfokdibmdaaGreatDoorZStrs
import Derived.BigQuiet
namespace Go.Proofs.YtdnpdfokdibmdaaGreatDoor
open Go.RowKit

def splitGo (p : UInt8 → Bool) (cur : List UInt8) : List UInt8 → List (List UInt8)
  | [] => [cur]
  | c :: r => if p c = true then cur :: splitGo p [] r else splitGo p (cur ++ [c]) r
theorem splitGo_len (p : UInt8 → Bool) : ∀ (l cur : List UInt8), (splitGo p cur l).length ≤ l.length + 1 ∧ 1 ≤ (splitGo p cur l).length
  | [], cur => by simp [splitGo]
  | c :: r, cur => by
    unfold splitGo
    split
    · have := splitGo_len p r []; simp; omega
    · have := splitGo_len p r (cur ++ [c]); simp; omega
/-- A piece without a mark, then a mark. -/
theorem splitGo_piece {p : UInt8 → Bool} {c : UInt8} {r : List UInt8} (hc : p c = true) : ∀ {a cur : List UInt8}, (∀ x ∈ a, p x = false) → splitGo p cur (a ++ c :: r) = (cur ++ a) :: splitGo p [] r
  | [], cur, _ => by simp [splitGo, hc]
  | x :: a, cur, h => by
    have hx := h x (by simp)
    simp only [List.cons_append, splitGo, hx]
    rw [if_neg (by simp), splitGo_piece hc (a := a) (cur := cur ++ [x]) fun y hy => h y (by simp [hy])]
    simp
theorem splitGo_last {p : UInt8 → Bool} : ∀ {a cur : List UInt8}, (∀ x ∈ a, p x = false) → splitGo p cur a = [cur ++ a]
  | [], cur, _ => by simp [splitGo]
  | x :: a, cur, h => by
    have hx := h x (by simp)
    simp only [splitGo, hx]
    rw [if_neg (by simp), splitGo_last (a := a) (cur := cur ++ [x]) fun y hy => h y (by simp [hy])]
    simp
/-- What the pieces are made of. -/
theorem splitGo_bytes {p : UInt8 → Bool} : ∀ {l cur : List UInt8} {x : List UInt8}, x ∈ splitGo p cur l → x.length ≤ cur.length + l.length
  | [], cur, x, h => by simp [splitGo] at h; subst h; simp
  | c :: r, cur, x, h => by
    unfold splitGo at h
    split at h
    · rcases List.mem_cons.1 h with rfl | h
      · simp
      · have := splitGo_bytes h; simp at *; omega
    · have := splitGo_bytes h; simp at *; omega
def hitB (L M : List UInt8) (i k : Nat) : Bool := decide (i = L.length) || (M.take k).any fun m => L[i]? == some m
theorem hit_end {L M : List UInt8} {k : Nat} : hitB L M L.length k = true := by unfold hitB; simp
theorem hit_zero {L M : List UInt8} {i : Nat} (h : i ≠ L.length) : hitB L M i 0 = false := by unfold hitB; simp [h]
theorem hit_succ {L M : List UInt8} {i k : Nat} {m : UInt8} (h : M[k]? = some m) : hitB L M i (k + 1) = (hitB L M i k || (L[i]? == some m)) := by
  unfold hitB
  rw [take_succ h, List.any_append]
  simp [Bool.or_assoc]
theorem hit_all {L M : List UInt8} {i : Nat} {c : UInt8} (hc : L[i]? = some c) : hitB L M i M.length = M.contains c := by
  have hi : i ≠ L.length := by have := (List.getElem?_eq_some_iff.1 hc).1; omega
  unfold hitB
  rw [List.take_length, hc, List.contains_eq_any_beq]
  simp only [hi, decide_false, Bool.false_or]
  congr 1
/-- How far the cutting has come. -/
def CutTo (p : UInt8 → Bool) (L : List UInt8) (i from_ : Nat) (out : List (List UInt8)) : Prop :=
  splitGo p [] L = out ++ (if i ≤ L.length then splitGo p ((L.take i).drop from_) (L.drop i) else [])
theorem cut_go {p : UInt8 → Bool} {L : List UInt8} {i f : Nat} {out : List (List UInt8)} {c : UInt8} (h : CutTo p L i f out) (hc : L[i]? = some c) (hf : f ≤ i) (hp : p c = false) : CutTo p L (i + 1) f out := by
  have hi := (List.getElem?_eq_some_iff.1 hc).1
  unfold CutTo at *
  rw [if_pos (by omega)] at h ⊢
  rw [h, List.drop_eq_getElem_cons hi, splitGo]
  have : L[i] = c := by have := (List.getElem?_eq_some_iff.1 hc).2; exact this
  rw [this, if_neg (by rw [hp]; simp), take_succ hc, List.drop_append_of_le_length (by simp; omega)]
theorem cut_hit {p : UInt8 → Bool} {L : List UInt8} {i f : Nat} {out : List (List UInt8)} {c : UInt8} (h : CutTo p L i f out) (hc : L[i]? = some c) (hp : p c = true) : CutTo p L (i + 1) (i + 1) (out ++ [(L.take i).drop f]) := by
  have hi := (List.getElem?_eq_some_iff.1 hc).1
  unfold CutTo at *
  rw [if_pos (by omega)] at h ⊢
  rw [h, List.drop_eq_getElem_cons hi, splitGo]
  have : L[i] = c := by have := (List.getElem?_eq_some_iff.1 hc).2; exact this
  rw [this, if_pos hp, List.drop_of_length_le (show (L.take (i + 1)).length ≤ i + 1 by simp; omega)]
  simp
theorem cut_end {p : UInt8 → Bool} {L : List UInt8} {f : Nat} {out : List (List UInt8)} (h : CutTo p L L.length f out) : CutTo p L (L.length + 1) (L.length + 1) (out ++ [(L.take L.length).drop f]) := by
  unfold CutTo at *
  rw [if_pos (Nat.le_refl _), List.drop_length] at h
  rw [if_neg (by omega), h, splitGo]; simp
theorem extract_bstr (s : ByteArray) (a b : Nat) : s.extract a b = bstr ((s.data.toList.take b).drop a) := by
  apply ByteArray.ext
  show (s.extract a b).data = ((s.data.toList.take b).drop a).toArray
  rw [ByteArray.data_extract]
  apply Array.ext'
  simp [Array.toList_extract, List.drop_take]
end Go.Proofs.YtdnpdfokdibmdaaGreatDoor
