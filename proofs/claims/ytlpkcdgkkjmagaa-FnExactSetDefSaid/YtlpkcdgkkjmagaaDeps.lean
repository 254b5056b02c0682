/-
  DependentsOf: plain part.
-/
import Derived.Test.YtlpkcdgkkjmagaaSheet
import Derived.Test.YtlpkcdgkkjmagaaStr
namespace Go.Proofs.Ytlpkcdgkkjmagaa
open Go.RowKit

/-- Does the definition name x? -/
def needsB (d : Dfn) (x : ByteArray) : Bool := decide (d.a = x) || decide (d.b = x)
def inSS (out : List ByteArray) (x : ByteArray) : Bool := out.any fun s => decide (s = x)
theorem inSS_iff {out : List ByteArray} {x : ByteArray} : inSS out x = true ↔ x ∈ out := by
  unfold inSS
  rw [List.any_eq_true]
  exact ⟨fun ⟨s, hs, h⟩ => by rw [decide_eq_true_eq] at h; rw [← h]; exact hs, fun h => ⟨x, h, by simp⟩⟩
def depStep (x : ByteArray) (out : List ByteArray) (d : Dfn) : List ByteArray := if needsB d x && !inSS out d.name then out ++ [d.name] else out
def depTo (l : List Dfn) (x : ByteArray) (out : List ByteArray) (k : Nat) : List ByteArray := (l.take k).foldl (depStep x) out
def depRound (l : List Dfn) (out : List ByteArray) (i : Nat) : List ByteArray := match out[i]? with
  | some x => l.foldl (depStep x) out
  | none => out
def depAt (l : List Dfn) (name : ByteArray) : Nat → List ByteArray
  | 0 => [name]
  | i + 1 => depRound l (depAt l name i) i
def depOut (l : List Dfn) (name : ByteArray) : List ByteArray := if sheetB l && decide (0 ≤ findName l name) then depAt l name l.length else []

/-- What holds of the names that have been collected. -/
def DepOk (l : List Dfn) (out : List ByteArray) : Prop := out.Nodup ∧ ∀ s ∈ out, s ∈ l.map (·.name)
theorem DepOk.len {l : List Dfn} {out : List ByteArray} (h : DepOk l out) : out.length ≤ l.length := by
  have := nodup_le h.1 h.2; simpa using this
theorem depStep_ok {l : List Dfn} {x : ByteArray} {out : List ByteArray} {d : Dfn} (h : DepOk l out) (hd : d ∈ l) : DepOk l (depStep x out d) := by
  unfold depStep
  split
  · rename_i hc
    rw [Bool.and_eq_true, Bool.not_eq_true', Bool.eq_false_iff, ne_eq, inSS_iff] at hc
    refine ⟨List.nodup_append.2 ⟨h.1, by simp, ?_⟩, fun s hs => ?_⟩
    · intro a ha b hb e
      rw [List.mem_singleton] at hb
      subst hb; subst e
      exact hc.2 ha
    · rw [List.mem_append, List.mem_singleton] at hs
      rcases hs with hs | rfl
      · exact h.2 s hs
      · exact List.mem_map.2 ⟨d, hd, rfl⟩
  · exact h
theorem depStep_pre {x : ByteArray} {out : List ByteArray} {d : Dfn} : ∃ r, depStep x out d = out ++ r := by
  unfold depStep
  split
  · exact ⟨_, rfl⟩
  · exact ⟨[], by simp⟩
theorem foldl_ok {l : List Dfn} {x : ByteArray} : ∀ (r : List Dfn) {out : List ByteArray}, DepOk l out → (∀ d ∈ r, d ∈ l) → DepOk l (r.foldl (depStep x) out)
  | [], _, h, _ => h
  | d :: r, out, h, hr => foldl_ok r (depStep_ok h (hr d (by simp))) fun d hd => hr d (by simp [hd])
theorem foldl_pre {x : ByteArray} : ∀ (r : List Dfn) (out : List ByteArray), ∃ q, r.foldl (depStep x) out = out ++ q
  | [], out => ⟨[], by simp⟩
  | d :: r, out => by
    obtain ⟨q, hq⟩ := depStep_pre (x := x) (out := out) (d := d)
    obtain ⟨q', hq'⟩ := foldl_pre (x := x) r (depStep x out d)
    exact ⟨q ++ q', by rw [List.foldl_cons, hq', hq, List.append_assoc]⟩
theorem depTo_ok {l : List Dfn} {x : ByteArray} {out : List ByteArray} (h : DepOk l out) (k : Nat) : DepOk l (depTo l x out k) := foldl_ok _ h fun _ hd => List.mem_of_mem_take hd
theorem depTo_pre (l : List Dfn) (x : ByteArray) (out : List ByteArray) (k : Nat) : ∃ q, depTo l x out k = out ++ q := foldl_pre _ _
theorem depTo_zero (l : List Dfn) (x : ByteArray) (out : List ByteArray) : depTo l x out 0 = out := rfl
theorem depTo_succ {l : List Dfn} {x : ByteArray} {out : List ByteArray} {k : Nat} {d : Dfn} (h : l[k]? = some d) : depTo l x out (k + 1) = depStep x (depTo l x out k) d := by
  unfold depTo; rw [take_succ h, List.foldl_append]; rfl
theorem depTo_all {l : List Dfn} {x : ByteArray} {out : List ByteArray} {i : Nat} (hx : out[i]? = some x) : depTo l x out l.length = depRound l out i := by
  unfold depTo depRound; rw [hx, List.take_length]
theorem depTo_at {l : List Dfn} {x y : ByteArray} {out : List ByteArray} {i : Nat} (k : Nat) (hx : out[i]? = some y) : (depTo l x out k)[i]? = some y := by
  obtain ⟨q, hq⟩ := depTo_pre l x out k
  rw [hq, List.getElem?_append_left (List.getElem?_eq_some_iff.1 hx).1, hx]
theorem depAt_ok {l : List Dfn} {name : ByteArray} (h : 0 ≤ findName l name) : ∀ i, DepOk l (depAt l name i)
  | 0 => by
    refine ⟨by simp [depAt], fun s hs => ?_⟩
    simp only [depAt, List.mem_singleton] at hs
    subst hs
    unfold findName at h
    rw [firstIdx_mem, List.any_eq_true] at h
    obtain ⟨d, hd, he⟩ := h
    rw [strEq, decide_eq_true_eq] at he
    exact List.mem_map.2 ⟨d, hd, he⟩
  | i + 1 => by
    have ih := depAt_ok h i
    simp only [depAt, depRound]
    split
    · exact foldl_ok l ih fun _ h => h
    · exact ih
theorem depAt_end {l : List Dfn} {name : ByteArray} {i : Nat} (hi : (depAt l name i).length ≤ i) : ∀ j, depAt l name (i + j) = depAt l name i
  | 0 => rfl
  | j + 1 => by
    rw [show i + (j + 1) = (i + j) + 1 from rfl]
    simp only [depAt, depRound]
    rw [depAt_end hi j, List.getElem?_eq_none (by omega)]
/-- At the loop's end nothing is left. -/
theorem depOut_end {l : List Dfn} {name : ByteArray} {i : Nat} (hs : sheetB l = true) (hn : 0 ≤ findName l name) (hi : (depAt l name i).length ≤ i) (hil : i ≤ l.length) : depAt l name i = depOut l name := by
  unfold depOut
  rw [hs, decide_eq_true hn]
  have := depAt_end hi (l.length - i)
  rw [show i + (l.length - i) = l.length from by omega] at this
  exact this.symm
theorem depOut_no {l : List Dfn} {name : ByteArray} (h : (sheetB l && decide (0 ≤ findName l name)) = false) : depOut l name = [] := by unfold depOut; rw [h]; rfl
/-- A definition that is none of values names nothing empty. -/
theorem needs_op {d : Dfn} {x : ByteArray} (h : isDefB d = true) (hx : 1 ≤ x.size) : (!decide (d.op = 0) && needsB d x) = needsB d x := by
  by_cases h0 : d.op = 0
  · have : needsB d x = false := by
      unfold isDefB at h
      rw [if_pos h0, strEmpty, strEmpty] at h
      simp only [Bool.and_eq_true, decide_eq_true_eq] at h
      unfold needsB
      rw [decide_eq_false (fun e => by rw [← e] at hx; omega), decide_eq_false (fun e => by rw [← e] at hx; omega)]; rfl
    rw [this]; simp
  · rw [decide_eq_false h0]; rfl
theorem sheet_def {l : List Dfn} {d : Dfn} (h : sheetB l = true) (hd : d ∈ l) : isDefB d = true := by
  unfold sheetB at h
  rw [Bool.and_eq_true, List.all_eq_true] at h
  obtain ⟨k, hk, he⟩ := List.mem_iff_getElem.1 hd
  have := h.1 k (List.mem_range.2 hk)
  unfold defGood at this
  rw [List.getElem?_eq_getElem hk, he, Bool.and_eq_true] at this
  exact this.1
theorem def_name {d : Dfn} (h : isDefB d = true) : 1 ≤ d.name.size := by
  unfold isDefB at h
  rw [Bool.and_eq_true] at h
  exact ((isNameB_iff _).1 h.1).2.1
theorem dep_name {l : List Dfn} {out : List ByteArray} {x : ByteArray} {i : Nat} (hs : sheetB l = true) (h : DepOk l out) (hx : out[i]? = some x) : 1 ≤ x.size := by
  obtain ⟨d, hd, rfl⟩ := List.mem_map.1 (h.2 x (List.mem_of_getElem? hx))
  exact def_name (sheet_def hs hd)
theorem sheet_len {l : List Dfn} (h : sheetB l = true) : l.length ≤ 12 := by
  unfold sheetB at h; rw [Bool.and_eq_true, decide_eq_true_eq] at h; exact h.2
end Go.Proofs.Ytlpkcdgkkjmagaa
