/-
  Definitions read back from their texts: the reference's ParseDef.
-/
import Derived.Test.YtdnpdfokdibmdaaGreatDoorZPrd
import Derived.Test.YtdnpdfokdibmdaaGreatDoorZPrmS
import Derived.Test.YtdnpdfokdibmdaaGreatDoorZFmtE
namespace Go.Proofs.YtdnpdfokdibmdaaGreatDoor
open Go.RowKit

theorem head_stop {L : List UInt8} {k : Nat} (h : ∀ x ∈ L.take k, sp x = false) (hk : L[k]? = some 32) : headD L = L.take k ∧ restDf L = L.drop (k + 1) ∧ hasSp L = true := by
  have hlt := (List.getElem?_eq_some_iff.1 hk).1
  have he : L = L.take k ++ 32 :: L.drop (k + 1) := by
    have : L[k] = 32 := (List.getElem?_eq_some_iff.1 hk).2
    rw [← this, ← List.drop_eq_getElem_cons hlt, List.take_append_drop]
  have := head_at32 (r := L.drop (k + 1)) h
  rw [← he] at this
  exact this
theorem no_sp {L : List UInt8} (h : ∀ x ∈ L, sp x = false) : hasSp L = false := by
  unfold hasSp
  rw [List.any_eq_false]
  intro x hx; rw [h x hx]; simp
theorem parD_no {L : List UInt8} (h : hasSp L = false) : parD L = none := by unfold parD; rw [if_neg (fun e => by rw [h] at e; cases e.1)]
theorem opOf_step {x : List UInt8} {i : Nat} (h : 1 ≤ i) : opOf x i = if x = opw (i : Int) then (i : Int) else opOf x (i - 1) := by
  obtain ⟨n, rfl⟩ : ∃ n, i = n + 1 := ⟨i - 1, by omega⟩
  simp only [opOf, Nat.add_sub_cancel]
  rfl
abbrev zdefA : Array Value := #[.string ⟨#[]⟩, .int .i64 0, .string ⟨#[]⟩, .string ⟨#[]⟩, .int .i64 0, .int .i64 0, .slice none 0 0]
theorem zdef_own {w : World} {F : Nat → Prop} : OD w F (.agg zdefA) zdef :=
  ⟨none, 0, 0, rfl, Own.nilw, (fun x hx => by simp [zdef] at hx), (fun g h => by cases h), ⟨Nat.zero_le _, ⟨by decide, by decide⟩, Nat.zero_le _, Nat.zero_le _, ⟨by decide, by decide⟩, ⟨by decide, by decide⟩⟩⟩

theorem getD_none {ps : List (List UInt8)} {k : Nat} (h : ps.length ≤ k) : ps.getD k [] = [] := by rw [List.getD_eq_getElem?_getD, List.getElem?_eq_none h]; rfl
theorem dok_words {n : ByteArray} {op : Int} {A B : List UInt8} (hn : n.size ≤ maxLen) (ho : 0 ≤ op ∧ op ≤ 9) (ha : A.length ≤ maxLen) (hb : B.length ≤ maxLen) : DOk ⟨n, op, bstr A, bstr B, zeroM⟩ :=
  ⟨hn, ⟨by show _ ≤ op; omega, by show op ≤ _; omega⟩, by show (bstr A).size ≤ _; rw [bstr_size]; exact ha, by show (bstr B).size ≤ _; rw [bstr_size]; exact hb, ⟨by show _ ≤ (0 : Int); decide, by show (0 : Int) ≤ _; decide⟩, ⟨by show _ ≤ (0 : Int); decide, by show (0 : Int) ≤ _; decide⟩⟩

end Go.Proofs.YtdnpdfokdibmdaaGreatDoor
