/-
  How large a definition is that was read back from a text.
-/
import Derived.Test.YtdnpdfokdibmdaaGreatDoorZPrd
namespace Go.Proofs.YtdnpdfokdibmdaaGreatDoor
open Go.RowKit
theorem headD_len (s : List UInt8) : (headD s).length ≤ s.length := by unfold headD; exact (List.takeWhile_sublist _).length_le
theorem parD_bd (s : List UInt8) : bdD (parDv s) ≤ s.length + 576 := by
  cases h : parD s with
  | none => rw [(parD_n h).1]; unfold bdD zdef; have h0 : (⟨#[]⟩ : ByteArray).size = 0 := rfl; simp only [List.length_nil]; omega
  | some d =>
    rw [(parD_v h).1]
    obtain ⟨hd, hf, hs, hc⟩ := parD_some h
    cases hp : parM (restDf s) with
    | some m =>
      unfold candD at hc
      rw [hp] at hc
      simp only at hc
      subst hc
      obtain ⟨R, C, hR, hC, hR24, hC24, hln, -⟩ := isMatB_shape (parM_iff.1 hp).1
      have : R * C ≤ 24 * 24 := Nat.mul_le_mul hR24 hC24
      have h1 := headD_len s
      have h2 := bstr_size (headD s)
      unfold bdD
      simp only
      have h0 : (⟨#[]⟩ : ByteArray).size = 0 := rfl
      omega
    | none =>
      have hw := cand_words hs (hc ▸ hf) hp
      unfold candD at hc
      rw [hp] at hc
      simp only at hc
      have hd' := hd
      rw [← hc] at hf hd'
      unfold fmtD at hf
      rw [if_pos hd'] at hf
      simp only at hf
      rw [if_neg hw.1] at hf
      have hl : (headD s ++ 32 :: (opw (opOf ((wordsD s).getD 0 []) 9) ++ 32 :: ((wordsD s).getD 1 [] ++ if (bstr ((wordsD s).getD 2 [])).toList.isEmpty = true then [] else 32 :: (wordsD s).getD 2 []))).length = s.length := congrArg List.length hf
      simp only [List.length_append, List.length_cons] at hl
      rw [← hc]
      unfold bdD
      simp only
      have h1 := bstr_size (headD s)
      have h2 := bstr_size ((wordsD s).getD 1 [])
      have h3 := bstr_size ((wordsD s).getD 2 [])
      have h4 : ((wordsD s).getD 2 []).length ≤ (if (bstr ((wordsD s).getD 2 [])).toList.isEmpty = true then ([] : List UInt8) else 32 :: (wordsD s).getD 2 []).length := by
        split
        · rename_i he
          rw [bstr_empty] at he
          simp at he
          simp [he]
        · simp
      have h7 : zeroM.cells.length = 0 := rfl
      omega
end Go.Proofs.YtdnpdfokdibmdaaGreatDoor
