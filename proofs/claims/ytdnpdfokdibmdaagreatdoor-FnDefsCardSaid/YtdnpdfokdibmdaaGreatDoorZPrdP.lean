/-
  Definitions read back from their texts: the program's ways of cutting, plain.
-/
import Derived.Test.YtdnpdfokdibmdaaGreatDoorZPrd
import Derived.Test.YtdnpdfokdibmdaaGreatDoorZPrn
import Derived.Lib.SplitLaws
namespace Go.Proofs.YtdnpdfokdibmdaaGreatDoor
open Go.RowKit

theorem sp_ne {l : List UInt8} (h : ∀ x ∈ l, sp x = false) : ∀ x ∈ l, x ≠ 32 := fun x hx e => by
  have := h x hx
  rw [e] at this
  cases this
theorem headD_sp : ∀ (L : List UInt8), ∀ x ∈ headD L, sp x = false
  | [], x, hx => by simp [headD] at hx
  | c :: L, x, hx => by
    unfold headD at hx
    rw [List.takeWhile_cons] at hx
    split at hx
    · rename_i hc
      rcases List.mem_cons.1 hx with rfl | hx
      · simpa using hc
      · exact headD_sp L x hx
    · simp at hx
theorem cut_has {L : List UInt8} (h : hasSp L = true) : Lib.cut L [32] = (headD L, restDf L, true) := by
  have h1 := has_split h
  have h2 := cut_at (r := restDf L) (sp_ne (headD_sp L))
  rw [← h1] at h2
  exact h2
theorem cut_has_no {L : List UInt8} (h : hasSp L = false) : Lib.cut L [32] = (L, [], false) := by
  refine cut_no (sp_ne fun x hx => ?_)
  unfold hasSp at h
  rw [List.any_eq_false] at h
  have := h x hx
  simpa using this
theorem splitK_sp : ∀ (n : Nat) (L : List UInt8), L.length ≤ n → Lib.splitK [32] 0 (Lib.count L [32]) L = splitGo sp [] L ∧ Lib.count L [32] + 1 = (splitGo sp [] L).length
  | n, L, hn => by
    cases h : hasSp L with
    | false =>
      have hne : ∀ x ∈ L, x ≠ 32 := sp_ne fun x hx => by
        unfold hasSp at h
        rw [List.any_eq_false] at h
        have := h x hx
        simpa using this
      rw [splitGo_last (fun x hx => by unfold hasSp at h; rw [List.any_eq_false] at h; have := h x hx; simpa using this), Lib.count_miss (index_miss hne)]
      exact ⟨rfl, rfl⟩
    | true =>
      have h1 := has_split h
      have h2 := index_skip (r := restDf L) (sp_ne (headD_sp L))
      rw [← h1] at h2
      have hl := congrArg List.length h1
      simp only [List.length_append, List.length_cons] at hl
      have hc := Lib.count_hit (by simp) h2
      have hd : L.drop ((headD L).length + [(32 : UInt8)].length) = restDf L := rfl
      rw [hd] at hc
      have hp := splitGo_piece (p := sp) (c := 32) (r := restDf L) (by rfl) (cur := []) (headD_sp L)
      rw [← h1, List.nil_append] at hp
      cases n with
      | zero => omega
      | succ n =>
        obtain ⟨i1, i2⟩ := splitK_sp n (restDf L) (by omega)
        rw [hp, hc, Nat.add_comm 1, List.length_cons, ← i2, ← i1]
        refine ⟨?_, rfl⟩
        rw [Lib.splitK, h2, if_neg (by simp), Int.toNat_natCast, hd, Nat.add_zero]
        congr 1
        have e : List.take (headD L).length (headD L ++ 32 :: restDf L) = headD L := by simp
        rw [← h1] at e
        exact e
theorem splitB_sp (L : List UInt8) : Lib.splitB (bstr [32]) 0 (Lib.countB (bstr L) (bstr [32])) (bstr L) = (splitGo sp [] L).map bstr ∧ Lib.countB (bstr L) (bstr [32]) + 1 = (splitGo sp [] L).length := by
  obtain ⟨h1, h2⟩ := splitK_sp L.length L (Nat.le_refl _)
  refine ⟨?_, h2⟩
  have h := Lib.splitB_data (bstr [32]) 0 (Lib.countB (bstr L) (bstr [32])) (bstr L)
  have e : Lib.splitK (bstr [32]).data.toList 0 (Lib.countB (bstr L) (bstr [32])) (bstr L).data.toList = splitGo sp [] L := h1
  rw [e] at h
  rw [← h, List.map_map]
  exact (List.map_id' _).symm.trans (List.map_congr_left fun x _ => rfl)
/-- Where there is no space, the program's way comes to a text without an operation. -/
theorem parM_nil : parM [] = none := parM_none fun m hm e => by
  have := fmtM_len m
  rw [fmtM_yes hm] at e
  have h := congrArg List.length e
  simp [headM] at h
theorem splitGo_nil : splitGo sp [] [] = [[]] := rfl
theorem opOf_nil : opOf [] 9 = 0 := by decide +kernel
def nmI (L : List UInt8) : List UInt8 := (Lib.cut L [32]).1
def rsI (L : List UInt8) : List UInt8 := (Lib.cut L [32]).2.1
theorem pd_has {L : List UInt8} (h : hasSp L = true) : nmI L = headD L ∧ rsI L = restDf L := by unfold nmI rsI; rw [cut_has h]; exact ⟨rfl, rfl⟩
theorem pd_hasno {L : List UInt8} (h : hasSp L = false) : rsI L = [] := by unfold rsI; rw [cut_has_no h]
theorem pd_mat {L : List UInt8} {M : Mat} (h : parM (rsI L) = some M) : hasSp L = true ∧ candD L = ⟨bstr (nmI L), 0, ⟨#[]⟩, ⟨#[]⟩, M⟩ := by
  cases hs : hasSp L with
  | false => rw [pd_hasno hs, parM_nil] at h; cases h
  | true =>
    rw [(pd_has hs).2] at h
    refine ⟨rfl, ?_⟩
    unfold candD
    rw [h, (pd_has hs).1]
theorem pd_words {L : List UInt8} (h : parM (rsI L) = none) (ho : opOf ((splitGo sp [] (rsI L)).getD 0 []) 9 ≠ 0) :
    hasSp L = true ∧ candD L = ⟨bstr (nmI L), opOf ((splitGo sp [] (rsI L)).getD 0 []) 9, bstr ((splitGo sp [] (rsI L)).getD 1 []), bstr ((splitGo sp [] (rsI L)).getD 2 []), zeroM⟩ := by
  cases hs : hasSp L with
  | false => rw [pd_hasno hs] at ho; exact absurd opOf_nil ho
  | true =>
    rw [(pd_has hs).2] at h ⊢
    refine ⟨rfl, ?_⟩
    unfold candD wordsD
    rw [h, (pd_has hs).1]
theorem pd_bad {L : List UInt8} (h : parM (rsI L) = none) (hb : opOf ((splitGo sp [] (rsI L)).getD 0 []) 9 = 0 ∨ (splitGo sp [] (rsI L)).length < 2 ∨ 3 < (splitGo sp [] (rsI L)).length) : parD L = none := by
  unfold parD
  rw [if_neg]
  rintro ⟨hs, hf⟩
  rw [(pd_has hs).2] at h hb
  have := cand_words hs hf h
  unfold wordsD at this
  omega
theorem pd_ne {L F : List UInt8} (hs : hasSp L = true) (e : F = L) (hq : F.isEmpty = true) : False := by
  subst e
  cases F with
  | nil => simp [hasSp] at hs
  | cons a l => cases hq
end Go.Proofs.YtdnpdfokdibmdaaGreatDoor
