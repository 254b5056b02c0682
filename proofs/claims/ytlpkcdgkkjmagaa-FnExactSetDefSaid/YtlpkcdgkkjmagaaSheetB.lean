/-
  Bounds on a measured sheet.
-/
import Derived.Test.YtlpkcdgkkjmagaaDefK
namespace Go.Proofs.Ytlpkcdgkkjmagaa
open Go.RowKit
theorem bdDD_cells {l : List Dfn} (hb : bdDD l ≤ 1048576) : ∀ d ∈ l, d.value.cells.length ≤ 2097152 := by
  intro d hd
  obtain ⟨k, hk, he⟩ := List.mem_iff_getElem.1 hd
  have h1 := (bdDs_at (List.getElem?_eq_some_iff.2 ⟨hk, he⟩)).2
  unfold bdDD at hb
  unfold bdD at h1
  omega
end Go.Proofs.Ytlpkcdgkkjmagaa
