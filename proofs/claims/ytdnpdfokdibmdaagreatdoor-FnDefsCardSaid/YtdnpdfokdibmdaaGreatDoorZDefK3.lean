/-
  The laws' helpers on []Def: copying and comparing all of them.
-/
import Derived.Test.YtdnpdfokdibmdaaGreatDoorZDefK2
import Derived.Test.YtdnpdfokdibmdaaGreatDoorZBase
namespace Go.Proofs.YtdnpdfokdibmdaaGreatDoor
open Go.RowKit

def zdef : Dfn := ⟨⟨#[]⟩, 0, ⟨#[]⟩, ⟨#[]⟩, ⟨0, 0, []⟩⟩
def dset (l : List Value) (o : Nat) (d : Dfn) (s : Value) : List Value :=
  (((((((l.set o (.string d.name)).set (o + 1) (.int .i64 d.op)).set (o + 2) (.string d.a)).set (o + 3) (.string d.b)).set (o + 4) (.int .i64 d.value.rows)).set (o + 5) (.int .i64 d.value.cols)).set (o + 6) s)
theorem dset_append {l r : List Value} {o : Nat} {d : Dfn} {s : Value} (h : l.length ≤ o) : dset (l ++ r) o d s = l ++ dset r (o - l.length) d s := by
  unfold dset
  rw [List.set_append_right _ _ (by omega), List.set_append_right _ _ (by omega), List.set_append_right _ _ (by omega), List.set_append_right _ _ (by omega), List.set_append_right _ _ (by omega), List.set_append_right _ _ (by omega), List.set_append_right _ _ (by omega)]
  rw [show o + 1 - l.length = o - l.length + 1 from by omega, show o + 2 - l.length = o - l.length + 2 from by omega, show o + 3 - l.length = o - l.length + 3 from by omega, show o + 4 - l.length = o - l.length + 4 from by omega, show o + 5 - l.length = o - l.length + 5 from by omega, show o + 6 - l.length = o - l.length + 6 from by omega]
theorem dAll_set : ∀ {l : List Dfn} {ss : List Value} {k : Nat} {d : Dfn} {s : Value}, ss.length = l.length → k < l.length → dset (dAll l ss) (k * 7) d s = dAll (l.set k d) (ss.set k s)
  | [], _, k, d, s, _, h => by simp at h
  | _ :: _, [], k, d, s, h, _ => by simp at h
  | d' :: l, s' :: ss, 0, d, s, h, _ => by
    simp only [dAll, dcell, List.set_cons_zero, Nat.zero_mul, dset, List.cons_append, List.set_cons_succ, Nat.zero_add, List.nil_append]
  | d' :: l, s' :: ss, k + 1, d, s, h, hk => by
    simp only [dAll, List.set_cons_succ]
    have hl : (dcell d' s').length = 7 := rfl
    rw [dset_append (by rw [hl]; omega), hl, show (k + 1) * 7 - 7 = k * 7 from by omega, dAll_set (by simpa using h) (by simpa using hk)]
theorem madeCells_def (n : Nat) : (madeCells #[Value.string ⟨#[]⟩, .int .i64 0, .string ⟨#[]⟩, .string ⟨#[]⟩, .int .i64 0, .int .i64 0, .slice none 0 0] (n * 7)).toList = dAll (List.replicate n zdef) (List.replicate n (.slice none 0 0)) := by
  refine List.ext_getElem? fun i => ?_
  by_cases hi : i < n * 7
  · obtain ⟨k, j, hj, rfl⟩ : ∃ k j, j < 7 ∧ i = k * 7 + j := ⟨i / 7, i % 7, Nat.mod_lt _ (by omega), by omega⟩
    have hk : k < n := by omega
    rw [dAll_at (d := zdef) (s := .slice none 0 0) (by simp [hk]) (by simp [hk]) hj]
    have e : (k * 7 + j) % 7 = j := by omega
    unfold madeCells
    simp only [Array.toList_map, Array.toList_range, List.getElem?_map, List.getElem?_range hi, Option.map_some]
    simp only [show (#[Value.string ⟨#[]⟩, .int .i64 0, .string ⟨#[]⟩, .string ⟨#[]⟩, .int .i64 0, .int .i64 0, .slice none 0 0] : Array Value).size = 7 from rfl, e]
    match j, hj with
    | 0, _ => rfl
    | 1, _ => rfl
    | 2, _ => rfl
    | 3, _ => rfl
    | 4, _ => rfl
    | 5, _ => rfl
    | 6, _ => rfl
  · rw [List.getElem?_eq_none (by simp [madeCells]; omega), List.getElem?_eq_none (by rw [dAll_len (by simp)]; simp; omega)]
theorem Own.dat {w : World} {e : TypeId} {p : Addr} {n cap : Nat} {L : List Dfn} {ss : List Value} {k : Nat} {d : Dfn} {s : Value} (h : Own w e 7 (some p) n cap (dAll L ss)) (hd : L[k]? = some d) (hs : ss[k]? = some s) : DAt w p.block (k * 7) d s := by
  have key : ∀ j v, j < 7 → (dcell d s)[j]? = some v → w.cell? ⟨p.block, k * 7 + j, none⟩ = some v := fun j v hj hv => h.cell (by rw [dAll_at hd hs hj]; exact hv)
  exact ⟨key 0 _ (by omega) rfl, key 1 _ (by omega) rfl, key 2 _ (by omega) rfl, key 3 _ (by omega) rfl, key 4 _ (by omega) rfl, key 5 _ (by omega) rfl, key 6 _ (by omega) rfl⟩
theorem Own.dset {w : World} {e : TypeId} {p : Addr} {n cap : Nat} {L : List Dfn} {ss : List Value} {k : Nat} {d : Dfn} {s : Value} (h : Own w e 7 (some p) n cap (dAll L ss)) (hl : ss.length = L.length) (hk : k < L.length) :
    Own (((((((w.setCell ⟨p.block, k * 7, none⟩ (.string d.name)).setCell ⟨p.block, k * 7 + 1, none⟩ (.int .i64 d.op)).setCell ⟨p.block, k * 7 + 2, none⟩ (.string d.a)).setCell ⟨p.block, k * 7 + 3, none⟩ (.string d.b)).setCell ⟨p.block, k * 7 + 4, none⟩ (.int .i64 d.value.rows)).setCell ⟨p.block, k * 7 + 5, none⟩ (.int .i64 d.value.cols)).setCell ⟨p.block, k * 7 + 6, none⟩ s) e 7 (some p) n cap (dAll (L.set k d) (ss.set k s)) := by
  rw [← dAll_set hl hk]
  exact ((((((h.set _ _).set _ _).set _ _).set _ _).set _ _).set _ _).set _ _
theorem fill_put {α : Type} {l : List α} {k n : Nat} {z v : α} (hl : l.length = k) (hk : k < n) : (l ++ List.replicate (n - k) z).set k v = (l ++ [v]) ++ List.replicate (n - (k + 1)) z := fill_set hl hk

end Go.Proofs.YtdnpdfokdibmdaaGreatDoor
