/-
  slices.SortFunc with the program's order of simplices, on an owned list of lists (by the library's contract).
-/
import Derived.Test.YteianlmindckpaaSortLay
import Derived.Test.YteianlmindckpaaLink
namespace Go.Proofs.Yteianlmindckpaa
open Go.RowKit

theorem swo_before {lst : Nat → List Int} : Go.Sort.SWO (Go.Proofs.ltOf fun x y : Nat => cmpS (lst x) (lst y)) where
  irrefl x := by unfold Go.Proofs.ltOf; simp only [decide_eq_false_iff_not, cmpS_before, beforeB_irr]; simp
  trans x y z h1 h2 := by
    unfold Go.Proofs.ltOf at *
    simp only [decide_eq_true_eq, cmpS_before] at *
    exact beforeB_trans h1 h2
  ntrans x y z h1 h2 := by
    unfold Go.Proofs.ltOf at *
    simp only [decide_eq_false_iff_not, cmpS_before] at *
    intro h3
    by_cases e : lst x = lst y
    · rw [e] at h3; exact h2 h3
    · have h4 : beforeB (lst y) (lst x) = true := by rw [beforeB_ne fun e' => e e'.symm]; simpa using h1
      exact h2 (beforeB_trans h4 h3)
section
variable {enc : Nat → Value} {w : World} {blk m : Nat} {dk : Array Nat} {os : Array Obj}
theorem keep_sortWorld : Keep (fun q => q ≠ blk) w (Go.Proofs.sortWorld enc w blk 0 m dk os) := by
  unfold Go.Proofs.sortWorld
  have hsz : (Go.Sort.putRow enc (Go.Sort.ahead w m) blk 0 dk).heap.size = w.heap.size := Go.Sort.size_putRow _ _ _ _ _
  refine ⟨rfl, rfl, rfl, ?_, fun x hx => ?_, fun k hk hne => ?_⟩
  · rw [Go.Sort.size_grow, hsz]; omega
  · rw [Go.Sort.frozen?_grow _ _ _ (by rw [hsz]; exact hx), Go.Sort.frozen?_putRow]; rfl
  · rw [Go.Sort.heap_grow_old _ _ (by rw [hsz]; exact hk)]
    unfold Go.Sort.putRow Go.Sort.mapBlock
    rw [Array.getElem?_modify, if_neg (fun e => hne e.symm)]; rfl
theorem row_sortWorld {cur : Array Value} {e : TypeId} {fr : Nat × Nat} (hb : w.heap[blk]? = some (.cells cur e fr)) :
    (Go.Proofs.sortWorld enc w blk 0 m dk os).heap[blk]? = some (.cells (Go.Sort.putCells enc 0 dk cur) e fr) := by
  unfold Go.Proofs.sortWorld
  have hlt := (Array.getElem?_eq_some_iff.1 hb).1
  rw [Go.Sort.heap_grow_old _ _ (by rw [Go.Sort.size_putRow]; exact hlt)]
  unfold Go.Sort.putRow Go.Sort.mapBlock
  rw [Array.getElem?_modify, if_pos rfl]
  show (w.heap[blk]?).map _ = _
  rw [hb]; rfl
end
theorem putCells_take {enc : Nat → Value} {dk : Array Nat} {cur : Array Value} (h : dk.size ≤ cur.size) : (Go.Sort.putCells enc 0 dk cur).toList.take dk.size = dk.toList.map enc := by
  refine List.ext_getElem? fun k => ?_
  unfold Go.Sort.putCells
  by_cases hk : k < dk.size
  · rw [List.getElem?_take_of_lt hk, Array.getElem?_toList, Array.getElem?_mapIdx, List.getElem?_map, Array.getElem?_toList]
    rw [Array.getElem?_eq_getElem (by omega), Array.getElem?_eq_getElem hk]
    simp [hk]
  · rw [List.getElem?_eq_none (by simp; omega), List.getElem?_eq_none (by simp; omega)]
theorem range_getD {α : Type} (l : List α) (z : α) : (List.range l.length).map (fun i => l.getD i z) = l := by
  refine List.ext_getElem? fun k => ?_
  by_cases hk : k < l.length
  · rw [List.getElem?_map, List.getElem?_range hk]; simp [hk]
  · rw [List.getElem?_eq_none (by simp; omega), List.getElem?_eq_none (by omega)]

set_option maxHeartbeats 2000000 in
theorem sortFunc_c {F : Nat → Prop} (g n cap : Nat) (M : List (List Int)) (w : World) (h : SepII w F (some ⟨g, 0, none⟩) n cap M) (hn : n ≤ 1048576) (hM : ∀ x ∈ M, x.length ≤ 2097152) :
    Calls Try.prog 35 #[.slice (some ⟨g, 0, none⟩) n cap, .func (.func 36) #[] #[]] w fun e w' =>
      e = .returned (.tuple #[]) ∧ ∃ D : List (List Int), D.Perm M ∧ (D.Pairwise fun a b => beforeB b a = false) ∧ SepII w' F (some ⟨g, 0, none⟩) n cap D ∧ Keep (fun q => ¬ F q) w w' := by
  have hlen : M.length = n := h.len
  obtain ⟨⟨vs, hO, hI⟩, hlo⟩ := h
  have hvl : vs.length = n := by have := hO.len; omega
  have hFg : F g := hlo g rfl
  obtain ⟨_, cur, hcur, hsz, htake⟩ := hO.block _ rfl
  have hglt := (Array.getElem?_eq_some_iff.1 hcur).1
  generalize henc : (fun i : Nat => vs.getD i (.slice none 0 0)) = enc at *
  generalize hlst : (fun i : Nat => M.getD i ([] : List Int)) = lst at *
  have eenc : ∀ i, enc i = vs.getD i (.slice none 0 0) := fun i => by rw [← henc]
  have elst : ∀ i, lst i = M.getD i [] := fun i => by rw [← hlst]
  have hrd : ∀ x, ∃ b c, enc x = .slice b (lst x).length c ∧ RdI w (fun q => q ≠ g) b (lst x).length c (lst x) := fun x => by
    rw [eenc, elst]
    by_cases hx : x < n
    · have hMx : M[x]? = some M[x] := List.getElem?_eq_getElem (by omega)
      obtain ⟨b, c, h1, h2, h3, h4⟩ := hI.each x _ hMx
      rw [List.getD_eq_getElem?_getD, List.getD_eq_getElem?_getD, h1, hMx]
      exact ⟨b, c, rfl, h2.rdI (fun q hq e => (h4 q hq).2 (by rw [e]; rfl)) h3⟩
    · rw [List.getD_eq_getElem?_getD, List.getD_eq_getElem?_getD, List.getElem?_eq_none (by omega), List.getElem?_eq_none (by omega)]
      exact ⟨none, 0, rfl, ⟨⟨rfl, Nat.le_refl _, by simp [maxLen], fun _ => rfl, fun h => (h rfl).elim⟩, fun z hz => by cases hz⟩⟩
  have hll : ∀ x, (lst x).length ≤ 2097152 := fun x => by
    rw [elst, List.getD_eq_getElem?_getD]
    by_cases hx : x < M.length
    · rw [List.getElem?_eq_getElem hx]; exact hM _ (List.getElem_mem hx)
    · rw [List.getElem?_eq_none (by omega)]; simp
  have eg : ∀ args w, (callFunc 36 args).run Try.prog w = .ok (.enter 36 args) w := Go.Proofs.enters_of Try.func36 (by kernel_rfl) rfl
  have hcmp : Go.Proofs.CmpReads Try.prog 36 #[] enc (fun x y : Nat => cmpS (lst x) (lst y)) g 0 (List.range n).toArray.size w := fun mm os dk hdk x y => by
    obtain ⟨b1, c1, e1, r1⟩ := hrd x
    obtain ⟨b2, c2, e2, r2⟩ := hrd y
    have hK := keep_sortWorld (enc := enc) (w := w) (blk := g) (m := mm) (dk := dk) (os := os)
    rw [e1, e2]
    refine (compareSimplices_c _ _ _ _ _ _ (lst x) (lst y) _ (r1.keep hK fun _ _ hb => hb) (r2.keep hK fun _ _ hb => hb) (hll x) (hll y)).mono ?_
    rintro e w' ⟨rfl, rfl⟩
    exact ⟨rfl, 0, rfl⟩
  have hH : Go.Sort.Holds enc w g 0 (List.range n).toArray := fun j hj => by
    have hj' : j < n := by simpa using hj
    have e1 : (List.range n).toArray[j]! = j := by
      rw [getElem!_pos _ j hj]; simp
    rw [e1, Nat.zero_add, eenc, List.getD_eq_getElem?_getD, List.getElem?_eq_getElem (by omega)]
    exact ⟨hO.cell (List.getElem?_eq_getElem (by omega)), hO.free j⟩
  have hcon := Go.Proofs.Any.slices_SortFunc sortLay enc (fun x => by obtain ⟨b, c, e, _⟩ := hrd x; rw [e]; rfl) (fun x y : Nat => cmpS (lst x) (lst y)) swo_before 36 #[] g 0 cap (List.range n).toArray w eg hcmp.lays hH hglt (by simp; omega)
  have esz : (List.range n).toArray.size = n := by simp
  rw [esz] at hcon
  refine Calls.mono hcon ?_
  rintro e w' ⟨rfl, d', q, os, hp, hs, rfl⟩
  obtain ⟨p1, _, p3⟩ := hp
  have hdn : d'.size = n := by rw [p1, esz]
  have hperm : d'.toList.Perm (List.range n) := by
    rw [Array.extract_eq_self_of_le (by omega), Array.extract_eq_self_of_le (by omega)] at p3
    simpa using p3
  have hK := keep_sortWorld (enc := enc) (w := w) (blk := g) (m := q) (dk := d') (os := os)
  have hMl : (List.range n).map lst = M := by
    rw [← hlen]
    have := range_getD M []
    rw [← hlst]; exact this
  have hvsl : (List.range n).map enc = vs := by
    rw [← hvl]
    have := range_getD vs (.slice none 0 0)
    rw [← henc]; exact this
  have hpm : (d'.toList.map lst).Perm M := by
    have := hperm.map lst
    rwa [hMl] at this
  have hpv : (d'.toList.map enc).Perm vs := by
    have := hperm.map enc
    rwa [hvsl] at this
  refine ⟨rfl, d'.toList.map lst, hpm, ?_, ⟨⟨d'.toList.map enc, ⟨by simp [hdn], hO.le, hO.max, (fun h => by cases h), fun p hp => ?_⟩, ?_⟩, hlo⟩, hK.mono fun k _ hk e => hk (by rw [e]; exact hFg)⟩
  · rw [List.pairwise_iff_getElem]
    intro i j hi hj hij
    have hi' : i < d'.size := by simpa using hi
    have hj' : j < d'.size := by simpa using hj
    have := hs i j (Nat.zero_le _) hij (by omega)
    rw [getElem!_pos _ i hi', getElem!_pos _ j hj'] at this
    unfold Go.Proofs.ltOf at this
    simp only [decide_eq_false_iff_not, cmpS_before] at this
    simpa using this
  · obtain rfl := Option.some.inj hp
    refine ⟨rfl, _, row_sortWorld hcur, ?_, ?_⟩
    · unfold Go.Sort.putCells; simpa using hsz
    · have hsz' : d'.size ≤ cur.size := by have := hO.le; omega
      have := putCells_take (enc := enc) hsz'
      rw [hdn] at this
      simpa using this
  · refine ⟨by simp, fun i xs hi => ?_, ?_⟩
    · rw [List.getElem?_map] at hi
      obtain ⟨x, hx, rfl⟩ := Option.map_eq_some_iff.1 hi
      have hxn : x < n := by
        have := hperm.mem_iff.1 (List.mem_of_getElem? hx)
        simpa using this
      have hMx : M[x]? = some M[x] := List.getElem?_eq_getElem (by omega)
      obtain ⟨b, c, h1, h2, h3, h4⟩ := hI.each x _ hMx
      have e1 : lst x = M[x] := by rw [elst, List.getD_eq_getElem?_getD, hMx]; rfl
      have e2 : enc x = .slice b (M[x]).length c := by rw [eenc, List.getD_eq_getElem?_getD, h1]; rfl
      rw [e1]
      refine ⟨b, c, by rw [List.getElem?_map, hx, ← e2]; rfl, h2.keep hK (fun q hq _ e => (h4 q hq).2 (by rw [e]; rfl)), h3, h4⟩
    · exact (hpv.pairwise_iff (fun {u v} huv q hv hu => huv q hu hv)).2 hI.apart
end Go.Proofs.Yteianlmindckpaa
