/-
  The laws' helpers on []Def: copying and comparing all of them.
-/
import Derived.Test.YtlpkcdgkkjmagaaDefK2
import Derived.Test.YtlpkcdgkkjmagaaSegs
namespace Go.Proofs.Ytlpkcdgkkjmagaa
open Go.RowKit

def zdef : Dfn := ⟨⟨#[]⟩, 0, ⟨#[]⟩, ⟨#[]⟩, ⟨0, 0, []⟩⟩
def dset (l : List Value) (o : Nat) (d : Dfn) (s : Value) : List Value :=
  (((((((l.set o (.string d.name)).set (o + 1) (.int .i64 d.op)).set (o + 2) (.string d.a)).set (o + 3) (.string d.b)).set (o + 4) (.int .i64 d.value.rows)).set (o + 5) (.int .i64 d.value.cols)).set (o + 6) s)
theorem dset_append {l r : List Value} {o : Nat} {d : Dfn} {s : Value} (h : l.length ≤ o) : dset (l ++ r) o d s = l ++ dset r (o - l.length) d s := by
  unfold dset
  rw [List.set_append_right _ _ (by omega), List.set_append_right _ _ (by omega), List.set_append_right _ _ (by omega), List.set_append_right _ _ (by omega), List.set_append_right _ _ (by omega), List.set_append_right _ _ (by omega), List.set_append_right _ _ (by omega)]
  rw [show o + 1 - l.length = o - l.length + 1 from by omega, show o + 2 - l.length = o - l.length + 2 from by omega, show o + 3 - l.length = o - l.length + 3 from by omega, show o + 4 - l.length = o - l.length + 4 from by omega, show o + 5 - l.length = o - l.length + 5 from by omega, show o + 6 - l.length = o - l.length + 6 from by omega]
theorem dAll_set : ∀ {l : List Dfn} {ss : List Value} {k : Nat} {d : Dfn} {s : Value}, ss.length = l.length → k < l.length → dset (dAll l ss) (k * 7) d s = dAll (l.set k d) (ss.set k s)
  | [], _, k, d, s, _, h => by simp at h
  | _ :: _, [], k, d, s, h, _ => by simp at h
  | d' :: l, s' :: ss, 0, d, s, h, _ => by
    simp only [dAll, dcell, List.set_cons_zero, Nat.zero_mul, dset, List.cons_append, List.set_cons_succ, Nat.zero_add, List.nil_append]
  | d' :: l, s' :: ss, k + 1, d, s, h, hk => by
    simp only [dAll, List.set_cons_succ]
    have hl : (dcell d' s').length = 7 := rfl
    rw [dset_append (by rw [hl]; omega), hl, show (k + 1) * 7 - 7 = k * 7 from by omega, dAll_set (by simpa using h) (by simpa using hk)]
theorem madeCells_def (n : Nat) : (madeCells #[Value.string ⟨#[]⟩, .int .i64 0, .string ⟨#[]⟩, .string ⟨#[]⟩, .int .i64 0, .int .i64 0, .slice none 0 0] (n * 7)).toList = dAll (List.replicate n zdef) (List.replicate n (.slice none 0 0)) := by
  refine List.ext_getElem? fun i => ?_
  by_cases hi : i < n * 7
  · obtain ⟨k, j, hj, rfl⟩ : ∃ k j, j < 7 ∧ i = k * 7 + j := ⟨i / 7, i % 7, Nat.mod_lt _ (by omega), by omega⟩
    have hk : k < n := by omega
    rw [dAll_at (d := zdef) (s := .slice none 0 0) (by simp [hk]) (by simp [hk]) hj]
    have e : (k * 7 + j) % 7 = j := by omega
    unfold madeCells
    simp only [Array.toList_map, Array.toList_range, List.getElem?_map, List.getElem?_range hi, Option.map_some]
    simp only [show (#[Value.string ⟨#[]⟩, .int .i64 0, .string ⟨#[]⟩, .string ⟨#[]⟩, .int .i64 0, .int .i64 0, .slice none 0 0] : Array Value).size = 7 from rfl, e]
    match j, hj with
    | 0, _ => rfl
    | 1, _ => rfl
    | 2, _ => rfl
    | 3, _ => rfl
    | 4, _ => rfl
    | 5, _ => rfl
    | 6, _ => rfl
  · rw [List.getElem?_eq_none (by simp [madeCells]; omega), List.getElem?_eq_none (by rw [dAll_len (by simp)]; simp; omega)]
theorem Own.dat {w : World} {e : TypeId} {p : Addr} {n cap : Nat} {L : List Dfn} {ss : List Value} {k : Nat} {d : Dfn} {s : Value} (h : Own w e 7 (some p) n cap (dAll L ss)) (hd : L[k]? = some d) (hs : ss[k]? = some s) : DAt w p.block (k * 7) d s := by
  have key : ∀ j v, j < 7 → (dcell d s)[j]? = some v → w.cell? ⟨p.block, k * 7 + j, none⟩ = some v := fun j v hj hv => h.cell (by rw [dAll_at hd hs hj]; exact hv)
  exact ⟨key 0 _ (by omega) rfl, key 1 _ (by omega) rfl, key 2 _ (by omega) rfl, key 3 _ (by omega) rfl, key 4 _ (by omega) rfl, key 5 _ (by omega) rfl, key 6 _ (by omega) rfl⟩
theorem Own.dset {w : World} {e : TypeId} {p : Addr} {n cap : Nat} {L : List Dfn} {ss : List Value} {k : Nat} {d : Dfn} {s : Value} (h : Own w e 7 (some p) n cap (dAll L ss)) (hl : ss.length = L.length) (hk : k < L.length) :
    Own (((((((w.setCell ⟨p.block, k * 7, none⟩ (.string d.name)).setCell ⟨p.block, k * 7 + 1, none⟩ (.int .i64 d.op)).setCell ⟨p.block, k * 7 + 2, none⟩ (.string d.a)).setCell ⟨p.block, k * 7 + 3, none⟩ (.string d.b)).setCell ⟨p.block, k * 7 + 4, none⟩ (.int .i64 d.value.rows)).setCell ⟨p.block, k * 7 + 5, none⟩ (.int .i64 d.value.cols)).setCell ⟨p.block, k * 7 + 6, none⟩ s) e 7 (some p) n cap (dAll (L.set k d) (ss.set k s)) := by
  rw [← dAll_set hl hk]
  exact ((((((h.set _ _).set _ _).set _ _).set _ _).set _ _).set _ _).set _ _
theorem fill_put {α : Type} {l : List α} {k n : Nat} {z v : α} (hl : l.length = k) (hk : k < n) : (l ++ List.replicate (n - k) z).set k v = (l ++ [v]) ++ List.replicate (n - (k + 1)) z := fill_set hl hk

set_option maxHeartbeats 2000000 in
set_option maxRecDepth 100000 in
theorem to_DD {S : Nat → Prop} {v : Value} {l : List Dfn} {w : World} (h : VDD w S v l) (hb : bdDD l ≤ 1048576) : Calls Try.prog 10 #[v] w fun e w' => ∃ v', e = .returned v' ∧ ODD w' (New w w') v' l ∧ Grow w w' := by
  obtain ⟨a, n, cap, rfl, h⟩ := h
  have hl := h.len
  unfold bdDD at hb
  have hn : n ≤ 1048576 := by omega
  have hmk := T_defs.make (n := n) (by omega) (by unfold maxLen; omega)
  have Hl := Lib.hid hl; clear hl
  go_enter Try.func10, Try.ntmps10
  go_wp2
  go_loopw [4] (fun i wr => ∃ (k : Nat) (ss : List Value), k ≤ n ∧ i = .int .i64 k ∧ Grow w wr ∧ ss.length = k ∧ w.heap.size < wr.heap.size ∧ Own wr 38 7 (some ⟨w.heap.size, 0, none⟩) n n (dAll (l.take k ++ List.replicate (n - k) zdef) (ss ++ List.replicate (n - k) (.slice none 0 0))) ∧ Inner wr (New w wr) (some w.heap.size) ss (dvals (l.take k))) (fun i _ => n - (intOf i).toNat)
  case atStart =>
    refine ⟨0, [], Nat.zero_le _, rfl, (Grow.refl w).alloc _ _, rfl, by simp, ?_, Inner.nilw⟩
    have := Own.fresh (w := w) (e := 38) (sz := 7) (cs := madeCells #[.string ⟨#[]⟩, .int .i64 0, .string ⟨#[]⟩, .string ⟨#[]⟩, .int .i64 0, .int .i64 0, .slice none 0 0] (n * 7)) (n := n) (by unfold maxLen; omega) (by simp [madeCells])
    rw [madeCells_def] at this
    simpa using this
  case round =>
    obtain ⟨k, ss, hk, rfl, hG, hvl, hsz, hO, hI⟩ := hrel
    have Hvl := Lib.hid hvl; clear hvl
    by_cases hlt : k < n
    · obtain ⟨b, off, d, a1, c1, rfl, hx, _, hbw, ⟨e0, e1, e2, e3, e4, e5, e6⟩, r1, ho⟩ := (h.grow hG).at hlt
      have htot := (bdDs_at hx).2
      have Hx := Lib.hid hx; clear hx
      go_wp2_with fail
      refine (to_D (d := d) ⟨_, _, _, rfl, r1, ho⟩ (by omega)).mono ?_
      rintro e w1 ⟨v', rfl, ⟨am, nm, cm, rfl, om, xm, fm, hok⟩, hG1⟩
      have hnm : d.value.cells.length = nm := by simpa using om.len
      subst hnm
      have hs1 := hG1.size
      have hO' := hO.grow hG1
      have hI' := hI.grow hG1
      have hlk : (l.take k).length = k := by simp; have := Hl.out; omega
      have hz1 : (l.take k ++ List.replicate (n - k) zdef)[k]? = some zdef := fill_at hlk hlt
      have hz2 := fill_at (z := Value.slice none 0 0) Hvl.out hlt
      obtain ⟨g0, g1, g2, g3, g4, g5, g6⟩ := hO'.dat hz1 hz2
      have f0 := hO'.free (k * 7); have f1 := hO'.free (k * 7 + 1); have f2 := hO'.free (k * 7 + 2); have f3 := hO'.free (k * 7 + 3); have f4 := hO'.free (k * 7 + 4); have f5 := hO'.free (k * 7 + 5); have f6 := hO'.free (k * 7 + 6)
      simp only at f0 f1 f2 f3 f4 f5 f6 g0 g1 g2 g3 g4 g5 g6
      have Hlk := Lib.hid hlk
      clear hz1 hz2 hlk
      go_wp2
      go_roundw
      case rel =>
        have hO2 := hO'.dset (k := k) (d := d) (s := .slice am d.value.cells.length cm) (by simp [Hvl.out, Hlk.out]) (by simp [Hlk.out]; omega)
        rw [fill_set Hlk.out hlt, fill_set Hvl.out hlt, ← take_succ Hx.out] at hO2
        have hw' : Keep (fun q => q ≠ w.heap.size) w1 _ := (((((((Keep.refl _ w1).setCell (p := ⟨w.heap.size, k * 7, none⟩) (fun _ e => e rfl) (.string d.name)).setCell (p := ⟨w.heap.size, k * 7 + 1, none⟩) (fun _ e => e rfl) (.int .i64 d.op)).setCell (p := ⟨w.heap.size, k * 7 + 2, none⟩) (fun _ e => e rfl) (.string d.a)).setCell (p := ⟨w.heap.size, k * 7 + 3, none⟩) (fun _ e => e rfl) (.string d.b)).setCell (p := ⟨w.heap.size, k * 7 + 4, none⟩) (fun _ e => e rfl) (.int .i64 d.value.rows)).setCell (p := ⟨w.heap.size, k * 7 + 5, none⟩) (fun _ e => e rfl) (.int .i64 d.value.cols)).setCell (p := ⟨w.heap.size, k * 7 + 6, none⟩) (fun _ e => e rfl) (.slice am d.value.cells.length cm)
        have h1 := (hI'.weak (G := New w w1) (g' := some w.heap.size) fun b hb hF hne => ⟨⟨hF.1, by have := hF.2; omega⟩, hne⟩).snoc om xm (fun q hq => ⟨⟨by have := (fm q hq).1; omega, om.lt hq⟩, by have := (fm q hq).1; intro e; simp at e; omega⟩)
          (fun q hq v hv hvq => by have := (hI.lt hv hvq).1; have := (fm q hq).1; omega)
        refine ⟨k + 1, ss ++ [.slice am d.value.cells.length cm], by omega, by go_num, (hG.trans hG1).keep hw' (fun i hi => by omega), by simp [Hvl.out], by simp; omega, hO2, ?_⟩
        rw [take_succ Hx.out, dvals_append]
        exact (h1.keep hw' (fun b _ _ hne e => hne (by rw [e]))).weak fun b hb hF hne => ⟨⟨hF.1, by simpa using hF.2⟩, hne⟩
      case measure => simp [intOf]; omega
    · go_wp2
      go_ret
      have : k = n := by omega
      subst this
      rw [take_all Hl.out, Nat.sub_self] at hO
      rw [take_all Hl.out] at hI
      refine ⟨_, rfl, ⟨_, _, _, rfl, ⟨⟨ss, by simpa using hO, hI⟩, Hl.out, h.ok, fun g hg => ?_⟩⟩, hG⟩
      simp at hg; subst hg
      exact ⟨Nat.le_refl _, hsz⟩

set_option maxHeartbeats 1000000 in
set_option maxRecDepth 100000 in
theorem eq_DD {S T : Nat → Prop} {u v : Value} {l : List Dfn} {w : World} (h : VDD w S u l) (h' : VDD w T v l) (hb : bdDD l ≤ 2097152) : Calls Try.prog 12 #[u, v] w fun e w' => e = .returned (.bool true) ∧ Grow w w' := by
  obtain ⟨a, n, c, rfl, h⟩ := h
  obtain ⟨a', n', c', rfl, h'⟩ := h'
  have hl := h.len
  have hl' := h'.len
  have hnn : n = n' := by omega
  subst hnn
  clear hl'
  unfold bdDD at hb
  have hn : n ≤ 2097152 := by omega
  have Hl := Lib.hid hl; clear hl
  go_enter Try.func12, Try.ntmps12
  go_wp2
  go_loopw [5] (fun i wr => Grow w wr ∧ ∃ k : Nat, k ≤ n ∧ i = .int .i64 k) (fun i _ => n - (intOf i).toNat)
  case atStart => exact ⟨Grow.refl _, 0, Nat.zero_le _, rfl⟩
  case round =>
    obtain ⟨hG, k, hk, rfl⟩ := hrel
    by_cases hlt : k < n
    · obtain ⟨b, off, d, a1, c1, rfl, hx, _, hbw, hd1, r1, ho⟩ := (h.grow hG).at hlt
      obtain ⟨b', off', d', a1', c1', rfl, hx', _, hbw', hd1', r1', ho'⟩ := (h'.grow hG).at hlt
      obtain rfl : d = d' := Option.some.inj (hx.symm.trans hx')
      have htot := (bdDs_at hx).2
      clear hx hx'
      go_wp2
      refine wp_region_segs (S := Grow wr) [([0, 1, 2, 3, 4, 5, 6, 7], some 8), ([9], none)] P_mixed (by kernel_rfl) (fun _ _ _ _ _ h => h) (Grow.refl _).drew ?_
      show wpQuiet _ _ _ _ [_, _, _, _, _, _, _, _] _
      repeat (first | go_big_quiet_skip | (go_big_quiet_want; first | (apply quiet_load7 T_def; rfl; rfl; exact (fun w' hG => hd1.grow hG); go_big_quiet_on; simp only [Act.put, List.setIfInBounds_toArray, List.set_cons_succ, List.set_cons_zero]) | (apply quiet_load7 T_def; rfl; rfl; exact (fun w' hG => hd1'.grow hG); go_big_quiet_on; simp only [Act.put, List.setIfInBounds_toArray, List.set_cons_succ, List.set_cons_zero]) | (go_big_quiet_op; first | go_big_quiet_on | (refine ⟨_, (fun _ _ => rfl), ?_⟩; go_big_quiet_on))))
      refine wpQuiet_nil ?_
      refine seg_go rfl (fun K hK => ?_)
      go_wp2_with fail
      refine (eq_D (d := d) ⟨_, _, _, rfl, r1.grow (Grow.refl _).drew, ho⟩ ⟨_, _, _, rfl, r1'.grow (Grow.refl _).drew, ho⟩ (by omega)).mono ?_
      rintro e w1 ⟨rfl, hG1⟩
      have hG2 : Grow wr w1 := (Grow.refl wr).drew.trans hG1
      go_wp2_with fail
      refine hK _ _ (hG2) ?_
      clear hK K
      show wpQuiet _ _ _ _ [_] _
      try (conv => arg 6; simp only [Act.put, List.setIfInBounds_toArray, List.set_cons_succ, List.set_cons_zero])
      repeat (first | go_big_quiet_skip | (go_big_quiet_want; first | (apply quiet_load7 T_def; rfl; rfl; exact (fun w' hG => hd1.grow hG); go_big_quiet_on; simp only [Act.put, List.setIfInBounds_toArray, List.set_cons_succ, List.set_cons_zero]) | (apply quiet_load7 T_def; rfl; rfl; exact (fun w' hG => hd1'.grow hG); go_big_quiet_on; simp only [Act.put, List.setIfInBounds_toArray, List.set_cons_succ, List.set_cons_zero]) | (go_big_quiet_op; first | go_big_quiet_on | (refine ⟨_, (fun _ _ => rfl), ?_⟩; go_big_quiet_on))))
      refine wpQuiet_nil ?_
      refine wpSegs_nil ?_
      go_wp2
      go_roundw
      case rel => exact ⟨hG.trans hG2, k + 1, by omega, by go_num⟩
      case measure => simp [intOf]; omega
    · go_wp2
      go_ret
      exact ⟨rfl, hG⟩
end Go.Proofs.Ytlpkcdgkkjmagaa
