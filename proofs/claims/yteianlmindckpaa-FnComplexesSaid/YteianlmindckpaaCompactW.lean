/-
  slices.CompactFunc with the equality of simplices: the walk.
-/
import Derived.Test.YteianlmindckpaaCompact
namespace Go.Proofs.Yteianlmindckpaa
open Go.RowKit

theorem getD_at {α : Type} {l : List α} {k : Nat} {x z : α} (h : l[k]? = some x) : l.getD k z = x := by rw [List.getD_eq_getElem?_getD, h]; rfl
/-- Some of the slices, in their order. -/
theorem Inner.sub {w : World} {F : Nat → Prop} {g : Option Nat} {vs : List Value} {xss : List (List Int)} (h : Inner w F g vs xss) {is : List Nat} (hs : is.Sublist (List.range xss.length)) : Inner w F g (is.map fun i => vs.getD i (.slice none 0 0)) (is.map fun i => xss.getD i []) := by
  have hlt : ∀ i ∈ is, i < xss.length := fun i hi => by simpa using hs.subset hi
  refine ⟨by simp, fun k xs hk => ?_, ?_⟩
  · rw [List.getElem?_map] at hk
    obtain ⟨i, hi, rfl⟩ := Option.map_eq_some_iff.1 hk
    have hil := hlt i (List.mem_of_getElem? hi)
    have hx : xss[i]? = some xss[i] := List.getElem?_eq_getElem hil
    obtain ⟨b, c, h1, h2⟩ := h.each i _ hx
    rw [getD_at hx]
    exact ⟨b, c, by rw [List.getElem?_map, hi]; simp only [Option.map_some]; rw [getD_at h1], h2⟩
  · have e : vs = (List.range xss.length).map fun i => vs.getD i (.slice none 0 0) := by
      rw [← h.len]; exact (range_getD vs _).symm
    have h1 : (is.map fun i => vs.getD i (.slice none 0 0)).Sublist vs := by
      conv => rhs; rw [e]
      exact hs.map _
    exact h.apart.sublist h1

theorem take_getD {α : Type} {l : List α} {k : Nat} (z : α) (h : k ≤ l.length) : (List.range k).map (fun i => l.getD i z) = l.take k := by
  refine List.ext_getElem? fun j => ?_
  by_cases hj : j < k
  · rw [List.getElem?_map, List.getElem?_range hj, List.getElem?_take_of_lt hj, Option.map_some, List.getD_eq_getElem?_getD, List.getElem?_eq_getElem (by omega)]; rfl
  · rw [List.getElem?_eq_none (by simp; omega), List.getElem?_eq_none (by simp; omega)]
theorem drop_at {α : Type} {A B : List α} {a p : Nat} (h : A.drop a = B.drop a) (hp : a ≤ p) : A[p]? = B[p]? := by
  have := congrArg (fun l => l[p - a]?) h
  simp only [List.getElem?_drop] at this
  rwa [show a + (p - a) = p by omega] at this
theorem take_set_succ {α : Type} {l : List α} {q : Nat} {v : α} (h : q < l.length) : (l.set q v).take (q + 1) = l.take q ++ [v] := by
  rw [take_succ (List.getElem?_set_self h), List.take_set_of_le (Nat.le_refl q)]
set_option maxHeartbeats 2000000 in
set_option maxRecDepth 100000 in
theorem compactFunc_c {F : Nat → Prop} (g n cap : Nat) (M : List (List Int)) (w : World) (h : SepII w F (some ⟨g, 0, none⟩) n cap M) (hn : n ≤ 1048576) (hM : ∀ x ∈ M, x.length ≤ 2097152) :
    Calls Try.prog 37 #[.slice (some ⟨g, 0, none⟩) n cap, .func (.func 38) #[] #[]] w fun e w' =>
      ∃ m, e = .returned (.slice (some ⟨g, 0, none⟩) m cap) ∧ SepII w' F (some ⟨g, 0, none⟩) m cap (compB M) ∧ Keep (fun q => ¬ F q) w w' := by
  have Hlen := Lib.hid h.len
  obtain ⟨⟨vs, hO, hI⟩, hlo⟩ := h
  have hvl : vs.length = n := by have := hO.len; omega
  have hFg : F g := hlo g rfl
  have hle := hO.le
  have hcx := hO.max
  unfold maxLen at hcx
  have helt : ∀ (wr : World) (W : List Value) (p : Nat), Keep (fun q => q ≠ g) w wr → W[p]? = vs[p]? → p < n → Own wr 37 1 (some ⟨g, 0, none⟩) n cap W → ∃ b c, wr.cell? ⟨g, p, none⟩ = some (.slice b (M.getD p []).length c) ∧ RdI wr (fun _ => True) b (M.getD p []).length c (M.getD p []) ∧ (M.getD p []).length ≤ 2097152 := by
    intro wr W p hK hW hp hOw
    have hpl : p < M.length := by rw [Hlen.out]; exact hp
    have hx : M[p]? = some M[p] := List.getElem?_eq_getElem hpl
    obtain ⟨b, c, h1, h2, h3, h4⟩ := hI.each p _ hx
    have hml := hM _ (List.mem_of_getElem? hx)
    rw [getD_at hx]
    exact ⟨b, c, hOw.cell (hW.trans h1), (h2.keep hK fun q hq _ e => (h4 q hq).2 (by rw [e]; rfl)).rdI (fun _ _ => trivial) h3, hml⟩
  have hsubl : ∀ p, p ≤ n → (cIdx M p).Sublist (List.range M.length) := fun p hp => by
    unfold cIdx
    rw [Hlen.out]
    exact (List.filter_sublist).trans (List.range_sublist.2 hp)
  have hmono : ∀ wr : World, Keep (fun q => q ≠ g) w wr → Keep (fun q => ¬ F q) w wr := fun wr hK => hK.mono fun k _ hk e => hk (by rw [e]; exact hFg)
  by_cases h2 : n < 2
  · have hc : compB M = M := by
      unfold compB
      rw [cIdx_range fun i h1 h2 => by have := Hlen.out; omega]
      exact range_getD M []
    go_enter Try.func37, Try.ntmps37
    go_wp2
    go_ret
    exact ⟨n, rfl, by rw [hc]; exact ⟨⟨vs, hO, hI⟩, hlo⟩, Keep.refl _ _⟩
  · go_enter Try.func37, Try.ntmps37
    go_wp2
    go_loopw [5] (fun i wr => Grow w wr ∧ ∃ k : Nat, 1 ≤ k ∧ k ≤ n ∧ i = .int .i64 k ∧ ∀ j, 0 < j → j < k → sameI (M.getD j []) (M.getD (j - 1) []) = false) (fun i _ => n - (intOf i).toNat)
    case atStart => exact ⟨Grow.refl _, 1, Nat.le_refl _, by omega, rfl, fun j h1 h2 => by omega⟩
    case round =>
      obtain ⟨hG, k, hk1, hk, rfl, hne⟩ := hrel
      have Hne := Lib.hid hne; clear hne
      have hK : Keep (fun q => q ≠ g) w wr := hG.mono fun _ _ _ => trivial
      have hOw := hO.grow hG
      by_cases hlt : k < n
      · obtain ⟨b1, c1, e1, rx, hxl⟩ := helt wr vs k hK rfl hlt hOw
        obtain ⟨b2, c2, e2, ry, hyl⟩ := helt wr vs (k - 1) hK rfl (by omega) hOw
        generalize hx : M.getD k [] = x at *
        generalize hy : M.getD (k - 1) [] = y at *
        have e2' : wr.cell? ⟨g, ((k : Int) - 1).toNat, none⟩ = some (.slice b2 y.length c2) := by rw [show ((k : Int) - 1).toNat = k - 1 by omega]; exact e2
        cases hsm : sameI x y with
        | false =>
          have Hsm := Lib.hid hsm
          go_wp2
          refine wp_region_segs (S := Grow wr) [([0, 1, 2, 3, 4, 5, 6, 7, 8, 9], some 10), ([], none)] P_mixed (by kernel_rfl) (fun _ _ _ _ _ h => h) (Grow.refl _).drew ?_
          show wpQuiet _ _ _ _ [_, _, _, _, _, _, _, _, _, _] _
          repeat (first | go_big_quiet_skip | (go_big_quiet_want; first | (apply quiet_load CT_ints; rfl; rfl; exact (fun w' hG => hG.cell e1); go_big_quiet_on; simp only [Act.put, List.setIfInBounds_toArray, List.set_cons_succ, List.set_cons_zero]) | (apply quiet_load CT_ints; rfl; rfl; exact (fun w' hG => hG.cell e2); go_big_quiet_on; simp only [Act.put, List.setIfInBounds_toArray, List.set_cons_succ, List.set_cons_zero]) | (apply quiet_load CT_ints; rfl; rfl; exact (fun w' hG => hG.cell e2'); go_big_quiet_on; simp only [Act.put, List.setIfInBounds_toArray, List.set_cons_succ, List.set_cons_zero]) | (go_big_quiet_op; first | go_big_quiet_on | (refine ⟨_, (fun _ _ => rfl), ?_⟩; go_big_quiet_on))))
          refine wpQuiet_nil ?_
          refine seg_go rfl (fun K hK => ?_)
          go_wp2_with fail
          refine (eqClosure_c _ _ _ _ _ _ x y _ (rx.grow (Grow.refl _).drew) (ry.grow (Grow.refl _).drew) hxl).mono ?_
          rintro e w5 ⟨rfl, hQ⟩
          have hGx : Grow wr w5 := (Grow.refl wr).drew.trans hQ.grow
          clear hQ
          rw [Hsm.out]
          go_wp2_with fail
          refine hK _ _ (hGx) ?_
          clear hK K
          show wpQuiet _ _ _ _ [] _
          try (conv => arg 6; simp only [Act.put, List.setIfInBounds_toArray, List.set_cons_succ, List.set_cons_zero])
          refine wpQuiet_nil ?_
          refine wpSegs_nil ?_
          go_wp2
          go_roundw
          case rel =>
            refine ⟨hG.trans hGx, k + 1, by omega, by omega, by go_num, fun j h1 h2 => ?_⟩
            by_cases e : j = k
            · subst e; rw [hx, hy]; exact hsm
            · exact Hne.out j h1 (by omega)
          case measure => simp [intOf]; omega
        | true =>
          have Hsm := Lib.hid hsm
          have hR := T_intss.atL (a := (some ⟨g, 0, none⟩ : Option Addr)) (n := n) (cap := cap) (l := k) (i := k) rfl (by omega)
          have hsub : ∀ q, q < n → subA (some (⟨g, 0, none⟩ : Addr)) cap q 1 = some ⟨g, q, none⟩ := fun q hq => by
            unfold subA
            rw [if_neg (by omega)]
            simp [Addr.add]
            exact fun e => e.symm
          rw [hsub k hlt] at hR
          have hci : cIdx M (k + 1) = List.range k := by
            rw [cIdx_old (by omega) (by rw [hx, hy]; exact hsm), cIdx_range Hne.out]
          go_wp2
          refine wp_region_segs (S := Grow wr) [([0, 1, 2, 3, 4, 5, 6, 7, 8, 9], some 10), ([], none)] P_mixed (by kernel_rfl) (fun _ _ _ _ _ h => h) (Grow.refl _).drew ?_
          show wpQuiet _ _ _ _ [_, _, _, _, _, _, _, _, _, _] _
          repeat (first | go_big_quiet_skip | (go_big_quiet_want; first | (apply quiet_load CT_ints; rfl; rfl; exact (fun w' hG => hG.cell e1); go_big_quiet_on; simp only [Act.put, List.setIfInBounds_toArray, List.set_cons_succ, List.set_cons_zero]) | (apply quiet_load CT_ints; rfl; rfl; exact (fun w' hG => hG.cell e2); go_big_quiet_on; simp only [Act.put, List.setIfInBounds_toArray, List.set_cons_succ, List.set_cons_zero]) | (apply quiet_load CT_ints; rfl; rfl; exact (fun w' hG => hG.cell e2'); go_big_quiet_on; simp only [Act.put, List.setIfInBounds_toArray, List.set_cons_succ, List.set_cons_zero]) | (go_big_quiet_op; first | go_big_quiet_on | (refine ⟨_, (fun _ _ => rfl), ?_⟩; go_big_quiet_on))))
          refine wpQuiet_nil ?_
          refine seg_go rfl (fun K hK => ?_)
          go_wp2_with fail
          refine (eqClosure_c _ _ _ _ _ _ x y _ (rx.grow (Grow.refl _).drew) (ry.grow (Grow.refl _).drew) hxl).mono ?_
          rintro e w5 ⟨rfl, hQ⟩
          have hGx : Grow wr w5 := (Grow.refl wr).drew.trans hQ.grow
          clear hQ
          rw [Hsm.out]
          go_wp2_with fail
          refine hK _ _ (hGx) ?_
          clear hK K
          show wpQuiet _ _ _ _ [] _
          try (conv => arg 6; simp only [Act.put, List.setIfInBounds_toArray, List.set_cons_succ, List.set_cons_zero])
          refine wpQuiet_nil ?_
          refine wpSegs_nil ?_
          have hK5 := hK.trans (hGx.mono fun _ _ _ => trivial)
          have hO5 := hOw.grow hGx
          clear hx hy rx ry e1 e2 e2' hxl hyl hsm Hsm hOw hK hGx hG
          go_wp2
          clear hR
          go_loopw [5, 7] (fun i i2 wr => Keep (fun q => q ≠ g) w wr ∧ ∃ (q j : Nat) (W : List Value), 1 ≤ j ∧ k + j ≤ n ∧ i = .int .i64 q ∧ i2 = .int .i64 j ∧ Own wr 37 1 (some ⟨g, 0, none⟩) n cap W ∧ W.drop (k + j - 1) = vs.drop (k + j - 1) ∧ W.take q = (cIdx M (k + j)).map (fun i => vs.getD i (.slice none 0 0)) ∧ q = (cIdx M (k + j)).length ∧ q + 1 ≤ k + j) (fun _ i2 _ => n - (intOf i2).toNat)
          case atStart =>
            exact ⟨hK5, k, 1, vs, Nat.le_refl _, by omega, rfl, rfl, hO5, rfl, by rw [hci, take_getD _ (by omega)], by rw [hci]; simp, by omega⟩
          case round =>
            clear hK5 hO5 hci
            obtain ⟨hK, q, j, W, hj1, hjn, rfl, rfl, hOw, hdr, htk, hql, hqp⟩ := hrel
            have Hdr := Lib.hid hdr
            have Htk := Lib.hid htk
            have Hql := Lib.hid hql
            clear hdr htk hql
            have hWl : W.length = n := by have := hOw.len; omega
            by_cases hgo : k + j < n
            · obtain ⟨b1, c1, e1, rx, hxl⟩ := helt wr W (k + j) hK (drop_at Hdr.out (by omega)) hgo hOw
              obtain ⟨b2, c2, e2, ry, hyl⟩ := helt wr W (k + j - 1) hK (drop_at Hdr.out (by omega)) (by omega) hOw
              have hval : vs.getD (k + j) (.slice none 0 0) = .slice b1 (M.getD (k + j) []).length c1 := by
                have h1 : W[k + j]? = vs[k + j]? := drop_at Hdr.out (by omega)
                have h2 : W[k + j]? = some W[k + j] := List.getElem?_eq_getElem (by omega)
                have h3 := hOw.cell h2
                rw [e1] at h3
                rw [getD_at (h1.symm.trans h2)]
                exact (Option.some.inj h3).symm
              have Hval := Lib.hid hval; clear hval
              generalize hx : M.getD (k + j) [] = x at *
              generalize hy : M.getD (k + j - 1) [] = y at *
              have e2' : wr.cell? ⟨g, k + ((j : Int) - 1).toNat, none⟩ = some (.slice b2 y.length c2) := by rw [show k + ((j : Int) - 1).toNat = k + j - 1 by omega]; exact e2
              have e2'' : wr.cell? ⟨g, k + (j - 1), none⟩ = some (.slice b2 y.length c2) := by rw [show k + (j - 1) = k + j - 1 by omega]; exact e2
              cases hsm : sameI x y with
              | true =>
                have hnx : cIdx M (k + (j + 1)) = cIdx M (k + j) := by rw [← Nat.add_assoc]; exact cIdx_old (by omega) (by rw [hx, hy]; exact hsm)
                have Hnx := Lib.hid hnx
                have Hsm := Lib.hid hsm; clear hsm hnx hx hy
                go_wp2
                refine wp_region_segs (S := Grow wr) [([0, 1, 2, 3, 4, 5, 6, 7, 8, 9], some 10), ([11], none)] P_mixed (by kernel_rfl) (fun _ _ _ _ _ h => h) (Grow.refl _).drew ?_
                show wpQuiet _ _ _ _ [_, _, _, _, _, _, _, _, _, _] _
                repeat (first | go_big_quiet_skip | (go_big_quiet_want; first | (apply quiet_load CT_ints; rfl; rfl; exact (fun w' hG => hG.cell e1); go_big_quiet_on; simp only [Act.put, List.setIfInBounds_toArray, List.set_cons_succ, List.set_cons_zero]) | (apply quiet_load CT_ints; rfl; rfl; exact (fun w' hG => hG.cell e2'); go_big_quiet_on; simp only [Act.put, List.setIfInBounds_toArray, List.set_cons_succ, List.set_cons_zero]) | (apply quiet_load CT_ints; rfl; rfl; exact (fun w' hG => hG.cell e2''); go_big_quiet_on; simp only [Act.put, List.setIfInBounds_toArray, List.set_cons_succ, List.set_cons_zero]) | (go_big_quiet_op; first | go_big_quiet_on | (refine ⟨_, (fun _ _ => rfl), ?_⟩; go_big_quiet_on))))
                refine wpQuiet_nil ?_
                refine seg_go rfl (fun K hK => ?_)
                go_wp2_with fail
                refine (eqClosure_c _ _ _ _ _ _ x y _ (rx.grow (Grow.refl _).drew) (ry.grow (Grow.refl _).drew) hxl).mono ?_
                rintro e w5 ⟨rfl, hQ⟩
                have hGx : Grow wr w5 := (Grow.refl wr).drew.trans hQ.grow
                clear hQ
                rw [Hsm.out]
                go_wp2_with fail
                refine hK _ _ (hGx) ?_
                clear hK K
                show wpQuiet _ _ _ _ [_] _
                try (conv => arg 6; simp only [Act.put, List.setIfInBounds_toArray, List.set_cons_succ, List.set_cons_zero])
                repeat (first | go_big_quiet_skip | (go_big_quiet_want; first | (apply quiet_load CT_ints; rfl; rfl; exact (fun w' hG => hG.cell e1); go_big_quiet_on; simp only [Act.put, List.setIfInBounds_toArray, List.set_cons_succ, List.set_cons_zero]) | (apply quiet_load CT_ints; rfl; rfl; exact (fun w' hG => hG.cell e2'); go_big_quiet_on; simp only [Act.put, List.setIfInBounds_toArray, List.set_cons_succ, List.set_cons_zero]) | (apply quiet_load CT_ints; rfl; rfl; exact (fun w' hG => hG.cell e2''); go_big_quiet_on; simp only [Act.put, List.setIfInBounds_toArray, List.set_cons_succ, List.set_cons_zero]) | (go_big_quiet_op; first | go_big_quiet_on | (refine ⟨_, (fun _ _ => rfl), ?_⟩; go_big_quiet_on))))
                refine wpQuiet_nil ?_
                refine wpSegs_nil ?_
                go_wp2
                go_roundw
                case rel =>
                  exact ⟨hK.trans (hGx.mono fun _ _ _ => trivial), q, j + 1, W, by omega, by omega, rfl, by go_num, hOw.grow hGx, by
                    have := congrArg (List.drop 1) Hdr.out
                    rwa [List.drop_drop, List.drop_drop, show k + j - 1 + 1 = k + (j + 1) - 1 by omega] at this, by rw [Hnx.out]; exact Htk.out, by rw [Hnx.out]; exact Hql.out, by omega⟩
                case measure => simp [intOf]; omega
              | false =>
                have hnx : cIdx M (k + (j + 1)) = cIdx M (k + j) ++ [k + j] := by rw [← Nat.add_assoc]; exact cIdx_new (by rw [hx, hy]; exact hsm)
                have Hnx := Lib.hid hnx
                have Hsm := Lib.hid hsm; clear hsm hnx hx hy
                go_wp2
                refine wp_region_segs (S := Grow wr) [([0, 1, 2, 3, 4, 5, 6, 7, 8, 9], some 10), ([11], none)] P_mixed (by kernel_rfl) (fun _ _ _ _ _ h => h) (Grow.refl _).drew ?_
                show wpQuiet _ _ _ _ [_, _, _, _, _, _, _, _, _, _] _
                repeat (first | go_big_quiet_skip | (go_big_quiet_want; first | (apply quiet_load CT_ints; rfl; rfl; exact (fun w' hG => hG.cell e1); go_big_quiet_on; simp only [Act.put, List.setIfInBounds_toArray, List.set_cons_succ, List.set_cons_zero]) | (apply quiet_load CT_ints; rfl; rfl; exact (fun w' hG => hG.cell e2'); go_big_quiet_on; simp only [Act.put, List.setIfInBounds_toArray, List.set_cons_succ, List.set_cons_zero]) | (apply quiet_load CT_ints; rfl; rfl; exact (fun w' hG => hG.cell e2''); go_big_quiet_on; simp only [Act.put, List.setIfInBounds_toArray, List.set_cons_succ, List.set_cons_zero]) | (go_big_quiet_op; first | go_big_quiet_on | (refine ⟨_, (fun _ _ => rfl), ?_⟩; go_big_quiet_on))))
                refine wpQuiet_nil ?_
                refine seg_go rfl (fun K hK => ?_)
                go_wp2_with fail
                refine (eqClosure_c _ _ _ _ _ _ x y _ (rx.grow (Grow.refl _).drew) (ry.grow (Grow.refl _).drew) hxl).mono ?_
                rintro e w5 ⟨rfl, hQ⟩
                have hGx : Grow wr w5 := (Grow.refl wr).drew.trans hQ.grow
                clear hQ
                rw [Hsm.out]
                go_wp2_with fail
                refine hK _ _ (hGx) ?_
                clear hK K
                show wpQuiet _ _ _ _ [_] _
                try (conv => arg 6; simp only [Act.put, List.setIfInBounds_toArray, List.set_cons_succ, List.set_cons_zero])
                repeat (first | go_big_quiet_skip | (go_big_quiet_want; first | (apply quiet_load CT_ints; rfl; rfl; exact (fun w' hG => hG.cell e1); go_big_quiet_on; simp only [Act.put, List.setIfInBounds_toArray, List.set_cons_succ, List.set_cons_zero]) | (apply quiet_load CT_ints; rfl; rfl; exact (fun w' hG => hG.cell e2'); go_big_quiet_on; simp only [Act.put, List.setIfInBounds_toArray, List.set_cons_succ, List.set_cons_zero]) | (apply quiet_load CT_ints; rfl; rfl; exact (fun w' hG => hG.cell e2''); go_big_quiet_on; simp only [Act.put, List.setIfInBounds_toArray, List.set_cons_succ, List.set_cons_zero]) | (go_big_quiet_op; first | go_big_quiet_on | (refine ⟨_, (fun _ _ => rfl), ?_⟩; go_big_quiet_on))))
                refine wpQuiet_nil ?_
                refine wpSegs_nil ?_
                have hO5 := hOw.grow hGx
                have e15 := hGx.cell e1
                obtain ⟨cq, eq⟩ : ∃ c, w5.cell? ⟨g, q, none⟩ = some c := ⟨_, hO5.cell (List.getElem?_eq_getElem (by omega))⟩
                have fq := hO5.free q
                simp only at fq
                go_wp2
                go_roundw
                case rel =>
                  have hset := hO5.set q (.slice b1 x.length c1)
                  refine ⟨(hK.trans (hGx.mono fun _ _ _ => trivial)).setCell (p := ⟨g, q, none⟩) (fun _ e => e rfl) _, q + 1, j + 1, W.set q (.slice b1 x.length c1), by omega, by omega, by go_num, by go_num, hset, ?_, ?_, by rw [Hnx.out, List.length_append, ← Hql.out]; rfl, by omega⟩
                  · rw [List.drop_set_of_lt (by omega)]
                    have := congrArg (List.drop 1) Hdr.out
                    rwa [List.drop_drop, List.drop_drop, show k + j - 1 + 1 = k + (j + 1) - 1 by omega] at this
                  · rw [take_set_succ (by omega), Hnx.out, List.map_append, Htk.out]
                    simp only [List.map_cons, List.map_nil]
                    rw [Hval.out]
                case measure => simp [intOf]; omega
            · have hjn' : k + j = n := by omega
              have hR2 := T_intss.atL (a := (some ⟨g, 0, none⟩ : Option Addr)) (n := n) (cap := cap) (l := q) (i := q) rfl (by omega)
              rw [hsub q (by omega)] at hR2
              have hR3 := T_intss.atH (a := (some ⟨g, 0, none⟩ : Option Addr)) (n := n) (cap := cap) (k := q) (i := q) rfl (by omega)
              have hcl : ∀ ty, (Builtin.clear_ #[22] ty #[.slice (some ⟨g, q, none⟩) (n - q) (cap - q)]).run Try.prog wr = .ok (.tuple #[]) (wr.setCells g q (List.replicate (n - q) (.slice none 0 0))) :=
                fun ty => Go.Lib.run_clear_slice wr _ _ ty (.slice none 0 0) T_intss.ty (fun w => Try.zeroValue37 w) rfl rfl g q (n - q) (cap - q) (by omega) (fun i hi => by
                  rw [hOw.cell (j := q + i) (List.getElem?_eq_getElem (by omega))]; rfl) (fun i hi => hOw.free (q + i))
              obtain ⟨cs', hO9, ht9, hK9⟩ := Own.setCells (List.replicate (n - q) (.slice none 0 0)) (o := q) hOw
              go_wp2
              go_ret
              have hKf := hK.trans hK9
              have hOf := hO9.pre (k := q) (by omega)
              rw [ht9, Htk.out, hjn'] at hOf
              have hIf := (hI.keep hKf (fun b _ _ hne e => hne (by rw [e]; rfl))).sub (hsubl n (Nat.le_refl _))
              refine ⟨q, rfl, ⟨⟨_, hOf, ?_⟩, hlo⟩, hmono _ hKf⟩
              unfold compB
              rw [Hlen.out]
              exact hIf
      · have hkn : k = n := by omega
        have hc : compB M = M := by
          unfold compB
          rw [Hlen.out, cIdx_range fun i h1 h2 => Hne.out i h1 (by omega), ← Hlen.out]
          exact range_getD M []
        go_wp2
        go_ret
        exact ⟨n, rfl, by rw [hc]; exact ⟨⟨vs, hOw, hI.grow hG⟩, hlo⟩, hmono _ hK⟩
end Go.Proofs.Yteianlmindckpaa
