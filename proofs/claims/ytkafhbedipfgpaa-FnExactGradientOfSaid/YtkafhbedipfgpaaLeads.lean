/-
  Whether a way along arrows leads around: the program's search.
-/
import Derived.Test.YtkafhbedipfgpaaVisit
import Derived.Laws.EntriesVeiled
namespace Go.Proofs.Ytkafhbedipfgpaa
open Go.RowKit

theorem ints_upd (l : List Int) (i : Nat) (v : Int) : ints (l.set i v) = (ints l).set i (.int .i64 v) := by simp [ints, List.map_set]
def VPost (l : List Arw) (sb n : Nat) (st : List Int) (i : Nat) (w : World) (e : Ending) (w' : World) : Prop :=
  ∃ (b : Bool) (st' : List Int), e = .returned (.bool b) ∧ Own w' 3 1 (some ⟨sb, 0, none⟩) n n (ints st') ∧ Keep (fun q => q ≠ sb) w w' ∧ (if b then HasCyc l else VRel l st i st')

theorem CT_arrows : CellT Try.prog 47 := CellT.slice Try.underlying47
theorem CT_visit : CellT Try.prog 97 := ⟨_, Try.underlying97, (fun _ e => by cases e), (fun _ _ e => by cases e)⟩
/-- What a visit finds in memory. -/
structure VMem (w : World) (l : List Arw) (gs ga gv sb n : Nat) (aa : Option Addr) (ca : Nat) : Prop where
  hs : w.cell? ⟨gs, 0, none⟩ = some (.slice (some ⟨sb, 0, none⟩) n n)
  ha : w.cell? ⟨ga, 0, none⟩ = some (.slice aa n ca)
  hv : w.cell? ⟨gv, 0, none⟩ = some (.func (.func 111) #[] #[.pointer (some ⟨gs, 0, none⟩), .pointer (some ⟨ga, 0, none⟩), .pointer (some ⟨gv, 0, none⟩)])
  rd : RdA w (fun q => q ≠ sb) aa n ca l
  ns : gs ≠ sb
  na : ga ≠ sb
  nv : gv ≠ sb
theorem VMem.keep {w w' : World} {l : List Arw} {gs ga gv sb n : Nat} {aa : Option Addr} {ca : Nat} (h : VMem w l gs ga gv sb n aa ca) (hk : Keep (fun q => q ≠ sb) w w') : VMem w' l gs ga gv sb n aa ca :=
  ⟨hk.cell h.ns h.hs, hk.cell h.na h.ha, hk.cell h.nv h.hv, h.rd.keep hk fun _ _ h => h, h.ns, h.na, h.nv⟩

set_option maxHeartbeats 4000000 in
set_option maxRecDepth 100000 in
theorem visit_c (l : List Arw) (gs ga gv sb n : Nat) (aa : Option Addr) (ca : Nat) (hn : n ≤ 1048576) (ht : total (flat l) ≤ 1048576) : ∀ (f : Nat) (st : List Int) (i : Nat) (w : World), st.count 0 < f → i < n → VMem w l gs ga gv sb n aa ca → Own w 3 1 (some ⟨sb, 0, none⟩) n n (ints st) → VOk l st → VPre l st i →
    Calls Try.prog 111 #[.int .i64 i, .pointer (some ⟨gs, 0, none⟩), .pointer (some ⟨ga, 0, none⟩), .pointer (some ⟨gv, 0, none⟩)] w (VPost l sb n st i w)
  | 0, st, i, w, hf, _, _, _, _, _ => absurd hf (Nat.not_lt_zero _)
  | f + 1, st, i, w, hf, hi, hM, hO, hok, hpre => by
    have ih := visit_c l gs ga gv sb n aa ca hn ht f
    have hln : l.length = n := hM.rd.len
    have Hok := hok
    have hlen : st.length = n := by rw [hok.len]; exact hln
    obtain ⟨x, hx⟩ : ∃ x, st[i]? = some x := ⟨_, List.getElem?_eq_getElem (by omega)⟩
    have hcs := hM.hs; have hca := hM.ha; have hcv := hM.hv
    have hcell := hO.cell (j := i) (c := .int .i64 x) (by simp [hx])
    simp only at hcell
    have hfr := hO.free i
    simp only at hfr
    have Hx := Lib.hid hx; have Hlen := Lib.hid hlen; have Hln := Lib.hid hln
    clear hx hlen hln
    by_cases h0 : x = 0
    · subst h0
      have hin := VIn.start hok Hx.out
      have hO1 := hO.set i (.int .i64 1)
      rw [← ints_upd] at hO1
      have hK1 : Keep (fun q => q ≠ sb) w (w.setCell ⟨sb, i, none⟩ (.int .i64 1)) := (Keep.refl _ _).setCell (fun _ e => e rfl) _
      clear hcv hok
      have na := hM.na; have ns := hM.ns
      have hca1 := (hM.keep hK1).ha
      go_enter Try.func111, Try.ntmps111
      go_wp2
      go_loopw [23] (fun q wr => Keep (fun q => q ≠ sb) w wr ∧ ∃ (k : Nat) (s : List Int), k ≤ n ∧ q = .int .i64 k ∧ Own wr 3 1 (some ⟨sb, 0, none⟩) n n (ints s) ∧ VIn l st i k s) (fun q _ => n - (intOf q).toNat)
      case atStart => exact ⟨hK1, 0, _, Nat.zero_le _, rfl, hO1, hin⟩
      case round =>
        clear hin hO1 hK1 hcs hca hcell hfr
        obtain ⟨hK, k, s, hk, rfl, hOs, hin⟩ := hrel
        have hMr := hM.keep hK
        by_cases hlt : k < n
        · obtain ⟨b, off, x, y, a1, c1, a2, c2, rfl, hx, hbs, hbw, ⟨hc1, hc2⟩, r1, r2⟩ := hMr.rd.at hlt
          obtain ⟨b', off', xi, yi, d1, e1, d2, e2, he, hxi, hbs', hbw', ⟨hd1, hd2⟩, s1, s2⟩ := hMr.rd.at hi
          obtain ⟨rfl, rfl⟩ : b = b' ∧ off = off' := by simpa using he
          have hgo : goesB l i k = (decide (k ≠ i) && isFaceB x yi) := by unfold goesB; simp [List.getD, hx, hxi]
          have htx := (flat_total_at hx).2
          have hti := (flat_total_at hxi).2
          have hcs := hMr.hs; have hca := hMr.ha; have hcv := hMr.hv
          have hsb : sb < wr.heap.size := hOs.lt rfl
          have hKa : Keep (fun q => q ≠ sb) wr (wr.alloc (.cells #[.slice a1 x.length c1, .slice a2 y.length c2] 79)) := (Keep.refl _ _).alloc _ _
          have hBa := Blk.new wr #[.slice a1 x.length c1, .slice a2 y.length c2] 79
          have p0 : (wr.alloc (.cells #[.slice a1 x.length c1, .slice a2 y.length c2] 79)).cell? ⟨wr.heap.size, 0, none⟩ = some (.slice a1 x.length c1) := hBa.cell 0
          have hgs : wr.heap.size ≠ sb := by omega
          have na := hM.na; have nv := hM.nv
          have Hgo := Lib.hid hgo
          have Hx := Lib.hid hx
          clear hgo hx hxi he hd1 s1
          by_cases hki : k = i
          · have Hki := Lib.hid hki
            have q1 : ((k : Int) != (i : Int)) = false := by simp [hki]
            clear hki
            go_wp2
            refine wp_region_segs (S := (Keep (fun q => q ≠ sb) (wr.alloc (.cells #[.slice a1 x.length c1, .slice a2 y.length c2] 79)))) [([0, 1, 2, 3, 4, 5, 6, 7, 8, 9, 10], some 11), ([12, 13, 14, 15], some 16), ([17], none)] P_mixed (by kernel_rfl) (fun _ _ _ _ _ h => h) (Keep.refl _ _).drew ?_
            show wpQuiet _ _ _ _ [_, _, _, _, _, _, _, _, _, _, _] _
            repeat (first | go_big_quiet_skip | (go_big_quiet_want; first | (go_big_quiet_op; first | go_big_quiet_on | (refine ⟨_, (fun _ _ => rfl), ?_⟩; go_big_quiet_on))))
            refine wpQuiet_nil ?_
            refine seg_skip rfl ((Keep.refl _ _).drew) ?_
            show wpQuiet _ _ _ _ [_, _, _, _] _
            try (conv => arg 6; simp only [Act.put, List.setIfInBounds_toArray, List.set_cons_succ, List.set_cons_zero])
            repeat (first | go_big_quiet_skip | (go_big_quiet_want; first | (go_big_quiet_op; first | go_big_quiet_on | (refine ⟨_, (fun _ _ => rfl), ?_⟩; go_big_quiet_on))))
            refine wpQuiet_nil ?_
            refine seg_skip rfl ((Keep.refl _ _).drew) ?_
            show wpQuiet _ _ _ _ [_] _
            try (conv => arg 6; simp only [Act.put, List.setIfInBounds_toArray, List.set_cons_succ, List.set_cons_zero])
            repeat (first | go_big_quiet_skip | (go_big_quiet_want; first | (go_big_quiet_op; first | go_big_quiet_on | (refine ⟨_, (fun _ _ => rfl), ?_⟩; go_big_quiet_on))))
            refine wpQuiet_nil ?_
            refine wpSegs_nil ?_
            go_wp2
            go_roundw
            case rel => exact ⟨(hK.trans hKa).drew, k + 1, s, by omega, by go_num, (hOs.keep ((Grow.refl wr).alloc _ _) (fun _ _ _ => trivial)).grow (Grow.refl _).drew, hin.pass (by rw [Hgo.out]; simp [Hki.out])⟩
            case measure => simp [intOf]; omega
          · have q1 : ((k : Int) != (i : Int)) = true := by simp; omega
            have Hki := Lib.hid hki
            clear hki
            have hGa : Grow wr (wr.alloc (.cells #[.slice a1 x.length c1, .slice a2 y.length c2] 79)) := (Grow.refl _).alloc _ _
            have hOa := hOs.grow hGa
            have hMa := hMr.keep hKa
            have hca' := hMa.ha; have hcv' := hMa.hv
            have hd2' := hGa.cell hd2
            have r1a := r1.grow hGa
            have s2a := s2.grow hGa
            generalize hwa : wr.alloc (.cells #[.slice a1 x.length c1, .slice a2 y.length c2] 79) = wa at *
            have Hwa := Lib.hid hwa
            clear hwa
            cases hf : isFaceB x yi with
            | false =>
              have Hf := Lib.hid hf; clear hf
              go_wp2
              rw [Hwa.out]
              refine wp_region_segs (S := (Keep (fun q => q ≠ sb) wa)) [([0, 1, 2, 3, 4, 5, 6, 7, 8, 9, 10], some 11), ([12, 13, 14, 15], some 16), ([17], none)] P_mixed (by kernel_rfl) (fun _ _ _ _ _ h => h) (Keep.refl _ _).drew ?_
              show wpQuiet _ _ _ _ [_, _, _, _, _, _, _, _, _, _, _] _
              repeat (first | go_big_quiet_skip | (go_big_quiet_want; first | (apply quiet_load CT_ints; rfl; rfl; exact (fun w' hG => hG.cell hgs p0); go_big_quiet_on; simp only [Act.put, List.setIfInBounds_toArray, List.set_cons_succ, List.set_cons_zero]) | (apply quiet_load CT_arrows; rfl; rfl; exact (fun w' hG => hG.cell na hca'); go_big_quiet_on; simp only [Act.put, List.setIfInBounds_toArray, List.set_cons_succ, List.set_cons_zero]) | (apply quiet_load CT_ints; rfl; rfl; exact (fun w' hG => hG.cell hbs hd2'); go_big_quiet_on; simp only [Act.put, List.setIfInBounds_toArray, List.set_cons_succ, List.set_cons_zero]) | (go_big_quiet_op; first | go_big_quiet_on | (refine ⟨_, (fun _ _ => rfl), ?_⟩; go_big_quiet_on))))
              refine wpQuiet_nil ?_
              refine seg_go rfl (fun K hK => ?_)
              go_wp2_with fail
              refine (isFaceOf_c _ _ _ _ _ _ x yi _ (r1a.grow (Grow.refl _).drew) (s2a.grow (Grow.refl _).drew) (by omega) (by omega)).mono ?_
              rintro e w1 ⟨rfl, hG1⟩
              have hKf : Keep (fun q => q ≠ sb) wa w1 := ((Grow.refl wa).drew.trans hG1).any
              rw [Hf.out]
              go_wp2_with fail
              refine hK _ _ (hKf) ?_
              clear hK K
              show wpQuiet _ _ _ _ [_, _, _, _] _
              try (conv => arg 6; simp only [Act.put, List.setIfInBounds_toArray, List.set_cons_succ, List.set_cons_zero])
              repeat (first | go_big_quiet_skip | (go_big_quiet_want; first | (apply quiet_load CT_ints; rfl; rfl; exact (fun w' hG => hG.cell hgs p0); go_big_quiet_on; simp only [Act.put, List.setIfInBounds_toArray, List.set_cons_succ, List.set_cons_zero]) | (apply quiet_load CT_arrows; rfl; rfl; exact (fun w' hG => hG.cell na hca'); go_big_quiet_on; simp only [Act.put, List.setIfInBounds_toArray, List.set_cons_succ, List.set_cons_zero]) | (apply quiet_load CT_ints; rfl; rfl; exact (fun w' hG => hG.cell hbs hd2'); go_big_quiet_on; simp only [Act.put, List.setIfInBounds_toArray, List.set_cons_succ, List.set_cons_zero]) | (go_big_quiet_op; first | go_big_quiet_on | (refine ⟨_, (fun _ _ => rfl), ?_⟩; go_big_quiet_on))))
              refine wpQuiet_nil ?_
              refine seg_skip rfl (hKf) ?_
              show wpQuiet _ _ _ _ [_] _
              try (conv => arg 6; simp only [Act.put, List.setIfInBounds_toArray, List.set_cons_succ, List.set_cons_zero])
              repeat (first | go_big_quiet_skip | (go_big_quiet_want; first | (apply quiet_load CT_ints; rfl; rfl; exact (fun w' hG => hG.cell hgs p0); go_big_quiet_on; simp only [Act.put, List.setIfInBounds_toArray, List.set_cons_succ, List.set_cons_zero]) | (apply quiet_load CT_arrows; rfl; rfl; exact (fun w' hG => hG.cell na hca'); go_big_quiet_on; simp only [Act.put, List.setIfInBounds_toArray, List.set_cons_succ, List.set_cons_zero]) | (apply quiet_load CT_ints; rfl; rfl; exact (fun w' hG => hG.cell hbs hd2'); go_big_quiet_on; simp only [Act.put, List.setIfInBounds_toArray, List.set_cons_succ, List.set_cons_zero]) | (go_big_quiet_op; first | go_big_quiet_on | (refine ⟨_, (fun _ _ => rfl), ?_⟩; go_big_quiet_on))))
              refine wpQuiet_nil ?_
              refine wpSegs_nil ?_
              go_wp2
              go_roundw
              case rel => exact ⟨(hK.trans hKa).trans hKf, k + 1, s, by omega, by go_num, hOa.grow ((Grow.refl wa).drew.trans hG1), hin.pass (by rw [Hgo.out, Hf.out]; simp)⟩
              case measure => simp [intOf]; omega
            | true =>
              have Hf := Lib.hid hf; clear hf
              have hg : goesB l i k = true := by rw [Hgo.out, Hf.out]; simp [Hki.out]
              go_wp2
              rw [Hwa.out]
              refine wp_region_segs (S := (Keep (fun q => q ≠ sb) wa)) [([0, 1, 2, 3, 4, 5, 6, 7, 8, 9, 10], some 11), ([12, 13, 14, 15], some 16), ([17], none)] P_mixed (by kernel_rfl) (fun _ _ _ _ _ h => h) (Keep.refl _ _).drew ?_
              show wpQuiet _ _ _ _ [_, _, _, _, _, _, _, _, _, _, _] _
              repeat (first | go_big_quiet_skip | (go_big_quiet_want; first | (apply quiet_load CT_ints; rfl; rfl; exact (fun w' hG => hG.cell hgs p0); go_big_quiet_on; simp only [Act.put, List.setIfInBounds_toArray, List.set_cons_succ, List.set_cons_zero]) | (apply quiet_load CT_arrows; rfl; rfl; exact (fun w' hG => hG.cell na hca'); go_big_quiet_on; simp only [Act.put, List.setIfInBounds_toArray, List.set_cons_succ, List.set_cons_zero]) | (apply quiet_load CT_ints; rfl; rfl; exact (fun w' hG => hG.cell hbs hd2'); go_big_quiet_on; simp only [Act.put, List.setIfInBounds_toArray, List.set_cons_succ, List.set_cons_zero]) | (apply quiet_load CT_visit; rfl; rfl; exact (fun w' hG => hG.cell nv hcv'); go_big_quiet_on; simp only [Act.put, List.setIfInBounds_toArray, List.set_cons_succ, List.set_cons_zero]) | (go_big_quiet_op; first | go_big_quiet_on | (refine ⟨_, (fun _ _ => rfl), ?_⟩; go_big_quiet_on))))
              refine wpQuiet_nil ?_
              refine seg_go rfl (fun K hK => ?_)
              go_wp2_with fail
              refine (isFaceOf_c _ _ _ _ _ _ x yi _ (r1a.grow (Grow.refl _).drew) (s2a.grow (Grow.refl _).drew) (by omega) (by omega)).mono ?_
              rintro e w1 ⟨rfl, hG1⟩
              have hG1' := (Grow.refl wa).drew.trans hG1
              have hKf : Keep (fun q => q ≠ sb) wa w1 := hG1'.any
              rw [Hf.out]
              go_wp2_with fail
              refine hK _ _ (hKf) ?_
              clear hK K
              show wpQuiet _ _ _ _ [_, _, _, _] _
              try (conv => arg 6; simp only [Act.put, List.setIfInBounds_toArray, List.set_cons_succ, List.set_cons_zero])
              repeat (first | go_big_quiet_skip | (go_big_quiet_want; first | (apply quiet_load CT_ints; rfl; rfl; exact (fun w' hG => hG.cell hgs p0); go_big_quiet_on; simp only [Act.put, List.setIfInBounds_toArray, List.set_cons_succ, List.set_cons_zero]) | (apply quiet_load CT_arrows; rfl; rfl; exact (fun w' hG => hG.cell na hca'); go_big_quiet_on; simp only [Act.put, List.setIfInBounds_toArray, List.set_cons_succ, List.set_cons_zero]) | (apply quiet_load CT_ints; rfl; rfl; exact (fun w' hG => hG.cell hbs hd2'); go_big_quiet_on; simp only [Act.put, List.setIfInBounds_toArray, List.set_cons_succ, List.set_cons_zero]) | (apply quiet_load CT_visit; rfl; rfl; exact (fun w' hG => hG.cell nv hcv'); go_big_quiet_on; simp only [Act.put, List.setIfInBounds_toArray, List.set_cons_succ, List.set_cons_zero]) | (go_big_quiet_op; first | go_big_quiet_on | (refine ⟨_, (fun _ _ => rfl), ?_⟩; go_big_quiet_on))))
              refine wpQuiet_nil ?_
              refine seg_go rfl (fun K hK => ?_)
              go_wp2_with fail
              refine (ih s k _ (by have := hin.cnt; omega) hlt (hMa.keep hKf) (hOa.grow hG1') hin.ok (hin.pre hpre hg)).mono ?_
              rintro e w2 ⟨bb, st', rfl, hO2, hK2, hres⟩
              have hKf2 := hKf.trans hK2
              cases bb with
              | true =>
                go_wp2_with fail
                refine hK _ _ (hKf2) ?_
                clear hK K
                show wpQuiet _ _ _ _ [_] _
                try (conv => arg 6; simp only [Act.put, List.setIfInBounds_toArray, List.set_cons_succ, List.set_cons_zero])
                repeat (first | go_big_quiet_skip | (go_big_quiet_want; first | (apply quiet_load CT_ints; rfl; rfl; exact (fun w' hG => hG.cell hgs p0); go_big_quiet_on; simp only [Act.put, List.setIfInBounds_toArray, List.set_cons_succ, List.set_cons_zero]) | (apply quiet_load CT_arrows; rfl; rfl; exact (fun w' hG => hG.cell na hca'); go_big_quiet_on; simp only [Act.put, List.setIfInBounds_toArray, List.set_cons_succ, List.set_cons_zero]) | (apply quiet_load CT_ints; rfl; rfl; exact (fun w' hG => hG.cell hbs hd2'); go_big_quiet_on; simp only [Act.put, List.setIfInBounds_toArray, List.set_cons_succ, List.set_cons_zero]) | (apply quiet_load CT_visit; rfl; rfl; exact (fun w' hG => hG.cell nv hcv'); go_big_quiet_on; simp only [Act.put, List.setIfInBounds_toArray, List.set_cons_succ, List.set_cons_zero]) | (go_big_quiet_op; first | go_big_quiet_on | (refine ⟨_, (fun _ _ => rfl), ?_⟩; go_big_quiet_on))))
                refine wpQuiet_nil ?_
                refine wpSegs_nil ?_
                go_wp2
                go_ret
                exact ⟨true, st', rfl, hO2, (hK.trans hKa).trans hKf2, hres⟩
              | false =>
                go_wp2_with fail
                refine hK _ _ (hKf2) ?_
                clear hK K
                show wpQuiet _ _ _ _ [_] _
                try (conv => arg 6; simp only [Act.put, List.setIfInBounds_toArray, List.set_cons_succ, List.set_cons_zero])
                repeat (first | go_big_quiet_skip | (go_big_quiet_want; first | (apply quiet_load CT_ints; rfl; rfl; exact (fun w' hG => hG.cell hgs p0); go_big_quiet_on; simp only [Act.put, List.setIfInBounds_toArray, List.set_cons_succ, List.set_cons_zero]) | (apply quiet_load CT_arrows; rfl; rfl; exact (fun w' hG => hG.cell na hca'); go_big_quiet_on; simp only [Act.put, List.setIfInBounds_toArray, List.set_cons_succ, List.set_cons_zero]) | (apply quiet_load CT_ints; rfl; rfl; exact (fun w' hG => hG.cell hbs hd2'); go_big_quiet_on; simp only [Act.put, List.setIfInBounds_toArray, List.set_cons_succ, List.set_cons_zero]) | (apply quiet_load CT_visit; rfl; rfl; exact (fun w' hG => hG.cell nv hcv'); go_big_quiet_on; simp only [Act.put, List.setIfInBounds_toArray, List.set_cons_succ, List.set_cons_zero]) | (go_big_quiet_op; first | go_big_quiet_on | (refine ⟨_, (fun _ _ => rfl), ?_⟩; go_big_quiet_on))))
                refine wpQuiet_nil ?_
                refine wpSegs_nil ?_
                go_wp2
                go_roundw
                case rel => exact ⟨(hK.trans hKa).trans hKf2, k + 1, st', by omega, by go_num, hO2, hin.more hres⟩
                case measure => simp [intOf]; omega
        · have hkn : k = n := by omega
          subst hkn
          have hcs := hMr.hs
          obtain ⟨y, hy⟩ : ∃ y, s[i]? = some y := ⟨_, hin.self⟩
          have hcell := hOs.cell (j := i) (c := .int .i64 y) (by simp [hy])
          have hfr := hOs.free i
          simp only at hcell hfr
          clear hy
          have hO2 := hOs.set i (.int .i64 2)
          rw [← ints_upd] at hO2
          go_wp2
          go_ret
          exact ⟨false, _, rfl, hO2, hK.setCell (fun _ e => e rfl) _, by rw [← Hln.out] at hin; exact hin.finish Hx.out⟩
    · by_cases h1 : x = 1
      · subst h1
        go_enter Try.func111, Try.ntmps111
        go_wp2
        go_ret
        exact ⟨true, st, rfl, hO, Keep.refl _ _, hpre.cyc hok Hx.out⟩
      · have h2 : x = 2 := by have := hok.val i x Hx.out; omega
        subst h2
        go_enter Try.func111, Try.ntmps111
        go_wp2
        go_ret
        exact ⟨false, st, rfl, hO, Keep.refl _ _, VRel.id hok Hx.out⟩

end Go.Proofs.Ytkafhbedipfgpaa
