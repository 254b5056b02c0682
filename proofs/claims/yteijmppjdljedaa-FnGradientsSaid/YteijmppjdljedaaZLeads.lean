/-
  Whether a way along arrows leads around: the program's search.
-/
import Derived.Test.YteijmppjdljedaaZVisit
import Derived.Laws.EntriesVeiled
import Derived.Test.YteijmppjdljedaaZAcyc
namespace Go.Proofs.Yteijmppjdljedaa
open Go.RowKit

theorem ints_upd (l : List Int) (i : Nat) (v : Int) : ints (l.set i v) = (ints l).set i (.int .i64 v) := by simp [ints, List.map_set]
def VPost (l : List Arw) (sb n : Nat) (st : List Int) (i : Nat) (w : World) (e : Ending) (w' : World) : Prop :=
  ∃ (b : Bool) (st' : List Int), e = .returned (.bool b) ∧ Own w' 3 1 (some ⟨sb, 0, none⟩) n n (ints st') ∧ Keep (fun q => q ≠ sb) w w' ∧ (if b then HasCyc l else VRel l st i st')

theorem CT_arrows : CellT Try.prog 26 := CellT.slice Try.underlying26
theorem CT_visit : CellT Try.prog 61 := ⟨_, Try.underlying61, (fun _ e => by cases e), (fun _ _ e => by cases e)⟩
/-- What a visit finds in memory. -/
structure VMem (w : World) (l : List Arw) (gs ga gv sb n : Nat) (aa : Option Addr) (ca : Nat) : Prop where
  hs : w.cell? ⟨gs, 0, none⟩ = some (.slice (some ⟨sb, 0, none⟩) n n)
  ha : w.cell? ⟨ga, 0, none⟩ = some (.slice aa n ca)
  hv : w.cell? ⟨gv, 0, none⟩ = some (.func (.func 38) #[] #[.pointer (some ⟨gs, 0, none⟩), .pointer (some ⟨ga, 0, none⟩), .pointer (some ⟨gv, 0, none⟩)])
  rd : RdA w (fun q => q ≠ sb) aa n ca l
  ns : gs ≠ sb
  na : ga ≠ sb
  nv : gv ≠ sb
theorem VMem.keep {w w' : World} {l : List Arw} {gs ga gv sb n : Nat} {aa : Option Addr} {ca : Nat} (h : VMem w l gs ga gv sb n aa ca) (hk : Keep (fun q => q ≠ sb) w w') : VMem w' l gs ga gv sb n aa ca :=
  ⟨hk.cell h.ns h.hs, hk.cell h.na h.ha, hk.cell h.nv h.hv, h.rd.keep hk fun _ _ h => h, h.ns, h.na, h.nv⟩

set_option maxHeartbeats 4000000 in
set_option maxRecDepth 100000 in
theorem visit_c (l : List Arw) (gs ga gv sb n : Nat) (aa : Option Addr) (ca : Nat) (hn : n ≤ 1048576) (ht : total (flat l) ≤ 1048576) : ∀ (f : Nat) (st : List Int) (i : Nat) (w : World), st.count 0 < f → i < n → VMem w l gs ga gv sb n aa ca → Own w 3 1 (some ⟨sb, 0, none⟩) n n (ints st) → VOk l st → VPre l st i →
    Calls Try.prog 38 #[.int .i64 i, .pointer (some ⟨gs, 0, none⟩), .pointer (some ⟨ga, 0, none⟩), .pointer (some ⟨gv, 0, none⟩)] w (VPost l sb n st i w)
  | 0, st, i, w, hf, _, _, _, _, _ => absurd hf (Nat.not_lt_zero _)
  | f + 1, st, i, w, hf, hi, hM, hO, hok, hpre => by
    have ih := visit_c l gs ga gv sb n aa ca hn ht f
    have hln : l.length = n := hM.rd.len
    have Hok := hok
    have hlen : st.length = n := by rw [hok.len]; exact hln
    obtain ⟨x, hx⟩ : ∃ x, st[i]? = some x := ⟨_, List.getElem?_eq_getElem (by omega)⟩
    have hcs := hM.hs; have hca := hM.ha; have hcv := hM.hv
    have hcell := hO.cell (j := i) (c := .int .i64 x) (by simp [hx])
    simp only at hcell
    have hfr := hO.free i
    simp only at hfr
    have Hx := Lib.hid hx; have Hlen := Lib.hid hlen; have Hln := Lib.hid hln
    clear hx hlen hln
    by_cases h0 : x = 0
    · subst h0
      have hin := VIn.start hok Hx.out
      have hO1 := hO.set i (.int .i64 1)
      rw [← ints_upd] at hO1
      have hK1 : Keep (fun q => q ≠ sb) w (w.setCell ⟨sb, i, none⟩ (.int .i64 1)) := (Keep.refl _ _).setCell (fun _ e => e rfl) _
      clear hcv hok
      have na := hM.na; have ns := hM.ns
      have hca1 := (hM.keep hK1).ha
      go_enter Try.func38, Try.ntmps38
      go_wp2
      go_loopw [23] (fun q wr => Keep (fun q => q ≠ sb) w wr ∧ ∃ (k : Nat) (s : List Int), k ≤ n ∧ q = .int .i64 k ∧ Own wr 3 1 (some ⟨sb, 0, none⟩) n n (ints s) ∧ VIn l st i k s) (fun q _ => n - (intOf q).toNat)
      case atStart => exact ⟨hK1, 0, _, Nat.zero_le _, rfl, hO1, hin⟩
      case round =>
        clear hin hO1 hK1 hcs hca hcell hfr
        obtain ⟨hK, k, s, hk, rfl, hOs, hin⟩ := hrel
        have hMr := hM.keep hK
        by_cases hlt : k < n
        · obtain ⟨b, off, x, y, a1, c1, a2, c2, rfl, hx, hbs, hbw, ⟨hc1, hc2⟩, r1, r2⟩ := hMr.rd.at hlt
          obtain ⟨b', off', xi, yi, d1, e1, d2, e2, he, hxi, hbs', hbw', ⟨hd1, hd2⟩, s1, s2⟩ := hMr.rd.at hi
          obtain ⟨rfl, rfl⟩ : b = b' ∧ off = off' := by simpa using he
          have hgo : goesB l i k = (decide (k ≠ i) && isFaceB x yi) := by unfold goesB; simp [List.getD, hx, hxi]
          have htx := (flat_total_at hx).2
          have hti := (flat_total_at hxi).2
          have hcs := hMr.hs; have hca := hMr.ha; have hcv := hMr.hv
          have hsb : sb < wr.heap.size := hOs.lt rfl
          have hKa : Keep (fun q => q ≠ sb) wr (wr.alloc (.cells #[.slice a1 x.length c1, .slice a2 y.length c2] 43)) := (Keep.refl _ _).alloc _ _
          have hBa := Blk.new wr #[.slice a1 x.length c1, .slice a2 y.length c2] 43
          have p0 : (wr.alloc (.cells #[.slice a1 x.length c1, .slice a2 y.length c2] 43)).cell? ⟨wr.heap.size, 0, none⟩ = some (.slice a1 x.length c1) := hBa.cell 0
          have hgs : wr.heap.size ≠ sb := by omega
          have na := hM.na; have nv := hM.nv
          have Hgo := Lib.hid hgo
          have Hx := Lib.hid hx
          clear hgo hx hxi he hd1 s1
          by_cases hki : k = i
          · have Hki := Lib.hid hki
            have q1 : ((k : Int) != (i : Int)) = false := by simp [hki]
            clear hki
            go_wp2
            refine wp_region_segs (S := (Keep (fun q => q ≠ sb) (wr.alloc (.cells #[.slice a1 x.length c1, .slice a2 y.length c2] 43)))) [([0, 1, 2, 3, 4, 5, 6, 7, 8, 9, 10], some 11), ([12, 13, 14, 15], some 16), ([17], none)] P_mixed (by kernel_rfl) (fun _ _ _ _ _ h => h) (Keep.refl _ _).drew ?_
            show wpQuiet _ _ _ _ [_, _, _, _, _, _, _, _, _, _, _] _
            repeat (first | go_big_quiet_skip | (go_big_quiet_want; first | (go_big_quiet_op; first | go_big_quiet_on | (refine ⟨_, (fun _ _ => rfl), ?_⟩; go_big_quiet_on))))
            refine wpQuiet_nil ?_
            refine seg_skip rfl ((Keep.refl _ _).drew) ?_
            show wpQuiet _ _ _ _ [_, _, _, _] _
            try (conv => arg 6; simp only [Act.put, List.setIfInBounds_toArray, List.set_cons_succ, List.set_cons_zero])
            repeat (first | go_big_quiet_skip | (go_big_quiet_want; first | (go_big_quiet_op; first | go_big_quiet_on | (refine ⟨_, (fun _ _ => rfl), ?_⟩; go_big_quiet_on))))
            refine wpQuiet_nil ?_
            refine seg_skip rfl ((Keep.refl _ _).drew) ?_
            show wpQuiet _ _ _ _ [_] _
            try (conv => arg 6; simp only [Act.put, List.setIfInBounds_toArray, List.set_cons_succ, List.set_cons_zero])
            repeat (first | go_big_quiet_skip | (go_big_quiet_want; first | (go_big_quiet_op; first | go_big_quiet_on | (refine ⟨_, (fun _ _ => rfl), ?_⟩; go_big_quiet_on))))
            refine wpQuiet_nil ?_
            refine wpSegs_nil ?_
            go_wp2
            go_roundw
            case rel => exact ⟨(hK.trans hKa).drew, k + 1, s, by omega, by go_num, (hOs.keep ((Grow.refl wr).alloc _ _) (fun _ _ _ => trivial)).grow (Grow.refl _).drew, hin.pass (by rw [Hgo.out]; simp [Hki.out])⟩
            case measure => simp [intOf]; omega
          · have q1 : ((k : Int) != (i : Int)) = true := by simp; omega
            have Hki := Lib.hid hki
            clear hki
            have hGa : Grow wr (wr.alloc (.cells #[.slice a1 x.length c1, .slice a2 y.length c2] 43)) := (Grow.refl _).alloc _ _
            have hOa := hOs.grow hGa
            have hMa := hMr.keep hKa
            have hca' := hMa.ha; have hcv' := hMa.hv
            have hd2' := hGa.cell hd2
            have r1a := r1.grow hGa
            have s2a := s2.grow hGa
            generalize hwa : wr.alloc (.cells #[.slice a1 x.length c1, .slice a2 y.length c2] 43) = wa at *
            have Hwa := Lib.hid hwa
            clear hwa
            cases hf : isFaceB x yi with
            | false =>
              have Hf := Lib.hid hf; clear hf
              go_wp2
              rw [Hwa.out]
              refine wp_region_segs (S := (Keep (fun q => q ≠ sb) wa)) [([0, 1, 2, 3, 4, 5, 6, 7, 8, 9, 10], some 11), ([12, 13, 14, 15], some 16), ([17], none)] P_mixed (by kernel_rfl) (fun _ _ _ _ _ h => h) (Keep.refl _ _).drew ?_
              show wpQuiet _ _ _ _ [_, _, _, _, _, _, _, _, _, _, _] _
              repeat (first | go_big_quiet_skip | (go_big_quiet_want; first | (apply quiet_load CT_ints; rfl; rfl; exact (fun w' hG => hG.cell hgs p0); go_big_quiet_on; simp only [Act.put, List.setIfInBounds_toArray, List.set_cons_succ, List.set_cons_zero]) | (apply quiet_load CT_arrows; rfl; rfl; exact (fun w' hG => hG.cell na hca'); go_big_quiet_on; simp only [Act.put, List.setIfInBounds_toArray, List.set_cons_succ, List.set_cons_zero]) | (apply quiet_load CT_ints; rfl; rfl; exact (fun w' hG => hG.cell hbs hd2'); go_big_quiet_on; simp only [Act.put, List.setIfInBounds_toArray, List.set_cons_succ, List.set_cons_zero]) | (go_big_quiet_op; first | go_big_quiet_on | (refine ⟨_, (fun _ _ => rfl), ?_⟩; go_big_quiet_on))))
              refine wpQuiet_nil ?_
              refine seg_go rfl (fun K hK => ?_)
              go_wp2_with fail
              refine (isFaceOf_c _ _ _ _ _ _ x yi _ (r1a.grow (Grow.refl _).drew) (s2a.grow (Grow.refl _).drew) (by omega) (by omega)).mono ?_
              rintro e w1 ⟨rfl, hG1⟩
              have hKf : Keep (fun q => q ≠ sb) wa w1 := ((Grow.refl wa).drew.trans hG1).any
              rw [Hf.out]
              go_wp2_with fail
              refine hK _ _ (hKf) ?_
              clear hK K
              show wpQuiet _ _ _ _ [_, _, _, _] _
              try (conv => arg 6; simp only [Act.put, List.setIfInBounds_toArray, List.set_cons_succ, List.set_cons_zero])
              repeat (first | go_big_quiet_skip | (go_big_quiet_want; first | (apply quiet_load CT_ints; rfl; rfl; exact (fun w' hG => hG.cell hgs p0); go_big_quiet_on; simp only [Act.put, List.setIfInBounds_toArray, List.set_cons_succ, List.set_cons_zero]) | (apply quiet_load CT_arrows; rfl; rfl; exact (fun w' hG => hG.cell na hca'); go_big_quiet_on; simp only [Act.put, List.setIfInBounds_toArray, List.set_cons_succ, List.set_cons_zero]) | (apply quiet_load CT_ints; rfl; rfl; exact (fun w' hG => hG.cell hbs hd2'); go_big_quiet_on; simp only [Act.put, List.setIfInBounds_toArray, List.set_cons_succ, List.set_cons_zero]) | (go_big_quiet_op; first | go_big_quiet_on | (refine ⟨_, (fun _ _ => rfl), ?_⟩; go_big_quiet_on))))
              refine wpQuiet_nil ?_
              refine seg_skip rfl (hKf) ?_
              show wpQuiet _ _ _ _ [_] _
              try (conv => arg 6; simp only [Act.put, List.setIfInBounds_toArray, List.set_cons_succ, List.set_cons_zero])
              repeat (first | go_big_quiet_skip | (go_big_quiet_want; first | (apply quiet_load CT_ints; rfl; rfl; exact (fun w' hG => hG.cell hgs p0); go_big_quiet_on; simp only [Act.put, List.setIfInBounds_toArray, List.set_cons_succ, List.set_cons_zero]) | (apply quiet_load CT_arrows; rfl; rfl; exact (fun w' hG => hG.cell na hca'); go_big_quiet_on; simp only [Act.put, List.setIfInBounds_toArray, List.set_cons_succ, List.set_cons_zero]) | (apply quiet_load CT_ints; rfl; rfl; exact (fun w' hG => hG.cell hbs hd2'); go_big_quiet_on; simp only [Act.put, List.setIfInBounds_toArray, List.set_cons_succ, List.set_cons_zero]) | (go_big_quiet_op; first | go_big_quiet_on | (refine ⟨_, (fun _ _ => rfl), ?_⟩; go_big_quiet_on))))
              refine wpQuiet_nil ?_
              refine wpSegs_nil ?_
              go_wp2
              go_roundw
              case rel => exact ⟨(hK.trans hKa).trans hKf, k + 1, s, by omega, by go_num, hOa.grow ((Grow.refl wa).drew.trans hG1), hin.pass (by rw [Hgo.out, Hf.out]; simp)⟩
              case measure => simp [intOf]; omega
            | true =>
              have Hf := Lib.hid hf; clear hf
              have hg : goesB l i k = true := by rw [Hgo.out, Hf.out]; simp [Hki.out]
              go_wp2
              rw [Hwa.out]
              refine wp_region_segs (S := (Keep (fun q => q ≠ sb) wa)) [([0, 1, 2, 3, 4, 5, 6, 7, 8, 9, 10], some 11), ([12, 13, 14, 15], some 16), ([17], none)] P_mixed (by kernel_rfl) (fun _ _ _ _ _ h => h) (Keep.refl _ _).drew ?_
              show wpQuiet _ _ _ _ [_, _, _, _, _, _, _, _, _, _, _] _
              repeat (first | go_big_quiet_skip | (go_big_quiet_want; first | (apply quiet_load CT_ints; rfl; rfl; exact (fun w' hG => hG.cell hgs p0); go_big_quiet_on; simp only [Act.put, List.setIfInBounds_toArray, List.set_cons_succ, List.set_cons_zero]) | (apply quiet_load CT_arrows; rfl; rfl; exact (fun w' hG => hG.cell na hca'); go_big_quiet_on; simp only [Act.put, List.setIfInBounds_toArray, List.set_cons_succ, List.set_cons_zero]) | (apply quiet_load CT_ints; rfl; rfl; exact (fun w' hG => hG.cell hbs hd2'); go_big_quiet_on; simp only [Act.put, List.setIfInBounds_toArray, List.set_cons_succ, List.set_cons_zero]) | (apply quiet_load CT_visit; rfl; rfl; exact (fun w' hG => hG.cell nv hcv'); go_big_quiet_on; simp only [Act.put, List.setIfInBounds_toArray, List.set_cons_succ, List.set_cons_zero]) | (go_big_quiet_op; first | go_big_quiet_on | (refine ⟨_, (fun _ _ => rfl), ?_⟩; go_big_quiet_on))))
              refine wpQuiet_nil ?_
              refine seg_go rfl (fun K hK => ?_)
              go_wp2_with fail
              refine (isFaceOf_c _ _ _ _ _ _ x yi _ (r1a.grow (Grow.refl _).drew) (s2a.grow (Grow.refl _).drew) (by omega) (by omega)).mono ?_
              rintro e w1 ⟨rfl, hG1⟩
              have hG1' := (Grow.refl wa).drew.trans hG1
              have hKf : Keep (fun q => q ≠ sb) wa w1 := hG1'.any
              rw [Hf.out]
              go_wp2_with fail
              refine hK _ _ (hKf) ?_
              clear hK K
              show wpQuiet _ _ _ _ [_, _, _, _] _
              try (conv => arg 6; simp only [Act.put, List.setIfInBounds_toArray, List.set_cons_succ, List.set_cons_zero])
              repeat (first | go_big_quiet_skip | (go_big_quiet_want; first | (apply quiet_load CT_ints; rfl; rfl; exact (fun w' hG => hG.cell hgs p0); go_big_quiet_on; simp only [Act.put, List.setIfInBounds_toArray, List.set_cons_succ, List.set_cons_zero]) | (apply quiet_load CT_arrows; rfl; rfl; exact (fun w' hG => hG.cell na hca'); go_big_quiet_on; simp only [Act.put, List.setIfInBounds_toArray, List.set_cons_succ, List.set_cons_zero]) | (apply quiet_load CT_ints; rfl; rfl; exact (fun w' hG => hG.cell hbs hd2'); go_big_quiet_on; simp only [Act.put, List.setIfInBounds_toArray, List.set_cons_succ, List.set_cons_zero]) | (apply quiet_load CT_visit; rfl; rfl; exact (fun w' hG => hG.cell nv hcv'); go_big_quiet_on; simp only [Act.put, List.setIfInBounds_toArray, List.set_cons_succ, List.set_cons_zero]) | (go_big_quiet_op; first | go_big_quiet_on | (refine ⟨_, (fun _ _ => rfl), ?_⟩; go_big_quiet_on))))
              refine wpQuiet_nil ?_
              refine seg_go rfl (fun K hK => ?_)
              go_wp2_with fail
              refine (ih s k _ (by have := hin.cnt; omega) hlt (hMa.keep hKf) (hOa.grow hG1') hin.ok (hin.pre hpre hg)).mono ?_
              rintro e w2 ⟨bb, st', rfl, hO2, hK2, hres⟩
              have hKf2 := hKf.trans hK2
              cases bb with
              | true =>
                go_wp2_with fail
                refine hK _ _ (hKf2) ?_
                clear hK K
                show wpQuiet _ _ _ _ [_] _
                try (conv => arg 6; simp only [Act.put, List.setIfInBounds_toArray, List.set_cons_succ, List.set_cons_zero])
                repeat (first | go_big_quiet_skip | (go_big_quiet_want; first | (apply quiet_load CT_ints; rfl; rfl; exact (fun w' hG => hG.cell hgs p0); go_big_quiet_on; simp only [Act.put, List.setIfInBounds_toArray, List.set_cons_succ, List.set_cons_zero]) | (apply quiet_load CT_arrows; rfl; rfl; exact (fun w' hG => hG.cell na hca'); go_big_quiet_on; simp only [Act.put, List.setIfInBounds_toArray, List.set_cons_succ, List.set_cons_zero]) | (apply quiet_load CT_ints; rfl; rfl; exact (fun w' hG => hG.cell hbs hd2'); go_big_quiet_on; simp only [Act.put, List.setIfInBounds_toArray, List.set_cons_succ, List.set_cons_zero]) | (apply quiet_load CT_visit; rfl; rfl; exact (fun w' hG => hG.cell nv hcv'); go_big_quiet_on; simp only [Act.put, List.setIfInBounds_toArray, List.set_cons_succ, List.set_cons_zero]) | (go_big_quiet_op; first | go_big_quiet_on | (refine ⟨_, (fun _ _ => rfl), ?_⟩; go_big_quiet_on))))
                refine wpQuiet_nil ?_
                refine wpSegs_nil ?_
                go_wp2
                go_ret
                exact ⟨true, st', rfl, hO2, (hK.trans hKa).trans hKf2, hres⟩
              | false =>
                go_wp2_with fail
                refine hK _ _ (hKf2) ?_
                clear hK K
                show wpQuiet _ _ _ _ [_] _
                try (conv => arg 6; simp only [Act.put, List.setIfInBounds_toArray, List.set_cons_succ, List.set_cons_zero])
                repeat (first | go_big_quiet_skip | (go_big_quiet_want; first | (apply quiet_load CT_ints; rfl; rfl; exact (fun w' hG => hG.cell hgs p0); go_big_quiet_on; simp only [Act.put, List.setIfInBounds_toArray, List.set_cons_succ, List.set_cons_zero]) | (apply quiet_load CT_arrows; rfl; rfl; exact (fun w' hG => hG.cell na hca'); go_big_quiet_on; simp only [Act.put, List.setIfInBounds_toArray, List.set_cons_succ, List.set_cons_zero]) | (apply quiet_load CT_ints; rfl; rfl; exact (fun w' hG => hG.cell hbs hd2'); go_big_quiet_on; simp only [Act.put, List.setIfInBounds_toArray, List.set_cons_succ, List.set_cons_zero]) | (apply quiet_load CT_visit; rfl; rfl; exact (fun w' hG => hG.cell nv hcv'); go_big_quiet_on; simp only [Act.put, List.setIfInBounds_toArray, List.set_cons_succ, List.set_cons_zero]) | (go_big_quiet_op; first | go_big_quiet_on | (refine ⟨_, (fun _ _ => rfl), ?_⟩; go_big_quiet_on))))
                refine wpQuiet_nil ?_
                refine wpSegs_nil ?_
                go_wp2
                go_roundw
                case rel => exact ⟨(hK.trans hKa).trans hKf2, k + 1, st', by omega, by go_num, hO2, hin.more hres⟩
                case measure => simp [intOf]; omega
        · have hkn : k = n := by omega
          subst hkn
          have hcs := hMr.hs
          obtain ⟨y, hy⟩ : ∃ y, s[i]? = some y := ⟨_, hin.self⟩
          have hcell := hOs.cell (j := i) (c := .int .i64 y) (by simp [hy])
          have hfr := hOs.free i
          simp only at hcell hfr
          clear hy
          have hO2 := hOs.set i (.int .i64 2)
          rw [← ints_upd] at hO2
          go_wp2
          go_ret
          exact ⟨false, _, rfl, hO2, hK.setCell (fun _ e => e rfl) _, by rw [← Hln.out] at hin; exact hin.finish Hx.out⟩
    · by_cases h1 : x = 1
      · subst h1
        go_enter Try.func38, Try.ntmps38
        go_wp2
        go_ret
        exact ⟨true, st, rfl, hO, Keep.refl _ _, hpre.cyc hok Hx.out⟩
      · have h2 : x = 2 := by have := hok.val i x Hx.out; omega
        subst h2
        go_enter Try.func38, Try.ntmps38
        go_wp2
        go_ret
        exact ⟨false, st, rfl, hO, Keep.refl _ _, VRel.id hok Hx.out⟩

end Go.Proofs.Yteijmppjdljedaa

namespace Go.Proofs.Yteijmppjdljedaa
open Go.RowKit

set_option maxHeartbeats 4000000 in
set_option maxRecDepth 100000 in
theorem leadsAround_c {S : Nat → Prop} (a : Option Addr) (n cap : Nat) (l : List Arw) (w : World) (h : RdA w S a n cap l) (hn : n ≤ 1048576) (ht : total (flat l) ≤ 1048576) :
    Calls Try.prog 18 #[.slice a n cap] w fun e w' => e = .returned (.bool (!acycB l)) ∧ Grow w w' := by
  have hl := h.len
  have hmk := T_ints.make (n := n) (by omega) (by unfold maxLen; omega)
  obtain ⟨fv, hfv⟩ : ∃ fv, fv = Value.func (.func 38) #[] #[.pointer (some ⟨w.heap.size + 1 + 1, 0, none⟩), .pointer (some ⟨w.heap.size, 0, none⟩), .pointer (some ⟨w.heap.size + 1 + 1 + 1, 0, none⟩)] := ⟨_, rfl⟩
  obtain ⟨w1, hw1⟩ : ∃ w1, w1 = (((w.alloc (.cells #[.slice a n cap] 26)).alloc (.cells (madeCells #[.int .i64 0] n) 3)).alloc (.cells #[.slice (some ⟨w.heap.size + 1, 0, none⟩) n n] 32)).alloc (.cells #[fv] 61) := ⟨_, rfl⟩
  have hG1 : Grow w w1 := by rw [hw1]; exact (((((Grow.refl w).alloc _ _).alloc _ _).alloc _ _).alloc _ _)
  have hs1 : w1.heap.size = w.heap.size + 4 := by rw [hw1]; simp
  have b0 : Blk w1 w.heap.size #[.slice a n cap] 26 := by rw [hw1]; exact (((Blk.new _ _ _).alloc _).alloc _).alloc _
  have b1 : Own w1 3 1 (some ⟨w.heap.size + 1, 0, none⟩) n n (ints (List.replicate n 0)) := by
    rw [hw1]
    have := Own.freshAt (w := w.alloc (.cells #[.slice a n cap] 26)) (e := 3) (sz := 1) (cs := madeCells #[.int .i64 0] n) (n := n) (g := w.heap.size + 1) (by simp) (by unfold maxLen; omega) (by simp [madeCells])
    rw [toList_madeCells_one] at this
    exact (by simpa [ints] using this : Own _ 3 1 (some ⟨w.heap.size + 1, 0, none⟩) n n (ints (List.replicate n 0))).grow (((Grow.refl _).alloc _ _).alloc _ _)
  have b2 : Blk w1 (w.heap.size + 1 + 1) #[.slice (some ⟨w.heap.size + 1, 0, none⟩) n n] 32 := by rw [hw1]; exact (Blk.newAt _ _ _ (by simp)).alloc _
  have b3 : Blk w1 (w.heap.size + 1 + 1 + 1) #[fv] 61 := by rw [hw1]; exact Blk.newAt _ _ _ (by simp)
  have hM : VMem w1 l (w.heap.size + 1 + 1) w.heap.size (w.heap.size + 1 + 1 + 1) (w.heap.size + 1) n a cap :=
    ⟨b2.cell 0, b0.cell 0, by rw [← hfv]; exact b3.cell 0, (((h.weak (T := fun b => b < w.heap.size) (fun b hb _ => hb)).grow hG1).weak fun b _ hb => by omega), by omega, by omega, by omega⟩
  have Hl := Lib.hid hl; clear hl
  have Hw1 := Lib.hid hw1; have Hfv := Lib.hid hfv
  have hca1 := hM.ha; have hcv1 := hM.hv
  rw [Hfv.out] at Hw1
  clear hw1 hfv b0 b2 b3
  go_enter Try.func18, Try.ntmps18
  go_wp2
  rw [← Hfv.out] at Hw1 ⊢
  rw [← Hw1.out]
  go_loopw [12] (fun q wr => Keep (fun q => q ≠ w.heap.size + 1) w1 wr ∧ ∃ (k : Nat) (s : List Int), k ≤ n ∧ q = .int .i64 k ∧ Own wr 3 1 (some ⟨w.heap.size + 1, 0, none⟩) n n (ints s) ∧ VOk l s ∧ (∀ j : Nat, s[j]? ≠ some 1) ∧ ∀ j : Nat, j < k → s[j]? = some 2) (fun q _ => n - (intOf q).toNat)
  case atStart => exact ⟨Keep.refl _ _, 0, _, Nat.zero_le _, rfl, b1, by rw [← Hl.out]; exact VOk.start l, fun j e => (by rw [List.getElem?_replicate] at e; split at e <;> simp at e), fun j hj => by omega⟩
  case round =>
    clear b1 hca1 hcv1
    obtain ⟨hK, k, s, hk, rfl, hOs, hok, hno, hdone⟩ := hrel
    have hMr := hM.keep hK
    have hcv := hMr.hv
    have Hno := Lib.hid hno; have Hdone := Lib.hid hdone
    clear hno hdone
    by_cases hlt : k < n
    · go_wp2_with fail
      refine (visit_c l _ _ _ _ n a cap hn ht (s.count 0 + 1) s k _ (by omega) hlt hMr hOs hok (VPre.top Hno.out k)).mono ?_
      rintro e w2 ⟨bb, st', rfl, hO2, hK2, hres⟩
      cases bb with
      | true =>
        go_wp2
        go_ret
        exact ⟨ret_bool (by rw [HasCyc.not hres]; rfl), hG1.keep (hK.trans hK2) fun q hq => by omega⟩
      | false =>
        go_wp2
        go_roundw
        case rel =>
          simp only [Bool.false_eq_true, if_false] at hres
          refine ⟨hK.trans hK2, k + 1, st', by omega, by go_num, hO2, hres.ok, fun j e => Hno.out j ((hres.one j).1 e), fun j hj => ?_⟩
          by_cases e : j = k
          · subst e; exact hres.done
          · exact hres.two j (Hdone.out j (by omega))
        case measure => simp [intOf]; omega
    · have hkn : k = n := by omega
      subst hkn
      go_wp2
      go_ret
      exact ⟨ret_bool (by rw [hok.none (fun j hj => Hdone.out j (by rw [← Hl.out]; exact hj))]; rfl), hG1.keep hK fun q hq => by omega⟩
end Go.Proofs.Yteijmppjdljedaa

namespace Go.Proofs.Yteijmppjdljedaa
open Go.RowKit

abbrev bools (l : List Bool) : List Value := l.map Value.bool
theorem bools_upd (l : List Bool) (i : Nat) (v : Bool) : bools (l.set i v) = (bools l).set i (.bool v) := by simp [bools, List.map_set]
theorem T_bools : SlT Try.prog 46 4 (.bool false) 1 1 := SlT.mk' Try.underlying46 (by kernel_rfl) rfl
theorem bools_at {g : List Bool} {j n : Nat} (h : g.length = n) (hj : j < n) : (bools g)[j]? = some (.bool (g.getD j false)) := by
  simp [List.getD, List.getElem?_eq_getElem (show j < g.length by omega)]
def freeTo (l : List Arw) (g : List Bool) (i j : Nat) : Bool := (List.range j).all fun j => !(!g.getD j false && goesB l i j)
theorem freeTo_succ (l : List Arw) (g : List Bool) (i j : Nat) : freeTo l g i (j + 1) = (freeTo l g i j && !(!g.getD j false && goesB l i j)) := by
  unfold freeTo; rw [List.range_succ, List.all_append]; simp

set_option maxHeartbeats 4000000 in
set_option maxRecDepth 100000 in
theorem l35Acyclic_c {S : Nat → Prop} (a : Option Addr) (n cap : Nat) (l : List Arw) (w : World) (h : RdA w S a n cap l) (hn : n ≤ 1048576) (ht : total (flat l) ≤ 1048576) :
    Calls Try.prog 22 #[.slice a n cap] w fun e w' => e = .returned (.bool (acycB l)) ∧ Grow w w' := by
  have hl := h.len
  have hmk := T_bools.make (n := n) (by omega) (by unfold maxLen; omega)
  have hG1 : Grow w (w.alloc (.cells (madeCells #[.bool false] n) 4)) := (Grow.refl w).alloc _ _
  have b1 : Own (w.alloc (.cells (madeCells #[.bool false] n) 4)) 4 1 (some ⟨w.heap.size, 0, none⟩) n n (bools (List.replicate n false)) := by
    have := Own.fresh (w := w) (e := 4) (sz := 1) (cs := madeCells #[.bool false] n) (n := n) (by unfold maxLen; omega) (by simp [madeCells])
    rw [toList_madeCells_one] at this
    simpa [bools] using this
  have hrd : RdA (w.alloc (.cells (madeCells #[.bool false] n) 4)) (fun q => q ≠ w.heap.size) a n cap l := ((h.weak (T := fun b => b < w.heap.size) (fun b hb _ => hb)).grow hG1).weak fun b _ hb => by omega
  obtain ⟨w1, hw1⟩ : ∃ w1, w1 = w.alloc (.cells (madeCells #[.bool false] n) 4) := ⟨_, rfl⟩
  rw [← hw1] at hG1 b1 hrd
  obtain ⟨sb, hsb⟩ : ∃ sb, sb = w.heap.size := ⟨_, rfl⟩
  have Hl := Lib.hid hl; have Hw1 := Lib.hid hw1
  clear hl hw1
  go_enter Try.func22, Try.ntmps22
  go_wp2
  rw [← Hw1.out]
  rw [← hsb] at b1 hrd ⊢
  have Hsb := Lib.hid hsb; clear hsb
  go_loopw [4] (fun q wr => Keep (fun q => q ≠ sb) w1 wr ∧ ∃ r : Nat, r ≤ n ∧ q = .int .i64 r ∧ Own wr 4 1 (some ⟨sb, 0, none⟩) n n (bools (peel l r))) (fun q _ => n - (intOf q).toNat)
  case atStart => exact ⟨Keep.refl _ _, 0, Nat.zero_le _, rfl, by unfold peel; rw [Hl.out]; exact b1⟩
  case round =>
    clear b1
    obtain ⟨hK, r, hr, rfl, hO⟩ := hrel
    by_cases hlt : r < n
    · obtain ⟨wo, rfl⟩ : ∃ wo : World, wo = wr := ⟨_, rfl⟩
      go_wp2
      go_loopw [5] (fun q wr => Keep (fun q => q ≠ sb) w1 wr ∧ ∃ i : Nat, i ≤ n ∧ q = .int .i64 i ∧ Own wr 4 1 (some ⟨sb, 0, none⟩) n n (bools (peelRow l i (peel l r)))) (fun q _ => n - (intOf q).toNat)
      case atStart => exact ⟨hK, 0, Nat.zero_le _, rfl, hO⟩
      case round =>
        clear hK hO
        obtain ⟨hK, i, hi, rfl, hO⟩ := hrel
        have hgl : (peelRow l i (peel l r)).length = n := by rw [peelRow_len, peel_len, Hl.out]
        by_cases hil : i < n
        · generalize hg : peelRow l i (peel l r) = g at *
          have Hg := Lib.hid hg; clear hg
          have Hgl := Lib.hid hgl; clear hgl
          obtain ⟨wp, rfl⟩ : ∃ wp : World, wp = wr := ⟨_, rfl⟩
          go_wp2
          go_loopw [6, 7] (fun fv q wr => Grow wp wr ∧ ∃ j : Nat, j ≤ n ∧ q = .int .i64 j ∧ fv = .bool (freeTo l g i j)) (fun _ q _ => n - (intOf q).toNat)
          case atStart => exact ⟨Grow.refl _, 0, Nat.zero_le _, rfl, rfl⟩
          case round =>
            obtain ⟨hGi, j, hj, rfl, rfl⟩ := hrel
            have hOr := hO.grow hGi
            by_cases hjl : j < n
            · have hRr := (hrd.keep hK fun _ _ h => h).grow hGi
              obtain ⟨b, off, x, y, a1, c1, a2, c2, rfl, hx, hbs, hbw, ⟨hc1, hc2⟩, r1, r2⟩ := hRr.at hjl
              obtain ⟨b', off', xi, yi, d1, e1, d2, e2, he, hxi, hbs', hbw', ⟨hd1, hd2⟩, s1, s2⟩ := hRr.at hil
              obtain ⟨rfl, rfl⟩ : b = b' ∧ off = off' := by simpa using he
              have hgo : goesB l i j = (decide (j ≠ i) && isFaceB x yi) := by unfold goesB; simp [List.getD, hx, hxi]
              have htx := (flat_total_at hx).2
              have hti := (flat_total_at hxi).2
              have hfs := freeTo_succ l g i j
              rw [hgo] at hfs
              have hcell := hOr.cell (bools_at Hgl.out hjl)
              simp only at hcell
              clear he hx hxi hc2 hd1 hgo
              by_cases hji : j = i
              · rw [show decide (j ≠ i) = false by simp [hji]] at hfs
                simp only [Bool.false_and, Bool.and_false, Bool.not_false, Bool.and_true] at hfs
                have hfs := Lib.hid hfs
                have q1 : ((j : Int) != (i : Int)) = false := by simp [hji]
                have hGi' := hGi.drew
                clear hji
                go_wp2
                refine wp_region_segs (S := Grow wr) [([0, 1, 2, 3, 4, 5, 6, 7, 8, 9, 10, 11, 12, 13, 14, 15, 16, 17, 18, 19, 20], some 21), ([22], none)] P_mixed (by kernel_rfl) (fun _ _ _ _ _ h => h) (Grow.refl _).drew ?_
                show wpQuiet _ _ _ _ [_, _, _, _, _, _, _, _, _, _, _, _, _, _, _, _, _, _, _, _, _] _
                repeat (first | go_big_quiet_skip | (go_big_quiet_want; first | (go_big_quiet_op; first | go_big_quiet_on | (refine ⟨_, (fun _ _ => rfl), ?_⟩; go_big_quiet_on))))
                refine wpQuiet_nil ?_
                refine seg_skip rfl ((Grow.refl _).drew) ?_
                show wpQuiet _ _ _ _ [_] _
                try (conv => arg 6; simp only [Act.put, List.setIfInBounds_toArray, List.set_cons_succ, List.set_cons_zero])
                repeat (first | go_big_quiet_skip | (go_big_quiet_want; first | (go_big_quiet_op; first | go_big_quiet_on | (refine ⟨_, (fun _ _ => rfl), ?_⟩; go_big_quiet_on))))
                refine wpQuiet_nil ?_
                refine wpSegs_nil ?_
                go_wp2
                go_roundw
                case rel => exact ⟨hGi', j + 1, by omega, by go_num, by rw [hfs.out]⟩
                case measure => simp [intOf]; omega
              · rw [show decide (j ≠ i) = true by simp [hji]] at hfs
                have q1 : ((j : Int) != (i : Int)) = true := by simp; omega
                cases hgj : g.getD j false with
                | true =>
                  rw [hgj] at hfs hcell
                  simp only [Bool.not_true, Bool.false_and, Bool.not_false, Bool.and_true] at hfs
                  have hfs := Lib.hid hfs
                  have hGi' := hGi.drew
                  clear hji hgj
                  go_wp2
                  refine wp_region_segs (S := Grow wr) [([0, 1, 2, 3, 4, 5, 6, 7, 8, 9, 10, 11, 12, 13, 14, 15, 16, 17, 18, 19, 20], some 21), ([22], none)] P_mixed (by kernel_rfl) (fun _ _ _ _ _ h => h) (Grow.refl _).drew ?_
                  show wpQuiet _ _ _ _ [_, _, _, _, _, _, _, _, _, _, _, _, _, _, _, _, _, _, _, _, _] _
                  repeat (first | go_big_quiet_skip | (go_big_quiet_want; first | (apply quiet_load CT_bool; rfl; rfl; exact (fun w' hG => hG.cell hcell); go_big_quiet_on; simp only [Act.put, List.setIfInBounds_toArray, List.set_cons_succ, List.set_cons_zero]) | (go_big_quiet_op; first | go_big_quiet_on | (refine ⟨_, (fun _ _ => rfl), ?_⟩; go_big_quiet_on))))
                  refine wpQuiet_nil ?_
                  refine seg_skip rfl ((Grow.refl _).drew) ?_
                  show wpQuiet _ _ _ _ [_] _
                  try (conv => arg 6; simp only [Act.put, List.setIfInBounds_toArray, List.set_cons_succ, List.set_cons_zero])
                  repeat (first | go_big_quiet_skip | (go_big_quiet_want; first | (apply quiet_load CT_bool; rfl; rfl; exact (fun w' hG => hG.cell hcell); go_big_quiet_on; simp only [Act.put, List.setIfInBounds_toArray, List.set_cons_succ, List.set_cons_zero]) | (go_big_quiet_op; first | go_big_quiet_on | (refine ⟨_, (fun _ _ => rfl), ?_⟩; go_big_quiet_on))))
                  refine wpQuiet_nil ?_
                  refine wpSegs_nil ?_
                  go_wp2
                  go_roundw
                  case rel => exact ⟨hGi', j + 1, by omega, by go_num, by rw [hfs.out]⟩
                  case measure => simp [intOf]; omega
                | false =>
                  rw [hgj] at hfs hcell
                  simp only [Bool.not_false, Bool.true_and] at hfs
                  clear hji hgj
                  go_wp2
                  refine wp_region_segs (S := Grow wr) [([0, 1, 2, 3, 4, 5, 6, 7, 8, 9, 10, 11, 12, 13, 14, 15, 16, 17, 18, 19, 20], some 21), ([22], none)] P_mixed (by kernel_rfl) (fun _ _ _ _ _ h => h) (Grow.refl _).drew ?_
                  show wpQuiet _ _ _ _ [_, _, _, _, _, _, _, _, _, _, _, _, _, _, _, _, _, _, _, _, _] _
                  repeat (first | go_big_quiet_skip | (go_big_quiet_want; first | (apply quiet_load CT_bool; rfl; rfl; exact (fun w' hG => hG.cell hcell); go_big_quiet_on; simp only [Act.put, List.setIfInBounds_toArray, List.set_cons_succ, List.set_cons_zero]) | (apply quiet_load CT_ints; rfl; rfl; exact (fun w' hG => hG.cell hc1); go_big_quiet_on; simp only [Act.put, List.setIfInBounds_toArray, List.set_cons_succ, List.set_cons_zero]) | (apply quiet_load CT_ints; rfl; rfl; exact (fun w' hG => hG.cell hd2); go_big_quiet_on; simp only [Act.put, List.setIfInBounds_toArray, List.set_cons_succ, List.set_cons_zero]) | (go_big_quiet_op; first | go_big_quiet_on | (refine ⟨_, (fun _ _ => rfl), ?_⟩; go_big_quiet_on))))
                  refine wpQuiet_nil ?_
                  refine seg_go rfl (fun K hK => ?_)
                  go_wp2_with fail
                  refine (l35Face_c _ _ _ _ _ _ x yi _ (r1.grow (Grow.refl _).drew) (s2.grow (Grow.refl _).drew) (by omega) (by omega)).mono ?_
                  rintro e w2 ⟨rfl, hG2⟩
                  have hG2' := (Grow.refl wr).drew.trans hG2
                  have hGi' := hGi.trans hG2'
                  cases hf : isFaceB x yi with
                  | true =>
                    rw [hf] at hfs
                    simp only [Bool.not_true, Bool.and_false] at hfs
                    have hfs := Lib.hid hfs
                    clear hf
                    go_wp2_with fail
                    refine hK _ _ (hG2') ?_
                    clear hK K
                    show wpQuiet _ _ _ _ [_] _
                    try (conv => arg 6; simp only [Act.put, List.setIfInBounds_toArray, List.set_cons_succ, List.set_cons_zero])
                    repeat (first | go_big_quiet_skip | (go_big_quiet_want; first | (apply quiet_load CT_bool; rfl; rfl; exact (fun w' hG => hG.cell hcell); go_big_quiet_on; simp only [Act.put, List.setIfInBounds_toArray, List.set_cons_succ, List.set_cons_zero]) | (apply quiet_load CT_ints; rfl; rfl; exact (fun w' hG => hG.cell hc1); go_big_quiet_on; simp only [Act.put, List.setIfInBounds_toArray, List.set_cons_succ, List.set_cons_zero]) | (apply quiet_load CT_ints; rfl; rfl; exact (fun w' hG => hG.cell hd2); go_big_quiet_on; simp only [Act.put, List.setIfInBounds_toArray, List.set_cons_succ, List.set_cons_zero]) | (go_big_quiet_op; first | go_big_quiet_on | (refine ⟨_, (fun _ _ => rfl), ?_⟩; go_big_quiet_on))))
                    refine wpQuiet_nil ?_
                    refine wpSegs_nil ?_
                    go_wp2
                    go_roundw
                    case rel => exact ⟨hGi', j + 1, by omega, by go_num, by rw [hfs.out]⟩
                    case measure => simp [intOf]; omega
                  | false =>
                    rw [hf] at hfs
                    simp only [Bool.not_false, Bool.and_true] at hfs
                    have hfs := Lib.hid hfs
                    clear hf
                    go_wp2_with fail
                    refine hK _ _ (hG2') ?_
                    clear hK K
                    show wpQuiet _ _ _ _ [_] _
                    try (conv => arg 6; simp only [Act.put, List.setIfInBounds_toArray, List.set_cons_succ, List.set_cons_zero])
                    repeat (first | go_big_quiet_skip | (go_big_quiet_want; first | (apply quiet_load CT_bool; rfl; rfl; exact (fun w' hG => hG.cell hcell); go_big_quiet_on; simp only [Act.put, List.setIfInBounds_toArray, List.set_cons_succ, List.set_cons_zero]) | (apply quiet_load CT_ints; rfl; rfl; exact (fun w' hG => hG.cell hc1); go_big_quiet_on; simp only [Act.put, List.setIfInBounds_toArray, List.set_cons_succ, List.set_cons_zero]) | (apply quiet_load CT_ints; rfl; rfl; exact (fun w' hG => hG.cell hd2); go_big_quiet_on; simp only [Act.put, List.setIfInBounds_toArray, List.set_cons_succ, List.set_cons_zero]) | (go_big_quiet_op; first | go_big_quiet_on | (refine ⟨_, (fun _ _ => rfl), ?_⟩; go_big_quiet_on))))
                    refine wpQuiet_nil ?_
                    refine wpSegs_nil ?_
                    go_wp2
                    go_roundw
                    case rel => exact ⟨hGi', j + 1, by omega, by go_num, by rw [hfs.out]⟩
                    case measure => simp [intOf]; omega
            · have hjn : j = n := by omega
              subst hjn
              have hcell := hOr.cell (bools_at Hgl.out hil)
              have hfr := hOr.free i
              simp only at hcell hfr
              have hO2 := hOr.set i (.bool (g.getD i false || freeTo l g i j))
              rw [← bools_upd] at hO2
              have hps := Lib.hid (show peelRow l (i + 1) (peel l r) = g.set i (g.getD i false || freeTo l g i j) by conv => { lhs; unfold peelRow }; rw [Hg.out]; unfold freeAt; rw [Hl.out]; rfl)
              have hKK := (hK.trans hGi.any)
              cases hgi : g.getD i false with
              | true =>
                rw [hgi] at hcell hO2 hps
                simp only [Bool.true_or] at hO2 hps
                clear hgi
                go_wp2
                go_roundw
                case rel => exact ⟨hKK.setCell (fun _ e => e rfl) _, i + 1, by omega, by go_num, by rw [hps.out]; exact hO2⟩
                case measure => simp [intOf]; omega
              | false =>
                rw [hgi] at hcell hO2 hps
                simp only [Bool.false_or] at hO2 hps
                clear hgi
                go_wp2
                go_roundw
                case rel => exact ⟨hKK.setCell (fun _ e => e rfl) _, i + 1, by omega, by go_num, by rw [hps.out]; exact hO2⟩
                case measure => simp [intOf]; omega
        · have hin : i = n := by omega
          subst hin
          go_wp2
          go_roundw
          case rel => exact ⟨hK, r + 1, by omega, by go_num, by conv => { arg 7; unfold peel }; rw [Hl.out]; exact hO⟩
          case measure => simp [intOf]; omega
    · have hrn : r = n := by omega
      subst hrn
      have hpl : (peel l r).length = r := by rw [peel_len, Hl.out]
      have hfin : acycB l = (peel l r).all id := by unfold acycB; rw [Hl.out]
      have hGf := hG1.keep hK fun q hq => by have := Hsb.out; omega
      generalize peel l r = g at *
      have Hgl := Lib.hid hpl; clear hpl
      have Hfin := Lib.hid hfin; clear hfin
      go_wp2
      go_loop [8] (fun q => ∃ j : Nat, j ≤ r ∧ q = .int .i64 j ∧ ∀ k : Nat, k < j → g.getD k false = true) (fun q => r - (intOf q).toNat)
      case atStart => exact ⟨0, Nat.zero_le _, rfl, fun _ h => by omega⟩
      case round =>
        obtain ⟨j, hj, rfl, hall⟩ := hrel
        have Hall := Lib.hid hall; clear hall
        by_cases hjl : j < r
        · have hcell := hO.cell (bools_at Hgl.out hjl)
          simp only at hcell
          cases hgj : g.getD j false with
          | true =>
            rw [hgj] at hcell
            have Hgj := Lib.hid hgj; clear hgj
            go_wp2
            go_round
            case rel =>
              refine ⟨j + 1, by omega, by go_num, fun k hk => ?_⟩
              by_cases e : k = j
              · subst e; exact Hgj.out
              · exact Hall.out k (by omega)
            case measure => simp [intOf]; omega
          | false =>
            rw [hgj] at hcell
            have Hgj := Lib.hid hgj; clear hgj
            go_wp2
            go_ret
            refine ⟨ret_bool ?_, hGf⟩
            rw [Hfin.out]; symm
            rw [List.all_eq_false]
            have hjg : j < g.length := by rw [Hgl.out]; exact hjl
            refine ⟨g[j], List.getElem_mem hjg, ?_⟩
            have := Hgj.out
            simp [List.getD, List.getElem?_eq_getElem hjg] at this
            simp [this]
        · go_wp2
          go_ret
          refine ⟨ret_bool ?_, hGf⟩
          rw [Hfin.out]; symm
          rw [List.all_eq_true]
          intro x hx
          obtain ⟨k, hk, rfl⟩ := List.mem_iff_getElem.1 hx
          have := Hall.out k (by rw [Hgl.out] at hk; omega)
          simp [List.getD, List.getElem?_eq_getElem hk] at this
          simp [this]
end Go.Proofs.Yteijmppjdljedaa
