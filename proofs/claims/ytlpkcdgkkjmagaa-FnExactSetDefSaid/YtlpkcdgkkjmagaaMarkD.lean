/-
  The laws' marks on definitions.
-/
import Derived.Test.YtlpkcdgkkjmagaaMark
import Derived.Test.YtlpkcdgkkjmagaaDefK3
import Derived.Test.YtlpkcdgkkjmagaaMat
namespace Go.Proofs.Ytlpkcdgkkjmagaa
open Go.RowKit

/-- A definition whose seven fields bear the marks from k on. -/
def mkD1 (d : Dfn) (k : Nat) : Dfn := ⟨mtext k, (k : Int) + 1, mtext (k + 2), mtext (k + 3), ⟨(k : Int) + 1 + 1 + 1 + 1, (k : Int) + 1 + 1 + 1 + 1 + 1, markI d.value.cells.length (k + 6)⟩⟩
def cntD1 (d : Dfn) : Nat := 6 + d.value.cells.length
def mkDD : List Dfn → Nat → List Dfn
  | [], _ => []
  | d :: r, k => mkD1 d k :: mkDD r (k + cntD1 d)
def cntDD (l : List Dfn) : Nat := (l.map cntD1).sum
@[simp] theorem mkDD_len : ∀ (l : List Dfn) (k : Nat), (mkDD l k).length = l.length
  | [], _ => rfl
  | d :: r, k => by simp [mkDD, mkDD_len r]
@[simp] theorem cntDD_nil : cntDD [] = 0 := rfl
@[simp] theorem cntDD_cons (d : Dfn) (l : List Dfn) : cntDD (d :: l) = cntD1 d + cntDD l := by simp [cntDD]
theorem cntDD_append (l r : List Dfn) : cntDD (l ++ r) = cntDD l + cntDD r := by simp [cntDD]
theorem cntDD_succ {l : List Dfn} {j : Nat} {d : Dfn} (h : l[j]? = some d) : cntDD (l.take (j + 1)) = cntDD (l.take j) + cntD1 d := by rw [take_succ h, cntDD_append]; simp
theorem mkDD_at : ∀ {l : List Dfn} {k j : Nat} {d : Dfn}, l[j]? = some d → (mkDD l k)[j]? = some (mkD1 d (k + cntDD (l.take j)))
  | [], k, j, d, h => by simp at h
  | d' :: l, k, 0, d, h => by simp at h; subst h; simp [mkDD]
  | d' :: l, k, j + 1, d, h => by
    simp only [List.getElem?_cons_succ] at h
    simp only [mkDD, List.getElem?_cons_succ, mkDD_at (l := l) (k := k + cntD1 d') h, List.take_succ_cons, cntDD_cons, Nat.add_assoc]
theorem cntDD_le (l : List Dfn) : cntDD l ≤ 6 * bdDD l := by
  unfold bdDD
  induction l with
  | nil => simp
  | cons d l ih =>
    simp only [cntDD_cons, bdDs_cons, List.length_cons]
    unfold cntD1 bdD
    omega
theorem cntDD_take (l : List Dfn) (j : Nat) : cntDD (l.take j) ≤ cntDD l := by
  conv => rhs; rw [← List.take_append_drop j l]
  rw [cntDD_append]; omega
theorem set_same {α : Type} {l : List α} {i : Nat} {v : α} (h : l[i]? = some v) : l.set i v = l := by
  obtain ⟨hi, rfl⟩ := List.getElem?_eq_some_iff.1 h
  exact List.set_getElem_self hi
theorem Own.has {w : World} {e : TypeId} {sz : Nat} {p : Addr} {n cap : Nat} {cs : List Value} (h : Own w e sz (some p) n cap cs) {j : Nat} (hj : j < cs.length) : ∃ c, w.cell? ⟨p.block, j, none⟩ = some c := ⟨_, h.cell (List.getElem?_eq_getElem hj)⟩
/-- Six of the seven cells written: the definition with the old slice. -/
theorem dAll_six {l : List Dfn} {ss : List Value} {j : Nat} {d d' : Dfn} {s : Value} (hl : ss.length = l.length) (hd : l[j]? = some d) (hs : ss[j]? = some s) :
    (((((((dAll l ss).set (j * 7) (.string d'.name)).set (j * 7 + 1) (.int .i64 d'.op)).set (j * 7 + 2) (.string d'.a)).set (j * 7 + 3) (.string d'.b)).set (j * 7 + 4) (.int .i64 d'.value.rows)).set (j * 7 + 5) (.int .i64 d'.value.cols)) = dAll (l.set j d') ss := by
  have hj : j < l.length := (List.getElem?_eq_some_iff.1 hd).1
  have h1 := dAll_set (d := d') (s := s) hl hj
  rw [set_same hs] at h1
  rw [← h1]
  unfold dset
  refine (set_same ?_).symm
  rw [List.getElem?_set_ne (by omega), List.getElem?_set_ne (by omega), List.getElem?_set_ne (by omega), List.getElem?_set_ne (by omega), List.getElem?_set_ne (by omega), List.getElem?_set_ne (by omega), dAll_at hd hs (by omega)]
  rfl
theorem dvals_set (l : List Dfn) (j : Nat) (d : Dfn) : dvals (l.set j d) = (dvals l).set j d.value.cells := by unfold dvals; rw [List.map_set]
theorem mkD1_ok (d : Dfn) {k : Nat} (hk : k ≤ 4294967000) : DOk (mkD1 d k) := by
  have h1 := mtext_size (k := k) (by omega)
  have h2 := mtext_size (k := k + 2) (by omega)
  have h3 := mtext_size (k := k + 3) (by omega)
  unfold DOk mkD1 I64 maxLen
  simp only
  omega
theorem mkDD_ok : ∀ (l : List Dfn) {k : Nat}, k + cntDD l ≤ 4294967000 → ∀ d ∈ mkDD l k, DOk d
  | [], _, _, d, hd => by simp [mkDD] at hd
  | d' :: l, k, hk, d, hd => by
    simp only [cntDD_cons] at hk
    simp only [mkDD, List.mem_cons] at hd
    rcases hd with rfl | hd
    · exact mkD1_ok _ (by omega)
    · exact mkDD_ok l (by omega) d hd

set_option maxHeartbeats 4000000 in
set_option maxRecDepth 100000 in
theorem mark_DD {F : Nat → Prop} {v : Value} {l : List Dfn} {w : World} (k : Nat) (h : ODD w F v l) (hb : 0 < k ∧ 6 * bdDD l + k ≤ 4294967000) : Calls Try.prog 23 #[v, .int .i64 k] w fun e w' =>
    e = .returned (.int .i64 ((k + cntDD l : Nat) : Int)) ∧ ODD w' F v (mkDD l k) ∧ Keep (fun g => ¬ F g) w w' := by
  obtain ⟨a, n, cap, rfl, h⟩ := h
  have hl := h.len
  obtain ⟨hk, hb⟩ := hb
  have hcl := cntDD_le l
  obtain ⟨⟨ss, hO, hI⟩, _, hok, hlo⟩ := h
  have hss : ss.length = l.length := by have := hI.len; simpa using this
  have hn : n ≤ 4294967000 := by unfold bdDD at hb; omega
  have Hl := Lib.hid hl; clear hl
  have Hss := Lib.hid hss; clear hss
  go_enter Try.func23, Try.ntmps23
  go_wp2
  go_loopw [1, 5] (fun q i wr => ∃ j : Nat, j ≤ n ∧ i = .int .i64 j ∧ q = .int .i64 ((k + cntDD (l.take j) : Nat) : Int) ∧ Own wr 38 7 a n cap (dAll ((mkDD l k).take j ++ l.drop j) ss) ∧ Inner wr F (blk a) ss (dvals ((mkDD l k).take j ++ l.drop j)) ∧ Keep (fun g => ¬ F g) w wr) (fun _ i _ => n - (intOf i).toNat)
  case atStart => exact ⟨0, Nat.zero_le _, rfl, rfl, by simpa using hO, by simpa using hI, Keep.refl _ _⟩
  case round =>
    clear hO hI
    obtain ⟨j, hj, rfl, rfl, hO, hI, hK⟩ := hrel
    by_cases hlt : j < n
    · cases a with
      | none => have := hO.nil rfl; have := hO.le; omega
      | some p =>
        have hp := (hO.block p rfl).1
        obtain ⟨pb, po, ps⟩ := p
        simp only [Addr.mk.injEq, true_and] at hp
        obtain ⟨rfl, rfl⟩ := hp
        obtain ⟨d, hx⟩ : ∃ d, l[j]? = some d := ⟨_, List.getElem?_eq_getElem (by rw [Hl.out]; exact hlt)⟩
        have hcur : ((mkDD l k).take j ++ l.drop j)[j]? = some d := take_drop_at (by simp; have := Hl.out; omega) hx
        have hcs := cntDD_succ hx
        have hct := cntDD_take l (j + 1)
        have hset := take_drop_set (mkDD_at (k := k) hx) hx
        obtain ⟨am, cm, hv, hOm, hrm, hFm⟩ := hI.each j _ (dvals_at hcur)
        have hlenL : ((mkDD l k).take j ++ l.drop j).length = l.length := by simp; have := Hl.out; omega
        have hsix := dAll_six (d' := mkD1 d (k + cntDD (l.take j))) (by rw [hlenL, Hss.out]) hcur hv
        have hs6 := dAll_at (j := 6) hcur hv (by omega)
        have hC0 : (dAll ((mkDD l k).take j ++ l.drop j) ss).length = l.length * 7 := by rw [dAll_len (by rw [hlenL, Hss.out]), hlenL]
        have hdv := dvals_set ((mkDD l k).take j ++ l.drop j) j (mkD1 d (k + cntDD (l.take j)))
        rw [hset] at hsix hdv
        have hcd : cntD1 d = 6 + d.value.cells.length := rfl
        generalize hkk : k + cntDD (l.take j) = kk at *
        have hkb : kk + 6 + d.value.cells.length ≤ 4294967000 := by omega
        have hk0 : 0 < kk := by omega
        have Hcur := Lib.hid (dvals_at hcur)
        have Hv := Lib.hid hv; clear hv hcur hset
        generalize hC : dAll ((mkDD l k).take j ++ l.drop j) ss = C at *
        generalize hV : dvals ((mkDD l k).take j ++ l.drop j) = V at *
        clear hC hV hlenL hcl
        have hjl : j * 7 + 7 ≤ C.length := by rw [hC0, Hl.out]; omega
        have Hsix := Lib.hid hsix; have Hdv := Lib.hid hdv; have Hs6 := Lib.hid hs6; have Hcs := Lib.hid hcs; have Hx := Lib.hid hx; have Hkk := Lib.hid hkk
        clear hsix hdv hs6 hcs hx hkk hC0
        go_wp2_with fail
        refine (markText_c kk _ hk0 (by omega)).mono ?_
        rintro e w1 ⟨rfl, hG1⟩
        have hO1 := hO.grow hG1
        obtain ⟨c0, e0⟩ := hO1.has (j := j * 7) (by omega)
        obtain ⟨c1, e1⟩ := hO1.has (j := j * 7 + 1) (by omega)
        have f0 := hO1.free (j * 7); have f1 := hO1.free (j * 7 + 1)
        simp only at e0 e1 f0 f1
        go_wp2_with fail
        refine (markText_c (kk + 2) _ (by omega) (by omega)).mono ?_
        rintro e w2 ⟨rfl, hG2⟩
        have hO2 := ((hO1.set (j * 7) (.string (mtext kk))).set (j * 7 + 1) (.int .i64 ((kk : Int) + 1))).grow hG2
        obtain ⟨c2, e2⟩ := hO2.has (j := j * 7 + 2) (by simp only [List.length_set]; omega)
        have f2 := hO2.free (j * 7 + 2)
        simp only at e2 f2
        clear e0 e1 f0 f1
        go_wp2_with fail
        refine (markText_c (kk + 3) _ (by omega) (by omega)).mono ?_
        rintro e w3 ⟨rfl, hG3⟩
        have hO3 := (hO2.set (j * 7 + 2) (.string (mtext (kk + 2)))).grow hG3
        obtain ⟨c3, e3⟩ := hO3.has (j := j * 7 + 3) (by simp only [List.length_set]; omega)
        obtain ⟨c4, e4⟩ := hO3.has (j := j * 7 + 4) (by simp only [List.length_set]; omega)
        obtain ⟨c5, e5⟩ := hO3.has (j := j * 7 + 5) (by simp only [List.length_set]; omega)
        have e6 := hO3.cell (j := j * 7 + 6) (c := .slice am d.value.cells.length cm) (by rw [List.getElem?_set_ne (by omega), List.getElem?_set_ne (by omega), List.getElem?_set_ne (by omega), Hs6.out]; rfl)
        have f3 := hO3.free (j * 7 + 3); have f4 := hO3.free (j * 7 + 4); have f5 := hO3.free (j * 7 + 5)
        simp only at e3 e4 e5 e6 f3 f4 f5
        clear e2 f2
        have hO4 := ((hO3.set (j * 7 + 3) (.string (mtext (kk + 3)))).set (j * 7 + 4) (.int .i64 ((kk : Int) + 1 + 1 + 1 + 1))).set (j * 7 + 5) (.int .i64 ((kk : Int) + 1 + 1 + 1 + 1 + 1))
        have hoth : ∀ q, blk am = some q → q ≠ pb := fun q hq e => (hFm q hq).2 (by rw [e]; rfl)
        have hKq : ∀ {W : World} {x : Nat} {u : Value}, Keep (fun g => g ≠ pb) W (W.setCell ⟨pb, x, none⟩ u) := fun {W x u} => (Keep.refl _ W).setCell (p := ⟨pb, x, none⟩) (fun _ e => e rfl) u
        have hK4 := (((((((hG1.mono (T := fun g => g ≠ pb) fun _ _ _ => trivial).setCell (p := ⟨pb, j * 7, none⟩) (fun _ e => e rfl) (.string (mtext kk))).setCell (p := ⟨pb, j * 7 + 1, none⟩) (fun _ e => e rfl) (.int .i64 ((kk : Int) + 1))).trans (hG2.mono fun _ _ _ => trivial)).setCell (p := ⟨pb, j * 7 + 2, none⟩) (fun _ e => e rfl) (.string (mtext (kk + 2)))).trans (hG3.mono fun _ _ _ => trivial)).setCell (p := ⟨pb, j * 7 + 3, none⟩) (fun _ e => e rfl) (.string (mtext (kk + 3)))).setCell (p := ⟨pb, j * 7 + 4, none⟩) (fun _ e => e rfl) (.int .i64 ((kk : Int) + 1 + 1 + 1 + 1)) |>.setCell (p := ⟨pb, j * 7 + 5, none⟩) (fun _ e => e rfl) (.int .i64 ((kk : Int) + 1 + 1 + 1 + 1 + 1))
        have hOm4 := hOm.keep hK4 (fun q hq _ => hoth q hq)
        have hI4 := hI.keep hK4 (fun b _ _ hne e => hne (by rw [e]; rfl))
        go_wp2_with fail
        refine (markIntS_c _ _ _ (kk + 6) d.value.cells _ hOm4 (by omega)).mono ?_
        rintro e w5 ⟨rfl, o5, hK5⟩
        have hI5 := hI4.put Hv.out Hcur.out (by simp) o5 (markI_rng (by omega)) hK5
        have hO5 := hO4.keep hK5 (fun g hg _ e => by
          have := hoth g e
          simp at hg; omega)
        have hpF : F pb := hlo pb rfl
        go_wp2
        go_roundw
        case rel =>
          refine ⟨j + 1, by omega, by go_num, ?_, ?_, ?_, ?_⟩
          · rw [Hcs.out]
            have := Hkk.out
            rw [hcd]
            congr 1
            omega
          · rw [← Hsix.out]; exact hO5
          · rw [Hdv.out]; exact hI5
          · refine hK.trans ((hK4.mono fun q _ hq e => hq (by rw [e]; exact hpF)).trans (hK5.mono fun q _ hq e => hq (hFm q e).1))
        case measure => simp [intOf]; omega
    · go_wp2
      go_ret
      have : j = n := by omega
      subst this
      refine ⟨ret_int (by rw [take_all Hl.out]), ⟨_, _, _, rfl, ⟨⟨ss, ?_, ?_⟩, by simp [Hl.out], mkDD_ok l (by omega), hlo⟩⟩, hK⟩
      · have hd : l.drop j = [] := by rw [← Hl.out]; simp
        rw [hd, List.append_nil, take_all (by simp [Hl.out])] at hO
        exact hO
      · have hd : l.drop j = [] := by rw [← Hl.out]; simp
        rw [hd, List.append_nil, take_all (by simp [Hl.out])] at hI
        exact hI

set_option maxHeartbeats 4000000 in
set_option maxRecDepth 100000 in
theorem held_DD {S : Nat → Prop} {v : Value} {l : List Dfn} {w : World} (k : Nat) (h : VDD w S v (mkDD l k)) (hb : 0 < k ∧ 6 * bdDD l + k ≤ 4294967000) : Calls Try.prog 29 #[v, .int .i64 k] w fun e w' =>
    e = .returned (.int .i64 ((k + cntDD l : Nat) : Int)) ∧ Grow w w' := by
  obtain ⟨a, n, cap, rfl, h⟩ := h
  have hl : l.length = n := by simpa using h.len
  obtain ⟨hk, hb⟩ := hb
  have hcl := cntDD_le l
  have hn : n ≤ 4294967000 := by unfold bdDD at hb; omega
  have Hl := Lib.hid hl; clear hl
  go_enter Try.func29, Try.ntmps29
  go_wp2
  go_loopw [1, 5] (fun q i wr => Grow w wr ∧ ∃ j : Nat, j ≤ n ∧ i = .int .i64 j ∧ q = .int .i64 ((k + cntDD (l.take j) : Nat) : Int)) (fun _ i _ => n - (intOf i).toNat)
  case atStart => exact ⟨Grow.refl _, 0, Nat.zero_le _, rfl, rfl⟩
  case round =>
    obtain ⟨hG, j, hj, rfl, rfl⟩ := hrel
    by_cases hlt : j < n
    · obtain ⟨d, hx⟩ : ∃ d, l[j]? = some d := ⟨_, List.getElem?_eq_getElem (by rw [Hl.out]; exact hlt)⟩
      obtain ⟨b, off, d', a1, c1, rfl, hx', _, hbw, hd1, r1, ho⟩ := (h.grow hG).at hlt
      rw [mkDD_at hx] at hx'
      have hcs := cntDD_succ hx
      have hct := cntDD_take l (j + 1)
      have hcd : cntD1 d = 6 + d.value.cells.length := rfl
      obtain rfl := Option.some.inj hx'
      generalize hkk : k + cntDD (l.take j) = kk at *
      have hkb : kk + 6 + d.value.cells.length ≤ 4294967000 := by omega
      have hk0 : 0 < kk := by omega
      have Hcs := Lib.hid hcs; have Hkk := Lib.hid hkk
      clear hcs hkk hx hx' hct hcl ho
      obtain ⟨g0, g1, g2, g3, g4, g5, g6⟩ := hd1
      simp only [mkD1, markI_len] at g0 g1 g2 g3 g4 g5 g6 r1
      have x0 : ((mtext kk).toList != (mtext kk).toList) = false := by simp
      have x2 : ((mtext (kk + 2)).toList != (mtext (kk + 2)).toList) = false := by simp
      have x3 : ((mtext (kk + 3)).toList != (mtext (kk + 3)).toList) = false := by simp
      have x1 : ((kk : Int) + 1 != (kk : Int) + 1) = false := by simp
      have x4 : ((kk : Int) + 1 + 1 + 1 + 1 != (kk : Int) + 1 + 1 + 1 + 1) = false := by simp
      have x5 : ((kk : Int) + 1 + 1 + 1 + 1 + 1 != (kk : Int) + 1 + 1 + 1 + 1 + 1) = false := by simp
      go_wp2
      refine wp_region_segs (S := Grow wr) [([0, 1, 2, 3, 4, 5], some 6), ([7], none)] P_mixed (by kernel_rfl) (fun _ _ _ _ _ h => h) (Grow.refl _).drew ?_
      show wpQuiet _ _ _ _ [_, _, _, _, _, _] _
      repeat (first | go_big_quiet_skip | (go_big_quiet_want; first | (apply quiet_load CT_str; rfl; rfl; exact (fun w' hG => hG.cell g0); go_big_quiet_on; simp only [Act.put, List.setIfInBounds_toArray, List.set_cons_succ, List.set_cons_zero]) | (go_big_quiet_op; first | go_big_quiet_on | (refine ⟨_, (fun _ _ => rfl), ?_⟩; go_big_quiet_on))))
      refine wpQuiet_nil ?_
      refine seg_go rfl (fun K hK => ?_)
      go_wp2_with fail
      refine (markText_c kk _ hk0 (by omega)).mono ?_
      rintro e w1 ⟨rfl, hGq⟩
      have hG1 : Grow wr w1 := (Grow.refl wr).drew.trans hGq
      clear hGq
      go_wp2_with fail
      refine hK _ _ (hG1) ?_
      clear hK K
      show wpQuiet _ _ _ _ [_] _
      try (conv => arg 6; simp only [Act.put, List.setIfInBounds_toArray, List.set_cons_succ, List.set_cons_zero])
      repeat (first | go_big_quiet_skip | (go_big_quiet_want; first | (apply quiet_load CT_str; rfl; rfl; exact (fun w' hG => hG.cell g0); go_big_quiet_on; simp only [Act.put, List.setIfInBounds_toArray, List.set_cons_succ, List.set_cons_zero]) | (go_big_quiet_op; first | go_big_quiet_on | (refine ⟨_, (fun _ _ => rfl), ?_⟩; go_big_quiet_on))))
      refine wpQuiet_nil ?_
      refine wpSegs_nil ?_
      have p1 := hG1.cell g1
      have p2 := hG1.cell g2
      go_wp2
      refine wp_region_segs (S := Grow w1) [([0, 1, 2, 3, 4, 5], some 6), ([7], none)] P_mixed (by kernel_rfl) (fun _ _ _ _ _ h => h) (Grow.refl _).drew ?_
      show wpQuiet _ _ _ _ [_, _, _, _, _, _] _
      repeat (first | go_big_quiet_skip | (go_big_quiet_want; first | (apply quiet_load CT_str; rfl; rfl; exact (fun w' hG => hG.cell p2); go_big_quiet_on; simp only [Act.put, List.setIfInBounds_toArray, List.set_cons_succ, List.set_cons_zero]) | (go_big_quiet_op; first | go_big_quiet_on | (refine ⟨_, (fun _ _ => rfl), ?_⟩; go_big_quiet_on))))
      refine wpQuiet_nil ?_
      refine seg_go rfl (fun K hK => ?_)
      go_wp2_with fail
      refine (markText_c (kk + 2) _ (by omega) (by omega)).mono ?_
      rintro e w2 ⟨rfl, hGq⟩
      have hG2 : Grow w1 w2 := (Grow.refl w1).drew.trans hGq
      clear hGq
      go_wp2_with fail
      refine hK _ _ (hG2) ?_
      clear hK K
      show wpQuiet _ _ _ _ [_] _
      try (conv => arg 6; simp only [Act.put, List.setIfInBounds_toArray, List.set_cons_succ, List.set_cons_zero])
      repeat (first | go_big_quiet_skip | (go_big_quiet_want; first | (apply quiet_load CT_str; rfl; rfl; exact (fun w' hG => hG.cell p2); go_big_quiet_on; simp only [Act.put, List.setIfInBounds_toArray, List.set_cons_succ, List.set_cons_zero]) | (go_big_quiet_op; first | go_big_quiet_on | (refine ⟨_, (fun _ _ => rfl), ?_⟩; go_big_quiet_on))))
      refine wpQuiet_nil ?_
      refine wpSegs_nil ?_
      have p3 := (hG1.trans hG2).cell g3
      go_wp2
      refine wp_region_segs (S := Grow w2) [([0, 1, 2, 3, 4, 5], some 6), ([7], none)] P_mixed (by kernel_rfl) (fun _ _ _ _ _ h => h) (Grow.refl _).drew ?_
      show wpQuiet _ _ _ _ [_, _, _, _, _, _] _
      repeat (first | go_big_quiet_skip | (go_big_quiet_want; first | (apply quiet_load CT_str; rfl; rfl; exact (fun w' hG => hG.cell p3); go_big_quiet_on; simp only [Act.put, List.setIfInBounds_toArray, List.set_cons_succ, List.set_cons_zero]) | (go_big_quiet_op; first | go_big_quiet_on | (refine ⟨_, (fun _ _ => rfl), ?_⟩; go_big_quiet_on))))
      refine wpQuiet_nil ?_
      refine seg_go rfl (fun K hK => ?_)
      go_wp2_with fail
      refine (markText_c (kk + 3) _ (by omega) (by omega)).mono ?_
      rintro e w3 ⟨rfl, hGq⟩
      have hG3 : Grow w2 w3 := (Grow.refl w2).drew.trans hGq
      clear hGq
      go_wp2_with fail
      refine hK _ _ (hG3) ?_
      clear hK K
      show wpQuiet _ _ _ _ [_] _
      try (conv => arg 6; simp only [Act.put, List.setIfInBounds_toArray, List.set_cons_succ, List.set_cons_zero])
      repeat (first | go_big_quiet_skip | (go_big_quiet_want; first | (apply quiet_load CT_str; rfl; rfl; exact (fun w' hG => hG.cell p3); go_big_quiet_on; simp only [Act.put, List.setIfInBounds_toArray, List.set_cons_succ, List.set_cons_zero]) | (go_big_quiet_op; first | go_big_quiet_on | (refine ⟨_, (fun _ _ => rfl), ?_⟩; go_big_quiet_on))))
      refine wpQuiet_nil ?_
      refine wpSegs_nil ?_
      have hGa := (hG1.trans hG2).trans hG3
      have p4 := hGa.cell g4
      have p5 := hGa.cell g5
      have p6 := hGa.cell g6
      go_wp2_with fail
      refine (heldIntS_c _ d.value.cells.length _ (kk + 6) _ (r1.grow hGa) (by omega)).mono ?_
      rintro e w' ⟨rfl, rfl⟩
      go_wp2
      go_roundw
      case rel =>
        refine ⟨hG.trans hGa, j + 1, by omega, by go_num, ?_⟩
        rw [Hcs.out]
        have := Hkk.out
        rw [hcd]
        congr 1
        omega
      case measure => simp [intOf]; omega
    · go_wp2
      go_ret
      have : j = n := by omega
      subst this
      exact ⟨ret_int (by rw [take_all Hl.out]), hG⟩
end Go.Proofs.Ytlpkcdgkkjmagaa
