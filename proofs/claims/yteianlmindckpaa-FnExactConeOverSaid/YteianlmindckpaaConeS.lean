/-
  ConeOver: the reference's walk.
-/
import Derived.Test.YteianlmindckpaaConeI
namespace Go.Proofs.Yteianlmindckpaa
open Go.RowKit

def ConePost (z : Nat) (s : List Int) (v : Int) (k : Nat) : Nat → Value → World → Prop
  | 1, u, _ => ∃ g, u = .slice (some ⟨g, 0, none⟩) 0 0
  | 3, u, w => ∃ g c, u = .slice (some ⟨g, 0, none⟩) s.length c ∧ z ≤ g ∧ Own w 3 1 (some ⟨g, 0, none⟩) s.length c (ints s)
  | 4, u, w => ∃ g, u = .slice (some ⟨g, 0, none⟩) 0 0 ∧ z ≤ g ∧ Blk w g #[] 3
  | 8, u, w => ∃ g c, u = .slice (some ⟨g, 0, none⟩) k c ∧ z ≤ g ∧ Own w 3 1 (some ⟨g, 0, none⟩) k c (ints (s.take k)) ∧ (k = 0 → Blk w g #[] 3)
  | 10, u, w => ∃ g, u = .slice (some ⟨g, 0, none⟩) 1 1 ∧ Blk w g #[.int .i64 v] 3
  | _, _, _ => True
theorem ConePost.stays {z k : Nat} {s : List Int} {v : Int} : ∀ i u w w', Grow w w' → ConePost z s v k i u w → ConePost z s v k i u w' := fun i u w w' hG h => by
  unfold ConePost at *
  split at h
  · exact h
  · obtain ⟨g, c, h1, h2, h3⟩ := h; exact ⟨g, c, h1, h2, h3.grow hG⟩
  · obtain ⟨g, h1, h2, h3⟩ := h; exact ⟨g, h1, h2, h3.grow hG⟩
  · obtain ⟨g, c, h1, h2, h3, h4⟩ := h; exact ⟨g, c, h1, h2, h3.grow hG, fun e => (h4 e).grow hG⟩
  · obtain ⟨g, h1, h2⟩ := h; exact ⟨g, h1, h2.grow hG⟩
  · trivial
def blkOf : Value → Option Nat
  | .slice a _ _ => blk a
  | _ => none
/-- The new block of an operation. -/
def coneB (k : Nat) : Nat → Value → Option Nat
  | 3, u => blkOf u
  | 8, u => if k = 0 then none else blkOf u
  | _, _ => none
theorem coneB8 {k : Nat} {u : Value} : coneB k 8 u = if k = 0 then none else blkOf u := rfl
theorem fill_one (v : Int) : Instr.fill (fun i => some (i * 1, 1)) ((Array.range (1 * 1)).map ((Value.int .i64 0).cells[· % (Value.int .i64 0).cells.size]!)) [(0, .int .i64 v)] = some (Value.int .i64 v).cells := by
  simp [Instr.fill, Value.cells, Array.range]
  refine Array.ext (by simp) fun i h1 h2 => ?_
  obtain rfl : i = 0 := by simp at h2; omega
  simp
theorem ConePost.lt {z k : Nat} {s : List Int} {v : Int} : ∀ i u w, ConePost z s v k i u w → ∀ g, coneB k i u = some g → g < w.heap.size := fun i u w h g hg => by
  unfold coneB at hg
  split at hg
  · obtain ⟨g', c, rfl, _, h3⟩ := h
    exact h3.lt hg
  · split at hg
    · cases hg
    · obtain ⟨g', c, rfl, _, h3, _⟩ := h
      exact h3.lt hg
  · cases hg
theorem Blk.own0 {w : World} {g : Nat} (h : Blk w g #[] 3) : Own w 3 1 (some ⟨g, 0, none⟩) 0 0 [] :=
  ⟨rfl, Nat.le_refl _, by unfold maxLen; omega, (fun h => by cases h), fun p hp => by obtain rfl := Option.some.inj hp; exact ⟨rfl, #[], h, by simp, rfl⟩⟩

set_option maxHeartbeats 4000000 in
set_option maxRecDepth 100000 in
theorem specConeOver_c {S : Nat → Prop} (a : Option Addr) (n cap : Nat) (l : List (List Int)) (v : Int) (w : World) (h : RdII w S a n cap l) (hn : n ≤ 1048576) (ht : total l ≤ 1048576) (hv : I64 v) :
    Calls Try.prog 6 #[.slice a n cap, .int .i64 v] w fun e w' => ∃ a' m c', e = .returned (.tuple #[.slice a' m c', .bool (coneOk l v)]) ∧ RdII w' (fun _ => True) a' m c' (coneOut l v) ∧ Grow w w' := by
  have Hl := Lib.hid h.len
  cases hB : isCplxB l with
  | false =>
    have Hno := Lib.hid (coneIs_no (l := l) (v := v) (by rw [hB]; simp))
    have HB := Lib.hid hB; clear hB
    go_enter Try.func6, Try.ntmps6
    go_wp2_with fail
    refine (specIsComplex_c _ _ _ l _ h hn ht).mono ?_
    rintro e w1 ⟨rfl, hGE⟩
    rw [HB.out]
    go_wp2
    go_ret2
    exact ⟨_, _, _, by rw [Hno.out.1]; rfl, by rw [Hno.out.2]; exact ⟨⟨[], Row.emptyAt, fun i xs hi => by simp at hi⟩, rfl⟩, hGE.alloc _ _⟩
  | true =>
    have h96 := cplx_len hB
    have hsi := (isCplxB_iff.1 hB).1.1
    have hln := Hl.out
    rw [hln] at h96
    have HB := Lib.hid hB; clear hB hln
    by_cases hv9 : 0 ≤ v ∧ v ≤ 9
    · have hin : inB v 0 9 = true := by unfold inB; simp [hv9]
      have Hin := Lib.hid hin; clear hin
      have hfm := findI_mem (l := l) (s := [v])
      have hfl := findI_lo l [v]
      generalize hfi : findI l [v] = fi at *
      have Hfi := Lib.hid hfi; clear hfi
      by_cases hm : [v] ∈ l
      · have Hno := Lib.hid (coneIs_no (l := l) (v := v) (by rintro ⟨_, _, h⟩; exact h hm))
        have hf0 := hfm.2 hm
        clear hfm hm
        go_enter Try.func6, Try.ntmps6
        go_wp2_with fail
        refine (specIsComplex_c _ _ _ l _ h hn ht).mono ?_
        rintro e w1 ⟨rfl, hG1⟩
        rw [HB.out]
        go_wp2_with fail
        refine (l1In_c v 0 9 _).mono ?_
        rintro e _ ⟨rfl, rfl⟩
        rw [Hin.out]
        have hG2 := hG1.alloc #[.int .i64 v] 3
        have hRv : RdI (w1.alloc (.cells #[.int .i64 v] 3)) (fun _ => True) (some ⟨w1.heap.size, 0, none⟩) 1 1 [v] := ⟨Row.built 1 (by unfold maxLen; omega) rfl trivial, fun z hz => by simp at hz; subst hz; exact hv⟩
        go_wp2_with fail
        refine (l32Find_c _ _ _ _ _ _ l [v] _ (h.grow hG2) hRv (by omega) (by omega) (by omega)).mono ?_
        rintro e w2 ⟨rfl, hQ3⟩
        have hG3 := hQ3.grow
        rw [Hfi.out]
        have hGE := hG2.trans hG3
        go_wp2
        go_ret2
        exact ⟨_, _, _, by rw [Hno.out.1]; rfl, by rw [Hno.out.2]; exact ⟨⟨[], Row.emptyAt, fun i xs hi => by simp at hi⟩, rfl⟩, hGE.alloc _ _⟩
      · have Hyes := Lib.hid (coneIs_yes HB.out hv9 hm)
        have hf0 : fi = -1 := by
          have : ¬ 0 ≤ fi := fun h => hm (hfm.1 h)
          omega
        clear hfm hm hfl
        subst hf0
        go_enter Try.func6, Try.ntmps6
        go_wp2_with fail
        refine (specIsComplex_c _ _ _ l _ h hn ht).mono ?_
        rintro e w1 ⟨rfl, hG1⟩
        rw [HB.out]
        go_wp2_with fail
        refine (l1In_c v 0 9 _).mono ?_
        rintro e _ ⟨rfl, rfl⟩
        rw [Hin.out]
        have hG2 := hG1.alloc #[.int .i64 v] 3
        have hRv : RdI (w1.alloc (.cells #[.int .i64 v] 3)) (fun _ => True) (some ⟨w1.heap.size, 0, none⟩) 1 1 [v] := ⟨Row.built 1 (by unfold maxLen; omega) rfl trivial, fun z hz => by simp at hz; subst hz; exact hv⟩
        go_wp2_with fail
        refine (l32Find_c _ _ _ _ _ _ l [v] _ (h.grow hG2) hRv (by omega) (by omega) (by omega)).mono ?_
        rintro e w2 ⟨rfl, hQ3⟩
        have hG3 := hQ3.grow
        rw [Hfi.out]
        have hGE := hG2.trans hG3
        clear hRv hG1 hG2 hG3 hQ3
        go_wp2
        go_loopw [6, 7] (fun u i wr => Grow w wr ∧ ∃ (j c1 : Nat) (a1 : Option Addr) (vs : List Value), j ≤ n ∧ i = .int .i64 j ∧ u = .slice a1 (1 + 2 * j) c1 ∧ (∀ g, blk a1 = some g → w.heap.size ≤ g) ∧ Own wr 37 1 a1 (1 + 2 * j) c1 vs ∧ RdCells wr (fun q => blk a1 ≠ some q) vs (coneAll (l.take j) v)) (fun _ i _ => n - (intOf i).toNat)
        case atStart =>
          have hOv : Own (w2.alloc (.cells #[.int .i64 v] 3)) 3 1 (some ⟨w2.heap.size, 0, none⟩) 1 1 (ints [v]) := Own.fresh (by unfold maxLen; omega) rfl
          refine ⟨(hGE.alloc _ _).alloc _ _, 0, 1, _, _, Nat.zero_le _, rfl, rfl, fun g hg => ?_, Own.freshAt (by simp) (by unfold maxLen; omega) rfl, ?_⟩
          · have := hGE.size; simp at hg; omega
          · intro i xs hi
            rw [List.take_zero, coneAll_nil] at hi
            cases i with
            | zero =>
              obtain rfl : [v] = xs := by simpa using hi
              exact ⟨_, _, rfl, (hOv.grow ((Grow.refl _).alloc _ _)).rdI (fun g hg e => by simp at hg e; omega) (fun z hz => by simp at hz; subst hz; exact hv)⟩
            | succ i => simp at hi
        case round =>
          clear hGE
          obtain ⟨hG, j, c1, a1, vs, hj, rfl, rfl, hlo, hO, hC⟩ := hrel
          have hcl := coneAll_len (l.take j) v
          rename World => wo
          by_cases hlt : j < n
          · obtain ⟨b, off, s, sa, sc, rfl, hs, _, hbw, hc, rs⟩ := (h.grow hG).at hlt
            have hsimp := hsi s (List.mem_of_getElem? hs)
            have hsl := simp_len hsimp
            have hasc := simp_asc hsimp
            have Hs := Lib.hid hs; clear hs hsimp
            have Hasc := Lib.hid hasc; clear hasc
            have hE : Own (wo.alloc (.cells #[] 3)) 3 1 (some ⟨wo.heap.size, 0, none⟩) 0 0 [] := Own.fresh (by unfold maxLen; omega) rfl
            go_wp2_with (at_builtin; refine wpList_app rfl (.tmp 37) (.tmp 41) _ rfl T_ints rfl hE rfl (rs.row.grow ((Grow.refl _).alloc _ _)) (ints_one _) (by omega) (by unfold maxLen; omega) ?_; intro a2 c2 w2 hA2; have hF2 := copy_facts hA2)
            obtain ⟨hO2, hG2, hB2⟩ := hF2
            clear hA2 hE
            go_loopw [9] (fun i wq => wq = w2 ∧ ∃ k : Nat, k ≤ s.length ∧ i = .int .i64 k ∧ ∀ q x, k ≤ q → s[q]? = some x → v < x) (fun i _ => (intOf i).toNat)
            case atStart => exact ⟨rfl, s.length, Nat.le_refl _, rfl, fun q x hq hx => by rw [List.getElem?_eq_none (by omega)] at hx; cases hx⟩
            case round =>
              obtain ⟨hww, k, hk, rfl, hgt⟩ := hrel
              subst hww
              rename World => w3
              have Hgt := Lib.hid hgt; clear hgt
              by_cases hk0 : 0 < k
              · obtain ⟨b2, o2, x, rfl, hx, hxr, _, hbw2, hc2⟩ := (hO2.rdI (S := fun _ => True) (fun _ _ => trivial) rs.rng).at (k := k - 1) (by omega)
                by_cases hxv : v < x
                · have Hx := Lib.hid hx; clear hx
                  go_wp2
                  go_roundw
                  case rel =>
                    refine ⟨trivial, k - 1, by omega, by go_num, fun q' x' h1 h2 => ?_⟩
                    by_cases e : q' = k - 1
                    · subst e
                      obtain rfl := Option.some.inj (Hx.out.symm.trans h2)
                      exact hxv
                    · exact Hgt.out q' x' (by omega) h2
                  case measure => simp [intOf]; omega
                · have hins := insB_eq (v := v) Hasc.out hk Hgt.out (fun y _ hy => by
                    rw [hx] at hy
                    obtain rfl := Option.some.inj hy
                    omega)
                  have Hins := Lib.hid hins; clear hins hx
                  go_wp2
                  clear hc2 hbw2
                  generalize (some (⟨b2, o2, none⟩ : Addr)) = a2 at *
                  have halt : ∀ q, blk a1 = some q → q < wo.heap.size := fun q hq => hO.lt hq
                  have r2 := hO2.rdI (S := fun q => blk a1 ≠ some q) (fun g hg e => by have := hB2 g hg; have := halt g e; omega) rs.rng
                  have hle2 := hO2.le
                  have hR1 := T_ints.atH (a := a2) (n := s.length) (cap := c2) (k := k) (i := k) rfl (by omega)
                  have hR2 := T_ints.atL (a := a2) (n := s.length) (cap := c2) (l := k) (i := k) rfl hk
                  have toS : ∀ W, Grow w3 W → Keep (fun q => blk a1 ≠ some q) w3 W := fun W hW => hW.mono fun _ _ _ => trivial
                  refine wp_region_par (S := (Keep (fun q => blk a1 ≠ some q) w3)) [0, 2, 5, 6, 7, 9, 12, 13, 14] [1, 3, 4, 8, 10] [] [([], some 11), ([], some 15), ([], some 16), ([], some 17), ([18], none)] P_mixed (by kernel_rfl) (fun _ _ _ _ _ h => h) (Keep.refl _ _).drew ?_
                  show wpQuiet _ _ _ _ [_, _, _, _, _, _, _, _, _] _
                  repeat (first | go_big_quiet_skip | (go_big_quiet_want; first | (apply quiet_sliceH (x := .tmp 63) (h := .tmp 64); rfl; exact hR1; go_big_quiet_on; simp only [Act.put, List.setIfInBounds_toArray, List.set_cons_succ, List.set_cons_zero]) | (apply quiet_sliceL (x := .tmp 70) (l := .tmp 71); rfl; exact hR2; go_big_quiet_on; simp only [Act.put, List.setIfInBounds_toArray, List.set_cons_succ, List.set_cons_zero]) | (go_big_quiet_op; first | go_big_quiet_on | (refine ⟨_, (fun _ _ => rfl), ?_⟩; go_big_quiet_on))))
                  refine wpQuiet_nil ?_
                  refine ⟨by kernel_rfl, ConePost w3.heap.size s v k, coneB k, ConePost.stays, ConePost.lt, (fun _ h => by cases h), ?_, (fun _ h => by cases h), ?_⟩
                  · intro i hi o' ho' a' w4 hGw hSw hdep hfr K hK
                    have hgw : Grow w3 w4 := (Grow.refl w3).drew.trans hGw
                    have hs4 := hgw.size
                    simp only [List.mem_cons, List.not_mem_nil, or_false] at hi
                    rcases hi with rfl | rfl | rfl | rfl | rfl
                    · obtain rfl := Option.some.inj (show some _ = some _ from ho')
                      refine par_built0 rfl T_ints ?_
                      exact hK _ _ ((Grow.refl _).alloc _ _) (toS _ (hgw.alloc _ _)) ⟨_, rfl⟩ (fun _ h => by cases h)
                    · obtain rfl := Option.some.inj (show some _ = some _ from ho')
                      obtain ⟨g, e⟩ : ∃ g, a'.tmps.getD 59 undef = .slice (some ⟨g, 0, none⟩) 0 0 := hdep 1 (by decide) ⟨⟨1, .data⟩, by simp, rfl, rfl⟩ 59 rfl
                      refine par_app (s := .tmp 59) (x := .tmp 60) rfl T_ints e (Row.emptyAt (S := fun _ => True)) (hfr 60 (by decide)) (r2.grow hgw).row (by omega) (by omega) (by unfold maxLen; omega) ?_
                      intro c' w5 h1 h2
                      rw [Nat.zero_add] at h1 ⊢
                      exact hK _ _ h2 (toS _ (hgw.trans h2)) ⟨_, c', rfl, by omega, h1⟩ (fun g h => by cases h; exact Nat.le_refl _)
                    · obtain rfl := Option.some.inj (show some _ = some _ from ho')
                      refine par_built0 rfl T_ints ?_
                      exact hK _ _ ((Grow.refl _).alloc _ _) (toS _ (hgw.alloc _ _)) ⟨_, rfl, hs4, Blk.new _ _ _⟩ (fun _ h => by cases h)
                    · obtain rfl := Option.some.inj (show some _ = some _ from ho')
                      obtain ⟨g, e, hz, hE⟩ : ∃ g, a'.tmps.getD 62 undef = .slice (some ⟨g, 0, none⟩) 0 0 ∧ w3.heap.size ≤ g ∧ Blk w4 g #[] 3 := hdep 4 (by decide) ⟨⟨4, .data⟩, by simp, rfl, rfl⟩ 62 rfl
                      have e65 : a'.eval (.tmp 65) = .slice a2 k c2 := hfr 65 (by decide)
                      by_cases hk00 : k = 0
                      · rw [hk00] at e65
                        refine par_app_nil (s := .tmp 62) (x := .tmp 65) rfl T_ints e e65 ?_
                        exact hK _ _ (Grow.refl _) hSw ⟨g, 0, by rw [hk00], hz, by rw [hk00]; exact hE.own0, fun _ => hE⟩ (fun g h => by rw [coneB8, if_pos hk00] at h; cases h)
                      · have hpre := ((r2.pre hk).grow hgw).row
                        refine par_app (s := .tmp 62) (x := .tmp 65) rfl T_ints e (Row.emptyAt (S := fun _ => True)) e65 hpre (by omega) (by omega) (by unfold maxLen; omega) ?_
                        intro c' w5 h1 h2
                        rw [Nat.zero_add] at h1 ⊢
                        exact hK _ _ h2 (toS _ (hgw.trans h2)) ⟨_, c', rfl, by omega, h1, fun e => (hk00 e).elim⟩ (fun g h => by rw [coneB8, if_neg hk00] at h; cases h; exact Nat.le_refl _)
                    · obtain rfl := Option.some.inj (show some _ = some _ from ho')
                      refine par_built1 (v := .int .i64 v) rfl T_ints (hfr 67 (by decide)) ⟨by omega, by omega⟩ (fill_one v) ?_
                      exact hK _ _ ((Grow.refl _).alloc _ _) (toS _ (hgw.alloc _ _)) ⟨_, rfl, Blk.new _ _ _⟩ (fun _ h => by cases h)
                  intro vs' w4 hGw hSw hP hD
                  apply fill_to
                  · show _ = ([some 59, some 61, some 62, some 66, some 68] : List (Option Tmp))
                    kernel_rfl
                  simp only [fillD, List.cons_append, List.nil_append, List.map_cons, List.map_nil, List.zip_cons_cons, List.zip_nil_right, Act.put, List.setIfInBounds_toArray, List.set_cons_succ, List.set_cons_zero]
                  refine ⟨?_⟩
                  have hgw : Grow w3 w4 := (Grow.refl w3).drew.trans hGw
                  have hs4 := hgw.size
                  obtain ⟨g3, c3, e3, hz3, o3⟩ : ∃ g c, vs' 3 = .slice (some ⟨g, 0, none⟩) s.length c ∧ w3.heap.size ≤ g ∧ Own w4 3 1 (some ⟨g, 0, none⟩) s.length c (ints s) := hP 3 (by decide)
                  obtain ⟨g8, c8, e8, hz8, o8, hb8⟩ : ∃ g c, vs' 8 = .slice (some ⟨g, 0, none⟩) k c ∧ w3.heap.size ≤ g ∧ Own w4 3 1 (some ⟨g, 0, none⟩) k c (ints (s.take k)) ∧ (k = 0 → Blk w4 g #[] 3) := hP 8 (by decide)
                  obtain ⟨g10, e10, hB10⟩ : ∃ g, vs' 10 = .slice (some ⟨g, 0, none⟩) 1 1 ∧ Blk w4 g #[.int .i64 v] 3 := hP 10 (by decide)
                  have h38 : g8 ≠ g3 := by
                    intro e
                    by_cases hk00 : k = 0
                    · subst e
                      obtain ⟨_, cur, k1, k2, _⟩ := o3.block _ rfl
                      have k3 := (hb8 hk00).symm.trans k1
                      simp only [Option.some.injEq, Obj.cells.injEq] at k3
                      have k4 := o3.le
                      rw [← k3.1] at k2
                      simp at k2; omega
                    · exact hD 3 (by decide) 8 (by decide) (by decide) g3 (by rw [e3]; rfl) (by rw [coneB8, e8, ← e, if_neg hk00]; rfl)
                  rw [e3, e8, e10]
                  clear hP hD e3 e8 e10 hb8
                  show wpQuiet _ _ _ _ [] _
                  apply wpQuiet_nil
                  apply seg_go rfl
                  intro K hK
                  have hr10 : Row w4 (fun _ => True) 1 (some ⟨g10, 0, none⟩) 1 1 [.int .i64 v] := ⟨rfl, Nat.le_refl _, by unfold maxLen; omega, (fun h => by cases h), fun _ => ⟨g10, 0, rfl, trivial, fun j c hj => by rw [Nat.zero_add, hB10.cell]; rw [← hj, List.getElem?_toArray]⟩⟩
                  refine op_app rfl T_ints rfl o8 rfl hr10 (by simp [Value.oneCell']) (by omega) (by unfold maxLen; omega) ?_
                  intro a5 c5 w5 hA5
                  have hG5 : Grow w3 w5 := hA5.grow hgw (fun g hg => by cases hg; exact hz8)
                  have hl5 := hA5.lo (B := w3.heap.size) hs4 (fun g hg => by cases hg; exact hz8)
                  have hg3 := o3.lt (g := g3) rfl
                  have o35 := o3.keep hA5.keep (fun g hg _ e => by cases hg; cases e; exact h38 rfl)
                  have n35 : ∀ g, blk a5 = some g → g ≠ g3 := fun g hg e => by
                    rcases hA5.new with e2 | ⟨g', e2, hg'⟩
                    · rw [e2] at hg; cases hg; exact h38 e
                    · rw [e2] at hg; have := Option.some.inj hg; omega
                  have O5 := hA5.own
                  refine hK _ _ (toS _ hG5) ?_
                  clear hK K hA5 o8 hr10 hB10
                  show wpQuiet _ _ _ _ [] _
                  try (conv => arg 6; simp only [Act.put, List.setIfInBounds_toArray, List.set_cons_succ, List.set_cons_zero])
                  refine wpQuiet_nil ?_
                  refine seg_go rfl (fun K hK => ?_)
                  have hsuf := (r2.grow hG5).row.suf hk
                  refine op_app rfl T_ints rfl O5 rfl hsuf (fun u hu => ints_one _ u (List.mem_of_mem_drop hu)) (by omega) (by unfold maxLen; omega) ?_
                  intro a6 c6 w6 hA6
                  have hs5 := hG5.size
                  have hG6 : Grow w3 w6 := hA6.grow hG5 hl5
                  have hl6 := hA6.lo (B := w3.heap.size) hs5 hl5
                  have o36 := o35.keep hA6.keep (fun g hg _ e => by cases hg; exact n35 _ e rfl)
                  have hins2 : ints (s.take k) ++ [Value.int .i64 v] ++ (ints s).drop k = ints (insB s v) := by rw [Hins.out]; simp [ints, List.map_take, List.map_drop]
                  have hilen := insB_len s v
                  have O6 : Own w6 3 1 a6 (insB s v).length c6 (ints (insB s v)) := by
                    have := hA6.own
                    rw [hins2, show k + 1 + (s.length - k) = (insB s v).length by omega] at this
                    exact this
                  refine hK _ _ (toS _ hG6) ?_
                  rw [show k + 1 + (s.length - k) = (insB s v).length by omega]
                  have Hil := Lib.hid hilen
                  clear hK K hA6 O5 o35 n35 hsuf hilen hins2
                  show wpQuiet _ _ _ _ [] _
                  try (conv => arg 6; simp only [Act.put, List.setIfInBounds_toArray, List.set_cons_succ, List.set_cons_zero])
                  refine wpQuiet_nil ?_
                  refine seg_go rfl (fun K hK => ?_)
                  go_wp2_with fail
                  refine hK _ _ (toS _ (hG6.alloc _ _)) ?_
                  clear hK K
                  show wpQuiet _ _ _ _ [] _
                  try (conv => arg 6; simp only [Act.put, List.setIfInBounds_toArray, List.set_cons_succ, List.set_cons_zero])
                  refine wpQuiet_nil ?_
                  refine seg_go rfl (fun K hK => ?_)
                  have hGo := hG2.trans hG6
                  refine op_app rfl T_intss rfl (hO.grow (hGo.alloc _ _)) rfl (Row.built (S := fun _ => True) 2 (by unfold maxLen; omega) rfl trivial) (by simp [Value.oneCell']) (by omega) (by unfold maxLen; omega) ?_
                  intro a8 c8 w8 hA8
                  have hvl : vs.length = (coneAll (l.take j) v).length := by have := hO.len; simp at this; rw [hcl, List.length_take]; have := Hl.out; omega
                  have q3 := (o36.grow ((Grow.refl w6).alloc #[.slice (some ⟨g3, 0, none⟩) s.length c3, .slice a6 (insB s v).length c6] 37)).rdI (S := fun q => blk a1 ≠ some q) (fun g hg e => by have := halt g e; have := hG2.size; simp at hg; omega) rs.rng
                  have q6 := (O6.grow ((Grow.refl w6).alloc #[.slice (some ⟨g3, 0, none⟩) s.length c3, .slice a6 (insB s v).length c6] 37)).rdI (S := fun q => blk a1 ≠ some q) (fun g hg e => by have := halt g e; have := hl6 g hg; have := hG2.size; omega) (insB_rng rs.rng hv)
                  have hC8 := RdCells.app2 ((hC.grow hGo).grow ((Grow.refl _).alloc _ _)) hvl q3 q6 hA8
                  rw [show [s, insB s v] = coneRow v s from rfl, ← coneAll_succ v Hs.out] at hC8
                  have hG8 : Grow w w8 := hA8.grow (hG.trans (hGo.alloc _ _)) hlo
                  have hl8 := hA8.lo (B := w.heap.size) (by have := hG.size; have := hGo.size; simp; omega) hlo
                  have hO8 := hA8.own
                  have hbnd : 1 + 2 * j + 2 = 1 + 2 * (j + 1) := by omega
                  rw [hbnd] at hO8
                  refine hK _ _ ((toS _ (hG6.alloc _ _)).trans hA8.keep) ?_
                  rw [hbnd]
                  clear hK K hA8 hO hC q3 q6 O6 o36
                  show wpQuiet _ _ _ _ [_] _
                  try (conv => arg 6; simp only [Act.put, List.setIfInBounds_toArray, List.set_cons_succ, List.set_cons_zero])
                  repeat (first | go_big_quiet_skip | (go_big_quiet_want; first | (apply quiet_sliceH (x := .tmp 63) (h := .tmp 64); rfl; exact hR1; go_big_quiet_on; simp only [Act.put, List.setIfInBounds_toArray, List.set_cons_succ, List.set_cons_zero]) | (apply quiet_sliceL (x := .tmp 70) (l := .tmp 71); rfl; exact hR2; go_big_quiet_on; simp only [Act.put, List.setIfInBounds_toArray, List.set_cons_succ, List.set_cons_zero]) | (go_big_quiet_op; first | go_big_quiet_on | (refine ⟨_, (fun _ _ => rfl), ?_⟩; go_big_quiet_on))))
                  refine wpQuiet_nil ?_
                  refine wpSegs_nil ?_
                  go_wp2
                  go_roundw
                  case rel => exact ⟨hG8, j + 1, c8, a8, _, by omega, by go_num, rfl, hl8, hO8, hC8⟩
                  case measure => simp [intOf]; omega
              · have hins := insB_eq (v := v) Hasc.out hk Hgt.out (fun y h0 _ => absurd h0 hk0)
                have Hins := Lib.hid hins; clear hins
                go_wp2
                have halt : ∀ q, blk a1 = some q → q < wo.heap.size := fun q hq => hO.lt hq
                have r2 := hO2.rdI (S := fun q => blk a1 ≠ some q) (fun g hg e => by have := hB2 g hg; have := halt g e; omega) rs.rng
                have hle2 := hO2.le
                have hR1 := T_ints.atH (a := a2) (n := s.length) (cap := c2) (k := k) (i := k) rfl (by omega)
                have hR2 := T_ints.atL (a := a2) (n := s.length) (cap := c2) (l := k) (i := k) rfl hk
                have toS : ∀ W, Grow w3 W → Keep (fun q => blk a1 ≠ some q) w3 W := fun W hW => hW.mono fun _ _ _ => trivial
                refine wp_region_par (S := (Keep (fun q => blk a1 ≠ some q) w3)) [0, 2, 5, 6, 7, 9, 12, 13, 14] [1, 3, 4, 8, 10] [] [([], some 11), ([], some 15), ([], some 16), ([], some 17), ([18], none)] P_mixed (by kernel_rfl) (fun _ _ _ _ _ h => h) (Keep.refl _ _).drew ?_
                show wpQuiet _ _ _ _ [_, _, _, _, _, _, _, _, _] _
                repeat (first | go_big_quiet_skip | (go_big_quiet_want; first | (apply quiet_sliceH (x := .tmp 63) (h := .tmp 64); rfl; exact hR1; go_big_quiet_on; simp only [Act.put, List.setIfInBounds_toArray, List.set_cons_succ, List.set_cons_zero]) | (apply quiet_sliceL (x := .tmp 70) (l := .tmp 71); rfl; exact hR2; go_big_quiet_on; simp only [Act.put, List.setIfInBounds_toArray, List.set_cons_succ, List.set_cons_zero]) | (go_big_quiet_op; first | go_big_quiet_on | (refine ⟨_, (fun _ _ => rfl), ?_⟩; go_big_quiet_on))))
                refine wpQuiet_nil ?_
                refine ⟨by kernel_rfl, ConePost w3.heap.size s v k, coneB k, ConePost.stays, ConePost.lt, (fun _ h => by cases h), ?_, (fun _ h => by cases h), ?_⟩
                · intro i hi o' ho' a' w4 hGw hSw hdep hfr K hK
                  have hgw : Grow w3 w4 := (Grow.refl w3).drew.trans hGw
                  have hs4 := hgw.size
                  simp only [List.mem_cons, List.not_mem_nil, or_false] at hi
                  rcases hi with rfl | rfl | rfl | rfl | rfl
                  · obtain rfl := Option.some.inj (show some _ = some _ from ho')
                    refine par_built0 rfl T_ints ?_
                    exact hK _ _ ((Grow.refl _).alloc _ _) (toS _ (hgw.alloc _ _)) ⟨_, rfl⟩ (fun _ h => by cases h)
                  · obtain rfl := Option.some.inj (show some _ = some _ from ho')
                    obtain ⟨g, e⟩ : ∃ g, a'.tmps.getD 59 undef = .slice (some ⟨g, 0, none⟩) 0 0 := hdep 1 (by decide) ⟨⟨1, .data⟩, by simp, rfl, rfl⟩ 59 rfl
                    refine par_app (s := .tmp 59) (x := .tmp 60) rfl T_ints e (Row.emptyAt (S := fun _ => True)) (hfr 60 (by decide)) (r2.grow hgw).row (by omega) (by omega) (by unfold maxLen; omega) ?_
                    intro c' w5 h1 h2
                    rw [Nat.zero_add] at h1 ⊢
                    exact hK _ _ h2 (toS _ (hgw.trans h2)) ⟨_, c', rfl, by omega, h1⟩ (fun g h => by cases h; exact Nat.le_refl _)
                  · obtain rfl := Option.some.inj (show some _ = some _ from ho')
                    refine par_built0 rfl T_ints ?_
                    exact hK _ _ ((Grow.refl _).alloc _ _) (toS _ (hgw.alloc _ _)) ⟨_, rfl, hs4, Blk.new _ _ _⟩ (fun _ h => by cases h)
                  · obtain rfl := Option.some.inj (show some _ = some _ from ho')
                    obtain ⟨g, e, hz, hE⟩ : ∃ g, a'.tmps.getD 62 undef = .slice (some ⟨g, 0, none⟩) 0 0 ∧ w3.heap.size ≤ g ∧ Blk w4 g #[] 3 := hdep 4 (by decide) ⟨⟨4, .data⟩, by simp, rfl, rfl⟩ 62 rfl
                    have e65 : a'.eval (.tmp 65) = .slice a2 k c2 := hfr 65 (by decide)
                    by_cases hk00 : k = 0
                    · rw [hk00] at e65
                      refine par_app_nil (s := .tmp 62) (x := .tmp 65) rfl T_ints e e65 ?_
                      exact hK _ _ (Grow.refl _) hSw ⟨g, 0, by rw [hk00], hz, by rw [hk00]; exact hE.own0, fun _ => hE⟩ (fun g h => by rw [coneB8, if_pos hk00] at h; cases h)
                    · have hpre := ((r2.pre hk).grow hgw).row
                      refine par_app (s := .tmp 62) (x := .tmp 65) rfl T_ints e (Row.emptyAt (S := fun _ => True)) e65 hpre (by omega) (by omega) (by unfold maxLen; omega) ?_
                      intro c' w5 h1 h2
                      rw [Nat.zero_add] at h1 ⊢
                      exact hK _ _ h2 (toS _ (hgw.trans h2)) ⟨_, c', rfl, by omega, h1, fun e => (hk00 e).elim⟩ (fun g h => by rw [coneB8, if_neg hk00] at h; cases h; exact Nat.le_refl _)
                  · obtain rfl := Option.some.inj (show some _ = some _ from ho')
                    refine par_built1 (v := .int .i64 v) rfl T_ints (hfr 67 (by decide)) ⟨by omega, by omega⟩ (fill_one v) ?_
                    exact hK _ _ ((Grow.refl _).alloc _ _) (toS _ (hgw.alloc _ _)) ⟨_, rfl, Blk.new _ _ _⟩ (fun _ h => by cases h)
                intro vs' w4 hGw hSw hP hD
                apply fill_to
                · show _ = ([some 59, some 61, some 62, some 66, some 68] : List (Option Tmp))
                  kernel_rfl
                simp only [fillD, List.cons_append, List.nil_append, List.map_cons, List.map_nil, List.zip_cons_cons, List.zip_nil_right, Act.put, List.setIfInBounds_toArray, List.set_cons_succ, List.set_cons_zero]
                refine ⟨?_⟩
                have hgw : Grow w3 w4 := (Grow.refl w3).drew.trans hGw
                have hs4 := hgw.size
                obtain ⟨g3, c3, e3, hz3, o3⟩ : ∃ g c, vs' 3 = .slice (some ⟨g, 0, none⟩) s.length c ∧ w3.heap.size ≤ g ∧ Own w4 3 1 (some ⟨g, 0, none⟩) s.length c (ints s) := hP 3 (by decide)
                obtain ⟨g8, c8, e8, hz8, o8, hb8⟩ : ∃ g c, vs' 8 = .slice (some ⟨g, 0, none⟩) k c ∧ w3.heap.size ≤ g ∧ Own w4 3 1 (some ⟨g, 0, none⟩) k c (ints (s.take k)) ∧ (k = 0 → Blk w4 g #[] 3) := hP 8 (by decide)
                obtain ⟨g10, e10, hB10⟩ : ∃ g, vs' 10 = .slice (some ⟨g, 0, none⟩) 1 1 ∧ Blk w4 g #[.int .i64 v] 3 := hP 10 (by decide)
                have h38 : g8 ≠ g3 := by
                  intro e
                  by_cases hk00 : k = 0
                  · subst e
                    obtain ⟨_, cur, k1, k2, _⟩ := o3.block _ rfl
                    have k3 := (hb8 hk00).symm.trans k1
                    simp only [Option.some.injEq, Obj.cells.injEq] at k3
                    have k4 := o3.le
                    rw [← k3.1] at k2
                    simp at k2; omega
                  · exact hD 3 (by decide) 8 (by decide) (by decide) g3 (by rw [e3]; rfl) (by rw [coneB8, e8, ← e, if_neg hk00]; rfl)
                rw [e3, e8, e10]
                clear hP hD e3 e8 e10 hb8
                show wpQuiet _ _ _ _ [] _
                apply wpQuiet_nil
                apply seg_go rfl
                intro K hK
                have hr10 : Row w4 (fun _ => True) 1 (some ⟨g10, 0, none⟩) 1 1 [.int .i64 v] := ⟨rfl, Nat.le_refl _, by unfold maxLen; omega, (fun h => by cases h), fun _ => ⟨g10, 0, rfl, trivial, fun j c hj => by rw [Nat.zero_add, hB10.cell]; rw [← hj, List.getElem?_toArray]⟩⟩
                refine op_app rfl T_ints rfl o8 rfl hr10 (by simp [Value.oneCell']) (by omega) (by unfold maxLen; omega) ?_
                intro a5 c5 w5 hA5
                have hG5 : Grow w3 w5 := hA5.grow hgw (fun g hg => by cases hg; exact hz8)
                have hl5 := hA5.lo (B := w3.heap.size) hs4 (fun g hg => by cases hg; exact hz8)
                have hg3 := o3.lt (g := g3) rfl
                have o35 := o3.keep hA5.keep (fun g hg _ e => by cases hg; cases e; exact h38 rfl)
                have n35 : ∀ g, blk a5 = some g → g ≠ g3 := fun g hg e => by
                  rcases hA5.new with e2 | ⟨g', e2, hg'⟩
                  · rw [e2] at hg; cases hg; exact h38 e
                  · rw [e2] at hg; have := Option.some.inj hg; omega
                have O5 := hA5.own
                refine hK _ _ (toS _ hG5) ?_
                clear hK K hA5 o8 hr10 hB10
                show wpQuiet _ _ _ _ [] _
                try (conv => arg 6; simp only [Act.put, List.setIfInBounds_toArray, List.set_cons_succ, List.set_cons_zero])
                refine wpQuiet_nil ?_
                refine seg_go rfl (fun K hK => ?_)
                have hsuf := (r2.grow hG5).row.suf hk
                refine op_app rfl T_ints rfl O5 rfl hsuf (fun u hu => ints_one _ u (List.mem_of_mem_drop hu)) (by omega) (by unfold maxLen; omega) ?_
                intro a6 c6 w6 hA6
                have hs5 := hG5.size
                have hG6 : Grow w3 w6 := hA6.grow hG5 hl5
                have hl6 := hA6.lo (B := w3.heap.size) hs5 hl5
                have o36 := o35.keep hA6.keep (fun g hg _ e => by cases hg; exact n35 _ e rfl)
                have hins2 : ints (s.take k) ++ [Value.int .i64 v] ++ (ints s).drop k = ints (insB s v) := by rw [Hins.out]; simp [ints, List.map_take, List.map_drop]
                have hilen := insB_len s v
                have O6 : Own w6 3 1 a6 (insB s v).length c6 (ints (insB s v)) := by
                  have := hA6.own
                  rw [hins2, show k + 1 + (s.length - k) = (insB s v).length by omega] at this
                  exact this
                refine hK _ _ (toS _ hG6) ?_
                rw [show k + 1 + (s.length - k) = (insB s v).length by omega]
                have Hil := Lib.hid hilen
                clear hK K hA6 O5 o35 n35 hsuf hilen hins2
                show wpQuiet _ _ _ _ [] _
                try (conv => arg 6; simp only [Act.put, List.setIfInBounds_toArray, List.set_cons_succ, List.set_cons_zero])
                refine wpQuiet_nil ?_
                refine seg_go rfl (fun K hK => ?_)
                go_wp2_with fail
                refine hK _ _ (toS _ (hG6.alloc _ _)) ?_
                clear hK K
                show wpQuiet _ _ _ _ [] _
                try (conv => arg 6; simp only [Act.put, List.setIfInBounds_toArray, List.set_cons_succ, List.set_cons_zero])
                refine wpQuiet_nil ?_
                refine seg_go rfl (fun K hK => ?_)
                have hGo := hG2.trans hG6
                refine op_app rfl T_intss rfl (hO.grow (hGo.alloc _ _)) rfl (Row.built (S := fun _ => True) 2 (by unfold maxLen; omega) rfl trivial) (by simp [Value.oneCell']) (by omega) (by unfold maxLen; omega) ?_
                intro a8 c8 w8 hA8
                have hvl : vs.length = (coneAll (l.take j) v).length := by have := hO.len; simp at this; rw [hcl, List.length_take]; have := Hl.out; omega
                have q3 := (o36.grow ((Grow.refl w6).alloc #[.slice (some ⟨g3, 0, none⟩) s.length c3, .slice a6 (insB s v).length c6] 37)).rdI (S := fun q => blk a1 ≠ some q) (fun g hg e => by have := halt g e; have := hG2.size; simp at hg; omega) rs.rng
                have q6 := (O6.grow ((Grow.refl w6).alloc #[.slice (some ⟨g3, 0, none⟩) s.length c3, .slice a6 (insB s v).length c6] 37)).rdI (S := fun q => blk a1 ≠ some q) (fun g hg e => by have := halt g e; have := hl6 g hg; have := hG2.size; omega) (insB_rng rs.rng hv)
                have hC8 := RdCells.app2 ((hC.grow hGo).grow ((Grow.refl _).alloc _ _)) hvl q3 q6 hA8
                rw [show [s, insB s v] = coneRow v s from rfl, ← coneAll_succ v Hs.out] at hC8
                have hG8 : Grow w w8 := hA8.grow (hG.trans (hGo.alloc _ _)) hlo
                have hl8 := hA8.lo (B := w.heap.size) (by have := hG.size; have := hGo.size; simp; omega) hlo
                have hO8 := hA8.own
                have hbnd : 1 + 2 * j + 2 = 1 + 2 * (j + 1) := by omega
                rw [hbnd] at hO8
                refine hK _ _ ((toS _ (hG6.alloc _ _)).trans hA8.keep) ?_
                rw [hbnd]
                clear hK K hA8 hO hC q3 q6 O6 o36
                show wpQuiet _ _ _ _ [_] _
                try (conv => arg 6; simp only [Act.put, List.setIfInBounds_toArray, List.set_cons_succ, List.set_cons_zero])
                repeat (first | go_big_quiet_skip | (go_big_quiet_want; first | (apply quiet_sliceH (x := .tmp 63) (h := .tmp 64); rfl; exact hR1; go_big_quiet_on; simp only [Act.put, List.setIfInBounds_toArray, List.set_cons_succ, List.set_cons_zero]) | (apply quiet_sliceL (x := .tmp 70) (l := .tmp 71); rfl; exact hR2; go_big_quiet_on; simp only [Act.put, List.setIfInBounds_toArray, List.set_cons_succ, List.set_cons_zero]) | (go_big_quiet_op; first | go_big_quiet_on | (refine ⟨_, (fun _ _ => rfl), ?_⟩; go_big_quiet_on))))
                refine wpQuiet_nil ?_
                refine wpSegs_nil ?_
                go_wp2
                go_roundw
                case rel => exact ⟨hG8, j + 1, c8, a8, _, by omega, by go_num, rfl, hl8, hO8, hC8⟩
                case measure => simp [intOf]; omega
          · have hjn : j = n := by omega
            subst hjn
            rw [take_all Hl.out] at hC hcl
            have hsm := coneAll_small (v := v) fun s hs => (simp_len (hsi s hs)).2
            have htt := total_small hsm
            have hln := Hl.out
            have hR : RdII wo (fun _ => True) a1 (1 + 2 * j) c1 (coneAll l v) := ⟨⟨vs, hO.row (fun _ _ => trivial), hC.weak fun _ _ _ => trivial⟩, by omega⟩
            clear hO hC hsm
            go_wp2_with fail
            refine (specComplexOf_c _ _ _ _ _ hR (by omega) (by omega)).mono ?_
            rintro e w2 ⟨a', m, c', rfl, hS, hG2⟩
            go_wp2
            go_ret2
            exact ⟨_, _, _, by rw [Hyes.out.1]; rfl, by rw [Hyes.out.2]; exact hS, hG.trans hG2⟩
    · have Hno := Lib.hid (coneIs_no (l := l) (v := v) (by rintro ⟨_, h, _⟩; exact hv9 h))
      have hin : inB v 0 9 = false := by unfold inB; rw [Bool.eq_false_iff]; simp; omega
      have Hin := Lib.hid hin; clear hin
      go_enter Try.func6, Try.ntmps6
      go_wp2_with fail
      refine (specIsComplex_c _ _ _ l _ h hn ht).mono ?_
      rintro e w1 ⟨rfl, hGE⟩
      rw [HB.out]
      go_wp2_with fail
      refine (l1In_c v 0 9 _).mono ?_
      rintro e _ ⟨rfl, rfl⟩
      rw [Hin.out]
      go_wp2
      go_ret2
      exact ⟨_, _, _, by rw [Hno.out.1]; rfl, by rw [Hno.out.2]; exact ⟨⟨[], Row.emptyAt, fun i xs hi => by simp at hi⟩, rfl⟩, hGE.alloc _ _⟩
end Go.Proofs.Yteianlmindckpaa
