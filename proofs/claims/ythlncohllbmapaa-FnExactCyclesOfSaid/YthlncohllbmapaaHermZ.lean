/-
  The program's work: an operation, the least row, whether there are others.
-/
import Derived.Test.YthlncohllbmapaaHermY
namespace Go.Proofs.Ythlncohllbmapaa
open Go.RowKit

theorem get_cell {m : List Int} {k : Nat} (h : k < m.length) : m[k]? = some (m.getD k 0) := by simp [List.getD, List.getElem?_eq_getElem h]
theorem wkSwap_c (g R C i p : Nat) (aa au ar : Option Addr) (ca cu cr : Nat) (s : HS) (w : World) (hW : Wk w g R C aa au ar ca cu cr false) (h : Two w aa au (R * C) (R * R) ca cu s) (ngA : blk aa ≠ some g) (ngU : blk au ≠ some g) (hs : Hs C R s) (hi : i < R) (hp : p < R) (hip : i ≠ p) (hR : R ≤ 24) (hC : C ≤ 24) :
    Calls Try.prog 115 #[.pointer (some ⟨g, 0, none⟩), .agg #[.int .i64 0, .int .i64 i, .int .i64 p, .int .i64 0]] w fun e w' => e = .returned (.tuple #[]) ∧ Wk w' g R C aa au ar ca cu cr false ∧ Two w' aa au (R * C) (R * R) ca cu (sw2 C R i p s) ∧ Keep (fun q => blk aa ≠ some q ∧ blk au ≠ some q ∧ q ≠ g) w w' := by
  refine (wkRows_g g R C aa au ar ca cu cr 0 i p 0 s (swR s.1 C i p) (swR s.2 R i p) true true w hW h ngA ngU (fun w => isRowOp_c 0 0 i p R w hi hp hR (by omega) (.inl ⟨rfl, hip, rfl⟩))
    (fun w hw => (rowOpSwap_c aa _ ca C i p R 0 s.1 w hw hs.la hi hp hip (by omega) (by omega) (by omega)).mono fun e w' ⟨h1, h2, h3⟩ => ⟨_, h1, h2, h3, fun _ => rfl⟩)
    (fun w hw => (rowOpSwap_c au _ cu R i p R 0 s.2 w hw hs.lu hi hp hip (by omega) (by omega) (by omega)).mono fun e w' ⟨h1, h2, h3⟩ => ⟨_, h1, h2, h3, fun _ => rfl⟩)).mono ?_
  rintro e w' ⟨rfl, s', h1, h2, h3, h4⟩
  rw [h3 rfl] at h2
  exact ⟨rfl, h1, h2, h4⟩
theorem wkNeg_c (g R C i : Nat) (aa au ar : Option Addr) (ca cu cr : Nat) (s : HS) (w : World) (hW : Wk w g R C aa au ar ca cu cr false) (h : Two w aa au (R * C) (R * R) ca cu s) (ngA : blk aa ≠ some g) (ngU : blk au ≠ some g) (hs : Hs C R s) (hi : i < R) (hR : R ≤ 24) (hC : C ≤ 24) :
    Calls Try.prog 115 #[.pointer (some ⟨g, 0, none⟩), .agg #[.int .i64 1, .int .i64 i, .int .i64 i, .int .i64 0]] w fun e w' => e = .returned (.tuple #[]) ∧ Wk w' g R C aa au ar ca cu cr false ∧ Two w' aa au (R * C) (R * R) ca cu (neg2 C R i s) ∧ Keep (fun q => blk aa ≠ some q ∧ blk au ≠ some q ∧ q ≠ g) w w' := by
  refine (wkRows_g g R C aa au ar ca cu cr 1 i i 0 s (negR s.1 C i) (negR s.2 R i) true true w hW h ngA ngU (fun w => isRowOp_c 1 0 i i R w hi hi hR (by omega) (.inr (.inl ⟨rfl, rfl, rfl⟩)))
    (fun w hw => (rowOpNeg_c aa _ ca C i R 0 s.1 w hw hs.la hi hs.na (by omega) (by omega)).mono fun e w' ⟨h1, h2, h3⟩ => ⟨_, h1, h2, h3, fun _ => rfl⟩)
    (fun w hw => (rowOpNeg_c au _ cu R i R 0 s.2 w hw hs.lu hi hs.nu (by omega) (by omega)).mono fun e w' ⟨h1, h2, h3⟩ => ⟨_, h1, h2, h3, fun _ => rfl⟩)).mono ?_
  rintro e w' ⟨rfl, s', h1, h2, h3, h4⟩
  rw [h3 rfl] at h2
  exact ⟨rfl, h1, h2, h4⟩
/-- What adding leaves: the state and whether it is spoilt. -/
def AddTo (C R i p : Nat) (t : Int) (s : HS) (b : Bool) (s' : HS) : Prop := (b = false ∧ add2 C R i p t s = some s') ∨ (b = true ∧ add2 C R i p t s = none)
set_option maxHeartbeats 1000000 in
theorem wkAdd_c (g R C i p : Nat) (t : Int) (aa au ar : Option Addr) (ca cu cr : Nat) (s : HS) (w : World) (hW : Wk w g R C aa au ar ca cu cr false) (h : Two w aa au (R * C) (R * R) ca cu s) (ngA : blk aa ≠ some g) (ngU : blk au ≠ some g) (hs : Hs C R s) (hi : i < R) (hp : p < R) (hip : i ≠ p) (ht : -400000000 ≤ t ∧ t ≤ 400000000) (hR : R ≤ 24) (hC : C ≤ 24) :
    Calls Try.prog 114 #[.pointer (some ⟨g, 0, none⟩), .int .i64 i, .int .i64 p, .int .i64 t] w fun e w' => e = .returned (.tuple #[]) ∧ ∃ b s', Wk w' g R C aa au ar ca cu cr b ∧ Two w' aa au (R * C) (R * R) ca cu s' ∧ AddTo C R i p t s b s' ∧ Keep (fun q => blk aa ≠ some q ∧ blk au ≠ some q ∧ q ≠ g) w w' := by
  go_enter Try.func114, Try.ntmps114
  go_wp2_with fail
  refine (wkRows_g g R C aa au ar ca cu cr 2 i p t s (addR s.1 C i p t) (addR s.2 R i p t) (addOk s.1 C i p t) (addOk s.2 R i p t) w hW h ngA ngU (fun w => isRowOp_c 2 t i p R w hi hp hR ht (.inr (.inr ⟨rfl, hip⟩)))
    (fun w hw => rowOpAdd_c aa _ ca C i p R t s.1 w hw (row_le' rfl hi) (row_le' rfl hp) hip hs.na ht (by omega) (by omega) (by omega))
    (fun w hw => rowOpAdd_c au _ cu R i p R t s.2 w hw (row_le' rfl hi) (row_le' rfl hp) hip hs.nu ht (by omega) (by omega) (by omega))).mono ?_
  rintro e w' ⟨rfl, s', h1, h2, h3, h4⟩
  have hA : AddTo C R i p t s (!(addOk s.1 C i p t && addOk s.2 R i p t)) s' := by
    unfold AddTo add2
    cases hb : (addOk s.1 C i p t && addOk s.2 R i p t) with
    | true => exact .inl ⟨rfl, by rw [if_pos rfl, h3 hb]⟩
    | false => exact .inr ⟨rfl, by rw [if_neg (by simp)]⟩
  go_wp2
  exact bodyPost_end (results_none rfl _ _ _) rfl ⟨rfl, _, s', h1, h2, hA, h4⟩
set_option maxHeartbeats 4000000 in
set_option maxRecDepth 100000 in
theorem wkLeast_c (g R C t j : Nat) (aa au ar : Option Addr) (ca cu cr : Nat) (s : HS) (w : World) (hW : Wk w g R C aa au ar ca cu cr false) (h : Two w aa au (R * C) (R * R) ca cu s) (hs : Hs C R s) (ht : t ≤ R) (hj : j < C) (hR : R ≤ 24) (hC : C ≤ 24) :
    Calls Try.prog 112 #[.pointer (some ⟨g, 0, none⟩), .int .i64 t, .int .i64 j] w fun e w' => e = .returned (.int .i64 (leastN s.1 C j t (R - t))) ∧ Grow w w' := by
  have hRC : R * C ≤ 24 * 24 := Nat.mul_le_mul hR hC
  have hr0 := h.oa.rdI (S := fun _ => True) (fun _ _ => trivial) (num_rng hs.na)
  have hl := hs.la
  have hn := hs.na
  obtain ⟨cells, hcells⟩ : ∃ cells, cells = s.1 := ⟨_, rfl⟩
  rw [← hcells] at hr0 hl hn ⊢
  have Hl := Lib.hid hl; clear hl h hs hcells
  go_enter Try.func112, Try.ntmps112
  go_wp2
  go_loopw [7, 8] (fun b q wr => Grow w wr ∧ ∃ k : Nat, k ≤ R - t ∧ q = .int .i64 ((t + k : Nat) : Int) ∧ b = .int .i64 (leastN cells C j t k)) (fun _ q _ => R - (intOf q).toNat)
  case atStart => exact ⟨Grow.refl _, 0, Nat.zero_le _, rfl, rfl⟩
  case round =>
    obtain ⟨hG, k, hk, rfl, rfl⟩ := hrel
    have hr := hr0.grow hG
    have Wr := hW.grow hG
    obtain ⟨c0, c1, c2, -⟩ := Wr.f
    have hsp := leastN_spec cells C j t k
    by_cases hlt : t + k < R
    · have hni : (t + k) * C + j < R * C := place_lt hj hlt
      have hx := cell_num hn C (t + k) j
      have hstep := Lib.hid (show leastN cells C j t (k + 1) = if cell cells C (t + k) j ≠ 0 ∧ (leastN cells C j t k < 0 ∨ (cell cells C (t + k) j).natAbs < (cell cells C (leastN cells C j t k).toNat j).natAbs) then ((t + k : Nat) : Int) else leastN cells C j t k from rfl)
      have hgc : cells[(t + k) * C + j]? = some (cell cells C (t + k) j) := get_cell (by rw [Hl.out]; exact hni)
      have Hgc := Lib.hid hgc; clear hgc
      go_wp2_with fail
      refine (at_c aa _ ca C (t + k) j ((t + k) * C + j) (R : Int) _ cells _ hr rfl Hgc.out (by omega) (by omega) (by omega) (by omega)).mono ?_
      rintro e w3 ⟨rfl, hG3⟩
      clear hni Hgc
      go_wp2_with fail
      refine (absInt_c _ _ (by omega)).mono ?_
      rintro e _ ⟨rfl, rfl⟩
      replace hr := hr.grow hG3
      replace Wr := Wr.grow hG3
      have hGn := hG.trans hG3
      clear c0 c1 c2 hG hG3
      obtain ⟨c0, c1, c2, -⟩ := Wr.f
      generalize hxc : cell cells C (t + k) j = x at *
      clear hxc
      by_cases hx0 : x = 0
      · have HL := Lib.hid (show leastN cells C j t (k + 1) = leastN cells C j t k by rw [hstep.out, if_neg (by simp [hx0])])
        subst hx0
        clear hstep
        generalize leastN cells C j t k = L at *
        go_wp2
        go_roundw
        case rel => exact ⟨hGn, k + 1, by omega, by go_num, by rw [HL.out] <;> try go_num⟩
        case measure => simp [intOf]; omega
      · have q1 : (((x.natAbs : Nat) : Int) != 0) = true := by simp; omega
        have q1' : ((x.natAbs : Nat) : Int) ≠ 0 := by omega
        rcases hsp with ⟨hL, _⟩ | ⟨p, hL, hp1, hp2, hp3, _⟩
        · have HL := Lib.hid (show leastN cells C j t (k + 1) = ((t + k : Nat) : Int) by rw [hstep.out, if_pos ⟨hx0, .inl (by omega)⟩])
          clear hstep
          rw [hL]
          clear hL
          go_wp2
          go_roundw
          case rel => exact ⟨hGn, k + 1, by omega, by go_num, by rw [HL.out] <;> try go_num⟩
          case measure => simp [intOf]; omega
        · have hnp : p * C + j < R * C := place_lt hj (by omega)
          have hy := cell_num hn C p j
          have hst2 := Lib.hid (show leastN cells C j t (k + 1) = if x.natAbs < (cell cells C p j).natAbs then ((t + k : Nat) : Int) else (p : Int) by
            rw [hstep.out, hL, Int.toNat_natCast]
            by_cases hc : x.natAbs < (cell cells C p j).natAbs
            · rw [if_pos ⟨hx0, .inr hc⟩, if_pos hc]
            · rw [if_neg (by rintro ⟨_, h | h⟩ <;> omega), if_neg hc])
          have hgp : cells[p * C + j]? = some (cell cells C p j) := get_cell (by rw [Hl.out]; exact hnp)
          have Hgp := Lib.hid hgp; clear hgp
          rw [hL]
          have q2 : decide ((p : Int) < 0) = false := decide_eq_false (by omega)
          clear hL hstep hp3
          go_wp2_with fail
          refine (at_c aa _ ca C p j (p * C + j) (R : Int) _ cells _ hr rfl Hgp.out (by omega) (by omega) (by omega) (by omega)).mono ?_
          rintro e w4 ⟨rfl, hG4⟩
          clear hnp Hgp
          generalize cell cells C p j = y at *
          go_wp2_with fail
          refine (absInt_c _ _ (by omega)).mono ?_
          rintro e _ ⟨rfl, rfl⟩
          replace hGn := hGn.trans hG4
          by_cases hc : x.natAbs < y.natAbs
          · have HL := Lib.hid (show leastN cells C j t (k + 1) = ((t + k : Nat) : Int) by rw [hst2.out, if_pos hc])
            clear hst2
            go_wp2
            go_roundw
            case rel => exact ⟨hGn, k + 1, by omega, by go_num, by rw [HL.out] <;> try go_num⟩
            case measure => simp [intOf]; omega
          · have HL := Lib.hid (show leastN cells C j t (k + 1) = (p : Int) by rw [hst2.out, if_neg hc])
            clear hst2
            go_wp2
            go_roundw
            case rel => exact ⟨hGn, k + 1, by omega, by go_num, by rw [HL.out] <;> try go_num⟩
            case measure => simp [intOf]; omega
    · have hkr : k = R - t := by omega
      go_wp2
      go_ret
      exact ⟨by rw [hkr]; rfl, hG⟩
set_option maxHeartbeats 2000000 in
set_option maxRecDepth 100000 in
theorem wkOthers_c (g R C t p j : Nat) (aa au ar : Option Addr) (ca cu cr : Nat) (s : HS) (w : World) (hW : Wk w g R C aa au ar ca cu cr false) (h : Two w aa au (R * C) (R * R) ca cu s) (hs : Hs C R s) (ht : t ≤ R) (hj : j < C) (hR : R ≤ 24) (hC : C ≤ 24) :
    Calls Try.prog 113 #[.pointer (some ⟨g, 0, none⟩), .int .i64 t, .int .i64 p, .int .i64 j] w fun e w' => e = .returned (.bool (!aloneB s.1 C R j p t)) ∧ Grow w w' := by
  have hRC : R * C ≤ 24 * 24 := Nat.mul_le_mul hR hC
  have hr0 := h.oa.rdI (S := fun _ => True) (fun _ _ => trivial) (num_rng hs.na)
  have hl := hs.la
  have hn := hs.na
  obtain ⟨cells, hcells⟩ : ∃ cells, cells = s.1 := ⟨_, rfl⟩
  rw [← hcells] at hr0 hl hn ⊢
  have Hl := Lib.hid hl; clear hl h hs hcells
  go_enter Try.func113, Try.ntmps113
  go_wp2
  go_loopw [9] (fun q wr => Grow w wr ∧ ∃ k : Nat, k ≤ R - t ∧ q = .int .i64 ((t + k : Nat) : Int) ∧ ∀ d, d < k → t + d ≠ p → cell cells C (t + d) j = 0) (fun q _ => R - (intOf q).toNat)
  case atStart => exact ⟨Grow.refl _, 0, Nat.zero_le _, rfl, fun d hd => by omega⟩
  case round =>
    obtain ⟨hG, k, hk, rfl, hall⟩ := hrel
    have Hall := Lib.hid hall; clear hall
    have hr := hr0.grow hG
    have Wr := hW.grow hG
    obtain ⟨c0, c1, c2, -⟩ := Wr.f
    by_cases hlt : t + k < R
    · by_cases hkp : t + k = p
      · have q1 : ((((t + k : Nat) : Int)) != (p : Int)) = false := by rw [hkp]; simp
        have q2 : (((t : Int) + (k : Int)) != (p : Int)) = false := by rw [← hkp]; simp
        have Hkp := Lib.hid hkp; clear hkp
        go_wp2
        go_roundw
        case rel =>
          refine ⟨hG, k + 1, by omega, by go_num, fun d hd hne => ?_⟩
          by_cases e : d = k
          · subst e; exact (hne Hkp.out).elim
          · exact Hall.out d (by omega) hne
        case measure => simp [intOf]; omega
      · have q1 : ((((t + k : Nat) : Int)) != (p : Int)) = true := by simp; omega
        have q2 : (((t : Int) + (k : Int)) != (p : Int)) = true := by simp; omega
        have hni : (t + k) * C + j < R * C := place_lt hj hlt
        have hx := cell_num hn C (t + k) j
        have hgc : cells[(t + k) * C + j]? = some (cell cells C (t + k) j) := get_cell (by rw [Hl.out]; exact hni)
        have Hgc := Lib.hid hgc; clear hgc
        have Hkp := Lib.hid hkp; clear hkp
        go_wp2_with fail
        refine (at_c aa _ ca C (t + k) j ((t + k) * C + j) (R : Int) _ cells _ hr rfl Hgc.out (by omega) (by omega) (by omega) (by omega)).mono ?_
        rintro e w3 ⟨rfl, hG3⟩
        clear hni Hgc
        by_cases hx0 : cell cells C (t + k) j = 0
        · have Hx0 := Lib.hid hx0
          rw [hx0]
          clear hx0
          go_wp2
          go_roundw
          case rel =>
            refine ⟨hG.trans hG3, k + 1, by omega, by go_num, fun d hd hne => ?_⟩
            by_cases e : d = k
            · subst e; exact Hx0.out
            · exact Hall.out d (by omega) hne
          case measure => simp [intOf]; omega
        · have HF := Lib.hid (aloneB_no (R := R) (p := p) (t := t) (by omega) hlt Hkp.out hx0)
          have q3 : (cell cells C (t + k) j != 0) = true := by simpa using hx0
          go_wp2
          go_ret
          exact ⟨by rw [HF.out]; rfl, hG.trans hG3⟩
    · have HF := Lib.hid (show aloneB cells C R j p t = true from aloneB_iff.2 fun i h1 h2 h3 => by
        have := Hall.out (i - t) (by omega)
        rw [show t + (i - t) = i by omega] at this
        exact this h3)
      go_wp2
      go_ret
      exact ⟨by rw [HF.out]; rfl, hG⟩
end Go.Proofs.Ythlncohllbmapaa
