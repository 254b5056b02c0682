/-
  The program's row operations.
-/
import Derived.Test.YthlncohllbmapaaHermT
namespace Go.Proofs.Ythlncohllbmapaa
open Go.RowKit

theorem addr_add (g j : Nat) : (⟨g, 0, none⟩ : Addr).add j = ⟨g, j, none⟩ := by unfold Addr.add; split <;> simp_all
set_option maxHeartbeats 1000000 in
set_option maxRecDepth 100000 in
theorem row_c (a : Option Addr) (n cp C i : Nat) (R : Int) (m : List Int) (w : World) (h : Own w 3 1 a n cp (ints m)) (hi : i * C + C ≤ n) (hi2 : i ≤ 1048575) (hC2 : C ≤ 1048576) :
    Calls Try.prog 34 #[.agg #[.int .i64 R, .int .i64 C, .slice a n cp], .int .i64 i] w fun e w' => ∃ a1, e = .returned (.slice a1 C (cp - i * C)) ∧ (0 < C → ∃ pb, a = some ⟨pb, 0, none⟩ ∧ a1 = some ⟨pb, i * C, none⟩) ∧ Grow w w' := by
  have hle := h.le
  have u1 := mul_wrap (i := i) (c := C) (by omega) hC2
  have u3 : IntKind.i64.wrap (((i : Int) + 1) * C) = ((i : Int) + 1) * C := by
    have := mul_wrap (i := i + 1) (c := C) (by omega) hC2
    simpa using this
  have r := T_ints.atLH (a := a) (n := n) (cap := cp) (l := i * C) (k := i * C + C) (i := (i : Int) * C) (j := ((i : Int) + 1) * C) (by simp) (by rw [Int.add_mul]; simp) (by omega) (by omega)
  rw [show i * C + C - i * C = C by omega] at r
  have hA : 0 < C → ∃ pb, a = some ⟨pb, 0, none⟩ ∧ subA a cp (i * C) 1 = some ⟨pb, i * C, none⟩ := fun hC => by
    cases a with
    | none => have := h.nil rfl; omega
    | some q =>
      have hq := (h.block q rfl).1
      refine ⟨q.block, by rw [← hq], ?_⟩
      unfold subA
      rw [if_neg (by omega), hq, Nat.mul_one]
      exact congrArg some (addr_add q.block (i * C))
  have HA := Lib.hid hA; clear hA
  go_enter Try.func34, Try.ntmps34
  go_wp2
  go_ret
  exact ⟨_, rfl, HA.out, (Grow.refl w).alloc _ _⟩
set_option maxHeartbeats 4000000 in
set_option maxRecDepth 100000 in
theorem rowOpAdd_c (a : Option Addr) (n cp C i p : Nat) (R t : Int) (m : List Int) (w : World) (h : Own w 3 1 a n cp (ints m)) (hi : i * C + C ≤ n) (hp : p * C + C ≤ n) (hip : i ≠ p) (hm : NumL m) (ht : -400000000 ≤ t ∧ t ≤ 400000000) (hi2 : i ≤ 1000) (hp2 : p ≤ 1000) (hC2 : C ≤ 1048576) :
    Calls Try.prog 126 #[.agg #[.int .i64 R, .int .i64 C, .slice a n cp], .agg #[.int .i64 2, .int .i64 i, .int .i64 p, .int .i64 t]] w fun e w' => ∃ m', e = .returned (.bool (addOk m C i p t)) ∧ Own w' 3 1 a n cp (ints m') ∧ Keep (fun q => blk a ≠ some q) w w' ∧ (addOk m C i p t = true → m' = addR m C i p t) := by
  obtain ⟨kd, hkd⟩ : ∃ kd : Int, kd = 2 := ⟨_, rfl⟩
  rw [← hkd]
  have hl : m.length = n := by simpa using h.len
  obtain ⟨w2, hw2⟩ : ∃ w2, w2 = (w.alloc (.cells #[.int .i64 R, .int .i64 (C : Int), .slice a n cp] 27)).alloc (.cells #[.int .i64 kd, .int .i64 (i : Int), .int .i64 (p : Int), .int .i64 t] 94) := ⟨_, rfl⟩
  have hG2 : Grow w w2 := by rw [hw2]; exact ((Grow.refl w).alloc _ _).alloc _ _
  have bM : Blk w2 w.heap.size #[.int .i64 R, .int .i64 (C : Int), .slice a n cp] 27 := by rw [hw2]; exact (Blk.new w _ _).alloc _
  have bX : Blk w2 (w.heap.size + 1) #[.int .i64 kd, .int .i64 (i : Int), .int .i64 (p : Int), .int .i64 t] 94 := by rw [hw2]; exact Blk.newAt _ _ _ (by simp)
  have hO0 : Own w2 3 1 a n cp (ints m) := h.grow hG2
  have nX : blk a ≠ some (w.heap.size + 1) := fun e => by have := h.lt e; omega
  have Hw2 := Lib.hid hw2; clear hw2
  have hlow : ∀ q, blk a = some q → q < w.heap.size := fun q hq => h.lt hq
  clear h
  subst hkd
  go_enter Try.func126, Try.ntmps126
  go_wp2_with fail
  rw [← Hw2.out]
  refine (row_c a n cp C i R m _ hO0 hi (by omega) hC2).mono ?_
  rintro e w3 ⟨a1, rfl, hA1, hG3⟩
  have hO3 := hO0.grow hG3
  have bX3 := bX.grow hG3
  have bM3 := bM.grow hG3
  obtain ⟨⟨m0, m1, m2⟩, -⟩ := bM3.three
  have x0 := bX3.cell 0
  have x1 := bX3.cell 1
  have x2 := bX3.cell 2
  have x3 := bX3.cell 3
  simp only [List.getElem?_toArray, List.getElem?_cons_zero, List.getElem?_cons_succ] at x0 x1 x2 x3
  go_wp2_with fail
  refine (row_c a n cp C p R m _ hO3 hp (by omega) hC2).mono ?_
  rintro e w4 ⟨b1, rfl, hB1, hG4⟩
  have hO4 := hO3.grow hG4
  have bX4 := bX3.grow hG4
  have hG24 := (hG2.trans hG3).trans hG4
  clear x0 x1 x2 x3 m0 m1 m2 bM3 bX3 hO3 hO0 bM bX
  go_wp2
  go_loopw [19] (fun q wr => Keep (fun q => blk a ≠ some q) w4 wr ∧ ∃ k : Nat, k ≤ C ∧ q = .int .i64 k ∧ Own wr 3 1 a n cp (ints (updR (addV m C i p t) (i * C) k m)) ∧ ∀ k', k' < k → isNumB (cell m C p k' * t) = true ∧ isNumB (addV m C i p t k') = true) (fun q _ => C - (intOf q).toNat)
  case atStart => exact ⟨Keep.refl _ _, 0, Nat.zero_le _, rfl, hO4, fun k' h => by omega⟩
  case round =>
    clear hO4
    obtain ⟨hK, k, hk, rfl, hO, hall⟩ := hrel
    have Hall := Lib.hid hall; clear hall
    by_cases hlt : k < C
    · have bXr := bX4.keep hK nX
      have x0 := bXr.cell 0
      have x3 := bXr.cell 3
      simp only [List.getElem?_toArray, List.getElem?_cons_zero, List.getElem?_cons_succ] at x0 x3
      have hltX := bXr.lt
      have hlen : (updR (addV m C i p t) (i * C) k m).length = n := by rw [updR_len, hl]
      have hg1 : (updR (addV m C i p t) (i * C) k m).getD (i * C + k) 0 = cell m C i k := by rw [updR_getD (by omega), if_neg (by omega)]; rfl
      have hg2 : (updR (addV m C i p t) (i * C) k m).getD (p * C + k) 0 = cell m C p k := by
        rw [updR_getD (by omega), if_neg]; rfl
        rintro ⟨h1, h2⟩
        have := place_eq (i := i) (i' := p) (j := p * C + k - i * C) (j' := k) (C := C) (by omega) hlt (by omega)
        exact hip this.1
      obtain ⟨pb, rfl, rfl⟩ := hA1 (by omega)
      obtain ⟨pb', hpb', rfl⟩ := hB1 (by omega)
      obtain rfl : pb = pb' := by simpa using hpb'
      have hc1 := hO.cell (ints_get (by omega) hg1)
      have hc2 := hO.cell (ints_get (by omega) hg2)
      have hfr := hO.free (i * C + k)
      have hpb := hO.lt (g := pb) rfl
      have hsA := cell_num hm C i k
      have hsB := cell_num hm C p k
      have hmul := mul_rng hsB ht
      have hO9 : ∀ N, Own ((wr.drewN N).setCell ⟨pb, i * C + k, none⟩ (.int .i64 (addV m C i p t k))) 3 1 (some ⟨pb, 0, none⟩) n cp (ints (updR (addV m C i p t) (i * C) (k + 1) m)) := fun N => by
        have := (hO.grow ((Grow.refl wr).drewN N)).set (i * C + k) (.int .i64 (addV m C i p t k))
        rw [← ints_set] at this
        exact this
      have hKs : ∀ N, Keep (fun q => blk (some (⟨pb, 0, none⟩ : Addr)) ≠ some q) wr ((wr.drewN N).setCell ⟨pb, i * C + k, none⟩ (.int .i64 (addV m C i p t k))) := fun N => ((Keep.refl _ wr).drewN N).setCell (p := ⟨pb, i * C + k, none⟩) (fun _ e => e rfl) _
      have Hv := Lib.hid (show addV m C i p t k = cell m C i k + cell m C p k * t from rfl)
      have Hno := Lib.hid (fun hno : ¬ (isNumB (cell m C p k * t) = true ∧ isNumB (addV m C i p t k) = true) => (show addOk m C i p t = false by
        rw [Bool.eq_false_iff]; intro e
        exact hno (addOk_iff.1 e k hlt)))
      clear hO hg1 hg2 hlen hA1 hB1 hpb'
      simp only at hc1 hc2 hfr
      have u5 : IntKind.i64.wrap (cell m C p k * t) = cell m C p k * t := IntWalk.i64_in _ (by omega)
      have u6 : wrap64 (cell m C p k * t) = cell m C p k * t := by unfold wrap64; omega
      have u7 : IntKind.i64.wrap (cell m C i k + cell m C p k * t) = cell m C i k + cell m C p k * t := IntWalk.i64_in _ (by omega)
      generalize cell m C i k = ca at *
      generalize hcb : cell m C p k = cb at *
      have Hcb := Lib.hid hcb
      clear hcb
      rw [Hv.out] at hO9 hKs Hno
      go_wp2
      go_quiet (fail)
      go_wp2_with fail
      refine (isNumber_c _ _).mono ?_
      rintro e _ ⟨rfl, rfl⟩
      cases hn1 : isNumB (cb * t) with
      | false =>
        have HF := Lib.hid (Hno.out (fun h => by rw [hn1] at h; cases h.1))
        go_wp2
        go_ret
        exact ⟨_, by rw [HF.out]; rfl, hO9 _, (hG24.any.trans hK).trans (hKs _), fun h => by rw [HF.out] at h; cases h⟩
      | true =>
        go_wp2_with fail
        refine (isNumber_c _ _).mono ?_
        rintro e _ ⟨rfl, rfl⟩
        cases hn2 : isNumB (ca + cb * t) with
        | false =>
          have HF := Lib.hid (Hno.out (fun h => by rw [hn2] at h; cases h.2))
          go_wp2
          go_ret
          exact ⟨_, by rw [HF.out]; rfl, hO9 _, (hG24.any.trans hK).trans (hKs _), fun h => by rw [HF.out] at h; cases h⟩
        | true =>
          have Hst := Lib.hid (show ∀ k', k' < k + 1 → isNumB (cell m C p k' * t) = true ∧ isNumB (addV m C i p t k') = true from fun k' hk' => by
            by_cases e : k' = k
            · subst e; rw [Hv.out, Hcb.out]; exact ⟨hn1, hn2⟩
            · exact Hall.out k' (by omega))
          go_wp2
          go_roundw
          case rel => exact ⟨hK.trans (hKs _), k + 1, by omega, by go_num, hO9 _, Hst.out⟩
          case measure => simp [intOf]; omega
    · have hkC : k = C := by omega
      subst hkC
      have HT := Lib.hid (addOk_iff.2 Hall.out)
      go_wp2
      go_ret
      exact ⟨_, by rw [HT.out]; rfl, hO, hG24.any.trans hK, fun _ => rfl⟩
end Go.Proofs.Ythlncohllbmapaa
