/-
  The laws' helpers on []Arrow: copying and marking all of them.
-/
import Derived.Test.YtkafhbedipfgpaaArrowK
namespace Go.Proofs.Ytkafhbedipfgpaa
open Go.RowKit

theorem madeCells_two (z : Value) (n : Nat) : (madeCells #[z, z] (n * 2)).toList = List.replicate (n * 2) z := by
  unfold madeCells
  refine List.ext_getElem (by simp) fun i h1 h2 => ?_
  simp at h1 ⊢
  rcases Nat.mod_two_eq_zero_or_one i with h | h <;> simp [h]
theorem fill_at2 {α : Type} {l : List α} {k n : Nat} {z : α} (hl : l.length = k * 2) (hk : k < n) : (l ++ List.replicate ((n - k) * 2) z)[k * 2]? = some z ∧ (l ++ List.replicate ((n - k) * 2) z)[k * 2 + 1]? = some z := by
  constructor
  · rw [List.getElem?_append_right (by omega), hl, List.getElem?_replicate]; simp; omega
  · rw [List.getElem?_append_right (by omega), hl, List.getElem?_replicate]; simp; omega
theorem fill_set2 {α : Type} {l : List α} {k n : Nat} {z u v : α} (hl : l.length = k * 2) (hk : k < n) : ((l ++ List.replicate ((n - k) * 2) z).set (k * 2) u).set (k * 2 + 1) v = (l ++ [u, v]) ++ List.replicate ((n - (k + 1)) * 2) z := by
  rw [List.set_append_right _ _ (by omega), List.set_append_right _ _ (by omega), hl, Nat.sub_self, show k * 2 + 1 - k * 2 = 1 from by omega, show (n - k) * 2 = (n - (k + 1)) * 2 + 1 + 1 from by omega, List.replicate_succ, List.replicate_succ]; simp

set_option maxHeartbeats 1000000 in
set_option maxRecDepth 100000 in
theorem to_AA {S : Nat → Prop} {v : Value} {l : List Arw} {w : World} (h : VAA w S v l) (hb : bdAA l ≤ 1048576) : Calls Try.prog 37 #[v] w fun e w' => ∃ v', e = .returned v' ∧ OAA w' (New w w') v' l ∧ Grow w w' := by
  obtain ⟨a, n, cap, rfl, h⟩ := h
  have hl := h.len
  unfold bdAA at hb
  have hn : n ≤ 1048576 := by omega
  have hmk := T_arrows.make (n := n) (by omega) (by unfold maxLen; omega)
  have Hl := Lib.hid hl; clear hl
  go_enter Try.func37, Try.ntmps37
  go_wp2
  go_loopw [4] (fun i wr => ∃ (k : Nat) (vs : List Value), k ≤ n ∧ i = .int .i64 k ∧ Grow w wr ∧ vs.length = k * 2 ∧ w.heap.size < wr.heap.size ∧ Own wr 79 2 (some ⟨w.heap.size, 0, none⟩) n n (vs ++ List.replicate ((n - k) * 2) (.slice none 0 0)) ∧ Inner wr (New w wr) (some w.heap.size) vs (flat (l.take k))) (fun i _ => n - (intOf i).toNat)
  case atStart =>
    refine ⟨0, [], Nat.zero_le _, rfl, (Grow.refl w).alloc _ _, rfl, by simp, ?_, Inner.nilw⟩
    have := Own.fresh (w := w) (e := 79) (sz := 2) (cs := madeCells #[.slice none 0 0, .slice none 0 0] (n * 2)) (n := n) (by unfold maxLen; omega) (by simp [madeCells])
    simpa [madeCells_two] using this
  case round =>
    obtain ⟨k, vs, hk, rfl, hG, hvl, hsz, hO, hI⟩ := hrel
    have Hvl := Lib.hid hvl; clear hvl
    by_cases hlt : k < n
    · obtain ⟨b, off, x, y, a1, c1, a2, c2, rfl, hx, _, hbw, hc, r1, r2⟩ := (h.grow hG).at hlt
      obtain ⟨hc1, hc2⟩ := hc
      have htot := (flat_total_at hx).2
      have Hx := Lib.hid hx; clear hx
      go_wp2_with fail
      refine (toArrow_c _ _ _ _ _ _ x y _ r1 r2 (by omega) (by omega)).mono ?_
      rintro e w1 ⟨b1, b2, rfl, o1, o2, l1, l2, ap, hG1⟩
      have hO' := hO.grow hG1
      have hI' := hI.grow hG1
      have hs1 := hG1.size
      have f1 := fill_at2 (z := Value.slice none 0 0) Hvl.out hlt
      have hf1 := hO'.free (k * 2)
      have hf2 := hO'.free (k * 2 + 1)
      have hce1 := hO'.cell f1.1
      have hce2 := hO'.cell f1.2
      simp only at hf1 hf2 hce1 hce2
      clear f1
      go_wp2
      go_roundw
      case rel =>
        have hw' : Keep (fun q => q ≠ w.heap.size) w1 ((w1.setCell ⟨w.heap.size, k * 2, none⟩ (.slice b1 x.length x.length)).setCell ⟨w.heap.size, k * 2 + 1, none⟩ (.slice b2 y.length y.length)) := ((Keep.refl _ _).setCell (fun _ e => e rfl) _).setCell (fun _ e => e rfl) _
        have hft : flat (l.take (k + 1)) = (flat (l.take k) ++ [x]) ++ [y] := by rw [take_succ Hx.out, flat_append]; simp
        have h1 := (hI'.weak (G := New w w1) (g' := some w.heap.size) fun b hb hF hne => ⟨⟨hF.1, by have := hF.2; omega⟩, hne⟩).snoc o1 r1.rng (fun q hq => ⟨⟨by have := l1 q hq; omega, o1.lt hq⟩, by have := l1 q hq; intro e; simp at e; omega⟩)
          (fun q hq v hv hvq => by have := (hI.lt hv hvq).1; have := l1 q hq; omega)
        have h2 := h1.snoc o2 r2.rng (fun q hq => ⟨⟨by have := l2 q hq; omega, o2.lt hq⟩, by have := l2 q hq; intro e; simp at e; omega⟩)
          (fun q hq v hv hvq => by
            rcases List.mem_append.1 hv with hv | hv
            · have := (hI.lt hv hvq).1; have := l2 q hq; omega
            · rw [List.mem_singleton] at hv; subst hv; rw [ownBlock_slice] at hvq; exact ap q hvq hq)
        refine ⟨k + 1, (vs ++ [.slice b1 x.length x.length]) ++ [.slice b2 y.length y.length], by omega, by go_num, ((hG.trans hG1).setCell (Nat.le_refl _) _).setCell (Nat.le_refl _) _, by simp [Hvl.out]; omega, by simp; omega, ?_, ?_⟩
        · have := (hO'.set (k * 2) (.slice b1 x.length x.length)).set (k * 2 + 1) (.slice b2 y.length y.length)
          rw [fill_set2 Hvl.out hlt] at this
          simpa using this
        · rw [hft]
          exact (h2.keep hw' (fun b _ _ hne e => hne (by rw [e]))).weak fun b hb hF hne => ⟨⟨hF.1, by simpa using hF.2⟩, hne⟩
      case measure => simp [intOf]; omega
    · go_wp2
      go_ret
      have : k = n := by omega
      subst this
      refine ⟨_, rfl, ⟨_, _, _, rfl, ⟨⟨vs, by simpa using hO, by rw [take_all Hl.out] at hI; exact hI⟩, fun g hg => ?_⟩⟩, hG⟩
      simp at hg; subst hg
      exact ⟨Nat.le_refl _, hsz⟩

/-- The marks. -/
def mkAA : List Arw → Nat → List Arw
  | [], _ => []
  | p :: r, k => (markI p.1.length k, markI p.2.length (k + p.1.length)) :: mkAA r (k + p.1.length + p.2.length)
theorem mkAA_len : ∀ (l : List Arw) (k : Nat), (mkAA l k).length = l.length
  | [], _ => rfl
  | p :: r, k => by simp [mkAA, mkAA_len r]
theorem mkAA_flat : ∀ (l : List Arw) (k : Nat), flat (mkAA l k) = markII (flat l) k
  | [], _ => rfl
  | p :: r, k => by simp [mkAA, markII, mkAA_flat r]
theorem mark_at {l : List Arw} {j : Nat} {x y : List Int} (k : Nat) (h : l[j]? = some (x, y)) :
    (markII (flat l) k)[j * 2]? = some (markI x.length (k + total (flat (l.take j)))) ∧ (markII (flat l) k)[j * 2 + 1]? = some (markI y.length (k + total (flat (l.take j)) + x.length)) := by
  obtain ⟨h1, h2⟩ := flat_at h
  have h3 : total ((flat l).take (j * 2 + 1)) = total (flat (l.take j)) + x.length := by rw [total_take_succ h1, flat_take]
  refine ⟨by rw [markII_at k h1, ← flat_take], ?_⟩
  rw [markII_at k h2, h3]
  congr 2; omega

set_option maxHeartbeats 1000000 in
theorem mark_AA {F : Nat → Prop} {v : Value} {l : List Arw} {w : World} (k : Nat) (h : OAA w F v l) (hb : bdAA l + k ≤ 4294967296) : Calls Try.prog 45 #[v, .int .i64 k] w fun e w' =>
    e = .returned (.int .i64 ((k + cntAA l : Nat) : Int)) ∧ OAA w' F v (mkAA l k) ∧ Keep (fun g => ¬ F g) w w' := by
  obtain ⟨a, n, cap, rfl, h⟩ := h
  have hl := h.len
  unfold bdAA at hb
  unfold cntAA
  obtain ⟨⟨vs, hO, hI⟩, hlo⟩ := h
  have hn : n ≤ 4294967296 := by omega
  have Hl := Lib.hid hl; clear hl
  go_enter Try.func45, Try.ntmps45
  go_wp2
  go_loopw [1, 5] (fun q i wr => ∃ j : Nat, j ≤ n ∧ i = .int .i64 j ∧ q = .int .i64 ((k + total (flat (l.take j)) : Nat) : Int) ∧ Own wr 79 2 a n cap vs ∧ Inner wr F (blk a) vs ((markII (flat l) k).take (j * 2) ++ (flat l).drop (j * 2)) ∧ Keep (fun g => ¬ F g) w wr) (fun _ i _ => n - (intOf i).toNat)
  case atStart => exact ⟨0, Nat.zero_le _, rfl, rfl, hO, by simpa using hI, Keep.refl _ _⟩
  case round =>
    obtain ⟨j, hj, rfl, rfl, hO, hI, hK⟩ := hrel
    by_cases hlt : j < n
    · obtain ⟨⟨x, y⟩, hx⟩ : ∃ p, l[j]? = some p := ⟨_, List.getElem?_eq_getElem (by rw [Hl.out]; exact hlt)⟩
      have hfl := flat_len l
      rw [Hl.out] at hfl
      obtain ⟨f1, f2⟩ := flat_at hx
      obtain ⟨m1, m2⟩ := mark_at k hx
      have hcur := take_drop_at (l := markII (flat l) k) (i := j * 2) (by simp; omega) f1
      obtain ⟨b1, c1, hv1, hO1, hr1, hF1⟩ := hI.each (j * 2) x hcur
      obtain ⟨htot, hle⟩ := flat_total_at hx
      have hset1 := take_drop_set m1 f1
      have hset2 := take_drop_set m2 f2
      have hcur2 := take_drop_at (l := markII (flat l) k) (i := j * 2 + 1) (by simp; omega) f2
      have hset3 : (((markII (flat l) k).take (j * 2) ++ (flat l).drop (j * 2)).set (j * 2) (markI x.length (k + total (flat (l.take j))))).set (j * 2 + 1) (markI y.length (k + total (flat (l.take j)) + x.length)) = (markII (flat l) k).take ((j + 1) * 2) ++ (flat l).drop ((j + 1) * 2) := by
        rw [hset1, hset2]; rw [show (j + 1) * 2 = j * 2 + 1 + 1 from by omega]
      cases a with
      | none => have := hO.nil rfl; have := hO.le; omega
      | some p =>
        have hp := (hO.block p rfl).1
        have hcell1 := hO.cell hv1
        obtain ⟨pb, po, ps⟩ := p
        simp only [Addr.mk.injEq, true_and] at hp
        obtain ⟨rfl, rfl⟩ := hp
        simp only at hcell1
        have Hset1 := Lib.hid hset1; clear hset1
        have Hset3 := Lib.hid hset3; clear hset3 hset2
        have Htot := Lib.hid htot; clear htot
        have Hcur := Lib.hid hcur; clear hcur
        have Hcur2 := Lib.hid hcur2; clear hcur2
        have Hv1 := Lib.hid hv1; clear hv1
        clear hx f1 f2 m1 m2 hfl
        go_wp2_with fail
        refine (markIntS_c _ _ _ _ x _ hO1 (by omega)).mono ?_
        rintro e w1 ⟨rfl, o1, hK1⟩
        have hI1 := hI.put Hv1.out Hcur.out (by simp) o1 (markI_rng (by omega)) hK1
        rw [Hset1.out] at hI1
        have hOk := hO.keep hK1 (fun q hq _ e => (hF1 q e).2 hq)
        obtain ⟨b2, c2, hv2, hO2, hr2, hF2⟩ := hI1.each (j * 2 + 1) y Hcur2.out
        have hcell2 := hOk.cell hv2
        simp only at hcell2
        have Hv2 := Lib.hid hv2; clear hv2
        go_wp2_with fail
        refine (markIntS_c _ _ _ _ y _ hO2 (by omega)).mono ?_
        rintro e w2 ⟨rfl, o2, hK2⟩
        have hI2 := hI1.put Hv2.out Hcur2.out (by simp) o2 (markI_rng (by omega)) hK2
        rw [← Hset1.out, Hset3.out] at hI2
        go_wp2
        go_roundw
        case rel =>
          exact ⟨j + 1, by omega, by go_num, by rw [Htot.out]; go_num, hOk.keep hK2 (fun q hq _ e => (hF2 q e).2 hq), hI2, (hK.trans (hK1.mono fun q _ hq e => hq (hF1 q e).1)).trans (hK2.mono fun q _ hq e => hq (hF2 q e).1)⟩
        case measure => simp [intOf]; omega
    · go_wp2
      go_ret
      have : j = n := by omega
      subst this
      refine ⟨ret_int (by rw [take_all Hl.out]), ⟨_, _, _, rfl, ⟨⟨vs, hO, ?_⟩, hlo⟩⟩, hK⟩
      have hd : (flat l).drop (j * 2) = [] := by rw [← Hl.out, ← flat_len]; simp
      rw [hd, List.append_nil, take_all (by simp [flat_len, Hl.out])] at hI
      rw [mkAA_flat]; exact hI

set_option maxHeartbeats 1000000 in
theorem held_AA {S : Nat → Prop} {v : Value} {l : List Arw} {w : World} (k : Nat) (h : VAA w S v (mkAA l k)) (hb : bdAA l + k ≤ 4294967296) : Calls Try.prog 46 #[v, .int .i64 k] w fun e w' =>
    e = .returned (.int .i64 ((k + cntAA l : Nat) : Int)) ∧ Grow w w' := by
  obtain ⟨a, n, cap, rfl, h⟩ := h
  have hl : l.length = n := by simpa [mkAA_len] using h.len
  unfold bdAA at hb
  unfold cntAA
  have hn : n ≤ 4294967296 := by omega
  have Hl := Lib.hid hl; clear hl
  obtain ⟨⟨vs, hR, hC⟩, _⟩ := h
  rw [mkAA_flat] at hC
  go_enter Try.func46, Try.ntmps46
  go_wp2
  go_loop [1, 5] (fun q i => ∃ j : Nat, j ≤ n ∧ i = .int .i64 j ∧ q = .int .i64 ((k + total (flat (l.take j)) : Nat) : Int)) (fun _ i => n - (intOf i).toNat)
  case atStart => exact ⟨0, Nat.zero_le _, rfl, rfl⟩
  case round =>
    obtain ⟨j, hj, rfl, rfl⟩ := hrel
    by_cases hlt : j < n
    · obtain ⟨⟨x, y⟩, hx⟩ : ∃ p, l[j]? = some p := ⟨_, List.getElem?_eq_getElem (by rw [Hl.out]; exact hlt)⟩
      obtain ⟨m1, m2⟩ := mark_at k hx
      obtain ⟨htot, hle⟩ := flat_total_at hx
      obtain ⟨b1, c1, h3, h4⟩ := hC _ _ m1
      obtain ⟨b2, c2, h5, h6⟩ := hC _ _ m2
      rw [markI_len] at h3 h4 h5 h6
      obtain ⟨b, off, rfl, _, hc⟩ := hR.addr (by intro e; subst e; simp at h3)
      have hc1 := hc _ _ h3
      have hc2 := hc _ _ h5
      rw [← Nat.add_assoc] at hc2
      have Htot := Lib.hid htot
      clear hx m1 m2 h3 h5 htot hc
      go_wp2_with fail
      refine (heldIntS_c _ _ _ _ _ h4 (by omega)).mono ?_
      rintro e w' ⟨rfl, rfl⟩
      go_wp2_with fail
      refine (heldIntS_c _ _ _ _ _ h6 (by omega)).mono ?_
      rintro e w' ⟨rfl, rfl⟩
      go_wp2
      go_round
      case rel => exact ⟨j + 1, by omega, by go_num, by rw [Htot.out]; go_num⟩
      case measure => simp [intOf]; omega
    · go_wp2
      go_ret
      have : j = n := by omega
      subst this
      exact ⟨ret_int (by rw [take_all Hl.out]), Grow.refl _⟩
end Go.Proofs.Ytkafhbedipfgpaa
