/-
  The laws' helpers on []Arrow: copying, measuring, comparing, marking.
-/
import Derived.Test.YtkafhbedipfgpaaArrow
namespace Go.Proofs.Ytkafhbedipfgpaa
open Go.RowKit

def VAA (w : World) (S : Nat → Prop) (v : Value) (l : List Arw) : Prop := ∃ a n c, v = .slice a n c ∧ RdA w S a n c l
def OAA (w : World) (F : Nat → Prop) (v : Value) (l : List Arw) : Prop := ∃ a n c, v = .slice a n c ∧ SepA w F a n c l
def bdAA (l : List Arw) : Nat := l.length + total (flat l)
def cntAA (l : List Arw) : Nat := total (flat l)
theorem VAA.keep {S T : Nat → Prop} {w w' : World} {v : Value} {l : List Arw} (h : VAA w S v l) (hk : Keep T w w') (hST : ∀ b, b < w.heap.size → S b → T b) : VAA w' S v l := by
  obtain ⟨a, n, c, rfl, h⟩ := h; exact ⟨a, n, c, rfl, h.keep hk hST⟩
theorem VAA.grow {S : Nat → Prop} {w w' : World} {v : Value} {l : List Arw} (h : VAA w S v l) (hk : Grow w w') : VAA w' S v l := h.keep hk fun _ _ _ => trivial
theorem VAA.weak {S T : Nat → Prop} {w : World} {v : Value} {l : List Arw} (h : VAA w S v l) (hST : ∀ b, b < w.heap.size → S b → T b) : VAA w T v l := by
  obtain ⟨a, n, c, rfl, h⟩ := h; exact ⟨a, n, c, rfl, h.weak hST⟩
theorem OAA.keep {F T : Nat → Prop} {w w' : World} {v : Value} {l : List Arw} (h : OAA w F v l) (hk : Keep T w w') (hT : ∀ b, b < w.heap.size → F b → T b) : OAA w' F v l := by
  obtain ⟨a, n, c, rfl, h⟩ := h; exact ⟨a, n, c, rfl, h.keep hk hT⟩
theorem OAA.grow {F : Nat → Prop} {w w' : World} {v : Value} {l : List Arw} (h : OAA w F v l) (hk : Grow w w') : OAA w' F v l := h.keep hk fun _ _ _ => trivial
theorem OAA.weak {F G : Nat → Prop} {w : World} {v : Value} {l : List Arw} (h : OAA w F v l) (hF : ∀ b, b < w.heap.size → F b → G b) : OAA w G v l := by
  obtain ⟨a, n, c, rfl, h⟩ := h; exact ⟨a, n, c, rfl, h.weak hF⟩
theorem OAA.rd {F S : Nat → Prop} {w : World} {v : Value} {l : List Arw} (h : OAA w F v l) (hS : ∀ b, F b → S b) : VAA w S v l := by
  obtain ⟨a, n, c, rfl, h⟩ := h; exact ⟨a, n, c, rfl, h.rdA hS⟩

/-- What is left of a measure; -1 for too much. -/
def szAr (left : Int) : List Arw → Int
  | [] => left
  | p :: r => if left < p.1.length + p.2.length then -1 else szAr (left - p.1.length - p.2.length) r
def szAA (left : Int) (l : List Arw) : Int := if left < l.length then -1 else szAr (left - l.length) l
theorem szAr_ok {l : List Arw} : ∀ {left : Int}, 0 ≤ szAr left l → szAr left l = left - total (flat l) := by
  induction l with
  | nil => intro left _; simp [szAr]
  | cons p r ih =>
    intro left h
    unfold szAr at h ⊢
    by_cases hlt : left < p.1.length + p.2.length
    · rw [if_pos hlt] at h; omega
    · rw [if_neg hlt] at h ⊢
      rw [ih h]; simp; omega
theorem sz_AA_ok {l : List Arw} {left : Int} (h : 0 ≤ szAA left l) : szAA left l = left - bdAA l := by
  unfold szAA at h ⊢; unfold bdAA
  by_cases hlt : left < l.length
  · rw [if_pos hlt] at h; omega
  · rw [if_neg hlt] at h ⊢
    have := szAr_ok h
    omega
theorem szAr_drop {l : List Arw} {k : Nat} {x y : List Int} (h : l[k]? = some (x, y)) (q : Int) : szAr q (l.drop k) = if q < x.length + y.length then -1 else szAr (q - x.length - y.length) (l.drop (k + 1)) := by
  obtain ⟨hk, h1⟩ := List.getElem?_eq_some_iff.1 h
  rw [List.drop_eq_getElem_cons hk, h1]; rfl

set_option maxHeartbeats 1000000 in
theorem szArrow_c {S T : Nat → Prop} (a1 a2 : Option Addr) (c1 c2 : Nat) (x y : List Int) (left : Int) (w : World) (h1 : RdI w S a1 x.length c1 x) (h2 : RdI w T a2 y.length c2 y) (h0 : 0 ≤ left) (hl : left ≤ 1048576) :
    Calls Try.prog 80 #[.agg #[.slice a1 x.length c1, .slice a2 y.length c2], .int .i64 left] w fun e w' => e = .returned (.int .i64 (if left < x.length + y.length then -1 else left - x.length - y.length)) ∧ Grow w w' := by
  have hm1 : x.length ≤ maxLen := Nat.le_trans h1.row.le h1.row.max
  have hm2 : y.length ≤ maxLen := Nat.le_trans h2.row.le h2.row.max
  have hG : Grow w (w.alloc (.cells #[.slice a1 x.length c1, .slice a2 y.length c2] 78)) := (Grow.refl w).alloc _ _
  by_cases hx : left < x.length
  · have hz : szI left x.length = -1 := by unfold szI; rw [if_pos hx]
    rw [if_pos (by omega)]
    go_enter Try.func80, Try.ntmps80
    go_wp2_with (go_at_call 55; refine (szIntS_c _ _ _ left _ hm1 h0 hl).mono ?_; rintro e w' ⟨rfl, rfl⟩; rw [hz])
    go_ret
    exact ⟨rfl, hG⟩
  · have hz : szI left x.length = left - x.length := by unfold szI; rw [if_neg hx]
    by_cases hy : left - x.length < y.length
    · have hz2 : szI (left - x.length) y.length = -1 := by unfold szI; rw [if_pos hy]
      rw [if_pos (by omega)]
      go_enter Try.func80, Try.ntmps80
      go_wp2_with fail
      refine (szIntS_c _ _ _ left _ hm1 h0 hl).mono ?_
      rintro e w' ⟨rfl, rfl⟩
      rw [hz]
      go_wp2_with fail
      refine (szIntS_c _ _ _ (left - x.length) _ hm2 (by omega) (by omega)).mono ?_
      rintro e w' ⟨rfl, rfl⟩
      rw [hz2]
      go_wp2
      go_ret
      exact ⟨rfl, hG⟩
    · have hz2 : szI (left - x.length) y.length = left - x.length - y.length := by unfold szI; rw [if_neg hy]
      rw [if_neg (by omega)]
      go_enter Try.func80, Try.ntmps80
      go_wp2_with fail
      refine (szIntS_c _ _ _ left _ hm1 h0 hl).mono ?_
      rintro e w' ⟨rfl, rfl⟩
      rw [hz]
      go_wp2_with fail
      refine (szIntS_c _ _ _ (left - x.length) _ hm2 (by omega) (by omega)).mono ?_
      rintro e w' ⟨rfl, rfl⟩
      rw [hz2]
      go_wp2
      go_ret
      exact ⟨rfl, hG⟩

set_option maxHeartbeats 1000000 in
theorem sz_AA {S : Nat → Prop} {v : Value} {l : List Arw} {w : World} {left : Int} (h : VAA w S v l) (h0 : 0 ≤ left) (h1 : left ≤ 1048576) : Calls Try.prog 35 #[v, .int .i64 left] w fun e w' => e = .returned (.int .i64 (szAA left l)) ∧ Grow w w' := by
  obtain ⟨a, n, cap, rfl, h⟩ := h
  have hl := h.len
  have hmax : n ≤ 9223372036854775807 := by have h2 := h.cap_le; simp only [maxLen] at h2; omega
  by_cases hlt0 : left < n
  · go_enter Try.func35, Try.ntmps35
    go_wp2
    all_goals (go_ret; exact ⟨ret_int (by unfold szAA; rw [if_pos (by omega)]), Grow.refl _⟩)
  · skip
    go_enter Try.func35, Try.ntmps35
    go_wp2
    go_loopw [1, 5] (fun q i wr => Grow w wr ∧ ∃ (k : Nat) (l' : Int), k ≤ n ∧ i = .int .i64 k ∧ q = .int .i64 l' ∧ 0 ≤ l' ∧ l' ≤ 1048576 ∧ szAr l' (l.drop k) = szAA left l) (fun _ i _ => n - (intOf i).toNat)
    case atStart => exact ⟨Grow.refl _, 0, left - n, Nat.zero_le _, rfl, rfl, by omega, by omega, by unfold szAA; rw [if_neg (by omega), hl]; rfl⟩
    case round =>
      obtain ⟨hG, k, q, hk, rfl, rfl, hl0, hl1, he⟩ := hrel
      have He := Lib.hid he; clear he
      by_cases hlt : k < n
      · obtain ⟨b, off, x, y, a1, c1, a2, c2, rfl, hx, _, hbw, ⟨hc, hc2⟩, r1, r2⟩ := (h.grow hG).at hlt
        have Hx := Lib.hid hx; clear hx
        go_wp2_with fail
        refine (szArrow_c _ _ _ _ x y q _ r1 r2 hl0 hl1).mono ?_
        rintro e w1 ⟨rfl, hG1⟩
        by_cases hlt2 : q < x.length + y.length
        · rw [if_pos hlt2]
          go_wp2
          go_ret
          exact ⟨ret_int (by rw [← He.out, szAr_drop Hx.out, if_pos hlt2]), hG.trans hG1⟩
        · rw [if_neg hlt2]
          go_wp2
          go_roundw
          case rel => exact ⟨hG.trans hG1, k + 1, q - x.length - y.length, by omega, by go_num, rfl, by omega, by omega, by rw [← He.out, szAr_drop Hx.out, if_neg (by omega)]⟩
          case measure => simp [intOf]; omega
      · go_wp2
        go_ret
        have : k = n := by omega
        subst this
        refine ⟨ret_int ?_, hG⟩
        rw [← He.out, ← hl]; simp [szAr]

set_option maxHeartbeats 1000000 in
theorem eqArrow_t {S T : Nat → Prop} (a1 a2 b1 b2 : Option Addr) (n1 n2 m1 m2 c1 c2 d1 d2 : Nat) (x y : List Int) (w : World) (h1 : RdI w S a1 n1 c1 x) (h2 : RdI w S a2 n2 c2 y) (h3 : RdI w T b1 m1 d1 x) (h4 : RdI w T b2 m2 d2 y) (hx : n1 ≤ 2097152) (hy : n2 ≤ 2097152) :
    Calls Try.prog 88 #[.agg #[.slice a1 n1 c1, .slice a2 n2 c2], .agg #[.slice b1 m1 d1, .slice b2 m2 d2]] w fun e w' => e = .returned (.bool true) ∧ Grow w w' := by
  have e1 : sameI x x = true := sameI_self _
  have e2 : sameI y y = true := sameI_self _
  have hG : Grow w ((w.alloc (.cells #[.slice a1 n1 c1, .slice a2 n2 c2] 79)).alloc (.cells #[.slice b1 m1 d1, .slice b2 m2 d2] 79)) := ((Grow.refl w).alloc _ _).alloc _ _
  have hb1 := (Blk.new w #[.slice a1 n1 c1, .slice a2 n2 c2] 79).alloc (.cells #[.slice b1 m1 d1, .slice b2 m2 d2] 79)
  have hb2 := Blk.newAt (w.alloc (.cells #[.slice a1 n1 c1, .slice a2 n2 c2] 79)) #[.slice b1 m1 d1, .slice b2 m2 d2] 79 (g := w.heap.size + 1) (by simp)
  go_enter Try.func88, Try.ntmps88
  go_wp2_with fail
  refine (eqIntS_c _ _ _ _ _ _ x x _ (h1.grow hG) (h3.grow hG) hx).mono ?_
  rintro e w1 ⟨rfl, hQ⟩
  rw [e1]
  have p1 := (hb1.grow hQ.grow).cell 1
  have p2 := (hb2.grow hQ.grow).cell 1
  simp at p1 p2
  go_wp2_with fail
  refine (eqIntS_c _ _ _ _ _ _ y y _ ((h2.grow hG).grow hQ.grow) ((h4.grow hG).grow hQ.grow) hy).mono ?_
  rintro e w2 ⟨rfl, hQ2⟩
  rw [e2]
  go_wp2
  go_ret
  exact ⟨rfl, (hG.trans hQ.grow).trans hQ2.grow⟩

set_option maxHeartbeats 1000000 in
set_option maxRecDepth 100000 in
theorem eq_AA {S T : Nat → Prop} {u v : Value} {l : List Arw} {w : World} (h : VAA w S u l) (h' : VAA w T v l) (hb : bdAA l ≤ 2097152) : Calls Try.prog 39 #[u, v] w fun e w' => e = .returned (.bool true) ∧ Grow w w' := by
  obtain ⟨a, n, c, rfl, h⟩ := h
  obtain ⟨a', n', c', rfl, h'⟩ := h'
  have hl := h.len
  have hl' := h'.len
  have hnn : n = n' := by omega
  subst hnn
  clear hl'
  unfold bdAA at hb
  have hn : n ≤ 2097152 := by omega
  have Hl := Lib.hid hl; clear hl
  go_enter Try.func39, Try.ntmps39
  go_wp2
  go_loopw [5] (fun i wr => Grow w wr ∧ ∃ k : Nat, k ≤ n ∧ i = .int .i64 k) (fun i _ => n - (intOf i).toNat)
  case atStart => exact ⟨Grow.refl _, 0, Nat.zero_le _, rfl⟩
  case round =>
    obtain ⟨hG, k, hk, rfl⟩ := hrel
    by_cases hlt : k < n
    · obtain ⟨b, off, x, y, a1, c1, a2, c2, rfl, hx, _, hbw, hc, r1, r2⟩ := (h.grow hG).at hlt
      obtain ⟨b', off', x', y', a1', c1', a2', c2', rfl, hx', _, hbw', hc', r1', r2'⟩ := (h'.grow hG).at hlt
      obtain ⟨rfl, rfl⟩ : x = x' ∧ y = y' := by have := hx.symm.trans hx'; simpa using this
      have htot := (flat_total_at hx).2
      clear hx hx'
      go_wp2
      refine wp_region_mix (S := Grow wr) [0, 1, 2, 3, 4, 5, 6, 7] [8, 9] P_mixed (by kernel_rfl) (fun _ _ _ _ _ h => h) (Grow.refl _).drew ?_
      show wpQuiet _ _ _ (fun a' => wpListS _ _ _ _ [_, _] a' _) [_, _, _, _, _, _, _, _] _
      repeat (first | go_big_quiet_skip | (go_big_quiet_want; first | (apply quiet_load2 T_arrow; rfl; rfl; exact (fun w' hG => ⟨hG.cell hc.1, hG.cell hc.2⟩); go_big_quiet_on; simp only [Act.put, List.setIfInBounds_toArray, List.set_cons_succ, List.set_cons_zero]) | (apply quiet_load2 T_arrow; rfl; rfl; exact (fun w' hG => ⟨hG.cell hc'.1, hG.cell hc'.2⟩); go_big_quiet_on; simp only [Act.put, List.setIfInBounds_toArray, List.set_cons_succ, List.set_cons_zero]) | (go_big_quiet_op; first | go_big_quiet_on | (refine ⟨_, (fun _ _ => rfl), ?_⟩; go_big_quiet_on))))
      refine wpQuiet_nil ?_
      show wpListS _ _ _ _ _ _ _
      refine wpListS_step rfl (fun K hK => ?_)
      go_wp2_with fail
      refine (eqArrow_t _ _ _ _ _ _ _ _ _ _ _ _ x y _ (r1.grow (Grow.refl _).drew) (r2.grow (Grow.refl _).drew) (r1'.grow (Grow.refl _).drew) (r2'.grow (Grow.refl _).drew) (by omega) (by omega)).mono ?_
      rintro e w1 ⟨rfl, hG1⟩
      have hG2 : Grow wr w1 := (Grow.refl wr).drew.trans hG1
      go_wp2_with fail
      refine hK _ _ (hG2) ?_
      clear hK K
      refine wpListS_step rfl (fun K hK => ?_)
      go_wp2_with fail
      refine hK _ _ (hG2) ?_
      clear hK K
      refine wpListS_nil ?_
      go_wp2
      go_roundw
      case rel => exact ⟨hG.trans hG2, k + 1, by omega, by go_num⟩
      case measure => simp [intOf]; omega
    · go_wp2
      go_ret
      exact ⟨rfl, hG⟩

set_option maxHeartbeats 1000000 in
theorem toArrow_c {S T : Nat → Prop} (a1 a2 : Option Addr) (n1 n2 c1 c2 : Nat) (x y : List Int) (w : World) (h1 : RdI w S a1 n1 c1 x) (h2 : RdI w T a2 n2 c2 y) (hx : n1 ≤ 1048576) (hy : n2 ≤ 1048576) :
    Calls Try.prog 84 #[.agg #[.slice a1 n1 c1, .slice a2 n2 c2]] w fun e w' =>
      ∃ b1 b2, e = .returned (.agg #[.slice b1 n1 n1, .slice b2 n2 n2]) ∧ Own w' 3 1 b1 n1 n1 (ints x) ∧ Own w' 3 1 b2 n2 n2 (ints y) ∧ (∀ g, blk b1 = some g → w.heap.size ≤ g) ∧ (∀ g, blk b2 = some g → w.heap.size ≤ g) ∧ (∀ g, blk b1 = some g → blk b2 ≠ some g) ∧ Grow w w' := by
  have hW := ((Grow.refl w).alloc #[.slice a1 n1 c1, .slice a2 n2 c2] 78).alloc #[.slice none 0 0, .slice none 0 0] 79 |>.alloc #[.slice none 0 0, .slice none 0 0] 79
  have hb0 := ((Blk.new w #[.slice a1 n1 c1, .slice a2 n2 c2] 78).alloc (.cells #[.slice none 0 0, .slice none 0 0] 79)).alloc (.cells #[.slice none 0 0, .slice none 0 0] 79)
  have hb1 := (Blk.newAt (w.alloc (.cells #[.slice a1 n1 c1, .slice a2 n2 c2] 78)) #[.slice none 0 0, .slice none 0 0] 79 (g := w.heap.size + 1) (by simp)).alloc (.cells #[.slice none 0 0, .slice none 0 0] 79)
  have hb2 := Blk.newAt ((w.alloc (.cells #[.slice a1 n1 c1, .slice a2 n2 c2] 78)).alloc (.cells #[.slice none 0 0, .slice none 0 0] 79)) #[.slice none 0 0, .slice none 0 0] 79 (g := w.heap.size + 1 + 1) (by simp)
  go_enter Try.func84, Try.ntmps84
  go_wp2_with fail
  refine (toIntS_c a1 n1 c1 x _ (h1.grow hW) hx).mono ?_
  rintro e w1 ⟨rfl, hO1, hG1⟩
  have p0 := (hb2.grow hG1).cell 0
  have f0 := (hb2.grow hG1).free 0
  have q1 := (hb0.grow hG1).cell 1
  simp at p0 q1
  simp only [World.size_alloc] at hO1
  have hs1 := hG1.size
  simp only [World.size_alloc] at hs1
  go_wp2_with fail
  have hK1 : Keep (fun g => g ≠ w.heap.size + 1 + 1) w1 (w1.setCell ⟨w.heap.size + 1 + 1, 0, none⟩ (.slice (some ⟨w.heap.size + 1 + 1 + 1, 0, none⟩) n1 n1)) := (Keep.refl _ w1).setCell (fun _ e => e rfl) _
  refine (toIntS_c a2 n2 c2 y _ ((((h2.weak (T := fun b => b < w.heap.size) (fun b hb _ => hb)).grow hW).grow hG1).keep hK1 fun b _ hb => by omega) hy).mono ?_
  rintro e w2 ⟨rfl, hO2, hG2⟩
  have hB2 := ((hb2.grow hG1).set 0 (.slice (some ⟨w.heap.size + 1 + 1 + 1, 0, none⟩) n1 n1)).grow hG2
  have hB1 := ((hb1.grow hG1).keep hK1 (by simp)).grow hG2
  have r0 := hB2.cell 0; have r1 := hB2.cell 1; have g1 := hB2.free 1
  have u0 := hB1.cell 0; have u1 := hB1.cell 1; have v0 := hB1.free 0; have v1 := hB1.free 1
  simp at r0 r1 u0 u1
  simp only [World.size_setCell] at hO2
  have hs2 := hG2.size
  simp only [World.size_setCell] at hs2
  have hl2 := hO2.lt rfl
  have hl1 := hO1.lt rfl
  go_wp2
  have hK : Keep (fun g => g ≠ w.heap.size + 1 + 1 ∧ g ≠ w.heap.size + 1) w2 _ := (((Keep.refl _ w2).setCell (p := ⟨w.heap.size + 1 + 1, 1, none⟩) (by simp) (.slice (some ⟨w1.heap.size, 0, none⟩) n2 n2)).setCell (p := ⟨w.heap.size + 1, 0, none⟩) (by simp) (.slice (some ⟨w.heap.size + 1 + 1 + 1, 0, none⟩) n1 n1)).setCell (p := ⟨w.heap.size + 1, 1, none⟩) (by simp) (.slice (some ⟨w1.heap.size, 0, none⟩) n2 n2)
  have hBf := (((hB1.other (p := ⟨w.heap.size + 1 + 1, 1, none⟩) (by simp) (.slice (some ⟨w1.heap.size, 0, none⟩) n2 n2)).set 0 (.slice (some ⟨w.heap.size + 1 + 1 + 1, 0, none⟩) n1 n1)).set 1 (.slice (some ⟨w1.heap.size, 0, none⟩) n2 n2))
  refine ret_cell T_arrow rfl rfl rfl hBf ⟨_, _, rfl, ?_, ?_, ?_, ?_, ?_, ?_⟩
  · exact ((hO1.keep hK1 (fun g hg _ => by simp at hg; omega)).grow hG2).keep hK (fun g hg _ => by simp at hg; omega)
  · exact hO2.keep hK (fun g hg _ => by simp at hg; omega)
  · intro g hg; simp at hg; omega
  · intro g hg; simp at hg; omega
  · intro g hg e; simp at hg e; omega
  · exact ((((hW.trans hG1).keep hK1 (fun i hi => by omega)).trans hG2)).keep hK (fun i hi => by omega)
end Go.Proofs.Ytkafhbedipfgpaa
