/-
  The laws' helpers on [][]int: copying, measuring, comparing, marking; and lists of lists that a call owns, each in a block of its own.
-/
import Derived.Test.YthlncohllbmapaaInts
namespace Go.Proofs.Ythlncohllbmapaa
open Go.RowKit

/-! ### Lists of lists, owned -/
/-- The slices vs own the lists xss, each a block of its own, of F and other than g. -/
structure Inner (w : World) (F : Nat → Prop) (g : Option Nat) (vs : List Value) (xss : List (List Int)) : Prop where
  len : vs.length = xss.length
  each : ∀ (i : Nat) (xs : List Int), xss[i]? = some xs → ∃ b c, vs[i]? = some (Value.slice b xs.length c) ∧ Own w 3 1 b xs.length c (ints xs) ∧ (∀ x ∈ xs, I64 x) ∧ ∀ h, blk b = some h → F h ∧ g ≠ some h
  apart : vs.Pairwise fun u v => ∀ h, u.ownBlock = some h → v.ownBlock ≠ some h

theorem ownBlock_slice (b : Option Addr) (n c : Nat) : (Value.slice b n c).ownBlock = blk b := by cases b <;> rfl

theorem Inner.nilw {w : World} {F : Nat → Prop} {g : Option Nat} : Inner w F g [] [] := ⟨rfl, fun i xs h => by simp at h, .nil⟩
theorem Inner.keep {w w' : World} {F T : Nat → Prop} {g : Option Nat} {vs : List Value} {xss : List (List Int)} (h : Inner w F g vs xss) (hk : Keep T w w') (hT : ∀ b, b < w.heap.size → F b → g ≠ some b → T b) : Inner w' F g vs xss := by
  refine ⟨h.len, fun i xs hi => ?_, h.apart⟩
  obtain ⟨b, c, h1, h2, h3, h4⟩ := h.each i xs hi
  exact ⟨b, c, h1, h2.keep hk (fun q hq hlt => hT q hlt (h4 q hq).1 (h4 q hq).2), h3, h4⟩
theorem Inner.grow {w w' : World} {F : Nat → Prop} {g : Option Nat} {vs : List Value} {xss : List (List Int)} (h : Inner w F g vs xss) (hk : Grow w w') : Inner w' F g vs xss := h.keep hk fun _ _ _ _ => trivial
theorem Inner.weak {w : World} {F G : Nat → Prop} {g g' : Option Nat} {vs : List Value} {xss : List (List Int)} (h : Inner w F g vs xss) (hF : ∀ b, b < w.heap.size → F b → g ≠ some b → G b ∧ g' ≠ some b) : Inner w G g' vs xss := by
  refine ⟨h.len, fun i xs hi => ?_, h.apart⟩
  obtain ⟨b, c, h1, h2, h3, h4⟩ := h.each i xs hi
  exact ⟨b, c, h1, h2, h3, fun q hq => hF q (h2.lt hq) (h4 q hq).1 (h4 q hq).2⟩
theorem Inner.move {w w' : World} {F G T : Nat → Prop} {g g' : Option Nat} {vs : List Value} {xss : List (List Int)} (h : Inner w F g vs xss) (hk : Keep T w w') (hT : ∀ b, b < w.heap.size → F b → g ≠ some b → T b ∧ G b ∧ g' ≠ some b) : Inner w' G g' vs xss := by
  refine ⟨h.len, fun i xs hi => ?_, h.apart⟩
  obtain ⟨b, c, h1, h2, h3, h4⟩ := h.each i xs hi
  exact ⟨b, c, h1, h2.keep hk (fun q hq hlt => (hT q hlt (h4 q hq).1 (h4 q hq).2).1), h3, fun q hq => (hT q (h2.lt hq) (h4 q hq).1 (h4 q hq).2).2⟩
theorem Inner.snoc {w : World} {F : Nat → Prop} {g : Option Nat} {vs : List Value} {xss : List (List Int)} (h : Inner w F g vs xss) {b : Option Addr} {c : Nat} {xs : List Int} (ho : Own w 3 1 b xs.length c (ints xs)) (hr : ∀ x ∈ xs, I64 x)
    (hb : ∀ q, blk b = some q → F q ∧ g ≠ some q) (hnew : ∀ q, blk b = some q → ∀ v ∈ vs, v.ownBlock ≠ some q) : Inner w F g (vs ++ [.slice b xs.length c]) (xss ++ [xs]) := by
  refine ⟨by simp [h.len], fun i ys hi => ?_, ?_⟩
  · by_cases hlt : i < xss.length
    · rw [List.getElem?_append_left hlt] at hi
      obtain ⟨b', c', h1, h2⟩ := h.each i ys hi
      exact ⟨b', c', by rw [List.getElem?_append_left (by rw [h.len]; exact hlt)]; exact h1, h2⟩
    · rw [List.getElem?_append_right (by omega)] at hi
      have : i - xss.length = 0 := by
        rcases Nat.eq_zero_or_pos (i - xss.length) with h0 | h0
        · exact h0
        · rw [List.getElem?_eq_none (by simp; omega)] at hi; cases hi
      rw [this] at hi
      obtain rfl : xs = ys := by simpa using hi
      have hi' : i = vs.length := by rw [h.len]; omega
      subst hi'
      exact ⟨b, c, by simp, ho, hr, hb⟩
  · rw [List.pairwise_append]
    refine ⟨h.apart, List.pairwise_singleton _ _, fun u hu v hv q hq => ?_⟩
    obtain rfl := List.mem_singleton.1 hv
    rw [ownBlock_slice]
    intro e
    exact hnew q e u hu hq
theorem Inner.lt {w : World} {F : Nat → Prop} {g : Option Nat} {vs : List Value} {xss : List (List Int)} (h : Inner w F g vs xss) {v : Value} (hv : v ∈ vs) {q : Nat} (hq : v.ownBlock = some q) : q < w.heap.size ∧ F q ∧ g ≠ some q := by
  obtain ⟨i, hi, rfl⟩ := List.mem_iff_getElem.1 hv
  have hi' : i < xss.length := by rw [← h.len]; exact hi
  obtain ⟨b, c, h1, h2, _, h4⟩ := h.each i _ (List.getElem?_eq_getElem hi')
  rw [List.getElem?_eq_getElem hi] at h1
  have h5 := Option.some.inj h1
  rw [h5, ownBlock_slice] at hq
  exact ⟨h2.lt hq, h4 q hq⟩
theorem Inner.rdII {w : World} {F S : Nat → Prop} {g : Option Nat} {a : Option Addr} {n cap : Nat} {vs : List Value} {xss : List (List Int)} (h : Inner w F g vs xss) (hr : Row w S 1 a n cap vs) (hS : ∀ b, F b → g ≠ some b → S b) : RdII w S a n cap xss := by
  refine ⟨⟨vs, hr, fun i xs hi => ?_⟩, by have := h.len; have := hr.len; omega⟩
  obtain ⟨b, c, h1, h2, h3, h4⟩ := h.each i xs hi
  exact ⟨b, c, h1, h2.rdI (fun q hq => hS q (h4 q hq).1 (h4 q hq).2) h3⟩

/-- '.slice a n cap' owns the lists xss: a block of its own for itself and for each list, all of F. -/
structure SepII (w : World) (F : Nat → Prop) (a : Option Addr) (n cap : Nat) (xss : List (List Int)) : Prop where
  own : ∃ vs, Own w 22 1 a n cap vs ∧ Inner w F (blk a) vs xss
  lo : ∀ g, blk a = some g → F g
theorem SepII.keep {w w' : World} {F T : Nat → Prop} {a : Option Addr} {n cap : Nat} {xss : List (List Int)} (h : SepII w F a n cap xss) (hk : Keep T w w') (hT : ∀ b, b < w.heap.size → F b → T b) : SepII w' F a n cap xss := by
  obtain ⟨⟨vs, h1, h2⟩, h3⟩ := h
  exact ⟨⟨vs, h1.keep hk (fun g hg hlt => hT g hlt (h3 g hg)), h2.keep hk (fun b hb hF _ => hT b hb hF)⟩, h3⟩
theorem SepII.grow {w w' : World} {F : Nat → Prop} {a : Option Addr} {n cap : Nat} {xss : List (List Int)} (h : SepII w F a n cap xss) (hk : Grow w w') : SepII w' F a n cap xss := h.keep hk fun _ _ _ => trivial
theorem SepII.weak {w : World} {F G : Nat → Prop} {a : Option Addr} {n cap : Nat} {xss : List (List Int)} (h : SepII w F a n cap xss) (hF : ∀ b, b < w.heap.size → F b → G b) : SepII w G a n cap xss := by
  obtain ⟨⟨vs, h1, h2⟩, h3⟩ := h
  exact ⟨⟨vs, h1, h2.weak fun b hb hFb hne => ⟨hF b hb hFb, hne⟩⟩, fun g hg => hF g (h1.lt hg) (h3 g hg)⟩
theorem SepII.rdII {w : World} {F S : Nat → Prop} {a : Option Addr} {n cap : Nat} {xss : List (List Int)} (h : SepII w F a n cap xss) (hS : ∀ b, F b → S b) : RdII w S a n cap xss := by
  obtain ⟨⟨vs, h1, h2⟩, h3⟩ := h
  exact h2.rdII (h1.row fun g hg => hS g (h3 g hg)) fun b hb _ => hS b hb
theorem SepII.len {w : World} {F : Nat → Prop} {a : Option Addr} {n cap : Nat} {xss : List (List Int)} (h : SepII w F a n cap xss) : xss.length = n := by
  obtain ⟨⟨vs, h1, h2⟩, h3⟩ := h
  have := h1.len; have := h2.len; omega

/-- The blocks that came between two worlds. -/
def New (w w' : World) (g : Nat) : Prop := w.heap.size ≤ g ∧ g < w'.heap.size

/-- How many numbers there are. -/
def total (xss : List (List Int)) : Nat := (xss.map List.length).sum
@[simp] theorem total_nil : total [] = 0 := rfl
@[simp] theorem total_cons (xs : List Int) (r : List (List Int)) : total (xs :: r) = xs.length + total r := by simp [total]
theorem total_append (l r : List (List Int)) : total (l ++ r) = total l + total r := by simp [total]
theorem total_take_succ {xss : List (List Int)} {k : Nat} {xs : List Int} (h : xss[k]? = some xs) : total (xss.take (k + 1)) = total (xss.take k) + xs.length := by
  rw [take_succ h, total_append]; simp
theorem total_take_le (xss : List (List Int)) (k : Nat) : total (xss.take k) ≤ total xss := by
  conv => rhs; rw [← List.take_append_drop k xss]
  rw [total_append]; omega
theorem total_at {xss : List (List Int)} {k : Nat} {xs : List Int} (h : xss[k]? = some xs) : total (xss.take k) + xs.length ≤ total xss := by
  rw [← total_take_succ h]; exact total_take_le _ _

/-- What is left of a measure; -1 for too much. -/
def szII (left : Int) : List (List Int) → Int
  | [] => left
  | xs :: r => if left < xs.length then -1 else szII (left - xs.length) r
def szII' (left : Int) (xss : List (List Int)) : Int := if left < xss.length then -1 else szII (left - xss.length) xss
theorem szII_ok {xss : List (List Int)} : ∀ {left : Int}, 0 ≤ szII left xss → szII left xss = left - total xss := by
  induction xss with
  | nil => intro left _; simp [szII]
  | cons xs r ih =>
    intro left h
    unfold szII at h ⊢
    by_cases hlt : left < xs.length
    · rw [if_pos hlt] at h; omega
    · rw [if_neg hlt] at h ⊢
      rw [ih h]; simp; omega
theorem szII'_ok {xss : List (List Int)} {left : Int} (h : 0 ≤ szII' left xss) : szII' left xss = left - xss.length - total xss ∧ (xss.length : Int) + total xss ≤ left := by
  unfold szII' at h ⊢
  by_cases hlt : left < xss.length
  · rw [if_pos hlt] at h; omega
  · rw [if_neg hlt] at h ⊢
    have := szII_ok h
    omega
theorem szII_drop {xss : List (List Int)} {k : Nat} {xs : List Int} (h : xss[k]? = some xs) (l : Int) : szII l (xss.drop k) = if l < xs.length then -1 else szII (l - xs.length) (xss.drop (k + 1)) := by
  obtain ⟨hk, rfl⟩ := List.getElem?_eq_some_iff.1 h
  rw [List.drop_eq_getElem_cons hk]; rfl

set_option maxHeartbeats 400000 in
theorem szIntSS_c {S : Nat → Prop} (a : Option Addr) (n cap : Nat) (xss : List (List Int)) (left : Int) (w : World) (h : RdII w S a n cap xss) (h0 : 0 ≤ left) (h1 : left ≤ 1048576) :
    Calls Try.prog 13 #[.slice a n cap, .int .i64 left] w fun e w' => e = .returned (.int .i64 (szII' left xss)) ∧ w = w' := by
  have hl := h.len
  have hmax : n ≤ 9223372036854775807 := by have h2 := h.row.choose_spec.1.max; have h3 := h.row.choose_spec.1.le; simp only [maxLen] at h2; omega
  by_cases hlt0 : left < n
  · go_enter Try.func13, Try.ntmps13
    go_wp2
    all_goals (go_ret; exact ⟨ret_int (by unfold szII'; rw [if_pos (by omega)]), rfl⟩)
  · skip
    go_enter Try.func13, Try.ntmps13
    go_wp2
    go_loop [1, 5] (fun q i => ∃ (k : Nat) (l : Int), k ≤ n ∧ i = .int .i64 k ∧ q = .int .i64 l ∧ 0 ≤ l ∧ l ≤ 1048576 ∧ szII l (xss.drop k) = szII' left xss) (fun _ i => n - (intOf i).toNat)
    case atStart => exact ⟨0, left - n, Nat.zero_le _, rfl, rfl, by omega, by omega, by unfold szII'; rw [if_neg (by omega), hl]; rfl⟩
    case round =>
      obtain ⟨k, l, hk, rfl, rfl, hl0, hl1, he⟩ := hrel
      have He := Lib.hid he; clear he
      by_cases hlt : k < n
      · obtain ⟨b, off, xs, a', c', rfl, hx, _, hbw, hc, hrd⟩ := h.at hlt
        have Hx := Lib.hid hx; clear hx
        by_cases hlt2 : l < xs.length
        · have hm : szI l xs.length = -1 := by unfold szI; rw [if_pos hlt2]
          have hxm : xs.length ≤ maxLen := Nat.le_trans hrd.row.le hrd.row.max
          go_wp2_with (go_at_call 29; refine (szIntS_c _ _ _ _ _ hxm (by omega) (by omega)).mono ?_; rintro e w' ⟨rfl, rfl⟩; rw [hm])
          go_ret
          exact ⟨ret_int (by rw [← He.out, szII_drop Hx.out, if_pos hlt2]), rfl⟩
        · have hm : szI l xs.length = l - xs.length := by unfold szI; rw [if_neg hlt2]
          have hxm : xs.length ≤ maxLen := Nat.le_trans hrd.row.le hrd.row.max
          go_wp2_with (go_at_call 29; refine (szIntS_c _ _ _ _ _ hxm (by omega) (by omega)).mono ?_; rintro e w' ⟨rfl, rfl⟩; rw [hm])
          go_round
          case rel => exact ⟨k + 1, l - xs.length, by omega, by go_num, rfl, by omega, by omega, by rw [← He.out, szII_drop Hx.out, if_neg (by omega)]⟩
          case measure => simp [intOf]; omega
      · go_wp2
        go_ret
        have : k = n := by omega
        subst this
        refine ⟨ret_int ?_, rfl⟩
        rw [← He.out, ← hl]; simp [szII]

set_option maxHeartbeats 400000 in
theorem toIntSS_c {S : Nat → Prop} (a : Option Addr) (n cap : Nat) (xss : List (List Int)) (w : World) (h : RdII w S a n cap xss) (hn : n ≤ 1048576) (ht : total xss ≤ 1048576) :
    Calls Try.prog 15 #[.slice a n cap] w fun e w' =>
      e = .returned (.slice (some ⟨w.heap.size, 0, none⟩) n n) ∧ SepII w' (New w w') (some ⟨w.heap.size, 0, none⟩) n n xss ∧ Grow w w' := by
  have hmk := T_intss.make (n := n) (by omega) (by unfold maxLen; omega)
  have hl := h.len
  go_enter Try.func15, Try.ntmps15
  go_wp2
  go_loopw [4] (fun i wr => ∃ (k : Nat) (vs : List Value), k ≤ n ∧ i = .int .i64 k ∧ Grow w wr ∧ vs.length = k ∧ w.heap.size < wr.heap.size ∧ Own wr 22 1 (some ⟨w.heap.size, 0, none⟩) n n (vs ++ List.replicate (n - k) (.slice none 0 0)) ∧ Inner wr (New w wr) (some w.heap.size) vs (xss.take k)) (fun i _ => n - (intOf i).toNat)
  case atStart =>
    refine ⟨0, [], Nat.zero_le _, rfl, (Grow.refl w).alloc _ _, rfl, by simp, ?_, Inner.nilw⟩
    have := Own.fresh (w := w) (e := 22) (sz := 1) (cs := madeCells #[.slice none 0 0] (n * 1)) (n := n) (by unfold maxLen; omega) (by simp [madeCells])
    simpa [toList_madeCells_one] using this
  case round =>
    obtain ⟨k, vs, hk, rfl, hG, hvl, hsz, hO, hI⟩ := hrel
    have Hvl := Lib.hid hvl; clear hvl
    by_cases hlt : k < n
    · obtain ⟨b, off, xs, a', c', rfl, hx, _, hbw, hc, hrd⟩ := (h.grow hG).at hlt
      have hxl : xs.length ≤ 1048576 := by have := total_at hx; omega
      have Hx := Lib.hid hx; clear hx
      go_wp2_with fail
      refine (toIntS_c _ _ _ xs _ hrd hxl).mono ?_
      rintro e w1 ⟨rfl, hO1, hG1⟩
      have hO' := hO.grow hG1
      have hI' := hI.grow hG1
      have hfr := hO'.free k
      have hce := hO'.cell (fill_at Hvl.out hlt)
      have hs1 : wr.heap.size < w1.heap.size := hO1.lt rfl
      simp only at hfr hce
      go_wp2
      go_roundw
      case rel =>
        have hK : Keep (fun q => q ≠ w.heap.size) w1 (w1.setCell ⟨w.heap.size, k, none⟩ (.slice (some ⟨wr.heap.size, 0, none⟩) xs.length xs.length)) := (Keep.refl _ _).setCell (fun _ e => e rfl) _
        refine ⟨k + 1, vs ++ [.slice (some ⟨wr.heap.size, 0, none⟩) xs.length xs.length], by omega, by go_num, (hG.trans hG1).setCell (Nat.le_refl _) _, by simp [Hvl.out], by simp; omega, ?_, ?_⟩
        · have := hO'.set k (.slice (some ⟨wr.heap.size, 0, none⟩) xs.length xs.length)
          rw [fill_set Hvl.out hlt] at this
          simpa using this
        · rw [take_succ Hx.out]
          have h1 := (hI'.weak (G := New w w1) (g' := some w.heap.size) fun b hb hF hne => ⟨⟨hF.1, by have := hF.2; omega⟩, hne⟩).snoc (b := some ⟨wr.heap.size, 0, none⟩) (c := xs.length) hO1 hrd.rng
            (fun q hq => by simp at hq; subst hq; exact ⟨⟨by omega, hs1⟩, by simp; omega⟩)
            (fun q hq v hv hvq => by simp at hq; subst hq; have := (hI.lt hv hvq).1; omega)
          exact (h1.keep hK (fun b _ _ hne e => hne (by rw [e]))).weak fun b hb hF hne => ⟨⟨hF.1, by simpa using hF.2⟩, hne⟩
      case measure => simp [intOf]; omega
    · go_wp2
      go_ret
      have : k = n := by omega
      subst this
      refine ⟨rfl, ⟨⟨vs, by simpa using hO, by rw [take_all hl] at hI; exact hI⟩, fun g hg => ?_⟩, hG⟩
      simp at hg; subst hg
      exact ⟨Nat.le_refl _, hsz⟩

theorem sameI_t {xs ys : List Int} (h : xs = ys) : sameI xs ys = true := by simp [sameI, h]

set_option maxHeartbeats 400000 in
theorem eqIntSS_t {S T : Nat → Prop} (a b : Option Addr) (n m cap cap' : Nat) (xss : List (List Int)) (w : World) (h : RdII w S a n cap xss) (h' : RdII w T b m cap' xss) (hn : n ≤ 2097152) (ht : total xss ≤ 2097152) :
    Calls Try.prog 17 #[.slice a n cap, .slice b m cap'] w fun e w' => e = .returned (.bool true) ∧ Qt w w' := by
  have hl := h.len
  have hl' := h'.len
  obtain rfl : n = m := by omega
  go_enter Try.func17, Try.ntmps17
  go_wp2
  go_loopw [5] (fun i wr => Qt w wr ∧ ∃ k : Nat, k ≤ n ∧ i = .int .i64 k) (fun i _ => n - (intOf i).toNat)
  case atStart => exact ⟨Qt.refl _, 0, Nat.zero_le _, rfl⟩
  case round =>
    obtain ⟨hG, k, hk, rfl⟩ := hrel
    by_cases hlt : k < n
    · obtain ⟨b1, off1, xs, a1, c1, rfl, hx, _, hbw, hc, hrd⟩ := (h.grow hG.grow).at hlt
      obtain ⟨b2, off2, ys, a2, c2, rfl, hy, _, hbw2, hc2, hrd2⟩ := (h'.grow hG.grow).at hlt
      obtain rfl : xs = ys := Option.some.inj (hx.symm.trans hy)
      clear hy
      have hxl : xs.length ≤ 2097152 := by have := total_at hx; omega
      have Hx := Lib.hid hx; clear hx
      have hs : sameI xs xs = true := sameI_self xs
      go_wp2
      go_quiet ((go_at_call 28; exact Calls.quiet_qt (eqIntS_c _ _ _ _ _ _ xs xs _ (hrd.grow ((Grow.refl _).drewN _)) (hrd2.grow ((Grow.refl _).drewN _)) hxl)))
      go_wp2
      go_roundw
      case rel => exact ⟨hG.drewN _, k + 1, by omega, by go_num⟩
      case measure => simp [intOf]; omega
    · go_wp2
      go_ret
      exact ⟨rfl, hG⟩

/-- The numbers from k on, laid out as the lists xss. -/
def markII : List (List Int) → Nat → List (List Int)
  | [], _ => []
  | xs :: r, k => markI xs.length k :: markII r (k + xs.length)
@[simp] theorem markII_len : ∀ (xss : List (List Int)) (k : Nat), (markII xss k).length = xss.length
  | [], _ => rfl
  | xs :: r, k => by simp [markII, markII_len r]
@[simp] theorem markII_total : ∀ (xss : List (List Int)) (k : Nat), total (markII xss k) = total xss
  | [], _ => rfl
  | xs :: r, k => by simp [markII, markII_total r]
theorem markII_at : ∀ {xss : List (List Int)} {j : Nat} {xs : List Int} (k : Nat), xss[j]? = some xs → (markII xss k)[j]? = some (markI xs.length (k + total (xss.take j)))
  | [], j, xs, k, h => by simp at h
  | ys :: r, 0, xs, k, h => by simp at h; subst h; simp [markII]
  | ys :: r, j + 1, xs, k, h => by
    simp at h
    simp only [markII, List.getElem?_cons_succ, List.take_succ_cons, total_cons]
    rw [markII_at (k + ys.length) h, Nat.add_assoc]

theorem Inner.put {w w' : World} {F : Nat → Prop} {g : Option Nat} {vs : List Value} {xss : List (List Int)} (h : Inner w F g vs xss) {j : Nat} {b : Option Addr} {c : Nat} {xs ys : List Int} (hv : vs[j]? = some (Value.slice b xs.length c)) (hx : xss[j]? = some xs) (hlen : ys.length = xs.length)
    (ho : Own w' 3 1 b xs.length c (ints ys)) (hr : ∀ x ∈ ys, I64 x) (hk : Keep (fun q => blk b ≠ some q) w w') : Inner w' F g vs (xss.set j ys) := by
  have hjx := (List.getElem?_eq_some_iff.1 hx).1
  refine ⟨by simp [h.len], fun i zs hi => ?_, h.apart⟩
  by_cases hij : j = i
  · subst hij
    rw [List.getElem?_set_self hjx] at hi
    obtain rfl := Option.some.inj hi
    obtain ⟨b', c', h1, h2, h3, h4⟩ := h.each j xs hx
    rw [hv] at h1
    simp only [Option.some.injEq, Value.slice.injEq] at h1
    obtain ⟨rfl, _, rfl⟩ := h1
    exact ⟨b, c, by rw [hlen]; exact hv, by rw [hlen]; exact ho, hr, h4⟩
  · rw [List.getElem?_set_ne hij] at hi
    obtain ⟨b', c', h1, h2, h3, h4⟩ := h.each i zs hi
    refine ⟨b', c', h1, h2.keep hk (fun q hq _ e => ?_), h3, h4⟩
    obtain ⟨hi1, hi2⟩ := List.getElem?_eq_some_iff.1 h1
    obtain ⟨hj1, hj2⟩ := List.getElem?_eq_some_iff.1 hv
    have e1 : (vs[i]).ownBlock = some q := by rw [hi2, ownBlock_slice]; exact hq
    have e2 : (vs[j]).ownBlock = some q := by rw [hj2, ownBlock_slice]; exact e
    rcases Nat.lt_or_gt_of_ne hij with hlt | hlt
    · exact List.pairwise_iff_getElem.1 h.apart j i hj1 hi1 hlt q e2 e1
    · exact List.pairwise_iff_getElem.1 h.apart i j hi1 hj1 hlt q e1 e2

set_option maxHeartbeats 400000 in
theorem markIntSS_c {F : Nat → Prop} (a : Option Addr) (n cap k : Nat) (xss : List (List Int)) (w : World) (h : SepII w F a n cap xss) (hn : n + total xss + k ≤ 4294967296) :
    Calls Try.prog 18 #[.slice a n cap, .int .i64 k] w fun e w' =>
      e = .returned (.int .i64 ((k + total xss : Nat) : Int)) ∧ SepII w' F a n cap (markII xss k) ∧ Keep (fun g => ¬ F g) w w' := by
  have hl := h.len
  obtain ⟨⟨vs, hO, hI⟩, hlo⟩ := h
  go_enter Try.func18, Try.ntmps18
  go_wp2
  go_loopw [1, 5] (fun q i wr => ∃ j : Nat, j ≤ n ∧ i = .int .i64 j ∧ q = .int .i64 ((k + total (xss.take j) : Nat) : Int) ∧ Own wr 22 1 a n cap vs ∧ Inner wr F (blk a) vs ((markII xss k).take j ++ xss.drop j) ∧ Keep (fun g => ¬ F g) w wr) (fun _ i _ => n - (intOf i).toNat)
  case atStart => exact ⟨0, Nat.zero_le _, rfl, rfl, hO, by simpa using hI, Keep.refl _ _⟩
  case round =>
    obtain ⟨j, hj, rfl, rfl, hO, hI, hK⟩ := hrel
    by_cases hlt : j < n
    · obtain ⟨xs, hx⟩ : ∃ xs, xss[j]? = some xs := ⟨_, List.getElem?_eq_getElem (by omega)⟩
      have hcur := take_drop_at (l := markII xss k) (i := j) (by simp; omega) hx
      obtain ⟨b, c, hv, hOb, hrb, hFb⟩ := hI.each j xs hcur
      have htot := total_at hx
      have hset := take_drop_set (markII_at k hx) hx
      have hts := total_take_succ hx
      cases a with
      | none => have := hO.nil rfl; have := hO.le; omega
      | some p =>
        have hp := (hO.block p rfl).1
        have hcell := hO.cell hv
        obtain ⟨pb, po, ps⟩ := p
        simp only [Addr.mk.injEq, true_and] at hp
        obtain ⟨rfl, rfl⟩ := hp
        simp only at hcell
        have Hset := Lib.hid hset; clear hset
        have Hts := Lib.hid hts; clear hts
        have Hx := Lib.hid hx; clear hx
        have Hcur := Lib.hid hcur; clear hcur
        have Hv := Lib.hid hv; clear hv
        go_wp2_with fail
        refine (markIntS_c _ _ _ _ xs _ hOb (by omega)).mono ?_
        rintro e w1 ⟨rfl, hO1, hK1⟩
        go_wp2
        go_roundw
        case rel =>
          refine ⟨j + 1, by omega, by go_num, by rw [Hts.out]; go_num, hO.keep hK1 (fun q hq _ e => (hFb q e).2 hq), ?_, hK.trans (hK1.mono fun q _ hq e => hq (hFb q e).1)⟩
          have := hI.put Hv.out Hcur.out (by simp) hO1 (markI_rng (by omega)) hK1
          rwa [Hset.out] at this
        case measure => simp [intOf]; omega
    · go_wp2
      go_ret
      have : j = n := by omega
      subst this
      refine ⟨ret_int (by rw [take_all hl]), ⟨⟨vs, hO, ?_⟩, hlo⟩, hK⟩
      have hd : xss.drop j = [] := by rw [← hl]; simp
      rw [hd, List.append_nil, take_all (by simp [hl])] at hI
      exact hI

end Go.Proofs.Ythlncohllbmapaa
