/-
  The laws' helpers on []int: copying, measuring, comparing, marking.
-/
import Derived.Test.YtdnpdfokdibmdaaDoorZBase
import Derived.WideShapes
namespace Go.Proofs.YtdnpdfokdibmdaaDoor
open Go.RowKit


set_option maxHeartbeats 400000 in
theorem toIntS_c {S : Nat → Prop} (a : Option Addr) (n cap : Nat) (xs : List Int) (w : World) (h : RdI w S a n cap xs) (hn : n ≤ 1048576) :
    Calls Tryd.prog 35 #[.slice a n cap] w fun e w' =>
      e = .returned (.slice (some ⟨w.heap.size, 0, none⟩) n n) ∧ Own w' 3 1 (some ⟨w.heap.size, 0, none⟩) n n (ints xs) ∧ Grow w w' := by
  have hmk := T_ints.make (n := n) (by omega) (by unfold maxLen; omega)
  have hl := h.len
  go_enter Tryd.func35, Tryd.ntmps35
  go_wp2
  go_loopw [4] (fun i wr => ∃ k : Nat, k ≤ n ∧ i = .int .i64 k ∧ Grow w wr ∧ Own wr 3 1 (some ⟨w.heap.size, 0, none⟩) n n (ints (xs.take k) ++ List.replicate (n - k) (.int .i64 0))) (fun i _ => n - (intOf i).toNat)
  case atStart => 
    refine ⟨0, Nat.zero_le _, rfl, (Grow.refl w).alloc _ _, ?_⟩
    have := Own.fresh (w := w) (e := 3) (sz := 1) (cs := madeCells #[.int .i64 0] (n * 1)) (n := n) (by unfold maxLen; omega) (by simp [madeCells])
    simpa [toList_madeCells_one] using this
  case round =>
    obtain ⟨k, hk, rfl, hG, hO⟩ := hrel
    by_cases hlt : k < n
    · obtain ⟨b, off, x, rfl, hx, hxr, _, hbw, hc⟩ := (h.grow hG).at hlt
      have hfr := hO.free k
      have hce := hO.cell (fill_at (len_ints_take hl hk) hlt)
      simp only at hfr hce
      go_wp2
      go_roundw
      case rel =>
        refine ⟨k + 1, by omega, by go_num, hG.setCell (Nat.le_refl _) _, ?_⟩
        have := hO.set k (.int .i64 x)
        rw [fill_set (len_ints_take hl hk) hlt] at this
        rw [ints_take hx]; exact this
      case measure => simp [intOf]; omega
    · go_wp2
      go_ret
      have : k = n := by omega
      subst this
      refine ⟨rfl, ?_, hG⟩
      simpa [take_all hl] using hO


/-- What is left of a measure. -/
def szI (left : Int) (n : Nat) : Int := if left < n then -1 else left - n

set_option maxHeartbeats 400000 in
theorem szIntS_c (a : Option Addr) (n cap : Nat) (left : Int) (w : World) (hn : n ≤ maxLen) (h0 : 0 ≤ left) (h1 : left ≤ 1048576) :
    Calls Tryd.prog 30 #[.slice a n cap, .int .i64 left] w fun e w' => e = .returned (.int .i64 (szI left n)) ∧ w = w' := by
  unfold maxLen at hn
  go_enter Tryd.func30, Tryd.ntmps30
  go_wp2
  all_goals go_ret
  · exact ⟨ret_int (by unfold szI; rw [if_pos (by omega)]), rfl⟩
  · exact ⟨ret_int (by unfold szI; rw [if_neg (by omega)]), rfl⟩

def sameI (xs ys : List Int) : Bool := decide (xs = ys)
theorem sameI_self (xs : List Int) : sameI xs xs = true := by simp [sameI]

set_option maxHeartbeats 400000 in
theorem eqIntS_c {S T : Nat → Prop} (a b : Option Addr) (n m cap cap' : Nat) (xs ys : List Int) (w : World) (h : RdI w S a n cap xs) (h' : RdI w T b m cap' ys) (hn : n ≤ 2097152) :
    Calls Tryd.prog 43 #[.slice a n cap, .slice b m cap'] w fun e w' => e = .returned (.bool (sameI xs ys)) ∧ Qt w w' := by
  have hl := h.len
  have hl' := h'.len
  by_cases hnm : n = m
  · subst hnm
    go_enter Tryd.func43, Tryd.ntmps43
    go_wp2
    go_loopw [5] (fun i wr => Qt w wr ∧ ∃ k : Nat, k ≤ n ∧ i = .int .i64 k ∧ xs.take k = ys.take k) (fun i _ => n - (intOf i).toNat)
    case atStart => exact ⟨Qt.refl _, 0, Nat.zero_le _, rfl, rfl⟩
    case round =>
      obtain ⟨hG, k, hk, rfl, he⟩ := hrel
      have He := Lib.hid he; clear he
      by_cases hlt : k < n
      · obtain ⟨b1, off1, x, rfl, hx, hxr, _, hbw, hc⟩ := (h.grow hG.grow).at hlt
        obtain ⟨b2, off2, y, rfl, hy, hyr, _, hbw2, hc2⟩ := (h'.grow hG.grow).at hlt
        have Hx := Lib.hid hx; clear hx
        have Hy := Lib.hid hy; clear hy
        by_cases hxy : x = y
        · subst hxy
          go_wp2
          go_quiet (fail)
          go_wp2
          go_roundw
          case rel => exact ⟨hG.drewN _, k + 1, by omega, by go_num, by rw [take_succ Hx.out, take_succ Hy.out, He.out]⟩
          case measure => simp [intOf]; omega
        · have hxy' : (x == y) = false := by simpa using hxy
          go_wp2
          go_quiet (fail)
          go_wp2
          go_ret
          refine ⟨ret_bool (Eq.symm (decide_eq_false ?_)), hG.drewN _⟩
          intro e; subst e
          exact hxy (Option.some.inj (Hx.out.symm.trans Hy.out))
      · go_wp2
        go_ret
        have : k = n := by omega
        subst this
        refine ⟨ret_bool (Eq.symm (decide_eq_true ?_)), hG⟩
        have := He.out
        rwa [take_all hl, take_all hl'] at this
  · have hb : ((n : Int) == (m : Int)) = false := by simp; omega
    go_enter Tryd.func43, Tryd.ntmps43
    go_wp2
    go_ret
    refine ⟨ret_bool (Eq.symm (decide_eq_false ?_)), Qt.refl _⟩
    intro e; subst e; omega

/-- The numbers from k on. -/
def markI (n k : Nat) : List Int := (List.range n).map fun (i : Nat) => ((k + i : Nat) : Int)
@[simp] theorem markI_len (n k : Nat) : (markI n k).length = n := by simp [markI]
theorem markI_at {n k i : Nat} (h : i < n) : (markI n k)[i]? = some ((k + i : Nat) : Int) := by simp [markI, h]
theorem markI_rng {n k : Nat} (h : n + k ≤ 4294967296) : ∀ x ∈ markI n k, I64 x := by
  intro x hx
  obtain ⟨i, hi, rfl⟩ := List.mem_map.1 hx
  simp at hi
  unfold I64; omega
theorem set_mark {xs : List Int} {n k i : Nat} (hl : xs.length = n) (h : i < n) : (ints ((markI n k).take i) ++ ints (xs.drop i)).set i (.int .i64 ((k + i : Nat) : Int)) = ints ((markI n k).take (i + 1)) ++ ints (xs.drop (i + 1)) := by
  have h1 : (ints ((markI n k).take i)).length = i := by simp; omega
  rw [List.set_append_right _ _ (by omega), h1, Nat.sub_self, ints_take (markI_at h), List.drop_eq_getElem_cons (show i < xs.length by omega)]
  simp only [ints, List.map_cons, List.set_cons_zero, List.append_assoc, List.cons_append, List.nil_append]

set_option maxHeartbeats 400000 in
theorem markIntS_c (a : Option Addr) (n cap k : Nat) (xs : List Int) (w : World) (h : Own w 3 1 a n cap (ints xs)) (hn : n + k ≤ 4294967296) :
    Calls Tryd.prog 51 #[.slice a n cap, .int .i64 k] w fun e w' =>
      e = .returned (.int .i64 ((k + n : Nat) : Int)) ∧ Own w' 3 1 a n cap (ints (markI n k)) ∧ Keep (fun g => blk a ≠ some g) w w' := by
  have hl : xs.length = n := by simpa using h.len
  go_enter Tryd.func51, Tryd.ntmps51
  go_wp2
  go_loopw [1, 5] (fun q i wr => ∃ j : Nat, j ≤ n ∧ i = .int .i64 j ∧ q = .int .i64 ((k + j : Nat) : Int) ∧ Own wr 3 1 a n cap (ints ((markI n k).take j) ++ ints (xs.drop j)) ∧ Keep (fun g => blk a ≠ some g) w wr) (fun _ i _ => n - (intOf i).toNat)
  case atStart => exact ⟨0, Nat.zero_le _, rfl, rfl, by simpa using h, Keep.refl _ _⟩
  case round =>
    obtain ⟨j, hj, rfl, rfl, hO, hK⟩ := hrel
    by_cases hlt : j < n
    · cases a with
      | none => have := h.nil rfl; have := h.le; omega
      | some p =>
        have hp := (hO.block p rfl).1
        have hce : ∃ c, (ints ((markI n k).take j) ++ ints (xs.drop j))[j]? = some c := by
          rw [List.getElem?_append_right (by simp; omega)]
          exact ⟨_, List.getElem?_eq_getElem (by simp; omega)⟩
        obtain ⟨c, hc⟩ := hce
        have hfr := hO.free j
        have hcell := hO.cell hc
        obtain ⟨pb, po, ps⟩ := p
        simp only [Addr.mk.injEq, true_and] at hp
        obtain ⟨rfl, rfl⟩ := hp
        simp only at hfr hcell
        have Hc := Lib.hid hc; clear hc
        go_wp2
        go_roundw
        case rel =>
          refine ⟨j + 1, by omega, by go_num, by go_num, ?_, hK.setCell (p := ⟨_, j, none⟩) (fun _ e => e rfl) _⟩
          have := hO.set j (.int .i64 ((k + j : Nat) : Int))
          rw [set_mark hl hlt] at this
          simpa using this
        case measure => simp [intOf]; omega
    · go_wp2
      go_ret
      have : j = n := by omega
      subst this
      refine ⟨ret_int rfl, ?_, hK⟩
      have hd : xs.drop j = [] := by rw [← hl]; simp
      rw [hd, take_all (markI_len _ _)] at hO
      simpa using hO

set_option maxHeartbeats 400000 in
theorem heldIntS_c {S : Nat → Prop} (a : Option Addr) (n cap k : Nat) (w : World) (h : RdI w S a n cap (markI n k)) (hn : n + k ≤ 4294967296) :
    Calls Tryd.prog 52 #[.slice a n cap, .int .i64 k] w fun e w' => e = .returned (.int .i64 ((k + n : Nat) : Int)) ∧ w = w' := by
  go_enter Tryd.func52, Tryd.ntmps52
  go_wp2
  go_loop [1, 5] (fun q i => ∃ j : Nat, j ≤ n ∧ i = .int .i64 j ∧ q = .int .i64 ((k + j : Nat) : Int)) (fun _ i => n - (intOf i).toNat)
  case atStart => exact ⟨0, Nat.zero_le _, rfl, rfl⟩
  case round =>
    obtain ⟨j, hj, rfl, rfl⟩ := hrel
    by_cases hlt : j < n
    · obtain ⟨b, off, x, rfl, hx, hxr, _, hbw, hc⟩ := h.at hlt
      rw [markI_at hlt] at hx
      obtain rfl := Option.some.inj hx
      clear hx
      go_wp2
      go_round
      case rel => exact ⟨j + 1, by omega, by go_num, by go_num⟩
      case measure => simp [intOf]; omega
    · go_wp2
      go_ret
      have : j = n := by omega
      subst this
      exact ⟨ret_int rfl, rfl⟩
end Go.Proofs.YtdnpdfokdibmdaaDoor

namespace Go.Proofs.YtdnpdfokdibmdaaDoor
open Go.RowKit

/-! ### Lists of lists, owned -/
/-- The slices vs own the lists xss, each a block of its own, of F and other than g. -/
structure Inner (w : World) (F : Nat → Prop) (g : Option Nat) (vs : List Value) (xss : List (List Int)) : Prop where
  len : vs.length = xss.length
  each : ∀ (i : Nat) (xs : List Int), xss[i]? = some xs → ∃ b c, vs[i]? = some (Value.slice b xs.length c) ∧ Own w 3 1 b xs.length c (ints xs) ∧ (∀ x ∈ xs, I64 x) ∧ ∀ h, blk b = some h → F h ∧ g ≠ some h
  apart : vs.Pairwise fun u v => ∀ h, u.ownBlock = some h → v.ownBlock ≠ some h

theorem ownBlock_slice (b : Option Addr) (n c : Nat) : (Value.slice b n c).ownBlock = blk b := by cases b <;> rfl

theorem Inner.nilw {w : World} {F : Nat → Prop} {g : Option Nat} : Inner w F g [] [] := ⟨rfl, fun i xs h => by simp at h, .nil⟩
theorem Inner.keep {w w' : World} {F T : Nat → Prop} {g : Option Nat} {vs : List Value} {xss : List (List Int)} (h : Inner w F g vs xss) (hk : Keep T w w') (hT : ∀ b, b < w.heap.size → F b → g ≠ some b → T b) : Inner w' F g vs xss := by
  refine ⟨h.len, fun i xs hi => ?_, h.apart⟩
  obtain ⟨b, c, h1, h2, h3, h4⟩ := h.each i xs hi
  exact ⟨b, c, h1, h2.keep hk (fun q hq hlt => hT q hlt (h4 q hq).1 (h4 q hq).2), h3, h4⟩
theorem Inner.grow {w w' : World} {F : Nat → Prop} {g : Option Nat} {vs : List Value} {xss : List (List Int)} (h : Inner w F g vs xss) (hk : Grow w w') : Inner w' F g vs xss := h.keep hk fun _ _ _ _ => trivial
theorem Inner.weak {w : World} {F G : Nat → Prop} {g g' : Option Nat} {vs : List Value} {xss : List (List Int)} (h : Inner w F g vs xss) (hF : ∀ b, b < w.heap.size → F b → g ≠ some b → G b ∧ g' ≠ some b) : Inner w G g' vs xss := by
  refine ⟨h.len, fun i xs hi => ?_, h.apart⟩
  obtain ⟨b, c, h1, h2, h3, h4⟩ := h.each i xs hi
  exact ⟨b, c, h1, h2, h3, fun q hq => hF q (h2.lt hq) (h4 q hq).1 (h4 q hq).2⟩
theorem Inner.move {w w' : World} {F G T : Nat → Prop} {g g' : Option Nat} {vs : List Value} {xss : List (List Int)} (h : Inner w F g vs xss) (hk : Keep T w w') (hT : ∀ b, b < w.heap.size → F b → g ≠ some b → T b ∧ G b ∧ g' ≠ some b) : Inner w' G g' vs xss := by
  refine ⟨h.len, fun i xs hi => ?_, h.apart⟩
  obtain ⟨b, c, h1, h2, h3, h4⟩ := h.each i xs hi
  exact ⟨b, c, h1, h2.keep hk (fun q hq hlt => (hT q hlt (h4 q hq).1 (h4 q hq).2).1), h3, fun q hq => (hT q (h2.lt hq) (h4 q hq).1 (h4 q hq).2).2⟩
theorem Inner.snoc {w : World} {F : Nat → Prop} {g : Option Nat} {vs : List Value} {xss : List (List Int)} (h : Inner w F g vs xss) {b : Option Addr} {c : Nat} {xs : List Int} (ho : Own w 3 1 b xs.length c (ints xs)) (hr : ∀ x ∈ xs, I64 x)
    (hb : ∀ q, blk b = some q → F q ∧ g ≠ some q) (hnew : ∀ q, blk b = some q → ∀ v ∈ vs, v.ownBlock ≠ some q) : Inner w F g (vs ++ [.slice b xs.length c]) (xss ++ [xs]) := by
  refine ⟨by simp [h.len], fun i ys hi => ?_, ?_⟩
  · by_cases hlt : i < xss.length
    · rw [List.getElem?_append_left hlt] at hi
      obtain ⟨b', c', h1, h2⟩ := h.each i ys hi
      exact ⟨b', c', by rw [List.getElem?_append_left (by rw [h.len]; exact hlt)]; exact h1, h2⟩
    · rw [List.getElem?_append_right (by omega)] at hi
      have : i - xss.length = 0 := by
        rcases Nat.eq_zero_or_pos (i - xss.length) with h0 | h0
        · exact h0
        · rw [List.getElem?_eq_none (by simp; omega)] at hi; cases hi
      rw [this] at hi
      obtain rfl : xs = ys := by simpa using hi
      have hi' : i = vs.length := by rw [h.len]; omega
      subst hi'
      exact ⟨b, c, by simp, ho, hr, hb⟩
  · rw [List.pairwise_append]
    refine ⟨h.apart, List.pairwise_singleton _ _, fun u hu v hv q hq => ?_⟩
    obtain rfl := List.mem_singleton.1 hv
    rw [ownBlock_slice]
    intro e
    exact hnew q e u hu hq
theorem Inner.lt {w : World} {F : Nat → Prop} {g : Option Nat} {vs : List Value} {xss : List (List Int)} (h : Inner w F g vs xss) {v : Value} (hv : v ∈ vs) {q : Nat} (hq : v.ownBlock = some q) : q < w.heap.size ∧ F q ∧ g ≠ some q := by
  obtain ⟨i, hi, rfl⟩ := List.mem_iff_getElem.1 hv
  have hi' : i < xss.length := by rw [← h.len]; exact hi
  obtain ⟨b, c, h1, h2, _, h4⟩ := h.each i _ (List.getElem?_eq_getElem hi')
  rw [List.getElem?_eq_getElem hi] at h1
  have h5 := Option.some.inj h1
  rw [h5, ownBlock_slice] at hq
  exact ⟨h2.lt hq, h4 q hq⟩
theorem Inner.rdII {w : World} {F S : Nat → Prop} {g : Option Nat} {a : Option Addr} {n cap : Nat} {vs : List Value} {xss : List (List Int)} (h : Inner w F g vs xss) (hr : Row w S 1 a n cap vs) (hS : ∀ b, F b → g ≠ some b → S b) : RdII w S a n cap xss := by
  refine ⟨⟨vs, hr, fun i xs hi => ?_⟩, by have := h.len; have := hr.len; omega⟩
  obtain ⟨b, c, h1, h2, h3, h4⟩ := h.each i xs hi
  exact ⟨b, c, h1, h2.rdI (fun q hq => hS q (h4 q hq).1 (h4 q hq).2) h3⟩

/-- '.slice a n cap' owns the lists xss: a block of its own for itself and for each list, all of F. -/
structure SepII (w : World) (F : Nat → Prop) (a : Option Addr) (n cap : Nat) (xss : List (List Int)) : Prop where
  own : ∃ vs, Own w 22 1 a n cap vs ∧ Inner w F (blk a) vs xss
  lo : ∀ g, blk a = some g → F g
theorem SepII.keep {w w' : World} {F T : Nat → Prop} {a : Option Addr} {n cap : Nat} {xss : List (List Int)} (h : SepII w F a n cap xss) (hk : Keep T w w') (hT : ∀ b, b < w.heap.size → F b → T b) : SepII w' F a n cap xss := by
  obtain ⟨⟨vs, h1, h2⟩, h3⟩ := h
  exact ⟨⟨vs, h1.keep hk (fun g hg hlt => hT g hlt (h3 g hg)), h2.keep hk (fun b hb hF _ => hT b hb hF)⟩, h3⟩
theorem SepII.grow {w w' : World} {F : Nat → Prop} {a : Option Addr} {n cap : Nat} {xss : List (List Int)} (h : SepII w F a n cap xss) (hk : Grow w w') : SepII w' F a n cap xss := h.keep hk fun _ _ _ => trivial
theorem SepII.weak {w : World} {F G : Nat → Prop} {a : Option Addr} {n cap : Nat} {xss : List (List Int)} (h : SepII w F a n cap xss) (hF : ∀ b, b < w.heap.size → F b → G b) : SepII w G a n cap xss := by
  obtain ⟨⟨vs, h1, h2⟩, h3⟩ := h
  exact ⟨⟨vs, h1, h2.weak fun b hb hFb hne => ⟨hF b hb hFb, hne⟩⟩, fun g hg => hF g (h1.lt hg) (h3 g hg)⟩
theorem SepII.rdII {w : World} {F S : Nat → Prop} {a : Option Addr} {n cap : Nat} {xss : List (List Int)} (h : SepII w F a n cap xss) (hS : ∀ b, F b → S b) : RdII w S a n cap xss := by
  obtain ⟨⟨vs, h1, h2⟩, h3⟩ := h
  exact h2.rdII (h1.row fun g hg => hS g (h3 g hg)) fun b hb _ => hS b hb
theorem SepII.len {w : World} {F : Nat → Prop} {a : Option Addr} {n cap : Nat} {xss : List (List Int)} (h : SepII w F a n cap xss) : xss.length = n := by
  obtain ⟨⟨vs, h1, h2⟩, h3⟩ := h
  have := h1.len; have := h2.len; omega

/-- The blocks that came between two worlds. -/
def New (w w' : World) (g : Nat) : Prop := w.heap.size ≤ g ∧ g < w'.heap.size

/-- How many numbers there are. -/
def total (xss : List (List Int)) : Nat := (xss.map List.length).sum
@[simp] theorem total_nil : total [] = 0 := rfl
@[simp] theorem total_cons (xs : List Int) (r : List (List Int)) : total (xs :: r) = xs.length + total r := by simp [total]
theorem total_append (l r : List (List Int)) : total (l ++ r) = total l + total r := by simp [total]
theorem total_take_succ {xss : List (List Int)} {k : Nat} {xs : List Int} (h : xss[k]? = some xs) : total (xss.take (k + 1)) = total (xss.take k) + xs.length := by
  rw [take_succ h, total_append]; simp
theorem total_take_le (xss : List (List Int)) (k : Nat) : total (xss.take k) ≤ total xss := by
  conv => rhs; rw [← List.take_append_drop k xss]
  rw [total_append]; omega
theorem total_at {xss : List (List Int)} {k : Nat} {xs : List Int} (h : xss[k]? = some xs) : total (xss.take k) + xs.length ≤ total xss := by
  rw [← total_take_succ h]; exact total_take_le _ _

/-- What is left of a measure; -1 for too much. -/
def szII (left : Int) : List (List Int) → Int
  | [] => left
  | xs :: r => if left < xs.length then -1 else szII (left - xs.length) r
def szII' (left : Int) (xss : List (List Int)) : Int := if left < xss.length then -1 else szII (left - xss.length) xss
theorem szII_ok {xss : List (List Int)} : ∀ {left : Int}, 0 ≤ szII left xss → szII left xss = left - total xss := by
  induction xss with
  | nil => intro left _; simp [szII]
  | cons xs r ih =>
    intro left h
    unfold szII at h ⊢
    by_cases hlt : left < xs.length
    · rw [if_pos hlt] at h; omega
    · rw [if_neg hlt] at h ⊢
      rw [ih h]; simp; omega
theorem szII'_ok {xss : List (List Int)} {left : Int} (h : 0 ≤ szII' left xss) : szII' left xss = left - xss.length - total xss ∧ (xss.length : Int) + total xss ≤ left := by
  unfold szII' at h ⊢
  by_cases hlt : left < xss.length
  · rw [if_pos hlt] at h; omega
  · rw [if_neg hlt] at h ⊢
    have := szII_ok h
    omega
theorem szII_drop {xss : List (List Int)} {k : Nat} {xs : List Int} (h : xss[k]? = some xs) (l : Int) : szII l (xss.drop k) = if l < xs.length then -1 else szII (l - xs.length) (xss.drop (k + 1)) := by
  obtain ⟨hk, rfl⟩ := List.getElem?_eq_some_iff.1 h
  rw [List.drop_eq_getElem_cons hk]; rfl

theorem sameI_t {xs ys : List Int} (h : xs = ys) : sameI xs ys = true := by simp [sameI, h]

/-- The numbers from k on, laid out as the lists xss. -/
def markII : List (List Int) → Nat → List (List Int)
  | [], _ => []
  | xs :: r, k => markI xs.length k :: markII r (k + xs.length)
@[simp] theorem markII_len : ∀ (xss : List (List Int)) (k : Nat), (markII xss k).length = xss.length
  | [], _ => rfl
  | xs :: r, k => by simp [markII, markII_len r]
@[simp] theorem markII_total : ∀ (xss : List (List Int)) (k : Nat), total (markII xss k) = total xss
  | [], _ => rfl
  | xs :: r, k => by simp [markII, markII_total r]
theorem markII_at : ∀ {xss : List (List Int)} {j : Nat} {xs : List Int} (k : Nat), xss[j]? = some xs → (markII xss k)[j]? = some (markI xs.length (k + total (xss.take j)))
  | [], j, xs, k, h => by simp at h
  | ys :: r, 0, xs, k, h => by simp at h; subst h; simp [markII]
  | ys :: r, j + 1, xs, k, h => by
    simp at h
    simp only [markII, List.getElem?_cons_succ, List.take_succ_cons, total_cons]
    rw [markII_at (k + ys.length) h, Nat.add_assoc]

theorem Inner.put {w w' : World} {F : Nat → Prop} {g : Option Nat} {vs : List Value} {xss : List (List Int)} (h : Inner w F g vs xss) {j : Nat} {b : Option Addr} {c : Nat} {xs ys : List Int} (hv : vs[j]? = some (Value.slice b xs.length c)) (hx : xss[j]? = some xs) (hlen : ys.length = xs.length)
    (ho : Own w' 3 1 b xs.length c (ints ys)) (hr : ∀ x ∈ ys, I64 x) (hk : Keep (fun q => blk b ≠ some q) w w') : Inner w' F g vs (xss.set j ys) := by
  have hjx := (List.getElem?_eq_some_iff.1 hx).1
  refine ⟨by simp [h.len], fun i zs hi => ?_, h.apart⟩
  by_cases hij : j = i
  · subst hij
    rw [List.getElem?_set_self hjx] at hi
    obtain rfl := Option.some.inj hi
    obtain ⟨b', c', h1, h2, h3, h4⟩ := h.each j xs hx
    rw [hv] at h1
    simp only [Option.some.injEq, Value.slice.injEq] at h1
    obtain ⟨rfl, _, rfl⟩ := h1
    exact ⟨b, c, by rw [hlen]; exact hv, by rw [hlen]; exact ho, hr, h4⟩
  · rw [List.getElem?_set_ne hij] at hi
    obtain ⟨b', c', h1, h2, h3, h4⟩ := h.each i zs hi
    refine ⟨b', c', h1, h2.keep hk (fun q hq _ e => ?_), h3, h4⟩
    obtain ⟨hi1, hi2⟩ := List.getElem?_eq_some_iff.1 h1
    obtain ⟨hj1, hj2⟩ := List.getElem?_eq_some_iff.1 hv
    have e1 : (vs[i]).ownBlock = some q := by rw [hi2, ownBlock_slice]; exact hq
    have e2 : (vs[j]).ownBlock = some q := by rw [hj2, ownBlock_slice]; exact e
    rcases Nat.lt_or_gt_of_ne hij with hlt | hlt
    · exact List.pairwise_iff_getElem.1 h.apart j i hj1 hi1 hlt q e2 e1
    · exact List.pairwise_iff_getElem.1 h.apart i j hi1 hj1 hlt q e1 e2

end Go.Proofs.YtdnpdfokdibmdaaDoor

namespace Go.Proofs.YtdnpdfokdibmdaaDoor
open Go.RowKit

/-! ### []int -/
def VI (w : World) (S : Nat → Prop) (v : Value) (xs : List Int) : Prop := ∃ a n c, v = .slice a n c ∧ RdI w S a n c xs
def OI (w : World) (F : Nat → Prop) (v : Value) (xs : List Int) : Prop := ∃ a n c, v = .slice a n c ∧ Own w 3 1 a n c (ints xs) ∧ (∀ x ∈ xs, I64 x) ∧ ∀ g, blk a = some g → F g
def bdI (xs : List Int) : Nat := xs.length
def cntI (xs : List Int) : Nat := xs.length
theorem VI.keep {S T : Nat → Prop} {w w' : World} {v : Value} {xs : List Int} (h : VI w S v xs) (hk : Keep T w w') (hST : ∀ b, b < w.heap.size → S b → T b) : VI w' S v xs := by
  obtain ⟨a, n, c, rfl, h⟩ := h; exact ⟨a, n, c, rfl, h.keep hk hST⟩
theorem VI.grow {S : Nat → Prop} {w w' : World} {v : Value} {xs : List Int} (h : VI w S v xs) (hk : Grow w w') : VI w' S v xs := h.keep hk fun _ _ _ => trivial
theorem VI.weak {S T : Nat → Prop} {w : World} {v : Value} {xs : List Int} (h : VI w S v xs) (hST : ∀ b, b < w.heap.size → S b → T b) : VI w T v xs := by
  obtain ⟨a, n, c, rfl, h⟩ := h; exact ⟨a, n, c, rfl, h.weak hST⟩
theorem OI.keep {F T : Nat → Prop} {w w' : World} {v : Value} {xs : List Int} (h : OI w F v xs) (hk : Keep T w w') (hT : ∀ b, b < w.heap.size → F b → T b) : OI w' F v xs := by
  obtain ⟨a, n, c, rfl, h1, h2, h3⟩ := h; exact ⟨a, n, c, rfl, h1.keep hk (fun g hg hlt => hT g hlt (h3 g hg)), h2, h3⟩
theorem OI.grow {F : Nat → Prop} {w w' : World} {v : Value} {xs : List Int} (h : OI w F v xs) (hk : Grow w w') : OI w' F v xs := h.keep hk fun _ _ _ => trivial
theorem OI.weak {F G : Nat → Prop} {w : World} {v : Value} {xs : List Int} (h : OI w F v xs) (hF : ∀ b, b < w.heap.size → F b → G b) : OI w G v xs := by
  obtain ⟨a, n, c, rfl, h1, h2, h3⟩ := h; exact ⟨a, n, c, rfl, h1, h2, fun g hg => hF g (h1.lt hg) (h3 g hg)⟩
theorem OI.rd {F S : Nat → Prop} {w : World} {v : Value} {xs : List Int} (h : OI w F v xs) (hS : ∀ b, F b → S b) : VI w S v xs := by
  obtain ⟨a, n, c, rfl, h1, h2, h3⟩ := h; exact ⟨a, n, c, rfl, h1.rdI (fun g hg => hS g (h3 g hg)) h2⟩
theorem to_I {S : Nat → Prop} {v : Value} {xs : List Int} {w : World} (h : VI w S v xs) (hb : bdI xs ≤ 1048576) : Calls Tryd.prog 35 #[v] w fun e w' => ∃ v', e = .returned v' ∧ OI w' (New w w') v' xs ∧ Grow w w' := by
  obtain ⟨a, n, c, rfl, h⟩ := h
  have hl := h.len
  refine (toIntS_c a n c xs w h (by unfold bdI at hb; omega)).mono ?_
  rintro e w' ⟨rfl, hO, hG⟩
  exact ⟨_, rfl, ⟨_, _, _, rfl, hO, h.rng, fun g hg => by have := hO.lt hg; simp at hg; subst hg; exact ⟨Nat.le_refl _, this⟩⟩, hG⟩
theorem eq_I {S T : Nat → Prop} {u v : Value} {xs : List Int} {w : World} (h : VI w S u xs) (h' : VI w T v xs) (hb : bdI xs ≤ 2097152) : Calls Tryd.prog 43 #[u, v] w fun e w' => e = .returned (.bool true) ∧ Grow w w' := by
  obtain ⟨a, n, c, rfl, h⟩ := h
  obtain ⟨a', n', c', rfl, h'⟩ := h'
  have hl := h.len
  refine (eqIntS_c a a' n n' c c' xs xs w h h' (by unfold bdI at hb; omega)).mono ?_
  rintro e w' ⟨rfl, hQ⟩
  exact ⟨by rw [sameI_self], hQ.grow⟩
def mkI (xs : List Int) (k : Nat) : List Int := markI xs.length k
theorem mark_I {F : Nat → Prop} {v : Value} {xs : List Int} {w : World} (k : Nat) (h : OI w F v xs) (hb : bdI xs + k ≤ 4294967296) : Calls Tryd.prog 51 #[v, .int .i64 k] w fun e w' =>
    e = .returned (.int .i64 ((k + cntI xs : Nat) : Int)) ∧ OI w' F v (mkI xs k) ∧ Keep (fun g => ¬ F g) w w' := by
  obtain ⟨a, n, c, rfl, h1, h2, h3⟩ := h
  have hl : xs.length = n := by simpa using h1.len
  subst hl
  refine (markIntS_c a _ c k xs w h1 hb).mono ?_
  rintro e w' ⟨rfl, hO, hK⟩
  exact ⟨rfl, ⟨_, _, _, rfl, hO, markI_rng hb, h3⟩, hK.mono fun q _ hq e => hq (h3 q e)⟩
theorem held_I {S : Nat → Prop} {v : Value} {xs : List Int} {w : World} (k : Nat) (h : VI w S v (mkI xs k)) (hb : bdI xs + k ≤ 4294967296) : Calls Tryd.prog 52 #[v, .int .i64 k] w fun e w' =>
    e = .returned (.int .i64 ((k + cntI xs : Nat) : Int)) ∧ Grow w w' := by
  obtain ⟨a, n, c, rfl, h⟩ := h
  have hl : xs.length = n := by simpa [mkI] using h.len
  subst hl
  refine (heldIntS_c a _ c k w h hb).mono ?_
  rintro e w' ⟨rfl, rfl⟩
  exact ⟨rfl, Grow.refl _⟩

/-! ### [][]int -/
def VII (w : World) (S : Nat → Prop) (v : Value) (l : List (List Int)) : Prop := ∃ a n c, v = .slice a n c ∧ RdII w S a n c l
def OII (w : World) (F : Nat → Prop) (v : Value) (l : List (List Int)) : Prop := ∃ a n c, v = .slice a n c ∧ SepII w F a n c l
def bdII (l : List (List Int)) : Nat := l.length + total l
def cntII (l : List (List Int)) : Nat := total l
theorem VII.keep {S T : Nat → Prop} {w w' : World} {v : Value} {l : List (List Int)} (h : VII w S v l) (hk : Keep T w w') (hST : ∀ b, b < w.heap.size → S b → T b) : VII w' S v l := by
  obtain ⟨a, n, c, rfl, h⟩ := h; exact ⟨a, n, c, rfl, h.keep hk hST⟩
theorem VII.grow {S : Nat → Prop} {w w' : World} {v : Value} {l : List (List Int)} (h : VII w S v l) (hk : Grow w w') : VII w' S v l := h.keep hk fun _ _ _ => trivial
theorem VII.weak {S T : Nat → Prop} {w : World} {v : Value} {l : List (List Int)} (h : VII w S v l) (hST : ∀ b, b < w.heap.size → S b → T b) : VII w T v l := by
  obtain ⟨a, n, c, rfl, h⟩ := h; exact ⟨a, n, c, rfl, h.weak hST⟩
theorem OII.keep {F T : Nat → Prop} {w w' : World} {v : Value} {l : List (List Int)} (h : OII w F v l) (hk : Keep T w w') (hT : ∀ b, b < w.heap.size → F b → T b) : OII w' F v l := by
  obtain ⟨a, n, c, rfl, h⟩ := h; exact ⟨a, n, c, rfl, h.keep hk hT⟩
theorem OII.grow {F : Nat → Prop} {w w' : World} {v : Value} {l : List (List Int)} (h : OII w F v l) (hk : Grow w w') : OII w' F v l := h.keep hk fun _ _ _ => trivial
theorem OII.weak {F G : Nat → Prop} {w : World} {v : Value} {l : List (List Int)} (h : OII w F v l) (hF : ∀ b, b < w.heap.size → F b → G b) : OII w G v l := by
  obtain ⟨a, n, c, rfl, h⟩ := h; exact ⟨a, n, c, rfl, h.weak hF⟩
theorem OII.rd {F S : Nat → Prop} {w : World} {v : Value} {l : List (List Int)} (h : OII w F v l) (hS : ∀ b, F b → S b) : VII w S v l := by
  obtain ⟨a, n, c, rfl, h⟩ := h; exact ⟨a, n, c, rfl, h.rdII hS⟩
theorem sz_II_ok {l : List (List Int)} {left : Int} (h : 0 ≤ szII' left l) : szII' left l = left - bdII l := by
  have := szII'_ok h; unfold bdII; omega
def mkII (l : List (List Int)) (k : Nat) : List (List Int) := markII l k
end Go.Proofs.YtdnpdfokdibmdaaDoor

namespace Go.Proofs.YtdnpdfokdibmdaaDoor
open Go.RowKit

structure Mat where
  rows : Int
  cols : Int
  cells : List Int

def VM (w : World) (S : Nat → Prop) (v : Value) (m : Mat) : Prop := ∃ a n c, v = .agg #[.int .i64 m.rows, .int .i64 m.cols, .slice a n c] ∧ RdI w S a n c m.cells ∧ I64 m.rows ∧ I64 m.cols
def OM (w : World) (F : Nat → Prop) (v : Value) (m : Mat) : Prop := ∃ a n c, v = .agg #[.int .i64 m.rows, .int .i64 m.cols, .slice a n c] ∧ Own w 3 1 a n c (ints m.cells) ∧ (∀ x ∈ m.cells, I64 x) ∧ (∀ g, blk a = some g → F g) ∧ I64 m.rows ∧ I64 m.cols
def bdM (m : Mat) : Nat := m.cells.length
def cntM (m : Mat) : Nat := m.cells.length
theorem VM.keep {S T : Nat → Prop} {w w' : World} {v : Value} {m : Mat} (h : VM w S v m) (hk : Keep T w w') (hST : ∀ b, b < w.heap.size → S b → T b) : VM w' S v m := by
  obtain ⟨a, n, c, rfl, h, hr, hc⟩ := h; exact ⟨a, n, c, rfl, h.keep hk hST, hr, hc⟩
theorem VM.grow {S : Nat → Prop} {w w' : World} {v : Value} {m : Mat} (h : VM w S v m) (hk : Grow w w') : VM w' S v m := h.keep hk fun _ _ _ => trivial
theorem VM.weak {S T : Nat → Prop} {w : World} {v : Value} {m : Mat} (h : VM w S v m) (hST : ∀ b, b < w.heap.size → S b → T b) : VM w T v m := by
  obtain ⟨a, n, c, rfl, h, hr, hc⟩ := h; exact ⟨a, n, c, rfl, h.weak hST, hr, hc⟩
theorem OM.keep {F T : Nat → Prop} {w w' : World} {v : Value} {m : Mat} (h : OM w F v m) (hk : Keep T w w') (hT : ∀ b, b < w.heap.size → F b → T b) : OM w' F v m := by
  obtain ⟨a, n, c, rfl, h1, h2, h3, hr, hc⟩ := h; exact ⟨a, n, c, rfl, h1.keep hk (fun g hg hlt => hT g hlt (h3 g hg)), h2, h3, hr, hc⟩
theorem OM.grow {F : Nat → Prop} {w w' : World} {v : Value} {m : Mat} (h : OM w F v m) (hk : Grow w w') : OM w' F v m := h.keep hk fun _ _ _ => trivial
theorem OM.weak {F G : Nat → Prop} {w : World} {v : Value} {m : Mat} (h : OM w F v m) (hF : ∀ b, b < w.heap.size → F b → G b) : OM w G v m := by
  obtain ⟨a, n, c, rfl, h1, h2, h3, hr, hc⟩ := h; exact ⟨a, n, c, rfl, h1, h2, fun g hg => hF g (h1.lt hg) (h3 g hg), hr, hc⟩
theorem OM.rd {F S : Nat → Prop} {w : World} {v : Value} {m : Mat} (h : OM w F v m) (hS : ∀ b, F b → S b) : VM w S v m := by
  obtain ⟨a, n, c, rfl, h1, h2, h3, hr, hc⟩ := h; exact ⟨a, n, c, rfl, h1.rdI (fun g hg => hS g (h3 g hg)) h2, hr, hc⟩

set_option maxHeartbeats 1000000 in
theorem eq_M {S T : Nat → Prop} {u v : Value} {m : Mat} {w : World} (h : VM w S u m) (h' : VM w T v m) (hb : bdM m ≤ 2097152) : Calls Tryd.prog 22 #[u, v] w fun e w' => e = .returned (.bool true) ∧ Grow w w' := by
  obtain ⟨a, n, c, rfl, h, _, _⟩ := h
  obtain ⟨a', n', c', rfl, h', _, _⟩ := h'
  have hl := h.len
  have hl' := h'.len
  unfold bdM at hb
  have e1 : (m.rows == m.rows) = true := by simp
  have e2 : (m.cols == m.cols) = true := by simp
  have e3 : sameI m.cells m.cells = true := sameI_self _
  have hG : Grow w ((w.alloc (.cells #[.int .i64 m.rows, .int .i64 m.cols, .slice a n c] 29)).alloc (.cells #[.int .i64 m.rows, .int .i64 m.cols, .slice a' n' c'] 29)) := ((Grow.refl w).alloc _ _).alloc _ _
  go_enter Tryd.func22, Tryd.ntmps22
  go_wp2_with fail
  refine (eqIntS_c _ _ _ _ _ _ m.cells m.cells _ (h.grow hG) (h'.grow hG) (by omega)).mono ?_
  rintro e w' ⟨rfl, hQ⟩
  go_wp2
  go_ret
  exact ⟨rfl, hG.trans hQ.grow⟩
def mkM (m : Mat) (k : Nat) : Mat := { m with cells := markI m.cells.length k }
set_option maxHeartbeats 1000000 in
theorem mark_M {F : Nat → Prop} {v : Value} {m : Mat} {w : World} (k : Nat) (h : OM w F v m) (hb : bdM m + k ≤ 4294967296) : Calls Tryd.prog 28 #[v, .int .i64 k] w fun e w' =>
    e = .returned (.int .i64 ((k + cntM m : Nat) : Int)) ∧ OM w' F v (mkM m k) ∧ Keep (fun g => ¬ F g) w w' := by
  obtain ⟨a, n, c, rfl, h1, h2, h3, hr, hc⟩ := h
  unfold bdM at hb
  have hl : m.cells.length = n := by simpa using h1.len
  subst hl
  have hG : Grow w (w.alloc (.cells #[.int .i64 m.rows, .int .i64 m.cols, .slice a m.cells.length c] 29)) := (Grow.refl w).alloc _ _
  go_enter Tryd.func28, Tryd.ntmps28
  go_wp2_with fail
  refine (markIntS_c a _ c k m.cells _ (h1.grow hG) hb).mono ?_
  rintro e w' ⟨rfl, hO, hK⟩
  go_wp2
  go_ret
  refine ⟨rfl, ⟨a, _, c, rfl, hO, markI_rng hb, h3, hr, hc⟩, ?_⟩
  exact (hG.any (S := fun g => ¬ F g)).trans (hK.mono fun q _ hq e => hq (h3 q e))
set_option maxHeartbeats 1000000 in
theorem held_M {S : Nat → Prop} {v : Value} {m : Mat} {w : World} (k : Nat) (h : VM w S v (mkM m k)) (hb : bdM m + k ≤ 4294967296) : Calls Tryd.prog 29 #[v, .int .i64 k] w fun e w' =>
    e = .returned (.int .i64 ((k + cntM m : Nat) : Int)) ∧ Grow w w' := by
  obtain ⟨a, n, c, rfl, h, _, _⟩ := h
  unfold bdM at hb
  have hl : m.cells.length = n := by simpa [mkM] using h.len
  subst hl
  have hG : Grow w (w.alloc (.cells #[.int .i64 (mkM m k).rows, .int .i64 (mkM m k).cols, .slice a m.cells.length c] 29)) := (Grow.refl w).alloc _ _
  go_enter Tryd.func29, Tryd.ntmps29
  go_wp2_with fail
  refine (heldIntS_c a _ c k _ (h.grow hG) hb).mono ?_
  rintro e w' ⟨rfl, rfl⟩
  go_wp2
  go_ret
  exact ⟨rfl, hG⟩
end Go.Proofs.YtdnpdfokdibmdaaDoor

namespace Go.Proofs.YtdnpdfokdibmdaaDoor
open Go.RowKit

/-- A load of a struct of three cells, in a region that draws. -/
theorem quiet_load3 {P : Program} {C : World → Prop} {o : Oper} {a : Act} {K : Act → Prop} {ty : TypeId} {x : Operand} {g : Nat} {u v z : Value} {t : TypeId} (hty : StT P ty 3) (ho : o.op = .load ty x) (hx : a.eval x = .pointer (some ⟨g, 0, none⟩))
    (hv : ∀ w', C w' → Blk w' g #[u, v, z] t) (hk : K (a.put o.dst (.agg #[u, v, z]))) : o.quiet P a C K := quiet_loadS (cs := #[u, v, z]) hty ho hx hv hk
theorem idx_lt {i c n f : Nat} (hi : i < n) (hf : f < c) : i * c + f < n * c := by
  have : (i + 1) * c ≤ n * c := Nat.mul_le_mul_right _ hi
  rw [Nat.add_mul] at this; omega
theorem ints_set (l : List Int) (i : Nat) (v : Int) : ints (l.set i v) = (ints l).set i (.int .i64 v) := by simp [ints, List.map_set]
theorem madeCells_ints (n : Nat) : (madeCells #[Value.int .i64 0] (n * 1)).toList = ints (List.replicate n 0) := by
  rw [Nat.mul_one, toList_madeCells_one]; simp [ints]
theorem zeros_rng {n : Nat} : ∀ x ∈ List.replicate n (0 : Int), I64 x := by
  intro x hx
  have := List.eq_of_mem_replicate hx
  subst this; unfold I64; omega

end Go.Proofs.YtdnpdfokdibmdaaDoor

namespace Go.Proofs.YtdnpdfokdibmdaaDoor
open Go.RowKit

theorem T_lmat : StT Tryd.prog 24 3 := ⟨_, Tryd.underlying24, by kernel_rfl⟩
set_option maxHeartbeats 1000000 in
theorem to_M {S : Nat → Prop} {v : Value} {m : Mat} {w : World} (h : VM w S v m) (hb : bdM m ≤ 1048576) : Calls Tryd.prog 18 #[v] w fun e w' => ∃ v', e = .returned v' ∧ OM w' (New w w') v' m ∧ Grow w w' := by
  obtain ⟨a, n, c, rfl, h, hr, hc⟩ := h
  have hl := h.len
  unfold bdM at hb
  go_enter Tryd.func18, Tryd.ntmps18
  go_wp2_with fail
  have hW := ((Grow.refl w).alloc #[.int .i64 m.rows, .int .i64 m.cols, .slice a n c] 24).alloc #[.int .i64 0, .int .i64 0, .slice none 0 0] 29 |>.alloc #[.int .i64 m.rows, .int .i64 m.cols, .slice none 0 0] 29
  have hb2 := Blk.newAt ((w.alloc (.cells #[.int .i64 m.rows, .int .i64 m.cols, .slice a n c] 24)).alloc (.cells #[.int .i64 0, .int .i64 0, .slice none 0 0] 29)) #[.int .i64 m.rows, .int .i64 m.cols, .slice none 0 0] 29 (g := w.heap.size + 1 + 1) (by simp)
  have hb1 := (Blk.newAt (w.alloc (.cells #[.int .i64 m.rows, .int .i64 m.cols, .slice a n c] 24)) #[.int .i64 0, .int .i64 0, .slice none 0 0] 29 (g := w.heap.size + 1) (by simp)).alloc (.cells #[.int .i64 m.rows, .int .i64 m.cols, .slice none 0 0] 29)
  refine (toIntS_c a n c m.cells _ (h.grow hW) (by omega)).mono ?_
  rintro e w1 ⟨rfl, hO, hG⟩
  obtain ⟨⟨c20, c21, c22⟩, f20, f21, f22⟩ := (hb2.grow hG).three
  obtain ⟨⟨c10, c11, c12⟩, f10, f11, f12⟩ := (hb1.grow hG).three
  simp only [World.size_alloc] at hO
  go_wp2
  have hs := hW.size
  simp only [World.size_alloc] at hs
  have hs1 := hG.size
  simp only [World.size_alloc] at hs1
  have hK : Keep (fun g => g ≠ w.heap.size + 1 + 1 ∧ g ≠ w.heap.size + 1) w1 _ := ((((Keep.refl _ w1).setCell (p := ⟨w.heap.size + 1 + 1, 2, none⟩) (by simp) (.slice (some ⟨w.heap.size + 1 + 1 + 1, 0, none⟩) n n)).setCell (p := ⟨w.heap.size + 1, 0, none⟩) (by simp) (.int .i64 m.rows)).setCell (p := ⟨w.heap.size + 1, 1, none⟩) (by simp) (.int .i64 m.cols)).setCell (p := ⟨w.heap.size + 1, 2, none⟩) (by simp) (.slice (some ⟨w.heap.size + 1 + 1 + 1, 0, none⟩) n n)
  have hB : Blk _ (w.heap.size + 1) #[.int .i64 m.rows, .int .i64 m.cols, .slice (some ⟨w.heap.size + 1 + 1 + 1, 0, none⟩) n n] 29 := (((((hb1.grow hG).other (p := ⟨w.heap.size + 1 + 1, 2, none⟩) (by simp) (.slice (some ⟨w.heap.size + 1 + 1 + 1, 0, none⟩) n n)).set 0 (.int .i64 m.rows)).set 1 (.int .i64 m.cols)).set 2 (.slice (some ⟨w.heap.size + 1 + 1 + 1, 0, none⟩) n n))
  have hGf : Grow w _ := (hW.trans hG).keep hK (fun i hi => by constructor <;> omega)
  have hOf := hO.keep hK (fun g hg hlt => by simp at hg; omega)
  refine ret_cell T_mat rfl rfl rfl hB ?_
  refine ⟨_, rfl, ⟨_, _, _, rfl, hOf, h.rng, fun g hg => ⟨?_, hOf.lt hg⟩, hr, hc⟩, hGf⟩
  simp at hg; omega

def szM (left : Int) (m : Mat) : Int := szI left m.cells.length
theorem sz_M_ok {l : Mat} {left : Int} (h : 0 ≤ szM left l) : szM left l = left - bdM l := by
  unfold szM szI at *; unfold bdM
  split at h
  · omega
  · rename_i h1; rw [if_neg h1]
set_option maxHeartbeats 1000000 in
theorem sz_M {S : Nat → Prop} {v : Value} {m : Mat} {w : World} {left : Int} (h : VM w S v m) (h0 : 0 ≤ left) (h1 : left ≤ 1048576) : Calls Tryd.prog 14 #[v, .int .i64 left] w fun e w' => e = .returned (.int .i64 (szM left m)) ∧ Grow w w' := by
  obtain ⟨a, n, c, rfl, h, _, _⟩ := h
  have hl := h.len
  have hm : n ≤ maxLen := Nat.le_trans h.row.le h.row.max
  have hG : Grow w (w.alloc (.cells #[.int .i64 m.rows, .int .i64 m.cols, .slice a n c] 24)) := (Grow.refl w).alloc _ _
  by_cases hlt : left < n
  · have hz : szI left n = -1 := by unfold szI; rw [if_pos hlt]
    have hz2 : szM left m = -1 := by unfold szM; rw [hl]; exact hz
    rw [hz2]
    go_enter Tryd.func14, Tryd.ntmps14
    go_wp2_with (go_at_call 30; refine (szIntS_c a n c left _ hm h0 h1).mono ?_; rintro e w' ⟨rfl, rfl⟩; rw [hz])
    go_ret
    exact ⟨rfl, hG⟩
  · have hz : szI left n = left - n := by unfold szI; rw [if_neg hlt]
    have hz2 : szM left m = left - n := by unfold szM; rw [hl]; exact hz
    rw [hz2]
    go_enter Tryd.func14, Tryd.ntmps14
    go_wp2_with (go_at_call 30; refine (szIntS_c a n c left _ hm h0 h1).mono ?_; rintro e w' ⟨rfl, rfl⟩; rw [hz])
    go_ret
    exact ⟨rfl, hG⟩
end Go.Proofs.YtdnpdfokdibmdaaDoor

namespace Go.Proofs.YtdnpdfokdibmdaaDoor
open Go.ChangeShapes Go.WideShapes Go.ChangeAt Go.RowKit
theorem list3 {α : Type} {cs : List α} (h : cs.length = 3) : ∃ c0 c1 c2, cs = [c0, c1, c2] := by
  match cs, h with
  | [c0, c1, c2], _ => exact ⟨c0, c1, c2, rfl⟩
theorem list7 {α : Type} {cs : List α} (h : cs.length = 7) : ∃ c0 c1 c2 c3 c4 c5 c6, cs = [c0, c1, c2, c3, c4, c5, c6] := by
  match cs, h with
  | [c0, c1, c2, c3, c4, c5, c6], _ => exact ⟨c0, c1, c2, c3, c4, c5, c6, rfl⟩
section
variable {H : Type} {enc : TypeId × Value → H} {w : World}
theorem cells_sl : Tryd.prog.cellsOf 22 = 1 := by kernel_rfl
theorem cells_mat : Tryd.prog.cellsOf 24 = 3 := by kernel_rfl
theorem mat_cs_g {P : Program} {t e : TypeId} {f0 f1 f2 : Field} {fuel : Nat} {cs : List Value} {x : DataW H × List MemPlace} (hu : P.underlying t = some (.struct #[f0, f1, f2])) (hc : P.cellsOf t = 3)
    (t0 : P.underlying f0.type = some (.int .i64)) (t1 : P.underlying f1.type = some (.int .i64)) (t2 : P.underlying f2.type = some (.slice e)) (te : P.underlying e = some (.int .i64)) (ce : P.cellsOf e = 1)
    (o0 : f0.offset = 0) (o1 : f1.offset = 1) (o2 : f2.offset = 2) (c0 : P.cellsOf f0.type = 1) (c1 : P.cellsOf f1.type = 1) (c2 : P.cellsOf f2.type = 1)
    (h : DataW.trod enc P w 0 (fun _ => true) true fuel t cs = some x) :
    ∃ r k a n c xs, cs = [.int .i64 r, .int .i64 k, .slice a n c] ∧ RdI w (fun _ => True) a n c xs ∧ I64 r ∧ I64 k := by
  obtain ⟨xs, n, _, rfl, hl, hlen, hf⟩ := DataW.trod_struct hu h
  obtain ⟨q0, q1, q2, rfl⟩ := list3 (hl.trans hc)
  obtain ⟨y0, y1, y2, rfl⟩ := list3 hlen
  have h0 := hf 0 f0 rfl
  have h1 := hf 1 f1 rfl
  have h2 := hf 2 f2 rfl
  rw [o0, c0] at h0
  rw [o1, c1] at h1
  rw [o2, c2] at h2
  obtain ⟨r, e0, _, w0⟩ := DataW.trod_int t0 h0
  obtain ⟨k, e1, _, w1⟩ := DataW.trod_int t1 h1
  obtain ⟨a, m, c, ys, e2, hr⟩ := openI_cs t2 te ce h2
  simp at e0 e1 e2
  subst e0; subst e1; subst e2
  exact ⟨r, k, a, m, c, ys, rfl, hr, wf_I64 w0, wf_I64 w1⟩
set_option maxRecDepth 100000 in
theorem mat_cs {fuel : Nat} {cs : List Value} {x : DataW H × List MemPlace} (h : DataW.trod enc Tryd.prog w 0 (fun _ => true) true fuel 24 cs = some x) :
    ∃ r k a n c xs, cs = [.int .i64 r, .int .i64 k, .slice a n c] ∧ RdI w (fun _ => True) a n c xs ∧ I64 r ∧ I64 k :=
  mat_cs_g Tryd.underlying24 cells_mat Tryd.underlying3 Tryd.underlying3 Tryd.underlying22 Tryd.underlying3 cells_int rfl rfl rfl cells_int cells_int cells_sl h
set_option maxRecDepth 100000 in
theorem openMx {r : Reach} {b0 : Nat} {v : Value} {d : DataW H} {ps : List MemPlace} (hval : Value.okWide Tryd.prog w r b0 24 v) (h : DataW.Trod enc Tryd.prog w 0 (fun _ => true) true 24 v d ps) :
    ∃ m, VM w (fun _ => True) v m := by
  obtain ⟨cs, rfl, hsz⟩ := okWide_struct Tryd.underlying24 hval
  obtain ⟨fuel, hf⟩ := h
  obtain ⟨r, k, a, n, c, xs, hcs, hr, h1, h2⟩ := mat_cs hf
  have : cs = #[.int .i64 r, .int .i64 k, .slice a n c] := by
    simp only [Value.cells] at hcs
    exact Array.toList_inj.1 hcs
  subst this
  exact ⟨⟨r, k, xs⟩, a, n, c, rfl, hr, h1, h2⟩
end
end Go.Proofs.YtdnpdfokdibmdaaDoor
