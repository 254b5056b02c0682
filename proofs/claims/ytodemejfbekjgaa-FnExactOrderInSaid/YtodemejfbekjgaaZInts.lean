/-
  The laws' helpers on []int: copying, measuring, comparing, marking.
-/
import Derived.Test.YtodemejfbekjgaaZBase
import Derived.WideShapes
namespace Go.Proofs.Ytodemejfbekjgaa
open Go.RowKit


set_option maxHeartbeats 400000 in
theorem toIntS_c {S : Nat → Prop} (a : Option Addr) (n cap : Nat) (xs : List Int) (w : World) (h : RdI w S a n cap xs) (hn : n ≤ 1048576) :
    Calls Try.prog 17 #[.slice a n cap] w fun e w' =>
      e = .returned (.slice (some ⟨w.heap.size, 0, none⟩) n n) ∧ Own w' 3 1 (some ⟨w.heap.size, 0, none⟩) n n (ints xs) ∧ Grow w w' := by
  have hmk := T_ints.make (n := n) (by omega) (by unfold maxLen; omega)
  have hl := h.len
  go_enter Try.func17, Try.ntmps17
  go_wp2
  go_loopw [4] (fun i wr => ∃ k : Nat, k ≤ n ∧ i = .int .i64 k ∧ Grow w wr ∧ Own wr 3 1 (some ⟨w.heap.size, 0, none⟩) n n (ints (xs.take k) ++ List.replicate (n - k) (.int .i64 0))) (fun i _ => n - (intOf i).toNat)
  case atStart => 
    refine ⟨0, Nat.zero_le _, rfl, (Grow.refl w).alloc _ _, ?_⟩
    have := Own.fresh (w := w) (e := 3) (sz := 1) (cs := madeCells #[.int .i64 0] (n * 1)) (n := n) (by unfold maxLen; omega) (by simp [madeCells])
    simpa [toList_madeCells_one] using this
  case round =>
    obtain ⟨k, hk, rfl, hG, hO⟩ := hrel
    by_cases hlt : k < n
    · obtain ⟨b, off, x, rfl, hx, hxr, _, hbw, hc⟩ := (h.grow hG).at hlt
      have hfr := hO.free k
      have hce := hO.cell (fill_at (len_ints_take hl hk) hlt)
      simp only at hfr hce
      go_wp2
      go_roundw
      case rel =>
        refine ⟨k + 1, by omega, by go_num, hG.setCell (Nat.le_refl _) _, ?_⟩
        have := hO.set k (.int .i64 x)
        rw [fill_set (len_ints_take hl hk) hlt] at this
        rw [ints_take hx]; exact this
      case measure => simp [intOf]; omega
    · go_wp2
      go_ret
      have : k = n := by omega
      subst this
      refine ⟨rfl, ?_, hG⟩
      simpa [take_all hl] using hO


/-- What is left of a measure. -/
def szI (left : Int) (n : Nat) : Int := if left < n then -1 else left - n

set_option maxHeartbeats 400000 in
theorem szIntS_c (a : Option Addr) (n cap : Nat) (left : Int) (w : World) (hn : n ≤ maxLen) (h0 : 0 ≤ left) (h1 : left ≤ 1048576) :
    Calls Try.prog 33 #[.slice a n cap, .int .i64 left] w fun e w' => e = .returned (.int .i64 (szI left n)) ∧ w = w' := by
  unfold maxLen at hn
  go_enter Try.func33, Try.ntmps33
  go_wp2
  all_goals go_ret
  · exact ⟨ret_int (by unfold szI; rw [if_pos (by omega)]), rfl⟩
  · exact ⟨ret_int (by unfold szI; rw [if_neg (by omega)]), rfl⟩

def sameI (xs ys : List Int) : Bool := decide (xs = ys)
theorem sameI_self (xs : List Int) : sameI xs xs = true := by simp [sameI]

set_option maxHeartbeats 400000 in
theorem eqIntS_c {S T : Nat → Prop} (a b : Option Addr) (n m cap cap' : Nat) (xs ys : List Int) (w : World) (h : RdI w S a n cap xs) (h' : RdI w T b m cap' ys) (hn : n ≤ 2097152) :
    Calls Try.prog 19 #[.slice a n cap, .slice b m cap'] w fun e w' => e = .returned (.bool (sameI xs ys)) ∧ Qt w w' := by
  have hl := h.len
  have hl' := h'.len
  by_cases hnm : n = m
  · subst hnm
    go_enter Try.func19, Try.ntmps19
    go_wp2
    go_loopw [5] (fun i wr => Qt w wr ∧ ∃ k : Nat, k ≤ n ∧ i = .int .i64 k ∧ xs.take k = ys.take k) (fun i _ => n - (intOf i).toNat)
    case atStart => exact ⟨Qt.refl _, 0, Nat.zero_le _, rfl, rfl⟩
    case round =>
      obtain ⟨hG, k, hk, rfl, he⟩ := hrel
      have He := Lib.hid he; clear he
      by_cases hlt : k < n
      · obtain ⟨b1, off1, x, rfl, hx, hxr, _, hbw, hc⟩ := (h.grow hG.grow).at hlt
        obtain ⟨b2, off2, y, rfl, hy, hyr, _, hbw2, hc2⟩ := (h'.grow hG.grow).at hlt
        have Hx := Lib.hid hx; clear hx
        have Hy := Lib.hid hy; clear hy
        by_cases hxy : x = y
        · subst hxy
          go_wp2
          go_quiet (fail)
          go_wp2
          go_roundw
          case rel => exact ⟨hG.drewN _, k + 1, by omega, by go_num, by rw [take_succ Hx.out, take_succ Hy.out, He.out]⟩
          case measure => simp [intOf]; omega
        · have hxy' : (x == y) = false := by simpa using hxy
          go_wp2
          go_quiet (fail)
          go_wp2
          go_ret
          refine ⟨ret_bool (Eq.symm (decide_eq_false ?_)), hG.drewN _⟩
          intro e; subst e
          exact hxy (Option.some.inj (Hx.out.symm.trans Hy.out))
      · go_wp2
        go_ret
        have : k = n := by omega
        subst this
        refine ⟨ret_bool (Eq.symm (decide_eq_true ?_)), hG⟩
        have := He.out
        rwa [take_all hl, take_all hl'] at this
  · have hb : ((n : Int) == (m : Int)) = false := by simp; omega
    go_enter Try.func19, Try.ntmps19
    go_wp2
    go_ret
    refine ⟨ret_bool (Eq.symm (decide_eq_false ?_)), Qt.refl _⟩
    intro e; subst e; omega

/-- The numbers from k on. -/
def markI (n k : Nat) : List Int := (List.range n).map fun (i : Nat) => ((k + i : Nat) : Int)
@[simp] theorem markI_len (n k : Nat) : (markI n k).length = n := by simp [markI]
theorem markI_at {n k i : Nat} (h : i < n) : (markI n k)[i]? = some ((k + i : Nat) : Int) := by simp [markI, h]
theorem markI_rng {n k : Nat} (h : n + k ≤ 4294967296) : ∀ x ∈ markI n k, I64 x := by
  intro x hx
  obtain ⟨i, hi, rfl⟩ := List.mem_map.1 hx
  simp at hi
  unfold I64; omega
theorem set_mark {xs : List Int} {n k i : Nat} (hl : xs.length = n) (h : i < n) : (ints ((markI n k).take i) ++ ints (xs.drop i)).set i (.int .i64 ((k + i : Nat) : Int)) = ints ((markI n k).take (i + 1)) ++ ints (xs.drop (i + 1)) := by
  have h1 : (ints ((markI n k).take i)).length = i := by simp; omega
  rw [List.set_append_right _ _ (by omega), h1, Nat.sub_self, ints_take (markI_at h), List.drop_eq_getElem_cons (show i < xs.length by omega)]
  simp only [ints, List.map_cons, List.set_cons_zero, List.append_assoc, List.cons_append, List.nil_append]

set_option maxHeartbeats 400000 in
theorem markIntS_c (a : Option Addr) (n cap k : Nat) (xs : List Int) (w : World) (h : Own w 3 1 a n cap (ints xs)) (hn : n + k ≤ 4294967296) :
    Calls Try.prog 26 #[.slice a n cap, .int .i64 k] w fun e w' =>
      e = .returned (.int .i64 ((k + n : Nat) : Int)) ∧ Own w' 3 1 a n cap (ints (markI n k)) ∧ Keep (fun g => blk a ≠ some g) w w' := by
  have hl : xs.length = n := by simpa using h.len
  go_enter Try.func26, Try.ntmps26
  go_wp2
  go_loopw [1, 5] (fun q i wr => ∃ j : Nat, j ≤ n ∧ i = .int .i64 j ∧ q = .int .i64 ((k + j : Nat) : Int) ∧ Own wr 3 1 a n cap (ints ((markI n k).take j) ++ ints (xs.drop j)) ∧ Keep (fun g => blk a ≠ some g) w wr) (fun _ i _ => n - (intOf i).toNat)
  case atStart => exact ⟨0, Nat.zero_le _, rfl, rfl, by simpa using h, Keep.refl _ _⟩
  case round =>
    obtain ⟨j, hj, rfl, rfl, hO, hK⟩ := hrel
    by_cases hlt : j < n
    · cases a with
      | none => have := h.nil rfl; have := h.le; omega
      | some p =>
        have hp := (hO.block p rfl).1
        have hce : ∃ c, (ints ((markI n k).take j) ++ ints (xs.drop j))[j]? = some c := by
          rw [List.getElem?_append_right (by simp; omega)]
          exact ⟨_, List.getElem?_eq_getElem (by simp; omega)⟩
        obtain ⟨c, hc⟩ := hce
        have hfr := hO.free j
        have hcell := hO.cell hc
        obtain ⟨pb, po, ps⟩ := p
        simp only [Addr.mk.injEq, true_and] at hp
        obtain ⟨rfl, rfl⟩ := hp
        simp only at hfr hcell
        have Hc := Lib.hid hc; clear hc
        go_wp2
        go_roundw
        case rel =>
          refine ⟨j + 1, by omega, by go_num, by go_num, ?_, hK.setCell (p := ⟨_, j, none⟩) (fun _ e => e rfl) _⟩
          have := hO.set j (.int .i64 ((k + j : Nat) : Int))
          rw [set_mark hl hlt] at this
          simpa using this
        case measure => simp [intOf]; omega
    · go_wp2
      go_ret
      have : j = n := by omega
      subst this
      refine ⟨ret_int rfl, ?_, hK⟩
      have hd : xs.drop j = [] := by rw [← hl]; simp
      rw [hd, take_all (markI_len _ _)] at hO
      simpa using hO

set_option maxHeartbeats 400000 in
theorem heldIntS_c {S : Nat → Prop} (a : Option Addr) (n cap k : Nat) (w : World) (h : RdI w S a n cap (markI n k)) (hn : n + k ≤ 4294967296) :
    Calls Try.prog 27 #[.slice a n cap, .int .i64 k] w fun e w' => e = .returned (.int .i64 ((k + n : Nat) : Int)) ∧ w = w' := by
  go_enter Try.func27, Try.ntmps27
  go_wp2
  go_loop [1, 5] (fun q i => ∃ j : Nat, j ≤ n ∧ i = .int .i64 j ∧ q = .int .i64 ((k + j : Nat) : Int)) (fun _ i => n - (intOf i).toNat)
  case atStart => exact ⟨0, Nat.zero_le _, rfl, rfl⟩
  case round =>
    obtain ⟨j, hj, rfl, rfl⟩ := hrel
    by_cases hlt : j < n
    · obtain ⟨b, off, x, rfl, hx, hxr, _, hbw, hc⟩ := h.at hlt
      rw [markI_at hlt] at hx
      obtain rfl := Option.some.inj hx
      clear hx
      go_wp2
      go_round
      case rel => exact ⟨j + 1, by omega, by go_num, by go_num⟩
      case measure => simp [intOf]; omega
    · go_wp2
      go_ret
      have : j = n := by omega
      subst this
      exact ⟨ret_int rfl, rfl⟩
end Go.Proofs.Ytodemejfbekjgaa

namespace Go.Proofs.Ytodemejfbekjgaa
open Go.RowKit

/-! ### Lists of lists, owned -/
/-- The slices vs own the lists xss, each a block of its own, of F and other than g. -/
structure Inner (w : World) (F : Nat → Prop) (g : Option Nat) (vs : List Value) (xss : List (List Int)) : Prop where
  len : vs.length = xss.length
  each : ∀ (i : Nat) (xs : List Int), xss[i]? = some xs → ∃ b c, vs[i]? = some (Value.slice b xs.length c) ∧ Own w 3 1 b xs.length c (ints xs) ∧ (∀ x ∈ xs, I64 x) ∧ ∀ h, blk b = some h → F h ∧ g ≠ some h
  apart : vs.Pairwise fun u v => ∀ h, u.ownBlock = some h → v.ownBlock ≠ some h

theorem ownBlock_slice (b : Option Addr) (n c : Nat) : (Value.slice b n c).ownBlock = blk b := by cases b <;> rfl

theorem Inner.nilw {w : World} {F : Nat → Prop} {g : Option Nat} : Inner w F g [] [] := ⟨rfl, fun i xs h => by simp at h, .nil⟩
theorem Inner.keep {w w' : World} {F T : Nat → Prop} {g : Option Nat} {vs : List Value} {xss : List (List Int)} (h : Inner w F g vs xss) (hk : Keep T w w') (hT : ∀ b, b < w.heap.size → F b → g ≠ some b → T b) : Inner w' F g vs xss := by
  refine ⟨h.len, fun i xs hi => ?_, h.apart⟩
  obtain ⟨b, c, h1, h2, h3, h4⟩ := h.each i xs hi
  exact ⟨b, c, h1, h2.keep hk (fun q hq hlt => hT q hlt (h4 q hq).1 (h4 q hq).2), h3, h4⟩
theorem Inner.grow {w w' : World} {F : Nat → Prop} {g : Option Nat} {vs : List Value} {xss : List (List Int)} (h : Inner w F g vs xss) (hk : Grow w w') : Inner w' F g vs xss := h.keep hk fun _ _ _ _ => trivial
theorem Inner.weak {w : World} {F G : Nat → Prop} {g g' : Option Nat} {vs : List Value} {xss : List (List Int)} (h : Inner w F g vs xss) (hF : ∀ b, b < w.heap.size → F b → g ≠ some b → G b ∧ g' ≠ some b) : Inner w G g' vs xss := by
  refine ⟨h.len, fun i xs hi => ?_, h.apart⟩
  obtain ⟨b, c, h1, h2, h3, h4⟩ := h.each i xs hi
  exact ⟨b, c, h1, h2, h3, fun q hq => hF q (h2.lt hq) (h4 q hq).1 (h4 q hq).2⟩
theorem Inner.move {w w' : World} {F G T : Nat → Prop} {g g' : Option Nat} {vs : List Value} {xss : List (List Int)} (h : Inner w F g vs xss) (hk : Keep T w w') (hT : ∀ b, b < w.heap.size → F b → g ≠ some b → T b ∧ G b ∧ g' ≠ some b) : Inner w' G g' vs xss := by
  refine ⟨h.len, fun i xs hi => ?_, h.apart⟩
  obtain ⟨b, c, h1, h2, h3, h4⟩ := h.each i xs hi
  exact ⟨b, c, h1, h2.keep hk (fun q hq hlt => (hT q hlt (h4 q hq).1 (h4 q hq).2).1), h3, fun q hq => (hT q (h2.lt hq) (h4 q hq).1 (h4 q hq).2).2⟩
theorem Inner.snoc {w : World} {F : Nat → Prop} {g : Option Nat} {vs : List Value} {xss : List (List Int)} (h : Inner w F g vs xss) {b : Option Addr} {c : Nat} {xs : List Int} (ho : Own w 3 1 b xs.length c (ints xs)) (hr : ∀ x ∈ xs, I64 x)
    (hb : ∀ q, blk b = some q → F q ∧ g ≠ some q) (hnew : ∀ q, blk b = some q → ∀ v ∈ vs, v.ownBlock ≠ some q) : Inner w F g (vs ++ [.slice b xs.length c]) (xss ++ [xs]) := by
  refine ⟨by simp [h.len], fun i ys hi => ?_, ?_⟩
  · by_cases hlt : i < xss.length
    · rw [List.getElem?_append_left hlt] at hi
      obtain ⟨b', c', h1, h2⟩ := h.each i ys hi
      exact ⟨b', c', by rw [List.getElem?_append_left (by rw [h.len]; exact hlt)]; exact h1, h2⟩
    · rw [List.getElem?_append_right (by omega)] at hi
      have : i - xss.length = 0 := by
        rcases Nat.eq_zero_or_pos (i - xss.length) with h0 | h0
        · exact h0
        · rw [List.getElem?_eq_none (by simp; omega)] at hi; cases hi
      rw [this] at hi
      obtain rfl : xs = ys := by simpa using hi
      have hi' : i = vs.length := by rw [h.len]; omega
      subst hi'
      exact ⟨b, c, by simp, ho, hr, hb⟩
  · rw [List.pairwise_append]
    refine ⟨h.apart, List.pairwise_singleton _ _, fun u hu v hv q hq => ?_⟩
    obtain rfl := List.mem_singleton.1 hv
    rw [ownBlock_slice]
    intro e
    exact hnew q e u hu hq
theorem Inner.lt {w : World} {F : Nat → Prop} {g : Option Nat} {vs : List Value} {xss : List (List Int)} (h : Inner w F g vs xss) {v : Value} (hv : v ∈ vs) {q : Nat} (hq : v.ownBlock = some q) : q < w.heap.size ∧ F q ∧ g ≠ some q := by
  obtain ⟨i, hi, rfl⟩ := List.mem_iff_getElem.1 hv
  have hi' : i < xss.length := by rw [← h.len]; exact hi
  obtain ⟨b, c, h1, h2, _, h4⟩ := h.each i _ (List.getElem?_eq_getElem hi')
  rw [List.getElem?_eq_getElem hi] at h1
  have h5 := Option.some.inj h1
  rw [h5, ownBlock_slice] at hq
  exact ⟨h2.lt hq, h4 q hq⟩
theorem Inner.rdII {w : World} {F S : Nat → Prop} {g : Option Nat} {a : Option Addr} {n cap : Nat} {vs : List Value} {xss : List (List Int)} (h : Inner w F g vs xss) (hr : Row w S 1 a n cap vs) (hS : ∀ b, F b → g ≠ some b → S b) : RdII w S a n cap xss := by
  refine ⟨⟨vs, hr, fun i xs hi => ?_⟩, by have := h.len; have := hr.len; omega⟩
  obtain ⟨b, c, h1, h2, h3, h4⟩ := h.each i xs hi
  exact ⟨b, c, h1, h2.rdI (fun q hq => hS q (h4 q hq).1 (h4 q hq).2) h3⟩

/-- '.slice a n cap' owns the lists xss: a block of its own for itself and for each list, all of F. -/
structure SepII (w : World) (F : Nat → Prop) (a : Option Addr) (n cap : Nat) (xss : List (List Int)) : Prop where
  own : ∃ vs, Own w 22 1 a n cap vs ∧ Inner w F (blk a) vs xss
  lo : ∀ g, blk a = some g → F g
theorem SepII.keep {w w' : World} {F T : Nat → Prop} {a : Option Addr} {n cap : Nat} {xss : List (List Int)} (h : SepII w F a n cap xss) (hk : Keep T w w') (hT : ∀ b, b < w.heap.size → F b → T b) : SepII w' F a n cap xss := by
  obtain ⟨⟨vs, h1, h2⟩, h3⟩ := h
  exact ⟨⟨vs, h1.keep hk (fun g hg hlt => hT g hlt (h3 g hg)), h2.keep hk (fun b hb hF _ => hT b hb hF)⟩, h3⟩
theorem SepII.grow {w w' : World} {F : Nat → Prop} {a : Option Addr} {n cap : Nat} {xss : List (List Int)} (h : SepII w F a n cap xss) (hk : Grow w w') : SepII w' F a n cap xss := h.keep hk fun _ _ _ => trivial
theorem SepII.weak {w : World} {F G : Nat → Prop} {a : Option Addr} {n cap : Nat} {xss : List (List Int)} (h : SepII w F a n cap xss) (hF : ∀ b, b < w.heap.size → F b → G b) : SepII w G a n cap xss := by
  obtain ⟨⟨vs, h1, h2⟩, h3⟩ := h
  exact ⟨⟨vs, h1, h2.weak fun b hb hFb hne => ⟨hF b hb hFb, hne⟩⟩, fun g hg => hF g (h1.lt hg) (h3 g hg)⟩
theorem SepII.rdII {w : World} {F S : Nat → Prop} {a : Option Addr} {n cap : Nat} {xss : List (List Int)} (h : SepII w F a n cap xss) (hS : ∀ b, F b → S b) : RdII w S a n cap xss := by
  obtain ⟨⟨vs, h1, h2⟩, h3⟩ := h
  exact h2.rdII (h1.row fun g hg => hS g (h3 g hg)) fun b hb _ => hS b hb
theorem SepII.len {w : World} {F : Nat → Prop} {a : Option Addr} {n cap : Nat} {xss : List (List Int)} (h : SepII w F a n cap xss) : xss.length = n := by
  obtain ⟨⟨vs, h1, h2⟩, h3⟩ := h
  have := h1.len; have := h2.len; omega

/-- The blocks that came between two worlds. -/
def New (w w' : World) (g : Nat) : Prop := w.heap.size ≤ g ∧ g < w'.heap.size

/-- How many numbers there are. -/
def total (xss : List (List Int)) : Nat := (xss.map List.length).sum
@[simp] theorem total_nil : total [] = 0 := rfl
@[simp] theorem total_cons (xs : List Int) (r : List (List Int)) : total (xs :: r) = xs.length + total r := by simp [total]
theorem total_append (l r : List (List Int)) : total (l ++ r) = total l + total r := by simp [total]
theorem total_take_succ {xss : List (List Int)} {k : Nat} {xs : List Int} (h : xss[k]? = some xs) : total (xss.take (k + 1)) = total (xss.take k) + xs.length := by
  rw [take_succ h, total_append]; simp
theorem total_take_le (xss : List (List Int)) (k : Nat) : total (xss.take k) ≤ total xss := by
  conv => rhs; rw [← List.take_append_drop k xss]
  rw [total_append]; omega
theorem total_at {xss : List (List Int)} {k : Nat} {xs : List Int} (h : xss[k]? = some xs) : total (xss.take k) + xs.length ≤ total xss := by
  rw [← total_take_succ h]; exact total_take_le _ _

/-- What is left of a measure; -1 for too much. -/
def szII (left : Int) : List (List Int) → Int
  | [] => left
  | xs :: r => if left < xs.length then -1 else szII (left - xs.length) r
def szII' (left : Int) (xss : List (List Int)) : Int := if left < xss.length then -1 else szII (left - xss.length) xss
theorem szII_ok {xss : List (List Int)} : ∀ {left : Int}, 0 ≤ szII left xss → szII left xss = left - total xss := by
  induction xss with
  | nil => intro left _; simp [szII]
  | cons xs r ih =>
    intro left h
    unfold szII at h ⊢
    by_cases hlt : left < xs.length
    · rw [if_pos hlt] at h; omega
    · rw [if_neg hlt] at h ⊢
      rw [ih h]; simp; omega
theorem szII'_ok {xss : List (List Int)} {left : Int} (h : 0 ≤ szII' left xss) : szII' left xss = left - xss.length - total xss ∧ (xss.length : Int) + total xss ≤ left := by
  unfold szII' at h ⊢
  by_cases hlt : left < xss.length
  · rw [if_pos hlt] at h; omega
  · rw [if_neg hlt] at h ⊢
    have := szII_ok h
    omega
theorem szII_drop {xss : List (List Int)} {k : Nat} {xs : List Int} (h : xss[k]? = some xs) (l : Int) : szII l (xss.drop k) = if l < xs.length then -1 else szII (l - xs.length) (xss.drop (k + 1)) := by
  obtain ⟨hk, rfl⟩ := List.getElem?_eq_some_iff.1 h
  rw [List.drop_eq_getElem_cons hk]; rfl

set_option maxHeartbeats 400000 in
theorem szIntSS_c {S : Nat → Prop} (a : Option Addr) (n cap : Nat) (xss : List (List Int)) (left : Int) (w : World) (h : RdII w S a n cap xss) (h0 : 0 ≤ left) (h1 : left ≤ 1048576) :
    Calls Try.prog 20 #[.slice a n cap, .int .i64 left] w fun e w' => e = .returned (.int .i64 (szII' left xss)) ∧ w = w' := by
  have hl := h.len
  have hmax : n ≤ 9223372036854775807 := by have h2 := h.row.choose_spec.1.max; have h3 := h.row.choose_spec.1.le; simp only [maxLen] at h2; omega
  by_cases hlt0 : left < n
  · go_enter Try.func20, Try.ntmps20
    go_wp2
    all_goals (go_ret; exact ⟨ret_int (by unfold szII'; rw [if_pos (by omega)]), rfl⟩)
  · skip
    go_enter Try.func20, Try.ntmps20
    go_wp2
    go_loop [1, 5] (fun q i => ∃ (k : Nat) (l : Int), k ≤ n ∧ i = .int .i64 k ∧ q = .int .i64 l ∧ 0 ≤ l ∧ l ≤ 1048576 ∧ szII l (xss.drop k) = szII' left xss) (fun _ i => n - (intOf i).toNat)
    case atStart => exact ⟨0, left - n, Nat.zero_le _, rfl, rfl, by omega, by omega, by unfold szII'; rw [if_neg (by omega), hl]; rfl⟩
    case round =>
      obtain ⟨k, l, hk, rfl, rfl, hl0, hl1, he⟩ := hrel
      have He := Lib.hid he; clear he
      by_cases hlt : k < n
      · obtain ⟨b, off, xs, a', c', rfl, hx, _, hbw, hc, hrd⟩ := h.at hlt
        have Hx := Lib.hid hx; clear hx
        by_cases hlt2 : l < xs.length
        · have hm : szI l xs.length = -1 := by unfold szI; rw [if_pos hlt2]
          have hxm : xs.length ≤ maxLen := Nat.le_trans hrd.row.le hrd.row.max
          go_wp2_with (go_at_call 33; refine (szIntS_c _ _ _ _ _ hxm (by omega) (by omega)).mono ?_; rintro e w' ⟨rfl, rfl⟩; rw [hm])
          go_ret
          exact ⟨ret_int (by rw [← He.out, szII_drop Hx.out, if_pos hlt2]), rfl⟩
        · have hm : szI l xs.length = l - xs.length := by unfold szI; rw [if_neg hlt2]
          have hxm : xs.length ≤ maxLen := Nat.le_trans hrd.row.le hrd.row.max
          go_wp2_with (go_at_call 33; refine (szIntS_c _ _ _ _ _ hxm (by omega) (by omega)).mono ?_; rintro e w' ⟨rfl, rfl⟩; rw [hm])
          go_round
          case rel => exact ⟨k + 1, l - xs.length, by omega, by go_num, rfl, by omega, by omega, by rw [← He.out, szII_drop Hx.out, if_neg (by omega)]⟩
          case measure => simp [intOf]; omega
      · go_wp2
        go_ret
        have : k = n := by omega
        subst this
        refine ⟨ret_int ?_, rfl⟩
        rw [← He.out, ← hl]; simp [szII]

set_option maxHeartbeats 400000 in
theorem toIntSS_c {S : Nat → Prop} (a : Option Addr) (n cap : Nat) (xss : List (List Int)) (w : World) (h : RdII w S a n cap xss) (hn : n ≤ 1048576) (ht : total xss ≤ 1048576) :
    Calls Try.prog 22 #[.slice a n cap] w fun e w' =>
      e = .returned (.slice (some ⟨w.heap.size, 0, none⟩) n n) ∧ SepII w' (New w w') (some ⟨w.heap.size, 0, none⟩) n n xss ∧ Grow w w' := by
  have hmk := T_intss.make (n := n) (by omega) (by unfold maxLen; omega)
  have hl := h.len
  go_enter Try.func22, Try.ntmps22
  go_wp2
  go_loopw [4] (fun i wr => ∃ (k : Nat) (vs : List Value), k ≤ n ∧ i = .int .i64 k ∧ Grow w wr ∧ vs.length = k ∧ w.heap.size < wr.heap.size ∧ Own wr 22 1 (some ⟨w.heap.size, 0, none⟩) n n (vs ++ List.replicate (n - k) (.slice none 0 0)) ∧ Inner wr (New w wr) (some w.heap.size) vs (xss.take k)) (fun i _ => n - (intOf i).toNat)
  case atStart =>
    refine ⟨0, [], Nat.zero_le _, rfl, (Grow.refl w).alloc _ _, rfl, by simp, ?_, Inner.nilw⟩
    have := Own.fresh (w := w) (e := 22) (sz := 1) (cs := madeCells #[.slice none 0 0] (n * 1)) (n := n) (by unfold maxLen; omega) (by simp [madeCells])
    simpa [toList_madeCells_one] using this
  case round =>
    obtain ⟨k, vs, hk, rfl, hG, hvl, hsz, hO, hI⟩ := hrel
    have Hvl := Lib.hid hvl; clear hvl
    by_cases hlt : k < n
    · obtain ⟨b, off, xs, a', c', rfl, hx, _, hbw, hc, hrd⟩ := (h.grow hG).at hlt
      have hxl : xs.length ≤ 1048576 := by have := total_at hx; omega
      have Hx := Lib.hid hx; clear hx
      go_wp2_with fail
      refine (toIntS_c _ _ _ xs _ hrd hxl).mono ?_
      rintro e w1 ⟨rfl, hO1, hG1⟩
      have hO' := hO.grow hG1
      have hI' := hI.grow hG1
      have hfr := hO'.free k
      have hce := hO'.cell (fill_at Hvl.out hlt)
      have hs1 : wr.heap.size < w1.heap.size := hO1.lt rfl
      simp only at hfr hce
      go_wp2
      go_roundw
      case rel =>
        have hK : Keep (fun q => q ≠ w.heap.size) w1 (w1.setCell ⟨w.heap.size, k, none⟩ (.slice (some ⟨wr.heap.size, 0, none⟩) xs.length xs.length)) := (Keep.refl _ _).setCell (fun _ e => e rfl) _
        refine ⟨k + 1, vs ++ [.slice (some ⟨wr.heap.size, 0, none⟩) xs.length xs.length], by omega, by go_num, (hG.trans hG1).setCell (Nat.le_refl _) _, by simp [Hvl.out], by simp; omega, ?_, ?_⟩
        · have := hO'.set k (.slice (some ⟨wr.heap.size, 0, none⟩) xs.length xs.length)
          rw [fill_set Hvl.out hlt] at this
          simpa using this
        · rw [take_succ Hx.out]
          have h1 := (hI'.weak (G := New w w1) (g' := some w.heap.size) fun b hb hF hne => ⟨⟨hF.1, by have := hF.2; omega⟩, hne⟩).snoc (b := some ⟨wr.heap.size, 0, none⟩) (c := xs.length) hO1 hrd.rng
            (fun q hq => by simp at hq; subst hq; exact ⟨⟨by omega, hs1⟩, by simp; omega⟩)
            (fun q hq v hv hvq => by simp at hq; subst hq; have := (hI.lt hv hvq).1; omega)
          exact (h1.keep hK (fun b _ _ hne e => hne (by rw [e]))).weak fun b hb hF hne => ⟨⟨hF.1, by simpa using hF.2⟩, hne⟩
      case measure => simp [intOf]; omega
    · go_wp2
      go_ret
      have : k = n := by omega
      subst this
      refine ⟨rfl, ⟨⟨vs, by simpa using hO, by rw [take_all hl] at hI; exact hI⟩, fun g hg => ?_⟩, hG⟩
      simp at hg; subst hg
      exact ⟨Nat.le_refl _, hsz⟩

theorem sameI_t {xs ys : List Int} (h : xs = ys) : sameI xs ys = true := by simp [sameI, h]

set_option maxHeartbeats 400000 in
theorem eqIntSS_t {S T : Nat → Prop} (a b : Option Addr) (n m cap cap' : Nat) (xss : List (List Int)) (w : World) (h : RdII w S a n cap xss) (h' : RdII w T b m cap' xss) (hn : n ≤ 2097152) (ht : total xss ≤ 2097152) :
    Calls Try.prog 24 #[.slice a n cap, .slice b m cap'] w fun e w' => e = .returned (.bool true) ∧ Qt w w' := by
  have hl := h.len
  have hl' := h'.len
  obtain rfl : n = m := by omega
  go_enter Try.func24, Try.ntmps24
  go_wp2
  go_loopw [5] (fun i wr => Qt w wr ∧ ∃ k : Nat, k ≤ n ∧ i = .int .i64 k) (fun i _ => n - (intOf i).toNat)
  case atStart => exact ⟨Qt.refl _, 0, Nat.zero_le _, rfl⟩
  case round =>
    obtain ⟨hG, k, hk, rfl⟩ := hrel
    by_cases hlt : k < n
    · obtain ⟨b1, off1, xs, a1, c1, rfl, hx, _, hbw, hc, hrd⟩ := (h.grow hG.grow).at hlt
      obtain ⟨b2, off2, ys, a2, c2, rfl, hy, _, hbw2, hc2, hrd2⟩ := (h'.grow hG.grow).at hlt
      obtain rfl : xs = ys := Option.some.inj (hx.symm.trans hy)
      clear hy
      have hxl : xs.length ≤ 2097152 := by have := total_at hx; omega
      have Hx := Lib.hid hx; clear hx
      have hs : sameI xs xs = true := sameI_self xs
      go_wp2
      go_quiet ((go_at_call 19; exact Calls.quiet_qt (eqIntS_c _ _ _ _ _ _ xs xs _ (hrd.grow ((Grow.refl _).drewN _)) (hrd2.grow ((Grow.refl _).drewN _)) hxl)))
      go_wp2
      go_roundw
      case rel => exact ⟨hG.drewN _, k + 1, by omega, by go_num⟩
      case measure => simp [intOf]; omega
    · go_wp2
      go_ret
      exact ⟨rfl, hG⟩

/-- The numbers from k on, laid out as the lists xss. -/
def markII : List (List Int) → Nat → List (List Int)
  | [], _ => []
  | xs :: r, k => markI xs.length k :: markII r (k + xs.length)
@[simp] theorem markII_len : ∀ (xss : List (List Int)) (k : Nat), (markII xss k).length = xss.length
  | [], _ => rfl
  | xs :: r, k => by simp [markII, markII_len r]
@[simp] theorem markII_total : ∀ (xss : List (List Int)) (k : Nat), total (markII xss k) = total xss
  | [], _ => rfl
  | xs :: r, k => by simp [markII, markII_total r]
theorem markII_at : ∀ {xss : List (List Int)} {j : Nat} {xs : List Int} (k : Nat), xss[j]? = some xs → (markII xss k)[j]? = some (markI xs.length (k + total (xss.take j)))
  | [], j, xs, k, h => by simp at h
  | ys :: r, 0, xs, k, h => by simp at h; subst h; simp [markII]
  | ys :: r, j + 1, xs, k, h => by
    simp at h
    simp only [markII, List.getElem?_cons_succ, List.take_succ_cons, total_cons]
    rw [markII_at (k + ys.length) h, Nat.add_assoc]

theorem Inner.put {w w' : World} {F : Nat → Prop} {g : Option Nat} {vs : List Value} {xss : List (List Int)} (h : Inner w F g vs xss) {j : Nat} {b : Option Addr} {c : Nat} {xs ys : List Int} (hv : vs[j]? = some (Value.slice b xs.length c)) (hx : xss[j]? = some xs) (hlen : ys.length = xs.length)
    (ho : Own w' 3 1 b xs.length c (ints ys)) (hr : ∀ x ∈ ys, I64 x) (hk : Keep (fun q => blk b ≠ some q) w w') : Inner w' F g vs (xss.set j ys) := by
  have hjx := (List.getElem?_eq_some_iff.1 hx).1
  refine ⟨by simp [h.len], fun i zs hi => ?_, h.apart⟩
  by_cases hij : j = i
  · subst hij
    rw [List.getElem?_set_self hjx] at hi
    obtain rfl := Option.some.inj hi
    obtain ⟨b', c', h1, h2, h3, h4⟩ := h.each j xs hx
    rw [hv] at h1
    simp only [Option.some.injEq, Value.slice.injEq] at h1
    obtain ⟨rfl, _, rfl⟩ := h1
    exact ⟨b, c, by rw [hlen]; exact hv, by rw [hlen]; exact ho, hr, h4⟩
  · rw [List.getElem?_set_ne hij] at hi
    obtain ⟨b', c', h1, h2, h3, h4⟩ := h.each i zs hi
    refine ⟨b', c', h1, h2.keep hk (fun q hq _ e => ?_), h3, h4⟩
    obtain ⟨hi1, hi2⟩ := List.getElem?_eq_some_iff.1 h1
    obtain ⟨hj1, hj2⟩ := List.getElem?_eq_some_iff.1 hv
    have e1 : (vs[i]).ownBlock = some q := by rw [hi2, ownBlock_slice]; exact hq
    have e2 : (vs[j]).ownBlock = some q := by rw [hj2, ownBlock_slice]; exact e
    rcases Nat.lt_or_gt_of_ne hij with hlt | hlt
    · exact List.pairwise_iff_getElem.1 h.apart j i hj1 hi1 hlt q e2 e1
    · exact List.pairwise_iff_getElem.1 h.apart i j hi1 hj1 hlt q e1 e2

set_option maxHeartbeats 400000 in
theorem markIntSS_c {F : Nat → Prop} (a : Option Addr) (n cap k : Nat) (xss : List (List Int)) (w : World) (h : SepII w F a n cap xss) (hn : n + total xss + k ≤ 4294967296) :
    Calls Try.prog 25 #[.slice a n cap, .int .i64 k] w fun e w' =>
      e = .returned (.int .i64 ((k + total xss : Nat) : Int)) ∧ SepII w' F a n cap (markII xss k) ∧ Keep (fun g => ¬ F g) w w' := by
  have hl := h.len
  obtain ⟨⟨vs, hO, hI⟩, hlo⟩ := h
  go_enter Try.func25, Try.ntmps25
  go_wp2
  go_loopw [1, 5] (fun q i wr => ∃ j : Nat, j ≤ n ∧ i = .int .i64 j ∧ q = .int .i64 ((k + total (xss.take j) : Nat) : Int) ∧ Own wr 22 1 a n cap vs ∧ Inner wr F (blk a) vs ((markII xss k).take j ++ xss.drop j) ∧ Keep (fun g => ¬ F g) w wr) (fun _ i _ => n - (intOf i).toNat)
  case atStart => exact ⟨0, Nat.zero_le _, rfl, rfl, hO, by simpa using hI, Keep.refl _ _⟩
  case round =>
    obtain ⟨j, hj, rfl, rfl, hO, hI, hK⟩ := hrel
    by_cases hlt : j < n
    · obtain ⟨xs, hx⟩ : ∃ xs, xss[j]? = some xs := ⟨_, List.getElem?_eq_getElem (by omega)⟩
      have hcur := take_drop_at (l := markII xss k) (i := j) (by simp; omega) hx
      obtain ⟨b, c, hv, hOb, hrb, hFb⟩ := hI.each j xs hcur
      have htot := total_at hx
      have hset := take_drop_set (markII_at k hx) hx
      have hts := total_take_succ hx
      cases a with
      | none => have := hO.nil rfl; have := hO.le; omega
      | some p =>
        have hp := (hO.block p rfl).1
        have hcell := hO.cell hv
        obtain ⟨pb, po, ps⟩ := p
        simp only [Addr.mk.injEq, true_and] at hp
        obtain ⟨rfl, rfl⟩ := hp
        simp only at hcell
        have Hset := Lib.hid hset; clear hset
        have Hts := Lib.hid hts; clear hts
        have Hx := Lib.hid hx; clear hx
        have Hcur := Lib.hid hcur; clear hcur
        have Hv := Lib.hid hv; clear hv
        go_wp2_with fail
        refine (markIntS_c _ _ _ _ xs _ hOb (by omega)).mono ?_
        rintro e w1 ⟨rfl, hO1, hK1⟩
        go_wp2
        go_roundw
        case rel =>
          refine ⟨j + 1, by omega, by go_num, by rw [Hts.out]; go_num, hO.keep hK1 (fun q hq _ e => (hFb q e).2 hq), ?_, hK.trans (hK1.mono fun q _ hq e => hq (hFb q e).1)⟩
          have := hI.put Hv.out Hcur.out (by simp) hO1 (markI_rng (by omega)) hK1
          rwa [Hset.out] at this
        case measure => simp [intOf]; omega
    · go_wp2
      go_ret
      have : j = n := by omega
      subst this
      refine ⟨ret_int (by rw [take_all hl]), ⟨⟨vs, hO, ?_⟩, hlo⟩, hK⟩
      have hd : xss.drop j = [] := by rw [← hl]; simp
      rw [hd, List.append_nil, take_all (by simp [hl])] at hI
      exact hI

end Go.Proofs.Ytodemejfbekjgaa

namespace Go.Proofs.Ytodemejfbekjgaa
open Go.RowKit

/-! ### []int -/
def VI (w : World) (S : Nat → Prop) (v : Value) (xs : List Int) : Prop := ∃ a n c, v = .slice a n c ∧ RdI w S a n c xs
def OI (w : World) (F : Nat → Prop) (v : Value) (xs : List Int) : Prop := ∃ a n c, v = .slice a n c ∧ Own w 3 1 a n c (ints xs) ∧ (∀ x ∈ xs, I64 x) ∧ ∀ g, blk a = some g → F g
def bdI (xs : List Int) : Nat := xs.length
def cntI (xs : List Int) : Nat := xs.length
theorem VI.keep {S T : Nat → Prop} {w w' : World} {v : Value} {xs : List Int} (h : VI w S v xs) (hk : Keep T w w') (hST : ∀ b, b < w.heap.size → S b → T b) : VI w' S v xs := by
  obtain ⟨a, n, c, rfl, h⟩ := h; exact ⟨a, n, c, rfl, h.keep hk hST⟩
theorem VI.grow {S : Nat → Prop} {w w' : World} {v : Value} {xs : List Int} (h : VI w S v xs) (hk : Grow w w') : VI w' S v xs := h.keep hk fun _ _ _ => trivial
theorem VI.weak {S T : Nat → Prop} {w : World} {v : Value} {xs : List Int} (h : VI w S v xs) (hST : ∀ b, b < w.heap.size → S b → T b) : VI w T v xs := by
  obtain ⟨a, n, c, rfl, h⟩ := h; exact ⟨a, n, c, rfl, h.weak hST⟩
theorem OI.keep {F T : Nat → Prop} {w w' : World} {v : Value} {xs : List Int} (h : OI w F v xs) (hk : Keep T w w') (hT : ∀ b, b < w.heap.size → F b → T b) : OI w' F v xs := by
  obtain ⟨a, n, c, rfl, h1, h2, h3⟩ := h; exact ⟨a, n, c, rfl, h1.keep hk (fun g hg hlt => hT g hlt (h3 g hg)), h2, h3⟩
theorem OI.grow {F : Nat → Prop} {w w' : World} {v : Value} {xs : List Int} (h : OI w F v xs) (hk : Grow w w') : OI w' F v xs := h.keep hk fun _ _ _ => trivial
theorem OI.weak {F G : Nat → Prop} {w : World} {v : Value} {xs : List Int} (h : OI w F v xs) (hF : ∀ b, b < w.heap.size → F b → G b) : OI w G v xs := by
  obtain ⟨a, n, c, rfl, h1, h2, h3⟩ := h; exact ⟨a, n, c, rfl, h1, h2, fun g hg => hF g (h1.lt hg) (h3 g hg)⟩
theorem OI.rd {F S : Nat → Prop} {w : World} {v : Value} {xs : List Int} (h : OI w F v xs) (hS : ∀ b, F b → S b) : VI w S v xs := by
  obtain ⟨a, n, c, rfl, h1, h2, h3⟩ := h; exact ⟨a, n, c, rfl, h1.rdI (fun g hg => hS g (h3 g hg)) h2⟩
theorem to_I {S : Nat → Prop} {v : Value} {xs : List Int} {w : World} (h : VI w S v xs) (hb : bdI xs ≤ 1048576) : Calls Try.prog 17 #[v] w fun e w' => ∃ v', e = .returned v' ∧ OI w' (New w w') v' xs ∧ Grow w w' := by
  obtain ⟨a, n, c, rfl, h⟩ := h
  have hl := h.len
  refine (toIntS_c a n c xs w h (by unfold bdI at hb; omega)).mono ?_
  rintro e w' ⟨rfl, hO, hG⟩
  exact ⟨_, rfl, ⟨_, _, _, rfl, hO, h.rng, fun g hg => by have := hO.lt hg; simp at hg; subst hg; exact ⟨Nat.le_refl _, this⟩⟩, hG⟩
theorem eq_I {S T : Nat → Prop} {u v : Value} {xs : List Int} {w : World} (h : VI w S u xs) (h' : VI w T v xs) (hb : bdI xs ≤ 2097152) : Calls Try.prog 19 #[u, v] w fun e w' => e = .returned (.bool true) ∧ Grow w w' := by
  obtain ⟨a, n, c, rfl, h⟩ := h
  obtain ⟨a', n', c', rfl, h'⟩ := h'
  have hl := h.len
  refine (eqIntS_c a a' n n' c c' xs xs w h h' (by unfold bdI at hb; omega)).mono ?_
  rintro e w' ⟨rfl, hQ⟩
  exact ⟨by rw [sameI_self], hQ.grow⟩
def mkI (xs : List Int) (k : Nat) : List Int := markI xs.length k
theorem mark_I {F : Nat → Prop} {v : Value} {xs : List Int} {w : World} (k : Nat) (h : OI w F v xs) (hb : bdI xs + k ≤ 4294967296) : Calls Try.prog 26 #[v, .int .i64 k] w fun e w' =>
    e = .returned (.int .i64 ((k + cntI xs : Nat) : Int)) ∧ OI w' F v (mkI xs k) ∧ Keep (fun g => ¬ F g) w w' := by
  obtain ⟨a, n, c, rfl, h1, h2, h3⟩ := h
  have hl : xs.length = n := by simpa using h1.len
  subst hl
  refine (markIntS_c a _ c k xs w h1 hb).mono ?_
  rintro e w' ⟨rfl, hO, hK⟩
  exact ⟨rfl, ⟨_, _, _, rfl, hO, markI_rng hb, h3⟩, hK.mono fun q _ hq e => hq (h3 q e)⟩
theorem held_I {S : Nat → Prop} {v : Value} {xs : List Int} {w : World} (k : Nat) (h : VI w S v (mkI xs k)) (hb : bdI xs + k ≤ 4294967296) : Calls Try.prog 27 #[v, .int .i64 k] w fun e w' =>
    e = .returned (.int .i64 ((k + cntI xs : Nat) : Int)) ∧ Grow w w' := by
  obtain ⟨a, n, c, rfl, h⟩ := h
  have hl : xs.length = n := by simpa [mkI] using h.len
  subst hl
  refine (heldIntS_c a _ c k w h hb).mono ?_
  rintro e w' ⟨rfl, rfl⟩
  exact ⟨rfl, Grow.refl _⟩

/-! ### [][]int -/
def VII (w : World) (S : Nat → Prop) (v : Value) (l : List (List Int)) : Prop := ∃ a n c, v = .slice a n c ∧ RdII w S a n c l
def OII (w : World) (F : Nat → Prop) (v : Value) (l : List (List Int)) : Prop := ∃ a n c, v = .slice a n c ∧ SepII w F a n c l
def bdII (l : List (List Int)) : Nat := l.length + total l
def cntII (l : List (List Int)) : Nat := total l
theorem VII.keep {S T : Nat → Prop} {w w' : World} {v : Value} {l : List (List Int)} (h : VII w S v l) (hk : Keep T w w') (hST : ∀ b, b < w.heap.size → S b → T b) : VII w' S v l := by
  obtain ⟨a, n, c, rfl, h⟩ := h; exact ⟨a, n, c, rfl, h.keep hk hST⟩
theorem VII.grow {S : Nat → Prop} {w w' : World} {v : Value} {l : List (List Int)} (h : VII w S v l) (hk : Grow w w') : VII w' S v l := h.keep hk fun _ _ _ => trivial
theorem VII.weak {S T : Nat → Prop} {w : World} {v : Value} {l : List (List Int)} (h : VII w S v l) (hST : ∀ b, b < w.heap.size → S b → T b) : VII w T v l := by
  obtain ⟨a, n, c, rfl, h⟩ := h; exact ⟨a, n, c, rfl, h.weak hST⟩
theorem OII.keep {F T : Nat → Prop} {w w' : World} {v : Value} {l : List (List Int)} (h : OII w F v l) (hk : Keep T w w') (hT : ∀ b, b < w.heap.size → F b → T b) : OII w' F v l := by
  obtain ⟨a, n, c, rfl, h⟩ := h; exact ⟨a, n, c, rfl, h.keep hk hT⟩
theorem OII.grow {F : Nat → Prop} {w w' : World} {v : Value} {l : List (List Int)} (h : OII w F v l) (hk : Grow w w') : OII w' F v l := h.keep hk fun _ _ _ => trivial
theorem OII.weak {F G : Nat → Prop} {w : World} {v : Value} {l : List (List Int)} (h : OII w F v l) (hF : ∀ b, b < w.heap.size → F b → G b) : OII w G v l := by
  obtain ⟨a, n, c, rfl, h⟩ := h; exact ⟨a, n, c, rfl, h.weak hF⟩
theorem OII.rd {F S : Nat → Prop} {w : World} {v : Value} {l : List (List Int)} (h : OII w F v l) (hS : ∀ b, F b → S b) : VII w S v l := by
  obtain ⟨a, n, c, rfl, h⟩ := h; exact ⟨a, n, c, rfl, h.rdII hS⟩
theorem sz_II {S : Nat → Prop} {v : Value} {l : List (List Int)} {w : World} {left : Int} (h : VII w S v l) (h0 : 0 ≤ left) (h1 : left ≤ 1048576) : Calls Try.prog 20 #[v, .int .i64 left] w fun e w' => e = .returned (.int .i64 (szII' left l)) ∧ w = w' := by
  obtain ⟨a, n, c, rfl, h⟩ := h
  exact szIntSS_c a n c l left w h h0 h1
theorem sz_II_ok {l : List (List Int)} {left : Int} (h : 0 ≤ szII' left l) : szII' left l = left - bdII l := by
  have := szII'_ok h; unfold bdII; omega
theorem to_II {S : Nat → Prop} {v : Value} {l : List (List Int)} {w : World} (h : VII w S v l) (hb : bdII l ≤ 1048576) : Calls Try.prog 22 #[v] w fun e w' => ∃ v', e = .returned v' ∧ OII w' (New w w') v' l ∧ Grow w w' := by
  obtain ⟨a, n, c, rfl, h⟩ := h
  have hl := h.len
  unfold bdII at hb
  refine (toIntSS_c a n c l w h (by omega) (by omega)).mono ?_
  rintro e w' ⟨rfl, hO, hG⟩
  exact ⟨_, rfl, ⟨_, _, _, rfl, hO⟩, hG⟩
theorem eq_II {S T : Nat → Prop} {u v : Value} {l : List (List Int)} {w : World} (h : VII w S u l) (h' : VII w T v l) (hb : bdII l ≤ 2097152) : Calls Try.prog 24 #[u, v] w fun e w' => e = .returned (.bool true) ∧ Grow w w' := by
  obtain ⟨a, n, c, rfl, h⟩ := h
  obtain ⟨a', n', c', rfl, h'⟩ := h'
  have hl := h.len
  unfold bdII at hb
  refine (eqIntSS_t a a' n n' c c' l w h h' (by omega) (by omega)).mono ?_
  rintro e w' ⟨rfl, hQ⟩
  exact ⟨rfl, hQ.grow⟩
def mkII (l : List (List Int)) (k : Nat) : List (List Int) := markII l k
theorem mark_II {F : Nat → Prop} {v : Value} {l : List (List Int)} {w : World} (k : Nat) (h : OII w F v l) (hb : bdII l + k ≤ 4294967296) : Calls Try.prog 25 #[v, .int .i64 k] w fun e w' =>
    e = .returned (.int .i64 ((k + cntII l : Nat) : Int)) ∧ OII w' F v (mkII l k) ∧ Keep (fun g => ¬ F g) w w' := by
  obtain ⟨a, n, c, rfl, h⟩ := h
  have hl := h.len
  unfold bdII at hb
  refine (markIntSS_c a n c k l w h (by omega)).mono ?_
  rintro e w' ⟨rfl, hO, hK⟩
  exact ⟨rfl, ⟨_, _, _, rfl, hO⟩, hK⟩
end Go.Proofs.Ytodemejfbekjgaa

namespace Go.Proofs.Ytodemejfbekjgaa
open Go.RowKit

structure Mat where
  rows : Int
  cols : Int
  cells : List Int

def VM (w : World) (S : Nat → Prop) (v : Value) (m : Mat) : Prop := ∃ a n c, v = .agg #[.int .i64 m.rows, .int .i64 m.cols, .slice a n c] ∧ RdI w S a n c m.cells ∧ I64 m.rows ∧ I64 m.cols
def OM (w : World) (F : Nat → Prop) (v : Value) (m : Mat) : Prop := ∃ a n c, v = .agg #[.int .i64 m.rows, .int .i64 m.cols, .slice a n c] ∧ Own w 3 1 a n c (ints m.cells) ∧ (∀ x ∈ m.cells, I64 x) ∧ (∀ g, blk a = some g → F g) ∧ I64 m.rows ∧ I64 m.cols
def bdM (m : Mat) : Nat := m.cells.length
def cntM (m : Mat) : Nat := m.cells.length
theorem VM.keep {S T : Nat → Prop} {w w' : World} {v : Value} {m : Mat} (h : VM w S v m) (hk : Keep T w w') (hST : ∀ b, b < w.heap.size → S b → T b) : VM w' S v m := by
  obtain ⟨a, n, c, rfl, h, hr, hc⟩ := h; exact ⟨a, n, c, rfl, h.keep hk hST, hr, hc⟩
theorem VM.grow {S : Nat → Prop} {w w' : World} {v : Value} {m : Mat} (h : VM w S v m) (hk : Grow w w') : VM w' S v m := h.keep hk fun _ _ _ => trivial
theorem VM.weak {S T : Nat → Prop} {w : World} {v : Value} {m : Mat} (h : VM w S v m) (hST : ∀ b, b < w.heap.size → S b → T b) : VM w T v m := by
  obtain ⟨a, n, c, rfl, h, hr, hc⟩ := h; exact ⟨a, n, c, rfl, h.weak hST, hr, hc⟩
theorem OM.keep {F T : Nat → Prop} {w w' : World} {v : Value} {m : Mat} (h : OM w F v m) (hk : Keep T w w') (hT : ∀ b, b < w.heap.size → F b → T b) : OM w' F v m := by
  obtain ⟨a, n, c, rfl, h1, h2, h3, hr, hc⟩ := h; exact ⟨a, n, c, rfl, h1.keep hk (fun g hg hlt => hT g hlt (h3 g hg)), h2, h3, hr, hc⟩
theorem OM.grow {F : Nat → Prop} {w w' : World} {v : Value} {m : Mat} (h : OM w F v m) (hk : Grow w w') : OM w' F v m := h.keep hk fun _ _ _ => trivial
theorem OM.weak {F G : Nat → Prop} {w : World} {v : Value} {m : Mat} (h : OM w F v m) (hF : ∀ b, b < w.heap.size → F b → G b) : OM w G v m := by
  obtain ⟨a, n, c, rfl, h1, h2, h3, hr, hc⟩ := h; exact ⟨a, n, c, rfl, h1, h2, fun g hg => hF g (h1.lt hg) (h3 g hg), hr, hc⟩
theorem OM.rd {F S : Nat → Prop} {w : World} {v : Value} {m : Mat} (h : OM w F v m) (hS : ∀ b, F b → S b) : VM w S v m := by
  obtain ⟨a, n, c, rfl, h1, h2, h3, hr, hc⟩ := h; exact ⟨a, n, c, rfl, h1.rdI (fun g hg => hS g (h3 g hg)) h2, hr, hc⟩

set_option maxHeartbeats 1000000 in
theorem eq_M {S T : Nat → Prop} {u v : Value} {m : Mat} {w : World} (h : VM w S u m) (h' : VM w T v m) (hb : bdM m ≤ 2097152) : Calls Try.prog 13 #[u, v] w fun e w' => e = .returned (.bool true) ∧ Grow w w' := by
  obtain ⟨a, n, c, rfl, h, _, _⟩ := h
  obtain ⟨a', n', c', rfl, h', _, _⟩ := h'
  have hl := h.len
  have hl' := h'.len
  unfold bdM at hb
  have e1 : (m.rows == m.rows) = true := by simp
  have e2 : (m.cols == m.cols) = true := by simp
  have e3 : sameI m.cells m.cells = true := sameI_self _
  have hG : Grow w ((w.alloc (.cells #[.int .i64 m.rows, .int .i64 m.cols, .slice a n c] 27)).alloc (.cells #[.int .i64 m.rows, .int .i64 m.cols, .slice a' n' c'] 27)) := ((Grow.refl w).alloc _ _).alloc _ _
  go_enter Try.func13, Try.ntmps13
  go_wp2_with fail
  refine (eqIntS_c _ _ _ _ _ _ m.cells m.cells _ (h.grow hG) (h'.grow hG) (by omega)).mono ?_
  rintro e w' ⟨rfl, hQ⟩
  go_wp2
  go_ret
  exact ⟨rfl, hG.trans hQ.grow⟩
def mkM (m : Mat) (k : Nat) : Mat := { m with cells := markI m.cells.length k }
set_option maxHeartbeats 1000000 in
theorem mark_M {F : Nat → Prop} {v : Value} {m : Mat} {w : World} (k : Nat) (h : OM w F v m) (hb : bdM m + k ≤ 4294967296) : Calls Try.prog 30 #[v, .int .i64 k] w fun e w' =>
    e = .returned (.int .i64 ((k + cntM m : Nat) : Int)) ∧ OM w' F v (mkM m k) ∧ Keep (fun g => ¬ F g) w w' := by
  obtain ⟨a, n, c, rfl, h1, h2, h3, hr, hc⟩ := h
  unfold bdM at hb
  have hl : m.cells.length = n := by simpa using h1.len
  subst hl
  have hG : Grow w (w.alloc (.cells #[.int .i64 m.rows, .int .i64 m.cols, .slice a m.cells.length c] 27)) := (Grow.refl w).alloc _ _
  go_enter Try.func30, Try.ntmps30
  go_wp2_with fail
  refine (markIntS_c a _ c k m.cells _ (h1.grow hG) hb).mono ?_
  rintro e w' ⟨rfl, hO, hK⟩
  go_wp2
  go_ret
  refine ⟨rfl, ⟨a, _, c, rfl, hO, markI_rng hb, h3, hr, hc⟩, ?_⟩
  exact (hG.any (S := fun g => ¬ F g)).trans (hK.mono fun q _ hq e => hq (h3 q e))
end Go.Proofs.Ytodemejfbekjgaa

namespace Go.Proofs.Ytodemejfbekjgaa
open Go.RowKit

/-- A load of a struct of three cells, in a region that draws. -/
theorem quiet_load3 {P : Program} {C : World → Prop} {o : Oper} {a : Act} {K : Act → Prop} {ty : TypeId} {x : Operand} {g : Nat} {u v z : Value} {t : TypeId} (hty : StT P ty 3) (ho : o.op = .load ty x) (hx : a.eval x = .pointer (some ⟨g, 0, none⟩))
    (hv : ∀ w', C w' → Blk w' g #[u, v, z] t) (hk : K (a.put o.dst (.agg #[u, v, z]))) : o.quiet P a C K := quiet_loadS (cs := #[u, v, z]) hty ho hx hv hk
theorem idx_lt {i c n f : Nat} (hi : i < n) (hf : f < c) : i * c + f < n * c := by
  have : (i + 1) * c ≤ n * c := Nat.mul_le_mul_right _ hi
  rw [Nat.add_mul] at this; omega
theorem ints_set (l : List Int) (i : Nat) (v : Int) : ints (l.set i v) = (ints l).set i (.int .i64 v) := by simp [ints, List.map_set]
theorem madeCells_ints (n : Nat) : (madeCells #[Value.int .i64 0] (n * 1)).toList = ints (List.replicate n 0) := by
  rw [Nat.mul_one, toList_madeCells_one]; simp [ints]
theorem zeros_rng {n : Nat} : ∀ x ∈ List.replicate n (0 : Int), I64 x := by
  intro x hx
  have := List.eq_of_mem_replicate hx
  subst this; unfold I64; omega

set_option maxHeartbeats 1000000 in
theorem l3New_c (r c : Nat) (w : World) (hr : r ≤ 1048576) (hc : c ≤ 1048576) :
    Calls Try.prog 96 #[.int .i64 r, .int .i64 c] w fun e w' => ∃ a, e = .returned (.agg #[.int .i64 r, .int .i64 c, .slice a (r * c) (r * c)]) ∧ Own w' 3 1 a (r * c) (r * c) (ints (List.replicate (r * c) 0)) ∧ (∀ g, blk a = some g → w.heap.size ≤ g) ∧ Grow w w' := by
  have hrc : r * c ≤ 1048576 * 1048576 := Nat.mul_le_mul hr hc
  have hmk := T_ints.make (n := r * c) (by omega) (by unfold maxLen; omega)
  have hmul : ((r : Int) * (c : Int)) = ((r * c : Nat) : Int) := by simp
  have hmk2 : ∀ u : World, (Instr.makeSlice 22 (.int .i64 ((r : Int) * c)) (.int .i64 ((r : Int) * c))).run Try.prog u = .ok (.slice (some ⟨u.heap.size, 0, none⟩) (r * c) (r * c)) (u.alloc (.cells (madeCells #[.int .i64 0] (r * c * 1)) 3)) := fun u => by rw [hmul]; exact hmk u
  have hw : IntKind.i64.wrap ((r : Int) * c) = (r : Int) * c := IntWalk.i64_in _ (by rw [hmul]; omega)
  clear hmk hmul
  go_enter Try.func96, Try.ntmps96
  go_wp2
  have hB := (Blk.newAt w #[.int .i64 (r : Int), .int .i64 (c : Int), .slice (some ⟨w.heap.size + 1, 0, none⟩) (r * c) (r * c)] 27 rfl).alloc (.cells (madeCells #[.int .i64 0] (r * c)) 3)
  have hO := Own.freshAt (w := w.alloc (.cells #[.int .i64 (r : Int), .int .i64 (c : Int), .slice (some ⟨w.heap.size + 1, 0, none⟩) (r * c) (r * c)] 27)) (e := 3) (sz := 1) (cs := madeCells #[.int .i64 0] (r * c)) (n := r * c) (g := w.heap.size + 1) (by simp) (by unfold maxLen; omega) (by simp [madeCells])
  rw [toList_madeCells_one] at hO
  refine ret_cell T_mat rfl rfl rfl hB ⟨_, rfl, by simpa [ints] using hO, fun g hg => by simp at hg; omega, ((Grow.refl w).alloc _ _).alloc _ _⟩

set_option maxHeartbeats 1000000 in
theorem newMatrix_c (r c : Nat) (w : World) (hr : r ≤ 1048576) (hc : c ≤ 1048576) :
    Calls Try.prog 68 #[.int .i64 r, .int .i64 c] w fun e w' => ∃ a, e = .returned (.agg #[.int .i64 r, .int .i64 c, .slice a (r * c) (r * c)]) ∧ Own w' 3 1 a (r * c) (r * c) (ints (List.replicate (r * c) 0)) ∧ (∀ g, blk a = some g → w.heap.size ≤ g) ∧ Grow w w' := by
  have hrc : r * c ≤ 1048576 * 1048576 := Nat.mul_le_mul hr hc
  have hmk := T_ints.make (n := r * c) (by omega) (by unfold maxLen; omega)
  have hmul : ((r : Int) * (c : Int)) = ((r * c : Nat) : Int) := by simp
  have hmk2 : ∀ u : World, (Instr.makeSlice 22 (.int .i64 ((r : Int) * c)) (.int .i64 ((r : Int) * c))).run Try.prog u = .ok (.slice (some ⟨u.heap.size, 0, none⟩) (r * c) (r * c)) (u.alloc (.cells (madeCells #[.int .i64 0] (r * c * 1)) 3)) := fun u => by rw [hmul]; exact hmk u
  have hw : IntKind.i64.wrap ((r : Int) * c) = (r : Int) * c := IntWalk.i64_in _ (by rw [hmul]; omega)
  clear hmk hmul
  go_enter Try.func68, Try.ntmps68
  go_wp2
  have hB := (Blk.newAt w #[.int .i64 (r : Int), .int .i64 (c : Int), .slice (some ⟨w.heap.size + 1, 0, none⟩) (r * c) (r * c)] 27 rfl).alloc (.cells (madeCells #[.int .i64 0] (r * c)) 3)
  have hO := Own.freshAt (w := w.alloc (.cells #[.int .i64 (r : Int), .int .i64 (c : Int), .slice (some ⟨w.heap.size + 1, 0, none⟩) (r * c) (r * c)] 27)) (e := 3) (sz := 1) (cs := madeCells #[.int .i64 0] (r * c)) (n := r * c) (g := w.heap.size + 1) (by simp) (by unfold maxLen; omega) (by simp [madeCells])
  rw [toList_madeCells_one] at hO
  refine ret_cell T_mat rfl rfl rfl hB ⟨_, rfl, by simpa [ints] using hO, fun g hg => by simp at hg; omega, ((Grow.refl w).alloc _ _).alloc _ _⟩

set_option maxHeartbeats 1000000 in
theorem set_c (a : Option Addr) (n cp C i j idx : Nat) (R v : Int) (cells : List Int) (w : World) (h : Own w 3 1 a n cp (ints cells)) (hidx : idx = i * C + j) (hlt : idx < n) (hn : n ≤ 1048576) (hi : i ≤ 1048576) (hC : C ≤ 1048576) (_hj : j ≤ 1048576) :
    Calls Try.prog 70 #[.agg #[.int .i64 R, .int .i64 C, .slice a n cp], .int .i64 i, .int .i64 j, .int .i64 v] w fun e w' =>
      e = .returned (.tuple #[]) ∧ Own w' 3 1 a n cp (ints (cells.set idx v)) ∧ Keep (fun g => blk a ≠ some g) w w' := by
  have hl : cells.length = n := by simpa using h.len
  have hiC : i * C ≤ 1048576 * 1048576 := Nat.mul_le_mul hi hC
  cases a with
  | none => have := h.nil rfl; have := h.le; omega
  | some p =>
    have hp := (h.block p rfl).1
    obtain ⟨pb, po, ps⟩ := p
    simp only [Addr.mk.injEq, true_and] at hp
    obtain ⟨rfl, rfl⟩ := hp
    have hlt' := h.lt rfl
    have h1 := h.grow ((Grow.refl w).alloc #[.int .i64 R, .int .i64 (C : Int), .slice (some ⟨pb, 0, none⟩) n cp] 27)
    obtain ⟨c0, hc0⟩ : ∃ c0, (ints cells)[idx]? = some c0 := ⟨_, List.getElem?_eq_getElem (by simp; omega)⟩
    have hce := h1.cell hc0
    clear hc0
    have hfr := h1.free idx
    simp only at hce hfr hlt'
    have hw1 : IntKind.i64.wrap ((i : Int) * C) = (i : Int) * C := by
      have : ((i : Int) * C) = ((i * C : Nat) : Int) := by simp
      rw [this]; exact IntWalk.i64_in _ (by omega)
    have hsum : ((i : Int) * C + j) = ((idx : Nat) : Int) := by rw [hidx]; simp
    have hw2 : IntKind.i64.wrap ((i : Int) * C + j) = (idx : Int) := by rw [hsum]; exact IntWalk.i64_in _ (by omega)
    clear hsum hidx
    go_enter Try.func70, Try.ntmps70
    go_wp2
    exact bodyPost_end (results_none rfl _ _ _) rfl ⟨rfl, by rw [ints_set]; exact (h.set idx (.int .i64 v)).grow ((Grow.refl _).alloc _ _), ((Keep.refl (fun g => blk (some (⟨pb, 0, none⟩ : Addr)) ≠ some g) w).setCell (p := ⟨pb, idx, none⟩) (fun _ e => e rfl) _).alloc _ _⟩
end Go.Proofs.Ytodemejfbekjgaa

namespace Go.Proofs.Ytodemejfbekjgaa
open Go.RowKit

set_option maxHeartbeats 1000000 in
set_option maxRecDepth 100000 in
theorem copyMatrix_c {S : Nat → Prop} {v : Value} {m : Mat} {w : World} (h : VM w S v m) (hb : bdM m ≤ 1048576) : Calls Try.prog 123 #[v] w fun e w' => ∃ v', e = .returned v' ∧ OM w' (New w w') v' m ∧ Grow w w' := by
  obtain ⟨a, n, c, rfl, h, hr, hc⟩ := h
  have hl := h.len
  unfold bdM at hb
  obtain ⟨w0, hw0⟩ : ∃ w0, w0 = ((w.alloc (.cells #[.int .i64 m.rows, .int .i64 m.cols, .slice a n c] 27)).alloc (.cells #[.int .i64 0, .int .i64 0, .slice none 0 0] 27)).alloc (.cells #[] 3) := ⟨_, rfl⟩
  have hG0 : Grow w w0 := by rw [hw0]; exact (((Grow.refl w).alloc _ _).alloc _ _).alloc _ _
  have hs0 : w0.heap.size = w.heap.size + 3 := by rw [hw0]; simp
  have b1 : Blk w0 w.heap.size #[.int .i64 m.rows, .int .i64 m.cols, .slice a n c] 27 := by rw [hw0]; exact ((Blk.newAt _ _ _ rfl).alloc _).alloc _
  have b2 : Blk w0 (w.heap.size + 1) #[.int .i64 0, .int .i64 0, .slice none 0 0] 27 := by rw [hw0]; exact (Blk.newAt _ _ _ (by simp)).alloc _
  have hE : Own w0 3 1 (some ⟨w.heap.size + 1 + 1, 0, none⟩) 0 0 [] := by rw [hw0]; exact Own.freshAt (by simp) (by unfold maxLen; omega) rfl
  obtain ⟨⟨x0, x1, x2⟩, -⟩ := b1.three
  have Hw0 := Lib.hid hw0; clear hw0
  go_enter Try.func123, Try.ntmps123
  go_wp2_with (at_builtin; rw [← Hw0.out]; refine wpList_app rfl (.tmp 3) (.tmp 5) _ rfl T_ints rfl hE rfl (h.row.grow hG0) (ints_one _) (by omega) (by unfold maxLen; omega) ?_; intro a2 c2 w2 hA2; obtain ⟨⟨z0, z1, z2⟩, g0, g1, g2⟩ := (b1.keep hA2.keep (by simp; omega)).three; obtain ⟨⟨y0, y1, y2⟩, f0, f1, f2⟩ := (b2.keep hA2.keep (by simp)).three)
  have hne1 : w.heap.size + 1 ≠ w.heap.size := by omega
  have hG2 : Grow w w2 := hA2.grow hG0 (fun g hg => by simp at hg; omega)
  have hl2 := hA2.lo (B := w.heap.size + 2) (by omega) (fun g hg => by simp at hg; omega)
  have ho2 : Own w2 3 1 a2 n c2 (ints m.cells) := by simpa using hA2.own
  have hB2 := b2.keep hA2.keep (by simp)
  have hs2 := hG2.size
  have hK : Keep (fun q => q ≠ w.heap.size ∧ q ≠ w.heap.size + 1) w2 ((((w2.setCell ⟨w.heap.size, 2, none⟩ (.slice a2 n c2)).setCell ⟨w.heap.size + 1, 0, none⟩ (.int .i64 m.rows)).setCell ⟨w.heap.size + 1, 1, none⟩ (.int .i64 m.cols)).setCell ⟨w.heap.size + 1, 2, none⟩ (.slice a2 n c2)) :=
    ((((Keep.refl _ w2).setCell (fun _ e => e.1 rfl) _).setCell (fun _ e => e.2 rfl) _).setCell (fun _ e => e.2 rfl) _).setCell (fun _ e => e.2 rfl) _
  have hof := ho2.keep hK (fun g hg _ => by have := hl2 g hg; omega)
  have hBf := (((hB2.other (p := ⟨w.heap.size, 2, none⟩) (by simp) (.slice a2 n c2)).set 0 (.int .i64 m.rows)).set 1 (.int .i64 m.cols)).set 2 (.slice a2 n c2)
  have hl' := hl
  refine ret_cell T_mat rfl rfl rfl hBf ⟨_, rfl, ⟨a2, n, c2, rfl, hof, h.rng, fun g hg => ⟨by have := hl2 g hg; omega, hof.lt hg⟩, hr, hc⟩, hG2.keep hK fun q hq => by omega⟩
set_option maxHeartbeats 1000000 in
set_option maxRecDepth 100000 in
theorem l3Copy_c {S : Nat → Prop} {v : Value} {m : Mat} {w : World} (h : VM w S v m) (hb : bdM m ≤ 1048576) : Calls Try.prog 138 #[v] w fun e w' => ∃ v', e = .returned v' ∧ OM w' (New w w') v' m ∧ Grow w w' := by
  obtain ⟨a, n, c, rfl, h, hr, hc⟩ := h
  have hl := h.len
  unfold bdM at hb
  obtain ⟨w0, hw0⟩ : ∃ w0, w0 = (w.alloc (.cells #[.int .i64 m.rows, .int .i64 m.cols, .slice a n c] 27)).alloc (.cells #[.int .i64 0, .int .i64 0, .slice none 0 0] 27) := ⟨_, rfl⟩
  have hG0 : Grow w w0 := by rw [hw0]; exact ((Grow.refl w).alloc _ _).alloc _ _
  have hs0 : w0.heap.size = w.heap.size + 2 := by rw [hw0]; simp
  have b1 : Blk w0 w.heap.size #[.int .i64 m.rows, .int .i64 m.cols, .slice a n c] 27 := by rw [hw0]; exact (Blk.newAt _ _ _ rfl).alloc _
  have b2 : Blk w0 (w.heap.size + 1) #[.int .i64 0, .int .i64 0, .slice none 0 0] 27 := by rw [hw0]; exact Blk.newAt _ _ _ (by simp)
  obtain ⟨⟨x0, x1, x2⟩, -⟩ := b1.three
  have Hw0 := Lib.hid hw0; clear hw0
  go_enter Try.func138, Try.ntmps138
  go_wp2_with fail
  rw [← Hw0.out]
  refine wp_region_segs (S := (Keep (fun q => q ≠ w.heap.size + 1) w0)) [([0, 1, 2, 3, 5, 6], some 4), ([], some 7), ([], some 8), ([], some 9)] P_mixed (by kernel_rfl) (fun _ _ _ _ _ h => h) (Keep.refl _ _).drew ?_
  show wpQuiet _ _ _ _ [_, _, _, _, _, _] _
  repeat (first | go_big_quiet_skip | (go_big_quiet_want; first | (apply quiet_load CT_int; rfl; rfl; exact (fun w' hG => hG.cell (by simp) x0); go_big_quiet_on; simp only [Act.put, List.setIfInBounds_toArray, List.set_cons_succ, List.set_cons_zero]) | (apply quiet_load CT_int; rfl; rfl; exact (fun w' hG => hG.cell (by simp) x1); go_big_quiet_on; simp only [Act.put, List.setIfInBounds_toArray, List.set_cons_succ, List.set_cons_zero]) | (apply quiet_load CT_ints; rfl; rfl; exact (fun w' hG => hG.cell (by simp) x2); go_big_quiet_on; simp only [Act.put, List.setIfInBounds_toArray, List.set_cons_succ, List.set_cons_zero]) | (go_big_quiet_op; first | go_big_quiet_on | (refine ⟨_, (fun _ _ => rfl), ?_⟩; go_big_quiet_on))))
  refine wpQuiet_nil ?_
  obtain ⟨w1, hw1⟩ : ∃ w1, w1 = w0.drew := ⟨_, rfl⟩
  rw [← hw1]
  have hG1 : Grow w0 w1 := by rw [hw1]; exact (Grow.refl _).drew
  clear hw1
  have hs1 := hG1.size
  refine seg_go rfl (fun K hK => ?_)
  refine par_built0 rfl T_ints ?_
  have hE : Own (w1.alloc (.cells #[] 3)) 3 1 (some ⟨w1.heap.size, 0, none⟩) 0 0 [] := Own.freshAt rfl (by unfold maxLen; omega) rfl
  refine hK _ _ ((hG1.alloc _ _).mono fun _ _ _ => trivial) ?_
  clear hK K
  show wpQuiet _ _ _ _ [] _
  try (conv => arg 6; simp only [Act.put, List.setIfInBounds_toArray, List.set_cons_succ, List.set_cons_zero])
  refine wpQuiet_nil ?_
  refine seg_go rfl (fun K hK => ?_)
  refine op_app rfl T_ints rfl hE rfl (h.row.grow (hG0.trans (hG1.alloc _ _))) (ints_one _) (by omega) (by unfold maxLen; omega) ?_
  intro a2 c2 w2 hA2
  have hG2 : Grow w0 w2 := hA2.grow (hG1.alloc _ _) (fun g hg => by simp at hg; omega)
  have hl2 := hA2.lo (B := w.heap.size + 2) (by simp; omega) (fun g hg => by simp at hg; omega)
  have ho2 : Own w2 3 1 a2 n c2 (ints m.cells) := by simpa using hA2.own
  have hs2 := hG2.size
  have hB2 := b2.grow hG2
  clear hA2 hE
  rw [Nat.zero_add]
  refine hK _ _ (hG2.mono fun _ _ _ => trivial) ?_
  clear hK K
  show wpQuiet _ _ _ _ [] _
  try (conv => arg 6; simp only [Act.put, List.setIfInBounds_toArray, List.set_cons_succ, List.set_cons_zero])
  refine wpQuiet_nil ?_
  refine seg_go rfl (fun K hK => ?_)
  go_wp2_with fail
  refine hK _ _ ((hG2.mono fun _ _ _ => trivial)) ?_
  clear hK K
  show wpQuiet _ _ _ _ [] _
  try (conv => arg 6; simp only [Act.put, List.setIfInBounds_toArray, List.set_cons_succ, List.set_cons_zero])
  refine wpQuiet_nil ?_
  refine seg_go rfl (fun K hK => ?_)
  obtain ⟨⟨y0, y1, y2⟩, f0, f1, f2⟩ := hB2.three
  go_wp2_with fail
  have hK2 : Keep (fun q => q ≠ w.heap.size + 1) w2 (((w2.setCell ⟨w.heap.size + 1, 0, none⟩ (.int .i64 m.rows)).setCell ⟨w.heap.size + 1, 1, none⟩ (.int .i64 m.cols)).setCell ⟨w.heap.size + 1, 2, none⟩ (.slice a2 n c2)) :=
    (((Keep.refl _ w2).setCell (fun _ e => e rfl) _).setCell (fun _ e => e rfl) _).setCell (fun _ e => e rfl) _
  refine hK _ _ (((hG2.mono fun _ _ _ => trivial).trans hK2)) ?_
  clear hK K
  refine wpSegs_nil ?_
  have hof := ho2.keep hK2 (fun g hg _ e => by have := hl2 g hg; omega)
  have hBf := ((hB2.set 0 (.int .i64 m.rows)).set 1 (.int .i64 m.cols)).set 2 (.slice a2 n c2)
  have hGw := (hG0.trans hG2).keep hK2 fun q hq => by omega
  go_wp2
  refine ret_cell T_mat rfl rfl rfl hBf ⟨_, rfl, ⟨a2, n, c2, rfl, hof, h.rng, fun g hg => ⟨by have := hl2 g hg; omega, hof.lt hg⟩, hr, hc⟩, hGw⟩
end Go.Proofs.Ytodemejfbekjgaa

namespace Go.Proofs.Ytodemejfbekjgaa
open Go.RowKit

theorem T_lmat : StT Try.prog 24 3 := ⟨_, Try.underlying24, by kernel_rfl⟩
set_option maxHeartbeats 1000000 in
theorem to_M {S : Nat → Prop} {v : Value} {m : Mat} {w : World} (h : VM w S v m) (hb : bdM m ≤ 1048576) : Calls Try.prog 11 #[v] w fun e w' => ∃ v', e = .returned v' ∧ OM w' (New w w') v' m ∧ Grow w w' := by
  obtain ⟨a, n, c, rfl, h, hr, hc⟩ := h
  have hl := h.len
  unfold bdM at hb
  go_enter Try.func11, Try.ntmps11
  go_wp2_with fail
  have hW := ((Grow.refl w).alloc #[.int .i64 m.rows, .int .i64 m.cols, .slice a n c] 24).alloc #[.int .i64 0, .int .i64 0, .slice none 0 0] 27 |>.alloc #[.int .i64 m.rows, .int .i64 m.cols, .slice none 0 0] 27
  have hb2 := Blk.newAt ((w.alloc (.cells #[.int .i64 m.rows, .int .i64 m.cols, .slice a n c] 24)).alloc (.cells #[.int .i64 0, .int .i64 0, .slice none 0 0] 27)) #[.int .i64 m.rows, .int .i64 m.cols, .slice none 0 0] 27 (g := w.heap.size + 1 + 1) (by simp)
  have hb1 := (Blk.newAt (w.alloc (.cells #[.int .i64 m.rows, .int .i64 m.cols, .slice a n c] 24)) #[.int .i64 0, .int .i64 0, .slice none 0 0] 27 (g := w.heap.size + 1) (by simp)).alloc (.cells #[.int .i64 m.rows, .int .i64 m.cols, .slice none 0 0] 27)
  refine (toIntS_c a n c m.cells _ (h.grow hW) (by omega)).mono ?_
  rintro e w1 ⟨rfl, hO, hG⟩
  obtain ⟨⟨c20, c21, c22⟩, f20, f21, f22⟩ := (hb2.grow hG).three
  obtain ⟨⟨c10, c11, c12⟩, f10, f11, f12⟩ := (hb1.grow hG).three
  simp only [World.size_alloc] at hO
  go_wp2
  have hs := hW.size
  simp only [World.size_alloc] at hs
  have hs1 := hG.size
  simp only [World.size_alloc] at hs1
  have hK : Keep (fun g => g ≠ w.heap.size + 1 + 1 ∧ g ≠ w.heap.size + 1) w1 _ := ((((Keep.refl _ w1).setCell (p := ⟨w.heap.size + 1 + 1, 2, none⟩) (by simp) (.slice (some ⟨w.heap.size + 1 + 1 + 1, 0, none⟩) n n)).setCell (p := ⟨w.heap.size + 1, 0, none⟩) (by simp) (.int .i64 m.rows)).setCell (p := ⟨w.heap.size + 1, 1, none⟩) (by simp) (.int .i64 m.cols)).setCell (p := ⟨w.heap.size + 1, 2, none⟩) (by simp) (.slice (some ⟨w.heap.size + 1 + 1 + 1, 0, none⟩) n n)
  have hB : Blk _ (w.heap.size + 1) #[.int .i64 m.rows, .int .i64 m.cols, .slice (some ⟨w.heap.size + 1 + 1 + 1, 0, none⟩) n n] 27 := (((((hb1.grow hG).other (p := ⟨w.heap.size + 1 + 1, 2, none⟩) (by simp) (.slice (some ⟨w.heap.size + 1 + 1 + 1, 0, none⟩) n n)).set 0 (.int .i64 m.rows)).set 1 (.int .i64 m.cols)).set 2 (.slice (some ⟨w.heap.size + 1 + 1 + 1, 0, none⟩) n n))
  have hGf : Grow w _ := (hW.trans hG).keep hK (fun i hi => by constructor <;> omega)
  have hOf := hO.keep hK (fun g hg hlt => by simp at hg; omega)
  refine ret_cell T_mat rfl rfl rfl hB ?_
  refine ⟨_, rfl, ⟨_, _, _, rfl, hOf, h.rng, fun g hg => ⟨?_, hOf.lt hg⟩, hr, hc⟩, hGf⟩
  simp at hg; omega

def szM (left : Int) (m : Mat) : Int := szI left m.cells.length
theorem sz_M_ok {l : Mat} {left : Int} (h : 0 ≤ szM left l) : szM left l = left - bdM l := by
  unfold szM szI at *; unfold bdM
  split at h
  · omega
  · rename_i h1; rw [if_neg h1]
set_option maxHeartbeats 1000000 in
theorem sz_M {S : Nat → Prop} {v : Value} {m : Mat} {w : World} {left : Int} (h : VM w S v m) (h0 : 0 ≤ left) (h1 : left ≤ 1048576) : Calls Try.prog 9 #[v, .int .i64 left] w fun e w' => e = .returned (.int .i64 (szM left m)) ∧ Grow w w' := by
  obtain ⟨a, n, c, rfl, h, _, _⟩ := h
  have hl := h.len
  have hm : n ≤ maxLen := Nat.le_trans h.row.le h.row.max
  have hG : Grow w (w.alloc (.cells #[.int .i64 m.rows, .int .i64 m.cols, .slice a n c] 24)) := (Grow.refl w).alloc _ _
  by_cases hlt : left < n
  · have hz : szI left n = -1 := by unfold szI; rw [if_pos hlt]
    have hz2 : szM left m = -1 := by unfold szM; rw [hl]; exact hz
    rw [hz2]
    go_enter Try.func9, Try.ntmps9
    go_wp2_with (go_at_call 33; refine (szIntS_c a n c left _ hm h0 h1).mono ?_; rintro e w' ⟨rfl, rfl⟩; rw [hz])
    go_ret
    exact ⟨rfl, hG⟩
  · have hz : szI left n = left - n := by unfold szI; rw [if_neg hlt]
    have hz2 : szM left m = left - n := by unfold szM; rw [hl]; exact hz
    rw [hz2]
    go_enter Try.func9, Try.ntmps9
    go_wp2_with (go_at_call 33; refine (szIntS_c a n c left _ hm h0 h1).mono ?_; rintro e w' ⟨rfl, rfl⟩; rw [hz])
    go_ret
    exact ⟨rfl, hG⟩
end Go.Proofs.Ytodemejfbekjgaa

namespace Go.Proofs.Ytodemejfbekjgaa
open Go.ChangeShapes Go.WideShapes Go.ChangeAt Go.RowKit
theorem list3 {α : Type} {cs : List α} (h : cs.length = 3) : ∃ c0 c1 c2, cs = [c0, c1, c2] := by
  match cs, h with
  | [c0, c1, c2], _ => exact ⟨c0, c1, c2, rfl⟩
theorem list7 {α : Type} {cs : List α} (h : cs.length = 7) : ∃ c0 c1 c2 c3 c4 c5 c6, cs = [c0, c1, c2, c3, c4, c5, c6] := by
  match cs, h with
  | [c0, c1, c2, c3, c4, c5, c6], _ => exact ⟨c0, c1, c2, c3, c4, c5, c6, rfl⟩
section
variable {H : Type} {enc : TypeId × Value → H} {w : World}
theorem cells_sl : Try.prog.cellsOf 22 = 1 := by kernel_rfl
theorem cells_mat : Try.prog.cellsOf 24 = 3 := by kernel_rfl
theorem mat_cs_g {P : Program} {t e : TypeId} {f0 f1 f2 : Field} {fuel : Nat} {cs : List Value} {x : DataW H × List MemPlace} (hu : P.underlying t = some (.struct #[f0, f1, f2])) (hc : P.cellsOf t = 3)
    (t0 : P.underlying f0.type = some (.int .i64)) (t1 : P.underlying f1.type = some (.int .i64)) (t2 : P.underlying f2.type = some (.slice e)) (te : P.underlying e = some (.int .i64)) (ce : P.cellsOf e = 1)
    (o0 : f0.offset = 0) (o1 : f1.offset = 1) (o2 : f2.offset = 2) (c0 : P.cellsOf f0.type = 1) (c1 : P.cellsOf f1.type = 1) (c2 : P.cellsOf f2.type = 1)
    (h : DataW.trod enc P w 0 (fun _ => true) true fuel t cs = some x) :
    ∃ r k a n c xs, cs = [.int .i64 r, .int .i64 k, .slice a n c] ∧ RdI w (fun _ => True) a n c xs ∧ I64 r ∧ I64 k := by
  obtain ⟨xs, n, _, rfl, hl, hlen, hf⟩ := DataW.trod_struct hu h
  obtain ⟨q0, q1, q2, rfl⟩ := list3 (hl.trans hc)
  obtain ⟨y0, y1, y2, rfl⟩ := list3 hlen
  have h0 := hf 0 f0 rfl
  have h1 := hf 1 f1 rfl
  have h2 := hf 2 f2 rfl
  rw [o0, c0] at h0
  rw [o1, c1] at h1
  rw [o2, c2] at h2
  obtain ⟨r, e0, _, w0⟩ := DataW.trod_int t0 h0
  obtain ⟨k, e1, _, w1⟩ := DataW.trod_int t1 h1
  obtain ⟨a, m, c, ys, e2, hr⟩ := openI_cs t2 te ce h2
  simp at e0 e1 e2
  subst e0; subst e1; subst e2
  exact ⟨r, k, a, m, c, ys, rfl, hr, wf_I64 w0, wf_I64 w1⟩
set_option maxRecDepth 100000 in
theorem mat_cs {fuel : Nat} {cs : List Value} {x : DataW H × List MemPlace} (h : DataW.trod enc Try.prog w 0 (fun _ => true) true fuel 24 cs = some x) :
    ∃ r k a n c xs, cs = [.int .i64 r, .int .i64 k, .slice a n c] ∧ RdI w (fun _ => True) a n c xs ∧ I64 r ∧ I64 k :=
  mat_cs_g Try.underlying24 cells_mat Try.underlying3 Try.underlying3 Try.underlying22 Try.underlying3 cells_int rfl rfl rfl cells_int cells_int cells_sl h
set_option maxRecDepth 100000 in
theorem openMx {r : Reach} {b0 : Nat} {v : Value} {d : DataW H} {ps : List MemPlace} (hval : Value.okWide Try.prog w r b0 24 v) (h : DataW.Trod enc Try.prog w 0 (fun _ => true) true 24 v d ps) :
    ∃ m, VM w (fun _ => True) v m := by
  obtain ⟨cs, rfl, hsz⟩ := okWide_struct Try.underlying24 hval
  obtain ⟨fuel, hf⟩ := h
  obtain ⟨r, k, a, n, c, xs, hcs, hr, h1, h2⟩ := mat_cs hf
  have : cs = #[.int .i64 r, .int .i64 k, .slice a n c] := by
    simp only [Value.cells] at hcs
    exact Array.toList_inj.1 hcs
  subst this
  exact ⟨⟨r, k, xs⟩, a, n, c, rfl, hr, h1, h2⟩
end
end Go.Proofs.Ytodemejfbekjgaa
