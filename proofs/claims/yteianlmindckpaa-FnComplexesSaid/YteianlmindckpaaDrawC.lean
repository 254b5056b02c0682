/-
  The draws of complexes.
-/
import Derived.Test.YteianlmindckpaaDraw
import Derived.Test.YteianlmindckpaaCplxS
namespace Go.Proofs.Yteianlmindckpaa
open Go.RowKit

theorem RdI.lit {w : World} {S : Nat → Prop} {g n : Nat} {cs : Array Value} {t : TypeId} {xs : List Int} (h : Blk w g cs t) (hc : cs.toList = ints xs) (hn : n = xs.length) (hm : xs.length ≤ 100) (hr : ∀ x ∈ xs, I64 x) (hS : S g) : RdI w S (some ⟨g, 0, none⟩) n n xs :=
  ⟨⟨by simp [hn], Nat.le_refl _, by unfold maxLen; omega, (fun h => by cases h), fun _ => ⟨g, 0, rfl, hS, fun j c hj => by rw [Nat.zero_add, h.cell, ← hj, ← hc, Array.getElem?_toList]⟩⟩, hr⟩
theorem RdCells.cons {w : World} {S : Nat → Prop} {vs : List Value} {l : List (List Int)} {b : Option Addr} {n c : Nat} {s : List Int} (hn : n = s.length) (h : RdI w S b n c s) (h2 : RdCells w S vs l) : RdCells w S (.slice b n c :: vs) (s :: l) := fun i xs hi => by
  subst hn
  cases i with
  | zero =>
    obtain rfl : s = xs := by simpa using hi
    exact ⟨b, c, rfl, h⟩
  | succ i =>
    obtain ⟨b', c', h3, h4⟩ := h2 i xs (by simpa using hi)
    exact ⟨b', c', by simpa using h3, h4⟩
theorem RdII.lit {w : World} {S : Nat → Prop} {g n : Nat} {cs : Array Value} {t : TypeId} {l : List (List Int)} (h : Blk w g cs t) (hC : RdCells w S cs.toList l) (hn : l.length = n) (hs : cs.size = n) (hm : n ≤ 100) (hS : S g) : RdII w S (some ⟨g, 0, none⟩) n n l :=
  ⟨⟨cs.toList, ⟨by simp [hs], Nat.le_refl _, by unfold maxLen; omega, (fun h => by cases h), fun _ => ⟨g, 0, rfl, hS, fun j c hj => by rw [Nat.zero_add, h.cell, ← hj, Array.getElem?_toList]⟩⟩, hC⟩, hn⟩

theorem Row.bAt {w : World} {S : Nat → Prop} {e : TypeId} {sz g : Nat} {cs : Array Value} (n : Nat) (hg : g = w.heap.size) (hn : n ≤ maxLen) (hs : cs.size = n * sz) (hS : ∀ b, S b) : Row (w.alloc (.cells cs e)) S sz (some ⟨g, 0, none⟩) n n cs.toList := by
  subst hg; exact Row.built n hn hs (hS _)
theorem Keep.on {S T : Nat → Prop} {a b c : World} (h : Keep S a b) (k : Keep T b c) (hT : ∀ i, i < a.heap.size → S i → T i) : Keep S a c :=
  ⟨k.os.trans h.os, k.tape.trans h.tape, k.output.trans h.output, Nat.le_trans h.size k.size, fun x hx => (k.frozen x (Nat.lt_of_lt_of_le hx h.size)).trans (h.frozen x hx),
    fun i hi hs => (k.block i (Nat.lt_of_lt_of_le hi h.size) (hT i hi hs)).trans (h.block i hi hs)⟩
/-- One more in a row; all of them beyond B. -/
theorem RdCells.appB {B : Nat} {w2 w3 : World} {e : TypeId} {a a3 b : Option Addr} {n c3 c : Nat} {vs : List Value} {T : List (List Int)} {s : List Int} {cs : List Value} (h : RdCells w2 (fun q => B ≤ q ∧ blk a ≠ some q) vs T) (hl : vs.length = T.length) (hs : RdI w2 (fun q => B ≤ q ∧ blk a ≠ some q) b s.length c s)
    (hA : Apped w2 w3 e 1 a a3 n c3 cs) : RdCells w3 (fun q => B ≤ q ∧ blk a3 ≠ some q) (vs ++ [.slice b s.length c]) (T ++ [s]) := by
  have key : ∀ q, q < w2.heap.size → blk a ≠ some q → blk a3 ≠ some q := fun q hq hne e => by
    rcases hA.new with e2 | ⟨g, e2, hg⟩
    · rw [e2] at e; exact hne e
    · rw [e2] at e; have := Option.some.inj e; omega
  have h1 := (h.weak (T := fun q => q < w2.heap.size ∧ B ≤ q ∧ blk a ≠ some q) fun q hq hb => ⟨hq, hb⟩).keep hA.keep (fun q _ hb => hb.2.2)
  have h2 := (hs.weak (T := fun q => q < w2.heap.size ∧ B ≤ q ∧ blk a ≠ some q) fun q hq hb => ⟨hq, hb⟩).keep hA.keep (fun q _ hb => hb.2.2)
  exact (h1.weak fun q _ hb => ⟨hb.2.1, key q hb.1 hb.2.2⟩).snoc hl (h2.weak fun q _ hb => ⟨hb.2.1, key q hb.1 hb.2.2⟩)
/-- Lists that are built one after the other, and the list of them. -/
def litW (w : World) : List (List Int) → World
  | [] => w
  | s :: r => litW (w.alloc (.cells (ints s).toArray 3)) r
def litV (k : Nat) : List (List Int) → List Value
  | [] => []
  | s :: r => .slice (some ⟨k, 0, none⟩) s.length s.length :: litV (k + 1) r
theorem litW_grow : ∀ (L : List (List Int)) (w : World), Grow w (litW w L)
  | [], w => Grow.refl w
  | _ :: r, w => ((Grow.refl w).alloc _ _).trans (litW_grow r _)
theorem litV_len : ∀ (L : List (List Int)) (k : Nat), (litV k L).length = L.length
  | [], _ => rfl
  | _ :: r, k => by simp [litV, litV_len r]
theorem litW_rd : ∀ (L : List (List Int)) (w : World) (B : Nat), B ≤ w.heap.size → (∀ s ∈ L, s.length ≤ 100 ∧ ∀ x ∈ s, I64 x) → RdCells (litW w L) (fun q => B ≤ q) (litV w.heap.size L) L
  | [], w, B, _, _ => RdCells.nilw
  | s :: r, w, B, hB, h => by
    have ih := litW_rd r (w.alloc (.cells (ints s).toArray 3)) B (by simp; omega) (fun x hx => h x (by simp [hx]))
    rw [show (w.alloc (.cells (ints s).toArray 3)).heap.size = w.heap.size + 1 by simp] at ih
    have h1 := RdI.lit (w := litW w (s :: r)) (S := fun q => B ≤ q) (g := w.heap.size) (n := s.length) ((Blk.new w (ints s).toArray 3).grow (litW_grow r _)) (xs := s) (by simp) rfl (h s (by simp)).1 (h s (by simp)).2 hB
    exact RdCells.cons rfl h1 ih
theorem litII (L : List (List Int)) (w W : World) (n : Nat) (cs : Array Value) (B k : Nat) (hW : W = (litW w L).alloc (.cells cs 37)) (hcs : cs = (litV w.heap.size L).toArray) (hn : L.length = n) (hm : n ≤ 100) (h : ∀ s ∈ L, s.length ≤ 100 ∧ ∀ x ∈ s, I64 x) (hB : B ≤ w.heap.size) (hk : k = (litW w L).heap.size) :
    Own W 37 1 (some ⟨k, 0, none⟩) n n cs.toList ∧ RdCells W (fun q => B ≤ q ∧ blk (some (⟨k, 0, none⟩ : Addr)) ≠ some q) cs.toList L ∧ B ≤ k ∧ Grow w W := by
  subst hW
  have hG := litW_grow L w
  have hs := hG.size
  subst hk
  refine ⟨Own.fresh (by unfold maxLen; omega) (by rw [hcs]; simp [litV_len, hn]), ?_, by omega, hG.alloc _ _⟩
  rw [hcs]
  exact ((litW_rd L w B hB h).weak (T := fun q => B ≤ q ∧ blk (some (⟨(litW w L).heap.size, 0, none⟩ : Addr)) ≠ some q) (fun q hq hb => ⟨hb, by simp; omega⟩)).grow ((Grow.refl _).alloc _ _)

theorem lit_ok {L : List (List Int)} (h : (L.all fun s => decide (s.length ≤ 100) && s.all fun x => decide (-100 ≤ x ∧ x ≤ 100)) = true) : ∀ s ∈ L, s.length ≤ 100 ∧ ∀ x ∈ s, I64 x := fun s hs => by
  have := List.all_eq_true.1 h s hs
  rw [Bool.and_eq_true, decide_eq_true_eq, List.all_eq_true] at this
  exact ⟨this.1, fun x hx => by have := this.2 x hx; rw [decide_eq_true_eq] at this; unfold I64; omega⟩
set_option maxHeartbeats 4000000 in
set_option maxRecDepth 100000 in
theorem l32FacetsO_c (g : Nat) (w : World) (h : Cur w g) :
    Calls Try.prog 31 #[.pointer (some ⟨g, 0, none⟩)] w fun e w' => ∃ a n c vs l, e = .returned (.slice a n c) ∧ Own w' 37 1 a n c vs ∧ (∀ q, blk a = some q → w.heap.size ≤ q) ∧ RdCells w' (fun q => w.heap.size ≤ q ∧ blk a ≠ some q) vs l ∧ l.length = n ∧ n ≤ 14 ∧ (∀ s ∈ l, s.length ≤ 4) ∧ Cur w' g ∧ Keep (fun q => q ≠ g) w w' := by
  have hg := h.lt
  go_enter Try.func31, Try.ntmps31
  go_wp2_with fail
  refine (l1Below_c g 7 _ h (by omega)).mono ?_
  rintro e w1 ⟨x, hx, rfl, hC, hK⟩
  have hs1 := hK.size
  rcases (show x = 2 ∨ x = 6 ∨ x = 0 ∨ x = 1 ∨ x = 3 ∨ x = 4 ∨ x = 5 by omega) with rfl | rfl | rfl | rfl | rfl | rfl | rfl
  · go_wp2
    go_ret
    have hL := litII [[0, 1, 2], [0, 1, 3], [0, 2, 3], [1, 2, 3]] w1 _ 4 _ w.heap.size (w1.heap.size + 4) rfl rfl rfl (by decide) (lit_ok (by decide)) hs1 (by simp [litW])
    exact ⟨_, _, _, _, [[0, 1, 2], [0, 1, 3], [0, 2, 3], [1, 2, 3]], rfl, hL.1, (fun q hq => by have := hL.2.2.1; simp at hq; omega), hL.2.1, rfl, by decide, by decide, hC.grow hL.2.2.2, hK.trans hL.2.2.2.any⟩
  · go_wp2_with fail
    refine (l1Below_c g 5 _ (hC.grow ((Grow.refl _).alloc _ _)) (by omega)).mono ?_
    rintro e w2 ⟨m, hm, rfl, hC2, hK2⟩
    have hK02 : Keep (fun q => q ≠ g) w w2 := (hK.trans (Grow.any ((Grow.refl w1).alloc _ _))).trans hK2
    have hO2 : Own w2 37 1 (some ⟨w1.heap.size, 0, none⟩) 0 0 [] := (Own.freshAt rfl (by unfold maxLen; omega) rfl).keep hK2 (fun q hq _ e => by simp at hq; omega)
    go_wp2
    go_loopw [3, 4] (fun u i wr => Keep (fun q => q ≠ g) w wr ∧ Cur wr g ∧ ∃ (k n1 c1 : Nat) (a1 : Option Addr) (vs : List Value) (T : List (List Int)), i = .int .i64 k ∧ u = .slice a1 n1 c1 ∧ n1 + 2 * k ≤ 8 ∧ (∀ q, blk a1 = some q → w.heap.size ≤ q) ∧ Own wr 37 1 a1 n1 c1 vs ∧ T.length = n1 ∧ (∀ s ∈ T, s.length ≤ 4) ∧ RdCells wr (fun q => w.heap.size ≤ q ∧ blk a1 ≠ some q) vs T) (fun _ i _ => (intOf i).toNat)
    case atStart => exact ⟨hK02, hC2, m, 0, 0, _, [], [], rfl, rfl, by omega, fun q hq => by simp at hq; omega, hO2, rfl, by simp, RdCells.nilw⟩
    case round =>
      clear hO2 hC2 hK02 hK2 hC hK h
      obtain ⟨hK, hC, k, n1, c1, a1, vs, T, rfl, rfl, hb, hlo, hO, hTl, hT4, hCe⟩ := hrel
      have hsz := hK.size
      have hvl : vs.length = T.length := by have := hO.len; simp at this; omega
      by_cases hk : 0 < k
      · go_wp2_with fail
        refine (l1Below_c g 4 _ hC (by omega)).mono ?_
        rintro e w3 ⟨x, hx, rfl, hC3, hK3⟩
        go_wp2_with fail
        refine (l1Below_c g 3 _ hC3 (by omega)).mono ?_
        rintro e w4 ⟨y, hy, rfl, hC4, hK4⟩
        have hx4 : x ≤ 3 := by omega
        have hy4 : y ≤ 2 := by omega
        have hK34 := hK3.trans hK4
        have hO4 := hO.keep hK34 (fun q hq _ e => by have := hlo q hq; omega)
        have hCe4 := hCe.keep hK34 (fun q _ hb e => by have := hb.1; omega)
        have hKw := hK.trans hK34
        have hs4 := hKw.size
        clear hO hCe hK hC hC3 hK3 hK4 hK34
        go_wp2_with (first | (at_builtin; refine wpList_app rfl (.tmp 82) (.tmp 86) _ rfl T_intss rfl (hO4.grow (((Grow.refl _).alloc _ _).alloc _ _)) rfl (Row.bAt (S := fun _ => True) 1 (by simp) (by unfold maxLen; omega) rfl (fun _ => trivial)) (by simp [Value.oneCell']) (by omega) (by unfold maxLen; omega) ?_; intro a5 c5 w5 hA5))
        have hG4 := ((Grow.refl w4).alloc #[.int .i64 (x : Int), .int .i64 ((x : Int) + 1 + (y : Int))] 3).alloc #[.slice (some ⟨w4.heap.size, 0, none⟩) 2 2] 37
        have hl2 : RdI ((w4.alloc (.cells #[.int .i64 (x : Int), .int .i64 ((x : Int) + 1 + (y : Int))] 3)).alloc (.cells #[.slice (some ⟨w4.heap.size, 0, none⟩) 2 2] 37)) (fun q => w.heap.size ≤ q ∧ blk a1 ≠ some q) (some ⟨w4.heap.size, 0, none⟩) 2 2 [(x : Int), (x : Int) + 1 + (y : Int)] :=
          RdI.lit ((Blk.new _ _ _).alloc _) rfl rfl (by simp) (by intro z hz; simp at hz; unfold I64; omega) ⟨hs4, fun e => by have := hO4.lt e; omega⟩
        have hCe5 := RdCells.appB (s := [(x : Int), (x : Int) + 1 + (y : Int)]) (hCe4.grow hG4) hvl hl2 hA5
        have hC5 := (hC4.grow hG4).keep hA5.keep (fun q hq e => by have := hlo q e; omega)
        have hK5 := (hKw.trans hG4.any).on hA5.keep (fun q hq _ e => by have := hlo q e; omega)
        have hlo5 := hA5.lo (B := w.heap.size) (by have := hG4.size; omega) hlo
        have hO5 := hA5.own
        have hT5 : ∀ s ∈ T ++ [[(x : Int), (x : Int) + 1 + (y : Int)]], s.length ≤ 4 := fun s hs => by
          rcases List.mem_append.1 hs with hs | hs
          · exact hT4 s hs
          · simp at hs; subst hs; simp
        have hTl5 : (T ++ [[(x : Int), (x : Int) + 1 + (y : Int)]]).length = n1 + 1 := by simp [hTl]
        generalize hT' : T ++ [[(x : Int), (x : Int) + 1 + (y : Int)]] = T' at *
        clear hT' hl2 hCe4 hO4 hG4 hA5 hC4 hKw hs4
        generalize vs ++ [Value.slice (some ⟨w4.heap.size, 0, none⟩) 2 2] = vs' at *
        have hs5 := hK5.size
        refine (l1Once_c g 2 _ hC5 (by omega)).mono ?_
        rintro e w6 ⟨b, rfl, hC6, hK6⟩
        have hO6 := hO5.keep hK6 (fun q hq _ e => by have := hlo5 q hq; omega)
        have hCe6 := hCe5.keep hK6 (fun q _ hb e => by have := hb.1; omega)
        have hK06 := hK5.trans hK6
        cases b with
        | false =>
          go_wp2
          go_roundw
          case rel => exact ⟨hK06, hC6, k - 1, n1 + 1, c5, a5, _, T', by go_num, rfl, by omega, hlo5, hO6, hTl5, hT5, hCe6⟩
          case measure => simp [intOf]; omega
        | true =>
          go_wp2_with fail
          refine (l1Below_c g 2 _ hC6 (by omega)).mono ?_
          rintro e w7 ⟨z, hz, rfl, hC7, hK7⟩
          have hz4 : z ≤ 1 := by omega
          have hO7 := hO6.keep hK7 (fun q hq _ e => by have := hlo5 q hq; omega)
          have hCe7 := hCe6.keep hK7 (fun q _ hb e => by have := hb.1; omega)
          have hKw := hK06.trans hK7
          have hs7 := hKw.size
          have hvl5 : vs'.length = T'.length := by have := hO7.len; simp at this; omega
          clear hO5 hO6 hCe5 hCe6 hC5 hC6 hK5 hK6 hK06 hK7
          go_wp2_with (first | (at_builtin; refine wpList_app rfl (.tmp 90) (.tmp 99) _ rfl T_intss rfl (hO7.grow (((Grow.refl _).alloc _ _).alloc _ _)) rfl (Row.bAt (S := fun _ => True) 1 (by simp) (by unfold maxLen; omega) rfl (fun _ => trivial)) (by simp [Value.oneCell']) (by omega) (by unfold maxLen; omega) ?_; intro a8 c8 w8 hA8))
          have hG8 := ((Grow.refl w7).alloc #[.int .i64 (x : Int), .int .i64 ((x : Int) + 1 + (y : Int)), .int .i64 ((x : Int) + 1 + (y : Int) + 1 + (z : Int))] 3).alloc #[.slice (some ⟨w7.heap.size, 0, none⟩) 3 3] 37
          have hl3 : RdI ((w7.alloc (.cells #[.int .i64 (x : Int), .int .i64 ((x : Int) + 1 + (y : Int)), .int .i64 ((x : Int) + 1 + (y : Int) + 1 + (z : Int))] 3)).alloc (.cells #[.slice (some ⟨w7.heap.size, 0, none⟩) 3 3] 37)) (fun q => w.heap.size ≤ q ∧ blk a5 ≠ some q) (some ⟨w7.heap.size, 0, none⟩) 3 3 [(x : Int), (x : Int) + 1 + (y : Int), (x : Int) + 1 + (y : Int) + 1 + (z : Int)] :=
            RdI.lit ((Blk.new _ _ _).alloc _) rfl rfl (by simp) (by intro u hu; simp at hu; unfold I64; omega) ⟨hs7, fun e => by have := hO7.lt e; omega⟩
          have hCe8 := RdCells.appB (s := [(x : Int), (x : Int) + 1 + (y : Int), (x : Int) + 1 + (y : Int) + 1 + (z : Int)]) (hCe7.grow hG8) hvl5 hl3 hA8
          have hC8 := (hC7.grow hG8).keep hA8.keep (fun q hq e => by have := hlo5 q e; omega)
          have hK8 := (hKw.trans hG8.any).on hA8.keep (fun q hq _ e => by have := hlo5 q e; omega)
          have hlo8 := hA8.lo (B := w.heap.size) (by have := hG8.size; omega) hlo5
          have hO8 := hA8.own
          have hT8 : ∀ s ∈ T' ++ [[(x : Int), (x : Int) + 1 + (y : Int), (x : Int) + 1 + (y : Int) + 1 + (z : Int)]], s.length ≤ 4 := fun s hs => by
            rcases List.mem_append.1 hs with hs | hs
            · exact hT5 s hs
            · simp at hs; subst hs; simp
          have hTl8 : (T' ++ [[(x : Int), (x : Int) + 1 + (y : Int), (x : Int) + 1 + (y : Int) + 1 + (z : Int)]]).length = n1 + 1 + 1 := by simp [hTl5]
          go_wp2
          go_roundw
          case rel => exact ⟨hK8, hC8, k - 1, n1 + 1 + 1, c8, a8, _, _, by go_num, rfl, by omega, hlo8, hO8, hTl8, hT8, hCe8⟩
          case measure => simp [intOf]; omega
      · go_wp2
        go_ret
        exact ⟨_, _, _, vs, T, rfl, hO, hlo, hCe, hTl, by omega, hT4, hC, hK⟩
  · go_wp2
    go_ret
    have hL := litII [[0, 1, 4], [0, 1, 5], [0, 2, 3], [0, 2, 5], [0, 3, 4], [1, 2, 3], [1, 2, 4], [1, 3, 5], [2, 4, 5], [3, 4, 5]] w1 _ 10 _ w.heap.size (w1.heap.size + 10) rfl rfl rfl (by decide) (lit_ok (by decide)) hs1 (by simp [litW])
    exact ⟨_, _, _, _, [[0, 1, 4], [0, 1, 5], [0, 2, 3], [0, 2, 5], [0, 3, 4], [1, 2, 3], [1, 2, 4], [1, 3, 5], [2, 4, 5], [3, 4, 5]], rfl, hL.1, (fun q hq => by have := hL.2.2.1; simp at hq; omega), hL.2.1, rfl, by decide, by decide, hC.grow hL.2.2.2, hK.trans hL.2.2.2.any⟩
  · go_wp2
    go_ret
    have hL := litII [[0, 1, 3], [1, 2, 4], [2, 3, 5], [3, 4, 6], [0, 4, 5], [1, 5, 6], [0, 2, 6], [0, 1, 5], [1, 2, 6], [0, 2, 3], [1, 3, 4], [2, 4, 5], [3, 5, 6], [0, 4, 6]] w1 _ 14 _ w.heap.size (w1.heap.size + 14) rfl rfl rfl (by decide) (lit_ok (by decide)) hs1 (by simp [litW])
    exact ⟨_, _, _, _, [[0, 1, 3], [1, 2, 4], [2, 3, 5], [3, 4, 6], [0, 4, 5], [1, 5, 6], [0, 2, 6], [0, 1, 5], [1, 2, 6], [0, 2, 3], [1, 3, 4], [2, 4, 5], [3, 5, 6], [0, 4, 6]], rfl, hL.1, (fun q hq => by have := hL.2.2.1; simp at hq; omega), hL.2.1, rfl, by decide, by decide, hC.grow hL.2.2.2, hK.trans hL.2.2.2.any⟩
  · go_wp2
    go_ret
    have hL := litII [[0, 1], [1, 2], [0, 2], [2, 3], [3, 4], [2, 4], [7]] w1 _ 7 _ w.heap.size (w1.heap.size + 7) rfl rfl rfl (by decide) (lit_ok (by decide)) hs1 (by simp [litW])
    exact ⟨_, _, _, _, [[0, 1], [1, 2], [0, 2], [2, 3], [3, 4], [2, 4], [7]], rfl, hL.1, (fun q hq => by have := hL.2.2.1; simp at hq; omega), hL.2.1, rfl, by decide, by decide, hC.grow hL.2.2.2, hK.trans hL.2.2.2.any⟩
  · go_wp2
    go_ret
    have hL := litII [[0, 1, 2], [1, 2, 3], [3, 4], [5]] w1 _ 4 _ w.heap.size (w1.heap.size + 4) rfl rfl rfl (by decide) (lit_ok (by decide)) hs1 (by simp [litW])
    exact ⟨_, _, _, _, [[0, 1, 2], [1, 2, 3], [3, 4], [5]], rfl, hL.1, (fun q hq => by have := hL.2.2.1; simp at hq; omega), hL.2.1, rfl, by decide, by decide, hC.grow hL.2.2.2, hK.trans hL.2.2.2.any⟩
  · go_wp2
    go_ret
    have hL := litII [[0, 1, 2, 3], [1, 2, 3, 4]] w1 _ 2 _ w.heap.size (w1.heap.size + 2) rfl rfl rfl (by decide) (lit_ok (by decide)) hs1 (by simp [litW])
    exact ⟨_, _, _, _, [[0, 1, 2, 3], [1, 2, 3, 4]], rfl, hL.1, (fun q hq => by have := hL.2.2.1; simp at hq; omega), hL.2.1, rfl, by decide, by decide, hC.grow hL.2.2.2, hK.trans hL.2.2.2.any⟩
theorem l32Facets_c (g : Nat) (w : World) (h : Cur w g) :
    Calls Try.prog 31 #[.pointer (some ⟨g, 0, none⟩)] w fun e w' => ∃ a n c l, e = .returned (.slice a n c) ∧ RdII w' (fun q => w.heap.size ≤ q) a n c l ∧ n ≤ 14 ∧ (∀ s ∈ l, s.length ≤ 4) ∧ Cur w' g ∧ Keep (fun q => q ≠ g) w w' := by
  refine (l32FacetsO_c g w h).mono ?_
  rintro e w' ⟨a, n, c, vs, l, rfl, hO, hlo, hC, hl, hn, h4, hCu, hK⟩
  exact ⟨a, n, c, l, rfl, ⟨⟨vs, hO.row hlo, hC.weak fun _ _ hb => hb.1⟩, hl⟩, hn, h4, hCu, hK⟩
end Go.Proofs.Yteianlmindckpaa
