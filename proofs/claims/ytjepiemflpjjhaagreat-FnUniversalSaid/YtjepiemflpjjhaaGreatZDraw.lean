/-
  The draws: the cursor over the code, a byte, a number below a bound.
-/
import Derived.Test.YtjepiemflpjjhaaGreatZBase
import Derived.Test.YtjepiemflpjjhaaGreatZCplx
set_option maxHeartbeats 8000000
set_option maxRecDepth 100000
namespace Go.Proofs.YtjepiemflpjjhaaGreat
open Go.ChangeShapes Go.WideShapes Go.ChangeAt Go.RowKit
structure RdB (w : World) (S : Nat → Prop) (a : Option Addr) (n cap : Nat) (bs : List Int) : Prop where
 row : Row w S 1 a n cap (bs.map (Value.int .u8))
 rng : ∀ x ∈ bs, 0 ≤ x ∧ x ≤ 255
theorem RdB.keep {S T : Nat → Prop} {w w' : World} {a : Option Addr} {n cap : Nat} {xs : List Int} (h : RdB w S a n cap xs) (hk : Keep T w w') (hST : ∀ b, b < w.heap.size → S b → T b) : RdB w' S a n cap xs := ⟨h.row.keep hk hST, h.rng⟩
theorem RdB.grow {S : Nat → Prop} {w w' : World} {a : Option Addr} {n cap : Nat} {xs : List Int} (h : RdB w S a n cap xs) (hk : Grow w w') : RdB w' S a n cap xs := h.keep hk fun _ _ _ => trivial
theorem RdB.weak {S T : Nat → Prop} {w : World} {a : Option Addr} {n cap : Nat} {xs : List Int} (h : RdB w S a n cap xs) (hST : ∀ b, b < w.heap.size → S b → T b) : RdB w T a n cap xs := ⟨h.row.weak hST, h.rng⟩
theorem RdB.len {S : Nat → Prop} {w : World} {a : Option Addr} {n cap : Nat} {xs : List Int} (h : RdB w S a n cap xs) : xs.length = n := by simpa using h.row.len
theorem RdB.at {S : Nat → Prop} {w : World} {a : Option Addr} {n cap : Nat} {xs : List Int} (h : RdB w S a n cap xs) {k : Nat} (hk : k < n) :
  ∃ b off x, a = some ⟨b, off, none⟩ ∧ (0 ≤ x ∧ x ≤ 255) ∧ S b ∧ b < w.heap.size ∧ w.cell? ⟨b, off + k, none⟩ = some (.int .u8 x) := by
 have hl := h.len
 have hlt : k < xs.length := by omega
 obtain ⟨b, off, ha, hS, hc⟩ := h.row.addr (by intro e; have := congrArg List.length e; simp at this; subst this; simp at hlt)
 have h1 := hc k (.int .u8 xs[k]) (by simp [List.getElem?_eq_getElem hlt])
 exact ⟨b, off, xs[k], ha, h.rng _ (List.getElem_mem hlt), hS, World.block_lt_of_cell? w _ h1, h1⟩
section
variable {H : Type} {enc : TypeId × Value → H} {P : Program} {w : World}
theorem openB {r : Reach} {b0 : Nat} {t e : TypeId} {v : Value} {d : DataW H} {ps : List MemPlace} (ht : P.underlying t = some (.slice e)) (he : P.underlying e = some (.int .u8)) (hc : P.cellsOf e = 1)
  (hval : Value.okWide P w r b0 t v) (h : DataW.Trod enc P w 0 (fun _ => true) true t v d ps) : ∃ a n cap xs, v = .slice a n cap ∧ RdB w (fun _ => True) a n cap xs := by
 obtain ⟨fuel, hf⟩ := h
 obtain ⟨a0, len0, cap0, rfl⟩ := okWide_slice ht hval
 rcases open_ints ht he hc hf with ⟨hcs, _⟩ | ⟨a, len, cap, zs, hcs, _, hl, hm, hz, _, hcell, hwz⟩
 ·simp [Value.cells] at hcs
  obtain ⟨rfl, rfl, rfl⟩ := hcs
  exact ⟨none, 0, 0, [], rfl, ⟨rfl, Nat.le_refl _, by simp [maxLen], fun _ => rfl, fun h => (h rfl).elim⟩, fun _ h => by cases h⟩
 ·simp [Value.cells] at hcs
  obtain ⟨rfl, rfl, rfl⟩ := hcs
  simp only [if_true] at hz
  refine ⟨some a, len0, cap0, zs.take len0, rfl, ⟨by simp; omega, hl, hm, (fun h => by cases h), fun hne => ?_⟩, fun n hn => ?_⟩
  ·have hlen : 0 < len0 := by
    rcases Nat.eq_zero_or_pos len0 with h0 | h0
    ·subst h0; simp at hne
    ·exact h0
   have h0 := hcell 0 (by omega)
   have hs : a.spot = none := by simpa [Addr.add] using World.cell?_spot h0
   obtain ⟨b, off, spot⟩ := a
   simp only at hs; subst hs
   refine ⟨b, off, rfl, trivial, fun j c hj => ?_⟩
   rw [List.getElem?_map] at hj
   obtain ⟨z, hz1, rfl⟩ := Option.map_eq_some_iff.1 hj
   rw [List.getElem?_take] at hz1
   split at hz1
   ·rename_i hjl
    have := hcell j (by omega)
    simp only [List.getD, hz1, Option.getD_some] at this
    have e2 : (⟨b, off, none⟩ : Addr).add j = ⟨b, off + j, none⟩ := by unfold Addr.add; split <;> simp_all
    rwa [e2] at this
   ·cases hz1
  ·have h := hwz n (List.mem_of_mem_take hn)
   have h1 : IntKind.u8.min = 0 := rfl
   have h2 : IntKind.u8.max = 255 := rfl
   simp only [Lit.wf, Bool.and_eq_true, decide_eq_true_eq] at h
   omega
end
theorem and_255 (z : Int) : 0 ≤ bits .and .i64 z 255 ∧ bits .and .i64 z 255 ≤ 255 := by
 have h0 : bits .and .i64 z 255 = IntKind.i64.wrap ((BitVec.ofInt 64 z &&& BitVec.ofInt 64 255).toNat : Int) := rfl
 have h1 : (BitVec.ofInt 64 z &&& BitVec.ofInt 64 255).toNat ≤ 255 := by
  rw [BitVec.toNat_and]
  exact Nat.and_le_right
 rw [h0, IntWalk.i64_in _ (by omega)]
 omega
theorem and_low (z : Int) : 0 ≤ bits .and .i64 z 1073741823 ∧ bits .and .i64 z 1073741823 ≤ 1073741823 := by
 have h0 : bits .and .i64 z 1073741823 = IntKind.i64.wrap ((BitVec.ofInt 64 z &&& BitVec.ofInt 64 1073741823).toNat : Int) := rfl
 have h1 : (BitVec.ofInt 64 z &&& BitVec.ofInt 64 1073741823).toNat ≤ 1073741823 := by
  rw [BitVec.toNat_and]
  exact Nat.and_le_right
 rw [h0, IntWalk.i64_in _ (by omega)]
 omega
def Cur (w : World) (g : Nat) : Prop := ∃ (ba : Option Addr) (bn bc : Nat) (bs : List Int) (i : Nat) (h : Int), Blk w g #[.slice ba bn bc, .int .i64 i, .int .i64 h] 72 ∧ RdB w (fun q => q < g) ba bn bc bs ∧ i ≤ bn ∧ bn ≤ 1048577 ∧ I64 h
theorem Cur.keep {w w' : World} {g : Nat} {T : Nat → Prop} (h : Cur w g) (hk : Keep T w w') (hT : ∀ q, q ≤ g → T q) : Cur w' g := by
 obtain ⟨ba, bn, bc, bs, i, x, h1, h2, h3⟩ := h
 exact ⟨ba, bn, bc, bs, i, x, h1.keep hk (hT g (Nat.le_refl _)), h2.keep hk fun b _ hb => hT b (Nat.le_of_lt hb), h3⟩
theorem Cur.grow {w w' : World} {g : Nat} (h : Cur w g) (hk : Grow w w') : Cur w' g := h.keep hk fun _ _ => trivial
theorem Cur.lt {w : World} {g : Nat} (h : Cur w g) : g < w.heap.size := by
 obtain ⟨_, _, _, _, _, _, h1, _⟩ := h
 exact h1.lt
theorem l1Byte_c (g : Nat) (w : World) (h : Cur w g) :
  Calls Tryz.prog 74 #[.pointer (some ⟨g, 0, none⟩)] w fun e w' => ∃ x : Nat, x ≤ 255 ∧ e = .returned (.int .i64 x) ∧ Cur w' g ∧ Keep (fun q => q ≠ g) w w' := by
 obtain ⟨ba, bn, bc, bs, i, y, hB, hR, hi, hbn, hy⟩ := h
 obtain ⟨⟨e0, e1, e2⟩, f0, f1, f2⟩ := hB.three
 go_enter Tryz.func74, Tryz.ntmps74
 go_wp2
 generalize hz : wrap64 (wrap64 (y * 6364136223846793005) + 1442695040888963407) = z
 have hzr : I64 z := by rw [← hz]; unfold wrap64 I64; omega
 have hB1 : Blk (w.setCell ⟨g, 2, none⟩ (.int .i64 z)) g #[.slice ba bn bc, .int .i64 i, .int .i64 z] 72 := hB.set 2 _
 have hK1 : Keep (fun q => q ≠ g) w (w.setCell ⟨g, 2, none⟩ (.int .i64 z)) := (Keep.refl _ w).setCell (p := ⟨g, 2, none⟩) (fun _ e => e rfl) _
 have hR1 := hR.keep hK1 fun q _ hb => Nat.ne_of_lt hb
 clear hz e0 e1 e2 f0 f1 f2 hR hB
 generalize w.setCell ⟨g, 2, none⟩ (.int .i64 z) = w1 at *
 obtain ⟨⟨e0, e1, e2⟩, f0, f1, f2⟩ := hB1.three
 have hx := and_255 (bits BinOp.xor IntKind.i64 (z / 8589934592) (z / 35184372088832))
 go_quiet (fail)
 go_wp2
 generalize bits BinOp.and IntKind.i64 (bits BinOp.xor IntKind.i64 (z / 8589934592) (z / 35184372088832)) 255 = x at *
 by_cases hlt : i < bn
 ·obtain ⟨bb, bo, u, rfl, hu, _, hbb, hbc⟩ := hR1.at hlt
  have hx2 := and_255 (x + u)
  go_quiet (fail)
  go_wp2
  go_quiet (fail)
  go_wp2
  go_ret
  have hGd : ∀ N, Grow w1 (w1.drewN N) := fun N => (Grow.refl w1).drewN N
  exact ⟨(bits BinOp.and IntKind.i64 (x + u) 255).toNat, by omega, ret_int (by omega), ⟨_, bn, bc, bs, i + 1, z, (hB1.grow (hGd _)).set 1 _, (hR1.grow (hGd _)).keep ((Keep.refl (fun q => q ≠ g) _).setCell (p := ⟨g, 1, none⟩) (fun _ e => e rfl) _) fun q _ hb => Nat.ne_of_lt hb, by omega, hbn, hzr⟩, (hK1.trans ((hGd _).mono fun _ _ _ => trivial)).setCell (p := ⟨g, 1, none⟩) (fun _ e => e rfl) _⟩
 ·go_quiet (fail)
  go_wp2
  go_ret
  have hGd : ∀ N M, Grow w1 ((w1.drewN N).drewN M) := fun N M => ((Grow.refl w1).drewN N).drewN M
  exact ⟨x.toNat, by omega, ret_int (by omega), ⟨_, bn, bc, bs, i, z, hB1.grow (hGd _ _), hR1.grow (hGd _ _), hi, hbn, hzr⟩, hK1.trans ((hGd _ _).mono fun _ _ _ => trivial)⟩
theorem l1Below_c (g n : Nat) (w : World) (h : Cur w g) (hn : n ≤ 256) :
  Calls Tryz.prog 40 #[.pointer (some ⟨g, 0, none⟩), .int .i64 n] w fun e w' => ∃ x : Nat, (x < n ∨ x = 0) ∧ e = .returned (.int .i64 x) ∧ Cur w' g ∧ Keep (fun q => q ≠ g) w w' := by
 go_enter Tryz.func40, Tryz.ntmps40
 by_cases h0 : 0 < n
 ·go_wp2_with fail
  refine (l1Byte_c g _ h).mono ?_
  rintro e w1 ⟨x, hx, rfl, hC, hK⟩
  go_wp2
  go_ret
  exact ⟨x % n, .inl (Nat.mod_lt _ h0), ret_int (by simp), hC, hK⟩
 ·go_wp2
  go_ret
  exact ⟨0, .inr rfl, rfl, h, Keep.refl _ _⟩
theorem l1Once_c (g n : Nat) (w : World) (h : Cur w g) (hn : n ≤ 256) :
  Calls Tryz.prog 56 #[.pointer (some ⟨g, 0, none⟩), .int .i64 n] w fun e w' => ∃ b : Bool, e = .returned (.bool b) ∧ Cur w' g ∧ Keep (fun q => q ≠ g) w w' := by
 go_enter Tryz.func56, Tryz.ntmps56
 go_wp2_with fail
 refine (l1Below_c g n _ h hn).mono ?_
 rintro e w1 ⟨x, hx, rfl, hC, hK⟩
 go_wp2
 all_goals (go_ret; exact ⟨_, rfl, hC, hK⟩)
theorem l1New_c {S : Nat → Prop} (a : Option Addr) (n cap : Nat) (bs : List Int) (w : World) (h : RdB w S a n cap bs) (hn : n ≤ 1048577) :
  Calls Tryz.prog 30 #[.slice a n cap] w fun e w' => ∃ g, w.heap.size ≤ g ∧ e = .returned (.pointer (some ⟨g, 0, none⟩)) ∧ Cur w' g ∧ Grow w w' := by
 go_enter Tryz.func30, Tryz.ntmps30
 go_wp2
 go_loopw [3, 4] (fun u i wr => wr = w ∧ ∃ (k : Nat) (x : Int), k ≤ n ∧ i = .int .i64 k ∧ u = .int .i64 x ∧ -1073741824 ≤ x ∧ x ≤ 1073741824) (fun _ i _ => n - (intOf i).toNat)
 case atStart => exact ⟨rfl, 0, _, Nat.zero_le _, rfl, rfl, by omega, by omega⟩
 case round =>
  obtain ⟨hww, k, x, hk, rfl, rfl, hx1, hx2⟩ := hrel
  subst hww
  by_cases hlt : k < n
  ·by_cases h4 : k < 4000
   ·obtain ⟨bb, bo, u, rfl, hu, _, hbb, hbc⟩ := h.at hlt
    have hal := and_low (x * 131 + u + 7)
    go_wp2
    go_roundw
    case rel => exact ⟨trivial, k + 1, _, by omega, by go_num, rfl, by omega, by omega⟩
    case measure => simp [intOf]; omega
   ·go_wp2
    go_ret
    exact ⟨_, Nat.le_refl _, rfl, ⟨a, n, cap, bs, 0, x, Blk.new _ _ _, ((h.weak (T := fun q => q < wr.heap.size) fun q hq _ => hq).grow ((Grow.refl wr).alloc _ _)), Nat.zero_le _, hn, by unfold I64; omega⟩, (Grow.refl wr).alloc _ _⟩
  ·go_wp2
   go_ret
   exact ⟨_, Nat.le_refl _, rfl, ⟨a, n, cap, bs, 0, x, Blk.new _ _ _, ((h.weak (T := fun q => q < wr.heap.size) fun q hq _ => hq).grow ((Grow.refl wr).alloc _ _)), Nat.zero_le _, hn, by unfold I64; omega⟩, (Grow.refl wr).alloc _ _⟩
end Go.Proofs.YtjepiemflpjjhaaGreat

namespace Go.Proofs.YtjepiemflpjjhaaGreat
open Go.RowKit
theorem RdI.lit {w : World} {S : Nat → Prop} {g n : Nat} {cs : Array Value} {t : TypeId} {xs : List Int} (h : Blk w g cs t) (hc : cs.toList = ints xs) (hn : n = xs.length) (hm : xs.length ≤ 100) (hr : ∀ x ∈ xs, I64 x) (hS : S g) : RdI w S (some ⟨g, 0, none⟩) n n xs :=
 ⟨⟨by simp [hn], Nat.le_refl _, by unfold maxLen; omega, (fun h => by cases h), fun _ => ⟨g, 0, rfl, hS, fun j c hj => by rw [Nat.zero_add, h.cell, ← hj, ← hc, Array.getElem?_toList]⟩⟩, hr⟩
theorem RdCells.cons {w : World} {S : Nat → Prop} {vs : List Value} {l : List (List Int)} {b : Option Addr} {n c : Nat} {s : List Int} (hn : n = s.length) (h : RdI w S b n c s) (h2 : RdCells w S vs l) : RdCells w S (.slice b n c :: vs) (s :: l) := fun i xs hi => by
 subst hn
 cases i with
 | zero =>
  obtain rfl : s = xs := by simpa using hi
  exact ⟨b, c, rfl, h⟩
 | succ i =>
  obtain ⟨b', c', h3, h4⟩ := h2 i xs (by simpa using hi)
  exact ⟨b', c', by simpa using h3, h4⟩
theorem RdII.lit {w : World} {S : Nat → Prop} {g n : Nat} {cs : Array Value} {t : TypeId} {l : List (List Int)} (h : Blk w g cs t) (hC : RdCells w S cs.toList l) (hn : l.length = n) (hs : cs.size = n) (hm : n ≤ 100) (hS : S g) : RdII w S (some ⟨g, 0, none⟩) n n l :=
 ⟨⟨cs.toList, ⟨by simp [hs], Nat.le_refl _, by unfold maxLen; omega, (fun h => by cases h), fun _ => ⟨g, 0, rfl, hS, fun j c hj => by rw [Nat.zero_add, h.cell, ← hj, Array.getElem?_toList]⟩⟩, hC⟩, hn⟩
theorem Row.bAt {w : World} {S : Nat → Prop} {e : TypeId} {sz g : Nat} {cs : Array Value} (n : Nat) (hg : g = w.heap.size) (hn : n ≤ maxLen) (hs : cs.size = n * sz) (hS : ∀ b, S b) : Row (w.alloc (.cells cs e)) S sz (some ⟨g, 0, none⟩) n n cs.toList := by
 subst hg; exact Row.built n hn hs (hS _)
theorem Keep.on {S T : Nat → Prop} {a b c : World} (h : Keep S a b) (k : Keep T b c) (hT : ∀ i, i < a.heap.size → S i → T i) : Keep S a c :=
 ⟨k.os.trans h.os, k.tape.trans h.tape, k.output.trans h.output, Nat.le_trans h.size k.size, fun x hx => (k.frozen x (Nat.lt_of_lt_of_le hx h.size)).trans (h.frozen x hx),
  fun i hi hs => (k.block i (Nat.lt_of_lt_of_le hi h.size) (hT i hi hs)).trans (h.block i hi hs)⟩
theorem RdCells.appB {B : Nat} {w2 w3 : World} {e : TypeId} {a a3 b : Option Addr} {n c3 c : Nat} {vs : List Value} {T : List (List Int)} {s : List Int} {cs : List Value} (h : RdCells w2 (fun q => B ≤ q ∧ blk a ≠ some q) vs T) (hl : vs.length = T.length) (hs : RdI w2 (fun q => B ≤ q ∧ blk a ≠ some q) b s.length c s)
  (hA : Apped w2 w3 e 1 a a3 n c3 cs) : RdCells w3 (fun q => B ≤ q ∧ blk a3 ≠ some q) (vs ++ [.slice b s.length c]) (T ++ [s]) := by
 have key : ∀ q, q < w2.heap.size → blk a ≠ some q → blk a3 ≠ some q := fun q hq hne e => by
  rcases hA.new with e2 | ⟨g, e2, hg⟩
  ·rw [e2] at e; exact hne e
  ·rw [e2] at e; have := Option.some.inj e; omega
 have h1 := (h.weak (T := fun q => q < w2.heap.size ∧ B ≤ q ∧ blk a ≠ some q) fun q hq hb => ⟨hq, hb⟩).keep hA.keep (fun q _ hb => hb.2.2)
 have h2 := (hs.weak (T := fun q => q < w2.heap.size ∧ B ≤ q ∧ blk a ≠ some q) fun q hq hb => ⟨hq, hb⟩).keep hA.keep (fun q _ hb => hb.2.2)
 exact (h1.weak fun q _ hb => ⟨hb.2.1, key q hb.1 hb.2.2⟩).snoc hl (h2.weak fun q _ hb => ⟨hb.2.1, key q hb.1 hb.2.2⟩)
def litW (w : World) : List (List Int) → World
 | [] => w
 | s :: r => litW (w.alloc (.cells (ints s).toArray 3)) r
def litV (k : Nat) : List (List Int) → List Value
 | [] => []
 | s :: r => .slice (some ⟨k, 0, none⟩) s.length s.length :: litV (k + 1) r
theorem litW_grow : ∀ (L : List (List Int)) (w : World), Grow w (litW w L)
 | [], w => Grow.refl w
 | _ :: r, w => ((Grow.refl w).alloc _ _).trans (litW_grow r _)
theorem litV_len : ∀ (L : List (List Int)) (k : Nat), (litV k L).length = L.length
 | [], _ => rfl
 | _ :: r, k => by simp [litV, litV_len r]
theorem litW_rd : ∀ (L : List (List Int)) (w : World) (B : Nat), B ≤ w.heap.size → (∀ s ∈ L, s.length ≤ 100 ∧ ∀ x ∈ s, I64 x) → RdCells (litW w L) (fun q => B ≤ q) (litV w.heap.size L) L
 | [], w, B, _, _ => RdCells.nilw
 | s :: r, w, B, hB, h => by
  have ih := litW_rd r (w.alloc (.cells (ints s).toArray 3)) B (by simp; omega) (fun x hx => h x (by simp [hx]))
  rw [show (w.alloc (.cells (ints s).toArray 3)).heap.size = w.heap.size + 1 by simp] at ih
  have h1 := RdI.lit (w := litW w (s :: r)) (S := fun q => B ≤ q) (g := w.heap.size) (n := s.length) ((Blk.new w (ints s).toArray 3).grow (litW_grow r _)) (xs := s) (by simp) rfl (h s (by simp)).1 (h s (by simp)).2 hB
  exact RdCells.cons rfl h1 ih
theorem litII (L : List (List Int)) (w W : World) (n : Nat) (cs : Array Value) (B k : Nat) (hW : W = (litW w L).alloc (.cells cs 27)) (hcs : cs = (litV w.heap.size L).toArray) (hn : L.length = n) (hm : n ≤ 100) (h : ∀ s ∈ L, s.length ≤ 100 ∧ ∀ x ∈ s, I64 x) (hB : B ≤ w.heap.size) (hk : k = (litW w L).heap.size) :
  Own W 27 1 (some ⟨k, 0, none⟩) n n cs.toList ∧ RdCells W (fun q => B ≤ q ∧ blk (some (⟨k, 0, none⟩ : Addr)) ≠ some q) cs.toList L ∧ B ≤ k ∧ Grow w W := by
 subst hW
 have hG := litW_grow L w
 have hs := hG.size
 subst hk
 refine ⟨Own.fresh (by unfold maxLen; omega) (by rw [hcs]; simp [litV_len, hn]), ?_, by omega, hG.alloc _ _⟩
 rw [hcs]
 exact ((litW_rd L w B hB h).weak (T := fun q => B ≤ q ∧ blk (some (⟨(litW w L).heap.size, 0, none⟩ : Addr)) ≠ some q) (fun q hq hb => ⟨hb, by simp; omega⟩)).grow ((Grow.refl _).alloc _ _)
theorem lit_ok {L : List (List Int)} (h : (L.all fun s => decide (s.length ≤ 100) && s.all fun x => decide (-100 ≤ x ∧ x ≤ 100)) = true) : ∀ s ∈ L, s.length ≤ 100 ∧ ∀ x ∈ s, I64 x := fun s hs => by
 have := List.all_eq_true.1 h s hs
 rw [Bool.and_eq_true, decide_eq_true_eq, List.all_eq_true] at this
 exact ⟨this.1, fun x hx => by have := this.2 x hx; rw [decide_eq_true_eq] at this; unfold I64; omega⟩
theorem l32FacetsO_c (g : Nat) (w : World) (h : Cur w g) :
  Calls Tryz.prog 73 #[.pointer (some ⟨g, 0, none⟩)] w fun e w' => ∃ a n c vs l, e = .returned (.slice a n c) ∧ Own w' 27 1 a n c vs ∧ (∀ q, blk a = some q → w.heap.size ≤ q) ∧ RdCells w' (fun q => w.heap.size ≤ q ∧ blk a ≠ some q) vs l ∧ l.length = n ∧ n ≤ 14 ∧ (∀ s ∈ l, s.length ≤ 4) ∧ Cur w' g ∧ Keep (fun q => q ≠ g) w w' := by
 have hg := h.lt
 go_enter Tryz.func73, Tryz.ntmps73
 go_wp2_with fail
 refine (l1Below_c g 7 _ h (by omega)).mono ?_
 rintro e w1 ⟨x, hx, rfl, hC, hK⟩
 have hs1 := hK.size
 rcases (show x = 2 ∨ x = 6 ∨ x = 0 ∨ x = 1 ∨ x = 3 ∨ x = 4 ∨ x = 5 by omega) with rfl | rfl | rfl | rfl | rfl | rfl | rfl
 ·go_wp2
  go_ret
  have hL := litII [[0, 1, 2], [0, 1, 3], [0, 2, 3], [1, 2, 3]] w1 _ 4 _ w.heap.size (w1.heap.size + 4) rfl rfl rfl (by decide) (lit_ok (by decide)) hs1 (by simp [litW])
  exact ⟨_, _, _, _, [[0, 1, 2], [0, 1, 3], [0, 2, 3], [1, 2, 3]], rfl, hL.1, (fun q hq => by have := hL.2.2.1; simp at hq; omega), hL.2.1, rfl, by decide, by decide, hC.grow hL.2.2.2, hK.trans hL.2.2.2.any⟩
 ·go_wp2_with fail
  refine (l1Below_c g 5 _ (hC.grow ((Grow.refl _).alloc _ _)) (by omega)).mono ?_
  rintro e w2 ⟨m, hm, rfl, hC2, hK2⟩
  have hK02 : Keep (fun q => q ≠ g) w w2 := (hK.trans (Grow.any ((Grow.refl w1).alloc _ _))).trans hK2
  have hO2 : Own w2 27 1 (some ⟨w1.heap.size, 0, none⟩) 0 0 [] := (Own.freshAt rfl (by unfold maxLen; omega) rfl).keep hK2 (fun q hq _ e => by simp at hq; omega)
  go_wp2
  go_loopw [3, 4] (fun u i wr => Keep (fun q => q ≠ g) w wr ∧ Cur wr g ∧ ∃ (k n1 c1 : Nat) (a1 : Option Addr) (vs : List Value) (T : List (List Int)), i = .int .i64 k ∧ u = .slice a1 n1 c1 ∧ n1 + 2 * k ≤ 8 ∧ (∀ q, blk a1 = some q → w.heap.size ≤ q) ∧ Own wr 27 1 a1 n1 c1 vs ∧ T.length = n1 ∧ (∀ s ∈ T, s.length ≤ 4) ∧ RdCells wr (fun q => w.heap.size ≤ q ∧ blk a1 ≠ some q) vs T) (fun _ i _ => (intOf i).toNat)
  case atStart => exact ⟨hK02, hC2, m, 0, 0, _, [], [], rfl, rfl, by omega, fun q hq => by simp at hq; omega, hO2, rfl, by simp, RdCells.nilw⟩
  case round =>
   clear hO2 hC2 hK02 hK2 hC hK h
   obtain ⟨hK, hC, k, n1, c1, a1, vs, T, rfl, rfl, hb, hlo, hO, hTl, hT4, hCe⟩ := hrel
   have hsz := hK.size
   have hvl : vs.length = T.length := by have := hO.len; simp at this; omega
   by_cases hk : 0 < k
   ·go_wp2_with fail
    refine (l1Below_c g 4 _ hC (by omega)).mono ?_
    rintro e w3 ⟨x, hx, rfl, hC3, hK3⟩
    go_wp2_with fail
    refine (l1Below_c g 3 _ hC3 (by omega)).mono ?_
    rintro e w4 ⟨y, hy, rfl, hC4, hK4⟩
    have hx4 : x ≤ 3 := by omega
    have hy4 : y ≤ 2 := by omega
    have hK34 := hK3.trans hK4
    have hO4 := hO.keep hK34 (fun q hq _ e => by have := hlo q hq; omega)
    have hCe4 := hCe.keep hK34 (fun q _ hb e => by have := hb.1; omega)
    have hKw := hK.trans hK34
    have hs4 := hKw.size
    clear hO hCe hK hC hC3 hK3 hK4 hK34
    go_wp2_with (first | (at_builtin; refine wpList_app rfl (.tmp 82) (.tmp 86) _ rfl T_intss rfl (hO4.grow (((Grow.refl _).alloc _ _).alloc _ _)) rfl (Row.bAt (S := fun _ => True) 1 (by simp) (by unfold maxLen; omega) rfl (fun _ => trivial)) (by simp [Value.oneCell']) (by omega) (by unfold maxLen; omega) ?_; intro a5 c5 w5 hA5))
    have hG4 := ((Grow.refl w4).alloc #[.int .i64 (x : Int), .int .i64 ((x : Int) + 1 + (y : Int))] 3).alloc #[.slice (some ⟨w4.heap.size, 0, none⟩) 2 2] 27
    have hl2 : RdI ((w4.alloc (.cells #[.int .i64 (x : Int), .int .i64 ((x : Int) + 1 + (y : Int))] 3)).alloc (.cells #[.slice (some ⟨w4.heap.size, 0, none⟩) 2 2] 27)) (fun q => w.heap.size ≤ q ∧ blk a1 ≠ some q) (some ⟨w4.heap.size, 0, none⟩) 2 2 [(x : Int), (x : Int) + 1 + (y : Int)] :=
     RdI.lit ((Blk.new _ _ _).alloc _) rfl rfl (by simp) (by intro z hz; simp at hz; unfold I64; omega) ⟨hs4, fun e => by have := hO4.lt e; omega⟩
    have hCe5 := RdCells.appB (s := [(x : Int), (x : Int) + 1 + (y : Int)]) (hCe4.grow hG4) hvl hl2 hA5
    have hC5 := (hC4.grow hG4).keep hA5.keep (fun q hq e => by have := hlo q e; omega)
    have hK5 := (hKw.trans hG4.any).on hA5.keep (fun q hq _ e => by have := hlo q e; omega)
    have hlo5 := hA5.lo (B := w.heap.size) (by have := hG4.size; omega) hlo
    have hO5 := hA5.own
    have hT5 : ∀ s ∈ T ++ [[(x : Int), (x : Int) + 1 + (y : Int)]], s.length ≤ 4 := fun s hs => by
     rcases List.mem_append.1 hs with hs | hs
     ·exact hT4 s hs
     ·simp at hs; subst hs; simp
    have hTl5 : (T ++ [[(x : Int), (x : Int) + 1 + (y : Int)]]).length = n1 + 1 := by simp [hTl]
    generalize hT' : T ++ [[(x : Int), (x : Int) + 1 + (y : Int)]] = T' at *
    clear hT' hl2 hCe4 hO4 hG4 hA5 hC4 hKw hs4
    generalize vs ++ [Value.slice (some ⟨w4.heap.size, 0, none⟩) 2 2] = vs' at *
    have hs5 := hK5.size
    refine (l1Once_c g 2 _ hC5 (by omega)).mono ?_
    rintro e w6 ⟨b, rfl, hC6, hK6⟩
    have hO6 := hO5.keep hK6 (fun q hq _ e => by have := hlo5 q hq; omega)
    have hCe6 := hCe5.keep hK6 (fun q _ hb e => by have := hb.1; omega)
    have hK06 := hK5.trans hK6
    cases b with
    | false =>
     go_wp2
     go_roundw
     case rel => exact ⟨hK06, hC6, k - 1, n1 + 1, c5, a5, _, T', by go_num, rfl, by omega, hlo5, hO6, hTl5, hT5, hCe6⟩
     case measure => simp [intOf]; omega
    | true =>
     go_wp2_with fail
     refine (l1Below_c g 2 _ hC6 (by omega)).mono ?_
     rintro e w7 ⟨z, hz, rfl, hC7, hK7⟩
     have hz4 : z ≤ 1 := by omega
     have hO7 := hO6.keep hK7 (fun q hq _ e => by have := hlo5 q hq; omega)
     have hCe7 := hCe6.keep hK7 (fun q _ hb e => by have := hb.1; omega)
     have hKw := hK06.trans hK7
     have hs7 := hKw.size
     have hvl5 : vs'.length = T'.length := by have := hO7.len; simp at this; omega
     clear hO5 hO6 hCe5 hCe6 hC5 hC6 hK5 hK6 hK06 hK7
     go_wp2_with (first | (at_builtin; refine wpList_app rfl (.tmp 90) (.tmp 99) _ rfl T_intss rfl (hO7.grow (((Grow.refl _).alloc _ _).alloc _ _)) rfl (Row.bAt (S := fun _ => True) 1 (by simp) (by unfold maxLen; omega) rfl (fun _ => trivial)) (by simp [Value.oneCell']) (by omega) (by unfold maxLen; omega) ?_; intro a8 c8 w8 hA8))
     have hG8 := ((Grow.refl w7).alloc #[.int .i64 (x : Int), .int .i64 ((x : Int) + 1 + (y : Int)), .int .i64 ((x : Int) + 1 + (y : Int) + 1 + (z : Int))] 3).alloc #[.slice (some ⟨w7.heap.size, 0, none⟩) 3 3] 27
     have hl3 : RdI ((w7.alloc (.cells #[.int .i64 (x : Int), .int .i64 ((x : Int) + 1 + (y : Int)), .int .i64 ((x : Int) + 1 + (y : Int) + 1 + (z : Int))] 3)).alloc (.cells #[.slice (some ⟨w7.heap.size, 0, none⟩) 3 3] 27)) (fun q => w.heap.size ≤ q ∧ blk a5 ≠ some q) (some ⟨w7.heap.size, 0, none⟩) 3 3 [(x : Int), (x : Int) + 1 + (y : Int), (x : Int) + 1 + (y : Int) + 1 + (z : Int)] :=
      RdI.lit ((Blk.new _ _ _).alloc _) rfl rfl (by simp) (by intro u hu; simp at hu; unfold I64; omega) ⟨hs7, fun e => by have := hO7.lt e; omega⟩
     have hCe8 := RdCells.appB (s := [(x : Int), (x : Int) + 1 + (y : Int), (x : Int) + 1 + (y : Int) + 1 + (z : Int)]) (hCe7.grow hG8) hvl5 hl3 hA8
     have hC8 := (hC7.grow hG8).keep hA8.keep (fun q hq e => by have := hlo5 q e; omega)
     have hK8 := (hKw.trans hG8.any).on hA8.keep (fun q hq _ e => by have := hlo5 q e; omega)
     have hlo8 := hA8.lo (B := w.heap.size) (by have := hG8.size; omega) hlo5
     have hO8 := hA8.own
     have hT8 : ∀ s ∈ T' ++ [[(x : Int), (x : Int) + 1 + (y : Int), (x : Int) + 1 + (y : Int) + 1 + (z : Int)]], s.length ≤ 4 := fun s hs => by
      rcases List.mem_append.1 hs with hs | hs
      ·exact hT5 s hs
      ·simp at hs; subst hs; simp
     have hTl8 : (T' ++ [[(x : Int), (x : Int) + 1 + (y : Int), (x : Int) + 1 + (y : Int) + 1 + (z : Int)]]).length = n1 + 1 + 1 := by simp [hTl5]
     go_wp2
     go_roundw
     case rel => exact ⟨hK8, hC8, k - 1, n1 + 1 + 1, c8, a8, _, _, by go_num, rfl, by omega, hlo8, hO8, hTl8, hT8, hCe8⟩
     case measure => simp [intOf]; omega
   ·go_wp2
    go_ret
    exact ⟨_, _, _, vs, T, rfl, hO, hlo, hCe, hTl, by omega, hT4, hC, hK⟩
 ·go_wp2
  go_ret
  have hL := litII [[0, 1, 4], [0, 1, 5], [0, 2, 3], [0, 2, 5], [0, 3, 4], [1, 2, 3], [1, 2, 4], [1, 3, 5], [2, 4, 5], [3, 4, 5]] w1 _ 10 _ w.heap.size (w1.heap.size + 10) rfl rfl rfl (by decide) (lit_ok (by decide)) hs1 (by simp [litW])
  exact ⟨_, _, _, _, [[0, 1, 4], [0, 1, 5], [0, 2, 3], [0, 2, 5], [0, 3, 4], [1, 2, 3], [1, 2, 4], [1, 3, 5], [2, 4, 5], [3, 4, 5]], rfl, hL.1, (fun q hq => by have := hL.2.2.1; simp at hq; omega), hL.2.1, rfl, by decide, by decide, hC.grow hL.2.2.2, hK.trans hL.2.2.2.any⟩
 ·go_wp2
  go_ret
  have hL := litII [[0, 1, 3], [1, 2, 4], [2, 3, 5], [3, 4, 6], [0, 4, 5], [1, 5, 6], [0, 2, 6], [0, 1, 5], [1, 2, 6], [0, 2, 3], [1, 3, 4], [2, 4, 5], [3, 5, 6], [0, 4, 6]] w1 _ 14 _ w.heap.size (w1.heap.size + 14) rfl rfl rfl (by decide) (lit_ok (by decide)) hs1 (by simp [litW])
  exact ⟨_, _, _, _, [[0, 1, 3], [1, 2, 4], [2, 3, 5], [3, 4, 6], [0, 4, 5], [1, 5, 6], [0, 2, 6], [0, 1, 5], [1, 2, 6], [0, 2, 3], [1, 3, 4], [2, 4, 5], [3, 5, 6], [0, 4, 6]], rfl, hL.1, (fun q hq => by have := hL.2.2.1; simp at hq; omega), hL.2.1, rfl, by decide, by decide, hC.grow hL.2.2.2, hK.trans hL.2.2.2.any⟩
 ·go_wp2
  go_ret
  have hL := litII [[0, 1], [1, 2], [0, 2], [2, 3], [3, 4], [2, 4], [7]] w1 _ 7 _ w.heap.size (w1.heap.size + 7) rfl rfl rfl (by decide) (lit_ok (by decide)) hs1 (by simp [litW])
  exact ⟨_, _, _, _, [[0, 1], [1, 2], [0, 2], [2, 3], [3, 4], [2, 4], [7]], rfl, hL.1, (fun q hq => by have := hL.2.2.1; simp at hq; omega), hL.2.1, rfl, by decide, by decide, hC.grow hL.2.2.2, hK.trans hL.2.2.2.any⟩
 ·go_wp2
  go_ret
  have hL := litII [[0, 1, 2], [1, 2, 3], [3, 4], [5]] w1 _ 4 _ w.heap.size (w1.heap.size + 4) rfl rfl rfl (by decide) (lit_ok (by decide)) hs1 (by simp [litW])
  exact ⟨_, _, _, _, [[0, 1, 2], [1, 2, 3], [3, 4], [5]], rfl, hL.1, (fun q hq => by have := hL.2.2.1; simp at hq; omega), hL.2.1, rfl, by decide, by decide, hC.grow hL.2.2.2, hK.trans hL.2.2.2.any⟩
 ·go_wp2
  go_ret
  have hL := litII [[0, 1, 2, 3], [1, 2, 3, 4]] w1 _ 2 _ w.heap.size (w1.heap.size + 2) rfl rfl rfl (by decide) (lit_ok (by decide)) hs1 (by simp [litW])
  exact ⟨_, _, _, _, [[0, 1, 2, 3], [1, 2, 3, 4]], rfl, hL.1, (fun q hq => by have := hL.2.2.1; simp at hq; omega), hL.2.1, rfl, by decide, by decide, hC.grow hL.2.2.2, hK.trans hL.2.2.2.any⟩
theorem l32Facets_c (g : Nat) (w : World) (h : Cur w g) :
  Calls Tryz.prog 73 #[.pointer (some ⟨g, 0, none⟩)] w fun e w' => ∃ a n c l, e = .returned (.slice a n c) ∧ RdII w' (fun q => w.heap.size ≤ q) a n c l ∧ n ≤ 14 ∧ (∀ s ∈ l, s.length ≤ 4) ∧ Cur w' g ∧ Keep (fun q => q ≠ g) w w' := by
 refine (l32FacetsO_c g w h).mono ?_
 rintro e w' ⟨a, n, c, vs, l, rfl, hO, hlo, hC, hl, hn, h4, hCu, hK⟩
 exact ⟨a, n, c, l, rfl, ⟨⟨vs, hO.row hlo, hC.weak fun _ _ hb => hb.1⟩, hl⟩, hn, h4, hCu, hK⟩
end Go.Proofs.YtjepiemflpjjhaaGreat

namespace Go.Proofs.YtjepiemflpjjhaaGreat
open Go.RowKit
theorem RdCells.take {w : World} {S : Nat → Prop} {vs : List Value} {l : List (List Int)} (h : RdCells w S vs l) (k : Nat) : RdCells w S (vs.take k) (l.take k) := fun i xs hi => by
 rw [List.getElem?_take] at hi ⊢
 split at hi
 ·rename_i hlt; rw [if_pos hlt]; exact h i xs hi
 ·cases hi
theorem RdCells.drop {w : World} {S : Nat → Prop} {vs : List Value} {l : List (List Int)} (h : RdCells w S vs l) (k : Nat) : RdCells w S (vs.drop k) (l.drop k) := fun i xs hi => by
 rw [List.getElem?_drop] at hi ⊢
 exact h _ xs hi
theorem cplxOut_small (l : List (List Int)) : (cplxOut l).length ≤ 96 ∧ ∀ s ∈ cplxOut l, s.length ≤ 4 := by
 unfold cplxOut
 split
 ·rename_i h
  unfold cplxOk at h
  simp only [Bool.and_eq_true] at h
  exact ⟨cplx_len h.2.2, fun s hs => (simp_len ((isCplxB_iff.1 h.2.2).1.1 s hs)).2⟩
 ·exact ⟨by simp, by simp⟩
theorem l32Complex_c (g : Nat) (w : World) (h : Cur w g) :
  Calls Tryz.prog 39 #[.pointer (some ⟨g, 0, none⟩)] w fun e w' => ∃ a n c l, e = .returned (.slice a n c) ∧ RdII w' (fun q => w.heap.size ≤ q) a n c l ∧ n ≤ 96 ∧ (∀ s ∈ l, s.length ≤ 4) ∧ Cur w' g ∧ Keep (fun q => q ≠ g) w w' := by
 have hg := h.lt
 go_enter Tryz.func39, Tryz.ntmps39
 go_wp2_with fail
 refine (l32Facets_c g _ h).mono ?_
 rintro e w1 ⟨a0, n0, c0, l0, rfl, hR0, hn0, h40, hC1, hK1⟩
 have hs1 := hK1.size
 have ht0 := total_small h40
 have hl0 := hR0.len
 go_wp2_with fail
 refine (specComplexOf_c _ _ _ l0 _ hR0 (by omega) (by omega)).mono ?_
 rintro e w2 ⟨a, m, c, rfl, hR, hG2⟩
 obtain ⟨hm96, h4⟩ := cplxOut_small l0
 have hml := hR.len
 rw [hml] at hm96
 have hR2 := hR.weak (T := fun q => w.heap.size ≤ q) (fun q _ hb => by omega)
 have hC2 := hC1.grow hG2
 have hK2 := hK1.trans hG2.any
 clear hR0 hR hC1 hK1
 generalize cplxOut l0 = l at *
 generalize cplxOk l0 = ok at *
 clear ht0 hl0
 have Hml := Lib.hid hml; clear hml
 by_cases h0 : 0 < m
 ·go_wp2_with fail
  refine (l1Once_c g 16 _ hC2 (by omega)).mono ?_
  rintro e w3 ⟨b, rfl, hC3, hK3⟩
  have hK03 := hK2.trans hK3
  have hR3 := hR2.keep hK3 (fun q _ hb e => by omega)
  cases b with
  | false =>
   go_wp2
   go_ret
   exact ⟨_, _, _, l, rfl, hR3, hm96, h4, hC3, hK03⟩
  | true =>
   go_wp2_with fail
   refine (l1Below_c g m _ hC3 (by omega)).mono ?_
   rintro e w5 ⟨k, hk, rfl, hC5, hK5⟩
   have hK05 := hK03.trans hK5
   obtain ⟨⟨vs, hV1, hV2⟩, _⟩ := hR3.keep hK5 (fun q _ hb e => by omega)
   replace hV2 : RdCells w5 (fun q => w.heap.size ≤ q) vs l := hV2
   have hvl : vs.length = m := by have := hV1.len; omega
   have hs5 := hK05.size
   have hkm : k < m := by omega
   have hle := hV1.le
   have hmax := hV1.max
   unfold maxLen at hmax
   have h1c := hV2.one (by have := Hml.out; omega)
   have r1 := T_intss.atH (a := a) (n := m) (cap := c) (k := k) (i := k) rfl (by omega)
   have r2 := T_intss.atL (a := a) (n := m) (cap := c) (l := k + 1) (i := k + 1) rfl (by omega)
   have d1 := hV1.pre (k := k) (by omega)
   rw [Nat.mul_one] at d1
   have d2 := hV1.suf (k := k + 1) (by omega)
   clear hR2 hC2 hK2 hC3 hK3 hR3 hK5 hK03 hG2 hk
   go_wp2
   refine wp_region_mix (S := Grow w5) [1, 2, 3, 5, 6, 7, 8] [0, 4, 9, 10] P_mixed (by kernel_rfl) (fun _ _ _ _ _ h => h) (Grow.refl _).drew ?_
   show wpQuiet _ _ _ (fun a' => wpListS _ _ _ _ [_, _, _, _] a' _) [_, _, _, _, _, _, _] _
   repeat (first | go_big_quiet_skip | (go_big_quiet_want; first | (apply quiet_sliceH (x := .tmp 24) (h := .tmp 25); rfl; exact r1; go_big_quiet_on; simp only [Act.put, List.setIfInBounds_toArray, List.set_cons_succ, List.set_cons_zero]) | (apply quiet_sliceL (x := .tmp 28) (l := .tmp 30); rfl; exact r2; go_big_quiet_on; simp only [Act.put, List.setIfInBounds_toArray, List.set_cons_succ, List.set_cons_zero]) | (go_big_quiet_op; first | go_big_quiet_on | (refine ⟨_, (fun _ _ => rfl), ?_⟩; go_big_quiet_on))))
   refine wpQuiet_nil ?_
   show wpListS _ _ _ _ _ _ _
   refine wpListS_step rfl (fun K hK => ?_)
   go_wp2_with fail
   refine hK _ _ (((Grow.refl w5).alloc _ _).drew) ?_
   clear hK K
   have hE : Own (w5.alloc (.cells #[] 27)).drew 27 1 (some ⟨w5.heap.size, 0, none⟩) 0 0 [] := (Own.fresh (w := w5) (by unfold maxLen; omega) rfl).grow (Grow.refl _).drew
   refine wpListS_step rfl (fun K hK => ?_)
   refine wp_app (.tmp 23) (.tmp 26) _ rfl T_intss rfl hE rfl (d1.grow ((Grow.refl w5).alloc _ _).drew) (fun u hu => h1c u (List.mem_of_mem_take hu)) (by omega) (by unfold maxLen; omega) ?_
   intro a2 c2 w6 hA2
   have hG6 : Grow w5 w6 := hA2.grow ((Grow.refl w5).alloc _ _).drew (fun g hg => by simp at hg; omega)
   have hB2 : ∀ q, blk a2 = some q → w5.heap.size ≤ q := hA2.lo (by simp) (fun g hg => by simp at hg; omega)
   refine hK _ _ (hG6) ?_
   clear hK K
   simp only [Act.put, List.setIfInBounds_toArray, List.set_cons_succ, List.set_cons_zero]
   refine wpListS_step rfl (fun K hK => ?_)
   refine wp_app (.tmp 27) (.tmp 31) _ rfl T_intss rfl hA2.own rfl (d2.grow hG6) (fun u hu => h1c u (List.mem_of_mem_drop hu)) (by omega) (by unfold maxLen; omega) ?_
   intro a3 c3 w7 hA3
   have hG7 : Grow w5 w7 := hA3.grow hG6 hB2
   have hB3 : ∀ q, blk a3 = some q → w5.heap.size ≤ q := hA3.lo hG6.size hB2
   refine hK _ _ (hG7) ?_
   clear hK K
   simp only [Act.put, List.setIfInBounds_toArray, List.set_cons_succ, List.set_cons_zero]
   refine wpListS_step rfl (fun K hK => ?_)
   go_wp2_with fail
   refine hK _ _ (hG7) ?_
   clear hK K
   refine wpListS_nil ?_
   go_wp2
   go_ret
   have hO := hA3.own
   have hcells : RdCells w7 (fun q => w.heap.size ≤ q) (vs.take k ++ vs.drop (k + 1)) (l.take k ++ l.drop (k + 1)) := RdCells.append ((hV2.grow hG7).take k) ((hV2.grow hG7).drop (k + 1)) (by have := Hml.out; simp; omega)
   refine ⟨a3, 0 + k + (m - (k + 1)), c3, l.take k ++ l.drop (k + 1), rfl, ⟨⟨vs.take k ++ vs.drop (k + 1), ?_, hcells⟩, by have := Hml.out; simp; omega⟩, by omega, ?_, hC5.grow hG7, hK05.trans hG7.any⟩
   ·have := hO.row (S := fun q => w.heap.size ≤ q) (fun q hq => by have := hB3 q hq; omega)
    simpa using this
   ·intro s hs
    rcases List.mem_append.1 hs with hs | hs
    ·exact h4 s (List.mem_of_mem_take hs)
    ·exact h4 s (List.mem_of_mem_drop hs)
 ·go_wp2
  go_ret
  exact ⟨_, _, _, l, rfl, hR2, hm96, h4, hC2, hK2⟩
theorem l33Draw_c {S : Nat → Prop} (a : Option Addr) (n cap : Nat) (bs : List Int) (w : World) (h : RdB w S a n cap bs) (hn : n ≤ 1048576) :
  Calls Tryz.prog 17 #[.slice a n cap] w fun e w' => ∃ a' m c' l, ∃ k : Nat, e = .returned (.tuple #[.slice a' m c', .int .i64 ((k : Int) - 1)]) ∧ RdII w' (fun q => w.heap.size ≤ q) a' m c' l ∧ m ≤ 96 ∧ (∀ s ∈ l, s.length ≤ 4) ∧ k ≤ 5 ∧ Grow w w' := by
 go_enter Tryz.func17, Tryz.ntmps17
 go_wp2_with fail
 refine (l1New_c _ _ _ bs _ h (by omega)).mono ?_
 rintro e w1 ⟨g, hg, rfl, hC1, hG1⟩
 go_wp2_with fail
 refine (l32Complex_c g _ hC1).mono ?_
 rintro e w2 ⟨a', m, c', l, rfl, hR, hm, h4, hC2, hK2⟩
 go_wp2_with fail
 refine (l1Below_c g 6 _ hC2 (by omega)).mono ?_
 rintro e w3 ⟨k, hk, rfl, hC3, hK3⟩
 have hs1 := hG1.size
 have hgl := hC1.lt
 go_wp2
 go_ret2
 exact ⟨_, _, _, l, k, rfl, (hR.keep hK3 (fun q _ hb e => by omega)).weak (fun q _ hb => by omega), hm, h4, by omega, (hG1.keep hK2 (fun q hq e => by omega)).keep hK3 (fun q hq e => by omega)⟩
end Go.Proofs.YtjepiemflpjjhaaGreat
