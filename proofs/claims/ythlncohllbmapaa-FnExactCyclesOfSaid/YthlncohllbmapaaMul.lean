/-
  Products of matrices: the program's and the reference's.
-/
import Derived.Test.YthlncohllbmapaaIsMat
namespace Go.Proofs.Ythlncohllbmapaa
open Go.RowKit

/-- The sum of the first so many products. -/
def dotN (a b : List Int) (n c i j : Nat) : Nat → Int
  | 0 => 0
  | k + 1 => dotN a b n c i j k + a.getD (i * n + k) 0 * b.getD (k * c + j) 0
def mRow (a b : List Int) (n c i : Nat) : Nat → List Int → List Int
  | 0, cells => cells
  | j + 1, cells => (mRow a b n c i j cells).set (i * c + j) (dotN a b n c i j n)
def mRows (a b : List Int) (n c r : Nat) : Nat → List Int
  | 0 => List.replicate (r * c) 0
  | i + 1 => mRow a b n c i c (mRows a b n c r i)
def mulM (a b : Mat) : Mat := { rows := a.rows, cols := b.cols, cells := mRows a.cells b.cells a.cols.toNat b.cols.toNat a.rows.toNat a.rows.toNat }
def mulFit (a b : Mat) : Bool := isMatB a && isMatB b && a.cols == b.rows
def mulOk (a b : Mat) : Bool := mulFit a b && isMatB (mulM a b)
def mulB (a b : Mat) : Mat := if mulFit a b = true then okM (mulM a b) else { rows := 0, cols := 0, cells := [] }
def NumL (l : List Int) : Prop := ∀ x ∈ l, -400000000 ≤ x ∧ x ≤ 400000000
theorem NumL.getD {l : List Int} (h : NumL l) (i : Nat) : -400000000 ≤ l.getD i 0 ∧ l.getD i 0 ≤ 400000000 := by
  by_cases hi : i < l.length
  · have : l.getD i 0 = l[i] := by simp [List.getD, List.getElem?_eq_getElem hi]
    rw [this]; exact h _ (List.getElem_mem hi)
  · have : l.getD i 0 = 0 := by simp [List.getD, List.getElem?_eq_none (Nat.le_of_not_lt hi)]
    rw [this]; omega
theorem mul_rng {x y : Int} (hx : -400000000 ≤ x ∧ x ≤ 400000000) (hy : -400000000 ≤ y ∧ y ≤ 400000000) : -160000000000000000 ≤ x * y ∧ x * y ≤ 160000000000000000 := by
  have h : (x * y).natAbs ≤ 400000000 * 400000000 := by rw [Int.natAbs_mul]; exact Nat.mul_le_mul (by omega) (by omega)
  omega
theorem dotN_rng {a b : List Int} (ha : NumL a) (hb : NumL b) (n c i j : Nat) : ∀ k : Nat, -160000000000000000 * (k : Int) ≤ dotN a b n c i j k ∧ dotN a b n c i j k ≤ 160000000000000000 * (k : Int)
  | 0 => by simp [dotN]
  | k + 1 => by
    have h1 := dotN_rng ha hb n c i j k
    have h2 := mul_rng (ha.getD (i * n + k)) (hb.getD (k * c + j))
    unfold dotN
    push_cast
    omega
theorem mRow_len (a b : List Int) (n c i : Nat) : ∀ (j : Nat) (cells : List Int), (mRow a b n c i j cells).length = cells.length
  | 0, _ => rfl
  | j + 1, cells => by unfold mRow; simp [mRow_len a b n c i j cells]
theorem mRows_len (a b : List Int) (n c r : Nat) : ∀ i, (mRows a b n c r i).length = r * c
  | 0 => by simp [mRows]
  | i + 1 => by unfold mRows; rw [mRow_len, mRows_len a b n c r i]
theorem mRow_rng {a b : List Int} (ha : NumL a) (hb : NumL b) {n : Nat} (hn : n ≤ 24) (c i : Nat) : ∀ (j : Nat) (cells : List Int), (∀ y ∈ cells, I64 y) → ∀ y ∈ mRow a b n c i j cells, I64 y
  | 0, _, h => h
  | j + 1, cells, h => by
    have ih := mRow_rng ha hb hn c i j cells h
    intro y hy
    unfold mRow at hy
    rcases List.mem_or_eq_of_mem_set hy with h1 | h1
    · exact ih y h1
    · have := dotN_rng ha hb n c i j n
      subst h1; unfold I64; omega
theorem mRows_rng {a b : List Int} (ha : NumL a) (hb : NumL b) {n : Nat} (hn : n ≤ 24) (c r : Nat) : ∀ i, ∀ y ∈ mRows a b n c r i, I64 y
  | 0 => zeros_rng
  | i + 1 => by unfold mRows; exact mRow_rng ha hb hn c i c _ (mRows_rng ha hb hn c r i)

theorem mul_wrap {i c : Nat} (hi : i ≤ 1048576) (hc : c ≤ 1048576) : IntKind.i64.wrap ((i : Int) * c) = (i : Int) * c := by
  have h : i * c ≤ 1048576 * 1048576 := Nat.mul_le_mul hi hc
  have : ((i : Int) * c) = ((i * c : Nat) : Int) := by simp
  rw [this]; exact IntWalk.i64_in _ (by omega)
theorem idx_wrap {i c j x : Nat} (hi : i ≤ 1048576) (hc : c ≤ 1048576) (hj : j ≤ 1048576) (hx : x = i * c + j) : IntKind.i64.wrap ((i : Int) * c + j) = (x : Int) := by
  have h : i * c ≤ 1048576 * 1048576 := Nat.mul_le_mul hi hc
  have : ((i : Int) * c + j) = ((x : Nat) : Int) := by rw [hx]; simp
  rw [this]; exact IntWalk.i64_in _ (by omega)
theorem getD_at {l : List Int} {k : Nat} {x : Int} (h : l[k]? = some x) : l.getD k 0 = x := by simp [List.getD, h]

set_option maxHeartbeats 4000000 in
set_option maxRecDepth 100000 in
theorem l3Mul_c {S T : Nat → Prop} (aa ab : Option Addr) (na ca nb cb R N C : Nat) (xs ys : List Int) (w : World) (h : RdI w S aa na ca xs) (h' : RdI w T ab nb cb ys) (hR : R ≤ 24) (hN : N ≤ 24) (hC : C ≤ 24) (hx : xs.length = R * N) (hy : ys.length = N * C) (nx : NumL xs) (ny : NumL ys) :
    Calls Try.prog 62 #[.agg #[.int .i64 (R : Int), .int .i64 (N : Int), .slice aa na ca], .agg #[.int .i64 (N : Int), .int .i64 (C : Int), .slice ab nb cb]] w fun e w' =>
      ∃ am, e = .returned (.agg #[.int .i64 (R : Int), .int .i64 (C : Int), .slice am (R * C) (R * C)]) ∧ Own w' 3 1 am (R * C) (R * C) (ints (mRows xs ys N C R R)) ∧ (∀ g, blk am = some g → w.heap.size ≤ g) ∧ Grow w w' := by
  have hl := h.len
  have hl' := h'.len
  obtain ⟨w3, hw3⟩ : ∃ w3, w3 = (((w.alloc (.cells #[.int .i64 (R : Int), .int .i64 (N : Int), .slice aa na ca] 27)).alloc (.cells #[.int .i64 (N : Int), .int .i64 (C : Int), .slice ab nb cb] 27)).alloc (.cells #[.int .i64 0, .int .i64 0, .slice none 0 0] 27)) := ⟨_, rfl⟩
  have hG3 : Grow w w3 := by rw [hw3]; exact (((Grow.refl w).alloc _ _).alloc _ _).alloc _ _
  have hs3 : w3.heap.size = w.heap.size + 3 := by rw [hw3]; simp
  have bA : Blk w3 w.heap.size #[.int .i64 (R : Int), .int .i64 (N : Int), .slice aa na ca] 27 := by rw [hw3]; exact ((Blk.new w _ _).alloc _).alloc _
  have bB : Blk w3 (w.heap.size + 1) #[.int .i64 (N : Int), .int .i64 (C : Int), .slice ab nb cb] 27 := by rw [hw3]; exact (Blk.newAt _ _ _ (by simp)).alloc _
  have bZ : Blk w3 (w.heap.size + 2) #[.int .i64 0, .int .i64 0, .slice none 0 0] 27 := by rw [hw3]; exact Blk.newAt _ _ _ (by simp)
  obtain ⟨⟨a0, a1, a2⟩, -⟩ := bA.three
  obtain ⟨⟨b0, b1, b2⟩, -⟩ := bB.three
  rw [hw3] at a0 a1 a2 b0 b1 b2
  have Hw3 := Lib.hid hw3; clear hw3
  go_enter Try.func62, Try.ntmps62
  go_wp2_with fail
  rw [← Hw3.out]
  clear a0 a1 a2 b0 b1 b2
  refine (l3New_c R C _ (by omega) (by omega)).mono ?_
  rintro e w5 ⟨am, rfl, hO, hB5, hG5⟩
  have hs5 := hG5.size
  have hrA : RdI w5 (fun q => blk am ≠ some q) aa na ca xs := ((h.grow hG3).weak (T := fun b => b < w3.heap.size) (fun _ hb _ => hb)).grow hG5 |>.weak fun b _ hb e => by have := hB5 b e; omega
  have hrB : RdI w5 (fun q => blk am ≠ some q) ab nb cb ys := ((h'.grow hG3).weak (T := fun b => b < w3.heap.size) (fun _ hb _ => hb)).grow hG5 |>.weak fun b _ hb e => by have := hB5 b e; omega
  have nA : blk am ≠ some w.heap.size := fun e => by have := hB5 _ e; omega
  have nB : blk am ≠ some (w.heap.size + 1) := fun e => by have := hB5 _ e; omega
  have nZ : blk am ≠ some (w.heap.size + 2) := fun e => by have := hB5 _ e; omega
  have nM : blk am ≠ some w5.heap.size := fun e => by have := hO.lt e; omega
  replace bA := bA.grow hG5
  replace bB := bB.grow hG5
  replace bZ := bZ.grow hG5
  have hRC : R * C ≤ 24 * 24 := Nat.mul_le_mul hR hC
  have bM0 := Blk.newAt w5 #[.int .i64 (R : Int), .int .i64 (C : Int), .slice am (R * C) (R * C)] 27 rfl
  have hGb : Grow w5 (w5.alloc (.cells #[.int .i64 (R : Int), .int .i64 (C : Int), .slice am (R * C) (R * C)] 27)) := (Grow.refl _).alloc _ _
  have Hx := Lib.hid hx; have Hy := Lib.hid hy; have Hl := Lib.hid hl; have Hl' := Lib.hid hl'
  clear hx hy hl hl' Hw3
  go_wp2
  go_loopw [6] (fun q wr => Keep (fun q => blk am ≠ some q) w5 wr ∧ Blk wr w5.heap.size #[.int .i64 (R : Int), .int .i64 (C : Int), .slice am (R * C) (R * C)] 27 ∧ ∃ i : Nat, i ≤ R ∧ q = .int .i64 i ∧ Own wr 3 1 am (R * C) (R * C) (ints (mRows xs ys N C R i))) (fun q _ => R - (intOf q).toNat)
  case atStart => exact ⟨hGb.any, bM0, 0, Nat.zero_le _, rfl, hO.grow hGb⟩
  case round =>
    clear bM0 hO hGb
    obtain ⟨hK, bM, i, hi, rfl, hO⟩ := hrel
    have bAr := bA.keep hK nA
    obtain ⟨⟨a0, a1, a2⟩, -⟩ := bAr.three
    by_cases hin : i < R
    · have bBr := bB.keep hK nB
      obtain ⟨⟨b0, b1, b2⟩, -⟩ := bBr.three
      obtain ⟨wo, rfl⟩ : ∃ wo : World, wo = wr := ⟨_, rfl⟩
      go_wp2
      go_loopw [7] (fun q wr => Keep (fun q => blk am ≠ some q) wo wr ∧ ∃ j : Nat, j ≤ C ∧ q = .int .i64 j ∧ Own wr 3 1 am (R * C) (R * C) (ints (mRow xs ys N C i j (mRows xs ys N C R i)))) (fun q _ => C - (intOf q).toNat)
      case atStart => exact ⟨Keep.refl _ _, 0, Nat.zero_le _, rfl, hO⟩
      case round =>
        clear hO a0 a1 a2 b0 b1 b2
        obtain ⟨hKi, j, hj, rfl, hO⟩ := hrel
        obtain ⟨⟨b0, b1, b2⟩, -⟩ := (bBr.keep hKi nB).three
        obtain ⟨⟨a0, a1, a2⟩, -⟩ := (bAr.keep hKi nA).three
        by_cases hjn : j < C
        · skip
          obtain ⟨wp, rfl⟩ : ∃ wp : World, wp = wr := ⟨_, rfl⟩
          go_wp2
          go_loopw [8, 9] (fun sv q wr => (∃ d, wr = wp.drewN d) ∧ ∃ k : Nat, k ≤ N ∧ q = .int .i64 k ∧ sv = .int .i64 (dotN xs ys N C i j k)) (fun _ q _ => N - (intOf q).toNat)
          case atStart => exact ⟨⟨0, rfl⟩, 0, Nat.zero_le _, rfl, rfl⟩
          case round =>
            obtain ⟨⟨d, rfl⟩, k, hk, rfl, rfl⟩ := hrel
            by_cases hkn : k < N
            · have hKw : Keep (fun q => blk am ≠ some q) w5 wp := hK.trans hKi
              have hNC := idx_lt hkn hjn
              have hRN := idx_lt hin hkn
              obtain ⟨ix, hix⟩ : ∃ ix, ix = i * N + k := ⟨_, rfl⟩
              obtain ⟨iy, hiy⟩ : ∃ iy, iy = k * C + j := ⟨_, rfl⟩
              obtain ⟨ba, oa, x, rfl, hxx, hxr, _, _, hxc⟩ := (hrA.keep hKw fun _ _ h => h).at (k := ix) (by rw [← Hl.out, Hx.out, hix]; exact hRN)
              obtain ⟨bb, ob, y, rfl, hyy, hyr, _, _, hyc⟩ := (hrB.keep hKw fun _ _ h => h).at (k := iy) (by rw [← Hl'.out, Hy.out, hiy]; exact hNC)
              have hltx : ix < na := by rw [← Hl.out, Hx.out, hix]; exact hRN
              have hlty : iy < nb := by rw [← Hl'.out, Hy.out, hiy]; exact hNC
              have hca := hrA.row.le; have hcb := hrB.row.le
              have hma := hrA.row.max; have hmb := hrB.row.max
              unfold maxLen at hma hmb
              have u1 := mul_wrap (i := i) (c := N) (by omega) (by omega)
              have u2 := idx_wrap (i := i) (c := N) (j := k) (by omega) (by omega) (by omega) hix
              have u3 := mul_wrap (i := k) (c := C) (by omega) (by omega)
              have u4 := idx_wrap (i := k) (c := C) (j := j) (by omega) (by omega) (by omega) hiy
              have hxn := nx.getD ix; have hyn := ny.getD iy
              rw [getD_at hxx] at hxn
              rw [getD_at hyy] at hyn
              have hxy := mul_rng hxn hyn
              have hd := dotN_rng nx ny N C i j k
              have hdk := Lib.hid (show dotN xs ys N C i j (k + 1) = dotN xs ys N C i j k + x * y by conv => { lhs; unfold dotN }; rw [← hix, ← hiy, getD_at hxx, getD_at hyy])
              clear hix hiy hNC hRN hxx hyy hxn hyn
              obtain ⟨p, hp⟩ : ∃ p, p = x * y := ⟨_, rfl⟩
              rw [← hp] at hxy hdk
              have u5 : IntKind.i64.wrap (x * y) = p := by rw [← hp]; exact IntWalk.i64_in _ (by omega)
              clear hp
              generalize dotN xs ys N C i j k = dv at *
              have u6 : IntKind.i64.wrap (dv + p) = dv + p := IntWalk.i64_in _ (by omega)
              go_wp2
              go_quiet (fail)
              go_wp2
              go_roundw
              case rel => exact ⟨⟨_, rfl⟩, k + 1, by omega, by go_num, by rw [hdk.out]⟩
              case measure => simp [intOf]; omega
            · have hkN : k = N := by omega
              subst hkN
              have hd := dotN_rng nx ny k C i j k
              have hdI : I64 (dotN xs ys k C i j k) := by unfold I64; omega
              obtain ⟨ix, hix⟩ : ∃ ix, ix = i * C + j := ⟨_, rfl⟩
              have hlt : ix < R * C := by rw [hix]; exact idx_lt hin hjn
              have u3 := mul_wrap (i := i) (c := C) (by omega) (by omega)
              have u4 := idx_wrap (i := i) (c := C) (j := j) (by omega) (by omega) (by omega) hix
              have hML := Lib.hid (show (mRow xs ys k C i j (mRows xs ys k C R i)).length = R * C by rw [mRow_len, mRows_len])
              have hGd : Grow wp (wp.drewN d) := (Grow.refl wp).drewN d
              have hOd := hO.grow hGd
              have bMr := (bM.keep hKi nM).grow hGd
              obtain ⟨⟨m0, m1, m2⟩, -⟩ := bMr.three
              obtain ⟨⟨x0, x1, x2⟩, -⟩ := ((bBr.keep hKi nB).grow hGd).three
              have hmr := Lib.hid (show mRow xs ys k C i (j + 1) (mRows xs ys k C R i) = (mRow xs ys k C i j (mRows xs ys k C R i)).set ix (dotN xs ys k C i j k) by rw [hix]; rfl)
              clear hix hO
              cases am with
              | none => have := hOd.nil rfl; have := hOd.le; omega
              | some p =>
                have hp := (hOd.block p rfl).1
                obtain ⟨pb, po, ps⟩ := p
                simp only [Addr.mk.injEq, true_and] at hp
                obtain ⟨rfl, rfl⟩ := hp
                obtain ⟨cv, hcv⟩ : ∃ cv, (ints (mRow xs ys k C i j (mRows xs ys k C R i)))[ix]? = some cv := ⟨_, List.getElem?_eq_getElem (by rw [List.length_map, hML.out]; exact hlt)⟩
                have hce := hOd.cell hcv
                have hfr := hOd.free ix
                simp only at hce hfr
                clear hcv
                have hO8 := hOd.set ix (.int .i64 (dotN xs ys k C i j k))
                have hK8 : Keep (fun q => blk (some (⟨pb, 0, none⟩ : Addr)) ≠ some q) wo ((wp.drewN d).setCell ⟨pb, ix, none⟩ (.int .i64 (dotN xs ys k C i j k))) := (hKi.trans hGd.any).setCell (p := ⟨pb, ix, none⟩) (fun _ e => e rfl) _
                clear hOd
                generalize hdv : dotN xs ys k C i j k = dv at *
                have Hdv := Lib.hid hdv; clear hdv
                unfold I64 at hdI
                go_wp2
                go_roundw
                case rel => exact ⟨hK8, j + 1, by omega, by go_num, by rw [hmr.out, ints_set]; exact hO8⟩
                case measure => simp [intOf]; omega
        · have hjC : j = C := by omega
          subst hjC
          go_wp2
          go_roundw
          case rel => exact ⟨hK.trans hKi, bM.keep hKi nM, i + 1, by omega, by go_num, hO⟩
          case measure => simp [intOf]; omega
    · have hi' : i = R := by omega
      subst hi'
      have bZr := bZ.keep hK nZ
      obtain ⟨⟨m0, m1, m2⟩, -⟩ := bM.three
      obtain ⟨⟨z0, z1, z2⟩, g0, g1, g2⟩ := bZr.three
      have hGr : Grow w wr := (hG3.trans hG5).keep hK fun q hq e => by have := hB5 q e; omega
      have hle : w.heap.size ≤ w.heap.size + 2 := by omega
      go_wp2
      have hKs : Keep (fun q => q ≠ w.heap.size + 2) wr (((wr.setCell ⟨w.heap.size + 2, 0, none⟩ (.int .i64 (i : Int))).setCell ⟨w.heap.size + 2, 1, none⟩ (.int .i64 (C : Int))).setCell ⟨w.heap.size + 2, 2, none⟩ (.slice am (i * C) (i * C))) :=
        (((Keep.refl _ wr).setCell (fun _ e => e rfl) _).setCell (fun _ e => e rfl) _).setCell (fun _ e => e rfl) _
      refine ret_cell T_mat rfl rfl rfl (((bZr.set 0 _).set 1 _).set 2 _) ⟨am, rfl, hO.keep hKs (fun g hg _ e => by have := hB5 g hg; omega), (fun g hg => by have := hB5 g hg; omega), ?_⟩
      exact hGr.keep hKs (fun q hq e => by omega)
end Go.Proofs.Ythlncohllbmapaa
