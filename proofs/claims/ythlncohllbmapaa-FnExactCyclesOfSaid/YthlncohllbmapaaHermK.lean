/-
  The reference's operations at both matrices; the least row; whether a row is alone.
-/
import Derived.Test.YthlncohllbmapaaHermD
namespace Go.Proofs.Ythlncohllbmapaa
open Go.RowKit

/-- Two matrices in memory, apart. -/
structure Two (w : World) (a u : Option Addr) (na nu ca cu : Nat) (s : HS) : Prop where
  oa : Own w 3 1 a na ca (ints s.1)
  ou : Own w 3 1 u nu cu (ints s.2)
  ne : ∀ q, blk a = some q → blk u ≠ some q
theorem Two.keep {w w' : World} {T : Nat → Prop} {a u : Option Addr} {na nu ca cu : Nat} {s : HS} (h : Two w a u na nu ca cu s) (hk : Keep T w w') (h1 : ∀ g, blk a = some g → T g) (h2 : ∀ g, blk u = some g → T g) : Two w' a u na nu ca cu s :=
  ⟨h.oa.keep hk (fun g hg _ => h1 g hg), h.ou.keep hk (fun g hg _ => h2 g hg), h.ne⟩
theorem Two.grow {w w' : World} {a u : Option Addr} {na nu ca cu : Nat} {s : HS} (h : Two w a u na nu ca cu s) (hk : Grow w w') : Two w' a u na nu ca cu s := h.keep hk (fun _ _ => trivial) (fun _ _ => trivial)
set_option maxHeartbeats 2000000 in
set_option maxRecDepth 100000 in
theorem l12Ops_g (a u : Option Addr) (na nu ca cu : Nat) (R C R' C' kd i p t : Int) (s : HS) (fa fu : List Int) (w : World) (h : Two w a u na nu ca cu s)
    (h1 : ∀ w, Own w 3 1 a na ca (ints s.1) → Calls Try.prog 136 #[.agg #[.int .i64 R, .int .i64 C, .slice a na ca], .agg #[.int .i64 kd, .int .i64 i, .int .i64 p, .int .i64 t]] w fun e w' => e = .returned (.tuple #[]) ∧ Own w' 3 1 a na ca (ints fa) ∧ Keep (fun q => blk a ≠ some q) w w')
    (h2 : ∀ w, Own w 3 1 u nu cu (ints s.2) → Calls Try.prog 136 #[.agg #[.int .i64 R', .int .i64 C', .slice u nu cu], .agg #[.int .i64 kd, .int .i64 i, .int .i64 p, .int .i64 t]] w fun e w' => e = .returned (.tuple #[]) ∧ Own w' 3 1 u nu cu (ints fu) ∧ Keep (fun q => blk u ≠ some q) w w') :
    Calls Try.prog 131 #[.agg #[.int .i64 R, .int .i64 C, .slice a na ca], .agg #[.int .i64 R', .int .i64 C', .slice u nu cu], .agg #[.int .i64 kd, .int .i64 i, .int .i64 p, .int .i64 t]] w fun e w' => e = .returned (.tuple #[]) ∧ Two w' a u na nu ca cu (fa, fu) ∧ Keep (fun q => blk a ≠ some q ∧ blk u ≠ some q) w w' := by
  obtain ⟨w2, hw2⟩ : ∃ w2, w2 = ((w.alloc (.cells #[.int .i64 R, .int .i64 C, .slice a na ca] 27)).alloc (.cells #[.int .i64 R', .int .i64 C', .slice u nu cu] 27)).alloc (.cells #[.int .i64 kd, .int .i64 i, .int .i64 p, .int .i64 t] 94) := ⟨_, rfl⟩
  have hG2 : Grow w w2 := by rw [hw2]; exact (((Grow.refl w).alloc _ _).alloc _ _).alloc _ _
  have bU : Blk w2 (w.heap.size + 1) #[.int .i64 R', .int .i64 C', .slice u nu cu] 27 := by rw [hw2]; exact (Blk.newAt _ _ _ (by simp)).alloc _
  have bX : Blk w2 (w.heap.size + 2) #[.int .i64 kd, .int .i64 i, .int .i64 p, .int .i64 t] 94 := by rw [hw2]; exact Blk.newAt _ _ _ (by simp)
  have Hw2 := Lib.hid hw2; clear hw2
  have ht := h.grow hG2
  have na1 : blk a ≠ some (w.heap.size + 1) := fun e => by have := h.oa.lt e; omega
  have na2 : blk a ≠ some (w.heap.size + 2) := fun e => by have := h.oa.lt e; omega
  go_enter Try.func131, Try.ntmps131
  go_wp2_with fail
  rw [← Hw2.out]
  refine (h1 _ ht.oa).mono ?_
  rintro e w3 ⟨rfl, hO3, hK3⟩
  have bU3 := bU.keep hK3 na1
  have bX3 := bX.keep hK3 na2
  obtain ⟨⟨a0, a1, a2⟩, -⟩ := bU3.three
  have x0 := bX3.cell 0
  have x1 := bX3.cell 1
  have x2 := bX3.cell 2
  have x3 := bX3.cell 3
  simp only [List.getElem?_toArray, List.getElem?_cons_zero, List.getElem?_cons_succ] at x0 x1 x2 x3
  have hU3 := ht.ou.keep hK3 (fun g hg _ e => h.ne g e hg)
  go_wp2_with fail
  refine (h2 _ hU3).mono ?_
  rintro e w4 ⟨rfl, hO4, hK4⟩
  go_wp2
  refine bodyPost_end (results_none rfl _ _ _) rfl ⟨rfl, ⟨hO3.keep hK4 (fun g hg _ e => h.ne g hg e), hO4, h.ne⟩, ?_⟩
  exact ((hG2.any).trans (hK3.mono (fun q _ hb => hb.1))).trans (hK4.mono (fun q _ hb => hb.2))
theorem row_le' {R C i n : Nat} (hn : n = R * C) (hi : i < R) : i * C + C ≤ n := by
  subst hn
  have : (i + 1) * C ≤ R * C := Nat.mul_le_mul_right _ hi
  rw [Nat.add_mul] at this; omega
theorem l12Add_c (a u : Option Addr) (ca cu R C i p : Nat) (t : Int) (s : HS) (w : World) (h : Two w a u (R * C) (R * R) ca cu s) (hs : Hm C R s) (hi : i < R) (hp : p < R) (hip : i ≠ p) (ht : NumS t) (hR : R ≤ 24) (hC : C ≤ 24) :
    Calls Try.prog 131 #[.agg #[.int .i64 R, .int .i64 C, .slice a (R * C) ca], .agg #[.int .i64 R, .int .i64 R, .slice u (R * R) cu], .agg #[.int .i64 2, .int .i64 i, .int .i64 p, .int .i64 t]] w fun e w' => e = .returned (.tuple #[]) ∧ Two w' a u (R * C) (R * R) ca cu (add2S C R i p t s) ∧ Keep (fun q => blk a ≠ some q ∧ blk u ≠ some q) w w' := by
  have h1 : R * C ≤ 24 * 24 := Nat.mul_le_mul hR hC
  have h2 : R * R ≤ 24 * 24 := Nat.mul_le_mul hR hR
  exact l12Ops_g a u _ _ ca cu R C R R 2 i p t s _ _ w h (fun w hw => l5Add_c a _ ca C i p R t s.1 w hw (row_le' rfl hi) (row_le' rfl hp) hip hs.na ht (by omega) (by omega) (by omega) (by omega))
    (fun w hw => l5Add_c u _ cu R i p R t s.2 w hw (row_le' rfl hi) (row_le' rfl hp) hip hs.nu ht (by omega) (by omega) (by omega) (by omega))
theorem l12Neg_c (a u : Option Addr) (ca cu R C i : Nat) (s : HS) (w : World) (h : Two w a u (R * C) (R * R) ca cu s) (hs : Hs C R s) (hi : i < R) (hR : R ≤ 24) (hC : C ≤ 24) :
    Calls Try.prog 131 #[.agg #[.int .i64 R, .int .i64 C, .slice a (R * C) ca], .agg #[.int .i64 R, .int .i64 R, .slice u (R * R) cu], .agg #[.int .i64 1, .int .i64 i, .int .i64 i, .int .i64 0]] w fun e w' => e = .returned (.tuple #[]) ∧ Two w' a u (R * C) (R * R) ca cu (neg2 C R i s) ∧ Keep (fun q => blk a ≠ some q ∧ blk u ≠ some q) w w' := by
  have h1 : R * C ≤ 24 * 24 := Nat.mul_le_mul hR hC
  have h2 : R * R ≤ 24 * 24 := Nat.mul_le_mul hR hR
  exact l12Ops_g a u _ _ ca cu R C R R 1 i i 0 s _ _ w h (fun w hw => l5Neg_c a _ ca C i R 0 s.1 w hw (row_le' rfl hi) hs.na (by omega) (by omega) (by omega))
    (fun w hw => l5Neg_c u _ cu R i R 0 s.2 w hw (row_le' rfl hi) hs.nu (by omega) (by omega) (by omega))
theorem l12Swap_c (a u : Option Addr) (ca cu R C i p : Nat) (s : HS) (w : World) (h : Two w a u (R * C) (R * R) ca cu s) (hs : Hs C R s) (hi : i < R) (hp : p < R) (hip : i ≠ p) (hR : R ≤ 24) (hC : C ≤ 24) :
    Calls Try.prog 131 #[.agg #[.int .i64 R, .int .i64 C, .slice a (R * C) ca], .agg #[.int .i64 R, .int .i64 R, .slice u (R * R) cu], .agg #[.int .i64 0, .int .i64 i, .int .i64 p, .int .i64 0]] w fun e w' => e = .returned (.tuple #[]) ∧ Two w' a u (R * C) (R * R) ca cu (sw2 C R i p s) ∧ Keep (fun q => blk a ≠ some q ∧ blk u ≠ some q) w w' := by
  have h1 : R * C ≤ 24 * 24 := Nat.mul_le_mul hR hC
  have h2 : R * R ≤ 24 * 24 := Nat.mul_le_mul hR hR
  exact l12Ops_g a u _ _ ca cu R C R R 0 i p 0 s _ _ w h (fun w hw => l5Swap_c a _ ca C i p R 0 s.1 w hw hs.la hi hp hip hs.na (by omega) (by omega) (by omega) (by omega))
    (fun w hw => l5Swap_c u _ cu R i p R 0 s.2 w hw hs.lu hi hp hip hs.nu (by omega) (by omega) (by omega) (by omega))
end Go.Proofs.Ythlncohllbmapaa
