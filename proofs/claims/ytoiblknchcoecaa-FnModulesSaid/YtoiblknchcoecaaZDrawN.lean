/-
  The draws of relations and of maps.
-/
import Derived.Test.YtoiblknchcoecaaZDrawM
import Derived.Test.YtoiblknchcoecaaZHermS
import Derived.Test.YtoiblknchcoecaaZStack
import Derived.Test.YtoiblknchcoecaaZIsMat
set_option maxHeartbeats 8000000
set_option maxRecDepth 100000
namespace Go.Proofs.Ytoiblknchcoecaa
open Go.RowKit
def DPost (w0 : World) (g : Nat) (v : Value) (w' : World) : Prop := ∃ m, OM w' (fun q => w0.heap.size ≤ q) v m ∧ bdM m ≤ 1025 ∧ Cur w' g ∧ Keep (fun q => q ≠ g) w0 w'
theorem l30Relations_c (g : Nat) (w : World) (h : Cur w g) :
  Calls Try.prog 13 #[.pointer (some ⟨g, 0, none⟩)] w fun e w' => ∃ v, e = .returned v ∧ DPost w g v w' := by
 have hlt := h.lt
 have hG1 := (Grow.refl w).alloc #[.int .i64 0, .int .i64 0, .slice none 0 0] 26
 have bZ := Blk.new w #[.int .i64 0, .int .i64 0, .slice none 0 0] 26
 go_enter Try.func13, Try.ntmps13
 go_wp2_with fail
 refine (l1Below_c g 3 _ (h.grow hG1) (by omega)).mono ?_
 rintro e w1 ⟨y, hy, rfl, hC1, hK1⟩
 go_wp2_with fail
 refine (l1Below_c g 4 _ hC1 (by omega)).mono ?_
 rintro e w2 ⟨x, hx, rfl, hC2, hK2⟩
 have hKa := hG1.any.trans (hK1.trans hK2)
 have bZ2 := bZ.keep (hK1.trans hK2) (by omega)
 have hs2 : w.heap.size < w2.heap.size := bZ2.lt
 clear bZ hC1 hK1 hK2
 go_wp2_with fail
 rw [show ((1 : Int) + (y : Int)) = ((1 + y : Nat) : Int) by omega]
 refine (l3DrawG_c g x (1 + y) 4 _ hC2 (by omega) (by omega) (by omega)).mono ?_
 rintro e w3 ⟨a, xs, rfl, hO, hxr, hlo, hC3, hK3⟩
 have hxl : xs.length = x * (1 + y) := by simpa using hO.len
 have hxy : x * (1 + y) ≤ 4 * 4 := Nat.mul_le_mul (by omega) (by omega)
 have hM : OM w3 (fun q => w.heap.size + 1 ≤ q) (.agg #[.int .i64 (x : Int), .int .i64 ((1 + y : Nat) : Int), .slice a (x * (1 + y)) (x * (1 + y))]) ⟨(x : Int), ((1 + y : Nat) : Int), xs⟩ :=
  ⟨a, _, _, rfl, hO, fun z hz => by have := hxr z hz; unfold I64; omega, fun q hq => by have := hlo q hq; omega, by show I64 (x : Int); unfold I64; omega, by show I64 ((1 + y : Nat) : Int); unfold I64; omega⟩
 have bZ3 := bZ2.keep hK3 (by omega)
 have hKb := hKa.trans hK3
 have hs3 := hK3.size
 go_wp2_with fail
 refine (l3Spoil_c (B := w.heap.size + 1) g _ _ _ hC3 hM (by unfold bdM; simp only; omega) (by omega) (by omega)).mono ?_
 rintro e w4 ⟨u, m', rfl, hM4, hb4, hC4, hK4⟩
 have bZ4 := bZ3.keep hK4 ⟨by omega, by omega⟩
 have hK5 : Keep (fun q => q ≠ g) w w4 := by
  have h1 : Keep (fun q => q < w.heap.size + 1 ∧ q ≠ g) w w3 := hKb.mono fun q _ hq => hq.2
  exact (h1.trans hK4).mono fun q hq hne => ⟨by omega, hne⟩
 obtain ⟨ma, mn, mc, rfl, o1, o2, o3, o4, o5⟩ := hM4
 obtain ⟨⟨z0, z1, z2⟩, f0, f1, f2⟩ := bZ4.three
 have hltZ := bZ4.lt
 have hKs : Keep (fun q => q ≠ w.heap.size) w4 (((w4.setCell ⟨w.heap.size, 0, none⟩ (.int .i64 m'.rows)).setCell ⟨w.heap.size, 1, none⟩ (.int .i64 m'.cols)).setCell ⟨w.heap.size, 2, none⟩ (.slice ma mn mc)) :=
  (((Keep.refl _ w4).setCell (fun _ e => e rfl) _).setCell (fun _ e => e rfl) _).setCell (fun _ e => e rfl) _
 clear bZ2 bZ3 hM hO hC2 hC3 hKa hKb hK3 hK4
 go_wp2
 exact ret_cell T_mat rfl rfl rfl (((bZ4.set 0 _).set 1 _).set 2 _) ⟨_, rfl, m', ⟨ma, mn, mc, rfl, o1.keep hKs (fun q hq _ e => by have := o3 q hq; omega), o2, fun q hq => by have := o3 q hq; omega, o4, o5⟩, hb4, hC4.keep hKs (fun q hq e => by omega), ((hK5.setCell (fun e => absurd e (Nat.lt_irrefl _)) _).setCell (fun e => absurd e (Nat.lt_irrefl _)) _).setCell (fun e => absurd e (Nat.lt_irrefl _)) _⟩
end Go.Proofs.Ytoiblknchcoecaa

namespace Go.Proofs.Ytoiblknchcoecaa
open Go.RowKit
theorem DrawElementsOf_c {S : Nat → Prop} (a : Option Addr) (n cap : Nat) (bs : List Int) (w : World) (h : RdB w S a n cap bs) (hn : n ≤ 1048577) :
  Calls Try.prog 5 #[.slice a n cap] w fun e w' => ∃ v m, e = .returned v ∧ VM w' (fun _ => True) v m ∧ bdM m ≤ 1025 ∧ Grow w w' := by
 have hG1 := (Grow.refl w).alloc #[.int .i64 0, .int .i64 0, .slice none 0 0] 26
 have bZ := Blk.new w #[.int .i64 0, .int .i64 0, .slice none 0 0] 26
 go_enter Try.func5, Try.ntmps5
 go_wp2_with fail
 refine (l1New_c a n cap bs _ (h.grow hG1) hn).mono ?_
 rintro e w1 ⟨g, hg, rfl, hC1, hG2⟩
 have bZ1 := bZ.grow hG2
 have hs1 := bZ1.lt
 have hg' : w.heap.size < g := by
  have : w.heap.size + 1 ≤ g := by simpa using hg
  omega
 go_wp2_with fail
 refine (l30Relations_c g _ hC1).mono ?_
 rintro e w4 ⟨v, rfl, m', hM4, hb4, hC4, hK4⟩
 have bZ4 := bZ1.keep hK4 (by omega)
 obtain ⟨ma, mn, mc, rfl, o1, o2, o3, o4, o5⟩ := hM4
 obtain ⟨⟨z0, z1, z2⟩, f0, f1, f2⟩ := bZ4.three
 have hltZ := bZ4.lt
 have hKs : Keep (fun q => q ≠ w.heap.size) w4 (((w4.setCell ⟨w.heap.size, 0, none⟩ (.int .i64 m'.rows)).setCell ⟨w.heap.size, 1, none⟩ (.int .i64 m'.cols)).setCell ⟨w.heap.size, 2, none⟩ (.slice ma mn mc)) :=
  (((Keep.refl _ w4).setCell (fun _ e => e rfl) _).setCell (fun _ e => e rfl) _).setCell (fun _ e => e rfl) _
 have hGa := hG1.trans hG2
 have hGk : Grow w (((w4.setCell ⟨w.heap.size, 0, none⟩ (.int .i64 m'.rows)).setCell ⟨w.heap.size, 1, none⟩ (.int .i64 m'.cols)).setCell ⟨w.heap.size, 2, none⟩ (.slice ma mn mc)) :=
  hGa.keep ((hK4.mono (T := fun q => q < w.heap.size) fun q _ hq => by omega).trans (hKs.mono fun q _ hq => by omega)) fun q hq => hq
 clear bZ bZ1 hC1 hG2 hK4
 go_wp2
 exact ret_cell T_mat rfl rfl rfl (((bZ4.set 0 _).set 1 _).set 2 _) ⟨_, m', rfl, ⟨ma, mn, mc, rfl, (o1.keep hKs (fun q hq _ e => by have := o3 q hq; omega)).rdI (fun _ _ => trivial) o2, o4, o5⟩, hb4, hGk⟩
end Go.Proofs.Ytoiblknchcoecaa
