/-
  The draw of lists for ComplexOf.
-/
import Derived.Test.YteianlmindckpaaDrawC
namespace Go.Proofs.Yteianlmindckpaa
open Go.RowKit

theorem Own.at0 {w : World} {e : TypeId} {sz n cap : Nat} {a : Option Addr} {cs : List Value} (h : Own w e sz a n cap cs) (hn : 0 < n) : ∃ g, a = some ⟨g, 0, none⟩ := by
  cases a with
  | none => have := h.nil rfl; have := h.le; omega
  | some p => exact ⟨p.block, by rw [← (h.block p rfl).1]⟩
theorem RdCells.tail1 {w : World} {S : Nat → Prop} {v : Value} {vs : List Value} {s : List Int} {l : List (List Int)} (h : RdCells w S (v :: vs) (s :: l)) : RdCells w S vs l := fun i xs hi => by
  have := h (i + 1) xs (by simpa using hi)
  simpa using this
set_option maxHeartbeats 1000000 in
set_option maxRecDepth 100000 in
theorem l1PickInt_c {S : Nat → Prop} (g : Nat) (a : Option Addr) (n cap : Nat) (xs : List Int) (w : World) (h : Cur w g) (hr : RdI w S a n cap xs) (hS : ∀ q, S q → q ≠ g) (hn : 0 < n) (hn2 : n ≤ 256) :
    Calls Try.prog 33 #[.pointer (some ⟨g, 0, none⟩), .slice a n cap] w fun e w' => ∃ x, x ∈ xs ∧ e = .returned (.int .i64 x) ∧ Cur w' g ∧ Keep (fun q => q ≠ g) w w' := by
  go_enter Try.func33, Try.ntmps33
  go_wp2_with fail
  refine (l1Below_c g n _ h hn2).mono ?_
  rintro e w1 ⟨k, hk, rfl, hC, hK⟩
  have hr1 := hr.keep hK (fun q _ hb => hS q hb)
  obtain ⟨b, off, x, rfl, hx, hxr, _, hbw, hc⟩ := hr1.at (k := k) (by omega)
  go_wp2
  go_ret
  exact ⟨x, List.mem_of_getElem? hx, rfl, hC, hK⟩
set_option maxHeartbeats 4000000 in
set_option maxRecDepth 100000 in
theorem DrawComplexOf_c {S : Nat → Prop} (a : Option Addr) (n cap : Nat) (bs : List Int) (w : World) (h : RdB w S a n cap bs) (hn : n ≤ 1048576) :
    Calls Try.prog 13 #[.slice a n cap] w fun e w' => ∃ a' m c' l, e = .returned (.slice a' m c') ∧ RdII w' (fun q => w.heap.size ≤ q) a' m c' l ∧ m ≤ 14 ∧ (∀ s ∈ l, s.length ≤ 4) ∧ Grow w w' := by
  go_enter Try.func13, Try.ntmps13
  go_wp2_with fail
  refine (l1New_c _ _ _ bs _ h hn).mono ?_
  rintro e w1 ⟨g, hg, rfl, hC1, hG1⟩
  go_wp2_with fail
  refine (l32FacetsO_c g _ hC1).mono ?_
  rintro e w2 ⟨a', m, c', vs, l, rfl, hO, hlo, hR, hl, hm, h4, hC2, hK2⟩
  have hs1 := hG1.size
  have hgl := hC1.lt
  have hG2 : Grow w w2 := hG1.keep hK2 (fun q hq e => by omega)
  by_cases h0 : 0 < m
  · go_wp2_with fail
    refine (l1Once_c g 12 _ hC2 (by omega)).mono ?_
    rintro e w3 ⟨b, rfl, hC3, hK3⟩
    have hG3 : Grow w w3 := hG2.keep hK3 (fun q hq e => by omega)
    have hO3 := hO.keep hK3 (fun q hq _ e => by have := hlo q hq; omega)
    have hR3 := hR.keep hK3 (fun q _ hb e => by have := hb.1; omega)
    cases b with
    | false =>
      go_wp2
      go_ret
      exact ⟨_, _, _, l, rfl, ⟨⟨vs, hO3.row (fun q hq => by have := hlo q hq; omega), hR3.weak fun _ _ hb => by have := hb.1; omega⟩, hl⟩, hm, h4, hG3⟩
    | true =>
      go_wp2_with fail
      have hs2 := hG2.size
      have hs3 := hK3.size
      have hgl3 := hC3.lt
      have hRp : RdI (w3.alloc (.cells #[.int .i64 (-1), .int .i64 10, .int .i64 9] 3)) (fun q => q = w3.heap.size) (some ⟨w3.heap.size, 0, none⟩) 3 3 [-1, 10, 9] := RdI.lit (Blk.new _ _ _) rfl rfl (by simp) (by intro z hz; simp at hz; unfold I64; omega) rfl
      refine (l1PickInt_c g _ _ _ _ _ (hC3.grow ((Grow.refl _).alloc _ _)) hRp (fun q hq => by omega) (by omega) (by omega)).mono ?_
      rintro e w4 ⟨x, hx, rfl, hC4, hK4⟩
      have hx2 : I64 x := by simp at hx; unfold I64; omega
      have hGa := (Grow.refl w3).alloc #[.int .i64 (-1), .int .i64 10, .int .i64 9] 3
      have hK34 := hGa.any.trans hK4
      have hG4 : Grow w w4 := (hG3.trans hGa).keep hK4 (fun q hq e => by omega)
      have hO4 := hO3.keep hK34 (fun q hq _ e => by have := hlo q hq; omega)
      have hR4 := hR3.keep hK34 (fun q _ hb e => by have := hb.1; omega)
      obtain ⟨p, hp⟩ : ∃ p, a' = some ⟨p, 0, none⟩ := hO4.at0 h0
      subst hp
      have hlt := hO4.lt (g := p) rfl
      have hlop := hlo p rfl
      obtain ⟨v0, hv0⟩ : ∃ v0, vs[0]? = some v0 := ⟨_, List.getElem?_eq_getElem (by have := hO4.len; omega)⟩
      have hce := hO4.cell hv0
      have hfr := hO4.free 0
      simp only at hce hfr
      have hs4 := hG4.size
      clear hO hO3 hR hR3 hRp hC1 hC2 hC3 hK2 hK3
      go_wp2
      go_ret
      have hvl : vs.length = m := by have := hO4.len; omega
      obtain ⟨v1, vr, rfl⟩ : ∃ v1 vr, vs = v1 :: vr := by
        cases vs with
        | nil => simp at hvl; omega
        | cons v1 vr => exact ⟨v1, vr, rfl⟩
      obtain ⟨l1, lr, rfl⟩ : ∃ l1 lr, l = l1 :: lr := by
        cases l with
        | nil => simp at hl; omega
        | cons l1 lr => exact ⟨l1, lr, rfl⟩
      have hKs : Keep (fun q => q ≠ p) w4 (w4.setCell ⟨p, 0, none⟩ (.slice (some ⟨w4.heap.size, 0, none⟩) 1 1)) := (Keep.refl _ w4).setCell (p := ⟨p, 0, none⟩) (fun _ e => e rfl) _
      have hGz := (Grow.refl (w4.setCell ⟨p, 0, none⟩ (.slice (some ⟨w4.heap.size, 0, none⟩) 1 1))).alloc #[.int .i64 x] 3
      have hO5 := (hO4.set 0 (.slice (some ⟨w4.heap.size, 0, none⟩) 1 1)).grow hGz
      have hR5 := ((hR4.tail1.weak (T := fun q => w.heap.size ≤ q ∧ q ≠ p) (fun q _ hb => ⟨by have := hb.1; omega, fun e => hb.2 (by rw [e]; rfl)⟩)).keep hKs (fun q _ hb => hb.2)).grow hGz
      have hx5 : RdI ((w4.setCell ⟨p, 0, none⟩ (.slice (some ⟨w4.heap.size, 0, none⟩) 1 1)).alloc (.cells #[.int .i64 x] 3)) (fun q => w.heap.size ≤ q ∧ q ≠ p) (some ⟨w4.heap.size, 0, none⟩) 1 1 [x] :=
        RdI.lit (Blk.newAt _ _ _ (by simp)) rfl rfl (by simp) (by intro z hz; simp at hz; rw [hz]; exact hx2) ⟨hs4, by omega⟩
      have hC5 := RdCells.cons (n := 1) (s := [x]) rfl hx5 hR5
      refine ⟨_, _, _, [x] :: lr, rfl, ⟨⟨_, hO5.row (fun q hq => by simp at hq; omega), hC5.weak fun _ _ hb => hb.1⟩, by simpa using hl⟩, hm, fun s hs => ?_, (hG4.keep hKs (fun q hq e => by omega)).trans hGz⟩
      rcases List.mem_cons.1 hs with rfl | hs
      · simp
      · exact h4 s (by simp [hs])
  · go_wp2
    go_ret
    exact ⟨_, _, _, l, rfl, ⟨⟨vs, hO.row (fun q hq => by have := hlo q hq; omega), hR.weak fun _ _ hb => by have := hb.1; omega⟩, hl⟩, hm, h4, hG2⟩
end Go.Proofs.Yteianlmindckpaa
