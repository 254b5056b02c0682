/-
  Copies of a matrix: the program's and the reference's.
-/
import Derived.Test.YtkafhbedipfgpaaMat
import Derived.Test.YtkafhbedipfgpaaApp
namespace Go.Proofs.Ytkafhbedipfgpaa
open Go.RowKit

/-- Any append, as one operation. -/
theorem op_app {P : Program} {o : Oper} {a : Act} {w : World} {K : Act → World → Prop} {Q : Exit → Act → World → Prop} {s x : Operand} {t : TypeId} (ho : o.op = .call { callee := .builtin .append, args := #[s, x], argTypes := #[t, t] }) {e : TypeId} {z : Value} {sz bytes : Nat} (hT : SlT P t e z sz bytes)
    {S : Nat → Prop} {p : Option Addr} {n cap : Nat} {cs : List Value} (hs : a.eval s = .slice p n cap) (hown : Own w e sz p n cap cs) {b : Option Addr} {m c : Nat} {news : List Value} (hx : a.eval x = .slice b m c) (hsrc : Row w S sz b m c news) (h1 : ∀ u ∈ news, u.oneCell' = true)
    (hbytes : (n + m) * bytes ≤ 140737488355328) (h63 : n + m ≤ maxLen)
    (h : ∀ a' cap' w', Apped w w' e sz p a' (n + m) cap' (cs ++ news) → K (a.put o.dst (.slice a' (n + m) cap')) w') : o.wp P a w K Q := by
  obtain ⟨ht, ⟨i, hi, hz, hsz, hby⟩, hzs⟩ := hT
  obtain ⟨a', cap', w', hr, hap⟩ := run_app (P := P) w t o.type e i z sz bytes ht hi hz hsz hby hzs hown hsrc h1 hbytes h63
  unfold Oper.wp execOp
  simp only [ho, resolve, invoke, builtin, Sem.run_bind, Sem.run_pure, Result.andThen_ok, List.map_toArray, List.map_cons, List.map_nil, hs, hx, hr]
  exact h _ _ _ hap

set_option maxHeartbeats 1000000 in
theorem copyMatrix_c {S : Nat → Prop} {v : Value} {m : Mat} {w : World} (h : VM w S v m) (hb : bdM m ≤ 1048576) : Calls Try.prog 126 #[v] w fun e w' => ∃ v', e = .returned v' ∧ OM w' (New w w') v' m ∧ Grow w w' := by
  obtain ⟨a, n, c, rfl, h, hr, hc⟩ := h
  have hl := h.len
  unfold bdM at hb
  obtain ⟨w0, hw0⟩ : ∃ w0, w0 = ((w.alloc (.cells #[.int .i64 m.rows, .int .i64 m.cols, .slice a n c] 30)).alloc (.cells #[.int .i64 0, .int .i64 0, .slice none 0 0] 30)).alloc (.cells #[] 3) := ⟨_, rfl⟩
  have hG0 : Grow w w0 := by rw [hw0]; exact (((Grow.refl w).alloc _ _).alloc _ _).alloc _ _
  have hs0 : w0.heap.size = w.heap.size + 3 := by rw [hw0]; simp
  have b1 : Blk w0 w.heap.size #[.int .i64 m.rows, .int .i64 m.cols, .slice a n c] 30 := by rw [hw0]; exact ((Blk.newAt _ _ _ rfl).alloc _).alloc _
  have b2 : Blk w0 (w.heap.size + 1) #[.int .i64 0, .int .i64 0, .slice none 0 0] 30 := by rw [hw0]; exact (Blk.newAt _ _ _ (by simp)).alloc _
  have hE : Own w0 3 1 (some ⟨w.heap.size + 1 + 1, 0, none⟩) 0 0 [] := by rw [hw0]; exact Own.freshAt (by simp) (by unfold maxLen; omega) rfl
  obtain ⟨⟨x0, x1, x2⟩, -⟩ := b1.three
  have Hw0 := Lib.hid hw0; clear hw0
  go_enter Try.func126, Try.ntmps126
  go_wp2_with (at_builtin; rw [← Hw0.out]; refine wpList_app rfl (.tmp 3) (.tmp 5) _ rfl T_ints rfl hE rfl (h.row.grow hG0) (ints_one _) (by omega) (by unfold maxLen; omega) ?_; intro a2 c2 w2 hA2; obtain ⟨⟨z0, z1, z2⟩, g0, g1, g2⟩ := (b1.keep hA2.keep (by simp; omega)).three; obtain ⟨⟨y0, y1, y2⟩, f0, f1, f2⟩ := (b2.keep hA2.keep (by simp)).three)
  have hne1 : w.heap.size + 1 ≠ w.heap.size := by omega
  have hG2 : Grow w w2 := hA2.grow hG0 (fun g hg => by simp at hg; omega)
  have hl2 := hA2.lo (B := w.heap.size + 2) (by omega) (fun g hg => by simp at hg; omega)
  have ho2 : Own w2 3 1 a2 n c2 (ints m.cells) := by simpa using hA2.own
  have hB2 := b2.keep hA2.keep (by simp)
  have hs2 := hG2.size
  have hK : Keep (fun q => q ≠ w.heap.size ∧ q ≠ w.heap.size + 1) w2 ((((w2.setCell ⟨w.heap.size, 2, none⟩ (.slice a2 n c2)).setCell ⟨w.heap.size + 1, 0, none⟩ (.int .i64 m.rows)).setCell ⟨w.heap.size + 1, 1, none⟩ (.int .i64 m.cols)).setCell ⟨w.heap.size + 1, 2, none⟩ (.slice a2 n c2)) :=
    ((((Keep.refl _ w2).setCell (fun _ e => e.1 rfl) _).setCell (fun _ e => e.2 rfl) _).setCell (fun _ e => e.2 rfl) _).setCell (fun _ e => e.2 rfl) _
  have hof := ho2.keep hK (fun g hg _ => by have := hl2 g hg; omega)
  have hBf := (((hB2.other (p := ⟨w.heap.size, 2, none⟩) (by simp) (.slice a2 n c2)).set 0 (.int .i64 m.rows)).set 1 (.int .i64 m.cols)).set 2 (.slice a2 n c2)
  have hl' := hl
  refine ret_cell T_mat rfl rfl rfl hBf ⟨_, rfl, ⟨a2, n, c2, rfl, hof, h.rng, fun g hg => ⟨by have := hl2 g hg; omega, hof.lt hg⟩, hr, hc⟩, hG2.keep hK fun q hq => by omega⟩
end Go.Proofs.Ytkafhbedipfgpaa
