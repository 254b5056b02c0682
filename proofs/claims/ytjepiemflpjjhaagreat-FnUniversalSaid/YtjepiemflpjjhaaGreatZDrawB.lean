/-
  The draw for the law on residues.
-/
import Derived.Test.YtjepiemflpjjhaaGreatZDraw
import Derived.Test.YtjepiemflpjjhaaGreatZDrawM
set_option maxHeartbeats 8000000
set_option maxRecDepth 100000
namespace Go.Proofs.YtjepiemflpjjhaaGreat
open Go.RowKit
theorem T_bytes : SlT Tryz.prog 22 5 (.int .u8 0) 1 1 := SlT.mk' Tryz.underlying22 (by kernel_rfl) rfl
theorem l8Prime_c (g : Nat) (w : World) (h : Cur w g) :
  Calls Tryz.prog 29 #[.pointer (some ⟨g, 0, none⟩)] w fun e w' => ∃ x, I64 x ∧ e = .returned (.int .i64 x) ∧ Cur w' g ∧ Keep (fun q => q ≠ g) w w' := by
 have hlt := h.lt
 go_enter Tryz.func29, Tryz.ntmps29
 go_wp2_with fail
 refine (l1Once_c g 12 _ h (by omega)).mono ?_
 rintro e w1 ⟨b, rfl, hC, hK⟩
 have hlt1 := hC.lt
 cases b with
 | true =>
  go_wp2_with fail
  have hR : RdI (w1.alloc (.cells #[.int .i64 (-1), .int .i64 0, .int .i64 1, .int .i64 4, .int .i64 9973, .int .i64 10007, .int .i64 9999] 3)) (fun q => q = w1.heap.size) (some ⟨w1.heap.size, 0, none⟩) 7 7 [-1, 0, 1, 4, 9973, 10007, 9999] := RdI.litM (Blk.new _ _ _) rfl rfl (by simp) (by intro z hz; simp at hz; unfold I64; omega) rfl
  have hGa := (Grow.refl w1).alloc #[.int .i64 (-1), .int .i64 0, .int .i64 1, .int .i64 4, .int .i64 9973, .int .i64 10007, .int .i64 9999] 3
  refine (pickIntM_c g _ _ _ _ _ (hC.grow hGa) hR (fun q hq => by omega) (by omega) (by omega)).mono ?_
  rintro e w2 ⟨x, hx, rfl, hC2, hK2⟩
  go_wp2
  go_ret
  exact ⟨x, hx, rfl, hC2, (hK.trans hGa.any).trans hK2⟩
 | false =>
  go_wp2_with fail
  have hR : RdI (w1.alloc (.cells #[.int .i64 2, .int .i64 3, .int .i64 5, .int .i64 7, .int .i64 11, .int .i64 13, .int .i64 101] 3)) (fun q => q = w1.heap.size) (some ⟨w1.heap.size, 0, none⟩) 7 7 [2, 3, 5, 7, 11, 13, 101] := RdI.litM (Blk.new _ _ _) rfl rfl (by simp) (by intro z hz; simp at hz; unfold I64; omega) rfl
  have hGa := (Grow.refl w1).alloc #[.int .i64 2, .int .i64 3, .int .i64 5, .int .i64 7, .int .i64 11, .int .i64 13, .int .i64 101] 3
  refine (pickIntM_c g _ _ _ _ _ (hC.grow hGa) hR (fun q hq => by omega) (by omega) (by omega)).mono ?_
  rintro e w2 ⟨x, hx, rfl, hC2, hK2⟩
  go_wp2
  go_ret
  exact ⟨x, hx, rfl, hC2, (hK.trans hGa.any).trans hK2⟩
theorem DrawBettiMod_c (a : Option Addr) (n cap : Nat) (bs : List Int) (w : World) (h : RdB w (fun _ => True) a n cap bs) (hn : n ≤ 1048576) :
  Calls Tryz.prog 13 #[.slice a n cap] w fun e w' => ∃ a' m c' l, ∃ k : Nat, ∃ p : Int, e = .returned (.tuple #[.slice a' m c', .int .i64 ((k : Int) - 1), .int .i64 p]) ∧ I64 p ∧ RdII w' (fun q => w.heap.size ≤ q) a' m c' l ∧ m ≤ 96 ∧ (∀ s ∈ l, s.length ≤ 4) ∧ k ≤ 5 ∧ Grow w w' := by
 have hbl := h.len
 go_enter Tryz.func13, Tryz.ntmps13
 go_wp2_with fail
 refine (l33Draw_c _ _ _ bs _ h hn).mono ?_
 rintro e w1 ⟨a', m, c', l, k, rfl, hR, hm, h4, hk, hG⟩
 have h1 := h.grow hG
 have hGa := (Grow.refl w1).alloc #[.int .u8 3] 5
 have hO : Own (w1.alloc (.cells #[.int .u8 3] 5)) 5 1 (some ⟨w1.heap.size, 0, none⟩) 1 1 [.int .u8 3] := Own.fresh (by unfold maxLen; omega) rfl
 have h2 := h1.grow hGa
 have hlo : ∀ g, blk (some (⟨w1.heap.size, 0, none⟩ : Addr)) = some g → w1.heap.size ≤ g := fun g hg => by simp at hg; omega
 go_wp2_with (first | (at_builtin; refine wpList_app rfl (.tmp 14) (.tmp 15) _ rfl T_bytes rfl hO rfl h2.row (fun u hu => by obtain ⟨x, -, rfl⟩ := List.mem_map.1 hu; rfl) (by omega) (by unfold maxLen; omega) ?_; intro a3 c3 w3 hA3))
 have hG3 : Grow w1 w3 := hA3.grow hGa hlo
 have hB : RdB w3 (fun _ => True) a3 (1 + n) c3 (3 :: bs) := ⟨by have := hA3.own.row (S := fun _ => True) fun _ _ => trivial; simpa using this, fun x hx => by
  rcases List.mem_cons.1 hx with rfl | hx
  ·omega
  ·exact h.rng x hx⟩
 refine (l1New_c _ _ _ (3 :: bs) _ hB (by omega)).mono ?_
 rintro e w4 ⟨g, hg, rfl, hC4, hG4⟩
 go_wp2_with fail
 refine (l8Prime_c g _ hC4).mono ?_
 rintro e w5 ⟨p, hp, rfl, hC5, hK5⟩
 have hs3 := hG3.size
 have hs1 := hG.size
 have hG5 : Grow w1 w5 := (hG3.trans hG4).keep hK5 (fun q hq e => by omega)
 go_wp2
 go_ret3
 exact ⟨_, _, _, l, k, p, rfl, hp, hR.grow hG5, hm, h4, hk, hG.trans hG5⟩
end Go.Proofs.YtjepiemflpjjhaaGreat
