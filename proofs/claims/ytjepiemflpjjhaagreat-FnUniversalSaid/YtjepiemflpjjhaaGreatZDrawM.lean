/-
  The draws of matrices, relations and maps.
-/
import Derived.Test.YtjepiemflpjjhaaGreatZDraw
import Derived.Test.YtjepiemflpjjhaaGreatZInts
import Derived.Test.YtjepiemflpjjhaaGreatZBase
set_option maxHeartbeats 8000000
set_option maxRecDepth 100000
namespace Go.Proofs.YtjepiemflpjjhaaGreat
open Go.RowKit
theorem RdI.litM {w : World} {S : Nat → Prop} {g n : Nat} {cs : Array Value} {t : TypeId} {xs : List Int} (h : Blk w g cs t) (hc : cs.toList = ints xs) (hn : n = xs.length) (hm : xs.length ≤ 100) (hr : ∀ x ∈ xs, I64 x) (hS : S g) : RdI w S (some ⟨g, 0, none⟩) n n xs :=
 ⟨⟨by simp [hn], Nat.le_refl _, by unfold maxLen; omega, (fun h => by cases h), fun _ => ⟨g, 0, rfl, hS, fun j c hj => by rw [Nat.zero_add, h.cell, ← hj, ← hc, Array.getElem?_toList]⟩⟩, hr⟩
theorem pickIntM_c {S : Nat → Prop} (g : Nat) (a : Option Addr) (n cap : Nat) (xs : List Int) (w : World) (h : Cur w g) (hr : RdI w S a n cap xs) (hS : ∀ q, S q → q ≠ g) (hn : 0 < n) (hn2 : n ≤ 256) :
  Calls Tryz.prog 57 #[.pointer (some ⟨g, 0, none⟩), .slice a n cap] w fun e w' => ∃ x, I64 x ∧ e = .returned (.int .i64 x) ∧ Cur w' g ∧ Keep (fun q => q ≠ g) w w' := by
 go_enter Tryz.func57, Tryz.ntmps57
 go_wp2_with fail
 refine (l1Below_c g n _ h hn2).mono ?_
 rintro e w1 ⟨k, hk, rfl, hC, hK⟩
 have hr1 := hr.keep hK (fun q _ hb => hS q hb)
 obtain ⟨b, off, x, rfl, hx, hxr, _, hbw, hc⟩ := hr1.at (k := k) (by omega)
 go_wp2
 go_ret
 exact ⟨x, hxr, rfl, hC, hK⟩
def DM (B : Nat) (w : World) (v : Value) (m : Mat) : Prop := OM w (fun q => B ≤ q) v m ∧ bdM m ≤ 2048
theorem DM.keep {B g : Nat} {w w' : World} {v : Value} {m : Mat} (h : DM B w v m) (hk : Keep (fun q => q ≠ g) w w') (hg : g < B) : DM B w' v m := ⟨h.1.keep hk (fun q _ hq => by omega), h.2⟩
theorem DM.grow {B : Nat} {w w' : World} {v : Value} {m : Mat} (h : DM B w v m) (hk : Grow w w') : DM B w' v m := ⟨h.1.grow hk, h.2⟩
theorem DM.low {B C : Nat} {w : World} {v : Value} {m : Mat} (h : DM B w v m) (hC : C ≤ B) : DM C w v m := by
 obtain ⟨⟨a, n, c, rfl, h1, h2, h3, h4, h5⟩, h6⟩ := h
 exact ⟨⟨a, n, c, rfl, h1, h2, fun q hq => by have := h3 q hq; omega, h4, h5⟩, h6⟩
end Go.Proofs.YtjepiemflpjjhaaGreat
