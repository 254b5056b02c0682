/-
  Whether a simplex is another one without a vertex; the first simplex that is a face of just one: the program's and the reference's.
-/
import Derived.Test.YtjepiemflpjjhaaZOrder
set_option maxHeartbeats 8000000
set_option maxRecDepth 100000
namespace Go.Proofs.Ytjepiemflpjjhaa
open Go.RowKit
theorem del_sub' {xs : List Int} {k : Nat} {z : Int} (h : z ∈ del xs k) : z ∈ xs := by
 unfold del at h
 rcases List.mem_append.1 h with h | h
 ·exact List.mem_of_mem_take h
 ·exact List.mem_of_mem_drop h
def isFaceB (s t : List Int) : Bool := (List.range t.length).any fun k => sameI s (del t k)
theorem isFaceB_yes {s t : List Int} {k : Nat} (hk : k < t.length) (h : sameI s (del t k) = true) : isFaceB s t = true := by
 unfold isFaceB; rw [List.any_eq_true]; exact ⟨k, by simpa using hk, h⟩
theorem isFaceB_no {s t : List Int} (h : ∀ k, k < t.length → sameI s (del t k) = false) : isFaceB s t = false := by
 unfold isFaceB; rw [List.any_eq_false]; intro k hk; simp at hk; simp [h k hk]
theorem isFaceOf_c {S T : Nat → Prop} (a b : Option Addr) (n m cap cap' : Nat) (xs ys : List Int) (w : World) (h : RdI w S a n cap xs) (h' : RdI w T b m cap' ys) (hn : n ≤ 1048576) (hm : m ≤ 1048576) :
  Calls Try.prog 35 #[.slice a n cap, .slice b m cap'] w fun e w' => e = .returned (.bool (isFaceB xs ys)) ∧ Grow w w' := by
 have hl' := h'.len
 go_enter Try.func35, Try.ntmps35
 go_wp2
 go_loopw [8] (fun i wr => Grow w wr ∧ ∃ k : Nat, k ≤ m ∧ i = .int .i64 k ∧ ∀ j, j < k → sameI xs (del ys j) = false) (fun i _ => m - (intOf i).toNat)
 case atStart => exact ⟨Grow.refl _, 0, Nat.zero_le _, rfl, fun _ h => by omega⟩
 case round =>
  obtain ⟨hG, k, hk, rfl, hin⟩ := hrel
  have Hin := Lib.hid hin; clear hin
  by_cases hlt : k < m
  ·go_wp2_with fail
   refine (without_c _ _ _ k ys _ (h'.grow hG) hlt (by omega)).mono ?_
   rintro e w1 ⟨a3, c3, rfl, hO3, _, hG3⟩
   have hr3 := hO3.rdI (S := fun _ => True) (fun _ _ => trivial) (fun z hz => h'.rng z (del_sub' hz))
   have hG1 := hG.trans hG3
   go_wp2_with fail
   refine (equalI_c _ _ _ _ _ _ xs (del ys k) _ (h.grow hG1) hr3 (by omega)).mono ?_
   rintro e w2 ⟨rfl, hQ⟩
   have hG2 := hG1.trans hQ.grow
   cases hs : sameI xs (del ys k) with
   | true =>
    have Hs := Lib.hid hs; clear hs
    go_wp2
    go_ret
    exact ⟨ret_bool (isFaceB_yes (by omega) Hs.out).symm, hG2⟩
   | false =>
    have Hs := Lib.hid hs; clear hs
    go_wp2
    go_roundw
    case rel =>
     refine ⟨hG2, k + 1, by omega, by go_num, fun j hj => ?_⟩
     by_cases e : j = k
     ·subst e; exact Hs.out
     ·exact Hin.out j (by omega)
    case measure => simp [intOf]; omega
  ·go_wp2
   go_ret
   exact ⟨ret_bool (isFaceB_no fun j hj => Hin.out j (by omega)).symm, hG⟩
theorem l35Face_c {S T : Nat → Prop} (a b : Option Addr) (n m cap cap' : Nat) (xs ys : List Int) (w : World) (h : RdI w S a n cap xs) (h' : RdI w T b m cap' ys) (hn : n ≤ 1048576) (hm : m ≤ 1048576) :
  Calls Try.prog 36 #[.slice a n cap, .slice b m cap'] w fun e w' => e = .returned (.bool (isFaceB xs ys)) ∧ Grow w w' := by
 have hl' := h'.len
 go_enter Try.func36, Try.ntmps36
 go_wp2
 go_loopw [5] (fun i wr => Grow w wr ∧ ∃ k : Nat, k ≤ m ∧ i = .int .i64 k ∧ ∀ j, j < k → sameI xs (del ys j) = false) (fun i _ => m - (intOf i).toNat)
 case atStart => exact ⟨Grow.refl _, 0, Nat.zero_le _, rfl, fun _ h => by omega⟩
 case round =>
  obtain ⟨hG, k, hk, rfl, hin⟩ := hrel
  have Hin := Lib.hid hin; clear hin
  by_cases hlt : k < m
  ·go_wp2_with fail
   refine (l32Face_c _ _ _ k ys _ (h'.grow hG) hlt (by omega)).mono ?_
   rintro e w1 ⟨a3, c3, rfl, hO3, _, hG3⟩
   have hr3 := hO3.rdI (S := fun _ => True) (fun _ _ => trivial) (fun z hz => h'.rng z (del_sub' hz))
   have hG1 := hG.trans hG3
   go_wp2_with fail
   refine (l32Same_c _ _ _ _ _ _ xs (del ys k) _ (h.grow hG1) hr3 (by omega) (by rw [del_len (by omega)]; omega)).mono ?_
   rintro e w2 ⟨rfl, hQ⟩
   have hG2 := hG1.trans hQ.grow
   cases hs : sameI xs (del ys k) with
   | true =>
    have Hs := Lib.hid hs; clear hs
    go_wp2
    go_ret
    exact ⟨ret_bool (isFaceB_yes (by omega) Hs.out).symm, hG2⟩
   | false =>
    have Hs := Lib.hid hs; clear hs
    go_wp2
    go_roundw
    case rel =>
     refine ⟨hG2, k + 1, by omega, by go_num, fun j hj => ?_⟩
     by_cases e : j = k
     ·subst e; exact Hs.out
     ·exact Hin.out j (by omega)
    case measure => simp [intOf]; omega
  ·go_wp2
   go_ret
   exact ⟨ret_bool (isFaceB_no fun j hj => Hin.out j (by omega)).symm, hG⟩
def over (l : List (List Int)) (s : List Int) : Nat → Int × Int
 | 0 => (0, -1)
 | k + 1 => if isFaceB s (l.getD k []) = true then ((over l s k).1 + 1, (k : Int)) else over l s k
theorem over_rng (l : List (List Int)) (s : List Int) (k : Nat) : 0 ≤ (over l s k).1 ∧ (over l s k).1 ≤ k ∧ -1 ≤ (over l s k).2 ∧ (over l s k).2 < k := by
 induction k with
 | zero => simp [over]
 | succ k ih => unfold over; split <;> simp <;> omega
theorem getD_of {l : List (List Int)} {k : Nat} {x : List Int} (h : l[k]? = some x) : l.getD k [] = x := by simp [List.getD, h]
def freeFrom (l : List (List Int)) : Nat → Nat → Int × Int
 | _, 0 => (-1, -1)
 | i, f + 1 => if (over l (l.getD i []) l.length).1 = 1 then ((i : Int), (over l (l.getD i []) l.length).2) else freeFrom l (i + 1) f
def freeB (l : List (List Int)) : Int × Int := freeFrom l 0 l.length
theorem freeFrom_rng (l : List (List Int)) : ∀ (f i : Nat), -1 ≤ (freeFrom l i f).1 ∧ (freeFrom l i f).1 < i + f ∧ (0 ≤ (freeFrom l i f).1 → (i : Int) ≤ (freeFrom l i f).1)
 | 0, i => by simp [freeFrom]; omega
 | f + 1, i => by
  have := freeFrom_rng l f (i + 1)
  unfold freeFrom; split
  ·simp; omega
  ·omega
theorem freeFace_c {S : Nat → Prop} (a : Option Addr) (n cap : Nat) (l : List (List Int)) (w : World) (h : RdII w S a n cap l) (hn : n ≤ 1048576) (ht : total l ≤ 1048576) :
  Calls Try.prog 17 #[.slice a n cap] w fun e w' => e = .returned (.tuple #[.int .i64 (freeB l).1, .int .i64 (freeB l).2]) ∧ Grow w w' := by
 have hl := h.len
 go_enter Try.func17, Try.ntmps17
 go_wp2
 go_loopw [12] (fun q wr => Grow w wr ∧ ∃ i : Nat, i ≤ n ∧ q = .int .i64 i ∧ freeFrom l i (n - i) = freeB l) (fun q _ => n - (intOf q).toNat)
 case atStart => exact ⟨Grow.refl _, 0, Nat.zero_le _, rfl, by unfold freeB; rw [hl]; rfl⟩
 case round =>
  obtain ⟨hGo, i, hi, rfl, hf⟩ := hrel
  have Hf := Lib.hid hf; clear hf
  by_cases hil : i < n
  ·obtain ⟨b, off, x, a1, c1, rfl, hx, _, hbw, hc, hrd⟩ := (h.grow hGo).at hil
   have hxl : x.length ≤ 1048576 := by have := total_at hx; omega
   have hgx := getD_of hx
   have Hx := Lib.hid hx; clear hx
   have Hgx := Lib.hid hgx; clear hgx
   go_wp2
   obtain ⟨wo, rfl⟩ : ∃ wo : World, wo = wr := ⟨_, rfl⟩
   go_loopw [6, 7, 19] (fun cq lq q wr => Grow wo wr ∧ ∃ k : Nat, k ≤ n ∧ q = .int .i64 k ∧ cq = .int .i64 (over l x k).1 ∧ lq = .int .i64 (over l x k).2) (fun _ _ q _ => n - (intOf q).toNat)
   case atStart => exact ⟨Grow.refl _, 0, Nat.zero_le _, rfl, rfl, rfl⟩
   case round =>
    obtain ⟨hGi, k, hk, rfl, rfl, rfl⟩ := hrel
    have hov := over_rng l x k
    by_cases hkn : k < n
    ·obtain ⟨b2, off2, y, a2, c2, he2, hy, _, hbw2, hc2, hrd2⟩ := (h.grow (hGo.trans hGi)).at hkn
     obtain ⟨rfl, rfl⟩ : b = b2 ∧ off = off2 := by simpa using he2
     have hyl : y.length ≤ 1048576 := by have := total_at hy; omega
     have hgy := Lib.hid (getD_of hy)
     clear hy he2
     go_wp2_with fail
     refine (isFaceOf_c _ _ _ _ _ _ x y _ (hrd.grow hGi) hrd2 hxl hyl).mono ?_
     rintro e w1 ⟨rfl, hG1⟩
     cases hb : isFaceB x y with
     | true =>
      have Hb := Lib.hid hb; clear hb
      go_wp2
      go_roundw
      case rel =>
       refine ⟨hGi.trans hG1, k + 1, by omega, by go_num, ?_, ?_⟩
       ·conv => rhs; unfold over
        rw [hgy.out, if_pos Hb.out]
       ·conv => rhs; unfold over
        rw [hgy.out, if_pos Hb.out]
      case measure => simp [intOf]; omega
     | false =>
      have Hb := Lib.hid hb; clear hb
      go_wp2
      go_roundw
      case rel =>
       refine ⟨hGi.trans hG1, k + 1, by omega, by go_num, ?_, ?_⟩
       ·conv => rhs; unfold over
        rw [hgy.out, if_neg (by rw [Hb.out]; simp)]
       ·conv => rhs; unfold over
        rw [hgy.out, if_neg (by rw [Hb.out]; simp)]
      case measure => simp [intOf]; omega
    ·have hkn' : k = n := by omega
     subst hkn'
     have hfs : freeFrom l i (k - i) = if (over l x k).1 = 1 then ((i : Int), (over l x k).2) else freeFrom l (i + 1) (k - (i + 1)) := by
      rw [show k - i = (k - (i + 1)) + 1 from by omega]
      conv => lhs; unfold freeFrom
      rw [Hgx.out, hl]
     have Hfs := Lib.hid hfs; clear hfs
     by_cases h1 : (over l x k).1 = 1
     ·have hb1 : ((over l x k).1 == 1) = true := by simpa using h1
      have H1 := Lib.hid h1; clear h1
      go_wp2
      go_ret2
      refine ⟨?_, hGo.trans hGi⟩
      rw [← Hf.out, Hfs.out, if_pos H1.out]; rfl
     ·have hb1 : ((over l x k).1 == 1) = false := by simpa using h1
      have H1 := Lib.hid h1; clear h1
      go_wp2
      go_roundw
      case rel => exact ⟨hGo.trans hGi, i + 1, by omega, by go_num, by rw [← Hf.out, Hfs.out, if_neg H1.out]⟩
      case measure => simp [intOf]; omega
  ·go_wp2
   go_ret2
   refine ⟨?_, hGo⟩
   have e : n - i = 0 := by omega
   rw [← Hf.out, e]; rfl
theorem l35Free_c {S : Nat → Prop} (a : Option Addr) (n cap : Nat) (l : List (List Int)) (w : World) (h : RdII w S a n cap l) (hn : n ≤ 1048576) (ht : total l ≤ 1048576) :
  Calls Try.prog 18 #[.slice a n cap] w fun e w' => e = .returned (.tuple #[.int .i64 (freeB l).1, .int .i64 (freeB l).2]) ∧ Grow w w' := by
 have hl := h.len
 go_enter Try.func18, Try.ntmps18
 go_wp2
 go_loopw [4] (fun q wr => Grow w wr ∧ ∃ i : Nat, i ≤ n ∧ q = .int .i64 i ∧ freeFrom l i (n - i) = freeB l) (fun q _ => n - (intOf q).toNat)
 case atStart => exact ⟨Grow.refl _, 0, Nat.zero_le _, rfl, by unfold freeB; rw [hl]; rfl⟩
 case round =>
  obtain ⟨hGo, i, hi, rfl, hf⟩ := hrel
  have Hf := Lib.hid hf; clear hf
  by_cases hil : i < n
  ·obtain ⟨b, off, x, a1, c1, rfl, hx, _, hbw, hc, hrd⟩ := (h.grow hGo).at hil
   have hxl : x.length ≤ 1048576 := by have := total_at hx; omega
   have hgx := getD_of hx
   have Hx := Lib.hid hx; clear hx
   have Hgx := Lib.hid hgx; clear hgx
   go_wp2
   obtain ⟨wo, rfl⟩ : ∃ wo : World, wo = wr := ⟨_, rfl⟩
   go_loopw [5, 6, 7] (fun lq cq q wr => Grow wo wr ∧ ∃ k : Nat, k ≤ n ∧ q = .int .i64 k ∧ cq = .int .i64 (over l x k).1 ∧ lq = .int .i64 (over l x k).2) (fun _ _ q _ => n - (intOf q).toNat)
   case atStart => exact ⟨Grow.refl _, 0, Nat.zero_le _, rfl, rfl, rfl⟩
   case round =>
    obtain ⟨hGi, k, hk, rfl, rfl, rfl⟩ := hrel
    have hov := over_rng l x k
    have hci := hGi.cell hc
    by_cases hkn : k < n
    ·obtain ⟨b2, off2, y, a2, c2, he2, hy, _, hbw2, hc2, hrd2⟩ := (h.grow (hGo.trans hGi)).at hkn
     obtain ⟨rfl, rfl⟩ : b = b2 ∧ off = off2 := by simpa using he2
     have hyl : y.length ≤ 1048576 := by have := total_at hy; omega
     have hgy := Lib.hid (getD_of hy)
     clear hy he2
     go_wp2
     refine wp_region_mix (S := Grow wr) [0, 1, 2, 3, 4, 5, 6, 7] [8] P_mixed (by kernel_rfl) (fun _ _ _ _ _ h => h) (Grow.refl _).drew ?_
     show wpQuiet _ _ _ (fun a' => wpListS _ _ _ _ [_] a' _) [_, _, _, _, _, _, _, _] _
     repeat (first | go_big_quiet_skip | (go_big_quiet_want; first | (apply quiet_load CT_ints; rfl; rfl; exact (fun w' hG => hG.cell hci); go_big_quiet_on; simp only [Act.put, List.setIfInBounds_toArray, List.set_cons_succ, List.set_cons_zero]) | (apply quiet_load CT_ints; rfl; rfl; exact (fun w' hG => hG.cell hc2); go_big_quiet_on; simp only [Act.put, List.setIfInBounds_toArray, List.set_cons_succ, List.set_cons_zero]) | (go_big_quiet_op; first | go_big_quiet_on | (refine ⟨_, (fun _ _ => rfl), ?_⟩; go_big_quiet_on))))
     refine wpQuiet_nil ?_
     show wpListS _ _ _ _ _ _ _
     refine wpListS_step rfl (fun K hK => ?_)
     go_wp2_with fail
     refine (l35Face_c _ _ _ _ _ _ x y _ (hrd.grow (hGi.trans (Grow.refl _).drew)) (hrd2.grow (Grow.refl _).drew) hxl hyl).mono ?_
     rintro e w1 ⟨rfl, hG0⟩
     have hG1 : Grow wr w1 := (Grow.refl wr).drew.trans hG0
     cases hb : isFaceB x y with
     | true =>
      have Hb := Lib.hid hb; clear hb
      go_wp2_with fail
      refine hK _ _ (hG1) ?_
      clear hK K
      refine wpListS_nil ?_
      go_wp2
      go_roundw
      case rel =>
       refine ⟨hGi.trans hG1, k + 1, by omega, by go_num, ?_, ?_⟩
       ·conv => rhs; unfold over
        rw [hgy.out, if_pos Hb.out]
       ·conv => rhs; unfold over
        rw [hgy.out, if_pos Hb.out]
      case measure => simp [intOf]; omega
     | false =>
      have Hb := Lib.hid hb; clear hb
      go_wp2_with fail
      refine hK _ _ (hG1) ?_
      clear hK K
      refine wpListS_nil ?_
      go_wp2
      go_roundw
      case rel =>
       refine ⟨hGi.trans hG1, k + 1, by omega, by go_num, ?_, ?_⟩
       ·conv => rhs; unfold over
        rw [hgy.out, if_neg (by rw [Hb.out]; simp)]
       ·conv => rhs; unfold over
        rw [hgy.out, if_neg (by rw [Hb.out]; simp)]
      case measure => simp [intOf]; omega
    ·have hkn' : k = n := by omega
     subst hkn'
     have hfs : freeFrom l i (k - i) = if (over l x k).1 = 1 then ((i : Int), (over l x k).2) else freeFrom l (i + 1) (k - (i + 1)) := by
      rw [show k - i = (k - (i + 1)) + 1 from by omega]
      conv => lhs; unfold freeFrom
      rw [Hgx.out, hl]
     have Hfs := Lib.hid hfs; clear hfs
     by_cases h1 : (over l x k).1 = 1
     ·have hb1 : ((over l x k).1 == 1) = true := by simpa using h1
      have H1 := Lib.hid h1; clear h1
      go_wp2
      go_ret2
      refine ⟨?_, hGo.trans hGi⟩
      rw [← Hf.out, Hfs.out, if_pos H1.out]; rfl
     ·have hb1 : ((over l x k).1 == 1) = false := by simpa using h1
      have H1 := Lib.hid h1; clear h1
      go_wp2
      go_roundw
      case rel => exact ⟨hGo.trans hGi, i + 1, by omega, by go_num, by rw [← Hf.out, Hfs.out, if_neg H1.out]⟩
      case measure => simp [intOf]; omega
  ·go_wp2
   go_ret2
   refine ⟨?_, hGo⟩
   have e : n - i = 0 := by omega
   rw [← Hf.out, e]; rfl
end Go.Proofs.Ytjepiemflpjjhaa
