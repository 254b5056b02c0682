/-
  FacesOf: the simplices of one dimension, copied.
-/
import Derived.Test.YthlncohllbmapaaKindII
namespace Go.Proofs.Ythlncohllbmapaa
open Go.RowKit

theorem SepII.app {w0 w w2 w3 : World} {a a' b : Option Addr} {n cap' c : Nat} {vs : List Value} {xss : List (List Int)} {xs : List Int} (hI : Inner w (New w0 w) (blk a) vs xss) (hlo : ∀ g, blk a = some g → New w0 w g) (hg : Grow w w2)
    (hb : Own w2 3 1 b xs.length c (ints xs)) (hr : ∀ x ∈ xs, I64 x) (h0 : w0.heap.size ≤ w.heap.size) (hbn : ∀ q, blk b = some q → w.heap.size ≤ q) (ha : Apped w2 w3 22 1 a a' n cap' (vs ++ [.slice b xs.length c])) :
    SepII w3 (New w0 w3) a' n cap' (xss ++ [xs]) := by
  have hs2 := hg.size
  have hs3 := ha.keep.size
  have hI2 : Inner w2 (New w0 w3) (blk a) vs xss := (hI.grow hg).weak fun q _ hF hne => ⟨⟨hF.1, by have := hF.2; omega⟩, hne⟩
  have hI3 := hI2.snoc (b := b) (c := c) hb hr
    (fun q hq => ⟨⟨by have := hbn q hq; omega, by have := hb.lt hq; omega⟩, fun e => by have := (hlo q e).2; have := hbn q hq; omega⟩)
    (fun q hq v hv hvq => by have := (hI.lt hv hvq).1; have := hbn q hq; omega)
  refine ⟨⟨_, ha.own, hI3.move ha.keep fun q hq hF hne => ⟨hne, hF, ?_⟩⟩, fun g hg' => ⟨?_, ha.own.lt hg'⟩⟩
  · rcases ha.new with e | ⟨g, e, hge⟩
    · rw [e]; exact hne
    · rw [e]; intro e2; have := Option.some.inj e2; omega
  · rcases ha.new with e | ⟨g', e, hge⟩
    · have := (hlo g (by rw [← e]; exact hg')).1; omega
    · rw [e] at hg'; have := Option.some.inj hg'; omega

def facesB (l : List (List Int)) (k : Int) : List (List Int) := l.filter fun s => (s.length : Int) - 1 == k

theorem facesB_len (l : List (List Int)) (k : Int) : (facesB l k).length ≤ l.length := List.length_filter_le _ _
theorem facesB_yes {l : List (List Int)} {xs : List Int} {k : Int} (h : (xs.length : Int) - 1 = k) : facesB (l ++ [xs]) k = facesB l k ++ [xs] := by
  unfold facesB; rw [List.filter_append]; simp [h]
theorem facesB_no {l : List (List Int)} {xs : List Int} {k : Int} (h : ¬ (xs.length : Int) - 1 = k) : facesB (l ++ [xs]) k = facesB l k := by
  unfold facesB; rw [List.filter_append]; simp [h]
theorem SepII.fresh0 (w : World) : SepII (w.alloc (.cells #[] 22)) (New w (w.alloc (.cells #[] 22))) (some ⟨w.heap.size, 0, none⟩) 0 0 [] :=
  ⟨⟨[], Own.fresh (by unfold maxLen; omega) rfl, Inner.nilw⟩, fun g hg => by simp at hg; subst hg; exact ⟨Nat.le_refl _, by simp⟩⟩

set_option maxHeartbeats 400000 in
theorem implFacesOf_c {S : Nat → Prop} (a : Option Addr) (n cap : Nat) (l : List (List Int)) (k : Int) (w : World) (h : RdII w S a n cap l) (hn : n ≤ 1048576) (ht : total l ≤ 1048576) :
    Calls Try.prog 76 #[.slice a n cap, .int .i64 k] w fun e w' =>
      ∃ a' m c', e = .returned (.slice a' m c') ∧ SepII w' (New w w') a' m c' (facesB l k) ∧ Grow w w' := by
  have hl := h.len
  go_enter Try.func76, Try.ntmps76
  go_wp2
  go_loopw [5, 11] (fun v i wr => ∃ (j m c' : Nat) (a' : Option Addr), j ≤ n ∧ i = .int .i64 j ∧ v = .slice a' m c' ∧ Grow w wr ∧ SepII wr (New w wr) a' m c' (facesB (l.take j) k)) (fun _ i _ => n - (intOf i).toNat)
  case atStart => exact ⟨0, 0, 0, _, Nat.zero_le _, rfl, rfl, (Grow.refl w).alloc _ _, SepII.fresh0 w⟩
  case round =>
    obtain ⟨j, m, c1, a1, hj, rfl, rfl, hG, hS⟩ := hrel
    by_cases hlt : j < n
    · obtain ⟨b, off, xs, a', c', rfl, hx, _, hbw, hc, hrd⟩ := (h.grow hG).at hlt
      have hxl : xs.length ≤ 1048576 := by have := total_at hx; omega
      have hml : m ≤ 1048576 := by have := hS.len; have := facesB_len (l.take j) k; simp at this; omega
      obtain ⟨⟨vs, hO, hI⟩, hlo⟩ := hS
      have Hx := Lib.hid hx; clear hx
      by_cases ht : (xs.length : Int) - 1 = k
      · subst ht
        have hE : Own (wr.alloc (.cells #[] 3)) 3 1 (some ⟨wr.heap.size, 0, none⟩) 0 0 [] := Own.fresh (by unfold maxLen; omega) rfl
        go_wp2_with (first
          | (at_builtin; refine wpList_app rfl (.tmp 20) (.tmp 24) _ rfl T_intss rfl (hO.grow ((hA2.grow ((Grow.refl wr).alloc _ _) (fun g hg => by simp at hg; omega)).alloc _ _)) rfl (Row.built (S := fun _ => True) 1 (by unfold maxLen; omega) rfl trivial) (by simp [Value.oneCell']) (by omega) (by unfold maxLen; omega) ?_; intro a3 c3 w3 hA3)
          | (at_builtin; refine wpList_app rfl (.tmp 21) (.tmp 22) _ rfl T_ints rfl hE rfl (hrd.row.grow ((Grow.refl _).alloc _ _)) (ints_one _) (by omega) (by unfold maxLen; omega) ?_; intro a2 c2 w2 hA2))
        have hG2 : Grow wr w2 := hA2.grow ((Grow.refl wr).alloc _ _) (fun g hg => by simp at hg; omega)
        have hO2 : Own w2 3 1 a2 xs.length c2 (ints xs) := by simpa using hA2.own
        have hB2 : ∀ q, blk a2 = some q → wr.heap.size ≤ q := hA2.lo (by simp) (fun g hg => by simp at hg; omega)
        have hR := SepII.app hI hlo (hG2.alloc _ _) (hO2.grow ((Grow.refl _).alloc _ _)) hrd.rng hG.size hB2 hA3
        have hG3 : Grow w w3 := hA3.grow (hG.trans (hG2.alloc _ _)) (fun g hg => (hlo g hg).1)
        clear hA2 hA3 hO2 hI hO hE
        go_wp2
        go_roundw
        case rel => exact ⟨j + 1, m + 1, c3, a3, by omega, by go_num, rfl, hG3, by rw [take_succ Hx.out, facesB_yes rfl]; exact hR⟩
        case measure => simp [intOf]; omega
      · go_wp2
        go_roundw
        case rel => exact ⟨j + 1, m, c1, a1, by omega, by go_num, rfl, hG, by rw [take_succ Hx.out, facesB_no ht]; exact ⟨⟨vs, hO, hI⟩, hlo⟩⟩
        case measure => simp [intOf]; omega
    · go_wp2
      go_ret
      have : j = n := by omega
      subst this
      rw [take_all hl] at hS
      exact ⟨_, _, _, rfl, hS, hG⟩

set_option maxHeartbeats 400000 in
theorem specFacesOf_c {S : Nat → Prop} (a : Option Addr) (n cap : Nat) (l : List (List Int)) (k : Int) (w : World) (h : RdII w S a n cap l) (hn : n ≤ 1048576) (ht : total l ≤ 1048576) :
    Calls Try.prog 69 #[.slice a n cap, .int .i64 k] w fun e w' =>
      ∃ a' m c', e = .returned (.slice a' m c') ∧ SepII w' (New w w') a' m c' (facesB l k) ∧ Grow w w' := by
  have hl := h.len
  go_enter Try.func69, Try.ntmps69
  go_wp2
  go_loopw [5, 6] (fun v i wr => ∃ (j m c' : Nat) (a' : Option Addr), j ≤ n ∧ i = .int .i64 j ∧ v = .slice a' m c' ∧ Grow w wr ∧ SepII wr (New w wr) a' m c' (facesB (l.take j) k)) (fun _ i _ => n - (intOf i).toNat)
  case atStart => exact ⟨0, 0, 0, _, Nat.zero_le _, rfl, rfl, (Grow.refl w).alloc _ _, SepII.fresh0 w⟩
  case round =>
    obtain ⟨j, m, c1, a1, hj, rfl, rfl, hG, hS⟩ := hrel
    by_cases hlt : j < n
    · obtain ⟨b, off, xs, a', c', rfl, hx, _, hbw, hc, hrd⟩ := (h.grow hG).at hlt
      have hxl : xs.length ≤ 1048576 := by have := total_at hx; omega
      have hml : m ≤ 1048576 := by have := hS.len; have := facesB_len (l.take j) k; simp at this; omega
      obtain ⟨⟨vs, hO, hI⟩, hlo⟩ := hS
      have Hx := Lib.hid hx; clear hx
      by_cases ht : (xs.length : Int) - 1 = k
      · subst ht
        have hE : Own (wr.alloc (.cells #[] 3)) 3 1 (some ⟨wr.heap.size, 0, none⟩) 0 0 [] := Own.fresh (by unfold maxLen; omega) rfl
        go_wp2_with (first
          | (at_builtin; refine wpList_app rfl (.tmp 22) (.tmp 29) _ rfl T_intss rfl (hO.grow ((hA2.grow ((Grow.refl wr).alloc _ _) (fun g hg => by simp at hg; omega)).alloc _ _)) rfl (Row.built (S := fun _ => True) 1 (by unfold maxLen; omega) rfl trivial) (by simp [Value.oneCell']) (by omega) (by unfold maxLen; omega) ?_; intro a3 c3 w3 hA3)
          | (at_builtin; refine wpList_app rfl (.tmp 23) (.tmp 27) _ rfl T_ints rfl hE rfl (hrd.row.grow ((Grow.refl _).alloc _ _)) (ints_one _) (by omega) (by unfold maxLen; omega) ?_; intro a2 c2 w2 hA2))
        have hG2 : Grow wr w2 := hA2.grow ((Grow.refl wr).alloc _ _) (fun g hg => by simp at hg; omega)
        have hO2 : Own w2 3 1 a2 xs.length c2 (ints xs) := by simpa using hA2.own
        have hB2 : ∀ q, blk a2 = some q → wr.heap.size ≤ q := hA2.lo (by simp) (fun g hg => by simp at hg; omega)
        have hR := SepII.app hI hlo (hG2.alloc _ _) (hO2.grow ((Grow.refl _).alloc _ _)) hrd.rng hG.size hB2 hA3
        have hG3 : Grow w w3 := hA3.grow (hG.trans (hG2.alloc _ _)) (fun g hg => (hlo g hg).1)
        clear hA2 hA3 hO2 hI hO hE
        go_wp2
        go_roundw
        case rel => exact ⟨j + 1, m + 1, c3, a3, by omega, by go_num, rfl, hG3, by rw [take_succ Hx.out, facesB_yes rfl]; exact hR⟩
        case measure => simp [intOf]; omega
      · go_wp2
        go_roundw
        case rel => exact ⟨j + 1, m, c1, a1, by omega, by go_num, rfl, hG, by rw [take_succ Hx.out, facesB_no ht]; exact ⟨⟨vs, hO, hI⟩, hlo⟩⟩
        case measure => simp [intOf]; omega
    · go_wp2
      go_ret
      have : j = n := by omega
      subst this
      rw [take_all hl] at hS
      exact ⟨_, _, _, rfl, hS, hG⟩

theorem facesB_total (l : List (List Int)) (k : Int) : total (facesB l k) ≤ total l := by
  induction l with
  | nil => exact Nat.le_refl _
  | cons xs r ih =>
    unfold facesB at ih ⊢
    rw [List.filter_cons]
    split <;> simp <;> omega
theorem facesB_bd (l : List (List Int)) (k : Int) : bdII (facesB l k) ≤ bdII l := by
  have := facesB_total l k; have := facesB_len l k; unfold bdII; omega
theorem specFacesOf_v {S : Nat → Prop} {v : Value} {l : List (List Int)} {k : Int} {w : World} (h : VII w S v l) (hb : bdII l ≤ 1048576) :
    Calls Try.prog 69 #[v, .int .i64 k] w fun e w' => ∃ r, e = .returned r ∧ VII w' (fun _ => True) r (facesB l k) ∧ Grow w w' := by
  obtain ⟨a, n, c, rfl, h⟩ := h
  have hl := h.len
  unfold bdII at hb
  refine (specFacesOf_c a n c l k w h (by omega) (by omega)).mono ?_
  rintro e w' ⟨a', m, c', rfl, hS, hG⟩
  exact ⟨_, rfl, ⟨_, _, _, rfl, hS.rdII fun _ _ => trivial⟩, hG⟩
theorem implFacesOf_v {S : Nat → Prop} {v : Value} {l : List (List Int)} {k : Int} {w : World} (h : VII w S v l) (hb : bdII l ≤ 1048576) :
    Calls Try.prog 76 #[v, .int .i64 k] w fun e w' => ∃ r, e = .returned r ∧ OII w' (New w w') r (facesB l k) ∧ Grow w w' := by
  obtain ⟨a, n, c, rfl, h⟩ := h
  have hl := h.len
  unfold bdII at hb
  refine (implFacesOf_c a n c l k w h (by omega) (by omega)).mono ?_
  rintro e w' ⟨a', m, c', rfl, hS, hG⟩
  exact ⟨_, rfl, ⟨_, _, _, rfl, hS⟩, hG⟩
end Go.Proofs.Ythlncohllbmapaa
