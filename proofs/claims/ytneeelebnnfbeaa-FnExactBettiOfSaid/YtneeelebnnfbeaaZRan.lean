/-
  How many simplices there are at most where no more than so many boundaries are independent. Plain, no condition.
-/
import Derived.Test.YtneeelebnnfbeaaZBd
import Derived.Test.YtneeelebnnfbeaaZSum
import Derived.Test.YtneeelebnnfbeaaZRnkP
import Derived.Test.YtneeelebnnfbeaaZBdL
import Derived.Test.YtneeelebnnfbeaaZStr
import Derived.Test.YtneeelebnnfbeaaZBoundary
set_option maxHeartbeats 8000000
set_option maxRecDepth 100000
namespace Go.Proofs.Ytneeelebnnfbeaa
def csum : List (List Int) → (List Int → Int) → List Int → Int
 | [], _, _ => 0
 | s :: S, x, f => x s * incB s f + csum S x f
def Indp (S : List (List Int)) : Prop := ∀ x : List Int → Int, (∀ f, csum S x f = 0) → ∀ s ∈ S, x s = 0
theorem csum_zero {x : List Int → Int} {f : List Int} : ∀ {S : List (List Int)}, (∀ s ∈ S, x s * incB s f = 0) → csum S x f = 0
 | [], _ => rfl
 | s :: S, h => by
  simp only [csum]
  rw [h s List.mem_cons_self, csum_zero fun t ht => h t (List.mem_cons_of_mem _ ht)]; rfl
theorem csum_one {x : List Int → Int} {f : List Int} {t : List Int} : ∀ {S : List (List Int)}, S.Nodup → t ∈ S → (∀ s ∈ S, s ≠ t → x s * incB s f = 0) → csum S x f = x t * incB t f
 | [], _, h, _ => by cases h
 | s :: S, hn, ht, h => by
  have hn' := List.nodup_cons.1 hn
  simp only [csum]
  by_cases e : s = t
  ·subst e
   rw [csum_zero fun u hu => h u (List.mem_cons_of_mem _ hu) fun e => hn'.1 (e ▸ hu)]; omega
  ·have ht' : t ∈ S := by rcases List.mem_cons.1 ht with h | h; exact (e h.symm).elim; exact h
   rw [h s List.mem_cons_self e, csum_one hn'.2 ht' fun u hu => h u (List.mem_cons_of_mem _ hu)]; omega
theorem csum_app (x : List Int → Int) (f : List Int) : ∀ S T : List (List Int), csum (S ++ T) x f = csum S x f + csum T x f
 | [], T => by simp [csum]
 | s :: S, T => by simp only [List.cons_append, csum, csum_app x f S T]; omega
theorem del_snoc {y : List Int} {v : Int} {x : Nat} (h : x < y.length) : del (y ++ [v]) x = del y x ++ [v] := by
 refine List.ext_getElem? fun j => ?_
 have hl := del_len h
 rw [del_get (by simp; omega)]
 by_cases hj : j < x
 ·rw [if_pos hj, List.getElem?_append_left (by omega), List.getElem?_append_left (by omega), del_get h, if_pos hj]
 ·rw [if_neg hj]
  by_cases hj2 : j + 1 < y.length
  ·rw [List.getElem?_append_left (by omega), List.getElem?_append_left (by omega), del_get h, if_neg hj]
  ·rw [List.getElem?_append_right (by omega), List.getElem?_append_right (by omega), hl]
   congr 1; omega
theorem del_end (y : List Int) (v : Int) : del (y ++ [v]) y.length = y := by
 refine List.ext_getElem? fun j => ?_
 rw [del_get (by simp)]
 by_cases hj : j < y.length
 ·rw [if_pos hj, List.getElem?_append_left hj]
 ·rw [if_neg hj, List.getElem?_append_right (by omega), List.getElem?_eq_none (by simp; omega), List.getElem?_eq_none (by omega)]
theorem del_mem {s : List Int} {x : Nat} (hx : x < s.length) {z : Int} (h : z ∈ del s x) : z ∈ s := by
 obtain ⟨j, hj⟩ := List.getElem?_of_mem h
 rw [del_get hx] at hj
 split at hj <;> exact List.mem_of_getElem? hj
theorem inc_snoc {y g : List Int} {v : Int} (hv : v ∉ y) : incB (y ++ [v]) (g ++ [v]) = incB y g := by
 unfold incB
 rw [List.length_append, List.length_singleton]
 simp only [sumN]
 rw [del_end, if_neg fun e => hv (by rw [e]; simp)]
 rw [sumN_congr fun x hx => by rw [del_snoc hx]]
 simp
theorem inc_end {y z : List Int} {v : Int} (hz : v ∉ z) : incB (y ++ [v]) z = if y = z then sgn y.length else 0 := by
 unfold incB
 rw [List.length_append, List.length_singleton]
 simp only [sumN]
 rw [del_end, sumN_zero fun x hx => by rw [del_snoc hx, if_neg fun e => hz (by rw [← e]; simp)]]
 omega
theorem inc_none {s g : List Int} {v : Int} (hv : v ∉ s) : incB s (g ++ [v]) = 0 := by
 unfold incB
 exact sumN_zero fun x hx => if_neg fun e => hv (del_mem hx (by rw [e]; simp))
theorem sgn_ne (x : Nat) : sgn x ≠ 0 := by unfold sgn; split <;> decide
theorem snoc_inj {a b : List Int} {v : Int} (h : a ++ [v] = b ++ [v]) : a = b := by simpa using h
theorem ind_star {Y : List (List Int)} {v : Int} (hn : Y.Nodup) (hv : ∀ y ∈ Y, v ∉ y) : Indp (Y.map (· ++ [v])) := fun x hx s hs => by
 obtain ⟨y, hy, rfl⟩ := List.mem_map.1 hs
 have h1 := hx y
 have hn2 : (Y.map (· ++ [v])).Nodup := by
  unfold List.Nodup at hn ⊢
  rw [List.pairwise_map]
  exact hn.imp fun hab e => hab (snoc_inj e)
 rw [csum_one hn2 hs fun t ht hne => by
  obtain ⟨z, hz, rfl⟩ := List.mem_map.1 ht
  rw [inc_end (hv y hy), if_neg fun e => hne (by rw [e]), Int.mul_zero], inc_end (hv y hy), if_pos rfl] at h1
 rcases Int.mul_eq_zero.1 h1 with h | h
 ·exact h
 ·exact (sgn_ne _ h).elim
theorem csum_map {v : Int} {x : List Int → Int} {g : List Int} : ∀ {Y : List (List Int)}, (∀ y ∈ Y, v ∉ y) → csum (Y.map (· ++ [v])) x (g ++ [v]) = csum Y (fun y => x (y ++ [v])) g
 | [], _ => rfl
 | y :: Y, h => by
  simp only [List.map_cons, csum]
  rw [inc_snoc (h y List.mem_cons_self), csum_map fun z hz => h z (List.mem_cons_of_mem _ hz)]
theorem ind_both {S Y : List (List Int)} {v : Int} (hS : Indp S) (hY : Indp Y) (hSv : ∀ s ∈ S, v ∉ s) (hYv : ∀ y ∈ Y, v ∉ y) : Indp (S ++ Y.map (· ++ [v])) := fun x hx => by
 have h1 : ∀ y ∈ Y, x (y ++ [v]) = 0 := hY (fun y => x (y ++ [v])) fun g => by
  have := hx (g ++ [v])
  rw [csum_app, csum_zero fun s hs => by rw [inc_none (hSv s hs), Int.mul_zero], csum_map hYv] at this
  omega
 have h2 : ∀ s ∈ S, x s = 0 := hS x fun f => by
  have := hx f
  rw [csum_app, csum_zero (S := Y.map (· ++ [v])) fun s hs => by
   obtain ⟨y, hy, rfl⟩ := List.mem_map.1 hs
   rw [h1 y hy, Int.zero_mul]] at this
  omega
 intro s hs
 rcases List.mem_append.1 hs with h | h
 ·exact h2 s h
 ·obtain ⟨y, hy, rfl⟩ := List.mem_map.1 h
  exact h1 y hy
theorem ind_one (a : Int) : Indp [[a]] := fun x hx s hs => by
 rw [List.mem_singleton.1 hs]
 have := hx []
 have e : incB [a] [] = 1 := by simp [incB, sumN, del, sgn]
 simp only [csum] at this
 rw [e] at this
 omega
structure Fam (k v : Nat) (X : List (List Int)) : Prop where
 nd : X.Nodup
 len : ∀ s ∈ X, s.length = k
 asc : ∀ s ∈ X, s.Pairwise (· < ·)
 lo : ∀ s ∈ X, ∀ z ∈ s, 0 ≤ z ∧ z < v
theorem Fam.off {k v : Nat} {X : List (List Int)} (h : Fam k (v + 1) X) : Fam k v (X.filter fun s => decide ((v : Int) ∉ s)) := by
 refine ⟨h.nd.sublist List.filter_sublist, fun s hs => h.len s (List.mem_filter.1 hs).1, fun s hs => h.asc s (List.mem_filter.1 hs).1, fun s hs z hz => ?_⟩
 obtain ⟨h1, h2⟩ := List.mem_filter.1 hs
 have h3 := h.lo s h1 z hz
 have h4 : (v : Int) ∉ s := by simpa using h2
 have : z ≠ v := fun e => h4 (e ▸ hz)
 omega
theorem last_top {s : List Int} {v : Nat} (hs : s.Pairwise (· < ·)) (hlo : ∀ z ∈ s, 0 ≤ z ∧ z < ((v + 1 : Nat) : Int)) (hv : (v : Int) ∈ s) : s = s.dropLast ++ [(v : Int)] := by
 have hne : s ≠ [] := fun e => by rw [e] at hv; cases hv
 have h1 := List.dropLast_concat_getLast hne
 have h2 : s.getLast hne = v := by
  rw [← h1] at hs hv
  rcases List.mem_append.1 hv with h | h
  ·have h3 := (List.pairwise_append.1 hs).2.2 v h (s.getLast hne) (by simp)
   have h4 := hlo _ (List.getLast_mem hne)
   omega
  ·rw [List.mem_singleton.1 h]
 rw [h2] at h1
 exact h1.symm
theorem Fam.on {k v : Nat} {X : List (List Int)} (h : Fam (k + 1) (v + 1) X) : Fam k v ((X.filter fun s => decide ((v : Int) ∈ s)).map List.dropLast) ∧ ((X.filter fun s => decide ((v : Int) ∈ s)).map List.dropLast).map (· ++ [(v : Int)]) = X.filter fun s => decide ((v : Int) ∈ s) := by
 have hE : ∀ s ∈ X.filter fun s => decide ((v : Int) ∈ s), s = s.dropLast ++ [(v : Int)] := fun s hs => by
  obtain ⟨h1, h2⟩ := List.mem_filter.1 hs
  exact last_top (h.asc s h1) (h.lo s h1) (by simpa using h2)
 refine ⟨⟨?_, fun y hy => ?_, fun y hy => ?_, fun y hy z hz => ?_⟩, ?_⟩
 ·have := h.nd.sublist (List.filter_sublist (p := fun s => decide ((v : Int) ∈ s)))
  unfold List.Nodup at this ⊢
  rw [List.pairwise_map]
  refine this.imp_of_mem fun {a b} ha hb hab e => hab ?_
  rw [hE a ha, hE b hb, e]
 ·obtain ⟨s, hs, rfl⟩ := List.mem_map.1 hy
  have := h.len s (List.mem_filter.1 hs).1
  simp; omega
 ·obtain ⟨s, hs, rfl⟩ := List.mem_map.1 hy
  exact (h.asc s (List.mem_filter.1 hs).1).sublist (List.dropLast_sublist s)
 ·obtain ⟨s, hs, rfl⟩ := List.mem_map.1 hy
  have h1 := h.lo s (List.mem_filter.1 hs).1 z (List.dropLast_subset s hz)
  have h2 := h.asc s (List.mem_filter.1 hs).1
  rw [hE s hs] at h2
  have h3 := (List.pairwise_append.1 h2).2.2 z hz v (by simp)
  omega
 ·rw [List.map_map]
  have : ∀ s ∈ X.filter fun s => decide ((v : Int) ∈ s), ((· ++ [(v : Int)]) ∘ List.dropLast) s = id s := fun s hs => (hE s hs).symm
  rw [List.map_congr_left this, List.map_id]
theorem fam_zero {k : Nat} {X : List (List Int)} (h : Fam (k + 1) 0 X) : X = [] := by
 cases X with
 | nil => rfl
 | cons s X =>
  have h1 := h.len s List.mem_cons_self
  cases s with
  | nil => simp at h1
  | cons z r => have := h.lo _ List.mem_cons_self z List.mem_cons_self; omega
theorem split_len (X : List (List Int)) (v : Int) : X.length = (X.filter fun s => decide (v ∉ s)).length + (X.filter fun s => decide (v ∈ s)).length := by
 induction X with
 | nil => rfl
 | cons s X ih =>
  by_cases h : v ∈ s
  ·simp [h] at ih ⊢; omega
  ·simp [h] at ih ⊢; omega
theorem nd_both {S Y : List (List Int)} {v : Int} (h1 : S.Nodup) (h2 : Y.Nodup) (hS : ∀ s ∈ S, v ∉ s) : (S ++ Y.map (· ++ [v])).Nodup := by
 rw [List.nodup_append]
 refine ⟨h1, ?_, fun a ha b hb e => ?_⟩
 ·unfold List.Nodup at h2 ⊢
  rw [List.pairwise_map]
  exact h2.imp fun hab e => hab (snoc_inj e)
 ·obtain ⟨y, hy, rfl⟩ := List.mem_map.1 hb
  exact hS a ha (by rw [e]; simp)
theorem edges_le : ∀ {v : Nat} {X : List (List Int)}, Fam 2 v X → ∃ S, S.Nodup ∧ Indp S ∧ (∀ s ∈ S, s ∈ X) ∧ 2 * X.length ≤ S.length * (S.length + 1)
 | 0, X, h => by
  rw [fam_zero h]
  exact ⟨[], List.nodup_nil, (fun _ _ s hs => by cases hs), (fun s hs => by cases hs), by simp⟩
 | v + 1, X, h => by
  obtain ⟨S, h1, h2, h3, h4⟩ := edges_le h.off
  obtain ⟨hY, hE⟩ := h.on
  have hlen := split_len X (v : Int)
  have hSv : ∀ s ∈ S, (v : Int) ∉ s := fun s hs => by have := (List.mem_filter.1 (h3 s hs)).2; simpa using this
  obtain ⟨Y, hYe⟩ : ∃ Y, Y = (X.filter fun s => decide ((v : Int) ∈ s)).map List.dropLast := ⟨_, rfl⟩
  rw [← hYe] at hY hE
  have hYv : ∀ y ∈ Y, (v : Int) ∉ y := fun y hy hm => by have := hY.lo y hy v hm; omega
  have hYl : Y.length = (X.filter fun s => decide ((v : Int) ∈ s)).length := by rw [hYe]; simp
  have hXm : ∀ y ∈ Y, y ++ [(v : Int)] ∈ X := fun y hy => by
   have : y ++ [(v : Int)] ∈ Y.map (· ++ [(v : Int)]) := List.mem_map.2 ⟨y, hy, rfl⟩
   rw [hE] at this
   exact (List.mem_filter.1 this).1
  cases hy0 : Y with
  | nil =>
   refine ⟨S, h1, h2, fun s hs => (List.mem_filter.1 (h3 s hs)).1, ?_⟩
   rw [hy0] at hYl
   simp only [List.length_nil] at hYl
   rw [hlen, ← hYl]; simpa using h4
  | cons y0 Yr =>
   have hy0m : y0 ∈ Y := by rw [hy0]; exact List.mem_cons_self
   have hb1 : ∃ a, y0 = [a] := by
    have := hY.len y0 hy0m
    match y0, this with
    | [a], _ => exact ⟨a, rfl⟩
   obtain ⟨a, rfl⟩ := hb1
   have hA := ind_star hY.nd hYv
   have hB := ind_both h2 (ind_one a) hSv (fun y hy => by rw [List.mem_singleton.1 hy]; exact hYv _ hy0m)
   by_cases hc : S.length + 1 ≤ Y.length
   ·refine ⟨Y.map (· ++ [(v : Int)]), by have := nd_both (S := []) (Y := Y) (v := v) List.nodup_nil hY.nd (fun s hs => by cases hs); simpa using this, hA, fun s hs => ?_, ?_⟩
    ·obtain ⟨y, hy, rfl⟩ := List.mem_map.1 hs; exact hXm y hy
    ·rw [List.length_map, hlen, ← hYl, Nat.mul_add]
     have k1 : S.length * (S.length + 1) ≤ (Y.length - 1) * Y.length := Nat.mul_le_mul (by omega) hc
     obtain ⟨q, hq⟩ : ∃ q, Y.length = q + 1 := ⟨Y.length - 1, by omega⟩
     rw [hq] at k1 ⊢
     simp only [Nat.add_sub_cancel] at k1
     have : (q + 1) * (q + 1 + 1) = q * (q + 1) + 2 * (q + 1) := by rw [Nat.add_mul q 1, Nat.mul_add q (q + 1) 1, Nat.one_mul]; omega
     omega
   ·refine ⟨S ++ [[a]].map (· ++ [(v : Int)]), nd_both h1 (by simp) hSv, hB, fun s hs => ?_, ?_⟩
    ·rcases List.mem_append.1 hs with hs | hs
     ·exact (List.mem_filter.1 (h3 s hs)).1
     ·obtain ⟨y, hy, rfl⟩ := List.mem_map.1 hs
      rw [List.mem_singleton.1 hy]; exact hXm _ hy0m
    ·rw [List.length_append, List.length_map, List.length_singleton, hlen, ← hYl, Nat.mul_add]
     have : (S.length + 1) * (S.length + 1 + 1) = S.length * (S.length + 1) + 2 * (S.length + 1) := by rw [Nat.add_mul S.length 1, Nat.mul_add S.length (S.length + 1) 1, Nat.one_mul]; omega
     omega
def triT : Nat → Nat := fun k => [0, 1, 2, 4, 5, 7, 10, 11, 13, 16, 20, 21, 23].getD k 0
def triM : Nat → Nat := fun e => if e = 0 then 0 else if e = 1 then 1 else if e ≤ 3 then 2 else if e ≤ 6 then 3 else if e ≤ 10 then 4 else 5
theorem triM_le {e q : Nat} (he : e ≤ 12) (h : 2 * e ≤ q * (q + 1)) : triM e ≤ q := by
 unfold triM
 by_cases hq : 5 ≤ q
 ·repeat' split
  all_goals omega
 ·have : q = 0 ∨ q = 1 ∨ q = 2 ∨ q = 3 ∨ q = 4 := by omega
  rcases this with rfl | rfl | rfl | rfl | rfl
  all_goals (repeat' split) <;> omega
theorem tri_tab : ∀ r, r < 13 → ∀ r', r' < 13 → ∀ e, e < 13 → r' + triM e ≤ r → e ≤ r → triT r' + e ≤ triT r := by decide +kernel
theorem tris_le : ∀ {v : Nat} {X : List (List Int)}, Fam 3 v X → ∃ S, S.Nodup ∧ Indp S ∧ (∀ s ∈ S, s ∈ X) ∧ (13 ≤ S.length ∨ X.length ≤ triT S.length)
 | 0, X, h => by
  rw [fam_zero h]
  exact ⟨[], List.nodup_nil, (fun _ _ s hs => by cases hs), (fun s hs => by cases hs), .inr (by simp)⟩
 | v + 1, X, h => by
  obtain ⟨S, h1, h2, h3, h4⟩ := tris_le h.off
  obtain ⟨hY, hE⟩ := h.on
  have hlen := split_len X (v : Int)
  have hSv : ∀ s ∈ S, (v : Int) ∉ s := fun s hs => by have := (List.mem_filter.1 (h3 s hs)).2; simpa using this
  obtain ⟨Y, hYe⟩ : ∃ Y, Y = (X.filter fun s => decide ((v : Int) ∈ s)).map List.dropLast := ⟨_, rfl⟩
  rw [← hYe] at hY hE
  have hYv : ∀ y ∈ Y, (v : Int) ∉ y := fun y hy hm => by have := hY.lo y hy v hm; omega
  have hYl : Y.length = (X.filter fun s => decide ((v : Int) ∈ s)).length := by rw [hYe]; simp
  have hXm : ∀ y ∈ Y, y ++ [(v : Int)] ∈ X := fun y hy => by
   have : y ++ [(v : Int)] ∈ Y.map (· ++ [(v : Int)]) := List.mem_map.2 ⟨y, hy, rfl⟩
   rw [hE] at this
   exact (List.mem_filter.1 this).1
  obtain ⟨Z, z1, z2, z3, z4⟩ := edges_le hY
  have hA := ind_star hY.nd hYv
  have hB := ind_both h2 z2 hSv fun y hy => hYv y (z3 y hy)
  have hAm : ∀ s ∈ Y.map (· ++ [(v : Int)]), s ∈ X := fun s hs => by obtain ⟨y, hy, rfl⟩ := List.mem_map.1 hs; exact hXm y hy
  have hBm : ∀ s ∈ S ++ Z.map (· ++ [(v : Int)]), s ∈ X := fun s hs => by
   rcases List.mem_append.1 hs with hs | hs
   ·exact (List.mem_filter.1 (h3 s hs)).1
   ·obtain ⟨y, hy, rfl⟩ := List.mem_map.1 hs; exact hXm y (z3 y hy)
  have hAn : (Y.map (· ++ [(v : Int)])).Nodup := by have := nd_both (S := []) (Y := Y) (v := v) List.nodup_nil hY.nd (fun s hs => by cases hs); simpa using this
  have key : ∀ r, Y.length ≤ r → S.length + Z.length ≤ r → 13 ≤ r ∨ X.length ≤ triT r := fun r k1 k2 => by
   by_cases h13 : 13 ≤ r
   ·exact .inl h13
   ·refine .inr ?_
    have h5 : (X.filter fun s => decide ((v : Int) ∉ s)).length ≤ triT S.length := by rcases h4 with h4 | h4; omega; exact h4
    have h6 := triM_le (show Y.length ≤ 12 by omega) z4
    have := tri_tab r (by omega) S.length (by omega) Y.length (by omega) (by omega) k1
    omega
  by_cases hc : S.length + Z.length ≤ Y.length
  ·exact ⟨_, hAn, hA, hAm, by rw [List.length_map]; exact key Y.length (Nat.le_refl _) hc⟩
  ·exact ⟨_, nd_both h1 z1 hSv, hB, hBm, by rw [List.length_append, List.length_map]; exact key _ (by omega) (Nat.le_refl _)⟩
end Go.Proofs.Ytneeelebnnfbeaa

namespace Go.Proofs.Ytneeelebnnfbeaa
abbrev Fm := List Bool → Int
def lo (x : Fm) : Fm := fun t => x (false :: t)
def hi (x : Fm) : Fm := fun t => x (true :: t)
def wg : Nat → (Nat → Int) → Fm → Fm
 | 0, _, _, _ => 0
 | _ + 1, _, _, [] => 0
 | n + 1, v, x, false :: t => wg n v (lo x) t
 | n + 1, v, x, true :: t => v n * lo x t - wg n v (hi x) t
def ct : Nat → (Nat → Int) → Fm → Fm
 | 0, _, _, _ => 0
 | _ + 1, _, _, [] => 0
 | n + 1, v, x, false :: t => ct n v (lo x) t + v n * hi x t
 | n + 1, v, x, true :: t => -ct n v (hi x) t
def dt : Nat → Fm → Fm → Int
 | 0, x, y => x [] * y []
 | n + 1, x, y => dt n (lo x) (lo y) + dt n (hi x) (hi y)
def one : Nat → Fm
 | 0, _ => 1
 | _ + 1, [] => 0
 | n + 1, false :: t => one n t
 | _ + 1, true :: _ => 0
def Eqn (n : Nat) (x y : Fm) : Prop := ∀ t, t.length = n → x t = y t
theorem Eqn.lo {n : Nat} {x y : Fm} (h : Eqn (n + 1) x y) : Eqn n (lo x) (lo y) := fun t ht => h (false :: t) (by simp [ht])
theorem Eqn.hi {n : Nat} {x y : Fm} (h : Eqn (n + 1) x y) : Eqn n (hi x) (hi y) := fun t ht => h (true :: t) (by simp [ht])
theorem Eqn.refl (n : Nat) (x : Fm) : Eqn n x x := fun _ _ => rfl
theorem Eqn.symm {n : Nat} {x y : Fm} (h : Eqn n x y) : Eqn n y x := fun t ht => (h t ht).symm
theorem Eqn.trans {n : Nat} {x y z : Fm} (h : Eqn n x y) (k : Eqn n y z) : Eqn n x z := fun t ht => (h t ht).trans (k t ht)
theorem wg_congr {v : Nat → Int} : ∀ {n : Nat} {x y : Fm}, Eqn n x y → Eqn n (wg n v x) (wg n v y)
 | 0, _, _, _, _, _ => rfl
 | n + 1, x, y, h, t, ht => by
  match t, ht with
  | false :: t, ht => exact wg_congr h.lo t (by simpa using ht)
  | true :: t, ht =>
   have ht : t.length = n := by simpa using ht
   simp only [wg]
   rw [h.lo t ht, wg_congr h.hi t ht]
theorem ct_congr {v : Nat → Int} : ∀ {n : Nat} {x y : Fm}, Eqn n x y → Eqn n (ct n v x) (ct n v y)
 | 0, _, _, _, _, _ => rfl
 | n + 1, x, y, h, t, ht => by
  match t, ht with
  | false :: t, ht =>
   have ht : t.length = n := by simpa using ht
   simp only [ct]
   rw [h.hi t ht, ct_congr h.lo t ht]
  | true :: t, ht =>
   have ht : t.length = n := by simpa using ht
   simp only [ct]
   rw [ct_congr h.hi t ht]
theorem dt_congr : ∀ {n : Nat} {x y x' y' : Fm}, Eqn n x x' → Eqn n y y' → dt n x y = dt n x' y'
 | 0, _, _, _, _, h, k => by unfold dt; rw [h [] rfl, k [] rfl]
 | n + 1, _, _, _, _, h, k => by unfold dt; rw [dt_congr h.lo k.lo, dt_congr h.hi k.hi]
theorem wg_lin (v : Nat → Int) (c d : Int) : ∀ (n : Nat) (x y : Fm) (t : List Bool), wg n v (fun s => c * x s + d * y s) t = c * wg n v x t + d * wg n v y t
 | 0, _, _, _ => by simp [wg]
 | n + 1, x, y, [] => by simp [wg]
 | n + 1, x, y, false :: t => by simp only [wg]; exact wg_lin v c d n (lo x) (lo y) t
 | n + 1, x, y, true :: t => by
  simp only [wg]
  have := wg_lin v c d n (hi x) (hi y) t
  rw [show hi (fun s => c * x s + d * y s) = fun s => c * hi x s + d * hi y s from rfl, this]
  simp only [lo]; grind
theorem wg_linv (u v : Nat → Int) (c d : Int) : ∀ (n : Nat) (x : Fm) (t : List Bool), wg n (fun k => c * u k + d * v k) x t = c * wg n u x t + d * wg n v x t
 | 0, _, _ => by simp [wg]
 | n + 1, x, [] => by simp [wg]
 | n + 1, x, false :: t => by simp only [wg]; exact wg_linv u v c d n (lo x) t
 | n + 1, x, true :: t => by
  simp only [wg]
  rw [wg_linv u v c d n (hi x) t]
  grind
theorem wg_congv {u v : Nat → Int} : ∀ {n : Nat} {x : Fm}, (∀ k, k < n → u k = v k) → wg n u x = wg n v x
 | 0, _, _ => rfl
 | n + 1, x, h => by
  funext t
  match t with
  | [] => rfl
  | false :: t => simp only [wg]; rw [wg_congv (fun k hk => h k (by omega))]
  | true :: t => simp only [wg]; rw [wg_congv (fun k hk => h k (by omega)), h n (by omega)]
theorem wg_zero (v : Nat → Int) : ∀ (n : Nat) (t : List Bool), wg n v (fun _ => 0) t = 0
 | 0, _ => rfl
 | n + 1, [] => rfl
 | n + 1, false :: t => wg_zero v n t
 | n + 1, true :: t => by
  simp only [wg]
  rw [show hi (fun _ => (0 : Int)) = fun _ => 0 from rfl, wg_zero v n t]; simp [lo]
theorem wg_wg (v : Nat → Int) : ∀ (n : Nat) (x : Fm) (t : List Bool), wg n v (wg n v x) t = 0
 | 0, _, _ => rfl
 | n + 1, _, [] => rfl
 | n + 1, x, false :: t => by simp only [wg]; exact wg_wg v n (lo x) t
 | n + 1, x, true :: t => by
  simp only [wg]
  have e : hi (wg (n + 1) v x) = fun s => v n * lo x s + (-1) * wg n v (hi x) s := by funext s; simp only [hi, wg]; omega
  rw [e, wg_lin, wg_wg v n (hi x) t]
  have e2 : lo (wg (n + 1) v x) t = wg n v (lo x) t := rfl
  rw [e2]; omega
theorem wg_anti (u v : Nat → Int) (n : Nat) (x : Fm) (t : List Bool) : wg n u (wg n v x) t = -wg n v (wg n u x) t := by
 have h := wg_wg (fun k => 1 * u k + 1 * v k) n x t
 rw [wg_linv] at h
 have e : ∀ w : Nat → Int, wg n w (wg n (fun k => 1 * u k + 1 * v k) x) t = 1 * wg n w (wg n u x) t + 1 * wg n w (wg n v x) t := fun w => by
  rw [show wg n (fun k => 1 * u k + 1 * v k) x = fun s => 1 * wg n u x s + 1 * wg n v x s from funext fun s => wg_linv u v 1 1 n x s, wg_lin]
 rw [e, e, wg_wg, wg_wg] at h
 omega
theorem ct_one (v : Nat → Int) : ∀ (n : Nat) (t : List Bool), ct n v (one n) t = 0
 | 0, _ => rfl
 | n + 1, [] => rfl
 | n + 1, false :: t => by
  simp only [ct]
  rw [show lo (one (n + 1)) = one n from rfl, ct_one v n t]
  simp [hi, one]
 | n + 1, true :: t => by
  simp only [ct]
  have e : ∀ m s, ct m v (fun _ => (0 : Int)) s = 0 := fun m => by
   induction m with
   | zero => intro _; rfl
   | succ m ih =>
    intro s
    match s with
    | [] => rfl
    | false :: s => simp only [ct]; rw [show lo (fun _ => (0 : Int)) = fun _ => 0 from rfl, ih]; simp [hi]
    | true :: s => simp only [ct]; rw [show hi (fun _ => (0 : Int)) = fun _ => 0 from rfl, ih]; simp
  rw [show hi (one (n + 1)) = fun _ => 0 from rfl, e]; rfl
theorem ct_lin (v : Nat → Int) (c d : Int) : ∀ (n : Nat) (x y : Fm) (t : List Bool), ct n v (fun s => c * x s + d * y s) t = c * ct n v x t + d * ct n v y t
 | 0, _, _, _ => by simp [ct]
 | n + 1, x, y, [] => by simp [ct]
 | n + 1, x, y, false :: t => by
  simp only [ct]
  have := ct_lin v c d n (lo x) (lo y) t
  rw [show lo (fun s => c * x s + d * y s) = fun s => c * lo x s + d * lo y s from rfl, this]
  simp only [hi]; grind
 | n + 1, x, y, true :: t => by
  simp only [ct]
  have := ct_lin v c d n (hi x) (hi y) t
  rw [show hi (fun s => c * x s + d * y s) = fun s => c * hi x s + d * hi y s from rfl, this]
  grind
theorem ct_wg (u v : Nat → Int) : ∀ (n : Nat) (x : Fm) (t : List Bool), t.length = n → ct n u (wg n v x) t = sm n (fun k => u k * v k) * x t - wg n v (ct n u x) t
 | 0, x, t, _ => by simp [ct, wg, sm]
 | n + 1, x, false :: t, ht => by
  have ht : t.length = n := by simpa using ht
  simp only [ct, wg, sm]
  have e1 : lo (wg (n + 1) v x) = wg n v (lo x) := rfl
  have e2 : hi (wg (n + 1) v x) t = v n * lo x t - wg n v (hi x) t := rfl
  have e3 : lo (ct (n + 1) u x) = fun s => 1 * ct n u (lo x) s + u n * hi x s := by funext s; simp only [lo, ct]; omega
  rw [e1, e2, e3, wg_lin, ct_wg u v n (lo x) t ht]
  simp only [lo]; grind
 | n + 1, x, true :: t, ht => by
  have ht : t.length = n := by simpa using ht
  simp only [ct, wg, sm]
  have e1 : hi (wg (n + 1) v x) = fun s => v n * lo x s + (-1) * wg n v (hi x) s := by funext s; simp only [hi, wg]; omega
  have e2 : hi (ct (n + 1) u x) = fun s => (-1) * ct n u (hi x) s + 0 * ct n u (hi x) s := by funext s; simp only [hi, ct]; omega
  have e3 : lo (ct (n + 1) u x) t = ct n u (lo x) t + u n * hi x t := rfl
  rw [e1, e2, e3, ct_lin, wg_lin, ct_wg u v n (hi x) t ht]
  simp only [hi]; grind
theorem dt_lin (c d : Int) : ∀ (n : Nat) (x y z : Fm), dt n (fun s => c * x s + d * y s) z = c * dt n x z + d * dt n y z
 | 0, x, y, z => by simp only [dt]; grind
 | n + 1, x, y, z => by
  simp only [dt]
  rw [show lo (fun s => c * x s + d * y s) = fun s => c * lo x s + d * lo y s from rfl, show hi (fun s => c * x s + d * y s) = fun s => c * hi x s + d * hi y s from rfl, dt_lin c d n, dt_lin c d n]
  grind
theorem dt_comm : ∀ (n : Nat) (x y : Fm), dt n x y = dt n y x
 | 0, x, y => by simp only [dt]; exact Int.mul_comm _ _
 | n + 1, x, y => by simp only [dt]; rw [dt_comm n, dt_comm n (hi x)]
theorem dt_linr (c d : Int) (n : Nat) (x y z : Fm) : dt n z (fun s => c * x s + d * y s) = c * dt n z x + d * dt n z y := by rw [dt_comm, dt_lin, dt_comm n x, dt_comm n y]
theorem dt_adj (v : Nat → Int) : ∀ (n : Nat) (x y : Fm), dt n (wg n v x) y = dt n x (ct n v y)
 | 0, x, y => by simp [dt, wg, ct]
 | n + 1, x, y => by
  simp only [dt]
  have e1 : lo (wg (n + 1) v x) = wg n v (lo x) := rfl
  have e2 : hi (wg (n + 1) v x) = fun s => v n * lo x s + (-1) * wg n v (hi x) s := by funext s; simp only [hi, wg]; omega
  have e3 : lo (ct (n + 1) v y) = fun s => 1 * ct n v (lo y) s + v n * hi y s := by funext s; simp only [lo, ct]; omega
  have e4 : hi (ct (n + 1) v y) = fun s => (-1) * ct n v (hi y) s + 0 * ct n v (hi y) s := by funext s; simp only [hi, ct]; omega
  rw [e1, e2, e3, e4, dt_lin, dt_adj v n, dt_adj v n, dt_linr, dt_linr]
  grind
theorem msq (a : Int) : 0 ≤ a * a := by
 rcases Int.le_total 0 a with h | h
 ·exact Int.mul_nonneg h h
 ·exact Int.mul_nonneg_of_nonpos_of_nonpos h h
def sq (n : Nat) (v : Nat → Int) : Int := sm n fun k => v k * v k
theorem dt_nonneg : ∀ (n : Nat) (x : Fm), 0 ≤ dt n x x
 | 0, x => by simp only [dt]; exact msq _
 | n + 1, x => by simp only [dt]; have := dt_nonneg n (lo x); have := dt_nonneg n (hi x); omega
theorem dt_both (v : Nat → Int) (n : Nat) (x : Fm) : dt n (wg n v x) (wg n v x) + dt n (ct n v x) (ct n v x) = sq n v * dt n x x := by
 have h1 := dt_adj v n x (wg n v x)
 have h2 := dt_adj v n (ct n v x) x
 rw [h1]
 have e : Eqn n (ct n v (wg n v x)) (fun s => sq n v * x s + (-1) * wg n v (ct n v x) s) := fun t ht => by
  rw [ct_wg v v n x t ht]; show _ = sm n (fun k => v k * v k) * x t + (-1) * wg n v (ct n v x) t; omega
 rw [dt_congr (Eqn.refl n x) e, dt_comm, dt_lin, h2]
 omega
theorem wg_le (v : Nat → Int) (n : Nat) (x : Fm) : dt n (wg n v x) (wg n v x) ≤ sq n v * dt n x x := by
 have := dt_both v n x
 have := dt_nonneg n (ct n v x)
 omega
theorem ct_le (v : Nat → Int) (n : Nat) (x : Fm) : dt n (ct n v x) (ct n v x) ≤ sq n v * dt n x x := by
 have := dt_both v n x
 have := dt_nonneg n (wg n v x)
 omega
def om (n : Nat) : List (Nat → Int) → Fm
 | [] => one n
 | v :: l => wg n v (om n l)
theorem dt_one : ∀ n : Nat, dt n (one n) (one n) = 1
 | 0 => rfl
 | n + 1 => by
  simp only [dt]
  rw [show lo (one (n + 1)) = one n from rfl, show hi (one (n + 1)) = fun _ => 0 from rfl, dt_one n]
  have e : ∀ m, dt m (fun _ => (0 : Int)) (fun _ => 0) = 0 := fun m => by
   induction m with
   | zero => rfl
   | succ m ih => simp only [dt]; rw [show lo (fun _ => (0 : Int)) = fun _ => 0 from rfl, show hi (fun _ => (0 : Int)) = fun _ => 0 from rfl, ih]; rfl
  rw [e]; rfl
theorem sq_nonneg (n : Nat) (v : Nat → Int) : 0 ≤ sq n v := by
 unfold sq
 induction n with
 | zero => simp [sm]
 | succ n ih => simp only [sm]; have := msq (v n); omega
theorem om_le {n s : Nat} : ∀ {l : List (Nat → Int)}, (∀ v ∈ l, sq n v ≤ s) → dt n (om n l) (om n l) ≤ (s : Int) ^ l.length
 | [], _ => by rw [show om n [] = one n from rfl, dt_one]; simp
 | v :: l, h => by
  have h1 := wg_le v n (om n l)
  have h2 := om_le (l := l) fun u hu => h u (List.mem_cons_of_mem _ hu)
  have h3 := h v List.mem_cons_self
  have h4 := dt_nonneg n (om n l)
  have h5 := sq_nonneg n v
  have h6 : sq n v * dt n (om n l) (om n l) ≤ (s : Int) * (s : Int) ^ l.length := Int.le_trans (Int.mul_le_mul_of_nonneg_right h3 h4) (Int.mul_le_mul_of_nonneg_left h2 (Int.natCast_nonneg s))
  rw [List.length_cons, Int.pow_succ, Int.mul_comm _ (s : Int)]
  exact Int.le_trans h1 h6
end Go.Proofs.Ytneeelebnnfbeaa

namespace Go.Proofs.Ytneeelebnnfbeaa
theorem om_mem (n : Nat) {v : Nat → Int} : ∀ {l : List (Nat → Int)}, v ∈ l → ∀ s, wg n v (om n l) s = 0
 | [], h, _ => by cases h
 | u :: l, h, s => by
  show wg n v (wg n u (om n l)) s = 0
  rcases List.mem_cons.1 h with rfl | h
  ·exact wg_wg _ n _ s
  ·rw [wg_anti, show wg n v (om n l) = fun _ => 0 from funext fun s => om_mem n h s, wg_zero]; rfl
theorem om_same (n : Nat) {f : Nat → Nat → Int} {i t : Nat} (hne : i ≠ t) (he : f i = f t) : ∀ {I : List Nat}, i ∈ I → t ∈ I → ∀ s, om n (I.map f) s = 0
 | [], h, _, _ => by cases h
 | a :: I, hi, ht, s => by
  show wg n (f a) (om n (I.map f)) s = 0
  by_cases h1 : a = i
  ·subst h1
   rcases List.mem_cons.1 ht with h | h
   ·exact (hne h.symm).elim
   ·exact om_mem n (by rw [he]; exact List.mem_map_of_mem h) s
  ·by_cases h2 : a = t
   ·subst h2
    rcases List.mem_cons.1 hi with h | h
    ·exact (hne h).elim
    ·exact om_mem n (by rw [← he]; exact List.mem_map_of_mem h) s
   ·have hi' : i ∈ I := by rcases List.mem_cons.1 hi with h | h; exact (h1 h.symm).elim; exact h
    have ht' : t ∈ I := by rcases List.mem_cons.1 ht with h | h; exact (h2 h.symm).elim; exact h
    rw [show om n (I.map f) = fun _ => 0 from funext fun s => om_same n hne he hi' ht' s, wg_zero]
theorem map_off {f f' : Nat → Nat → Int} {i : Nat} (h : ∀ a, a ≠ i → f' a = f a) {I : List Nat} (hi : i ∉ I) : I.map f' = I.map f :=
 List.map_congr_left fun a ha => h a fun e => hi (e ▸ ha)
theorem om_upd (n : Nat) {f f' : Nat → Nat → Int} {i t : Nat} {d x y : Int} (h : ∀ a, a ≠ i → f' a = f a) (hd : ∀ k, k < n → d * f' i k = y * f i k - x * f t k) :
  ∀ {I : List Nat}, I.Nodup → i ∈ I → ∀ s, d * om n (I.map f') s = y * om n (I.map f) s - x * om n (I.map fun a => if a = i then f t else f a) s
 | [], _, hi, _ => by cases hi
 | a :: I, hn, hi, s => by
  show d * wg n (f' a) (om n (I.map f')) s = y * wg n (f a) (om n (I.map f)) s - x * wg n (if a = i then f t else f a) (om n (I.map fun a => if a = i then f t else f a)) s
  have hn' := List.nodup_cons.1 hn
  by_cases e : a = i
  ·subst e
   rw [map_off h hn'.1, map_off (f := f) (fun b hb => if_neg hb) hn'.1, if_pos rfl]
   have h1 := wg_linv (f' a) (f' a) d 0 n (om n (I.map f)) s
   rw [wg_congv (v := fun k => y * f a k + (-x) * f t k) (fun k hk => by have := hd k hk; grind), wg_linv] at h1
   grind
  ·have hi' : i ∈ I := by rcases List.mem_cons.1 hi with h | h; exact (e h.symm).elim; exact h
   have ih := om_upd n h hd hn'.2 hi'
   rw [if_neg e, h a e]
   have h1 := wg_lin (f a) d 0 n (om n (I.map f')) (om n (I.map f')) s
   rw [show (fun s => d * om n (I.map f') s + 0 * om n (I.map f') s) = fun s => y * om n (I.map f) s + (-x) * om n (I.map fun a => if a = i then f t else f a) s from funext fun s => by have := ih s; grind, wg_lin] at h1
   grind
def Rel (C R t : Nat) (r c : Nat → Nat → Int) : Prop := ∀ I : List Nat, I.Nodup → (∀ a ∈ I, a < R) → (∀ a, a < t → a ∈ I) →
 ∃ u v : Int, u ≠ 0 ∧ v ≠ 0 ∧ ∀ s, u * om C (I.map c) s = v * om C (I.map r) s
theorem Rel.refl (C R t : Nat) (r : Nat → Nat → Int) : Rel C R t r r := fun _ _ _ _ => ⟨1, 1, by decide, by decide, fun _ => rfl⟩
theorem Rel.more {C R t : Nat} {r c : Nat → Nat → Int} (h : Rel C R t r c) : Rel C R (t + 1) r c := fun I h1 h2 h3 => h I h1 h2 fun a ha => h3 a (by omega)
theorem om_congv {n : Nat} {f g : Nat → Nat → Int} : ∀ {I : List Nat}, (∀ a ∈ I, ∀ k, k < n → f a k = g a k) → om n (I.map f) = om n (I.map g)
 | [], _ => rfl
 | a :: I, h => by
  show wg n (f a) (om n (I.map f)) = wg n (g a) (om n (I.map g))
  rw [om_congv fun b hb => h b (List.mem_cons_of_mem _ hb), wg_congv (h a List.mem_cons_self)]
theorem Rel.step {C R T i t : Nat} {r c c' : Nat → Nat → Int} {d x y : Int} (h : Rel C R T r c) (ht : t < T) (hne : i ≠ t) (hd : d ≠ 0) (hy : y ≠ 0) (h1 : ∀ a, a ≠ i → ∀ k, k < C → c' a k = c a k) (h2 : ∀ k, k < C → d * c' i k = y * c i k - x * c t k) : Rel C R T r c' := fun I hn hR hT => by
 obtain ⟨u, v, hu, hv, huv⟩ := h I hn hR hT
 by_cases hi : i ∈ I
 ·obtain ⟨c2, hc2⟩ : ∃ c2 : Nat → Nat → Int, c2 = fun a => if a = i then c' i else c a := ⟨_, rfl⟩
  have e2 : om C (I.map c') = om C (I.map c2) := om_congv fun a _ k hk => by
   rw [hc2]; simp only
   by_cases e : a = i
   ·rw [if_pos e, e]
   ·rw [if_neg e]; exact h1 a e k hk
  have h3 := om_upd C (f := c) (f' := c2) (i := i) (t := t) (d := d) (x := x) (y := y) (fun a ha => by rw [hc2]; simp only; rw [if_neg ha]) (fun k hk => by rw [hc2]; simp only; rw [if_pos trivial]; exact h2 k hk) hn hi
  refine ⟨u * d, v * y, Int.mul_ne_zero hu hd, Int.mul_ne_zero hv hy, fun s => ?_⟩
  have h4 := om_same C (f := fun a => if a = i then c t else c a) hne (by simp only; rw [if_pos trivial, if_neg (Ne.symm hne)]) hi (hT t ht) s
  have h5 := h3 s
  have h6 := huv s
  rw [h4] at h5
  rw [e2]
  grind
 ·exact ⟨u, v, hu, hv, fun s => by rw [om_congv (f := c') (g := c) fun a ha k hk => h1 a (fun e => hi (e ▸ ha)) k hk]; exact huv s⟩
theorem Rel.scale {C R T i : Nat} {r c c' : Nat → Nat → Int} {d : Int} (h : Rel C R T r c) (hd : d ≠ 0) (h1 : ∀ a, a ≠ i → ∀ k, k < C → c' a k = c a k) (h2 : ∀ k, k < C → c i k = d * c' i k) : Rel C R T r c' := fun I hn hR hT => by
 obtain ⟨u, v, hu, hv, huv⟩ := h I hn hR hT
 by_cases hi : i ∈ I
 ·obtain ⟨c2, hc2⟩ : ∃ c2 : Nat → Nat → Int, c2 = fun a => if a = i then c' i else c a := ⟨_, rfl⟩
  have e2 : om C (I.map c') = om C (I.map c2) := om_congv fun a _ k hk => by
   rw [hc2]; simp only
   by_cases e : a = i
   ·rw [if_pos e, e]
   ·rw [if_neg e]; exact h1 a e k hk
  have h3 := om_upd C (f := c) (f' := c2) (i := i) (t := i) (d := d) (x := 0) (y := 1) (fun a ha => by rw [hc2]; simp only; rw [if_neg ha]) (fun k hk => by rw [hc2]; simp only; rw [if_pos trivial]; have := h2 k hk; omega) hn hi
  refine ⟨u * d, v, Int.mul_ne_zero hu hd, hv, fun s => ?_⟩
  have h5 := h3 s
  have h6 := huv s
  rw [e2]
  grind
 ·exact ⟨u, v, hu, hv, fun s => by rw [om_congv (f := c') (g := c) fun a ha k hk => h1 a (fun e => hi (e ▸ ha)) k hk]; exact huv s⟩
def swI (a b i : Nat) : Nat := if i = a then b else if i = b then a else i
theorem swI_swI (a b i : Nat) : swI a b (swI a b i) = i := by
 unfold swI
 by_cases h1 : i = a
 ·rw [if_pos h1]
  by_cases h2 : b = a
  ·rw [if_pos h2]; omega
  ·rw [if_neg h2, if_pos rfl]; omega
 ·rw [if_neg h1]
  by_cases h2 : i = b
  ·rw [if_pos h2, if_pos rfl]; omega
  ·rw [if_neg h2, if_neg h1, if_neg h2]
theorem Rel.swap {C R t k : Nat} {r c c' : Nat → Nat → Int} (h : Rel C R t r c) (htR : t < R) (hk1 : t ≤ k) (hkR : k < R) (h1 : ∀ a q, q < C → c' a q = c (swI k t a) q) : Rel C R t (fun a => r (swI k t a)) c' := fun I hn hR hT => by
 have hn2 : (I.map (swI k t)).Nodup := by
  unfold List.Nodup at hn ⊢
  rw [List.pairwise_map]
  exact hn.imp fun {a b} hab e => hab (by rw [← swI_swI k t a, e, swI_swI])
 obtain ⟨u, v, hu, hv, huv⟩ := h (I.map (swI k t)) hn2 (fun a ha => by
  obtain ⟨b, hb, rfl⟩ := List.mem_map.1 ha
  have := hR b hb
  unfold swI; repeat' split
  all_goals omega) (fun a ha => List.mem_map.2 ⟨a, hT a ha, by unfold swI; rw [if_neg (by omega), if_neg (by omega)]⟩)
 refine ⟨u, v, hu, hv, fun s => ?_⟩
 have h2 := huv s
 rw [List.map_map, List.map_map] at h2
 rw [om_congv (f := c') (g := c ∘ swI k t) fun a _ q hq => h1 a q hq]
 exact h2
def ek (k : Nat) : Nat → Int := fun j => if j = k then 1 else 0
theorem sq_ek (n k : Nat) : sq n (ek k) ≤ 1 := by
 unfold sq ek
 by_cases h : k < n
 ·rw [sm_one h fun i _ hne => by rw [if_neg hne]; rfl]; simp
 ·rw [sm_zero fun i hi => by rw [if_neg (by omega)]; rfl]; decide
theorem dot_ek {n k : Nat} (hk : k < n) (v : Nat → Int) : sm n (fun j => ek k j * v j) = v k := by
 unfold ek
 rw [sm_one hk fun i _ hne => by rw [if_neg hne, Int.zero_mul]]; simp
def ctl (n : Nat) : List Nat → Fm → Fm
 | [], x => x
 | k :: l, x => ctl n l (ct n (ek k) x)
theorem ctl_congr {n : Nat} : ∀ {l : List Nat} {x y : Fm}, Eqn n x y → Eqn n (ctl n l x) (ctl n l y)
 | [], _, _, h => h
 | _ :: l, _, _, h => ctl_congr (l := l) (ct_congr h)
theorem ctl_mul {n : Nat} (c : Int) : ∀ (l : List Nat) (x : Fm) (s : List Bool), ctl n l (fun t => c * x t) s = c * ctl n l x s
 | [], _, _ => rfl
 | k :: l, x, s => by
  simp only [ctl]
  rw [show ct n (ek k) (fun t => c * x t) = fun t => c * ct n (ek k) x t from funext fun t => by have := ct_lin (ek k) c 0 n x x t; simp only [Int.zero_mul, Int.add_zero] at this; exact this, ctl_mul c l]
theorem ctl_le {n : Nat} : ∀ (l : List Nat) (x : Fm), dt n (ctl n l x) (ctl n l x) ≤ dt n x x
 | [], _ => Int.le_refl _
 | k :: l, x => by
  refine Int.le_trans (ctl_le l _) (Int.le_trans (ct_le _ _ _) ?_)
  have h1 := Int.mul_le_mul_of_nonneg_right (sq_ek n k) (dt_nonneg n x)
  omega
theorem ct_zero (v : Nat → Int) (n : Nat) (t : List Bool) : ct n v (fun _ => (0 : Int)) t = 0 := by
 have := ct_lin v 0 0 n (fun _ => 0) (fun _ => 0) t
 simpa using this
theorem ct_none {n k : Nat} (hk : k < n) : ∀ {l : List (Nat → Int)}, (∀ v ∈ l, v k = 0) → Eqn n (ct n (ek k) (om n l)) fun _ => 0
 | [], _ => fun t _ => ct_one _ n t
 | v :: l, h => fun t ht => by
  show ct n (ek k) (wg n v (om n l)) t = 0
  rw [ct_wg _ _ _ _ _ ht, dot_ek hk, h v List.mem_cons_self, wg_congr (ct_none hk fun u hu => h u (List.mem_cons_of_mem _ hu)) t ht, wg_zero]; simp
def pvp (c : Nat → Nat → Int) (p : Nat → Nat) : List Nat → Int
 | [] => 1
 | a :: P => c a (p a) * pvp c p P
theorem pvp_ne {c : Nat → Nat → Int} {p : Nat → Nat} : ∀ {P : List Nat}, (∀ a ∈ P, c a (p a) ≠ 0) → pvp c p P ≠ 0
 | [], _ => by show (1 : Int) ≠ 0; decide
 | a :: _, h => Int.mul_ne_zero (h a List.mem_cons_self) (pvp_ne fun b hb => h b (List.mem_cons_of_mem _ hb))
theorem ctl_om {n : Nat} {c : Nat → Nat → Int} {p : Nat → Nat} {i : Nat} : ∀ {P : List Nat}, P.Nodup → (∀ a ∈ P, p a < n ∧ (∀ b ∈ P, b ≠ a → c b (p a) = 0) ∧ c i (p a) = 0) →
  Eqn n (ctl n (P.map p) (om n ((P ++ [i]).map c))) fun s => pvp c p P * om n [c i] s
 | [], _, _ => fun s _ => by simp [ctl, pvp]
 | a :: P, hn, h => fun s hs => by
  have hn' := List.nodup_cons.1 hn
  obtain ⟨h1, h2, h3⟩ := h a List.mem_cons_self
  have e : Eqn n (ct n (ek (p a)) (om n (((a :: P) ++ [i]).map c))) fun t => c a (p a) * om n ((P ++ [i]).map c) t := fun t ht => by
   show ct n (ek (p a)) (wg n (c a) (om n ((P ++ [i]).map c))) t = _
   rw [ct_wg _ _ _ _ _ ht, dot_ek h1, wg_congr (ct_none h1 fun v hv => ?_) t ht, wg_zero]
   ·show c a (p a) * om n ((P ++ [i]).map c) t - 0 = c a (p a) * om n ((P ++ [i]).map c) t; omega
   ·obtain ⟨b, hb, rfl⟩ := List.mem_map.1 hv
    rcases List.mem_append.1 hb with hb | hb
    ·exact h2 b (List.mem_cons_of_mem _ hb) fun e => hn'.1 (e ▸ hb)
    ·rw [List.mem_singleton.1 hb]; exact h3
  show ctl n (P.map p) (ct n (ek (p a)) (om n (((a :: P) ++ [i]).map c))) s = _
  rw [ctl_congr e s hs, ctl_mul, ctl_om hn'.2 (fun b hb => by
   obtain ⟨g1, g2, g3⟩ := h b (List.mem_cons_of_mem _ hb)
   exact ⟨g1, fun b' hb' hne => g2 b' (List.mem_cons_of_mem _ hb') hne, g3⟩) s hs]
  simp only [pvp, Int.mul_assoc]
theorem at_le : ∀ {n : Nat} {x : Fm} {t : List Bool}, t.length = n → x t * x t ≤ dt n x x
 | 0, x, [], _ => Int.le_refl _
 | n + 1, x, false :: t, ht => by
  have := at_le (n := n) (x := lo x) (t := t) (by simpa using ht)
  have := dt_nonneg n (hi x)
  simp only [dt, lo] at *; omega
 | n + 1, x, true :: t, ht => by
  have := at_le (n := n) (x := hi x) (t := t) (by simpa using ht)
  have := dt_nonneg n (lo x)
  simp only [dt, hi] at *; omega
theorem one_at : ∀ n : Nat, one n (List.replicate n false) = 1
 | 0 => rfl
 | n + 1 => by show one n (List.replicate n false) = 1; exact one_at n
theorem row_of {C R t s : Nat} {r c : Nat → Nat → Int} {p : Nat → Nat} {i : Nat} (h : Rel C R t r c) (hi : i < R) (htR : t ≤ R) (hs : ∀ a, a < R → sq C (r a) ≤ s) (hs1 : 1 ≤ s)
  (hp : ∀ a, a < t → a ≠ i → p a < C ∧ c a (p a) ≠ 0 ∧ ∀ b, b < R → b ≠ a → c b (p a) = 0) : ∃ (K v : Int) (U : Nat → Int) (I : List Nat), K ≠ 0 ∧ v ≠ 0 ∧ I.Nodup ∧ (∀ a ∈ I, a < R) ∧ (t ≤ i → I.length = t + 1) ∧ (∀ k, k < C → v * U k = K * c i k ∧ U k * U k ≤ (s : Int) ^ (t + 1)) ∧ ((∀ x, om C (I.map r) x = 0) → ∀ k, k < C → U k = 0) := by
 obtain ⟨P, hP⟩ : ∃ P, P = (List.range t).filter (fun a => decide (a ≠ i)) := ⟨_, rfl⟩
 have hPm : ∀ a, a ∈ P ↔ a < t ∧ a ≠ i := fun a => by rw [hP, List.mem_filter, List.mem_range]; simp
 have hPn : P.Nodup := by rw [hP]; exact List.Nodup.sublist List.filter_sublist List.nodup_range
 have hPl : P.length ≤ t := by rw [hP]; have := List.length_filter_le (fun a => decide (a ≠ i)) (List.range t); simpa using this
 have hIn : (P ++ [i]).Nodup := by
  rw [List.nodup_append]
  exact ⟨hPn, by simp, fun a ha b hb e => by rw [List.mem_singleton.1 hb] at e; exact ((hPm a).1 ha).2 e⟩
 have hIR : ∀ a ∈ P ++ [i], a < R := fun a ha => by
  rcases List.mem_append.1 ha with ha | ha
  ·have := (hPm a).1 ha; omega
  ·rw [List.mem_singleton.1 ha]; exact hi
 obtain ⟨u, v, hu, hv, huv⟩ := h (P ++ [i]) hIn hIR (fun a ha => by
  by_cases e : a = i
  ·rw [e]; simp
  ·exact List.mem_append_left _ ((hPm a).2 ⟨ha, e⟩))
 have hq := ctl_om (n := C) (c := c) (p := p) (i := i) hPn fun a ha => by
  obtain ⟨g1, g2⟩ := (hPm a).1 ha
  obtain ⟨k1, k2, k3⟩ := hp a g1 g2
  exact ⟨k1, fun b hb hne => k3 b (by have := (hPm b).1 hb; omega) hne, k3 i hi (Ne.symm g2)⟩
 refine ⟨u * pvp c p P, v, fun k => ct C (ek k) (ctl C (P.map p) (om C ((P ++ [i]).map r))) (List.replicate C false), P ++ [i], Int.mul_ne_zero hu (pvp_ne fun a ha => (hp a ((hPm a).1 ha).1 ((hPm a).1 ha).2).2.1), hv, hIn, hIR, fun hti => ?_, fun k hk => ⟨?_, ?_⟩, fun h0 k _ => ?_⟩
 ·have : P = List.range t := by rw [hP]; exact List.filter_eq_self.2 fun a ha => by have := List.mem_range.1 ha; simp; omega
  rw [this]; simp
 ·have e1 : Eqn C (fun s => u * ctl C (P.map p) (om C ((P ++ [i]).map c)) s) (fun s => v * ctl C (P.map p) (om C ((P ++ [i]).map r)) s) := fun s hs => by
   show u * ctl C (P.map p) (om C ((P ++ [i]).map c)) s = v * ctl C (P.map p) (om C ((P ++ [i]).map r)) s
   rw [← ctl_mul, ← ctl_mul]
   exact ctl_congr (fun t _ => huv t) s hs
  have e2 := ct_congr (v := ek k) e1 (List.replicate C false) (by simp)
  have e3 : ∀ (d : Int) (x : Fm) (t : List Bool), ct C (ek k) (fun s => d * x s) t = d * ct C (ek k) x t := fun d x t => by have := ct_lin (ek k) d 0 C x x t; simp only [Int.zero_mul, Int.add_zero] at this; exact this
  rw [e3, e3, ct_congr hq _ (by simp), e3] at e2
  show v * ct C (ek k) (ctl C (P.map p) (om C ((P ++ [i]).map r))) (List.replicate C false) = _
  rw [← e2]
  have e4 : ct C (ek k) (om C [c i]) (List.replicate C false) = c i k := by
   show ct C (ek k) (wg C (c i) (one C)) (List.replicate C false) = _
   rw [ct_wg _ _ _ _ _ (by simp), dot_ek hk, one_at, show ct C (ek k) (one C) = fun _ => 0 from funext fun t => ct_one _ _ _, wg_zero]; omega
  rw [e4, Int.mul_assoc]
 ·have h1 := at_le (n := C) (x := ct C (ek k) (ctl C (P.map p) (om C ((P ++ [i]).map r)))) (t := List.replicate C false) (by simp)
  have h2 := ctl_le (n := C) (P.map p ++ [k]) (om C ((P ++ [i]).map r))
  have e : ∀ (l : List Nat) (x : Fm), ctl C (l ++ [k]) x = ct C (ek k) (ctl C l x) := fun l => by
   induction l with
   | nil => intro x; rfl
   | cons a l ih => intro x; exact ih _
  rw [e] at h2
  have h3 := om_le (n := C) (s := s) (l := (P ++ [i]).map r) fun w hw => by
   obtain ⟨a, ha, rfl⟩ := List.mem_map.1 hw
   exact hs a (hIR a ha)
  have h4 : (s : Int) ^ ((P ++ [i]).map r).length ≤ (s : Int) ^ (t + 1) := by
   rw [List.length_map, List.length_append, List.length_singleton, ← Int.natCast_pow, ← Int.natCast_pow]
   exact Int.ofNat_le.2 (Nat.pow_le_pow_right hs1 (by omega))
  exact Int.le_trans h1 (Int.le_trans h2 (Int.le_trans h3 h4))
 ·show ct C (ek k) (ctl C (P.map p) (om C ((P ++ [i]).map r))) (List.replicate C false) = 0
  rw [show om C ((P ++ [i]).map r) = fun _ => 0 from funext h0]
  have e : Eqn C (ctl C (P.map p) (fun _ => 0)) fun _ => 0 := fun s _ => by
   have := ctl_mul (n := C) 0 (P.map p) (fun _ => 0) s
   simpa using this
  rw [ct_congr e _ (by simp), ct_zero]
end Go.Proofs.Ytneeelebnnfbeaa

namespace Go.Proofs.Ytneeelebnnfbeaa
theorem rowG_congr {m m' : List Int} {C i i' : Nat} : ∀ {n : Nat}, (∀ k, k < n → cell m C i k = cell m' C i' k) → rowG m C i n = rowG m' C i' n
 | 0, _ => rfl
 | n + 1, h => by
  simp only [rowG]
  rw [rowG_congr (fun k hk => h k (by omega)), h n (by omega)]
theorem dvd_rowG {m : List Int} {C i e : Nat} : ∀ {n : Nat}, (∀ k, k < n → e ∣ (cell m C i k).natAbs) → e ∣ rowG m C i n
 | 0, _ => by simp [rowG]
 | n + 1, h => Nat.dvd_gcd (dvd_rowG fun k hk => h k (by omega)) (h n (by omega))
theorem dvd_rowG_mul {m : List Int} {C i e a : Nat} : ∀ {n : Nat}, (∀ k, k < n → e ∣ a * (cell m C i k).natAbs) → e ∣ a * rowG m C i n
 | 0, _ => by simp [rowG]
 | n + 1, h => by
  simp only [rowG]
  rw [← Nat.gcd_mul_left]
  exact Nat.dvd_gcd (dvd_rowG_mul fun k hk => h k (by omega)) (h n (by omega))
theorem prim_le {m : List Int} {C R i : Nat} (hl : m.length = R * C) (hi : i < R) : rowG (primR m C i) C i C ≤ 1 := by
 by_cases h0 : rowG m C i C = 0
 ·unfold primR; rw [if_pos h0, h0]; omega
 ·have hc : ∀ k, k < C → cell (primR m C i) C i k = primV m C i k := fun k hk => by
   unfold primR; rw [if_neg h0, cell_upd hl hi hk, if_pos rfl]
  have hG : (primD m C i).natAbs = rowG m C i C := by unfold primD; split <;> omega
  have h1 : rowG m C i C * rowG (primR m C i) C i C ∣ rowG m C i C := dvd_rowG fun k hk => by
   rw [primV_mul hk, Int.natAbs_mul, hG]
   refine Nat.mul_dvd_mul_left _ ?_
   have := rowG_dvd (m := primR m C i) (C := C) (i := i) hk
   rw [hc k hk] at this
   exact Int.ofNat_dvd_left.1 this
  obtain ⟨q, hq⟩ := h1
  have h2 : rowG m C i C * 1 = rowG m C i C * (rowG (primR m C i) C i C * q) := by rw [Nat.mul_one, ← Nat.mul_assoc]; exact hq
  have h3 := Nat.eq_of_mul_eq_mul_left (by omega) h2
  exact Nat.le_of_dvd (by decide) ⟨q, h3⟩
theorem sq_le_of {c U K v : Int} {m : List Int} {C i : Nat} (hK : K ≠ 0) (hv : v ≠ 0) {u : Nat → Int} (h : ∀ k, k < C → v * u k = K * cell m C i k) (hg : rowG m C i C ≤ 1) {k : Nat} (hk : k < C) (hc : c = cell m C i k) (hU : U = u k) : c * c ≤ U * U := by
 subst hc hU
 by_cases h0 : rowG m C i C = 0
 ·rw [rowG_zero.1 h0 k hk]; simpa using msq (u k)
 ·have h1 : v.natAbs ∣ K.natAbs * rowG m C i C := dvd_rowG_mul fun k hk => by
   rw [← Int.natAbs_mul, ← h k hk, Int.natAbs_mul]; exact Nat.dvd_mul_right _ _
  rw [show rowG m C i C = 1 by omega, Nat.mul_one] at h1
  obtain ⟨l, hl⟩ := Int.natAbs_dvd_natAbs.1 h1
  have h2 : v * u k = v * (l * cell m C i k) := by rw [h k hk, hl, Int.mul_assoc]
  have h3 := Int.eq_of_mul_eq_mul_left hv h2
  have hl0 : l ≠ 0 := fun e => hK (by rw [hl, e, Int.mul_zero])
  rw [h3]
  have h4 : 1 ≤ l * l := by
   have := msq l
   have : l * l ≠ 0 := Int.mul_ne_zero hl0 hl0
   omega
  have h5 := Int.mul_le_mul_of_nonneg_right h4 (msq (cell m C i k))
  have h6 : l * cell m C i k * (l * cell m C i k) = l * l * (cell m C i k * cell m C i k) := by grind
  omega
theorem mul_le_of {a b B : Int} (ha : a * a ≤ B) (hb : b * b ≤ B) : -B ≤ a * b ∧ a * b ≤ B := by
 have h1 := msq (a - b)
 have h2 := msq (a + b)
 have e1 : (a - b) * (a - b) = a * a - 2 * (a * b) + b * b := by grind
 have e2 : (a + b) * (a + b) = a * a + 2 * (a * b) + b * b := by grind
 omega
theorem tdiv_sq (a g : Int) : a.tdiv g * a.tdiv g ≤ a * a := by
 have h1 : (a.tdiv g).natAbs ≤ a.natAbs := by rw [Int.natAbs_tdiv]; exact Nat.div_le_self _ _
 have h2 := Nat.mul_le_mul h1 h1
 rw [← Int.natAbs_mul_self, ← Int.natAbs_mul_self]
 exact_mod_cast h2
structure EcI (C R : Nat) (m : List Int) (t : Nat) (p : Nat → Nat) (r : Nat → Nat → Int) (s rho : Nat) : Prop where
 len : m.length = R * C
 le : t ≤ R
 piv : ∀ l, l < t → p l < C ∧ cell m C l (p l) ≠ 0 ∧ ∀ i, i < R → i ≠ l → cell m C i (p l) = 0
 rel : Rel C R t r (cell m C)
 prim : ∀ i, i < R → rowG m C i C ≤ 1
 sqr : ∀ a, a < R → sq C (r a) ≤ s
 one : 1 ≤ s
 ind : ∀ I : List Nat, I.Nodup → (∀ a ∈ I, a < R) → rho < I.length → ∀ x, om C (I.map r) x = 0
theorem EcI.bnd {C R t s rho : Nat} {m : List Int} {p : Nat → Nat} {r : Nat → Nat → Int} (h : EcI C R m t p r s rho) {i k : Nat} (hi : i < R) (hk : k < C) : cell m C i k * cell m C i k ≤ (s : Int) ^ (t + 1) := by
 obtain ⟨K, v, U, I, hK, hv, -, -, -, h1, -⟩ := row_of h.rel hi h.le h.sqr h.one fun a ha _ => h.piv a ha
 exact Int.le_trans (sq_le_of hK hv (fun k hk => (h1 k hk).1) (h.prim i hi) hk rfl rfl) (h1 k hk).2
theorem EcI.few {C R t s rho : Nat} {m : List Int} {p : Nat → Nat} {r : Nat → Nat → Int} (h : EcI C R m t p r s rho) (ht : t < R) {j : Nat} (hj : j < C) (hc : cell m C t j ≠ 0) : t + 1 ≤ rho := by
 obtain ⟨K, v, U, I, hK, hv, hn, hR, hl, h1, h2⟩ := row_of h.rel ht h.le h.sqr h.one fun a ha _ => h.piv a ha
 by_cases hle : t + 1 ≤ rho
 ·exact hle
 ·have h3 := h2 (h.ind I hn hR (by rw [hl (Nat.le_refl _)]; omega)) j hj
  have h4 := (h1 j hj).1
  rw [h3, Int.mul_zero] at h4
  rcases Int.mul_eq_zero.1 h4.symm with e | e
  ·exact (hK e).elim
  ·exact (hc e).elim
theorem elim_ok {C R t j s rho : Nat} {m : List Int} {p : Nat → Nat} {r : Nat → Nat → Int} (h : EcI C R m t p r s rho) (ht : t < R) (hj : j < C) (hc : cell m C t j ≠ 0) (hB : 2 * (s : Int) ^ rho ≤ 400000000) :
  ∀ n, n ≤ R → ∃ m', ecElim C j t n m = some m' ∧ m'.length = R * C ∧ (∀ i, (n ≤ i ∨ i = t) → ∀ k, k < C → cell m' C i k = cell m C i k) ∧ (∀ i, i < R → rowG m' C i C ≤ 1) ∧ Rel C R (t + 1) r (cell m' C)
 | 0, _ => ⟨m, rfl, h.len, fun _ _ _ _ => rfl, h.prim, h.rel.more⟩
 | n + 1, hn => by
  obtain ⟨m1, h1, h2, h3, h4, h5⟩ := elim_ok h ht hj hc hB n (by omega)
  by_cases hs : n = t ∨ cell m1 C n j = 0
  ·exact ⟨m1, elim_skip h1 hs, h2, fun i hi => h3 i (by rcases hi with hi | hi; exact .inl (by omega); exact .inr hi), h4, h5⟩
  ·have hnt : n ≠ t := fun e => hs (.inl e)
   have hx : cell m1 C n j ≠ 0 := fun e => hs (.inr e)
   have hfew := h.few ht hj hc
   have hpow : (s : Int) ^ (t + 1) ≤ (s : Int) ^ rho := by
    rw [← Int.natCast_pow, ← Int.natCast_pow]
    exact Int.ofNat_le.2 (Nat.pow_le_pow_right h.one hfew)
   have hb : ∀ i k, (i = n ∨ i = t) → k < C → cell m1 C i k * cell m1 C i k ≤ (s : Int) ^ rho := fun i k hi hk => by
    rw [h3 i (by rcases hi with hi | hi; exact .inl (by omega); exact .inr hi) k hk]
    exact Int.le_trans (h.bnd (by omega) hk) hpow
   have hok : elWok m1 C n t j = true := elWok_iff.2 fun k hk => isNumB_iff.2 (by
    have e1 := mul_le_of (Int.le_trans (tdiv_sq (cell m1 C t j) (elG m1 C n t j)) (hb t j (.inr rfl) hj)) (hb n k (.inl rfl) hk)
    have e2 := mul_le_of (Int.le_trans (tdiv_sq (cell m1 C n j) (elG m1 C n t j)) (hb n j (.inl rfl) hj)) (hb t k (.inr rfl) hk)
    unfold elW
    omega)
   have hct : cell m1 C t j ≠ 0 := by rw [h3 t (.inr rfl) j hj]; exact hc
   have hg : elG m1 C n t j ≠ 0 := elG_pos hx
   have hgt : elG m1 C n t j ∣ cell m1 C t j := by unfold elG gI; exact Int.gcd_dvd_right _ _
   have hy : (cell m1 C t j).tdiv (elG m1 C n t j) ≠ 0 := fun e => hct (by have := Int.mul_tdiv_cancel' hgt; rw [e, Int.mul_zero] at this; exact this.symm)
   obtain ⟨m2, hm2⟩ : ∃ m2, m2 = updR (elW m1 C n t j) (n * C) C m1 := ⟨_, rfl⟩
   have hl2 : m2.length = R * C := by rw [hm2, updR_len]; exact h2
   have c2 : ∀ i k, k < C → cell m2 C i k = if i = n then elW m1 C n t j k else cell m1 C i k := fun i k hk => by rw [hm2, cell_upd h2 (by omega) hk]
   obtain ⟨d, hd, e1, e2⟩ := primR_mul (m := m2) (C := C) (R := R) (i := n) hl2 (by omega)
   have hE : elRow m1 C n t j = primR m2 C n := by unfold elRow; rw [← hm2]
   refine ⟨elRow m1 C n t j, elim_yes h1 hs hok, by rw [elRow_len]; exact h2, fun i hi k hk => ?_, fun i hi => ?_, ?_⟩
   ·have hin : i ≠ n := by rcases hi with hi | hi <;> omega
    rw [hE, e2 i k hk hin, c2 i k hk, if_neg hin]
    exact h3 i (by rcases hi with hi | hi; exact .inl (by omega); exact .inr hi) k hk
   ·by_cases e : i = n
    ·subst e; rw [hE]; exact prim_le hl2 hi
    ·rw [rowG_congr (m' := m1) (i' := i) fun k hk => by rw [hE, e2 i k hk e, c2 i k hk, if_neg e]]
     exact h4 i hi
   ·rw [hE]
    refine Rel.step (t := t) (i := n) (d := d) (y := (cell m1 C t j).tdiv (elG m1 C n t j)) (x := (cell m1 C n j).tdiv (elG m1 C n t j)) h5 (by omega) hnt hd hy (fun a ha k hk => ?_) fun k hk => ?_
    ·rw [e2 a k hk ha, c2 a k hk, if_neg ha]
    ·rw [← e1 k hk, c2 n k hk, if_pos rfl]; rfl
theorem EcI.swap {C R t k s rho : Nat} {m : List Int} {p : Nat → Nat} {r : Nat → Nat → Int} (h : EcI C R m t p r s rho) (ht : t < R) (hk1 : t ≤ k) (hkR : k < R) : EcI C R (elM1 m C t k) t p (fun a => r (swI k t a)) s rho := by
 obtain ⟨c1, -, c3⟩ := elM1_spec h.len ht hkR
 have hsw : ∀ i q, q < C → cell (elM1 m C t k) C i q = cell m C (swI k t i) q := fun i q hq => by
  rw [c3 i q hq]; unfold swI
  split
  ·rfl
  ·split <;> rfl
 have hlt : ∀ i, i < R → swI k t i < R := fun i hi => by unfold swI; split; omega; split <;> omega
 refine ⟨c1, h.le, fun l hl => ?_, h.rel.swap ht hk1 hkR hsw, fun i hi => ?_, fun a ha => h.sqr _ (hlt a ha), h.one, fun I hn hR hl x => ?_⟩
 ·obtain ⟨q1, q2, q3⟩ := h.piv l hl
  have hsl : swI k t l = l := by unfold swI; rw [if_neg (by omega), if_neg (by omega)]
  refine ⟨q1, by rw [hsw l _ q1, hsl]; exact q2, fun i hi hne => ?_⟩
  rw [hsw i _ q1]
  exact q3 _ (hlt i hi) fun e => hne (by rw [← swI_swI k t i, e, hsl])
 ·rw [rowG_congr (m' := m) (i' := swI k t i) fun q hq => hsw i q hq]
  exact h.prim _ (hlt i hi)
 ·have := h.ind (I.map (swI k t)) (by
   unfold List.Nodup at hn ⊢
   rw [List.pairwise_map]
   exact hn.imp fun {a b} hab e => hab (by rw [← swI_swI k t a, e, swI_swI])) (fun a ha => by
   obtain ⟨b, hb, rfl⟩ := List.mem_map.1 ha
   exact hlt b (hR b hb)) (by rw [List.length_map]; exact hl) x
  rw [List.map_map] at this
  exact this
theorem ecN_total {C R s rho : Nat} (hB : 2 * (s : Int) ^ rho ≤ 400000000) : ∀ {n j t : Nat} {m : List Int} {p : Nat → Nat} {r : Nat → Nat → Int}, j + n = C → EcI C R m t p r s rho → (∀ i, t ≤ i → i < R → ∀ k, k < j → cell m C i k = 0) → (∀ l, l < t → p l < j) → ∃ y, ecN C R n j t m = some y
 | 0, j, t, m, p, r, _, _, _, _ => ⟨(t, m), rfl⟩
 | n + 1, j, t, m, p, r, hj, hE, hlow, hpj => by
  by_cases htR : t < R
  ·by_cases hk : elK m C j (R - t) t = R
   ·rw [ecN_skip htR rfl hk]
    refine ecN_total hB (by omega) hE (fun i h1 h2 k h3 => ?_) fun l hl => by have := hpj l hl; omega
    by_cases e : k = j
    ·subst e
     rcases elK_spec (m := m) (C := C) (j := k) (n := R - t) (k := t) with ⟨_, h4⟩ | ⟨_, h4, _⟩
     ·exact h4 i h1 (by omega)
     ·omega
    ·exact hlow i h1 h2 k (by omega)
   ·obtain ⟨k, hkk⟩ : ∃ k, k = elK m C j (R - t) t := ⟨_, rfl⟩
    obtain ⟨hk1, hk2, hk3⟩ : t ≤ k ∧ k < R ∧ cell m C k j ≠ 0 := by
     rcases elK_spec (m := m) (C := C) (j := j) (n := R - t) (k := t) with ⟨h4, _⟩ | ⟨h3, h4, h5⟩
     ·exact (hk (by omega)).elim
     ·rw [hkk]; exact ⟨h3, by omega, h5⟩
    have hjC : j < C := by omega
    have hE1 := hE.swap htR hk1 hk2
    obtain ⟨c1, -, c3⟩ := elM1_spec hE.len htR hk2
    have hpv : cell (elM1 m C t k) C t j ≠ 0 := by
     rw [c3 t j hjC]
     by_cases e : t = k
     ·rw [if_pos e, e]; exact hk3
     ·rw [if_neg e, if_pos rfl]; exact hk3
    have hlow1 : ∀ i, t ≤ i → i < R → ∀ c, c < j → cell (elM1 m C t k) C i c = 0 := fun i h1 h2 c hc => by
     rw [c3 i c (by omega)]
     split
     ·exact hlow t (Nat.le_refl _) htR c hc
     ·split
      ·exact hlow k hk1 hk2 c hc
      ·exact hlow i h1 h2 c hc
    obtain ⟨m2, he, hl2, h3, h4, h5⟩ := elim_ok hE1 htR hjC hpv hB R (Nat.le_refl _)
    rw [ecN_some htR hkk (by omega) he]
    obtain ⟨d1, d2, d3, d4, d5⟩ := elim_spec htR hjC (Nat.le_refl _) c1 hpv he
    refine ecN_total hB (p := fun l => if l = t then j else p l) (r := fun a => r (swI k t a)) (by omega) ⟨d1, htR, fun l hl => ?_, h5, h4, hE1.sqr, hE1.one, hE1.ind⟩ (fun i h1 h2 c hc => ?_) fun l hl => ?_
    ·show (if l = t then j else p l) < C ∧ cell m2 C l (if l = t then j else p l) ≠ 0 ∧ ∀ i, i < R → i ≠ l → cell m2 C i (if l = t then j else p l) = 0
     by_cases e : l = t
     ·subst e
      rw [if_pos rfl]
      exact ⟨hjC, by rw [d3 j hjC]; exact hpv, fun i hi hne => d4 i hi hne⟩
     ·rw [if_neg e]
      obtain ⟨q1, q2, q3⟩ := hE1.piv l (by omega)
      have ht0 : cell (elM1 m C t k) C t (p l) = 0 := hlow1 t (Nat.le_refl _) htR _ (hpj l (by omega))
      refine ⟨q1, fun h0 => q2 ((d5 l (p l) q1 ht0).1 h0), fun i hi hne => (d5 i (p l) q1 ht0).2 (q3 i hi hne)⟩
    ·by_cases e : c = j
     ·subst e
      exact d4 i h2 (by omega)
     ·exact (d5 i c (by omega) (hlow1 t (Nat.le_refl _) htR c (by omega))).2 (hlow1 i (by omega) h2 c (by omega))
    ·show (if l = t then j else p l) < j + 1
     by_cases e : l = t
     ·rw [if_pos e]; omega
     ·rw [if_neg e]; have := hpj l (by omega); omega
  ·rw [ecN_full htR]; exact ⟨_, rfl⟩
theorem primAll_rel {m : List Int} {C R : Nat} (hl : m.length = R * C) : ∀ {n : Nat}, n ≤ R → Rel C R 0 (cell m C) (cell (primAll m C n) C) ∧ ∀ i, i < n → rowG (primAll m C n) C i C ≤ 1
 | 0, _ => ⟨Rel.refl _ _ _ _, fun i hi => by omega⟩
 | n + 1, hn => by
  obtain ⟨h1, h2⟩ := primAll_rel hl (n := n) (by omega)
  have hl' : (primAll m C n).length = R * C := by rw [primAll_len]; exact hl
  obtain ⟨d, hd, e1, e2⟩ := primR_mul (m := primAll m C n) (C := C) (R := R) (i := n) hl' hn
  refine ⟨Rel.scale h1 hd (fun a ha k hk => e2 a k hk ha) e1, fun i hi => ?_⟩
  by_cases e : i = n
  ·subst e; exact prim_le hl' hn
  ·have h3 := h2 i (by omega)
   rw [← rowG_congr (m := primAll m C (n + 1)) (C := C) (i := i) (m' := primAll m C n) (i' := i) fun k hk => e2 i k hk e] at h3
   exact h3
theorem ec_total {m : Mat} {R C s rho : Nat} (hB : isMatB m = true) (hr : m.rows = R) (hc : m.cols = C) (hs : ∀ a, a < R → sq C (cell m.cells C a) ≤ s) (h1 : 1 ≤ s) (hi : ∀ I : List Nat, I.Nodup → (∀ a ∈ I, a < R) → rho < I.length → ∀ x, om C (I.map (cell m.cells C)) x = 0) (h2 : 2 * (s : Int) ^ rho ≤ 400000000) : ecOk m = true := by
 obtain ⟨R', C', hmr, hmc, hR, hC, hl, hnum⟩ := isMatB_shape hB
 obtain rfl : R' = R := by omega
 obtain rfl : C' = C := by omega
 obtain ⟨g1, g2⟩ := primAll_rel hl (Nat.le_refl _)
 obtain ⟨y, hy⟩ := ecN_total (p := fun _ => 0) h2 (show 0 + C' = C' by omega) (show EcI C' R' (primAll m.cells C' R') 0 (fun _ => 0) (cell m.cells C') s rho from ⟨by rw [primAll_len]; exact hl, Nat.zero_le _, fun l hl => by omega, g1, g2, hs, h1, hi⟩) (fun _ _ _ k hk => by omega) fun l hl => by omega
 unfold ecOk echR
 rw [if_pos hB, hmr, hmc, Int.toNat_natCast, Int.toNat_natCast, hy]
 rfl
end Go.Proofs.Ytneeelebnnfbeaa

namespace Go.Proofs.Ytneeelebnnfbeaa
def lsum : List (Int × (Nat → Int)) → Nat → Int
 | [], _ => 0
 | p :: r, k => p.1 * p.2 k + lsum r k
theorem lsum_app (k : Nat) : ∀ P Q : List (Int × (Nat → Int)), lsum (P ++ Q) k = lsum P k + lsum Q k
 | [], Q => by simp [lsum]
 | p :: P, Q => by simp only [List.cons_append, lsum, lsum_app k P Q]; omega
theorem wg_lsum (n : Nat) {L : List (Nat → Int)} : ∀ {r : List (Int × (Nat → Int))}, (∀ p ∈ r, p.2 ∈ L) → ∀ s, wg n (lsum r) (om n L) s = 0
 | [], _, s => by
  have := wg_linv (fun _ => 0) (fun _ => 0) 0 0 n (om n L) s
  simp only [Int.zero_mul, Int.zero_add] at this
  rw [show lsum [] = fun _ => (0 : Int) from funext fun _ => rfl]
  simpa using this
 | p :: r, h, s => by
  rw [show lsum (p :: r) = fun k => p.1 * p.2 k + 1 * lsum r k from funext fun k => by simp [lsum], wg_linv, om_mem n (h p List.mem_cons_self), wg_lsum n fun q hq => h q (List.mem_cons_of_mem _ hq)]
  simp
theorem om_front (n : Nat) (v : Nat → Int) (l2 : List (Nat → Int)) : ∀ l1 : List (Nat → Int), ∃ e : Int, e ≠ 0 ∧ ∀ s, om n (l1 ++ v :: l2) s = e * wg n v (om n (l1 ++ l2)) s
 | [] => ⟨1, by decide, fun s => by simp [om]⟩
 | u :: l1 => by
  obtain ⟨e, he, h⟩ := om_front n v l2 l1
  refine ⟨-e, by omega, fun s => ?_⟩
  show wg n u (om n (l1 ++ v :: l2)) s = -e * wg n v (wg n u (om n (l1 ++ l2))) s
  rw [show om n (l1 ++ v :: l2) = fun s => e * wg n v (om n (l1 ++ l2)) s + 0 * wg n v (om n (l1 ++ l2)) s from funext fun s => by rw [h s]; omega, wg_lin, wg_anti u v]
  grind
theorem om_dep {n : Nat} {P1 P2 : List (Int × (Nat → Int))} {c : Int} {v : Nat → Int} (hc : c ≠ 0) (h : ∀ k, k < n → lsum (P1 ++ (c, v) :: P2) k = 0) (s : List Bool) : om n ((P1 ++ (c, v) :: P2).map (·.2)) s = 0 := by
 obtain ⟨e, he, h1⟩ := om_front n v (P2.map (·.2)) (P1.map (·.2))
 rw [List.map_append, List.map_cons, h1 s]
 have h2 : wg n (fun k => c * v k + 0 * v k) (om n (P1.map (·.2) ++ P2.map (·.2))) s = 0 := by
  rw [wg_congv (v := fun k => (-1) * lsum (P1 ++ P2) k + 0 * lsum (P1 ++ P2) k) fun k hk => by
   have := h k hk
   rw [lsum_app] at this ⊢
   simp only [lsum] at this
   omega, wg_linv, wg_lsum n fun p hp => by
   rw [← List.map_append]
   exact List.mem_map.2 ⟨p, hp, rfl⟩]
  simp
 rw [wg_linv] at h2
 have h3 : c * wg n v (om n (P1.map (·.2) ++ P2.map (·.2))) s = 0 := by omega
 rcases Int.mul_eq_zero.1 h3 with h4 | h4
 ·exact (hc h4).elim
 ·rw [h4, Int.mul_zero]
theorem range_getD {α β : Type} (f : α → β) (d : α) (I : List α) : (List.range I.length).map (fun j => f (I.getD j d)) = I.map f := by
 apply List.ext_getElem
 ·simp
 ·intro i h1 h2
  have h3 : i < I.length := by simpa using h1
  simp [h3]
theorem lsum_range {y : Nat → Int} {g : Nat → Nat → Int} {k : Nat} : ∀ n, lsum ((List.range n).map fun j => (y j, g j)) k = sm n fun j => y j * g j k
 | 0 => rfl
 | n + 1 => by
  rw [List.range_succ, List.map_append, lsum_app, lsum_range n]
  simp [lsum, sm]
theorem om_more {C : Nat} {f : Nat → Nat → Int} {I : List Nat} {y : Nat → Int} (hy : ∃ j, j < I.length ∧ y j ≠ 0) (h : ∀ k, k < C → sm I.length (fun j => y j * f (I.getD j 0) k) = 0) (s : List Bool) : om C (I.map f) s = 0 := by
 obtain ⟨j, hj, hj0⟩ := hy
 have hm : (y j, f (I.getD j 0)) ∈ (List.range I.length).map fun j => (y j, f (I.getD j 0)) := List.mem_map.2 ⟨j, List.mem_range.2 hj, rfl⟩
 obtain ⟨P1, P2, hP⟩ := List.append_of_mem hm
 have h1 := om_dep (P1 := P1) (P2 := P2) hj0 (fun k hk => by rw [← hP, lsum_range]; exact h k hk) s
 rw [← hP, List.map_map] at h1
 rw [← range_getD f 0 I]
 exact h1
theorem sumN_head (g : Nat → Int) : ∀ n, sumN g (n + 1) = g 0 + sumN (fun j => g (j + 1)) n
 | 0 => by simp [sumN]
 | n + 1 => by
  rw [show sumN g (n + 1 + 1) = sumN g (n + 1) + g (n + 1) from rfl, sumN_head g n]
  simp only [sumN]; omega
theorem csum_sumN (x : List Int → Int) (f : List Int) : ∀ S : List (List Int), csum S x f = sumN (fun c => x (S.getD c []) * incB (S.getD c []) f) S.length
 | [] => rfl
 | s :: S => by
  rw [List.length_cons, sumN_head]
  simp only [csum, csum_sumN x f S]
  simp
theorem csum_lin (f : List Int) (a : Nat → List Int → Int) (y : Nat → Int) : ∀ (S : List (List Int)) (n : Nat), csum S (fun t => sm n fun j => y j * a j t) f = sm n fun j => y j * csum S (a j) f
 | [], n => by simp only [csum]; rw [sm_zero fun _ _ => by simp]
 | s :: S, n => by
  simp only [csum]
  rw [csum_lin f a y S n, ← sm_mulr, ← sm_add]
  exact sm_congr fun j _ => by rw [Int.mul_add, Int.mul_assoc]
theorem csum_off {x : List Int → Int} {f : List Int} {q : List Int → Bool} : ∀ {S : List (List Int)}, (∀ s ∈ S, q s = false → x s = 0) → csum (S.filter q) x f = csum S x f
 | [], _ => rfl
 | s :: S, h => by
  have ih := csum_off (q := q) (x := x) (f := f) (S := S) fun t ht => h t (List.mem_cons_of_mem _ ht)
  rw [List.filter_cons]
  cases hq : q s with
  | true => simp only [if_true, csum, ih]
  | false => simp only [Bool.false_eq_true, if_false, csum, ih, h s List.mem_cons_self hq]; omega
theorem csum_perm {x : List Int → Int} {f : List Int} {S T : List (List Int)} (h : S.Perm T) : csum S x f = csum T x f := by
 induction h with
 | nil => rfl
 | cons a _ ih => simp only [csum, ih]
 | swap a b l => simp only [csum]; omega
 | trans _ _ h1 h2 => exact h1.trans h2
theorem rank_le {l : List (List Int)} (h : IsCplx l) {k : Int} (hk : 0 < k) {S : List (List Int)} (hn : S.Nodup) (hS : Indp S) (hm : ∀ s ∈ S, s ∈ facesB l (k - 1)) {I : List Nat} (hR : ∀ a ∈ I, a < (facesB l k).length) (hl : (facesB l (k - 1)).length - S.length < I.length) (x : List Bool) :
  om (facesB l (k - 1)).length (I.map (cell (boundM l k).cells (facesB l (k - 1)).length)) x = 0 := by
 obtain ⟨C0, hC0⟩ : ∃ C0, C0 = facesB l (k - 1) := ⟨_, rfl⟩
 obtain ⟨R0, hR0⟩ : ∃ R0, R0 = facesB l k := ⟨_, rfl⟩
 have hat := fun {i j : Nat} (hi : i < (facesB l k).length) (hj : j < (facesB l (k - 1)).length) => bound_at h hk hi hj
 have hfc := fun (s : List Int) (hs : s ∈ facesB l k) => fun y (hy : y < s.length) => cplx_faces h hs hk hy
 have hnd := faces_nodup h (k - 1)
 rw [← hC0] at hm hl hat hfc hnd ⊢
 rw [← hR0] at hR hat hfc
 obtain ⟨E, hE⟩ : ∃ E, E = C0.filter fun t => decide (t ∉ S) := ⟨_, rfl⟩
 have hEl : E.length + S.length ≤ C0.length := by
  have h1 : S.length ≤ (C0.filter fun t => decide (t ∈ S)).length := nodup_le hn fun s hs => List.mem_filter.2 ⟨hm s hs, by simpa using hs⟩
  have h2 : C0.length = (C0.filter fun t => decide (t ∉ S)).length + (C0.filter fun t => decide (t ∈ S)).length := by
   clear hE h1 hl hat hfc hm hC0 hnd
   induction C0 with
   | nil => rfl
   | cons s X ih => by_cases h : s ∈ S <;> simp [h] at ih ⊢ <;> omega
  rw [hE]; omega
 obtain ⟨y, -, hy1, hy2⟩ := siegelF E.length I.length (fun i j => incB (R0.getD (I.getD j 0) []) (E.getD i [])) (by omega)
 obtain ⟨z, hz⟩ : ∃ z : List Int → Int, z = fun t => sm I.length fun j => y j * incB (R0.getD (I.getD j 0) []) t := ⟨_, rfl⟩
 have hzE : ∀ t ∈ C0, t ∉ S → z t = 0 := fun t ht hts => by
  have hmE : t ∈ E := by rw [hE]; exact List.mem_filter.2 ⟨ht, by simpa using hts⟩
  obtain ⟨i, hi, hie⟩ := List.getElem_of_mem hmE
  have := hy2 i hi
  rw [hz, ← this]
  refine sm_congr fun j _ => ?_
  rw [List.getD_eq_getElem?_getD (l := E), List.getElem?_eq_getElem hi, hie, Int.mul_comm]; rfl
 have hrow : ∀ j, j < I.length → R0.getD (I.getD j 0) [] ∈ R0 := fun j hj => by
  have h1 : I.getD j 0 ∈ I := by rw [List.getD_eq_getElem?_getD, List.getElem?_eq_getElem hj]; exact List.getElem_mem hj
  rw [List.getD_eq_getElem?_getD, List.getElem?_eq_getElem (hR _ h1)]
  exact List.getElem_mem _
 have hzS : ∀ s ∈ S, z s = 0 := hS z fun f => by
  have h1 : csum C0 z f = 0 := by
   rw [hz, csum_lin]
   refine sm_zero fun j hj => ?_
   rw [csum_sumN, inc_inc hnd (hfc _ (hrow j hj)), Int.mul_zero]
  rw [← h1, ← csum_off (q := fun t => decide (t ∈ S)) (S := C0) fun t ht hq => hzE t ht (by simpa using hq)]
  refine csum_perm ((List.perm_ext_iff_of_nodup hn (hnd.sublist List.filter_sublist)).2 fun t => ?_)
  rw [List.mem_filter]
  exact ⟨fun ht => ⟨hm t ht, by simpa using ht⟩, fun ht => by simpa using ht.2⟩
 refine om_more hy1 (fun c hc => ?_) x
 have hct : C0.getD c [] ∈ C0 := by rw [List.getD_eq_getElem?_getD, List.getElem?_eq_getElem hc]; exact List.getElem_mem _
 have h0 : z (C0.getD c []) = 0 := by
  by_cases hs : C0.getD c [] ∈ S
  ·exact hzS _ hs
  ·exact hzE _ hct hs
 rw [hz] at h0
 rw [← h0]
 refine sm_congr fun j hj => ?_
 have h1 : I.getD j 0 ∈ I := by rw [List.getD_eq_getElem?_getD, List.getElem?_eq_getElem hj]; exact List.getElem_mem hj
 have := hat (hR _ h1) hc
 unfold cell
 rw [this]
end Go.Proofs.Ytneeelebnnfbeaa

namespace Go.Proofs.Ytneeelebnnfbeaa
theorem faces_fam {l : List (List Int)} (h : IsCplx l) (k : Nat) : Fam (k + 1) 10 (facesB l k) := by
 refine ⟨faces_nodup h k, fun s hs => ?_, fun s hs => simp_lt (h.1.1 s (mem_facesB.1 hs).1), fun s hs z hz => ?_⟩
 ·have := (mem_facesB.1 hs).2; omega
 ·have h1 := h.1.1 s (mem_facesB.1 hs).1
  unfold isSimpB at h1
  rw [decide_eq_true_eq] at h1
  have := h1.1.1 z hz
  omega
theorem row_sq {l : List (List Int)} (h : IsCplx l) {k : Int} (hk : 0 < k) {a : Nat} (ha : a < (facesB l k).length) : sq (facesB l (k - 1)).length (cell (boundM l k).cells (facesB l (k - 1)).length a) = k + 1 := by
 obtain ⟨s, hs⟩ : ∃ s, s = (facesB l k).getD a [] := ⟨_, rfl⟩
 have hm : s ∈ facesB l k := by rw [hs, List.getD_eq_getElem?_getD, List.getElem?_eq_getElem ha]; exact List.getElem_mem ha
 have hasc := simp_lt (h.1.1 s (mem_facesB.1 hm).1)
 have hlen := (mem_facesB.1 hm).2
 have h1 : sq (facesB l (k - 1)).length (cell (boundM l k).cells (facesB l (k - 1)).length a) = sumN (fun j => incB s ((facesB l (k - 1)).getD j []) * incB s ((facesB l (k - 1)).getD j [])) (facesB l (k - 1)).length := by
  unfold sq
  have e : ∀ (n : Nat) (f g : Nat → Int), (∀ i, i < n → f i = g i) → sm n f = sumN g n := fun n => by
   induction n with
   | zero => intro f g _; rfl
   | succ n ih => intro f g hfg; simp only [sm, sumN]; rw [ih f g fun i hi => hfg i (by omega), hfg n (by omega)]
  refine e _ _ _ fun j hj => ?_
  have := bound_at h hk ha hj
  unfold cell
  rw [this, ← hs]
 rw [h1, inc_sum (faces_nodup h (k - 1)) (fun x hx => cplx_faces h hm hk hx) (fun t => incB s t)]
 have h2 : ∀ x, x < s.length → sgn x * incB s (del s x) = 1 := fun x hx => by
  have h3 : incB s (del s x) = sgn x := by
   unfold incB
   rw [sumN_one hx fun i hi hne => if_neg fun e => ?_, if_pos rfl]
   rcases Nat.lt_or_gt_of_ne hne with h4 | h4
   ·exact asc_del_ne hasc h4 hx e
   ·exact asc_del_ne hasc h4 hi e.symm
  rw [h3]
  unfold sgn
  split <;> rfl
 rw [sumN_congr h2]
 have h5 : ∀ n : Nat, sumN (fun _ => (1 : Int)) n = n := fun n => by
  induction n with
  | zero => rfl
  | succ n ih => simp only [sumN]; rw [ih]; omega
 rw [h5]; omega
theorem few_idx {I : List Nat} {R : Nat} (hn : I.Nodup) (hR : ∀ a ∈ I, a < R) : I.length ≤ R := by
 have := nodup_le hn (r := List.range R) fun a ha => List.mem_range.2 (hR a ha)
 simpa using this
theorem bound_ec {l : List (List Int)} (h : IsCplx l) {k : Int} (hk0 : 0 ≤ k) (hk : k ≤ 4) : ecOk (boundM l k) = true := by
 have hB := bound_mat h k
 have hr : (boundM l k).rows = ((facesB l k).length : Nat) := rfl
 have hc : (boundM l k).cols = ((facesB l (k - 1)).length : Nat) := rfl
 have h24 := cplx_few h k
 have hC24 := cplx_few h (k - 1)
 have hind24 : ∀ I : List Nat, I.Nodup → (∀ a ∈ I, a < (facesB l k).length) → 24 < I.length → ∀ x, om (facesB l (k - 1)).length (I.map (cell (boundM l k).cells (facesB l (k - 1)).length)) x = 0 := fun I hn hR hl => by
  have := few_idx hn hR; omega
 have hk' : k = 0 ∨ k = 1 ∨ k = 2 ∨ k = 3 ∨ k = 4 := by omega
 rcases hk' with rfl | rfl | rfl | rfl | rfl
 ·have e0 : (facesB l (0 - 1)).length = 0 := by rw [show (0 : Int) - 1 = -1 by decide, cplx_none h]; rfl
  refine ec_total (s := 1) (rho := 24) hB hr hc (fun a ha => ?_) (by decide) hind24 (by decide)
  rw [e0]; simp [sq, sm]
 ·refine ec_total (s := 2) (rho := 24) hB hr hc (fun a ha => ?_) (by decide) hind24 (by decide)
  rw [row_sq h (by decide) ha]; decide
 ·obtain ⟨S, s1, s2, s3, s4⟩ := edges_le (faces_fam h 1)
  have s3' : ∀ s ∈ S, s ∈ facesB l (2 - 1) := s3
  have hS24 : (facesB l (2 - 1)).length - S.length ≤ 17 := by
   have s4' : 2 * (facesB l (2 - 1)).length ≤ S.length * (S.length + 1) := s4
   by_cases h7 : 7 ≤ S.length
   ·omega
   ·have : S.length = 0 ∨ S.length = 1 ∨ S.length = 2 ∨ S.length = 3 ∨ S.length = 4 ∨ S.length = 5 ∨ S.length = 6 := by omega
    rcases this with e | e | e | e | e | e | e <;> rw [e] at s4' ⊢ <;> omega
  refine ec_total (s := 3) (rho := 17) hB hr hc (fun a ha => ?_) (by decide) (fun I hn hR hl => rank_le h (by decide) s1 s2 s3' hR (by omega)) (by decide)
  rw [row_sq h (by decide) ha]; decide
 ·obtain ⟨S, s1, s2, s3, s4⟩ := tris_le (faces_fam h 2)
  have s3' : ∀ s ∈ S, s ∈ facesB l (3 - 1) := s3
  have hS24 : (facesB l (3 - 1)).length - S.length ≤ 13 := by
   rcases s4 with s4 | s4
   ·omega
   ·have s4' : (facesB l (3 - 1)).length ≤ triT S.length := s4
    by_cases h13 : 13 ≤ S.length
    ·omega
    ·have key : ∀ q, q < 13 → triT q ≤ q + 13 := by decide +kernel
     have := key S.length (by omega)
     omega
  refine ec_total (s := 4) (rho := 13) hB hr hc (fun a ha => ?_) (by decide) (fun I hn hR hl => rank_le h (by decide) s1 s2 s3' hR (by omega)) (by decide)
  rw [row_sq h (by decide) ha]; decide
 ·have e0 : (facesB l 4).length = 0 := by
   rw [List.length_eq_zero_iff]
   refine List.eq_nil_iff_forall_not_mem.2 fun s hs => ?_
   have h1 := h.1.1 s (mem_facesB.1 hs).1
   have h2 := (mem_facesB.1 hs).2
   unfold isSimpB at h1
   rw [decide_eq_true_eq] at h1
   have := h1.2.2
   omega
  exact ec_total (s := 1) (rho := 24) hB hr hc (fun a ha => by rw [e0] at ha; omega) (by decide) hind24 (by decide)
end Go.Proofs.Ytneeelebnnfbeaa
