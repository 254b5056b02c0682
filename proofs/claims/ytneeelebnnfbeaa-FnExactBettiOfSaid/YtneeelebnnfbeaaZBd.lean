/-
  Boundaries have no boundary: plain part.
-/
import Derived.Test.YtneeelebnnfbeaaZBoundary
import Derived.Test.YtneeelebnnfbeaaZPut
set_option maxHeartbeats 8000000
set_option maxRecDepth 100000
namespace Go.Proofs.Ytneeelebnnfbeaa
open Go.RowKit
def sumN (f : Nat → Int) : Nat → Int
 | 0 => 0
 | n + 1 => sumN f n + f n
theorem sumN_congr {f g : Nat → Int} : ∀ {n : Nat}, (∀ i, i < n → f i = g i) → sumN f n = sumN g n
 | 0, _ => rfl
 | n + 1, h => by simp only [sumN]; rw [sumN_congr fun i hi => h i (by omega), h n (by omega)]
theorem sumN_zero {f : Nat → Int} {n : Nat} (h : ∀ i, i < n → f i = 0) : sumN f n = 0 := by
 induction n with
 | zero => rfl
 | succ n ih => simp only [sumN]; rw [ih fun i hi => h i (by omega), h n (by omega)]; rfl
theorem sumN_add (f g : Nat → Int) : ∀ n, sumN (fun i => f i + g i) n = sumN f n + sumN g n
 | 0 => rfl
 | n + 1 => by simp only [sumN]; rw [sumN_add f g n]; omega
theorem sumN_mul (c : Int) (f : Nat → Int) : ∀ n, sumN (fun i => c * f i) n = c * sumN f n
 | 0 => by simp [sumN]
 | n + 1 => by simp only [sumN]; rw [sumN_mul c f n, Int.mul_add]
theorem sumN_mulr (c : Int) (f : Nat → Int) : ∀ n, sumN (fun i => f i * c) n = sumN f n * c
 | 0 => by simp [sumN]
 | n + 1 => by simp only [sumN]; rw [sumN_mulr c f n, Int.add_mul]
theorem sumN_swap (f : Nat → Nat → Int) (m : Nat) : ∀ n, sumN (fun i => sumN (f i) m) n = sumN (fun j => sumN (fun i => f i j) n) m
 | 0 => by simp only [sumN]; rw [sumN_zero (n := m) fun _ _ => rfl]
 | n + 1 => by
  simp only [sumN]
  rw [sumN_swap f m n, ← sumN_add]
theorem sumN_one {f : Nat → Int} {n j : Nat} (hj : j < n) (h : ∀ i, i < n → i ≠ j → f i = 0) : sumN f n = f j := by
 induction n with
 | zero => omega
 | succ n ih =>
  simp only [sumN]
  by_cases e : j = n
  ·subst e; rw [sumN_zero fun i hi => h i (by omega) (by omega)]; omega
  ·rw [ih (by omega) fun i hi => h i (by omega), h n (by omega) (by omega)]; omega
theorem sumN_cancel (G : Nat → Nat → Int) : ∀ n, (∀ x y, x ≤ y → y + 1 < n → G (y + 1) x = G x y) → sumN (fun x => sumN (fun y => sgn x * (sgn y * G x y)) (n - 1)) n = 0
 | 0, _ => rfl
 | 1, _ => by simp [sumN]
 | n + 2, h => by
  have ih := sumN_cancel G (n + 1) fun x y h1 h2 => h x y h1 (by omega)
  simp only [Nat.add_sub_cancel] at ih
  show sumN (fun x => sumN (fun y => sgn x * (sgn y * G x y)) (n + 1)) (n + 2) = 0
  have e1 : sumN (fun x => sumN (fun y => sgn x * (sgn y * G x y)) (n + 1)) (n + 1) = sumN (fun x => sumN (fun y => sgn x * (sgn y * G x y)) n) (n + 1) + sumN (fun x => sgn x * (sgn n * G x n)) (n + 1) := by
   rw [← sumN_add]; rfl
  have e2 : sumN (fun y => sgn (n + 1) * (sgn y * G (n + 1) y)) (n + 1) = sumN (fun x => -1 * (sgn x * (sgn n * G x n))) (n + 1) := sumN_congr fun x hx => by
   rw [h x n (by omega) (by omega), sgn_succ, Int.neg_mul, Int.neg_mul, Int.one_mul, Int.mul_left_comm]
  rw [show sumN (fun x => sumN (fun y => sgn x * (sgn y * G x y)) (n + 1)) (n + 2) = sumN (fun x => sumN (fun y => sgn x * (sgn y * G x y)) (n + 1)) (n + 1) + sumN (fun y => sgn (n + 1) * (sgn y * G (n + 1) y)) (n + 1) from rfl, e1, ih, e2, sumN_mul]
  omega
theorem del_get {s : List Int} {x j : Nat} (hx : x < s.length) : (del s x)[j]? = if j < x then s[j]? else s[j + 1]? := by
 unfold del
 by_cases h : j < x
 ·rw [if_pos h, List.getElem?_append_left (by simp; omega), List.getElem?_take_of_lt h]
 ·rw [if_neg h, List.getElem?_append_right (by simp; omega), List.getElem?_drop]
  congr 1; simp; omega
theorem del_del {s : List Int} {x y : Nat} (h : x ≤ y) (hy : y + 1 < s.length) : del (del s (y + 1)) x = del (del s x) y := by
 refine List.ext_getElem? fun j => ?_
 have hx : x < s.length := by omega
 have hl1 := del_len hy
 have hl2 := del_len hx
 rw [del_get (s := del s (y + 1)) (by omega), del_get (s := del s x) (by omega)]
 simp only [del_get hy, del_get hx]
 split <;> split <;> (try split) <;> (try split) <;> first | rfl | omega | (congr 1; omega)
theorem asc_del_ne {s : List Int} (hs : s.Pairwise (· < ·)) {x y : Nat} (hxy : x < y) (hy : y < s.length) : del s x ≠ del s y := fun e => by
 have h1 := congrArg (fun l => l[x]?) e
 rw [show (del s x)[x]? = _ from del_get (by omega), show (del s y)[x]? = _ from del_get hy, if_neg (by omega), if_pos hxy, List.getElem?_eq_getElem (by omega), List.getElem?_eq_getElem (by omega)] at h1
 have h2 := Option.some.inj h1
 have h3 := List.pairwise_iff_getElem.1 hs x (x + 1) (by omega) (by omega) (by omega)
 omega
def incB (s t : List Int) : Int := sumN (fun x => if del s x = t then sgn x else 0) s.length
theorem getD_set {l : List Int} {i j : Nat} {v : Int} (h : i < l.length) : (l.set i v).getD j 0 = if j = i then v else l.getD j 0 := by
 rw [List.getD_eq_getElem?_getD, List.getD_eq_getElem?_getD, List.getElem?_set]
 by_cases e : i = j
 ·subst e; simp [h]
 ·rw [if_neg e, if_neg fun e' => e e'.symm]
theorem findI_lt {l : List (List Int)} {s : List Int} (h : s ∈ l) : (findI l s).toNat < l.length ∧ l.getD (findI l s).toNat [] = s := by
 have h1 := findI_mem.2 h
 have h2 := (findI_lo l s).2
 refine ⟨by omega, ?_⟩
 obtain ⟨k, hk, hk1⟩ : ∃ k, s ∉ l.take k ∧ l[k]? = some s := by
  clear h1 h2
  induction l with
  | nil => cases h
  | cons x r ih =>
   by_cases e : x = s
   ·exact ⟨0, by simp, by simp [e]⟩
   ·obtain ⟨k, h1, h2⟩ := ih (by rcases List.mem_cons.1 h with h | h; exact (e h.symm).elim; exact h)
    exact ⟨k + 1, by simp; exact ⟨fun h => e h.symm, h1⟩, by simpa using h2⟩
 rw [findI_at hk hk1, Int.toNat_natCast, List.getD_eq_getElem?_getD, hk1]; rfl
theorem nodup_getD {l : List (List Int)} (h : l.Nodup) {i j : Nat} (hi : i < l.length) (hj : j < l.length) (e : l.getD i [] = l.getD j []) : i = j := by
 rw [List.getD_eq_getElem?_getD, List.getD_eq_getElem?_getD, List.getElem?_eq_getElem hi, List.getElem?_eq_getElem hj] at e
 simp only [Option.getD_some] at e
 have hp := List.pairwise_iff_getElem.1 h
 rcases Nat.lt_trichotomy i j with h1 | h1 | h1
 ·exact (hp i j hi hj h1 e).elim
 ·exact h1
 ·exact (hp j i hj hi h1 e.symm).elim
theorem mul_lt {i c j : Nat} (hj : j < c) {i' : Nat} (h : i < i') : i * c + j < i' * c := by
 have : (i + 1) * c ≤ i' * c := Nat.mul_le_mul_right _ h
 rw [Nat.add_mul] at this; omega
theorem bRow_at {k : Int} (hk : 0 < k) {C : List (List Int)} (hC : C.Nodup) {s : List Int} (hs : s.Pairwise (· < ·)) (hf : ∀ x, x < s.length → del s x ∈ C) {i : Nat} {cells : List Int} (hl : (i + 1) * C.length ≤ cells.length) (h0 : ∀ j, j < C.length → cells.getD (i * C.length + j) 0 = 0) :
  ∀ x, x ≤ s.length → (∀ j, j < C.length → (bRow k C s (i * C.length) x cells).getD (i * C.length + j) 0 = sumN (fun y => if del s y = C.getD j [] then sgn y else 0) x) ∧ ∀ i' j, i' ≠ i → j < C.length → (bRow k C s (i * C.length) x cells).getD (i' * C.length + j) 0 = cells.getD (i' * C.length + j) 0
 | 0, _ => ⟨fun j hj => by rw [bRow]; exact h0 j hj, fun _ _ _ _ => rfl⟩
 | x + 1, hx => by
  obtain ⟨ih1, ih2⟩ := bRow_at hk hC hs hf hl h0 x (by omega)
  obtain ⟨hp, hpe⟩ := findI_lt (hf x (by omega))
  have hlen : i * C.length + (findI C (del s x)).toNat < (bRow k C s (i * C.length) x cells).length := by rw [bRow_len, Nat.add_mul] at *; omega
  simp only [bRow, if_pos hk, sumN]
  constructor
  ·intro j hj
   rw [getD_set hlen]
   by_cases e : j = (findI C (del s x)).toNat
   ·rw [if_pos (by rw [e]), if_pos (by rw [e, hpe]), sumN_zero fun y hy => if_neg fun e2 => asc_del_ne hs hy (by omega) (by rw [e2, e, hpe])]; omega
   ·rw [if_neg (by omega), if_neg fun e2 => e (nodup_getD hC hj hp (by rw [hpe, e2])), ih1 j hj]; omega
  ·intro i' j hi hj
   rw [getD_set hlen, if_neg, ih2 i' j hi hj]
   intro e
   rcases Nat.lt_or_gt_of_ne hi with h | h
   ·have := mul_lt (c := C.length) hj h; omega
   ·have := mul_lt (c := C.length) hp h; omega
theorem bRows_at {k : Int} (hk : 0 < k) {R C : List (List Int)} (hC : C.Nodup) (hR : ∀ s ∈ R, s.Pairwise (· < ·) ∧ ∀ x, x < s.length → del s x ∈ C) :
  ∀ i, i ≤ R.length → ∀ i' j, i' < R.length → j < C.length → (bRows k R C i).getD (i' * C.length + j) 0 = if i' < i then incB (R.getD i' []) (C.getD j []) else 0
 | 0, _, i', j, _, _ => by
  rw [if_neg (by omega), bRows, List.getD_eq_getElem?_getD, List.getElem?_replicate]; split <;> rfl
 | i + 1, hi, i', j, hi', hj => by
  have ih := bRows_at hk hC hR i (by omega)
  have hm : R.getD i [] ∈ R := by rw [List.getD_eq_getElem?_getD, List.getElem?_eq_getElem (by omega)]; exact List.getElem_mem _
  have hb := bRow_at hk hC (hR _ hm).1 (hR _ hm).2 (i := i) (cells := bRows k R C i) (by rw [bRows_len]; exact Nat.mul_le_mul_right _ hi) (fun j hj => by rw [ih i j (by omega) hj, if_neg (by omega)]) (R.getD i []).length (Nat.le_refl _)
  rw [bRows]
  by_cases e : i' = i
  ·subst e; rw [hb.1 j hj, if_pos (by omega)]; rfl
  ·rw [hb.2 i' j e hj, ih i' j hi' hj]
   by_cases h : i' < i
   ·rw [if_pos h, if_pos (by omega)]
   ·rw [if_neg h, if_neg (by omega)]
theorem inc_sum {C : List (List Int)} (hC : C.Nodup) {s : List Int} (hf : ∀ x, x < s.length → del s x ∈ C) (g : List Int → Int) : sumN (fun j => incB s (C.getD j []) * g (C.getD j [])) C.length = sumN (fun x => sgn x * g (del s x)) s.length := by
 have e : ∀ j, j < C.length → incB s (C.getD j []) * g (C.getD j []) = sumN (fun x => if del s x = C.getD j [] then sgn x * g (C.getD j []) else 0) s.length := fun j _ => by
  unfold incB
  rw [← sumN_mulr]
  exact sumN_congr fun x _ => by split <;> simp
 rw [sumN_congr e, ← sumN_swap]
 refine sumN_congr fun x hx => ?_
 obtain ⟨hp, hpe⟩ := findI_lt (hf x hx)
 rw [sumN_one hp fun i hi hne => if_neg fun e => hne (nodup_getD hC hi hp (by rw [hpe, e])), hpe, if_pos rfl]
theorem inc_inc {C : List (List Int)} (hC : C.Nodup) {s : List Int} (hf : ∀ x, x < s.length → del s x ∈ C) (t : List Int) : sumN (fun j => incB s (C.getD j []) * incB (C.getD j []) t) C.length = 0 := by
 rw [inc_sum hC hf fun u => incB u t]
 have e : ∀ x, x < s.length → sgn x * incB (del s x) t = sumN (fun y => sgn x * (sgn y * if del (del s x) y = t then 1 else 0)) (s.length - 1) := fun x hx => by
  unfold incB
  rw [del_len hx, ← sumN_mul]
  exact sumN_congr fun y _ => by split <;> simp
 rw [sumN_congr e]
 exact sumN_cancel (fun x y => if del (del s x) y = t then 1 else 0) s.length fun x y h1 h2 => by simp only [del_del h1 h2]
theorem mRow_zero {a b : List Int} {n c i : Nat} : ∀ {j : Nat} {cells : List Int}, (∀ q, q < j → dotN a b n c i q n = 0) → (∀ y ∈ cells, y = 0) → ∀ y ∈ mRow a b n c i j cells, y = 0
 | 0, _, _, h => h
 | j + 1, cells, hd, h => by
  intro y hy
  unfold mRow at hy
  rcases List.mem_or_eq_of_mem_set hy with h1 | h1
  ·exact mRow_zero (fun q hq => hd q (by omega)) h y h1
  ·rw [h1]; exact hd j (by omega)
theorem mRows_zero {a b : List Int} {n c r : Nat} : ∀ {i : Nat}, (∀ p q, p < i → q < c → dotN a b n c p q n = 0) → ∀ y ∈ mRows a b n c r i, y = 0
 | 0, _ => fun y hy => by rw [mRows] at hy; exact (List.mem_replicate.1 hy).2
 | i + 1, h => by
  unfold mRows
  exact mRow_zero (fun q hq => h i q (by omega) hq) (mRows_zero fun p q hp hq => h p q (by omega) hq)
theorem faces_nodup {l : List (List Int)} (h : IsCplx l) (k : Int) : (facesB l k).Nodup := by
 unfold facesB
 exact List.Nodup.sublist List.filter_sublist (h.1.2.imp fun {a b} hab e => by subst e; rw [beforeB_irr] at hab; cases hab)
theorem simp_lt {s : List Int} (h : isSimpB s = true) : s.Pairwise (· < ·) := by unfold isSimpB at h; rw [decide_eq_true_eq] at h; exact h.1.2
theorem bound_at {l : List (List Int)} (h : IsCplx l) {k : Int} (hk : 0 < k) {i j : Nat} (hi : i < (facesB l k).length) (hj : j < (facesB l (k - 1)).length) :
  (boundM l k).cells.getD (i * (facesB l (k - 1)).length + j) 0 = incB ((facesB l k).getD i []) ((facesB l (k - 1)).getD j []) := by
 have := bRows_at hk (faces_nodup h (k - 1)) (R := facesB l k) (fun s hs => ⟨simp_lt (h.1.1 s (mem_facesB.1 hs).1), fun x hx => cplx_faces h hs hk hx⟩) (facesB l k).length (Nat.le_refl _) i j hi hj
 rw [if_pos hi] at this
 exact this
end Go.Proofs.Ytneeelebnnfbeaa
