/-
  Comparing simplices and finding one in a list: the program's functions (by slices.Equal, slices.Compare, slices.IndexFunc) and the reference's.
-/
import Derived.Test.YtneeelebnnfbeaaZInts
import Derived.Test.YtneeelebnnfbeaaZBase
set_option maxHeartbeats 8000000
set_option maxRecDepth 100000
namespace Go.Proofs.Ytneeelebnnfbeaa
open Go.RowKit
def lessL : List Int → List Int → Bool
 | x :: xs, y :: ys => if x = y then lessL xs ys else decide (x < y)
 | _, _ => false
theorem lessL_self (xs : List Int) : lessL xs xs = false := by
 induction xs with
 | nil => rfl
 | cons x xs ih => simp [lessL, ih]
theorem lessL_same : ∀ {k : Nat} {xs ys : List Int}, xs.take k = ys.take k → lessL xs ys = lessL (xs.drop k) (ys.drop k)
 | 0, _, _, _ => rfl
 | k + 1, [], ys, h => by
  have : ys = [] := by
   cases ys with
   | nil => rfl
   | cons y ys => simp at h
  subst this; simp
 | k + 1, x :: xs, [], h => by simp at h
 | k + 1, x :: xs, y :: ys, h => by
  simp only [List.take_succ_cons, List.cons.injEq] at h
  obtain ⟨rfl, h⟩ := h
  simp only [lessL, if_true, List.drop_succ_cons]
  exact lessL_same h
theorem lessL_at {xs ys : List Int} {k : Nat} {x y : Int} (h : xs.take k = ys.take k) (hx : xs[k]? = some x) (hy : ys[k]? = some y) (hne : ¬ x = y) : lessL xs ys = decide (x < y) := by
 rw [lessL_same h]
 obtain ⟨h1, rfl⟩ := List.getElem?_eq_some_iff.1 hx
 obtain ⟨h2, rfl⟩ := List.getElem?_eq_some_iff.1 hy
 rw [List.drop_eq_getElem_cons h1, List.drop_eq_getElem_cons h2]
 simp [lessL, hne]
theorem lessL_ne : ∀ {xs ys : List Int}, xs.length = ys.length → xs ≠ ys → lessL xs ys = !lessL ys xs
 | [], [], _, h => (h rfl).elim
 | [], y :: ys, h, _ => by simp at h
 | x :: xs, [], h, _ => by simp at h
 | x :: xs, y :: ys, hl, h => by
  simp only [List.length_cons, Nat.add_right_cancel_iff] at hl
  by_cases e : x = y
  ·subst e
   have : xs ≠ ys := fun e => h (by rw [e])
   simp [lessL, lessL_ne hl this]
  ·have e' : ¬ y = x := fun h => e h.symm
   simp only [lessL, e, e', if_false]
   rw [Bool.eq_iff_iff]; simp; omega
def beforeB (a b : List Int) : Bool := if a.length = b.length then lessL a b else decide (a.length < b.length)
def findI : List (List Int) → List Int → Int
 | [], _ => -1
 | x :: r, s => if x = s then 0 else (if findI r s < 0 then -1 else findI r s + 1)
theorem findI_lo (l : List (List Int)) (s : List Int) : -1 ≤ findI l s ∧ findI l s < l.length := by
 induction l with
 | nil => simp [findI]
 | cons x r ih => simp only [findI, List.length_cons]; split <;> (try split) <;> omega
theorem findI_at : ∀ {l : List (List Int)} {s : List Int} {k : Nat}, s ∉ l.take k → l[k]? = some s → findI l s = k
 | [], s, k, _, h => by simp at h
 | x :: r, s, 0, _, h => by simp at h; simp [findI, h]
 | x :: r, s, k + 1, h, hk => by
  simp only [List.take_succ_cons, List.mem_cons, not_or] at h
  simp at hk
  have ih := findI_at h.2 hk
  simp only [findI, if_neg (fun (e : x = s) => h.1 e.symm), ih]
  rw [if_neg (by omega)]; simp
theorem findI_no : ∀ {l : List (List Int)} {s : List Int}, s ∉ l → findI l s = -1
 | [], _, _ => rfl
 | x :: r, s, h => by
  simp only [List.mem_cons, not_or] at h
  simp only [findI, if_neg (fun (e : x = s) => h.1 e.symm), findI_no h.2]; simp
theorem findI_mem {l : List (List Int)} {s : List Int} : 0 ≤ findI l s ↔ s ∈ l := by
 induction l with
 | nil => simp [findI]
 | cons x r ih =>
  simp only [findI, List.mem_cons]
  by_cases e : x = s
  ·simp [e]
  ·rw [if_neg e]
   constructor
   ·intro h
    right
    apply ih.1
    split at h <;> omega
   ·rintro (h | h)
    ·exact (e h.symm).elim
    ·have := ih.2 h
     rw [if_neg (by omega)]; omega
theorem equalI_c {S T : Nat → Prop} (a b : Option Addr) (n m cap cap' : Nat) (xs ys : List Int) (w : World) (h : RdI w S a n cap xs) (h' : RdI w T b m cap' ys) (hn : n ≤ 2097152) :
  Calls Try.prog 55 #[.slice a n cap, .slice b m cap'] w fun e w' => e = .returned (.bool (sameI xs ys)) ∧ Qt w w' := by
 have hl := h.len
 have hl' := h'.len
 by_cases hnm : n = m
 ·subst hnm
  go_enter Try.func55, Try.ntmps55
  go_wp2
  go_loopw [13] (fun i wr => Qt w wr ∧ ∃ k : Nat, k ≤ n ∧ i = .int .i64 k ∧ xs.take k = ys.take k) (fun i _ => n - (intOf i).toNat)
  case atStart => exact ⟨Qt.refl _, 0, Nat.zero_le _, rfl, rfl⟩
  case round =>
   obtain ⟨hG, k, hk, rfl, he⟩ := hrel
   have He := Lib.hid he; clear he
   by_cases hlt : k < n
   ·obtain ⟨b1, off1, x, rfl, hx, hxr, _, hbw, hc⟩ := (h.grow hG.grow).at hlt
    obtain ⟨b2, off2, y, rfl, hy, hyr, _, hbw2, hc2⟩ := (h'.grow hG.grow).at hlt
    have Hx := Lib.hid hx; clear hx
    have Hy := Lib.hid hy; clear hy
    by_cases hxy : x = y
    ·subst hxy
     go_wp2
     go_quiet (fail)
     go_wp2
     go_roundw
     case rel => exact ⟨hG.drewN _, k + 1, by omega, by go_num, by rw [take_succ Hx.out, take_succ Hy.out, He.out]⟩
     case measure => simp [intOf]; omega
    ·have hxy' : (x == y) = false := by simpa using hxy
     go_wp2
     go_quiet (fail)
     go_wp2
     go_ret
     refine ⟨ret_bool (Eq.symm (decide_eq_false ?_)), hG.drewN _⟩
     intro e; subst e
     exact hxy (Option.some.inj (Hx.out.symm.trans Hy.out))
   ·go_wp2
    go_ret
    have : k = n := by omega
    subst this
    refine ⟨ret_bool (Eq.symm (decide_eq_true ?_)), hG⟩
    have := He.out
    rwa [take_all hl, take_all hl'] at this
 ·have hb : ((n : Int) == (m : Int)) = false := by simp; omega
  go_enter Try.func55, Try.ntmps55
  go_wp2
  go_ret
  refine ⟨ret_bool (Eq.symm (decide_eq_false ?_)), Qt.refl _⟩
  intro e; subst e; omega
theorem l20Less_c {S T : Nat → Prop} (a b : Option Addr) (n cap cap' : Nat) (xs ys : List Int) (w : World) (h : RdI w S a n cap xs) (h' : RdI w T b n cap' ys) (hn : n ≤ 2097152) :
  Calls Try.prog 44 #[.slice a n cap, .slice b n cap'] w fun e w' => e = .returned (.bool (lessL xs ys)) ∧ Qt w w' := by
 have hl := h.len
 have hl' := h'.len
 go_enter Try.func44, Try.ntmps44
 go_wp2
 go_loopw [5] (fun i wr => Qt w wr ∧ ∃ k : Nat, k ≤ n ∧ i = .int .i64 k ∧ xs.take k = ys.take k) (fun i _ => n - (intOf i).toNat)
 case atStart => exact ⟨Qt.refl _, 0, Nat.zero_le _, rfl, rfl⟩
 case round =>
  obtain ⟨hG, k, hk, rfl, he⟩ := hrel
  have He := Lib.hid he; clear he
  by_cases hlt : k < n
  ·obtain ⟨b1, off1, x, rfl, hx, hxr, _, hbw, hc⟩ := (h.grow hG.grow).at hlt
   obtain ⟨b2, off2, y, rfl, hy, hyr, _, hbw2, hc2⟩ := (h'.grow hG.grow).at hlt
   have Hx := Lib.hid hx; clear hx
   have Hy := Lib.hid hy; clear hy
   by_cases hxy : x = y
   ·subst hxy
    go_wp2
    go_quiet (fail)
    go_wp2
    go_roundw
    case rel => exact ⟨hG.drewN _, k + 1, by omega, by go_num, by rw [take_succ Hx.out, take_succ Hy.out, He.out]⟩
    case measure => simp [intOf]; omega
   ·have hxy' : (x == y) = false := by simpa using hxy
    go_wp2
    go_quiet (fail)
    go_wp2
    go_quiet (fail)
    go_wp2
    go_ret
    exact ⟨ret_bool (lessL_at He.out Hx.out Hy.out hxy).symm, (hG.drewN _).drewN _⟩
  ·go_wp2
   go_ret
   have : k = n := by omega
   subst this
   refine ⟨ret_bool ?_, hG⟩
   have := He.out
   rw [take_all hl, take_all hl'] at this
   rw [this, lessL_self]
theorem l32Before_c {S T : Nat → Prop} (a b : Option Addr) (n m cap cap' : Nat) (xs ys : List Int) (w : World) (h : RdI w S a n cap xs) (h' : RdI w T b m cap' ys) (hn : n ≤ 2097152) (hm : m ≤ 2097152) :
  Calls Try.prog 26 #[.slice a n cap, .slice b m cap'] w fun e w' => e = .returned (.bool (beforeB xs ys)) ∧ Qt w w' := by
 have hl := h.len
 have hl' := h'.len
 by_cases hnm : n = m
 ·subst hnm
  go_enter Try.func26, Try.ntmps26
  go_wp2_with (go_at_call 44; refine (l20Less_c _ _ _ _ _ xs ys _ h h' hn).mono ?_; rintro e w' ⟨rfl, hQ⟩)
  go_ret
  exact ⟨ret_bool (by unfold beforeB; rw [if_pos (by omega)]), hQ⟩
 ·have hb : ((n : Int) == (m : Int)) = false := by simp; omega
  go_enter Try.func26, Try.ntmps26
  go_wp2
  go_ret
  refine ⟨ret_bool ?_, Qt.refl _⟩
  unfold beforeB; rw [if_neg (by omega), hl, hl']
  try (rw [Bool.eq_iff_iff]; simp)
theorem sameI_less {xs ys : List Int} (hl : xs.length = ys.length) : sameI xs ys = (!lessL xs ys && !lessL ys xs) := by
 by_cases e : xs = ys
 ·subst e; simp [sameI, lessL_self]
 ·rw [lessL_ne hl e]; simp [sameI, e]
theorem l32Same_c {S T : Nat → Prop} (a b : Option Addr) (n m cap cap' : Nat) (xs ys : List Int) (w : World) (h : RdI w S a n cap xs) (h' : RdI w T b m cap' ys) (hn : n ≤ 2097152) (hm : m ≤ 2097152) :
  Calls Try.prog 27 #[.slice a n cap, .slice b m cap'] w fun e w' => e = .returned (.bool (sameI xs ys)) ∧ Qt w w' := by
 have hl := h.len
 have hl' := h'.len
 by_cases hnm : n = m
 ·subst hnm
  have hs := Lib.hid (sameI_less (hl.trans hl'.symm))
  cases h1 : lessL xs ys with
  | true =>
   have H1 := Lib.hid h1; clear h1
   go_enter Try.func27, Try.ntmps27
   go_wp2_with fail
   refine (l20Less_c _ _ _ _ _ xs ys _ h h' hn).mono ?_
   rintro e w1 ⟨rfl, hQ⟩
   rw [H1.out]
   go_wp2
   go_ret
   exact ⟨ret_bool (by rw [hs.out, H1.out]; rfl), hQ⟩
  | false =>
   have H1 := Lib.hid h1; clear h1
   go_enter Try.func27, Try.ntmps27
   go_wp2_with fail
   refine (l20Less_c _ _ _ _ _ xs ys _ h h' hn).mono ?_
   rintro e w1 ⟨rfl, hQ⟩
   rw [H1.out]
   go_wp2_with fail
   refine (l20Less_c _ _ _ _ _ ys xs _ (h'.grow hQ.grow) (h.grow hQ.grow) hn).mono ?_
   rintro e w2 ⟨rfl, hQ2⟩
   go_wp2
   go_ret
   exact ⟨ret_bool (by rw [hs.out, H1.out]; rfl), hQ.trans hQ2⟩
 ·have hb : ((n : Int) == (m : Int)) = false := by simp; omega
  go_enter Try.func27, Try.ntmps27
  go_wp2
  go_ret
  refine ⟨ret_bool (Eq.symm (decide_eq_false ?_)), Qt.refl _⟩
  intro e; subst e; omega
theorem l32Find_c {S T : Nat → Prop} (a b : Option Addr) (n m cap cap' : Nat) (l : List (List Int)) (s : List Int) (w : World) (h : RdII w S a n cap l) (h' : RdI w T b m cap' s) (hn : n ≤ 2097152) (ht : total l ≤ 2097152) (hm : m ≤ 2097152) :
  Calls Try.prog 20 #[.slice a n cap, .slice b m cap'] w fun e w' => e = .returned (.int .i64 (findI l s)) ∧ Qt w w' := by
 have hl := h.len
 go_enter Try.func20, Try.ntmps20
 go_wp2
 go_loopw [5] (fun i wr => Qt w wr ∧ ∃ k : Nat, k ≤ n ∧ i = .int .i64 k ∧ s ∉ l.take k) (fun i _ => n - (intOf i).toNat)
 case atStart => exact ⟨Qt.refl _, 0, Nat.zero_le _, rfl, by simp⟩
 case round =>
  obtain ⟨hG, k, hk, rfl, he⟩ := hrel
  have He := Lib.hid he; clear he
  by_cases hlt : k < n
  ·obtain ⟨b1, off1, xs, a1, c1, rfl, hx, _, hbw, hc, hrd⟩ := (h.grow hG.grow).at hlt
   have hxl : xs.length ≤ 2097152 := by have := total_at hx; omega
   have Hx := Lib.hid hx; clear hx
   cases hxy : sameI xs s with
   | true =>
    have Hxy := Lib.hid hxy; clear hxy
    go_wp2_with (go_at_call 27; refine (l32Same_c _ _ _ _ _ _ xs s _ hrd (h'.grow hG.grow) hxl hm).mono ?_; rintro e w' ⟨rfl, hQ⟩; rw [Hxy.out])
    go_ret
    refine ⟨ret_int ?_, hG.trans hQ⟩
    have e : xs = s := by have := Hxy.out; unfold sameI at this; simpa using this
    rw [findI_at He.out (by rw [Hx.out, e])]
   | false =>
    have Hxy := Lib.hid hxy; clear hxy
    go_wp2_with (go_at_call 27; refine (l32Same_c _ _ _ _ _ _ xs s _ hrd (h'.grow hG.grow) hxl hm).mono ?_; rintro e w' ⟨rfl, hQ⟩; rw [Hxy.out])
    go_roundw
    case rel =>
     refine ⟨hG.trans hQ, k + 1, by omega, by go_num, ?_⟩
     rw [take_succ Hx.out, List.mem_append, List.mem_singleton]
     rintro (h1 | h1)
     ·exact He.out h1
     ·have := Hxy.out; unfold sameI at this; simp [h1] at this
    case measure => simp [intOf]; omega
  ·go_wp2
   go_ret
   have : k = n := by omega
   subst this
   refine ⟨ret_int ?_, hG⟩
   have := He.out
   rw [take_all hl] at this
   rw [findI_no this]
theorem indexClosure_c {S T : Nat → Prop} (a b : Option Addr) (n m cap cap' g : Nat) (xs s : List Int) (w : World) (h : RdI w S a n cap xs) (hg : w.cell? ⟨g, 0, none⟩ = some (.slice b m cap')) (h' : RdI w T b m cap' s) (hn : n ≤ 2097152) :
  Calls Try.prog 54 #[.slice a n cap, .pointer (some ⟨g, 0, none⟩)] w fun e w' => e = .returned (.bool (sameI xs s)) ∧ Qt w w' := by
 go_enter Try.func54, Try.ntmps54
 go_wp2_with (go_at_call 55; refine (equalI_c _ _ _ _ _ _ xs s _ h h' hn).mono ?_; rintro e w' ⟨rfl, hQ⟩)
 go_ret
 exact ⟨rfl, hQ⟩
theorem indexFunc_c {S T : Nat → Prop} (a b : Option Addr) (n m cap cap' g : Nat) (l : List (List Int)) (s : List Int) (w : World) (h : RdII w S a n cap l) (hg : w.cell? ⟨g, 0, none⟩ = some (.slice b m cap')) (h' : RdI w T b m cap' s) (hn : n ≤ 2097152) (ht : total l ≤ 2097152) :
  Calls Try.prog 53 #[.slice a n cap, .func (.func 54) #[] #[.pointer (some ⟨g, 0, none⟩)]] w fun e w' => e = .returned (.int .i64 (findI l s)) ∧ Qt w w' := by
 have hl := h.len
 go_enter Try.func53, Try.ntmps53
 go_wp2
 go_loopw [8] (fun i wr => Qt w wr ∧ ∃ k : Nat, k ≤ n ∧ i = .int .i64 k ∧ s ∉ l.take k) (fun i _ => n - (intOf i).toNat)
 case atStart => exact ⟨Qt.refl _, 0, Nat.zero_le _, rfl, by simp⟩
 case round =>
  obtain ⟨hG, k, hk, rfl, he⟩ := hrel
  have He := Lib.hid he; clear he
  by_cases hlt : k < n
  ·obtain ⟨b1, off1, xs, a1, c1, rfl, hx, _, hbw, hc, hrd⟩ := (h.grow hG.grow).at hlt
   have hxl : xs.length ≤ 2097152 := by have := total_at hx; omega
   have Hx := Lib.hid hx; clear hx
   cases hxy : sameI xs s with
   | true =>
    have Hxy := Lib.hid hxy; clear hxy
    go_wp2_with fail
    refine (indexClosure_c _ _ _ _ _ _ g xs s _ hrd (hG.grow.cell hg) (h'.grow hG.grow) hxl).mono ?_
    rintro e w' ⟨rfl, hQ⟩
    rw [Hxy.out]
    go_wp2
    go_ret
    refine ⟨ret_int ?_, hG.trans hQ⟩
    have e : xs = s := by have := Hxy.out; unfold sameI at this; simpa using this
    rw [findI_at He.out (by rw [Hx.out, e])]
   | false =>
    have Hxy := Lib.hid hxy; clear hxy
    go_wp2_with fail
    refine (indexClosure_c _ _ _ _ _ _ g xs s _ hrd (hG.grow.cell hg) (h'.grow hG.grow) hxl).mono ?_
    rintro e w' ⟨rfl, hQ⟩
    rw [Hxy.out]
    go_wp2
    go_roundw
    case rel =>
     refine ⟨hG.trans hQ, k + 1, by omega, by go_num, ?_⟩
     rw [take_succ Hx.out, List.mem_append, List.mem_singleton]
     rintro (h1 | h1)
     ·exact He.out h1
     ·have := Hxy.out; unfold sameI at this; simp [h1] at this
    case measure => simp [intOf]; omega
  ·go_wp2
   go_ret
   have : k = n := by omega
   subst this
   refine ⟨ret_int ?_, hG⟩
   have := He.out
   rw [take_all hl] at this
   rw [findI_no this]
theorem indexOfSimplex_c {S T : Nat → Prop} (a b : Option Addr) (n m cap cap' : Nat) (l : List (List Int)) (s : List Int) (w : World) (h : RdII w S a n cap l) (h' : RdI w T b m cap' s) (hn : n ≤ 2097152) (ht : total l ≤ 2097152) :
  Calls Try.prog 34 #[.slice a n cap, .slice b m cap'] w fun e w' => e = .returned (.int .i64 (findI l s)) ∧ Grow w w' := by
 have hmf : ∀ (fn : Fn) (first cap : Array Value) (w : World), (Instr.makeFunc fn first cap).run Try.prog w = .ok (.func fn first cap) w := fun _ _ _ _ => rfl
 have hG1 : Grow w (w.alloc (.cells #[.slice b m cap'] 30)) := (Grow.refl w).alloc _ _
 have hcell : (w.alloc (.cells #[.slice b m cap'] 30)).cell? ⟨w.heap.size, 0, none⟩ = some (.slice b m cap') := World.cell?_alloc_at _ _ _ _ rfl
 go_enter Try.func34, Try.ntmps34
 go_wp2_with fail
 refine (indexFunc_c _ _ _ _ _ _ _ l s _ (h.grow hG1) hcell (h'.grow hG1) hn ht).mono ?_
 rintro e w' ⟨rfl, hQ⟩
 go_wp2
 go_ret
 exact ⟨rfl, hG1.trans hQ.grow⟩
def cmpL : List Int → List Int → Int
 | x :: xs, y :: ys => if x = y then cmpL xs ys else if x < y then -1 else 1
 | [], _ :: _ => -1
 | _ :: _, [] => 1
 | [], [] => 0
theorem cmpL_same : ∀ {k : Nat} {xs ys : List Int}, xs.take k = ys.take k → k ≤ ys.length → cmpL xs ys = cmpL (xs.drop k) (ys.drop k)
 | 0, _, _, _, _ => rfl
 | k + 1, [], ys, h, hk => by
  cases ys with
  | nil => rfl
  | cons y ys => simp at h
 | k + 1, x :: xs, [], h, hk => by simp at h
 | k + 1, x :: xs, y :: ys, h, hk => by
  simp only [List.take_succ_cons, List.cons.injEq] at h
  obtain ⟨rfl, h⟩ := h
  simp only [cmpL, if_true, List.drop_succ_cons]
  exact cmpL_same h (by simpa using hk)
theorem cmpL_less : ∀ {xs ys : List Int}, xs.length = ys.length → (cmpL xs ys < 0 ↔ lessL xs ys = true)
 | [], [], _ => by simp [cmpL, lessL]
 | [], y :: ys, h => by simp at h
 | x :: xs, [], h => by simp at h
 | x :: xs, y :: ys, h => by
  simp only [List.length_cons, Nat.add_right_cancel_iff] at h
  simp only [cmpL, lessL]
  by_cases e : x = y
  ·rw [if_pos e, if_pos e]; exact cmpL_less h
  ·rw [if_neg e, if_neg e]
   by_cases e2 : x < y <;> simp [e2]
def cmpS (a b : List Int) : Int := if a.length = b.length then cmpL a b else a.length - b.length
theorem cmpS_before (a b : List Int) : cmpS a b < 0 ↔ beforeB a b = true := by
 unfold cmpS beforeB
 by_cases h : a.length = b.length
 ·rw [if_pos h, if_pos h]; exact cmpL_less h
 ·rw [if_neg h, if_neg h]; simp; omega
def cmpI (x y : Int) : Int := if x < y then -1 else if y < x then 1 else 0
theorem cmpI_c (x y : Int) (w : World) : Calls Try.prog 65 #[.int .i64 x, .int .i64 y] w fun e w' => e = .returned (.int .i64 (cmpI x y)) ∧ w = w' := by
 have e1 : (x == x) = true := by simp
 have e2 : (y == y) = true := by simp
 go_enter Try.func65, Try.ntmps65
 go_wp2
 all_goals (go_ret; exact ⟨ret_int (by unfold cmpI; first | rw [if_pos (by omega)] | rw [if_neg (by omega), if_pos (by omega)] | rw [if_neg (by omega), if_neg (by omega)]), rfl⟩)
theorem compareI_c {S T : Nat → Prop} (a b : Option Addr) (n m cap cap' : Nat) (xs ys : List Int) (w : World) (h : RdI w S a n cap xs) (h' : RdI w T b m cap' ys) (hn : n ≤ 2097152) (_hm : m ≤ 2097152) :
  Calls Try.prog 62 #[.slice a n cap, .slice b m cap'] w fun e w' => e = .returned (.int .i64 (cmpL xs ys)) ∧ w = w' := by
 have hl := h.len
 have hl' := h'.len
 go_enter Try.func62, Try.ntmps62
 go_wp2
 go_loop [11] (fun i => ∃ k : Nat, k ≤ n ∧ k ≤ m ∧ i = .int .i64 k ∧ xs.take k = ys.take k) (fun i => n - (intOf i).toNat)
 case atStart => exact ⟨0, Nat.zero_le _, Nat.zero_le _, rfl, rfl⟩
 case round =>
  obtain ⟨k, hk, hkm, rfl, he⟩ := hrel
  have He := Lib.hid he; clear he
  by_cases hlt : k < n
  ·obtain ⟨b1, off1, x, rfl, hx, hxr, _, hbw, hc⟩ := h.at hlt
   have hdx : xs.drop k = x :: xs.drop (k + 1) := by obtain ⟨h1, rfl⟩ := List.getElem?_eq_some_iff.1 hx; exact List.drop_eq_getElem_cons h1
   have Hdx := Lib.hid hdx; clear hdx
   have Hx := Lib.hid hx; clear hx
   by_cases hlt2 : k < m
   ·obtain ⟨b2, off2, y, rfl, hy, hyr, _, hbw2, hc2⟩ := h'.at hlt2
    have hdy : ys.drop k = y :: ys.drop (k + 1) := by obtain ⟨h1, rfl⟩ := List.getElem?_eq_some_iff.1 hy; exact List.drop_eq_getElem_cons h1
    have Hdy := Lib.hid hdy; clear hdy
    have Hy := Lib.hid hy; clear hy
    have hs := Lib.hid (cmpL_same He.out (by omega))
    by_cases hxy : x = y
    ·subst hxy
     have hz : cmpI x x = 0 := by simp [cmpI]
     go_wp2_with (go_at_call 65; refine (cmpI_c _ _ _).mono ?_; rintro e w' ⟨rfl, rfl⟩; rw [hz])
     go_round
     case rel => exact ⟨k + 1, by omega, by omega, by go_num, by rw [take_succ Hx.out, take_succ Hy.out, He.out]⟩
     case measure => simp [intOf]; omega
    ·by_cases hlt3 : x < y
     ·have hz : cmpI x y = -1 := by simp [cmpI, hlt3]
      go_wp2_with (go_at_call 65; refine (cmpI_c _ _ _).mono ?_; rintro e w' ⟨rfl, rfl⟩; rw [hz])
      go_ret
      exact ⟨ret_int (by rw [hs.out, Hdx.out, Hdy.out]; simp only [cmpL]; rw [if_neg hxy, if_pos hlt3]), rfl⟩
     ·have hz : cmpI x y = 1 := by unfold cmpI; rw [if_neg hlt3, if_pos (by omega)]
      have hlt4 := Lib.hid hlt3; clear hlt3
      go_wp2_with (go_at_call 65; refine (cmpI_c _ _ _).mono ?_; rintro e w' ⟨rfl, rfl⟩; rw [hz])
      go_ret
      exact ⟨ret_int (by rw [hs.out, Hdx.out, Hdy.out]; simp only [cmpL]; rw [if_neg hxy, if_neg (by have := hlt4.out; omega)]), rfl⟩
   ·go_wp2
    go_ret
    refine ⟨ret_int ?_, rfl⟩
    have hyd : ys.drop k = [] := by rw [List.drop_eq_nil_iff]; omega
    rw [cmpL_same He.out (by omega), Hdx.out, hyd]; rfl
  ·have : k = n := by omega
   subst this
   by_cases hlt2 : k < m
   ·go_wp2
    go_ret
    refine ⟨ret_int ?_, rfl⟩
    have hxd : xs.drop k = [] := by rw [List.drop_eq_nil_iff]; omega
    rw [cmpL_same He.out (by omega), hxd, List.drop_eq_getElem_cons (show k < ys.length by omega)]; rfl
   ·go_wp2
    go_ret
    refine ⟨ret_int ?_, rfl⟩
    have hxd : xs.drop k = [] := by rw [List.drop_eq_nil_iff]; omega
    have hyd : ys.drop k = [] := by rw [List.drop_eq_nil_iff]; omega
    rw [cmpL_same He.out (by omega), hxd, hyd]; rfl
theorem compareSimplices_c {S T : Nat → Prop} (a b : Option Addr) (n m cap cap' : Nat) (xs ys : List Int) (w : World) (h : RdI w S a n cap xs) (h' : RdI w T b m cap' ys) (hn : n ≤ 2097152) (hm : m ≤ 2097152) :
  Calls Try.prog 52 #[.slice a n cap, .slice b m cap'] w fun e w' => e = .returned (.int .i64 (cmpS xs ys)) ∧ w = w' := by
 have hl := h.len
 have hl' := h'.len
 by_cases hnm : n = m
 ·subst hnm
  go_enter Try.func52, Try.ntmps52
  go_wp2_with (go_at_call 62; refine (compareI_c _ _ _ _ _ _ xs ys _ h h' hn hm).mono ?_; rintro e w' ⟨rfl, rfl⟩)
  go_ret
  exact ⟨ret_int (by unfold cmpS; rw [if_pos (by omega)]), rfl⟩
 ·have hb : ((n : Int) == (m : Int)) = false := by simp; omega
  go_enter Try.func52, Try.ntmps52
  go_wp2
  go_ret
  refine ⟨ret_int ?_, rfl⟩
  unfold cmpS; rw [if_neg (by omega), hl, hl']
end Go.Proofs.Ytneeelebnnfbeaa

namespace Go.Proofs.Ytneeelebnnfbeaa
open Go.RowKit
def simpTo (xs : List Int) (k : Nat) : Prop := ∀ j x, j < k → xs[j]? = some x → (0 ≤ x ∧ x ≤ 9) ∧ ∀ y, 0 < j → xs[j - 1]? = some y → y < x
def isSimpB (xs : List Int) : Bool := decide (((∀ x ∈ xs, 0 ≤ x ∧ x ≤ 9) ∧ xs.Pairwise (· < ·)) ∧ (1 ≤ xs.length ∧ xs.length ≤ 4))
theorem simpTo_all {xs : List Int} : simpTo xs xs.length ↔ (∀ x ∈ xs, 0 ≤ x ∧ x ≤ 9) ∧ xs.Pairwise (· < ·) := by
 constructor
 ·intro h
  refine ⟨fun x hx => ?_, List.pairwise_iff_getElem.2 fun i j hi hj hij => ?_⟩
  ·obtain ⟨j, hj, rfl⟩ := List.mem_iff_getElem.1 hx
   exact (h j _ hj (List.getElem?_eq_getElem hj)).1
  ·induction j with
   | zero => omega
   | succ j ih =>
    have h1 := (h (j + 1) _ hj (List.getElem?_eq_getElem hj)).2 xs[j] (by omega) (List.getElem?_eq_getElem (by omega))
    by_cases e : i = j
    ·subst e; exact h1
    ·have := ih (by omega) (by omega); omega
 ·rintro ⟨h1, h2⟩ j x hj hx
  obtain ⟨hj', rfl⟩ := List.getElem?_eq_some_iff.1 hx
  refine ⟨h1 _ (List.getElem_mem hj'), fun y h0 hy => ?_⟩
  obtain ⟨hj2, rfl⟩ := List.getElem?_eq_some_iff.1 hy
  exact List.pairwise_iff_getElem.1 h2 _ _ hj2 hj' (by omega)
theorem simpTo_succ {xs : List Int} {k : Nat} {x : Int} (h : simpTo xs k) (hx : xs[k]? = some x) (h1 : 0 ≤ x) (h2 : x ≤ 9) (h3 : ∀ y, 0 < k → xs[k - 1]? = some y → y < x) : simpTo xs (k + 1) := fun j z hj hz => by
 by_cases e : j = k
 ·subst e
  obtain rfl : x = z := Option.some.inj (hx.symm.trans hz)
  exact ⟨⟨h1, h2⟩, h3⟩
 ·exact h j z (by omega) hz
theorem isSimpB_yes {xs : List Int} {n : Nat} (hl : xs.length = n) (h : simpTo xs n) : isSimpB xs = inB n 1 4 := by
 subst hl
 unfold isSimpB inB
 have := simpTo_all.1 h
 rw [Bool.eq_iff_iff, decide_eq_true_eq, Bool.and_eq_true, decide_eq_true_eq, decide_eq_true_eq]
 exact ⟨fun h => by omega, fun h => ⟨this, by omega⟩⟩
theorem isSimpB_no {xs : List Int} {k : Nat} {x : Int} (hk : xs[k]? = some x) (h : (x < 0 ∨ 9 < x) ∨ ∃ y, 0 < k ∧ xs[k - 1]? = some y ∧ x ≤ y) : isSimpB xs = false := by
 unfold isSimpB
 rw [decide_eq_false]
 rintro ⟨h1, _⟩
 obtain ⟨hk', _⟩ := List.getElem?_eq_some_iff.1 hk
 have h2 := simpTo_all.2 h1 k x hk' hk
 rcases h with h | ⟨y, h0, hy, hle⟩
 ·omega
 ·have := h2.2 y h0 hy; omega
theorem specIsSimplex_c {S : Nat → Prop} (a : Option Addr) (n cap : Nat) (xs : List Int) (w : World) (h : RdI w S a n cap xs) (hn : n ≤ 1048576) :
  Calls Try.prog 25 #[.slice a n cap] w fun e w' => e = .returned (.bool (isSimpB xs)) ∧ Qt w w' := by
 have hl := h.len
 go_enter Try.func25, Try.ntmps25
 go_wp2
 go_loopw [3] (fun i wr => Qt w wr ∧ ∃ k : Nat, k ≤ n ∧ i = .int .i64 k ∧ simpTo xs k) (fun i _ => n - (intOf i).toNat)
 case atStart => exact ⟨Qt.refl _, 0, Nat.zero_le _, rfl, fun _ _ h => by omega⟩
 case round =>
  obtain ⟨hG, k, hk, rfl, he⟩ := hrel
  have He := Lib.hid he; clear he
  by_cases hlt : k < n
  ·obtain ⟨b, off, x, rfl, hx, hxr, _, hbw, hc⟩ := (h.grow hG.grow).at hlt
   have Hx := Lib.hid hx; clear hx
   by_cases h1 : 0 ≤ x ∧ x ≤ 9
   ·have hi : inB x 0 9 = true := by simp [inB, h1]
    obtain ⟨h1a, h1b⟩ := h1
    by_cases hk0 : 0 < k
    ·obtain ⟨b2, off2, y, he2, hy, hyr, _, _, hc2⟩ := (h.grow hG.grow).at (k := k - 1) (by omega)
     obtain ⟨rfl, rfl⟩ : b = b2 ∧ off = off2 := by simpa using he2
     have Hy := Lib.hid hy; clear hy he2
     by_cases hxy : x ≤ y
     ·go_wp2
      go_quiet ((go_at_call 11; exact Calls.quiet_of_same (l1In_q hi _)))
      go_wp2
      go_ret
      exact ⟨ret_bool (isSimpB_no Hx.out (.inr ⟨y, hk0, Hy.out, hxy⟩)).symm, hG.drewN _⟩
     ·go_wp2
      go_quiet ((go_at_call 11; exact Calls.quiet_of_same (l1In_q hi _)))
      go_wp2
      go_roundw
      case rel => exact ⟨hG.drewN _, k + 1, by omega, by go_num, simpTo_succ He.out Hx.out h1a h1b (fun z _ hz => by have := Option.some.inj (Hy.out.symm.trans hz); omega)⟩
      case measure => simp [intOf]; omega
    ·go_wp2
     go_quiet ((go_at_call 11; exact Calls.quiet_of_same (l1In_q hi _)))
     go_wp2
     go_roundw
     case rel => exact ⟨hG.drewN _, k + 1, by omega, by go_num, simpTo_succ He.out Hx.out h1a h1b (fun z hz => by omega)⟩
     case measure => simp [intOf]; omega
   ·have hi : inB x 0 9 = false := by simp [inB]; omega
    go_wp2
    go_quiet ((go_at_call 11; exact Calls.quiet_of_same (l1In_q hi _)))
    go_wp2
    go_ret
    exact ⟨ret_bool (isSimpB_no Hx.out (.inl (by omega))).symm, hG.drewN _⟩
  ·have : k = n := by omega
   subst this
   go_wp2_with (go_at_call 11; refine (l1In_c _ _ _ _).mono ?_; rintro e w' ⟨rfl, rfl⟩)
   go_ret
   exact ⟨ret_bool (isSimpB_yes hl He.out).symm, hG⟩
theorem implIsSimplex_c {S : Nat → Prop} (a : Option Addr) (n cap : Nat) (xs : List Int) (w : World) (h : RdI w S a n cap xs) (hn : n ≤ 1048576) :
  Calls Try.prog 51 #[.slice a n cap] w fun e w' => e = .returned (.bool (isSimpB xs)) ∧ Qt w w' := by
 have hl := h.len
 go_enter Try.func51, Try.ntmps51
 go_wp2
 go_loopw [7] (fun i wr => Qt w wr ∧ ∃ k : Nat, k ≤ n ∧ i = .int .i64 k ∧ simpTo xs k) (fun i _ => n - (intOf i).toNat)
 case atStart => exact ⟨Qt.refl _, 0, Nat.zero_le _, rfl, fun _ _ h => by omega⟩
 case round =>
  obtain ⟨hG, k, hk, rfl, he⟩ := hrel
  have He := Lib.hid he; clear he
  by_cases hlt : k < n
  ·obtain ⟨b, off, x, rfl, hx, hxr, _, hbw, hc⟩ := (h.grow hG.grow).at hlt
   have Hx := Lib.hid hx; clear hx
   by_cases h1 : x < 0
   ·go_wp2
    all_goals first
     | (go_ret; exact ⟨ret_bool (isSimpB_no Hx.out (.inl (by omega))).symm, hG⟩)
   ·by_cases h2 : 9 < x
    ·go_wp2
     all_goals first
      | (go_ret; exact ⟨ret_bool (isSimpB_no Hx.out (.inl (by omega))).symm, hG⟩)
    ·by_cases hk0 : 0 < k
     ·obtain ⟨b2, off2, y, he2, hy, hyr, _, _, hc2⟩ := (h.grow hG.grow).at (k := k - 1) (by omega)
      obtain ⟨rfl, rfl⟩ : b = b2 ∧ off = off2 := by simpa using he2
      have Hy := Lib.hid hy; clear hy he2
      by_cases hxy : x ≤ y
      ·go_wp2
       go_ret
       exact ⟨ret_bool (isSimpB_no Hx.out (.inr ⟨y, hk0, Hy.out, hxy⟩)).symm, hG⟩
      ·go_wp2
       go_roundw
       case rel => exact ⟨hG, k + 1, by omega, by go_num, simpTo_succ He.out Hx.out (by omega) (by omega) (fun z _ hz => by have := Option.some.inj (Hy.out.symm.trans hz); omega)⟩
       case measure => simp [intOf]; omega
     ·go_wp2
      go_roundw
      case rel => exact ⟨hG, k + 1, by omega, by go_num, simpTo_succ He.out Hx.out (by omega) (by omega) (fun z hz => by omega)⟩
      case measure => simp [intOf]; omega
  ·have : k = n := by omega
   subst this
   by_cases h1 : 1 ≤ k
   ·go_wp2
    go_ret
    refine ⟨ret_bool ?_, hG⟩
    rw [isSimpB_yes hl He.out]; simp [inB]; omega
   ·go_wp2
    go_ret
    refine ⟨ret_bool ?_, hG⟩
    rw [isSimpB_yes hl He.out]; simp [inB]; omega
end Go.Proofs.Ytneeelebnnfbeaa

namespace Go.Proofs.Ytneeelebnnfbeaa
open Go.RowKit
def del (xs : List Int) (k : Nat) : List Int := xs.take k ++ xs.drop (k + 1)
theorem del_len {xs : List Int} {k : Nat} (h : k < xs.length) : (del xs k).length = xs.length - 1 := by unfold del; simp; omega
theorem without_c {S : Nat → Prop} (a : Option Addr) (n cap k : Nat) (xs : List Int) (w : World) (h : RdI w S a n cap xs) (hk : k < n) (hn : n ≤ 2097152) :
  Calls Try.prog 35 #[.slice a n cap, .int .i64 k] w fun e w' =>
   ∃ a' c', e = .returned (.slice a' (del xs k).length c') ∧ Own w' 3 1 a' (del xs k).length c' (ints (del xs k)) ∧ (∀ q, blk a' = some q → w.heap.size ≤ q) ∧ Grow w w' := by
 have hl := h.len
 have hle := h.row.le
 have r1 := T_ints.atH (a := a) (n := n) (cap := cap) (k := k) (i := k) rfl (by omega)
 have r2 := T_ints.atL (a := a) (n := n) (cap := cap) (l := k + 1) (i := k + 1) rfl (by omega)
 have d1 := h.pre (k := k) (by omega)
 have d2 := h.sub (l := k + 1) (k := n) (by omega) (Nat.le_refl _)
 go_enter Try.func35, Try.ntmps35
 go_wp2
 refine wp_region_mix (S := Grow w) [1, 2, 3, 5, 6, 7, 8] [0, 4, 9, 10] P_mixed (by kernel_rfl) (fun _ _ _ _ _ h => h) (Grow.refl _).drew ?_
 show wpQuiet _ _ _ (fun a' => wpListS _ _ _ _ [_, _, _, _] a' _) [_, _, _, _, _, _, _] _
 repeat (first | go_big_quiet_skip | (go_big_quiet_want; first | (apply quiet_sliceH (x := .tmp 6) (h := .tmp 7); rfl; exact r1; go_big_quiet_on; simp only [Act.put, List.setIfInBounds_toArray, List.set_cons_succ, List.set_cons_zero]) | (apply quiet_sliceL (x := .tmp 10) (l := .tmp 12); rfl; exact r2; go_big_quiet_on; simp only [Act.put, List.setIfInBounds_toArray, List.set_cons_succ, List.set_cons_zero]) | (go_big_quiet_op; first | go_big_quiet_on | (refine ⟨_, (fun _ _ => rfl), ?_⟩; go_big_quiet_on))))
 refine wpQuiet_nil ?_
 show wpListS _ _ _ _ _ _ _
 refine wpListS_step rfl (fun K hK => ?_)
 go_wp2_with fail
 refine hK _ _ (((Grow.refl w).alloc _ _).drew) ?_
 clear hK K
 have hE : Own (w.alloc (.cells #[] 3)).drew 3 1 (some ⟨w.heap.size, 0, none⟩) 0 0 [] := (Own.fresh (w := w) (by unfold maxLen; omega) rfl).grow (Grow.refl _).drew
 refine wpListS_step rfl (fun K hK => ?_)
 refine wp_app (.tmp 5) (.tmp 8) _ rfl T_ints rfl hE rfl (d1.row.grow ((Grow.refl w).alloc _ _).drew) (ints_one _) (by omega) (by unfold maxLen; omega) ?_
 intro a2 c2 w2 hA2
 have hG2 : Grow w w2 := hA2.grow ((Grow.refl w).alloc _ _).drew (fun g hg => by simp at hg; omega)
 have hB2 : ∀ q, blk a2 = some q → w.heap.size ≤ q := hA2.lo (by simp) (fun g hg => by simp at hg; omega)
 refine hK _ _ hG2 ?_
 clear hK K
 simp only [Act.put, List.setIfInBounds_toArray, List.set_cons_succ, List.set_cons_zero]
 refine wpListS_step rfl (fun K hK => ?_)
 refine wp_app (.tmp 9) (.tmp 13) _ rfl T_ints rfl hA2.own rfl (d2.row.grow hG2) (ints_one _) (by omega) (by unfold maxLen; omega) ?_
 intro a3 c3 w3 hA3
 have hG3 : Grow w w3 := hA3.grow hG2 hB2
 have hB3 : ∀ q, blk a3 = some q → w.heap.size ≤ q := hA3.lo hG2.size hB2
 refine hK _ _ hG3 ?_
 clear hK K
 simp only [Act.put, List.setIfInBounds_toArray, List.set_cons_succ, List.set_cons_zero]
 refine wpListS_step rfl (fun K hK => ?_)
 go_wp2_with fail
 refine hK _ _ hG3 ?_
 clear hK K
 refine wpListS_nil ?_
 go_wp2
 go_ret
 have e1 : (del xs k).length = 0 + k + (n - (k + 1)) := by rw [del_len (by omega)]; omega
 have e2 : [] ++ ints (xs.take k) ++ ints ((xs.drop (k + 1)).take (n - (k + 1))) = ints (del xs k) := by
  unfold del
  have e3 : (xs.drop (k + 1)).take (n - (k + 1)) = xs.drop (k + 1) := take_all (by simp; omega)
  rw [List.nil_append, e3]; simp only [ints, List.map_append]
 rw [e1]
 have hO := hA3.own
 rw [e2] at hO
 exact ⟨a3, c3, rfl, hO, hB3, hG3⟩
theorem l32Face_c {S : Nat → Prop} (a : Option Addr) (n cap k : Nat) (xs : List Int) (w : World) (h : RdI w S a n cap xs) (hk : k < n) (hn : n ≤ 2097152) :
  Calls Try.prog 21 #[.slice a n cap, .int .i64 k] w fun e w' =>
   ∃ a' c', e = .returned (.slice a' (del xs k).length c') ∧ Own w' 3 1 a' (del xs k).length c' (ints (del xs k)) ∧ (∀ q, blk a' = some q → w.heap.size ≤ q) ∧ Grow w w' := by
 have hl := h.len
 have hle := h.row.le
 have r1 := T_ints.atH (a := a) (n := n) (cap := cap) (k := k) (i := k) rfl (by omega)
 have r2 := T_ints.atL (a := a) (n := n) (cap := cap) (l := k + 1) (i := k + 1) rfl (by omega)
 have d1 := h.pre (k := k) (by omega)
 have d2 := h.sub (l := k + 1) (k := n) (by omega) (Nat.le_refl _)
 go_enter Try.func21, Try.ntmps21
 go_wp2
 refine wp_region_mix (S := Grow w) [1, 2, 3, 5, 6, 7, 8] [0, 4, 9, 10] P_mixed (by kernel_rfl) (fun _ _ _ _ _ h => h) (Grow.refl _).drew ?_
 show wpQuiet _ _ _ (fun a' => wpListS _ _ _ _ [_, _, _, _] a' _) [_, _, _, _, _, _, _] _
 repeat (first | go_big_quiet_skip | (go_big_quiet_want; first | (apply quiet_sliceH (x := .tmp 6) (h := .tmp 7); rfl; exact r1; go_big_quiet_on; simp only [Act.put, List.setIfInBounds_toArray, List.set_cons_succ, List.set_cons_zero]) | (apply quiet_sliceL (x := .tmp 10) (l := .tmp 12); rfl; exact r2; go_big_quiet_on; simp only [Act.put, List.setIfInBounds_toArray, List.set_cons_succ, List.set_cons_zero]) | (go_big_quiet_op; first | go_big_quiet_on | (refine ⟨_, (fun _ _ => rfl), ?_⟩; go_big_quiet_on))))
 refine wpQuiet_nil ?_
 show wpListS _ _ _ _ _ _ _
 refine wpListS_step rfl (fun K hK => ?_)
 go_wp2_with fail
 refine hK _ _ (((Grow.refl w).alloc _ _).drew) ?_
 clear hK K
 have hE : Own (w.alloc (.cells #[] 3)).drew 3 1 (some ⟨w.heap.size, 0, none⟩) 0 0 [] := (Own.fresh (w := w) (by unfold maxLen; omega) rfl).grow (Grow.refl _).drew
 refine wpListS_step rfl (fun K hK => ?_)
 refine wp_app (.tmp 5) (.tmp 8) _ rfl T_ints rfl hE rfl (d1.row.grow ((Grow.refl w).alloc _ _).drew) (ints_one _) (by omega) (by unfold maxLen; omega) ?_
 intro a2 c2 w2 hA2
 have hG2 : Grow w w2 := hA2.grow ((Grow.refl w).alloc _ _).drew (fun g hg => by simp at hg; omega)
 have hB2 : ∀ q, blk a2 = some q → w.heap.size ≤ q := hA2.lo (by simp) (fun g hg => by simp at hg; omega)
 refine hK _ _ hG2 ?_
 clear hK K
 simp only [Act.put, List.setIfInBounds_toArray, List.set_cons_succ, List.set_cons_zero]
 refine wpListS_step rfl (fun K hK => ?_)
 refine wp_app (.tmp 9) (.tmp 13) _ rfl T_ints rfl hA2.own rfl (d2.row.grow hG2) (ints_one _) (by omega) (by unfold maxLen; omega) ?_
 intro a3 c3 w3 hA3
 have hG3 : Grow w w3 := hA3.grow hG2 hB2
 have hB3 : ∀ q, blk a3 = some q → w.heap.size ≤ q := hA3.lo hG2.size hB2
 refine hK _ _ hG3 ?_
 clear hK K
 simp only [Act.put, List.setIfInBounds_toArray, List.set_cons_succ, List.set_cons_zero]
 refine wpListS_step rfl (fun K hK => ?_)
 go_wp2_with fail
 refine hK _ _ hG3 ?_
 clear hK K
 refine wpListS_nil ?_
 go_wp2
 go_ret
 have e1 : (del xs k).length = 0 + k + (n - (k + 1)) := by rw [del_len (by omega)]; omega
 have e2 : [] ++ ints (xs.take k) ++ ints ((xs.drop (k + 1)).take (n - (k + 1))) = ints (del xs k) := by
  unfold del
  have e3 : (xs.drop (k + 1)).take (n - (k + 1)) = xs.drop (k + 1) := take_all (by simp; omega)
  rw [List.nil_append, e3]; simp only [ints, List.map_append]
 rw [e1]
 have hO := hA3.own
 rw [e2] at hO
 exact ⟨a3, c3, rfl, hO, hB3, hG3⟩
end Go.Proofs.Ytneeelebnnfbeaa

namespace Go.Proofs.Ytneeelebnnfbeaa
open Go.RowKit
theorem SepII.app {w0 w w2 w3 : World} {a a' b : Option Addr} {n cap' c : Nat} {vs : List Value} {xss : List (List Int)} {xs : List Int} (hI : Inner w (New w0 w) (blk a) vs xss) (hlo : ∀ g, blk a = some g → New w0 w g) (hg : Grow w w2)
  (hb : Own w2 3 1 b xs.length c (ints xs)) (hr : ∀ x ∈ xs, I64 x) (h0 : w0.heap.size ≤ w.heap.size) (hbn : ∀ q, blk b = some q → w.heap.size ≤ q) (ha : Apped w2 w3 30 1 a a' n cap' (vs ++ [.slice b xs.length c])) :
  SepII w3 (New w0 w3) a' n cap' (xss ++ [xs]) := by
 have hs2 := hg.size
 have hs3 := ha.keep.size
 have hI2 : Inner w2 (New w0 w3) (blk a) vs xss := (hI.grow hg).weak fun q _ hF hne => ⟨⟨hF.1, by have := hF.2; omega⟩, hne⟩
 have hI3 := hI2.snoc (b := b) (c := c) hb hr
  (fun q hq => ⟨⟨by have := hbn q hq; omega, by have := hb.lt hq; omega⟩, fun e => by have := (hlo q e).2; have := hbn q hq; omega⟩)
  (fun q hq v hv hvq => by have := (hI.lt hv hvq).1; have := hbn q hq; omega)
 refine ⟨⟨_, ha.own, hI3.move ha.keep fun q hq hF hne => ⟨hne, hF, ?_⟩⟩, fun g hg' => ⟨?_, ha.own.lt hg'⟩⟩
 ·rcases ha.new with e | ⟨g, e, hge⟩
  ·rw [e]; exact hne
  ·rw [e]; intro e2; have := Option.some.inj e2; omega
 ·rcases ha.new with e | ⟨g', e, hge⟩
  ·have := (hlo g (by rw [← e]; exact hg')).1; omega
  ·rw [e] at hg'; have := Option.some.inj hg'; omega
def facesB (l : List (List Int)) (k : Int) : List (List Int) := l.filter fun s => (s.length : Int) - 1 == k
theorem facesB_len (l : List (List Int)) (k : Int) : (facesB l k).length ≤ l.length := List.length_filter_le _ _
theorem facesB_yes {l : List (List Int)} {xs : List Int} {k : Int} (h : (xs.length : Int) - 1 = k) : facesB (l ++ [xs]) k = facesB l k ++ [xs] := by
 unfold facesB; rw [List.filter_append]; simp [h]
theorem facesB_no {l : List (List Int)} {xs : List Int} {k : Int} (h : ¬ (xs.length : Int) - 1 = k) : facesB (l ++ [xs]) k = facesB l k := by
 unfold facesB; rw [List.filter_append]; simp [h]
theorem SepII.fresh0 (w : World) : SepII (w.alloc (.cells #[] 30)) (New w (w.alloc (.cells #[] 30))) (some ⟨w.heap.size, 0, none⟩) 0 0 [] :=
 ⟨⟨[], Own.fresh (by unfold maxLen; omega) rfl, Inner.nilw⟩, fun g hg => by simp at hg; subst hg; exact ⟨Nat.le_refl _, by simp⟩⟩
theorem implFacesOf_c {S : Nat → Prop} (a : Option Addr) (n cap : Nat) (l : List (List Int)) (k : Int) (w : World) (h : RdII w S a n cap l) (hn : n ≤ 1048576) (ht : total l ≤ 1048576) :
  Calls Try.prog 31 #[.slice a n cap, .int .i64 k] w fun e w' =>
   ∃ a' m c', e = .returned (.slice a' m c') ∧ SepII w' (New w w') a' m c' (facesB l k) ∧ Grow w w' := by
 have hl := h.len
 go_enter Try.func31, Try.ntmps31
 go_wp2
 go_loopw [5, 11] (fun v i wr => ∃ (j m c' : Nat) (a' : Option Addr), j ≤ n ∧ i = .int .i64 j ∧ v = .slice a' m c' ∧ Grow w wr ∧ SepII wr (New w wr) a' m c' (facesB (l.take j) k)) (fun _ i _ => n - (intOf i).toNat)
 case atStart => exact ⟨0, 0, 0, _, Nat.zero_le _, rfl, rfl, (Grow.refl w).alloc _ _, SepII.fresh0 w⟩
 case round =>
  obtain ⟨j, m, c1, a1, hj, rfl, rfl, hG, hS⟩ := hrel
  by_cases hlt : j < n
  ·obtain ⟨b, off, xs, a', c', rfl, hx, _, hbw, hc, hrd⟩ := (h.grow hG).at hlt
   have hxl : xs.length ≤ 1048576 := by have := total_at hx; omega
   have hml : m ≤ 1048576 := by have := hS.len; have := facesB_len (l.take j) k; simp at this; omega
   obtain ⟨⟨vs, hO, hI⟩, hlo⟩ := hS
   have Hx := Lib.hid hx; clear hx
   by_cases ht : (xs.length : Int) - 1 = k
   ·subst ht
    have hE : Own (wr.alloc (.cells #[] 3)) 3 1 (some ⟨wr.heap.size, 0, none⟩) 0 0 [] := Own.fresh (by unfold maxLen; omega) rfl
    go_wp2_with (first
     | (at_builtin; refine wpList_app rfl (.tmp 20) (.tmp 24) _ rfl T_intss rfl (hO.grow ((hA2.grow ((Grow.refl wr).alloc _ _) (fun g hg => by simp at hg; omega)).alloc _ _)) rfl (Row.built (S := fun _ => True) 1 (by unfold maxLen; omega) rfl trivial) (by simp [Value.oneCell']) (by omega) (by unfold maxLen; omega) ?_; intro a3 c3 w3 hA3)
     | (at_builtin; refine wpList_app rfl (.tmp 21) (.tmp 22) _ rfl T_ints rfl hE rfl (hrd.row.grow ((Grow.refl _).alloc _ _)) (ints_one _) (by omega) (by unfold maxLen; omega) ?_; intro a2 c2 w2 hA2))
    have hG2 : Grow wr w2 := hA2.grow ((Grow.refl wr).alloc _ _) (fun g hg => by simp at hg; omega)
    have hO2 : Own w2 3 1 a2 xs.length c2 (ints xs) := by simpa using hA2.own
    have hB2 : ∀ q, blk a2 = some q → wr.heap.size ≤ q := hA2.lo (by simp) (fun g hg => by simp at hg; omega)
    have hR := SepII.app hI hlo (hG2.alloc _ _) (hO2.grow ((Grow.refl _).alloc _ _)) hrd.rng hG.size hB2 hA3
    have hG3 : Grow w w3 := hA3.grow (hG.trans (hG2.alloc _ _)) (fun g hg => (hlo g hg).1)
    clear hA2 hA3 hO2 hI hO hE
    go_wp2
    go_roundw
    case rel => exact ⟨j + 1, m + 1, c3, a3, by omega, by go_num, rfl, hG3, by rw [take_succ Hx.out, facesB_yes rfl]; exact hR⟩
    case measure => simp [intOf]; omega
   ·go_wp2
    go_roundw
    case rel => exact ⟨j + 1, m, c1, a1, by omega, by go_num, rfl, hG, by rw [take_succ Hx.out, facesB_no ht]; exact ⟨⟨vs, hO, hI⟩, hlo⟩⟩
    case measure => simp [intOf]; omega
  ·go_wp2
   go_ret
   have : j = n := by omega
   subst this
   rw [take_all hl] at hS
   exact ⟨_, _, _, rfl, hS, hG⟩
theorem specFacesOf_c {S : Nat → Prop} (a : Option Addr) (n cap : Nat) (l : List (List Int)) (k : Int) (w : World) (h : RdII w S a n cap l) (hn : n ≤ 1048576) (ht : total l ≤ 1048576) :
  Calls Try.prog 18 #[.slice a n cap, .int .i64 k] w fun e w' =>
   ∃ a' m c', e = .returned (.slice a' m c') ∧ SepII w' (New w w') a' m c' (facesB l k) ∧ Grow w w' := by
 have hl := h.len
 go_enter Try.func18, Try.ntmps18
 go_wp2
 go_loopw [5, 6] (fun v i wr => ∃ (j m c' : Nat) (a' : Option Addr), j ≤ n ∧ i = .int .i64 j ∧ v = .slice a' m c' ∧ Grow w wr ∧ SepII wr (New w wr) a' m c' (facesB (l.take j) k)) (fun _ i _ => n - (intOf i).toNat)
 case atStart => exact ⟨0, 0, 0, _, Nat.zero_le _, rfl, rfl, (Grow.refl w).alloc _ _, SepII.fresh0 w⟩
 case round =>
  obtain ⟨j, m, c1, a1, hj, rfl, rfl, hG, hS⟩ := hrel
  by_cases hlt : j < n
  ·obtain ⟨b, off, xs, a', c', rfl, hx, _, hbw, hc, hrd⟩ := (h.grow hG).at hlt
   have hxl : xs.length ≤ 1048576 := by have := total_at hx; omega
   have hml : m ≤ 1048576 := by have := hS.len; have := facesB_len (l.take j) k; simp at this; omega
   obtain ⟨⟨vs, hO, hI⟩, hlo⟩ := hS
   have Hx := Lib.hid hx; clear hx
   by_cases ht : (xs.length : Int) - 1 = k
   ·subst ht
    have hE : Own (wr.alloc (.cells #[] 3)) 3 1 (some ⟨wr.heap.size, 0, none⟩) 0 0 [] := Own.fresh (by unfold maxLen; omega) rfl
    go_wp2_with (first
     | (at_builtin; refine wpList_app rfl (.tmp 22) (.tmp 29) _ rfl T_intss rfl (hO.grow ((hA2.grow ((Grow.refl wr).alloc _ _) (fun g hg => by simp at hg; omega)).alloc _ _)) rfl (Row.built (S := fun _ => True) 1 (by unfold maxLen; omega) rfl trivial) (by simp [Value.oneCell']) (by omega) (by unfold maxLen; omega) ?_; intro a3 c3 w3 hA3)
     | (at_builtin; refine wpList_app rfl (.tmp 23) (.tmp 27) _ rfl T_ints rfl hE rfl (hrd.row.grow ((Grow.refl _).alloc _ _)) (ints_one _) (by omega) (by unfold maxLen; omega) ?_; intro a2 c2 w2 hA2))
    have hG2 : Grow wr w2 := hA2.grow ((Grow.refl wr).alloc _ _) (fun g hg => by simp at hg; omega)
    have hO2 : Own w2 3 1 a2 xs.length c2 (ints xs) := by simpa using hA2.own
    have hB2 : ∀ q, blk a2 = some q → wr.heap.size ≤ q := hA2.lo (by simp) (fun g hg => by simp at hg; omega)
    have hR := SepII.app hI hlo (hG2.alloc _ _) (hO2.grow ((Grow.refl _).alloc _ _)) hrd.rng hG.size hB2 hA3
    have hG3 : Grow w w3 := hA3.grow (hG.trans (hG2.alloc _ _)) (fun g hg => (hlo g hg).1)
    clear hA2 hA3 hO2 hI hO hE
    go_wp2
    go_roundw
    case rel => exact ⟨j + 1, m + 1, c3, a3, by omega, by go_num, rfl, hG3, by rw [take_succ Hx.out, facesB_yes rfl]; exact hR⟩
    case measure => simp [intOf]; omega
   ·go_wp2
    go_roundw
    case rel => exact ⟨j + 1, m, c1, a1, by omega, by go_num, rfl, hG, by rw [take_succ Hx.out, facesB_no ht]; exact ⟨⟨vs, hO, hI⟩, hlo⟩⟩
    case measure => simp [intOf]; omega
  ·go_wp2
   go_ret
   have : j = n := by omega
   subst this
   rw [take_all hl] at hS
   exact ⟨_, _, _, rfl, hS, hG⟩
theorem facesB_total (l : List (List Int)) (k : Int) : total (facesB l k) ≤ total l := by
 induction l with
 | nil => exact Nat.le_refl _
 | cons xs r ih =>
  unfold facesB at ih ⊢
  rw [List.filter_cons]
  split <;> simp <;> omega
end Go.Proofs.Ytneeelebnnfbeaa

namespace Go.Proofs.Ytneeelebnnfbeaa
open Go.RowKit
theorem lessL_trans : ∀ {a b c : List Int}, a.length = b.length → b.length = c.length → lessL a b = true → lessL b c = true → lessL a c = true
 | [], [], _, _, _, h, _ => by simp [lessL] at h
 | [], _ :: _, _, h, _, _, _ => by simp at h
 | _ :: _, [], _, h, _, _, _ => by simp at h
 | _ :: _, _ :: _, [], _, h, _, _ => by simp at h
 | x :: xs, y :: ys, z :: zs, h1, h2, h3, h4 => by
  simp only [List.length_cons, Nat.add_right_cancel_iff] at h1 h2
  simp only [lessL] at h3 h4 ⊢
  by_cases e1 : x = y
  ·subst e1
   by_cases e2 : x = z
   ·subst e2; simp only [if_true] at h3 h4 ⊢; exact lessL_trans h1 h2 h3 h4
   ·rw [if_neg e2] at h4 ⊢; exact h4
  ·by_cases e2 : y = z
   ·subst e2; rw [if_neg e1] at h3 ⊢; exact h3
   ·rw [if_neg e1] at h3; rw [if_neg e2] at h4
    simp at h3 h4
    rw [if_neg (by omega)]; simp; omega
theorem beforeB_trans {a b c : List Int} (h1 : beforeB a b = true) (h2 : beforeB b c = true) : beforeB a c = true := by
 unfold beforeB at *
 by_cases e1 : a.length = b.length
 ·rw [if_pos e1] at h1
  by_cases e2 : b.length = c.length
  ·rw [if_pos e2] at h2; rw [if_pos (e1.trans e2)]; exact lessL_trans e1 e2 h1 h2
  ·rw [if_neg e2] at h2; simp at h2; rw [if_neg (by omega)]; simp; omega
 ·rw [if_neg e1] at h1; simp at h1
  by_cases e2 : b.length = c.length
  ·rw [if_neg (by omega)]; simp; omega
  ·rw [if_neg e2] at h2; simp at h2; rw [if_neg (by omega)]; simp; omega
theorem beforeB_len {a b : List Int} (h : beforeB a b = true) : a.length ≤ b.length := by
 unfold beforeB at h
 split at h
 ·omega
 ·simp at h; omega
def chainTo (l : List (List Int)) (i : Nat) : Prop := ∀ j x, j < i → l[j]? = some x → isSimpB x = true ∧ ∀ y, 0 < j → l[j - 1]? = some y → beforeB y x = true
theorem chainTo_all {l : List (List Int)} : chainTo l l.length ↔ (∀ s ∈ l, isSimpB s = true) ∧ l.Pairwise (fun a b => beforeB a b = true) := by
 constructor
 ·intro h
  refine ⟨fun x hx => ?_, List.pairwise_iff_getElem.2 fun i j hi hj hij => ?_⟩
  ·obtain ⟨j, hj, rfl⟩ := List.mem_iff_getElem.1 hx
   exact (h j _ hj (List.getElem?_eq_getElem hj)).1
  ·induction j with
   | zero => omega
   | succ j ih =>
    have h1 := (h (j + 1) _ hj (List.getElem?_eq_getElem hj)).2 l[j] (by omega) (List.getElem?_eq_getElem (by omega))
    by_cases e : i = j
    ·subst e; exact h1
    ·exact beforeB_trans (ih (by omega) (by omega)) h1
 ·rintro ⟨h1, h2⟩ j x hj hx
  obtain ⟨hj', rfl⟩ := List.getElem?_eq_some_iff.1 hx
  refine ⟨h1 _ (List.getElem_mem hj'), fun y h0 hy => ?_⟩
  obtain ⟨hj2, rfl⟩ := List.getElem?_eq_some_iff.1 hy
  exact List.pairwise_iff_getElem.1 h2 _ _ hj2 hj' (by omega)
theorem chainTo_succ {l : List (List Int)} {k : Nat} {x : List Int} (h : chainTo l k) (hx : l[k]? = some x) (h1 : isSimpB x = true) (h2 : ∀ y, 0 < k → l[k - 1]? = some y → beforeB y x = true) : chainTo l (k + 1) := fun j z hj hz => by
 by_cases e : j = k
 ·subst e
  obtain rfl : x = z := Option.some.inj (hx.symm.trans hz)
  exact ⟨h1, h2⟩
 ·exact h j z (by omega) hz
theorem del_sub {xs : List Int} {k : Nat} {z : Int} (h : z ∈ del xs k) : z ∈ xs := by
 unfold del at h
 rcases List.mem_append.1 h with h | h
 ·exact List.mem_of_mem_take h
 ·exact List.mem_of_mem_drop h
def closed (l : List (List Int)) : Prop := ∀ s ∈ l, 1 < s.length → ∀ k, k < s.length → del s k ∈ l
def few (l : List (List Int)) : Prop := ∀ k : Nat, k < 4 → (facesB l k).length ≤ 24
def IsCplx (l : List (List Int)) : Prop := ((∀ s ∈ l, isSimpB s = true) ∧ l.Pairwise (fun a b => beforeB a b = true)) ∧ closed l ∧ few l
open Classical in
noncomputable def isCplxB (l : List (List Int)) : Bool := decide (IsCplx l)
theorem isCplxB_iff {l : List (List Int)} : isCplxB l = true ↔ IsCplx l := by unfold isCplxB; simp
theorem isCplxB_no {l : List (List Int)} (h : ¬ IsCplx l) : isCplxB l = false := by unfold isCplxB; simp [h]
theorem before_only {l : List (List Int)} (hc : (∀ s ∈ l, isSimpB s = true) ∧ l.Pairwise (fun a b => beforeB a b = true)) {i k : Nat} {x : List Int} (hx : l[i]? = some x) (hk : k < x.length) : del x k ∈ l ↔ del x k ∈ l.take i := by
 constructor
 ·intro h
  obtain ⟨j, hj, e⟩ := List.mem_iff_getElem.1 h
  obtain ⟨hi, rfl⟩ := List.getElem?_eq_some_iff.1 hx
  have hd := del_len hk
  have hlt : j < i := by
   rcases Nat.lt_trichotomy j i with h1 | h1 | h1
   ·exact h1
   ·subst h1; rw [← e] at hd; omega
   ·have := beforeB_len (List.pairwise_iff_getElem.1 hc.2 i j hi hj h1)
    rw [e] at this; omega
  rw [← e]
  exact List.mem_iff_getElem.2 ⟨j, by simp; omega, by simp⟩
 ·exact fun h => List.mem_of_mem_take h
def closedTo (l : List (List Int)) (i : Nat) : Prop := ∀ j x, j < i → l[j]? = some x → 1 < x.length → ∀ k, k < x.length → del x k ∈ l.take j
theorem closedTo_all {l : List (List Int)} (hc : (∀ s ∈ l, isSimpB s = true) ∧ l.Pairwise (fun a b => beforeB a b = true)) : closedTo l l.length ↔ closed l := by
 constructor
 ·intro h s hs h1 k hk
  obtain ⟨j, hj, rfl⟩ := List.mem_iff_getElem.1 hs
  exact List.mem_of_mem_take (h j _ hj (List.getElem?_eq_getElem hj) h1 k hk)
 ·intro h j x hj hx h1 k hk
  exact (before_only hc hx hk).1 (h x (List.mem_of_getElem? hx) h1 k hk)
theorem closedTo_succ {l : List (List Int)} {i : Nat} {x : List Int} (h : closedTo l i) (hx : l[i]? = some x) (h1 : 1 < x.length → ∀ k, k < x.length → del x k ∈ l.take i) : closedTo l (i + 1) := fun j z hj hz => by
 by_cases e : j = i
 ·subst e
  obtain rfl : x = z := Option.some.inj (hx.symm.trans hz)
  exact h1
 ·exact h j z (by omega) hz
theorem RdII.pre {w : World} {S : Nat → Prop} {a : Option Addr} {n cap : Nat} {l : List (List Int)} (h : RdII w S a n cap l) {k : Nat} (hk : k ≤ n) : RdII w S a k cap (l.take k) := by
 obtain ⟨⟨vs, h1, h2⟩, hl⟩ := h
 have hvl := h1.len
 refine ⟨⟨vs.take k, ⟨by simp; omega, by have := h1.le; omega, h1.max, h1.nil, fun hne => ?_⟩, fun i xs hi => ?_⟩, by simp; omega⟩
 ·have : vs ≠ [] := by intro e; subst e; simp at hne
  obtain ⟨b, off, rfl, hS, hc⟩ := h1.addr this
  refine ⟨b, off, rfl, hS, fun j c hj => hc j c ?_⟩
  rw [List.getElem?_take] at hj
  split at hj
  ·exact hj
  ·cases hj
 ·rw [List.getElem?_take] at hi
  split at hi
  ·rename_i hik
   obtain ⟨b, c, h3, h4⟩ := h2 i xs hi
   exact ⟨b, c, by rw [List.getElem?_take, if_pos hik]; exact h3, h4⟩
  ·cases hi
theorem simp_ans {S : Nat → Prop} {a : Option Addr} {n cap : Nat} {xs : List Int} {w : World} {b : Bool} (h : RdI w S a n cap xs) (hn : n ≤ 1048576) (hb : isSimpB xs = b) :
  ∀ W, Grow w W → Calls Try.prog 25 #[.slice a n cap] W fun e w' => e = .returned (.bool b) ∧ Qt W w' :=
 fun W hW => (specIsSimplex_c a n cap xs W (h.grow hW) hn).mono fun e w' ⟨he, hQ⟩ => ⟨by rw [he, hb], hQ⟩
theorem before_ans {S T : Nat → Prop} {a a' : Option Addr} {n n' cap cap' : Nat} {xs ys : List Int} {w : World} {b : Bool} (h : RdI w S a n cap xs) (h' : RdI w T a' n' cap' ys) (hn : n ≤ 1048576) (hn' : n' ≤ 1048576) (hb : beforeB xs ys = b) :
  ∀ W, Grow w W → Calls Try.prog 26 #[.slice a n cap, .slice a' n' cap'] W fun e w' => e = .returned (.bool b) ∧ Qt W w' :=
 fun W hW => (l32Before_c a a' n n' cap cap' xs ys W (h.grow hW) (h'.grow hW) (by omega) (by omega)).mono fun e w' ⟨he, hQ⟩ => ⟨by rw [he, hb], hQ⟩
theorem specIsComplex_c {S : Nat → Prop} (a : Option Addr) (n cap : Nat) (l : List (List Int)) (w : World) (h : RdII w S a n cap l) (hn : n ≤ 1048576) (ht : total l ≤ 1048576) :
  Calls Try.prog 17 #[.slice a n cap] w fun e w' => e = .returned (.bool (isCplxB l)) ∧ Grow w w' := by
 have hl := h.len
 go_enter Try.func17, Try.ntmps17
 go_wp2
 go_loopw [3] (fun i wr => Grow w wr ∧ ∃ k : Nat, k ≤ n ∧ i = .int .i64 k ∧ chainTo l k ∧ closedTo l k) (fun i _ => n - (intOf i).toNat)
 case atStart => exact ⟨Grow.refl _, 0, Nat.zero_le _, rfl, fun _ _ h => by omega, fun _ _ h => by omega⟩
 case round =>
  obtain ⟨hG, i, hi, rfl, hch, hcl⟩ := hrel
  have Hch := Lib.hid hch; clear hch
  have Hcl := Lib.hid hcl; clear hcl
  by_cases hlt : i < n
  ·obtain ⟨b, off, x, a1, c1, rfl, hx, _, hbw, hc, hrd⟩ := (h.grow hG).at hlt
   have hxl : x.length ≤ 1048576 := by have := total_at hx; omega
   have Hx := Lib.hid hx; clear hx
   cases hs : isSimpB x with
   | false =>
    have cS := Lib.hid (simp_ans hrd hxl hs)
    have Hs := Lib.hid hs; clear hs
    go_wp2
    go_quiet ((go_at_call 25; exact Calls.quiet_qt (cS.out _ ((Grow.refl _).drewN _))))
    go_wp2
    go_ret
    refine ⟨ret_bool (isCplxB_no fun hC => ?_).symm, hG.drewN _⟩
    have := hC.1.1 x (List.mem_of_getElem? Hx.out)
    rw [Hs.out] at this; cases this
   | true =>
    have cS := Lib.hid (simp_ans hrd hxl hs)
    have Hs := Lib.hid hs; clear hs
    have hstep : (¬ 0 < i ∨ ∃ y, l[i - 1]? = some y ∧ beforeB y x = true) ∨ (0 < i ∧ ∃ y, l[i - 1]? = some y ∧ beforeB y x = false) := by
     by_cases hi0 : 0 < i
     ·have hy : l[i - 1]? = some l[i - 1] := List.getElem?_eq_getElem (by omega)
      cases hbf : beforeB l[i - 1] x with
      | true => exact .inl (.inr ⟨_, hy, hbf⟩)
      | false => exact .inr ⟨hi0, _, hy, hbf⟩
     ·exact .inl (.inl hi0)
    rcases hstep with hgood | ⟨hi0, y, hy, hbf⟩
    ·have hch1 : chainTo l (i + 1) := chainTo_succ Hch.out Hx.out Hs.out (fun y h0 hy => by
      rcases hgood with h1 | ⟨y', hy', h1⟩
      ·exact (h1 h0).elim
      ·obtain rfl := Option.some.inj (hy.symm.trans hy'); exact h1)
     have Hch1 := Lib.hid hch1; clear hch1
     by_cases hi0 : 0 < i
     ·obtain ⟨y, hy, hbf⟩ : ∃ y, l[i - 1]? = some y ∧ beforeB y x = true := by
       rcases hgood with h1 | h1
       ·exact (h1 hi0).elim
       ·exact h1
      clear hgood
      obtain ⟨b2, off2, y2, a2, c2, he2, hy2, _, _, hc2, hrd2⟩ := (h.grow hG).at (k := i - 1) (by omega)
      obtain ⟨rfl, rfl⟩ : b = b2 ∧ off = off2 := by simpa using he2
      obtain rfl : y = y2 := Option.some.inj (hy.symm.trans hy2)
      have hyl : y.length ≤ 1048576 := by have := total_at hy; omega
      have cB := Lib.hid (before_ans hrd2 hrd hyl hxl hbf)
      clear hbf hy hy2 he2
      go_wp2
      go_quiet ((first | (go_at_call 25; exact Calls.quiet_qt (cS.out _ ((Grow.refl _).drewN _))) | (go_at_call 26; exact Calls.quiet_qt (cB.out _ ((Grow.refl _).drewN _)))))
      go_wp2
      obtain ⟨wo, rfl⟩ : ∃ wo : World, wo = wr := ⟨_, rfl⟩
      have hGd : Grow wo (wo.drewN nq) := (Grow.refl wo).drewN nq
      go_loopw [4] (fun q wr => Grow wo wr ∧ ∃ k : Nat, k ≤ x.length ∧ q = .int .i64 k ∧ (1 < x.length → ∀ k', k' < k → del x k' ∈ l.take i)) (fun q _ => x.length - (intOf q).toNat)
      case atStart => exact ⟨hGd, 0, Nat.zero_le _, rfl, fun _ _ h => by omega⟩
      case round =>
       clear hGd
       obtain ⟨hGi, k, hk, rfl, hin⟩ := hrel
       have Hin := Lib.hid hin; clear hin
       have hci := hGi.cell hc
       by_cases hkl : k < x.length
       ·by_cases h1l : 1 < x.length
        ·have r1 := T_intss.atH (a := some ⟨b, off, none⟩) (n := n) (cap := cap) (k := i) (i := (i : Int)) rfl (by have := h.row.choose_spec.1.le; omega)
         have hpre := ((h.grow hG).grow hGi).pre (k := i) (by omega)
         have htp := total_take_le l i
         go_wp2
         refine wp_region_mix (S := Grow wr) [0, 1, 2, 3, 4, 5, 6, 7] [8, 9, 10] P_mixed (by kernel_rfl) (fun _ _ _ _ _ h => h) (Grow.refl _).drew ?_
         show wpQuiet _ _ _ (fun a' => wpListS _ _ _ _ [_, _, _] a' _) [_, _, _, _, _, _, _, _] _
         repeat (first | go_big_quiet_skip | (go_big_quiet_want; first | (apply quiet_sliceH (x := .tmp 52) (h := .tmp 53); rfl; exact r1; go_big_quiet_on; simp only [Act.put, List.setIfInBounds_toArray, List.set_cons_succ, List.set_cons_zero]) | (apply quiet_load CT_ints; rfl; rfl; exact (fun w' hG => hG.cell hci); go_big_quiet_on; simp only [Act.put, List.setIfInBounds_toArray, List.set_cons_succ, List.set_cons_zero]) | (go_big_quiet_op; first | go_big_quiet_on | (refine ⟨_, (fun _ _ => rfl), ?_⟩; go_big_quiet_on))))
         refine wpQuiet_nil ?_
         show wpListS _ _ _ _ _ _ _
         refine wpListS_step rfl (fun K hK => ?_)
         go_wp2_with fail
         refine (l32Face_c _ _ _ k x _ (hrd.grow (hGi.drew)) hkl (by omega)).mono ?_
         rintro e w1 ⟨a3, c3, rfl, hO3, _, hG3⟩
         have hG31 : Grow wr w1 := (Grow.refl wr).drew.trans hG3
         have hr3 := hO3.rdI (S := fun _ => True) (fun _ _ => trivial) (fun z hz => hrd.rng z (del_sub hz))
         go_wp2_with fail
         refine hK _ _ (hG31) ?_
         clear hK K
         refine wpListS_step rfl (fun K hK => ?_)
         go_wp2_with fail
         refine (l32Find_c _ _ _ _ _ _ (l.take i) (del x k) _ (hpre.grow hG31) hr3 (by omega) (by omega) (by rw [del_len hkl]; omega)).mono ?_
         rintro e w2 ⟨rfl, hQ2⟩
         have hG32 := hG31.trans hQ2.grow
         by_cases hmem : del x k ∈ l.take i
         ·have hf := findI_mem.2 hmem
          have Hmem := Lib.hid hmem; clear hmem
          go_wp2_with fail
          refine hK _ _ (hG32) ?_
          clear hK K
          refine wpListS_step rfl (fun K hK => ?_)
          go_wp2_with fail
          refine hK _ _ (hG32) ?_
          clear hK K
          refine wpListS_nil ?_
          go_wp2
          go_roundw
          case rel =>
           refine ⟨hGi.trans hG32, k + 1, by omega, by go_num, fun h1 k' hk' => ?_⟩
           by_cases e : k' = k
           ·subst e; exact Hmem.out
           ·exact Hin.out h1 k' (by omega)
          case measure => simp [intOf]; omega
         ·have hf : findI (l.take i) (del x k) < 0 := by rw [findI_no hmem]; omega
          have Hmem := Lib.hid hmem; clear hmem
          go_wp2_with fail
          refine hK _ _ (hG32) ?_
          clear hK K
          refine wpListS_step rfl (fun K hK => ?_)
          go_wp2_with fail
          refine hK _ _ (hG32) ?_
          clear hK K
          refine wpListS_nil ?_
          go_wp2
          go_ret
          refine ⟨ret_bool (isCplxB_no fun hC => Hmem.out ?_).symm, hG.trans (hGi.trans hG32)⟩
          exact (before_only hC.1 Hx.out hkl).1 (hC.2.1 x (List.mem_of_getElem? Hx.out) h1l k hkl)
        ·go_wp2
         go_roundw
         case rel => exact ⟨hG.trans hGi, i + 1, by omega, by go_num, Hch1.out, closedTo_succ Hcl.out Hx.out (fun h1 => by omega)⟩
         case measure => simp [intOf]; omega
       ·go_wp2
        go_roundw
        case rel => exact ⟨hG.trans hGi, i + 1, by omega, by go_num, Hch1.out, closedTo_succ Hcl.out Hx.out (fun h1 k' hk' => Hin.out h1 k' (by omega))⟩
        case measure => simp [intOf]; omega
     ·clear hgood
      go_wp2
      go_quiet ((go_at_call 25; exact Calls.quiet_qt (cS.out _ ((Grow.refl _).drewN _))))
      go_wp2
      obtain ⟨wo, rfl⟩ : ∃ wo : World, wo = wr := ⟨_, rfl⟩
      have hGd : Grow wo (wo.drewN nq) := (Grow.refl wo).drewN nq
      go_loopw [4] (fun q wr => Grow wo wr ∧ ∃ k : Nat, k ≤ x.length ∧ q = .int .i64 k ∧ (1 < x.length → ∀ k', k' < k → del x k' ∈ l.take i)) (fun q _ => x.length - (intOf q).toNat)
      case atStart => exact ⟨hGd, 0, Nat.zero_le _, rfl, fun _ _ h => by omega⟩
      case round =>
       clear hGd
       obtain ⟨hGi, k, hk, rfl, hin⟩ := hrel
       have Hin := Lib.hid hin; clear hin
       have hci := hGi.cell hc
       by_cases hkl : k < x.length
       ·by_cases h1l : 1 < x.length
        ·have r1 := T_intss.atH (a := some ⟨b, off, none⟩) (n := n) (cap := cap) (k := i) (i := (i : Int)) rfl (by have := h.row.choose_spec.1.le; omega)
         have hpre := ((h.grow hG).grow hGi).pre (k := i) (by omega)
         have htp := total_take_le l i
         go_wp2
         refine wp_region_mix (S := Grow wr) [0, 1, 2, 3, 4, 5, 6, 7] [8, 9, 10] P_mixed (by kernel_rfl) (fun _ _ _ _ _ h => h) (Grow.refl _).drew ?_
         show wpQuiet _ _ _ (fun a' => wpListS _ _ _ _ [_, _, _] a' _) [_, _, _, _, _, _, _, _] _
         repeat (first | go_big_quiet_skip | (go_big_quiet_want; first | (apply quiet_sliceH (x := .tmp 52) (h := .tmp 53); rfl; exact r1; go_big_quiet_on; simp only [Act.put, List.setIfInBounds_toArray, List.set_cons_succ, List.set_cons_zero]) | (apply quiet_load CT_ints; rfl; rfl; exact (fun w' hG => hG.cell hci); go_big_quiet_on; simp only [Act.put, List.setIfInBounds_toArray, List.set_cons_succ, List.set_cons_zero]) | (go_big_quiet_op; first | go_big_quiet_on | (refine ⟨_, (fun _ _ => rfl), ?_⟩; go_big_quiet_on))))
         refine wpQuiet_nil ?_
         show wpListS _ _ _ _ _ _ _
         refine wpListS_step rfl (fun K hK => ?_)
         go_wp2_with fail
         refine (l32Face_c _ _ _ k x _ (hrd.grow (hGi.drew)) hkl (by omega)).mono ?_
         rintro e w1 ⟨a3, c3, rfl, hO3, _, hG3⟩
         have hG31 : Grow wr w1 := (Grow.refl wr).drew.trans hG3
         have hr3 := hO3.rdI (S := fun _ => True) (fun _ _ => trivial) (fun z hz => hrd.rng z (del_sub hz))
         go_wp2_with fail
         refine hK _ _ (hG31) ?_
         clear hK K
         refine wpListS_step rfl (fun K hK => ?_)
         go_wp2_with fail
         refine (l32Find_c _ _ _ _ _ _ (l.take i) (del x k) _ (hpre.grow hG31) hr3 (by omega) (by omega) (by rw [del_len hkl]; omega)).mono ?_
         rintro e w2 ⟨rfl, hQ2⟩
         have hG32 := hG31.trans hQ2.grow
         by_cases hmem : del x k ∈ l.take i
         ·have hf := findI_mem.2 hmem
          have Hmem := Lib.hid hmem; clear hmem
          go_wp2_with fail
          refine hK _ _ (hG32) ?_
          clear hK K
          refine wpListS_step rfl (fun K hK => ?_)
          go_wp2_with fail
          refine hK _ _ (hG32) ?_
          clear hK K
          refine wpListS_nil ?_
          go_wp2
          go_roundw
          case rel =>
           refine ⟨hGi.trans hG32, k + 1, by omega, by go_num, fun h1 k' hk' => ?_⟩
           by_cases e : k' = k
           ·subst e; exact Hmem.out
           ·exact Hin.out h1 k' (by omega)
          case measure => simp [intOf]; omega
         ·have hf : findI (l.take i) (del x k) < 0 := by rw [findI_no hmem]; omega
          have Hmem := Lib.hid hmem; clear hmem
          go_wp2_with fail
          refine hK _ _ (hG32) ?_
          clear hK K
          refine wpListS_step rfl (fun K hK => ?_)
          go_wp2_with fail
          refine hK _ _ (hG32) ?_
          clear hK K
          refine wpListS_nil ?_
          go_wp2
          go_ret
          refine ⟨ret_bool (isCplxB_no fun hC => Hmem.out ?_).symm, hG.trans (hGi.trans hG32)⟩
          exact (before_only hC.1 Hx.out hkl).1 (hC.2.1 x (List.mem_of_getElem? Hx.out) h1l k hkl)
        ·go_wp2
         go_roundw
         case rel => exact ⟨hG.trans hGi, i + 1, by omega, by go_num, Hch1.out, closedTo_succ Hcl.out Hx.out (fun h1 => by omega)⟩
         case measure => simp [intOf]; omega
       ·go_wp2
        go_roundw
        case rel => exact ⟨hG.trans hGi, i + 1, by omega, by go_num, Hch1.out, closedTo_succ Hcl.out Hx.out (fun h1 k' hk' => Hin.out h1 k' (by omega))⟩
        case measure => simp [intOf]; omega
    ·obtain ⟨b2, off2, y2, a2, c2, he2, hy2, _, _, hc2, hrd2⟩ := (h.grow hG).at (k := i - 1) (by omega)
     obtain ⟨rfl, rfl⟩ : b = b2 ∧ off = off2 := by simpa using he2
     obtain rfl : y = y2 := Option.some.inj (hy.symm.trans hy2)
     have hyl : y.length ≤ 1048576 := by have := total_at hy; omega
     have cB := Lib.hid (before_ans hrd2 hrd hyl hxl hbf)
     have Hbf := Lib.hid hbf; clear hbf
     have Hy := Lib.hid hy; clear hy hy2 he2
     go_wp2
     go_quiet ((first | (go_at_call 25; exact Calls.quiet_qt (cS.out _ ((Grow.refl _).drewN _))) | (go_at_call 26; exact Calls.quiet_qt (cB.out _ ((Grow.refl _).drewN _)))))
     go_wp2
     go_ret
     refine ⟨ret_bool (isCplxB_no fun hC => ?_).symm, hG.drewN _⟩
     have := (chainTo_all.2 hC.1 i x (by omega) Hx.out).2 y hi0 Hy.out
     rw [Hbf.out] at this; cases this
  ·have : i = n := by omega
   subst this
   have hC : (∀ s ∈ l, isSimpB s = true) ∧ l.Pairwise (fun a b => beforeB a b = true) := chainTo_all.1 (by rw [hl]; exact Hch.out)
   have hD : closed l := (closedTo_all hC).1 (by rw [hl]; exact Hcl.out)
   have HC := Lib.hid hC; clear hC
   have HD := Lib.hid hD; clear hD
   go_wp2
   go_loopw [5] (fun q wr => Grow w wr ∧ ∃ k : Nat, k ≤ 4 ∧ q = .int .i64 k ∧ ∀ k' : Nat, k' < k → (facesB l k').length ≤ 24) (fun q _ => 4 - (intOf q).toNat)
   case atStart => exact ⟨hG, 0, Nat.zero_le _, rfl, fun _ h => by omega⟩
   case round =>
    obtain ⟨hGi, k, hk, rfl, hin⟩ := hrel
    have Hin := Lib.hid hin; clear hin
    by_cases hk4 : k < 4
    ·go_wp2_with fail
     refine (specFacesOf_c _ _ _ l k _ (h.grow hGi) (by omega) (by omega)).mono ?_
     rintro e w1 ⟨a1, m1, c1, rfl, hS1, hG1⟩
     have hm1 := Lib.hid hS1.len
     by_cases h24 : m1 ≤ 24
     ·go_wp2
      go_roundw
      case rel =>
       refine ⟨hGi.trans hG1, k + 1, by omega, by go_num, fun k' hk' => ?_⟩
       by_cases e : k' = k
       ·subst e; rw [hm1.out]; exact h24
       ·exact Hin.out k' (by omega)
      case measure => simp [intOf]; omega
     ·go_wp2
      go_ret
      refine ⟨ret_bool (isCplxB_no fun hC => ?_).symm, hGi.trans hG1⟩
      have := hC.2.2 k hk4
      rw [hm1.out] at this; omega
    ·go_wp2
     go_ret
     refine ⟨ret_bool (isCplxB_iff.2 ⟨HC.out, HD.out, fun k' hk' => Hin.out k' (by omega)⟩).symm, hGi⟩
end Go.Proofs.Ytneeelebnnfbeaa

namespace Go.Proofs.Ytneeelebnnfbeaa
open Go.RowKit
def cntL (l : List (List Int)) (c : Nat) : Nat := (l.filter fun s => s.length == c).length
theorem cntL_facesB (l : List (List Int)) (k : Nat) : (facesB l k).length = cntL l (k + 1) := by
 unfold facesB cntL
 congr 2
 funext s
 rw [Bool.eq_iff_iff]; simp; omega
theorem cntL_snoc (l : List (List Int)) (x : List Int) (c : Nat) : cntL (l ++ [x]) c = cntL l c + if x.length = c then 1 else 0 := by
 unfold cntL; rw [List.filter_append]
 by_cases h : x.length = c <;> simp [h]
theorem cntL_le (l : List (List Int)) (c : Nat) : cntL l c ≤ l.length := List.length_filter_le _ _
theorem cntL_take (l : List (List Int)) (k c : Nat) : cntL (l.take k) c ≤ cntL l c := by
 conv => rhs; rw [← List.take_append_drop k l]
 unfold cntL; rw [List.filter_append, List.length_append]; omega
def cnts (l : List (List Int)) : List Int := [(cntL l 0 : Int), cntL l 1, cntL l 2, cntL l 3, cntL l 4]
theorem cnts_at (l : List (List Int)) {c : Nat} (h : c < 5) : (ints (cnts l))[c]? = some (.int .i64 (cntL l c)) := by
 match c, h with
 | 0, _ => rfl
 | 1, _ => rfl
 | 2, _ => rfl
 | 3, _ => rfl
 | 4, _ => rfl
theorem cnts_snoc (l : List (List Int)) (x : List Int) (h : x.length < 5) : (ints (cnts l)).set x.length (.int .i64 ((cntL l x.length : Int) + 1)) = ints (cnts (l ++ [x])) := by
 have h5 : x.length = 0 ∨ x.length = 1 ∨ x.length = 2 ∨ x.length = 3 ∨ x.length = 4 := by omega
 rcases h5 with h | h | h | h | h <;> simp [cnts, cntL_snoc, h, ints]
theorem isSimpB_len {xs : List Int} (h : isSimpB xs = true) : 1 ≤ xs.length ∧ xs.length ≤ 4 := by
 unfold isSimpB at h; rw [decide_eq_true_eq] at h; exact h.2
def faceTo (l : List (List Int)) (i : Nat) : Prop := ∀ j x, j < i → l[j]? = some x → 1 < x.length → ∀ k, k < x.length → del x k ∈ l
theorem isimp_ans {S : Nat → Prop} {a : Option Addr} {n cap : Nat} {xs : List Int} {w : World} {b : Bool} (h : RdI w S a n cap xs) (hn : n ≤ 1048576) (hb : isSimpB xs = b) :
  ∀ W, Grow w W → Calls Try.prog 51 #[.slice a n cap] W fun e w' => e = .returned (.bool b) ∧ Qt W w' :=
 fun W hW => (implIsSimplex_c a n cap xs W (h.grow hW) hn).mono fun e w' ⟨he, hQ⟩ => ⟨by rw [he, hb], hQ⟩
theorem implIsComplex_c {S : Nat → Prop} (a : Option Addr) (n cap : Nat) (l : List (List Int)) (w : World) (h : RdII w S a n cap l) (hn : n ≤ 1048576) (ht : total l ≤ 1048576) :
  Calls Try.prog 30 #[.slice a n cap] w fun e w' => e = .returned (.bool (isCplxB l)) ∧ Grow w w' := by
 have hl := h.len
 go_enter Try.func30, Try.ntmps30
 go_wp2
 have hO0 : Own (w.alloc (.cells #[.int .i64 0, .int .i64 0, .int .i64 0, .int .i64 0, .int .i64 0] 61)) 61 1 (some ⟨w.heap.size, 0, none⟩) 5 5 (ints (cnts (l.take 0))) := Own.fresh (by unfold maxLen; omega) rfl
 go_loopw [12] (fun i wr => Grow w wr ∧ w.heap.size < wr.heap.size ∧ ∃ k : Nat, k ≤ n ∧ i = .int .i64 k ∧ chainTo l k ∧ Own wr 61 1 (some ⟨w.heap.size, 0, none⟩) 5 5 (ints (cnts (l.take k))) ∧ ∀ c, c < 5 → cntL (l.take k) c ≤ 24) (fun i _ => n - (intOf i).toNat)
 case atStart => exact ⟨(Grow.refl _).alloc _ _, by simp, 0, Nat.zero_le _, rfl, fun _ _ h => by omega, hO0, fun c _ => by simp [cntL]⟩
 case round =>
  clear hO0
  obtain ⟨hG, hsz, i, hi, rfl, hch, hO, hcn⟩ := hrel
  have Hch := Lib.hid hch; clear hch
  have Hcn := Lib.hid hcn; clear hcn
  by_cases hlt : i < n
  ·obtain ⟨b, off, x, a1, c1, rfl, hx, _, hbw, hc, hrd⟩ := (h.grow hG).at hlt
   have hxl : x.length ≤ 1048576 := by have := total_at hx; omega
   have Hx := Lib.hid hx; clear hx
   cases hs : isSimpB x with
   | false =>
    have cS := Lib.hid (isimp_ans hrd hxl hs)
    have Hs := Lib.hid hs; clear hs
    go_wp2_with fail
    refine (cS.out _ (Grow.refl _)).mono ?_
    rintro e w1 ⟨rfl, hQ⟩
    go_wp2
    go_ret
    refine ⟨ret_bool (isCplxB_no fun hC => ?_).symm, hG.trans hQ.grow⟩
    have := hC.1.1 x (List.mem_of_getElem? Hx.out)
    rw [Hs.out] at this; cases this
   | true =>
    have cS := Lib.hid (isimp_ans hrd hxl hs)
    have hx4 := isSimpB_len hs
    have Hs := Lib.hid hs; clear hs
    have hstep : (¬ 0 < i ∨ ∃ y, l[i - 1]? = some y ∧ beforeB y x = true) ∨ (0 < i ∧ ∃ y, l[i - 1]? = some y ∧ beforeB y x = false) := by
     by_cases hi0 : 0 < i
     ·have hy : l[i - 1]? = some l[i - 1] := List.getElem?_eq_getElem (by omega)
      cases hbf : beforeB l[i - 1] x with
      | true => exact .inl (.inr ⟨_, hy, hbf⟩)
      | false => exact .inr ⟨hi0, _, hy, hbf⟩
     ·exact .inl (.inl hi0)
    rcases hstep with hgood | ⟨hi0, y, hy, hbf⟩
    ·have hch1 : chainTo l (i + 1) := chainTo_succ Hch.out Hx.out Hs.out (fun y h0 hy => by
      rcases hgood with h1 | ⟨y', hy', h1⟩
      ·exact (h1 h0).elim
      ·obtain rfl := Option.some.inj (hy.symm.trans hy'); exact h1)
     have Hch1 := Lib.hid hch1; clear hch1
     have hcnt : cntL (l.take i) x.length ≤ 1048576 := by have := cntL_le (l.take i) x.length; simp at this; omega
     have Hset := Lib.hid (cnts_snoc (l.take i) x (by omega))
     by_cases hi0 : 0 < i
     ·obtain ⟨y, hy, hbf⟩ : ∃ y, l[i - 1]? = some y ∧ beforeB y x = true := by
       rcases hgood with h1 | h1
       ·exact (h1 hi0).elim
       ·exact h1
      clear hgood
      obtain ⟨b2, off2, y2, a2, c2, he2, hy2, _, _, hc2, hrd2⟩ := (h.grow hG).at (k := i - 1) (by omega)
      obtain ⟨rfl, rfl⟩ : b = b2 ∧ off = off2 := by simpa using he2
      obtain rfl : y = y2 := Option.some.inj (hy.symm.trans hy2)
      have hyl : y.length ≤ 1048576 := by have := total_at hy; omega
      have hneg := (cmpS_before y x).2 hbf
      clear hbf hy hy2 he2
      go_wp2_with fail
      refine (cS.out _ (Grow.refl _)).mono ?_
      rintro e w1 ⟨rfl, hQ⟩
      have hc2' := hQ.grow.cell hc2
      go_wp2_with fail
      refine (compareSimplices_c _ _ _ _ _ _ y x _ (hrd2.grow hQ.grow) (hrd.grow hQ.grow) (by omega) (by omega)).mono ?_
      rintro e w2 ⟨rfl, rfl⟩
      have hG1 := hG.trans hQ.grow
      have hO1 := hO.grow hQ.grow
      have hce := hO1.cell (cnts_at (l.take i) (c := x.length) (by omega))
      have hfr := hO1.free x.length
      simp only at hce hfr
      have hce2 : (w1.setCell ⟨w.heap.size, x.length, none⟩ (.int .i64 ((cntL (l.take i) x.length : Int) + 1))).cell? ⟨w.heap.size, x.length, none⟩ = some (.int .i64 ((cntL (l.take i) x.length : Int) + 1)) := World.cell?_setCell_same _ _ _ hce
      have hO2 := hO1.set x.length (.int .i64 ((cntL (l.take i) x.length : Int) + 1))
      rw [Hset.out, ← take_succ Hx.out] at hO2
      have hG2 : Grow w (w1.setCell ⟨w.heap.size, x.length, none⟩ (.int .i64 ((cntL (l.take i) x.length : Int) + 1))) := hG1.setCell (Nat.le_refl _) _
      by_cases h24 : cntL (l.take i) x.length < 24
      ·go_wp2
       go_roundw
       case rel =>
        refine ⟨hG2, by have := hQ.grow.size; simp; omega, i + 1, by omega, by go_num, Hch1.out, hO2, fun c hc5 => ?_⟩
        rw [take_succ Hx.out, cntL_snoc]
        have := Hcn.out c hc5
        split
        ·rename_i e; subst e; omega
        ·omega
       case measure => simp [intOf]; omega
      ·go_wp2
       go_ret
       refine ⟨ret_bool (isCplxB_no fun hC => ?_).symm, hG2⟩
       have h1 := hC.2.2 (x.length - 1) (by omega)
       rw [cntL_facesB, show x.length - 1 + 1 = x.length from by omega] at h1
       have h2 := cntL_take l (i + 1) x.length
       rw [take_succ Hx.out, cntL_snoc] at h2
       simp at h2; omega
     ·clear hgood
      go_wp2_with fail
      refine (cS.out _ (Grow.refl _)).mono ?_
      rintro e w1 ⟨rfl, hQ⟩
      have hG1 := hG.trans hQ.grow
      have hO1 := hO.grow hQ.grow
      have hce := hO1.cell (cnts_at (l.take i) (c := x.length) (by omega))
      have hfr := hO1.free x.length
      simp only at hce hfr
      have hce2 : (w1.setCell ⟨w.heap.size, x.length, none⟩ (.int .i64 ((cntL (l.take i) x.length : Int) + 1))).cell? ⟨w.heap.size, x.length, none⟩ = some (.int .i64 ((cntL (l.take i) x.length : Int) + 1)) := World.cell?_setCell_same _ _ _ hce
      have hO2 := hO1.set x.length (.int .i64 ((cntL (l.take i) x.length : Int) + 1))
      rw [Hset.out, ← take_succ Hx.out] at hO2
      have hG2 : Grow w (w1.setCell ⟨w.heap.size, x.length, none⟩ (.int .i64 ((cntL (l.take i) x.length : Int) + 1))) := hG1.setCell (Nat.le_refl _) _
      by_cases h24 : cntL (l.take i) x.length < 24
      ·go_wp2
       go_roundw
       case rel =>
        refine ⟨hG2, by have := hQ.grow.size; simp; omega, i + 1, by omega, by go_num, Hch1.out, hO2, fun c hc5 => ?_⟩
        rw [take_succ Hx.out, cntL_snoc]
        have := Hcn.out c hc5
        split
        ·rename_i e; subst e; omega
        ·omega
       case measure => simp [intOf]; omega
      ·go_wp2
       go_ret
       refine ⟨ret_bool (isCplxB_no fun hC => ?_).symm, hG2⟩
       have h1 := hC.2.2 (x.length - 1) (by omega)
       rw [cntL_facesB, show x.length - 1 + 1 = x.length from by omega] at h1
       have h2 := cntL_take l (i + 1) x.length
       rw [take_succ Hx.out, cntL_snoc] at h2
       simp at h2; omega
    ·obtain ⟨b2, off2, y2, a2, c2, he2, hy2, _, _, hc2, hrd2⟩ := (h.grow hG).at (k := i - 1) (by omega)
     obtain ⟨rfl, rfl⟩ : b = b2 ∧ off = off2 := by simpa using he2
     obtain rfl : y = y2 := Option.some.inj (hy.symm.trans hy2)
     have hyl : y.length ≤ 1048576 := by have := total_at hy; omega
     have hpos : 0 ≤ cmpS y x := by
      rcases Int.lt_or_le (cmpS y x) 0 with h0 | h0
      ·have := (cmpS_before y x).1 h0; rw [hbf] at this; cases this
      ·exact h0
     have Hbf := Lib.hid hbf; clear hbf
     have Hy := Lib.hid hy; clear hy hy2 he2
     go_wp2_with fail
     refine (cS.out _ (Grow.refl _)).mono ?_
     rintro e w1 ⟨rfl, hQ⟩
     have hc2' := hQ.grow.cell hc2
     go_wp2_with fail
     refine (compareSimplices_c _ _ _ _ _ _ y x _ (hrd2.grow hQ.grow) (hrd.grow hQ.grow) (by omega) (by omega)).mono ?_
     rintro e w2 ⟨rfl, rfl⟩
     go_wp2
     go_ret
     refine ⟨ret_bool (isCplxB_no fun hC => ?_).symm, hG.trans hQ.grow⟩
     have := (chainTo_all.2 hC.1 i x (by omega) Hx.out).2 y hi0 Hy.out
     rw [Hbf.out] at this; cases this
  ·have : i = n := by omega
   subst this
   have hC : (∀ s ∈ l, isSimpB s = true) ∧ l.Pairwise (fun a b => beforeB a b = true) := chainTo_all.1 (by rw [hl]; exact Hch.out)
   have hF : few l := fun k hk => by rw [cntL_facesB]; have := Hcn.out (k + 1) (by omega); rwa [take_all hl] at this
   have HC := Lib.hid hC; clear hC
   have HF := Lib.hid hF; clear hF
   clear Hch Hcn hO
   go_wp2
   go_loopw [48] (fun q wr => Grow w wr ∧ ∃ k : Nat, k ≤ i ∧ q = .int .i64 k ∧ faceTo l k) (fun q _ => i - (intOf q).toNat)
   case atStart => exact ⟨hG, 0, Nat.zero_le _, rfl, fun _ _ h => by omega⟩
   case round =>
    obtain ⟨hGo, j, hj, rfl, hft⟩ := hrel
    have Hft := Lib.hid hft; clear hft
    by_cases hjl : j < i
    ·obtain ⟨b, off, x, a1, c1, rfl, hx, _, hbw, hc, hrd⟩ := (h.grow hGo).at hjl
     have hxl : x.length ≤ 1048576 := by have := total_at hx; omega
     have Hx := Lib.hid hx; clear hx
     go_wp2
     obtain ⟨wo, rfl⟩ : ∃ wo : World, wo = wr := ⟨_, rfl⟩
     go_loopw [54] (fun q wr => Grow wo wr ∧ ∃ k : Nat, k ≤ x.length ∧ q = .int .i64 k ∧ (1 < x.length → ∀ k', k' < k → del x k' ∈ l)) (fun q _ => x.length - (intOf q).toNat)
     case atStart => exact ⟨Grow.refl _, 0, Nat.zero_le _, rfl, fun _ _ h => by omega⟩
     case round =>
      obtain ⟨hGi, k, hk, rfl, hin⟩ := hrel
      have Hin := Lib.hid hin; clear hin
      by_cases hkl : k < x.length
      ·by_cases h1l : 1 < x.length
       ·go_wp2_with fail
        refine (without_c _ _ _ k x _ (hrd.grow hGi) hkl (by omega)).mono ?_
        rintro e w1 ⟨a3, c3, rfl, hO3, _, hG3⟩
        have hr3 := hO3.rdI (S := fun _ => True) (fun _ _ => trivial) (fun z hz => hrd.rng z (del_sub hz))
        have hG31 := hGi.trans hG3
        go_wp2_with fail
        refine (indexOfSimplex_c _ _ _ _ _ _ l (del x k) _ (h.grow (hGo.trans hG31)) hr3 (by omega) (by omega)).mono ?_
        rintro e w2 ⟨rfl, hG4⟩
        have hG41 := hG31.trans hG4
        by_cases hmem : del x k ∈ l
        ·have hf := findI_mem.2 hmem
         have Hmem := Lib.hid hmem; clear hmem
         go_wp2
         go_roundw
         case rel =>
          refine ⟨hG41, k + 1, by omega, by go_num, fun h1 k' hk' => ?_⟩
          by_cases e : k' = k
          ·subst e; exact Hmem.out
          ·exact Hin.out h1 k' (by omega)
         case measure => simp [intOf]; omega
        ·have hf : findI l (del x k) < 0 := by rw [findI_no hmem]; omega
         have Hmem := Lib.hid hmem; clear hmem
         go_wp2
         go_ret
         exact ⟨ret_bool (isCplxB_no fun hC => Hmem.out (hC.2.1 x (List.mem_of_getElem? Hx.out) h1l k hkl)).symm, hGo.trans hG41⟩
       ·go_wp2
        go_roundw
        case rel => exact ⟨hGi, k + 1, by omega, by go_num, fun h1 => by omega⟩
        case measure => simp [intOf]; omega
      ·go_wp2
       go_roundw
       case rel =>
        refine ⟨hGo.trans hGi, j + 1, by omega, by go_num, fun j' x' hj' hx' h1 k' hk' => ?_⟩
        by_cases e : j' = j
        ·subst e
         obtain rfl : x = x' := Option.some.inj (Hx.out.symm.trans hx')
         exact Hin.out h1 k' (by omega)
        ·exact Hft.out j' x' (by omega) hx' h1 k' hk'
       case measure => simp [intOf]; omega
    ·go_wp2
     go_ret
     refine ⟨ret_bool (isCplxB_iff.2 ⟨HC.out, fun s hs h1 k hk => ?_, HF.out⟩).symm, hGo⟩
     obtain ⟨m, hm, rfl⟩ := List.mem_iff_getElem.1 hs
     exact Hft.out m _ (by omega) (List.getElem?_eq_getElem hm) h1 k hk
end Go.Proofs.Ytneeelebnnfbeaa
