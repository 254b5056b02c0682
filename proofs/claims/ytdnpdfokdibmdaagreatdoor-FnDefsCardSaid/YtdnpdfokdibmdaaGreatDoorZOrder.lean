/-
  Comparing simplices and finding one in a list: the program's functions (by slices.Equal, slices.Compare, slices.IndexFunc) and the reference's.
-/
import Derived.Test.YtdnpdfokdibmdaaGreatDoorZInts
namespace Go.Proofs.YtdnpdfokdibmdaaGreatDoor
open Go.RowKit

/-- Which of two lists of one length comes first. -/
def lessL : List Int → List Int → Bool
  | x :: xs, y :: ys => if x = y then lessL xs ys else decide (x < y)
  | _, _ => false
theorem lessL_self (xs : List Int) : lessL xs xs = false := by
  induction xs with
  | nil => rfl
  | cons x xs ih => simp [lessL, ih]
theorem lessL_same : ∀ {k : Nat} {xs ys : List Int}, xs.take k = ys.take k → lessL xs ys = lessL (xs.drop k) (ys.drop k)
  | 0, _, _, _ => rfl
  | k + 1, [], ys, h => by
    have : ys = [] := by
      cases ys with
      | nil => rfl
      | cons y ys => simp at h
    subst this; simp
  | k + 1, x :: xs, [], h => by simp at h
  | k + 1, x :: xs, y :: ys, h => by
    simp only [List.take_succ_cons, List.cons.injEq] at h
    obtain ⟨rfl, h⟩ := h
    simp only [lessL, if_true, List.drop_succ_cons]
    exact lessL_same h
theorem lessL_at {xs ys : List Int} {k : Nat} {x y : Int} (h : xs.take k = ys.take k) (hx : xs[k]? = some x) (hy : ys[k]? = some y) (hne : ¬ x = y) : lessL xs ys = decide (x < y) := by
  rw [lessL_same h]
  obtain ⟨h1, rfl⟩ := List.getElem?_eq_some_iff.1 hx
  obtain ⟨h2, rfl⟩ := List.getElem?_eq_some_iff.1 hy
  rw [List.drop_eq_getElem_cons h1, List.drop_eq_getElem_cons h2]
  simp [lessL, hne]
theorem lessL_ne : ∀ {xs ys : List Int}, xs.length = ys.length → xs ≠ ys → lessL xs ys = !lessL ys xs
  | [], [], _, h => (h rfl).elim
  | [], y :: ys, h, _ => by simp at h
  | x :: xs, [], h, _ => by simp at h
  | x :: xs, y :: ys, hl, h => by
    simp only [List.length_cons, Nat.add_right_cancel_iff] at hl
    by_cases e : x = y
    · subst e
      have : xs ≠ ys := fun e => h (by rw [e])
      simp [lessL, lessL_ne hl this]
    · have e' : ¬ y = x := fun h => e h.symm
      simp only [lessL, e, e', if_false]
      rw [Bool.eq_iff_iff]; simp; omega
def beforeB (a b : List Int) : Bool := if a.length = b.length then lessL a b else decide (a.length < b.length)
/-- The place of the first one; -1 if there is none. -/
def findI : List (List Int) → List Int → Int
  | [], _ => -1
  | x :: r, s => if x = s then 0 else (if findI r s < 0 then -1 else findI r s + 1)
theorem findI_lo (l : List (List Int)) (s : List Int) : -1 ≤ findI l s ∧ findI l s < l.length := by
  induction l with
  | nil => simp [findI]
  | cons x r ih => simp only [findI, List.length_cons]; split <;> (try split) <;> omega
theorem findI_at : ∀ {l : List (List Int)} {s : List Int} {k : Nat}, s ∉ l.take k → l[k]? = some s → findI l s = k
  | [], s, k, _, h => by simp at h
  | x :: r, s, 0, _, h => by simp at h; simp [findI, h]
  | x :: r, s, k + 1, h, hk => by
    simp only [List.take_succ_cons, List.mem_cons, not_or] at h
    simp at hk
    have ih := findI_at h.2 hk
    simp only [findI, if_neg (fun (e : x = s) => h.1 e.symm), ih]
    rw [if_neg (by omega)]; simp
theorem findI_no : ∀ {l : List (List Int)} {s : List Int}, s ∉ l → findI l s = -1
  | [], _, _ => rfl
  | x :: r, s, h => by
    simp only [List.mem_cons, not_or] at h
    simp only [findI, if_neg (fun (e : x = s) => h.1 e.symm), findI_no h.2]; simp
theorem findI_mem {l : List (List Int)} {s : List Int} : 0 ≤ findI l s ↔ s ∈ l := by
  induction l with
  | nil => simp [findI]
  | cons x r ih =>
    simp only [findI, List.mem_cons]
    by_cases e : x = s
    · simp [e]
    · rw [if_neg e]
      constructor
      · intro h
        right
        apply ih.1
        split at h <;> omega
      · rintro (h | h)
        · exact (e h.symm).elim
        · have := ih.2 h
          rw [if_neg (by omega)]; omega

set_option maxHeartbeats 400000 in
theorem equalI_c {S T : Nat → Prop} (a b : Option Addr) (n m cap cap' : Nat) (xs ys : List Int) (w : World) (h : RdI w S a n cap xs) (h' : RdI w T b m cap' ys) (hn : n ≤ 2097152) :
    Calls Tryz.prog 22 #[.slice a n cap, .slice b m cap'] w fun e w' => e = .returned (.bool (sameI xs ys)) ∧ Qt w w' := by
  have hl := h.len
  have hl' := h'.len
  by_cases hnm : n = m
  · subst hnm
    go_enter Tryz.func22, Tryz.ntmps22
    go_wp2
    go_loopw [13] (fun i wr => Qt w wr ∧ ∃ k : Nat, k ≤ n ∧ i = .int .i64 k ∧ xs.take k = ys.take k) (fun i _ => n - (intOf i).toNat)
    case atStart => exact ⟨Qt.refl _, 0, Nat.zero_le _, rfl, rfl⟩
    case round =>
      obtain ⟨hG, k, hk, rfl, he⟩ := hrel
      have He := Lib.hid he; clear he
      by_cases hlt : k < n
      · obtain ⟨b1, off1, x, rfl, hx, hxr, _, hbw, hc⟩ := (h.grow hG.grow).at hlt
        obtain ⟨b2, off2, y, rfl, hy, hyr, _, hbw2, hc2⟩ := (h'.grow hG.grow).at hlt
        have Hx := Lib.hid hx; clear hx
        have Hy := Lib.hid hy; clear hy
        by_cases hxy : x = y
        · subst hxy
          go_wp2
          go_quiet (fail)
          go_wp2
          go_roundw
          case rel => exact ⟨hG.drewN _, k + 1, by omega, by go_num, by rw [take_succ Hx.out, take_succ Hy.out, He.out]⟩
          case measure => simp [intOf]; omega
        · have hxy' : (x == y) = false := by simpa using hxy
          go_wp2
          go_quiet (fail)
          go_wp2
          go_ret
          refine ⟨ret_bool (Eq.symm (decide_eq_false ?_)), hG.drewN _⟩
          intro e; subst e
          exact hxy (Option.some.inj (Hx.out.symm.trans Hy.out))
      · go_wp2
        go_ret
        have : k = n := by omega
        subst this
        refine ⟨ret_bool (Eq.symm (decide_eq_true ?_)), hG⟩
        have := He.out
        rwa [take_all hl, take_all hl'] at this
  · have hb : ((n : Int) == (m : Int)) = false := by simp; omega
    go_enter Tryz.func22, Tryz.ntmps22
    go_wp2
    go_ret
    refine ⟨ret_bool (Eq.symm (decide_eq_false ?_)), Qt.refl _⟩
    intro e; subst e; omega

theorem sameI_less {xs ys : List Int} (hl : xs.length = ys.length) : sameI xs ys = (!lessL xs ys && !lessL ys xs) := by
  by_cases e : xs = ys
  · subst e; simp [sameI, lessL_self]
  · rw [lessL_ne hl e]; simp [sameI, e]

/-! ### The program's: a closure that compares with what it captured -/
/-! ### The order as a number -/
def cmpL : List Int → List Int → Int
  | x :: xs, y :: ys => if x = y then cmpL xs ys else if x < y then -1 else 1
  | [], _ :: _ => -1
  | _ :: _, [] => 1
  | [], [] => 0
theorem cmpL_same : ∀ {k : Nat} {xs ys : List Int}, xs.take k = ys.take k → k ≤ ys.length → cmpL xs ys = cmpL (xs.drop k) (ys.drop k)
  | 0, _, _, _, _ => rfl
  | k + 1, [], ys, h, hk => by
    cases ys with
    | nil => rfl
    | cons y ys => simp at h
  | k + 1, x :: xs, [], h, hk => by simp at h
  | k + 1, x :: xs, y :: ys, h, hk => by
    simp only [List.take_succ_cons, List.cons.injEq] at h
    obtain ⟨rfl, h⟩ := h
    simp only [cmpL, if_true, List.drop_succ_cons]
    exact cmpL_same h (by simpa using hk)
theorem cmpL_less : ∀ {xs ys : List Int}, xs.length = ys.length → (cmpL xs ys < 0 ↔ lessL xs ys = true)
  | [], [], _ => by simp [cmpL, lessL]
  | [], y :: ys, h => by simp at h
  | x :: xs, [], h => by simp at h
  | x :: xs, y :: ys, h => by
    simp only [List.length_cons, Nat.add_right_cancel_iff] at h
    simp only [cmpL, lessL]
    by_cases e : x = y
    · rw [if_pos e, if_pos e]; exact cmpL_less h
    · rw [if_neg e, if_neg e]
      by_cases e2 : x < y <;> simp [e2]
def cmpS (a b : List Int) : Int := if a.length = b.length then cmpL a b else a.length - b.length
theorem cmpS_before (a b : List Int) : cmpS a b < 0 ↔ beforeB a b = true := by
  unfold cmpS beforeB
  by_cases h : a.length = b.length
  · rw [if_pos h, if_pos h]; exact cmpL_less h
  · rw [if_neg h, if_neg h]; simp; omega
theorem cmpL_rng : ∀ (xs ys : List Int), -1 ≤ cmpL xs ys ∧ cmpL xs ys ≤ 1
  | [], [] => by simp [cmpL]
  | [], y :: ys => by simp [cmpL]
  | x :: xs, [] => by simp [cmpL]
  | x :: xs, y :: ys => by
    have := cmpL_rng xs ys
    simp only [cmpL]
    split
    · exact this
    · split <;> omega

def cmpI (x y : Int) : Int := if x < y then -1 else if y < x then 1 else 0
end Go.Proofs.YtdnpdfokdibmdaaGreatDoor
