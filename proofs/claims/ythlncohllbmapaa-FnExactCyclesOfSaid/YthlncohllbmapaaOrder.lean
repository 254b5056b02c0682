/-
  Comparing simplices and finding one in a list: the program's functions (by slices.Equal, slices.Compare, slices.IndexFunc) and the reference's.
-/
import Derived.Test.YthlncohllbmapaaKindII
namespace Go.Proofs.Ythlncohllbmapaa
open Go.RowKit

/-- Which of two lists of one length comes first. -/
def lessL : List Int → List Int → Bool
  | x :: xs, y :: ys => if x = y then lessL xs ys else decide (x < y)
  | _, _ => false
theorem lessL_self (xs : List Int) : lessL xs xs = false := by
  induction xs with
  | nil => rfl
  | cons x xs ih => simp [lessL, ih]
theorem lessL_same : ∀ {k : Nat} {xs ys : List Int}, xs.take k = ys.take k → lessL xs ys = lessL (xs.drop k) (ys.drop k)
  | 0, _, _, _ => rfl
  | k + 1, [], ys, h => by
    have : ys = [] := by
      cases ys with
      | nil => rfl
      | cons y ys => simp at h
    subst this; simp
  | k + 1, x :: xs, [], h => by simp at h
  | k + 1, x :: xs, y :: ys, h => by
    simp only [List.take_succ_cons, List.cons.injEq] at h
    obtain ⟨rfl, h⟩ := h
    simp only [lessL, if_true, List.drop_succ_cons]
    exact lessL_same h
theorem lessL_at {xs ys : List Int} {k : Nat} {x y : Int} (h : xs.take k = ys.take k) (hx : xs[k]? = some x) (hy : ys[k]? = some y) (hne : ¬ x = y) : lessL xs ys = decide (x < y) := by
  rw [lessL_same h]
  obtain ⟨h1, rfl⟩ := List.getElem?_eq_some_iff.1 hx
  obtain ⟨h2, rfl⟩ := List.getElem?_eq_some_iff.1 hy
  rw [List.drop_eq_getElem_cons h1, List.drop_eq_getElem_cons h2]
  simp [lessL, hne]
theorem lessL_ne : ∀ {xs ys : List Int}, xs.length = ys.length → xs ≠ ys → lessL xs ys = !lessL ys xs
  | [], [], _, h => (h rfl).elim
  | [], y :: ys, h, _ => by simp at h
  | x :: xs, [], h, _ => by simp at h
  | x :: xs, y :: ys, hl, h => by
    simp only [List.length_cons, Nat.add_right_cancel_iff] at hl
    by_cases e : x = y
    · subst e
      have : xs ≠ ys := fun e => h (by rw [e])
      simp [lessL, lessL_ne hl this]
    · have e' : ¬ y = x := fun h => e h.symm
      simp only [lessL, e, e', if_false]
      rw [Bool.eq_iff_iff]; simp; omega
def beforeB (a b : List Int) : Bool := if a.length = b.length then lessL a b else decide (a.length < b.length)
/-- The place of the first one; -1 if there is none. -/
def findI : List (List Int) → List Int → Int
  | [], _ => -1
  | x :: r, s => if x = s then 0 else (if findI r s < 0 then -1 else findI r s + 1)
theorem findI_lo (l : List (List Int)) (s : List Int) : -1 ≤ findI l s ∧ findI l s < l.length := by
  induction l with
  | nil => simp [findI]
  | cons x r ih => simp only [findI, List.length_cons]; split <;> (try split) <;> omega
theorem findI_at : ∀ {l : List (List Int)} {s : List Int} {k : Nat}, s ∉ l.take k → l[k]? = some s → findI l s = k
  | [], s, k, _, h => by simp at h
  | x :: r, s, 0, _, h => by simp at h; simp [findI, h]
  | x :: r, s, k + 1, h, hk => by
    simp only [List.take_succ_cons, List.mem_cons, not_or] at h
    simp at hk
    have ih := findI_at h.2 hk
    simp only [findI, if_neg (fun (e : x = s) => h.1 e.symm), ih]
    rw [if_neg (by omega)]; simp
theorem findI_no : ∀ {l : List (List Int)} {s : List Int}, s ∉ l → findI l s = -1
  | [], _, _ => rfl
  | x :: r, s, h => by
    simp only [List.mem_cons, not_or] at h
    simp only [findI, if_neg (fun (e : x = s) => h.1 e.symm), findI_no h.2]; simp
theorem findI_mem {l : List (List Int)} {s : List Int} : 0 ≤ findI l s ↔ s ∈ l := by
  induction l with
  | nil => simp [findI]
  | cons x r ih =>
    simp only [findI, List.mem_cons]
    by_cases e : x = s
    · simp [e]
    · rw [if_neg e]
      constructor
      · intro h
        right
        apply ih.1
        split at h <;> omega
      · rintro (h | h)
        · exact (e h.symm).elim
        · have := ih.2 h
          rw [if_neg (by omega)]; omega

set_option maxHeartbeats 400000 in
theorem equalI_c {S T : Nat → Prop} (a b : Option Addr) (n m cap cap' : Nat) (xs ys : List Int) (w : World) (h : RdI w S a n cap xs) (h' : RdI w T b m cap' ys) (hn : n ≤ 2097152) :
    Calls Try.prog 83 #[.slice a n cap, .slice b m cap'] w fun e w' => e = .returned (.bool (sameI xs ys)) ∧ Qt w w' := by
  have hl := h.len
  have hl' := h'.len
  by_cases hnm : n = m
  · subst hnm
    go_enter Try.func83, Try.ntmps83
    go_wp2
    go_loopw [13] (fun i wr => Qt w wr ∧ ∃ k : Nat, k ≤ n ∧ i = .int .i64 k ∧ xs.take k = ys.take k) (fun i _ => n - (intOf i).toNat)
    case atStart => exact ⟨Qt.refl _, 0, Nat.zero_le _, rfl, rfl⟩
    case round =>
      obtain ⟨hG, k, hk, rfl, he⟩ := hrel
      have He := Lib.hid he; clear he
      by_cases hlt : k < n
      · obtain ⟨b1, off1, x, rfl, hx, hxr, _, hbw, hc⟩ := (h.grow hG.grow).at hlt
        obtain ⟨b2, off2, y, rfl, hy, hyr, _, hbw2, hc2⟩ := (h'.grow hG.grow).at hlt
        have Hx := Lib.hid hx; clear hx
        have Hy := Lib.hid hy; clear hy
        by_cases hxy : x = y
        · subst hxy
          go_wp2
          go_quiet (fail)
          go_wp2
          go_roundw
          case rel => exact ⟨hG.drewN _, k + 1, by omega, by go_num, by rw [take_succ Hx.out, take_succ Hy.out, He.out]⟩
          case measure => simp [intOf]; omega
        · have hxy' : (x == y) = false := by simpa using hxy
          go_wp2
          go_quiet (fail)
          go_wp2
          go_ret
          refine ⟨ret_bool (Eq.symm (decide_eq_false ?_)), hG.drewN _⟩
          intro e; subst e
          exact hxy (Option.some.inj (Hx.out.symm.trans Hy.out))
      · go_wp2
        go_ret
        have : k = n := by omega
        subst this
        refine ⟨ret_bool (Eq.symm (decide_eq_true ?_)), hG⟩
        have := He.out
        rwa [take_all hl, take_all hl'] at this
  · have hb : ((n : Int) == (m : Int)) = false := by simp; omega
    go_enter Try.func83, Try.ntmps83
    go_wp2
    go_ret
    refine ⟨ret_bool (Eq.symm (decide_eq_false ?_)), Qt.refl _⟩
    intro e; subst e; omega

set_option maxHeartbeats 400000 in
theorem l20Less_c {S T : Nat → Prop} (a b : Option Addr) (n cap cap' : Nat) (xs ys : List Int) (w : World) (h : RdI w S a n cap xs) (h' : RdI w T b n cap' ys) (hn : n ≤ 2097152) :
    Calls Try.prog 128 #[.slice a n cap, .slice b n cap'] w fun e w' => e = .returned (.bool (lessL xs ys)) ∧ Qt w w' := by
  have hl := h.len
  have hl' := h'.len
  go_enter Try.func128, Try.ntmps128
  go_wp2
  go_loopw [5] (fun i wr => Qt w wr ∧ ∃ k : Nat, k ≤ n ∧ i = .int .i64 k ∧ xs.take k = ys.take k) (fun i _ => n - (intOf i).toNat)
  case atStart => exact ⟨Qt.refl _, 0, Nat.zero_le _, rfl, rfl⟩
  case round =>
    obtain ⟨hG, k, hk, rfl, he⟩ := hrel
    have He := Lib.hid he; clear he
    by_cases hlt : k < n
    · obtain ⟨b1, off1, x, rfl, hx, hxr, _, hbw, hc⟩ := (h.grow hG.grow).at hlt
      obtain ⟨b2, off2, y, rfl, hy, hyr, _, hbw2, hc2⟩ := (h'.grow hG.grow).at hlt
      have Hx := Lib.hid hx; clear hx
      have Hy := Lib.hid hy; clear hy
      by_cases hxy : x = y
      · subst hxy
        go_wp2
        go_quiet (fail)
        go_wp2
        go_roundw
        case rel => exact ⟨hG.drewN _, k + 1, by omega, by go_num, by rw [take_succ Hx.out, take_succ Hy.out, He.out]⟩
        case measure => simp [intOf]; omega
      · have hxy' : (x == y) = false := by simpa using hxy
        go_wp2
        go_quiet (fail)
        go_wp2
        go_quiet (fail)
        go_wp2
        go_ret
        exact ⟨ret_bool (lessL_at He.out Hx.out Hy.out hxy).symm, (hG.drewN _).drewN _⟩
    · go_wp2
      go_ret
      have : k = n := by omega
      subst this
      refine ⟨ret_bool ?_, hG⟩
      have := He.out
      rw [take_all hl, take_all hl'] at this
      rw [this, lessL_self]

set_option maxHeartbeats 400000 in
theorem l32Before_c {S T : Nat → Prop} (a b : Option Addr) (n m cap cap' : Nat) (xs ys : List Int) (w : World) (h : RdI w S a n cap xs) (h' : RdI w T b m cap' ys) (hn : n ≤ 2097152) (hm : m ≤ 2097152) :
    Calls Try.prog 102 #[.slice a n cap, .slice b m cap'] w fun e w' => e = .returned (.bool (beforeB xs ys)) ∧ Qt w w' := by
  have hl := h.len
  have hl' := h'.len
  by_cases hnm : n = m
  · subst hnm
    go_enter Try.func102, Try.ntmps102
    go_wp2_with (go_at_call 128; refine (l20Less_c _ _ _ _ _ xs ys _ h h' hn).mono ?_; rintro e w' ⟨rfl, hQ⟩)
    go_ret
    exact ⟨ret_bool (by unfold beforeB; rw [if_pos (by omega)]), hQ⟩
  · have hb : ((n : Int) == (m : Int)) = false := by simp; omega
    go_enter Try.func102, Try.ntmps102
    go_wp2
    go_ret
    refine ⟨ret_bool ?_, Qt.refl _⟩
    unfold beforeB; rw [if_neg (by omega), hl, hl']
    try (rw [Bool.eq_iff_iff]; simp)

theorem sameI_less {xs ys : List Int} (hl : xs.length = ys.length) : sameI xs ys = (!lessL xs ys && !lessL ys xs) := by
  by_cases e : xs = ys
  · subst e; simp [sameI, lessL_self]
  · rw [lessL_ne hl e]; simp [sameI, e]

set_option maxHeartbeats 400000 in
theorem l32Same_c {S T : Nat → Prop} (a b : Option Addr) (n m cap cap' : Nat) (xs ys : List Int) (w : World) (h : RdI w S a n cap xs) (h' : RdI w T b m cap' ys) (hn : n ≤ 2097152) (hm : m ≤ 2097152) :
    Calls Try.prog 103 #[.slice a n cap, .slice b m cap'] w fun e w' => e = .returned (.bool (sameI xs ys)) ∧ Qt w w' := by
  have hl := h.len
  have hl' := h'.len
  by_cases hnm : n = m
  · subst hnm
    have hs := Lib.hid (sameI_less (hl.trans hl'.symm))
    cases h1 : lessL xs ys with
    | true =>
      have H1 := Lib.hid h1; clear h1
      go_enter Try.func103, Try.ntmps103
      go_wp2_with fail
      refine (l20Less_c _ _ _ _ _ xs ys _ h h' hn).mono ?_
      rintro e w1 ⟨rfl, hQ⟩
      rw [H1.out]
      go_wp2
      go_ret
      exact ⟨ret_bool (by rw [hs.out, H1.out]; rfl), hQ⟩
    | false =>
      have H1 := Lib.hid h1; clear h1
      go_enter Try.func103, Try.ntmps103
      go_wp2_with fail
      refine (l20Less_c _ _ _ _ _ xs ys _ h h' hn).mono ?_
      rintro e w1 ⟨rfl, hQ⟩
      rw [H1.out]
      go_wp2_with fail
      refine (l20Less_c _ _ _ _ _ ys xs _ (h'.grow hQ.grow) (h.grow hQ.grow) hn).mono ?_
      rintro e w2 ⟨rfl, hQ2⟩
      go_wp2
      go_ret
      exact ⟨ret_bool (by rw [hs.out, H1.out]; rfl), hQ.trans hQ2⟩
  · have hb : ((n : Int) == (m : Int)) = false := by simp; omega
    go_enter Try.func103, Try.ntmps103
    go_wp2
    go_ret
    refine ⟨ret_bool (Eq.symm (decide_eq_false ?_)), Qt.refl _⟩
    intro e; subst e; omega

set_option maxHeartbeats 400000 in
theorem l32Find_c {S T : Nat → Prop} (a b : Option Addr) (n m cap cap' : Nat) (l : List (List Int)) (s : List Int) (w : World) (h : RdII w S a n cap l) (h' : RdI w T b m cap' s) (hn : n ≤ 2097152) (ht : total l ≤ 2097152) (hm : m ≤ 2097152) :
    Calls Try.prog 71 #[.slice a n cap, .slice b m cap'] w fun e w' => e = .returned (.int .i64 (findI l s)) ∧ Qt w w' := by
  have hl := h.len
  go_enter Try.func71, Try.ntmps71
  go_wp2
  go_loopw [5] (fun i wr => Qt w wr ∧ ∃ k : Nat, k ≤ n ∧ i = .int .i64 k ∧ s ∉ l.take k) (fun i _ => n - (intOf i).toNat)
  case atStart => exact ⟨Qt.refl _, 0, Nat.zero_le _, rfl, by simp⟩
  case round =>
    obtain ⟨hG, k, hk, rfl, he⟩ := hrel
    have He := Lib.hid he; clear he
    by_cases hlt : k < n
    · obtain ⟨b1, off1, xs, a1, c1, rfl, hx, _, hbw, hc, hrd⟩ := (h.grow hG.grow).at hlt
      have hxl : xs.length ≤ 2097152 := by have := total_at hx; omega
      have Hx := Lib.hid hx; clear hx
      cases hxy : sameI xs s with
      | true =>
        have Hxy := Lib.hid hxy; clear hxy
        go_wp2_with (go_at_call 103; refine (l32Same_c _ _ _ _ _ _ xs s _ hrd (h'.grow hG.grow) hxl hm).mono ?_; rintro e w' ⟨rfl, hQ⟩; rw [Hxy.out])
        go_ret
        refine ⟨ret_int ?_, hG.trans hQ⟩
        have e : xs = s := by have := Hxy.out; unfold sameI at this; simpa using this
        rw [findI_at He.out (by rw [Hx.out, e])]
      | false =>
        have Hxy := Lib.hid hxy; clear hxy
        go_wp2_with (go_at_call 103; refine (l32Same_c _ _ _ _ _ _ xs s _ hrd (h'.grow hG.grow) hxl hm).mono ?_; rintro e w' ⟨rfl, hQ⟩; rw [Hxy.out])
        go_roundw
        case rel =>
          refine ⟨hG.trans hQ, k + 1, by omega, by go_num, ?_⟩
          rw [take_succ Hx.out, List.mem_append, List.mem_singleton]
          rintro (h1 | h1)
          · exact He.out h1
          · have := Hxy.out; unfold sameI at this; simp [h1] at this
        case measure => simp [intOf]; omega
    · go_wp2
      go_ret
      have : k = n := by omega
      subst this
      refine ⟨ret_int ?_, hG⟩
      have := He.out
      rw [take_all hl] at this
      rw [findI_no this]

/-! ### The program's: a closure that compares with what it captured -/
set_option maxHeartbeats 400000 in
theorem indexClosure_c {S T : Nat → Prop} (a b : Option Addr) (n m cap cap' g : Nat) (xs s : List Int) (w : World) (h : RdI w S a n cap xs) (hg : w.cell? ⟨g, 0, none⟩ = some (.slice b m cap')) (h' : RdI w T b m cap' s) (hn : n ≤ 2097152) :
    Calls Try.prog 110 #[.slice a n cap, .pointer (some ⟨g, 0, none⟩)] w fun e w' => e = .returned (.bool (sameI xs s)) ∧ Qt w w' := by
  go_enter Try.func110, Try.ntmps110
  go_wp2_with (go_at_call 83; refine (equalI_c _ _ _ _ _ _ xs s _ h h' hn).mono ?_; rintro e w' ⟨rfl, hQ⟩)
  go_ret
  exact ⟨rfl, hQ⟩

set_option maxHeartbeats 400000 in
theorem indexFunc_c {S T : Nat → Prop} (a b : Option Addr) (n m cap cap' g : Nat) (l : List (List Int)) (s : List Int) (w : World) (h : RdII w S a n cap l) (hg : w.cell? ⟨g, 0, none⟩ = some (.slice b m cap')) (h' : RdI w T b m cap' s) (hn : n ≤ 2097152) (ht : total l ≤ 2097152) :
    Calls Try.prog 109 #[.slice a n cap, .func (.func 110) #[] #[.pointer (some ⟨g, 0, none⟩)]] w fun e w' => e = .returned (.int .i64 (findI l s)) ∧ Qt w w' := by
  have hl := h.len
  go_enter Try.func109, Try.ntmps109
  go_wp2
  go_loopw [8] (fun i wr => Qt w wr ∧ ∃ k : Nat, k ≤ n ∧ i = .int .i64 k ∧ s ∉ l.take k) (fun i _ => n - (intOf i).toNat)
  case atStart => exact ⟨Qt.refl _, 0, Nat.zero_le _, rfl, by simp⟩
  case round =>
    obtain ⟨hG, k, hk, rfl, he⟩ := hrel
    have He := Lib.hid he; clear he
    by_cases hlt : k < n
    · obtain ⟨b1, off1, xs, a1, c1, rfl, hx, _, hbw, hc, hrd⟩ := (h.grow hG.grow).at hlt
      have hxl : xs.length ≤ 2097152 := by have := total_at hx; omega
      have Hx := Lib.hid hx; clear hx
      cases hxy : sameI xs s with
      | true =>
        have Hxy := Lib.hid hxy; clear hxy
        go_wp2_with fail
        refine (indexClosure_c _ _ _ _ _ _ g xs s _ hrd (hG.grow.cell hg) (h'.grow hG.grow) hxl).mono ?_
        rintro e w' ⟨rfl, hQ⟩
        rw [Hxy.out]
        go_wp2
        go_ret
        refine ⟨ret_int ?_, hG.trans hQ⟩
        have e : xs = s := by have := Hxy.out; unfold sameI at this; simpa using this
        rw [findI_at He.out (by rw [Hx.out, e])]
      | false =>
        have Hxy := Lib.hid hxy; clear hxy
        go_wp2_with fail
        refine (indexClosure_c _ _ _ _ _ _ g xs s _ hrd (hG.grow.cell hg) (h'.grow hG.grow) hxl).mono ?_
        rintro e w' ⟨rfl, hQ⟩
        rw [Hxy.out]
        go_wp2
        go_roundw
        case rel =>
          refine ⟨hG.trans hQ, k + 1, by omega, by go_num, ?_⟩
          rw [take_succ Hx.out, List.mem_append, List.mem_singleton]
          rintro (h1 | h1)
          · exact He.out h1
          · have := Hxy.out; unfold sameI at this; simp [h1] at this
        case measure => simp [intOf]; omega
    · go_wp2
      go_ret
      have : k = n := by omega
      subst this
      refine ⟨ret_int ?_, hG⟩
      have := He.out
      rw [take_all hl] at this
      rw [findI_no this]

set_option maxHeartbeats 400000 in
theorem indexOfSimplex_c {S T : Nat → Prop} (a b : Option Addr) (n m cap cap' : Nat) (l : List (List Int)) (s : List Int) (w : World) (h : RdII w S a n cap l) (h' : RdI w T b m cap' s) (hn : n ≤ 2097152) (ht : total l ≤ 2097152) :
    Calls Try.prog 77 #[.slice a n cap, .slice b m cap'] w fun e w' => e = .returned (.int .i64 (findI l s)) ∧ Grow w w' := by
  have hmf : ∀ (fn : Fn) (first cap : Array Value) (w : World), (Instr.makeFunc fn first cap).run Try.prog w = .ok (.func fn first cap) w := fun _ _ _ _ => rfl
  have hG1 : Grow w (w.alloc (.cells #[.slice b m cap'] 22)) := (Grow.refl w).alloc _ _
  have hcell : (w.alloc (.cells #[.slice b m cap'] 22)).cell? ⟨w.heap.size, 0, none⟩ = some (.slice b m cap') := World.cell?_alloc_at _ _ _ _ rfl
  go_enter Try.func77, Try.ntmps77
  go_wp2_with fail
  refine (indexFunc_c _ _ _ _ _ _ _ l s _ (h.grow hG1) hcell (h'.grow hG1) hn ht).mono ?_
  rintro e w' ⟨rfl, hQ⟩
  go_wp2
  go_ret
  exact ⟨rfl, hG1.trans hQ.grow⟩

/-! ### The order as a number -/
def cmpL : List Int → List Int → Int
  | x :: xs, y :: ys => if x = y then cmpL xs ys else if x < y then -1 else 1
  | [], _ :: _ => -1
  | _ :: _, [] => 1
  | [], [] => 0
theorem cmpL_same : ∀ {k : Nat} {xs ys : List Int}, xs.take k = ys.take k → k ≤ ys.length → cmpL xs ys = cmpL (xs.drop k) (ys.drop k)
  | 0, _, _, _, _ => rfl
  | k + 1, [], ys, h, hk => by
    cases ys with
    | nil => rfl
    | cons y ys => simp at h
  | k + 1, x :: xs, [], h, hk => by simp at h
  | k + 1, x :: xs, y :: ys, h, hk => by
    simp only [List.take_succ_cons, List.cons.injEq] at h
    obtain ⟨rfl, h⟩ := h
    simp only [cmpL, if_true, List.drop_succ_cons]
    exact cmpL_same h (by simpa using hk)
theorem cmpL_less : ∀ {xs ys : List Int}, xs.length = ys.length → (cmpL xs ys < 0 ↔ lessL xs ys = true)
  | [], [], _ => by simp [cmpL, lessL]
  | [], y :: ys, h => by simp at h
  | x :: xs, [], h => by simp at h
  | x :: xs, y :: ys, h => by
    simp only [List.length_cons, Nat.add_right_cancel_iff] at h
    simp only [cmpL, lessL]
    by_cases e : x = y
    · rw [if_pos e, if_pos e]; exact cmpL_less h
    · rw [if_neg e, if_neg e]
      by_cases e2 : x < y <;> simp [e2]
def cmpS (a b : List Int) : Int := if a.length = b.length then cmpL a b else a.length - b.length
theorem cmpS_before (a b : List Int) : cmpS a b < 0 ↔ beforeB a b = true := by
  unfold cmpS beforeB
  by_cases h : a.length = b.length
  · rw [if_pos h, if_pos h]; exact cmpL_less h
  · rw [if_neg h, if_neg h]; simp; omega
theorem cmpL_rng : ∀ (xs ys : List Int), -1 ≤ cmpL xs ys ∧ cmpL xs ys ≤ 1
  | [], [] => by simp [cmpL]
  | [], y :: ys => by simp [cmpL]
  | x :: xs, [] => by simp [cmpL]
  | x :: xs, y :: ys => by
    have := cmpL_rng xs ys
    simp only [cmpL]
    split
    · exact this
    · split <;> omega

def cmpI (x y : Int) : Int := if x < y then -1 else if y < x then 1 else 0
set_option maxHeartbeats 400000 in
theorem cmpI_c (x y : Int) (w : World) : Calls Try.prog 138 #[.int .i64 x, .int .i64 y] w fun e w' => e = .returned (.int .i64 (cmpI x y)) ∧ w = w' := by
  have e1 : (x == x) = true := by simp
  have e2 : (y == y) = true := by simp
  go_enter Try.func138, Try.ntmps138
  go_wp2
  all_goals (go_ret; exact ⟨ret_int (by unfold cmpI; first | rw [if_pos (by omega)] | rw [if_neg (by omega), if_pos (by omega)] | rw [if_neg (by omega), if_neg (by omega)]), rfl⟩)

set_option maxHeartbeats 400000 in
theorem compareI_c {S T : Nat → Prop} (a b : Option Addr) (n m cap cap' : Nat) (xs ys : List Int) (w : World) (h : RdI w S a n cap xs) (h' : RdI w T b m cap' ys) (hn : n ≤ 2097152) (_hm : m ≤ 2097152) :
    Calls Try.prog 132 #[.slice a n cap, .slice b m cap'] w fun e w' => e = .returned (.int .i64 (cmpL xs ys)) ∧ w = w' := by
  have hl := h.len
  have hl' := h'.len
  go_enter Try.func132, Try.ntmps132
  go_wp2
  go_loop [11] (fun i => ∃ k : Nat, k ≤ n ∧ k ≤ m ∧ i = .int .i64 k ∧ xs.take k = ys.take k) (fun i => n - (intOf i).toNat)
  case atStart => exact ⟨0, Nat.zero_le _, Nat.zero_le _, rfl, rfl⟩
  case round =>
    obtain ⟨k, hk, hkm, rfl, he⟩ := hrel
    have He := Lib.hid he; clear he
    by_cases hlt : k < n
    · obtain ⟨b1, off1, x, rfl, hx, hxr, _, hbw, hc⟩ := h.at hlt
      have hdx : xs.drop k = x :: xs.drop (k + 1) := by obtain ⟨h1, rfl⟩ := List.getElem?_eq_some_iff.1 hx; exact List.drop_eq_getElem_cons h1
      have Hdx := Lib.hid hdx; clear hdx
      have Hx := Lib.hid hx; clear hx
      by_cases hlt2 : k < m
      · obtain ⟨b2, off2, y, rfl, hy, hyr, _, hbw2, hc2⟩ := h'.at hlt2
        have hdy : ys.drop k = y :: ys.drop (k + 1) := by obtain ⟨h1, rfl⟩ := List.getElem?_eq_some_iff.1 hy; exact List.drop_eq_getElem_cons h1
        have Hdy := Lib.hid hdy; clear hdy
        have Hy := Lib.hid hy; clear hy
        have hs := Lib.hid (cmpL_same He.out (by omega))
        by_cases hxy : x = y
        · subst hxy
          have hz : cmpI x x = 0 := by simp [cmpI]
          go_wp2_with (go_at_call 138; refine (cmpI_c _ _ _).mono ?_; rintro e w' ⟨rfl, rfl⟩; rw [hz])
          go_round
          case rel => exact ⟨k + 1, by omega, by omega, by go_num, by rw [take_succ Hx.out, take_succ Hy.out, He.out]⟩
          case measure => simp [intOf]; omega
        · by_cases hlt3 : x < y
          · have hz : cmpI x y = -1 := by simp [cmpI, hlt3]
            go_wp2_with (go_at_call 138; refine (cmpI_c _ _ _).mono ?_; rintro e w' ⟨rfl, rfl⟩; rw [hz])
            go_ret
            exact ⟨ret_int (by rw [hs.out, Hdx.out, Hdy.out]; simp only [cmpL]; rw [if_neg hxy, if_pos hlt3]), rfl⟩
          · have hz : cmpI x y = 1 := by unfold cmpI; rw [if_neg hlt3, if_pos (by omega)]
            have hlt4 := Lib.hid hlt3; clear hlt3
            go_wp2_with (go_at_call 138; refine (cmpI_c _ _ _).mono ?_; rintro e w' ⟨rfl, rfl⟩; rw [hz])
            go_ret
            exact ⟨ret_int (by rw [hs.out, Hdx.out, Hdy.out]; simp only [cmpL]; rw [if_neg hxy, if_neg (by have := hlt4.out; omega)]), rfl⟩
      · go_wp2
        go_ret
        refine ⟨ret_int ?_, rfl⟩
        have hyd : ys.drop k = [] := by rw [List.drop_eq_nil_iff]; omega
        rw [cmpL_same He.out (by omega), Hdx.out, hyd]; rfl
    · have : k = n := by omega
      subst this
      by_cases hlt2 : k < m
      · go_wp2
        go_ret
        refine ⟨ret_int ?_, rfl⟩
        have hxd : xs.drop k = [] := by rw [List.drop_eq_nil_iff]; omega
        rw [cmpL_same He.out (by omega), hxd, List.drop_eq_getElem_cons (show k < ys.length by omega)]; rfl
      · go_wp2
        go_ret
        refine ⟨ret_int ?_, rfl⟩
        have hxd : xs.drop k = [] := by rw [List.drop_eq_nil_iff]; omega
        have hyd : ys.drop k = [] := by rw [List.drop_eq_nil_iff]; omega
        rw [cmpL_same He.out (by omega), hxd, hyd]; rfl

set_option maxHeartbeats 400000 in
theorem compareSimplices_c {S T : Nat → Prop} (a b : Option Addr) (n m cap cap' : Nat) (xs ys : List Int) (w : World) (h : RdI w S a n cap xs) (h' : RdI w T b m cap' ys) (hn : n ≤ 2097152) (hm : m ≤ 2097152) :
    Calls Try.prog 108 #[.slice a n cap, .slice b m cap'] w fun e w' => e = .returned (.int .i64 (cmpS xs ys)) ∧ w = w' := by
  have hl := h.len
  have hl' := h'.len
  by_cases hnm : n = m
  · subst hnm
    go_enter Try.func108, Try.ntmps108
    go_wp2_with (go_at_call 132; refine (compareI_c _ _ _ _ _ _ xs ys _ h h' hn hm).mono ?_; rintro e w' ⟨rfl, rfl⟩)
    go_ret
    exact ⟨ret_int (by unfold cmpS; rw [if_pos (by omega)]), rfl⟩
  · have hb : ((n : Int) == (m : Int)) = false := by simp; omega
    go_enter Try.func108, Try.ntmps108
    go_wp2
    go_ret
    refine ⟨ret_int ?_, rfl⟩
    unfold cmpS; rw [if_neg (by omega), hl, hl']
end Go.Proofs.Ythlncohllbmapaa
