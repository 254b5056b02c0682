/-
  Whether a simplex is another one without a vertex; the first simplex that is a face of just one: the program's and the reference's.
-/
import Derived.Test.YteijmppjdljedaaZOrder
namespace Go.Proofs.Yteijmppjdljedaa
open Go.RowKit

theorem del_sub' {xs : List Int} {k : Nat} {z : Int} (h : z ∈ del xs k) : z ∈ xs := by
  unfold del at h
  rcases List.mem_append.1 h with h | h
  · exact List.mem_of_mem_take h
  · exact List.mem_of_mem_drop h
def isFaceB (s t : List Int) : Bool := (List.range t.length).any fun k => sameI s (del t k)
theorem isFaceB_yes {s t : List Int} {k : Nat} (hk : k < t.length) (h : sameI s (del t k) = true) : isFaceB s t = true := by
  unfold isFaceB; rw [List.any_eq_true]; exact ⟨k, by simpa using hk, h⟩
theorem isFaceB_no {s t : List Int} (h : ∀ k, k < t.length → sameI s (del t k) = false) : isFaceB s t = false := by
  unfold isFaceB; rw [List.any_eq_false]; intro k hk; simp at hk; simp [h k hk]

set_option maxHeartbeats 1000000 in
theorem isFaceOf_c {S T : Nat → Prop} (a b : Option Addr) (n m cap cap' : Nat) (xs ys : List Int) (w : World) (h : RdI w S a n cap xs) (h' : RdI w T b m cap' ys) (hn : n ≤ 1048576) (hm : m ≤ 1048576) :
    Calls Try.prog 17 #[.slice a n cap, .slice b m cap'] w fun e w' => e = .returned (.bool (isFaceB xs ys)) ∧ Grow w w' := by
  have hl' := h'.len
  go_enter Try.func17, Try.ntmps17
  go_wp2
  go_loopw [8] (fun i wr => Grow w wr ∧ ∃ k : Nat, k ≤ m ∧ i = .int .i64 k ∧ ∀ j, j < k → sameI xs (del ys j) = false) (fun i _ => m - (intOf i).toNat)
  case atStart => exact ⟨Grow.refl _, 0, Nat.zero_le _, rfl, fun _ h => by omega⟩
  case round =>
    obtain ⟨hG, k, hk, rfl, hin⟩ := hrel
    have Hin := Lib.hid hin; clear hin
    by_cases hlt : k < m
    · go_wp2_with fail
      refine (without_c _ _ _ k ys _ (h'.grow hG) hlt (by omega)).mono ?_
      rintro e w1 ⟨a3, c3, rfl, hO3, _, hG3⟩
      have hr3 := hO3.rdI (S := fun _ => True) (fun _ _ => trivial) (fun z hz => h'.rng z (del_sub' hz))
      have hG1 := hG.trans hG3
      go_wp2_with fail
      refine (equalI_c _ _ _ _ _ _ xs (del ys k) _ (h.grow hG1) hr3 (by omega)).mono ?_
      rintro e w2 ⟨rfl, hQ⟩
      have hG2 := hG1.trans hQ.grow
      cases hs : sameI xs (del ys k) with
      | true =>
        have Hs := Lib.hid hs; clear hs
        go_wp2
        go_ret
        exact ⟨ret_bool (isFaceB_yes (by omega) Hs.out).symm, hG2⟩
      | false =>
        have Hs := Lib.hid hs; clear hs
        go_wp2
        go_roundw
        case rel =>
          refine ⟨hG2, k + 1, by omega, by go_num, fun j hj => ?_⟩
          by_cases e : j = k
          · subst e; exact Hs.out
          · exact Hin.out j (by omega)
        case measure => simp [intOf]; omega
    · go_wp2
      go_ret
      exact ⟨ret_bool (isFaceB_no fun j hj => Hin.out j (by omega)).symm, hG⟩

set_option maxHeartbeats 1000000 in
theorem l35Face_c {S T : Nat → Prop} (a b : Option Addr) (n m cap cap' : Nat) (xs ys : List Int) (w : World) (h : RdI w S a n cap xs) (h' : RdI w T b m cap' ys) (hn : n ≤ 1048576) (hm : m ≤ 1048576) :
    Calls Try.prog 21 #[.slice a n cap, .slice b m cap'] w fun e w' => e = .returned (.bool (isFaceB xs ys)) ∧ Grow w w' := by
  have hl' := h'.len
  go_enter Try.func21, Try.ntmps21
  go_wp2
  go_loopw [5] (fun i wr => Grow w wr ∧ ∃ k : Nat, k ≤ m ∧ i = .int .i64 k ∧ ∀ j, j < k → sameI xs (del ys j) = false) (fun i _ => m - (intOf i).toNat)
  case atStart => exact ⟨Grow.refl _, 0, Nat.zero_le _, rfl, fun _ h => by omega⟩
  case round =>
    obtain ⟨hG, k, hk, rfl, hin⟩ := hrel
    have Hin := Lib.hid hin; clear hin
    by_cases hlt : k < m
    · go_wp2_with fail
      refine (l32Face_c _ _ _ k ys _ (h'.grow hG) hlt (by omega)).mono ?_
      rintro e w1 ⟨a3, c3, rfl, hO3, _, hG3⟩
      have hr3 := hO3.rdI (S := fun _ => True) (fun _ _ => trivial) (fun z hz => h'.rng z (del_sub' hz))
      have hG1 := hG.trans hG3
      go_wp2_with fail
      refine (l32Same_c _ _ _ _ _ _ xs (del ys k) _ (h.grow hG1) hr3 (by omega) (by rw [del_len (by omega)]; omega)).mono ?_
      rintro e w2 ⟨rfl, hQ⟩
      have hG2 := hG1.trans hQ.grow
      cases hs : sameI xs (del ys k) with
      | true =>
        have Hs := Lib.hid hs; clear hs
        go_wp2
        go_ret
        exact ⟨ret_bool (isFaceB_yes (by omega) Hs.out).symm, hG2⟩
      | false =>
        have Hs := Lib.hid hs; clear hs
        go_wp2
        go_roundw
        case rel =>
          refine ⟨hG2, k + 1, by omega, by go_num, fun j hj => ?_⟩
          by_cases e : j = k
          · subst e; exact Hs.out
          · exact Hin.out j (by omega)
        case measure => simp [intOf]; omega
    · go_wp2
      go_ret
      exact ⟨ret_bool (isFaceB_no fun j hj => Hin.out j (by omega)).symm, hG⟩

/-- The places of the simplices of which s is a face, among the first k; how many, and the last. -/
def over (l : List (List Int)) (s : List Int) : Nat → Int × Int
  | 0 => (0, -1)
  | k + 1 => if isFaceB s (l.getD k []) = true then ((over l s k).1 + 1, (k : Int)) else over l s k
theorem over_rng (l : List (List Int)) (s : List Int) (k : Nat) : 0 ≤ (over l s k).1 ∧ (over l s k).1 ≤ k ∧ -1 ≤ (over l s k).2 ∧ (over l s k).2 < k := by
  induction k with
  | zero => simp [over]
  | succ k ih => unfold over; split <;> simp <;> omega
theorem getD_of {l : List (List Int)} {k : Nat} {x : List Int} (h : l[k]? = some x) : l.getD k [] = x := by simp [List.getD, h]
/-- The first that is a face of just one, and that one; from the i-th on, f at most. -/
def freeFrom (l : List (List Int)) : Nat → Nat → Int × Int
  | _, 0 => (-1, -1)
  | i, f + 1 => if (over l (l.getD i []) l.length).1 = 1 then ((i : Int), (over l (l.getD i []) l.length).2) else freeFrom l (i + 1) f
def freeB (l : List (List Int)) : Int × Int := freeFrom l 0 l.length
theorem freeFrom_rng (l : List (List Int)) : ∀ (f i : Nat), -1 ≤ (freeFrom l i f).1 ∧ (freeFrom l i f).1 < i + f ∧ (0 ≤ (freeFrom l i f).1 → (i : Int) ≤ (freeFrom l i f).1)
  | 0, i => by simp [freeFrom]; omega
  | f + 1, i => by
    have := freeFrom_rng l f (i + 1)
    unfold freeFrom; split
    · simp; omega
    · omega

end Go.Proofs.Yteijmppjdljedaa
