/-
  LinkOf: the program's walk.
-/
import Derived.Test.YteianlmindckpaaSortC
namespace Go.Proofs.Yteianlmindckpaa
open Go.RowKit

abbrev Asc (l : List Int) : Prop := l.Pairwise (· < ·)
theorem asc_ext : ∀ {A B : List Int}, Asc A → Asc B → (∀ x, x ∈ A ↔ x ∈ B) → A = B
  | [], [], _, _, _ => rfl
  | [], b :: B, _, _, h => by have := (h b).2 (by simp); simp at this
  | a :: A, [], _, _, h => by have := (h a).1 (by simp); simp at this
  | a :: A, b :: B, hA, hB, h => by
    rw [Asc, List.pairwise_cons] at hA hB
    have hab : a = b := by
      rcases List.mem_cons.1 ((h a).1 (by simp)) with e | h1
      · exact e
      · rcases List.mem_cons.1 ((h b).2 (by simp)) with e | h2
        · exact e.symm
        · have := hB.1 a h1; have := hA.1 b h2; omega
    subst hab
    rw [asc_ext hA.2 hB.2 fun x => ?_]
    constructor
    · intro hx
      rcases List.mem_cons.1 ((h x).1 (by simp [hx])) with e | hx'
      · subst e; have := hA.1 x hx; omega
      · exact hx'
    · intro hx
      rcases List.mem_cons.1 ((h x).2 (by simp [hx])) with e | hx'
      · subst e; have := hB.1 x hx; omega
      · exact hx'
theorem mem_del {s : List Int} {i : Nat} {v z : Int} (h : s[i]? = some v) : z ∈ s ↔ z ∈ del s i ∨ z = v := by
  obtain ⟨hi, rfl⟩ := List.getElem?_eq_some_iff.1 h
  have e : s = s.take i ++ (s[i] :: s.drop (i + 1)) := by rw [← List.drop_eq_getElem_cons hi, List.take_append_drop]
  conv => lhs; rw [e]
  unfold del
  simp only [List.mem_append, List.mem_cons]
  constructor
  · rintro (h | h | h)
    · exact .inl (.inl h)
    · exact .inr h
    · exact .inl (.inr h)
  · rintro ((h | h) | h)
    · exact .inl h
    · exact .inr (.inr h)
    · exact .inr (.inl h)
theorem del_inj {a b : List Int} {i j : Nat} {v : Int} (ha : Asc a) (hb : Asc b) (hi : a[i]? = some v) (hj : b[j]? = some v) (h : del a i = del b j) : a = b :=
  asc_ext ha hb fun x => by rw [mem_del hi, mem_del hj, h]
theorem simp_asc {s : List Int} (h : isSimpB s = true) : Asc s := by
  unfold isSimpB at h; rw [decide_eq_true_eq] at h; exact h.1.2
/-- Where v stands in s. -/
def idxI (s : List Int) (v : Int) : Int := firstIdx (fun x => decide (x = v)) s
theorem linkRow_no {s : List Int} {v : Int} : ∀ {k : Nat}, (∀ j, j < k → s[j]? ≠ some v) → linkRow s v k = []
  | 0, _ => rfl
  | k + 1, h => by
    rw [linkRow_succ, linkRow_no fun j hj => h j (by omega)]
    unfold linkOne
    rw [if_neg fun hc => h k (by omega) hc.1]; rfl
theorem linkRow_pick {s : List Int} {v : Int} (ha : Asc s) : linkRow s v s.length = if 0 ≤ idxI s v ∧ 1 < s.length then [del s (idxI s v).toNat] else [] := by
  by_cases h0 : 0 ≤ idxI s v
  · have hlt := (firstIdx_lo (fun x => decide (x = v)) s).2
    obtain ⟨k, hk⟩ : ∃ k : Nat, idxI s v = k := ⟨(idxI s v).toNat, by omega⟩
    have hkl : k < s.length := by unfold idxI at hk; omega
    have hv : v ∈ s := by
      have := (firstIdx_mem (fun x => decide (x = v)) s).1 h0
      rw [List.any_eq_true] at this
      obtain ⟨x, hx, he⟩ := this
      rw [decide_eq_true_eq] at he
      rw [← he]; exact hx
    obtain ⟨q, hq, rfl⟩ := List.mem_iff_getElem.1 hv
    have hoth : ∀ j, j < s.length → j ≠ q → s[j]? ≠ some s[q] := fun j hj hne e => by
      rw [List.getElem?_eq_getElem hj] at e
      have e' := Option.some.inj e
      rcases Nat.lt_or_gt_of_ne hne with hl | hl
      · have := List.pairwise_iff_getElem.1 ha j q hj hq hl; omega
      · have := List.pairwise_iff_getElem.1 ha q j hq hj hl; omega
    have hkq : idxI s s[q] = q := firstIdx_at (fun y hy => by
      obtain ⟨j, hj, rfl⟩ := List.mem_iff_getElem.1 hy
      rw [List.length_take] at hj
      rw [List.getElem_take]
      rw [decide_eq_false_iff_not]
      intro e
      exact hoth j (by omega) (by omega) (by rw [List.getElem?_eq_getElem (by omega), e])) (List.getElem?_eq_getElem hq) (by simp)
    rw [hkq]
    have hsplit : ∀ k, q < k → k ≤ s.length → linkRow s s[q] k = linkOne s s[q] q := by
      intro k
      induction k with
      | zero => intro h; omega
      | succ k ih =>
        intro h1 h2
        rw [linkRow_succ]
        by_cases e : k = q
        · subst e; rw [linkRow_no fun j hj => hoth j (by omega) (by omega)]; rfl
        · rw [ih (by omega) (by omega)]
          have : linkOne s s[q] k = [] := by unfold linkOne; rw [if_neg fun hc => hoth k (by omega) e hc.1]
          rw [this, List.append_nil]
    rw [hsplit s.length hq (Nat.le_refl _)]
    unfold linkOne
    rw [List.getElem?_eq_getElem hq]
    simp
  · rw [if_neg fun h => h0 h.1]
    refine linkRow_no fun j hj e => h0 ?_
    unfold idxI
    rw [firstIdx_mem, List.any_eq_true]
    exact ⟨v, List.mem_of_getElem? e, by simp⟩
theorem linkAll_nodup {l : List (List Int)} (v : Int) (h : isCplxB l = true) (hn : l.Nodup) : (linkAll l v).Nodup := by
  have hs := (isCplxB_iff.1 h).1.1
  unfold linkAll
  rw [List.Nodup, List.pairwise_flatMap]
  refine ⟨fun s hsl => ?_, ?_⟩
  · rw [linkRow_pick (simp_asc (hs s hsl))]
    split <;> simp
  · refine hn.imp_of_mem fun {a b} ha hb hab x hx y hy e => hab ?_
    subst e
    obtain ⟨i, _, hi, _, rfl⟩ := linkRow_mem hx
    obtain ⟨j, _, hj, _, e2⟩ := linkRow_mem hy
    exact del_inj (simp_asc (hs a ha)) (simp_asc (hs b hb)) hi hj e2
theorem ord_nodup {l : List (List Int)} (h : Ord l) : l.Nodup := h.imp fun {a b} hab e => by subst e; rw [beforeB_irr] at hab; cases hab

set_option maxHeartbeats 1000000 in
theorem indexInt_c {S : Nat → Prop} (a : Option Addr) (n cap : Nat) (s : List Int) (v : Int) (w : World) (h : RdI w S a n cap s) (hn : n ≤ 2097152) :
    Calls Try.prog 43 #[.slice a n cap, .int .i64 v] w fun e w' => e = .returned (.int .i64 (idxI s v)) ∧ w = w' := by
  have Hl := Lib.hid h.len
  go_enter Try.func43, Try.ntmps43
  go_wp2
  go_loop [8] (fun i => ∃ k : Nat, k ≤ n ∧ i = .int .i64 k ∧ ∀ x ∈ s.take k, decide (x = v) = false) (fun i => n - (intOf i).toNat)
  case atStart => exact ⟨0, Nat.zero_le _, rfl, by simp⟩
  case round =>
    obtain ⟨k, hk, rfl, he⟩ := hrel
    have He := Lib.hid he; clear he
    by_cases hlt : k < n
    · obtain ⟨b, off, x, rfl, hx, hxr, _, hbw, hc⟩ := h.at hlt
      have Hx := Lib.hid hx; clear hx
      by_cases hd : x = v
      · have hq2 : (v == x) = true := by simp [hd]
        have Hd := Lib.hid hd; clear hd
        go_wp2
        go_ret
        exact ⟨ret_int (firstIdx_at He.out Hx.out (by rw [Hd.out]; simp)).symm, rfl⟩
      · have hq2 : (v == x) = false := by simp; exact fun e => hd e.symm
        have Hd := Lib.hid hd; clear hd
        go_wp2
        go_round
        case rel =>
          refine ⟨k + 1, by omega, by go_num, fun z hz => ?_⟩
          rw [take_succ Hx.out, List.mem_append, List.mem_singleton] at hz
          rcases hz with hz | rfl
          · exact He.out z hz
          · simpa using Hd.out
        case measure => simp [intOf]; omega
    · go_wp2
      go_ret
      have : k = n := by omega
      subst this
      have := He.out
      rw [take_all Hl.out] at this
      exact ⟨ret_int (firstIdx_no this).symm, rfl⟩
end Go.Proofs.Yteianlmindckpaa
