/-
  IsComplex: the program's and the reference's return whether a list is a complex.
-/
import Derived.Test.YthlncohllbmapaaOrder
import Derived.Test.YthlncohllbmapaaSimp
import Derived.Test.YthlncohllbmapaaWithout
import Derived.Test.YthlncohllbmapaaFaces
namespace Go.Proofs.Ythlncohllbmapaa
open Go.RowKit

theorem lessL_trans : ∀ {a b c : List Int}, a.length = b.length → b.length = c.length → lessL a b = true → lessL b c = true → lessL a c = true
  | [], [], _, _, _, h, _ => by simp [lessL] at h
  | [], _ :: _, _, h, _, _, _ => by simp at h
  | _ :: _, [], _, h, _, _, _ => by simp at h
  | _ :: _, _ :: _, [], _, h, _, _ => by simp at h
  | x :: xs, y :: ys, z :: zs, h1, h2, h3, h4 => by
    simp only [List.length_cons, Nat.add_right_cancel_iff] at h1 h2
    simp only [lessL] at h3 h4 ⊢
    by_cases e1 : x = y
    · subst e1
      by_cases e2 : x = z
      · subst e2; simp only [if_true] at h3 h4 ⊢; exact lessL_trans h1 h2 h3 h4
      · rw [if_neg e2] at h4 ⊢; exact h4
    · by_cases e2 : y = z
      · subst e2; rw [if_neg e1] at h3 ⊢; exact h3
      · rw [if_neg e1] at h3; rw [if_neg e2] at h4
        simp at h3 h4
        rw [if_neg (by omega)]; simp; omega
theorem beforeB_trans {a b c : List Int} (h1 : beforeB a b = true) (h2 : beforeB b c = true) : beforeB a c = true := by
  unfold beforeB at *
  by_cases e1 : a.length = b.length
  · rw [if_pos e1] at h1
    by_cases e2 : b.length = c.length
    · rw [if_pos e2] at h2; rw [if_pos (e1.trans e2)]; exact lessL_trans e1 e2 h1 h2
    · rw [if_neg e2] at h2; simp at h2; rw [if_neg (by omega)]; simp; omega
  · rw [if_neg e1] at h1; simp at h1
    by_cases e2 : b.length = c.length
    · rw [if_neg (by omega)]; simp; omega
    · rw [if_neg e2] at h2; simp at h2; rw [if_neg (by omega)]; simp; omega
theorem beforeB_len {a b : List Int} (h : beforeB a b = true) : a.length ≤ b.length := by
  unfold beforeB at h
  split at h
  · omega
  · simp at h; omega

/-- The first i are simplices, each behind the one before it. -/
def chainTo (l : List (List Int)) (i : Nat) : Prop := ∀ j x, j < i → l[j]? = some x → isSimpB x = true ∧ ∀ y, 0 < j → l[j - 1]? = some y → beforeB y x = true
theorem chainTo_all {l : List (List Int)} : chainTo l l.length ↔ (∀ s ∈ l, isSimpB s = true) ∧ l.Pairwise (fun a b => beforeB a b = true) := by
  constructor
  · intro h
    refine ⟨fun x hx => ?_, List.pairwise_iff_getElem.2 fun i j hi hj hij => ?_⟩
    · obtain ⟨j, hj, rfl⟩ := List.mem_iff_getElem.1 hx
      exact (h j _ hj (List.getElem?_eq_getElem hj)).1
    · induction j with
      | zero => omega
      | succ j ih =>
        have h1 := (h (j + 1) _ hj (List.getElem?_eq_getElem hj)).2 l[j] (by omega) (List.getElem?_eq_getElem (by omega))
        by_cases e : i = j
        · subst e; exact h1
        · exact beforeB_trans (ih (by omega) (by omega)) h1
  · rintro ⟨h1, h2⟩ j x hj hx
    obtain ⟨hj', rfl⟩ := List.getElem?_eq_some_iff.1 hx
    refine ⟨h1 _ (List.getElem_mem hj'), fun y h0 hy => ?_⟩
    obtain ⟨hj2, rfl⟩ := List.getElem?_eq_some_iff.1 hy
    exact List.pairwise_iff_getElem.1 h2 _ _ hj2 hj' (by omega)
theorem chainTo_succ {l : List (List Int)} {k : Nat} {x : List Int} (h : chainTo l k) (hx : l[k]? = some x) (h1 : isSimpB x = true) (h2 : ∀ y, 0 < k → l[k - 1]? = some y → beforeB y x = true) : chainTo l (k + 1) := fun j z hj hz => by
  by_cases e : j = k
  · subst e
    obtain rfl : x = z := Option.some.inj (hx.symm.trans hz)
    exact ⟨h1, h2⟩
  · exact h j z (by omega) hz

theorem del_sub {xs : List Int} {k : Nat} {z : Int} (h : z ∈ del xs k) : z ∈ xs := by
  unfold del at h
  rcases List.mem_append.1 h with h | h
  · exact List.mem_of_mem_take h
  · exact List.mem_of_mem_drop h
/-- What a complex is. -/
def closed (l : List (List Int)) : Prop := ∀ s ∈ l, 1 < s.length → ∀ k, k < s.length → del s k ∈ l
def few (l : List (List Int)) : Prop := ∀ k : Nat, k < 4 → (facesB l k).length ≤ 24
def IsCplx (l : List (List Int)) : Prop := ((∀ s ∈ l, isSimpB s = true) ∧ l.Pairwise (fun a b => beforeB a b = true)) ∧ closed l ∧ few l
open Classical in
noncomputable def isCplxB (l : List (List Int)) : Bool := decide (IsCplx l)
theorem isCplxB_iff {l : List (List Int)} : isCplxB l = true ↔ IsCplx l := by unfold isCplxB; simp
theorem isCplxB_no {l : List (List Int)} (h : ¬ IsCplx l) : isCplxB l = false := by unfold isCplxB; simp [h]

/-- The reference looks for a face among the ones before only. -/
theorem before_only {l : List (List Int)} (hc : (∀ s ∈ l, isSimpB s = true) ∧ l.Pairwise (fun a b => beforeB a b = true)) {i k : Nat} {x : List Int} (hx : l[i]? = some x) (hk : k < x.length) : del x k ∈ l ↔ del x k ∈ l.take i := by
  constructor
  · intro h
    obtain ⟨j, hj, e⟩ := List.mem_iff_getElem.1 h
    obtain ⟨hi, rfl⟩ := List.getElem?_eq_some_iff.1 hx
    have hd := del_len hk
    have hlt : j < i := by
      rcases Nat.lt_trichotomy j i with h1 | h1 | h1
      · exact h1
      · subst h1; rw [← e] at hd; omega
      · have := beforeB_len (List.pairwise_iff_getElem.1 hc.2 i j hi hj h1)
        rw [e] at this; omega
    rw [← e]
    exact List.mem_iff_getElem.2 ⟨j, by simp; omega, by simp⟩
  · exact fun h => List.mem_of_mem_take h

/-- The first i have their faces among those before. -/
def closedTo (l : List (List Int)) (i : Nat) : Prop := ∀ j x, j < i → l[j]? = some x → 1 < x.length → ∀ k, k < x.length → del x k ∈ l.take j
theorem closedTo_all {l : List (List Int)} (hc : (∀ s ∈ l, isSimpB s = true) ∧ l.Pairwise (fun a b => beforeB a b = true)) : closedTo l l.length ↔ closed l := by
  constructor
  · intro h s hs h1 k hk
    obtain ⟨j, hj, rfl⟩ := List.mem_iff_getElem.1 hs
    exact List.mem_of_mem_take (h j _ hj (List.getElem?_eq_getElem hj) h1 k hk)
  · intro h j x hj hx h1 k hk
    exact (before_only hc hx hk).1 (h x (List.mem_of_getElem? hx) h1 k hk)
theorem closedTo_succ {l : List (List Int)} {i : Nat} {x : List Int} (h : closedTo l i) (hx : l[i]? = some x) (h1 : 1 < x.length → ∀ k, k < x.length → del x k ∈ l.take i) : closedTo l (i + 1) := fun j z hj hz => by
  by_cases e : j = i
  · subst e
    obtain rfl : x = z := Option.some.inj (hx.symm.trans hz)
    exact h1
  · exact h j z (by omega) hz

theorem RdII.pre {w : World} {S : Nat → Prop} {a : Option Addr} {n cap : Nat} {l : List (List Int)} (h : RdII w S a n cap l) {k : Nat} (hk : k ≤ n) : RdII w S a k cap (l.take k) := by
  obtain ⟨⟨vs, h1, h2⟩, hl⟩ := h
  have hvl := h1.len
  refine ⟨⟨vs.take k, ⟨by simp; omega, by have := h1.le; omega, h1.max, h1.nil, fun hne => ?_⟩, fun i xs hi => ?_⟩, by simp; omega⟩
  · have : vs ≠ [] := by intro e; subst e; simp at hne
    obtain ⟨b, off, rfl, hS, hc⟩ := h1.addr this
    refine ⟨b, off, rfl, hS, fun j c hj => hc j c ?_⟩
    rw [List.getElem?_take] at hj
    split at hj
    · exact hj
    · cases hj
  · rw [List.getElem?_take] at hi
    split at hi
    · rename_i hik
      obtain ⟨b, c, h3, h4⟩ := h2 i xs hi
      exact ⟨b, c, by rw [List.getElem?_take, if_pos hik]; exact h3, h4⟩
    · cases hi

/-- The callees with their answers known, in every later world. -/
theorem simp_ans {S : Nat → Prop} {a : Option Addr} {n cap : Nat} {xs : List Int} {w : World} {b : Bool} (h : RdI w S a n cap xs) (hn : n ≤ 1048576) (hb : isSimpB xs = b) :
    ∀ W, Grow w W → Calls Try.prog 101 #[.slice a n cap] W fun e w' => e = .returned (.bool b) ∧ Qt W w' :=
  fun W hW => (specIsSimplex_c a n cap xs W (h.grow hW) hn).mono fun e w' ⟨he, hQ⟩ => ⟨by rw [he, hb], hQ⟩
theorem before_ans {S T : Nat → Prop} {a a' : Option Addr} {n n' cap cap' : Nat} {xs ys : List Int} {w : World} {b : Bool} (h : RdI w S a n cap xs) (h' : RdI w T a' n' cap' ys) (hn : n ≤ 1048576) (hn' : n' ≤ 1048576) (hb : beforeB xs ys = b) :
    ∀ W, Grow w W → Calls Try.prog 102 #[.slice a n cap, .slice a' n' cap'] W fun e w' => e = .returned (.bool b) ∧ Qt W w' :=
  fun W hW => (l32Before_c a a' n n' cap cap' xs ys W (h.grow hW) (h'.grow hW) (by omega) (by omega)).mono fun e w' ⟨he, hQ⟩ => ⟨by rw [he, hb], hQ⟩

set_option maxHeartbeats 4000000 in
set_option maxRecDepth 100000 in
theorem specIsComplex_c {S : Nat → Prop} (a : Option Addr) (n cap : Nat) (l : List (List Int)) (w : World) (h : RdII w S a n cap l) (hn : n ≤ 1048576) (ht : total l ≤ 1048576) :
    Calls Try.prog 68 #[.slice a n cap] w fun e w' => e = .returned (.bool (isCplxB l)) ∧ Grow w w' := by
  have hl := h.len
  go_enter Try.func68, Try.ntmps68
  go_wp2
  go_loopw [3] (fun i wr => Grow w wr ∧ ∃ k : Nat, k ≤ n ∧ i = .int .i64 k ∧ chainTo l k ∧ closedTo l k) (fun i _ => n - (intOf i).toNat)
  case atStart => exact ⟨Grow.refl _, 0, Nat.zero_le _, rfl, fun _ _ h => by omega, fun _ _ h => by omega⟩
  case round =>
    obtain ⟨hG, i, hi, rfl, hch, hcl⟩ := hrel
    have Hch := Lib.hid hch; clear hch
    have Hcl := Lib.hid hcl; clear hcl
    by_cases hlt : i < n
    · obtain ⟨b, off, x, a1, c1, rfl, hx, _, hbw, hc, hrd⟩ := (h.grow hG).at hlt
      have hxl : x.length ≤ 1048576 := by have := total_at hx; omega
      have Hx := Lib.hid hx; clear hx
      cases hs : isSimpB x with
      | false =>
        have cS := Lib.hid (simp_ans hrd hxl hs)
        have Hs := Lib.hid hs; clear hs
        go_wp2
        go_quiet ((go_at_call 101; exact Calls.quiet_qt (cS.out _ ((Grow.refl _).drewN _))))
        go_wp2
        go_ret
        refine ⟨ret_bool (isCplxB_no fun hC => ?_).symm, hG.drewN _⟩
        have := hC.1.1 x (List.mem_of_getElem? Hx.out)
        rw [Hs.out] at this; cases this
      | true =>
        have cS := Lib.hid (simp_ans hrd hxl hs)
        have Hs := Lib.hid hs; clear hs
        have hstep : (¬ 0 < i ∨ ∃ y, l[i - 1]? = some y ∧ beforeB y x = true) ∨ (0 < i ∧ ∃ y, l[i - 1]? = some y ∧ beforeB y x = false) := by
          by_cases hi0 : 0 < i
          · have hy : l[i - 1]? = some l[i - 1] := List.getElem?_eq_getElem (by omega)
            cases hbf : beforeB l[i - 1] x with
            | true => exact .inl (.inr ⟨_, hy, hbf⟩)
            | false => exact .inr ⟨hi0, _, hy, hbf⟩
          · exact .inl (.inl hi0)
        rcases hstep with hgood | ⟨hi0, y, hy, hbf⟩
        · have hch1 : chainTo l (i + 1) := chainTo_succ Hch.out Hx.out Hs.out (fun y h0 hy => by
            rcases hgood with h1 | ⟨y', hy', h1⟩
            · exact (h1 h0).elim
            · obtain rfl := Option.some.inj (hy.symm.trans hy'); exact h1)
          have Hch1 := Lib.hid hch1; clear hch1
          by_cases hi0 : 0 < i
          · obtain ⟨y, hy, hbf⟩ : ∃ y, l[i - 1]? = some y ∧ beforeB y x = true := by
              rcases hgood with h1 | h1
              · exact (h1 hi0).elim
              · exact h1
            clear hgood
            obtain ⟨b2, off2, y2, a2, c2, he2, hy2, _, _, hc2, hrd2⟩ := (h.grow hG).at (k := i - 1) (by omega)
            obtain ⟨rfl, rfl⟩ : b = b2 ∧ off = off2 := by simpa using he2
            obtain rfl : y = y2 := Option.some.inj (hy.symm.trans hy2)
            have hyl : y.length ≤ 1048576 := by have := total_at hy; omega
            have cB := Lib.hid (before_ans hrd2 hrd hyl hxl hbf)
            clear hbf hy hy2 he2
            go_wp2
            go_quiet ((first | (go_at_call 101; exact Calls.quiet_qt (cS.out _ ((Grow.refl _).drewN _))) | (go_at_call 102; exact Calls.quiet_qt (cB.out _ ((Grow.refl _).drewN _)))))
            go_wp2
            obtain ⟨wo, rfl⟩ : ∃ wo : World, wo = wr := ⟨_, rfl⟩
            have hGd : Grow wo (wo.drewN nq) := (Grow.refl wo).drewN nq
            go_loopw [4] (fun q wr => Grow wo wr ∧ ∃ k : Nat, k ≤ x.length ∧ q = .int .i64 k ∧ (1 < x.length → ∀ k', k' < k → del x k' ∈ l.take i)) (fun q _ => x.length - (intOf q).toNat)
            case atStart => exact ⟨hGd, 0, Nat.zero_le _, rfl, fun _ _ h => by omega⟩
            case round =>
              clear hGd
              obtain ⟨hGi, k, hk, rfl, hin⟩ := hrel
              have Hin := Lib.hid hin; clear hin
              have hci := hGi.cell hc
              by_cases hkl : k < x.length
              · by_cases h1l : 1 < x.length
                · have r1 := T_intss.atH (a := some ⟨b, off, none⟩) (n := n) (cap := cap) (k := i) (i := (i : Int)) rfl (by have := h.row.choose_spec.1.le; omega)
                  have hpre := ((h.grow hG).grow hGi).pre (k := i) (by omega)
                  have htp := total_take_le l i
                  go_wp2
                  refine wp_region_mix (S := Grow wr) [0, 1, 2, 3, 4, 5, 6, 7] [8, 9, 10] P_mixed (by kernel_rfl) (fun _ _ _ _ _ h => h) (Grow.refl _).drew ?_
                  show wpQuiet _ _ _ (fun a' => wpListS _ _ _ _ [_, _, _] a' _) [_, _, _, _, _, _, _, _] _
                  repeat (first | go_big_quiet_skip | (go_big_quiet_want; first | (apply quiet_sliceH (x := .tmp 52) (h := .tmp 53); rfl; exact r1; go_big_quiet_on; simp only [Act.put, List.setIfInBounds_toArray, List.set_cons_succ, List.set_cons_zero]) | (apply quiet_load CT_ints; rfl; rfl; exact (fun w' hG => hG.cell hci); go_big_quiet_on; simp only [Act.put, List.setIfInBounds_toArray, List.set_cons_succ, List.set_cons_zero]) | (go_big_quiet_op; first | go_big_quiet_on | (refine ⟨_, (fun _ _ => rfl), ?_⟩; go_big_quiet_on))))
                  refine wpQuiet_nil ?_
                  show wpListS _ _ _ _ _ _ _
                  refine wpListS_step rfl (fun K hK => ?_)
                  go_wp2_with fail
                  refine (l32Face_c _ _ _ k x _ (hrd.grow (hGi.drew)) hkl (by omega)).mono ?_
                  rintro e w1 ⟨a3, c3, rfl, hO3, _, hG3⟩
                  have hG31 : Grow wr w1 := (Grow.refl wr).drew.trans hG3
                  have hr3 := hO3.rdI (S := fun _ => True) (fun _ _ => trivial) (fun z hz => hrd.rng z (del_sub hz))
                  go_wp2_with fail
                  refine hK _ _ (hG31) ?_
                  clear hK K
                  refine wpListS_step rfl (fun K hK => ?_)
                  go_wp2_with fail
                  refine (l32Find_c _ _ _ _ _ _ (l.take i) (del x k) _ (hpre.grow hG31) hr3 (by omega) (by omega) (by rw [del_len hkl]; omega)).mono ?_
                  rintro e w2 ⟨rfl, hQ2⟩
                  have hG32 := hG31.trans hQ2.grow
                  by_cases hmem : del x k ∈ l.take i
                  · have hf := findI_mem.2 hmem
                    have Hmem := Lib.hid hmem; clear hmem
                    go_wp2_with fail
                    refine hK _ _ (hG32) ?_
                    clear hK K
                    refine wpListS_step rfl (fun K hK => ?_)
                    go_wp2_with fail
                    refine hK _ _ (hG32) ?_
                    clear hK K
                    refine wpListS_nil ?_
                    go_wp2
                    go_roundw
                    case rel =>
                      refine ⟨hGi.trans hG32, k + 1, by omega, by go_num, fun h1 k' hk' => ?_⟩
                      by_cases e : k' = k
                      · subst e; exact Hmem.out
                      · exact Hin.out h1 k' (by omega)
                    case measure => simp [intOf]; omega
                  · have hf : findI (l.take i) (del x k) < 0 := by rw [findI_no hmem]; omega
                    have Hmem := Lib.hid hmem; clear hmem
                    go_wp2_with fail
                    refine hK _ _ (hG32) ?_
                    clear hK K
                    refine wpListS_step rfl (fun K hK => ?_)
                    go_wp2_with fail
                    refine hK _ _ (hG32) ?_
                    clear hK K
                    refine wpListS_nil ?_
                    go_wp2
                    go_ret
                    refine ⟨ret_bool (isCplxB_no fun hC => Hmem.out ?_).symm, hG.trans (hGi.trans hG32)⟩
                    exact (before_only hC.1 Hx.out hkl).1 (hC.2.1 x (List.mem_of_getElem? Hx.out) h1l k hkl)
                · go_wp2
                  go_roundw
                  case rel => exact ⟨hG.trans hGi, i + 1, by omega, by go_num, Hch1.out, closedTo_succ Hcl.out Hx.out (fun h1 => by omega)⟩
                  case measure => simp [intOf]; omega
              · go_wp2
                go_roundw
                case rel => exact ⟨hG.trans hGi, i + 1, by omega, by go_num, Hch1.out, closedTo_succ Hcl.out Hx.out (fun h1 k' hk' => Hin.out h1 k' (by omega))⟩
                case measure => simp [intOf]; omega
          · clear hgood
            go_wp2
            go_quiet ((go_at_call 101; exact Calls.quiet_qt (cS.out _ ((Grow.refl _).drewN _))))
            go_wp2
            obtain ⟨wo, rfl⟩ : ∃ wo : World, wo = wr := ⟨_, rfl⟩
            have hGd : Grow wo (wo.drewN nq) := (Grow.refl wo).drewN nq
            go_loopw [4] (fun q wr => Grow wo wr ∧ ∃ k : Nat, k ≤ x.length ∧ q = .int .i64 k ∧ (1 < x.length → ∀ k', k' < k → del x k' ∈ l.take i)) (fun q _ => x.length - (intOf q).toNat)
            case atStart => exact ⟨hGd, 0, Nat.zero_le _, rfl, fun _ _ h => by omega⟩
            case round =>
              clear hGd
              obtain ⟨hGi, k, hk, rfl, hin⟩ := hrel
              have Hin := Lib.hid hin; clear hin
              have hci := hGi.cell hc
              by_cases hkl : k < x.length
              · by_cases h1l : 1 < x.length
                · have r1 := T_intss.atH (a := some ⟨b, off, none⟩) (n := n) (cap := cap) (k := i) (i := (i : Int)) rfl (by have := h.row.choose_spec.1.le; omega)
                  have hpre := ((h.grow hG).grow hGi).pre (k := i) (by omega)
                  have htp := total_take_le l i
                  go_wp2
                  refine wp_region_mix (S := Grow wr) [0, 1, 2, 3, 4, 5, 6, 7] [8, 9, 10] P_mixed (by kernel_rfl) (fun _ _ _ _ _ h => h) (Grow.refl _).drew ?_
                  show wpQuiet _ _ _ (fun a' => wpListS _ _ _ _ [_, _, _] a' _) [_, _, _, _, _, _, _, _] _
                  repeat (first | go_big_quiet_skip | (go_big_quiet_want; first | (apply quiet_sliceH (x := .tmp 52) (h := .tmp 53); rfl; exact r1; go_big_quiet_on; simp only [Act.put, List.setIfInBounds_toArray, List.set_cons_succ, List.set_cons_zero]) | (apply quiet_load CT_ints; rfl; rfl; exact (fun w' hG => hG.cell hci); go_big_quiet_on; simp only [Act.put, List.setIfInBounds_toArray, List.set_cons_succ, List.set_cons_zero]) | (go_big_quiet_op; first | go_big_quiet_on | (refine ⟨_, (fun _ _ => rfl), ?_⟩; go_big_quiet_on))))
                  refine wpQuiet_nil ?_
                  show wpListS _ _ _ _ _ _ _
                  refine wpListS_step rfl (fun K hK => ?_)
                  go_wp2_with fail
                  refine (l32Face_c _ _ _ k x _ (hrd.grow (hGi.drew)) hkl (by omega)).mono ?_
                  rintro e w1 ⟨a3, c3, rfl, hO3, _, hG3⟩
                  have hG31 : Grow wr w1 := (Grow.refl wr).drew.trans hG3
                  have hr3 := hO3.rdI (S := fun _ => True) (fun _ _ => trivial) (fun z hz => hrd.rng z (del_sub hz))
                  go_wp2_with fail
                  refine hK _ _ (hG31) ?_
                  clear hK K
                  refine wpListS_step rfl (fun K hK => ?_)
                  go_wp2_with fail
                  refine (l32Find_c _ _ _ _ _ _ (l.take i) (del x k) _ (hpre.grow hG31) hr3 (by omega) (by omega) (by rw [del_len hkl]; omega)).mono ?_
                  rintro e w2 ⟨rfl, hQ2⟩
                  have hG32 := hG31.trans hQ2.grow
                  by_cases hmem : del x k ∈ l.take i
                  · have hf := findI_mem.2 hmem
                    have Hmem := Lib.hid hmem; clear hmem
                    go_wp2_with fail
                    refine hK _ _ (hG32) ?_
                    clear hK K
                    refine wpListS_step rfl (fun K hK => ?_)
                    go_wp2_with fail
                    refine hK _ _ (hG32) ?_
                    clear hK K
                    refine wpListS_nil ?_
                    go_wp2
                    go_roundw
                    case rel =>
                      refine ⟨hGi.trans hG32, k + 1, by omega, by go_num, fun h1 k' hk' => ?_⟩
                      by_cases e : k' = k
                      · subst e; exact Hmem.out
                      · exact Hin.out h1 k' (by omega)
                    case measure => simp [intOf]; omega
                  · have hf : findI (l.take i) (del x k) < 0 := by rw [findI_no hmem]; omega
                    have Hmem := Lib.hid hmem; clear hmem
                    go_wp2_with fail
                    refine hK _ _ (hG32) ?_
                    clear hK K
                    refine wpListS_step rfl (fun K hK => ?_)
                    go_wp2_with fail
                    refine hK _ _ (hG32) ?_
                    clear hK K
                    refine wpListS_nil ?_
                    go_wp2
                    go_ret
                    refine ⟨ret_bool (isCplxB_no fun hC => Hmem.out ?_).symm, hG.trans (hGi.trans hG32)⟩
                    exact (before_only hC.1 Hx.out hkl).1 (hC.2.1 x (List.mem_of_getElem? Hx.out) h1l k hkl)
                · go_wp2
                  go_roundw
                  case rel => exact ⟨hG.trans hGi, i + 1, by omega, by go_num, Hch1.out, closedTo_succ Hcl.out Hx.out (fun h1 => by omega)⟩
                  case measure => simp [intOf]; omega
              · go_wp2
                go_roundw
                case rel => exact ⟨hG.trans hGi, i + 1, by omega, by go_num, Hch1.out, closedTo_succ Hcl.out Hx.out (fun h1 k' hk' => Hin.out h1 k' (by omega))⟩
                case measure => simp [intOf]; omega
        · obtain ⟨b2, off2, y2, a2, c2, he2, hy2, _, _, hc2, hrd2⟩ := (h.grow hG).at (k := i - 1) (by omega)
          obtain ⟨rfl, rfl⟩ : b = b2 ∧ off = off2 := by simpa using he2
          obtain rfl : y = y2 := Option.some.inj (hy.symm.trans hy2)
          have hyl : y.length ≤ 1048576 := by have := total_at hy; omega
          have cB := Lib.hid (before_ans hrd2 hrd hyl hxl hbf)
          have Hbf := Lib.hid hbf; clear hbf
          have Hy := Lib.hid hy; clear hy hy2 he2
          go_wp2
          go_quiet ((first | (go_at_call 101; exact Calls.quiet_qt (cS.out _ ((Grow.refl _).drewN _))) | (go_at_call 102; exact Calls.quiet_qt (cB.out _ ((Grow.refl _).drewN _)))))
          go_wp2
          go_ret
          refine ⟨ret_bool (isCplxB_no fun hC => ?_).symm, hG.drewN _⟩
          have := (chainTo_all.2 hC.1 i x (by omega) Hx.out).2 y hi0 Hy.out
          rw [Hbf.out] at this; cases this
    · have : i = n := by omega
      subst this
      have hC : (∀ s ∈ l, isSimpB s = true) ∧ l.Pairwise (fun a b => beforeB a b = true) := chainTo_all.1 (by rw [hl]; exact Hch.out)
      have hD : closed l := (closedTo_all hC).1 (by rw [hl]; exact Hcl.out)
      have HC := Lib.hid hC; clear hC
      have HD := Lib.hid hD; clear hD
      go_wp2
      go_loopw [5] (fun q wr => Grow w wr ∧ ∃ k : Nat, k ≤ 4 ∧ q = .int .i64 k ∧ ∀ k' : Nat, k' < k → (facesB l k').length ≤ 24) (fun q _ => 4 - (intOf q).toNat)
      case atStart => exact ⟨hG, 0, Nat.zero_le _, rfl, fun _ h => by omega⟩
      case round =>
        obtain ⟨hGi, k, hk, rfl, hin⟩ := hrel
        have Hin := Lib.hid hin; clear hin
        by_cases hk4 : k < 4
        · go_wp2_with fail
          refine (specFacesOf_c _ _ _ l k _ (h.grow hGi) (by omega) (by omega)).mono ?_
          rintro e w1 ⟨a1, m1, c1, rfl, hS1, hG1⟩
          have hm1 := Lib.hid hS1.len
          by_cases h24 : m1 ≤ 24
          · go_wp2
            go_roundw
            case rel =>
              refine ⟨hGi.trans hG1, k + 1, by omega, by go_num, fun k' hk' => ?_⟩
              by_cases e : k' = k
              · subst e; rw [hm1.out]; exact h24
              · exact Hin.out k' (by omega)
            case measure => simp [intOf]; omega
          · go_wp2
            go_ret
            refine ⟨ret_bool (isCplxB_no fun hC => ?_).symm, hGi.trans hG1⟩
            have := hC.2.2 k hk4
            rw [hm1.out] at this; omega
        · go_wp2
          go_ret
          refine ⟨ret_bool (isCplxB_iff.2 ⟨HC.out, HD.out, fun k' hk' => Hin.out k' (by omega)⟩).symm, hGi⟩
end Go.Proofs.Ythlncohllbmapaa
