/-
  IsCycle: the program's and the reference's.
-/
import Derived.Test.YthlncohllbmapaaBoundary
import Derived.Test.YthlncohllbmapaaMulI
import Derived.Test.YthlncohllbmapaaPar
namespace Go.Proofs.Ythlncohllbmapaa
open Go.RowKit

def zeroL (l : List Int) : Bool := l.all fun x => x == 0
theorem zeroL_no {l : List Int} {k : Nat} {x : Int} (h : l[k]? = some x) (hx : (x == 0) = false) : zeroL l = false := by
  unfold zeroL; rw [List.all_eq_false]; exact ⟨x, List.mem_of_getElem? h, by simp [hx]⟩
theorem zeroL_yes {l : List Int} (h : ∀ x ∈ l, (x == 0) = true) : zeroL l = true := by
  unfold zeroL; rw [List.all_eq_true]; exact h
/-- A row, as a matrix. -/
def rowM (c : List Int) : Mat := { rows := 1, cols := c.length, cells := c }
noncomputable def isCycB (l : List (List Int)) (k : Int) (c : List Int) : Bool := boundOk l k && (mulOk (rowM c) (boundB l k) && zeroL (mulB (rowM c) (boundB l k)).cells)

set_option maxHeartbeats 1000000 in
theorem isZeroRow_c {S : Nat → Prop} (a : Option Addr) (n cap : Nat) (xs : List Int) (w : World) (h : RdI w S a n cap xs) (hn : n ≤ 2097152) :
    Calls Try.prog 58 #[.slice a n cap] w fun e w' => e = .returned (.bool (zeroL xs)) ∧ w = w' := by
  have hcl : ∀ (x : Int) (w : World), Calls Try.prog 98 #[.int .i64 x] w fun e w' => e = .returned (.bool (!(x == 0))) ∧ w = w' := fun x w => by
    by_cases hx : x = 0
    · subst hx
      go_enter Try.func98, Try.ntmps98
      go_wp2
      go_ret
      exact ⟨ret_bool rfl, rfl⟩
    · have e1 : (x == 0) = false := by simp [hx]
      have e2 : (x != 0) = true := by simp [hx]
      clear hx
      go_enter Try.func98, Try.ntmps98
      go_wp2
      go_ret
      exact ⟨ret_bool (by rw [e1]; rfl), rfl⟩
  have Hl := Lib.hid h.len
  have hidx : Calls Try.prog 121 #[.slice a n cap, .func (.func 98) #[] #[]] w fun e w' => (∃ r : Int, e = .returned (.int .i64 r) ∧ decide (0 ≤ r) = !zeroL xs) ∧ w = w' := by
    go_enter Try.func121, Try.ntmps121
    go_wp2
    go_loop [8] (fun i => ∃ k : Nat, k ≤ n ∧ i = .int .i64 k ∧ ∀ x ∈ xs.take k, (x == 0) = true) (fun i => n - (intOf i).toNat)
    case atStart => exact ⟨0, Nat.zero_le _, rfl, by simp⟩
    case round =>
      obtain ⟨k, hk, rfl, he⟩ := hrel
      have He := Lib.hid he; clear he
      by_cases hlt : k < n
      · obtain ⟨b, off, x, rfl, hx, hr, _, hb, hc⟩ := h.at hlt
        have Hx := Lib.hid hx; clear hx
        cases h0 : x == 0 with
        | true =>
          have H0 := Lib.hid h0; clear h0
          go_wp2_with fail
          refine (hcl _ _).mono ?_
          rintro e w' ⟨rfl, rfl⟩
          rw [H0.out]
          go_wp2
          go_round
          case rel =>
            refine ⟨k + 1, by omega, by go_num, fun z hz => ?_⟩
            rw [take_succ Hx.out, List.mem_append, List.mem_singleton] at hz
            rcases hz with hz | rfl
            · exact He.out z hz
            · exact H0.out
          case measure => simp [intOf]; omega
        | false =>
          have H0 := Lib.hid h0; clear h0
          go_wp2_with fail
          refine (hcl _ _).mono ?_
          rintro e w' ⟨rfl, rfl⟩
          rw [H0.out]
          go_wp2
          go_ret
          exact ⟨⟨k, rfl, by rw [zeroL_no Hx.out H0.out]; simp⟩, rfl⟩
      · go_wp2
        go_ret
        have : k = n := by omega
        subst this
        have := He.out
        rw [take_all Hl.out] at this
        exact ⟨⟨-1, rfl, by rw [zeroL_yes this]; rfl⟩, rfl⟩
  have hcon : Calls Try.prog 97 #[.slice a n cap, .func (.func 98) #[] #[]] w fun e w' => e = .returned (.bool (!zeroL xs)) ∧ w = w' := by
    go_enter Try.func97, Try.ntmps97
    go_wp2_with fail
    refine hidx.mono ?_
    rintro e w' ⟨⟨r, rfl, hr⟩, rfl⟩
    have Hr := Lib.hid hr; clear hr
    go_wp2
    go_ret
    exact ⟨ret_bool Hr.out, rfl⟩
  clear hidx
  go_enter Try.func58, Try.ntmps58
  go_wp2_with fail
  refine hcon.mono ?_
  rintro e w' ⟨rfl, rfl⟩
  cases hz : zeroL xs with
  | true =>
    have Hz := Lib.hid hz; clear hz
    go_wp2
    go_ret
    exact ⟨ret_bool (by rw [Hz.out]), rfl⟩
  | false =>
    have Hz := Lib.hid hz; clear hz
    go_wp2
    go_ret
    exact ⟨ret_bool (by rw [Hz.out]), rfl⟩

set_option maxHeartbeats 1000000 in
theorem rowMatrix_c {S : Nat → Prop} (a : Option Addr) (n cap : Nat) (xs : List Int) (w : World) (h : RdI w S a n cap xs) (hn : n ≤ 2097152) :
    Calls Try.prog 56 #[.slice a n cap] w fun e w' => ∃ r, e = .returned r ∧ OM w' (New w w') r (rowM xs) ∧ Grow w w' := by
  have hl := h.len
  go_enter Try.func56, Try.ntmps56
  have hE : Own (((w.alloc (.cells #[.int .i64 0, .int .i64 0, .slice none 0 0] 27)).alloc (.cells #[] 3))) 3 1 (some ⟨w.heap.size + 1, 0, none⟩) 0 0 [] := Own.freshAt (by simp) (by unfold maxLen; omega) rfl
  have hbz := (Blk.new w #[.int .i64 0, .int .i64 0, .slice none 0 0] 27).alloc (.cells #[] 3)
  have hGz : Grow w ((w.alloc (.cells #[.int .i64 0, .int .i64 0, .slice none 0 0] 27)).alloc (.cells #[] 3)) := ((Grow.refl _).alloc _ _).alloc _ _
  go_wp2_with (at_builtin; refine wpList_app rfl (.tmp 5) (.tmp 6) _ rfl T_ints rfl hE rfl (h.row.grow (((Grow.refl _).alloc _ _).alloc _ _)) (ints_one _) (by omega) (by unfold maxLen; omega) ?_; intro a2 c2 w2 hA2; obtain ⟨⟨z0, z1, z2⟩, g0, g1, g2⟩ := (hbz.keep hA2.keep (by simp)).three)
  have hB2 := hbz.keep hA2.keep (by simp)
  have hG2 : Grow w w2 := hA2.grow hGz (fun g hg => by simp at hg; omega)
  have hl2 := hA2.lo (B := w.heap.size + 1) (by simp) (fun g hg => by simp at hg; omega)
  have ho2 : Own w2 3 1 a2 n c2 (ints xs) := by simpa using hA2.own
  have hK : Keep (fun q => q ≠ w.heap.size) w2 (((w2.setCell ⟨w.heap.size, 0, none⟩ (.int .i64 1)).setCell ⟨w.heap.size, 1, none⟩ (.int .i64 (n : Int))).setCell ⟨w.heap.size, 2, none⟩ (.slice a2 n c2)) :=
    (((Keep.refl _ w2).setCell (fun _ e => e rfl) _).setCell (fun _ e => e rfl) _).setCell (fun _ e => e rfl) _
  have hof := ho2.keep hK (fun g hg _ e => by have := hl2 g hg; omega)
  refine ret_cell T_mat rfl rfl rfl (((hB2.set 0 (.int .i64 1)).set 1 (.int .i64 (n : Int))).set 2 (.slice a2 n c2)) ⟨_, rfl, ⟨a2, n, c2, by unfold rowM; rw [← hl]; rfl, hof, h.rng, fun g hg => ⟨by have := hl2 g hg; omega, hof.lt hg⟩, by simp [rowM, I64], by simp only [rowM, I64, hl]; omega⟩, hG2.keep hK fun q hq => by omega⟩

theorem Own.ne_blk {w : World} {e t : TypeId} {sz : Nat} {a : Option Addr} {n cap g : Nat} {cs : List Value} {ds : Array Value} (ho : Own w e sz a n cap cs) (hb : Blk w g ds t) (hne : e ≠ t) : blk a ≠ some g := fun h => by
  cases a with
  | none => simp at h
  | some p =>
    simp at h
    obtain ⟨_, cur, h2, _⟩ := ho.block p rfl
    rw [h] at h2
    have := h2.symm.trans hb
    simp only [Option.some.injEq, Obj.cells.injEq] at this
    exact hne this.2.1
theorem mulB_bd {A B : Mat} : bdM (mulB A B) ≤ 576 := by
  unfold mulB
  by_cases hF : mulFit A B = true
  · rw [if_pos hF]
    have := mulM_bd hF
    unfold okM
    split
    · exact this
    · simp [bdM]
  · rw [if_neg hF]; simp [bdM]
def CycPost (z : Nat) (A B : Mat) : Nat → Value → World → Prop
  | 1, v, w => OM w (fun g => z ≤ g) v A
  | 3, v, w => ∃ r, v = .tuple #[r, .bool (mulOk A B)] ∧ OM w (fun g => z ≤ g) r (mulB A B)
  | 4, v, w => ∃ r, v = .tuple #[r, .bool (mulOk A B)] ∧ OM w (fun g => z ≤ g) r (mulB A B)
  | 5, v, w => OM w (fun g => z ≤ g) v (mulB A B)
  | 6, v, _ => v = .bool (mulOk A B)
  | 7, v, w => ∃ g, v = .pointer (some ⟨g, 0, none⟩) ∧ z ≤ g ∧ Blk w g #[.int .i64 0, .int .i64 0, .slice none 0 0] 27
  | _, _, _ => True
theorem CycPost.stays {z : Nat} {A B : Mat} : ∀ i v w w', Grow w w' → CycPost z A B i v w → CycPost z A B i v w' := fun i v w w' hG h => by
  unfold CycPost at *
  split at h
  · exact h.grow hG
  · obtain ⟨r, h1, h2⟩ := h; exact ⟨r, h1, h2.grow hG⟩
  · obtain ⟨r, h1, h2⟩ := h; exact ⟨r, h1, h2.grow hG⟩
  · exact h.grow hG
  · exact h
  · obtain ⟨g, h1, h2, h3⟩ := h; exact ⟨g, h1, h2, h3.grow hG⟩
  · trivial

end Go.Proofs.Ythlncohllbmapaa
