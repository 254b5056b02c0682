/-
  FindDef: the program's (by slices.IndexFunc) and the reference's.
-/
import Derived.Test.YtlpkcdgkkjmagaaDefK3
namespace Go.Proofs.Ytlpkcdgkkjmagaa
open Go.RowKit

def findName (l : List Dfn) (s : ByteArray) : Int := firstIdx (fun d => d.name.toList == s.toList) l

set_option maxHeartbeats 1000000 in
theorem specFindDef_c {S : Nat → Prop} (a : Option Addr) (n cap : Nat) (l : List Dfn) (s : ByteArray) (w : World) (h : RdD w S a n cap l) (hn : n ≤ 2097152) :
    Calls Try.prog 9 #[.slice a n cap, .string s] w fun e w' => e = .returned (.int .i64 (findName l s)) ∧ w = w' := by
  have Hl := Lib.hid h.len
  go_enter Try.func9, Try.ntmps9
  go_wp2
  go_loop [5] (fun i => ∃ k : Nat, k ≤ n ∧ i = .int .i64 k ∧ ∀ d ∈ l.take k, (d.name.toList == s.toList) = false) (fun i => n - (intOf i).toNat)
  case atStart => exact ⟨0, Nat.zero_le _, rfl, by simp⟩
  case round =>
    obtain ⟨k, hk, rfl, he⟩ := hrel
    have He := Lib.hid he; clear he
    by_cases hlt : k < n
    · obtain ⟨b, off, d, a1, c1, rfl, hx, _, hbw, ⟨e0, -, -, -, -, -, -⟩, -, -⟩ := h.at hlt
      have Hx := Lib.hid hx; clear hx
      cases hd : d.name.toList == s.toList with
      | true =>
        go_wp2
        go_ret
        exact ⟨ret_int (firstIdx_at He.out Hx.out hd).symm, rfl⟩
      | false =>
        go_wp2
        go_round
        case rel =>
          refine ⟨k + 1, by omega, by go_num, fun z hz => ?_⟩
          rw [take_succ Hx.out, List.mem_append, List.mem_singleton] at hz
          rcases hz with hz | rfl
          · exact He.out z hz
          · exact hd
        case measure => simp [intOf]; omega
    · go_wp2
      go_ret
      have : k = n := by omega
      subst this
      have := He.out
      rw [take_all Hl.out] at this
      exact ⟨ret_int (firstIdx_no this).symm, rfl⟩

set_option maxHeartbeats 1000000 in
theorem findClosure_c (s : ByteArray) (d : Dfn) (sv : Value) (g : Nat) (w : World) (hg : w.cell? ⟨g, 0, none⟩ = some (.string s)) :
    Calls Try.prog 31 #[.agg #[.string d.name, .int .i64 d.op, .string d.a, .string d.b, .int .i64 d.value.rows, .int .i64 d.value.cols, sv], .pointer (some ⟨g, 0, none⟩)] w fun e w' => e = .returned (.bool (d.name.toList == s.toList)) ∧ Grow w w' := by
  have hG : Grow w (w.alloc (.cells #[.string d.name, .int .i64 d.op, .string d.a, .string d.b, .int .i64 d.value.rows, .int .i64 d.value.cols, sv] 38)) := (Grow.refl w).alloc _ _
  have hg' := hG.cell hg
  go_enter Try.func31, Try.ntmps31
  go_wp2
  go_ret
  exact ⟨rfl, hG⟩

set_option maxHeartbeats 1000000 in
theorem findIndex_c {S : Nat → Prop} (a : Option Addr) (n cap g : Nat) (l : List Dfn) (s : ByteArray) (w : World) (h : RdD w S a n cap l) (hg : w.cell? ⟨g, 0, none⟩ = some (.string s)) (hn : n ≤ 2097152) :
    Calls Try.prog 30 #[.slice a n cap, .func (.func 31) #[] #[.pointer (some ⟨g, 0, none⟩)]] w fun e w' => e = .returned (.int .i64 (findName l s)) ∧ Grow w w' := by
  have Hl := Lib.hid h.len
  go_enter Try.func30, Try.ntmps30
  go_wp2
  go_loopw [8] (fun i wr => Grow w wr ∧ ∃ k : Nat, k ≤ n ∧ i = .int .i64 k ∧ ∀ d ∈ l.take k, (d.name.toList == s.toList) = false) (fun i _ => n - (intOf i).toNat)
  case atStart => exact ⟨Grow.refl _, 0, Nat.zero_le _, rfl, by simp⟩
  case round =>
    obtain ⟨hG, k, hk, rfl, he⟩ := hrel
    have He := Lib.hid he; clear he
    by_cases hlt : k < n
    · obtain ⟨b, off, d, a1, c1, rfl, hx, _, hbw, ⟨e0, e1, e2, e3, e4, e5, e6⟩, -, -⟩ := (h.grow hG).at hlt
      have Hx := Lib.hid hx; clear hx
      go_wp2_with fail
      refine (findClosure_c s d _ g _ (hG.cell hg)).mono ?_
      rintro e w' ⟨rfl, hG1⟩
      cases hd : d.name.toList == s.toList with
      | true =>
        go_wp2
        go_ret
        exact ⟨ret_int (firstIdx_at He.out Hx.out hd).symm, hG.trans hG1⟩
      | false =>
        go_wp2
        go_roundw
        case rel =>
          refine ⟨hG.trans hG1, k + 1, by omega, by go_num, fun z hz => ?_⟩
          rw [take_succ Hx.out, List.mem_append, List.mem_singleton] at hz
          rcases hz with hz | rfl
          · exact He.out z hz
          · exact hd
        case measure => simp [intOf]; omega
    · go_wp2
      go_ret
      have : k = n := by omega
      subst this
      have := He.out
      rw [take_all Hl.out] at this
      exact ⟨ret_int (firstIdx_no this).symm, hG⟩

set_option maxHeartbeats 1000000 in
theorem implFindDef_c {S : Nat → Prop} (a : Option Addr) (n cap : Nat) (l : List Dfn) (s : ByteArray) (w : World) (h : RdD w S a n cap l) (hn : n ≤ 2097152) :
    Calls Try.prog 11 #[.slice a n cap, .string s] w fun e w' => e = .returned (.int .i64 (findName l s)) ∧ Grow w w' := by
  have hG : Grow w (w.alloc (.cells #[.string s] 9)) := (Grow.refl w).alloc _ _
  have hb : (w.alloc (.cells #[.string s] 9)).cell? ⟨w.heap.size, 0, none⟩ = some (.string s) := (Blk.new w #[.string s] 9).cell 0
  go_enter Try.func11, Try.ntmps11
  go_wp2_with fail
  refine (findIndex_c _ _ _ w.heap.size l s _ (h.grow hG) hb hn).mono ?_
  rintro e w1 ⟨rfl, hG1⟩
  go_wp2
  go_ret
  exact ⟨rfl, hG.trans hG1⟩
end Go.Proofs.Ytlpkcdgkkjmagaa
