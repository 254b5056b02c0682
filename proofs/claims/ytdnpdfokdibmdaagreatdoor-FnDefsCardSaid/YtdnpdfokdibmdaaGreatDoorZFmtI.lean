/-
  Numbers, lists and matrices as text: the program's.
-/
import Derived.Test.YtdnpdfokdibmdaaGreatDoorZFmtS
import Derived.Test.YtdnpdfokdibmdaaGreatDoorZShF
import Derived.Test.YtdnpdfokdibmdaaGreatDoorZStrs
import Derived.Test.YtdnpdfokdibmdaaGreatDoorZIsMat
import Derived.Lib.AppendIntMem
namespace Go.Proofs.YtdnpdfokdibmdaaGreatDoor
open Go.RowKit

theorem Below.toGrow {w w' : World} (h : Below w.heap.size w w') : Grow w w' := ⟨h.os, h.tape, h.output, h.size, fun _ ha => h.frozen ha, fun k hk _ => h.block k hk⟩
theorem grow_more (w : World) (k : Nat) (os : Array Obj) : Grow w (Go.Sort.grow (w.drewN k) os) := by
  refine Below.toGrow ⟨rfl, rfl, rfl, by show w.heap.size ≤ (w.heap ++ os).size; rw [Array.size_append]; omega, fun j hj => ?_⟩
  show (w.heap ++ os)[j]? = w.heap[j]?
  rw [Array.getElem?_append_left hj]
/-- The library's table of the powers of ten lies in the world. -/
def Tab (w : World) : Prop := Lib.TabIs Tryz.prog w "internal/strconv.uint64pow10" .u64 Lib.pow10Tab
theorem Tab.grow {w w' : World} (h : Tab w) (hg : Grow w w') : Tab w' := (Lib.tabBelow_of_tabIs h) w' hg.below

set_option maxHeartbeats 1000000 in
theorem iFormatInt_c (n : Int) (w : World) (hn : I64 n) (ht : Tab w) : Calls Tryz.prog 35 #[.int .i64 n] w fun e w' => e = .returned (.string (bstr (Lib.itoa n))) ∧ Grow w w' := by
  have Ht := Lib.hid ht; clear ht
  have Hn := Lib.hid hn; clear hn
  go_enter Tryz.func35, Tryz.ntmps35
  go_wp2_with fail
  refine (sh_strconv_Itoa n Hn.out.1 Hn.out.2 _ Ht.out).mono ?_
  rintro e w' ⟨rfl, k, os, rfl⟩
  have hG := grow_more w k os
  generalize Go.Sort.grow (w.drewN k) os = w1 at *
  go_wp2
  go_ret
  exact ⟨rfl, hG⟩

theorem join_c {S : Nat → Prop} (a : Option Addr) (n c : Nat) (l : List ByteArray) (sep : ByteArray) (w : World) (h : RdS w S a n c l) (hn : n ≤ 140737488355328)
    (hlen : (Lib.join (l.map (·.data.toList)) sep.data.toList).length ≤ 140737488355328) :
    Calls Tryz.prog 36 #[.slice a n c, .string sep] w fun e w' => e = .returned (.string (bstr (Lib.join (l.map (·.data.toList)) sep.data.toList))) ∧ Grow w w' := by
  have hl := h.len
  cases l with
  | nil =>
    obtain rfl : n = 0 := by simpa using hl.symm
    exact (sh_strings_Join_none a c sep w).mono fun e w' ⟨h1, h2⟩ => ⟨h1, h2 ▸ Grow.refl _⟩
  | cons x r =>
    obtain ⟨b, off, rfl, -, hc⟩ := h.row.addr (by simp [strs])
    have hcl : ∀ (j : Nat) y, (x :: r)[j]? = some y → w.cell? ⟨b, off + j, none⟩ = some (.string y) := fun j y hj => hc j _ (strs_at hj)
    have hbk := World.block_lt_of_cell? w _ (hcl 0 x rfl)
    have := sh_strings_Join b off c (x :: r) sep w hcl hbk (by rw [hl]; exact hn) (by rw [hl]; exact h.row.le) hlen
    rw [hl] at this
    exact this.mono fun e w' ⟨h1, h2⟩ => ⟨h1, Below.toGrow h2⟩

theorem strs_snoc (l : List ByteArray) (s : ByteArray) : strs l ++ [.string s] = strs (l ++ [s]) := by simp [strs]
theorem data_bstr (l : List (List UInt8)) : (l.map bstr).map (·.data.toList) = l := by simp [List.map_map, Function.comp_def]

set_option maxHeartbeats 4000000 in
set_option maxRecDepth 100000 in
theorem iFormatInts_c {S : Nat → Prop} (a : Option Addr) (n c : Nat) (xs : List Int) (w : World) (h : RdI w S a n c xs) (hn : n ≤ 1048576) (ht : Tab w) :
    Calls Tryz.prog 33 #[.slice a n c] w fun e w' => e = .returned (.string (bstr (fmtL xs))) ∧ Grow w w' := by
  have hl := h.len
  have Ht := Lib.hid ht; clear ht
  have Hl := Lib.hid hl; clear hl
  go_enter Tryz.func33, Tryz.ntmps33
  go_wp2
  go_loopw [3, 5, 9] (fun ov _ iv wr => Grow w wr ∧ ∃ (k : Nat) (a' : Option Addr) (c' : Nat), k ≤ n ∧ iv = .int .i64 k ∧ ov = .slice a' k c' ∧ Own wr 9 1 a' k c' (strs (((xs.take k).map Lib.itoa).map bstr)) ∧ (∀ g, blk a' = some g → w.heap.size ≤ g)) (fun _ _ iv _ => n - (intOf iv).toNat)
  case atStart => exact ⟨(Grow.refl _).alloc _ _, 0, _, 0, Nat.zero_le _, rfl, rfl, Own.fresh (by unfold maxLen; omega) rfl, fun g hg => by simp at hg; omega⟩
  case round =>
    obtain ⟨hG, k, a', c', hk, rfl, rfl, hO, hlo⟩ := hrel
    by_cases hlt : k < n
    · obtain ⟨b, off, x, rfl, hx, hrx, -, hbl, hcx⟩ := (h.grow hG).at hlt
      have Hx := Lib.hid hx; clear hx
      go_wp2_with fail
      refine (iFormatInt_c x _ hrx (Ht.out.grow hG)).mono ?_
      rintro e w2 ⟨rfl, hG2⟩
      have hO2 := (hO.grow hG2).grow ((Grow.refl w2).alloc #[.string (bstr (Lib.itoa x))] 9)
      go_wp2_with (at_builtin; refine wpList_app rfl (.tmp 13) (.tmp 16) _ rfl T_strs rfl hO2 rfl (Row.built (S := fun _ => True) 1 (by unfold maxLen; omega) rfl trivial) (by simp [Value.oneCell']) (by omega) (by unfold maxLen; omega) ?_; intro a3 c3 w3 hA3)
      have hsw := hG.size
      have hsw2 := hG2.size
      have hG3 : Grow w w3 := hA3.grow ((hG.trans hG2).alloc _ _) hlo
      have hl3 := hA3.lo (B := w.heap.size) (by simp; omega) hlo
      have hO3 := hA3.own
      clear hA3 hO hO2
      go_wp2
      go_roundw
      case rel => exact ⟨hG3, k + 1, a3, c3, by omega, by go_num, rfl, by rw [take_succ Hx.out, List.map_append, List.map_append]; simpa [strs] using hO3, hl3⟩
      case measure => simp [intOf]; omega
    · have hkn : k = n := by omega
      subst hkn
      have hj : Lib.join ((((xs.take k).map Lib.itoa).map bstr).map (·.data.toList)) (bstr [32]).data.toList = fmtL xs := by
        rw [data_bstr, take_all Hl.out]; rfl
      have hlen : (fmtL xs).length ≤ 140737488355328 := by
        have := join_len_le (xs := xs.map Lib.itoa) (sep := [32]) (b := 21) fun y hy => by
          obtain ⟨x, hx, rfl⟩ := List.mem_map.1 hy
          exact Lib.itoa_length_le x (h.rng x hx).1 (h.rng x hx).2
        unfold fmtL
        simp only [List.length_map, Hl.out, List.length_cons, List.length_nil] at this
        omega
      have hJ := join_c a' k c' _ (bstr [32]) wr (hO.rdS (S := fun _ => True) fun _ _ => trivial) (by omega) (by rw [hj]; exact hlen)
      rw [hj] at hJ
      have HJ := Lib.hid hJ
      clear hj hlen hJ hO
      go_wp2_with fail
      refine HJ.out.mono ?_
      rintro e w4 ⟨rfl, hG4⟩
      go_wp2
      go_ret
      exact ⟨rfl, hG.trans hG4⟩
end Go.Proofs.YtdnpdfokdibmdaaGreatDoor
