/-
  DependentsOf: the program's (with slices.Contains on strings).
-/
import Derived.Test.YtlpkcdgkkjmagaaDeps
import Derived.Test.YtlpkcdgkkjmagaaStrs
import Derived.Test.YtlpkcdgkkjmagaaSheetI
namespace Go.Proofs.Ytlpkcdgkkjmagaa
open Go.RowKit

set_option maxHeartbeats 1000000 in
theorem indexStr_c {S : Nat → Prop} (a : Option Addr) (n cap : Nat) (l : List ByteArray) (s : ByteArray) (w : World) (h : RdS w S a n cap l) (hn : n ≤ 2097152) :
    Calls Try.prog 55 #[.slice a n cap, .string s] w fun e w' => e = .returned (.int .i64 (firstIdx (fun x => decide (x = s)) l)) ∧ w = w' := by
  have Hl := Lib.hid h.len
  go_enter Try.func55, Try.ntmps55
  go_wp2
  go_loop [8] (fun i => ∃ k : Nat, k ≤ n ∧ i = .int .i64 k ∧ ∀ x ∈ l.take k, decide (x = s) = false) (fun i => n - (intOf i).toNat)
  case atStart => exact ⟨0, Nat.zero_le _, rfl, by simp⟩
  case round =>
    obtain ⟨k, hk, rfl, he⟩ := hrel
    have He := Lib.hid he; clear he
    by_cases hlt : k < n
    · obtain ⟨b, off, d, rfl, hx, _, hbw, hc⟩ := h.at hlt
      have Hx := Lib.hid hx; clear hx
      have hq := strEq s d
      cases hd : decide (d = s) with
      | true =>
        have hq2 : (s.toList == d.toList) = true := by rw [hq]; rw [decide_eq_true_eq] at hd ⊢; exact hd.symm
        have Hd := Lib.hid hd; clear hd hq
        go_wp2
        go_ret
        exact ⟨ret_int (firstIdx_at He.out Hx.out Hd.out).symm, rfl⟩
      | false =>
        have hq2 : (s.toList == d.toList) = false := by rw [hq]; rw [decide_eq_false_iff_not] at hd ⊢; exact fun e => hd e.symm
        have Hd := Lib.hid hd; clear hd hq
        go_wp2
        go_round
        case rel =>
          refine ⟨k + 1, by omega, by go_num, fun z hz => ?_⟩
          rw [take_succ Hx.out, List.mem_append, List.mem_singleton] at hz
          rcases hz with hz | rfl
          · exact He.out z hz
          · exact Hd.out
        case measure => simp [intOf]; omega
    · go_wp2
      go_ret
      have : k = n := by omega
      subst this
      have := He.out
      rw [take_all Hl.out] at this
      exact ⟨ret_int (firstIdx_no this).symm, rfl⟩
set_option maxHeartbeats 1000000 in
theorem containsStr_c {S : Nat → Prop} (a : Option Addr) (n cap : Nat) (l : List ByteArray) (s : ByteArray) (w : World) (h : RdS w S a n cap l) (hn : n ≤ 2097152) :
    Calls Try.prog 42 #[.slice a n cap, .string s] w fun e w' => e = .returned (.bool (inSS l s)) ∧ w = w' := by
  go_enter Try.func42, Try.ntmps42
  go_wp2_with fail
  refine (indexStr_c _ _ _ l s _ h hn).mono ?_
  rintro e w' ⟨rfl, rfl⟩
  go_wp2
  go_ret
  exact ⟨ret_bool (by unfold inSS; rw [← firstIdx_any]), rfl⟩

theorem depStep_no {x : ByteArray} {out : List ByteArray} {d : Dfn} (h : (needsB d x && !inSS out d.name) = false) : depStep x out d = out := by unfold depStep; rw [h]; rfl
theorem depStep_yes {x : ByteArray} {out : List ByteArray} {d : Dfn} (h : (needsB d x && !inSS out d.name) = true) : depStep x out d = out ++ [d.name] := by unfold depStep; rw [h]; rfl
set_option maxHeartbeats 4000000 in
set_option maxRecDepth 100000 in
theorem implDependentsOf_c {S : Nat → Prop} (a : Option Addr) (n cap : Nat) (l : List Dfn) (name : ByteArray) (w : World) (h : RdD w S a n cap l) (hn : n ≤ 1048576) (hcl : ∀ d ∈ l, d.value.cells.length ≤ 2097152) :
    Calls Try.prog 21 #[.slice a n cap, .string name] w fun e w' => ∃ v', e = .returned v' ∧ OSS w' (New w w') v' (depOut l name) ∧ Grow w w' := by
  have Hl := Lib.hid h.len
  cases hs : sheetB l with
  | false =>
    have HN := Lib.hid (depOut_no (l := l) (name := name) (by rw [hs]; rfl))
    have HS := Lib.hid hs; clear hs
    go_enter Try.func21, Try.ntmps21
    go_wp2_with fail
    refine (implIsSheet_c _ _ _ l _ h hn hcl).mono ?_
    rintro e w1 ⟨rfl, hGn⟩
    rw [HS.out]
    go_wp2
    go_ret
    exact ⟨_, rfl, ⟨_, _, _, rfl, by rw [HN.out]; exact Own.fresh (by unfold maxLen; omega) rfl, fun g hg => by simp at hg; subst hg; exact ⟨hGn.size, by simp⟩⟩, hGn.alloc _ _⟩
  | true =>
    have HS := Lib.hid hs
    by_cases hq : 0 ≤ findName l name
    · have hok := fun i => depAt_ok (l := l) hq i
      have hend := fun {i : Nat} => depOut_end (l := l) (name := name) (i := i) hs hq
      clear hs
      generalize hfn : findName l name = fn at *
      have Hfn := Lib.hid hfn; clear hfn
      go_enter Try.func21, Try.ntmps21
      go_wp2_with fail
      refine (implIsSheet_c _ _ _ l _ h hn hcl).mono ?_
      rintro e w1 ⟨rfl, hG1⟩
      rw [HS.out]
      go_wp2_with fail
      refine (implFindDef_c _ _ _ l name _ (h.grow hG1) (by omega)).mono ?_
      rintro e w2 ⟨rfl, hG2⟩
      rw [Hfn.out]
      have hGn := hG1.trans hG2
      clear hG1 hG2
      go_wp2
      go_loopw [5, 6] (fun v i wr => Grow w wr ∧ ∃ (j n1 c1 : Nat) (a1 : Option Addr), i = .int .i64 j ∧ v = .slice a1 n1 c1 ∧ j ≤ n1 ∧ Own wr 9 1 a1 n1 c1 (strs (depAt l name j)) ∧ ∀ g, blk a1 = some g → New w wr g) (fun _ i _ => n - (intOf i).toNat)
      case atStart =>
        exact ⟨hGn.alloc _ _, 0, 1, 1, _, rfl, rfl, by omega, Own.fresh (by unfold maxLen; omega) rfl, fun g hg => by simp at hg; subst hg; exact ⟨hGn.size, by simp⟩⟩
      case round =>
        clear hGn
        obtain ⟨hG0, j, n1, c1, a1, rfl, rfl, hjn, hO, hlo⟩ := hrel
        have hlen : (depAt l name j).length = n1 := by simpa using hO.len
        have hle := (hok j).len
        rw [Hl.out, hlen] at hle
        by_cases hlt : j < n1
        · obtain ⟨x, hx⟩ : ∃ x, (depAt l name j)[j]? = some x := ⟨_, List.getElem?_eq_getElem (by omega)⟩
          have Hxx := Lib.hid hx
          have hjb : j < n := by omega
          have Hok := Lib.hid (hok j)
          have hstart : depTo l x (depAt l name j) 0 = depAt l name j := rfl
          have hall : depTo l x (depAt l name j) n = depAt l name (j + 1) := by rw [← Hl.out]; exact depTo_all hx
          have Hall := Lib.hid hall
          clear hall hx
          generalize hout : depAt l name j = out at *
          go_wp2
          go_loopw [29, 5] (fun i v wr => Grow w wr ∧ ∃ (k : Nat) (a1 : Option Addr) (n1 c1 : Nat), k ≤ n ∧ i = .int .i64 k ∧ v = .slice a1 n1 c1 ∧ Own wr 9 1 a1 n1 c1 (strs (depTo l x out k)) ∧ ∀ g, blk a1 = some g → New w wr g) (fun i _ _ => n - (intOf i).toNat)
          case atStart => exact ⟨hG0, 0, a1, n1, c1, Nat.zero_le _, rfl, rfl, by rw [hstart]; exact hO, hlo⟩
          case round =>
            clear hG0 hO hlo hlen hle hlt hjn hstart
            obtain ⟨hG, k, a1, n1, c1, hk, rfl, rfl, hO, hlo⟩ := hrel
            have hlen : (depTo l x out k).length = n1 := by simpa using hO.len
            have hle := (depTo_ok (x := x) Hok.out k).len
            rw [Hl.out, hlen] at hle
            by_cases hlt : k < n
            · obtain ⟨b, off, d, av, cv, rfl, hx, _, hbw, ⟨e0, e1, e2, e3, e4, e5, e6⟩, r1, ho⟩ := (h.grow hG).at hlt
              have Hx := Lib.hid hx; clear hx
              have hxi := depTo_at (x := x) (l := l) k Hxx.out
              obtain ⟨wb, hwb⟩ : ∃ wb, wb = wr.alloc (.cells #[.string d.name, .int .i64 d.op, .string d.a, .string d.b, .int .i64 d.value.rows, .int .i64 d.value.cols, .slice av d.value.cells.length cv] 38) := ⟨_, rfl⟩
              have hGb : Grow wr wb := by rw [hwb]; exact (Grow.refl _).alloc _ _
              have hBb : Blk wb wr.heap.size #[.string d.name, .int .i64 d.op, .string d.a, .string d.b, .int .i64 d.value.rows, .int .i64 d.value.cols, .slice av d.value.cells.length cv] 38 := by rw [hwb]; exact Blk.new _ _ _
              have Hwb := Lib.hid hwb; clear hwb
              obtain ⟨⟨z0, z1, z2, z3, z4, z5, z6⟩, -⟩ := hBb.seven
              have hr := (hO.grow hGb).rdS (S := fun _ => True) (fun _ _ => trivial)
              have hjn : j < n1 := by have := (List.getElem?_eq_some_iff.1 hxi).1; omega
              obtain ⟨b2, off2, x2, rfl, hx2, _, hbw2, hce⟩ := hr.at hjn
              have hjn1 : n1 ≤ 1048576 := by omega
              obtain rfl : x2 = x := Option.some.inj (hx2.symm.trans hxi)
              clear hx2 hxi
              have hqa := strEq d.a x2
              have hqb := strEq d.b x2
              cases hc : inSS (depTo l x2 out k) d.name with
              | true =>
                have HC := Lib.hid hc
                have HS2 := Lib.hid (show (needsB d x2 && !inSS (depTo l x2 out k) d.name) = false by rw [hc]; simp)
                clear hc
                cases qa : (d.a.toList == x2.toList) with
                | true =>
                  clear hqa hqb
                  go_wp2
                  rw [← Hwb.out]
                  refine wp_region_segs (S := Grow wb) [([0, 1, 2, 3, 4, 5, 6, 7, 8, 9, 10, 11, 12, 13, 14, 15, 16, 17, 18, 19], some 20), ([21, 22], none)] P_mixed (by kernel_rfl) (fun _ _ _ _ _ h => h) (Grow.refl _).drew ?_
                  show wpQuiet _ _ _ _ [_, _, _, _, _, _, _, _, _, _, _, _, _, _, _, _, _, _, _, _] _
                  repeat (first | go_big_quiet_skip | (go_big_quiet_want; first | (apply quiet_load CT_str; rfl; rfl; exact (fun w' hG => hG.cell z2); go_big_quiet_on; simp only [Act.put, List.setIfInBounds_toArray, List.set_cons_succ, List.set_cons_zero]) | (apply quiet_load CT_str; rfl; rfl; exact (fun w' hG => hG.cell z3); go_big_quiet_on; simp only [Act.put, List.setIfInBounds_toArray, List.set_cons_succ, List.set_cons_zero]) | (apply quiet_load CT_str; rfl; rfl; exact (fun w' hG => hG.cell z0); go_big_quiet_on; simp only [Act.put, List.setIfInBounds_toArray, List.set_cons_succ, List.set_cons_zero]) | (apply quiet_load CT_str; rfl; rfl; exact (fun w' hG => hG.cell hce); go_big_quiet_on; simp only [Act.put, List.setIfInBounds_toArray, List.set_cons_succ, List.set_cons_zero]) | (go_big_quiet_op; first | go_big_quiet_on | (refine ⟨_, (fun _ _ => rfl), ?_⟩; go_big_quiet_on))))
                  refine wpQuiet_nil ?_
                  refine seg_go rfl (fun K hK => ?_)
                  go_wp2_with fail
                  refine (containsStr_c _ _ _ (depTo l x2 out k) d.name _ (hr.grow (Grow.refl _).drew) (by omega)).mono ?_
                  rintro e w9 ⟨rfl, rfl⟩
                  have hGx : Grow wb wb.drew := (Grow.refl wb).drew
                  rw [HC.out]
                  go_wp2_with fail
                  refine hK _ _ (hGx) ?_
                  clear hK K
                  show wpQuiet _ _ _ _ [_, _] _
                  try (conv => arg 6; simp only [Act.put, List.setIfInBounds_toArray, List.set_cons_succ, List.set_cons_zero])
                  repeat (first | go_big_quiet_skip | (go_big_quiet_want; first | (apply quiet_load CT_str; rfl; rfl; exact (fun w' hG => hG.cell z2); go_big_quiet_on; simp only [Act.put, List.setIfInBounds_toArray, List.set_cons_succ, List.set_cons_zero]) | (apply quiet_load CT_str; rfl; rfl; exact (fun w' hG => hG.cell z3); go_big_quiet_on; simp only [Act.put, List.setIfInBounds_toArray, List.set_cons_succ, List.set_cons_zero]) | (apply quiet_load CT_str; rfl; rfl; exact (fun w' hG => hG.cell z0); go_big_quiet_on; simp only [Act.put, List.setIfInBounds_toArray, List.set_cons_succ, List.set_cons_zero]) | (apply quiet_load CT_str; rfl; rfl; exact (fun w' hG => hG.cell hce); go_big_quiet_on; simp only [Act.put, List.setIfInBounds_toArray, List.set_cons_succ, List.set_cons_zero]) | (go_big_quiet_op; first | go_big_quiet_on | (refine ⟨_, (fun _ _ => rfl), ?_⟩; go_big_quiet_on))))
                  refine wpQuiet_nil ?_
                  refine wpSegs_nil ?_
                  go_wp2
                  go_roundw
                  case rel =>
                    exact ⟨(hG.trans hGb).trans hGx, k + 1, some ⟨b2, off2, none⟩, n1, c1, by omega, by go_num, rfl, by rw [depTo_succ Hx.out, depStep_no HS2.out]; exact (hO.grow hGb).grow hGx, fun g hg => ⟨(hlo g hg).1, Nat.lt_of_lt_of_le (hlo g hg).2 (hGb.trans hGx).size⟩⟩
                  case measure => simp [intOf]; omega
                | false =>
                  cases qb : (d.b.toList == x2.toList) with
                  | true =>
                    clear hqa hqb
                    go_wp2
                    rw [← Hwb.out]
                    refine wp_region_segs (S := Grow wb) [([0, 1, 2, 3, 4, 5, 6, 7, 8, 9, 10, 11, 12, 13, 14, 15, 16, 17, 18, 19], some 20), ([21, 22], none)] P_mixed (by kernel_rfl) (fun _ _ _ _ _ h => h) (Grow.refl _).drew ?_
                    show wpQuiet _ _ _ _ [_, _, _, _, _, _, _, _, _, _, _, _, _, _, _, _, _, _, _, _] _
                    repeat (first | go_big_quiet_skip | (go_big_quiet_want; first | (apply quiet_load CT_str; rfl; rfl; exact (fun w' hG => hG.cell z2); go_big_quiet_on; simp only [Act.put, List.setIfInBounds_toArray, List.set_cons_succ, List.set_cons_zero]) | (apply quiet_load CT_str; rfl; rfl; exact (fun w' hG => hG.cell z3); go_big_quiet_on; simp only [Act.put, List.setIfInBounds_toArray, List.set_cons_succ, List.set_cons_zero]) | (apply quiet_load CT_str; rfl; rfl; exact (fun w' hG => hG.cell z0); go_big_quiet_on; simp only [Act.put, List.setIfInBounds_toArray, List.set_cons_succ, List.set_cons_zero]) | (apply quiet_load CT_str; rfl; rfl; exact (fun w' hG => hG.cell hce); go_big_quiet_on; simp only [Act.put, List.setIfInBounds_toArray, List.set_cons_succ, List.set_cons_zero]) | (go_big_quiet_op; first | go_big_quiet_on | (refine ⟨_, (fun _ _ => rfl), ?_⟩; go_big_quiet_on))))
                    refine wpQuiet_nil ?_
                    refine seg_go rfl (fun K hK => ?_)
                    go_wp2_with fail
                    refine (containsStr_c _ _ _ (depTo l x2 out k) d.name _ (hr.grow (Grow.refl _).drew) (by omega)).mono ?_
                    rintro e w9 ⟨rfl, rfl⟩
                    have hGx : Grow wb wb.drew := (Grow.refl wb).drew
                    rw [HC.out]
                    go_wp2_with fail
                    refine hK _ _ (hGx) ?_
                    clear hK K
                    show wpQuiet _ _ _ _ [_, _] _
                    try (conv => arg 6; simp only [Act.put, List.setIfInBounds_toArray, List.set_cons_succ, List.set_cons_zero])
                    repeat (first | go_big_quiet_skip | (go_big_quiet_want; first | (apply quiet_load CT_str; rfl; rfl; exact (fun w' hG => hG.cell z2); go_big_quiet_on; simp only [Act.put, List.setIfInBounds_toArray, List.set_cons_succ, List.set_cons_zero]) | (apply quiet_load CT_str; rfl; rfl; exact (fun w' hG => hG.cell z3); go_big_quiet_on; simp only [Act.put, List.setIfInBounds_toArray, List.set_cons_succ, List.set_cons_zero]) | (apply quiet_load CT_str; rfl; rfl; exact (fun w' hG => hG.cell z0); go_big_quiet_on; simp only [Act.put, List.setIfInBounds_toArray, List.set_cons_succ, List.set_cons_zero]) | (apply quiet_load CT_str; rfl; rfl; exact (fun w' hG => hG.cell hce); go_big_quiet_on; simp only [Act.put, List.setIfInBounds_toArray, List.set_cons_succ, List.set_cons_zero]) | (go_big_quiet_op; first | go_big_quiet_on | (refine ⟨_, (fun _ _ => rfl), ?_⟩; go_big_quiet_on))))
                    refine wpQuiet_nil ?_
                    refine wpSegs_nil ?_
                    go_wp2
                    go_roundw
                    case rel =>
                      exact ⟨(hG.trans hGb).trans hGx, k + 1, some ⟨b2, off2, none⟩, n1, c1, by omega, by go_num, rfl, by rw [depTo_succ Hx.out, depStep_no HS2.out]; exact (hO.grow hGb).grow hGx, fun g hg => ⟨(hlo g hg).1, Nat.lt_of_lt_of_le (hlo g hg).2 (hGb.trans hGx).size⟩⟩
                    case measure => simp [intOf]; omega
                  | false =>
                    clear hqa hqb
                    go_wp2
                    rw [← Hwb.out]
                    refine wp_region_segs (S := Grow wb) [([0, 1, 2, 3, 4, 5, 6, 7, 8, 9, 10, 11, 12, 13, 14, 15, 16, 17, 18, 19], some 20), ([21, 22], none)] P_mixed (by kernel_rfl) (fun _ _ _ _ _ h => h) (Grow.refl _).drew ?_
                    show wpQuiet _ _ _ _ [_, _, _, _, _, _, _, _, _, _, _, _, _, _, _, _, _, _, _, _] _
                    repeat (first | go_big_quiet_skip | (go_big_quiet_want; first | (apply quiet_load CT_str; rfl; rfl; exact (fun w' hG => hG.cell z2); go_big_quiet_on; simp only [Act.put, List.setIfInBounds_toArray, List.set_cons_succ, List.set_cons_zero]) | (apply quiet_load CT_str; rfl; rfl; exact (fun w' hG => hG.cell z3); go_big_quiet_on; simp only [Act.put, List.setIfInBounds_toArray, List.set_cons_succ, List.set_cons_zero]) | (apply quiet_load CT_str; rfl; rfl; exact (fun w' hG => hG.cell z0); go_big_quiet_on; simp only [Act.put, List.setIfInBounds_toArray, List.set_cons_succ, List.set_cons_zero]) | (apply quiet_load CT_str; rfl; rfl; exact (fun w' hG => hG.cell hce); go_big_quiet_on; simp only [Act.put, List.setIfInBounds_toArray, List.set_cons_succ, List.set_cons_zero]) | (go_big_quiet_op; first | go_big_quiet_on | (refine ⟨_, (fun _ _ => rfl), ?_⟩; go_big_quiet_on))))
                    refine wpQuiet_nil ?_
                    have hGx : Grow wb wb.drew := (Grow.refl wb).drew
                    refine seg_skip rfl (hGx) ?_
                    show wpQuiet _ _ _ _ [_, _] _
                    try (conv => arg 6; simp only [Act.put, List.setIfInBounds_toArray, List.set_cons_succ, List.set_cons_zero])
                    repeat (first | go_big_quiet_skip | (go_big_quiet_want; first | (apply quiet_load CT_str; rfl; rfl; exact (fun w' hG => hG.cell z2); go_big_quiet_on; simp only [Act.put, List.setIfInBounds_toArray, List.set_cons_succ, List.set_cons_zero]) | (apply quiet_load CT_str; rfl; rfl; exact (fun w' hG => hG.cell z3); go_big_quiet_on; simp only [Act.put, List.setIfInBounds_toArray, List.set_cons_succ, List.set_cons_zero]) | (apply quiet_load CT_str; rfl; rfl; exact (fun w' hG => hG.cell z0); go_big_quiet_on; simp only [Act.put, List.setIfInBounds_toArray, List.set_cons_succ, List.set_cons_zero]) | (apply quiet_load CT_str; rfl; rfl; exact (fun w' hG => hG.cell hce); go_big_quiet_on; simp only [Act.put, List.setIfInBounds_toArray, List.set_cons_succ, List.set_cons_zero]) | (go_big_quiet_op; first | go_big_quiet_on | (refine ⟨_, (fun _ _ => rfl), ?_⟩; go_big_quiet_on))))
                    refine wpQuiet_nil ?_
                    refine wpSegs_nil ?_
                    go_wp2
                    go_roundw
                    case rel =>
                      exact ⟨(hG.trans hGb).trans hGx, k + 1, some ⟨b2, off2, none⟩, n1, c1, by omega, by go_num, rfl, by rw [depTo_succ Hx.out, depStep_no HS2.out]; exact (hO.grow hGb).grow hGx, fun g hg => ⟨(hlo g hg).1, Nat.lt_of_lt_of_le (hlo g hg).2 (hGb.trans hGx).size⟩⟩
                    case measure => simp [intOf]; omega
              | false =>
                have HC := Lib.hid hc
                cases qa : (d.a.toList == x2.toList) with
                | true =>
                  have HS2 := Lib.hid (show (needsB d x2 && !inSS (depTo l x2 out k) d.name) = true by unfold needsB; rw [hc, ← hqa, qa]; rfl)
                  clear hqa hqb hc
                  go_wp2
                  rw [← Hwb.out]
                  refine wp_region_segs (S := Grow wb) [([0, 1, 2, 3, 4, 5, 6, 7, 8, 9, 10, 11, 12, 13, 14, 15, 16, 17, 18, 19], some 20), ([21, 22], none)] P_mixed (by kernel_rfl) (fun _ _ _ _ _ h => h) (Grow.refl _).drew ?_
                  show wpQuiet _ _ _ _ [_, _, _, _, _, _, _, _, _, _, _, _, _, _, _, _, _, _, _, _] _
                  repeat (first | go_big_quiet_skip | (go_big_quiet_want; first | (apply quiet_load CT_str; rfl; rfl; exact (fun w' hG => hG.cell z2); go_big_quiet_on; simp only [Act.put, List.setIfInBounds_toArray, List.set_cons_succ, List.set_cons_zero]) | (apply quiet_load CT_str; rfl; rfl; exact (fun w' hG => hG.cell z3); go_big_quiet_on; simp only [Act.put, List.setIfInBounds_toArray, List.set_cons_succ, List.set_cons_zero]) | (apply quiet_load CT_str; rfl; rfl; exact (fun w' hG => hG.cell z0); go_big_quiet_on; simp only [Act.put, List.setIfInBounds_toArray, List.set_cons_succ, List.set_cons_zero]) | (apply quiet_load CT_str; rfl; rfl; exact (fun w' hG => hG.cell hce); go_big_quiet_on; simp only [Act.put, List.setIfInBounds_toArray, List.set_cons_succ, List.set_cons_zero]) | (go_big_quiet_op; first | go_big_quiet_on | (refine ⟨_, (fun _ _ => rfl), ?_⟩; go_big_quiet_on))))
                  refine wpQuiet_nil ?_
                  refine seg_go rfl (fun K hK => ?_)
                  go_wp2_with fail
                  refine (containsStr_c _ _ _ (depTo l x2 out k) d.name _ (hr.grow (Grow.refl _).drew) (by omega)).mono ?_
                  rintro e w9 ⟨rfl, rfl⟩
                  have hGx : Grow wb wb.drew := (Grow.refl wb).drew
                  rw [HC.out]
                  go_wp2_with fail
                  refine hK _ _ (hGx) ?_
                  clear hK K
                  show wpQuiet _ _ _ _ [_, _] _
                  try (conv => arg 6; simp only [Act.put, List.setIfInBounds_toArray, List.set_cons_succ, List.set_cons_zero])
                  repeat (first | go_big_quiet_skip | (go_big_quiet_want; first | (apply quiet_load CT_str; rfl; rfl; exact (fun w' hG => hG.cell z2); go_big_quiet_on; simp only [Act.put, List.setIfInBounds_toArray, List.set_cons_succ, List.set_cons_zero]) | (apply quiet_load CT_str; rfl; rfl; exact (fun w' hG => hG.cell z3); go_big_quiet_on; simp only [Act.put, List.setIfInBounds_toArray, List.set_cons_succ, List.set_cons_zero]) | (apply quiet_load CT_str; rfl; rfl; exact (fun w' hG => hG.cell z0); go_big_quiet_on; simp only [Act.put, List.setIfInBounds_toArray, List.set_cons_succ, List.set_cons_zero]) | (apply quiet_load CT_str; rfl; rfl; exact (fun w' hG => hG.cell hce); go_big_quiet_on; simp only [Act.put, List.setIfInBounds_toArray, List.set_cons_succ, List.set_cons_zero]) | (go_big_quiet_op; first | go_big_quiet_on | (refine ⟨_, (fun _ _ => rfl), ?_⟩; go_big_quiet_on))))
                  refine wpQuiet_nil ?_
                  refine wpSegs_nil ?_
                  obtain ⟨wd, hwd⟩ : ∃ wd, wd = wb.drew := ⟨_, rfl⟩
                  rw [← hwd] at hGx ⊢
                  clear hwd
                  have hB1 := hBb.grow hGx
                  obtain ⟨⟨y0, -⟩, -⟩ := hB1.seven
                  have hOx := (hO.grow hGb).grow hGx
                  go_wp2_with (at_builtin; refine wpList_app rfl (.tmp 56) (.tmp 59) _ rfl T_strs rfl (hOx.grow ((Grow.refl _).alloc _ _)) rfl (Row.built (S := fun _ => True) 1 (by unfold maxLen; omega) rfl trivial) (by simp [Value.oneCell']) (by omega) (by unfold maxLen; omega) ?_; intro a3 c3 w3 hA3)
                  have hs9 := (hGb.trans hGx).size
                  have hlo' : ∀ g, blk (some (⟨b2, off2, none⟩ : Addr)) = some g → w.heap.size ≤ g := fun g hg => (hlo g hg).1
                  have hsw := hG.size
                  have hG3 : Grow w w3 := hA3.grow (((hG.trans hGb).trans hGx).alloc _ _) hlo'
                  have hl3 := hA3.lo (B := w.heap.size) (by simp; omega) hlo'
                  have hO3 := hA3.own
                  clear hA3 hO hOx
                  go_wp2
                  go_roundw
                  case rel =>
                    exact ⟨hG3, k + 1, a3, n1 + 1, c3, by omega, by go_num, rfl, by rw [depTo_succ Hx.out, depStep_yes HS2.out, strs_append]; exact hO3, fun g hg => ⟨hl3 g hg, hO3.lt hg⟩⟩
                  case measure => simp [intOf]; omega
                | false =>
                  cases qb : (d.b.toList == x2.toList) with
                  | true =>
                    have HS2 := Lib.hid (show (needsB d x2 && !inSS (depTo l x2 out k) d.name) = true by unfold needsB; rw [hc, ← hqb, qb]; simp)
                    clear hqa hqb hc
                    go_wp2
                    rw [← Hwb.out]
                    refine wp_region_segs (S := Grow wb) [([0, 1, 2, 3, 4, 5, 6, 7, 8, 9, 10, 11, 12, 13, 14, 15, 16, 17, 18, 19], some 20), ([21, 22], none)] P_mixed (by kernel_rfl) (fun _ _ _ _ _ h => h) (Grow.refl _).drew ?_
                    show wpQuiet _ _ _ _ [_, _, _, _, _, _, _, _, _, _, _, _, _, _, _, _, _, _, _, _] _
                    repeat (first | go_big_quiet_skip | (go_big_quiet_want; first | (apply quiet_load CT_str; rfl; rfl; exact (fun w' hG => hG.cell z2); go_big_quiet_on; simp only [Act.put, List.setIfInBounds_toArray, List.set_cons_succ, List.set_cons_zero]) | (apply quiet_load CT_str; rfl; rfl; exact (fun w' hG => hG.cell z3); go_big_quiet_on; simp only [Act.put, List.setIfInBounds_toArray, List.set_cons_succ, List.set_cons_zero]) | (apply quiet_load CT_str; rfl; rfl; exact (fun w' hG => hG.cell z0); go_big_quiet_on; simp only [Act.put, List.setIfInBounds_toArray, List.set_cons_succ, List.set_cons_zero]) | (apply quiet_load CT_str; rfl; rfl; exact (fun w' hG => hG.cell hce); go_big_quiet_on; simp only [Act.put, List.setIfInBounds_toArray, List.set_cons_succ, List.set_cons_zero]) | (go_big_quiet_op; first | go_big_quiet_on | (refine ⟨_, (fun _ _ => rfl), ?_⟩; go_big_quiet_on))))
                    refine wpQuiet_nil ?_
                    refine seg_go rfl (fun K hK => ?_)
                    go_wp2_with fail
                    refine (containsStr_c _ _ _ (depTo l x2 out k) d.name _ (hr.grow (Grow.refl _).drew) (by omega)).mono ?_
                    rintro e w9 ⟨rfl, rfl⟩
                    have hGx : Grow wb wb.drew := (Grow.refl wb).drew
                    rw [HC.out]
                    go_wp2_with fail
                    refine hK _ _ (hGx) ?_
                    clear hK K
                    show wpQuiet _ _ _ _ [_, _] _
                    try (conv => arg 6; simp only [Act.put, List.setIfInBounds_toArray, List.set_cons_succ, List.set_cons_zero])
                    repeat (first | go_big_quiet_skip | (go_big_quiet_want; first | (apply quiet_load CT_str; rfl; rfl; exact (fun w' hG => hG.cell z2); go_big_quiet_on; simp only [Act.put, List.setIfInBounds_toArray, List.set_cons_succ, List.set_cons_zero]) | (apply quiet_load CT_str; rfl; rfl; exact (fun w' hG => hG.cell z3); go_big_quiet_on; simp only [Act.put, List.setIfInBounds_toArray, List.set_cons_succ, List.set_cons_zero]) | (apply quiet_load CT_str; rfl; rfl; exact (fun w' hG => hG.cell z0); go_big_quiet_on; simp only [Act.put, List.setIfInBounds_toArray, List.set_cons_succ, List.set_cons_zero]) | (apply quiet_load CT_str; rfl; rfl; exact (fun w' hG => hG.cell hce); go_big_quiet_on; simp only [Act.put, List.setIfInBounds_toArray, List.set_cons_succ, List.set_cons_zero]) | (go_big_quiet_op; first | go_big_quiet_on | (refine ⟨_, (fun _ _ => rfl), ?_⟩; go_big_quiet_on))))
                    refine wpQuiet_nil ?_
                    refine wpSegs_nil ?_
                    obtain ⟨wd, hwd⟩ : ∃ wd, wd = wb.drew := ⟨_, rfl⟩
                    rw [← hwd] at hGx ⊢
                    clear hwd
                    have hB1 := hBb.grow hGx
                    obtain ⟨⟨y0, -⟩, -⟩ := hB1.seven
                    have hOx := (hO.grow hGb).grow hGx
                    go_wp2_with (at_builtin; refine wpList_app rfl (.tmp 56) (.tmp 59) _ rfl T_strs rfl (hOx.grow ((Grow.refl _).alloc _ _)) rfl (Row.built (S := fun _ => True) 1 (by unfold maxLen; omega) rfl trivial) (by simp [Value.oneCell']) (by omega) (by unfold maxLen; omega) ?_; intro a3 c3 w3 hA3)
                    have hs9 := (hGb.trans hGx).size
                    have hlo' : ∀ g, blk (some (⟨b2, off2, none⟩ : Addr)) = some g → w.heap.size ≤ g := fun g hg => (hlo g hg).1
                    have hsw := hG.size
                    have hG3 : Grow w w3 := hA3.grow (((hG.trans hGb).trans hGx).alloc _ _) hlo'
                    have hl3 := hA3.lo (B := w.heap.size) (by simp; omega) hlo'
                    have hO3 := hA3.own
                    clear hA3 hO hOx
                    go_wp2
                    go_roundw
                    case rel =>
                      exact ⟨hG3, k + 1, a3, n1 + 1, c3, by omega, by go_num, rfl, by rw [depTo_succ Hx.out, depStep_yes HS2.out, strs_append]; exact hO3, fun g hg => ⟨hl3 g hg, hO3.lt hg⟩⟩
                    case measure => simp [intOf]; omega
                  | false =>
                    have HS2 := Lib.hid (show (needsB d x2 && !inSS (depTo l x2 out k) d.name) = false by unfold needsB; rw [hc, ← hqa, ← hqb, qa, qb]; rfl)
                    clear hqa hqb hc
                    go_wp2
                    rw [← Hwb.out]
                    refine wp_region_segs (S := Grow wb) [([0, 1, 2, 3, 4, 5, 6, 7, 8, 9, 10, 11, 12, 13, 14, 15, 16, 17, 18, 19], some 20), ([21, 22], none)] P_mixed (by kernel_rfl) (fun _ _ _ _ _ h => h) (Grow.refl _).drew ?_
                    show wpQuiet _ _ _ _ [_, _, _, _, _, _, _, _, _, _, _, _, _, _, _, _, _, _, _, _] _
                    repeat (first | go_big_quiet_skip | (go_big_quiet_want; first | (apply quiet_load CT_str; rfl; rfl; exact (fun w' hG => hG.cell z2); go_big_quiet_on; simp only [Act.put, List.setIfInBounds_toArray, List.set_cons_succ, List.set_cons_zero]) | (apply quiet_load CT_str; rfl; rfl; exact (fun w' hG => hG.cell z3); go_big_quiet_on; simp only [Act.put, List.setIfInBounds_toArray, List.set_cons_succ, List.set_cons_zero]) | (apply quiet_load CT_str; rfl; rfl; exact (fun w' hG => hG.cell z0); go_big_quiet_on; simp only [Act.put, List.setIfInBounds_toArray, List.set_cons_succ, List.set_cons_zero]) | (apply quiet_load CT_str; rfl; rfl; exact (fun w' hG => hG.cell hce); go_big_quiet_on; simp only [Act.put, List.setIfInBounds_toArray, List.set_cons_succ, List.set_cons_zero]) | (go_big_quiet_op; first | go_big_quiet_on | (refine ⟨_, (fun _ _ => rfl), ?_⟩; go_big_quiet_on))))
                    refine wpQuiet_nil ?_
                    have hGx : Grow wb wb.drew := (Grow.refl wb).drew
                    refine seg_skip rfl (hGx) ?_
                    show wpQuiet _ _ _ _ [_, _] _
                    try (conv => arg 6; simp only [Act.put, List.setIfInBounds_toArray, List.set_cons_succ, List.set_cons_zero])
                    repeat (first | go_big_quiet_skip | (go_big_quiet_want; first | (apply quiet_load CT_str; rfl; rfl; exact (fun w' hG => hG.cell z2); go_big_quiet_on; simp only [Act.put, List.setIfInBounds_toArray, List.set_cons_succ, List.set_cons_zero]) | (apply quiet_load CT_str; rfl; rfl; exact (fun w' hG => hG.cell z3); go_big_quiet_on; simp only [Act.put, List.setIfInBounds_toArray, List.set_cons_succ, List.set_cons_zero]) | (apply quiet_load CT_str; rfl; rfl; exact (fun w' hG => hG.cell z0); go_big_quiet_on; simp only [Act.put, List.setIfInBounds_toArray, List.set_cons_succ, List.set_cons_zero]) | (apply quiet_load CT_str; rfl; rfl; exact (fun w' hG => hG.cell hce); go_big_quiet_on; simp only [Act.put, List.setIfInBounds_toArray, List.set_cons_succ, List.set_cons_zero]) | (go_big_quiet_op; first | go_big_quiet_on | (refine ⟨_, (fun _ _ => rfl), ?_⟩; go_big_quiet_on))))
                    refine wpQuiet_nil ?_
                    refine wpSegs_nil ?_
                    go_wp2
                    go_roundw
                    case rel =>
                      exact ⟨(hG.trans hGb).trans hGx, k + 1, some ⟨b2, off2, none⟩, n1, c1, by omega, by go_num, rfl, by rw [depTo_succ Hx.out, depStep_no HS2.out]; exact (hO.grow hGb).grow hGx, fun g hg => ⟨(hlo g hg).1, Nat.lt_of_lt_of_le (hlo g hg).2 (hGb.trans hGx).size⟩⟩
                    case measure => simp [intOf]; omega
            · have hkn : k = n := by omega
              go_wp2
              go_roundw
              case rel =>
                subst hkn
                exact ⟨hG, j + 1, n1, c1, a1, by go_num, rfl, by have := (List.getElem?_eq_some_iff.1 (depTo_at (x := x) (l := l) k Hxx.out)).1; omega, by rw [← Hall.out]; exact hO, hlo⟩
              case measure => simp [intOf]; omega
        · go_wp2
          go_ret
          have := hend (i := j) (by omega) (by rw [Hl.out]; omega)
          exact ⟨_, rfl, ⟨_, _, _, rfl, by rw [← this]; exact hO, hlo⟩, hG0⟩
    · have HN := Lib.hid (depOut_no (l := l) (name := name) (by rw [hs, decide_eq_false hq]; rfl))
      clear hs
      generalize hfn : findName l name = fn at *
      have Hfn := Lib.hid hfn; clear hfn
      go_enter Try.func21, Try.ntmps21
      go_wp2_with fail
      refine (implIsSheet_c _ _ _ l _ h hn hcl).mono ?_
      rintro e w1 ⟨rfl, hG1⟩
      rw [HS.out]
      go_wp2_with fail
      refine (implFindDef_c _ _ _ l name _ (h.grow hG1) (by omega)).mono ?_
      rintro e w2 ⟨rfl, hG2⟩
      rw [Hfn.out]
      have hGn := hG1.trans hG2
      go_wp2
      go_ret
      exact ⟨_, rfl, ⟨_, _, _, rfl, by rw [HN.out]; exact Own.fresh (by unfold maxLen; omega) rfl, fun g hg => by simp at hg; subst hg; exact ⟨hGn.size, by simp⟩⟩, hGn.alloc _ _⟩
end Go.Proofs.Ytlpkcdgkkjmagaa
