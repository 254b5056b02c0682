/-
  DependentsOf: the reference's.
-/
import Derived.Test.YtlpkcdgkkjmagaaDeps
import Derived.Test.YtlpkcdgkkjmagaaStrs
import Derived.Test.YtlpkcdgkkjmagaaSheetS
import Derived.Test.YtlpkcdgkkjmagaaDepsI
namespace Go.Proofs.Ytlpkcdgkkjmagaa
open Go.RowKit

set_option maxHeartbeats 1000000 in
theorem l36Needs_c (d : Dfn) (sv : Value) (x : ByteArray) (w : World) :
    Calls Try.prog 41 #[.agg #[.string d.name, .int .i64 d.op, .string d.a, .string d.b, .int .i64 d.value.rows, .int .i64 d.value.cols, sv], .string x] w fun e w' => e = .returned (.bool (!decide (d.op = 0) && needsB d x)) ∧ Grow w w' := by
  have hG : Grow w (w.alloc (.cells #[.string d.name, .int .i64 d.op, .string d.a, .string d.b, .int .i64 d.value.rows, .int .i64 d.value.cols, sv] 38)) := (Grow.refl w).alloc _ _
  have ha := strEq d.a x
  have hb := strEq d.b x
  by_cases h0 : d.op = 0
  · have e0 : (d.op != 0) = false := by simp [h0]
    go_enter Try.func41, Try.ntmps41
    go_wp2
    go_ret
    exact ⟨ret_bool (by rw [decide_eq_true h0]; rfl), (Grow.refl w).alloc _ _⟩
  · have e0 : (d.op != 0) = true := by simp [h0]
    unfold needsB
    rw [← ha, ← hb]
    clear ha hb
    cases qa : (d.a.toList == x.toList) with
    | true =>
      go_enter Try.func41, Try.ntmps41
      go_wp2
      go_ret
      exact ⟨ret_bool (by rw [decide_eq_false h0]; rfl), hG⟩
    | false =>
      go_enter Try.func41, Try.ntmps41
      go_wp2
      go_ret
      exact ⟨ret_bool (by rw [decide_eq_false h0]; rfl), hG⟩

theorem inSS_succ {l : List ByteArray} {k : Nat} {s x : ByteArray} (h : l[k]? = some s) : inSS (l.take (k + 1)) x = (inSS (l.take k) x || decide (s = x)) := by
  unfold inSS; rw [take_succ h, List.any_append]; simp
set_option maxHeartbeats 4000000 in
set_option maxRecDepth 100000 in
theorem specDependentsOf_c {S : Nat → Prop} (a : Option Addr) (n cap : Nat) (l : List Dfn) (name : ByteArray) (w : World) (h : RdD w S a n cap l) (hn : n ≤ 1048576) (hcl : ∀ d ∈ l, d.value.cells.length ≤ 2097152) :
    Calls Try.prog 20 #[.slice a n cap, .string name] w fun e w' => ∃ v', e = .returned v' ∧ OSS w' (New w w') v' (depOut l name) ∧ Grow w w' := by
  have Hl := Lib.hid h.len
  have h' := h.grow ((Grow.refl w).alloc #[] 9)
  have hE : Own (w.alloc (.cells #[] 9)) 9 1 (some ⟨w.heap.size, 0, none⟩) 0 0 (strs []) := Own.fresh (by unfold maxLen; omega) rfl
  cases hs : sheetB l with
  | false =>
    have HN := Lib.hid (depOut_no (l := l) (name := name) (by rw [hs]; rfl))
    have HS := Lib.hid hs; clear hs
    go_enter Try.func20, Try.ntmps20
    go_wp2_with fail
    refine (specIsSheet_c _ _ _ l _ h' hn hcl).mono ?_
    rintro e w1 ⟨rfl, hGn⟩
    rw [HS.out]
    go_wp2
    go_ret
    exact ⟨_, rfl, ⟨_, _, _, rfl, by rw [HN.out]; exact hE.grow hGn, fun g hg => by simp at hg; subst hg; exact ⟨Nat.le_refl _, by have := hGn.size; simp at this; omega⟩⟩, ((Grow.refl w).alloc _ _).trans hGn⟩
  | true =>
    have HS := Lib.hid hs
    by_cases hq : 0 ≤ findName l name
    · have hok := fun i => depAt_ok (l := l) hq i
      have hend := fun {i : Nat} => depOut_end (l := l) (name := name) (i := i) hs hq
      have hnm := fun {out : List ByteArray} {x : ByteArray} {i : Nat} => dep_name (l := l) (out := out) (x := x) (i := i) hs
      have hdf := fun {d : Dfn} => sheet_def (l := l) (d := d) hs
      clear hs
      generalize hfn : findName l name = fn at *
      have Hfn := Lib.hid hfn; clear hfn
      go_enter Try.func20, Try.ntmps20
      go_wp2_with fail
      refine (specIsSheet_c _ _ _ l _ h' hn hcl).mono ?_
      rintro e w1 ⟨rfl, hGn⟩
      rw [HS.out]
      go_wp2_with fail
      refine (specFindDef_c _ _ _ l name _ (h'.grow hGn) (by omega)).mono ?_
      rintro e w2 ⟨rfl, rfl⟩
      rw [Hfn.out]
      have hE1 := hE.grow hGn
      have hs1 := hGn.size
      simp at hs1
      go_wp2_with (at_builtin; refine wpList_app rfl (.tmp 21) (.tmp 23) _ rfl T_strs rfl (hE1.grow ((Grow.refl _).alloc _ _)) rfl (Row.built (S := fun _ => True) 1 (by unfold maxLen; omega) rfl trivial) (by simp [Value.oneCell']) (by omega) (by unfold maxLen; omega) ?_; intro a3 c3 w3 hA3)
      have hG0 : Grow w w3 := hA3.grow ((((Grow.refl w).alloc _ _).trans hGn).alloc _ _) (fun g hg => by simp at hg; omega)
      have hO : Own w3 9 1 a3 1 c3 (strs [name]) := by simpa [strs] using hA3.own
      have hl3 := hA3.lo (B := w.heap.size) (by simp; omega) (fun g hg => by simp at hg; omega)
      clear hA3 hE1 hs1 hGn hE
      go_loopw [5, 6] (fun v i wr => Grow w wr ∧ ∃ (j n1 c1 : Nat) (a1 : Option Addr), i = .int .i64 j ∧ v = .slice a1 n1 c1 ∧ j ≤ n1 ∧ Own wr 9 1 a1 n1 c1 (strs (depAt l name j)) ∧ ∀ g, blk a1 = some g → New w wr g) (fun _ i _ => n - (intOf i).toNat)
      case atStart => exact ⟨hG0, 0, 1, c3, a3, rfl, rfl, by omega, hO, fun g hg => ⟨hl3 g hg, hO.lt hg⟩⟩
      case round =>
        clear hG0 hO hl3
        obtain ⟨hG0, j, n1, c1, a1, rfl, rfl, hjn, hO, hlo⟩ := hrel
        have hlen : (depAt l name j).length = n1 := by simpa using hO.len
        have hle := (hok j).len
        rw [Hl.out, hlen] at hle
        by_cases hlt : j < n1
        · obtain ⟨x, hx⟩ : ∃ x, (depAt l name j)[j]? = some x := ⟨_, List.getElem?_eq_getElem (by omega)⟩
          have Hxx := Lib.hid hx
          have hjb : j < n := by omega
          have Hok := Lib.hid (hok j)
          have hxs := hnm (hok j) hx
          have hstart : depTo l x (depAt l name j) 0 = depAt l name j := rfl
          have hall : depTo l x (depAt l name j) n = depAt l name (j + 1) := by rw [← Hl.out]; exact depTo_all hx
          have Hall := Lib.hid hall
          clear hall hx
          generalize hout : depAt l name j = out at *
          go_wp2
          go_loopw [5, 7] (fun v i wr => Grow w wr ∧ ∃ (k : Nat) (a1 : Option Addr) (n1 c1 : Nat), k ≤ n ∧ i = .int .i64 k ∧ v = .slice a1 n1 c1 ∧ Own wr 9 1 a1 n1 c1 (strs (depTo l x out k)) ∧ ∀ g, blk a1 = some g → New w wr g) (fun _ i _ => n - (intOf i).toNat)
          case atStart => exact ⟨hG0, 0, a1, n1, c1, Nat.zero_le _, rfl, rfl, by rw [hstart]; exact hO, hlo⟩
          case round =>
            clear hG0 hO hlo hlen hle hlt hjn hstart
            obtain ⟨hG, k, a1, n1, c1, hk, rfl, rfl, hO, hlo⟩ := hrel
            have hlen : (depTo l x out k).length = n1 := by simpa using hO.len
            have hle := (depTo_ok (x := x) Hok.out k).len
            rw [Hl.out, hlen] at hle
            by_cases hlt : k < n
            · obtain ⟨b, off, d, av, cv, rfl, hx, _, hbw, hd1, r1, ho⟩ := (h.grow hG).at hlt
              have hop := needs_op (hdf (List.mem_of_getElem? hx)) hxs
              have Hx := Lib.hid hx; clear hx
              have hxi := depTo_at (x := x) (l := l) k Hxx.out
              have hr := hO.rdS (S := fun _ => True) (fun _ _ => trivial)
              have hjn : j < n1 := by have := (List.getElem?_eq_some_iff.1 hxi).1; omega
              have hjn1 : n1 ≤ 1048576 := by omega
              obtain ⟨b2, off2, x2, rfl, hx2, _, hbw2, hce⟩ := hr.at hjn
              obtain rfl : x2 = x := Option.some.inj (hx2.symm.trans hxi)
              clear hx2 hxi
              go_wp2
              go_loopw [8, 9] (fun v i wq => Grow wr wq ∧ ∃ m : Nat, m ≤ n1 ∧ i = .int .i64 m ∧ v = .bool (inSS ((depTo l x2 out k).take m) d.name)) (fun _ i _ => n1 - (intOf i).toNat)
              case atStart => exact ⟨Grow.refl _, 0, Nat.zero_le _, rfl, rfl⟩
              case round =>
                obtain ⟨hGq, m, hm, rfl, rfl⟩ := hrel
                by_cases hmn : m < n1
                · obtain ⟨b3, off3, y, e3, hy, _, hbw3, hcy⟩ := (hr.grow hGq).at hmn
                  obtain ⟨rfl, rfl⟩ : b3 = b2 ∧ off3 = off2 := by simpa using e3.symm
                  have hin := inSS_succ (x := d.name) hy
                  have hqy := strEq y d.name
                  have hcn := (hd1.grow hGq).1
                  clear hy
                  rw [← hqy] at hin
                  cases hi0 : inSS ((depTo l x2 out k).take m) d.name with
                  | true =>
                    rw [hi0] at hin
                    have Hin := Lib.hid hin; clear hin hi0
                    go_wp2
                    go_quiet (fail)
                    go_wp2
                    go_roundw
                    case rel => exact ⟨hGq.drewN _, m + 1, by omega, by go_num, by rw [Hin.out]; rfl⟩
                    case measure => simp [intOf]; omega
                  | false =>
                    rw [hi0] at hin
                    have Hin := Lib.hid hin; clear hin hi0
                    go_wp2
                    go_quiet (fail)
                    go_wp2
                    go_roundw
                    case rel => exact ⟨hGq.drewN _, m + 1, by omega, by go_num, by rw [Hin.out, hqy]; simp⟩
                    case measure => simp [intOf]; omega
                · have hmm : m = n1 := by omega
                  subst hmm
                  rw [take_all hlen]
                  have hd2 := hd1.grow hGq
                  have hce2 := hGq.cell hce
                  have hr1 := r1.grow hGq
                  cases hc : inSS (depTo l x2 out k) d.name with
                  | true =>
                    have HS2 := Lib.hid (show (needsB d x2 && !inSS (depTo l x2 out k) d.name) = false by rw [hc]; simp)
                    clear hc hop
                    go_wp2
                    refine wp_region_segs (S := Grow wr) [([0, 1, 2, 3, 4, 5, 6, 7, 8, 9, 10], some 11), ([12], none)] P_mixed (by kernel_rfl) (fun _ _ _ _ _ h => h) (Grow.refl _).drew ?_
                    show wpQuiet _ _ _ _ [_, _, _, _, _, _, _, _, _, _, _] _
                    repeat (first | go_big_quiet_skip | (go_big_quiet_want; first | (apply quiet_load7 T_def; rfl; rfl; exact (fun w' hG => hd2.grow hG); go_big_quiet_on; simp only [Act.put, List.setIfInBounds_toArray, List.set_cons_succ, List.set_cons_zero]) | (apply quiet_load CT_str; rfl; rfl; exact (fun w' hG => hG.cell hce2); go_big_quiet_on; simp only [Act.put, List.setIfInBounds_toArray, List.set_cons_succ, List.set_cons_zero]) | (go_big_quiet_op; first | go_big_quiet_on | (refine ⟨_, (fun _ _ => rfl), ?_⟩; go_big_quiet_on))))
                    refine wpQuiet_nil ?_
                    have hGx : Grow wr wr.drew := (Grow.refl wr).drew
                    refine seg_skip rfl (hGx) ?_
                    show wpQuiet _ _ _ _ [_] _
                    try (conv => arg 6; simp only [Act.put, List.setIfInBounds_toArray, List.set_cons_succ, List.set_cons_zero])
                    repeat (first | go_big_quiet_skip | (go_big_quiet_want; first | (apply quiet_load7 T_def; rfl; rfl; exact (fun w' hG => hd2.grow hG); go_big_quiet_on; simp only [Act.put, List.setIfInBounds_toArray, List.set_cons_succ, List.set_cons_zero]) | (apply quiet_load CT_str; rfl; rfl; exact (fun w' hG => hG.cell hce2); go_big_quiet_on; simp only [Act.put, List.setIfInBounds_toArray, List.set_cons_succ, List.set_cons_zero]) | (go_big_quiet_op; first | go_big_quiet_on | (refine ⟨_, (fun _ _ => rfl), ?_⟩; go_big_quiet_on))))
                    refine wpQuiet_nil ?_
                    refine wpSegs_nil ?_
                    go_wp2
                    go_roundw
                    case rel =>
                      exact ⟨(hG.trans hGq).trans hGx, k + 1, some ⟨b2, off2, none⟩, _, c1, by omega, by go_num, rfl, by rw [depTo_succ Hx.out, depStep_no HS2.out]; exact (hO.grow hGq).grow hGx, fun g hg => ⟨(hlo g hg).1, Nat.lt_of_lt_of_le (hlo g hg).2 (hGq.trans hGx).size⟩⟩
                    case measure => simp [intOf]; omega
                  | false =>
                    cases hnb : needsB d x2 with
                    | false =>
                      have HC := Lib.hid (show (!decide (d.op = 0) && needsB d x2) = false by rw [hop, hnb])
                      have HS2 := Lib.hid (show (needsB d x2 && !inSS (depTo l x2 out k) d.name) = false by rw [hnb]; rfl)
                      clear hc hop hnb
                      go_wp2
                      refine wp_region_segs (S := Grow wr) [([0, 1, 2, 3, 4, 5, 6, 7, 8, 9, 10], some 11), ([12], none)] P_mixed (by kernel_rfl) (fun _ _ _ _ _ h => h) (Grow.refl _).drew ?_
                      show wpQuiet _ _ _ _ [_, _, _, _, _, _, _, _, _, _, _] _
                      repeat (first | go_big_quiet_skip | (go_big_quiet_want; first | (apply quiet_load7 T_def; rfl; rfl; exact (fun w' hG => hd2.grow hG); go_big_quiet_on; simp only [Act.put, List.setIfInBounds_toArray, List.set_cons_succ, List.set_cons_zero]) | (apply quiet_load CT_str; rfl; rfl; exact (fun w' hG => hG.cell hce2); go_big_quiet_on; simp only [Act.put, List.setIfInBounds_toArray, List.set_cons_succ, List.set_cons_zero]) | (go_big_quiet_op; first | go_big_quiet_on | (refine ⟨_, (fun _ _ => rfl), ?_⟩; go_big_quiet_on))))
                      refine wpQuiet_nil ?_
                      refine seg_go rfl (fun K hK => ?_)
                      go_wp2_with fail
                      refine (l36Needs_c d _ x2 _).mono ?_
                      rintro e w9 ⟨rfl, hGn⟩
                      have hGx : Grow wr w9 := (Grow.refl wr).drew.trans hGn
                      clear hGn
                      rw [HC.out]
                      go_wp2_with fail
                      refine hK _ _ (hGx) ?_
                      clear hK K
                      show wpQuiet _ _ _ _ [_] _
                      try (conv => arg 6; simp only [Act.put, List.setIfInBounds_toArray, List.set_cons_succ, List.set_cons_zero])
                      repeat (first | go_big_quiet_skip | (go_big_quiet_want; first | (apply quiet_load7 T_def; rfl; rfl; exact (fun w' hG => hd2.grow hG); go_big_quiet_on; simp only [Act.put, List.setIfInBounds_toArray, List.set_cons_succ, List.set_cons_zero]) | (apply quiet_load CT_str; rfl; rfl; exact (fun w' hG => hG.cell hce2); go_big_quiet_on; simp only [Act.put, List.setIfInBounds_toArray, List.set_cons_succ, List.set_cons_zero]) | (go_big_quiet_op; first | go_big_quiet_on | (refine ⟨_, (fun _ _ => rfl), ?_⟩; go_big_quiet_on))))
                      refine wpQuiet_nil ?_
                      refine wpSegs_nil ?_
                      go_wp2
                      go_roundw
                      case rel =>
                        exact ⟨(hG.trans hGq).trans hGx, k + 1, some ⟨b2, off2, none⟩, _, c1, by omega, by go_num, rfl, by rw [depTo_succ Hx.out, depStep_no HS2.out]; exact (hO.grow hGq).grow hGx, fun g hg => ⟨(hlo g hg).1, Nat.lt_of_lt_of_le (hlo g hg).2 (hGq.trans hGx).size⟩⟩
                      case measure => simp [intOf]; omega
                    | true =>
                      have HC := Lib.hid (show (!decide (d.op = 0) && needsB d x2) = true by rw [hop, hnb])
                      have HS2 := Lib.hid (show (needsB d x2 && !inSS (depTo l x2 out k) d.name) = true by rw [hnb, hc]; rfl)
                      clear hc hop hnb
                      go_wp2
                      refine wp_region_segs (S := Grow wr) [([0, 1, 2, 3, 4, 5, 6, 7, 8, 9, 10], some 11), ([12], none)] P_mixed (by kernel_rfl) (fun _ _ _ _ _ h => h) (Grow.refl _).drew ?_
                      show wpQuiet _ _ _ _ [_, _, _, _, _, _, _, _, _, _, _] _
                      repeat (first | go_big_quiet_skip | (go_big_quiet_want; first | (apply quiet_load7 T_def; rfl; rfl; exact (fun w' hG => hd2.grow hG); go_big_quiet_on; simp only [Act.put, List.setIfInBounds_toArray, List.set_cons_succ, List.set_cons_zero]) | (apply quiet_load CT_str; rfl; rfl; exact (fun w' hG => hG.cell hce2); go_big_quiet_on; simp only [Act.put, List.setIfInBounds_toArray, List.set_cons_succ, List.set_cons_zero]) | (go_big_quiet_op; first | go_big_quiet_on | (refine ⟨_, (fun _ _ => rfl), ?_⟩; go_big_quiet_on))))
                      refine wpQuiet_nil ?_
                      refine seg_go rfl (fun K hK => ?_)
                      go_wp2_with fail
                      refine (l36Needs_c d _ x2 _).mono ?_
                      rintro e w9 ⟨rfl, hGn⟩
                      have hGx : Grow wr w9 := (Grow.refl wr).drew.trans hGn
                      clear hGn
                      rw [HC.out]
                      go_wp2_with fail
                      refine hK _ _ (hGx) ?_
                      clear hK K
                      show wpQuiet _ _ _ _ [_] _
                      try (conv => arg 6; simp only [Act.put, List.setIfInBounds_toArray, List.set_cons_succ, List.set_cons_zero])
                      repeat (first | go_big_quiet_skip | (go_big_quiet_want; first | (apply quiet_load7 T_def; rfl; rfl; exact (fun w' hG => hd2.grow hG); go_big_quiet_on; simp only [Act.put, List.setIfInBounds_toArray, List.set_cons_succ, List.set_cons_zero]) | (apply quiet_load CT_str; rfl; rfl; exact (fun w' hG => hG.cell hce2); go_big_quiet_on; simp only [Act.put, List.setIfInBounds_toArray, List.set_cons_succ, List.set_cons_zero]) | (go_big_quiet_op; first | go_big_quiet_on | (refine ⟨_, (fun _ _ => rfl), ?_⟩; go_big_quiet_on))))
                      refine wpQuiet_nil ?_
                      refine wpSegs_nil ?_
                      obtain ⟨y0, y1, y2, y3, y4, y5, y6⟩ := hd2.grow hGx
                      have hOx := (hO.grow hGq).grow hGx
                      go_wp2_with (at_builtin; refine wpList_app rfl (.tmp 69) (.tmp 75) _ rfl T_strs rfl (hOx.grow ((Grow.refl _).alloc _ _)) rfl (Row.built (S := fun _ => True) 1 (by unfold maxLen; omega) rfl trivial) (by simp [Value.oneCell']) (by omega) (by unfold maxLen; omega) ?_; intro a3 c3 w3 hA3)
                      have hs9 := (hGq.trans hGx).size
                      have hlo' : ∀ g, blk (some (⟨b2, off2, none⟩ : Addr)) = some g → w.heap.size ≤ g := fun g hg => (hlo g hg).1
                      have hsw := hG.size
                      have hG3 : Grow w w3 := hA3.grow (((hG.trans hGq).trans hGx).alloc _ _) hlo'
                      have hl3 := hA3.lo (B := w.heap.size) (by simp; omega) hlo'
                      have hO3 := hA3.own
                      clear hA3 hO hOx
                      go_wp2
                      go_roundw
                      case rel =>
                        exact ⟨hG3, k + 1, a3, m + 1, c3, by omega, by go_num, rfl, by rw [depTo_succ Hx.out, depStep_yes HS2.out, strs_append]; exact hO3, fun g hg => ⟨hl3 g hg, hO3.lt hg⟩⟩
                      case measure => simp [intOf]; omega
            · have hkn : k = n := by omega
              go_wp2
              go_roundw
              case rel =>
                subst hkn
                exact ⟨hG, j + 1, n1, c1, a1, by go_num, rfl, by have := (List.getElem?_eq_some_iff.1 (depTo_at (x := x) (l := l) k Hxx.out)).1; omega, by rw [← Hall.out]; exact hO, hlo⟩
              case measure => simp [intOf]; omega
        · go_wp2
          go_ret
          have := hend (i := j) (by omega) (by rw [Hl.out]; omega)
          exact ⟨_, rfl, ⟨_, _, _, rfl, by rw [← this]; exact hO, hlo⟩, hG0⟩
    · have HN := Lib.hid (depOut_no (l := l) (name := name) (by rw [hs, decide_eq_false hq]; rfl))
      clear hs
      generalize hfn : findName l name = fn at *
      have Hfn := Lib.hid hfn; clear hfn
      go_enter Try.func20, Try.ntmps20
      go_wp2_with fail
      refine (specIsSheet_c _ _ _ l _ h' hn hcl).mono ?_
      rintro e w1 ⟨rfl, hGn⟩
      rw [HS.out]
      go_wp2_with fail
      refine (specFindDef_c _ _ _ l name _ (h'.grow hGn) (by omega)).mono ?_
      rintro e w2 ⟨rfl, rfl⟩
      rw [Hfn.out]
      go_wp2
      go_ret
      exact ⟨_, rfl, ⟨_, _, _, rfl, by rw [HN.out]; exact hE.grow hGn, fun g hg => by simp at hg; subst hg; exact ⟨Nat.le_refl _, by have := hGn.size; simp at this; omega⟩⟩, ((Grow.refl w).alloc _ _).trans hGn⟩
end Go.Proofs.Ytlpkcdgkkjmagaa
