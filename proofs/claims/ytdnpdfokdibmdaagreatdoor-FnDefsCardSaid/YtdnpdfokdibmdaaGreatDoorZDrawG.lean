/-
  The draws for the law on definitions.
-/
import Derived.Test.YtdnpdfokdibmdaaGreatDoorZDrawF
import Derived.Test.YtdnpdfokdibmdaaGreatDoorZFmtE
import Derived.Test.YtdnpdfokdibmdaaGreatDoorZSplS
namespace Go.Proofs.YtdnpdfokdibmdaaGreatDoor
open Go.RowKit
theorem fmtD_small {d : Dfn} (hb : bdD d ≤ 10) : (fmtD d).length ≤ 256 := by
  unfold bdD at hb
  cases hd : isDefB d with
  | false => rw [fmtD_no hd]; simp
  | true =>
    have hr := isDefB_rng hd
    unfold fmtD
    rw [if_pos hd]
    have e1 : d.name.data.toList.length = d.name.size := bytesLen _
    have e2 : d.a.data.toList.length = d.a.size := bytesLen _
    have e3 : d.b.data.toList.length = d.b.size := bytesLen _
    simp only [List.length_append, List.length_cons]
    split
    · have : (fmtM d.value).length ≤ 160 := by
        unfold fmtM
        split
        · rename_i h
          obtain ⟨R, C, hR, hC, h1, h2, h3, h4⟩ := isMatB_shape h
          have a := itoa_len10 (n := d.value.rows) (by omega) (by omega)
          have b := itoa_len10 (n := d.value.cols) (by omega) (by omega)
          have c := cellsT_len (C := d.value.cols.toNat) (k := 0) h4
          simp only [List.length_append, List.length_cons, List.length_nil]
          omega
        · simp
      omega
    · have h2 := opw_len d.op
      simp only [List.length_append, List.length_cons]
      have h3 : (if d.b.toList.isEmpty = true then ([] : List UInt8) else 32 :: d.b.data.toList).length ≤ d.b.size + 1 := by split <;> simp <;> omega
      omega
set_option maxHeartbeats 2000000 in
set_option maxRecDepth 100000 in
theorem DrawFormatDef_c {S : Nat → Prop} (a : Option Addr) (n cap : Nat) (bs : List Int) (w : World) (h : RdB w S a n cap bs) (hn : n ≤ 1048576) :
    Calls Tryz.prog 5 #[.slice a n cap] w fun e w' => ∃ v d, e = .returned v ∧ OD w' (fun q => w.heap.size ≤ q) v d ∧ bdD d ≤ 10 ∧ Grow w w' := by
  have hG1 := (Grow.refl w).alloc zdefF 28
  have bZ := Blk.new w zdefF 28
  go_enter Tryz.func5, Tryz.ntmps5
  go_wp2_with fail
  refine (l1New_c _ _ _ bs _ (h.grow hG1) hn).mono ?_
  rintro e w1 ⟨g, hg, rfl, hC1, hG2⟩
  have hgz : w.heap.size + 1 ≤ g := by simpa using hg
  go_wp2_with fail
  refine (l36Def_c g _ hC1).mono ?_
  rintro e w2 ⟨v, d, rfl, ⟨da, dn, dc, rfl, hO, hx, hlo, hDok⟩, hbd, hC2, hK2⟩
  have hGw := (hG1.trans hG2).keep hK2 (fun q hq e => by omega)
  have hs1 := hG2.size
  simp at hs1
  have bZ2 := (bZ.grow hG2).keep hK2 (by omega)
  obtain ⟨⟨z0, z1, z2, z3, z4, z5, z6⟩, zf0⟩ := bZ2.seven
  have zf1 := bZ2.free 1
  have zf2 := bZ2.free 2
  have zf3 := bZ2.free 3
  have zf4 := bZ2.free 4
  have zf5 := bZ2.free 5
  have zf6 := bZ2.free 6
  have hltZ := bZ2.lt
  go_wp2
  have hKs : Keep (fun q => q ≠ w.heap.size) w2 (((((((w2.setCell ⟨w.heap.size, 0, none⟩ (.string d.name)).setCell ⟨w.heap.size, 1, none⟩ (.int .i64 d.op)).setCell ⟨w.heap.size, 2, none⟩ (.string d.a)).setCell ⟨w.heap.size, 3, none⟩ (.string d.b)).setCell ⟨w.heap.size, 4, none⟩ (.int .i64 d.value.rows)).setCell ⟨w.heap.size, 5, none⟩ (.int .i64 d.value.cols)).setCell ⟨w.heap.size, 6, none⟩ (.slice da dn dc)) :=
    (((((((Keep.refl _ w2).setCell (fun _ e => e rfl) _).setCell (fun _ e => e rfl) _).setCell (fun _ e => e rfl) _).setCell (fun _ e => e rfl) _).setCell (fun _ e => e rfl) _).setCell (fun _ e => e rfl) _).setCell (fun _ e => e rfl) _
  exact ret_cell T_def rfl rfl rfl (((((((bZ2.set 0 _).set 1 _).set 2 _).set 3 _).set 4 _).set 5 _).set 6 _) ⟨_, d, rfl, ⟨da, dn, dc, rfl, hO.keep hKs (fun q hq _ e => by have := hlo q hq; omega), hx, (fun q hq => by have := hlo q hq; omega), hDok⟩, hbd, keep_new (keep_new (keep_new (keep_new (keep_new (keep_new (keep_new hGw (Nat.le_refl _) _) (Nat.le_refl _) _) (Nat.le_refl _) _) (Nat.le_refl _) _) (Nat.le_refl _) _) (Nat.le_refl _) _) (Nat.le_refl _) _⟩
set_option maxHeartbeats 2000000 in
set_option maxRecDepth 100000 in
theorem DrawParseDef_c {S : Nat → Prop} (a : Option Addr) (n cap : Nat) (bs : List Int) (w : World) (h : RdB w S a n cap bs) (hn : n ≤ 1048576) :
    Calls Tryz.prog 10 #[.slice a n cap] w fun e w' => ∃ t : ByteArray, t.size ≤ 1000 ∧ e = .returned (.string t) ∧ Grow w w' := by
  go_enter Tryz.func10, Tryz.ntmps10
  go_wp2_with fail
  refine (l1New_c _ _ _ bs _ h hn).mono ?_
  rintro e w1 ⟨g, hg, rfl, hC1, hG1⟩
  go_wp2_with fail
  refine (l36Def_c g _ hC1).mono ?_
  rintro e w2 ⟨v, d, rfl, hOD, hbd, hC2, hK2⟩
  have hG2 := hG1.keep hK2 (fun q hq e => by omega)
  have hb2 := hbd
  unfold bdD at hb2
  have hfl := fmtD_small hbd
  go_wp2_with fail
  refine (sFormatDef_c (hOD.rd (S := fun _ => True) fun _ _ => trivial) (by omega)).mono ?_
  rintro e w3 ⟨rfl, hG3⟩
  have hC3 := hC2.grow hG3
  have hGw := hG2.trans hG3
  clear hOD hC2 hC1 hG1 hK2 hG2 hG3
  generalize fmtD d = L at *
  have hbz := bstr_size L
  by_cases h0 : L.length = 0
  · go_wp2
    go_ret
    exact ⟨_, by omega, rfl, hGw⟩
  · go_wp2_with fail
    refine (l1Once_c g 3 _ hC3 (by omega)).mono ?_
    rintro e w4 ⟨b, rfl, hC4, hK4⟩
    have hG4 := hGw.keep hK4 (fun q hq e => by omega)
    cases b with
    | false =>
      go_wp2
      go_ret
      exact ⟨_, by omega, rfl, hG4⟩
    | true =>
      go_wp2_with fail
      refine (l1Below_c g L.length _ hC4 (by omega)).mono ?_
      rintro e w5 ⟨k, hk, rfl, hC5, hK5⟩
      have hG5 := hG4.keep hK5 (fun q hq e => by omega)
      have hkl : k < L.length := by omega
      go_wp2
      refine wp_region_segs (S := (Keep (fun q => q ≠ g) w5)) [([0, 1, 2, 3, 7, 8, 9, 10], some 4), ([], some 5), ([6, 11, 12], none)] P_mixed (by kernel_rfl) (fun _ _ _ _ _ h => h) (Keep.refl _ _).drew ?_
      show wpQuiet _ _ _ _ [_, _, _, _, _, _, _, _] _
      repeat (first | go_big_quiet_skip | (go_big_quiet_want; first | (go_big_quiet_op; first | go_big_quiet_on | (refine ⟨_, (fun _ _ => rfl), ?_⟩; go_big_quiet_on))))
      refine wpQuiet_nil ?_
      refine seg_go rfl (fun K hK => ?_)
      go_wp2_with fail
      have hGa : Grow w5 (w5.alloc (.cells #[.string ⟨#[]⟩, .string ⟨#[32]⟩, .string ⟨#[65]⟩, .string ⟨#[120]⟩] 9)).drew := ((Grow.refl w5).alloc #[.string ⟨#[]⟩, .string ⟨#[32]⟩, .string ⟨#[65]⟩, .string ⟨#[120]⟩] 9).drew
      have hR : RdS (w5.alloc (.cells #[.string ⟨#[]⟩, .string ⟨#[32]⟩, .string ⟨#[65]⟩, .string ⟨#[120]⟩] 9)).drew (fun q => q = w5.heap.size) (some ⟨w5.heap.size, 0, none⟩) 4 4 [⟨#[]⟩, ⟨#[32]⟩, ⟨#[65]⟩, ⟨#[120]⟩] := RdS.grow (RdS.lit (Blk.new _ _ _) rfl rfl (by simp) rfl) (Grow.refl _).drew
      have hlt5 := hC5.lt
      refine hK _ _ (hGa.any) ?_
      clear hK K
      show wpQuiet _ _ _ _ [] _
      try (conv => arg 6; simp only [Act.put, List.setIfInBounds_toArray, List.set_cons_succ, List.set_cons_zero])
      refine wpQuiet_nil ?_
      refine seg_go rfl (fun K hK => ?_)
      go_wp2_with fail
      refine (l1Pick_c g _ _ _ _ _ (hC5.grow hGa) hR (fun q hq => by omega) (by omega) (by omega)).mono ?_
      rintro e w6 ⟨x, hx, rfl, hC6, hK6⟩
      have hx1 : x.size ≤ 1 := by simp at hx; rcases hx with rfl | rfl | rfl | rfl <;> decide
      have hKa := hGa.any.trans hK6
      have hG6 := hG5.keep hKa (fun q hq e => by omega)
      clear hx
      go_wp2_with fail
      refine hK _ _ (hKa) ?_
      clear hK K
      show wpQuiet _ _ _ _ [_, _, _] _
      try (conv => arg 6; simp only [Act.put, List.setIfInBounds_toArray, List.set_cons_succ, List.set_cons_zero])
      repeat (first | go_big_quiet_skip | (go_big_quiet_want; first | (go_big_quiet_op; first | go_big_quiet_on | (refine ⟨_, (fun _ _ => rfl), ?_⟩; go_big_quiet_on))))
      refine wpQuiet_nil ?_
      refine wpSegs_nil ?_
      go_wp2
      go_ret
      refine ⟨_, ?_, rfl, hG6⟩
      rw [ByteArray.size_append, ByteArray.size_append, ByteArray.size_extract, ByteArray.size_extract]
      omega
end Go.Proofs.YtdnpdfokdibmdaaGreatDoor
