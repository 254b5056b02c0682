/-
  Matrices read back from their texts: the program's ParseMatrix, the walk.
-/
import Derived.Test.YtdnpdfokdibmdaaGreatDoorZPrnI
namespace Go.Proofs.YtdnpdfokdibmdaaGreatDoor
open Go.RowKit

theorem data_b (l : List UInt8) : (bstr l).data.toList = l := rfl
theorem ownsRow_own {w : World} {base : Nat} {e : TypeId} {a : Option Addr} {n c : Nat} {xs : List Value} (h : w.ownsRow base e 1 (.slice a n c) n xs) : Own w e 1 a n c xs := by
  obtain ⟨hl, h⟩ := h
  rcases h with ⟨h1, rfl⟩ | ⟨g, cap, cur, h1, -, h3, h4, h5, h6, h7⟩
  · injection h1 with h1 h2 h3
    subst h1; subst h3
    exact ⟨hl, Nat.le_refl _, by unfold maxLen; omega, fun _ => rfl, fun p hp => by cases hp⟩
  · injection h1 with h1 h2 h8
    subst h1; subst h8
    exact ⟨hl, h4, h5, (fun e => by cases e), fun p hp => by cases hp; exact ⟨rfl, cur, h3, by rw [h6]; exact Nat.le_refl _, h7⟩⟩
set_option maxHeartbeats 8000000 in
set_option maxRecDepth 100000 in
theorem iParseMatrix_c (s : ByteArray) (w : World) (hs : s.size ≤ 1048576) (he : Env w) :
    Calls Tryz.prog 17 #[.string s] w fun e w' => ∃ v, e = .returned (.tuple #[v, .bool (parMb s.data.toList)]) ∧ OM w' (New w w') v (parMv s.data.toList) ∧ Grow w w' := by
  have hG1 := (Grow.refl w).alloc #[.int .i64 0, .int .i64 0, .slice none 0 0] 26
  have bZ := Blk.new w #[.int .i64 0, .int .i64 0, .slice none 0 0] 26
  have HL := Lib.hid (bytesLen s)
  have He := Lib.hid he; clear he
  have hle0 : w.heap.size ≤ w.heap.size := Nat.le_refl _
  by_cases h8 : 8000 < s.size
  · have Hno := Lib.hid (parM_n (pn0 (L := s.data.toList) (by rw [HL.out]; exact h8)))
    have bZn := bZ
    have hGn := hG1
    go_enter Tryz.func17, Tryz.ntmps17
    go_wp2
    exact ret_cell_tmp T_mat rfl rfl rfl bZ ⟨_, by rw [Hno.out.2]; rfl, by rw [Hno.out.1]; exact zeroM_own, hG1⟩
  · obtain ⟨mx, hmx⟩ := (He.out.grow hG1).len
    obtain ⟨L, hL⟩ : ∃ L, L = s.data.toList := ⟨_, rfl⟩
    have hcl := cut_len L [91]
    have hLs : L.length = s.size := by rw [hL]; exact bytesLen s
    have hcl2 := cut_len (Lib.cut L [91]).1 [120]
    rw [← hL]
    have HLL := Lib.hid hL
    obtain ⟨H, hH⟩ : ∃ H, H = (Lib.cut L [91]).1 := ⟨_, rfl⟩
    obtain ⟨T, hT⟩ : ∃ T, T = (Lib.cut L [91]).2.1 := ⟨_, rfl⟩
    obtain ⟨ok, hok⟩ : ∃ ok, ok = (Lib.cut L [91]).2.2 := ⟨_, rfl⟩
    rw [← hH] at hcl2
    obtain ⟨A, hA⟩ : ∃ A, A = (Lib.cut H [120]).1 := ⟨_, rfl⟩
    obtain ⟨B, hB⟩ : ∃ B, B = (Lib.cut H [120]).2.1 := ⟨_, rfl⟩
    obtain ⟨ok2, hok2⟩ : ∃ ok2, ok2 = (Lib.cut H [120]).2.2 := ⟨_, rfl⟩
    have Hn1 := Lib.hid (fun e : ok = false => parM_n (pn1 (L := L) (hok ▸ e)))
    have Hn2 := Lib.hid (fun e : ok2 = false => parM_n (pn2 (L := L) (by rw [← hH, ← hok2]; exact e)))
    have Hn3 := Lib.hid (fun e : parIb A = false => parM_n (pn3 (L := L) (by rw [← hH, ← hA]; exact e)))
    have Hn4 := Lib.hid (fun e : parIb B = false => parM_n (pn4 (L := L) (by rw [← hH, ← hB]; exact e)))
    have Hn5 := Lib.hid (fun e : Lib.hasSuffix T [93] = false => parM_n (pn5 (L := L) (by rw [← hT]; exact e)))
    have Hn6 := Lib.hid (fun (Y : List UInt8) (h : T = Y ++ [93]) (x : ByteArray) (hx : x ∈ Lib.goFieldsP rq (bstr Y)) (e : parIb x.data.toList = false) => parM_n (pn6 (L := L) (hT ▸ h) hx e))
    have Hn7 := Lib.hid (fun (Y : List UInt8) (h : T = Y ++ [93]) (e : ¬ (isMatB ⟨parIv A, parIv B, csOf Y⟩ = true ∧ fmtM ⟨parIv A, parIv B, csOf Y⟩ = L)) => parM_n (pn7 (L := L) (hT ▸ h) (by unfold candI; rw [← hH, ← hA, ← hB]; exact e)))
    have hHl : H.length ≤ s.size := by rw [hH]; omega
    have hTl : T.length ≤ s.size := by rw [hT]; omega
    have hAl : A.length ≤ s.size := by rw [hA]; omega
    have hBl : B.length ≤ s.size := by rw [hB]; omega
    have c1 := sh_strings_Cut s (bstr [91]) mx (w.alloc (.cells #[.int .i64 0, .int .i64 0, .slice none 0 0] 26)) (by omega) hmx
    rw [← hL, data_b, ← hT, ← hok, show (⟨(Lib.cut L [91]).1.toArray⟩ : ByteArray) = bstr H by rw [hH]] at c1
    have c2 := fun q => sh_strings_Cut (bstr H) (bstr [120]) mx ((w.alloc (.cells #[.int .i64 0, .int .i64 0, .slice none 0 0] 26)).drewN q) (by rw [bstr_size]; omega) (((Grow.refl _).drewN q).cell hmx)
    simp only [data_b, ← hB, ← hok2] at c2
    have c2 := fun q => (show (⟨(Lib.cut H [120]).1.toArray⟩ : ByteArray) = bstr A by rw [hA]) ▸ c2 q
    have C1 := Lib.hid c1
    have C2 := Lib.hid c2
    clear c1 c2 hL hH hT hok hA hB hok2 hcl hcl2 hLs hmx
    go_enter Tryz.func17, Tryz.ntmps17
    go_wp2_with fail
    refine C1.out.mono ?_
    rintro e w2 ⟨rfl, q2, rfl⟩
    go_wp2_with fail
    refine (C2.out q2).mono ?_
    rintro e w3 ⟨rfl, q3, rfl⟩
    rw [World.drewN_drewN]
    obtain ⟨w4, hw4⟩ : ∃ w4, w4 = (w.alloc (.cells #[.int .i64 0, .int .i64 0, .slice none 0 0] 26)).drewN (q2 + q3) := ⟨_, rfl⟩
    rw [← hw4]
    have hG4 : Grow w w4 := by rw [hw4]; exact hG1.drewN _
    have bZ4 : Blk w4 w.heap.size #[.int .i64 0, .int .i64 0, .slice none 0 0] 26 := by rw [hw4]; exact bZ.grow ((Grow.refl _).drewN _)
    clear hw4 C1 C2
    go_wp2_with fail
    refine (iParseInt_c (bstr A) _ (by rw [bstr_size]; omega) (He.out.grow hG4)).mono ?_
    rw [data_b]
    rintro e w5 ⟨rfl, hG5⟩
    go_wp2_with fail
    refine (iParseInt_c (bstr B) _ (by rw [bstr_size]; omega) (He.out.grow (hG4.trans hG5))).mono ?_
    rw [data_b]
    rintro e w6 ⟨rfl, hG6⟩
    have hGn : Grow w w6 := (hG4.trans hG5).trans hG6
    have bZn := bZ4.grow (hG5.trans hG6)
    clear hG4 hG5 hG6 bZ4 hG1 bZ
    obtain ⟨⟨z0, z1, z2⟩, f0, f1, f2⟩ := bZn.three
    have hltZ := bZn.lt
    have hnA := isNumB_rng (parIv_num A)
    have hnB := isNumB_rng (parIv_num B)
    obtain ⟨rA, hrA⟩ : ∃ r, r = parIv A := ⟨_, rfl⟩
    obtain ⟨rB, hrB⟩ : ∃ r, r = parIv B := ⟨_, rfl⟩
    rw [← hrA] at Hn7 hnA ⊢
    rw [← hrB] at Hn7 hnB ⊢
    clear hrA hrB
    cases ok with
    | false =>
      have Hno := Lib.hid (Hn1.out rfl)
      go_wp2
      exact ret_cell_tmp T_mat rfl rfl rfl (((bZn.set 0 _).set 1 _).set 2 _) ⟨_, by rw [Hno.out.2]; rfl, by rw [Hno.out.1]; exact zeroM_own, ((hGn.setCell hle0 _).setCell hle0 _).setCell hle0 _⟩
    | true =>
      cases ok2 with
      | false =>
        have Hno := Lib.hid (Hn2.out rfl)
        go_wp2
        exact ret_cell_tmp T_mat rfl rfl rfl (((bZn.set 0 _).set 1 _).set 2 _) ⟨_, by rw [Hno.out.2]; rfl, by rw [Hno.out.1]; exact zeroM_own, ((hGn.setCell hle0 _).setCell hle0 _).setCell hle0 _⟩
      | true =>
        cases hb1 : parIb A with
        | false =>
          have Hno := Lib.hid (Hn3.out hb1)
          clear hb1
          go_wp2
          exact ret_cell_tmp T_mat rfl rfl rfl (((bZn.set 0 _).set 1 _).set 2 _) ⟨_, by rw [Hno.out.2]; rfl, by rw [Hno.out.1]; exact zeroM_own, ((hGn.setCell hle0 _).setCell hle0 _).setCell hle0 _⟩
        | true =>
          clear hb1
          cases hb2 : parIb B with
          | false =>
            have Hno := Lib.hid (Hn4.out hb2)
            clear hb2
            go_wp2
            exact ret_cell_tmp T_mat rfl rfl rfl (((bZn.set 0 _).set 1 _).set 2 _) ⟨_, by rw [Hno.out.2]; rfl, by rw [Hno.out.1]; exact zeroM_own, ((hGn.setCell hle0 _).setCell hle0 _).setCell hle0 _⟩
          | true =>
            clear hb2
            go_wp2_with fail
            refine (sh_strings_HasSuffix (bstr T) (bstr [93]) _ (by rw [bstr_size]; omega)).mono ?_
            rw [data_b, data_b]
            rintro e w7 ⟨rfl, hw7⟩
            obtain rfl : w6 = w7 := hw7.symm
            cases hsf : Lib.hasSuffix T [93] with
            | false =>
              have Hno := Lib.hid (Hn5.out hsf)
              clear hsf
              go_wp2
              exact ret_cell_tmp T_mat rfl rfl rfl (((bZn.set 0 _).set 1 _).set 2 _) ⟨_, by rw [Hno.out.2]; rfl, by rw [Hno.out.1]; exact zeroM_own, ((hGn.setCell hle0 _).setCell hle0 _).setCell hle0 _⟩
            | true =>
              obtain ⟨Y, hY⟩ : ∃ Y, Y ++ [93] = T := by
                unfold Lib.hasSuffix at hsf
                rw [List.isSuffixOf_iff_suffix] at hsf
                exact hsf
              clear hsf
              have HN6 := Lib.hid (Hn6.out Y hY.symm)
              have HN7 := Lib.hid (Hn7.out Y hY.symm)
              have hYl : Y.length + 1 ≤ s.size := by rw [← hY] at hTl; simpa using hTl
              subst hY
              clear Hn1 Hn2 Hn3 Hn4 Hn5 Hn6 Hn7
              have hbody : (⟨(Y ++ [93]).toArray⟩ : ByteArray).extract 0 Y.length = bstr Y := by
                rw [extract_bstr]; simp
              have hGa := ((Grow.refl w6).alloc #[] 3).alloc #[.int .i64 rA, .int .i64 rB, .slice (some ⟨w6.heap.size, 0, none⟩) 0 0] 26
              have bB := Blk.newAt (w6.alloc (.cells #[] 3)) #[.int .i64 rA, .int .i64 rB, .slice (some ⟨w6.heap.size, 0, none⟩) 0 0] 26 (g := w6.heap.size + 1) (by simp)
              by_cases hY0 : Y = []
              · have q1 : Y.isEmpty = true := by rw [hY0]; rfl
                have Hcs := Lib.hid (show csOf Y = [] by unfold csOf; rw [if_pos hY0])
                clear hY0
                have hOe : Own (w6.alloc (.cells #[] 3)) 3 1 (some ⟨w6.heap.size, 0, none⟩) 0 0 [] := Own.fresh (by unfold maxLen; omega) rfl
                have hOr := hOe.grow ((Grow.refl _).alloc #[.int .i64 rA, .int .i64 rB, .slice (some ⟨w6.heap.size, 0, none⟩) 0 0] 26)
                have hszn := hGn.size
                go_wp2_with fail
                generalize hwr : (w6.alloc (.cells #[] 3)).alloc (.cells #[.int .i64 rA, .int .i64 rB, .slice (some ⟨w6.heap.size, 0, none⟩) 0 0] 26) = wr at *
                have hGr : Grow w wr := hGn.trans hGa
                have bZr := bZn.grow hGa
                clear hwr hGn bZn hOe z0 z1 z2 f0 f1 f2 hbody
                have hlo : ∀ g, blk (some (⟨w6.heap.size, 0, none⟩ : Addr)) = some g → w6.heap.size ≤ g := fun g hg => by simp at hg; omega
                have hrng : ∀ x ∈ ([] : List Int), I64 x := fun x hx => by simp at hx
                have hO : Own wr 3 1 (some ⟨w6.heap.size, 0, none⟩) 0 0 (ints []) := hOr
                have bR := bB
                have hsw6 := hszn
                have vM : VM wr (fun _ => True) (.agg #[.int .i64 rA, .int .i64 rB, .slice (some ⟨w6.heap.size, 0, none⟩) 0 0]) ⟨rA, rB, []⟩ := ⟨some ⟨w6.heap.size, 0, none⟩, 0, 0, rfl, hO.rdI (fun _ _ => trivial) hrng, by unfold I64; simp only; omega, by unfold I64; simp only; omega⟩
                refine (isMatrix_c vM (by unfold bdM; simp)).mono ?_
                rintro e w8 ⟨rfl, hG8⟩
                cases hm : isMatB ⟨rA, rB, []⟩ with
                | false =>
                  have Hno := Lib.hid (HN7.out (by rw [Hcs.out, hm]; simp))
                  have bZn := bZr.grow hG8
                  have hGn := hGr.trans hG8
                  obtain ⟨⟨z0, z1, z2⟩, f0, f1, f2⟩ := bZn.three
                  clear hm
                  go_wp2
                  exact ret_cell_tmp T_mat rfl rfl rfl (((bZn.set 0 _).set 1 _).set 2 _) ⟨_, by rw [Hno.out.2]; rfl, by rw [Hno.out.1]; exact zeroM_own, ((hGn.setCell hle0 _).setCell hle0 _).setCell hle0 _⟩
                | true =>
                  have Hm := Lib.hid hm
                  clear hm
                  have hfl := fmtM_len ⟨rA, rB, []⟩
                  have bR8 := bR.grow hG8
                  have hltR := bR8.lt
                  obtain ⟨⟨x0, x1, x2⟩, g0, g1, g2⟩ := bR8.three
                  go_wp2_with fail
                  refine (iFormatMatrix_c (vM.grow hG8) (by unfold bdM; simp) (He.out.tab.grow (hGr.trans hG8))).mono ?_
                  rintro e w9 ⟨rfl, hG9⟩
                  have hG89 := hG8.trans hG9
                  have bZn := bZr.grow hG89
                  have hGn := hGr.trans hG89
                  have bR9 := bR8.grow hG9
                  have hO9 := hO.grow hG89
                  have hsz9 := hG89.size
                  clear x0 x1 x2 g0 g1 g2
                  obtain ⟨⟨z0, z1, z2⟩, f0, f1, f2⟩ := bZn.three
                  obtain ⟨⟨x0, x1, x2⟩, g0, g1, g2⟩ := bR9.three
                  obtain ⟨F, hF⟩ : ∃ F, F = fmtM ⟨rA, rB, []⟩ := ⟨_, rfl⟩
                  rw [← hF] at hfl ⊢
                  have HF := Lib.hid hF
                  clear hF
                  by_cases he : F = L
                  · have Hy := Lib.hid (parM_v (parM_iff.2 ⟨Hm.out, HF.out.symm.trans he⟩))
                    have q2 : (F == s.toList) = true := by rw [toList_data, he, HLL.out]; exact beq_self_eq_true _
                    clear he
                    go_wp2
                    have hK : Keep (fun q => q ≠ w.heap.size) w9 (((w9.setCell ⟨w.heap.size, 0, none⟩ (.int .i64 rA)).setCell ⟨w.heap.size, 1, none⟩ (.int .i64 rB)).setCell ⟨w.heap.size, 2, none⟩ (.slice (some ⟨w6.heap.size, 0, none⟩) 0 0)) :=
                      (((Keep.refl _ w9).setCell (fun _ e => e rfl) _).setCell (fun _ e => e rfl) _).setCell (fun _ e => e rfl) _
                    have hsk := hK.size
                    exact ret_cell_tmp T_mat rfl rfl rfl (((bZn.set 0 _).set 1 _).set 2 _) ⟨_, by rw [Hy.out.2]; rfl, by rw [Hy.out.1]; exact ⟨some ⟨w6.heap.size, 0, none⟩, 0, 0, rfl, hO9.keep hK (fun g hg _ e => by have := hlo g hg; omega), hrng, (fun g hg => ⟨by have := hlo g hg; omega, by have := hO9.lt hg; omega⟩), by unfold I64; simp only; omega, by unfold I64; simp only; omega⟩, ((hGn.setCell hle0 _).setCell hle0 _).setCell hle0 _⟩
                  · have Hno := Lib.hid (HN7.out (by rw [Hcs.out]; exact fun e => he (HF.out.trans e.2)))
                    have q2 : (F == s.toList) = false := by rw [toList_data, ← HLL.out]; exact beq_eq_false_iff_ne.2 he
                    clear he
                    go_wp2
                    exact ret_cell_tmp T_mat rfl rfl rfl (((bZn.set 0 _).set 1 _).set 2 _) ⟨_, by rw [Hno.out.2]; rfl, by rw [Hno.out.1]; exact zeroM_own, ((hGn.setCell hle0 _).setCell hle0 _).setCell hle0 _⟩
              · have q1 : Y.isEmpty = false := by cases Y with
                  | nil => exact absurd rfl hY0
                  | cons a l => rfl
                have Hcs := Lib.hid (show csOf Y = (Lib.goFieldsP rq (bstr Y)).map fun x => parIv x.data.toList by unfold csOf; rw [if_neg hY0])
                clear hY0
                have eg : ∀ args w, (callFunc 41 args).run Tryz.prog w = .ok (.enter 41 args) w := enters_of Tryz.func41 (by kernel_rfl) rfl
                have hOe : Own (w6.alloc (.cells #[] 3)) 3 1 (some ⟨w6.heap.size, 0, none⟩) 0 0 [] := Own.fresh (by unfold maxLen; omega) rfl
                have hOr := hOe.grow ((Grow.refl _).alloc #[.int .i64 rA, .int .i64 rB, .slice (some ⟨w6.heap.size, 0, none⟩) 0 0] 26)
                have hszn := hGn.size
                obtain ⟨fs, hfs⟩ : ∃ fs, fs = Lib.goFieldsP rq (bstr Y) := ⟨_, rfl⟩
                have hF := sh_strings_FieldsFunc 41 #[] eg rq (bstr Y) ((w6.alloc (.cells #[] 3)).alloc (.cells #[.int .i64 rA, .int .i64 rB, .slice (some ⟨w6.heap.size, 0, none⟩) 0 0] 26)) (by rw [bstr_size]; omega) (body_pred _)
                have hfsz : ∀ x ∈ fs, x.size ≤ 1048576 := fun x hx => by
                  rw [hfs] at hx
                  have h1 := goFields_size hx
                  have h2 := bstr_size Y
                  omega
                have hfl : fs.length ≤ 1048577 := by
                  have h1 := goFields_len rq (bstr Y)
                  have h2 := bstr_size Y
                  rw [← hfs] at h1; omega
                have Hfsz := Lib.hid hfsz
                rw [← hfs] at hF Hcs HN6
                have HF := Lib.hid hF
                clear hF hfs eg hfsz
                go_wp2_with fail
                refine HF.out.mono ?_
                rintro e w8 ⟨Ad, rfl, hAd, hown, hB⟩
                have hGb := hGa.trans (Below.toGrow hB)
                have hS : RdS w8 (fun b => b = Ad) (some ⟨Ad, 0, none⟩) fs.length fs.length fs := (ownsRow_own hown).rdS fun g hg => by simp at hg; exact hg.symm
                have hAd2 : w6.heap.size + 2 ≤ Ad := by simpa using hAd
                have hAdl : fs.length ≠ 0 → Ad < w8.heap.size := fun h0 => (ownsRow_own hown).lt rfl
                clear hAd
                have bR8 := bB.grow (Below.toGrow hB)
                have hO8 := hOr.grow (Below.toGrow hB)
                have hG8 : Grow w w8 := hGn.trans hGb
                have bZ8 := bZn.grow hGb
                clear hGa hB hown HF bB hOr hOe bZn z0 z1 z2 f0 f1 f2 hbody
                go_wp2
                go_loopw [17, 18, 19, 80] (fun _ _ _ iv wr => Grow w wr ∧ w8.heap.size ≤ wr.heap.size ∧ RdS wr (fun b => b = Ad) (some ⟨Ad, 0, none⟩) fs.length fs.length fs ∧ Blk wr w.heap.size #[.int .i64 0, .int .i64 0, .slice none 0 0] 26 ∧ ∃ (k : Nat) (cs : List Int) (a' : Option Addr) (c' : Nat), k ≤ fs.length ∧ iv = .int .i64 k ∧ cs = (fs.take k).map (fun x => parIv x.data.toList) ∧ Own wr 3 1 a' cs.length c' (ints cs) ∧ (∀ g, blk a' = some g → w6.heap.size ≤ g ∧ g ≠ w6.heap.size + 1 ∧ g ≠ Ad) ∧ Blk wr (w6.heap.size + 1) #[.int .i64 rA, .int .i64 rB, .slice a' cs.length c'] 26) (fun _ _ _ iv _ => fs.length - (intOf iv).toNat)
                case atStart => exact ⟨hG8, Nat.le_refl _, hS, bZ8, 0, [], some ⟨w6.heap.size, 0, none⟩, 0, Nat.zero_le _, rfl, by simp, hO8, fun g hg => by simp at hg; omega, bR8⟩
                case round =>
                  clear bR8 hO8
                  obtain ⟨hGr, hsl, hSr, bZr, k, cs, a', c', hk, rfl, hcs, hO, hlo0, bR⟩ := hrel
                  obtain ⟨⟨x0, x1, x2⟩, g0, g1, g2⟩ := bR.three
                  have hltR := bR.lt
                  have hcl : cs.length ≤ 1048577 := by rw [hcs]; simp; omega
                  have hrng : ∀ x ∈ cs, I64 x := fun x hx => by
                    rw [hcs] at hx
                    obtain ⟨y, -, rfl⟩ := List.mem_map.1 hx
                    have := isNumB_rng (parIv_num y.data.toList)
                    unfold I64; omega
                  by_cases hlt : k < fs.length
                  · have Hcs2 := Lib.hid hcs
                    clear hcs
                    obtain ⟨b', off', x, hb', hx, -, -, cx⟩ := hSr.at hlt
                    injection hb' with hb'
                    injection hb' with e1 e2
                    subst e1; subst e2
                    have hxm := List.mem_of_getElem? hx
                    have hxs := Hfsz.out x hxm
                    have Hx := Lib.hid hx
                    clear hx
                    rw [Nat.zero_add] at cx
                    go_wp2_with fail
                    refine (iParseInt_c x _ hxs (He.out.grow hGr)).mono ?_
                    rintro e w9 ⟨rfl, hG9⟩
                    cases hp : parIb x.data.toList with
                    | false =>
                      have Hno := Lib.hid (HN6.out x hxm hp)
                      have bZn := bZr.grow hG9
                      have hGn := hGr.trans hG9
                      obtain ⟨⟨z0, z1, z2⟩, f0, f1, f2⟩ := bZn.three
                      clear hp
                      go_wp2
                      exact ret_cell_tmp T_mat rfl rfl rfl (((bZn.set 0 _).set 1 _).set 2 _) ⟨_, by rw [Hno.out.2]; rfl, by rw [Hno.out.1]; exact zeroM_own, ((hGn.setCell hle0 _).setCell hle0 _).setCell hle0 _⟩
                    | true =>
                      have hnx := isNumB_rng (parIv_num x.data.toList)
                      obtain ⟨q, hq⟩ : ∃ q, q = parIv x.data.toList := ⟨_, rfl⟩
                      rw [← hq] at hnx ⊢
                      have Hq := Lib.hid hq
                      clear hp hq
                      have bR9 := bR.grow hG9
                      have hO9 := hO.grow hG9
                      clear x0 x1 x2 g0 g1 g2
                      obtain ⟨⟨x0, x1, x2⟩, g0, g1, g2⟩ := bR9.three
                      have hlt9 := bR9.lt
                      have hO2 := hO9.grow ((Grow.refl w9).alloc #[.int .i64 q] 3)
                      go_wp2_with (at_builtin; refine wpList_app rfl (.tmp 93) (.tmp 95) _ rfl T_ints rfl hO2 rfl (Row.built (S := fun _ => True) 1 (by unfold maxLen; omega) rfl trivial) (by simp [Value.oneCell']) (by omega) (by unfold maxLen; omega) ?_; intro a3 c3 w3 hA3; have bR3 := (bR9.alloc (.cells #[.int .i64 q] 3)).keep hA3.keep (fun e => by have := hlo0 _ e; omega); obtain ⟨⟨y0', y1', y2'⟩, k0, k1, k2⟩ := bR3.three)
                      have hs9 := hG9.size
                      have hG3 : Grow w w3 := hA3.grow ((hGr.trans hG9).alloc _ _) fun g hg => by have := hlo0 g hg; omega
                      have hs3 := hA3.keep.size
                      have hS3 := ((hSr.grow hG9).grow ((Grow.refl w9).alloc #[.int .i64 q] 3)).keep hA3.keep (fun b _ hb e => by subst hb; have := hlo0 _ e; omega)
                      have bZ3 := ((bZr.grow hG9).alloc (.cells #[.int .i64 q] 3)).keep hA3.keep (fun e => by have := hlo0 _ e; omega)
                      have hAl := hAdl (by omega)
                      have hl3 : ∀ g, blk a3 = some g → w6.heap.size ≤ g ∧ g ≠ w6.heap.size + 1 ∧ g ≠ Ad := fun g hg => by
                        rcases hA3.new with e | ⟨g', e, hge⟩
                        · exact hlo0 g (e ▸ hg)
                        · rw [e] at hg
                          have e2 := Option.some.inj hg
                          simp at hge
                          omega
                      have hO3 := hA3.own
                      have hleR : w.heap.size ≤ w6.heap.size + 1 := by omega
                      have hK3 : Keep (fun q => q ≠ w6.heap.size + 1) w3 (w3.setCell ⟨w6.heap.size + 1, 2, none⟩ (.slice a3 (cs.length + 1) c3)) := (Keep.refl _ w3).setCell (fun _ e => e rfl) _
                      clear hA3 hO hO2
                      go_roundw
                      case rel => exact ⟨hG3.setCell hleR _, by have := hK3.size; simp at hs3; omega, hS3.keep hK3 (fun b _ hb e => by subst hb; omega), bZ3.keep hK3 (by omega), k + 1, cs ++ [q], a3, c3, by omega, by go_num, by rw [take_succ Hx.out, List.map_append, ← Hcs2.out, Hq.out]; rfl, by rw [List.length_append]; exact (by simpa [ints] using hO3.keep hK3 fun g hg _ e => (hl3 g hg).2.1 e), hl3, by rw [List.length_append]; exact bR3.set 2 _⟩
                      case measure => simp [intOf]; omega
                  · obtain rfl : k = fs.length := by omega
                    have Hcs : Hid (csOf Y = cs) := Lib.hid (by rw [Hcs.out, hcs, List.take_length])
                    have hlo : ∀ g, blk a' = some g → w6.heap.size ≤ g := fun g hg => (hlo0 g hg).1
                    clear hcs
                    go_wp2_with fail
                    have vM : VM wr (fun _ => True) (.agg #[.int .i64 rA, .int .i64 rB, .slice a' cs.length c']) ⟨rA, rB, cs⟩ := ⟨a', cs.length, c', rfl, hO.rdI (fun _ _ => trivial) hrng, by unfold I64; simp only; omega, by unfold I64; simp only; omega⟩
                    refine (isMatrix_c vM (by unfold bdM; simp only; omega)).mono ?_
                    rintro e w8 ⟨rfl, hG8⟩
                    cases hm : isMatB ⟨rA, rB, cs⟩ with
                    | false =>
                      have Hno := Lib.hid (HN7.out (by rw [Hcs.out, hm]; simp))
                      have bZn := bZr.grow hG8
                      have hGn := hGr.trans hG8
                      obtain ⟨⟨z0, z1, z2⟩, f0, f1, f2⟩ := bZn.three
                      clear hm
                      go_wp2
                      exact ret_cell_tmp T_mat rfl rfl rfl (((bZn.set 0 _).set 1 _).set 2 _) ⟨_, by rw [Hno.out.2]; rfl, by rw [Hno.out.1]; exact zeroM_own, ((hGn.setCell hle0 _).setCell hle0 _).setCell hle0 _⟩
                    | true =>
                      have Hm := Lib.hid hm
                      clear hm
                      have hfl := fmtM_len ⟨rA, rB, cs⟩
                      have bR8 := bR.grow hG8
                      have hltR := bR8.lt
                      obtain ⟨⟨x0, x1, x2⟩, g0, g1, g2⟩ := bR8.three
                      go_wp2_with fail
                      refine (iFormatMatrix_c (vM.grow hG8) (by unfold bdM; simp only; omega) (He.out.tab.grow (hGr.trans hG8))).mono ?_
                      rintro e w9 ⟨rfl, hG9⟩
                      have hG89 := hG8.trans hG9
                      have bZn := bZr.grow hG89
                      have hGn := hGr.trans hG89
                      have bR9 := bR8.grow hG9
                      have hO9 := hO.grow hG89
                      have hsz9 := hG89.size
                      clear x0 x1 x2 g0 g1 g2
                      obtain ⟨⟨z0, z1, z2⟩, f0, f1, f2⟩ := bZn.three
                      obtain ⟨⟨x0, x1, x2⟩, g0, g1, g2⟩ := bR9.three
                      obtain ⟨F, hF⟩ : ∃ F, F = fmtM ⟨rA, rB, cs⟩ := ⟨_, rfl⟩
                      rw [← hF] at hfl ⊢
                      have HF := Lib.hid hF
                      clear hF
                      by_cases he : F = L
                      · have Hy := Lib.hid (parM_v (parM_iff.2 ⟨Hm.out, HF.out.symm.trans he⟩))
                        have q2 : (F == s.toList) = true := by rw [toList_data, he, HLL.out]; exact beq_self_eq_true _
                        clear he
                        go_wp2
                        have hK : Keep (fun q => q ≠ w.heap.size) w9 (((w9.setCell ⟨w.heap.size, 0, none⟩ (.int .i64 rA)).setCell ⟨w.heap.size, 1, none⟩ (.int .i64 rB)).setCell ⟨w.heap.size, 2, none⟩ (.slice a' cs.length c')) :=
                          (((Keep.refl _ w9).setCell (fun _ e => e rfl) _).setCell (fun _ e => e rfl) _).setCell (fun _ e => e rfl) _
                        have hsk := hK.size
                        exact ret_cell_tmp T_mat rfl rfl rfl (((bZn.set 0 _).set 1 _).set 2 _) ⟨_, by rw [Hy.out.2]; rfl, by rw [Hy.out.1]; exact ⟨a', cs.length, c', rfl, hO9.keep hK (fun g hg _ e => by have := hlo g hg; omega), hrng, (fun g hg => ⟨by have := hlo g hg; omega, by have := hO9.lt hg; omega⟩), by unfold I64; simp only; omega, by unfold I64; simp only; omega⟩, ((hGn.setCell hle0 _).setCell hle0 _).setCell hle0 _⟩
                      · have Hno := Lib.hid (HN7.out (by rw [Hcs.out]; exact fun e => he (HF.out.trans e.2)))
                        have q2 : (F == s.toList) = false := by rw [toList_data, ← HLL.out]; exact beq_eq_false_iff_ne.2 he
                        clear he
                        go_wp2
                        exact ret_cell_tmp T_mat rfl rfl rfl (((bZn.set 0 _).set 1 _).set 2 _) ⟨_, by rw [Hno.out.2]; rfl, by rw [Hno.out.1]; exact zeroM_own, ((hGn.setCell hle0 _).setCell hle0 _).setCell hle0 _⟩
end Go.Proofs.YtdnpdfokdibmdaaGreatDoor
