/-
  IsGradient: the reference's.
-/
import Derived.Test.YtkafhbedipfgpaaIsGrad
namespace Go.Proofs.Ytkafhbedipfgpaa
open Go.RowKit

theorem sameI_comm (a b : List Int) : sameI a b = sameI b a := by unfold sameI; rw [Bool.eq_iff_iff]; simp [eq_comm]
theorem inArB_succ {ar : List Arw} {j : Nat} {u v : List Int} (h : ar[j]? = some (u, v)) (s : List Int) : inArB (ar.take (j + 1)) s = (inArB (ar.take j) s || (sameI s u || sameI s v)) := by
  unfold inArB; rw [take_succ h, List.any_append]; simp [sameI_comm]
theorem inArB_more {ar : List Arw} {i k : Nat} {s : List Int} (h : inArB (ar.take i) s = true) (hik : i ≤ k) : inArB (ar.take k) s = true := by
  unfold inArB at *
  rw [List.any_eq_true] at *
  obtain ⟨p, hp, hs⟩ := h
  refine ⟨p, ?_, hs⟩
  rw [← Nat.min_eq_left hik, ← List.take_take] at hp
  exact List.mem_of_mem_take hp

set_option maxHeartbeats 4000000 in
set_option maxRecDepth 100000 in
theorem specIsGradient_c {S T : Nat → Prop} (a b : Option Addr) (n cap m cap' : Nat) (l : List (List Int)) (ar : List Arw) (w : World) (h : RdII w S a n cap l) (h' : RdA w T b m cap' ar) (hn : n ≤ 1048576) (ht : total l ≤ 1048576) (hm : m ≤ 1048576) (hf : total (flat ar) ≤ 1048576) :
    Calls Try.prog 36 #[.slice a n cap, .slice b m cap'] w fun e w' => e = .returned (.bool (isGradB l ar)) ∧ Grow w w' := by
  have hl := h.len
  have hl' := h'.len
  have Hl := Lib.hid hl; have Hl' := Lib.hid hl'
  clear hl hl'
  cases hB : isCplxB l with
  | false =>
    have HB := Lib.hid hB; clear hB
    go_enter Try.func36, Try.ntmps36
    go_wp2_with fail
    refine (specIsComplex_c _ _ _ l _ h hn ht).mono ?_
    rintro e w1 ⟨rfl, hG⟩
    rw [HB.out]
    go_wp2
    go_ret
    exact ⟨ret_bool (by unfold isGradB; rw [HB.out]; rfl), hG⟩
  | true =>
    have HB := Lib.hid hB; clear hB
    by_cases hmn : n < m
    · go_enter Try.func36, Try.ntmps36
      go_wp2_with fail
      refine (specIsComplex_c _ _ _ l _ h hn ht).mono ?_
      rintro e w1 ⟨rfl, hG⟩
      rw [HB.out]
      go_wp2
      go_ret
      exact ⟨ret_bool (by unfold isGradB; rw [Hl.out, Hl'.out, decide_eq_false (by omega : ¬ m ≤ n)]; simp), hG⟩
    · go_enter Try.func36, Try.ntmps36
      go_wp2_with fail
      refine (specIsComplex_c _ _ _ l _ h hn ht).mono ?_
      rintro e w1 ⟨rfl, hG⟩
      rw [HB.out]
      go_wp2
      go_loopw [5] (fun q wr => Grow w wr ∧ ∃ k : Nat, k ≤ m ∧ q = .int .i64 k ∧ gradTo l ar k = true) (fun q _ => m - (intOf q).toNat)
      case atStart => exact ⟨hG, 0, Nat.zero_le _, rfl, rfl⟩
      case round =>
        clear hG
        obtain ⟨hG0, k, hk, rfl, hgt⟩ := hrel
        have Hgt := Lib.hid hgt; clear hgt
        by_cases hlt : k < m
        · have hrA := h'.grow hG0
          obtain ⟨bb, off, x, y, a1, c1, a2, c2, rfl, hx, hbs, hbw, ⟨hc1, hc2⟩, r1, r2⟩ := hrA.at hlt
          have htx := (flat_total_at hx).2
          have hst := arwB_at (l := l) hx
          have hGa : Grow wr (wr.alloc (.cells #[.slice a1 x.length c1, .slice a2 y.length c2] 79)) := (Grow.refl _).alloc _ _
          have hBa := Blk.new wr #[.slice a1 x.length c1, .slice a2 y.length c2] 79
          have p0 : (wr.alloc (.cells #[.slice a1 x.length c1, .slice a2 y.length c2] 79)).cell? ⟨wr.heap.size, 0, none⟩ = some (.slice a1 x.length c1) := hBa.cell 0
          have p1 : (wr.alloc (.cells #[.slice a1 x.length c1, .slice a2 y.length c2] 79)).cell? ⟨wr.heap.size, 1, none⟩ = some (.slice a2 y.length c2) := hBa.cell 1
          have rl := (h.grow hG0).grow hGa
          have r1a := r1.grow hGa
          have r2a := r2.grow hGa
          have Hx := Lib.hid hx
          clear hx
          obtain ⟨wa, hwa⟩ : ∃ wa, wa = wr.alloc (.cells #[.slice a1 x.length c1, .slice a2 y.length c2] 79) := ⟨_, rfl⟩
          rw [← hwa] at hGa hBa rl r1a r2a
          have Hwa := Lib.hid hwa
          clear hwa
          generalize hfx : findI l x = fx at *
          generalize hfy : findI l y = fy at *
          have Hfx := Lib.hid hfx; have Hfy := Lib.hid hfy
          clear hfx hfy
          have Hst := Lib.hid hst; clear hst
          by_cases d1 : fx < 0
          · have Hs := Lib.hid (show arwB l ar k = false by rw [Hst.out, decide_eq_false (by omega : ¬ 0 ≤ fx)]; rfl)
            go_wp2_with fail
            rw [← Hwa.out] at p0 p1 ⊢
            refine (l32Find_c _ _ _ _ _ _ l x _ rl r1a (by omega) (by omega) (by omega)).mono ?_
            rintro e w1 ⟨rfl, hGq⟩
            have hGx := hGq.grow
            clear hGq
            rw [Hfx.out]
            replace p0 := hGx.cell p0; replace p1 := hGx.cell p1
            go_wp2
            go_ret
            exact ⟨ret_bool (by unfold isGradB; rw [gradTo_no Hs.out (by rw [Hl'.out]; exact hlt)]; simp), hG0.trans (hGa.trans hGx)⟩
          · by_cases d2 : fy < 0
            · have Hs := Lib.hid (show arwB l ar k = false by rw [Hst.out, decide_eq_false (by omega : ¬ 0 ≤ fy)]; simp)
              go_wp2_with fail
              rw [← Hwa.out] at p0 p1 ⊢
              refine (l32Find_c _ _ _ _ _ _ l x _ rl r1a (by omega) (by omega) (by omega)).mono ?_
              rintro e w1 ⟨rfl, hGq⟩
              have hGx := hGq.grow
              clear hGq
              rw [Hfx.out]
              replace p0 := hGx.cell p0; replace p1 := hGx.cell p1
              go_wp2_with fail
              refine (l32Find_c _ _ _ _ _ _ l y _ (rl.grow hGx) (r2a.grow hGx) (by omega) (by omega) (by omega)).mono ?_
              rintro e w2 ⟨rfl, hGq⟩
              replace hGx := hGx.trans hGq.grow
              replace p0 := hGq.grow.cell p0; replace p1 := hGq.grow.cell p1
              clear hGq
              rw [Hfy.out]
              go_wp2
              go_ret
              exact ⟨ret_bool (by unfold isGradB; rw [gradTo_no Hs.out (by rw [Hl'.out]; exact hlt)]; simp), hG0.trans (hGa.trans hGx)⟩
            · cases hf0 : isFaceB x y with
              | false =>
                have Hs := Lib.hid (show arwB l ar k = false by rw [Hst.out, hf0]; simp)
                have Hf := Lib.hid hf0; clear hf0
                go_wp2_with fail
                rw [← Hwa.out] at p0 p1 ⊢
                refine (l32Find_c _ _ _ _ _ _ l x _ rl r1a (by omega) (by omega) (by omega)).mono ?_
                rintro e w1 ⟨rfl, hGq⟩
                have hGx := hGq.grow
                clear hGq
                rw [Hfx.out]
                replace p0 := hGx.cell p0; replace p1 := hGx.cell p1
                go_wp2_with fail
                refine (l32Find_c _ _ _ _ _ _ l y _ (rl.grow hGx) (r2a.grow hGx) (by omega) (by omega) (by omega)).mono ?_
                rintro e w2 ⟨rfl, hGq⟩
                replace hGx := hGx.trans hGq.grow
                replace p0 := hGq.grow.cell p0; replace p1 := hGq.grow.cell p1
                clear hGq
                rw [Hfy.out]
                go_wp2_with fail
                refine (l35Face_c _ _ _ _ _ _ x y _ (r1a.grow hGx) (r2a.grow hGx) (by omega) (by omega)).mono ?_
                rintro e w3 ⟨rfl, hGq⟩
                replace hGx := hGx.trans hGq
                replace p0 := hGq.cell p0; replace p1 := hGq.cell p1
                clear hGq
                rw [Hf.out]
                go_wp2
                go_ret
                exact ⟨ret_bool (by unfold isGradB; rw [gradTo_no Hs.out (by rw [Hl'.out]; exact hlt)]; simp), hG0.trans (hGa.trans hGx)⟩
              | true =>
                have Hf := Lib.hid hf0; clear hf0
                go_wp2_with fail
                rw [← Hwa.out] at p0 p1 ⊢
                refine (l32Find_c _ _ _ _ _ _ l x _ rl r1a (by omega) (by omega) (by omega)).mono ?_
                rintro e w1 ⟨rfl, hGq⟩
                have hGx := hGq.grow
                clear hGq
                rw [Hfx.out]
                replace p0 := hGx.cell p0; replace p1 := hGx.cell p1
                go_wp2_with fail
                refine (l32Find_c _ _ _ _ _ _ l y _ (rl.grow hGx) (r2a.grow hGx) (by omega) (by omega) (by omega)).mono ?_
                rintro e w2 ⟨rfl, hGq⟩
                replace hGx := hGx.trans hGq.grow
                replace p0 := hGq.grow.cell p0; replace p1 := hGq.grow.cell p1
                clear hGq
                rw [Hfy.out]
                go_wp2_with fail
                refine (l35Face_c _ _ _ _ _ _ x y _ (r1a.grow hGx) (r2a.grow hGx) (by omega) (by omega)).mono ?_
                rintro e w3 ⟨rfl, hGq⟩
                replace hGx := hGx.trans hGq
                replace p0 := hGq.cell p0; replace p1 := hGq.cell p1
                clear hGq
                rw [Hf.out]
                go_wp2
                obtain ⟨wo, rfl⟩ : ∃ wo : World, wo = w3 := ⟨_, rfl⟩
                go_loopw [7] (fun q wr => Grow wo wr ∧ ∃ j : Nat, j ≤ k ∧ q = .int .i64 j ∧ inArB (ar.take j) x = false ∧ inArB (ar.take j) y = false) (fun q _ => k - (intOf q).toNat)
                case atStart => exact ⟨Grow.refl _, 0, Nat.zero_le _, rfl, rfl, rfl⟩
                case round =>
                  obtain ⟨hGi, j, hj, rfl, hjx, hjy⟩ := hrel
                  have Hjx := Lib.hid hjx; have Hjy := Lib.hid hjy
                  clear hjx hjy
                  have q0 := hGi.cell p0
                  have q1 := hGi.cell p1
                  by_cases hjk : j < k
                  · have hGt := (hGa.trans hGx).trans hGi
                    obtain ⟨bb', off', u, v, d1', e1, d2', e2, he, hu, hbs', hbw', ⟨hd1, hd2⟩, s1, s2⟩ := (hrA.grow hGt).at (show j < m by omega)
                    obtain ⟨rfl, rfl⟩ : bb = bb' ∧ off = off' := by simpa using he
                    have hsx := Lib.hid (inArB_succ hu x)
                    have hsy := Lib.hid (inArB_succ hu y)
                    have htu := (flat_total_at hu).2
                    have hBb := Blk.new wr #[.slice d1' u.length e1, .slice d2' v.length e2] 79
                    have hGb : Grow wr (wr.alloc (.cells #[.slice d1' u.length e1, .slice d2' v.length e2] 79)) := (Grow.refl _).alloc _ _
                    have u0 : (wr.alloc (.cells #[.slice d1' u.length e1, .slice d2' v.length e2] 79)).cell? ⟨wr.heap.size, 0, none⟩ = some (.slice d1' u.length e1) := hBb.cell 0
                    have u1 : (wr.alloc (.cells #[.slice d1' u.length e1, .slice d2' v.length e2] 79)).cell? ⟨wr.heap.size, 1, none⟩ = some (.slice d2' v.length e2) := hBb.cell 1
                    replace q0 := hGb.cell q0
                    replace q1 := hGb.cell q1
                    have rx := ((r1a.grow hGx).grow hGi).grow hGb
                    have ry := ((r2a.grow hGx).grow hGi).grow hGb
                    have ru := s1.grow hGb
                    have rv := s2.grow hGb
                    have hGtb := hGt.trans hGb
                    obtain ⟨wb, hwb⟩ : ∃ wb, wb = wr.alloc (.cells #[.slice d1' u.length e1, .slice d2' v.length e2] 79) := ⟨_, rfl⟩
                    rw [← hwb] at hGb rx ry ru rv hGtb
                    have Hwb := Lib.hid hwb
                    clear hwb he hu hBb
                    obtain ⟨y0, hy0⟩ : ∃ y0 : Nat, y0 = wr.heap.size := ⟨_, rfl⟩
                    have hul : u.length ≤ 2097152 := by omega
                    have hvl : v.length ≤ 2097152 := by omega
                    have hxl : x.length ≤ 2097152 := by omega
                    have hyl : y.length ≤ 2097152 := by omega
                    cases hxu : sameI x u with
                    | true =>
                      have Hxu := Lib.hid hxu; clear hxu
                      go_wp2_with fail
                      rw [← Hwb.out] at q0 q1 u0 u1 ⊢
                      refine (l32Same_c _ _ _ _ _ _ x u _ rx ru hxl hul).mono ?_
                      rintro e w5 ⟨rfl, hQ⟩
                      have hGs := hQ.grow
                      rw [Hxu.out]
                      replace q0 := hGs.cell q0; replace q1 := hGs.cell q1; replace u0 := hGs.cell u0; replace u1 := hGs.cell u1
                      clear hQ
                      have Hs : arwB l ar k = false := by rw [Hst.out, inArB_more (i := j + 1) (s := x) (by rw [hsx.out, Hxu.out]; simp) (by omega)]; simp
                      go_wp2
                      go_ret
                      exact ⟨ret_bool (by unfold isGradB; rw [gradTo_no Hs (by rw [Hl'.out]; exact hlt)]; simp), hG0.trans (hGtb.trans hGs)⟩
                    | false =>
                      have Hxu := Lib.hid hxu; clear hxu
                      cases hyv : sameI y v with
                      | true =>
                        have Hyv := Lib.hid hyv; clear hyv
                        go_wp2_with fail
                        rw [← Hwb.out] at q0 q1 u0 u1 ⊢
                        refine (l32Same_c _ _ _ _ _ _ x u _ rx ru hxl hul).mono ?_
                        rintro e w5 ⟨rfl, hQ⟩
                        have hGs := hQ.grow
                        rw [Hxu.out]
                        replace q0 := hGs.cell q0; replace q1 := hGs.cell q1; replace u0 := hGs.cell u0; replace u1 := hGs.cell u1
                        clear hQ
                        go_wp2_with fail
                        refine (l32Same_c _ _ _ _ _ _ y v _ (ry.grow hGs) (rv.grow hGs) hyl hvl).mono ?_
                        rintro e w6 ⟨rfl, hQ⟩
                        replace hGs := hGs.trans hQ.grow
                        rw [Hyv.out]
                        replace q0 := hQ.grow.cell q0; replace q1 := hQ.grow.cell q1; replace u0 := hQ.grow.cell u0; replace u1 := hQ.grow.cell u1
                        clear hQ
                        have Hs : arwB l ar k = false := by rw [Hst.out, inArB_more (i := j + 1) (s := y) (by rw [hsy.out, Hyv.out]; simp) (by omega)]; simp
                        go_wp2
                        go_ret
                        exact ⟨ret_bool (by unfold isGradB; rw [gradTo_no Hs (by rw [Hl'.out]; exact hlt)]; simp), hG0.trans (hGtb.trans hGs)⟩
                      | false =>
                        have Hyv := Lib.hid hyv; clear hyv
                        cases hxv : sameI x v with
                        | true =>
                          have Hxv := Lib.hid hxv; clear hxv
                          go_wp2_with fail
                          rw [← Hwb.out] at q0 q1 u0 u1 ⊢
                          refine (l32Same_c _ _ _ _ _ _ x u _ rx ru hxl hul).mono ?_
                          rintro e w5 ⟨rfl, hQ⟩
                          have hGs := hQ.grow
                          rw [Hxu.out]
                          replace q0 := hGs.cell q0; replace q1 := hGs.cell q1; replace u0 := hGs.cell u0; replace u1 := hGs.cell u1
                          clear hQ
                          go_wp2_with fail
                          refine (l32Same_c _ _ _ _ _ _ y v _ (ry.grow hGs) (rv.grow hGs) hyl hvl).mono ?_
                          rintro e w6 ⟨rfl, hQ⟩
                          replace hGs := hGs.trans hQ.grow
                          rw [Hyv.out]
                          replace q0 := hQ.grow.cell q0; replace q1 := hQ.grow.cell q1; replace u0 := hQ.grow.cell u0; replace u1 := hQ.grow.cell u1
                          clear hQ
                          go_wp2_with fail
                          refine (l32Same_c _ _ _ _ _ _ x v _ (rx.grow hGs) (rv.grow hGs) hxl hvl).mono ?_
                          rintro e w7 ⟨rfl, hQ⟩
                          replace hGs := hGs.trans hQ.grow
                          rw [Hxv.out]
                          replace q0 := hQ.grow.cell q0; replace q1 := hQ.grow.cell q1; replace u0 := hQ.grow.cell u0; replace u1 := hQ.grow.cell u1
                          clear hQ
                          have Hs : arwB l ar k = false := by rw [Hst.out, inArB_more (i := j + 1) (s := x) (by rw [hsx.out, Hxv.out]; simp) (by omega)]; simp
                          go_wp2
                          go_ret
                          exact ⟨ret_bool (by unfold isGradB; rw [gradTo_no Hs (by rw [Hl'.out]; exact hlt)]; simp), hG0.trans (hGtb.trans hGs)⟩
                        | false =>
                          have Hxv := Lib.hid hxv; clear hxv
                          cases hyu : sameI y u with
                          | true =>
                            have Hyu := Lib.hid hyu; clear hyu
                            go_wp2_with fail
                            rw [← Hwb.out] at q0 q1 u0 u1 ⊢
                            refine (l32Same_c _ _ _ _ _ _ x u _ rx ru hxl hul).mono ?_
                            rintro e w5 ⟨rfl, hQ⟩
                            have hGs := hQ.grow
                            rw [Hxu.out]
                            replace q0 := hGs.cell q0; replace q1 := hGs.cell q1; replace u0 := hGs.cell u0; replace u1 := hGs.cell u1
                            clear hQ
                            go_wp2_with fail
                            refine (l32Same_c _ _ _ _ _ _ y v _ (ry.grow hGs) (rv.grow hGs) hyl hvl).mono ?_
                            rintro e w6 ⟨rfl, hQ⟩
                            replace hGs := hGs.trans hQ.grow
                            rw [Hyv.out]
                            replace q0 := hQ.grow.cell q0; replace q1 := hQ.grow.cell q1; replace u0 := hQ.grow.cell u0; replace u1 := hQ.grow.cell u1
                            clear hQ
                            go_wp2_with fail
                            refine (l32Same_c _ _ _ _ _ _ x v _ (rx.grow hGs) (rv.grow hGs) hxl hvl).mono ?_
                            rintro e w7 ⟨rfl, hQ⟩
                            replace hGs := hGs.trans hQ.grow
                            rw [Hxv.out]
                            replace q0 := hQ.grow.cell q0; replace q1 := hQ.grow.cell q1; replace u0 := hQ.grow.cell u0; replace u1 := hQ.grow.cell u1
                            clear hQ
                            go_wp2_with fail
                            refine (l32Same_c _ _ _ _ _ _ y u _ (ry.grow hGs) (ru.grow hGs) hyl hul).mono ?_
                            rintro e w8 ⟨rfl, hQ⟩
                            replace hGs := hGs.trans hQ.grow
                            rw [Hyu.out]
                            clear hQ
                            have Hs : arwB l ar k = false := by rw [Hst.out, inArB_more (i := j + 1) (s := y) (by rw [hsy.out, Hyu.out]; simp) (by omega)]; simp
                            go_wp2
                            go_ret
                            exact ⟨ret_bool (by unfold isGradB; rw [gradTo_no Hs (by rw [Hl'.out]; exact hlt)]; simp), hG0.trans (hGtb.trans hGs)⟩
                          | false =>
                            have Hyu := Lib.hid hyu; clear hyu
                            go_wp2_with fail
                            rw [← Hwb.out] at q0 q1 u0 u1 ⊢
                            refine (l32Same_c _ _ _ _ _ _ x u _ rx ru hxl hul).mono ?_
                            rintro e w5 ⟨rfl, hQ⟩
                            have hGs := hQ.grow
                            rw [Hxu.out]
                            replace q0 := hGs.cell q0; replace q1 := hGs.cell q1; replace u0 := hGs.cell u0; replace u1 := hGs.cell u1
                            clear hQ
                            go_wp2_with fail
                            refine (l32Same_c _ _ _ _ _ _ y v _ (ry.grow hGs) (rv.grow hGs) hyl hvl).mono ?_
                            rintro e w6 ⟨rfl, hQ⟩
                            replace hGs := hGs.trans hQ.grow
                            rw [Hyv.out]
                            replace q0 := hQ.grow.cell q0; replace q1 := hQ.grow.cell q1; replace u0 := hQ.grow.cell u0; replace u1 := hQ.grow.cell u1
                            clear hQ
                            go_wp2_with fail
                            refine (l32Same_c _ _ _ _ _ _ x v _ (rx.grow hGs) (rv.grow hGs) hxl hvl).mono ?_
                            rintro e w7 ⟨rfl, hQ⟩
                            replace hGs := hGs.trans hQ.grow
                            rw [Hxv.out]
                            replace q0 := hQ.grow.cell q0; replace q1 := hQ.grow.cell q1; replace u0 := hQ.grow.cell u0; replace u1 := hQ.grow.cell u1
                            clear hQ
                            go_wp2_with fail
                            refine (l32Same_c _ _ _ _ _ _ y u _ (ry.grow hGs) (ru.grow hGs) hyl hul).mono ?_
                            rintro e w8 ⟨rfl, hQ⟩
                            replace hGs := hGs.trans hQ.grow
                            rw [Hyu.out]
                            clear hQ
                            go_wp2
                            go_roundw
                            case rel => exact ⟨hGi.trans (hGb.trans hGs), j + 1, by omega, by go_num, by rw [hsx.out, Hjx.out, Hxu.out, Hxv.out]; rfl, by rw [hsy.out, Hjy.out, Hyv.out, Hyu.out]; rfl⟩
                            case measure => simp [intOf]; omega
                  · have hjk' : j = k := by omega
                    subst hjk'
                    have Hs := Lib.hid (show arwB l ar j = true by rw [Hst.out, Hf.out, Hjx.out, Hjy.out, decide_eq_true (by omega : 0 ≤ fx), decide_eq_true (by omega : 0 ≤ fy)]; rfl)
                    go_wp2
                    go_roundw
                    case rel => exact ⟨(hG0.trans (hGa.trans hGx)).trans hGi, j + 1, by omega, by go_num, by unfold gradTo; rw [Hgt.out, Hs.out]; rfl⟩
                    case measure => simp [intOf]; omega
        · have hkm : k = m := by omega
          subst hkm
          go_wp2_with fail
          refine (l35Acyclic_c _ _ _ ar _ (h'.grow hG0) hm hf).mono ?_
          rintro e w1 ⟨rfl, hG1⟩
          have hfin := Lib.hid (show isGradB l ar = acycB ar by unfold isGradB; rw [HB.out, Hl.out, Hl'.out, Hgt.out, decide_eq_true (by omega : k ≤ n)]; rfl)
          go_wp2
          go_ret
          exact ⟨ret_bool (by rw [hfin.out]), hG0.trans hG1⟩
end Go.Proofs.Ytkafhbedipfgpaa
