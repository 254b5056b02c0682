/-
  IsComplex, the program's: sizes are counted in an array while the list is looked through, faces are looked for in the whole list.
-/
import Derived.Test.YthlncohllbmapaaComplex
namespace Go.Proofs.Ythlncohllbmapaa
open Go.RowKit

def cntL (l : List (List Int)) (c : Nat) : Nat := (l.filter fun s => s.length == c).length
theorem cntL_facesB (l : List (List Int)) (k : Nat) : (facesB l k).length = cntL l (k + 1) := by
  unfold facesB cntL
  congr 2
  funext s
  rw [Bool.eq_iff_iff]; simp; omega
theorem cntL_snoc (l : List (List Int)) (x : List Int) (c : Nat) : cntL (l ++ [x]) c = cntL l c + if x.length = c then 1 else 0 := by
  unfold cntL; rw [List.filter_append]
  by_cases h : x.length = c <;> simp [h]
theorem cntL_le (l : List (List Int)) (c : Nat) : cntL l c ≤ l.length := List.length_filter_le _ _
theorem cntL_take (l : List (List Int)) (k c : Nat) : cntL (l.take k) c ≤ cntL l c := by
  conv => rhs; rw [← List.take_append_drop k l]
  unfold cntL; rw [List.filter_append, List.length_append]; omega
def cnts (l : List (List Int)) : List Int := [(cntL l 0 : Int), cntL l 1, cntL l 2, cntL l 3, cntL l 4]
theorem cnts_at (l : List (List Int)) {c : Nat} (h : c < 5) : (ints (cnts l))[c]? = some (.int .i64 (cntL l c)) := by
  match c, h with
  | 0, _ => rfl
  | 1, _ => rfl
  | 2, _ => rfl
  | 3, _ => rfl
  | 4, _ => rfl
theorem cnts_snoc (l : List (List Int)) (x : List Int) (h : x.length < 5) : (ints (cnts l)).set x.length (.int .i64 ((cntL l x.length : Int) + 1)) = ints (cnts (l ++ [x])) := by
  have h5 : x.length = 0 ∨ x.length = 1 ∨ x.length = 2 ∨ x.length = 3 ∨ x.length = 4 := by omega
  rcases h5 with h | h | h | h | h <;> simp [cnts, cntL_snoc, h, ints]
theorem isSimpB_len {xs : List Int} (h : isSimpB xs = true) : 1 ≤ xs.length ∧ xs.length ≤ 4 := by
  unfold isSimpB at h; rw [decide_eq_true_eq] at h; exact h.2

def faceTo (l : List (List Int)) (i : Nat) : Prop := ∀ j x, j < i → l[j]? = some x → 1 < x.length → ∀ k, k < x.length → del x k ∈ l

theorem isimp_ans {S : Nat → Prop} {a : Option Addr} {n cap : Nat} {xs : List Int} {w : World} {b : Bool} (h : RdI w S a n cap xs) (hn : n ≤ 1048576) (hb : isSimpB xs = b) :
    ∀ W, Grow w W → Calls Try.prog 107 #[.slice a n cap] W fun e w' => e = .returned (.bool b) ∧ Qt W w' :=
  fun W hW => (implIsSimplex_c a n cap xs W (h.grow hW) hn).mono fun e w' ⟨he, hQ⟩ => ⟨by rw [he, hb], hQ⟩

set_option maxHeartbeats 4000000 in
set_option maxRecDepth 100000 in
theorem implIsComplex_c {S : Nat → Prop} (a : Option Addr) (n cap : Nat) (l : List (List Int)) (w : World) (h : RdII w S a n cap l) (hn : n ≤ 1048576) (ht : total l ≤ 1048576) :
    Calls Try.prog 75 #[.slice a n cap] w fun e w' => e = .returned (.bool (isCplxB l)) ∧ Grow w w' := by
  have hl := h.len
  go_enter Try.func75, Try.ntmps75
  go_wp2
  have hO0 : Own (w.alloc (.cells #[.int .i64 0, .int .i64 0, .int .i64 0, .int .i64 0, .int .i64 0] 85)) 85 1 (some ⟨w.heap.size, 0, none⟩) 5 5 (ints (cnts (l.take 0))) := Own.fresh (by unfold maxLen; omega) rfl
  go_loopw [12] (fun i wr => Grow w wr ∧ w.heap.size < wr.heap.size ∧ ∃ k : Nat, k ≤ n ∧ i = .int .i64 k ∧ chainTo l k ∧ Own wr 85 1 (some ⟨w.heap.size, 0, none⟩) 5 5 (ints (cnts (l.take k))) ∧ ∀ c, c < 5 → cntL (l.take k) c ≤ 24) (fun i _ => n - (intOf i).toNat)
  case atStart => exact ⟨(Grow.refl _).alloc _ _, by simp, 0, Nat.zero_le _, rfl, fun _ _ h => by omega, hO0, fun c _ => by simp [cntL]⟩
  case round =>
    clear hO0
    obtain ⟨hG, hsz, i, hi, rfl, hch, hO, hcn⟩ := hrel
    have Hch := Lib.hid hch; clear hch
    have Hcn := Lib.hid hcn; clear hcn
    by_cases hlt : i < n
    · obtain ⟨b, off, x, a1, c1, rfl, hx, _, hbw, hc, hrd⟩ := (h.grow hG).at hlt
      have hxl : x.length ≤ 1048576 := by have := total_at hx; omega
      have Hx := Lib.hid hx; clear hx
      cases hs : isSimpB x with
      | false =>
        have cS := Lib.hid (isimp_ans hrd hxl hs)
        have Hs := Lib.hid hs; clear hs
        go_wp2_with fail
        refine (cS.out _ (Grow.refl _)).mono ?_
        rintro e w1 ⟨rfl, hQ⟩
        go_wp2
        go_ret
        refine ⟨ret_bool (isCplxB_no fun hC => ?_).symm, hG.trans hQ.grow⟩
        have := hC.1.1 x (List.mem_of_getElem? Hx.out)
        rw [Hs.out] at this; cases this
      | true =>
        have cS := Lib.hid (isimp_ans hrd hxl hs)
        have hx4 := isSimpB_len hs
        have Hs := Lib.hid hs; clear hs
        have hstep : (¬ 0 < i ∨ ∃ y, l[i - 1]? = some y ∧ beforeB y x = true) ∨ (0 < i ∧ ∃ y, l[i - 1]? = some y ∧ beforeB y x = false) := by
          by_cases hi0 : 0 < i
          · have hy : l[i - 1]? = some l[i - 1] := List.getElem?_eq_getElem (by omega)
            cases hbf : beforeB l[i - 1] x with
            | true => exact .inl (.inr ⟨_, hy, hbf⟩)
            | false => exact .inr ⟨hi0, _, hy, hbf⟩
          · exact .inl (.inl hi0)
        rcases hstep with hgood | ⟨hi0, y, hy, hbf⟩
        · have hch1 : chainTo l (i + 1) := chainTo_succ Hch.out Hx.out Hs.out (fun y h0 hy => by
            rcases hgood with h1 | ⟨y', hy', h1⟩
            · exact (h1 h0).elim
            · obtain rfl := Option.some.inj (hy.symm.trans hy'); exact h1)
          have Hch1 := Lib.hid hch1; clear hch1
          have hcnt : cntL (l.take i) x.length ≤ 1048576 := by have := cntL_le (l.take i) x.length; simp at this; omega
          have Hset := Lib.hid (cnts_snoc (l.take i) x (by omega))
          by_cases hi0 : 0 < i
          · obtain ⟨y, hy, hbf⟩ : ∃ y, l[i - 1]? = some y ∧ beforeB y x = true := by
              rcases hgood with h1 | h1
              · exact (h1 hi0).elim
              · exact h1
            clear hgood
            obtain ⟨b2, off2, y2, a2, c2, he2, hy2, _, _, hc2, hrd2⟩ := (h.grow hG).at (k := i - 1) (by omega)
            obtain ⟨rfl, rfl⟩ : b = b2 ∧ off = off2 := by simpa using he2
            obtain rfl : y = y2 := Option.some.inj (hy.symm.trans hy2)
            have hyl : y.length ≤ 1048576 := by have := total_at hy; omega
            have hneg := (cmpS_before y x).2 hbf
            clear hbf hy hy2 he2
            go_wp2_with fail
            refine (cS.out _ (Grow.refl _)).mono ?_
            rintro e w1 ⟨rfl, hQ⟩
            have hc2' := hQ.grow.cell hc2
            go_wp2_with fail
            refine (compareSimplices_c _ _ _ _ _ _ y x _ (hrd2.grow hQ.grow) (hrd.grow hQ.grow) (by omega) (by omega)).mono ?_
            rintro e w2 ⟨rfl, rfl⟩
            have hG1 := hG.trans hQ.grow
            have hO1 := hO.grow hQ.grow
            have hce := hO1.cell (cnts_at (l.take i) (c := x.length) (by omega))
            have hfr := hO1.free x.length
            simp only at hce hfr
            have hce2 : (w1.setCell ⟨w.heap.size, x.length, none⟩ (.int .i64 ((cntL (l.take i) x.length : Int) + 1))).cell? ⟨w.heap.size, x.length, none⟩ = some (.int .i64 ((cntL (l.take i) x.length : Int) + 1)) := World.cell?_setCell_same _ _ _ hce
            have hO2 := hO1.set x.length (.int .i64 ((cntL (l.take i) x.length : Int) + 1))
            rw [Hset.out, ← take_succ Hx.out] at hO2
            have hG2 : Grow w (w1.setCell ⟨w.heap.size, x.length, none⟩ (.int .i64 ((cntL (l.take i) x.length : Int) + 1))) := hG1.setCell (Nat.le_refl _) _
            by_cases h24 : cntL (l.take i) x.length < 24
            · go_wp2
              go_roundw
              case rel =>
                refine ⟨hG2, by have := hQ.grow.size; simp; omega, i + 1, by omega, by go_num, Hch1.out, hO2, fun c hc5 => ?_⟩
                rw [take_succ Hx.out, cntL_snoc]
                have := Hcn.out c hc5
                split
                · rename_i e; subst e; omega
                · omega
              case measure => simp [intOf]; omega
            · go_wp2
              go_ret
              refine ⟨ret_bool (isCplxB_no fun hC => ?_).symm, hG2⟩
              have h1 := hC.2.2 (x.length - 1) (by omega)
              rw [cntL_facesB, show x.length - 1 + 1 = x.length from by omega] at h1
              have h2 := cntL_take l (i + 1) x.length
              rw [take_succ Hx.out, cntL_snoc] at h2
              simp at h2; omega
          · clear hgood
            go_wp2_with fail
            refine (cS.out _ (Grow.refl _)).mono ?_
            rintro e w1 ⟨rfl, hQ⟩
            have hG1 := hG.trans hQ.grow
            have hO1 := hO.grow hQ.grow
            have hce := hO1.cell (cnts_at (l.take i) (c := x.length) (by omega))
            have hfr := hO1.free x.length
            simp only at hce hfr
            have hce2 : (w1.setCell ⟨w.heap.size, x.length, none⟩ (.int .i64 ((cntL (l.take i) x.length : Int) + 1))).cell? ⟨w.heap.size, x.length, none⟩ = some (.int .i64 ((cntL (l.take i) x.length : Int) + 1)) := World.cell?_setCell_same _ _ _ hce
            have hO2 := hO1.set x.length (.int .i64 ((cntL (l.take i) x.length : Int) + 1))
            rw [Hset.out, ← take_succ Hx.out] at hO2
            have hG2 : Grow w (w1.setCell ⟨w.heap.size, x.length, none⟩ (.int .i64 ((cntL (l.take i) x.length : Int) + 1))) := hG1.setCell (Nat.le_refl _) _
            by_cases h24 : cntL (l.take i) x.length < 24
            · go_wp2
              go_roundw
              case rel =>
                refine ⟨hG2, by have := hQ.grow.size; simp; omega, i + 1, by omega, by go_num, Hch1.out, hO2, fun c hc5 => ?_⟩
                rw [take_succ Hx.out, cntL_snoc]
                have := Hcn.out c hc5
                split
                · rename_i e; subst e; omega
                · omega
              case measure => simp [intOf]; omega
            · go_wp2
              go_ret
              refine ⟨ret_bool (isCplxB_no fun hC => ?_).symm, hG2⟩
              have h1 := hC.2.2 (x.length - 1) (by omega)
              rw [cntL_facesB, show x.length - 1 + 1 = x.length from by omega] at h1
              have h2 := cntL_take l (i + 1) x.length
              rw [take_succ Hx.out, cntL_snoc] at h2
              simp at h2; omega
        · obtain ⟨b2, off2, y2, a2, c2, he2, hy2, _, _, hc2, hrd2⟩ := (h.grow hG).at (k := i - 1) (by omega)
          obtain ⟨rfl, rfl⟩ : b = b2 ∧ off = off2 := by simpa using he2
          obtain rfl : y = y2 := Option.some.inj (hy.symm.trans hy2)
          have hyl : y.length ≤ 1048576 := by have := total_at hy; omega
          have hpos : 0 ≤ cmpS y x := by
            rcases Int.lt_or_le (cmpS y x) 0 with h0 | h0
            · have := (cmpS_before y x).1 h0; rw [hbf] at this; cases this
            · exact h0
          have Hbf := Lib.hid hbf; clear hbf
          have Hy := Lib.hid hy; clear hy hy2 he2
          go_wp2_with fail
          refine (cS.out _ (Grow.refl _)).mono ?_
          rintro e w1 ⟨rfl, hQ⟩
          have hc2' := hQ.grow.cell hc2
          go_wp2_with fail
          refine (compareSimplices_c _ _ _ _ _ _ y x _ (hrd2.grow hQ.grow) (hrd.grow hQ.grow) (by omega) (by omega)).mono ?_
          rintro e w2 ⟨rfl, rfl⟩
          go_wp2
          go_ret
          refine ⟨ret_bool (isCplxB_no fun hC => ?_).symm, hG.trans hQ.grow⟩
          have := (chainTo_all.2 hC.1 i x (by omega) Hx.out).2 y hi0 Hy.out
          rw [Hbf.out] at this; cases this
    · have : i = n := by omega
      subst this
      have hC : (∀ s ∈ l, isSimpB s = true) ∧ l.Pairwise (fun a b => beforeB a b = true) := chainTo_all.1 (by rw [hl]; exact Hch.out)
      have hF : few l := fun k hk => by rw [cntL_facesB]; have := Hcn.out (k + 1) (by omega); rwa [take_all hl] at this
      have HC := Lib.hid hC; clear hC
      have HF := Lib.hid hF; clear hF
      clear Hch Hcn hO
      go_wp2
      go_loopw [48] (fun q wr => Grow w wr ∧ ∃ k : Nat, k ≤ i ∧ q = .int .i64 k ∧ faceTo l k) (fun q _ => i - (intOf q).toNat)
      case atStart => exact ⟨hG, 0, Nat.zero_le _, rfl, fun _ _ h => by omega⟩
      case round =>
        obtain ⟨hGo, j, hj, rfl, hft⟩ := hrel
        have Hft := Lib.hid hft; clear hft
        by_cases hjl : j < i
        · obtain ⟨b, off, x, a1, c1, rfl, hx, _, hbw, hc, hrd⟩ := (h.grow hGo).at hjl
          have hxl : x.length ≤ 1048576 := by have := total_at hx; omega
          have Hx := Lib.hid hx; clear hx
          go_wp2
          obtain ⟨wo, rfl⟩ : ∃ wo : World, wo = wr := ⟨_, rfl⟩
          go_loopw [54] (fun q wr => Grow wo wr ∧ ∃ k : Nat, k ≤ x.length ∧ q = .int .i64 k ∧ (1 < x.length → ∀ k', k' < k → del x k' ∈ l)) (fun q _ => x.length - (intOf q).toNat)
          case atStart => exact ⟨Grow.refl _, 0, Nat.zero_le _, rfl, fun _ _ h => by omega⟩
          case round =>
            obtain ⟨hGi, k, hk, rfl, hin⟩ := hrel
            have Hin := Lib.hid hin; clear hin
            by_cases hkl : k < x.length
            · by_cases h1l : 1 < x.length
              · go_wp2_with fail
                refine (without_c _ _ _ k x _ (hrd.grow hGi) hkl (by omega)).mono ?_
                rintro e w1 ⟨a3, c3, rfl, hO3, _, hG3⟩
                have hr3 := hO3.rdI (S := fun _ => True) (fun _ _ => trivial) (fun z hz => hrd.rng z (del_sub hz))
                have hG31 := hGi.trans hG3
                go_wp2_with fail
                refine (indexOfSimplex_c _ _ _ _ _ _ l (del x k) _ (h.grow (hGo.trans hG31)) hr3 (by omega) (by omega)).mono ?_
                rintro e w2 ⟨rfl, hG4⟩
                have hG41 := hG31.trans hG4
                by_cases hmem : del x k ∈ l
                · have hf := findI_mem.2 hmem
                  have Hmem := Lib.hid hmem; clear hmem
                  go_wp2
                  go_roundw
                  case rel =>
                    refine ⟨hG41, k + 1, by omega, by go_num, fun h1 k' hk' => ?_⟩
                    by_cases e : k' = k
                    · subst e; exact Hmem.out
                    · exact Hin.out h1 k' (by omega)
                  case measure => simp [intOf]; omega
                · have hf : findI l (del x k) < 0 := by rw [findI_no hmem]; omega
                  have Hmem := Lib.hid hmem; clear hmem
                  go_wp2
                  go_ret
                  exact ⟨ret_bool (isCplxB_no fun hC => Hmem.out (hC.2.1 x (List.mem_of_getElem? Hx.out) h1l k hkl)).symm, hGo.trans hG41⟩
              · go_wp2
                go_roundw
                case rel => exact ⟨hGi, k + 1, by omega, by go_num, fun h1 => by omega⟩
                case measure => simp [intOf]; omega
            · go_wp2
              go_roundw
              case rel =>
                refine ⟨hGo.trans hGi, j + 1, by omega, by go_num, fun j' x' hj' hx' h1 k' hk' => ?_⟩
                by_cases e : j' = j
                · subst e
                  obtain rfl : x = x' := Option.some.inj (Hx.out.symm.trans hx')
                  exact Hin.out h1 k' (by omega)
                · exact Hft.out j' x' (by omega) hx' h1 k' hk'
              case measure => simp [intOf]; omega
        · go_wp2
          go_ret
          refine ⟨ret_bool (isCplxB_iff.2 ⟨HC.out, fun s hs h1 k hk => ?_, HF.out⟩).symm, hGo⟩
          obtain ⟨m, hm, rfl⟩ := List.mem_iff_getElem.1 hs
          exact Hft.out m _ (by omega) (List.getElem?_eq_getElem hm) h1 k hk

theorem specIsComplex_v {S : Nat → Prop} {v : Value} {l : List (List Int)} {w : World} (h : VII w S v l) (hb : bdII l ≤ 1048576) :
    Calls Try.prog 68 #[v] w fun e w' => e = .returned (.bool (isCplxB l)) ∧ Grow w w' := by
  obtain ⟨a, n, c, rfl, h⟩ := h
  have hl := h.len
  unfold bdII at hb
  exact specIsComplex_c a n c l w h (by omega) (by omega)
theorem implIsComplex_v {S : Nat → Prop} {v : Value} {l : List (List Int)} {w : World} (h : VII w S v l) (hb : bdII l ≤ 1048576) :
    Calls Try.prog 75 #[v] w fun e w' => e = .returned (.bool (isCplxB l)) ∧ Grow w w' := by
  obtain ⟨a, n, c, rfl, h⟩ := h
  have hl := h.len
  unfold bdII at hb
  exact implIsComplex_c a n c l w h (by omega) (by omega)
end Go.Proofs.Ythlncohllbmapaa
