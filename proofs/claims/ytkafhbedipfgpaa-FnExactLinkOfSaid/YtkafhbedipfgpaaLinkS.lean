/-
  LinkOf: the reference's walk.
-/
import Derived.Test.YtkafhbedipfgpaaLink
namespace Go.Proofs.Ytkafhbedipfgpaa
open Go.RowKit

set_option maxHeartbeats 4000000 in
set_option maxRecDepth 100000 in
theorem specLinkOf_c {S : Nat → Prop} (a : Option Addr) (n cap : Nat) (l : List (List Int)) (v : Int) (w : World) (h : RdII w S a n cap l) (hn : n ≤ 1048576) (ht : total l ≤ 1048576) :
    Calls Try.prog 51 #[.slice a n cap, .int .i64 v] w fun e w' => ∃ a' m c', e = .returned (.slice a' m c') ∧ RdII w' (fun _ => True) a' m c' (linkOut l v) ∧ Grow w w' := by
  have Hl := Lib.hid h.len
  replace h := h.weak (T := fun _ => True) fun _ _ _ => trivial
  cases hB : isCplxB l with
  | false =>
    have he : linkOut l v = [] := by unfold linkOut; rw [hB]; rfl
    rw [he]
    have HB := Lib.hid hB; clear hB he
    go_enter Try.func51, Try.ntmps51
    go_wp2
    go_loopw [5, 6] (fun u i wr => Grow w wr ∧ i = .int .i64 0 ∧ ∃ g, u = .slice (some ⟨g, 0, none⟩) 0 0) (fun _ _ _ => 0)
    case atStart => exact ⟨(Grow.refl _).alloc _ _, rfl, _, rfl⟩
    case round =>
      obtain ⟨hG, rfl, g, rfl⟩ := hrel
      by_cases hlt : 0 < n
      · go_wp2_with fail
        refine (specIsComplex_c _ _ _ l _ (h.grow hG) hn ht).mono ?_
        rintro e w1 ⟨rfl, hG1⟩
        rw [HB.out]
        go_wp2
        go_ret
        exact ⟨_, _, _, rfl, ⟨⟨[], Row.emptyAt, fun i xs hi => by simp at hi⟩, rfl⟩, hG.trans hG1⟩
      · go_wp2
        go_ret
        exact ⟨_, _, _, rfl, ⟨⟨[], Row.emptyAt, fun i xs hi => by simp at hi⟩, rfl⟩, hG⟩
  | true =>
    have he : linkOut l v = ordOf (linkAll (l.take n) v) := by unfold linkOut; rw [hB, take_all Hl.out]; rfl
    rw [he]
    have hsm := fun {i : Nat} => linkAll_small (v := v) hB (i := i)
    have h96 := cplx_len hB
    have hsi := (isCplxB_iff.1 hB).1.1
    have HB := Lib.hid hB; clear hB he
    go_enter Try.func51, Try.ntmps51
    go_wp2
    go_loopw [5, 6] (fun u i wr => Grow w wr ∧ ∃ (j m c1 : Nat) (a1 : Option Addr), j ≤ n ∧ i = .int .i64 j ∧ u = .slice a1 m c1 ∧ RdII wr (fun _ => True) a1 m c1 (ordOf (linkAll (l.take j) v))) (fun _ i _ => n - (intOf i).toNat)
    case atStart => exact ⟨(Grow.refl _).alloc _ _, 0, 0, 0, _, Nat.zero_le _, rfl, rfl, ⟨⟨[], Row.emptyAt, fun i xs hi => by simp [linkAll, ordOf] at hi⟩, rfl⟩⟩
    case round =>
      obtain ⟨hG, j, m, c1, a1, hj, rfl, rfl, hO⟩ := hrel
      by_cases hlt : j < n
      · obtain ⟨b, off, s, sa, sc, rfl, hs, _, hbw, hc, rs⟩ := (h.grow hG).at hlt
        have hsl := simp_len (hsi s (List.mem_of_getElem? hs))
        have hsmj := hsm (i := j) (by rw [Hl.out]; omega)
        have Hs := Lib.hid hs; clear hs
        have hst : linkRow s v 0 = [] := rfl
        go_wp2_with fail
        refine (specIsComplex_c _ _ _ l _ (h.grow hG) hn ht).mono ?_
        rintro e w1 ⟨rfl, hG1⟩
        rw [HB.out]
        go_wp2
        go_loopw [5, 7] (fun u i wr => Grow w wr ∧ ∃ (k m c1 : Nat) (a1 : Option Addr), k ≤ s.length ∧ i = .int .i64 k ∧ u = .slice a1 m c1 ∧ RdII wr (fun _ => True) a1 m c1 (ordOf (linkAll (l.take j) v ++ linkRow s v k))) (fun _ i _ => s.length - (intOf i).toNat)
        case atStart => exact ⟨hG.trans hG1, 0, m, c1, a1, Nat.zero_le _, rfl, rfl, by rw [hst, List.append_nil]; exact hO.grow hG1⟩
        case round =>
          clear hO hG hG1 hc rs hbw
          obtain ⟨hG, k, m, c1, a1, hk, rfl, rfl, hO⟩ := hrel
          obtain ⟨b1, off1, s', sa1, sc1, e1, hs1', _, hbs, hcs, rs⟩ := (h.grow hG).at hlt
          obtain ⟨rfl, rfl⟩ : b1 = b ∧ off1 = off := by simpa using e1.symm
          obtain rfl : s' = s := Option.some.inj (hs1'.symm.trans Hs.out)
          clear e1 hs1'
          by_cases hkn : k < s'.length
          · obtain ⟨bx, offx, x, rfl, hx, hxr, _, hbx, hcx⟩ := rs.at hkn
            have Hx := Lib.hid hx; clear hx
            by_cases hxv : x = v
            · by_cases h1 : 1 < s'.length
              · have hb : (x == v) = true := by simp [hxv]
                have Hone := Lib.hid (show linkOne s' v k = [del s' k] by unfold linkOne; rw [if_pos ⟨by rw [Hx.out, hxv], h1⟩])
                have hrl := linkRow_len s' v k
                have hol := ordOf_len (linkAll (l.take j) v ++ linkRow s' v k)
                have hom : ∀ y ∈ ordOf (linkAll (l.take j) v ++ linkRow s' v k), y.length ≤ 3 := fun y hy => by
                  rcases List.mem_append.1 (mem_ordOf.1 hy) with hy | hy
                  · exact (hsmj.2 y hy).2
                  · obtain ⟨q, hq, _, _, rfl⟩ := linkRow_mem hy
                    rw [del_len (by omega)]; omega
                have hot := total_small hom
                have hOl := hO.len
                have hln := Hl.out
                have Hdl := Lib.hid (del_len hkn)
                simp only [List.length_append] at hol
                clear hom
                go_wp2_with fail
                refine (l32Face_c _ _ _ k s' _ rs hkn (by omega)).mono ?_
                rintro e w2 ⟨a2, c2, rfl, o2, f2, hG2⟩
                go_wp2_with fail
                have r2 := o2.rdI (S := fun _ => True) (fun _ _ => trivial) (fun z hz => rs.rng z (del_sub hz))
                refine (l32Put_c _ _ _ _ _ _ _ (del s' k) _ (hO.grow hG2) r2 (by omega) (by omega) (by have := Hdl.out; omega) (by have := Hdl.out; omega)).mono ?_
                rintro e w3 ⟨a3, n3, c3, rfl, hO3, hG3⟩
                go_wp2
                go_roundw
                case rel =>
                  exact ⟨(hG.trans hG2).trans hG3, k + 1, n3, c3, a3, by omega, by go_num, rfl, by rw [linkRow_succ, Hone.out, ← List.append_assoc, ordOf_snoc]; exact hO3.weak fun _ _ _ => trivial⟩
                case measure => simp [intOf]; omega
              · have hb : (x == v) = true := by simp [hxv]
                have Hone := Lib.hid (show linkOne s' v k = [] by unfold linkOne; rw [if_neg (fun hh => h1 hh.2)])
                go_wp2
                go_roundw
                case rel =>
                  exact ⟨hG, k + 1, m, c1, a1, by omega, by go_num, rfl, by rw [linkRow_succ, Hone.out, List.append_nil]; exact hO⟩
                case measure => simp [intOf]; omega
            · have hb : (x == v) = false := by simp [hxv]
              have Hone := Lib.hid (show linkOne s' v k = [] by unfold linkOne; rw [if_neg (fun hh => hxv (Option.some.inj (Hx.out.symm.trans hh.1)))])
              go_wp2
              go_roundw
              case rel =>
                exact ⟨hG, k + 1, m, c1, a1, by omega, by go_num, rfl, by rw [linkRow_succ, Hone.out, List.append_nil]; exact hO⟩
              case measure => simp [intOf]; omega
          · have hkk : k = s'.length := by omega
            have Hnx := Lib.hid (show linkAll (l.take (j + 1)) v = linkAll (l.take j) v ++ linkRow s' v k by rw [linkAll_succ v Hs.out, hkk])
            clear hkk
            go_wp2
            go_roundw
            case rel => exact ⟨hG, j + 1, m, c1, a1, by omega, by go_num, rfl, by rw [Hnx.out]; exact hO⟩
            case measure => simp [intOf]; omega
      · have hjn : j = n := by omega
        subst hjn
        go_wp2
        go_ret
        exact ⟨_, _, _, rfl, hO, hG⟩
end Go.Proofs.Ytkafhbedipfgpaa
