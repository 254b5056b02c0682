/-
  LinkOf: the program's walk.
-/
import Derived.Test.YteianlmindckpaaLinkI
import Derived.Test.YteianlmindckpaaComplexI
namespace Go.Proofs.Yteianlmindckpaa
open Go.RowKit

set_option maxHeartbeats 2000000 in
set_option maxRecDepth 100000 in
theorem implLinkOf_c {S : Nat → Prop} (a : Option Addr) (n cap : Nat) (l : List (List Int)) (v : Int) (w : World) (h : RdII w S a n cap l) (hn : n ≤ 1048576) (ht : total l ≤ 1048576) :
    Calls Try.prog 16 #[.slice a n cap, .int .i64 v] w fun e w' => ∃ a' m c', e = .returned (.slice a' m c') ∧ SepII w' (New w w') a' m c' (linkOut l v) ∧ Grow w w' := by
  have Hl := Lib.hid h.len
  have h0 := h.grow ((Grow.refl w).alloc #[] 37)
  have hS0 := SepII.fresh0 w
  cases hB : isCplxB l with
  | false =>
    have he : linkOut l v = [] := by unfold linkOut; rw [hB]; rfl
    rw [he]
    have HB := Lib.hid hB; clear hB he
    go_enter Try.func16, Try.ntmps16
    go_wp2_with fail
    refine (implIsComplex_c _ _ _ l _ h0 hn ht).mono ?_
    rintro e w1 ⟨rfl, hG⟩
    rw [HB.out]
    go_wp2
    go_ret
    exact ⟨_, _, _, rfl, (hS0.grow hG).weak fun q _ hq => ⟨hq.1, by have := hq.2; have := hG.size; omega⟩, ((Grow.refl w).alloc _ _).trans hG⟩
  | true =>
    have he : linkOut l v = ordOf (linkAll l v) := by unfold linkOut; rw [hB]; rfl
    rw [he]
    have hsm := fun {i : Nat} => linkAll_small (v := v) hB (i := i)
    have h96 := cplx_len hB
    have hsi := (isCplxB_iff.1 hB).1.1
    have hnd := linkAll_nodup v hB (ord_nodup (isCplxB_iff.1 hB).1.2)
    have HB := Lib.hid hB; clear hB he
    go_enter Try.func16, Try.ntmps16
    go_wp2_with fail
    refine (implIsComplex_c _ _ _ l _ h0 hn ht).mono ?_
    rintro e w1 ⟨rfl, hG1⟩
    rw [HB.out]
    have hG01 := ((Grow.refl w).alloc #[] 37).trans hG1
    have hS1 : SepII w1 (New w w1) (some ⟨w.heap.size, 0, none⟩) 0 0 [] := (hS0.grow hG1).weak fun q _ hq => ⟨hq.1, by have := hq.2; have := hG1.size; omega⟩
    go_wp2
    go_loopw [5, 16] (fun u i wr => Grow w wr ∧ ∃ (j m c1 : Nat) (a1 : Option Addr), j ≤ n ∧ i = .int .i64 j ∧ u = .slice a1 m c1 ∧ (blk a1).isSome = true ∧ SepII wr (New w wr) a1 m c1 (linkAll (l.take j) v)) (fun _ i _ => n - (intOf i).toNat)
    case atStart => exact ⟨hG01, 0, 0, 0, _, Nat.zero_le _, rfl, rfl, rfl, hS1⟩
    case round =>
      clear hS1 hG01 hS0
      obtain ⟨hG, j, m, c1, a1, hj, rfl, rfl, hne, hS⟩ := hrel
      by_cases hlt : j < n
      · obtain ⟨b, off, s, sa, sc, rfl, hs, _, hbw, hc, rs⟩ := (h.grow hG).at hlt
        have hsimp := hsi s (List.mem_of_getElem? hs)
        have hsl := simp_len hsimp
        have hsmj := (hsm (i := j) (by rw [Hl.out]; omega)).1
        have hml := hS.len
        have hln := Hl.out
        have hpk := linkRow_pick (v := v) (simp_asc hsimp)
        have hilt : idxI s v < s.length := (firstIdx_lo _ s).2
        have Hs := Lib.hid hs; clear hs
        generalize hix : idxI s v = ix at *
        have Hix := Lib.hid hix; clear hix
        by_cases hi0 : 0 ≤ ix
        · by_cases h1 : 1 < s.length
          · have Hrow := Lib.hid (show linkRow s v s.length = [del s ix.toNat] by rw [hpk, if_pos ⟨hi0, h1⟩]); clear hpk
            obtain ⟨k, rfl⟩ : ∃ k : Nat, ix = k := ⟨ix.toNat, by omega⟩
            rw [show ((k : Int)).toNat = k from rfl] at Hrow
            go_wp2_with fail
            refine (indexInt_c _ _ _ s v _ rs (by omega)).mono ?_
            rintro e w2 ⟨rfl, rfl⟩
            rw [Hix.out]
            go_wp2_with fail
            refine (without_c _ _ _ k s _ rs (by omega) (by omega)).mono ?_
            rintro e w3 ⟨a2, c2, rfl, o2, f2, hG3⟩
            have hrd : ∀ z ∈ del s k, I64 z := fun z hz => rs.rng z (del_sub hz)
            obtain ⟨⟨vs, hO, hI⟩, hlo⟩ := hS
            go_wp2_with (at_builtin; refine wpList_app rfl (.tmp 30) (.tmp 34) _ rfl T_intss rfl (hO.grow (hG3.alloc _ _)) rfl (Row.built (S := fun _ => True) 1 (by unfold maxLen; omega) rfl trivial) (by simp [Value.oneCell']) (by omega) (by unfold maxLen; omega) ?_; intro a3 c3 w4 hA4)
            have hS4 := SepII.app hI hlo (hG3.alloc _ _) (o2.grow ((Grow.refl _).alloc _ _)) hrd hG.size f2 hA4
            have hG4 : Grow w w4 := hA4.grow (hG.trans (hG3.alloc _ _)) (fun g hg => (hlo g hg).1)
            have hne4 : (blk a3).isSome = true := by
              rcases hA4.new with e | ⟨g, e, _⟩
              · rw [e]; exact hne
              · rw [e]; rfl
            clear hA4 hO hI
            go_wp2
            go_roundw
            case rel => exact ⟨hG4, j + 1, m + 1, c3, a3, by omega, by go_num, rfl, hne4, by rw [linkAll_succ v Hs.out, Hrow.out]; exact hS4⟩
            case measure => simp [intOf]; omega
          · have Hrow := Lib.hid (show linkRow s v s.length = [] by rw [hpk, if_neg fun hh => h1 hh.2]); clear hpk
            go_wp2_with fail
            refine (indexInt_c _ _ _ s v _ rs (by omega)).mono ?_
            rintro e w2 ⟨rfl, rfl⟩
            rw [Hix.out]
            go_wp2
            go_roundw
            case rel => exact ⟨hG, j + 1, m, c1, a1, by omega, by go_num, rfl, hne, by rw [linkAll_succ v Hs.out, Hrow.out, List.append_nil]; exact hS⟩
            case measure => simp [intOf]; omega
        · have Hrow := Lib.hid (show linkRow s v s.length = [] by rw [hpk, if_neg fun hh => hi0 hh.1]); clear hpk
          go_wp2_with fail
          refine (indexInt_c _ _ _ s v _ rs (by omega)).mono ?_
          rintro e w2 ⟨rfl, rfl⟩
          rw [Hix.out]
          go_wp2
          go_roundw
          case rel => exact ⟨hG, j + 1, m, c1, a1, by omega, by go_num, rfl, hne, by rw [linkAll_succ v Hs.out, Hrow.out, List.append_nil]; exact hS⟩
          case measure => simp [intOf]; omega
      · have hjn : j = n := by omega
        have hsmn := hsm (i := n) (by rw [Hl.out]; omega)
        have hml := hS.len
        have hln := Hl.out
        subst hjn
        rw [take_all Hl.out] at hS hsmn hml
        obtain ⟨p, rfl⟩ : ∃ p, a1 = some p := by
          cases a1 with
          | none => cases hne
          | some p => exact ⟨p, rfl⟩
        have hp : p = ⟨p.block, 0, none⟩ := by
          obtain ⟨⟨vs, hO, _⟩, _⟩ := hS
          exact (hO.block p rfl).1
        obtain ⟨pb, po, ps⟩ := p
        simp only [Addr.mk.injEq, true_and] at hp
        obtain ⟨rfl, rfl⟩ := hp
        go_wp2_with fail
        refine (sortFunc_c pb m c1 (linkAll l v) _ hS (by omega) (fun x hx => by have := hsmn.2 x hx; omega)).mono ?_
        rintro e w2 ⟨rfl, D, hp, hsort, hS2, hK⟩
        have hD := sorted_ordOf hnd hp hsort
        subst hD
        have hG2 : Grow w w2 := hG.keep hK fun i hi hF => by have := hF.1; omega
        go_wp2
        go_ret
        exact ⟨_, _, _, rfl, hS2.weak fun q hq hF => ⟨hF.1, hq⟩, hG2⟩
end Go.Proofs.Yteianlmindckpaa
