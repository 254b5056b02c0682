/-
  ComplexOf: the program's walk.
-/
import Derived.Test.YteianlmindckpaaCompactW
import Derived.Test.YteianlmindckpaaCplx
import Derived.Test.YteianlmindckpaaComplexI
namespace Go.Proofs.Yteianlmindckpaa
open Go.RowKit

theorem sel_append : ∀ (s t : List Int) (b : Nat), sel (s ++ t) b = sel s b ++ sel t (b / 2 ^ s.length)
  | [], t, b => by simp [sel]
  | v :: s, t, b => by
    have e : b / 2 ^ (s.length + 1) = b / 2 / 2 ^ s.length := by rw [Nat.div_div_eq_div_mul, Nat.pow_succ, Nat.mul_comm]
    simp only [List.cons_append, sel, List.length_cons, e]
    split
    · rw [sel_append s t]; rfl
    · exact sel_append s t _
theorem sel_take {s : List Int} {i : Nat} {v : Int} (b : Nat) (h : s[i]? = some v) : sel (s.take (i + 1)) b = sel (s.take i) b ++ if b / 2 ^ i % 2 = 1 then [v] else [] := by
  rw [take_succ h, sel_append]
  have hl : (s.take i).length = i := by
    have := (List.getElem?_eq_some_iff.1 h).1
    simp; omega
  rw [hl]
  simp only [sel]
theorem and_one {k : Nat} (i : Nat) (h : k < 16) : bits .and .i64 ((k : Int) / 2 ^ i) 1 = ((k / 2 ^ i % 2 : Nat) : Int) := by
  have e : (k : Int) / 2 ^ i = ((k / 2 ^ i : Nat) : Int) := by simp
  rw [e]
  have hx : k / 2 ^ i < 16 := Nat.lt_of_le_of_lt (Nat.div_le_self _ _) h
  generalize k / 2 ^ i = x at hx
  have key : ∀ x : Fin 16, bits .and .i64 (((x : Nat)) : Int) 1 = (((x : Nat) % 2 : Nat) : Int) := by decide
  exact key ⟨x, hx⟩
theorem sel_len (s : List Int) (b : Nat) : (sel s b).length ≤ s.length := (sel_sub s b).length_le
set_option maxHeartbeats 1000000 in
set_option maxRecDepth 100000 in
theorem implComplexOf_c {S : Nat → Prop} (a : Option Addr) (n cap : Nat) (l : List (List Int)) (w : World) (h : RdII w S a n cap l) (hn : n ≤ 1048576) (ht : total l ≤ 1048576) :
    Calls Try.prog 14 #[.slice a n cap] w fun e w' => ∃ a' m c', e = .returned (.tuple #[.slice a' m c', .bool (cplxOk l)]) ∧ SepII w' (New w w') a' m c' (cplxOut l) ∧ Grow w w' := by
  have Hl := Lib.hid h.len
  by_cases h96 : n ≤ 96
  · go_enter Try.func14, Try.ntmps14
    go_wp2
    go_loopw [4, 18] (fun u i wr => Grow w wr ∧ ∃ (j m c1 : Nat) (a1 : Option Addr), j ≤ n ∧ i = .int .i64 j ∧ u = .slice a1 m c1 ∧ (blk a1).isSome = true ∧ SepII wr (New w wr) a1 m c1 (partsAll (l.take j)) ∧ (∀ x ∈ l.take j, isSimpB x = true) ∧ m ≤ 16 * j) (fun _ i _ => n - (intOf i).toNat)
    case atStart => exact ⟨(Grow.refl w).alloc _ _, 0, 0, 0, _, Nat.zero_le _, rfl, rfl, rfl, SepII.fresh0 w, by simp, by omega⟩
    case round =>
      obtain ⟨hG, j, m, c1, a1, hj, rfl, rfl, hne, hS, hsi, hm⟩ := hrel
      have Hsi := Lib.hid hsi; clear hsi
      by_cases hlt : j < n
      · obtain ⟨b, off, s, sa, sc, rfl, hs, _, hbw, hc0, rs0⟩ := h.at hlt
        have hc := hG.cell hc0
        have rs := rs0.grow hG
        have hts := total_at hs
        have Hs := Lib.hid hs; clear hs
        cases hsimp : isSimpB s with
        | false =>
          have hcf : cplxOk l = false := by
            unfold cplxOk
            rw [List.all_eq_false.2 ⟨s, List.mem_of_getElem? Hs.out, by simp [hsimp]⟩]; simp
          have he : cplxOut l = [] := by unfold cplxOut; rw [hcf]; rfl
          have Hcf := Lib.hid hcf
          have Hsm := Lib.hid hsimp; clear hsimp hcf
          go_wp2_with fail
          refine (implIsSimplex_c _ _ _ s _ rs (by omega)).mono ?_
          rintro e w1 ⟨rfl, hQ⟩
          rw [Hsm.out]
          have hGE := hG.trans hQ.grow
          go_wp2
          go_ret2
          exact ⟨_, _, _, by rw [Hcf.out]; rfl, by rw [he]; exact ⟨⟨[], Own.freshAt rfl (by unfold maxLen; omega) rfl, Inner.nilw⟩, fun g hg => by simp at hg; subst hg; exact ⟨hGE.size, by simp⟩⟩, hGE.alloc _ _⟩
        | true =>
          have hsl := simp_len hsimp
          have Hsm := Lib.hid hsimp; clear hsimp
          go_wp2_with fail
          refine (implIsSimplex_c _ _ _ s _ rs (by omega)).mono ?_
          rintro e w1 ⟨rfl, hQ⟩
          rw [Hsm.out]
          have hG1 := hQ.grow
          go_wp2
          obtain ⟨P, hP⟩ : ∃ P, P = 2 ^ s.length := ⟨_, rfl⟩
          have hp16 : P ≤ 16 := by rw [hP]; exact Nat.pow_le_pow_right (by omega) hsl.2
          have hP1 : 1 ≤ P := by rw [hP]; exact Nat.one_le_two_pow
          have hw64 : wrap64 ((2 : Int) ^ s.length) = (P : Int) := by
            have e : ((2 ^ s.length : Nat) : Int) = (2 : Int) ^ s.length := by simp
            rw [← e, ← hP]; unfold wrap64; omega
          have HP := Lib.hid hP; clear hP
          go_loopw [4, 7] (fun u i wr => Grow w wr ∧ ∃ (k m c1 : Nat) (a1 : Option Addr), 1 ≤ k ∧ k ≤ P ∧ i = .int .i64 k ∧ u = .slice a1 m c1 ∧ (blk a1).isSome = true ∧ SepII wr (New w wr) a1 m c1 (partsAll (l.take j) ++ partsTo s k) ∧ m + 1 ≤ 16 * j + k) (fun _ i _ => P - (intOf i).toNat)
          case atStart =>
            refine ⟨hG.trans hG1, 1, m, c1, a1, Nat.le_refl _, hP1, rfl, rfl, hne, ?_, by omega⟩
            rw [partsTo_one, List.append_nil]
            exact (hS.grow hG1).weak fun q _ hF => ⟨hF.1, by have := hF.2; have := hG1.size; omega⟩
          case round =>
            clear hS hne hm
            obtain ⟨hG, k, m, c1, a1, hk1, hk, rfl, rfl, hne, hS, hm⟩ := hrel
            rename World => wm
            by_cases hkn : k < P
            · go_wp2
              · go_loopw [8, 36] (fun uf ui wq => Grow wm wq ∧ ∃ (i fc : Nat) (fa : Option Addr), i ≤ s.length ∧ ui = .int .i64 i ∧ uf = .slice fa (sel (s.take i) k).length fc ∧ (∀ g, blk fa = some g → wm.heap.size ≤ g) ∧ Own wq 3 1 fa (sel (s.take i) k).length fc (ints (sel (s.take i) k))) (fun _ i _ => s.length - (intOf i).toNat)
                case atStart => exact ⟨(Grow.refl wm).alloc _ _, 0, 0, _, Nat.zero_le _, rfl, rfl, fun g hg => by simp at hg; omega, Own.freshAt rfl (by show 0 ≤ maxLen; unfold maxLen; omega) rfl⟩
                case round =>
                  obtain ⟨hGq, i, fc, fa, hi, rfl, rfl, hlo, hO⟩ := hrel
                  by_cases hil : i < s.length
                  · obtain ⟨sb, so, v, rfl, hv, hvr, _, hsb, hsc⟩ := (rs0.grow (hG.trans hGq)).at hil
                    have hst := sel_take k hv
                    have hand := and_one i (by omega : k < 16)
                    have hsle := sel_len (s.take i) k
                    rw [List.length_take] at hsle
                    by_cases hbit : k / 2 ^ i % 2 = 1
                    · have hb : (bits .and .i64 ((k : Int) / 2 ^ i) 1 == 1) = true := by rw [hand, hbit]; rfl
                      rw [if_pos hbit] at hst
                      have Hst := Lib.hid hst; clear hst hand hbit hv
                      go_wp2_with (at_builtin; refine wpList_app rfl (.tmp 46) (.tmp 48) _ rfl T_ints rfl (hO.grow ((Grow.refl _).alloc _ _)) rfl (Row.built (S := fun _ => True) 1 (by unfold maxLen; omega) rfl trivial) (by simp [Value.oneCell']) (by omega) (by unfold maxLen; omega) ?_; intro a3 c3 w3 hA3)
                      have hG3 : Grow wm w3 := hA3.grow (hGq.alloc _ _) (fun g hg => hlo g hg)
                      have hl3 := hA3.lo (B := wm.heap.size) (by have := hGq.size; simp; omega) (fun g hg => hlo g hg)
                      have hO3 := hA3.own
                      have e3 : ints (sel (s.take i) k) ++ #[Value.int .i64 v].toList = ints (sel (s.take (i + 1)) k) := by rw [Hst.out]; simp [ints]
                      have e4 : (sel (s.take i) k).length + 1 = (sel (s.take (i + 1)) k).length := by rw [Hst.out]; simp
                      rw [e3, e4] at hO3
                      have E4 := Lib.hid e4
                      clear hA3 hO e3 e4
                      go_wp2
                      go_roundw
                      case rel =>
                        refine ⟨_, _, _, _, ?_, rfl, rfl, rfl, rfl⟩
                        exact ⟨hG3, i + 1, by omega, by go_num, c3, a3, by rw [E4.out], fun g hg => hl3 g hg, hO3⟩
                      case measure => simp [intOf]; omega
                    · have hb : (bits .and .i64 ((k : Int) / 2 ^ i) 1 == 1) = false := by
                        rw [hand, show k / 2 ^ i % 2 = 0 by omega]; rfl
                      rw [if_neg hbit, List.append_nil] at hst
                      have Hst := Lib.hid hst; clear hst hand hbit hv
                      go_wp2
                      go_roundw
                      case rel => exact ⟨hGq, i + 1, fc, fa, by omega, by go_num, by rw [Hst.out], hlo, by rw [Hst.out]; exact hO⟩
                      case measure => simp [intOf]; omega
                  · have his : i = s.length := by omega
                    have hsle := sel_len s k
                    have hrd : ∀ z ∈ sel s k, I64 z := fun z hz => rs0.rng z ((sel_sub s k).subset hz)
                    rw [his, List.take_length] at hO ⊢
                    obtain ⟨⟨vs, hOo, hI⟩, hloo⟩ := hS
                    have His := Lib.hid his; clear his
                    go_wp2_with (at_builtin; refine wpList_app rfl (.tmp 51) (.tmp 53) _ rfl T_intss rfl (hOo.grow (hGq.alloc _ _)) rfl (Row.built (S := fun _ => True) 1 (by unfold maxLen; omega) rfl trivial) (by simp [Value.oneCell']) (by omega) (by unfold maxLen; omega) ?_; intro a4 c4 w4 hA4)
                    have hS4 := SepII.app hI hloo (hGq.alloc _ _) (hO.grow ((Grow.refl _).alloc _ _)) hrd hG.size hlo hA4
                    have hG4 : Grow w w4 := hA4.grow (hG.trans (hGq.alloc _ _)) (fun g hg => (hloo g hg).1)
                    have hne4 : (blk a4).isSome = true := by
                      rcases hA4.new with e | ⟨g, e, _⟩
                      · rw [e]; exact hne
                      · rw [e]; rfl
                    rw [List.append_assoc, ← partsTo_succ hk1] at hS4
                    clear hA4 hOo hI hO
                    go_wp2
                    go_roundw
                    case rel => exact ⟨hG4, k + 1, m + 1, c4, a4, by omega, by omega, by go_num, rfl, hne4, hS4, by omega⟩
                    case measure => simp [intOf]; omega
            · go_wp2
              · have hkP : k = P := by omega
                rw [hkP, HP.out, ← partsAll_succ Hs.out] at hS
                go_roundw
                case rel =>
                  refine ⟨hG, j + 1, m, c1, a1, by omega, by go_num, rfl, hne, hS, fun x hx => ?_, by omega⟩
                  rw [take_succ Hs.out, List.mem_append, List.mem_singleton] at hx
                  rcases hx with hx | rfl
                  · exact Hsi.out x hx
                  · exact Hsm.out
                case measure => simp [intOf]; omega
      · have hjn : j = n := by omega
        subst hjn
        rw [take_all Hl.out] at hS
        have hsim : ∀ s ∈ l, isSimpB s = true := by have := Hsi.out; rwa [take_all Hl.out] at this
        have hsh : ∀ x ∈ partsAll l, x.length ≤ 4 := fun x hx => by
          obtain ⟨_, s, hs, hx⟩ := mem_partsAll.1 hx
          have h1 := hx.length_le
          have h2 := (simp_len (hsim s hs)).2
          omega
        have Hok := Lib.hid (show cplxOk l = isCplxB (ordOf (partsAll l)) by
          unfold cplxOk
          rw [decide_eq_true (by rw [Hl.out]; omega), List.all_eq_true.2 hsim]; rfl)
        clear Hsi hsim
        have hml := hS.len
        obtain ⟨p, rfl⟩ : ∃ p, a1 = some p := by
          cases a1 with
          | none => cases hne
          | some p => exact ⟨p, rfl⟩
        have hp : p = ⟨p.block, 0, none⟩ := by
          obtain ⟨⟨vs, hO, _⟩, _⟩ := hS
          exact (hO.block p rfl).1
        obtain ⟨pb, po, ps⟩ := p
        simp only [Addr.mk.injEq, true_and] at hp
        obtain ⟨rfl, rfl⟩ := hp
        go_wp2_with fail
        refine (sortFunc_c pb m c1 (partsAll l) _ hS (by omega) (fun x hx => by have := hsh x hx; omega)).mono ?_
        rintro e w2 ⟨rfl, D, hp, hsort, hS2, hK2⟩
        have hDl := hS2.len
        go_wp2_with fail
        refine (compactFunc_c pb m c1 D _ hS2 (by omega) (fun x hx => by have := hsh x (hp.mem_iff.1 hx); omega)).mono ?_
        rintro e w3 ⟨m3, rfl, hS3, hK3⟩
        have hD : compB D = ordOf (partsAll l) := by
          rw [compB_ord hsort]; exact ordOf_congr fun x => hp.mem_iff
        rw [hD] at hS3
        have hG3 : Grow w w3 := hG.keep (hK2.trans hK3) fun i hi hF => by have := hF.1; omega
        have hol := ordOf_len (partsAll l)
        have hot := total_small (c := 4) (l := ordOf (partsAll l)) fun x hx => hsh x (mem_ordOf.1 hx)
        have hm3 := hS3.len
        clear hD hDl hsort hp hS2 hS hK2 hK3
        generalize hB : isCplxB (ordOf (partsAll l)) = bb at *
        have HB := Lib.hid hB; clear hB
        go_wp2_with fail
        refine (implIsComplex_c _ _ _ _ _ (hS3.rdII (S := fun _ => True) fun _ _ => trivial) (by omega) (by omega)).mono ?_
        rintro e w4 ⟨rfl, hG4⟩
        rw [HB.out]
        have hGE := hG3.trans hG4
        cases bb with
        | false =>
          have he : cplxOut l = [] := by unfold cplxOut; rw [Hok.out]; rfl
          have Hcf := Hok
          go_wp2
          go_ret2
          exact ⟨_, _, _, by rw [Hcf.out]; rfl, by rw [he]; exact ⟨⟨[], Own.freshAt rfl (by unfold maxLen; omega) rfl, Inner.nilw⟩, fun g hg => by simp at hg; subst hg; exact ⟨hGE.size, by simp⟩⟩, hGE.alloc _ _⟩
        | true =>
          have he : cplxOut l = ordOf (partsAll l) := by unfold cplxOut; rw [Hok.out]; rfl
          go_wp2
          go_ret2
          exact ⟨_, _, _, by rw [Hok.out]; rfl, by rw [he]; exact (hS3.grow hG4).weak fun q hq hF => ⟨hF.1, by have := hG4.size; omega⟩, hGE⟩
  · have hcf : cplxOk l = false := by unfold cplxOk; rw [decide_eq_false (by rw [Hl.out]; exact h96)]; rfl
    have he : cplxOut l = [] := by unfold cplxOut; rw [hcf]; rfl
    have Hcf := Lib.hid hcf
    clear hcf
    have hGE := Grow.refl w
    go_enter Try.func14, Try.ntmps14
    go_wp2
    go_ret2
    exact ⟨_, _, _, by rw [Hcf.out]; rfl, by rw [he]; exact ⟨⟨[], Own.freshAt rfl (by unfold maxLen; omega) rfl, Inner.nilw⟩, fun g hg => by simp at hg; subst hg; exact ⟨hGE.size, by simp⟩⟩, hGE.alloc _ _⟩
end Go.Proofs.Yteianlmindckpaa
