/-
  CollapseOf: the program's and the reference's take away, again and again, the first simplex that is a face of just one, and that one.
-/
import Derived.Test.YtjepiemflpjjhaaZOrder
import Derived.Test.YtjepiemflpjjhaaZFreeFace
set_option maxHeartbeats 8000000
set_option maxRecDepth 100000
namespace Go.Proofs.Ytjepiemflpjjhaa
open Go.RowKit
def dropIJ {α : Type} (i j : Int) : Nat → List α → List α
 | _, [] => []
 | k, x :: r => if (k : Int) ≠ i ∧ (k : Int) ≠ j then x :: dropIJ i j (k + 1) r else dropIJ i j (k + 1) r
theorem dropIJ_append {α : Type} (i j : Int) : ∀ (k : Nat) (l r : List α), dropIJ i j k (l ++ r) = dropIJ i j k l ++ dropIJ i j (k + l.length) r
 | k, [], r => rfl
 | k, x :: l, r => by
  simp only [List.cons_append, dropIJ, List.length_cons]
  rw [dropIJ_append i j (k + 1) l r, show k + 1 + l.length = k + (l.length + 1) from by omega]
  split <;> rfl
theorem dropIJ_len {α : Type} (i j : Int) : ∀ (k : Nat) (l : List α), (dropIJ i j k l).length ≤ l.length
 | _, [] => Nat.le_refl _
 | k, x :: l => by
  have := dropIJ_len i j (k + 1) l
  simp only [dropIJ]; split <;> simp <;> omega
theorem dropIJ_lt {α : Type} (i j : Int) : ∀ (k : Nat) (l : List α), (k : Int) ≤ i → i < k + l.length → (dropIJ i j k l).length < l.length
 | k, [], h1, h2 => by simp at h2; omega
 | k, x :: l, h1, h2 => by
  simp only [dropIJ]
  simp at h2
  by_cases e : (k : Int) = i
  ·rw [if_neg (by omega)]
   have := dropIJ_len i j (k + 1) l; simp; omega
  ·have := dropIJ_lt i j (k + 1) l (by omega) (by omega)
   split <;> simp <;> omega
theorem dropIJ_take_succ {α : Type} {i j : Int} {l : List α} {k : Nat} {x : α} (h : l[k]? = some x) : dropIJ i j 0 (l.take (k + 1)) = dropIJ i j 0 (l.take k) ++ (if (k : Int) ≠ i ∧ (k : Int) ≠ j then [x] else []) := by
 have hk := (List.getElem?_eq_some_iff.1 h).1
 rw [take_succ h, dropIJ_append, Nat.zero_add, show (l.take k).length = k from by simp; omega]
 simp only [dropIJ]
theorem dropIJ_total (i j : Int) : ∀ (k : Nat) (l : List (List Int)), total (dropIJ i j k l) ≤ total l
 | _, [] => Nat.le_refl _
 | k, x :: l => by
  have := dropIJ_total i j (k + 1) l
  simp only [dropIJ]; split <;> simp <;> omega
theorem mem_dropIJ {α : Type} {i j : Int} {x : α} : ∀ {k : Nat} {l : List α}, x ∈ dropIJ i j k l → x ∈ l
 | _, [], h => by simp [dropIJ] at h
 | k, y :: l, h => by
  simp only [dropIJ] at h
  split at h
  ·rcases List.mem_cons.1 h with rfl | h
   ·exact List.mem_cons_self
   ·exact List.mem_cons_of_mem _ (mem_dropIJ h)
  ·exact List.mem_cons_of_mem _ (mem_dropIJ h)
theorem Inner.dropTo {w : World} {F : Nat → Prop} {g : Option Nat} {vs : List Value} {xss : List (List Int)} (h : Inner w F g vs xss) (i j : Int) : ∀ k, k ≤ xss.length → Inner w F g (dropIJ i j 0 (vs.take k)) (dropIJ i j 0 (xss.take k))
 | 0, _ => by simpa [dropIJ] using Inner.nilw
 | k + 1, hk => by
  have ih := Inner.dropTo h i j k (by omega)
  have hx : xss[k]? = some xss[k] := List.getElem?_eq_getElem (by omega)
  obtain ⟨b, c, hv, ho, hr, hb⟩ := h.each k _ hx
  rw [dropIJ_take_succ hx, dropIJ_take_succ hv]
  split
  ·refine ih.snoc ho hr hb fun q hq v hvm hvq => ?_
   have hvm' := mem_dropIJ hvm
   obtain ⟨p, hp, rfl⟩ := List.mem_iff_getElem.1 hvm'
   have hp' : p < k := by simp at hp; omega
   have hpl : p < vs.length := by simp at hp; omega
   have hkl := (List.getElem?_eq_some_iff.1 hv).1
   have := List.pairwise_iff_getElem.1 h.apart p k hpl hkl hp' q (by simpa using hvq)
   rw [(List.getElem?_eq_some_iff.1 hv).2, ownBlock_slice] at this
   exact this hq
  ·simpa using ih
theorem Inner.dropIJ {w : World} {F : Nat → Prop} {g : Option Nat} {vs : List Value} {xss : List (List Int)} (h : Inner w F g vs xss) (i j : Int) : Inner w F g (dropIJ i j 0 vs) (dropIJ i j 0 xss) := by
 have := h.dropTo i j xss.length (Nat.le_refl _)
 rwa [List.take_length, ← h.len, List.take_length] at this
def collN : Nat → List (List Int) → List (List Int)
 | 0, l => l
 | n + 1, l => if (freeB l).1 < 0 then l else collN n (dropIJ (freeB l).1 (freeB l).2 0 l)
def collB (l : List (List Int)) : List (List Int) := collN l.length l
theorem free_lt (l : List (List Int)) (h : ¬ (freeB l).1 < 0) : (dropIJ (freeB l).1 (freeB l).2 0 l).length < l.length := by
 have := freeFrom_rng l l.length 0
 unfold freeB at *
 exact dropIJ_lt _ _ 0 l (by omega) (by simpa using this.2.1)
theorem collN_more : ∀ (n : Nat) (l : List (List Int)), l.length ≤ n → collN n l = collN l.length l
 | n, l, h => by
  induction n using Nat.strongRecOn generalizing l with
  | _ n ih =>
   cases n with
   | zero =>
    have : l = [] := List.eq_nil_of_length_eq_zero (by omega)
    subst this; rfl
   | succ n =>
    by_cases hf : (freeB l).1 < 0
    ·cases hl : l.length with
     | zero => simp only [collN, if_pos hf]
     | succ m => simp only [collN, if_pos hf]
    ·have hlt := free_lt l hf
     cases hl : l.length with
     | zero => omega
     | succ m =>
      simp only [collN, if_neg hf]
      rw [ih n (by omega) _ (by omega)]
      rw [ih m (by omega) _ (by omega)]
theorem collB_stop {l : List (List Int)} (h : (freeB l).1 < 0) : collB l = l := by
 unfold collB
 cases hl : l.length with
 | zero => rfl
 | succ m => simp only [collN, if_pos h]
theorem collB_go {l : List (List Int)} (h : ¬ (freeB l).1 < 0) : collB l = collB (dropIJ (freeB l).1 (freeB l).2 0 l) := by
 have hlt := free_lt l h
 unfold collB
 cases hl : l.length with
 | zero => omega
 | succ m =>
  simp only [collN, if_neg h]
  exact collN_more m _ (by omega)
theorem collN_le : ∀ (n : Nat) (l : List (List Int)), (collN n l).length ≤ l.length ∧ total (collN n l) ≤ total l
 | 0, l => ⟨Nat.le_refl _, Nat.le_refl _⟩
 | n + 1, l => by
  have h1 := collN_le n (dropIJ (freeB l).1 (freeB l).2 0 l)
  have h2 := dropIJ_len (freeB l).1 (freeB l).2 0 l
  have h3 := dropIJ_total (freeB l).1 (freeB l).2 0 l
  simp only [collN]; split <;> omega
open Classical in
noncomputable def collapseB (l : List (List Int)) : List (List Int) := if isCplxB l = true then collB l else []
theorem collapseB_bd (l : List (List Int)) : bdII (collapseB l) ≤ bdII l := by
 unfold collapseB
 split
 ·have := collN_le l.length l; unfold bdII collB; omega
 ·simp [bdII]
theorem SepII.copied {w0 w w2 w3 : World} {a a2 a3 : Option Addr} {n c2 c3 : Nat} {vs : List Value} {xss : List (List Int)} {xs : List Int} (hI : Inner w (New w0 w) (blk a) vs xss) (hlo : ∀ g, blk a = some g → New w0 w g) (hO2 : Own w2 3 1 a2 xs.length c2 (ints xs)) (hr : ∀ x ∈ xs, I64 x)
  (hG : Grow w0 w) (hG2 : Grow w w2) (hB2 : ∀ q, blk a2 = some q → w.heap.size ≤ q) (ha : Apped (w2.alloc (.cells #[.slice a2 xs.length c2] 28)) w3 28 1 a a3 n c3 (vs ++ [.slice a2 xs.length c2])) :
  SepII w3 (New w0 w3) a3 n c3 (xss ++ [xs]) ∧ Grow w0 w3 :=
 ⟨SepII.app hI hlo (hG2.alloc _ _) (hO2.grow ((Grow.refl _).alloc _ _)) hr hG.size hB2 ha, ha.grow (hG.trans (hG2.alloc _ _)) (fun g hg => (hlo g hg).1)⟩
theorem SepII.picked {w0 wb w : World} {a b : Option Addr} {n c : Nat} {vs : List Value} {xss : List (List Int)} {i j : Int} (hI : Inner wb (New w0 wb) (blk a) vs xss) (hG : Grow wb w) (h0 : w0.heap.size ≤ wb.heap.size)
  (hO : Own w 28 1 b n c (dropIJ i j 0 vs)) (hB : ∀ q, blk b = some q → wb.heap.size ≤ q) : SepII w (New w0 w) b n c (dropIJ i j 0 xss) := by
 have hs := hG.size
 refine ⟨⟨_, hO, ((hI.dropIJ i j).move hG fun q hq hF hne => ⟨trivial, ⟨hF.1, by omega⟩, fun e => by have := hB q e; omega⟩)⟩, fun g hg => ⟨by have := hB g hg; omega, hO.lt hg⟩⟩
def lenV : Value → Nat
 | .slice _ n _ => n
 | _ => 0
theorem implCollapseOf_c {S : Nat → Prop} (a : Option Addr) (n cap : Nat) (l : List (List Int)) (w : World) (h : RdII w S a n cap l) (hn : n ≤ 1048576) (ht : total l ≤ 1048576) :
  Calls Try.prog 6 #[.slice a n cap] w fun e w' => ∃ a' m c', e = .returned (.tuple #[.slice a' m c', .bool (isCplxB l)]) ∧ SepII w' (New w w') a' m c' (collapseB l) ∧ Grow w w' := by
 have hl := h.len
 cases hB : isCplxB l with
 | false =>
  have he : collapseB l = [] := by unfold collapseB; rw [hB]; rfl
  rw [he]
  have HB := Lib.hid hB; clear hB he
  go_enter Try.func6, Try.ntmps6
  go_wp2_with fail
  refine (implIsComplex_c _ _ _ l _ h hn ht).mono ?_
  rintro e w1 ⟨rfl, hG⟩
  rw [HB.out]
  go_wp2
  go_ret2
  have hS := SepII.fresh0 w1
  exact ⟨_, _, _, rfl, hS.weak fun q _ hq => ⟨by have := hq.1; have := hG.size; omega, hq.2⟩, hG.alloc _ _⟩
 | true =>
  have he : collapseB l = collB l := by unfold collapseB; rw [hB]; rfl
  rw [he]
  have HB := Lib.hid hB; clear hB he
  go_enter Try.func6, Try.ntmps6
  go_wp2_with fail
  refine (implIsComplex_c _ _ _ l _ h hn ht).mono ?_
  rintro e w1 ⟨rfl, hG1⟩
  rw [HB.out]
  go_wp2
  go_loopw [4, 19] (fun v i wr => ∃ (j m c' : Nat) (a' : Option Addr), j ≤ n ∧ i = .int .i64 j ∧ v = .slice a' m c' ∧ Grow w wr ∧ SepII wr (New w wr) a' m c' (l.take j)) (fun _ i _ => n - (intOf i).toNat)
  case atStart => exact ⟨0, 0, 0, _, Nat.zero_le _, rfl, rfl, hG1.alloc _ _, (SepII.fresh0 w1).weak fun q _ hq => ⟨by have := hq.1; have := hG1.size; omega, hq.2⟩⟩
  case round =>
   obtain ⟨j, m, c1, a1, hj, rfl, rfl, hG, hS⟩ := hrel
   by_cases hlt : j < n
   ·obtain ⟨b, off, xs, a', c', rfl, hx, _, hbw, hc, hrd⟩ := (h.grow hG).at hlt
    have hxl : xs.length ≤ 1048576 := by have := total_at hx; omega
    have hml : m ≤ 1048576 := by have := hS.len; simp at this; omega
    obtain ⟨⟨vs, hO, hI⟩, hlo⟩ := hS
    have Hx := Lib.hid hx; clear hx
    have hE : Own (wr.alloc (.cells #[] 3)) 3 1 (some ⟨wr.heap.size, 0, none⟩) 0 0 [] := Own.fresh (by unfold maxLen; omega) rfl
    go_wp2_with (first
     | (at_builtin; refine wpList_app rfl (.tmp 23) (.tmp 27) _ rfl T_intss rfl (hO.grow ((hA2.grow ((Grow.refl wr).alloc _ _) (fun g hg => by simp at hg; omega)).alloc _ _)) rfl (Row.built (S := fun _ => True) 1 (by unfold maxLen; omega) rfl trivial) (by simp [Value.oneCell']) (by omega) (by unfold maxLen; omega) ?_; intro a3 c3 w3 hA3)
     | (at_builtin; refine wpList_app rfl (.tmp 24) (.tmp 25) _ rfl T_ints rfl hE rfl (hrd.row.grow ((Grow.refl _).alloc _ _)) (ints_one _) (by omega) (by unfold maxLen; omega) ?_; intro a2 c2 w2 hA2))
    have hG2 : Grow wr w2 := hA2.grow ((Grow.refl wr).alloc _ _) (fun g hg => by simp at hg; omega)
    have hO2 : Own w2 3 1 a2 xs.length c2 (ints xs) := by simpa using hA2.own
    have hB2 : ∀ q, blk a2 = some q → wr.heap.size ≤ q := hA2.lo (by simp) (fun g hg => by simp at hg; omega)
    obtain ⟨hR, hG3⟩ := SepII.copied hI hlo hO2 hrd.rng hG hG2 hB2 hA3
    clear hA2 hA3 hO2 hI hO hE
    go_wp2
    go_roundw
    case rel => exact ⟨j + 1, m + 1, c3, a3, by omega, by go_num, rfl, hG3, by rw [take_succ Hx.out]; exact hR⟩
    case measure => simp [intOf]; omega
   ·have : j = n := by omega
    subst this
    rw [take_all hl] at hS
    go_wp2
    go_loopw [4] (fun v wr => ∃ (m c' : Nat) (a' : Option Addr) (l' : List (List Int)), v = .slice a' m c' ∧ Grow w wr ∧ SepII wr (New w wr) a' m c' l' ∧ collB l' = collB l ∧ m ≤ 1048576 ∧ total l' ≤ 1048576) (fun v _ => lenV v)
    case atStart => exact ⟨_, _, _, l, rfl, hG, hS, rfl, by have := hS.len; omega, ht⟩
    case round =>
     clear hG hS
     obtain ⟨m, c1, a1, l', rfl, hG, hS, he, hml, htl⟩ := hrel
     have He := Lib.hid he; clear he
     go_wp2_with fail
     refine (freeFace_c _ _ _ l' _ (hS.rdII (S := fun _ => True) fun _ _ => trivial) hml htl).mono ?_
     rintro e wb ⟨rfl, hGb⟩
     have hS := hS.grow hGb
     have hGw := hG.trans hGb
     have hsb := hGb.size
     have hs0 := hG.size
     by_cases hf : (freeB l').1 < 0
     ·have hst := Lib.hid (collB_stop hf)
      go_wp2
      go_ret2
      refine ⟨_, _, _, rfl, ?_, hGw⟩
      rw [← He.out, hst.out]
      exact hS.weak fun q _ hq => ⟨hq.1, by have := hq.2; omega⟩
     ·have hgo := Lib.hid (collB_go hf)
      have hlt := free_lt l' hf
      generalize freeB l' = fb at *
      obtain ⟨fi, fj⟩ := fb
      simp only at hf hlt
      have hm' := hS.len
      obtain ⟨⟨vs, hO, hI⟩, hlo⟩ := hS
      have hI : Inner wb (New w wb) (blk a1) vs l' := hI.weak fun q _ hq hne => ⟨⟨hq.1, by have := hq.2; omega⟩, hne⟩
      have hvl := hI.len
      have Hm' := Lib.hid hm'; clear hm'
      have Hvl := Lib.hid hvl; clear hvl
      have Hlt := Lib.hid hlt; clear hlt
      go_wp2
      have hE : Own (wb.alloc (.cells #[] 28)) 28 1 (some ⟨wb.heap.size, 0, none⟩) 0 0 (dropIJ fi fj 0 (vs.take 0)) := Own.fresh (by unfold maxLen; omega) rfl
      go_loopw [9, 41] (fun v q wr => Grow wb wr ∧ ∃ (k n9 c9 : Nat) (b : Option Addr), k ≤ m ∧ q = .int .i64 k ∧ v = .slice b n9 c9 ∧ n9 ≤ k ∧ Own wr 28 1 b n9 c9 (dropIJ fi fj 0 (vs.take k)) ∧ ∀ q, blk b = some q → wb.heap.size ≤ q) (fun _ q _ => m - (intOf q).toNat)
      case atStart => exact ⟨(Grow.refl _).alloc _ _, 0, 0, 0, _, Nat.zero_le _, rfl, rfl, Nat.le_refl _, hE, fun q hq => by simp at hq; omega⟩
      case round =>
       clear hE
       obtain ⟨hGi, k, n9, c9, b9, hk, rfl, rfl, hn9, hO9, hB9⟩ := hrel
       by_cases hkm : k < m
       ·obtain ⟨xs, hx⟩ : ∃ xs, l'[k]? = some xs := ⟨_, List.getElem?_eq_getElem (by rw [Hm'.out]; exact hkm)⟩
        obtain ⟨b2, c2, hv, ho2, _, _⟩ := hI.each k _ hx
        have hdt := Lib.hid (dropIJ_take_succ (i := fi) (j := fj) hv)
        cases a1 with
        | none => have := hO.nil rfl; have := hO.le; omega
        | some p =>
         have hp := (hO.block p rfl).1
         have hcell := (hO.grow hGi).cell hv
         obtain ⟨pb, po, ps⟩ := p
         simp only [Addr.mk.injEq, true_and] at hp
         obtain ⟨rfl, rfl⟩ := hp
         simp only at hcell
         clear hx hv
         by_cases h1 : (k : Int) = fi
         ·have hb1 : ((k : Int) == fi) = true := by simpa using h1
          have hc1 : ((k : Int) != fi) = false := by simpa using h1
          have H1 := Lib.hid h1; clear h1
          go_wp2
          go_roundw
          case rel => exact ⟨hGi, k + 1, n9, c9, b9, by omega, by go_num, rfl, by omega, by rw [hdt.out, if_neg (fun h => h.1 H1.out), List.append_nil]; exact hO9, hB9⟩
          case measure => simp [intOf]; omega
         ·have hb1 : ((k : Int) == fi) = false := by simpa using h1
          have hc1 : ((k : Int) != fi) = true := by simpa using h1
          have H1 := Lib.hid h1; clear h1
          by_cases h2 : (k : Int) = fj
          ·have hb2 : ((k : Int) == fj) = true := by simpa using h2
           have hc2 : ((k : Int) != fj) = false := by simpa using h2
           have H2 := Lib.hid h2; clear h2
           go_wp2
           go_roundw
           case rel => exact ⟨hGi, k + 1, n9, c9, b9, by omega, by go_num, rfl, by omega, by rw [hdt.out, if_neg (fun h => h.2 H2.out), List.append_nil]; exact hO9, hB9⟩
           case measure => simp [intOf]; omega
          ·have hb2 : ((k : Int) == fj) = false := by simpa using h2
           have hc2 : ((k : Int) != fj) = true := by simpa using h2
           have H2 := Lib.hid h2; clear h2
           go_wp2_with (at_builtin; refine wpList_app rfl (.tmp 54) (.tmp 56) _ rfl T_intss rfl (hO9.grow ((Grow.refl _).alloc _ _)) rfl (Row.built (S := fun _ => True) 1 (by unfold maxLen; omega) rfl trivial) (by simp [Value.oneCell']) (by omega) (by unfold maxLen; omega) ?_; intro a3 c3 w3 hA3)
           have hG3 : Grow wb w3 := hA3.grow (hGi.alloc _ _) hB9
           have hB3 : ∀ q, blk a3 = some q → wb.heap.size ≤ q := hA3.lo (by have := hGi.size; simp; omega) hB9
           have hO3 := hA3.own
           clear hA3 hO9
           go_wp2
           go_roundw
           case rel => exact ⟨hG3, k + 1, n9 + 1, c3, a3, by omega, by go_num, rfl, by omega, by rw [hdt.out, if_pos ⟨H1.out, H2.out⟩]; exact hO3, hB3⟩
           case measure => simp [intOf]; omega
       ·have hkm' : k = m := by omega
        subst hkm'
        rw [take_all (by rw [Hvl.out, Hm'.out])] at hO9
        have hR := SepII.picked (i := fi) (j := fj) hI hGi (by omega) hO9 hB9
        have hRl := hR.len
        have hRt := dropIJ_total fi fj 0 l'
        have HRl := Lib.hid hRl; clear hRl
        clear hO9 hO hI hlo hB9
        go_wp2
        go_roundw
        case rel => exact ⟨_, _, _, _, rfl, hGw.trans hGi, hR, by rw [← hgo.out]; exact He.out, by omega, by omega⟩
        case measure => simp only [lenV]; have := Hlt.out; have := HRl.out; have := Hm'.out; omega
theorem specCollapseOf_c {S : Nat → Prop} (a : Option Addr) (n cap : Nat) (l : List (List Int)) (w : World) (h : RdII w S a n cap l) (hn : n ≤ 1048576) (ht : total l ≤ 1048576) :
  Calls Try.prog 7 #[.slice a n cap] w fun e w' => ∃ a' m c', e = .returned (.tuple #[.slice a' m c', .bool (isCplxB l)]) ∧ SepII w' (New w w') a' m c' (collapseB l) ∧ Grow w w' := by
 have hl := h.len
 cases hB : isCplxB l with
 | false =>
  have he : collapseB l = [] := by unfold collapseB; rw [hB]; rfl
  rw [he]
  have HB := Lib.hid hB; clear hB he
  go_enter Try.func7, Try.ntmps7
  go_wp2_with fail
  refine (specIsComplex_c _ _ _ l _ h hn ht).mono ?_
  rintro e w1 ⟨rfl, hG⟩
  rw [HB.out]
  go_wp2
  go_ret2
  have hS := SepII.fresh0 w1
  exact ⟨_, _, _, rfl, hS.weak fun q _ hq => ⟨by have := hq.1; have := hG.size; omega, hq.2⟩, hG.alloc _ _⟩
 | true =>
  have he : collapseB l = collB l := by unfold collapseB; rw [hB]; rfl
  rw [he]
  have HB := Lib.hid hB; clear hB he
  go_enter Try.func7, Try.ntmps7
  go_wp2_with fail
  refine (specIsComplex_c _ _ _ l _ h hn ht).mono ?_
  rintro e w1 ⟨rfl, hG1⟩
  rw [HB.out]
  go_wp2
  go_loopw [4, 5] (fun v i wr => ∃ (j m c' : Nat) (a' : Option Addr), j ≤ n ∧ i = .int .i64 j ∧ v = .slice a' m c' ∧ Grow w wr ∧ SepII wr (New w wr) a' m c' (l.take j)) (fun _ i _ => n - (intOf i).toNat)
  case atStart => exact ⟨0, 0, 0, _, Nat.zero_le _, rfl, rfl, hG1.alloc _ _, (SepII.fresh0 w1).weak fun q _ hq => ⟨by have := hq.1; have := hG1.size; omega, hq.2⟩⟩
  case round =>
   obtain ⟨j, m, c1, a1, hj, rfl, rfl, hG, hS⟩ := hrel
   by_cases hlt : j < n
   ·obtain ⟨b, off, xs, a', c', rfl, hx, _, hbw, hc, hrd⟩ := (h.grow hG).at hlt
    have hxl : xs.length ≤ 1048576 := by have := total_at hx; omega
    have hml : m ≤ 1048576 := by have := hS.len; simp at this; omega
    obtain ⟨⟨vs, hO, hI⟩, hlo⟩ := hS
    have Hx := Lib.hid hx; clear hx
    have hE : Own (wr.alloc (.cells #[] 3)) 3 1 (some ⟨wr.heap.size, 0, none⟩) 0 0 [] := Own.fresh (by unfold maxLen; omega) rfl
    go_wp2_with (first
     | (at_builtin; refine wpList_app rfl (.tmp 21) (.tmp 28) _ rfl T_intss rfl (hO.grow ((hA2.grow ((Grow.refl wr).alloc _ _) (fun g hg => by simp at hg; omega)).alloc _ _)) rfl (Row.built (S := fun _ => True) 1 (by unfold maxLen; omega) rfl trivial) (by simp [Value.oneCell']) (by omega) (by unfold maxLen; omega) ?_; intro a3 c3 w3 hA3)
     | (at_builtin; refine wpList_app rfl (.tmp 22) (.tmp 26) _ rfl T_ints rfl hE rfl (hrd.row.grow ((Grow.refl _).alloc _ _)) (ints_one _) (by omega) (by unfold maxLen; omega) ?_; intro a2 c2 w2 hA2))
    have hG2 : Grow wr w2 := hA2.grow ((Grow.refl wr).alloc _ _) (fun g hg => by simp at hg; omega)
    have hO2 : Own w2 3 1 a2 xs.length c2 (ints xs) := by simpa using hA2.own
    have hB2 : ∀ q, blk a2 = some q → wr.heap.size ≤ q := hA2.lo (by simp) (fun g hg => by simp at hg; omega)
    obtain ⟨hR, hG3⟩ := SepII.copied hI hlo hO2 hrd.rng hG hG2 hB2 hA3
    clear hA2 hA3 hO2 hI hO hE
    go_wp2
    go_roundw
    case rel => exact ⟨j + 1, m + 1, c3, a3, by omega, by go_num, rfl, hG3, by rw [take_succ Hx.out]; exact hR⟩
    case measure => simp [intOf]; omega
   ·have : j = n := by omega
    subst this
    rw [take_all hl] at hS
    have hSl := hS.len
    go_wp2_with fail
    refine (l35Free_c _ _ _ l _ (hS.rdII (S := fun _ => True) fun _ _ => trivial) (by omega) ht).mono ?_
    rintro e w2 ⟨rfl, hG2⟩
    have hS := hS.grow hG2
    have hGw2 := hG.trans hG2
    go_wp2
    go_loopw [4, 6, 7] (fun v iq jq wr => ∃ (m c' : Nat) (a' : Option Addr) (l' : List (List Int)), v = .slice a' m c' ∧ iq = .int .i64 (freeB l').1 ∧ jq = .int .i64 (freeB l').2 ∧ Grow w wr ∧ SepII wr (New w wr) a' m c' l' ∧ collB l' = collB l ∧ m ≤ 1048576 ∧ total l' ≤ 1048576) (fun v _ _ _ => lenV v)
    case atStart => exact ⟨_, _, _, l, rfl, rfl, rfl, hGw2, hS.weak fun q _ hq => ⟨hq.1, by have := hq.2; have := hG2.size; omega⟩, rfl, by omega, ht⟩
    case round =>
     clear hG hS hGw2
     obtain ⟨m, c1, a1, l', rfl, rfl, rfl, hG, hS, he, hml, htl⟩ := hrel
     have He := Lib.hid he; clear he
     have hGw := hG
     have hs0 := hG.size
     by_cases hf : (freeB l').1 < 0
     ·have hst := Lib.hid (collB_stop hf)
      go_wp2
      go_ret2
      refine ⟨_, _, _, rfl, ?_, hGw⟩
      rw [← He.out, hst.out]
      exact hS
     ·have hgo := Lib.hid (collB_go hf)
      have hlt := free_lt l' hf
      generalize freeB l' = fb at *
      obtain ⟨fi, fj⟩ := fb
      simp only at hf hlt
      have hm' := hS.len
      obtain ⟨⟨vs, hO, hI⟩, hlo⟩ := hS
      have hvl := hI.len
      have Hm' := Lib.hid hm'; clear hm'
      have Hvl := Lib.hid hvl; clear hvl
      have Hlt := Lib.hid hlt; clear hlt
      obtain ⟨wb, rfl⟩ : ∃ wb : World, wb = wr := ⟨_, rfl⟩
      go_wp2
      have hE : Own (wb.alloc (.cells #[] 28)) 28 1 (some ⟨wb.heap.size, 0, none⟩) 0 0 (dropIJ fi fj 0 (vs.take 0)) := Own.fresh (by unfold maxLen; omega) rfl
      go_loopw [8, 9] (fun v q wr => Grow wb wr ∧ ∃ (k n9 c9 : Nat) (b : Option Addr), k ≤ m ∧ q = .int .i64 k ∧ v = .slice b n9 c9 ∧ n9 ≤ k ∧ Own wr 28 1 b n9 c9 (dropIJ fi fj 0 (vs.take k)) ∧ ∀ q, blk b = some q → wb.heap.size ≤ q) (fun _ q _ => m - (intOf q).toNat)
      case atStart => exact ⟨(Grow.refl _).alloc _ _, 0, 0, 0, _, Nat.zero_le _, rfl, rfl, Nat.le_refl _, hE, fun q hq => by simp at hq; omega⟩
      case round =>
       clear hE
       obtain ⟨hGi, k, n9, c9, b9, hk, rfl, rfl, hn9, hO9, hB9⟩ := hrel
       by_cases hkm : k < m
       ·obtain ⟨xs, hx⟩ : ∃ xs, l'[k]? = some xs := ⟨_, List.getElem?_eq_getElem (by rw [Hm'.out]; exact hkm)⟩
        obtain ⟨b2, c2, hv, ho2, _, _⟩ := hI.each k _ hx
        have hdt := Lib.hid (dropIJ_take_succ (i := fi) (j := fj) hv)
        cases a1 with
        | none => have := hO.nil rfl; have := hO.le; omega
        | some p =>
         have hp := (hO.block p rfl).1
         have hcell := (hO.grow hGi).cell hv
         obtain ⟨pb, po, ps⟩ := p
         simp only [Addr.mk.injEq, true_and] at hp
         obtain ⟨rfl, rfl⟩ := hp
         simp only at hcell
         clear hx hv
         by_cases h1 : (k : Int) = fi
         ·have hb1 : ((k : Int) == fi) = true := by simpa using h1
          have hc1 : ((k : Int) != fi) = false := by simpa using h1
          have H1 := Lib.hid h1; clear h1
          go_wp2
          go_roundw
          case rel => exact ⟨hGi, k + 1, n9, c9, b9, by omega, by go_num, rfl, by omega, by rw [hdt.out, if_neg (fun h => h.1 H1.out), List.append_nil]; exact hO9, hB9⟩
          case measure => simp [intOf]; omega
         ·have hb1 : ((k : Int) == fi) = false := by simpa using h1
          have hc1 : ((k : Int) != fi) = true := by simpa using h1
          have H1 := Lib.hid h1; clear h1
          by_cases h2 : (k : Int) = fj
          ·have hb2 : ((k : Int) == fj) = true := by simpa using h2
           have hc2 : ((k : Int) != fj) = false := by simpa using h2
           have H2 := Lib.hid h2; clear h2
           go_wp2
           go_roundw
           case rel => exact ⟨hGi, k + 1, n9, c9, b9, by omega, by go_num, rfl, by omega, by rw [hdt.out, if_neg (fun h => h.2 H2.out), List.append_nil]; exact hO9, hB9⟩
           case measure => simp [intOf]; omega
          ·have hb2 : ((k : Int) == fj) = false := by simpa using h2
           have hc2 : ((k : Int) != fj) = true := by simpa using h2
           have H2 := Lib.hid h2; clear h2
           go_wp2_with (at_builtin; refine wpList_app rfl (.tmp 52) (.tmp 57) _ rfl T_intss rfl (hO9.grow ((Grow.refl _).alloc _ _)) rfl (Row.built (S := fun _ => True) 1 (by unfold maxLen; omega) rfl trivial) (by simp [Value.oneCell']) (by omega) (by unfold maxLen; omega) ?_; intro a3 c3 w3 hA3)
           have hG3 : Grow wb w3 := hA3.grow (hGi.alloc _ _) hB9
           have hB3 : ∀ q, blk a3 = some q → wb.heap.size ≤ q := hA3.lo (by have := hGi.size; simp; omega) hB9
           have hO3 := hA3.own
           clear hA3 hO9
           go_wp2
           go_roundw
           case rel => exact ⟨hG3, k + 1, n9 + 1, c3, a3, by omega, by go_num, rfl, by omega, by rw [hdt.out, if_pos ⟨H1.out, H2.out⟩]; exact hO3, hB3⟩
           case measure => simp [intOf]; omega
       ·have hkm' : k = m := by omega
        subst hkm'
        rw [take_all (by rw [Hvl.out, Hm'.out])] at hO9
        have hR := SepII.picked (i := fi) (j := fj) hI hGi (by omega) hO9 hB9
        have hRl := hR.len
        have hRt := dropIJ_total fi fj 0 l'
        have HRl := Lib.hid hRl; clear hRl
        clear hO9 hO hI hlo hB9
        go_wp2_with fail
        refine (l35Free_c _ _ _ (dropIJ fi fj 0 l') _ (hR.rdII (S := fun _ => True) fun _ _ => trivial) (by omega) (by omega)).mono ?_
        rintro e w4 ⟨rfl, hG4⟩
        have hR4 := (hR.grow hG4).weak (G := New w w4) fun q _ hq => ⟨hq.1, by have := hq.2; have := hG4.size; omega⟩
        go_wp2
        go_roundw
        case rel => exact ⟨_, _, _, _, rfl, rfl, rfl, (hGw.trans hGi).trans hG4, hR4, by rw [← hgo.out]; exact He.out, by omega, by omega⟩
        case measure => simp only [lenV]; have := Hlt.out; have := HRl.out; have := Hm'.out; omega
end Go.Proofs.Ytjepiemflpjjhaa
