/-
  All vectors of a box in lexicographic order: the program's list and the reference's.
-/
import Derived.Test.YtoiblknchcoecaaZOrder
import Derived.Test.YtoiblknchcoecaaZIdx
set_option maxHeartbeats 8000000
set_option maxRecDepth 100000
namespace Go.Proofs.Ytoiblknchcoecaa
open Go.RowKit
def ext (d : Int) (v : List Int) : List (List Int) := (List.range d.toNat).map fun (k : Nat) => v ++ [(k : Int)]
def boxN (D : Nat → Int) : Nat → List (List Int)
 | 0 => [[]]
 | n + 1 => (boxN D n).flatMap (ext (D n))
theorem flat_len {α β : Type} {l : List α} {f : α → List β} {c : Nat} (h : ∀ x ∈ l, (f x).length = c) : (l.flatMap f).length = l.length * c := by
 induction l with
 | nil => simp
 | cons x r ih =>
  rw [List.flatMap_cons, List.length_append, ih fun y hy => h y (List.mem_cons_of_mem _ hy), h x (List.mem_cons_self ..), List.length_cons, Nat.add_mul, Nat.one_mul, Nat.add_comm]
theorem ext_len (d : Int) (v : List Int) : (ext d v).length = d.toNat := by unfold ext; simp
theorem boxN_len (D : Nat → Int) : ∀ n, (boxN D n).length = pdN D n
 | 0 => rfl
 | n + 1 => by
  simp only [boxN, pdN]
  rw [flat_len (c := (D n).toNat) (fun x _ => ext_len _ x), boxN_len D n]
theorem boxN_mem {D : Nat → Int} : ∀ {n : Nat} {v : List Int}, v ∈ boxN D n → v.length = n ∧ ∀ j, j < n → 0 ≤ v.getD j 0 ∧ v.getD j 0 < D j
 | 0, v, h => by
  simp only [boxN, List.mem_singleton] at h
  subst h
  exact ⟨rfl, fun j hj => by omega⟩
 | n + 1, v, h => by
  simp only [boxN, ext, List.mem_flatMap, List.mem_map, List.mem_range] at h
  obtain ⟨u, hu, k, hk, rfl⟩ := h
  obtain ⟨h1, h2⟩ := boxN_mem hu
  refine ⟨by simp [h1], fun j hj => ?_⟩
  by_cases e : j < n
  ·have e1 : (u ++ [(k : Int)]).getD j 0 = u.getD j 0 := by
    simp only [List.getD_eq_getElem?_getD]
    rw [List.getElem?_append_left (by omega)]
   rw [e1]; exact h2 j e
  ·obtain rfl : j = n := by omega
   have e1 : (u ++ [(k : Int)]).getD j 0 = (k : Int) := by
    simp only [List.getD_eq_getElem?_getD]
    rw [List.getElem?_append_right (by omega)]
    simp [h1]
   rw [e1]; omega
theorem pdN_pos {D : Nat → Int} : ∀ {n : Nat}, (∀ i, i < n → 0 < D i) → 0 < pdN D n
 | 0, _ => Nat.one_pos
 | n + 1, h => Nat.mul_pos (pdN_pos fun i hi => h i (by omega)) (by have := h n (by omega); omega)
theorem pdN_mono {D : Nat → Int} {n : Nat} (h : ∀ i, i < n → 0 < D i) : ∀ {i : Nat}, i ≤ n → pdN D i ≤ pdN D n := by
 induction n with
 | zero =>
  intro i hi
  obtain rfl : i = 0 := by omega
  exact Nat.le_refl _
 | succ n ih =>
  intro i hi
  by_cases e : i = n + 1
  ·subst e; exact Nat.le_refl _
  ·refine Nat.le_trans (ih (fun i hi => h i (by omega)) (by omega)) ?_
   have := h n (by omega)
   exact Nat.le_mul_of_pos_right _ (by omega)
theorem flat_at {l : List (List Int)} {d : Int} {j k : Nat} (hj : j < l.length) (hk : (k : Int) ≤ d) : ((l.take j).flatMap (ext d)).length + k ≤ l.length * d.toNat := by
 rw [flat_len (c := d.toNat) fun x _ => ext_len _ x, List.length_take, Nat.min_eq_left (by omega)]
 have : (j + 1) * d.toNat ≤ l.length * d.toNat := Nat.mul_le_mul_right _ hj
 rw [Nat.add_mul] at this
 omega
theorem flat_next {l : List (List Int)} {d : Int} {j : Nat} {v : List Int} (hv : l[j]? = some v) : (l.take (j + 1)).flatMap (ext d) = (l.take j).flatMap (ext d) ++ ext d v := by
 rw [take_succ hv, List.flatMap_append]; simp
theorem ext_next {v : List Int} {k : Nat} : (List.range (k + 1)).map (fun (k : Nat) => v ++ [(k : Int)]) = (List.range k).map (fun (k : Nat) => v ++ [(k : Int)]) ++ [v ++ [(k : Int)]] := by
 rw [List.range_succ, List.map_append]; rfl
theorem SepII.one {w w1 : World} {g h : Nat} (hg : g = w.heap.size) (hw : w1 = w.alloc (.cells #[] 3)) (hh : h = w.heap.size + 1) :
  SepII (w1.alloc (.cells #[.slice (some ⟨g, 0, none⟩) 0 0] 24)) (New w (w1.alloc (.cells #[.slice (some ⟨g, 0, none⟩) 0 0] 24))) (some ⟨h, 0, none⟩) 1 1 [[]] := by
 subst hg hw hh
 have hs : (w.alloc (.cells #[] 3)).heap.size = w.heap.size + 1 := by simp
 have h1 : Own (w.alloc (.cells #[] 3)) 3 1 (some ⟨w.heap.size, 0, none⟩) 0 0 (ints []) := Own.fresh (by unfold maxLen; omega) rfl
 have h2 : Own ((w.alloc (.cells #[] 3)).alloc (.cells #[.slice (some ⟨w.heap.size, 0, none⟩) 0 0] 24)) 24 1 (some ⟨w.heap.size + 1, 0, none⟩) 1 1 [.slice (some ⟨w.heap.size, 0, none⟩) 0 0] := Own.freshAt (by rw [hs]) (by unfold maxLen; omega) rfl
 refine ⟨⟨_, h2, ?_⟩, fun q hq => ?_⟩
 ·have h3 := Inner.snoc (w := (w.alloc (.cells #[] 3)).alloc (.cells #[.slice (some ⟨w.heap.size, 0, none⟩) 0 0] 24)) (F := New w ((w.alloc (.cells #[] 3)).alloc (.cells #[.slice (some ⟨w.heap.size, 0, none⟩) 0 0] 24))) (g := some (w.heap.size + 1)) Inner.nilw (b := some ⟨w.heap.size, 0, none⟩) (c := 0) (xs := []) (h1.grow ((Grow.refl _).alloc _ _)) (fun x hx => by cases hx)
   (fun q hq => by simp at hq; subst hq; exact ⟨⟨Nat.le_refl _, by simp; omega⟩, by simp⟩) (fun q _ v hv => by cases hv)
  exact h3
 ·simp at hq; subst hq; exact ⟨by omega, by simp⟩
abbrev hiL (D : Nat → Int) (n : Nat) : List Int := (List.range n).map fun i => D i - 1
theorem boxed_c {S T : Nat → Prop} (la ha : Option Addr) (n lc hc : Nat) (D : Nat → Int) (w : World) (hl : RdI w S la n lc (List.replicate n 0)) (hh : RdI w T ha n hc (hiL D n)) (hn : n ≤ 24) (hD : ∀ i, i < n → 0 < D i ∧ D i ≤ 400000000) (hP : pdN D n ≤ 500) :
  Calls Try.prog 17 #[.slice la n lc, .slice ha n hc] w fun e w' => ∃ a m c, e = .returned (.tuple #[.slice a m c, .bool true]) ∧ SepII w' (New w w') a m c (boxN D n) ∧ Grow w w' := by
 have hpos : ∀ i, i < n → 0 < D i := fun i hi => (hD i hi).1
 have hp : ∀ i, i ≤ n → pdN D i ≤ 500 := fun i hi => Nat.le_trans (pdN_mono hpos hi) hP
 have HP := Lib.hid hp
 have Hpos := Lib.hid hpos
 clear hP hp hpos
 go_enter Try.func17, Try.ntmps17
 go_wp2
 go_loopw [6, 16] (fun q i wr => Qt w wr ∧ ∃ k : Nat, k ≤ n ∧ i = .int .i64 k ∧ q = .int .i64 (pdN D k : Nat)) (fun _ i _ => n - (intOf i).toNat)
 case atStart => exact ⟨Qt.refl _, 0, Nat.zero_le _, rfl, rfl⟩
 case round =>
  obtain ⟨hQ, k, hk, rfl, rfl⟩ := hrel
  by_cases hlt : k < n
  ·obtain ⟨b1, o1, x, rfl, hx, hxr, _, hb1, hc1⟩ := (hl.grow hQ.grow).at hlt
   obtain ⟨b2, o2, y, rfl, hy, hyr, _, hb2, hc2⟩ := (hh.grow hQ.grow).at hlt
   obtain rfl : (0 : Int) = x := by rw [List.getElem?_replicate, if_pos hlt] at hx; exact Option.some.inj hx
   obtain rfl : D k - 1 = y := by rw [range_map_at hlt] at hy; exact Option.some.inj hy
   clear hx hy
   obtain ⟨hd1, hd2⟩ := hD k hlt
   have h1 := HP.out k hk
   have h2 := HP.out (k + 1) hlt
   have h3 : ((pdN D (k + 1) : Nat) : Int) = (pdN D k : Nat) * D k := by
    simp only [pdN]
    rw [Int.natCast_mul, Int.toNat_of_nonneg (by omega)]
   obtain ⟨d, hd⟩ : ∃ d, D k = d := ⟨_, rfl⟩
   obtain ⟨P, hPd⟩ : ∃ P : Nat, pdN D k = P := ⟨_, rfl⟩
   obtain ⟨P', hPd'⟩ : ∃ P : Nat, pdN D (k + 1) = P := ⟨_, rfl⟩
   rw [hd] at hd1 hd2 h3 hyr hc2
   rw [hPd] at h1 h3
   rw [hPd'] at h2 h3
   rw [hPd]
   have hw : wrap64 ((P : Int) * d) = P' := by rw [← h3]; unfold wrap64; omega
   have HPd' := Lib.hid hPd'
   clear h3 hPd hPd' hd HP Hpos
   go_wp2
   go_quiet (fail)
   go_wp2
   go_roundw
   case rel => exact ⟨hQ.drewN _, k + 1, by omega, by go_num, by rw [HPd'.out, hw]⟩
   case measure => simp [intOf]; omega
  ·obtain rfl : n = k := by omega
   go_wp2
   obtain ⟨wx, hwx⟩ : ∃ x, x = wr := ⟨_, rfl⟩
   go_loopw [8, 38] (fun o i wr => ∃ (k m c : Nat) (a : Option Addr), k ≤ n ∧ i = .int .i64 k ∧ o = .slice a m c ∧ Grow w wr ∧ SepII wr (New w wr) a m c (boxN D k)) (fun _ i _ => n - (intOf i).toNat)
   case atStart =>
    have hs := hQ.grow.size
    refine ⟨0, 1, 1, _, Nat.zero_le _, rfl, rfl, (hQ.grow.alloc _ _).alloc _ _, (SepII.one rfl rfl (by simp)).weak fun b _ h => ⟨by have := h.1; omega, h.2⟩⟩
   case round =>
    clear hwx hQ
    obtain ⟨k, m, c, a, hk, rfl, rfl, hG, hS⟩ := hrel
    by_cases hlt : k < n
    ·obtain ⟨wo, rfl⟩ : ∃ wo, wo = wr := ⟨_, rfl⟩
     have hml := hS.len
     have hmP : m = pdN D k := by rw [← hml, boxN_len]
     have hp1 := HP.out (k + 1) hlt
     have hp2 := HP.out k hk
     simp only [pdN] at hp1
     rw [← hmP] at hp1 hp2
     have Hml := Lib.hid hml
     have Hp1 := Lib.hid hp1
     obtain ⟨hd1, hd2⟩ := hD k hlt
     clear hml hmP hp1
     go_wp2
     go_loopw [10, 44] (fun o i wr => ∃ (j m1 c1 : Nat) (a1 : Option Addr), j ≤ m ∧ i = .int .i64 j ∧ o = .slice a1 m1 c1 ∧ Grow wo wr ∧ SepII wr (New wo wr) a1 m1 c1 (((boxN D k).take j).flatMap (ext (D k)))) (fun _ i _ => m - (intOf i).toNat)
     case atStart => exact ⟨0, 0, 0, _, Nat.zero_le _, rfl, rfl, (Grow.refl wo).alloc _ _, SepII.fresh0 wo⟩
     case round =>
      obtain ⟨j, m1, c1, a1, hj, rfl, rfl, hG1, hS1⟩ := hrel
      by_cases hlt2 : j < m
      ·obtain ⟨bv, ov, v, av, cv, rfl, hv, _, hbv0, hcv0, hrd⟩ := (hS.rdII (S := fun _ => True) fun _ _ => trivial).at hlt2
       have hcv := hG1.cell hcv0
       have hs1 := hG1.size
       have hbv : bv < wr.heap.size := by omega
       have hvl : v.length = k := (boxN_mem (List.mem_of_getElem? hv)).1
       obtain ⟨b1, o1, x, rfl, hx, hxr, _, hb1, hc1⟩ := (hl.grow (hG.trans hG1)).at hlt
       obtain rfl : (0 : Int) = x := by rw [List.getElem?_replicate, if_pos hlt] at hx; exact Option.some.inj hx
       have Hv := Lib.hid hv
       have Hvl := Lib.hid hvl
       clear hx hv hvl
       obtain ⟨wm, rfl⟩ : ∃ wm, wm = wr := ⟨_, rfl⟩
       go_wp2
       go_loopw [10, 13] (fun o i wr => ∃ (q m2 c2 : Nat) (a2 : Option Addr), (q : Int) ≤ D k ∧ i = .int .i64 q ∧ o = .slice a2 m2 c2 ∧ Grow wo wr ∧ SepII wr (New wo wr) a2 m2 c2 (((boxN D k).take j).flatMap (ext (D k)) ++ (List.range q).map fun (k : Nat) => v ++ [(k : Int)])) (fun _ i _ => (D k).toNat - (intOf i).toNat)
       case atStart => exact ⟨0, m1, c1, a1, by omega, rfl, rfl, hG1, by simpa using hS1⟩
       case round =>
        obtain ⟨q, m2, c2, a2, hq, rfl, rfl, hG2, hS2⟩ := hrel
        obtain ⟨b2, o2, y, rfl, hy, hyr, _, hb2, hc2⟩ := (hh.grow (hG.trans hG2)).at hlt
        obtain rfl : D k - 1 = y := by rw [range_map_at hlt] at hy; exact Option.some.inj hy
        clear hy
        by_cases hlt3 : (q : Int) < D k
        ·have hm2 : m2 ≤ 500 := by
          have h1 := hS2.len
          rw [List.length_append, List.length_map, List.length_range] at h1
          have h2 := flat_at (l := boxN D k) (d := D k) (j := j) (k := q) (by rw [Hml.out]; exact hlt2) (by omega)
          rw [Hml.out] at h2
          have := Hp1.out
          omega
         obtain ⟨⟨vs, hO, hI⟩, hlo⟩ := hS2
         have hE : Own (wr.alloc (.cells #[] 3)) 3 1 (some ⟨wr.heap.size, 0, none⟩) 0 0 [] := Own.fresh (by unfold maxLen; omega) rfl
         have hvr : RdI wr (fun _ => True) av v.length cv v := hrd.grow hG2
         have hvl24 : v.length ≤ 24 := by have := Hvl.out; omega
         go_wp2_with (first
          | (at_builtin; refine wpList_app rfl (.tmp 60) (.tmp 67) _ rfl T_intss rfl (hO.grow (G3.alloc _ _)) rfl (Row.built (S := fun _ => True) 1 (by unfold maxLen; omega) rfl trivial) (by simp [Value.oneCell']) (by omega) (by unfold maxLen; omega) ?_; intro a4 c4 w4 hA4)
          | (at_builtin; refine wpList_app rfl (.tmp 63) (.tmp 65) _ rfl T_ints rfl (hO2.grow ((Grow.refl _).alloc _ _)) rfl (Row.built (S := fun _ => True) 1 (by unfold maxLen; omega) rfl trivial) (by simp [Value.oneCell']) (by omega) (by unfold maxLen; omega) ?_; intro a3 c3 w3 hA3; have G3 : Grow wr w3 := hA3.grow (hGg2.alloc _ _) (fun g hg => hB2 g hg))
          | (at_builtin; refine wpList_app rfl (.tmp 61) (.tmp 62) _ rfl T_ints rfl hE rfl (hvr.row.grow ((Grow.refl _).alloc _ _)) (ints_one _) (by omega) (by unfold maxLen; omega) ?_; intro a2' c2' w2 hA2; have hGg2 : Grow wr w2 := hA2.grow ((Grow.refl wr).alloc _ _) (fun g hg => by simp at hg; omega); have hO2 : Own w2 3 1 a2' v.length c2' (ints v) := (by simpa using hA2.own); have hB2 : ∀ q, blk a2' = some q → wr.heap.size ≤ q := hA2.lo (by simp) (fun g hg => by simp at hg; omega)))
         have hB3 : ∀ g, blk a3 = some g → wr.heap.size ≤ g := hA3.lo (by have := hGg2.size; simp; omega) (fun g hg => hB2 g hg)
         have hO3 : Own w3 3 1 a3 (v ++ [(q : Int)]).length c3 (ints (v ++ [(q : Int)])) := by simpa using hA3.own
         have hA4' : Apped (w3.alloc (.cells #[.slice a3 (v.length + 1) c3] 24)) w4 24 1 a2 a4 (m2 + 1) c4 (vs ++ [.slice a3 (v ++ [(q : Int)]).length c3]) := by simpa using hA4
         have hR := SepII.app hI hlo (G3.alloc _ _) (hO3.grow ((Grow.refl _).alloc _ _)) (fun x hx => by
          rcases List.mem_append.1 hx with h | h
          ·exact hrd.rng x h
          ·obtain rfl := List.mem_singleton.1 h
           unfold I64; omega) hG2.size hB3 hA4'
         have hG4 : Grow wo w4 := hA4.grow (hG2.trans (G3.alloc _ _)) (fun g hg => (hlo g hg).1)
         clear hA2 hA3 hA4 hA4' hO2 hO3 hI hO hE
         go_wp2
         go_roundw
         case rel => exact ⟨q + 1, m2 + 1, c4, a4, by omega, by go_num, rfl, hG4, by rw [ext_next, ← List.append_assoc]; exact hR⟩
         case measure => simp [intOf]; omega
        ·go_wp2
         go_roundw
         case rel =>
          have e : q = (D k).toNat := by omega
          subst e
          exact ⟨j + 1, m2, c2, a2, by omega, by go_num, rfl, hG2, by rw [flat_next Hv.out]; exact hS2⟩
         case measure => simp [intOf]; omega
      ·go_wp2
       go_roundw
       case rel =>
        obtain rfl : j = m := by omega
        rw [take_all Hml.out] at hS1
        exact ⟨k + 1, m1, c1, a1, by omega, by go_num, rfl, hG.trans hG1, hS1.weak fun b _ h => ⟨by have := h.1; have := hG.size; omega, h.2⟩⟩
       case measure => simp [intOf]; omega
    ·go_wp2
     go_ret2
     obtain rfl : k = n := by omega
     exact ⟨_, _, _, rfl, hS, hG⟩
theorem l20Box_c {S T : Nat → Prop} (la ha : Option Addr) (n lc hc : Nat) (D : Nat → Int) (w : World) (hl : RdI w S la n lc (List.replicate n 0)) (hh : RdI w T ha n hc (hiL D n)) (hn : n ≤ 24) (hD : ∀ i, i < n → 0 < D i ∧ D i ≤ 400000000) (hP : pdN D n ≤ 500) :
  Calls Try.prog 21 #[.slice la n lc, .slice ha n hc] w fun e w' => ∃ a m c, e = .returned (.tuple #[.slice a m c, .bool true]) ∧ SepII w' (New w w') a m c (boxN D n) ∧ Grow w w' := by
 have hpos : ∀ i, i < n → 0 < D i := fun i hi => (hD i hi).1
 have hp : ∀ i, i ≤ n → pdN D i ≤ 500 := fun i hi => Nat.le_trans (pdN_mono hpos hi) hP
 have HP := Lib.hid hp
 have Hpos := Lib.hid hpos
 clear hP hp hpos
 go_enter Try.func21, Try.ntmps21
 go_wp2
 go_loopw [6, 7] (fun o i wr => ∃ (k m c : Nat) (a : Option Addr), k ≤ n ∧ i = .int .i64 k ∧ o = .slice a m c ∧ Grow w wr ∧ SepII wr (New w wr) a m c (boxN D k)) (fun _ i _ => n - (intOf i).toNat)
 case atStart =>
  exact ⟨0, 1, 1, _, Nat.zero_le _, rfl, rfl, ((Grow.refl w).alloc _ _).alloc _ _, SepII.one rfl rfl (by simp)⟩
 case round =>
  obtain ⟨k, m, c, a, hk, rfl, rfl, hG, hS⟩ := hrel
  by_cases hlt : k < n
  ·obtain ⟨wo, rfl⟩ : ∃ wo, wo = wr := ⟨_, rfl⟩
   have hml := hS.len
   have hmP : m = pdN D k := by rw [← hml, boxN_len]
   have hp1 := HP.out (k + 1) hlt
   have hp2 := HP.out k hk
   simp only [pdN] at hp1
   rw [← hmP] at hp1 hp2
   have Hml := Lib.hid hml
   have Hp1 := Lib.hid hp1
   obtain ⟨hd1, hd2⟩ := hD k hlt
   clear hml hmP hp1
   go_wp2
   go_loopw [8, 9] (fun o i wr => ∃ (j m1 c1 : Nat) (a1 : Option Addr), j ≤ m ∧ i = .int .i64 j ∧ o = .slice a1 m1 c1 ∧ Grow wo wr ∧ SepII wr (New wo wr) a1 m1 c1 (((boxN D k).take j).flatMap (ext (D k)))) (fun _ i _ => m - (intOf i).toNat)
   case atStart => exact ⟨0, 0, 0, _, Nat.zero_le _, rfl, rfl, (Grow.refl wo).alloc _ _, SepII.fresh0 wo⟩
   case round =>
    obtain ⟨j, m1, c1, a1, hj, rfl, rfl, hG1, hS1⟩ := hrel
    by_cases hlt2 : j < m
    ·obtain ⟨bv, ov, v, av, cv, rfl, hv, _, hbv0, hcv0, hrd⟩ := (hS.rdII (S := fun _ => True) fun _ _ => trivial).at hlt2
     have hcv := hG1.cell hcv0
     have hs1 := hG1.size
     have hbv : bv < wr.heap.size := by omega
     have hvl : v.length = k := (boxN_mem (List.mem_of_getElem? hv)).1
     obtain ⟨b1, o1, x, rfl, hx, hxr, _, hb1, hc1⟩ := (hl.grow (hG.trans hG1)).at hlt
     obtain rfl : (0 : Int) = x := by rw [List.getElem?_replicate, if_pos hlt] at hx; exact Option.some.inj hx
     have Hv := Lib.hid hv
     have Hvl := Lib.hid hvl
     clear hx hv hvl
     obtain ⟨bh, oh, y, rfl, hy, hyr, _, hbh, hch⟩ := (hh.grow (hG.trans hG1)).at hlt
     obtain rfl : D k - 1 = y := by rw [range_map_at hlt] at hy; exact Option.some.inj hy
     clear hy
     have hm1 : m1 ≤ 500 := by
      have h1 := hS1.len
      have h2 := flat_at (l := boxN D k) (d := D k) (j := j) (k := 0) (by rw [Hml.out]; exact hlt2) (by omega)
      rw [Hml.out] at h2
      have := Hp1.out
      omega
     have hdk : m1 + (D k).toNat ≤ 4000 := by
      have h1 : (D k).toNat ≤ m * (D k).toNat := Nat.le_mul_of_pos_left _ (by omega)
      have := Hp1.out
      omega
     obtain ⟨wm, rfl⟩ : ∃ wm, wm = wr := ⟨_, rfl⟩
     go_wp2
     go_quiet (fail)
     go_wp2
     go_loopw [8, 10] (fun o i wr => ∃ (q m2 c2 : Nat) (a2 : Option Addr), (q : Int) ≤ D k ∧ i = .int .i64 q ∧ o = .slice a2 m2 c2 ∧ Grow wo wr ∧ SepII wr (New wo wr) a2 m2 c2 (((boxN D k).take j).flatMap (ext (D k)) ++ (List.range q).map fun (k : Nat) => v ++ [(k : Int)])) (fun _ i _ => (D k).toNat - (intOf i).toNat)
     case atStart => exact ⟨0, m1, c1, a1, by omega, rfl, rfl, hG1.drewN _, by simpa using (hS1.keep ((Keep.refl (fun _ => True) _).drewN _) fun _ _ _ => trivial).weak (G := New wo (wm.drewN _)) fun _ _ h => h⟩
     case round =>
      obtain ⟨q, m2, c2, a2, hq, rfl, rfl, hG2, hS2⟩ := hrel
      obtain ⟨b2, o2, y, e2, hy, hyr, _, hb2, hc2⟩ := (hh.grow (hG.trans hG2)).at hlt
      obtain ⟨rfl, rfl⟩ : bh = b2 ∧ oh = o2 := by injection e2 with e2; injection e2 with e3 e4; exact ⟨e3, e4⟩
      obtain rfl : D k - 1 = y := by rw [range_map_at hlt] at hy; exact Option.some.inj hy
      clear hy e2
      by_cases hlt3 : (q : Int) < D k
      ·have hm2 : m2 ≤ 500 := by
        have h1 := hS2.len
        rw [List.length_append, List.length_map, List.length_range] at h1
        have h2 := flat_at (l := boxN D k) (d := D k) (j := j) (k := q) (by rw [Hml.out]; exact hlt2) (by omega)
        rw [Hml.out] at h2
        have := Hp1.out
        omega
       obtain ⟨⟨vs, hO, hI⟩, hlo⟩ := hS2
       have hE : Own (wr.alloc (.cells #[] 3)) 3 1 (some ⟨wr.heap.size, 0, none⟩) 0 0 [] := Own.fresh (by unfold maxLen; omega) rfl
       have hcv2 := hG2.cell hcv0
       have hs2 := hG2.size
       have hbv2 : bv < wr.heap.size := by omega
       have hvr : RdI wr (fun _ => True) av v.length cv v := hrd.grow hG2
       have hvl24 : v.length ≤ 24 := by have := Hvl.out; omega
       go_wp2_with (first
        | (at_builtin; refine wpList_app rfl (.tmp 53) (.tmp 63) _ rfl T_intss rfl (hO.grow (G3.alloc _ _)) rfl (Row.built (S := fun _ => True) 1 (by unfold maxLen; omega) rfl trivial) (by simp [Value.oneCell']) (by omega) (by unfold maxLen; omega) ?_; intro a4 c4 w4 hA4)
        | (at_builtin; refine wpList_app rfl (.tmp 59) (.tmp 61) _ rfl T_ints rfl (hO2.grow ((Grow.refl _).alloc _ _)) rfl (Row.built (S := fun _ => True) 1 (by unfold maxLen; omega) rfl trivial) (by simp [Value.oneCell']) (by omega) (by unfold maxLen; omega) ?_; intro a3 c3 w3 hA3; have G3 : Grow wr w3 := hA3.grow (hGg2.alloc _ _) (fun g hg => hB2 g hg))
        | (at_builtin; refine wpList_app rfl (.tmp 54) (.tmp 58) _ rfl T_ints rfl hE rfl (hvr.row.grow ((Grow.refl _).alloc _ _)) (ints_one _) (by omega) (by unfold maxLen; omega) ?_; intro a2' c2' w2 hA2; have hGg2 : Grow wr w2 := hA2.grow ((Grow.refl wr).alloc _ _) (fun g hg => by simp at hg; omega); have hO2 : Own w2 3 1 a2' v.length c2' (ints v) := (by simpa using hA2.own); have hB2 : ∀ q, blk a2' = some q → wr.heap.size ≤ q := hA2.lo (by simp) (fun g hg => by simp at hg; omega)))
       have hB3 : ∀ g, blk a3 = some g → wr.heap.size ≤ g := hA3.lo (by have := hGg2.size; simp; omega) (fun g hg => hB2 g hg)
       have hO3 : Own w3 3 1 a3 (v ++ [(q : Int)]).length c3 (ints (v ++ [(q : Int)])) := by simpa using hA3.own
       have hA4' : Apped (w3.alloc (.cells #[.slice a3 (v.length + 1) c3] 24)) w4 24 1 a2 a4 (m2 + 1) c4 (vs ++ [.slice a3 (v ++ [(q : Int)]).length c3]) := by simpa using hA4
       have hR := SepII.app hI hlo (G3.alloc _ _) (hO3.grow ((Grow.refl _).alloc _ _)) (fun x hx => by
        rcases List.mem_append.1 hx with h | h
        ·exact hrd.rng x h
        ·obtain rfl := List.mem_singleton.1 h
         unfold I64; omega) hG2.size hB3 hA4'
       have hG4 : Grow wo w4 := hA4.grow (hG2.trans (G3.alloc _ _)) (fun g hg => (hlo g hg).1)
       clear hA2 hA3 hA4 hA4' hO2 hO3 hI hO hE
       go_wp2
       go_roundw
       case rel => exact ⟨q + 1, m2 + 1, c4, a4, by omega, by go_num, rfl, hG4, by rw [ext_next, ← List.append_assoc]; exact hR⟩
       case measure => simp [intOf]; omega
      ·go_wp2
       go_roundw
       case rel =>
        have e : q = (D k).toNat := by omega
        subst e
        exact ⟨j + 1, m2, c2, a2, by omega, by go_num, rfl, hG2, by rw [flat_next Hv.out]; exact hS2⟩
       case measure => simp [intOf]; omega
    ·go_wp2
     go_roundw
     case rel =>
      obtain rfl : j = m := by omega
      rw [take_all Hml.out] at hS1
      exact ⟨k + 1, m1, c1, a1, by omega, by go_num, rfl, hG.trans hG1, hS1.weak fun b _ h => ⟨by have := h.1; have := hG.size; omega, h.2⟩⟩
     case measure => simp [intOf]; omega
  ·go_wp2
   go_ret2
   obtain rfl : k = n := by omega
   exact ⟨_, _, _, rfl, hS, hG⟩
end Go.Proofs.Ytoiblknchcoecaa
