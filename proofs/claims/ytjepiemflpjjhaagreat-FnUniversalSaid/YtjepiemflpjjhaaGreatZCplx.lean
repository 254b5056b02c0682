/-
  ComplexOf: plain part: all parts of simplices.
-/
import Derived.Test.YtjepiemflpjjhaaGreatZPut
set_option maxHeartbeats 8000000
set_option maxRecDepth 100000
namespace Go.Proofs.YtjepiemflpjjhaaGreat
open Go.RowKit
def sel : List Int → Nat → List Int
 | [], _ => []
 | v :: s, b => if b % 2 = 1 then v :: sel s (b / 2) else sel s (b / 2)
theorem sel_sub : ∀ (s : List Int) (b : Nat), (sel s b).Sublist s
 | [], _ => List.Sublist.slnil
 | v :: s, b => by
  simp only [sel]
  split
  ·exact (sel_sub s _).cons_cons _
  ·exact (sel_sub s _).cons _
theorem sel_ne : ∀ {s : List Int} {b : Nat}, 1 ≤ b → b < 2 ^ s.length → sel s b ≠ []
 | [], b, h1, h2 => by simp at h2; omega
 | v :: s, b, h1, h2 => by
  simp only [sel]
  split
  ·simp
  ·rw [List.length_cons, Nat.pow_succ] at h2
   exact sel_ne (by omega) (by omega)
theorem sel_all : ∀ {s x : List Int}, x.Sublist s → ∃ b, b < 2 ^ s.length ∧ sel s b = x
 | [], x, h => ⟨0, by simp, by rw [List.sublist_nil.1 h]; rfl⟩
 | v :: s, x, h => by
  cases h with
  | cons _ h =>
   obtain ⟨b, hb, rfl⟩ := sel_all h
   refine ⟨2 * b, by rw [List.length_cons, Nat.pow_succ]; omega, ?_⟩
   simp only [sel]
   rw [if_neg (by omega), show 2 * b / 2 = b from by omega]
  | cons_cons _ h =>
   obtain ⟨b, hb, rfl⟩ := sel_all h
   refine ⟨2 * b + 1, by rw [List.length_cons, Nat.pow_succ]; omega, ?_⟩
   simp only [sel]
   rw [if_pos (by omega), show (2 * b + 1) / 2 = b from by omega]
theorem sel_zero : ∀ s : List Int, sel s 0 = []
 | [] => rfl
 | v :: s => by simp only [sel]; rw [if_neg (by omega)]; exact sel_zero s
def partsTo (s : List Int) (k : Nat) : List (List Int) := (List.range k).flatMap fun b => if b = 0 then [] else [sel s b]
def partsAll (l : List (List Int)) : List (List Int) := l.flatMap fun s => partsTo s (2 ^ s.length)
def PartOf (l : List (List Int)) (x : List Int) : Prop := x ≠ [] ∧ ∃ s ∈ l, x.Sublist s
theorem mem_partsTo {s x : List Int} {k : Nat} : x ∈ partsTo s k ↔ ∃ b, 1 ≤ b ∧ b < k ∧ x = sel s b := by
 unfold partsTo
 rw [List.mem_flatMap]
 constructor
 ·rintro ⟨b, hb, hx⟩
  split at hx
  ·cases hx
  ·rw [List.mem_singleton] at hx
   exact ⟨b, by omega, by simpa using hb, hx⟩
 ·rintro ⟨b, h1, h2, rfl⟩
  exact ⟨b, by simpa using h2, by rw [if_neg (by omega)]; simp⟩
theorem mem_partsAll {l : List (List Int)} {x : List Int} : x ∈ partsAll l ↔ PartOf l x := by
 unfold partsAll PartOf
 rw [List.mem_flatMap]
 constructor
 ·rintro ⟨s, hs, hx⟩
  obtain ⟨b, h1, h2, rfl⟩ := mem_partsTo.1 hx
  exact ⟨sel_ne h1 h2, s, hs, sel_sub s b⟩
 ·rintro ⟨hne, s, hs, hx⟩
  obtain ⟨b, hb, rfl⟩ := sel_all hx
  refine ⟨s, hs, mem_partsTo.2 ⟨b, ?_, hb, rfl⟩⟩
  rcases Nat.eq_zero_or_pos b with h0 | h0
  ·subst h0; exact (hne (sel_zero s)).elim
  ·exact h0
theorem ordOf_congr {A B : List (List Int)} (h : ∀ x, x ∈ A ↔ x ∈ B) : ordOf A = ordOf B := ord_ext (ordOf_ord A) (ordOf_ord B) fun x => by rw [mem_ordOf, mem_ordOf, h]
theorem del_sublist (s : List Int) (k : Nat) : (del s k).Sublist s := by
 unfold del
 conv => rhs; rw [← List.take_append_drop k s]
 exact (List.Sublist.refl _).append (List.drop_sublist_drop_left s (Nat.le_succ k))
theorem sublist_del : ∀ {s x : List Int}, x.Sublist s → x ≠ s → ∃ k, k < s.length ∧ x.Sublist (del s k)
 | [], x, h, hne => (hne (List.sublist_nil.1 h)).elim
 | v :: s, x, h, hne => by
  cases h with
  | cons _ h => exact ⟨0, by simp, by simpa [del] using h⟩
  | cons_cons _ h =>
   rename_i x'
   obtain ⟨k, hk, hx⟩ := sublist_del h (fun e => hne (by rw [e]))
   refine ⟨k + 1, by simp; omega, ?_⟩
   have : del (v :: s) (k + 1) = v :: del s k := by simp [del]
   rw [this]; exact hx.cons_cons v
theorem closed_parts {l T : List (List Int)} (hl : ∀ s ∈ l, s ∈ T) (hc : ∀ y ∈ T, 1 < y.length → ∀ k, k < y.length → del y k ∈ T) : ∀ x, PartOf l x → x ∈ T := by
 have key : ∀ (n : Nat) (y x : List Int), y.length = n → y ∈ T → x.Sublist y → x ≠ [] → x ∈ T := by
  intro n
  induction n with
  | zero => intro y x hy _ hx hne; rw [List.eq_nil_of_length_eq_zero hy] at hx; exact (hne (List.sublist_nil.1 hx)).elim
  | succ n ih =>
   intro y x hy hyT hx hne
   by_cases e : x = y
   ·rw [e]; exact hyT
   ·obtain ⟨k, hk, hxk⟩ := sublist_del hx e
    have hd := del_len hk
    have hpos : 0 < x.length := List.length_pos_iff.2 hne
    have hle := hxk.length_le
    exact ih (del y k) x (by omega) (hc y hyT (by omega) k hk) hxk hne
 rintro x ⟨hne, s, hs, hx⟩
 exact key _ s x rfl (hl s hs) hx hne
def wtL : Nat → Nat
 | 0 => 1
 | 1 => 1
 | n + 2 => 1 + (n + 2) * wtL (n + 1)
theorem wtL_pos : ∀ n, 1 ≤ wtL n
 | 0 => Nat.le_refl _
 | 1 => Nat.le_refl _
 | n + 2 => by simp only [wtL]; omega
def pot (T : List (List Int)) : Nat := (T.map fun x => wtL x.length).sum
@[simp] theorem pot_nil : pot [] = 0 := rfl
@[simp] theorem pot_cons (x : List Int) (T : List (List Int)) : pot (x :: T) = wtL x.length + pot T := by simp [pot]
theorem pot_append (A B : List (List Int)) : pot (A ++ B) = pot A + pot B := by simp [pot]
theorem pot_len : ∀ T : List (List Int), T.length ≤ pot T
 | [] => Nat.le_refl _
 | x :: T => by have := pot_len T; have := wtL_pos x.length; simp; omega
theorem pot_le {T : List (List Int)} (h : ∀ x ∈ T, x.length ≤ 4) : pot T ≤ 41 * T.length := by
 induction T with
 | nil => simp
 | cons x T ih =>
  have := ih fun y hy => h y (by simp [hy])
  have hx := h x (by simp)
  have h41 : wtL x.length ≤ 41 := by
   have : x.length = 0 ∨ x.length = 1 ∨ x.length = 2 ∨ x.length = 3 ∨ x.length = 4 := by omega
   rcases this with e | e | e | e | e <;> rw [e] <;> decide
  simp; omega
def facesTo (y : List Int) (k : Nat) : List (List Int) := (List.range k).map (del y)
theorem facesTo_succ (y : List Int) (k : Nat) : facesTo y (k + 1) = facesTo y k ++ [del y k] := by unfold facesTo; rw [List.range_succ, List.map_append]; rfl
theorem facesTo_zero (y : List Int) : facesTo y 0 = [] := rfl
theorem mem_facesTo {y x : List Int} {k : Nat} : x ∈ facesTo y k ↔ ∃ j, j < k ∧ x = del y j := by
 unfold facesTo
 rw [List.mem_map]
 exact ⟨fun ⟨j, hj, e⟩ => ⟨j, by simpa using hj, e.symm⟩, fun ⟨j, hj, e⟩ => ⟨j, by simpa using hj, e.symm⟩⟩
theorem pot_faces {y : List Int} : ∀ {k : Nat}, k ≤ y.length → pot (facesTo y k) = k * wtL (y.length - 1)
 | 0, _ => by simp [facesTo]
 | k + 1, h => by
  rw [facesTo_succ, pot_append, pot_faces (by omega), pot_cons, pot_nil, del_len (by omega), Nat.add_mul]; omega
theorem wt_step {y : List Int} (h : 1 < y.length) : wtL y.length = 1 + pot (facesTo y y.length) := by
 rw [pot_faces (Nat.le_refl _)]
 obtain ⟨n, hn⟩ : ∃ n, y.length = n + 2 := ⟨y.length - 2, by omega⟩
 rw [hn]; rfl
structure Work (l T : List (List Int)) (i : Nat) : Prop where
 part : ∀ x ∈ T, PartOf l x
 has : ∀ s ∈ l, s ∈ T
 done : ∀ j y, j < i → T[j]? = some y → 1 < y.length → ∀ k, k < y.length → del y k ∈ T
 pot : i + pot (T.drop i) ≤ 41 * l.length
theorem Work.start {l : List (List Int)} (h : ∀ s ∈ l, 1 ≤ s.length ∧ s.length ≤ 4) : Work l l 0 :=
 ⟨fun x hx => ⟨fun e => by have := h x hx; rw [e] at this; simp at this, x, hx, List.Sublist.refl _⟩, fun _ h => h, fun j y hj => by omega, by
  rw [List.drop_zero, Nat.zero_add]; exact pot_le fun x hx => (h x hx).2⟩
theorem Work.step {l T : List (List Int)} {i : Nat} {y : List Int} (h : Work l T i) (hy : T[i]? = some y) : Work l (T ++ if 1 < y.length then facesTo y y.length else []) (i + 1) := by
 obtain ⟨hi, hyi⟩ := List.getElem?_eq_some_iff.1 hy
 have hdr : T.drop i = y :: T.drop (i + 1) := by rw [List.drop_eq_getElem_cons hi, hyi]
 have hp := h.pot
 rw [hdr, pot_cons] at hp
 obtain ⟨hyn, s, hs, hys⟩ := h.part y (List.mem_of_getElem? hy)
 refine ⟨fun x hx => ?_, fun s hs => List.mem_append_left _ (h.has s hs), fun j z hj hz hlen k hk => ?_, ?_⟩
 ·rcases List.mem_append.1 hx with hx | hx
  ·exact h.part x hx
  ·split at hx
   ·rename_i h1
    obtain ⟨j, hj, rfl⟩ := mem_facesTo.1 hx
    refine ⟨fun e => ?_, s, hs, (del_sublist y j).trans hys⟩
    have := del_len hj
    rw [e] at this; simp at this; omega
   ·cases hx
 ·rw [List.getElem?_append_left (by omega)] at hz
  by_cases e : j = i
  ·subst e
   obtain rfl := Option.some.inj (hz.symm.trans hy)
   rw [if_pos hlen]
   exact List.mem_append_right _ (mem_facesTo.2 ⟨k, hk, rfl⟩)
  ·exact List.mem_append_left _ (h.done j z (by omega) hz hlen k hk)
 ·rw [List.drop_append_of_le_length (by omega), pot_append]
  split
  ·rename_i h1
   have := wt_step h1
   omega
  ·have := wtL_pos y.length
   simp; omega
theorem Work.len {l T : List (List Int)} {i : Nat} (h : Work l T i) (_hi : i ≤ T.length) : T.length ≤ 41 * l.length := by
 have h1 := h.pot
 have h2 := pot_len (T.drop i)
 simp at h2; omega
theorem Work.short {l T : List (List Int)} {i : Nat} (h : Work l T i) (hl : ∀ s ∈ l, s.length ≤ 4) : ∀ x ∈ T, 1 ≤ x.length ∧ x.length ≤ 4 := fun x hx => by
 obtain ⟨hne, s, hs, hx⟩ := h.part x hx
 have := hx.length_le
 have := hl s hs
 exact ⟨List.length_pos_iff.2 hne, by omega⟩
theorem Work.fin {l T : List (List Int)} {i : Nat} (h : Work l T i) (hi : T.length ≤ i) : ordOf (T.take i) = ordOf (partsAll l) := by
 rw [List.take_of_length_le hi]
 refine ordOf_congr fun x => ?_
 rw [mem_partsAll]
 refine ⟨h.part x, closed_parts h.has (fun y hy hlen k hk => ?_) x⟩
 obtain ⟨j, hj, rfl⟩ := List.mem_iff_getElem.1 hy
 exact h.done j _ (by omega) (List.getElem?_eq_getElem hj) hlen k hk
open Classical in
noncomputable def cplxOk (l : List (List Int)) : Bool := decide (l.length ≤ 96) && (l.all isSimpB && isCplxB (ordOf (partsAll l)))
noncomputable def cplxOut (l : List (List Int)) : List (List Int) := if cplxOk l = true then ordOf (partsAll l) else []
end Go.Proofs.YtjepiemflpjjhaaGreat

namespace Go.Proofs.YtjepiemflpjjhaaGreat
open Go.RowKit
theorem RdCells.snoc {w : World} {S : Nat → Prop} {vs : List Value} {l : List (List Int)} {b : Option Addr} {c : Nat} {s : List Int} (h : RdCells w S vs l) (hl : vs.length = l.length) (hs : RdI w S b s.length c s) : RdCells w S (vs ++ [.slice b s.length c]) (l ++ [s]) := by
 have := h.put (k := l.length) hl (Nat.le_refl _) hs
 have h1 : vs.take l.length = vs := List.take_of_length_le (by omega)
 have h2 : vs.drop l.length = [] := List.drop_of_length_le (by omega)
 rw [h1, h2, List.take_length, List.drop_length, List.append_nil, List.append_nil] at this
 exact this
theorem RdCells.app {w2 w3 : World} {e : TypeId} {a a3 b : Option Addr} {n c3 c : Nat} {vs : List Value} {T : List (List Int)} {s : List Int} {cs : List Value} (h : RdCells w2 (fun q => blk a ≠ some q) vs T) (hl : vs.length = T.length) (hs : RdI w2 (fun q => blk a ≠ some q) b s.length c s)
  (hA : Apped w2 w3 e 1 a a3 n c3 cs) : RdCells w3 (fun q => blk a3 ≠ some q) (vs ++ [.slice b s.length c]) (T ++ [s]) := by
 have key : ∀ q, q < w2.heap.size → blk a ≠ some q → blk a3 ≠ some q := fun q hq hne e => by
  rcases hA.new with e2 | ⟨g, e2, hg⟩
  ·rw [e2] at e; exact hne e
  ·rw [e2] at e; have := Option.some.inj e; omega
 have h1 := (h.weak (T := fun q => q < w2.heap.size ∧ blk a ≠ some q) fun q hq hb => ⟨hq, hb⟩).keep hA.keep (fun q _ hb => hb.2)
 have h2 := (hs.weak (T := fun q => q < w2.heap.size ∧ blk a ≠ some q) fun q hq hb => ⟨hq, hb⟩).keep hA.keep (fun q _ hb => hb.2)
 exact (h1.weak fun q _ hb => key q hb.1 hb.2).snoc hl (h2.weak fun q _ hb => key q hb.1 hb.2)
theorem RdII.away2 {B : Nat} {w2 w3 : World} {e : TypeId} {a a3 : Option Addr} {n c3 : Nat} {cs : List Value} {b : Option Addr} {m c : Nat} {l : List (List Int)} (h : RdII w2 (fun q => blk a ≠ some q ∧ B ≤ q) b m c l) (hA : Apped w2 w3 e 1 a a3 n c3 cs) : RdII w3 (fun q => blk a3 ≠ some q ∧ B ≤ q) b m c l := by
 have key : ∀ q, q < w2.heap.size → blk a ≠ some q → blk a3 ≠ some q := fun q hq hne e => by
  rcases hA.new with e2 | ⟨g, e2, hg⟩
  ·rw [e2] at e; exact hne e
  ·rw [e2] at e; have := Option.some.inj e; omega
 exact ((h.weak (T := fun q => q < w2.heap.size ∧ blk a ≠ some q ∧ B ≤ q) fun q hq hb => ⟨hq, hb⟩).keep hA.keep (fun q _ hb => hb.2.1)).weak fun q _ hb => ⟨key q hb.1 hb.2.1, hb.2.2⟩
theorem specComplexOf_c {S : Nat → Prop} (a : Option Addr) (n cap : Nat) (l : List (List Int)) (w : World) (h : RdII w S a n cap l) (hn : n ≤ 1048576) (ht : total l ≤ 1048576) :
  Calls Tryz.prog 72 #[.slice a n cap] w fun e w' => ∃ a' m c', e = .returned (.tuple #[.slice a' m c', .bool (cplxOk l)]) ∧ RdII w' (fun b => w.heap.size ≤ b) a' m c' (cplxOut l) ∧ Grow w w' := by
 have Hl := Lib.hid h.len
 replace h := h.weak (T := fun b => b < w.heap.size) fun _ hb _ => hb
 obtain ⟨wz, hwz⟩ : ∃ wz, wz = (w.alloc (.cells #[] 27)).alloc (.cells #[] 27) := ⟨_, rfl⟩
 have hGz : Grow w wz := by rw [hwz]; exact ((Grow.refl _).alloc _ _).alloc _ _
 have hT0 : Own wz 27 1 (some ⟨w.heap.size + 1, 0, none⟩) 0 0 [] := by rw [hwz]; exact Own.freshAt (by simp) (by unfold maxLen; omega) rfl
 have Hwz := Lib.hid hwz; clear hwz
 by_cases h96 : n ≤ 96
 ·go_enter Tryz.func72, Tryz.ntmps72
  go_wp2
  rw [← Hwz.out]
  go_loopw [5, 6] (fun u i wr => Grow w wr ∧ ∃ (j c1 : Nat) (a1 : Option Addr) (vs : List Value), j ≤ n ∧ i = .int .i64 j ∧ u = .slice a1 j c1 ∧ (∀ g, blk a1 = some g → w.heap.size < g) ∧ Own wr 27 1 a1 j c1 vs ∧ RdCells wr (fun q => blk a1 ≠ some q) vs (l.take j) ∧ ∀ x ∈ l.take j, isSimpB x = true) (fun _ i _ => n - (intOf i).toNat)
  case atStart => exact ⟨hGz, 0, 0, _, [], Nat.zero_le _, rfl, rfl, fun g hg => by simp at hg; omega, hT0, RdCells.nilw, by simp⟩
  case round =>
   clear hT0 hGz
   obtain ⟨hG, j, c1, a1, vs, hj, rfl, rfl, hlo, hO, hC, hsi⟩ := hrel
   have Hsi := Lib.hid hsi; clear hsi
   by_cases hlt : j < n
   ·obtain ⟨b, off, s, sa, sc, rfl, hs, hSb, hbw, hc, rs⟩ := (h.grow hG).at hlt
    have hts := total_at hs
    have Hs := Lib.hid hs; clear hs
    cases hsimp : isSimpB s with
    | false =>
     have hcf : cplxOk l = false := by
      unfold cplxOk
      rw [List.all_eq_false.2 ⟨s, List.mem_of_getElem? Hs.out, by simp [hsimp]⟩]; simp
     have he : cplxOut l = [] := by unfold cplxOut; rw [hcf]; rfl
     have Hcf := Lib.hid hcf
     have Hsm := Lib.hid hsimp; clear hsimp hcf
     go_wp2_with fail
     refine (specIsSimplex_c _ _ _ s _ rs (by omega)).mono ?_
     rintro e w1 ⟨rfl, hQ⟩
     rw [Hsm.out]
     have hGE := hG.trans hQ.grow
     go_wp2
     go_ret2
     exact ⟨_, _, _, by rw [Hcf.out]; rfl, by rw [he]; exact ⟨⟨[], Row.emptyAt, fun i xs hi => by simp at hi⟩, rfl⟩, hGE.alloc _ _⟩
    | true =>
     have Hsm := Lib.hid hsimp; clear hsimp
     go_wp2_with fail
     refine (specIsSimplex_c _ _ _ s _ rs (by omega)).mono ?_
     rintro e w1 ⟨rfl, hQ⟩
     rw [Hsm.out]
     have hG1 := hQ.grow
     have hc1 := hG1.cell hc
     have hGz := (Grow.refl w1).alloc #[.slice sa s.length sc] 27
     have hsw := (hG.trans hG1).size
     go_wp2_with (at_builtin; refine wpList_app rfl (.tmp 29) (.tmp 34) _ rfl T_intss rfl ((hO.grow hG1).grow hGz) rfl (Row.built (S := fun _ => True) 1 (by unfold maxLen; omega) rfl trivial) (by simp [Value.oneCell']) (by omega) (by unfold maxLen; omega) ?_; intro a3 c3 w3 hA3)
     have hvl : vs.length = (l.take j).length := by have := hO.len; have := Hl.out; simp; omega
     have rs3 := (((rs.grow hG1).grow hGz).weak (T := fun q => blk a1 ≠ some q) fun q _ hq e => by have := hlo q e; omega)
     have hC3 := RdCells.app ((hC.grow hG1).grow hGz) hvl rs3 hA3
     rw [← take_succ Hs.out] at hC3
     have hG3 : Grow w w3 := hA3.grow ((hG.trans hG1).trans hGz) (fun g hg => by have := hlo g hg; omega)
     have hl3 := hA3.lo (B := w.heap.size + 1) (by have := hGz.size; have := hlo; simp at *; omega) (fun g hg => hlo g hg)
     have hO3 := hA3.own
     clear hA3 hO hC rs3
     go_wp2
     go_roundw
     case rel =>
      refine ⟨hG3, j + 1, c3, a3, _, by omega, by go_num, rfl, fun g hg => hl3 g hg, hO3, hC3, fun x hx => ?_⟩
      rw [take_succ Hs.out, List.mem_append, List.mem_singleton] at hx
      rcases hx with hx | rfl
      ·exact Hsi.out x hx
      ·exact Hsm.out
     case measure => simp [intOf]; omega
   ·have hjn : j = n := by omega
    subst hjn
    rw [take_all Hl.out] at hC
    have hsim : ∀ s ∈ l, isSimpB s = true := by have := Hsi.out; rwa [take_all Hl.out] at this
    have hln := Hl.out
    have hwk := Work.start fun s hs => simp_len (hsim s hs)
    have h4 : ∀ s ∈ l, s.length ≤ 4 := fun s hs => (simp_len (hsim s hs)).2
    have Hok := Lib.hid (show cplxOk l = isCplxB (ordOf (partsAll l)) by
     unfold cplxOk
     rw [decide_eq_true (by omega), List.all_eq_true.2 hsim]; rfl)
    clear Hsi hsim
    go_wp2
    go_loopw [4, 5, 7] (fun uo ut i wr => Grow w wr ∧ ∃ (q m ct co mo : Nat) (ta oa : Option Addr) (T : List (List Int)) (vs : List Value), q ≤ m ∧ T.length = m ∧ i = .int .i64 q ∧ ut = .slice ta m ct ∧ uo = .slice oa mo co ∧ (∀ g, blk ta = some g → w.heap.size < g) ∧ Own wr 27 1 ta m ct vs ∧ RdCells wr (fun b => blk ta ≠ some b) vs T ∧ Work l T q ∧ RdII wr (fun b => blk ta ≠ some b ∧ w.heap.size ≤ b) oa mo co (ordOf (T.take q))) (fun _ _ i _ => 4000 - (intOf i).toNat)
    case atStart =>
     exact ⟨hG, 0, j, c1, 0, 0, a1, _, l, vs, Nat.zero_le _, hln, rfl, rfl, rfl, hlo, hO, hC, hwk, ⟨⟨[], Row.emptyAt, fun i xs hi => by simp [ordOf] at hi⟩, rfl⟩⟩
    case round =>
     clear hG hlo hO hC hwk
     obtain ⟨hG, q, m, ct, co, mo, ta, oa, T, vs, hq, hTl, rfl, rfl, rfl, hlo, hO, hC, hwk, hD⟩ := hrel
     have hTb := hwk.len (by omega)
     have hsh := hwk.short h4
     by_cases hqm : q < m
     ·obtain ⟨y, hy⟩ : ∃ y, T[q]? = some y := ⟨_, List.getElem?_eq_getElem (by omega)⟩
      have hyl := hsh y (List.mem_of_getElem? hy)
      have hst := hwk.step hy
      have hol := ordOf_len (T.take q)
      have hot := total_small (c := 4) (l := ordOf (T.take q)) fun x hx => (hsh x (List.mem_of_mem_take (mem_ordOf.1 hx))).2
      have hDl := hD.len
      have hns := ordOf_snoc (T.take q) y
      rw [← take_succ hy] at hns
      simp only [List.length_take] at hol
      cases ta with
      | none => have := hO.nil rfl; have := hO.le; omega
      | some p =>
       have hp := (hO.block p rfl).1
       obtain ⟨pb, po, ps⟩ := p
       simp only [Addr.mk.injEq, true_and] at hp
       obtain ⟨rfl, rfl⟩ := hp
       have hplt := hO.lt (g := pb) rfl
       obtain ⟨ya, yc, hv, ry⟩ := hC q y hy
       have hce := hO.cell hv
       simp only at hce
       have Hy := Lib.hid hy; clear hy hv
       go_wp2_with fail
       refine (l32Put_c _ _ _ _ _ _ _ y _ hD ry (by omega) (by omega) (by omega) (by omega)).mono ?_
       rintro e w1 ⟨oa2, mo2, co2, rfl, hD2, hG1⟩
       have hD3 := hD2.weak (T := fun b => blk (some (⟨pb, 0, none⟩ : Addr)) ≠ some b ∧ w.heap.size ≤ b) fun b _ hb => by
        rcases hb with hb | hb
        ·exact hb
        ·exact ⟨fun e => by simp at e; omega, by have := hG.size; omega⟩
       rw [← hns] at hD3
       have hO1 := hO.grow hG1
       have hC1 := hC.grow hG1
       clear hD hD2 hO hC ry hce hns hol hot hDl
       go_wp2
       go_loopw [5, 8] (fun ut i wr => Grow w wr ∧ ∃ (k ct : Nat) (ta : Option Addr) (vs : List Value), k ≤ y.length ∧ (y.length = 1 → k = 0) ∧ i = .int .i64 k ∧ ut = .slice ta (m + k) ct ∧ (∀ g, blk ta = some g → w.heap.size < g) ∧ Own wr 27 1 ta (m + k) ct vs ∧ RdCells wr (fun b => blk ta ≠ some b) vs (T ++ facesTo y k) ∧ RdII wr (fun b => blk ta ≠ some b ∧ w.heap.size ≤ b) oa2 mo2 co2 (ordOf (T.take (q + 1)))) (fun _ i _ => y.length - (intOf i).toNat)
       case atStart => exact ⟨hG.trans hG1, 0, ct, _, vs, Nat.zero_le _, fun _ => rfl, rfl, rfl, hlo, hO1, by rw [facesTo_zero, List.append_nil]; exact hC1, hD3⟩
       case round =>
        clear hG hG1 hO1 hC1 hD3 hlo
        obtain ⟨hG, k, ct, ta, vs, hk, hk1, rfl, rfl, hlo, hO, hC, hD⟩ := hrel
        have hTk : (T ++ facesTo y k).length = m + k := by simp [facesTo, hTl]
        cases ta with
        | none => have := hO.nil rfl; have := hO.le; omega
        | some p =>
         have hp := (hO.block p rfl).1
         obtain ⟨pb, po, ps⟩ := p
         simp only [Addr.mk.injEq, true_and] at hp
         obtain ⟨rfl, rfl⟩ := hp
         have hplt := hO.lt (g := pb) rfl
         obtain ⟨ya, yc, hv, ry⟩ := hC q y (by rw [List.getElem?_append_left (by omega)]; exact Hy.out)
         have hce := hO.cell hv
         simp only at hce
         clear hv
         by_cases hgo : k < y.length ∧ 1 < y.length
         ·obtain ⟨hky, h1⟩ := hgo
          go_wp2_with fail
          refine (l32Face_c _ _ _ k y _ ry hky (by omega)).mono ?_
          rintro e w2 ⟨fa, fc, rfl, o2, f2, hG2⟩
          have hGz := (Grow.refl w2).alloc #[.slice fa (del y k).length fc] 27
          have hsw := (hG.trans hG2).size
          have hs2 := hG2.size
          go_wp2_with (at_builtin; refine wpList_app rfl (.tmp 65) (.tmp 72) _ rfl T_intss rfl ((hO.grow hG2).grow hGz) rfl (Row.built (S := fun _ => True) 1 (by unfold maxLen; omega) rfl trivial) (by simp [Value.oneCell']) (by omega) (by unfold maxLen; omega) ?_; intro a3 c3 w3 hA3)
          have hvl : vs.length = (T ++ facesTo y k).length := by have := hO.len; omega
          have r2 := (o2.grow hGz).rdI (S := fun b => blk (some (⟨pb, 0, none⟩ : Addr)) ≠ some b) (fun g hg e => by have := f2 g hg; simp at e; omega) (fun z hz => ry.rng z (del_sub hz))
          have hC3 := RdCells.app ((hC.grow hG2).grow hGz) hvl r2 hA3
          rw [List.append_assoc, ← facesTo_succ] at hC3
          have hD3 := RdII.away2 ((hD.grow hG2).grow hGz) hA3
          have hG3 : Grow w w3 := hA3.grow ((hG.trans hG2).trans hGz) (fun g hg => by have := hlo g hg; omega)
          have hl3 := hA3.lo (B := w.heap.size + 1) (by have := hGz.size; have := hlo pb rfl; omega) (fun g hg => hlo g hg)
          have hO3 := hA3.own
          clear hA3 hO hC r2 hD o2
          go_wp2
          go_roundw
          case rel => exact ⟨hG3, k + 1, c3, a3, _, by omega, fun h => by omega, by go_num, rfl, fun g hg => hl3 g hg, hO3, hC3, hD3⟩
          case measure => simp [intOf]; omega
         ·have hTn : T ++ facesTo y k = T ++ (if 1 < y.length then facesTo y y.length else []) := by
           by_cases h1 : 1 < y.length
           ·rw [if_pos h1, show k = y.length by omega]
           ·rw [if_neg h1, hk1 (by omega), facesTo_zero]
          rw [← hTn] at hst
          have htk : (T ++ facesTo y k).take (q + 1) = T.take (q + 1) := by rw [List.take_append_of_le_length (by omega)]
          rw [← htk] at hD
          clear hTn
          by_cases hky : k < y.length
          ·have h1 : ¬ 1 < y.length := fun h => hgo ⟨hky, h⟩
           go_wp2
           go_roundw
           case rel => exact ⟨hG, q + 1, m + k, ct, co2, mo2, _, _, _, vs, by omega, hTk, by go_num, rfl, rfl, hlo, hO, hC, hst, hD⟩
           case measure => simp [intOf]; omega
          ·go_wp2
           go_roundw
           case rel => exact ⟨hG, q + 1, m + k, ct, co2, mo2, _, _, _, vs, by omega, hTk, by go_num, rfl, rfl, hlo, hO, hC, hst, hD⟩
           case measure => simp [intOf]; omega
     ·have hfin := hwk.fin (by omega)
      rw [hfin] at hD
      have hol := ordOf_len (T.take q)
      have hot := total_small (c := 4) (l := ordOf (T.take q)) fun x hx => (hsh x (List.mem_of_mem_take (mem_ordOf.1 hx))).2
      rw [hfin] at hol hot
      simp only [List.length_take] at hol
      have hDl := hD.len
      cases hB : isCplxB (ordOf (partsAll l)) with
      | false =>
       have he : cplxOut l = [] := by unfold cplxOut; rw [Hok.out, hB]; rfl
       have Hcf := Lib.hid (Hok.out.trans hB)
       have HB := Lib.hid hB; clear hB
       go_wp2_with fail
       refine (specIsComplex_c _ _ _ _ _ hD (by omega) (by omega)).mono ?_
       rintro e w1 ⟨rfl, hG1⟩
       rw [HB.out]
       have hGE := hG.trans hG1
       go_wp2
       go_ret2
       exact ⟨_, _, _, by rw [Hcf.out]; rfl, by rw [he]; exact ⟨⟨[], Row.emptyAt, fun i xs hi => by simp at hi⟩, rfl⟩, hGE.alloc _ _⟩
      | true =>
       have he : cplxOut l = ordOf (partsAll l) := by unfold cplxOut; rw [Hok.out, hB]; rfl
       have Hcf := Lib.hid (Hok.out.trans hB)
       have HB := Lib.hid hB; clear hB
       go_wp2_with fail
       refine (specIsComplex_c _ _ _ _ _ hD (by omega) (by omega)).mono ?_
       rintro e w1 ⟨rfl, hG1⟩
       rw [HB.out]
       go_wp2
       go_ret2
       exact ⟨_, _, _, by rw [Hcf.out]; rfl, by rw [he]; exact (hD.grow hG1).weak fun _ _ hb => hb.2, hG.trans hG1⟩
 ·have hcf : cplxOk l = false := by unfold cplxOk; rw [decide_eq_false (by rw [Hl.out]; exact h96)]; rfl
  have he : cplxOut l = [] := by unfold cplxOut; rw [hcf]; rfl
  have Hcf := Lib.hid hcf
  clear hcf
  go_enter Tryz.func72, Tryz.ntmps72
  go_wp2
  rw [← Hwz.out]
  go_loopw [5, 6] (fun u i wr => wr = wz ∧ i = .int .i64 0 ∧ u = .slice (some ⟨w.heap.size + 1, 0, none⟩) 0 0) (fun _ _ _ => 0)
  case atStart => exact ⟨rfl, rfl, rfl⟩
  case round =>
   obtain ⟨rfl, rfl, rfl⟩ := hrel
   go_wp2
   go_loopw [4, 5, 7] (fun uo ut i w' => w' = wr ∧ i = .int .i64 0 ∧ ut = .slice (some ⟨w.heap.size + 1, 0, none⟩) 0 0 ∧ uo = .slice (some ⟨w.heap.size, 0, none⟩) 0 0) (fun _ _ _ _ => 0)
   case atStart => exact ⟨rfl, rfl, rfl, rfl⟩
   case round =>
    obtain ⟨rfl, rfl, rfl, rfl⟩ := hrel
    have hD : RdII wr (fun _ => True) (some ⟨w.heap.size, 0, none⟩) 0 0 [] := ⟨⟨[], Row.emptyAt, fun i xs hi => by simp at hi⟩, rfl⟩
    generalize hB : isCplxB [] = bb at *
    have HB := Lib.hid hB; clear hB
    go_wp2_with fail
    refine (specIsComplex_c _ _ _ _ _ hD (by omega) (by simp)).mono ?_
    rintro e w1 ⟨rfl, hG1⟩
    rw [HB.out]
    have hGE := hGz.trans hG1
    cases bb with
    | false =>
     go_wp2
     go_ret2
     exact ⟨_, _, _, by rw [Hcf.out]; rfl, by rw [he]; exact ⟨⟨[], Row.emptyAt, fun i xs hi => by simp at hi⟩, rfl⟩, hGE.alloc _ _⟩
    | true =>
     go_wp2
     go_ret2
     exact ⟨_, _, _, by rw [Hcf.out]; rfl, by rw [he]; exact ⟨⟨[], Row.emptyAt, fun i xs hi => by simp at hi⟩, rfl⟩, hGE.alloc _ _⟩
end Go.Proofs.YtjepiemflpjjhaaGreat
