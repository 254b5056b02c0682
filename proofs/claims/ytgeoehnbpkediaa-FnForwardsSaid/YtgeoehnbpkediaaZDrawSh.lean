/-
  l36Sheet: a sheet drawn out of the input's bytes.
-/
import Derived.Test.YtgeoehnbpkediaaZDrawF
import Derived.Test.YtgeoehnbpkediaaZMark
import Derived.Test.YtgeoehnbpkediaaZFind
import Derived.Test.YtgeoehnbpkediaaZStack
set_option maxHeartbeats 8000000
set_option maxRecDepth 100000
namespace Go.Proofs.Ytgeoehnbpkediaa
open Go.RowKit
theorem bdDs_set (d : Dfn) : ∀ (l : List Dfn) (i : Nat), bdDs (l.set i d) ≤ bdDs l + bdD d
 | [], _ => by simp
 | x :: l, 0 => by simp; omega
 | x :: l, i + 1 => by have := bdDs_set d l i; simp; omega
theorem bdDD_setL (l : List Dfn) (d : Dfn) : bdDD (setDefL l d) ≤ bdDD l + bdD d + 1 := by
 have h1 := setDefL_len l d
 have h2 : bdDs (setDefL l d) ≤ bdDs l + bdD d := by
  unfold setDefL
  split
  ·exact bdDs_set d l _
  ·rw [bdDs_append]; simp
 unfold bdDD
 omega
theorem dAll_twice {w wa w9 : World} {z n c c9 b off c1 : Nat} {a1 a9 : Option Addr} {l : List Dfn} {d : Dfn} {ss : List Value} (hO : Own w 30 7 (some ⟨b, off, none⟩) n c (dAll l ss)) (hI : Inner w (fun q => z ≤ q) (some b) ss (dvals l)) (hl : l.length = n) (hok : ∀ x ∈ l, DOk x) (hx : l[0]? = some d) (hz : z ≤ b) (hzs : z ≤ w.heap.size)
  (e6 : w.cell? ⟨b, off + 6, none⟩ = some (.slice a1 d.value.cells.length c1)) (hG : Grow w wa) (hA : Apped wa w9 30 7 (some ⟨b, off, none⟩) a9 (n + 1) c9 (dAll l ss ++ dcell d (.slice a1 d.value.cells.length c1))) : RdD w9 (fun q => z ≤ q) a9 (n + 1) c9 (l ++ [d]) := by
 have hss : ss.length = l.length := by have := hI.len; simpa using this
 have hza : z ≤ wa.heap.size := Nat.le_trans hzs hG.size
 obtain ⟨b', c', hs0, o0, r0, f0⟩ := hI.each 0 d.value.cells (dvals_at hx)
 have h6 : (dAll l ss)[6]? = some (.slice b' d.value.cells.length c') := by
  have := dAll_at (j := 6) hx hs0 (by omega)
  simpa [dcell] using this
 obtain ⟨b2, off2, ha, -, hc⟩ := (hO.row (S := fun _ => True) fun _ _ => trivial).addr (by intro e; rw [e] at h6; simp at h6)
 simp only [Option.some.injEq, Addr.mk.injEq] at ha
 obtain ⟨rfl, rfl, -⟩ := ha
 have e7 := hc 6 _ h6
 rw [e6] at e7
 have e8 := Option.some.inj e7
 simp only [Value.slice.injEq] at e8
 obtain ⟨rfl, -, rfl⟩ := e8
 have hl3 := hA.lo (B := z) hza (fun g hg => by simp at hg; omega)
 refine ⟨⟨ss ++ [.slice a1 d.value.cells.length c1], by simp [hss], ?_, ?_⟩, by simp [hl], fun x hx' => ?_⟩
 ·rw [dAll_append hss, dAll_one]
  exact hA.own.row fun g hg => hl3 g hg
 ·rw [dvals_append]
  intro i xs hi
  have hlen : ss.length = (dvals l).length := by rw [hss]; simp
  by_cases hlt : i < ss.length
  ·rw [List.getElem?_append_left (by omega)] at hi
   obtain ⟨b3, c3, h3, o3, r3, f3⟩ := hI.each i xs hi
   refine ⟨b3, c3, by rw [List.getElem?_append_left hlt]; exact h3, ?_⟩
   exact (((o3.grow hG).keep hA.keep fun q hq _ => by simp; exact fun e => (f3 q hq).2 (by rw [e])).rdI (S := fun q => z ≤ q) (fun q hq => (f3 q hq).1) r3)
  ·rw [List.getElem?_append_right (by omega)] at hi
   have hi0 : i - (dvals l).length = 0 := by
    have := (List.getElem?_eq_some_iff.1 hi).1
    simp at this; omega
   rw [hi0] at hi
   have hi1 : xs = d.value.cells := by simpa [dvals] using hi.symm
   subst hi1
   refine ⟨a1, c1, by rw [List.getElem?_append_right (by omega), hlen, hi0]; rfl, ?_⟩
   exact (((o0.grow hG).keep hA.keep fun q hq _ => by simp; exact fun e => (f0 q hq).2 (by rw [e])).rdI (S := fun q => z ≤ q) (fun q hq => (f0 q hq).1) r0)
 ·rcases List.mem_append.1 hx' with hx' | hx'
  ·exact hok x hx'
  ·rw [List.mem_singleton] at hx'; subst hx'; exact hok x (List.mem_of_getElem? hx)
theorem Keep.low {S T : Nat → Prop} {w w1 w2 : World} (h : Keep S w w1) (k : Keep T w1 w2) (hT : ∀ q, q < w.heap.size → S q → T q) : Keep S w w2 := by
 have h1 := (h.mono (T := fun q => S q ∧ q < w.heap.size) fun q _ hq => hq.1).trans (k.mono (T := fun q => S q ∧ q < w.heap.size) fun q _ hq => hT q hq.2 hq.1)
 exact h1.mono fun q hlt hq => ⟨hq, hlt⟩
theorem l36Sheet_c (g : Nat) (w : World) (h : Cur w g) :
  Calls Try.prog 9 #[.pointer (some ⟨g, 0, none⟩)] w fun e w' => ∃ a n c l, e = .returned (.slice a n c) ∧ RdD w' (fun q => w.heap.size ≤ q) a n c l ∧ bdDD l ≤ 1000 ∧ Cur w' g ∧ Keep (fun q => q ≠ g) w w' := by
 have hlt := h.lt
 go_enter Try.func9, Try.ntmps9
 go_wp2_with fail
 refine (l1Below_c g 6 _ (h.grow ((Grow.refl _).alloc _ _)) (by omega)).mono ?_
 rintro e w1 ⟨x, hx, rfl, hC1, hK1⟩
 have hx6 : x ≤ 5 := by omega
 clear hx
 have hE := SepD.nilAt (w := w) (F := fun q => w.heap.size ≤ q) (cs := #[]) rfl rfl (Nat.le_refl _)
 have hE1 := hE.keep hK1 (fun q _ hq => by omega)
 have hKw := (((Grow.refl w).alloc #[] 30).mono (T := fun q => q ≠ g) fun _ _ _ => trivial).trans hK1
 clear hE
 go_wp2_with fail
 go_loopw [3, 4] (fun v i wr => ∃ (k n c : Nat) (a : Option Addr) (l : List Dfn), i = .int .i64 k ∧ v = .slice a n c ∧ k ≤ 5 ∧ bdDD l + 11 * k ≤ 55 ∧ SepD wr (fun q => w.heap.size ≤ q) a n c l ∧ Cur wr g ∧ Keep (fun q => q ≠ g) w wr) (fun _ i _ => (intOf i).toNat)
 case atStart => exact ⟨x, 0, 0, _, [], rfl, rfl, hx6, by simp [bdDD]; omega, hE1, hC1, hKw⟩
 case round =>
  obtain ⟨k, n, c, a, l, rfl, rfl, hk5, hbd, hS, hC, hK⟩ := hrel
  have hlw := hK.size
  by_cases hk : 0 < k
  ·go_wp2_with fail
   refine (l36Def_c g _ hC).mono ?_
   rintro e w2 ⟨dv, d, rfl, hOD, hbdD, hC2, hK2⟩
   have hS2 := hS.keep hK2 (fun q _ hq => by omega)
   go_wp2_with fail
   refine (specSetDef_c (S := fun _ => True) (T := fun _ => True) a n c l dv d w2 (hS2.rdD fun _ _ => trivial) (hOD.rd fun _ _ => trivial) (by omega) (by omega)).mono ?_
   rintro e w3 ⟨r, rfl, ⟨a3, n3, c3, rfl, hO3⟩, hG3⟩
   have hK3 := (hK.trans hK2).trans (hG3.any.mono fun _ _ _ => trivial)
   have hC3 := hC2.grow hG3
   have hs3 := (hK.trans hK2).size
   cases hb : sheetB l && sheetB (setDefL l d) with
   | false =>
    rw [setDef_no hb] at hO3
    rw [setDef_no hb]
    have hS3 := hS2.grow hG3
    clear hO3 hb
    go_wp2_with fail
    go_roundw
    case rel => exact ⟨k - 1, n, c, a, l, by go_num, rfl, by omega, by omega, hS3, hC3, hK3⟩
    case measure => simp [intOf]; omega
   | true =>
    obtain ⟨b1, b2⟩ := (Bool.and_eq_true _ _ ▸ hb : sheetB l = true ∧ sheetB (setDefL l d) = true)
    rw [setDef_yes b1 b2] at hO3
    rw [setDef_yes b1 b2]
    have hS3 := hO3.weak (G := fun q => w.heap.size ≤ q) fun q _ hq => Nat.le_trans hs3 hq.1
    have hbl := bdDD_setL l d
    clear hO3 hb b1 b2
    generalize setDefL l d = l' at *
    go_wp2_with fail
    go_roundw
    case rel => exact ⟨k - 1, n3, c3, a3, l', by go_num, rfl, by omega, by omega, hS3, hC3, hK3⟩
    case measure => simp [intOf]; omega
  ·have hrd := hS.rdD (S := fun q => w.heap.size ≤ q) fun _ h => h
   by_cases hn0 : 0 < n
   ·go_wp2_with fail
    refine (l1Once_c g 20 _ hC (by omega)).mono ?_
    rintro e w4 ⟨b, rfl, hC4, hK4⟩
    have hK04 := hK.trans hK4
    have hrd4 := hrd.keep hK4 (fun q _ hq => by omega)
    cases b with
    | false =>
     go_wp2_with fail
     go_ret
     exact ⟨a, n, c, l, rfl, hrd4, by omega, hC4, hK04⟩
    | true =>
     have hS4 := hS.keep hK4 (fun q _ hq => by omega)
     obtain ⟨b, off, d, a1, c1, rfl, hx, _, hbw, ⟨e0, e1, e2, e3, e4, e5, e6⟩, r1, ho⟩ := hrd4.at hn0
     simp only [Nat.zero_mul, Nat.add_zero] at e0 e1 e2 e3 e4 e5 e6
     have hnl : n ≤ 55 := by have := hS4.len; unfold bdDD at hbd; omega
     obtain ⟨⟨ss, hO, hI⟩, hlS, hokS, hloS⟩ := hS4
     have hloS' := hloS b rfl
     clear hrd hrd4 hS hC hK4 hE1 hC1 hKw hK1
     go_wp2_with (at_builtin; refine wpList_app rfl (.tmp 30) (.tmp 34) _ rfl T_defs rfl (hO.grow ((Grow.refl _).alloc _ _)) rfl (Row.builtAt (S := fun _ => True) 1 rfl (by unfold maxLen; omega) rfl fun _ => trivial) (by simp [Value.oneCell']) (by omega) (by unfold maxLen; omega) ?_; intro a9 c9 w9 hA9)
     go_ret
     have hGa := (Grow.refl w4).alloc #[.string d.name, .int .i64 d.op, .string d.a, .string d.b, .int .i64 d.value.rows, .int .i64 d.value.cols, .slice a1 d.value.cells.length c1] 30
     have hbx := (bdDs_at hx).2
     exact ⟨a9, n + 1, c9, rfl, l ++ [d], dAll_twice hO hI hlS hokS hx hloS' hK04.size e6 hGa hA9, by unfold bdDD at *; rw [bdDs_append]; simp at *; omega, (hC4.grow hGa).keep hA9.keep (fun q hq e => by simp at e; omega), ((hK04.trans (hGa.any.mono fun _ _ _ => trivial)).low hA9.keep fun q hq _ e => by simp at e; omega)⟩
   ·obtain rfl : n = 0 := by omega
    go_wp2_with fail
    go_ret
    exact ⟨a, 0, c, l, rfl, hrd, by omega, hC, hK⟩
end Go.Proofs.Ytgeoehnbpkediaa

namespace Go.Proofs.Ytgeoehnbpkediaa
open Go.RowKit
theorem sameMB_refl (m : Mat) : sameMB m m = true := by
 have hI : ∀ l : List Int, sameI l l = true := by
  intro l
  induction l with
  | nil => rfl
  | cons a l ih => unfold sameI; simp [ih]
 unfold sameMB
 rw [hI]; simp
structure Back (w : World) (z : Nat) (a : Option Addr) (n cap : Nat) (l : List Dfn) : Prop where
 own : ∃ ss, ss.length = l.length ∧ Own w 30 7 a n cap (dAll l ss) ∧ RdCells w (fun q => q < z) ss (dvals l)
 len : l.length = n
 ok : ∀ d ∈ l, DOk d
 lo : ∀ g, blk a = some g → z ≤ g
theorem Back.grow {w w' : World} {z n cap : Nat} {a : Option Addr} {l : List Dfn} (h : Back w z a n cap l) (k : Grow w w') : Back w' z a n cap l := by
 obtain ⟨⟨ss, h0, h1, h2⟩, hl, ho, hlo⟩ := h
 exact ⟨⟨ss, h0, h1.grow k, h2.keep k fun _ _ _ => trivial⟩, hl, ho, hlo⟩
theorem Back.rd {w : World} {z n cap : Nat} {a : Option Addr} {l : List Dfn} (h : Back w z a n cap l) : RdD w (fun _ => True) a n cap l := by
 obtain ⟨⟨ss, h0, h1, h2⟩, hl, ho, hlo⟩ := h
 exact ⟨⟨ss, h0, h1.row fun _ _ => trivial, h2.weak fun _ _ _ => trivial⟩, hl, ho⟩
theorem Back.app {wa w9 : World} {z n c9 c1 : Nat} {a a1 a9 : Option Addr} {l : List Dfn} {d : Dfn} {ss : List Value} (hss : ss.length = l.length) (hl : l.length = n) (hok : ∀ x ∈ l, DOk x) (hlo : ∀ g, blk a = some g → z ≤ g) (hC : RdCells wa (fun q => q < z) ss (dvals l)) (hr : RdI wa (fun q => q < z) a1 d.value.cells.length c1 d.value.cells) (hd : DOk d) (hz : z ≤ wa.heap.size)
  (hA : Apped wa w9 30 7 a a9 (n + 1) c9 (dAll l ss ++ dcell d (.slice a1 d.value.cells.length c1))) : Back w9 z a9 (n + 1) c9 (l ++ [d]) := by
 have hkp : ∀ q, q < z → blk a ≠ some q := fun q hq e => by have := hlo q e; omega
 refine ⟨⟨ss ++ [.slice a1 d.value.cells.length c1], by simp [hss], ?_, ?_⟩, by simp [hl], fun x hx' => ?_, hA.lo hz hlo⟩
 ·rw [dAll_append hss, dAll_one]
  exact hA.own
 ·rw [dvals_append]
  intro i xs hi
  have hlen : ss.length = (dvals l).length := by rw [hss]; simp
  by_cases hlt : i < ss.length
  ·rw [List.getElem?_append_left (by omega)] at hi
   obtain ⟨b3, c3, h3, o3⟩ := hC i xs hi
   exact ⟨b3, c3, by rw [List.getElem?_append_left hlt]; exact h3, o3.keep hA.keep fun q _ hq => hkp q hq⟩
  ·rw [List.getElem?_append_right (by omega)] at hi
   have hi0 : i - (dvals l).length = 0 := by
    have := (List.getElem?_eq_some_iff.1 hi).1
    simp at this; omega
   rw [hi0] at hi
   have hi1 : xs = d.value.cells := by simpa [dvals] using hi.symm
   subst hi1
   exact ⟨a1, c1, by rw [List.getElem?_append_right (by omega), hlen, hi0]; rfl, hr.keep hA.keep fun q _ hq => hkp q hq⟩
 ·rcases List.mem_append.1 hx' with hx' | hx'
  ·exact hok x hx'
  ·rw [List.mem_singleton] at hx'; subst hx'; exact hd
theorem Back.new {w : World} {z g : Nat} {cs : Array Value} (hg : g = w.heap.size) (hc : cs = #[]) (hz : z ≤ g) : Back (w.alloc (.cells cs 30)) z (some ⟨g, 0, none⟩) 0 0 [] := by
 subst hc
 exact ⟨⟨[], rfl, Own.freshAt hg (by unfold maxLen; omega) rfl, fun i xs h => by simp [dvals] at h⟩, rfl, (fun _ h => by cases h), fun q hq => by simp at hq; omega⟩
theorem RdR.weak {S T : Nat → Prop} {w : World} {a : Option Addr} {n cap : Nat} {l : List Rs} (h : RdR w S a n cap l) (hST : ∀ b, b < w.heap.size → S b → T b) : RdR w T a n cap l := by
 obtain ⟨⟨ss, h0, h1, h2⟩, hl, ho⟩ := h
 exact ⟨⟨ss, h0, h1.weak hST, h2.weak hST⟩, hl, ho⟩
theorem eval_rev {l : List Dfn} (h : sheetB l = true) {i : Nat} (hi : i < l.length) : ∃ r, (evalL l)[i]? = some r ∧ (evalL l.reverse)[l.length - 1 - i]? = some r := by
 refine ⟨valL opF l i, ?_, ?_⟩
 ·unfold evalL
  rw [if_pos h]
  exact range_at _ hi
 ·unfold evalL
  rw [if_pos (sheet_rev h), ← val_rev (f := opF) (sheet_dist h) hi]
  exact range_at _ (by rw [List.length_reverse]; omega)
theorem eval_len {l : List Dfn} (h : sheetB l = true) : (evalL l).length = l.length := by
 unfold evalL; rw [if_pos h]; simp [rsL]
theorem bdDD_sheet {l : List Dfn} (h : bdDD l ≤ 1000) : l.length ≤ 1000 ∧ ∀ d ∈ l, d.value.cells.length ≤ 1000 := by
 have := bdDD_cells (l := l) 
 refine ⟨by unfold bdDD at h; omega, fun d hd => ?_⟩
 obtain ⟨k, hk, rfl⟩ := List.getElem_of_mem hd
 have h1 := (bdDs_at (List.getElem?_eq_getElem hk)).2
 unfold bdDD at h
 unfold bdD at h1
 omega
theorem DrawEvaluateSheet_c {S : Nat → Prop} (a : Option Addr) (n cap : Nat) (bs : List Int) (w : World) (h : RdB w S a n cap bs) (hn : n ≤ 1048576) :
  Calls Try.prog 5 #[.slice a n cap] w fun e w' => ∃ a n c l, e = .returned (.slice a n c) ∧ RdD w' (fun _ => True) a n c l ∧ bdDD l ≤ 1000 ∧ Grow w w' := by
 go_enter Try.func5, Try.ntmps5
 go_wp2_with fail
 refine (l1New_c _ _ _ bs _ h (by omega)).mono ?_
 rintro e w1 ⟨g, hg, rfl, hC1, hG1⟩
 go_wp2_with fail
 refine (l36Sheet_c g _ hC1).mono ?_
 rintro e w2 ⟨la, ln, lc, l, rfl, hR, hb, hC2, hK2⟩
 have hG2 := hG1.keep hK2 (fun q hq e => by omega)
 go_wp2_with fail
 go_ret
 exact ⟨la, ln, lc, l, rfl, hR.weak fun _ _ _ => trivial, hb, hG2⟩
end Go.Proofs.Ytgeoehnbpkediaa
