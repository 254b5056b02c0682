/-
  What ImageIn, KernelIn, HomologyOf and CohomologyOf answer: plain.
-/
import Derived.Test.YtjepiemflpjjhaaGreatZQuo
import Derived.Test.YtjepiemflpjjhaaGreatZStack
import Derived.Test.YtjepiemflpjjhaaGreatZCycles
set_option maxHeartbeats 8000000
set_option maxRecDepth 100000
namespace Go.Proofs.YtjepiemflpjjhaaGreat
open Go.RowKit
noncomputable def mqOk (i : Bool) (a b : Mat) : Bool := i && quOk a b
noncomputable def mqN (i : Bool) (a b : Mat) : Int := if i = true then quN a b else 0
noncomputable def mqB (i : Bool) (a b : Mat) : List Int := if i = true then quB a b else []
theorem mq_no {i : Bool} {a b : Mat} (h : i = false) : mqOk i a b = false ∧ mqN i a b = 0 ∧ mqB i a b = [] := by
 subst h; exact ⟨rfl, rfl, rfl⟩
theorem mq_yes {i : Bool} {a b : Mat} (h : i = true) : mqOk i a b = quOk a b ∧ mqN i a b = quN a b ∧ mqB i a b = quB a b := by
 subst h; exact ⟨rfl, rfl, rfl⟩
theorem mqB_bd (i : Bool) (a b : Mat) : bdI (mqB i a b) ≤ 1024 := by
 cases i with
 | false => simp [mqB, bdI]
 | true =>
  rw [(mq_yes rfl).2.2]
  cases h : quOk a b with
  | false => rw [(qu_no h).2.2]; simp [bdI]
  | true =>
   rw [(qu_yes h).2.2]
   unfold quOk at h
   rw [Bool.and_eq_true] at h
   have h1 : (gt1 (facB (cmB a b))).length ≤ (facB (cmB a b)).length := List.length_filter_le _ _
   have := (fac_ok h.2).2.2
   unfold bdI; omega
theorem OI.upM {w : World} {S T : Nat → Prop} {v : Value} {xs : List Int} (h : OI w S v xs) (hST : ∀ g, S g → T g) : OI w T v xs := by
 obtain ⟨a, n, c, h1, h2, h3, h4⟩ := h
 exact ⟨a, n, c, h1, h2, h3, fun g hg => hST g (h4 g hg)⟩
theorem OI.nilM {w : World} {F : Nat → Prop} {g : Nat} (hg : g = w.heap.size) (hF : F g) : OI (w.alloc (.cells #[] 3)) F (.slice (some ⟨g, 0, none⟩) 0 0) [] :=
 ⟨_, _, _, rfl, Own.freshAt (cs := #[]) hg (by unfold maxLen; omega) rfl, (fun x hx => by cases hx), fun q hq => by simp at hq; subst hq; exact hF⟩
end Go.Proofs.YtjepiemflpjjhaaGreat

namespace Go.Proofs.YtjepiemflpjjhaaGreat
open Go.RowKit
noncomputable def homIs (l : List (List Int)) (k : Int) : Bool := cycOk l k && bndOk l k
theorem cycB_bdM (l : List (List Int)) (k : Int) : bdM (cycB l k) ≤ 1024 := by
 unfold cycB
 split
 ·exact kerB_bd _
 ·simp [bdM]
theorem bndB_bdM (l : List (List Int)) (k : Int) : bdM (bndB l k) ≤ 1024 := by
 unfold bndB
 split
 ·exact basB_bd _
 ·simp [bdM]
theorem implHomologyOf_v {S : Nat → Prop} {v : Value} {l : List (List Int)} {k : Int} {w : World} (h : VII w S v l) (hb : bdII l ≤ 1048576) (hk : I64 k) :
  Calls Tryz.prog 7 #[v, .int .i64 k] w fun e w' => ∃ x, e = .returned (.tuple #[x, .int .i64 (mqN (homIs l k) (cycB l k) (bndB l k)), .bool (mqOk (homIs l k) (cycB l k) (bndB l k))]) ∧ OI w' (New w w') x (mqB (homIs l k) (cycB l k) (bndB l k)) ∧ Grow w w' := by
 have hbX := cycB_bdM l k
 have hbY := bndB_bdM l k
 have hdf : homIs l k = (cycOk l k && bndOk l k) := rfl
 have hno := mq_no (i := homIs l k) (a := cycB l k) (b := bndB l k)
 have hyes := mq_yes (i := homIs l k) (a := cycB l k) (b := bndB l k)
 generalize mqOk (homIs l k) (cycB l k) (bndB l k) = mo at *
 generalize mqN (homIs l k) (cycB l k) (bndB l k) = mn at *
 generalize mqB (homIs l k) (cycB l k) (bndB l k) = mb at *
 go_enter Tryz.func7, Tryz.ntmps7
 go_wp2_with fail
 refine (implCyclesOf_v h hb hk).mono ?_
 rintro e w8 ⟨xv, rfl, hX, hG8⟩
 generalize cycB l k = XM at *
 obtain ⟨xa, xn, xc, rfl, oX, rX, fX, ix1, ix2⟩ := hX
 have hGa := (Grow.refl w8).alloc #[.int .i64 XM.rows, .int .i64 XM.cols, .slice xa xn xc] 40
 have bX := Blk.new w8 #[.int .i64 XM.rows, .int .i64 XM.cols, .slice xa xn xc] 40
 have vX : VM _ (fun _ => True) _ XM := ⟨xa, xn, xc, rfl, (oX.rdI (fun _ _ => trivial) rX).grow hGa, ix1, ix2⟩
 have hG58 := hG8.trans hGa
 clear oX
 obtain ⟨b3, h3⟩ : ∃ b3, b3 = cycOk l k := ⟨_, rfl⟩
 rw [← h3] at hdf ⊢
 clear h3
 go_wp2_with fail
 refine (implBoundsOf_v (h.grow hG58) hb hk).mono ?_
 rintro e w9 ⟨yv, rfl, hY, hG9⟩
 generalize bndB l k = YM at *
 obtain ⟨ya, yn, yc, rfl, oY, rY, fY, iy1, iy2⟩ := hY
 have hGb := (Grow.refl w9).alloc #[.int .i64 YM.rows, .int .i64 YM.cols, .slice ya yn yc] 40
 have bY := Blk.new w9 #[.int .i64 YM.rows, .int .i64 YM.cols, .slice ya yn yc] 40
 have bX9 := (bX.grow hG9).grow hGb
 have hltX := (bX.grow hG9).lt
 have vX9 := (vX.grow hG9).grow hGb
 have vY : VM _ (fun _ => True) _ YM := ⟨ya, yn, yc, rfl, (oY.rdI (fun _ _ => trivial) rY).grow hGb, iy1, iy2⟩
 have hG59 := (hG58.trans hG9).trans hGb
 clear oY
 obtain ⟨b4, h4⟩ : ∃ b4, b4 = bndOk l k := ⟨_, rfl⟩
 rw [← h4] at hdf ⊢
 clear h4
 cases b3 with
 | false =>
  have Hz := Lib.hid (hno (by rw [hdf]; rfl))
  have hGz := hG59
  clear hdf hno hyes
  have hsq := hGz.size
  go_wp2
  go_ret3
  exact ⟨_, by rw [Hz.out.1, Hz.out.2.1]; rfl, by rw [Hz.out.2.2]; exact OI.nilM (by simp) ⟨by (try simp at hsq); omega, by simp⟩, hGz.alloc _ _⟩
 | true =>
  cases b4 with
  | false =>
   have Hz := Lib.hid (hno (by rw [hdf]; rfl))
   have hGz := hG59
   clear hdf hno hyes
   have hsq := hGz.size
   go_wp2
   go_ret3
   exact ⟨_, by rw [Hz.out.1, Hz.out.2.1]; rfl, by rw [Hz.out.2.2]; exact OI.nilM (by simp) ⟨by (try simp at hsq); omega, by simp⟩, hGz.alloc _ _⟩
  | true =>
   have Hy := Lib.hid (hyes (by rw [hdf]; rfl))
   clear hdf hno hyes
   obtain ⟨⟨x0, x1, x2⟩, -⟩ := bX9.three
   obtain ⟨⟨y0, y1, y2⟩, -⟩ := bY.three
   have hs59 := hG59.size
   go_wp2_with fail
   refine (iQuotient_c vX9 (by omega) vY (by omega)).mono ?_
   rintro e w10 ⟨q, rfl, hQ, hG10⟩
   go_wp2
   go_ret3
   exact ⟨_, by rw [Hy.out.1, Hy.out.2.1]; rfl, by rw [Hy.out.2.2]; exact hQ.upM fun g hg => ⟨by have := hg.1; omega, hg.2⟩, hG59.trans hG10⟩
end Go.Proofs.YtjepiemflpjjhaaGreat
