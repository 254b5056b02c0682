/-
  The reference's Smith form in place: the walk.
-/
import Derived.Test.YtoiblknchcoecaaGreatZSmithR
import Derived.Test.YtoiblknchcoecaaGreatZHermS
import Derived.Test.YtoiblknchcoecaaGreatZInts
import Derived.Test.YtoiblknchcoecaaGreatZBasI
set_option maxHeartbeats 8000000
set_option maxRecDepth 100000
namespace Go.Proofs.YtoiblknchcoecaaGreat
open Go.RowKit
theorem wpList_min {P : Program} {ops : Array Oper} {rest : List Oper} {o : Oper} {A : Act} {w : World} {Q : Exit → Act → World → Prop} {x y : Operand} {t : TypeId} {m n v : Int} (hgd : o.guard = none)
  (ho : o.op = .call { callee := .builtin .min, args := #[x, y], argTypes := #[t, t] }) (hx : A.eval x = .int .i64 m) (hy : A.eval y = .int .i64 n) (hv : (if n < m then n else m) = v)
  (h : wpList P ops Q rest (A.put o.dst (.int .i64 v)) w) : wpList P ops Q (o :: rest) A w := by
 refine wpList_plain hgd fun K hK => ?_
 subst hv
 unfold Oper.wp execOp
 simp only [ho, resolve, invoke, builtin, Sem.run_bind, Sem.run_pure, Result.andThen_ok, List.map_toArray, List.map_cons, List.map_nil, hx, hy, run_min_int2]
 exact hK _ _ h
theorem sAll_unf {C R t : Nat} {s : SS} (h : t < R) (h2 : t < C) : sAll C R (min R C - t) t s = if (leastS s.1 C R t).1 < 0 then some s else (sA C R t s).bind fun s' => sAll C R (min R C - (t + 1)) (t + 1) (sNeg C R t s') := by
 rw [show min R C - t = (min R C - (t + 1)) + 1 by omega]; rfl
theorem sAll_end {C R t : Nat} {s : SS} (h : ¬ (t < R ∧ t < C)) : sAll C R (min R C - t) t s = some s := by
 rw [show min R C - t = 0 by omega]; rfl
theorem least_at {m : List Int} {C R t : Nat} (ht : t ≤ R) (htC : t ≤ C) (h : 0 ≤ (leastS m C R t).1) : ∃ r c : Nat, (leastS m C R t).1 = (r : Int) ∧ (leastS m C R t).2 = (c : Int) ∧ t ≤ r ∧ r < R ∧ t ≤ c ∧ c < C ∧ cell m C r c ≠ 0 ∧ lsR m C R t = r ∧ lsC m C R t = c := by
 rcases leastS_ok m (C := C) (R := R) (t := t) ht htC with ⟨h0, _⟩ | ⟨r, c, h1, h2, h3, h4, h5, h6, _, _⟩
 ·rw [h0] at h; simp at h
 ·exact ⟨r, c, by rw [h1], by rw [h1], h2, h3, h4, h5, h6, by unfold lsR; rw [h1]; simp, by unfold lsC; rw [h1]; simp⟩
end Go.Proofs.YtoiblknchcoecaaGreat

namespace Go.Proofs.YtoiblknchcoecaaGreat
open Go.RowKit
theorem ret_cells3_tmp {P : Program} {fn : Func} {R : Ending → World → Prop} {a : Act} {w : World} {ty : TypeId} {cs ds es : Array Value} {p q r u : Tmp} {g g' g'' : Nat} {t : TypeId} (hT : StT P ty cs.size) (hT' : StT P ty ds.size) (hT'' : StT P ty es.size) (h : fn.results = #[.cell p ty, .cell q ty, .cell r ty, .tmp u]) (hd : a.defers = []) (hp : a.tmps.getD p undef = .pointer (some ⟨g, 0, none⟩)) (hq : a.tmps.getD q undef = .pointer (some ⟨g', 0, none⟩)) (hr : a.tmps.getD r undef = .pointer (some ⟨g'', 0, none⟩))
  (hb : Blk w g cs t) (hb' : Blk w g' ds t) (hb'' : Blk w g'' es t) (hR : R (.returned (.tuple #[.agg cs, .agg ds, .agg es, a.tmps.getD u undef])) w) : bodyPost P fn R .ret a w := by
 have hp' : a.tmps[p]?.getD undef = .pointer (some ⟨g, 0, none⟩) := by simpa using hp
 have hq' : a.tmps[q]?.getD undef = .pointer (some ⟨g', 0, none⟩) := by simpa using hq
 have hr' : a.tmps[r]?.getD undef = .pointer (some ⟨g'', 0, none⟩) := by simpa using hr
 refine bodyPost_ret (v := .tuple #[.agg cs, .agg ds, .agg es, a.tmps.getD u undef]) ?_ hd hR
 simp [results, h, hp', hq', hr', asAddr, hT.load hb, hT'.load hb', hT''.load hb'']
abbrev zM : Value := .agg #[.int .i64 0, .int .i64 0, .slice none 0 0]
end Go.Proofs.YtoiblknchcoecaaGreat

namespace Go.Proofs.YtoiblknchcoecaaGreat
open Go.RowKit
def facP (m : List Int) (C n : Nat) : List Int := ((List.range n).map fun i => cell m C i i).filter fun x => x != 0
theorem facP_yes {m : List Int} {C n : Nat} (h : cell m C n n ≠ 0) : facP m C (n + 1) = facP m C n ++ [cell m C n n] := by
 unfold facP; rw [List.range_succ, List.map_append, List.filter_append]; simp [h]
theorem facP_no {m : List Int} {C n : Nat} (h : cell m C n n = 0) : facP m C (n + 1) = facP m C n := by
 unfold facP; rw [List.range_succ, List.map_append, List.filter_append]; simp [h]
theorem facP_len (m : List Int) (C n : Nat) : (facP m C n).length ≤ n := by
 unfold facP
 exact Nat.le_trans (List.length_filter_le _ _) (by simp)
theorem facP_rng {m : List Int} {C n : Nat} (h : NumL m) : NumL (facP m C n) := fun x hx => by
 have := (List.mem_filter.1 hx).1
 obtain ⟨i, _, rfl⟩ := List.mem_map.1 this
 exact cell_num h C i i
def facR (m : Mat) : Option (List Int) := if isMatB m = true then (smith m.cells m.rows.toNat m.cols.toNat).map fun s => facP s.1 m.cols.toNat (min m.rows.toNat m.cols.toNat) else none
def facOk (m : Mat) : Bool := (facR m).isSome
def facB (m : Mat) : List Int := (facR m).getD []
theorem fac_none {m : Mat} (h : facR m = none) : facOk m = false ∧ facB m = [] := by unfold facOk facB; rw [h]; exact ⟨rfl, rfl⟩
theorem fac_some {m : Mat} {x : List Int} (h : facR m = some x) : facOk m = true ∧ facB m = x := by unfold facOk facB; rw [h]; exact ⟨rfl, rfl⟩
theorem facR_no {m : Mat} (h : isMatB m = false) : facR m = none := by unfold facR; rw [h]; rfl
theorem facR_mat {R C : Nat} {cells : List Int} (hB : isMatB { rows := (R : Int), cols := (C : Int), cells := cells } = true) : facR { rows := (R : Int), cols := (C : Int), cells := cells } = (smith cells R C).map fun s => facP s.1 C (min R C) := by
 unfold facR; rw [hB]; rfl
structure FacPk (w : World) (S : Nat → Prop) (m : Mat) (D E : Nat) (aa : Option Addr) (na ca : Nat) (L : List Int) (b : Bool) : Prop where
 rd : RdI w S aa na ca L
 len : L.length = D * E
 num : NumL L
 hD : D ≤ 24
 hE : E ≤ 24
 ok : facOk m = b
 fac : facB m = facP L E (min D E)
theorem FacPk.zero {w : World} {S : Nat → Prop} {m : Mat} (h : facR m = none) : FacPk w S m 0 0 none 0 0 [] false :=
 ⟨RdI.nilw w, by simp, (fun x hx => by cases hx), by omega, by omega, (fac_none h).1, by rw [(fac_none h).2]; rfl⟩
end Go.Proofs.YtoiblknchcoecaaGreat
