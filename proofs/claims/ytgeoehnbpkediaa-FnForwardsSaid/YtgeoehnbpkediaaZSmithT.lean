/-
  The reference's Smith form in place: the walk.
-/
import Derived.Test.YtgeoehnbpkediaaZSmithR
import Derived.Test.YtgeoehnbpkediaaZHermS
import Derived.Test.YtgeoehnbpkediaaZInts
import Derived.Test.YtgeoehnbpkediaaZBasI
set_option maxHeartbeats 8000000
set_option maxRecDepth 100000
namespace Go.Proofs.Ytgeoehnbpkediaa
open Go.RowKit
theorem wpList_min {P : Program} {ops : Array Oper} {rest : List Oper} {o : Oper} {A : Act} {w : World} {Q : Exit → Act → World → Prop} {x y : Operand} {t : TypeId} {m n v : Int} (hgd : o.guard = none)
  (ho : o.op = .call { callee := .builtin .min, args := #[x, y], argTypes := #[t, t] }) (hx : A.eval x = .int .i64 m) (hy : A.eval y = .int .i64 n) (hv : (if n < m then n else m) = v)
  (h : wpList P ops Q rest (A.put o.dst (.int .i64 v)) w) : wpList P ops Q (o :: rest) A w := by
 refine wpList_plain hgd fun K hK => ?_
 subst hv
 unfold Oper.wp execOp
 simp only [ho, resolve, invoke, builtin, Sem.run_bind, Sem.run_pure, Result.andThen_ok, List.map_toArray, List.map_cons, List.map_nil, hx, hy, run_min_int2]
 exact hK _ _ h
theorem sAll_unf {C R t : Nat} {s : SS} (h : t < R) (h2 : t < C) : sAll C R (min R C - t) t s = if (leastS s.1 C R t).1 < 0 then some s else (sA C R t s).bind fun s' => sAll C R (min R C - (t + 1)) (t + 1) (sNeg C R t s') := by
 rw [show min R C - t = (min R C - (t + 1)) + 1 by omega]; rfl
theorem sAll_end {C R t : Nat} {s : SS} (h : ¬ (t < R ∧ t < C)) : sAll C R (min R C - t) t s = some s := by
 rw [show min R C - t = 0 by omega]; rfl
theorem least_at {m : List Int} {C R t : Nat} (ht : t ≤ R) (htC : t ≤ C) (h : 0 ≤ (leastS m C R t).1) : ∃ r c : Nat, (leastS m C R t).1 = (r : Int) ∧ (leastS m C R t).2 = (c : Int) ∧ t ≤ r ∧ r < R ∧ t ≤ c ∧ c < C ∧ cell m C r c ≠ 0 ∧ lsR m C R t = r ∧ lsC m C R t = c := by
 rcases leastS_ok m (C := C) (R := R) (t := t) ht htC with ⟨h0, _⟩ | ⟨r, c, h1, h2, h3, h4, h5, h6, _, _⟩
 ·rw [h0] at h; simp at h
 ·exact ⟨r, c, by rw [h1], by rw [h1], h2, h3, h4, h5, h6, by unfold lsR; rw [h1]; simp, by unfold lsC; rw [h1]; simp⟩
end Go.Proofs.Ytgeoehnbpkediaa

namespace Go.Proofs.Ytgeoehnbpkediaa
open Go.RowKit
theorem ret_cells3_tmp {P : Program} {fn : Func} {R : Ending → World → Prop} {a : Act} {w : World} {ty : TypeId} {cs ds es : Array Value} {p q r u : Tmp} {g g' g'' : Nat} {t : TypeId} (hT : StT P ty cs.size) (hT' : StT P ty ds.size) (hT'' : StT P ty es.size) (h : fn.results = #[.cell p ty, .cell q ty, .cell r ty, .tmp u]) (hd : a.defers = []) (hp : a.tmps.getD p undef = .pointer (some ⟨g, 0, none⟩)) (hq : a.tmps.getD q undef = .pointer (some ⟨g', 0, none⟩)) (hr : a.tmps.getD r undef = .pointer (some ⟨g'', 0, none⟩))
  (hb : Blk w g cs t) (hb' : Blk w g' ds t) (hb'' : Blk w g'' es t) (hR : R (.returned (.tuple #[.agg cs, .agg ds, .agg es, a.tmps.getD u undef])) w) : bodyPost P fn R .ret a w := by
 have hp' : a.tmps[p]?.getD undef = .pointer (some ⟨g, 0, none⟩) := by simpa using hp
 have hq' : a.tmps[q]?.getD undef = .pointer (some ⟨g', 0, none⟩) := by simpa using hq
 have hr' : a.tmps[r]?.getD undef = .pointer (some ⟨g'', 0, none⟩) := by simpa using hr
 refine bodyPost_ret (v := .tuple #[.agg cs, .agg ds, .agg es, a.tmps.getD u undef]) ?_ hd hR
 simp [results, h, hp', hq', hr', asAddr, hT.load hb, hT'.load hb', hT''.load hb'']
abbrev zM : Value := .agg #[.int .i64 0, .int .i64 0, .slice none 0 0]
end Go.Proofs.Ytgeoehnbpkediaa
