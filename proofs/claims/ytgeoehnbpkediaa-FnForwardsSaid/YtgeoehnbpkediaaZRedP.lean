/-
  Reduced forms: plain. A form's rows and columns are changed together, as the program does it.
-/
import Derived.Test.YtgeoehnbpkediaaZRat
import Derived.Test.YtgeoehnbpkediaaZSmith
import Derived.Test.YtgeoehnbpkediaaZStack
import Derived.Test.YtgeoehnbpkediaaZTurn
set_option maxHeartbeats 8000000
set_option maxRecDepth 100000
namespace Go.Proofs.Ytgeoehnbpkediaa
def leadN (g : List Int) (n : Nat) : Nat → Option (List Int)
 | 0 => some []
 | k + 1 => (leadN g n k).bind fun l => (detN (k + 1) (cutL g n (k + 1) (k + 1))).map fun d => l ++ [d]
def isSqB (m : Mat) : Bool := isMatB m && (decide (m.rows = m.cols) && decide (m.rows ≤ 6))
def isGrB (m : Mat) : Bool := isSqB m && sameMB (turnM m) m
def isDfB (m : Mat) : Bool := isGrB m && (match leadN m.cells m.rows.toNat m.rows.toNat with
 | some l => l.all fun d => decide (0 < d)
 | none => false)
def redF (row : List Rt) : Nat → Option (Option (Nat × Int))
 | 0 => some none
 | j + 1 => if isR (rAt row j) then (if rndRt (rAt row j) = 0 then redF row j else some (some (j, rndRt (rAt row j)))) else none
def bothA (n k j : Nat) (t : Int) (S : SS) : Option SS := (rAdd3 n n k j t S).bind (cAdd3 n n k j t)
def bothS (n k j : Nat) (S : SS) : SS := cSw3 n n k j (rSw3 n n k j S)
def muAt (o : List (List Rt) × List Rt) (i j : Nat) : Rt := rAt (o.1.getD i []) j
def leastR (o : List (List Rt) × List Rt) (k : Nat) : Rt := mulRt (addRt (3, 4) (negRt (mulRt (muAt o k (k - 1)) (muAt o k (k - 1))))) (rAt o.2 (k - 1))
def redS (n k : Nat) (o : List (List Rt) × List Rt) (S : SS) : Option (SS × Nat) :=
 (redF (o.1.getD k []) k).bind fun x => match x with
  | some jt => (bothA n k jt.1 (-jt.2) S).map fun S' => (S', k)
  | none => if cmpRt (rAt o.2 k) (leastR o k) = 2 then none else if cmpRt (rAt o.2 k) (leastR o k) = -1 then some (bothS n k (k - 1) S, max 1 (k - 1)) else some (S, k + 1)
def redL (n : Nat) : Nat → Nat → SS → Option SS
 | 0, k, S => if k < n then none else some S
 | f + 1, k, S => if k < n then (accI S.1 n n).bind fun o => (redS n k o S).bind fun r => redL n f r.2 r.1 else some S
def redG (g : Mat) : Option SS := if isDfB g then redL g.rows.toNat 200 1 (g.cells, idL g.rows.toNat, idL g.rows.toNat) else none
def gramOk (b : Mat) : Bool := isMatB b && mulOk b (turnM b)
def gramB (b : Mat) : Mat := if isMatB b then mulB b (turnM b) else { rows := 0, cols := 0, cells := [] }
def redU (b : Mat) : Option Mat := if gramOk b then (redG (gramB b)).map fun S => { rows := b.rows, cols := b.rows, cells := S.2.1 } else none
def redBOk (b : Mat) : Bool := match redU b with
 | some u => mulOk u b
 | none => false
def redBB (b : Mat) : Mat := match redU b with
 | some u => if mulOk u b then mulB u b else { rows := 0, cols := 0, cells := [] }
 | none => { rows := 0, cols := 0, cells := [] }
theorem bothA_ss {n k j : Nat} {t : Int} {S S' : SS} (h : Ss n n S) (he : bothA n k j t S = some S') : Ss n n S' := by
 unfold bothA at he
 cases h1 : rAdd3 n n k j t S with
 | none => rw [h1] at he; cases he
 | some S1 =>
  rw [h1, Option.bind_some] at he
  exact (cAdd3_ss (rAdd3_ss h h1).1 he).1
theorem bothS_ss {n k j : Nat} {S : SS} (h : Ss n n S) : Ss n n (bothS n k j S) := cSw3_ss (rSw3_ss h)
theorem redS_ss {n k : Nat} {o : List (List Rt) × List Rt} {S : SS} {r : SS × Nat} (h : Ss n n S) (hk : 1 ≤ k) (he : redS n k o S = some r) : Ss n n r.1 ∧ 1 ≤ r.2 ∧ r.2 ≤ k + 1 := by
 unfold redS at he
 cases hf : redF (o.1.getD k []) k with
 | none => rw [hf] at he; cases he
 | some x =>
  rw [hf, Option.bind_some] at he
  cases x with
  | some jt =>
   simp only at he
   cases hb : bothA n k jt.1 (-jt.2) S with
   | none => rw [hb] at he; cases he
   | some S' =>
    rw [hb, Option.map_some] at he
    rw [← Option.some.inj he]
    exact ⟨bothA_ss h hb, hk, by show k ≤ k + 1; omega⟩
  | none =>
   simp only at he
   split at he
   ·cases he
   ·split at he
    ·rw [← Option.some.inj he]; exact ⟨bothS_ss h, by show 1 ≤ max 1 (k - 1); omega, by show max 1 (k - 1) ≤ k + 1; omega⟩
    ·rw [← Option.some.inj he]; exact ⟨h, by show 1 ≤ k + 1; omega, Nat.le_refl _⟩
end Go.Proofs.Ytgeoehnbpkediaa
