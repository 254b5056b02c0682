/-
  The echelon form over the rationals: plain; greatest common divisors, both walks.
-/
import Derived.Test.YtoiblknchcoecaaGreatZRes
import Derived.Test.YtoiblknchcoecaaGreatZNorm
set_option maxHeartbeats 8000000
set_option maxRecDepth 100000
namespace Go.Proofs.YtoiblknchcoecaaGreat
open Go.RowKit
def gI (x y : Int) : Int := ((Int.gcd x y : Nat) : Int)
def rowG (m : List Int) (C i : Nat) : Nat → Nat
 | 0 => 0
 | n + 1 => Nat.gcd (rowG m C i n) (cell m C i n).natAbs
def primD (m : List Int) (C i : Nat) : Int := if 0 ≤ cell m C i (fz (rowL m C i)) then (rowG m C i C : Int) else -(rowG m C i C : Int)
def primV (m : List Int) (C i k : Nat) : Int := (cell m C i k).tdiv (primD m C i)
def primR (m : List Int) (C i : Nat) : List Int := if rowG m C i C = 0 then m else updR (primV m C i) (i * C) C m
def primAll (m : List Int) (C : Nat) : Nat → List Int
 | 0 => m
 | n + 1 => primR (primAll m C n) C n
def elG (m : List Int) (C i t j : Nat) : Int := gI (cell m C i j) (cell m C t j)
def elW (m : List Int) (C i t j k : Nat) : Int := (cell m C t j).tdiv (elG m C i t j) * cell m C i k - (cell m C i j).tdiv (elG m C i t j) * cell m C t k
def elWok (m : List Int) (C i t j : Nat) : Bool := (List.range C).all fun k => isNumB (elW m C i t j k)
def elRow (m : List Int) (C i t j : Nat) : List Int := primR (updR (elW m C i t j) (i * C) C m) C i
def ecElim (C j t : Nat) : Nat → List Int → Option (List Int)
 | 0, m => some m
 | n + 1, m => match ecElim C j t n m with
  | none => none
  | some m' => if n = t ∨ cell m' C n j = 0 then some m' else if elWok m' C n t j = true then some (elRow m' C n t j) else none
def ecN (C R : Nat) : Nat → Nat → Nat → List Int → Option (Nat × List Int)
 | 0, _, t, m => some (t, m)
 | n + 1, j, t, m => if t < R then (if elK m C j (R - t) t = R then ecN C R n (j + 1) t m else match ecElim C j t R (elM1 m C t (elK m C j (R - t) t)) with
   | none => none
   | some m' => ecN C R n (j + 1) (t + 1) m') else some (t, m)
def echR (m : Mat) : Option (Nat × List Int) := if isMatB m = true then ecN m.cols.toNat m.rows.toNat m.cols.toNat 0 0 (primAll m.cells m.cols.toNat m.rows.toNat) else none
def ecT (m : Mat) : Nat := ((echR m).map (·.1)).getD 0
end Go.Proofs.YtoiblknchcoecaaGreat
