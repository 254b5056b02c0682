/-
  No cell of these rows narrows 'for every input' (looked for: loops, veiled, ifaces, maps, wideKeys, modest, calm, conditions, laid).
  DERIVED. THE GIVEN ROWS OF THIS SEAT. 6 by the template 'for every input the law returns true; each argument reads behind the call as it read before'; 0 by the template 'total and deterministic' (their statements: YtdpjfblkmkjedaaTotals.lean).
  GIVEN WITH THE SEED: the statements are not yours to turn. If you find one false, say at which input.
  Laid BY PROGRAM, IN A SANDBOX (cutbox-rows.mjs): the forced cells as the released guide's own fill.sh prints them over the translation a06bacdbf598132a… (all of the seat's roots in one cut). By AI agents, Wed Nov 11 2026. No macro, syntax, notation, axiom, sorry.
-/
import Derived.Test.YtdpjfblkmkjedaaChecked
import GoSem.Claim
import GoSem.ClaimJoined
import GoSem.ClaimMapViews
import Derived.JoinedTies
import Derived.KernelRfl
namespace Go.Proofs.Ytdpjfblkmkjedaa
/- THE CELL 'sum', in the pinned program and in every row, IS THE sha256 OF THE DUMP (.gsa) THAT YtdpjfblkmkjedaaProg.lean LOADS. Nothing in Lean hashes anything: it is a label: what it is worth is what the hold of that sum in a sandbox is worth. -/
noncomputable def Try.pinned : Pinned := { name := "ytdpjfblkmkjedaa", sum := "a06bacdbf598132ad8635f7e9404b925245fb4c6e63378acb298a5b6b5327e91", checked := Try.checked }
namespace Rows
def none {H : Type} : Left H := { results := [], args := [] }

/-- 'laws.FnExactIsName': WHATEVER THE INPUT: true; the input reads as it did. -/
def fnExactIsNameSpec : ChangeSpec := { name := "fnExactIsName", fn := fun _ => fun
  | [d] => { results := [.lit (.bool true)], args := [d] }
  | _ => none }
def fnExactIsNameRow : OpenClaim := { program := "ytdpjfblkmkjedaa", sum := "a06bacdbf598132ad8635f7e9404b925245fb4c6e63378acb298a5b6b5327e91", func := "loop.example/g03411/laws.FnExactIsName", spec := "fnExactIsName", apart := false }
def FnExactIsNameSaid : Prop := fnExactIsNameRow.holds Try.pinned (OpenSpec.ofChange fnExactIsNameSpec)

/-- ITS FALSE NEIGHBOUR: 'it returns false'. Refute it at one input. -/
def fnExactIsNameWrong : ChangeSpec := { name := "fnExactIsName", fn := fun _ => fun
  | [d] => { results := [.lit (.bool false)], args := [d] }
  | _ => none }
def FnExactIsNameWrongFalsely : Prop := fnExactIsNameRow.holds Try.pinned (OpenSpec.ofChange fnExactIsNameWrong)

/-- 'laws.FnExactIsSimplex': WHATEVER THE INPUT: true; the input reads as it did. -/
def fnExactIsSimplexSpec : ChangeSpec := { name := "fnExactIsSimplex", fn := fun _ => fun
  | [d] => { results := [.lit (.bool true)], args := [d] }
  | _ => none }
def fnExactIsSimplexRow : OpenClaim := { program := "ytdpjfblkmkjedaa", sum := "a06bacdbf598132ad8635f7e9404b925245fb4c6e63378acb298a5b6b5327e91", func := "loop.example/g03411/laws.FnExactIsSimplex", spec := "fnExactIsSimplex", apart := false }
def FnExactIsSimplexSaid : Prop := fnExactIsSimplexRow.holds Try.pinned (OpenSpec.ofChange fnExactIsSimplexSpec)

/-- ITS FALSE NEIGHBOUR: 'it returns false'. Refute it at one input. -/
def fnExactIsSimplexWrong : ChangeSpec := { name := "fnExactIsSimplex", fn := fun _ => fun
  | [d] => { results := [.lit (.bool false)], args := [d] }
  | _ => none }
def FnExactIsSimplexWrongFalsely : Prop := fnExactIsSimplexRow.holds Try.pinned (OpenSpec.ofChange fnExactIsSimplexWrong)

/-- 'laws.FnExactFacesOf': WHATEVER THE INPUT: true; the input reads as it did. -/
def fnExactFacesOfSpec : ChangeSpec := { name := "fnExactFacesOf", fn := fun _ => fun
  | [d1, d2] => { results := [.lit (.bool true)], args := [d1, d2] }
  | _ => none }
def fnExactFacesOfRow : OpenClaim := { program := "ytdpjfblkmkjedaa", sum := "a06bacdbf598132ad8635f7e9404b925245fb4c6e63378acb298a5b6b5327e91", func := "loop.example/g03411/laws.FnExactFacesOf", spec := "fnExactFacesOf", apart := false }
def FnExactFacesOfSaid : Prop := fnExactFacesOfRow.holds Try.pinned (OpenSpec.ofChange fnExactFacesOfSpec)

/-- ITS FALSE NEIGHBOUR: 'it returns false'. Refute it at one input. -/
def fnExactFacesOfWrong : ChangeSpec := { name := "fnExactFacesOf", fn := fun _ => fun
  | [d1, d2] => { results := [.lit (.bool false)], args := [d1, d2] }
  | _ => none }
def FnExactFacesOfWrongFalsely : Prop := fnExactFacesOfRow.holds Try.pinned (OpenSpec.ofChange fnExactFacesOfWrong)

/-- 'laws.FnExactFindDef': WHATEVER THE INPUT: true; the input reads as it did. -/
def fnExactFindDefSpec : ChangeSpec := { name := "fnExactFindDef", fn := fun _ => fun
  | [d1, d2] => { results := [.lit (.bool true)], args := [d1, d2] }
  | _ => none }
def fnExactFindDefRow : OpenClaim := { program := "ytdpjfblkmkjedaa", sum := "a06bacdbf598132ad8635f7e9404b925245fb4c6e63378acb298a5b6b5327e91", func := "loop.example/g03411/laws.FnExactFindDef", spec := "fnExactFindDef", unfollowed := true, recurses := true, apart := false }
def FnExactFindDefSaid : Prop := fnExactFindDefRow.holds Try.pinned (OpenSpec.ofChange fnExactFindDefSpec)

/-- ITS FALSE NEIGHBOUR: 'it returns false'. Refute it at one input. -/
def fnExactFindDefWrong : ChangeSpec := { name := "fnExactFindDef", fn := fun _ => fun
  | [d1, d2] => { results := [.lit (.bool false)], args := [d1, d2] }
  | _ => none }
def FnExactFindDefWrongFalsely : Prop := fnExactFindDefRow.holds Try.pinned (OpenSpec.ofChange fnExactFindDefWrong)

/-- 'laws.FnExactIsDef': WHATEVER THE INPUT: true; the input reads as it did. -/
def fnExactIsDefSpec : ChangeSpec := { name := "fnExactIsDef", fn := fun _ => fun
  | [d] => { results := [.lit (.bool true)], args := [d] }
  | _ => none }
def fnExactIsDefRow : OpenClaim := { program := "ytdpjfblkmkjedaa", sum := "a06bacdbf598132ad8635f7e9404b925245fb4c6e63378acb298a5b6b5327e91", func := "loop.example/g03411/laws.FnExactIsDef", spec := "fnExactIsDef", apart := false }
def FnExactIsDefSaid : Prop := fnExactIsDefRow.holds Try.pinned (OpenSpec.ofChange fnExactIsDefSpec)

/-- ITS FALSE NEIGHBOUR: 'it returns false'. Refute it at one input. -/
def fnExactIsDefWrong : ChangeSpec := { name := "fnExactIsDef", fn := fun _ => fun
  | [d] => { results := [.lit (.bool false)], args := [d] }
  | _ => none }
def FnExactIsDefWrongFalsely : Prop := fnExactIsDefRow.holds Try.pinned (OpenSpec.ofChange fnExactIsDefWrong)

/-- 'laws.FnExactComposeMaps': WHATEVER THE INPUT: true; the input reads as it did. -/
def fnExactComposeMapsSpec : ChangeSpec := { name := "fnExactComposeMaps", fn := fun _ => fun
  | [d1, d2] => { results := [.lit (.bool true)], args := [d1, d2] }
  | _ => none }
def fnExactComposeMapsRow : OpenClaim := { program := "ytdpjfblkmkjedaa", sum := "a06bacdbf598132ad8635f7e9404b925245fb4c6e63378acb298a5b6b5327e91", func := "loop.example/g03411/laws.FnExactComposeMaps", spec := "fnExactComposeMaps", apart := false }
def FnExactComposeMapsSaid : Prop := fnExactComposeMapsRow.holds Try.pinned (OpenSpec.ofChange fnExactComposeMapsSpec)

/-- ITS FALSE NEIGHBOUR: 'it returns false'. Refute it at one input. -/
def fnExactComposeMapsWrong : ChangeSpec := { name := "fnExactComposeMaps", fn := fun _ => fun
  | [d1, d2] => { results := [.lit (.bool false)], args := [d1, d2] }
  | _ => none }
def FnExactComposeMapsWrongFalsely : Prop := fnExactComposeMapsRow.holds Try.pinned (OpenSpec.ofChange fnExactComposeMapsWrong)

/- THE SECOND FORM. 'bulk': how many values and letters a reading holds, each counted each time it is reached (what is shared counts as often as it is met; a slice's spare places count too). A statement '..UptoSaid' is the law's where the arguments, and the package variables that the reading takes, are together of bulk at most 1048576: NARROWER than '..Said'. Prove '..Said' where nothing that the law and all that it calls make is longer than what came in: it says more and counts as full. Else prove '..UptoSaid'. A law counts once. -/
mutual
def uptoBulk {H : Type} : DataW H → Nat
  | .lit (.string bytes) => bytes.length + 1
  | .lit _ => 1
  | .nil => 1
  | .ptr d => uptoBulk d + 1
  | .slice elems spare => uptoBulkAll elems + uptoBulkAll spare + 1
  | .agg parts => uptoBulkAll parts + 1
  | .iface _ d => uptoBulk d + 1
  | .map entries => uptoBulkEntries entries + 1
  | .held _ => 1
def uptoBulkAll {H : Type} : List (DataW H) → Nat
  | [] => 0
  | d :: r => uptoBulk d + uptoBulkAll r
def uptoBulkEntries {H : Type} : List (Lit × DataW H) → Nat
  | [] => 0
  | x :: r => uptoBulkEntry x + uptoBulkEntries r
def uptoBulkEntry {H : Type} : Lit × DataW H → Nat
  | (.string bytes, d) => bytes.length + uptoBulk d + 1
  | (_, d) => uptoBulk d + 1
 end
def uptoSmall : (H : Type) → List (DataW H) → Bool := fun _ ds => decide (uptoBulkAll ds ≤ 1048576)
def OpenSpec.upto (s : _root_.Go.ChangeSpec) : _root_.Go.OpenSpec := { _root_.Go.OpenSpec.ofChange s with cond := some uptoSmall }

/-- 'laws.FnExactIsName', WHERE WHAT IT READS IS OF BULK AT MOST 1048576: true; the input reads as it did. -/
def fnExactIsNameUptoRow : OpenClaim := { program := "ytdpjfblkmkjedaa", sum := "a06bacdbf598132ad8635f7e9404b925245fb4c6e63378acb298a5b6b5327e91", func := "loop.example/g03411/laws.FnExactIsName", spec := "fnExactIsName", apart := false, narrowed := true }
def FnExactIsNameUptoSaid : Prop := fnExactIsNameUptoRow.holds Try.pinned (OpenSpec.upto fnExactIsNameSpec)

/-- 'laws.FnExactIsSimplex', WHERE WHAT IT READS IS OF BULK AT MOST 1048576: true; the input reads as it did. -/
def fnExactIsSimplexUptoRow : OpenClaim := { program := "ytdpjfblkmkjedaa", sum := "a06bacdbf598132ad8635f7e9404b925245fb4c6e63378acb298a5b6b5327e91", func := "loop.example/g03411/laws.FnExactIsSimplex", spec := "fnExactIsSimplex", apart := false, narrowed := true }
def FnExactIsSimplexUptoSaid : Prop := fnExactIsSimplexUptoRow.holds Try.pinned (OpenSpec.upto fnExactIsSimplexSpec)

/-- 'laws.FnExactFacesOf', WHERE WHAT IT READS IS OF BULK AT MOST 1048576: true; the input reads as it did. -/
def fnExactFacesOfUptoRow : OpenClaim := { program := "ytdpjfblkmkjedaa", sum := "a06bacdbf598132ad8635f7e9404b925245fb4c6e63378acb298a5b6b5327e91", func := "loop.example/g03411/laws.FnExactFacesOf", spec := "fnExactFacesOf", apart := false, narrowed := true }
def FnExactFacesOfUptoSaid : Prop := fnExactFacesOfUptoRow.holds Try.pinned (OpenSpec.upto fnExactFacesOfSpec)

/-- 'laws.FnExactFindDef', WHERE WHAT IT READS IS OF BULK AT MOST 1048576: true; the input reads as it did. -/
def fnExactFindDefUptoRow : OpenClaim := { program := "ytdpjfblkmkjedaa", sum := "a06bacdbf598132ad8635f7e9404b925245fb4c6e63378acb298a5b6b5327e91", func := "loop.example/g03411/laws.FnExactFindDef", spec := "fnExactFindDef", unfollowed := true, recurses := true, apart := false, narrowed := true }
def FnExactFindDefUptoSaid : Prop := fnExactFindDefUptoRow.holds Try.pinned (OpenSpec.upto fnExactFindDefSpec)

/-- 'laws.FnExactIsDef', WHERE WHAT IT READS IS OF BULK AT MOST 1048576: true; the input reads as it did. -/
def fnExactIsDefUptoRow : OpenClaim := { program := "ytdpjfblkmkjedaa", sum := "a06bacdbf598132ad8635f7e9404b925245fb4c6e63378acb298a5b6b5327e91", func := "loop.example/g03411/laws.FnExactIsDef", spec := "fnExactIsDef", apart := false, narrowed := true }
def FnExactIsDefUptoSaid : Prop := fnExactIsDefUptoRow.holds Try.pinned (OpenSpec.upto fnExactIsDefSpec)

/-- 'laws.FnExactComposeMaps', WHERE WHAT IT READS IS OF BULK AT MOST 1048576: true; the input reads as it did. -/
def fnExactComposeMapsUptoRow : OpenClaim := { program := "ytdpjfblkmkjedaa", sum := "a06bacdbf598132ad8635f7e9404b925245fb4c6e63378acb298a5b6b5327e91", func := "loop.example/g03411/laws.FnExactComposeMaps", spec := "fnExactComposeMaps", apart := false, narrowed := true }
def FnExactComposeMapsUptoSaid : Prop := fnExactComposeMapsUptoRow.holds Try.pinned (OpenSpec.upto fnExactComposeMapsSpec)

end Rows
end Go.Proofs.Ytdpjfblkmkjedaa
