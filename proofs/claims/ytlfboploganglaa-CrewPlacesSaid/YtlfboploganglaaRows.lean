/-
  No cell of these rows narrows 'for every input' (looked for: loops, veiled, ifaces, maps, wideKeys, modest, calm, conditions, laid).
  DERIVED. THE GIVEN ROWS OF THIS SEAT. 5 by the template 'for every input the law returns true; each argument reads behind the call as it read before'; 0 by the template 'total and deterministic' (their statements: YtlfboploganglaaTotals.lean).
  GIVEN WITH THE SEED: the statements are not yours to turn. If you find one false, say at which input.
  Laid BY PROGRAM, IN A SANDBOX (cutbox-rows.mjs): the forced cells as the released guide's own fill.sh prints them over the translation eb3105e135a9d6b9… (all of the seat's roots in one cut). By AI agents, Wed Nov 11 2026. No macro, syntax, notation, axiom, sorry.
-/
import Derived.Test.YtlfboploganglaaChecked
import GoSem.Claim
import GoSem.ClaimJoined
import GoSem.ClaimMapViews
import Derived.JoinedTies
import Derived.KernelRfl
namespace Go.Proofs.Ytlfboploganglaa
/- THE CELL 'sum', in the pinned program and in every row, IS THE sha256 OF THE DUMP (.gsa) THAT YtlfboploganglaaProg.lean LOADS. Nothing in Lean hashes anything: it is a label: what it is worth is what the hold of that sum in a sandbox is worth. -/
noncomputable def Try.pinned : Pinned := { name := "ytlfboploganglaa", sum := "eb3105e135a9d6b921e8fca493ac13c0fdac7f508ea2ee98802d5ee8117f979d", checked := Try.checked }
namespace Rows
def none {H : Type} : Left H := { results := [], args := [] }

/-- 'staithelaw11.CrewFull': WHATEVER THE INPUT: true; the input reads as it did. -/
def crewFullSpec : ChangeSpec := { name := "crewFull", fn := fun _ => fun
  | [d] => { results := [.lit (.bool true)], args := [d] }
  | _ => none }
def crewFullRow : OpenClaim := { program := "ytlfboploganglaa", sum := "eb3105e135a9d6b921e8fca493ac13c0fdac7f508ea2ee98802d5ee8117f979d", func := "staithe/staithelaw11.CrewFull", spec := "crewFull", apart := false }
def CrewFullSaid : Prop := crewFullRow.holds Try.pinned (OpenSpec.ofChange crewFullSpec)

/-- ITS FALSE NEIGHBOUR: 'it returns false'. Refute it at one input. -/
def crewFullWrong : ChangeSpec := { name := "crewFull", fn := fun _ => fun
  | [d] => { results := [.lit (.bool false)], args := [d] }
  | _ => none }
def CrewFullWrongFalsely : Prop := crewFullRow.holds Try.pinned (OpenSpec.ofChange crewFullWrong)

/-- 'staithelaw11.CrewPlaces': WHATEVER THE INPUT: true; the input reads as it did. -/
def crewPlacesSpec : ChangeSpec := { name := "crewPlaces", fn := fun _ => fun
  | [d1, d2] => { results := [.lit (.bool true)], args := [d1, d2] }
  | _ => none }
def crewPlacesRow : OpenClaim := { program := "ytlfboploganglaa", sum := "eb3105e135a9d6b921e8fca493ac13c0fdac7f508ea2ee98802d5ee8117f979d", func := "staithe/staithelaw11.CrewPlaces", spec := "crewPlaces", apart := false }
def CrewPlacesSaid : Prop := crewPlacesRow.holds Try.pinned (OpenSpec.ofChange crewPlacesSpec)

/-- ITS FALSE NEIGHBOUR: 'it returns false'. Refute it at one input. -/
def crewPlacesWrong : ChangeSpec := { name := "crewPlaces", fn := fun _ => fun
  | [d1, d2] => { results := [.lit (.bool false)], args := [d1, d2] }
  | _ => none }
def CrewPlacesWrongFalsely : Prop := crewPlacesRow.holds Try.pinned (OpenSpec.ofChange crewPlacesWrong)

/-- 'staithelaw11.CrewSteps': WHATEVER THE INPUT: true; the input reads as it did. -/
def crewStepsSpec : ChangeSpec := { name := "crewSteps", fn := fun _ => fun
  | [d] => { results := [.lit (.bool true)], args := [d] }
  | _ => none }
def crewStepsRow : OpenClaim := { program := "ytlfboploganglaa", sum := "eb3105e135a9d6b921e8fca493ac13c0fdac7f508ea2ee98802d5ee8117f979d", func := "staithe/staithelaw11.CrewSteps", spec := "crewSteps", apart := false }
def CrewStepsSaid : Prop := crewStepsRow.holds Try.pinned (OpenSpec.ofChange crewStepsSpec)

/-- ITS FALSE NEIGHBOUR: 'it returns false'. Refute it at one input. -/
def crewStepsWrong : ChangeSpec := { name := "crewSteps", fn := fun _ => fun
  | [d] => { results := [.lit (.bool false)], args := [d] }
  | _ => none }
def CrewStepsWrongFalsely : Prop := crewStepsRow.holds Try.pinned (OpenSpec.ofChange crewStepsWrong)

/-- 'staithelaw11.CrewExits': WHATEVER THE INPUT: true; the input reads as it did. -/
def crewExitsSpec : ChangeSpec := { name := "crewExits", fn := fun _ => fun
  | [d1, d2] => { results := [.lit (.bool true)], args := [d1, d2] }
  | _ => none }
def crewExitsRow : OpenClaim := { program := "ytlfboploganglaa", sum := "eb3105e135a9d6b921e8fca493ac13c0fdac7f508ea2ee98802d5ee8117f979d", func := "staithe/staithelaw11.CrewExits", spec := "crewExits", apart := false }
def CrewExitsSaid : Prop := crewExitsRow.holds Try.pinned (OpenSpec.ofChange crewExitsSpec)

/-- ITS FALSE NEIGHBOUR: 'it returns false'. Refute it at one input. -/
def crewExitsWrong : ChangeSpec := { name := "crewExits", fn := fun _ => fun
  | [d1, d2] => { results := [.lit (.bool false)], args := [d1, d2] }
  | _ => none }
def CrewExitsWrongFalsely : Prop := crewExitsRow.holds Try.pinned (OpenSpec.ofChange crewExitsWrong)

/-- 'staithelaw11.CrewNil': WHATEVER THE INPUT: true; the input reads as it did. -/
def crewNilSpec : ChangeSpec := { name := "crewNil", fn := fun _ => fun
  | [d] => { results := [.lit (.bool true)], args := [d] }
  | _ => none }
def crewNilRow : OpenClaim := { program := "ytlfboploganglaa", sum := "eb3105e135a9d6b921e8fca493ac13c0fdac7f508ea2ee98802d5ee8117f979d", func := "staithe/staithelaw11.CrewNil", spec := "crewNil", apart := false }
def CrewNilSaid : Prop := crewNilRow.holds Try.pinned (OpenSpec.ofChange crewNilSpec)

/-- ITS FALSE NEIGHBOUR: 'it returns false'. Refute it at one input. -/
def crewNilWrong : ChangeSpec := { name := "crewNil", fn := fun _ => fun
  | [d] => { results := [.lit (.bool false)], args := [d] }
  | _ => none }
def CrewNilWrongFalsely : Prop := crewNilRow.holds Try.pinned (OpenSpec.ofChange crewNilWrong)

/- THE SECOND FORM. 'bulk': how many values and letters a reading holds, each counted each time it is reached (what is shared counts as often as it is met; a slice's spare places count too). A statement '..UptoSaid' is the law's where the arguments, and the package variables that the reading takes, are together of bulk at most 1048576: NARROWER than '..Said'. Prove '..Said' where nothing that the law and all that it calls make is longer than what came in: it says more and counts as full. Else prove '..UptoSaid'. A law counts once. -/
mutual
def uptoBulk {H : Type} : DataW H → Nat
  | .lit (.string bytes) => bytes.length + 1
  | .lit _ => 1
  | .nil => 1
  | .ptr d => uptoBulk d + 1
  | .slice elems spare => uptoBulkAll elems + uptoBulkAll spare + 1
  | .agg parts => uptoBulkAll parts + 1
  | .iface _ d => uptoBulk d + 1
  | .map entries => uptoBulkEntries entries + 1
  | .held _ => 1
def uptoBulkAll {H : Type} : List (DataW H) → Nat
  | [] => 0
  | d :: r => uptoBulk d + uptoBulkAll r
def uptoBulkEntries {H : Type} : List (Lit × DataW H) → Nat
  | [] => 0
  | x :: r => uptoBulkEntry x + uptoBulkEntries r
def uptoBulkEntry {H : Type} : Lit × DataW H → Nat
  | (.string bytes, d) => bytes.length + uptoBulk d + 1
  | (_, d) => uptoBulk d + 1
 end
def uptoSmall : (H : Type) → List (DataW H) → Bool := fun _ ds => decide (uptoBulkAll ds ≤ 1048576)
def OpenSpec.upto (s : _root_.Go.ChangeSpec) : _root_.Go.OpenSpec := { _root_.Go.OpenSpec.ofChange s with cond := some uptoSmall }

/-- 'staithelaw11.CrewFull', WHERE WHAT IT READS IS OF BULK AT MOST 1048576: true; the input reads as it did. -/
def crewFullUptoRow : OpenClaim := { program := "ytlfboploganglaa", sum := "eb3105e135a9d6b921e8fca493ac13c0fdac7f508ea2ee98802d5ee8117f979d", func := "staithe/staithelaw11.CrewFull", spec := "crewFull", apart := false, narrowed := true }
def CrewFullUptoSaid : Prop := crewFullUptoRow.holds Try.pinned (OpenSpec.upto crewFullSpec)

/-- 'staithelaw11.CrewPlaces', WHERE WHAT IT READS IS OF BULK AT MOST 1048576: true; the input reads as it did. -/
def crewPlacesUptoRow : OpenClaim := { program := "ytlfboploganglaa", sum := "eb3105e135a9d6b921e8fca493ac13c0fdac7f508ea2ee98802d5ee8117f979d", func := "staithe/staithelaw11.CrewPlaces", spec := "crewPlaces", apart := false, narrowed := true }
def CrewPlacesUptoSaid : Prop := crewPlacesUptoRow.holds Try.pinned (OpenSpec.upto crewPlacesSpec)

/-- 'staithelaw11.CrewSteps', WHERE WHAT IT READS IS OF BULK AT MOST 1048576: true; the input reads as it did. -/
def crewStepsUptoRow : OpenClaim := { program := "ytlfboploganglaa", sum := "eb3105e135a9d6b921e8fca493ac13c0fdac7f508ea2ee98802d5ee8117f979d", func := "staithe/staithelaw11.CrewSteps", spec := "crewSteps", apart := false, narrowed := true }
def CrewStepsUptoSaid : Prop := crewStepsUptoRow.holds Try.pinned (OpenSpec.upto crewStepsSpec)

/-- 'staithelaw11.CrewExits', WHERE WHAT IT READS IS OF BULK AT MOST 1048576: true; the input reads as it did. -/
def crewExitsUptoRow : OpenClaim := { program := "ytlfboploganglaa", sum := "eb3105e135a9d6b921e8fca493ac13c0fdac7f508ea2ee98802d5ee8117f979d", func := "staithe/staithelaw11.CrewExits", spec := "crewExits", apart := false, narrowed := true }
def CrewExitsUptoSaid : Prop := crewExitsUptoRow.holds Try.pinned (OpenSpec.upto crewExitsSpec)

/-- 'staithelaw11.CrewNil', WHERE WHAT IT READS IS OF BULK AT MOST 1048576: true; the input reads as it did. -/
def crewNilUptoRow : OpenClaim := { program := "ytlfboploganglaa", sum := "eb3105e135a9d6b921e8fca493ac13c0fdac7f508ea2ee98802d5ee8117f979d", func := "staithe/staithelaw11.CrewNil", spec := "crewNil", apart := false, narrowed := true }
def CrewNilUptoSaid : Prop := crewNilUptoRow.holds Try.pinned (OpenSpec.upto crewNilSpec)

end Rows
end Go.Proofs.Ytlfboploganglaa
