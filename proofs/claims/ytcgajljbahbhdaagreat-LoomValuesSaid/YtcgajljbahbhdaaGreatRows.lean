/-
  No cell of these rows narrows 'for every input' (looked for: loops, veiled, ifaces, maps, wideKeys, modest, calm, conditions, laid).
  DERIVED. THE GIVEN ROWS OF THIS SEAT. 7 by the template 'for every input the law returns true; each argument reads behind the call as it read before'; 0 by the template 'total and deterministic' (their statements: YtcgajljbahbhdaaGreatTotals.lean).
  GIVEN WITH THE SEED: the statements are not yours to turn. If you find one false, say at which input.
  Laid BY PROGRAM, IN A SANDBOX (cutbox-rows.mjs): the forced cells as the released guide's own fill.sh prints them over the translation e93d3a6ad1999e0d… (all of the seat's roots in one cut). By AI agents, Wed Nov 11 2026. No macro, syntax, notation, axiom, sorry.
-/
import Derived.Test.YtcgajljbahbhdaaGreatChecked
import GoSem.Claim
import GoSem.ClaimJoined
import GoSem.ClaimMapViews
import Derived.JoinedTies
import Derived.KernelRfl
namespace Go.Proofs.YtcgajljbahbhdaaGreat
/- THE CELL 'sum', in the pinned program and in every row, IS THE sha256 OF THE DUMP (.gsa) THAT YtcgajljbahbhdaaGreatProg.lean LOADS. Nothing in Lean hashes anything: it is a label: what it is worth is what the hold of that sum in a sandbox is worth. -/
noncomputable def Tryz.pinned : Pinned := { name := "ytcgajljbahbhdaagreat", sum := "e93d3a6ad1999e0d40163b885dc5d5b54b3915a54a44139be16b5927928b1aa6", checked := Tryz.checked }
namespace Rows
def none {H : Type} : Left H := { results := [], args := [] }

/-- 'staithelaw13.LoomRuns': WHATEVER THE INPUT: true; the input reads as it did. -/
def loomRunsSpec : ChangeSpec := { name := "loomRuns", fn := fun _ => fun
  | [d] => { results := [.lit (.bool true)], args := [d] }
  | _ => none }
def loomRunsRow : OpenClaim := { program := "ytcgajljbahbhdaagreat", sum := "e93d3a6ad1999e0d40163b885dc5d5b54b3915a54a44139be16b5927928b1aa6", func := "staithe/staithelaw13.LoomRuns", spec := "loomRuns", unfollowed := true, recurses := true, apart := false }
def LoomRunsSaid : Prop := loomRunsRow.holds Tryz.pinned (OpenSpec.ofChange loomRunsSpec)

/-- ITS FALSE NEIGHBOUR: 'it returns false'. Refute it at one input. -/
def loomRunsWrong : ChangeSpec := { name := "loomRuns", fn := fun _ => fun
  | [d] => { results := [.lit (.bool false)], args := [d] }
  | _ => none }
def LoomRunsWrongFalsely : Prop := loomRunsRow.holds Tryz.pinned (OpenSpec.ofChange loomRunsWrong)

/-- 'staithelaw13.LoomValues': WHATEVER THE INPUT: true; the input reads as it did. -/
def loomValuesSpec : ChangeSpec := { name := "loomValues", fn := fun _ => fun
  | [d] => { results := [.lit (.bool true)], args := [d] }
  | _ => none }
def loomValuesRow : OpenClaim := { program := "ytcgajljbahbhdaagreat", sum := "e93d3a6ad1999e0d40163b885dc5d5b54b3915a54a44139be16b5927928b1aa6", func := "staithe/staithelaw13.LoomValues", spec := "loomValues", unfollowed := true, recurses := true, apart := false }
def LoomValuesSaid : Prop := loomValuesRow.holds Tryz.pinned (OpenSpec.ofChange loomValuesSpec)

/-- ITS FALSE NEIGHBOUR: 'it returns false'. Refute it at one input. -/
def loomValuesWrong : ChangeSpec := { name := "loomValues", fn := fun _ => fun
  | [d] => { results := [.lit (.bool false)], args := [d] }
  | _ => none }
def LoomValuesWrongFalsely : Prop := loomValuesRow.holds Tryz.pinned (OpenSpec.ofChange loomValuesWrong)

/-- 'staithelaw13.LoomBegins': WHATEVER THE INPUT: true; the input reads as it did. -/
def loomBeginsSpec : ChangeSpec := { name := "loomBegins", fn := fun _ => fun
  | [d1, d2] => { results := [.lit (.bool true)], args := [d1, d2] }
  | _ => none }
def loomBeginsRow : OpenClaim := { program := "ytcgajljbahbhdaagreat", sum := "e93d3a6ad1999e0d40163b885dc5d5b54b3915a54a44139be16b5927928b1aa6", func := "staithe/staithelaw13.LoomBegins", spec := "loomBegins", unfollowed := true, recurses := true, apart := false }
def LoomBeginsSaid : Prop := loomBeginsRow.holds Tryz.pinned (OpenSpec.ofChange loomBeginsSpec)

/-- ITS FALSE NEIGHBOUR: 'it returns false'. Refute it at one input. -/
def loomBeginsWrong : ChangeSpec := { name := "loomBegins", fn := fun _ => fun
  | [d1, d2] => { results := [.lit (.bool false)], args := [d1, d2] }
  | _ => none }
def LoomBeginsWrongFalsely : Prop := loomBeginsRow.holds Tryz.pinned (OpenSpec.ofChange loomBeginsWrong)

/-- 'staithelaw13.LoomDraws': WHATEVER THE INPUT: true; the input reads as it did. -/
def loomDrawsSpec : ChangeSpec := { name := "loomDraws", fn := fun _ => fun
  | [d1, d2] => { results := [.lit (.bool true)], args := [d1, d2] }
  | _ => none }
def loomDrawsRow : OpenClaim := { program := "ytcgajljbahbhdaagreat", sum := "e93d3a6ad1999e0d40163b885dc5d5b54b3915a54a44139be16b5927928b1aa6", func := "staithe/staithelaw13.LoomDraws", spec := "loomDraws", unfollowed := true, recurses := true, apart := false }
def LoomDrawsSaid : Prop := loomDrawsRow.holds Tryz.pinned (OpenSpec.ofChange loomDrawsSpec)

/-- ITS FALSE NEIGHBOUR: 'it returns false'. Refute it at one input. -/
def loomDrawsWrong : ChangeSpec := { name := "loomDraws", fn := fun _ => fun
  | [d1, d2] => { results := [.lit (.bool false)], args := [d1, d2] }
  | _ => none }
def LoomDrawsWrongFalsely : Prop := loomDrawsRow.holds Tryz.pinned (OpenSpec.ofChange loomDrawsWrong)

/-- 'staithelaw13.LoomSteps': WHATEVER THE INPUT: true; the input reads as it did. -/
def loomStepsSpec : ChangeSpec := { name := "loomSteps", fn := fun _ => fun
  | [d] => { results := [.lit (.bool true)], args := [d] }
  | _ => none }
def loomStepsRow : OpenClaim := { program := "ytcgajljbahbhdaagreat", sum := "e93d3a6ad1999e0d40163b885dc5d5b54b3915a54a44139be16b5927928b1aa6", func := "staithe/staithelaw13.LoomSteps", spec := "loomSteps", unfollowed := true, recurses := true, apart := false }
def LoomStepsSaid : Prop := loomStepsRow.holds Tryz.pinned (OpenSpec.ofChange loomStepsSpec)

/-- ITS FALSE NEIGHBOUR: 'it returns false'. Refute it at one input. -/
def loomStepsWrong : ChangeSpec := { name := "loomSteps", fn := fun _ => fun
  | [d] => { results := [.lit (.bool false)], args := [d] }
  | _ => none }
def LoomStepsWrongFalsely : Prop := loomStepsRow.holds Tryz.pinned (OpenSpec.ofChange loomStepsWrong)

/-- 'staithelaw13.LoomNil': WHATEVER THE INPUT: true; the input reads as it did. -/
def loomNilSpec : ChangeSpec := { name := "loomNil", fn := fun _ => fun
  | [d] => { results := [.lit (.bool true)], args := [d] }
  | _ => none }
def loomNilRow : OpenClaim := { program := "ytcgajljbahbhdaagreat", sum := "e93d3a6ad1999e0d40163b885dc5d5b54b3915a54a44139be16b5927928b1aa6", func := "staithe/staithelaw13.LoomNil", spec := "loomNil", unfollowed := true, recurses := true, apart := false }
def LoomNilSaid : Prop := loomNilRow.holds Tryz.pinned (OpenSpec.ofChange loomNilSpec)

/-- ITS FALSE NEIGHBOUR: 'it returns false'. Refute it at one input. -/
def loomNilWrong : ChangeSpec := { name := "loomNil", fn := fun _ => fun
  | [d] => { results := [.lit (.bool false)], args := [d] }
  | _ => none }
def LoomNilWrongFalsely : Prop := loomNilRow.holds Tryz.pinned (OpenSpec.ofChange loomNilWrong)

/-- 'staithelaw13.LoomCompacts': WHATEVER THE INPUT: true; the input reads as it did. -/
def loomCompactsSpec : ChangeSpec := { name := "loomCompacts", fn := fun _ => fun
  | [d] => { results := [.lit (.bool true)], args := [d] }
  | _ => none }
def loomCompactsRow : OpenClaim := { program := "ytcgajljbahbhdaagreat", sum := "e93d3a6ad1999e0d40163b885dc5d5b54b3915a54a44139be16b5927928b1aa6", func := "staithe/staithelaw13.LoomCompacts", spec := "loomCompacts", unfollowed := true, recurses := true, apart := false }
def LoomCompactsSaid : Prop := loomCompactsRow.holds Tryz.pinned (OpenSpec.ofChange loomCompactsSpec)

/-- ITS FALSE NEIGHBOUR: 'it returns false'. Refute it at one input. -/
def loomCompactsWrong : ChangeSpec := { name := "loomCompacts", fn := fun _ => fun
  | [d] => { results := [.lit (.bool false)], args := [d] }
  | _ => none }
def LoomCompactsWrongFalsely : Prop := loomCompactsRow.holds Tryz.pinned (OpenSpec.ofChange loomCompactsWrong)

/- THE SECOND FORM. 'bulk': how many values and letters a reading holds, each counted each time it is reached (what is shared counts as often as it is met; a slice's spare places count too). A statement '..UptoSaid' is the law's where the arguments, and the package variables that the reading takes, are together of bulk at most 1048576: NARROWER than '..Said'. Prove '..Said' where nothing that the law and all that it calls make is longer than what came in: it says more and counts as full. Else prove '..UptoSaid'. A law counts once. -/
mutual
def uptoBulk {H : Type} : DataW H → Nat
  | .lit (.string bytes) => bytes.length + 1
  | .lit _ => 1
  | .nil => 1
  | .ptr d => uptoBulk d + 1
  | .slice elems spare => uptoBulkAll elems + uptoBulkAll spare + 1
  | .agg parts => uptoBulkAll parts + 1
  | .iface _ d => uptoBulk d + 1
  | .map entries => uptoBulkEntries entries + 1
  | .held _ => 1
def uptoBulkAll {H : Type} : List (DataW H) → Nat
  | [] => 0
  | d :: r => uptoBulk d + uptoBulkAll r
def uptoBulkEntries {H : Type} : List (Lit × DataW H) → Nat
  | [] => 0
  | x :: r => uptoBulkEntry x + uptoBulkEntries r
def uptoBulkEntry {H : Type} : Lit × DataW H → Nat
  | (.string bytes, d) => bytes.length + uptoBulk d + 1
  | (_, d) => uptoBulk d + 1
 end
def uptoSmall : (H : Type) → List (DataW H) → Bool := fun _ ds => decide (uptoBulkAll ds ≤ 1048576)
def OpenSpec.upto (s : _root_.Go.ChangeSpec) : _root_.Go.OpenSpec := { _root_.Go.OpenSpec.ofChange s with cond := some uptoSmall }

/-- 'staithelaw13.LoomRuns', WHERE WHAT IT READS IS OF BULK AT MOST 1048576: true; the input reads as it did. -/
def loomRunsUptoRow : OpenClaim := { program := "ytcgajljbahbhdaagreat", sum := "e93d3a6ad1999e0d40163b885dc5d5b54b3915a54a44139be16b5927928b1aa6", func := "staithe/staithelaw13.LoomRuns", spec := "loomRuns", unfollowed := true, recurses := true, apart := false, narrowed := true }
def LoomRunsUptoSaid : Prop := loomRunsUptoRow.holds Tryz.pinned (OpenSpec.upto loomRunsSpec)

/-- 'staithelaw13.LoomValues', WHERE WHAT IT READS IS OF BULK AT MOST 1048576: true; the input reads as it did. -/
def loomValuesUptoRow : OpenClaim := { program := "ytcgajljbahbhdaagreat", sum := "e93d3a6ad1999e0d40163b885dc5d5b54b3915a54a44139be16b5927928b1aa6", func := "staithe/staithelaw13.LoomValues", spec := "loomValues", unfollowed := true, recurses := true, apart := false, narrowed := true }
def LoomValuesUptoSaid : Prop := loomValuesUptoRow.holds Tryz.pinned (OpenSpec.upto loomValuesSpec)

/-- 'staithelaw13.LoomBegins', WHERE WHAT IT READS IS OF BULK AT MOST 1048576: true; the input reads as it did. -/
def loomBeginsUptoRow : OpenClaim := { program := "ytcgajljbahbhdaagreat", sum := "e93d3a6ad1999e0d40163b885dc5d5b54b3915a54a44139be16b5927928b1aa6", func := "staithe/staithelaw13.LoomBegins", spec := "loomBegins", unfollowed := true, recurses := true, apart := false, narrowed := true }
def LoomBeginsUptoSaid : Prop := loomBeginsUptoRow.holds Tryz.pinned (OpenSpec.upto loomBeginsSpec)

/-- 'staithelaw13.LoomDraws', WHERE WHAT IT READS IS OF BULK AT MOST 1048576: true; the input reads as it did. -/
def loomDrawsUptoRow : OpenClaim := { program := "ytcgajljbahbhdaagreat", sum := "e93d3a6ad1999e0d40163b885dc5d5b54b3915a54a44139be16b5927928b1aa6", func := "staithe/staithelaw13.LoomDraws", spec := "loomDraws", unfollowed := true, recurses := true, apart := false, narrowed := true }
def LoomDrawsUptoSaid : Prop := loomDrawsUptoRow.holds Tryz.pinned (OpenSpec.upto loomDrawsSpec)

/-- 'staithelaw13.LoomSteps', WHERE WHAT IT READS IS OF BULK AT MOST 1048576: true; the input reads as it did. -/
def loomStepsUptoRow : OpenClaim := { program := "ytcgajljbahbhdaagreat", sum := "e93d3a6ad1999e0d40163b885dc5d5b54b3915a54a44139be16b5927928b1aa6", func := "staithe/staithelaw13.LoomSteps", spec := "loomSteps", unfollowed := true, recurses := true, apart := false, narrowed := true }
def LoomStepsUptoSaid : Prop := loomStepsUptoRow.holds Tryz.pinned (OpenSpec.upto loomStepsSpec)

/-- 'staithelaw13.LoomNil', WHERE WHAT IT READS IS OF BULK AT MOST 1048576: true; the input reads as it did. -/
def loomNilUptoRow : OpenClaim := { program := "ytcgajljbahbhdaagreat", sum := "e93d3a6ad1999e0d40163b885dc5d5b54b3915a54a44139be16b5927928b1aa6", func := "staithe/staithelaw13.LoomNil", spec := "loomNil", unfollowed := true, recurses := true, apart := false, narrowed := true }
def LoomNilUptoSaid : Prop := loomNilUptoRow.holds Tryz.pinned (OpenSpec.upto loomNilSpec)

/-- 'staithelaw13.LoomCompacts', WHERE WHAT IT READS IS OF BULK AT MOST 1048576: true; the input reads as it did. -/
def loomCompactsUptoRow : OpenClaim := { program := "ytcgajljbahbhdaagreat", sum := "e93d3a6ad1999e0d40163b885dc5d5b54b3915a54a44139be16b5927928b1aa6", func := "staithe/staithelaw13.LoomCompacts", spec := "loomCompacts", unfollowed := true, recurses := true, apart := false, narrowed := true }
def LoomCompactsUptoSaid : Prop := loomCompactsUptoRow.holds Tryz.pinned (OpenSpec.upto loomCompactsSpec)

end Rows
end Go.Proofs.YtcgajljbahbhdaaGreat
