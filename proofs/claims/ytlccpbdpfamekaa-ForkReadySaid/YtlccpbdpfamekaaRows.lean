/-
  No cell of these rows narrows 'for every input' (looked for: loops, veiled, ifaces, maps, wideKeys, modest, calm, conditions, laid).
  DERIVED. THE GIVEN ROWS OF THIS SEAT. 8 by the template 'for every input the law returns true; each argument reads behind the call as it read before'; 0 by the template 'total and deterministic' (their statements: YtlccpbdpfamekaaTotals.lean).
  GIVEN WITH THE SEED: the statements are not yours to turn. If you find one false, say at which input.
  Laid BY PROGRAM, IN A SANDBOX (cutbox-rows.mjs): the forced cells as the released guide's own fill.sh prints them over the translation fa1272d01680f003… (all of the seat's roots in one cut). By AI agents, Wed Nov 11 2026. No macro, syntax, notation, axiom, sorry.
-/
import Derived.Test.YtlccpbdpfamekaaChecked
import GoSem.Claim
import GoSem.ClaimJoined
import GoSem.ClaimMapViews
import Derived.JoinedTies
import Derived.KernelRfl
namespace Go.Proofs.Ytlccpbdpfamekaa
/- THE CELL 'sum', in the pinned program and in every row, IS THE sha256 OF THE DUMP (.gsa) THAT YtlccpbdpfamekaaProg.lean LOADS. Nothing in Lean hashes anything: it is a label: what it is worth is what the hold of that sum in a sandbox is worth. -/
noncomputable def Try.pinned : Pinned := { name := "ytlccpbdpfamekaa", sum := "fa1272d01680f0031e1bc331319b0066694d9f287f6d95f78c706a59b45d7d2b", checked := Try.checked }
namespace Rows
def none {H : Type} : Left H := { results := [], args := [] }

/-- 'staithelaw09.PipeStill': WHATEVER THE INPUT: true; the input reads as it did. -/
def pipeStillSpec : ChangeSpec := { name := "pipeStill", fn := fun _ => fun
  | [d1, d2] => { results := [.lit (.bool true)], args := [d1, d2] }
  | _ => none }
def pipeStillRow : OpenClaim := { program := "ytlccpbdpfamekaa", sum := "fa1272d01680f0031e1bc331319b0066694d9f287f6d95f78c706a59b45d7d2b", func := "staithe/staithelaw09.PipeStill", spec := "pipeStill", unfollowed := true, recurses := true, apart := false }
def PipeStillSaid : Prop := pipeStillRow.holds Try.pinned (OpenSpec.ofChange pipeStillSpec)

/-- ITS FALSE NEIGHBOUR: 'it returns false'. Refute it at one input. -/
def pipeStillWrong : ChangeSpec := { name := "pipeStill", fn := fun _ => fun
  | [d1, d2] => { results := [.lit (.bool false)], args := [d1, d2] }
  | _ => none }
def PipeStillWrongFalsely : Prop := pipeStillRow.holds Try.pinned (OpenSpec.ofChange pipeStillWrong)

/-- 'staithelaw09.PipeSteps': WHATEVER THE INPUT: true; the input reads as it did. -/
def pipeStepsSpec : ChangeSpec := { name := "pipeSteps", fn := fun _ => fun
  | [d1, d2] => { results := [.lit (.bool true)], args := [d1, d2] }
  | _ => none }
def pipeStepsRow : OpenClaim := { program := "ytlccpbdpfamekaa", sum := "fa1272d01680f0031e1bc331319b0066694d9f287f6d95f78c706a59b45d7d2b", func := "staithe/staithelaw09.PipeSteps", spec := "pipeSteps", unfollowed := true, recurses := true, apart := false }
def PipeStepsSaid : Prop := pipeStepsRow.holds Try.pinned (OpenSpec.ofChange pipeStepsSpec)

/-- ITS FALSE NEIGHBOUR: 'it returns false'. Refute it at one input. -/
def pipeStepsWrong : ChangeSpec := { name := "pipeSteps", fn := fun _ => fun
  | [d1, d2] => { results := [.lit (.bool false)], args := [d1, d2] }
  | _ => none }
def PipeStepsWrongFalsely : Prop := pipeStepsRow.holds Try.pinned (OpenSpec.ofChange pipeStepsWrong)

/-- 'staithelaw09.PipeOrder': WHATEVER THE INPUT: true; the input reads as it did. -/
def pipeOrderSpec : ChangeSpec := { name := "pipeOrder", fn := fun _ => fun
  | [d1, d2] => { results := [.lit (.bool true)], args := [d1, d2] }
  | _ => none }
def pipeOrderRow : OpenClaim := { program := "ytlccpbdpfamekaa", sum := "fa1272d01680f0031e1bc331319b0066694d9f287f6d95f78c706a59b45d7d2b", func := "staithe/staithelaw09.PipeOrder", spec := "pipeOrder", unfollowed := true, recurses := true, apart := false }
def PipeOrderSaid : Prop := pipeOrderRow.holds Try.pinned (OpenSpec.ofChange pipeOrderSpec)

/-- ITS FALSE NEIGHBOUR: 'it returns false'. Refute it at one input. -/
def pipeOrderWrong : ChangeSpec := { name := "pipeOrder", fn := fun _ => fun
  | [d1, d2] => { results := [.lit (.bool false)], args := [d1, d2] }
  | _ => none }
def PipeOrderWrongFalsely : Prop := pipeOrderRow.holds Try.pinned (OpenSpec.ofChange pipeOrderWrong)

/-- 'staithelaw09.PipeNil': WHATEVER THE INPUT: true; the input reads as it did. -/
def pipeNilSpec : ChangeSpec := { name := "pipeNil", fn := fun _ => fun
  | [d1, d2] => { results := [.lit (.bool true)], args := [d1, d2] }
  | _ => none }
def pipeNilRow : OpenClaim := { program := "ytlccpbdpfamekaa", sum := "fa1272d01680f0031e1bc331319b0066694d9f287f6d95f78c706a59b45d7d2b", func := "staithe/staithelaw09.PipeNil", spec := "pipeNil", unfollowed := true, recurses := true, apart := false }
def PipeNilSaid : Prop := pipeNilRow.holds Try.pinned (OpenSpec.ofChange pipeNilSpec)

/-- ITS FALSE NEIGHBOUR: 'it returns false'. Refute it at one input. -/
def pipeNilWrong : ChangeSpec := { name := "pipeNil", fn := fun _ => fun
  | [d1, d2] => { results := [.lit (.bool false)], args := [d1, d2] }
  | _ => none }
def PipeNilWrongFalsely : Prop := pipeNilRow.holds Try.pinned (OpenSpec.ofChange pipeNilWrong)

/-- 'staithelaw09.PipeReady': WHATEVER THE INPUT: true; the input reads as it did. -/
def pipeReadySpec : ChangeSpec := { name := "pipeReady", fn := fun _ => fun
  | [d1, d2, d3] => { results := [.lit (.bool true)], args := [d1, d2, d3] }
  | _ => none }
def pipeReadyRow : OpenClaim := { program := "ytlccpbdpfamekaa", sum := "fa1272d01680f0031e1bc331319b0066694d9f287f6d95f78c706a59b45d7d2b", func := "staithe/staithelaw09.PipeReady", spec := "pipeReady", unfollowed := true, recurses := true, apart := false }
def PipeReadySaid : Prop := pipeReadyRow.holds Try.pinned (OpenSpec.ofChange pipeReadySpec)

/-- ITS FALSE NEIGHBOUR: 'it returns false'. Refute it at one input. -/
def pipeReadyWrong : ChangeSpec := { name := "pipeReady", fn := fun _ => fun
  | [d1, d2, d3] => { results := [.lit (.bool false)], args := [d1, d2, d3] }
  | _ => none }
def PipeReadyWrongFalsely : Prop := pipeReadyRow.holds Try.pinned (OpenSpec.ofChange pipeReadyWrong)

/-- 'staithelaw10.ForkSteps': WHATEVER THE INPUT: true; the input reads as it did. -/
def forkStepsSpec : ChangeSpec := { name := "forkSteps", fn := fun _ => fun
  | [d1, d2] => { results := [.lit (.bool true)], args := [d1, d2] }
  | _ => none }
def forkStepsRow : OpenClaim := { program := "ytlccpbdpfamekaa", sum := "fa1272d01680f0031e1bc331319b0066694d9f287f6d95f78c706a59b45d7d2b", func := "staithe/staithelaw10.ForkSteps", spec := "forkSteps", unfollowed := true, recurses := true, apart := false }
def ForkStepsSaid : Prop := forkStepsRow.holds Try.pinned (OpenSpec.ofChange forkStepsSpec)

/-- ITS FALSE NEIGHBOUR: 'it returns false'. Refute it at one input. -/
def forkStepsWrong : ChangeSpec := { name := "forkSteps", fn := fun _ => fun
  | [d1, d2] => { results := [.lit (.bool false)], args := [d1, d2] }
  | _ => none }
def ForkStepsWrongFalsely : Prop := forkStepsRow.holds Try.pinned (OpenSpec.ofChange forkStepsWrong)

/-- 'staithelaw10.ForkBack': WHATEVER THE INPUT: true; the input reads as it did. -/
def forkBackSpec : ChangeSpec := { name := "forkBack", fn := fun _ => fun
  | [d1, d2, d3] => { results := [.lit (.bool true)], args := [d1, d2, d3] }
  | _ => none }
def forkBackRow : OpenClaim := { program := "ytlccpbdpfamekaa", sum := "fa1272d01680f0031e1bc331319b0066694d9f287f6d95f78c706a59b45d7d2b", func := "staithe/staithelaw10.ForkBack", spec := "forkBack", unfollowed := true, recurses := true, apart := false }
def ForkBackSaid : Prop := forkBackRow.holds Try.pinned (OpenSpec.ofChange forkBackSpec)

/-- ITS FALSE NEIGHBOUR: 'it returns false'. Refute it at one input. -/
def forkBackWrong : ChangeSpec := { name := "forkBack", fn := fun _ => fun
  | [d1, d2, d3] => { results := [.lit (.bool false)], args := [d1, d2, d3] }
  | _ => none }
def ForkBackWrongFalsely : Prop := forkBackRow.holds Try.pinned (OpenSpec.ofChange forkBackWrong)

/-- 'staithelaw10.ForkReady': WHATEVER THE INPUT: true; the input reads as it did. -/
def forkReadySpec : ChangeSpec := { name := "forkReady", fn := fun _ => fun
  | [d1, d2, d3] => { results := [.lit (.bool true)], args := [d1, d2, d3] }
  | _ => none }
def forkReadyRow : OpenClaim := { program := "ytlccpbdpfamekaa", sum := "fa1272d01680f0031e1bc331319b0066694d9f287f6d95f78c706a59b45d7d2b", func := "staithe/staithelaw10.ForkReady", spec := "forkReady", unfollowed := true, recurses := true, apart := false }
def ForkReadySaid : Prop := forkReadyRow.holds Try.pinned (OpenSpec.ofChange forkReadySpec)

/-- ITS FALSE NEIGHBOUR: 'it returns false'. Refute it at one input. -/
def forkReadyWrong : ChangeSpec := { name := "forkReady", fn := fun _ => fun
  | [d1, d2, d3] => { results := [.lit (.bool false)], args := [d1, d2, d3] }
  | _ => none }
def ForkReadyWrongFalsely : Prop := forkReadyRow.holds Try.pinned (OpenSpec.ofChange forkReadyWrong)

/- THE SECOND FORM. 'bulk': how many values and letters a reading holds, each counted each time it is reached (what is shared counts as often as it is met; a slice's spare places count too). A statement '..UptoSaid' is the law's where the arguments, and the package variables that the reading takes, are together of bulk at most 1048576: NARROWER than '..Said'. Prove '..Said' where nothing that the law and all that it calls make is longer than what came in: it says more and counts as full. Else prove '..UptoSaid'. A law counts once. -/
mutual
def uptoBulk {H : Type} : DataW H → Nat
  | .lit (.string bytes) => bytes.length + 1
  | .lit _ => 1
  | .nil => 1
  | .ptr d => uptoBulk d + 1
  | .slice elems spare => uptoBulkAll elems + uptoBulkAll spare + 1
  | .agg parts => uptoBulkAll parts + 1
  | .iface _ d => uptoBulk d + 1
  | .map entries => uptoBulkEntries entries + 1
  | .held _ => 1
def uptoBulkAll {H : Type} : List (DataW H) → Nat
  | [] => 0
  | d :: r => uptoBulk d + uptoBulkAll r
def uptoBulkEntries {H : Type} : List (Lit × DataW H) → Nat
  | [] => 0
  | x :: r => uptoBulkEntry x + uptoBulkEntries r
def uptoBulkEntry {H : Type} : Lit × DataW H → Nat
  | (.string bytes, d) => bytes.length + uptoBulk d + 1
  | (_, d) => uptoBulk d + 1
 end
def uptoSmall : (H : Type) → List (DataW H) → Bool := fun _ ds => decide (uptoBulkAll ds ≤ 1048576)
def OpenSpec.upto (s : _root_.Go.ChangeSpec) : _root_.Go.OpenSpec := { _root_.Go.OpenSpec.ofChange s with cond := some uptoSmall }

/-- 'staithelaw09.PipeStill', WHERE WHAT IT READS IS OF BULK AT MOST 1048576: true; the input reads as it did. -/
def pipeStillUptoRow : OpenClaim := { program := "ytlccpbdpfamekaa", sum := "fa1272d01680f0031e1bc331319b0066694d9f287f6d95f78c706a59b45d7d2b", func := "staithe/staithelaw09.PipeStill", spec := "pipeStill", unfollowed := true, recurses := true, apart := false, narrowed := true }
def PipeStillUptoSaid : Prop := pipeStillUptoRow.holds Try.pinned (OpenSpec.upto pipeStillSpec)

/-- 'staithelaw09.PipeSteps', WHERE WHAT IT READS IS OF BULK AT MOST 1048576: true; the input reads as it did. -/
def pipeStepsUptoRow : OpenClaim := { program := "ytlccpbdpfamekaa", sum := "fa1272d01680f0031e1bc331319b0066694d9f287f6d95f78c706a59b45d7d2b", func := "staithe/staithelaw09.PipeSteps", spec := "pipeSteps", unfollowed := true, recurses := true, apart := false, narrowed := true }
def PipeStepsUptoSaid : Prop := pipeStepsUptoRow.holds Try.pinned (OpenSpec.upto pipeStepsSpec)

/-- 'staithelaw09.PipeOrder', WHERE WHAT IT READS IS OF BULK AT MOST 1048576: true; the input reads as it did. -/
def pipeOrderUptoRow : OpenClaim := { program := "ytlccpbdpfamekaa", sum := "fa1272d01680f0031e1bc331319b0066694d9f287f6d95f78c706a59b45d7d2b", func := "staithe/staithelaw09.PipeOrder", spec := "pipeOrder", unfollowed := true, recurses := true, apart := false, narrowed := true }
def PipeOrderUptoSaid : Prop := pipeOrderUptoRow.holds Try.pinned (OpenSpec.upto pipeOrderSpec)

/-- 'staithelaw09.PipeNil', WHERE WHAT IT READS IS OF BULK AT MOST 1048576: true; the input reads as it did. -/
def pipeNilUptoRow : OpenClaim := { program := "ytlccpbdpfamekaa", sum := "fa1272d01680f0031e1bc331319b0066694d9f287f6d95f78c706a59b45d7d2b", func := "staithe/staithelaw09.PipeNil", spec := "pipeNil", unfollowed := true, recurses := true, apart := false, narrowed := true }
def PipeNilUptoSaid : Prop := pipeNilUptoRow.holds Try.pinned (OpenSpec.upto pipeNilSpec)

/-- 'staithelaw09.PipeReady', WHERE WHAT IT READS IS OF BULK AT MOST 1048576: true; the input reads as it did. -/
def pipeReadyUptoRow : OpenClaim := { program := "ytlccpbdpfamekaa", sum := "fa1272d01680f0031e1bc331319b0066694d9f287f6d95f78c706a59b45d7d2b", func := "staithe/staithelaw09.PipeReady", spec := "pipeReady", unfollowed := true, recurses := true, apart := false, narrowed := true }
def PipeReadyUptoSaid : Prop := pipeReadyUptoRow.holds Try.pinned (OpenSpec.upto pipeReadySpec)

/-- 'staithelaw10.ForkSteps', WHERE WHAT IT READS IS OF BULK AT MOST 1048576: true; the input reads as it did. -/
def forkStepsUptoRow : OpenClaim := { program := "ytlccpbdpfamekaa", sum := "fa1272d01680f0031e1bc331319b0066694d9f287f6d95f78c706a59b45d7d2b", func := "staithe/staithelaw10.ForkSteps", spec := "forkSteps", unfollowed := true, recurses := true, apart := false, narrowed := true }
def ForkStepsUptoSaid : Prop := forkStepsUptoRow.holds Try.pinned (OpenSpec.upto forkStepsSpec)

/-- 'staithelaw10.ForkBack', WHERE WHAT IT READS IS OF BULK AT MOST 1048576: true; the input reads as it did. -/
def forkBackUptoRow : OpenClaim := { program := "ytlccpbdpfamekaa", sum := "fa1272d01680f0031e1bc331319b0066694d9f287f6d95f78c706a59b45d7d2b", func := "staithe/staithelaw10.ForkBack", spec := "forkBack", unfollowed := true, recurses := true, apart := false, narrowed := true }
def ForkBackUptoSaid : Prop := forkBackUptoRow.holds Try.pinned (OpenSpec.upto forkBackSpec)

/-- 'staithelaw10.ForkReady', WHERE WHAT IT READS IS OF BULK AT MOST 1048576: true; the input reads as it did. -/
def forkReadyUptoRow : OpenClaim := { program := "ytlccpbdpfamekaa", sum := "fa1272d01680f0031e1bc331319b0066694d9f287f6d95f78c706a59b45d7d2b", func := "staithe/staithelaw10.ForkReady", spec := "forkReady", unfollowed := true, recurses := true, apart := false, narrowed := true }
def ForkReadyUptoSaid : Prop := forkReadyUptoRow.holds Try.pinned (OpenSpec.upto forkReadySpec)

end Rows
end Go.Proofs.Ytlccpbdpfamekaa
