/-
  No cell of these rows narrows 'for every input' (looked for: loops, veiled, ifaces, maps, wideKeys, modest, calm, conditions, laid).
  DERIVED. THE GIVEN ROWS OF THIS SEAT. 6 by the template 'for every input the law returns true; each argument reads behind the call as it read before'; 0 by the template 'total and deterministic' (their statements: YtndpecjkoffebaaTotals.lean).
  GIVEN WITH THE SEED: the statements are not yours to turn. If you find one false, say at which input.
  Laid BY PROGRAM, IN A SANDBOX (cutbox-rows.mjs): the forced cells as the released guide's own fill.sh prints them over the translation 5bd9310f36bacc74… (all of the seat's roots in one cut). By AI agents, Wed Nov 11 2026. No macro, syntax, notation, axiom, sorry.
-/
import Derived.Test.YtndpecjkoffebaaChecked
import GoSem.Claim
import GoSem.ClaimJoined
import GoSem.ClaimMapViews
import Derived.JoinedTies
import Derived.KernelRfl
namespace Go.Proofs.Ytndpecjkoffebaa
/- THE CELL 'sum', in the pinned program and in every row, IS THE sha256 OF THE DUMP (.gsa) THAT YtndpecjkoffebaaProg.lean LOADS. Nothing in Lean hashes anything: it is a label: what it is worth is what the hold of that sum in a sandbox is worth. -/
noncomputable def Try.pinned : Pinned := { name := "ytndpecjkoffebaa", sum := "5bd9310f36bacc74eb64027b0e15e95e470dd6cc3923a08e761fe5aaa50f5b0d", checked := Try.checked }
namespace Rows
def none {H : Type} : Left H := { results := [], args := [] }

/-- 'faaslaw42.ScaleSteps': WHATEVER THE INPUT: true; the input reads as it did. -/
def scaleStepsSpec : ChangeSpec := { name := "scaleSteps", fn := fun _ => fun
  | [d1, d2, d3, d4] => { results := [.lit (.bool true)], args := [d1, d2, d3, d4] }
  | _ => none }
def scaleStepsRow : OpenClaim := { program := "ytndpecjkoffebaa", sum := "5bd9310f36bacc74eb64027b0e15e95e470dd6cc3923a08e761fe5aaa50f5b0d", func := "faas/faaslaw42.ScaleSteps", spec := "scaleSteps", unfollowed := true, recurses := true, apart := false }
def ScaleStepsSaid : Prop := scaleStepsRow.holds Try.pinned (OpenSpec.ofChange scaleStepsSpec)

/-- ITS FALSE NEIGHBOUR: 'it returns false'. Refute it at one input. -/
def scaleStepsWrong : ChangeSpec := { name := "scaleSteps", fn := fun _ => fun
  | [d1, d2, d3, d4] => { results := [.lit (.bool false)], args := [d1, d2, d3, d4] }
  | _ => none }
def ScaleStepsWrongFalsely : Prop := scaleStepsRow.holds Try.pinned (OpenSpec.ofChange scaleStepsWrong)

/-- 'faaslaw42.ScalePlays': WHATEVER THE INPUT: true; the input reads as it did. -/
def scalePlaysSpec : ChangeSpec := { name := "scalePlays", fn := fun _ => fun
  | [d1, d2, d3, d4] => { results := [.lit (.bool true)], args := [d1, d2, d3, d4] }
  | _ => none }
def scalePlaysRow : OpenClaim := { program := "ytndpecjkoffebaa", sum := "5bd9310f36bacc74eb64027b0e15e95e470dd6cc3923a08e761fe5aaa50f5b0d", func := "faas/faaslaw42.ScalePlays", spec := "scalePlays", unfollowed := true, recurses := true, apart := false }
def ScalePlaysSaid : Prop := scalePlaysRow.holds Try.pinned (OpenSpec.ofChange scalePlaysSpec)

/-- ITS FALSE NEIGHBOUR: 'it returns false'. Refute it at one input. -/
def scalePlaysWrong : ChangeSpec := { name := "scalePlays", fn := fun _ => fun
  | [d1, d2, d3, d4] => { results := [.lit (.bool false)], args := [d1, d2, d3, d4] }
  | _ => none }
def ScalePlaysWrongFalsely : Prop := scalePlaysRow.holds Try.pinned (OpenSpec.ofChange scalePlaysWrong)

/-- 'faaslaw42.ScaleWithinBounds': WHATEVER THE INPUT: true; the input reads as it did. -/
def scaleWithinBoundsSpec : ChangeSpec := { name := "scaleWithinBounds", fn := fun _ => fun
  | [d1, d2, d3, d4] => { results := [.lit (.bool true)], args := [d1, d2, d3, d4] }
  | _ => none }
def scaleWithinBoundsRow : OpenClaim := { program := "ytndpecjkoffebaa", sum := "5bd9310f36bacc74eb64027b0e15e95e470dd6cc3923a08e761fe5aaa50f5b0d", func := "faas/faaslaw42.ScaleWithinBounds", spec := "scaleWithinBounds", unfollowed := true, recurses := true, apart := false }
def ScaleWithinBoundsSaid : Prop := scaleWithinBoundsRow.holds Try.pinned (OpenSpec.ofChange scaleWithinBoundsSpec)

/-- ITS FALSE NEIGHBOUR: 'it returns false'. Refute it at one input. -/
def scaleWithinBoundsWrong : ChangeSpec := { name := "scaleWithinBounds", fn := fun _ => fun
  | [d1, d2, d3, d4] => { results := [.lit (.bool false)], args := [d1, d2, d3, d4] }
  | _ => none }
def ScaleWithinBoundsWrongFalsely : Prop := scaleWithinBoundsRow.holds Try.pinned (OpenSpec.ofChange scaleWithinBoundsWrong)

/-- 'faaslaw42.ScaleCools': WHATEVER THE INPUT: true; the input reads as it did. -/
def scaleCoolsSpec : ChangeSpec := { name := "scaleCools", fn := fun _ => fun
  | [d1, d2] => { results := [.lit (.bool true)], args := [d1, d2] }
  | _ => none }
def scaleCoolsRow : OpenClaim := { program := "ytndpecjkoffebaa", sum := "5bd9310f36bacc74eb64027b0e15e95e470dd6cc3923a08e761fe5aaa50f5b0d", func := "faas/faaslaw42.ScaleCools", spec := "scaleCools", unfollowed := true, recurses := true, apart := false }
def ScaleCoolsSaid : Prop := scaleCoolsRow.holds Try.pinned (OpenSpec.ofChange scaleCoolsSpec)

/-- ITS FALSE NEIGHBOUR: 'it returns false'. Refute it at one input. -/
def scaleCoolsWrong : ChangeSpec := { name := "scaleCools", fn := fun _ => fun
  | [d1, d2] => { results := [.lit (.bool false)], args := [d1, d2] }
  | _ => none }
def ScaleCoolsWrongFalsely : Prop := scaleCoolsRow.holds Try.pinned (OpenSpec.ofChange scaleCoolsWrong)

/-- 'faaslaw42.ScaleRises': WHATEVER THE INPUT: true; the input reads as it did. -/
def scaleRisesSpec : ChangeSpec := { name := "scaleRises", fn := fun _ => fun
  | [d1, d2, d3] => { results := [.lit (.bool true)], args := [d1, d2, d3] }
  | _ => none }
def scaleRisesRow : OpenClaim := { program := "ytndpecjkoffebaa", sum := "5bd9310f36bacc74eb64027b0e15e95e470dd6cc3923a08e761fe5aaa50f5b0d", func := "faas/faaslaw42.ScaleRises", spec := "scaleRises", unfollowed := true, recurses := true, apart := false }
def ScaleRisesSaid : Prop := scaleRisesRow.holds Try.pinned (OpenSpec.ofChange scaleRisesSpec)

/-- ITS FALSE NEIGHBOUR: 'it returns false'. Refute it at one input. -/
def scaleRisesWrong : ChangeSpec := { name := "scaleRises", fn := fun _ => fun
  | [d1, d2, d3] => { results := [.lit (.bool false)], args := [d1, d2, d3] }
  | _ => none }
def ScaleRisesWrongFalsely : Prop := scaleRisesRow.holds Try.pinned (OpenSpec.ofChange scaleRisesWrong)

/-- 'faaslaw42.ScaleSettles': WHATEVER THE INPUT: true; the input reads as it did. -/
def scaleSettlesSpec : ChangeSpec := { name := "scaleSettles", fn := fun _ => fun
  | [d1, d2, d3] => { results := [.lit (.bool true)], args := [d1, d2, d3] }
  | _ => none }
def scaleSettlesRow : OpenClaim := { program := "ytndpecjkoffebaa", sum := "5bd9310f36bacc74eb64027b0e15e95e470dd6cc3923a08e761fe5aaa50f5b0d", func := "faas/faaslaw42.ScaleSettles", spec := "scaleSettles", unfollowed := true, recurses := true, apart := false }
def ScaleSettlesSaid : Prop := scaleSettlesRow.holds Try.pinned (OpenSpec.ofChange scaleSettlesSpec)

/-- ITS FALSE NEIGHBOUR: 'it returns false'. Refute it at one input. -/
def scaleSettlesWrong : ChangeSpec := { name := "scaleSettles", fn := fun _ => fun
  | [d1, d2, d3] => { results := [.lit (.bool false)], args := [d1, d2, d3] }
  | _ => none }
def ScaleSettlesWrongFalsely : Prop := scaleSettlesRow.holds Try.pinned (OpenSpec.ofChange scaleSettlesWrong)

/- THE SECOND FORM. 'bulk': how many values and letters a reading holds, each counted each time it is reached (what is shared counts as often as it is met; a slice's spare places count too). A statement '..UptoSaid' is the law's where the arguments, and the package variables that the reading takes, are together of bulk at most 1048576: NARROWER than '..Said'. Prove '..Said' where nothing that the law and all that it calls make is longer than what came in: it says more and counts as full. Else prove '..UptoSaid'. A law counts once. -/
mutual
def uptoBulk {H : Type} : DataW H → Nat
  | .lit (.string bytes) => bytes.length + 1
  | .lit _ => 1
  | .nil => 1
  | .ptr d => uptoBulk d + 1
  | .slice elems spare => uptoBulkAll elems + uptoBulkAll spare + 1
  | .agg parts => uptoBulkAll parts + 1
  | .iface _ d => uptoBulk d + 1
  | .map entries => uptoBulkEntries entries + 1
  | .held _ => 1
def uptoBulkAll {H : Type} : List (DataW H) → Nat
  | [] => 0
  | d :: r => uptoBulk d + uptoBulkAll r
def uptoBulkEntries {H : Type} : List (Lit × DataW H) → Nat
  | [] => 0
  | x :: r => uptoBulkEntry x + uptoBulkEntries r
def uptoBulkEntry {H : Type} : Lit × DataW H → Nat
  | (.string bytes, d) => bytes.length + uptoBulk d + 1
  | (_, d) => uptoBulk d + 1
 end
def uptoSmall : (H : Type) → List (DataW H) → Bool := fun _ ds => decide (uptoBulkAll ds ≤ 1048576)
def OpenSpec.upto (s : _root_.Go.ChangeSpec) : _root_.Go.OpenSpec := { _root_.Go.OpenSpec.ofChange s with cond := some uptoSmall }

/-- 'faaslaw42.ScaleSteps', WHERE WHAT IT READS IS OF BULK AT MOST 1048576: true; the input reads as it did. -/
def scaleStepsUptoRow : OpenClaim := { program := "ytndpecjkoffebaa", sum := "5bd9310f36bacc74eb64027b0e15e95e470dd6cc3923a08e761fe5aaa50f5b0d", func := "faas/faaslaw42.ScaleSteps", spec := "scaleSteps", unfollowed := true, recurses := true, apart := false, narrowed := true }
def ScaleStepsUptoSaid : Prop := scaleStepsUptoRow.holds Try.pinned (OpenSpec.upto scaleStepsSpec)

/-- 'faaslaw42.ScalePlays', WHERE WHAT IT READS IS OF BULK AT MOST 1048576: true; the input reads as it did. -/
def scalePlaysUptoRow : OpenClaim := { program := "ytndpecjkoffebaa", sum := "5bd9310f36bacc74eb64027b0e15e95e470dd6cc3923a08e761fe5aaa50f5b0d", func := "faas/faaslaw42.ScalePlays", spec := "scalePlays", unfollowed := true, recurses := true, apart := false, narrowed := true }
def ScalePlaysUptoSaid : Prop := scalePlaysUptoRow.holds Try.pinned (OpenSpec.upto scalePlaysSpec)

/-- 'faaslaw42.ScaleWithinBounds', WHERE WHAT IT READS IS OF BULK AT MOST 1048576: true; the input reads as it did. -/
def scaleWithinBoundsUptoRow : OpenClaim := { program := "ytndpecjkoffebaa", sum := "5bd9310f36bacc74eb64027b0e15e95e470dd6cc3923a08e761fe5aaa50f5b0d", func := "faas/faaslaw42.ScaleWithinBounds", spec := "scaleWithinBounds", unfollowed := true, recurses := true, apart := false, narrowed := true }
def ScaleWithinBoundsUptoSaid : Prop := scaleWithinBoundsUptoRow.holds Try.pinned (OpenSpec.upto scaleWithinBoundsSpec)

/-- 'faaslaw42.ScaleCools', WHERE WHAT IT READS IS OF BULK AT MOST 1048576: true; the input reads as it did. -/
def scaleCoolsUptoRow : OpenClaim := { program := "ytndpecjkoffebaa", sum := "5bd9310f36bacc74eb64027b0e15e95e470dd6cc3923a08e761fe5aaa50f5b0d", func := "faas/faaslaw42.ScaleCools", spec := "scaleCools", unfollowed := true, recurses := true, apart := false, narrowed := true }
def ScaleCoolsUptoSaid : Prop := scaleCoolsUptoRow.holds Try.pinned (OpenSpec.upto scaleCoolsSpec)

/-- 'faaslaw42.ScaleRises', WHERE WHAT IT READS IS OF BULK AT MOST 1048576: true; the input reads as it did. -/
def scaleRisesUptoRow : OpenClaim := { program := "ytndpecjkoffebaa", sum := "5bd9310f36bacc74eb64027b0e15e95e470dd6cc3923a08e761fe5aaa50f5b0d", func := "faas/faaslaw42.ScaleRises", spec := "scaleRises", unfollowed := true, recurses := true, apart := false, narrowed := true }
def ScaleRisesUptoSaid : Prop := scaleRisesUptoRow.holds Try.pinned (OpenSpec.upto scaleRisesSpec)

/-- 'faaslaw42.ScaleSettles', WHERE WHAT IT READS IS OF BULK AT MOST 1048576: true; the input reads as it did. -/
def scaleSettlesUptoRow : OpenClaim := { program := "ytndpecjkoffebaa", sum := "5bd9310f36bacc74eb64027b0e15e95e470dd6cc3923a08e761fe5aaa50f5b0d", func := "faas/faaslaw42.ScaleSettles", spec := "scaleSettles", unfollowed := true, recurses := true, apart := false, narrowed := true }
def ScaleSettlesUptoSaid : Prop := scaleSettlesUptoRow.holds Try.pinned (OpenSpec.upto scaleSettlesSpec)

end Rows
end Go.Proofs.Ytndpecjkoffebaa
