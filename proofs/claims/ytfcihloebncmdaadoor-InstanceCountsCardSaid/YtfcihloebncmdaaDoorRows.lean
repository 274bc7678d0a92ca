/-
  NARROWER THAN 'FOR EVERY INPUT', by the rows' own cells (each row's printed sentence says how): InstanceSteps: laid · InstanceLegal: laid · InstancePlays: laid · InstanceCounts: laid · InstanceReturns: laid.
  DERIVED. THE GIVEN ROWS OF THIS SEAT. 5 by the template 'for every input the law returns true; each argument reads behind the call as it read before'; 0 by the template 'total and deterministic' (their statements: YtfcihloebncmdaaDoorTotals.lean).
  GIVEN WITH THE SEED: the statements are not yours to turn. If you find one false, say at which input.
  Laid BY PROGRAM, IN A SANDBOX (cutbox-rows.mjs): the forced cells as the released guide's own fill.sh prints them over the translation 2ef3ae1ec6b8510b… (all of the seat's roots in one cut). By AI agents, Wed Nov 11 2026. No macro, syntax, notation, axiom, sorry.
-/
import Derived.Test.YtfcihloebncmdaaDoorChecked
import GoSem.Claim
import GoSem.ClaimJoined
import GoSem.ClaimMapViews
import Derived.JoinedTies
import Derived.KernelRfl
namespace Go.Proofs.YtfcihloebncmdaaDoor
/- THE CELL 'sum', in the pinned program and in every row, IS THE sha256 OF THE DUMP (.gsa) THAT YtfcihloebncmdaaDoorProg.lean LOADS. Nothing in Lean hashes anything: it is a label: what it is worth is what the hold of that sum in a sandbox is worth. -/
noncomputable def Tryd.pinned : Pinned := { name := "ytfcihloebncmdaadoor", sum := "2ef3ae1ec6b8510ba6990ed8ad1ae093a9af8c055eb06ad42d35ab1b06b35b6d", checked := Tryd.checked }
namespace Rows
def none {H : Type} : Left H := { results := [], args := [] }

/- WHAT THE LISTED PACKAGE-LEVEL VARIABLES READ AS WHEN THE CALL BEGINS. Each datum BY PROGRAM (the guide's laid-datum.mjs) off the statement by which the dump's own 'gosem.cut.vars' lays the variable. In a bare row this is a premise. The card (YtfcihloebncmdaaDoorCards.lean) ties it to the program's text. -/
def laid_faas_instance_legal {H : Type} : DataW H := .agg [.agg [.lit (.int .i64 0), .lit (.int .i64 0), .lit (.int .i64 0), .lit (.int .i64 0), .lit (.int .i64 0), .lit (.int .i64 0), .lit (.int .i64 0), .lit (.int .i64 0)], .agg [.lit (.int .i64 0), .lit (.int .i64 2), .lit (.int .i64 0), .lit (.int .i64 0), .lit (.int .i64 0), .lit (.int .i64 0), .lit (.int .i64 0), .lit (.int .i64 5)], .agg [.lit (.int .i64 0), .lit (.int .i64 0), .lit (.int .i64 3), .lit (.int .i64 0), .lit (.int .i64 4), .lit (.int .i64 0), .lit (.int .i64 5), .lit (.int .i64 5)], .agg [.lit (.int .i64 0), .lit (.int .i64 0), .lit (.int .i64 0), .lit (.int .i64 2), .lit (.int .i64 0), .lit (.int .i64 0), .lit (.int .i64 0), .lit (.int .i64 5)], .agg [.lit (.int .i64 0), .lit (.int .i64 0), .lit (.int .i64 0), .lit (.int .i64 0), .lit (.int .i64 0), .lit (.int .i64 2), .lit (.int .i64 5), .lit (.int .i64 5)], .agg [.lit (.int .i64 0), .lit (.int .i64 0), .lit (.int .i64 0), .lit (.int .i64 0), .lit (.int .i64 0), .lit (.int .i64 0), .lit (.int .i64 0), .lit (.int .i64 0)]]

/-- 'faaslaw37.InstanceSteps': WHATEVER THE INPUT: true; the input reads as it did. -/
def instanceStepsSpec : ChangeSpec := { name := "instanceSteps", fn := fun _ => fun
  | [d1, d2, d3, d4] => { results := [.lit (.bool true)], args := [d1, d2, d3, d4] }
  | _ => none }
def instanceStepsRow : OpenClaim := { program := "ytfcihloebncmdaadoor", sum := "2ef3ae1ec6b8510ba6990ed8ad1ae093a9af8c055eb06ad42d35ab1b06b35b6d", func := "faas/faaslaw37.InstanceSteps", spec := "instanceSteps", named := ["faas/instance.legal"], apart := false, laid := [("faas/instance.legal", laid_faas_instance_legal)] }
def InstanceStepsSaid : Prop := instanceStepsRow.holds Tryd.pinned (OpenSpec.ofChange instanceStepsSpec)

/-- ITS FALSE NEIGHBOUR: 'it returns false'. Refute it at one input. -/
def instanceStepsWrong : ChangeSpec := { name := "instanceSteps", fn := fun _ => fun
  | [d1, d2, d3, d4] => { results := [.lit (.bool false)], args := [d1, d2, d3, d4] }
  | _ => none }
def InstanceStepsWrongFalsely : Prop := instanceStepsRow.holds Tryd.pinned (OpenSpec.ofChange instanceStepsWrong)

/-- 'faaslaw37.InstanceLegal': WHATEVER THE INPUT: true; the input reads as it did. -/
def instanceLegalSpec : ChangeSpec := { name := "instanceLegal", fn := fun _ => fun
  | [d1, d2] => { results := [.lit (.bool true)], args := [d1, d2] }
  | _ => none }
def instanceLegalRow : OpenClaim := { program := "ytfcihloebncmdaadoor", sum := "2ef3ae1ec6b8510ba6990ed8ad1ae093a9af8c055eb06ad42d35ab1b06b35b6d", func := "faas/faaslaw37.InstanceLegal", spec := "instanceLegal", named := ["faas/instance.legal"], apart := false, laid := [("faas/instance.legal", laid_faas_instance_legal)] }
def InstanceLegalSaid : Prop := instanceLegalRow.holds Tryd.pinned (OpenSpec.ofChange instanceLegalSpec)

/-- ITS FALSE NEIGHBOUR: 'it returns false'. Refute it at one input. -/
def instanceLegalWrong : ChangeSpec := { name := "instanceLegal", fn := fun _ => fun
  | [d1, d2] => { results := [.lit (.bool false)], args := [d1, d2] }
  | _ => none }
def InstanceLegalWrongFalsely : Prop := instanceLegalRow.holds Tryd.pinned (OpenSpec.ofChange instanceLegalWrong)

/-- 'faaslaw37.InstancePlays': WHATEVER THE INPUT: true; the input reads as it did. -/
def instancePlaysSpec : ChangeSpec := { name := "instancePlays", fn := fun _ => fun
  | [d1, d2, d3] => { results := [.lit (.bool true)], args := [d1, d2, d3] }
  | _ => none }
def instancePlaysRow : OpenClaim := { program := "ytfcihloebncmdaadoor", sum := "2ef3ae1ec6b8510ba6990ed8ad1ae093a9af8c055eb06ad42d35ab1b06b35b6d", func := "faas/faaslaw37.InstancePlays", spec := "instancePlays", named := ["faas/instance.legal"], apart := false, laid := [("faas/instance.legal", laid_faas_instance_legal)] }
def InstancePlaysSaid : Prop := instancePlaysRow.holds Tryd.pinned (OpenSpec.ofChange instancePlaysSpec)

/-- ITS FALSE NEIGHBOUR: 'it returns false'. Refute it at one input. -/
def instancePlaysWrong : ChangeSpec := { name := "instancePlays", fn := fun _ => fun
  | [d1, d2, d3] => { results := [.lit (.bool false)], args := [d1, d2, d3] }
  | _ => none }
def InstancePlaysWrongFalsely : Prop := instancePlaysRow.holds Tryd.pinned (OpenSpec.ofChange instancePlaysWrong)

/-- 'faaslaw37.InstanceCounts': WHATEVER THE INPUT: true; the input reads as it did. -/
def instanceCountsSpec : ChangeSpec := { name := "instanceCounts", fn := fun _ => fun
  | [d1, d2, d3, d4] => { results := [.lit (.bool true)], args := [d1, d2, d3, d4] }
  | _ => none }
def instanceCountsRow : OpenClaim := { program := "ytfcihloebncmdaadoor", sum := "2ef3ae1ec6b8510ba6990ed8ad1ae093a9af8c055eb06ad42d35ab1b06b35b6d", func := "faas/faaslaw37.InstanceCounts", spec := "instanceCounts", named := ["faas/instance.legal"], apart := false, laid := [("faas/instance.legal", laid_faas_instance_legal)] }
def InstanceCountsSaid : Prop := instanceCountsRow.holds Tryd.pinned (OpenSpec.ofChange instanceCountsSpec)

/-- ITS FALSE NEIGHBOUR: 'it returns false'. Refute it at one input. -/
def instanceCountsWrong : ChangeSpec := { name := "instanceCounts", fn := fun _ => fun
  | [d1, d2, d3, d4] => { results := [.lit (.bool false)], args := [d1, d2, d3, d4] }
  | _ => none }
def InstanceCountsWrongFalsely : Prop := instanceCountsRow.holds Tryd.pinned (OpenSpec.ofChange instanceCountsWrong)

/-- 'faaslaw37.InstanceReturns': WHATEVER THE INPUT: true; the input reads as it did. -/
def instanceReturnsSpec : ChangeSpec := { name := "instanceReturns", fn := fun _ => fun
  | [d1, d2] => { results := [.lit (.bool true)], args := [d1, d2] }
  | _ => none }
def instanceReturnsRow : OpenClaim := { program := "ytfcihloebncmdaadoor", sum := "2ef3ae1ec6b8510ba6990ed8ad1ae093a9af8c055eb06ad42d35ab1b06b35b6d", func := "faas/faaslaw37.InstanceReturns", spec := "instanceReturns", named := ["faas/instance.legal"], apart := false, laid := [("faas/instance.legal", laid_faas_instance_legal)] }
def InstanceReturnsSaid : Prop := instanceReturnsRow.holds Tryd.pinned (OpenSpec.ofChange instanceReturnsSpec)

/-- ITS FALSE NEIGHBOUR: 'it returns false'. Refute it at one input. -/
def instanceReturnsWrong : ChangeSpec := { name := "instanceReturns", fn := fun _ => fun
  | [d1, d2] => { results := [.lit (.bool false)], args := [d1, d2] }
  | _ => none }
def InstanceReturnsWrongFalsely : Prop := instanceReturnsRow.holds Tryd.pinned (OpenSpec.ofChange instanceReturnsWrong)

/- THE SECOND FORM. 'bulk': how many values and letters a reading holds, each counted each time it is reached (what is shared counts as often as it is met; a slice's spare places count too). A statement '..UptoSaid' is the law's where the arguments, and the package variables that the reading takes, are together of bulk at most 1048576: NARROWER than '..Said'. Prove '..Said' where nothing that the law and all that it calls make is longer than what came in: it says more and counts as full. Else prove '..UptoSaid'. A law counts once. -/
mutual
def uptoBulk {H : Type} : DataW H → Nat
  | .lit (.string bytes) => bytes.length + 1
  | .lit _ => 1
  | .nil => 1
  | .ptr d => uptoBulk d + 1
  | .slice elems spare => uptoBulkAll elems + uptoBulkAll spare + 1
  | .agg parts => uptoBulkAll parts + 1
  | .iface _ d => uptoBulk d + 1
  | .map entries => uptoBulkEntries entries + 1
  | .held _ => 1
def uptoBulkAll {H : Type} : List (DataW H) → Nat
  | [] => 0
  | d :: r => uptoBulk d + uptoBulkAll r
def uptoBulkEntries {H : Type} : List (Lit × DataW H) → Nat
  | [] => 0
  | x :: r => uptoBulkEntry x + uptoBulkEntries r
def uptoBulkEntry {H : Type} : Lit × DataW H → Nat
  | (.string bytes, d) => bytes.length + uptoBulk d + 1
  | (_, d) => uptoBulk d + 1
 end
def uptoSmall : (H : Type) → List (DataW H) → Bool := fun _ ds => decide (uptoBulkAll ds ≤ 1048576)
def OpenSpec.upto (s : _root_.Go.ChangeSpec) : _root_.Go.OpenSpec := { _root_.Go.OpenSpec.ofChange s with cond := some uptoSmall }

/-- 'faaslaw37.InstanceSteps', WHERE WHAT IT READS IS OF BULK AT MOST 1048576: true; the input reads as it did. -/
def instanceStepsUptoRow : OpenClaim := { program := "ytfcihloebncmdaadoor", sum := "2ef3ae1ec6b8510ba6990ed8ad1ae093a9af8c055eb06ad42d35ab1b06b35b6d", func := "faas/faaslaw37.InstanceSteps", spec := "instanceSteps", named := ["faas/instance.legal"], apart := false, laid := [("faas/instance.legal", laid_faas_instance_legal)], narrowed := true }
def InstanceStepsUptoSaid : Prop := instanceStepsUptoRow.holds Tryd.pinned (OpenSpec.upto instanceStepsSpec)

/-- 'faaslaw37.InstanceLegal', WHERE WHAT IT READS IS OF BULK AT MOST 1048576: true; the input reads as it did. -/
def instanceLegalUptoRow : OpenClaim := { program := "ytfcihloebncmdaadoor", sum := "2ef3ae1ec6b8510ba6990ed8ad1ae093a9af8c055eb06ad42d35ab1b06b35b6d", func := "faas/faaslaw37.InstanceLegal", spec := "instanceLegal", named := ["faas/instance.legal"], apart := false, laid := [("faas/instance.legal", laid_faas_instance_legal)], narrowed := true }
def InstanceLegalUptoSaid : Prop := instanceLegalUptoRow.holds Tryd.pinned (OpenSpec.upto instanceLegalSpec)

/-- 'faaslaw37.InstancePlays', WHERE WHAT IT READS IS OF BULK AT MOST 1048576: true; the input reads as it did. -/
def instancePlaysUptoRow : OpenClaim := { program := "ytfcihloebncmdaadoor", sum := "2ef3ae1ec6b8510ba6990ed8ad1ae093a9af8c055eb06ad42d35ab1b06b35b6d", func := "faas/faaslaw37.InstancePlays", spec := "instancePlays", named := ["faas/instance.legal"], apart := false, laid := [("faas/instance.legal", laid_faas_instance_legal)], narrowed := true }
def InstancePlaysUptoSaid : Prop := instancePlaysUptoRow.holds Tryd.pinned (OpenSpec.upto instancePlaysSpec)

/-- 'faaslaw37.InstanceCounts', WHERE WHAT IT READS IS OF BULK AT MOST 1048576: true; the input reads as it did. -/
def instanceCountsUptoRow : OpenClaim := { program := "ytfcihloebncmdaadoor", sum := "2ef3ae1ec6b8510ba6990ed8ad1ae093a9af8c055eb06ad42d35ab1b06b35b6d", func := "faas/faaslaw37.InstanceCounts", spec := "instanceCounts", named := ["faas/instance.legal"], apart := false, laid := [("faas/instance.legal", laid_faas_instance_legal)], narrowed := true }
def InstanceCountsUptoSaid : Prop := instanceCountsUptoRow.holds Tryd.pinned (OpenSpec.upto instanceCountsSpec)

/-- 'faaslaw37.InstanceReturns', WHERE WHAT IT READS IS OF BULK AT MOST 1048576: true; the input reads as it did. -/
def instanceReturnsUptoRow : OpenClaim := { program := "ytfcihloebncmdaadoor", sum := "2ef3ae1ec6b8510ba6990ed8ad1ae093a9af8c055eb06ad42d35ab1b06b35b6d", func := "faas/faaslaw37.InstanceReturns", spec := "instanceReturns", named := ["faas/instance.legal"], apart := false, laid := [("faas/instance.legal", laid_faas_instance_legal)], narrowed := true }
def InstanceReturnsUptoSaid : Prop := instanceReturnsUptoRow.holds Tryd.pinned (OpenSpec.upto instanceReturnsSpec)

end Rows
end Go.Proofs.YtfcihloebncmdaaDoor
