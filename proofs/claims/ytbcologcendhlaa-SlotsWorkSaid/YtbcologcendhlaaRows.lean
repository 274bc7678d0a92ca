/-
  No cell of these rows narrows 'for every input' (looked for: loops, veiled, ifaces, maps, wideKeys, modest, calm, conditions, laid).
  DERIVED. THE GIVEN ROWS OF THIS SEAT. 5 by the template 'for every input the law returns true; each argument reads behind the call as it read before'; 0 by the template 'total and deterministic' (their statements: YtbcologcendhlaaTotals.lean).
  GIVEN WITH THE SEED: the statements are not yours to turn. If you find one false, say at which input.
  Laid BY PROGRAM, IN A SANDBOX (cutbox-rows.mjs): the forced cells as the released guide's own fill.sh prints them over the translation 24df9c750223976a… (all of the seat's roots in one cut). By AI agents, Wed Nov 11 2026. No macro, syntax, notation, axiom, sorry.
-/
import Derived.Test.YtbcologcendhlaaChecked
import GoSem.Claim
import GoSem.ClaimJoined
import GoSem.ClaimMapViews
import Derived.JoinedTies
import Derived.KernelRfl
namespace Go.Proofs.Ytbcologcendhlaa
/- THE CELL 'sum', in the pinned program and in every row, IS THE sha256 OF THE DUMP (.gsa) THAT YtbcologcendhlaaProg.lean LOADS. Nothing in Lean hashes anything: it is a label: what it is worth is what the hold of that sum in a sandbox is worth. -/
noncomputable def Try.pinned : Pinned := { name := "ytbcologcendhlaa", sum := "24df9c750223976ab64bd3dc9033ef6649dd44e389a8cd4f1e97e868dfb8b1f7", checked := Try.checked }
namespace Rows
def none {H : Type} : Left H := { results := [], args := [] }

/-- 'faaslaw40.SlotsWork': WHATEVER THE INPUT: true; the input reads as it did. -/
def slotsWorkSpec : ChangeSpec := { name := "slotsWork", fn := fun _ => fun
  | [d1, d2, d3, d4] => { results := [.lit (.bool true)], args := [d1, d2, d3, d4] }
  | _ => none }
def slotsWorkRow : OpenClaim := { program := "ytbcologcendhlaa", sum := "24df9c750223976ab64bd3dc9033ef6649dd44e389a8cd4f1e97e868dfb8b1f7", func := "faas/faaslaw40.SlotsWork", spec := "slotsWork", apart := false }
def SlotsWorkSaid : Prop := slotsWorkRow.holds Try.pinned (OpenSpec.ofChange slotsWorkSpec)

/-- ITS FALSE NEIGHBOUR: 'it returns false'. Refute it at one input. -/
def slotsWorkWrong : ChangeSpec := { name := "slotsWork", fn := fun _ => fun
  | [d1, d2, d3, d4] => { results := [.lit (.bool false)], args := [d1, d2, d3, d4] }
  | _ => none }
def SlotsWorkWrongFalsely : Prop := slotsWorkRow.holds Try.pinned (OpenSpec.ofChange slotsWorkWrong)

/-- 'faaslaw40.SlotsReserve': WHATEVER THE INPUT: true; the input reads as it did. -/
def slotsReserveSpec : ChangeSpec := { name := "slotsReserve", fn := fun _ => fun
  | [d1, d2, d3, d4, d5] => { results := [.lit (.bool true)], args := [d1, d2, d3, d4, d5] }
  | _ => none }
def slotsReserveRow : OpenClaim := { program := "ytbcologcendhlaa", sum := "24df9c750223976ab64bd3dc9033ef6649dd44e389a8cd4f1e97e868dfb8b1f7", func := "faas/faaslaw40.SlotsReserve", spec := "slotsReserve", apart := false }
def SlotsReserveSaid : Prop := slotsReserveRow.holds Try.pinned (OpenSpec.ofChange slotsReserveSpec)

/-- ITS FALSE NEIGHBOUR: 'it returns false'. Refute it at one input. -/
def slotsReserveWrong : ChangeSpec := { name := "slotsReserve", fn := fun _ => fun
  | [d1, d2, d3, d4, d5] => { results := [.lit (.bool false)], args := [d1, d2, d3, d4, d5] }
  | _ => none }
def SlotsReserveWrongFalsely : Prop := slotsReserveRow.holds Try.pinned (OpenSpec.ofChange slotsReserveWrong)

/-- 'faaslaw40.SlotsBalance': WHATEVER THE INPUT: true; the input reads as it did. -/
def slotsBalanceSpec : ChangeSpec := { name := "slotsBalance", fn := fun _ => fun
  | [d1, d2, d3, d4, d5] => { results := [.lit (.bool true)], args := [d1, d2, d3, d4, d5] }
  | _ => none }
def slotsBalanceRow : OpenClaim := { program := "ytbcologcendhlaa", sum := "24df9c750223976ab64bd3dc9033ef6649dd44e389a8cd4f1e97e868dfb8b1f7", func := "faas/faaslaw40.SlotsBalance", spec := "slotsBalance", apart := false }
def SlotsBalanceSaid : Prop := slotsBalanceRow.holds Try.pinned (OpenSpec.ofChange slotsBalanceSpec)

/-- ITS FALSE NEIGHBOUR: 'it returns false'. Refute it at one input. -/
def slotsBalanceWrong : ChangeSpec := { name := "slotsBalance", fn := fun _ => fun
  | [d1, d2, d3, d4, d5] => { results := [.lit (.bool false)], args := [d1, d2, d3, d4, d5] }
  | _ => none }
def SlotsBalanceWrongFalsely : Prop := slotsBalanceRow.holds Try.pinned (OpenSpec.ofChange slotsBalanceWrong)

/-- 'faaslaw40.SlotsCheck': WHATEVER THE INPUT: true; the input reads as it did. -/
def slotsCheckSpec : ChangeSpec := { name := "slotsCheck", fn := fun _ => fun
  | [d1, d2, d3] => { results := [.lit (.bool true)], args := [d1, d2, d3] }
  | _ => none }
def slotsCheckRow : OpenClaim := { program := "ytbcologcendhlaa", sum := "24df9c750223976ab64bd3dc9033ef6649dd44e389a8cd4f1e97e868dfb8b1f7", func := "faas/faaslaw40.SlotsCheck", spec := "slotsCheck", apart := false }
def SlotsCheckSaid : Prop := slotsCheckRow.holds Try.pinned (OpenSpec.ofChange slotsCheckSpec)

/-- ITS FALSE NEIGHBOUR: 'it returns false'. Refute it at one input. -/
def slotsCheckWrong : ChangeSpec := { name := "slotsCheck", fn := fun _ => fun
  | [d1, d2, d3] => { results := [.lit (.bool false)], args := [d1, d2, d3] }
  | _ => none }
def SlotsCheckWrongFalsely : Prop := slotsCheckRow.holds Try.pinned (OpenSpec.ofChange slotsCheckWrong)

/-- 'faaslaw40.SlotsNil': WHATEVER THE INPUT: true; the input reads as it did. -/
def slotsNilSpec : ChangeSpec := { name := "slotsNil", fn := fun _ => fun
  | [d] => { results := [.lit (.bool true)], args := [d] }
  | _ => none }
def slotsNilRow : OpenClaim := { program := "ytbcologcendhlaa", sum := "24df9c750223976ab64bd3dc9033ef6649dd44e389a8cd4f1e97e868dfb8b1f7", func := "faas/faaslaw40.SlotsNil", spec := "slotsNil", apart := false }
def SlotsNilSaid : Prop := slotsNilRow.holds Try.pinned (OpenSpec.ofChange slotsNilSpec)

/-- ITS FALSE NEIGHBOUR: 'it returns false'. Refute it at one input. -/
def slotsNilWrong : ChangeSpec := { name := "slotsNil", fn := fun _ => fun
  | [d] => { results := [.lit (.bool false)], args := [d] }
  | _ => none }
def SlotsNilWrongFalsely : Prop := slotsNilRow.holds Try.pinned (OpenSpec.ofChange slotsNilWrong)

/- THE SECOND FORM. 'bulk': how many values and letters a reading holds, each counted each time it is reached (what is shared counts as often as it is met; a slice's spare places count too). A statement '..UptoSaid' is the law's where the arguments, and the package variables that the reading takes, are together of bulk at most 1048576: NARROWER than '..Said'. Prove '..Said' where nothing that the law and all that it calls make is longer than what came in: it says more and counts as full. Else prove '..UptoSaid'. A law counts once. -/
mutual
def uptoBulk {H : Type} : DataW H → Nat
  | .lit (.string bytes) => bytes.length + 1
  | .lit _ => 1
  | .nil => 1
  | .ptr d => uptoBulk d + 1
  | .slice elems spare => uptoBulkAll elems + uptoBulkAll spare + 1
  | .agg parts => uptoBulkAll parts + 1
  | .iface _ d => uptoBulk d + 1
  | .map entries => uptoBulkEntries entries + 1
  | .held _ => 1
def uptoBulkAll {H : Type} : List (DataW H) → Nat
  | [] => 0
  | d :: r => uptoBulk d + uptoBulkAll r
def uptoBulkEntries {H : Type} : List (Lit × DataW H) → Nat
  | [] => 0
  | x :: r => uptoBulkEntry x + uptoBulkEntries r
def uptoBulkEntry {H : Type} : Lit × DataW H → Nat
  | (.string bytes, d) => bytes.length + uptoBulk d + 1
  | (_, d) => uptoBulk d + 1
 end
def uptoSmall : (H : Type) → List (DataW H) → Bool := fun _ ds => decide (uptoBulkAll ds ≤ 1048576)
def OpenSpec.upto (s : _root_.Go.ChangeSpec) : _root_.Go.OpenSpec := { _root_.Go.OpenSpec.ofChange s with cond := some uptoSmall }

/-- 'faaslaw40.SlotsWork', WHERE WHAT IT READS IS OF BULK AT MOST 1048576: true; the input reads as it did. -/
def slotsWorkUptoRow : OpenClaim := { program := "ytbcologcendhlaa", sum := "24df9c750223976ab64bd3dc9033ef6649dd44e389a8cd4f1e97e868dfb8b1f7", func := "faas/faaslaw40.SlotsWork", spec := "slotsWork", apart := false, narrowed := true }
def SlotsWorkUptoSaid : Prop := slotsWorkUptoRow.holds Try.pinned (OpenSpec.upto slotsWorkSpec)

/-- 'faaslaw40.SlotsReserve', WHERE WHAT IT READS IS OF BULK AT MOST 1048576: true; the input reads as it did. -/
def slotsReserveUptoRow : OpenClaim := { program := "ytbcologcendhlaa", sum := "24df9c750223976ab64bd3dc9033ef6649dd44e389a8cd4f1e97e868dfb8b1f7", func := "faas/faaslaw40.SlotsReserve", spec := "slotsReserve", apart := false, narrowed := true }
def SlotsReserveUptoSaid : Prop := slotsReserveUptoRow.holds Try.pinned (OpenSpec.upto slotsReserveSpec)

/-- 'faaslaw40.SlotsBalance', WHERE WHAT IT READS IS OF BULK AT MOST 1048576: true; the input reads as it did. -/
def slotsBalanceUptoRow : OpenClaim := { program := "ytbcologcendhlaa", sum := "24df9c750223976ab64bd3dc9033ef6649dd44e389a8cd4f1e97e868dfb8b1f7", func := "faas/faaslaw40.SlotsBalance", spec := "slotsBalance", apart := false, narrowed := true }
def SlotsBalanceUptoSaid : Prop := slotsBalanceUptoRow.holds Try.pinned (OpenSpec.upto slotsBalanceSpec)

/-- 'faaslaw40.SlotsCheck', WHERE WHAT IT READS IS OF BULK AT MOST 1048576: true; the input reads as it did. -/
def slotsCheckUptoRow : OpenClaim := { program := "ytbcologcendhlaa", sum := "24df9c750223976ab64bd3dc9033ef6649dd44e389a8cd4f1e97e868dfb8b1f7", func := "faas/faaslaw40.SlotsCheck", spec := "slotsCheck", apart := false, narrowed := true }
def SlotsCheckUptoSaid : Prop := slotsCheckUptoRow.holds Try.pinned (OpenSpec.upto slotsCheckSpec)

/-- 'faaslaw40.SlotsNil', WHERE WHAT IT READS IS OF BULK AT MOST 1048576: true; the input reads as it did. -/
def slotsNilUptoRow : OpenClaim := { program := "ytbcologcendhlaa", sum := "24df9c750223976ab64bd3dc9033ef6649dd44e389a8cd4f1e97e868dfb8b1f7", func := "faas/faaslaw40.SlotsNil", spec := "slotsNil", apart := false, narrowed := true }
def SlotsNilUptoSaid : Prop := slotsNilUptoRow.holds Try.pinned (OpenSpec.upto slotsNilSpec)

end Rows
end Go.Proofs.Ytbcologcendhlaa
