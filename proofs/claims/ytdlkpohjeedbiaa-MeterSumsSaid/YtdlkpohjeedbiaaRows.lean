/-
  No cell of these rows narrows 'for every input' (looked for: loops, veiled, ifaces, maps, wideKeys, modest, calm, conditions, laid).
  DERIVED. THE GIVEN ROWS OF THIS SEAT. 5 by the template 'for every input the law returns true; each argument reads behind the call as it read before'; 0 by the template 'total and deterministic' (their statements: YtdlkpohjeedbiaaTotals.lean).
  GIVEN WITH THE SEED: the statements are not yours to turn. If you find one false, say at which input.
  Laid BY PROGRAM, IN A SANDBOX (cutbox-rows.mjs): the forced cells as the released guide's own fill.sh prints them over the translation 28447bbee0638ab9… (all of the seat's roots in one cut). By AI agents, Wed Nov 11 2026. No macro, syntax, notation, axiom, sorry.
-/
import Derived.Test.YtdlkpohjeedbiaaChecked
import GoSem.Claim
import GoSem.ClaimJoined
import GoSem.ClaimMapViews
import Derived.JoinedTies
import Derived.KernelRfl
namespace Go.Proofs.Ytdlkpohjeedbiaa
/- THE CELL 'sum', in the pinned program and in every row, IS THE sha256 OF THE DUMP (.gsa) THAT YtdlkpohjeedbiaaProg.lean LOADS. Nothing in Lean hashes anything: it is a label: what it is worth is what the hold of that sum in a sandbox is worth. -/
noncomputable def Try.pinned : Pinned := { name := "ytdlkpohjeedbiaa", sum := "28447bbee0638ab9044fbfb1cf438de0b98698ffd3de53774d38548009606a6f", checked := Try.checked }
namespace Rows
def none {H : Type} : Left H := { results := [], args := [] }

/-- 'faaslaw34.MeterRounds': WHATEVER THE INPUT: true; the input reads as it did. -/
def meterRoundsSpec : ChangeSpec := { name := "meterRounds", fn := fun _ => fun
  | [d1, d2, d3, d4, d5] => { results := [.lit (.bool true)], args := [d1, d2, d3, d4, d5] }
  | _ => none }
def meterRoundsRow : OpenClaim := { program := "ytdlkpohjeedbiaa", sum := "28447bbee0638ab9044fbfb1cf438de0b98698ffd3de53774d38548009606a6f", func := "faas/faaslaw34.MeterRounds", spec := "meterRounds", named := ["math/bits.divideError", "math/bits.overflowError"], apart := false }
def MeterRoundsSaid : Prop := meterRoundsRow.holds Try.pinned (OpenSpec.ofChange meterRoundsSpec)

/-- ITS FALSE NEIGHBOUR: 'it returns false'. Refute it at one input. -/
def meterRoundsWrong : ChangeSpec := { name := "meterRounds", fn := fun _ => fun
  | [d1, d2, d3, d4, d5] => { results := [.lit (.bool false)], args := [d1, d2, d3, d4, d5] }
  | _ => none }
def MeterRoundsWrongFalsely : Prop := meterRoundsRow.holds Try.pinned (OpenSpec.ofChange meterRoundsWrong)

/-- 'faaslaw34.MeterUnits': WHATEVER THE INPUT: true; the input reads as it did. -/
def meterUnitsSpec : ChangeSpec := { name := "meterUnits", fn := fun _ => fun
  | [d1, d2, d3] => { results := [.lit (.bool true)], args := [d1, d2, d3] }
  | _ => none }
def meterUnitsRow : OpenClaim := { program := "ytdlkpohjeedbiaa", sum := "28447bbee0638ab9044fbfb1cf438de0b98698ffd3de53774d38548009606a6f", func := "faas/faaslaw34.MeterUnits", spec := "meterUnits", named := ["math/bits.divideError", "math/bits.overflowError"], apart := false }
def MeterUnitsSaid : Prop := meterUnitsRow.holds Try.pinned (OpenSpec.ofChange meterUnitsSpec)

/-- ITS FALSE NEIGHBOUR: 'it returns false'. Refute it at one input. -/
def meterUnitsWrong : ChangeSpec := { name := "meterUnits", fn := fun _ => fun
  | [d1, d2, d3] => { results := [.lit (.bool false)], args := [d1, d2, d3] }
  | _ => none }
def MeterUnitsWrongFalsely : Prop := meterUnitsRow.holds Try.pinned (OpenSpec.ofChange meterUnitsWrong)

/-- 'faaslaw34.MeterRules': WHATEVER THE INPUT: true; the input reads as it did. -/
def meterRulesSpec : ChangeSpec := { name := "meterRules", fn := fun _ => fun
  | [d1, d2, d3, d4, d5] => { results := [.lit (.bool true)], args := [d1, d2, d3, d4, d5] }
  | _ => none }
def meterRulesRow : OpenClaim := { program := "ytdlkpohjeedbiaa", sum := "28447bbee0638ab9044fbfb1cf438de0b98698ffd3de53774d38548009606a6f", func := "faas/faaslaw34.MeterRules", spec := "meterRules", named := ["math/bits.divideError", "math/bits.overflowError"], apart := false }
def MeterRulesSaid : Prop := meterRulesRow.holds Try.pinned (OpenSpec.ofChange meterRulesSpec)

/-- ITS FALSE NEIGHBOUR: 'it returns false'. Refute it at one input. -/
def meterRulesWrong : ChangeSpec := { name := "meterRules", fn := fun _ => fun
  | [d1, d2, d3, d4, d5] => { results := [.lit (.bool false)], args := [d1, d2, d3, d4, d5] }
  | _ => none }
def MeterRulesWrongFalsely : Prop := meterRulesRow.holds Try.pinned (OpenSpec.ofChange meterRulesWrong)

/-- 'faaslaw34.MeterSums': WHATEVER THE INPUT: true; the input reads as it did. -/
def meterSumsSpec : ChangeSpec := { name := "meterSums", fn := fun _ => fun
  | [d1, d2, d3] => { results := [.lit (.bool true)], args := [d1, d2, d3] }
  | _ => none }
def meterSumsRow : OpenClaim := { program := "ytdlkpohjeedbiaa", sum := "28447bbee0638ab9044fbfb1cf438de0b98698ffd3de53774d38548009606a6f", func := "faas/faaslaw34.MeterSums", spec := "meterSums", named := ["math/bits.divideError", "math/bits.overflowError"], apart := false }
def MeterSumsSaid : Prop := meterSumsRow.holds Try.pinned (OpenSpec.ofChange meterSumsSpec)

/-- ITS FALSE NEIGHBOUR: 'it returns false'. Refute it at one input. -/
def meterSumsWrong : ChangeSpec := { name := "meterSums", fn := fun _ => fun
  | [d1, d2, d3] => { results := [.lit (.bool false)], args := [d1, d2, d3] }
  | _ => none }
def MeterSumsWrongFalsely : Prop := meterSumsRow.holds Try.pinned (OpenSpec.ofChange meterSumsWrong)

/-- 'faaslaw34.MeterAdds': WHATEVER THE INPUT: true; the input reads as it did. -/
def meterAddsSpec : ChangeSpec := { name := "meterAdds", fn := fun _ => fun
  | [d1, d2, d3, d4, d5] => { results := [.lit (.bool true)], args := [d1, d2, d3, d4, d5] }
  | _ => none }
def meterAddsRow : OpenClaim := { program := "ytdlkpohjeedbiaa", sum := "28447bbee0638ab9044fbfb1cf438de0b98698ffd3de53774d38548009606a6f", func := "faas/faaslaw34.MeterAdds", spec := "meterAdds", named := ["math/bits.divideError", "math/bits.overflowError"], apart := false }
def MeterAddsSaid : Prop := meterAddsRow.holds Try.pinned (OpenSpec.ofChange meterAddsSpec)

/-- ITS FALSE NEIGHBOUR: 'it returns false'. Refute it at one input. -/
def meterAddsWrong : ChangeSpec := { name := "meterAdds", fn := fun _ => fun
  | [d1, d2, d3, d4, d5] => { results := [.lit (.bool false)], args := [d1, d2, d3, d4, d5] }
  | _ => none }
def MeterAddsWrongFalsely : Prop := meterAddsRow.holds Try.pinned (OpenSpec.ofChange meterAddsWrong)

/- THE SECOND FORM. 'bulk': how many values and letters a reading holds, each counted each time it is reached (what is shared counts as often as it is met; a slice's spare places count too). A statement '..UptoSaid' is the law's where the arguments, and the package variables that the reading takes, are together of bulk at most 1048576: NARROWER than '..Said'. Prove '..Said' where nothing that the law and all that it calls make is longer than what came in: it says more and counts as full. Else prove '..UptoSaid'. A law counts once. -/
mutual
def uptoBulk {H : Type} : DataW H → Nat
  | .lit (.string bytes) => bytes.length + 1
  | .lit _ => 1
  | .nil => 1
  | .ptr d => uptoBulk d + 1
  | .slice elems spare => uptoBulkAll elems + uptoBulkAll spare + 1
  | .agg parts => uptoBulkAll parts + 1
  | .iface _ d => uptoBulk d + 1
  | .map entries => uptoBulkEntries entries + 1
  | .held _ => 1
def uptoBulkAll {H : Type} : List (DataW H) → Nat
  | [] => 0
  | d :: r => uptoBulk d + uptoBulkAll r
def uptoBulkEntries {H : Type} : List (Lit × DataW H) → Nat
  | [] => 0
  | x :: r => uptoBulkEntry x + uptoBulkEntries r
def uptoBulkEntry {H : Type} : Lit × DataW H → Nat
  | (.string bytes, d) => bytes.length + uptoBulk d + 1
  | (_, d) => uptoBulk d + 1
 end
def uptoSmall : (H : Type) → List (DataW H) → Bool := fun _ ds => decide (uptoBulkAll ds ≤ 1048576)
def OpenSpec.upto (s : _root_.Go.ChangeSpec) : _root_.Go.OpenSpec := { _root_.Go.OpenSpec.ofChange s with cond := some uptoSmall }

/-- 'faaslaw34.MeterRounds', WHERE WHAT IT READS IS OF BULK AT MOST 1048576: true; the input reads as it did. -/
def meterRoundsUptoRow : OpenClaim := { program := "ytdlkpohjeedbiaa", sum := "28447bbee0638ab9044fbfb1cf438de0b98698ffd3de53774d38548009606a6f", func := "faas/faaslaw34.MeterRounds", spec := "meterRounds", named := ["math/bits.divideError", "math/bits.overflowError"], apart := false, narrowed := true }
def MeterRoundsUptoSaid : Prop := meterRoundsUptoRow.holds Try.pinned (OpenSpec.upto meterRoundsSpec)

/-- 'faaslaw34.MeterUnits', WHERE WHAT IT READS IS OF BULK AT MOST 1048576: true; the input reads as it did. -/
def meterUnitsUptoRow : OpenClaim := { program := "ytdlkpohjeedbiaa", sum := "28447bbee0638ab9044fbfb1cf438de0b98698ffd3de53774d38548009606a6f", func := "faas/faaslaw34.MeterUnits", spec := "meterUnits", named := ["math/bits.divideError", "math/bits.overflowError"], apart := false, narrowed := true }
def MeterUnitsUptoSaid : Prop := meterUnitsUptoRow.holds Try.pinned (OpenSpec.upto meterUnitsSpec)

/-- 'faaslaw34.MeterRules', WHERE WHAT IT READS IS OF BULK AT MOST 1048576: true; the input reads as it did. -/
def meterRulesUptoRow : OpenClaim := { program := "ytdlkpohjeedbiaa", sum := "28447bbee0638ab9044fbfb1cf438de0b98698ffd3de53774d38548009606a6f", func := "faas/faaslaw34.MeterRules", spec := "meterRules", named := ["math/bits.divideError", "math/bits.overflowError"], apart := false, narrowed := true }
def MeterRulesUptoSaid : Prop := meterRulesUptoRow.holds Try.pinned (OpenSpec.upto meterRulesSpec)

/-- 'faaslaw34.MeterSums', WHERE WHAT IT READS IS OF BULK AT MOST 1048576: true; the input reads as it did. -/
def meterSumsUptoRow : OpenClaim := { program := "ytdlkpohjeedbiaa", sum := "28447bbee0638ab9044fbfb1cf438de0b98698ffd3de53774d38548009606a6f", func := "faas/faaslaw34.MeterSums", spec := "meterSums", named := ["math/bits.divideError", "math/bits.overflowError"], apart := false, narrowed := true }
def MeterSumsUptoSaid : Prop := meterSumsUptoRow.holds Try.pinned (OpenSpec.upto meterSumsSpec)

/-- 'faaslaw34.MeterAdds', WHERE WHAT IT READS IS OF BULK AT MOST 1048576: true; the input reads as it did. -/
def meterAddsUptoRow : OpenClaim := { program := "ytdlkpohjeedbiaa", sum := "28447bbee0638ab9044fbfb1cf438de0b98698ffd3de53774d38548009606a6f", func := "faas/faaslaw34.MeterAdds", spec := "meterAdds", named := ["math/bits.divideError", "math/bits.overflowError"], apart := false, narrowed := true }
def MeterAddsUptoSaid : Prop := meterAddsUptoRow.holds Try.pinned (OpenSpec.upto meterAddsSpec)

end Rows
end Go.Proofs.Ytdlkpohjeedbiaa
