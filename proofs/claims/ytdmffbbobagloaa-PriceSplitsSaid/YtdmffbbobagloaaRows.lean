/-
  No cell of these rows narrows 'for every input' (looked for: loops, veiled, ifaces, maps, wideKeys, modest, calm, conditions, laid).
  DERIVED. THE GIVEN ROWS OF THIS SEAT. 5 by the template 'for every input the law returns true; each argument reads behind the call as it read before'; 0 by the template 'total and deterministic' (their statements: YtdmffbbobagloaaTotals.lean).
  GIVEN WITH THE SEED: the statements are not yours to turn. If you find one false, say at which input.
  Laid BY PROGRAM, IN A SANDBOX (cutbox-rows.mjs): the forced cells as the released guide's own fill.sh prints them over the translation 5b81f8ff01aa25d0… (all of the seat's roots in one cut). By AI agents, Wed Nov 11 2026. No macro, syntax, notation, axiom, sorry.
-/
import Derived.Test.YtdmffbbobagloaaChecked
import GoSem.Claim
import GoSem.ClaimJoined
import GoSem.ClaimMapViews
import Derived.JoinedTies
import Derived.KernelRfl
namespace Go.Proofs.Ytdmffbbobagloaa
/- THE CELL 'sum', in the pinned program and in every row, IS THE sha256 OF THE DUMP (.gsa) THAT YtdmffbbobagloaaProg.lean LOADS. Nothing in Lean hashes anything: it is a label: what it is worth is what the hold of that sum in a sandbox is worth. -/
noncomputable def Try.pinned : Pinned := { name := "ytdmffbbobagloaa", sum := "5b81f8ff01aa25d09576832c08eeeb13e2167de710369238ca19c1847be239b4", checked := Try.checked }
namespace Rows
def none {H : Type} : Left H := { results := [], args := [] }

/-- 'faaslaw53.PriceRules': WHATEVER THE INPUT: true; the input reads as it did. -/
def priceRulesSpec : ChangeSpec := { name := "priceRules", fn := fun _ => fun
  | [d1, d2, d3] => { results := [.lit (.bool true)], args := [d1, d2, d3] }
  | _ => none }
def priceRulesRow : OpenClaim := { program := "ytdmffbbobagloaa", sum := "5b81f8ff01aa25d09576832c08eeeb13e2167de710369238ca19c1847be239b4", func := "faas/faaslaw53.PriceRules", spec := "priceRules", unfollowed := true, recurses := true, apart := false }
def PriceRulesSaid : Prop := priceRulesRow.holds Try.pinned (OpenSpec.ofChange priceRulesSpec)

/-- ITS FALSE NEIGHBOUR: 'it returns false'. Refute it at one input. -/
def priceRulesWrong : ChangeSpec := { name := "priceRules", fn := fun _ => fun
  | [d1, d2, d3] => { results := [.lit (.bool false)], args := [d1, d2, d3] }
  | _ => none }
def PriceRulesWrongFalsely : Prop := priceRulesRow.holds Try.pinned (OpenSpec.ofChange priceRulesWrong)

/-- 'faaslaw53.PriceAmounts': WHATEVER THE INPUT: true; the input reads as it did. -/
def priceAmountsSpec : ChangeSpec := { name := "priceAmounts", fn := fun _ => fun
  | [d1, d2] => { results := [.lit (.bool true)], args := [d1, d2] }
  | _ => none }
def priceAmountsRow : OpenClaim := { program := "ytdmffbbobagloaa", sum := "5b81f8ff01aa25d09576832c08eeeb13e2167de710369238ca19c1847be239b4", func := "faas/faaslaw53.PriceAmounts", spec := "priceAmounts", unfollowed := true, recurses := true, apart := false }
def PriceAmountsSaid : Prop := priceAmountsRow.holds Try.pinned (OpenSpec.ofChange priceAmountsSpec)

/-- ITS FALSE NEIGHBOUR: 'it returns false'. Refute it at one input. -/
def priceAmountsWrong : ChangeSpec := { name := "priceAmounts", fn := fun _ => fun
  | [d1, d2] => { results := [.lit (.bool false)], args := [d1, d2] }
  | _ => none }
def PriceAmountsWrongFalsely : Prop := priceAmountsRow.holds Try.pinned (OpenSpec.ofChange priceAmountsWrong)

/-- 'faaslaw53.PriceMonotone': WHATEVER THE INPUT: true; the input reads as it did. -/
def priceMonotoneSpec : ChangeSpec := { name := "priceMonotone", fn := fun _ => fun
  | [d1, d2, d3, d4] => { results := [.lit (.bool true)], args := [d1, d2, d3, d4] }
  | _ => none }
def priceMonotoneRow : OpenClaim := { program := "ytdmffbbobagloaa", sum := "5b81f8ff01aa25d09576832c08eeeb13e2167de710369238ca19c1847be239b4", func := "faas/faaslaw53.PriceMonotone", spec := "priceMonotone", unfollowed := true, recurses := true, apart := false }
def PriceMonotoneSaid : Prop := priceMonotoneRow.holds Try.pinned (OpenSpec.ofChange priceMonotoneSpec)

/-- ITS FALSE NEIGHBOUR: 'it returns false'. Refute it at one input. -/
def priceMonotoneWrong : ChangeSpec := { name := "priceMonotone", fn := fun _ => fun
  | [d1, d2, d3, d4] => { results := [.lit (.bool false)], args := [d1, d2, d3, d4] }
  | _ => none }
def PriceMonotoneWrongFalsely : Prop := priceMonotoneRow.holds Try.pinned (OpenSpec.ofChange priceMonotoneWrong)

/-- 'faaslaw53.PriceSplits': WHATEVER THE INPUT: true; the input reads as it did. -/
def priceSplitsSpec : ChangeSpec := { name := "priceSplits", fn := fun _ => fun
  | [d1, d2] => { results := [.lit (.bool true)], args := [d1, d2] }
  | _ => none }
def priceSplitsRow : OpenClaim := { program := "ytdmffbbobagloaa", sum := "5b81f8ff01aa25d09576832c08eeeb13e2167de710369238ca19c1847be239b4", func := "faas/faaslaw53.PriceSplits", spec := "priceSplits", unfollowed := true, recurses := true, apart := false }
def PriceSplitsSaid : Prop := priceSplitsRow.holds Try.pinned (OpenSpec.ofChange priceSplitsSpec)

/-- ITS FALSE NEIGHBOUR: 'it returns false'. Refute it at one input. -/
def priceSplitsWrong : ChangeSpec := { name := "priceSplits", fn := fun _ => fun
  | [d1, d2] => { results := [.lit (.bool false)], args := [d1, d2] }
  | _ => none }
def PriceSplitsWrongFalsely : Prop := priceSplitsRow.holds Try.pinned (OpenSpec.ofChange priceSplitsWrong)

/-- 'faaslaw53.PriceFree': WHATEVER THE INPUT: true; the input reads as it did. -/
def priceFreeSpec : ChangeSpec := { name := "priceFree", fn := fun _ => fun
  | [d1, d2] => { results := [.lit (.bool true)], args := [d1, d2] }
  | _ => none }
def priceFreeRow : OpenClaim := { program := "ytdmffbbobagloaa", sum := "5b81f8ff01aa25d09576832c08eeeb13e2167de710369238ca19c1847be239b4", func := "faas/faaslaw53.PriceFree", spec := "priceFree", unfollowed := true, recurses := true, apart := false }
def PriceFreeSaid : Prop := priceFreeRow.holds Try.pinned (OpenSpec.ofChange priceFreeSpec)

/-- ITS FALSE NEIGHBOUR: 'it returns false'. Refute it at one input. -/
def priceFreeWrong : ChangeSpec := { name := "priceFree", fn := fun _ => fun
  | [d1, d2] => { results := [.lit (.bool false)], args := [d1, d2] }
  | _ => none }
def PriceFreeWrongFalsely : Prop := priceFreeRow.holds Try.pinned (OpenSpec.ofChange priceFreeWrong)

/- THE SECOND FORM. 'bulk': how many values and letters a reading holds, each counted each time it is reached (what is shared counts as often as it is met; a slice's spare places count too). A statement '..UptoSaid' is the law's where the arguments, and the package variables that the reading takes, are together of bulk at most 1048576: NARROWER than '..Said'. Prove '..Said' where nothing that the law and all that it calls make is longer than what came in: it says more and counts as full. Else prove '..UptoSaid'. A law counts once. -/
mutual
def uptoBulk {H : Type} : DataW H → Nat
  | .lit (.string bytes) => bytes.length + 1
  | .lit _ => 1
  | .nil => 1
  | .ptr d => uptoBulk d + 1
  | .slice elems spare => uptoBulkAll elems + uptoBulkAll spare + 1
  | .agg parts => uptoBulkAll parts + 1
  | .iface _ d => uptoBulk d + 1
  | .map entries => uptoBulkEntries entries + 1
  | .held _ => 1
def uptoBulkAll {H : Type} : List (DataW H) → Nat
  | [] => 0
  | d :: r => uptoBulk d + uptoBulkAll r
def uptoBulkEntries {H : Type} : List (Lit × DataW H) → Nat
  | [] => 0
  | x :: r => uptoBulkEntry x + uptoBulkEntries r
def uptoBulkEntry {H : Type} : Lit × DataW H → Nat
  | (.string bytes, d) => bytes.length + uptoBulk d + 1
  | (_, d) => uptoBulk d + 1
 end
def uptoSmall : (H : Type) → List (DataW H) → Bool := fun _ ds => decide (uptoBulkAll ds ≤ 1048576)
def OpenSpec.upto (s : _root_.Go.ChangeSpec) : _root_.Go.OpenSpec := { _root_.Go.OpenSpec.ofChange s with cond := some uptoSmall }

/-- 'faaslaw53.PriceRules', WHERE WHAT IT READS IS OF BULK AT MOST 1048576: true; the input reads as it did. -/
def priceRulesUptoRow : OpenClaim := { program := "ytdmffbbobagloaa", sum := "5b81f8ff01aa25d09576832c08eeeb13e2167de710369238ca19c1847be239b4", func := "faas/faaslaw53.PriceRules", spec := "priceRules", unfollowed := true, recurses := true, apart := false, narrowed := true }
def PriceRulesUptoSaid : Prop := priceRulesUptoRow.holds Try.pinned (OpenSpec.upto priceRulesSpec)

/-- 'faaslaw53.PriceAmounts', WHERE WHAT IT READS IS OF BULK AT MOST 1048576: true; the input reads as it did. -/
def priceAmountsUptoRow : OpenClaim := { program := "ytdmffbbobagloaa", sum := "5b81f8ff01aa25d09576832c08eeeb13e2167de710369238ca19c1847be239b4", func := "faas/faaslaw53.PriceAmounts", spec := "priceAmounts", unfollowed := true, recurses := true, apart := false, narrowed := true }
def PriceAmountsUptoSaid : Prop := priceAmountsUptoRow.holds Try.pinned (OpenSpec.upto priceAmountsSpec)

/-- 'faaslaw53.PriceMonotone', WHERE WHAT IT READS IS OF BULK AT MOST 1048576: true; the input reads as it did. -/
def priceMonotoneUptoRow : OpenClaim := { program := "ytdmffbbobagloaa", sum := "5b81f8ff01aa25d09576832c08eeeb13e2167de710369238ca19c1847be239b4", func := "faas/faaslaw53.PriceMonotone", spec := "priceMonotone", unfollowed := true, recurses := true, apart := false, narrowed := true }
def PriceMonotoneUptoSaid : Prop := priceMonotoneUptoRow.holds Try.pinned (OpenSpec.upto priceMonotoneSpec)

/-- 'faaslaw53.PriceSplits', WHERE WHAT IT READS IS OF BULK AT MOST 1048576: true; the input reads as it did. -/
def priceSplitsUptoRow : OpenClaim := { program := "ytdmffbbobagloaa", sum := "5b81f8ff01aa25d09576832c08eeeb13e2167de710369238ca19c1847be239b4", func := "faas/faaslaw53.PriceSplits", spec := "priceSplits", unfollowed := true, recurses := true, apart := false, narrowed := true }
def PriceSplitsUptoSaid : Prop := priceSplitsUptoRow.holds Try.pinned (OpenSpec.upto priceSplitsSpec)

/-- 'faaslaw53.PriceFree', WHERE WHAT IT READS IS OF BULK AT MOST 1048576: true; the input reads as it did. -/
def priceFreeUptoRow : OpenClaim := { program := "ytdmffbbobagloaa", sum := "5b81f8ff01aa25d09576832c08eeeb13e2167de710369238ca19c1847be239b4", func := "faas/faaslaw53.PriceFree", spec := "priceFree", unfollowed := true, recurses := true, apart := false, narrowed := true }
def PriceFreeUptoSaid : Prop := priceFreeUptoRow.holds Try.pinned (OpenSpec.upto priceFreeSpec)

end Rows
end Go.Proofs.Ytdmffbbobagloaa
