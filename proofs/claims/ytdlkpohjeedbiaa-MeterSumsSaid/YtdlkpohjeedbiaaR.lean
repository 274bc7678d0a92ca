/- The walk of MeterSums of layer 34, as its frame wants it. -/
import Derived.Test.YtdlkpohjeedbiaaP
import Derived.Test.YtdlkpohjeedbiaaQ
namespace Go.Proofs.Ytdlkpohjeedbiaa
open Go.ChangeShapes Go.WideShapes Go.ChangeAt Go.RowKit

theorem meterSums_walk (a1 a2 a3 a4 : Int) (b1 b2 b3 b4 : Int) (A : Option Addr) (n cap : Nat) (us : List U4) (w : World) (_ : (Lit.int .i64 a1).wf = true) (_ : (Lit.int .i64 a2).wf = true) (_ : (Lit.int .i64 a3).wf = true) (_ : (Lit.int .i64 a4).wf = true) (_ : (Lit.int .i64 b1).wf = true) (_ : (Lit.int .i64 b2).wf = true) (_ : (Lit.int .i64 b3).wf = true) (_ : (Lit.int .i64 b4).wf = true)
    (h : us.length = n ∧ Seg w A (n * 4) (uCell us) ∧ n ≤ maxLen) : Calls Try.prog 6 #[.agg #[.int .i64 a1, .int .i64 a2, .int .i64 a3, .int .i64 a4], .agg #[.int .i64 b1, .int .i64 b2, .int .i64 b3, .int .i64 b4], .slice A n cap] w fun e w' => e = .returned (.bool true) ∧ Below w.heap.size w w' := meterSums_main a1 a2 a3 a4 b1 b2 b3 b4 A n cap us w h.1 h.2.1
end Go.Proofs.Ytdlkpohjeedbiaa
