/- Arguments that are slices of strings, beside the walks. -/
import Derived.Test.YtjcojgblnbhejaaWL
import Derived.Test.YtjcojgblnbhejaaBL
namespace Go.Proofs.Ytjcojgblnbhejaa
theorem walAppends_arg {W : World} {A : Option Addr} {n cap : Nat} {l : List (List UInt8)} (h : ArgS W A n cap l) : l.length = n := h.1
end Go.Proofs.Ytjcojgblnbhejaa
