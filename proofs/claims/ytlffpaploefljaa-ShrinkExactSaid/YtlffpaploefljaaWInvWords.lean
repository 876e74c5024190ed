-- PRINTED BY print.sh 35421559b90ae4d0a3588c463048766b98c2df88dd9212a6774a882060cdf62d: not written by this session
import Derived.Test.YtlffpaploefljaaWInv
import Derived.Test.YtlffpaploefljaaWFootNe
namespace Go.Proofs.YtlffpaploefljaaW.PrintWords
open Go.RowKit
end Go.Proofs.YtlffpaploefljaaW.PrintWords
namespace Go.Proofs.YtlffpaploefljaaW.PrintLast
section
variable {ops : Array Oper} {a : Act} {o og : Oper} {g : Nat} {t : Tmp} {u : Bool}
end
end Go.Proofs.YtlffpaploefljaaW.PrintLast
