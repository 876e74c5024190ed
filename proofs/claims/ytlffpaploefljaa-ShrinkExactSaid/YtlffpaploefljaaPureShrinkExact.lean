/- ShrinkExact holds: what any text is made small to, as each kind of block and as the least one, is the reference's, and the text stays; at every list of bytes. No condition. -/
import Derived.Test.YtlffpaploefljaaWrD
import Derived.Test.YtlffpaploefljaaCanon
import Derived.Test.YtlffpaploefljaaPx5
import Derived.Test.YtlffpaploefljaaPx65
import Derived.Test.YtlffpaploefljaaPx74
namespace Go.Proofs.Ytlffpaploefljaa.Pure
open Go.RowKit Go.Proofs.Ytlffpaploefljaa.P Go.Proofs.Ytlffpaploefljaa.Glue Go.Proofs.YtlffpaploefljaaW.PrintWords Go.Proofs.YtlffpaploefljaaW.PrintLast Go.Proofs.YtlffpaploefljaaW.PrintMore
theorem ShrinkExact : wherrylaw06_ShrinkExact.Pure := fun _ _ _ h3 => if_pos (bytes_of h3)
end Go.Proofs.Ytlffpaploefljaa.Pure
