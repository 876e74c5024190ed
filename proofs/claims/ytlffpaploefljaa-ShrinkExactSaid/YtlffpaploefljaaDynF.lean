/- What a text is made small to, as a block of lengths of its own; used by the claims of this seat. -/
import Derived.Test.YtlffpaploefljaaShrinkW
import Derived.Test.YtlffpaploefljaaPx39
import Derived.Test.YtlffpaploefljaaPx65
namespace Go.Proofs.Ytlffpaploefljaa.Glue
open Go.RowKit Go.Proofs.Ytlffpaploefljaa.P Go.Proofs.YtlffpaploefljaaW.PrintWords Go.Proofs.YtlffpaploefljaaW.PrintLast Go.Proofs.YtlffpaploefljaaW.PrintMore
open WP (Row Bytes at_ val wN wX Wrote)
open Go.Proofs.Ytlffpaploefljaa.Tok (tokens_is)
theorem dynamic_f {b : List Int} (hb : Bytes b) (hl : b.length ≤ 4096) (m : Made b) : shrink_Dynamic.f b = some (m.dy.1, 0) := by
  unfold shrink_Dynamic.f
  rw [tokens_is (bytes_wf hb) hl, Option.bind_some, if_pos rfl, if_pos (by have : (toks b b.length 0).length ≤ 4096 := (T_ok b hb hl).2.2.2.1; simp only; omega)]
  simp only
  rw [m.hdy, Option.bind_some]
end Go.Proofs.Ytlffpaploefljaa.Glue
