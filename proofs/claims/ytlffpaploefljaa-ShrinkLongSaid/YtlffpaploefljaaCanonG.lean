/- What the small functions of the laws answer; used by the claims of this seat. -/
import Derived.Test.YtlffpaploefljaaCanon
import Derived.Test.YtlffpaploefljaaPx10
import Derived.Test.YtlffpaploefljaaPx51
namespace Go.Proofs.Ytlffpaploefljaa.Glue
open Go.RowKit Go.Proofs.Ytlffpaploefljaa.P Go.Proofs.YtlffpaploefljaaW.PrintWords Go.Proofs.YtlffpaploefljaaW.PrintLast Go.Proofs.YtlffpaploefljaaW.PrintMore
open WP (Row Bytes at_ val)

/-- A place in a row, out of any int. -/
theorem place_of (a : Int) (n : Nat) (h0 : 0 < n) (h1 : n < 2 ^ 60) : ∃ i : Nat, i < n ∧ wrap64 (Int.tmod (IntKind.u64.wrap a) (IntKind.u64.wrap (n : Int))) = (i : Int) := by
  rw [u64_in (a := (n : Int)) (by omega) (by omega)]
  obtain ⟨i, h, e⟩ := tmod_u64 a (n : Int) (by omega) (by omega)
  exact ⟨i, by omega, e⟩
end Go.Proofs.Ytlffpaploefljaa.Glue
