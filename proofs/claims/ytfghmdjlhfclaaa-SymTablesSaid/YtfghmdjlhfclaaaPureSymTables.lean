/- SymTables holds: at every int the least lengths, the least distances and the counts of further bits that the symbols have are those of the two tables, and the symbols behind the last ones are refused. No condition. -/
import Derived.Test.YtfghmdjlhfclaaaPx2
namespace Go.Proofs.Ytfghmdjlhfclaaa.Pure
open Go.RowKit Go.Proofs.Ytfghmdjlhfclaaa.P Go.Proofs.YtfghmdjlhfclaaaW.PrintWords Go.Proofs.YtfghmdjlhfclaaaW.PrintLast

theorem tables_all : ∀ n : Fin 30, wherrylaw05_SymTables.f 100 (n.val : Int) = some true := by decide +kernel

theorem wrap_u64 (a : Int) : IntKind.u64.wrap a = a % 18446744073709551616 := by
  simp [IntKind.wrap, IntKind.signed, IntKind.bits]

theorem tables_mod (a m : Int) (h0 : 0 < m) (h1 : m < 1000000) : ∃ n : Nat, (n : Int) < m ∧ wrap64 (Int.tmod (IntKind.u64.wrap a) m) = wrap64 (Int.tmod (IntKind.u64.wrap n) m) := by
  rw [wrap_u64]
  have hw : 0 ≤ a % 18446744073709551616 := Int.emod_nonneg _ (by decide)
  generalize a % 18446744073709551616 = b at hw
  have h2 : 0 ≤ b % m := Int.emod_nonneg _ (by omega)
  have h3 : b % m < m := Int.emod_lt_of_pos _ h0
  refine ⟨(b % m).toNat, by omega, ?_⟩
  rw [Int.toNat_of_nonneg h2, wrap_u64, Int.tmod_eq_emod_of_nonneg hw, Int.emod_eq_of_lt (a := b % m) (b := 18446744073709551616) h2 (by omega), Int.tmod_eq_emod_of_nonneg h2, Int.emod_eq_of_lt h2 h3]

theorem SymTables : wherrylaw05_SymTables.Pure := by
  intro a _
  obtain ⟨n, hn, e⟩ := tables_mod a 30 (by decide) (by decide)
  have := tables_all ⟨n, by omega⟩
  refine ⟨100, ?_⟩
  rw [← this]
  unfold wherrylaw05_SymTables.f
  rw [e]
end Go.Proofs.Ytfghmdjlhfclaaa.Pure
