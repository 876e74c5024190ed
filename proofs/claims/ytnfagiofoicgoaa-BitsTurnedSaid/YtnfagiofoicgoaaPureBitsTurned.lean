/- BitsTurned holds: a number turned twice is itself, and turned its bits are got the other way about; at all two ints. No condition. -/
import Derived.Test.YtnfagiofoicgoaaBits
import Derived.Test.YtnfagiofoicgoaaPx10
namespace Go.Proofs.Ytnfagiofoicgoaa.Pure
open Go.RowKit Go.Proofs.Ytnfagiofoicgoaa.P Go.Proofs.Ytnfagiofoicgoaa.Glue Go.Proofs.YtnfagiofoicgoaaW.PrintWords Go.Proofs.YtnfagiofoicgoaaW.PrintLast Go.Proofs.YtnfagiofoicgoaaW.PrintMore
open WP (Row Bytes at_ val)

theorem turned_loop (v n : Nat) (hn : n ≤ 24) (hv : v < 2 ^ n) : ∀ (d i k : Nat), i + d = n → d + 60 < k → wherrylaw01_BitsTurned.l0 k (v : Int) (n : Int) (WP.rev n v : Int) (i : Int) = some true := by
  have hn24 : 2 ^ n ≤ 2 ^ 24 := Nat.pow_le_pow_right (by decide) hn
  have hr := WP.rev_lt n v
  intro d
  induction d with
  | zero =>
    intro i k hi hk
    obtain ⟨k, rfl⟩ : ∃ m, k = m + 1 := ⟨k - 1, by omega⟩
    simp only [wherrylaw01_BitsTurned.l0]
    rw [if_neg (by omega), u64_in (by omega) (by omega), if_pos (by omega), shl_one (by omega), turn_bad (2 ^ n) n k hn (Nat.lt_irrefl _)]
    simp only [Option.bind_some]
    rw [if_pos (by omega), if_pos trivial, wakes_is k (by omega)]
    rfl
  | succ d ih =>
    intro i k hi hk
    obtain ⟨k, rfl⟩ : ∃ m, k = m + 1 := ⟨k - 1, by omega⟩
    simp only [wherrylaw01_BitsTurned.l0]
    rw [if_pos (by omega), u64_in (a := (i : Int)) (by omega) (by omega), if_pos (by omega), wrap64_in (a := (n : Int) - 1) (by omega) (by omega), wrap64_in (a := (n : Int) - 1 - (i : Int)) (by omega) (by omega), u64_in (a := (n : Int) - 1 - (i : Int)) (by omega) (by omega), if_pos (by omega), show (n : Int) - 1 - (i : Int) = ((n - 1 - i : Nat) : Int) from by omega, shr_nat (by simp [IntKind.bits]; omega), shr_nat (by simp [IntKind.bits]; omega), and_one _ (Nat.lt_of_le_of_lt (Nat.div_le_self _ _) (by omega)), and_one _ (Nat.lt_of_le_of_lt (Nat.div_le_self _ _) (by omega)), WP.rev_bit v n i (by omega), if_pos rfl, wrap64_in (by omega) (by omega), show (i : Int) + 1 = ((i + 1 : Nat) : Int) from by omega]
    exact ih (i + 1) k (by omega) (by omega)
theorem BitsTurned : wherrylaw01_BitsTurned.Pure := by
  intro a0 a1 _ _
  obtain ⟨n, hn, en⟩ := tmod_u64 a1 25 (by decide) (by decide)
  refine ⟨200, ?_⟩
  unfold wherrylaw01_BitsTurned.f
  have h24 : 2 ^ n ≤ 2 ^ 24 := Nat.pow_le_pow_right (by decide) (by omega)
  have hp := Nat.two_pow_pos n
  have e : Go.bits .and .i64 a0 (wrap64 ((shl .i64 1 (IntKind.u64.wrap (n : Int))) - 1)) = ((a0 % 2 ^ n).toNat : Int) := by
    rw [u64_in (by omega) (by omega), shl_one (by omega), wrap64_in (by omega) (by omega), show ((2 ^ n : Nat) : Int) = 2 ^ n from by simp, and_mask _ _ (by omega)]
    have hp2 : (0 : Int) < 2 ^ n := Int.pow_pos (by decide)
    rw [Int.toNat_of_nonneg (Int.emod_nonneg _ (Int.ne_of_gt hp2))]
  have hv : (a0 % 2 ^ n).toNat < 2 ^ n := by
    have hp2 : (0 : Int) < 2 ^ n := Int.pow_pos (by decide)
    have h0 := Int.emod_nonneg a0 (Int.ne_of_gt hp2)
    have h1 := Int.emod_lt_of_pos a0 hp2
    have : (2 : Int) ^ n = ((2 ^ n : Nat) : Int) := by simp
    omega
  rw [en, e, u64_in (by omega) (by omega), if_pos (by omega)]
  generalize (a0 % 2 ^ n).toNat = v at hv
  rw [turn_is v n 200 (by omega) hv (by decide)]
  simp only [Option.bind_some]
  rw [turn_is (WP.rev n v) n 200 (by omega) (WP.rev_lt n v) (by decide)]
  simp only [Option.bind_some]
  rw [if_pos trivial, if_pos trivial, WP.rev_rev hv, bne_self_eq_false]
  simp only [wherrylaw01_BitsTurned.j0]
  rw [if_neg (by decide)]
  exact turned_loop v n (by omega) hv n 0 199 (by omega) (by omega)
end Go.Proofs.Ytnfagiofoicgoaa.Pure
