/- BitsBack holds: numbers put one behind the other, each in its own count of bits, are got so; at all lists of ints. No condition. -/
import Derived.Test.YtnfagiofoicgoaaBits
import Derived.Test.YtnfagiofoicgoaaPx5
namespace Go.Proofs.Ytnfagiofoicgoaa.Pure
open Go.RowKit Go.Proofs.Ytnfagiofoicgoaa.P Go.Proofs.Ytnfagiofoicgoaa.Glue Go.Proofs.YtnfagiofoicgoaaW.PrintWords Go.Proofs.YtnfagiofoicgoaaW.PrintLast Go.Proofs.YtnfagiofoicgoaaW.PrintMore
open WP (Row Bytes at_ val)

/-- The sizes, the numbers, the places of BitsBack. -/
def kk (l1 : List Int) (i : Nat) : Nat := (IntKind.u64.wrap (l1.getD i 0) % 25).toNat
def vv (l0 l1 : List Int) (i : Nat) : Nat := (l0.getD i 0 % 2 ^ kk l1 i).toNat
def pos (l1 : List Int) : Nat → Nat
  | 0 => 0
  | i + 1 => pos l1 i + kk l1 i
def xx (l0 l1 : List Int) : Nat → Nat
  | 0 => 0
  | i + 1 => xx l0 l1 i + vv l0 l1 i * 2 ^ pos l1 i
theorem kk_lt (l1 : List Int) (i : Nat) : kk l1 i ≤ 24 := by
  unfold kk
  have := u64_nonneg (l1.getD i 0)
  omega
theorem vv_lt (l0 l1 : List Int) (i : Nat) : vv l0 l1 i < 2 ^ kk l1 i := by
  unfold vv
  have hp : (0 : Int) < 2 ^ kk l1 i := Int.pow_pos (by decide)
  have h0 := Int.emod_nonneg (l0.getD i 0) (Int.ne_of_gt hp)
  have h1 := Int.emod_lt_of_pos (l0.getD i 0) hp
  have : (2 : Int) ^ kk l1 i = ((2 ^ kk l1 i : Nat) : Int) := by simp
  omega
theorem pos_le (l1 : List Int) (i : Nat) : pos l1 i ≤ 24 * i := by
  induction i with
  | zero => exact Nat.le_refl _
  | succ i ih => have := kk_lt l1 i; simp only [pos]; omega
theorem xx_lt (l0 l1 : List Int) (i : Nat) : xx l0 l1 i < 2 ^ pos l1 i := by
  induction i with
  | zero => exact Nat.one_pos
  | succ i ih =>
    simp only [xx, pos]
    have h := vv_lt l0 l1 i
    rw [Nat.pow_add]
    have : vv l0 l1 i * 2 ^ pos l1 i + 2 ^ pos l1 i ≤ 2 ^ pos l1 i * 2 ^ kk l1 i := by
      rw [Nat.mul_comm (2 ^ pos l1 i), ← Nat.succ_mul]
      exact Nat.mul_le_mul_right _ h
    omega
theorem xx_at (l0 l1 : List Int) (i d : Nat) : at_ (xx l0 l1 (i + 1 + d)) (pos l1 i) (kk l1 i) = vv l0 l1 i ∧ pos l1 i + kk l1 i ≤ pos l1 (i + 1 + d) := by
  induction d with
  | zero =>
    simp only [Nat.add_zero, xx]
    rw [WP.at_high _ _ _ _ (xx_lt l0 l1 i), Nat.mod_eq_of_lt (vv_lt l0 l1 i)]
    exact ⟨rfl, Nat.le_refl _⟩
  | succ d ih =>
    rw [← Nat.add_assoc]
    simp only [xx, pos]
    rw [WP.at_low _ _ _ _ _ ih.2]
    exact ⟨ih.1, by have := ih.2; omega⟩
theorem size_is (l1 : List Int) (i : Nat) : wrap64 (Int.tmod (IntKind.u64.wrap (rd l1 (i : Int))) 25) = (kk l1 i : Int) := by
  rw [rd_nat]
  unfold kk
  have h := u64_nonneg (l1.getD i 0)
  generalize IntKind.u64.wrap (l1.getD i 0) = b at h
  rw [Int.tmod_eq_emod_of_nonneg h, wrap64_in (by omega) (by omega)]
  omega
theorem mask_is (l0 l1 : List Int) (i : Nat) : Go.bits .and .i64 (rd l0 (i : Int)) (wrap64 ((shl .i64 1 (IntKind.u64.wrap (kk l1 i : Int))) - 1)) = (vv l0 l1 i : Int) := by
  have hk := kk_lt l1 i
  have h24 : 2 ^ kk l1 i ≤ 2 ^ 24 := Nat.pow_le_pow_right (by decide) hk
  have hp := Nat.two_pow_pos (kk l1 i)
  rw [u64_in (by omega) (by omega), shl_one (by omega), wrap64_in (by omega) (by omega), rd_nat, show ((2 ^ kk l1 i : Nat) : Int) = 2 ^ kk l1 i from by simp, and_mask _ _ (by omega)]
  unfold vv
  have hp2 : (0 : Int) < 2 ^ kk l1 i := Int.pow_pos (by decide)
  rw [Int.toNat_of_nonneg (Int.emod_nonneg _ (Int.ne_of_gt hp2))]
theorem back_gets (l0 l1 : List Int) (n : Nat) (hn : n ≤ 300) (h0 : n ≤ l0.length) (h1 : n ≤ l1.length) (B : List Int) (hB : Row B (pos l1 n) (xx l0 l1 n)) : ∀ (d i k : Nat), i + d = n → d + 60 < k →
    wherrylaw01_BitsBack.l1 k l0 l1 (n : Int) (pos l1 n : Int) (pos l1 i : Int) (i : Int) B (pos l1 n : Int) = some true := by
  have hpn := pos_le l1 n
  have hlen := hB.len
  intro d
  induction d with
  | zero =>
    intro i k hi hk
    obtain ⟨k, rfl⟩ : ∃ m, k = m + 1 := ⟨k - 1, by omega⟩
    obtain rfl : i = n := by omega
    simp only [wherrylaw01_BitsBack.l1]
    rw [if_neg (by omega), if_pos trivial, wrap64_in (a := (pos l1 i : Int) + 7) (by omega) (by omega), show (pos l1 i : Int) + 7 = ((pos l1 i + 7 : Nat) : Int) from by omega, show (8 : Int) = ((8 : Nat) : Int) from rfl, tdiv_nat, wrap64_in (by omega) (by omega), if_pos (by omega), if_pos trivial, check_row hB (by omega) (by omega)]
    simp only [Option.bind_some]
    rw [if_pos trivial, wakes_is k (by omega)]
    rfl
  | succ d ih =>
    intro i k hi hk
    obtain ⟨k, rfl⟩ : ∃ m, k = m + 1 := ⟨k - 1, by omega⟩
    have hx := xx_at l0 l1 i d
    rw [show i + 1 + d = n from by omega] at hx
    have hk24 := kk_lt l1 i
    simp only [wherrylaw01_BitsBack.l1]
    rw [if_pos (by omega), if_pos (by omega), if_pos (by omega), size_is, get_is hB.bytes (by omega) (pos l1 i) (kk l1 i) k hk24 (by omega) (by omega), hB.val]
    simp only [Option.bind_some]
    rw [if_pos trivial, if_pos (by omega), if_pos (u64_nonneg _), mask_is, hx.1, if_pos rfl, wrap64_in (by omega) (by omega), if_pos (by omega), wrap64_in (by omega) (by omega), show (i : Int) + 1 = ((i + 1 : Nat) : Int) from by omega]
    exact ih (i + 1) k (by omega) (by omega)
theorem back_puts (l0 l1 : List Int) (n : Nat) (hn : n ≤ 300) (h0 : n ≤ l0.length) (h1 : n ≤ l1.length) : ∀ (d i k : Nat) (B : List Int), i + d = n → Row B (pos l1 i) (xx l0 l1 i) → d + n + 70 < k →
    wherrylaw01_BitsBack.l0 k l0 l1 (n : Int) (pos l1 i : Int) (i : Int) B (pos l1 i : Int) = some true := by
  have hpn := pos_le l1 n
  intro d
  induction d with
  | zero =>
    intro i k B hi hB hk
    obtain ⟨k, rfl⟩ : ∃ m, k = m + 1 := ⟨k - 1, by omega⟩
    obtain rfl : i = n := by omega
    simp only [wherrylaw01_BitsBack.l0]
    rw [if_neg (by omega)]
    exact back_gets l0 l1 i hn h0 h1 B hB i 0 k (by omega) (by omega)
  | succ d ih =>
    intro i k B hi hB hk
    obtain ⟨k, rfl⟩ : ∃ m, k = m + 1 := ⟨k - 1, by omega⟩
    have hk24 := kk_lt l1 i
    have hpi := pos_le l1 i
    obtain ⟨B', e, hB'⟩ := put_row hB hk24 (vv_lt l0 l1 i) (by omega)
    simp only [wherrylaw01_BitsBack.l0]
    rw [if_pos (by omega), if_pos (by omega), if_pos (by omega), if_pos (by omega), size_is, if_pos (u64_nonneg _), mask_is, e]
    simp only [Option.bind_some]
    rw [if_pos trivial, wrap64_in (by omega) (by omega), wrap64_in (by omega) (by omega), show (i : Int) + 1 = ((i + 1 : Nat) : Int) from by omega, show (pos l1 i : Int) + (kk l1 i : Int) = ((pos l1 i + kk l1 i : Nat) : Int) from by omega]
    exact ih (i + 1) k B' (by omega) hB' (by omega)
theorem BitsBack : wherrylaw01_BitsBack.Pure := by
  intro l0 l1 _ h0 _ _ h1 _
  refine ⟨1000, ?_⟩
  unfold wherrylaw01_BitsBack.f
  have hm : mn (l0.length : Int) (l1.length : Int) = ((min l0.length l1.length : Nat) : Int) := by unfold mn; split <;> omega
  rw [hm]
  by_cases h : ((min l0.length l1.length : Nat) : Int) > 300
  · rw [if_pos h]
  · rw [if_neg h]
    exact back_puts l0 l1 (min l0.length l1.length) (by omega) (by omega) (by omega) _ 0 1000 [] (Nat.zero_add _) Row.empty (by omega)
end Go.Proofs.Ytnfagiofoicgoaa.Pure
