/- BitsExact holds: whether any row is right, what it is with a number behind it, filled, what is got of any bytes, what is turned, or why not, are the reference's; at all rows of bits, bytes and ints. No condition. -/
import Derived.Test.YtnfagiofoicgoaaBits
import Derived.Test.YtnfagiofoicgoaaPx1
import Derived.Test.YtnfagiofoicgoaaPx2
import Derived.Test.YtnfagiofoicgoaaPx4
import Derived.Test.YtnfagiofoicgoaaPx5
import Derived.Test.YtnfagiofoicgoaaPx8
import Derived.Test.YtnfagiofoicgoaaPx10
import Derived.Test.YtnfagiofoicgoaaPx12
import Derived.Test.YtnfagiofoicgoaaPx13
import Derived.Test.YtnfagiofoicgoaaPx14
import Derived.Test.YtnfagiofoicgoaaPx15
import Derived.Test.YtnfagiofoicgoaaPx16
namespace Go.Proofs.Ytnfagiofoicgoaa.Pure
open Go.RowKit Go.Proofs.Ytnfagiofoicgoaa.P Go.Proofs.Ytnfagiofoicgoaa.Glue Go.Proofs.YtnfagiofoicgoaaW.PrintWords Go.Proofs.YtnfagiofoicgoaaW.PrintLast Go.Proofs.YtnfagiofoicgoaaW.PrintMore
open WP (Row Bytes at_ val)

/-- A right row of N bits. -/
def RightRow (B : List Int) (N : Int) : Prop := 0 ≤ N ∧ N ≤ 40000 ∧ Row B N.toNat (val B)
theorem last_over {B : List Int} (hb : Bytes B) {N : Nat} (hl : B.length = (N + 7) / 8) (h8 : N % 8 ≠ 0) : (B.getD (B.length - 1) 0).toNat / 2 ^ (N % 8) = val B / 2 ^ N := by
  rw [WP.val_get hb, show B.length - 1 = N / 8 from by omega]
  have hv := WP.val_lt hb
  have e : val B / 256 ^ (N / 8) < 256 := by
    rw [Nat.div_lt_iff_lt_mul (Nat.pow_pos (by decide)), ← Nat.pow_succ', show (N / 8).succ = B.length from by omega]
    exact hv
  rw [Nat.mod_eq_of_lt e, Nat.div_div_eq_div_mul, ← WP.two_pow_split]
theorem check_int {B : List Int} (hb : Bytes B) (N : Int) (hw : -9223372036854775808 ≤ N ∧ N < 9223372036854775808) (k : Nat) (hk : 1 ≤ k) : ∃ e, bits_Check.f k B N = some e ∧ (RightRow B N ∧ e = 0 ∨ ¬ RightRow B N ∧ e = 1) := by
  obtain ⟨k, rfl⟩ : ∃ m, k = m + 1 := ⟨k - 1, by omega⟩
  by_cases hr : RightRow B N
  · obtain ⟨h0, h1, h2⟩ := hr
    refine ⟨0, ?_, .inl ⟨⟨h0, h1, h2⟩, rfl⟩⟩
    have := check_row h2 (by omega) hk
    rwa [Int.toNat_of_nonneg h0] at this
  · refine ⟨1, ?_, .inr ⟨hr, rfl⟩⟩
    unfold bits_Check.f
    by_cases h0 : N < 0
    · rw [if_pos h0]; simp only [bits_Check.j0]; rw [if_pos trivial]
    by_cases h1 : N > 40000
    · rw [if_neg h0, if_pos h1]; simp only [bits_Check.j0]; rw [if_pos trivial]
    rw [if_neg h0, if_neg h1]
    obtain ⟨n, rfl⟩ := Int.eq_ofNat_of_zero_le (show 0 ≤ N by omega)
    rw [wrap64_in (a := (n : Int) + 8) (by omega) (by omega), show (n : Int) + 8 - 1 = ((n + 7 : Nat) : Int) from by omega, wrap64_in (a := ((n + 7 : Nat) : Int)) (by omega) (by omega), show (8 : Int) = ((8 : Nat) : Int) from rfl, tdiv_nat, wrap64_in (by omega) (by omega)]
    by_cases hl : B.length = (n + 7) / 8
    · rw [bne_eq_false_iff_eq.2 (by omega)]
      have hv : ¬ val B < 2 ^ n := fun hv => hr ⟨by omega, by omega, by rw [Int.toNat_natCast]; exact ⟨hb, hl, rfl, hv⟩⟩
      have h8 : n % 8 ≠ 0 := by
        intro h8
        apply hv
        have := WP.val_lt hb
        rw [WP.pow256, show 8 * B.length = n from by omega] at this
        exact this
      simp only [bits_Check.j0]
      rw [if_neg (by decide), show (8 : Int) = ((8 : Nat) : Int) from rfl, tmod_nat, u64_in (by omega) (by omega), if_pos (by omega), wrap64_in (by omega) (by omega), if_pos (by omega), if_pos (by omega), if_pos (by omega), show (B.length : Int) - 1 = ((B.length - 1 : Nat) : Int) from by omega, rd_nat]
      have hg := hb.get (B.length - 1)
      have e := last_over hb hl h8
      generalize B.getD (B.length - 1) 0 = x at hg e ⊢
      obtain ⟨y, rfl⟩ := Int.eq_ofNat_of_zero_le hg.1
      rw [Int.toNat_natCast] at e
      rw [shr_nat (by simp [IntKind.bits]; omega), e, if_neg]
      have : 0 < val B / 2 ^ n := Nat.div_pos (by omega) (Nat.two_pow_pos n)
      omega
    · rw [bne_iff_ne.2 (by omega)]; simp only [bits_Check.j0]; rw [if_pos trivial]
theorem bit_is {B : List Int} (hb : Bytes B) (hl : B.length < 2 ^ 40) (i : Nat) (hi : i < 8 * B.length) : wherryref01_bit.f B (i : Int) = some ((val B / 2 ^ i % 2 : Nat) : Int) := by
  unfold wherryref01_bit.f
  rw [show (8 : Int) = ((8 : Nat) : Int) from rfl, tdiv_nat, tmod_nat, wrap64_in (by omega) (by omega), if_pos (by omega), if_pos (by omega), u64_in (by omega) (by omega), if_pos (by omega), rd_nat]
  have hg := hb.get (i / 8)
  have hbit := WP.val_bit hb i
  generalize B.getD (i / 8) 0 = x at hg hbit ⊢
  obtain ⟨y, rfl⟩ := Int.eq_ofNat_of_zero_le hg.1
  rw [Int.toNat_natCast] at hbit
  have hy1 : y / 2 ^ (i % 8) ≤ y := Nat.div_le_self _ _
  have hy2 : y / 2 ^ (i % 8) < 2 ^ 63 := by omega
  rw [shr_nat (by simp [IntKind.bits]; omega)]
  generalize y / 2 ^ (i % 8) = q at hbit hy2 ⊢
  rw [wrap64_in (by omega) (by omega), and_one _ hy2, hbit]
theorem in_is (a b c : Int) : wherryref01_in.f a b c = some (decide (b ≤ a ∧ a ≤ c)) := by
  unfold wherryref01_in.f
  by_cases h : a ≥ b
  · rw [if_pos h]; congr 1; simp [h]
  · rw [if_neg h]; congr 1; simp; omega
theorem rights_loop {B : List Int} (hb : Bytes B) (hl : B.length < 2 ^ 40) (N : Int) : ∀ (d i k : Nat), i + d = 8 * B.length → d < k → wherryref01_RightBits.l0 k (i : Int) B N = some (decide (val B / 2 ^ i = 0)) := by
  intro d
  induction d with
  | zero =>
    intro i k hi hk
    obtain ⟨k, rfl⟩ : ∃ m, k = m + 1 := ⟨k - 1, by omega⟩
    simp only [wherryref01_RightBits.l0]
    rw [wrap64_in (by omega) (by omega), if_neg (by omega), decide_eq_true]
    have := WP.val_lt hb
    rw [WP.pow256, show 8 * B.length = i from by omega] at this
    exact Nat.div_eq_of_lt this
  | succ d ih =>
    intro i k hi hk
    obtain ⟨k, rfl⟩ : ∃ m, k = m + 1 := ⟨k - 1, by omega⟩
    simp only [wherryref01_RightBits.l0]
    rw [wrap64_in (by omega) (by omega), if_pos (by omega), bit_is hb hl i (by omega)]
    simp only [Option.bind_some]
    have e : val B / 2 ^ (i + 1) = val B / 2 ^ i / 2 := by rw [Nat.pow_succ, Nat.div_div_eq_div_mul]
    by_cases h : val B / 2 ^ i % 2 = 0
    · rw [if_pos (by omega), wrap64_in (by omega) (by omega), show (i : Int) + 1 = ((i + 1 : Nat) : Int) from by omega, ih (i + 1) k (by omega) (by omega), e]
      congr 1
      rw [decide_eq_decide]
      omega
    · rw [if_neg (by omega), decide_eq_false (by omega)]
theorem rights_int {B : List Int} (hb : Bytes B) (N : Int) (hw : -9223372036854775808 ≤ N ∧ N < 9223372036854775808) (k : Nat) (hl : B.length ≤ 6000) (hk : 50000 ≤ k) : ∃ r, wherryref01_RightBits.f k B N = some r ∧ (RightRow B N ∧ r = true ∨ ¬ RightRow B N ∧ r = false) := by
  obtain ⟨k, rfl⟩ : ∃ m, k = m + 1 := ⟨k - 1, by omega⟩
  unfold wherryref01_RightBits.f
  rw [in_is]
  simp only [Option.bind_some]
  by_cases hin : 0 ≤ N ∧ N ≤ 40000
  · rw [if_pos (by simpa using hin)]
    obtain ⟨n, rfl⟩ := Int.eq_ofNat_of_zero_le hin.1
    rw [wrap64_in (a := (n : Int) + 7) (by omega) (by omega), show (n : Int) + 7 = ((n + 7 : Nat) : Int) from by omega, show (8 : Int) = ((8 : Nat) : Int) from rfl, tdiv_nat, wrap64_in (by omega) (by omega)]
    by_cases hll : B.length = (n + 7) / 8
    · rw [bne_eq_false_iff_eq.2 (by omega)]
      simp only [wherryref01_RightBits.j0]
      rw [if_neg (by decide), rights_loop hb (by omega) _ (8 * B.length - n) n k (by omega) (by omega)]
      by_cases hv : val B < 2 ^ n
      · exact ⟨true, by rw [decide_eq_true (Nat.div_eq_of_lt hv)], .inl ⟨⟨by omega, by omega, by rw [Int.toNat_natCast]; exact ⟨hb, hll, rfl, hv⟩⟩, rfl⟩⟩
      · refine ⟨false, ?_, .inr ⟨fun h => hv (by have := h.2.2.lt; rwa [Int.toNat_natCast] at this), rfl⟩⟩
        rw [decide_eq_false]
        have : 0 < val B / 2 ^ n := Nat.div_pos (by omega) (Nat.two_pow_pos n)
        omega
    · rw [bne_iff_ne.2 (by omega)]
      simp only [wherryref01_RightBits.j0]
      rw [if_pos trivial]
      refine ⟨false, rfl, .inr ⟨fun h => hll ?_, rfl⟩⟩
      have := h.2.2.len
      rwa [Int.toNat_natCast] at this
  · rw [if_neg (by simpa using hin)]
    simp only [wherryref01_RightBits.j0]
    rw [if_pos trivial]
    exact ⟨false, rfl, .inr ⟨fun h => hin ⟨h.1, h.2.1⟩, rfl⟩⟩
/-- Has a number just so many bits? -/
def Fits (v n : Int) : Prop := 0 ≤ n ∧ n ≤ 24 ∧ 0 ≤ v ∧ v < 2 ^ n.toNat
theorem may_int (v n : Int) : ∃ r, bits_may.f v n = some r ∧ (Fits v n ∧ r = true ∨ ¬ Fits v n ∧ r = false) := by
  by_cases h0 : 0 ≤ n ∧ n ≤ 24 ∧ 0 ≤ v
  · obtain ⟨h0, h1, h2⟩ := h0
    obtain ⟨v, rfl⟩ := Int.eq_ofNat_of_zero_le h2
    obtain ⟨n, rfl⟩ := Int.eq_ofNat_of_zero_le h0
    have e : ((2 : Int) ^ n) = ((2 ^ n : Nat) : Int) := by simp
    rw [may_is (by omega)]
    by_cases hv : v < 2 ^ n
    · exact ⟨true, by rw [decide_eq_true hv], .inl ⟨⟨h0, h1, h2, by rw [Int.toNat_natCast, e]; omega⟩, rfl⟩⟩
    · refine ⟨false, by rw [decide_eq_false hv], .inr ⟨fun h => hv ?_, rfl⟩⟩
      have := h.2.2.2
      rw [Int.toNat_natCast, e] at this
      omega
  · refine ⟨false, ?_, .inr ⟨fun h => h0 ⟨h.1, h.2.1, h.2.2.1⟩, rfl⟩⟩
    unfold bits_may.f
    by_cases a : n ≥ 0
    · rw [if_pos a]
      by_cases b : n ≤ 24
      · rw [if_pos b, if_neg (by omega)]
      · rw [if_neg b]
    · rw [if_neg a]
theorem fits_int (v n : Int) : ∃ r, wherryref01_fits.f v n = some r ∧ (Fits v n ∧ r = true ∨ ¬ Fits v n ∧ r = false) := by
  unfold wherryref01_fits.f
  rw [in_is]
  simp only [Option.bind_some]
  by_cases hin : 0 ≤ n ∧ n ≤ 24
  · rw [if_pos (by simpa using hin)]
    by_cases hv : v ≥ 0
    · rw [if_pos hv]
      obtain ⟨n, rfl⟩ := Int.eq_ofNat_of_zero_le hin.1
      rw [u64_in (by omega) (by omega), if_pos (by omega), shl_one (by omega)]
      have e : ((2 : Int) ^ n) = ((2 ^ n : Nat) : Int) := by simp
      by_cases hlt : v < ((2 ^ n : Nat) : Int)
      · exact ⟨true, by rw [decide_eq_true hlt], .inl ⟨⟨by omega, by omega, hv, by rw [Int.toNat_natCast, e]; exact hlt⟩, rfl⟩⟩
      · refine ⟨false, by rw [decide_eq_false hlt], .inr ⟨fun h => hlt ?_, rfl⟩⟩
        have := h.2.2.2
        rwa [Int.toNat_natCast, e] at this
    · rw [if_neg hv]
      exact ⟨false, rfl, .inr ⟨fun h => hv h.2.2.1, rfl⟩⟩
  · rw [if_neg (by simpa using hin)]
    exact ⟨false, rfl, .inr ⟨fun h => hin ⟨h.1, h.2.1⟩, rfl⟩⟩
theorem shl_u8 {b r : Nat} (hb : b < 2) (hr : r < 8) : shl .u8 ((b : Nat) : Int) (r : Int) = ((b * 2 ^ r : Nat) : Int) := by
  have : b = 0 ∨ b = 1 := by omega
  have hr' : r = 0 ∨ r = 1 ∨ r = 2 ∨ r = 3 ∨ r = 4 ∨ r = 5 ∨ r = 6 ∨ r = 7 := by omega
  rcases this with rfl | rfl <;> rcases hr' with rfl | rfl | rfl | rfl | rfl | rfl | rfl | rfl <;> decide +kernel
/-- The reference's loop puts the same bits. -/
theorem refput_loop (v : Nat) (hv : v < 2 ^ 62) (n : Nat) (hn : n ≤ 24) : ∀ (d i N X k : Nat) (B : List Int), Row B N X → i + d = n → d < k → N + d ≤ 50000 →
    ∃ B', wherryref01_put.l0 k (v : Int) (n : Int) (i : Int) B (N : Int) = some (B', ((N + d : Nat) : Int)) ∧ Row B' (N + d) (X + at_ v i d * 2 ^ N) := by
  intro d
  induction d with
  | zero =>
    intro i N X k B h hi hk hN
    obtain ⟨k, rfl⟩ : ∃ m, k = m + 1 := ⟨k - 1, by omega⟩
    refine ⟨B, ?_, by simpa [at_, Nat.mod_one] using h⟩
    simp only [wherryref01_put.l0]
    rw [if_neg (by omega)]
    rfl
  | succ d ih =>
    intro i N X k B h hi hk hN
    obtain ⟨k, rfl⟩ : ∃ m, k = m + 1 := ⟨k - 1, by omega⟩
    have hb2 : v / 2 ^ i % 2 < 2 := Nat.mod_lt _ (by decide)
    have e : X + v / 2 ^ i % 2 * 2 ^ N + at_ v (i + 1) d * 2 ^ (N + 1) = X + at_ v i (d + 1) * 2 ^ N := by
      have := WP.at_add v i 1 d
      rw [Nat.add_comm 1 d] at this
      rw [this, show at_ v i 1 = v / 2 ^ i % 2 from rfl, Nat.add_mul, Nat.pow_succ]
      rw [show at_ v (i + 1) d * 2 ^ 1 * 2 ^ N = at_ v (i + 1) d * (2 ^ N * 2) from by rw [Nat.mul_assoc, Nat.mul_comm (2 ^ 1)]]
      omega
    have key : ∀ B0 : List Int, (B0 = if N % 8 = 0 then B ++ [0] else B) → ∃ B', wherryref01_put.l0 k (v : Int) (n : Int) ((i + 1 : Nat) : Int) (B0.set (N / 8) (Go.bits .or .u8 (rd B0 ((N / 8 : Nat) : Int)) (((v / 2 ^ i % 2 * 2 ^ (N % 8) : Nat) : Int)))) ((N + 1 : Nat) : Int) = some (B', ((N + (d + 1) : Nat) : Int)) ∧ Row B' (N + (d + 1)) (X + at_ v i (d + 1) * 2 ^ N) := by
      intro B0 hB0
      obtain ⟨h0, h1, h2, h3, h4⟩ := h.bit (B' := B0) (v / 2 ^ i % 2) hb2 ((B0.getD (B0.length - 1) 0).toNat + v / 2 ^ i % 2 * 2 ^ (N % 8) : Nat) hB0 rfl
      have hp8 : 2 ^ (N % 8) ≤ 128 := by
        have hr : N % 8 < 8 := Nat.mod_lt _ (by decide)
        have := Nat.pow_le_pow_right (n := 2) (by decide) (show N % 8 ≤ 7 by omega)
        simpa using this
      have hbm : v / 2 ^ i % 2 * 2 ^ (N % 8) ≤ 2 ^ (N % 8) := by
        have := Nat.mul_le_mul_right (2 ^ (N % 8)) (show v / 2 ^ i % 2 ≤ 1 by omega)
        simpa using this
      have hbytes : Bytes B0 := by
        rw [hB0]
        split
        · exact h.bytes.append (fun x hx => by rw [List.mem_singleton.1 hx]; decide)
        · exact h.bytes
      rw [h0] at h2 h4
      have hg := (hbytes.get (N / 8)).1
      have e8 : Go.bits .or .u8 (rd B0 ((N / 8 : Nat) : Int)) ((v / 2 ^ i % 2 * 2 ^ (N % 8) : Nat) : Int) = (((B0.getD (N / 8) 0).toNat + v / 2 ^ i % 2 * 2 ^ (N % 8) : Nat) : Int) := by
        rw [rd_nat]
        generalize B0.getD (N / 8) 0 = x at hg h2 ⊢
        obtain ⟨y, rfl⟩ := Int.eq_ofNat_of_zero_le hg
        rw [Int.toNat_natCast] at h2 ⊢
        rw [or_u8 (by omega) (by omega), or_add h2]
      rw [e8]
      obtain ⟨B', q1, q2⟩ := ih (i + 1) (N + 1) _ k _ h4 (by omega) (by omega) (by omega)
      rw [e] at q2
      rw [show N + 1 + d = N + (d + 1) from by omega] at q1 q2
      exact ⟨B', q1, q2⟩
    have hlen := h.len
    simp only [wherryref01_put.l0]
    rw [if_pos (by omega), show (8 : Int) = ((8 : Nat) : Int) from rfl, tmod_nat, tdiv_nat, wrap64_in (a := ((N / 8 : Nat) : Int)) (by omega) (by omega), u64_in (a := (i : Int)) (by omega) (by omega), u64_in (a := ((N % 8 : Nat) : Int)) (by omega) (by omega), shr_nat (by simp [IntKind.bits]; omega), and_one _ (Nat.lt_of_le_of_lt (Nat.div_le_self _ _) (by omega)), show ((v / 2 ^ i % 2 : Nat) : Int) % 256 = ((v / 2 ^ i % 2 : Nat) : Int) from by omega, shl_u8 hb2 (Nat.mod_lt _ (by decide)), wrap64_in (a := (i : Int) + 1) (by omega) (by omega), wrap64_in (a := (N : Int) + 1) (by omega) (by omega), show (i : Int) + 1 = ((i + 1 : Nat) : Int) from by omega, show (N : Int) + 1 = ((N + 1 : Nat) : Int) from by omega, Int.toNat_natCast]
    by_cases h8 : N % 8 = 0
    · rw [if_pos (by omega), if_pos (by omega)]
      simp only [Option.bind_some]
      rw [if_pos (by omega), if_pos (by simp; omega), if_pos (by omega), if_pos (by omega)]
      exact key (B ++ [0]) (by rw [if_pos h8])
    · rw [if_neg (by omega), if_pos (by omega), if_pos (by omega), if_pos (by omega), if_pos (by omega)]
      exact key B (by rw [if_neg h8])
/-- The two ways to put a number answer the same, always. -/
theorem put_both {B : List Int} (hb : Bytes B) (N v n : Int) (hN : -9223372036854775808 ≤ N ∧ N < 9223372036854775808) (hv : -9223372036854775808 ≤ v ∧ v < 9223372036854775808) (hl : B.length ≤ 6000) (k : Nat) (hk : 60000 ≤ k) :
    ∃ B' N' e, bits_Put.f B N v n = some (B', N', e) ∧ wherryref01_Put.f k B N v n = some (B', N', e) ∧ B'.length ≤ 6000 := by
  obtain ⟨e, he, hc⟩ := check_int hb N hN 2 (by omega)
  obtain ⟨r, hr, hc2⟩ := rights_int hb N hN k hl (by omega)
  obtain ⟨f, hf, hc3⟩ := fits_int v n
  obtain ⟨m, hm, hc4⟩ := may_int v n
  have hr' := hr
  obtain ⟨k, rfl⟩ : ∃ m, k = m + 1 := ⟨k - 1, by omega⟩
  unfold bits_Put.f wherryref01_Put.f
  rw [he, hr, hf, hm]
  simp only [Option.bind_some]
  rcases hc with ⟨hR, rfl⟩ | ⟨hR, rfl⟩
  · obtain ⟨_, rfl⟩ : RightRow B N ∧ r = true := hc2.elim (fun h => h) (fun h => absurd hR h.1)
    rw [if_pos rfl, if_pos rfl]
    rcases hc3 with ⟨hF, rfl⟩ | ⟨hF, rfl⟩
    · obtain ⟨_, rfl⟩ : Fits v n ∧ m = true := hc4.elim (fun h => h) (fun h => absurd hF h.1)
      rw [if_pos rfl]
      simp only [wherryref01_Put.j0, Bool.not_true]
      rw [if_neg Bool.false_ne_true]
      obtain ⟨r0, r1, r2⟩ := hR
      obtain ⟨f0, f1, f2, f3⟩ := hF
      obtain ⟨N, rfl⟩ := Int.eq_ofNat_of_zero_le r0
      obtain ⟨v, rfl⟩ := Int.eq_ofNat_of_zero_le f2
      obtain ⟨n, rfl⟩ := Int.eq_ofNat_of_zero_le f0
      rw [Int.toNat_natCast] at r2 f3
      have e2 : ((2 : Int) ^ n) = ((2 ^ n : Nat) : Int) := by simp
      have hp : 2 ^ n ≤ 2 ^ 24 := Nat.pow_le_pow_right (by decide) (by omega)
      rw [e2] at f3
      rw [wrap64_in (by omega) (by omega)]
      by_cases hs : (n : Int) > 40000 - (N : Int)
      · rw [if_pos hs, if_pos (by omega)]
        exact ⟨_, _, _, rfl, rfl, by simp⟩
      · rw [if_neg hs, if_neg (by omega), twin_is B (by omega)]
        simp only [Option.bind_some]
        obtain ⟨B', q1, q2⟩ := refput_loop v (by omega) n (by omega) n 0 N (val B) k B r2 (by omega) (by omega) (by omega)
        have q3 := padd_row v (by omega) n 0 N (val B) B r2
        unfold wherryref01_put.f
        rw [show (0 : Int) = ((0 : Nat) : Int) from rfl, q1]
        simp only [Option.bind_some, Int.toNat_natCast]
        rw [Row.inj q3 q2]
        refine ⟨_, _, _, rfl, rfl, ?_⟩
        have := q2.len
        omega
    · obtain ⟨_, rfl⟩ : ¬ Fits v n ∧ m = false := hc4.elim (fun h => absurd h.1 hF) (fun h => h)
      rw [if_neg (by decide)]
      simp only [wherryref01_Put.j0, Bool.not_false]
      rw [if_pos trivial]
      exact ⟨_, _, _, rfl, rfl, by simp⟩
  · obtain ⟨_, rfl⟩ : ¬ RightRow B N ∧ r = false := hc2.elim (fun h => absurd h.1 hR) (fun h => h)
    rw [if_neg (by decide), if_neg (by decide)]
    simp only [wherryref01_Put.j0]
    rw [if_pos trivial]
    exact ⟨_, _, _, rfl, rfl, by simp⟩
theorem fill_both {B : List Int} (hb : Bytes B) (N : Int) (hN : -9223372036854775808 ≤ N ∧ N < 9223372036854775808) (hl : B.length ≤ 6000) (k : Nat) (hk : 60000 ≤ k) :
    ∃ B' N' e, bits_Fill.f k B N = some (B', N', e) ∧ wherryref01_Fill.f k B N = some (B', N', e) ∧ B'.length ≤ 6000 := by
  obtain ⟨e, he, hc⟩ := check_int hb N hN k (by omega)
  obtain ⟨r, hr, hc2⟩ := rights_int hb N hN k hl (by omega)
  unfold bits_Fill.f wherryref01_Fill.f
  rw [he, hr]
  simp only [Option.bind_some]
  rcases hc with ⟨hR, rfl⟩ | ⟨hR, rfl⟩
  · obtain ⟨_, rfl⟩ : RightRow B N ∧ r = true := hc2.elim (fun h => h) (fun h => absurd hR h.1)
    rw [if_pos rfl, if_pos rfl, twin_is B (by omega)]
    unfold slices_Clone_byte_byte.f
    rw [if_pos (by omega)]
    exact ⟨_, _, _, rfl, rfl, hl⟩
  · obtain ⟨_, rfl⟩ : ¬ RightRow B N ∧ r = false := hc2.elim (fun h => absurd h.1 hR) (fun h => h)
    rw [if_neg (by decide), if_neg (by decide)]
    exact ⟨_, _, _, rfl, rfl, by simp⟩
theorem refget_loop {b : List Int} (hb : Bytes b) (hl : b.length < 2 ^ 40) (a n : Nat) (hn : n ≤ 24) (ha : a + n ≤ 8 * b.length) : ∀ (d i k : Nat), i + d = n → d < k →
    wherryref01_Get.l0 k b (a : Int) (n : Int) ((at_ (val b) a i : Nat) : Int) (i : Int) = some (((at_ (val b) a n : Nat) : Int), ((a + n : Nat) : Int), 0) := by
  intro d
  induction d with
  | zero =>
    intro i k hi hk
    obtain ⟨k, rfl⟩ : ∃ m, k = m + 1 := ⟨k - 1, by omega⟩
    obtain rfl : i = n := by omega
    simp only [wherryref01_Get.l0]
    rw [if_neg (by omega), wrap64_in (by omega) (by omega)]
    rfl
  | succ d ih =>
    intro i k hi hk
    obtain ⟨k, rfl⟩ : ∃ m, k = m + 1 := ⟨k - 1, by omega⟩
    simp only [wherryref01_Get.l0]
    rw [if_pos (by omega), wrap64_in (a := (a : Int) + (i : Int)) (by omega) (by omega), show (a : Int) + (i : Int) = ((a + i : Nat) : Int) from by omega, bit_is hb hl (a + i) (by omega)]
    simp only [Option.bind_some]
    have hi24 : 2 ^ i ≤ 2 ^ 24 := Nat.pow_le_pow_right (by decide) (by omega)
    have hat := WP.at_lt (val b) a i
    have hb2 : val b / 2 ^ (a + i) % 2 < 2 := Nat.mod_lt _ (by decide)
    have hmul : val b / 2 ^ (a + i) % 2 * 2 ^ i ≤ 2 ^ i := by
      have := Nat.mul_le_mul_right (2 ^ i) (show val b / 2 ^ (a + i) % 2 ≤ 1 by omega)
      simpa using this
    rw [u64_in (by omega) (by omega), if_pos (by omega), shl_nat (by omega) (by omega), or_nat (by omega) (by omega), or_add hat, wrap64_in (by omega) (by omega), show (i : Int) + 1 = ((i + 1 : Nat) : Int) from by omega]
    have := ih (i + 1) k (by omega) (by omega)
    rw [WP.at_succ] at this
    exact this
theorem get_both {b : List Int} (hb : Bytes b) (at' n : Int) (ha : -9223372036854775808 ≤ at' ∧ at' < 9223372036854775808) (hl : b.length ≤ 600) (k : Nat) (hk : 60 ≤ k) :
    ∃ v p e, bits_Get.f k b at' n = some (v, p, e) ∧ wherryref01_Get.f k b at' n = some (v, p, e) := by
  by_cases hok : 0 ≤ n ∧ n ≤ 24 ∧ 0 ≤ at' ∧ at' ≤ 8 * (b.length : Int)
  · obtain ⟨h0, h1, h2, h3⟩ := hok
    obtain ⟨a, rfl⟩ := Int.eq_ofNat_of_zero_le h2
    obtain ⟨n, rfl⟩ := Int.eq_ofNat_of_zero_le h0
    have hR : ∀ r, wherryref01_Get.j0 k b (a : Int) (n : Int) false = some r → wherryref01_Get.f k b (a : Int) (n : Int) = some r := by
      intro r hr
      unfold wherryref01_Get.f
      rw [in_is, in_is]
      simp only [Option.bind_some]
      rw [if_pos (by simp; omega), wrap64_in (by omega) (by omega), decide_eq_true (by omega)]
      exact hr
    by_cases hs : a + n ≤ 8 * b.length
    · refine ⟨_, _, _, get_is hb (by omega) a n k (by omega) hs (by omega), hR _ ?_⟩
      obtain ⟨k, rfl⟩ : ∃ m, k = m + 1 := ⟨k - 1, by omega⟩
      simp only [wherryref01_Get.j0]
      rw [if_neg (by decide), wrap64_in (a := 8 * (b.length : Int)) (by omega) (by omega), wrap64_in (by omega) (by omega), if_neg (by omega)]
      have := refget_loop hb (by omega) a n (by omega) hs n 0 k (by omega) (by omega)
      simpa [at_, Nat.mod_one] using this
    · refine ⟨_, _, _, get_short (by omega) a n k (by omega) (by omega) (by omega) (by omega), hR _ ?_⟩
      obtain ⟨k, rfl⟩ : ∃ m, k = m + 1 := ⟨k - 1, by omega⟩
      simp only [wherryref01_Get.j0]
      rw [if_neg (by decide), wrap64_in (a := 8 * (b.length : Int)) (by omega) (by omega), wrap64_in (by omega) (by omega), if_pos (by omega)]
  · refine ⟨0, 0, 1, ?_, ?_⟩
    · have hj : bits_Get.j0 k b at' n 0 (wrap64 (8 * (b.length : Int))) true = some (0, 0, 1) := by
        obtain ⟨k, rfl⟩ : ∃ m, k = m + 1 := ⟨k - 1, by omega⟩
        simp only [bits_Get.j0]
        rw [if_pos trivial]
      unfold bits_Get.f
      by_cases a : n < 0
      · rw [if_pos a]; exact hj
      by_cases a2 : n > 24
      · rw [if_neg a, if_pos a2]; exact hj
      by_cases a3 : at' < 0
      · rw [if_neg a, if_neg a2, if_pos a3]; exact hj
      rw [if_neg a, if_neg a2, if_neg a3, decide_eq_true (by rw [wrap64_in (by omega) (by omega)]; omega)]
      exact hj
    · have hj : wherryref01_Get.j0 k b at' n true = some (0, 0, 1) := by
        obtain ⟨k, rfl⟩ : ∃ m, k = m + 1 := ⟨k - 1, by omega⟩
        simp only [wherryref01_Get.j0]
        rw [if_pos trivial]
      unfold wherryref01_Get.f
      rw [in_is, in_is]
      simp only [Option.bind_some]
      by_cases a : 0 ≤ n ∧ n ≤ 24
      · rw [if_pos (by simpa using a), decide_eq_false (by rw [wrap64_in (by omega) (by omega)]; omega)]
        exact hj
      · rw [if_neg (by simpa using a)]
        exact hj
theorem refturn_loop (v n : Nat) (hn : n ≤ 24) (hv : v < 2 ^ n) : ∀ (d i k : Nat), i + d = n → d < k → wherryref01_turn.l0 k (v : Int) (n : Int) (WP.rev i v : Int) (i : Int) = some (WP.rev n v : Int) := by
  have hn24 : 2 ^ n ≤ 2 ^ 24 := Nat.pow_le_pow_right (by decide) hn
  intro d
  induction d with
  | zero =>
    intro i k hi hk
    obtain ⟨k, rfl⟩ : ∃ m, k = m + 1 := ⟨k - 1, by omega⟩
    obtain rfl : i = n := by omega
    simp only [wherryref01_turn.l0]
    rw [if_neg (by omega)]
  | succ d ih =>
    intro i k hi hk
    obtain ⟨k, rfl⟩ : ∃ m, k = m + 1 := ⟨k - 1, by omega⟩
    have hr := WP.rev_lt i v
    have hi24 : 2 ^ i ≤ 2 ^ 24 := Nat.pow_le_pow_right (by decide) (by omega)
    have hb2 : v / 2 ^ i % 2 < 2 := Nat.mod_lt _ (by decide)
    simp only [wherryref01_turn.l0]
    rw [if_pos (by omega), u64_in (by omega) (by omega), if_pos (by omega), shr_nat (by simp [IntKind.bits]; omega), and_one _ (Nat.lt_of_le_of_lt (Nat.div_le_self _ _) (by omega)), wrap64_in (by omega) (by omega), show (WP.rev i v : Int) * 2 = ((WP.rev i v * 2 : Nat) : Int) from by omega, or_nat (by omega) (by omega), wrap64_in (by omega) (by omega), show (i : Int) + 1 = ((i + 1 : Nat) : Int) from by omega]
    have e : WP.rev i v * 2 ||| v / 2 ^ i % 2 = WP.rev (i + 1) v := by
      have := or_add (a := WP.rev i v) (i := 1) (b := v / 2 ^ i % 2) (by simpa using hb2)
      rw [Nat.or_comm, show WP.rev i v * 2 = WP.rev i v * 2 ^ 1 from rfl, this]
      simp only [WP.rev]
      omega
    rw [e]
    exact ih (i + 1) k (by omega) (by omega)
theorem turn_both (v n : Int) (k : Nat) (hk : 60 ≤ k) : ∃ u e, bits_Turn.f k v n = some (u, e) ∧ wherryref01_Turn.f k v n = some (u, e) := by
  obtain ⟨f, hf, hc3⟩ := fits_int v n
  obtain ⟨m, hm, hc4⟩ := may_int v n
  rcases hc3 with ⟨hF, rfl⟩ | ⟨hF, rfl⟩
  · obtain ⟨f0, f1, f2, f3⟩ := hF
    obtain ⟨v, rfl⟩ := Int.eq_ofNat_of_zero_le f2
    obtain ⟨n, rfl⟩ := Int.eq_ofNat_of_zero_le f0
    rw [Int.toNat_natCast] at f3
    have e2 : ((2 : Int) ^ n) = ((2 ^ n : Nat) : Int) := by simp
    rw [e2] at f3
    refine ⟨_, _, turn_is v n k (by omega) (by omega) (by omega), ?_⟩
    unfold wherryref01_Turn.f wherryref01_turn.f
    rw [hf]
    simp only [Option.bind_some]
    rw [if_pos trivial]
    have := refturn_loop v n (by omega) (by omega) n 0 k (by omega) (by omega)
    simp only [WP.rev] at this
    rw [show (0 : Int) = ((0 : Nat) : Int) from rfl, this]
    rfl
  · obtain ⟨_, rfl⟩ : ¬ Fits v n ∧ m = false := hc4.elim (fun h => absurd h.1 hF) (fun h => h)
    refine ⟨0, 1, ?_, ?_⟩
    · unfold bits_Turn.f
      rw [hm]
      rfl
    · unfold wherryref01_Turn.f
      rw [hf]
      rfl
theorem over_ends (n : Nat) (hn : n < 2 ^ 60) : ∀ (d i k : Nat) (xs : List Int), xs.length = n → i + d = n → d < k → ∃ ys, wherrykeep_Over.l0 k xs (i : Int) = some ys := by
  intro d
  induction d with
  | zero =>
    intro i k xs hx hi hk
    obtain ⟨k, rfl⟩ : ∃ m, k = m + 1 := ⟨k - 1, by omega⟩
    simp only [wherrykeep_Over.l0]
    rw [if_neg (by omega)]
    exact ⟨_, rfl⟩
  | succ d ih =>
    intro i k xs hx hi hk
    obtain ⟨k, rfl⟩ : ∃ m, k = m + 1 := ⟨k - 1, by omega⟩
    simp only [wherrykeep_Over.l0]
    rw [if_pos (by omega), if_pos (by omega), wrap64_in (by omega) (by omega), show (i : Int) + 1 = ((i + 1 : Nat) : Int) from by omega]
    exact ih (i + 1) k _ (by rw [List.length_set]; exact hx) (by omega) (by omega)
theorem over_is (xs : List Int) (hn : xs.length ≤ 6000) (k : Nat) (hk : 6001 ≤ k) : ∃ ys, wherrykeep_Over.f k xs = some ys := by
  unfold wherrykeep_Over.f
  have := over_ends xs.length (by omega) xs.length 0 k xs rfl (by omega) (by omega)
  simpa using this
theorem keepBits_same (B : List Int) (N : Int) (hl : B.length ≤ 6000) (k : Nat) (hk : 6001 ≤ k) : wherrykeep_Bits.f k B N B N = some true := by
  unfold wherrykeep_Bits.f
  rw [if_pos rfl, keepBytes_is B B (by omega) k (by omega), decide_eq_true rfl]
  rfl
theorem BitsExact (l0 : List Int) (N v n : Int) (l3 : List Int) (at' : Int) (hb0 : ∀ x ∈ l0, (Lit.int .u8 x).wf = true) (hN : (Lit.int .i64 N).wf = true) (hv : (Lit.int .i64 v).wf = true) (hb3 : ∀ x ∈ l3, (Lit.int .u8 x).wf = true) (hat : (Lit.int .i64 at').wf = true) :
    ∃ k, wherrylaw01_BitsExact.f k l0 N v n l3 at' = some true := by
  refine ⟨70000, ?_⟩
  unfold wherrylaw01_BitsExact.f
  have done : wherrylaw01_BitsExact.j0 70000 v n l3 at' true l0 N = some true := by
    simp only [wherrylaw01_BitsExact.j0]
    rw [if_pos trivial]
  by_cases h0 : (l0.length : Int) > 6000
  · rw [if_pos h0]; exact done
  rw [if_neg h0]
  by_cases h1 : (l3.length : Int) > 600
  · rw [decide_eq_true h1]; exact done
  rw [decide_eq_false h1]
  clear done
  replace hN := wf_i64 hN
  replace hv := wf_i64 hv
  replace hat := wf_i64 hat
  replace hb0 := bytes_of hb0
  replace hb3 := bytes_of hb3
  simp only [wherrylaw01_BitsExact.j0]
  rw [if_neg (by decide)]
  unfold wherrylaw01_twin.f
  rw [twin_is l0 (by omega), twin_is l3 (by omega)]
  obtain ⟨r, hr, hc2⟩ := rights_int hb0 N hN 69999 (by omega) (by decide)
  simp only [Option.bind_some]
  rw [hr]
  simp only [Option.bind_some]
  have key : ∀ want, (RightRow l0 N ∧ want = 0 ∨ ¬ RightRow l0 N ∧ want = 1) → wherrylaw01_BitsExact.j1 69999 v n l3 at' l3 want l0 N l0 N = some true := by
    intro want hwant
    obtain ⟨B1, N1, e1, p1, p2, p3⟩ := put_both hb0 N v n hN hv (by omega) 69998 (by decide)
    obtain ⟨B2, N2, e2, q1, q2, q3⟩ := fill_both hb0 N hN (by omega) 69998 (by decide)
    obtain ⟨e, he, hc⟩ := check_int hb0 N hN 69998 (by omega)
    obtain ⟨g, gp, ge, g1, g2⟩ := get_both hb3 at' n hat (by omega) 69997 (by omega)
    obtain ⟨u, ue, u1, u2⟩ := turn_both v n 69997 (by omega)
    obtain ⟨o1, ho1⟩ := over_is B1 p3 69996 (by omega)
    obtain ⟨o2, ho2⟩ := over_is B2 q3 69996 (by omega)
    have hew : e = want := by
      rcases hc with ⟨a, rfl⟩ | ⟨a, rfl⟩ <;> rcases hwant with ⟨b, rfl⟩ | ⟨b, rfl⟩
      · rfl
      · exact absurd a b
      · exact absurd b a
      · rfl
    simp only [wherrylaw01_BitsExact.j1]
    rw [p1, p2, q1, q2, he]
    simp only [Option.bind_some]
    rw [if_pos hew, if_pos trivial, keepBits_same B1 N1 p3 69998 (by omega)]
    simp only [Option.bind_some]
    rw [if_pos trivial, if_pos trivial, keepBits_same B2 N2 q3 69998 (by omega)]
    simp only [Option.bind_some, Bool.not_true, wherrylaw01_BitsExact.j2]
    rw [if_neg (by decide), g1, g2, u1, u2]
    simp only [Option.bind_some]
    rw [if_pos trivial, if_pos trivial, if_pos trivial, if_pos trivial, bne_self_eq_false]
    simp only [wherrylaw01_BitsExact.j3]
    rw [if_neg (by decide), ho1, ho2]
    simp only [Option.bind_some]
    rw [keepBits_same l0 N (by omega) 69996 (by omega)]
    simp only [Option.bind_some]
    rw [if_pos trivial, keepBytes_is l3 l3 (by omega) 69996 (by omega), decide_eq_true rfl]
    simp only [Option.bind_some]
    rw [if_pos trivial, wakes_is 69996 (by decide)]
    rfl
  rcases hc2 with ⟨hR, rfl⟩ | ⟨hR, rfl⟩
  · rw [if_pos rfl]
    exact key 0 (.inl ⟨hR, rfl⟩)
  · rw [if_neg (by decide)]
    exact key 1 (.inr ⟨hR, rfl⟩)
end Go.Proofs.Ytnfagiofoicgoaa.Pure
