/- BitsWrong holds: a row with a bit of 1 behind its end, with a byte too many, one too few, is none, nothing is put behind it; at all bytes and every two ints. No condition. -/
import Derived.Test.YtnfagiofoicgoaaBits
import Derived.Test.YtnfagiofoicgoaaPx1
import Derived.Test.YtnfagiofoicgoaaPx4
import Derived.Test.YtnfagiofoicgoaaPx5
import Derived.Test.YtnfagiofoicgoaaPx8
import Derived.Test.YtnfagiofoicgoaaPx10
namespace Go.Proofs.Ytnfagiofoicgoaa.Pure
open Go.RowKit Go.Proofs.Ytnfagiofoicgoaa.P Go.Proofs.Ytnfagiofoicgoaa.Glue Go.Proofs.YtnfagiofoicgoaaW.PrintWords Go.Proofs.YtnfagiofoicgoaaW.PrintLast Go.Proofs.YtnfagiofoicgoaaW.PrintMore
open WP (Row Bytes at_ val)
set_option linter.unusedVariables false
set_option linter.unusedSimpArgs false

theorem check_len {B : List Int} {N k : Nat} (hk : 1 ≤ k) (hN : N ≤ 40000) (hl : B.length < 2 ^ 40) (h : B.length ≠ (N + 7) / 8) : bits_Check.f k B (N : Int) = some 1 := by
  obtain ⟨k, rfl⟩ : ∃ m, k = m + 1 := ⟨k - 1, by omega⟩
  unfold bits_Check.f
  rw [if_neg (by omega), if_neg (by omega), wrap64_in (a := (N : Int) + 8) (by omega) (by omega), show (N : Int) + 8 - 1 = ((N + 7 : Nat) : Int) from by omega, wrap64_in (a := ((N + 7 : Nat) : Int)) (by omega) (by omega), show (8 : Int) = ((8 : Nat) : Int) from rfl, tdiv_nat, wrap64_in (by omega) (by omega), bne_iff_ne.2 (by omega)]
  simp only [bits_Check.j0]
  rw [if_pos trivial]
theorem check_byte {B : List Int} {N k v : Nat} (hk : 1 ≤ k) (hN : N ≤ 40000) (hl : B.length = (N + 7) / 8) (hv : B.getD (B.length - 1) 0 = (v : Int)) (hv8 : v < 256) : bits_Check.f k B (N : Int) = some (if N % 8 = 0 ∨ v < 2 ^ (N % 8) then 0 else 1) := by
  obtain ⟨k, rfl⟩ : ∃ m, k = m + 1 := ⟨k - 1, by omega⟩
  unfold bits_Check.f
  rw [if_neg (by omega), if_neg (by omega), wrap64_in (a := (N : Int) + 8) (by omega) (by omega), show (N : Int) + 8 - 1 = ((N + 7 : Nat) : Int) from by omega, wrap64_in (a := ((N + 7 : Nat) : Int)) (by omega) (by omega), show (8 : Int) = ((8 : Nat) : Int) from rfl, tdiv_nat, wrap64_in (by omega) (by omega), bne_eq_false_iff_eq.2 (by omega)]
  simp only [bits_Check.j0]
  rw [if_neg (by decide), show (8 : Int) = ((8 : Nat) : Int) from rfl, tmod_nat, u64_in (by omega) (by omega)]
  by_cases h8 : N % 8 = 0
  · rw [if_neg (by omega), if_pos (Or.inl h8)]
  · rw [if_pos (by omega), wrap64_in (by omega) (by omega), if_pos (by omega), if_pos (by omega), if_pos (by omega), show (B.length : Int) - 1 = ((B.length - 1 : Nat) : Int) from by omega, rd_nat, hv, shr_nat (by simp [IntKind.bits]; omega)]
    by_cases hlt : v < 2 ^ (N % 8)
    · rw [Nat.div_eq_of_lt hlt, if_pos (by rfl), if_pos (Or.inr hlt)]
    · have : 0 < v / 2 ^ (N % 8) := Nat.div_pos (by omega) (Nat.pow_pos (by decide))
      rw [if_neg (by omega), if_neg (by omega)]
theorem wrong_end {B : List Int} {N k : Nat} (hk : 50 ≤ k) (h : ∀ k, 1 ≤ k → bits_Check.f k B (N : Int) = some 1) : wherrylaw01_BitsWrong.j1 k B (N : Int) = some true := by
  obtain ⟨k, rfl⟩ : ∃ m, k = m + 1 := ⟨k - 1, by omega⟩
  simp only [wherrylaw01_BitsWrong.j1]
  have hp : bits_Put.f B (N : Int) 0 1 = some ([], 0, 1) := by
    unfold bits_Put.f
    rw [h 2 (by omega), Option.bind_some, if_neg (by decide)]
  have hf : bits_Fill.f k B (N : Int) = some ([], 0, 1) := by
    unfold bits_Fill.f
    rw [h k (by omega), Option.bind_some, if_neg (by decide)]
  rw [hp, hf, h k (by omega), Option.bind_some, Option.bind_some, Option.bind_some]
  dsimp only
  rw [if_pos rfl, if_pos rfl, if_pos rfl, if_pos rfl, wakes_is k (by omega)]
  rfl
theorem or_top {v keep : Nat} (hv : v < 2 ^ keep) (hk : keep ≤ 7) : Go.bits .or .i64 (v : Int) ((2 ^ keep : Nat) : Int) % 256 = ((v + 2 ^ keep : Nat) : Int) := by
  have hp : 2 ^ keep ≤ 2 ^ 7 := Nat.pow_le_pow_right (by decide) hk
  rw [or_nat (by omega) (by omega)]
  have e : v ||| 2 ^ keep = v + 2 ^ keep := by
    have := or_add (a := 1) hv
    rw [Nat.one_mul] at this
    exact this
  rw [e]
  omega
theorem wrong_bit {B : List Int} {last m v k : Nat} (hBl : B.length = last + 1) (hm7 : m + 1 ≤ 7) (hvlt : v < 2 ^ (m + 1)) (h200 : last ≤ 200) (hk : 50 ≤ k) : wherrylaw01_BitsWrong.j1 k (B.set last ((v + 2 ^ (m + 1) : Nat) : Int)) ((8 * last + 1 + m : Nat) : Int) = some true := by
  have hp7 : 2 ^ (m + 1) ≤ 2 ^ 7 := Nat.pow_le_pow_right (by decide) hm7
  have hmod : (8 * last + 1 + m) % 8 = m + 1 := by omega
  have hN : (8 * last + 1 + m + 7) / 8 = last + 1 := by omega
  obtain ⟨P, hP⟩ : ∃ P, P = 2 ^ (m + 1) := ⟨_, rfl⟩
  rw [← hP] at hp7 hvlt ⊢
  have hvP : v + P < 256 := by omega
  refine wrong_end (by omega) fun k hk => ?_
  have hlen : (B.set last ((v + P : Nat) : Int)).length = last + 1 := by rw [List.length_set, hBl]
  have hget : (B.set last ((v + P : Nat) : Int)).getD ((B.set last ((v + P : Nat) : Int)).length - 1) 0 = ((v + P : Nat) : Int) := by
    rw [hlen, Nat.add_sub_cancel, List.getD_eq_getElem?_getD, List.getElem?_set_self (by omega)]
    rfl
  have hno : ¬ ((8 * last + 1 + m) % 8 = 0 ∨ v + P < 2 ^ ((8 * last + 1 + m) % 8)) := by
    rw [hmod, ← hP]
    omega
  have hNN : 8 * last + 1 + m ≤ 40000 := by omega
  have hle : (B.set last ((v + P : Nat) : Int)).length = (8 * last + 1 + m + 7) / 8 := by rw [hlen, hN]
  rw [check_byte hk hNN hle hget hvP, if_neg hno]
theorem BitsWrong : wherrylaw01_BitsWrong.Pure := by
  intro l a1 a2 _ _ hwf _ _
  refine ⟨300, ?_⟩
  unfold wherrylaw01_BitsWrong.f
  have out : wherrylaw01_BitsWrong.j0 300 l a1 a2 true = some true := by
    rw [show (300 : Nat) = 299 + 1 from rfl]
    simp only [wherrylaw01_BitsWrong.j0]
    rw [if_pos trivial]
  by_cases h200 : (l.length : Int) > 200
  · rw [if_pos h200]; exact out
  rw [if_neg h200]
  by_cases h0 : l.length = 0
  · rw [show ((l.length : Int) == 0) = true from by rw [h0]; rfl]; exact out
  rw [show ((l.length : Int) == 0) = false from by rw [beq_eq_false_iff_ne]; omega]
  obtain ⟨m, hm, em⟩ := tmod_u64 a1 8 (by omega) (by omega)
  obtain ⟨last, hlast⟩ : ∃ last, l.length = last + 1 := ⟨l.length - 1, by omega⟩
  obtain ⟨k, hk⟩ : ∃ k, k = 299 := ⟨_, rfl⟩
  rw [show (300 : Nat) = k + 1 from by omega]
  have hk : 250 ≤ k := by omega
  have w1 : wrap64 ((l.length : Int) - 1) = (last : Int) := by rw [wrap64_in (by omega) (by omega)]; omega
  have w2 : wrap64 (8 * (last : Int)) = ((8 * last : Nat) : Int) := by rw [wrap64_in (by omega) (by omega)]; omega
  have w3 : wrap64 (((8 * last : Nat) : Int) + 1) = ((8 * last + 1 : Nat) : Int) := by rw [wrap64_in (by omega) (by omega)]; omega
  have w4 : wrap64 (((8 * last + 1 : Nat) : Int) + (m : Int)) = ((8 * last + 1 + m : Nat) : Int) := by rw [wrap64_in (by omega) (by omega)]; omega
  have w5 : wrap64 (((8 * last + 1 + m : Nat) : Int) - ((8 * last : Nat) : Int)) = ((m + 1 : Nat) : Int) := by rw [wrap64_in (by omega) (by omega)]; omega
  have w6 : IntKind.u64.wrap ((m + 1 : Nat) : Int) = ((m + 1 : Nat) : Int) := u64_in (by omega) (by omega)
  have w7 : shl .i64 1 ((m + 1 : Nat) : Int) = ((2 ^ (m + 1) : Nat) : Int) := shl_one (by omega)
  have hpow : 2 ^ (m + 1) ≤ 2 ^ 8 := Nat.pow_le_pow_right (by decide) (by omega)
  have w8 : wrap64 (((2 ^ (m + 1) : Nat) : Int) - 1) = (2 ^ (m + 1) - 1 : Int) := by
    have e : (2 ^ (m + 1) : Int) = ((2 ^ (m + 1) : Nat) : Int) := by simp
    rw [e]
    generalize 2 ^ (m + 1) = P at hpow ⊢
    exact wrap64_in (by omega) (by omega)
  obtain ⟨b, hb, hb8⟩ : ∃ b : Nat, rd l (last : Int) = (b : Int) ∧ b < 256 := by
    have hlt : last < l.length := by omega
    have h := wf_u8 (hwf l[last] (List.getElem_mem hlt))
    have e : rd l (last : Int) = l[last] := by rw [rd_nat]; simp [hlt]
    exact ⟨l[last].toNat, by omega, by omega⟩
  obtain ⟨v, hv⟩ : ∃ v, v = b % 2 ^ (m + 1) := ⟨_, rfl⟩
  have hvlt : v < 2 ^ (m + 1) := by rw [hv]; exact Nat.mod_lt _ (Nat.pow_pos (by decide))
  have hv256 : v < 256 := Nat.lt_of_lt_of_le hvlt hpow
  have w9 : Go.bits .and .i64 (wrap64 (b : Int)) (2 ^ (m + 1) - 1 : Int) % 256 = (v : Int) := by
    rw [wrap64_in (a := (b : Int)) (by omega) (by omega), and_mask (b : Int) (m + 1) (by omega), hv]
    have e : ((b : Int) % 2 ^ (m + 1)) = ((b % 2 ^ (m + 1) : Nat) : Int) := by simp
    rw [e, ← hv]
    clear e
    clear w7 w8 hv
    omega
  have hvw : wrap64 (v : Int) = (v : Int) := by
    clear w9 w8 w7 w6 w5 w4 w3 w2 w1
    exact wrap64_in (by omega) (by omega)
  obtain ⟨B, hB⟩ : ∃ B, B = l.set last (v : Int) := ⟨_, rfl⟩
  have hBl : B.length = last + 1 := by rw [hB, List.length_set]; exact hlast
  have hll : (last : Int) < (B.length : Int) := by rw [hBl]; exact Int.ofNat_lt.2 (Nat.lt_succ_self last)
  have hBg : B.getD last 0 = (v : Int) := by rw [hB]; simp [hlast]
  have hN : (8 * last + 1 + m + 7) / 8 = last + 1 := by omega
  have hN8 : (8 * last + 1 + m) % 8 = (m + 1) % 8 := by omega
  have hwk : ((wherrylaw01_wakes.f k).bind fun t => some t) = some true := by rw [wakes_is k (by omega)]; rfl
  have hc : ∀ k, 1 ≤ k → bits_Check.f k B ((8 * last + 1 + m : Nat) : Int) = some 0 := by
    intro k hk
    rw [check_byte hk (by omega) (by omega) (v := v) (by rw [hBl, Nat.add_sub_cancel]; exact hBg) hv256]
    have hor : (8 * last + 1 + m) % 8 = 0 ∨ v < 2 ^ ((8 * last + 1 + m) % 8) := by
      rw [hN8]
      by_cases h7 : m = 7
      · exact Or.inl (by omega)
      · exact Or.inr (by rw [Nat.mod_eq_of_lt (show m + 1 < 8 by omega)]; exact hvlt)
    rw [if_pos hor]
  simp only [wherrylaw01_BitsWrong.j0]
  rw [if_neg (by decide), twin_is l (by omega), Option.bind_some]
  rw [w1, em, w2, w3, w4, w5, w6, w7, w8, hb, w9, if_pos (by omega), if_pos (by omega), if_pos (by omega), Int.toNat_natCast, ← hB, Option.bind_some, hc k (by omega), Option.bind_some, if_pos (by trivial), twin_is B (by omega), Option.bind_some, rd_nat, hBg]
  by_cases g0 : Int.tmod (IntKind.u64.wrap a2) 3 = 0
  · rw [if_pos g0]
    by_cases g8 : ((m + 1 : Nat) : Int) = 8
    · rw [if_pos g8]; exact hwk
    · have hm7 : m + 1 ≤ 7 := by omega
      rw [if_neg g8, if_pos hll, hvw, or_top hvlt hm7]
      have hl2 : last ≤ 200 := by clear w9 w8 w7 hvw hwk hc; omega
      exact wrong_bit hBl hm7 hvlt hl2 (Nat.le_trans (by decide) hk)
  · rw [if_neg g0]
    by_cases g1 : Int.tmod (IntKind.u64.wrap a2) 3 = 1
    · rw [if_pos g1, if_pos (by omega)]
      exact wrong_end (by omega) fun k hk => check_len hk (by omega) (by simp; omega) (by simp; omega)
    · rw [if_neg g1, if_pos (by omega)]
      exact wrong_end (by omega) fun k hk => check_len hk (by omega) (by simp; omega) (by simp; omega)
end Go.Proofs.Ytnfagiofoicgoaa.Pure
