/- The reference's functions on lengths are canon's; used by the claims of this seat. -/
import Derived.Test.YtlffpaploefljaaCanon
import Derived.Test.YtlffpaploefljaaPx5
import Derived.Test.YtlffpaploefljaaPx23
import Derived.Test.YtlffpaploefljaaPx65
namespace Go.Proofs.Ytlffpaploefljaa.Glue
open Go.RowKit Go.Proofs.Ytlffpaploefljaa.P Go.Proofs.YtlffpaploefljaaW.PrintWords Go.Proofs.YtlffpaploefljaaW.PrintLast Go.Proofs.YtlffpaploefljaaW.PrintMore
open WP (Row Bytes at_ val)

theorem refin_is (a b c : Int) : wherryref01_in.f a b c = some (decide (b ≤ a ∧ a ≤ c)) := by
  unfold wherryref01_in.f
  by_cases h : a ≥ b
  · rw [if_pos h]; congr 1; simp [h]
  · rw [if_neg h]; congr 1; simp; omega
theorem rank_len (l : List Int) (i n : Nat) : (symsTo l (i + 1) n).length = (symsTo l i n).length + if l.getD i 0 = (n : Int) ∧ 0 < n then 1 else 0 := by
  rw [symsTo_step, List.length_append]
  congr 1
  split <;> rfl
end Go.Proofs.Ytlffpaploefljaa.Glue
namespace Go.Proofs.Ytlffpaploefljaa.Glue
open Go.RowKit Go.Proofs.Ytlffpaploefljaa.P Go.Proofs.YtlffpaploefljaaW.PrintWords Go.Proofs.YtlffpaploefljaaW.PrintLast Go.Proofs.YtlffpaploefljaaW.PrintMore
open WP (Row Bytes at_ val)

/-! The reference's codes, and what it reads by them. -/
theorem codesTo_last (l : List Int) (hx : ∀ x ∈ l, 0 ≤ x ∧ x ≤ 15) : codesTo l 16 0 = codesL l := by
  unfold codesTo codesL
  refine List.map_congr_left (fun j hj => ?_)
  have := hx _ (getD_mem (List.mem_range.1 hj))
  rw [if_pos (.inl (by omega))]
theorem refcodes_in {l : List Int} (hm : Makes l) (n : Nat) (h0 : 0 < n) (h15 : n ≤ 15) (res : Option (List Int)) (K : Nat) (hout : ∀ k, K ≤ k → wherryref01_codes.l0 k l (codesTo l (n + 1) 0) (upTo (cnt l) n : Int) ((n + 1 : Nat) : Int) = res) : ∀ (d i k : Nat), i + d = l.length → d + K < k →
    wherryref01_codes.l1 k l (codesTo l n (symsTo l i n).length) ((2 * upTo (cnt l) (n - 1) + (symsTo l i n).length : Nat) : Int) (n : Int) (i : Int) = res := by
  have hle := hm.len
  have hb := up_le (cnt l) hm.weigh (show n - 1 ≤ 15 by omega)
  have hp : 2 ^ (n - 1) ≤ 2 ^ 15 := Nat.pow_le_pow_right (by decide) (by omega)
  have he : openF l n = 2 * upTo (cnt l) (n - 1) := by
    obtain ⟨m, rfl⟩ : ∃ m, n = m + 1 := ⟨n - 1, by omega⟩
    exact openF_is l m
  have hu : upTo (cnt l) n = 2 * upTo (cnt l) (n - 1) + cnt l n := by
    obtain ⟨m, rfl⟩ : ∃ m, n = m + 1 := ⟨n - 1, by omega⟩
    rfl
  intro d
  induction d with
  | zero =>
    intro i k hi hk
    obtain ⟨k, rfl⟩ : ∃ m, k = m + 1 := ⟨k - 1, by omega⟩
    obtain rfl : i = l.length := by omega
    simp only [wherryref01_codes.l1]
    rw [if_neg (by omega), wrap64_in (by omega) (by omega), show (n : Int) + 1 = ((n + 1 : Nat) : Int) from by omega, codesTo_next l n hm.bounds, show 2 * upTo (cnt l) (n - 1) + (symsTo l l.length n).length = upTo (cnt l) n from hu.symm]
    exact hout k (by omega)
  | succ d ih =>
    intro i k hi hk
    obtain ⟨k, rfl⟩ : ∃ m, k = m + 1 := ⟨k - 1, by omega⟩
    have hil : i < l.length := by omega
    have hrk := rank_len l i n
    have hrl := symsTo_len l i n
    simp only [wherryref01_codes.l1]
    rw [if_pos (by omega), if_pos (by omega), rd_nat, wrap64_in (a := (i : Int) + 1) (by omega) (by omega), show (i : Int) + 1 = ((i + 1 : Nat) : Int) from by omega]
    by_cases h : l.getD i 0 = (n : Int)
    · rw [if_pos ⟨h, h0⟩] at hrk
      rw [if_pos h, if_pos (by rw [codesTo_length]; omega), Int.toNat_natCast, wrap64_in (by omega) (by omega)]
      have e := codesTo_step l h h0 rfl
      rw [he] at e
      rw [show ((2 * upTo (cnt l) (n - 1) + (symsTo l i n).length : Nat) : Int) = ((2 * upTo (cnt l) (n - 1) : Nat) : Int) + ((symsTo l i n).length : Int) from by omega, e, ← hrk, show ((2 * upTo (cnt l) (n - 1) : Nat) : Int) + ((symsTo l i n).length : Int) + 1 = ((2 * upTo (cnt l) (n - 1) + (symsTo l (i + 1) n).length : Nat) : Int) from by omega]
      exact ih (i + 1) k (by omega) (by omega)
    · rw [if_neg (fun hh => h hh.1)] at hrk
      rw [if_neg h, show (symsTo l i n).length = (symsTo l (i + 1) n).length from by omega]
      exact ih (i + 1) k (by omega) (by omega)
theorem refcodes_out {l : List Int} (hm : Makes l) : ∀ (d n : Nat), n + d = 15 → ∀ k, d * 400 + 10 ≤ k → wherryref01_codes.l0 k l (codesTo l (n + 1) 0) (upTo (cnt l) n : Int) ((n + 1 : Nat) : Int) = some (codesL l) := by
  have hle := hm.len
  intro d
  induction d with
  | zero =>
    intro n hn k hk
    obtain ⟨k, rfl⟩ : ∃ m, k = m + 1 := ⟨k - 1, by omega⟩
    obtain rfl : n = 15 := by omega
    simp only [wherryref01_codes.l0]
    rw [if_neg (by omega), codesTo_last l hm.bounds]
  | succ d ih =>
    intro n hn k hk
    obtain ⟨k, rfl⟩ : ∃ m, k = m + 1 := ⟨k - 1, by omega⟩
    have hb := up_le (cnt l) hm.weigh (show n ≤ 15 by omega)
    have hp : 2 ^ n ≤ 2 ^ 15 := Nat.pow_le_pow_right (by decide) (by omega)
    simp only [wherryref01_codes.l0]
    rw [if_pos (by omega), wrap64_in (by omega) (by omega)]
    have := refcodes_in hm (n + 1) (by omega) (by omega) (some (codesL l)) (d * 400 + 10) (fun k hk => ih (n + 1) (by omega) k hk) l.length 0 k (by omega) (by omega)
    rw [show (symsTo l 0 (n + 1)).length = 0 from rfl, Nat.add_sub_cancel, show ((2 * upTo (cnt l) n + 0 : Nat) : Int) = 2 * (upTo (cnt l) n : Int) from by omega] at this
    exact this
theorem refcodes_is {l : List Int} (hm : Makes l) (k : Nat) (hk : 7000 ≤ k) : wherryref01_codes.f k l = some (codesL l) := by
  have hle := hm.len
  unfold wherryref01_codes.f
  rw [if_pos (by omega), Int.toNat_natCast, if_pos (by omega), ← codesTo_start l]
  have e := codesTo_next l 0 hm.bounds
  have hz : (symsTo l l.length 0).length = 0 := by
    have : ∀ i, (symsTo l i 0).length = 0 := by
      intro i
      induction i with
      | zero => rfl
      | succ i ih => rw [rank_len, ih, if_neg (by omega)]
    exact this _
  rw [hz] at e
  rw [e]
  have := refcodes_out hm 15 0 (by omega) k (by omega)
  exact this
section
variable {l b : List Int} (hm : Makes l) (hb : Bytes b) (hl : b.length ≤ 100000) {a : Nat}
include hm
end
end Go.Proofs.Ytlffpaploefljaa.Glue
