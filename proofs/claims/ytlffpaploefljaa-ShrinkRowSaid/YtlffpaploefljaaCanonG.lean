/- What the small functions of the laws answer; used by the claims of this seat. -/
import Derived.Test.YtlffpaploefljaaCanon
import Derived.Test.YtlffpaploefljaaPx10
import Derived.Test.YtlffpaploefljaaPx51
import Derived.Test.YtlffpaploefljaaPx72
namespace Go.Proofs.Ytlffpaploefljaa.Glue
open Go.RowKit Go.Proofs.Ytlffpaploefljaa.P Go.Proofs.YtlffpaploefljaaW.PrintWords Go.Proofs.YtlffpaploefljaaW.PrintLast Go.Proofs.YtlffpaploefljaaW.PrintMore
open WP (Row Bytes at_ val)

theorem keepInts_loop (a b : List Int) (hl : a.length = b.length) (hm : a.length < 2 ^ 60) : ∀ (d i k : Nat), i + d = a.length → d < k → a.take i = b.take i → wherrykeep_Ints.l0 k a b (i : Int) = some (decide (a = b)) := by
  intro d
  induction d with
  | zero =>
    intro i k hi hk h
    obtain ⟨k, rfl⟩ : ∃ m, k = m + 1 := ⟨k - 1, by omega⟩
    simp only [wherrykeep_Ints.l0]
    rw [if_neg (by omega)]
    rw [List.take_of_length_le (by omega), List.take_of_length_le (by omega)] at h
    rw [decide_eq_true h]
  | succ d ih =>
    intro i k hi hk h
    obtain ⟨k, rfl⟩ : ∃ m, k = m + 1 := ⟨k - 1, by omega⟩
    simp only [wherrykeep_Ints.l0]
    rw [if_pos (by omega), if_pos (by omega), if_pos (by omega), rd_nat, rd_nat]
    have ha : i < a.length := by omega
    have hb : i < b.length := by omega
    have e1 : a.getD i 0 = a[i] := by simp [ha]
    have e2 : b.getD i 0 = b[i] := by simp [hb]
    by_cases hx : a.getD i 0 = b.getD i 0
    · rw [if_pos hx, wrap64_in (by omega) (by omega), show (i : Int) + 1 = ((i + 1 : Nat) : Int) from by omega]
      refine ih (i + 1) k (by omega) (by omega) ?_
      rw [List.take_succ_eq_append_getElem ha, List.take_succ_eq_append_getElem hb, h, ← e1, ← e2, hx]
    · rw [if_neg hx, decide_eq_false]
      rintro rfl
      exact hx rfl
theorem keepInts_is (a b : List Int) (hm : a.length < 2 ^ 60) (k : Nat) (hk : a.length < k) : wherrykeep_Ints.f k a b = some (decide (a = b)) := by
  unfold wherrykeep_Ints.f
  by_cases hl : a.length = b.length
  · rw [if_pos (by omega)]
    exact keepInts_loop a b hl hm a.length 0 k (by omega) hk rfl
  · rw [if_neg (by omega), decide_eq_false]
    rintro rfl
    exact hl rfl
theorem twinInts_is (a : List Int) (h : a.length < 2 ^ 40) : wherrykeep_TwinInts.f a = some a := by
  unfold wherrykeep_TwinInts.f
  rw [if_pos (by simp only [List.length_nil]; omega), List.nil_append]
/-- A place in a row, out of any int. -/
theorem place_of (a : Int) (n : Nat) (h0 : 0 < n) (h1 : n < 2 ^ 60) : ∃ i : Nat, i < n ∧ wrap64 (Int.tmod (IntKind.u64.wrap a) (IntKind.u64.wrap (n : Int))) = (i : Int) := by
  rw [u64_in (a := (n : Int)) (by omega) (by omega)]
  obtain ⟨i, h, e⟩ := tmod_u64 a (n : Int) (by omega) (by omega)
  exact ⟨i, by omega, e⟩
theorem codes_yes {l : List Int} (h : canon_Check.f l = some 0) : canon_Codes.f l = some (codesL l, 0) := by
  unfold canon_Codes.f
  rw [h]
  rfl
theorem check_some (l : List Int) : ∃ e, canon_Check.f l = some e ∧ (e = 0 ∨ e = 1 ∨ e = 4) := by
  unfold canon_Check.f
  cases rightB l <;> cases makesB l <;> simp
theorem codes_no {l : List Int} {e : Int} (h : canon_Check.f l = some e) (he : e ≠ 0) : canon_Codes.f l = some ([], e) := by
  unfold canon_Codes.f
  rw [h, Option.bind_some, if_neg he]
theorem shl_fill {v n : Nat} (hv : v < 2 ^ n) (hn : n ≤ 15) : shl .i64 (v : Int) ((15 - n : Nat) : Int) = ((v * 2 ^ (15 - n) : Nat) : Int) := by
  refine shl_nat (by omega) ?_
  have h1 : 2 ^ (15 - n) ≤ 2 ^ 15 := Nat.pow_le_pow_right (by decide) (by omega)
  have h2 : 2 ^ n ≤ 2 ^ 15 := Nat.pow_le_pow_right (by decide) hn
  have h3 := Nat.mul_le_mul (show v ≤ 2 ^ 15 by omega) h1
  omega
end Go.Proofs.Ytlffpaploefljaa.Glue
