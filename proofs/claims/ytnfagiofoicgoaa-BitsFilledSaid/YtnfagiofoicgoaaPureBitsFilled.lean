/- BitsFilled holds: a filled row has a whole number of bytes, the same ones, and what is put behind begins at a byte; at all lists of ints and every byte. No condition. -/
import Derived.Test.YtnfagiofoicgoaaBits
import Derived.Test.YtnfagiofoicgoaaPx3
import Derived.Test.YtnfagiofoicgoaaPx8
namespace Go.Proofs.Ytnfagiofoicgoaa.Pure
open Go.RowKit Go.Proofs.Ytnfagiofoicgoaa.P Go.Proofs.Ytnfagiofoicgoaa.Glue Go.Proofs.YtnfagiofoicgoaaW.PrintWords Go.Proofs.YtnfagiofoicgoaaW.PrintLast Go.Proofs.YtnfagiofoicgoaaW.PrintMore
open WP (Row Bytes at_ val)

theorem mask3 (a : Int) : Go.bits .and .i64 a 7 = ((a % 8).toNat : Int) := by
  have := and_mask a 3 (by decide)
  rw [show (2 : Int) ^ 3 - 1 = 7 from rfl, show (2 : Int) ^ 3 = 8 from rfl] at this
  rw [this]; omega
theorem filled_loop (l : List Int) (v : Nat) (hv : v < 256) (hl : l.length ≤ 60) : ∀ (d i k : Nat) (B : List Int) (X : Nat), i + d = l.length → Row B (3 * i) X → d + 200 < k →
    wherrylaw01_BitsFilled.l0 k l (v : Int) (i : Int) B ((3 * i : Nat) : Int) = some true := by
  intro d
  induction d with
  | zero =>
    intro i k B X hi hB hk
    obtain ⟨k, rfl⟩ : ∃ m, k = m + 1 := ⟨k - 1, by omega⟩
    have hlen := hB.len
    have hF := hB.fill
    obtain ⟨B', e, hB'⟩ := put_row hF (n := 8) (v := v) (by decide) hv (by omega)
    have hF2 := hF.byte (x := (v : Int)) (by omega) (by omega)
    rw [Int.toNat_natCast] at hF2
    obtain rfl := hB'.inj hF2
    simp only [wherrylaw01_BitsFilled.l0]
    rw [if_neg (by omega), fill_row hB (by omega) (by omega)]
    simp only [Option.bind_some]
    rw [wrap64_in (a := (v : Int)) (by omega) (by omega), show bits_Put.f B ((8 * B.length : Nat) : Int) (v : Int) 8 = _ from e, Option.bind_some]
    dsimp only
    rw [if_pos trivial, if_pos rfl, wrap64_in (a := 8 * (B.length : Int)) (by omega) (by omega), if_pos (by omega), keepBytes_is _ _ (by omega) _ (by omega)]
    simp only [Option.bind_some]
    rw [if_pos (by simp), wrap64_in (by omega) (by omega), if_neg (by omega), decide_eq_false (by omega)]
    obtain ⟨k, rfl⟩ : ∃ m, k = m + 1 := ⟨k - 1, by omega⟩
    simp only [wherrylaw01_BitsFilled.j1]
    rw [if_neg (by decide), twin_is _ (by omega)]
    simp only [Option.bind_some]
    rw [if_pos (by simp; omega), keepBytes_is _ _ (by simp; omega) _ (by simp; omega)]
    simp only [Option.bind_some]
    rw [if_pos (by simp), wakes_is k (by omega)]
    rfl
  | succ d ih =>
    intro i k B X hi hB hk
    obtain ⟨k, rfl⟩ : ∃ m, k = m + 1 := ⟨k - 1, by omega⟩
    obtain ⟨B', e, hB'⟩ := put_row hB (n := 3) (v := (l.getD i 0 % 8).toNat) (by decide) (by omega) (by omega)
    simp only [wherrylaw01_BitsFilled.l0]
    rw [if_pos (by omega), if_pos (by omega), rd_nat, mask3, show (3 : Int) = ((3 : Nat) : Int) from rfl, e]
    simp only [Option.bind_some]
    rw [if_pos trivial, wrap64_in (by omega) (by omega), show (i : Int) + 1 = ((i + 1 : Nat) : Int) from by omega]
    have := ih (i + 1) k B' _ (by omega) (by rw [show 3 * (i + 1) = 3 * i + 3 from by omega]; exact hB') (by omega)
    rw [show 3 * (i + 1) = 3 * i + 3 from by omega] at this
    exact this
theorem BitsFilled : wherrylaw01_BitsFilled.Pure := by
  intro l v _ hl _ hv
  obtain ⟨v0, v1⟩ := wf_u8 hv
  obtain ⟨v, rfl⟩ := Int.eq_ofNat_of_zero_le v0
  refine ⟨1000, ?_⟩
  unfold wherrylaw01_BitsFilled.f
  by_cases h : (l.length : Int) > 60
  · rw [if_pos h]
  · rw [if_neg h]
    exact filled_loop l v (by omega) (by omega) l.length 0 1000 [] 0 (by omega) Row.empty (by omega)
end Go.Proofs.Ytnfagiofoicgoaa.Pure
