/- BitsParts holds: a number got at once is its parts, got one behind the other, the lower one first; at all bytes and ints. No condition. -/
import Derived.Test.YtnfagiofoicgoaaBits
import Derived.Test.YtnfagiofoicgoaaPx4
import Derived.Test.YtnfagiofoicgoaaPx6
namespace Go.Proofs.Ytnfagiofoicgoaa.Pure
open Go.RowKit Go.Proofs.Ytnfagiofoicgoaa.P Go.Proofs.Ytnfagiofoicgoaa.Glue Go.Proofs.YtnfagiofoicgoaaW.PrintWords Go.Proofs.YtnfagiofoicgoaaW.PrintLast Go.Proofs.YtnfagiofoicgoaaW.PrintMore
open WP (Row Bytes at_ val)

theorem BitsParts : wherrylaw01_BitsParts.Pure := by
  intro b a1 a2 a3 _ hy hw w1 w2 w3
  have hb := bytes_of hw
  refine ⟨100, ?_⟩
  unfold wherrylaw01_BitsParts.f
  by_cases h6 : (b.length : Int) > 600
  · rw [if_pos h6]; rfl
  · rw [if_neg h6]
    by_cases h0 : b.length = 0
    · rw [h0]; rfl
    · rw [beq_eq_false_iff_ne.2 (by omega)]
      simp only [wherrylaw01_BitsParts.j0]
      rw [if_neg (by decide), wrap64_in (by omega) (by omega), u64_in (a := 8 * (b.length : Int)) (by omega) (by omega), if_neg (by omega)]
      obtain ⟨p, hp, ep⟩ := tmod_u64 a1 (8 * (b.length : Int)) (by omega) (by omega)
      obtain ⟨n, hn, en⟩ := tmod_u64 a2 13 (by omega) (by omega)
      obtain ⟨q, hq, eq⟩ := tmod_u64 a3 12 (by omega) (by omega)
      rw [ep, en, eq, wrap64_in (a := (n : Int) + (q : Int)) (by omega) (by omega), show (n : Int) + (q : Int) = ((n + q : Nat) : Int) from by omega]
      have hl : b.length < 2 ^ 40 := by omega
      by_cases h1 : p + n ≤ 8 * b.length
      · rw [get_is hb hl p n 99 (by omega) h1 (by decide)]
        simp only [Option.bind_some]
        by_cases h2 : p + n + q ≤ 8 * b.length
        · rw [get_is hb hl (p + n) q 99 (by omega) h2 (by decide), get_is hb hl p (n + q) 99 (by omega) (by omega) (by decide)]
          simp only [Option.bind_some]
          rw [if_pos trivial, if_pos trivial]
          simp only [wherrylaw01_BitsParts.j1]
          have hx := WP.at_lt (val b) p n
          have hy := WP.at_lt (val b) (p + n) q
          have hn12 : 2 ^ n ≤ 2 ^ 12 := Nat.pow_le_pow_right (by decide) (by omega)
          have hq12 : 2 ^ q ≤ 2 ^ 11 := Nat.pow_le_pow_right (by decide) (by omega)
          have hmul : at_ (val b) (p + n) q * 2 ^ n ≤ 2 ^ 11 * 2 ^ 12 := Nat.mul_le_mul (by omega) hn12
          rw [if_neg (by decide), if_pos trivial, u64_in (by omega) (by omega), if_pos (by omega), shl_nat (by omega) (by omega), or_nat (by omega) (by omega), or_add hx, ← WP.at_add, if_pos rfl, if_pos (by omega), wakes_is 98 (by decide)]
          rfl
        · rw [get_short hl (p + n) q 99 (by omega) h1 (by omega) (by decide), get_short hl p (n + q) 99 (by omega) (by omega) (by omega) (by decide)]
          simp only [Option.bind_some]
          rw [if_pos trivial, if_neg (by decide)]
          simp only [wherrylaw01_BitsParts.j1]
          rw [if_pos (by rfl), if_pos trivial, wakes_is 98 (by decide)]
          rfl
      · rw [get_short hl p n 99 (by omega) (by omega) (by omega) (by decide), get_short hl p (n + q) 99 (by omega) (by omega) (by omega) (by decide)]
        simp only [Option.bind_some]
        have hg : ∃ r, bits_Get.f 99 b 0 (q : Int) = some r := by
          by_cases h2 : q ≤ 8 * b.length
          · exact ⟨_, get_is hb hl 0 q 99 (by omega) (by omega) (by decide)⟩
          · exact ⟨_, get_short hl 0 q 99 (by omega) (by omega) (by omega) (by decide)⟩
        obtain ⟨r, hr⟩ := hg
        rw [hr]
        simp only [Option.bind_some]
        rw [if_neg (by decide)]
        simp only [wherrylaw01_BitsParts.j1]
        rw [if_pos trivial, if_pos trivial, wakes_is 98 (by decide)]
        rfl
end Go.Proofs.Ytnfagiofoicgoaa.Pure
