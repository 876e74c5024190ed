/- MatchApart holds: a text of bytes that are all unlike has no piece; at all two ints. No condition. -/
import Derived.Test.YtagdlmlanjjecaaMatch
import Derived.Test.YtagdlmlanjjecaaPx0
import Derived.Test.YtagdlmlanjjecaaPx4
import Derived.Test.YtagdlmlanjjecaaPx6
import Derived.Test.YtagdlmlanjjecaaPx20
namespace Go.Proofs.Ytagdlmlanjjecaa.Pure
open Go.RowKit Go.Proofs.Ytagdlmlanjjecaa.P Go.Proofs.YtagdlmlanjjecaaW.PrintWords Go.Proofs.YtagdlmlanjjecaaW.PrintLast Go.Proofs.YtagdlmlanjjecaaW.PrintMore
set_option linter.unusedVariables false
set_option linter.unusedSimpArgs false
/-- Bytes one above the other. -/
def apart (a n : Nat) : List Int := (List.range n).map (fun i => ((a + i : Nat) : Int) % 256)
theorem apart_len (a n : Nat) : (apart a n).length = n := by simp [apart]
theorem apart_get (a n i : Nat) (h : i < n) : (apart a n).getD i 0 = ((a + i : Nat) : Int) % 256 := by
  simp [apart, List.getD_eq_getElem?_getD, h]
theorem apart_wf (a n : Nat) : ∀ x ∈ apart a n, (Lit.int .u8 x).wf = true := by
  intro x hx
  simp only [apart, List.mem_map] at hx
  obtain ⟨i, _, rfl⟩ := hx
  simp [Lit.wf, IntKind.min, IntKind.max, IntKind.signed, IntKind.bits]
  omega
theorem apart_best (a n i : Nat) (hn : n ≤ 256) (hi : i < n) : IsBest (apart a n) i 0 0 := by
  refine ⟨Or.inl ⟨rfl, rfl⟩, fun o h1 h2 h3 => Or.inl ?_⟩
  by_cases hc : com (apart a n) (i - o) i = 0
  · omega
  · have := (com_same (apart a n) (i - o) i (j := 0) (by omega)).2
    rw [Nat.add_zero, Nat.add_zero, apart_get a n _ (by omega), apart_get a n _ hi] at this
    omega
theorem apart_toks (a n : Nat) (hn : n ≤ 256) : ∀ f i, i + f = n → toks (apart a n) f i = ((apart a n).drop i).map (fun b => (⟨b, 0, 0⟩ : S40))
  | 0, i, h => by
    rw [toks, List.drop_eq_nil_of_le (by rw [apart_len]; omega)]; rfl
  | f + 1, i, h => by
    have hi : i < (apart a n).length := by rw [apart_len]; omega
    obtain ⟨e1, e2⟩ := (bestL_is (apart a n) i hi).one (apart_best a n i hn (by omega))
    rw [toks, if_pos hi, if_pos e1, apart_toks a n hn f (i + 1) (by omega), List.drop_eq_getElem_cons hi, List.map_cons]
    congr 2
    rw [List.getD_eq_getElem?_getD, List.getElem?_eq_getElem hi]; rfl
theorem apart_rd (l : List Int) (i : Nat) (hi : i < l.length) : rd_T40 (l.map (fun b => (⟨b, 0, 0⟩ : S40))) (i : Int) = ⟨l.getD i 0, 0, 0⟩ := by
  unfold rd_T40
  rw [Int.toNat_natCast]
  simp [List.getD_eq_getElem?_getD, hi]
theorem apart_check (l : List Int) (hl : l.length ≤ 256) : ∀ f i k, i + f = l.length → f < k → wherrylaw04_MatchApart.l1 k (l.length : Int) l (l.map (fun b => (⟨b, 0, 0⟩ : S40))) (i : Int) = some true
  | 0, i, k, h, hk => by
    obtain ⟨k, rfl⟩ : ∃ j, k = j + 1 := ⟨k - 1, by omega⟩
    rw [wherrylaw04_MatchApart.l1, if_neg (by omega)]; rfl
  | f + 1, i, k, h, hk => by
    obtain ⟨k, rfl⟩ : ∃ j, k = j + 1 := ⟨k - 1, by omega⟩
    rw [wherrylaw04_MatchApart.l1, if_pos (by omega), if_pos (by omega), if_pos (by rw [List.length_map]; omega), apart_rd l i (by omega)]
    dsimp only
    rw [if_pos rfl, if_pos (by omega), rd_nat, if_pos rfl, wi (by omega) (by omega)]
    exact apart_check l hl f (i + 1) k (by omega) (by omega)
theorem apart_loop (a n : Nat) (ha : a < 256) (hn : n ≤ 256) : ∀ f i k, i + f = n → f + 1000 < k → wherrylaw04_MatchApart.l0 k (a : Int) (n : Int) (apart a i) (i : Int) = some true
  | 0, i, k, h, hk => by
    obtain rfl : i = n := by omega
    obtain ⟨k, rfl⟩ : ∃ j, k = j + 2 := ⟨k - 2, by omega⟩
    rw [wherrylaw04_MatchApart.l0, if_neg (by omega), tokens_is (apart_wf a i) (by rw [apart_len]; omega), Option.bind_some]
    dsimp only
    rw [if_pos rfl, apart_len, apart_toks a i hn i 0 (by omega), List.drop_zero, List.length_map, apart_len, show (((i : Nat) : Int) != (i : Int)) = false from by simp, wherrylaw04_MatchApart.j1, if_neg (by decide)]
    have := apart_check (apart a i) (by rw [apart_len]; omega) i 0 k (by rw [apart_len]; omega) (by omega)
    rw [apart_len] at this
    exact this
  | f + 1, i, k, h, hk => by
    obtain ⟨k, rfl⟩ : ∃ j, k = j + 1 := ⟨k - 1, by omega⟩
    rw [wherrylaw04_MatchApart.l0, if_pos (by omega), if_pos (by rw [apart_len]; omega), wi (by omega) (by omega), wi (by omega) (by omega), show apart a i ++ [((a : Int) + (i : Int)) % 256] = apart a (i + 1) from by
      unfold apart; rw [List.range_succ, List.map_append]; rfl]
    exact apart_loop a n ha hn f (i + 1) k (by omega) (by omega)
theorem MatchApart : wherrylaw04_MatchApart.Pure := by
  intro a0 a1 _ _
  refine ⟨2000, ?_⟩
  unfold wherrylaw04_MatchApart.f
  obtain ⟨a, ha, ea⟩ := tmod_u64 a0 256 (by omega) (by omega)
  obtain ⟨n, hn, en⟩ := tmod_u64 a1 257 (by omega) (by omega)
  rw [ea, en]
  exact apart_loop a n (by omega) (by omega) n 0 2000 (by omega) (by omega)
end Go.Proofs.Ytagdlmlanjjecaa.Pure
