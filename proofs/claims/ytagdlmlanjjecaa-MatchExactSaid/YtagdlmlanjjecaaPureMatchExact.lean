/- MatchExact holds: the package and the page answer alike; at all lists of bytes, ints and rows of tokens. No condition. -/
import Derived.Test.YtagdlmlanjjecaaMatch
import Derived.Test.YtagdlmlanjjecaaMatchRef
import Derived.Test.YtagdlmlanjjecaaMatchRef3
import Derived.Test.YtagdlmlanjjecaaPx0
import Derived.Test.YtagdlmlanjjecaaPx1
import Derived.Test.YtagdlmlanjjecaaPx10
import Derived.Test.YtagdlmlanjjecaaPx12
namespace Go.Proofs.Ytagdlmlanjjecaa.Pure
open Go.RowKit Go.Proofs.Ytagdlmlanjjecaa.P Go.Proofs.YtagdlmlanjjecaaW.PrintWords Go.Proofs.YtagdlmlanjjecaaW.PrintLast Go.Proofs.YtagdlmlanjjecaaW.PrintMore
set_option linter.unusedVariables false
set_option linter.unusedSimpArgs false
theorem keepToks_loop (a : List S40) (hm : a.length < 2 ^ 60) : ∀ (d i k : Nat), i + d = a.length → d < k → wherrykeep_Toks.l0 k a a (i : Int) = some true
  | 0, i, k, hi, hk => by
    obtain ⟨k, rfl⟩ : ∃ m, k = m + 1 := ⟨k - 1, by omega⟩
    rw [wherrykeep_Toks.l0, if_neg (by omega)]
  | d + 1, i, k, hi, hk => by
    obtain ⟨k, rfl⟩ : ∃ m, k = m + 1 := ⟨k - 1, by omega⟩
    rw [wherrykeep_Toks.l0, if_pos (by omega), if_pos (by omega), if_pos (by omega), if_pos rfl, if_pos rfl, if_pos rfl, wi (by omega) (by omega)]
    exact keepToks_loop a hm d (i + 1) k (by omega) (by omega)
theorem keepToks_same (a : List S40) (hm : a.length < 2 ^ 60) (k : Nat) (hk : a.length < k) : wherrykeep_Toks.f k a a = some true := by
  unfold wherrykeep_Toks.f
  rw [if_pos rfl]
  exact keepToks_loop a hm a.length 0 k (by omega) hk
theorem over_loop : ∀ (d i k : Nat) (a : List Int), a.length < 2 ^ 60 → i + d = a.length → d < k → ∃ r, wherrykeep_Over.l0 k a (i : Int) = some r
  | 0, i, k, a, hm, hi, hk => by
    obtain ⟨k, rfl⟩ : ∃ m, k = m + 1 := ⟨k - 1, by omega⟩
    exact ⟨a, by rw [wherrykeep_Over.l0, if_neg (by omega)]⟩
  | d + 1, i, k, a, hm, hi, hk => by
    obtain ⟨k, rfl⟩ : ∃ m, k = m + 1 := ⟨k - 1, by omega⟩
    rw [wherrykeep_Over.l0, if_pos (by omega), if_pos (by omega), wi (by omega) (by omega)]
    exact over_loop d (i + 1) k _ (by rw [List.length_set]; exact hm) (by rw [List.length_set]; omega) (by omega)
theorem over_is (a : List Int) (hm : a.length < 2 ^ 60) (k : Nat) (hk : a.length < k) : ∃ r, wherrykeep_Over.f k a = some r := over_loop a.length 0 k a hm (by omega) hk
theorem MatchExact (l0 : List Int) (a1 : Int) (l2 : List S40) (hw : ∀ x ∈ l0, (Lit.int .u8 x).wf = true) : ∃ k, wherrylaw04_MatchExact.f k l0 a1 l2 = some true := by
  have H : ∀ k, 800000 ≤ k → wherrylaw04_MatchExact.f (k + 2) l0 a1 l2 = some true := by
    intro k hk
    unfold wherrylaw04_MatchExact.f
    by_cases h : (l0.length : Int) > 1200
    · rw [if_pos h, wherrylaw04_MatchExact.j0, if_pos rfl]
    rw [if_neg h]
    by_cases h' : (l2.length : Int) > 600
    · rw [decide_eq_true h', wherrylaw04_MatchExact.j0, if_pos rfl]
    obtain ⟨n, d, b1, b2⟩ := best_both l0 hw (by omega) a1 (k + 1) (by omega)
    obtain ⟨out, e, ho, e1, e2⟩ := expand_both l2 (by omega) (k + 1) (by omega)
    obtain ⟨c, c1, c2, _⟩ := check_both l2 (by omega) (k + 1) (by omega)
    obtain ⟨r, hr⟩ := over_is out (by omega) k (by omega)
    have hs := (toks_right l0 l0.length 0 (by omega) (by omega)).2.2
    have hl := sizeL_ge (toks_right l0 l0.length 0 (by omega) (by omega)).1
    rw [decide_eq_false h', wherrylaw04_MatchExact.j0, if_neg (by decide), twin_is l0 (by omega), Option.bind_some, wherrykeep_TwinToks.f, if_pos (by simp only [List.length_nil]; omega), List.nil_append, Option.bind_some, tokens_is hw (by omega), Option.bind_some, refTokens_is l0 (by omega) (k + 1) (by omega), Option.bind_some, b1, Option.bind_some, b2, Option.bind_some, e1, Option.bind_some, e2, Option.bind_some]
    dsimp only
    rw [if_pos rfl, keepToks_same _ (by omega) (k + 1) (by omega), Option.bind_some, if_pos rfl, if_pos rfl, if_pos rfl, if_pos rfl, keepBytes_is out out (by omega) (k + 1) (by omega), Option.bind_some, if_pos (by simp), c1, Option.bind_some, c2, Option.bind_some, show (c != c) = false from by simp, wherrylaw04_MatchExact.j1, if_neg (by decide), hr, Option.bind_some, keepBytes_is l0 l0 (by omega) k (by omega), Option.bind_some, if_pos (by simp), keepToks_same l2 (by omega) k (by omega), Option.bind_some, if_pos rfl]
    rfl
  exact ⟨800000 + 2, H 800000 (Nat.le_refl _)⟩
end Go.Proofs.Ytagdlmlanjjecaa.Pure
