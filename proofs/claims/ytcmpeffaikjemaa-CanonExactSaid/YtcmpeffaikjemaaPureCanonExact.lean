/- CanonExact holds: whether any lengths make codes, what they weigh, their codes, what is read by them from any place of any bytes, or why not, are the reference's; at all lists of ints, bytes and every int. No condition. -/
import Derived.Test.YtcmpeffaikjemaaCanonRef2
import Derived.Test.YtcmpeffaikjemaaPx6
import Derived.Test.YtcmpeffaikjemaaPx7
import Derived.Test.YtcmpeffaikjemaaPx10
import Derived.Test.YtcmpeffaikjemaaPx11
import Derived.Test.YtcmpeffaikjemaaPx12
import Derived.Test.YtcmpeffaikjemaaPx14
namespace Go.Proofs.Ytcmpeffaikjemaa.Pure
open Go.RowKit Go.Proofs.Ytcmpeffaikjemaa.P Go.Proofs.Ytcmpeffaikjemaa.Glue Go.Proofs.YtcmpeffaikjemaaW.PrintWords Go.Proofs.YtcmpeffaikjemaaW.PrintLast Go.Proofs.YtcmpeffaikjemaaW.PrintMore
open WP (Bytes val)

theorem exact_l0 {l b : List Int} (hl : l.length ≤ 400) (hb : b.length ≤ 600) (n : Nat) (hn : n ≤ 400) : ∀ (d i k : Nat) (x : List Int), x.length = n → i + d = n → d + 1000 < k → wherrylaw02_CanonExact.l0 k l b l b x (i : Int) = some true := by
  intro d
  induction d with
  | zero =>
    intro i k x hx hi hk
    obtain ⟨k, rfl⟩ : ∃ m, k = m + 1 := ⟨k - 1, by omega⟩
    simp only [wherrylaw02_CanonExact.l0]
    rw [if_neg (by omega), keepInts_is l l (by omega) k (by omega), decide_eq_true rfl, Option.bind_some, if_pos rfl, keepBytes_is b b (by omega) k (by omega), decide_eq_true rfl, Option.bind_some, if_pos rfl, wakes02_is k (by omega)]
    rfl
  | succ d ih =>
    intro i k x hx hi hk
    obtain ⟨k, rfl⟩ : ∃ m, k = m + 1 := ⟨k - 1, by omega⟩
    simp only [wherrylaw02_CanonExact.l0]
    rw [if_pos (by omega), if_pos (by omega), wrap64_in (a := (i : Int) + 1) (by omega) (by omega), show (i : Int) + 1 = ((i + 1 : Nat) : Int) from by omega]
    exact ih (i + 1) k _ (by rw [List.length_set]; exact hx) (by omega) (by omega)
theorem CanonExact : wherrylaw02_CanonExact.Pure := by
  intro l b a2 _ _ _ _ _ hb _
  refine ⟨9000, ?_⟩
  unfold wherrylaw02_CanonExact.f
  have done : wherrylaw02_CanonExact.j0 9000 l b a2 true = some true := by simp only [wherrylaw02_CanonExact.j0]; rw [if_pos trivial]
  by_cases h0 : (l.length : Int) > 400
  · rw [if_pos h0]; exact done
  rw [if_neg h0]
  by_cases h1 : (b.length : Int) > 600
  · rw [decide_eq_true h1]; exact done
  rw [decide_eq_false h1]
  clear done
  have hb' := bytes_of hb
  have e1 : ∀ k, 7000 ≤ k → wherryref01_Codes.f k l = canon_Codes.f l := fun k hk => refCodes_is l k hk
  have e2 : ∀ k, 8000 ≤ k → wherryref01_Read.f k l b a2 = canon_Read.f l b a2 := fun k hk => refRead_is l b hb' (by omega) a2 k hk
  simp only [wherrylaw02_CanonExact.j0]
  rw [if_neg (by decide), twinInts_is l (by omega), Option.bind_some, twin_is b (by omega), Option.bind_some, e1 8999 (by decide), e2 8999 (by decide), refcheck_is l 8999 (by decide), refweigh_is l 8999 (by decide)]
  obtain ⟨x, e, hce, hxl⟩ : ∃ x e, canon_Codes.f l = some (x, e) ∧ x.length ≤ 400 := by
    obtain ⟨e, he, _⟩ := check_some l
    by_cases h : e = 0
    · subst h; exact ⟨_, _, codes_yes he, by rw [codesL_length]; omega⟩
    · exact ⟨_, _, codes_no he h, by simp⟩
  obtain ⟨c, hc, _⟩ := check_some l
  obtain ⟨w, hw⟩ : ∃ w, canon_Weigh.f l = some w := ⟨_, rfl⟩
  obtain ⟨s, p, g, hr⟩ : ∃ s p g, canon_Read.f l b a2 = some (s, p, g) := by
    rw [← e2 8000 (by decide)]
    unfold wherryref01_Read.f
    rw [refcheck_is l 8000 (by decide), hc, Option.bind_some]
    by_cases h : c = 0
    · subst h
      have hm := makes_of hc
      rw [if_pos rfl, refin_is, Option.bind_some]
      by_cases hin : 0 ≤ a2 ∧ a2 ≤ wrap64 (8 * (b.length : Int))
      · have hwr : wrap64 (8 * (b.length : Int)) = 8 * (b.length : Int) := wrap64_in (by omega) (by omega)
        obtain ⟨a, rfl⟩ := Int.eq_ofNat_of_zero_le hin.1
        obtain ⟨s, p, hrd, _⟩ := refread_is hm hb' (by omega : b.length ≤ 700) (a := a) (by omega) 8000 (by decide)
        rw [if_pos (decide_eq_true hin), refcodes_is hm 8000 (by decide), Option.bind_some, hrd, Option.bind_some]
        dsimp only
        by_cases hs : s < 0
        · rw [if_pos hs]; exact ⟨_, _, _, rfl⟩
        · rw [if_neg hs]; exact ⟨_, _, _, rfl⟩
      · rw [if_neg (by simpa using hin)]; exact ⟨_, _, _, rfl⟩
    · rw [if_neg h]; exact ⟨_, _, _, rfl⟩
  rw [hce, Option.bind_some, Option.bind_some, hr, Option.bind_some, Option.bind_some, hc, Option.bind_some, Option.bind_some, if_pos rfl, hw, Option.bind_some, Option.bind_some, if_pos rfl]
  dsimp only
  rw [if_pos rfl, keepInts_is x x (by omega) 8999 (by omega), decide_eq_true rfl, Option.bind_some, if_pos rfl, if_pos rfl, if_pos rfl, bne_self_eq_false]
  simp only [wherrylaw02_CanonExact.j1]
  rw [if_neg (by decide)]
  exact exact_l0 (by omega) (by omega) x.length hxl x.length 0 8998 x rfl (by omega) (by omega)
end Go.Proofs.Ytcmpeffaikjemaa.Pure
