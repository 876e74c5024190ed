/- CanonBack holds: symbols' codes put one behind the other are read as these symbols; at all two lists of ints. No condition. -/
import Derived.Test.YtcmpeffaikjemaaCanonG
import Derived.Test.YtcmpeffaikjemaaPx2
import Derived.Test.YtcmpeffaikjemaaPx5
import Derived.Test.YtcmpeffaikjemaaPx6
import Derived.Test.YtcmpeffaikjemaaPx9
import Derived.Test.YtcmpeffaikjemaaPx10
import Derived.Test.YtcmpeffaikjemaaPx23
namespace Go.Proofs.Ytcmpeffaikjemaa.Pure
open Go.RowKit Go.Proofs.Ytcmpeffaikjemaa.P Go.Proofs.Ytcmpeffaikjemaa.Glue Go.Proofs.YtcmpeffaikjemaaW.PrintWords Go.Proofs.YtcmpeffaikjemaaW.PrintLast Go.Proofs.YtcmpeffaikjemaaW.PrintMore
open WP (Row Bytes at_ val)

/-- Where symbols' codes end that begin at a place. -/
def layEnd (l : List Int) : Nat → List Nat → Nat
  | a, [] => a
  | a, s :: ss => layEnd l (a + (l.getD s 0).toNat) ss
/-- Symbols' codes stand one behind the other from a place on. -/
def Laid (l : List Int) (X : Nat) : Nat → List Nat → Prop
  | _, [] => True
  | a, s :: ss => s < l.length ∧ 0 < l.getD s 0 ∧ at_ X a (l.getD s 0).toNat = WP.rev (l.getD s 0).toNat (codeN l s (l.getD s 0).toNat) ∧ Laid l X (a + (l.getD s 0).toNat) ss
theorem layEnd_le (l : List Int) : ∀ (ss : List Nat) (a : Nat), a ≤ layEnd l a ss
  | [], _ => Nat.le_refl _
  | s :: ss, a => Nat.le_trans (by omega) (layEnd_le l ss _)
theorem layEnd_snoc (l : List Int) (s : Nat) : ∀ (ss : List Nat) (a : Nat), layEnd l a (ss ++ [s]) = layEnd l a ss + (l.getD s 0).toNat
  | [], _ => rfl
  | _ :: ss, _ => layEnd_snoc l s ss _
theorem laid_more {l : List Int} {X V N : Nat} : ∀ (ss : List Nat) (a : Nat), layEnd l a ss ≤ N → Laid l X a ss → Laid l (X + V * 2 ^ N) a ss
  | [], _, _, _ => trivial
  | s :: ss, a, h, ⟨h1, h2, h3, h4⟩ => by
    have h5 := layEnd_le l ss (a + (l.getD s 0).toNat)
    have h6 : layEnd l (a + (l.getD s 0).toNat) ss ≤ N := h
    exact ⟨h1, h2, by rw [WP.at_low _ _ _ _ _ (by omega)]; exact h3, laid_more ss _ h6 h4⟩
theorem laid_snoc {l : List Int} {X s : Nat} : ∀ (ss : List Nat) (a : Nat), Laid l X a ss → s < l.length → 0 < l.getD s 0 → at_ X (layEnd l a ss) (l.getD s 0).toNat = WP.rev (l.getD s 0).toNat (codeN l s (l.getD s 0).toNat) → Laid l X a (ss ++ [s])
  | [], _, _, h1, h2, h3 => ⟨h1, h2, h3, trivial⟩
  | _ :: ss, _, ⟨g1, g2, g3, g4⟩, h1, h2, h3 => ⟨g1, g2, g3, laid_snoc ss _ g4 h1 h2 h3⟩
theorem laid_at {l : List Int} {X : Nat} : ∀ (ss : List Nat) (a i : Nat), Laid l X a ss → i < ss.length → (ss.getD i 0) < l.length ∧ 0 < l.getD (ss.getD i 0) 0 ∧ at_ X (layEnd l a (ss.take i)) (l.getD (ss.getD i 0) 0).toNat = WP.rev (l.getD (ss.getD i 0) 0).toNat (codeN l (ss.getD i 0) (l.getD (ss.getD i 0) 0).toNat) ∧ layEnd l a (ss.take (i + 1)) = layEnd l a (ss.take i) + (l.getD (ss.getD i 0) 0).toNat
  | [], _, i, _, h => by simp at h
  | s :: ss, a, 0, ⟨h1, h2, h3, _⟩, _ => ⟨h1, h2, h3, rfl⟩
  | s :: ss, a, i + 1, ⟨_, _, _, h4⟩, h => by
    have := laid_at ss (a + (l.getD s 0).toNat) i h4 (by simpa using h)
    simpa [layEnd] using this
theorem layEnd_take (l : List Int) : ∀ (ss : List Nat) (a i : Nat), layEnd l a (ss.take i) ≤ layEnd l a ss
  | [], _, _ => by simp
  | s :: ss, a, 0 => by simpa [layEnd] using layEnd_le l (s :: ss) a
  | s :: ss, a, i + 1 => by simpa [layEnd] using layEnd_take l ss _ i
theorem read_sym {l b : List Int} (hc : canon_Check.f l = some 0) (hb : Bytes b) (h100 : b.length ≤ 1000) {a s : Nat} (hs : s < l.length) (h0 : 0 < l.getD s 0) (ha : a + (l.getD s 0).toNat ≤ 8 * b.length) (hat : at_ (val b) a (l.getD s 0).toNat = WP.rev (l.getD s 0).toNat (codeN l s (l.getD s 0).toNat)) :
    canon_Read.f l b (a : Int) = some ((s : Int), ((a + (l.getD s 0).toNat : Nat) : Int), 0) := by
  have hm := makes_of hc
  have hn : nextF (fun n => (openF l n : Int)) (symsTo l l.length) b 15 1 0 (a : Int) = some ((s : Int), ((a + (l.getD s 0).toNat : Nat) : Int), true) := next_sym hm hb (by omega) hs (by omega) (by omega) ha hat
  unfold canon_Read.f
  rw [hc, Option.bind_some, if_pos rfl, if_neg (by rw [wrap64_in (by omega) (by omega)]; omega), hn, Option.bind_some]
  rfl
theorem getD_cast (ss : List Nat) (i : Nat) (h : i < ss.length) : (ss.map (fun s : Nat => (s : Int))).getD i 0 = ((ss.getD i 0 : Nat) : Int) := by
  rw [List.getD_eq_getElem?_getD, List.getElem?_map, List.getElem?_eq_getElem h, List.getD_eq_getElem?_getD, List.getElem?_eq_getElem h]; rfl
theorem back_l1 {l B : List Int} (hc : canon_Check.f l = some 0) {ss : List Nat} {X : Nat} (hr : Row B (layEnd l 0 ss) X) (hl : Laid l X 0 ss) (hN : layEnd l 0 ss ≤ 2000) (hss : ss.length ≤ 60) : ∀ (d i k : Nat), i + d = ss.length → d + 60 < k →
    wherrylaw02_CanonBack.l1 k l (ss.map (fun s : Nat => (s : Int))) (layEnd l 0 (ss.take i) : Int) (i : Int) B (layEnd l 0 ss : Int) = some true := by
  have hlen := hr.len
  intro d
  induction d with
  | zero =>
    intro i k hi hk
    obtain ⟨k, rfl⟩ : ∃ m, k = m + 1 := ⟨k - 1, by omega⟩
    simp only [wherrylaw02_CanonBack.l1]
    rw [if_neg (by simp; omega), if_pos (by rw [List.take_of_length_le (by omega)]), wakes02_is k (by omega)]
    rfl
  | succ d ih =>
    intro i k hi hk
    obtain ⟨k, rfl⟩ : ∃ m, k = m + 1 := ⟨k - 1, by omega⟩
    obtain ⟨h1, h2, h3, h4⟩ := laid_at ss 0 i hl (by omega)
    have h5 := layEnd_take l ss 0 (i + 1)
    have hm := makes_of hc
    have h6 := hm.bounds _ (getD_mem h1)
    have h7 := hm.len
    have e := getD_cast ss i (by omega)
    simp only [wherrylaw02_CanonBack.l1]
    rw [if_pos (by simp; omega), read_sym hc hr.bytes (by omega) h1 h2 (by omega) (by rw [hr.val]; exact h3), Option.bind_some]
    dsimp only
    rw [if_pos rfl, if_pos (by omega), rd_nat, e, if_pos rfl, if_pos (by omega), if_pos (by omega), rd_nat, if_pos (by rw [wrap64_in (by omega) (by omega)]; omega), wrap64_in (by omega) (by omega), show (i : Int) + 1 = ((i + 1 : Nat) : Int) from by omega, ← h4]
    exact ih (i + 1) k (by omega) (by omega)
theorem back_l0 {l : List Int} (hc : canon_Check.f l = some 0) (text : List Int) (ht : text.length ≤ 60) : ∀ (d i k : Nat) (ss : List Nat) (B : List Int) (X : Nat), i + d = text.length → 2 * d + 300 < k → ss.length ≤ i → layEnd l 0 ss ≤ 15 * i → Row B (layEnd l 0 ss) X → Laid l X 0 ss →
    wherrylaw02_CanonBack.l0 k l text (codesL l) (ss.map (fun s : Nat => (s : Int))) (i : Int) B (layEnd l 0 ss : Int) = some true := by
  have hm := makes_of hc
  have hlc := codesL_length l
  have hle := hm.len
  intro d
  induction d with
  | zero =>
    intro i k ss B X hi hk hs hN hr hl
    obtain ⟨k, rfl⟩ : ∃ m, k = m + 1 := ⟨k - 1, by omega⟩
    obtain ⟨k, rfl⟩ : ∃ m, k = m + 1 := ⟨k - 1, by omega⟩
    simp only [wherrylaw02_CanonBack.l0]
    rw [if_neg (by omega)]
    simp only [wherrylaw02_CanonBack.j3]
    rw [if_neg (by decide)]
    exact back_l1 hc hr hl (by omega) (by omega) ss.length 0 k (by omega) (by omega)
  | succ d ih =>
    intro i k ss B X hi hk hs hN hr hl
    obtain ⟨k, rfl⟩ : ∃ m, k = m + 1 := ⟨k - 1, by omega⟩
    obtain ⟨k, rfl⟩ : ∃ m, k = m + 1 := ⟨k - 1, by omega⟩
    simp only [wherrylaw02_CanonBack.l0]
    rw [if_pos (by omega)]
    simp only [wherrylaw02_CanonBack.j3]
    by_cases h0 : l.length = 0
    · rw [decide_eq_false (by omega), if_neg (by decide)]
      exact back_l1 hc hr hl (by omega) (by omega) ss.length 0 k (by omega) (by omega)
    · rw [decide_eq_true (by omega), if_pos rfl, if_pos (by omega), if_pos (by omega)]
      obtain ⟨p, hp, ep⟩ := place_of (rd text (i : Int)) l.length (by omega) (by omega)
      obtain ⟨n, hn, h15⟩ := hm.at hp
      rw [ep, if_neg (by rw [u64_in (by omega) (by omega)]; omega), if_pos (by omega), if_pos (by omega), rd_nat, rd_nat, hn]
      rw [wrap64_in (a := (i : Int) + 1) (by omega) (by omega), show (i : Int) + 1 = ((i + 1 : Nat) : Int) from by omega]
      by_cases hn0 : n = 0
      · subst hn0
        rw [if_pos (by rfl)]
        exact ih (i + 1) k ss B X (by omega) (by omega) (by omega) (by omega) hr hl
      · have hv := codeN_small hm hp hn (by omega) h15
        rw [if_neg (by omega), if_pos (by omega), codesL_get hp, codeOf_is hn (by omega), turn_is _ n k (by omega) hv (by omega), Option.bind_some]
        dsimp only
        obtain ⟨B', hput, hrow⟩ := put_row hr (by omega : n ≤ 24) (WP.rev_lt n (codeN l p n)) (by omega)
        rw [hput, Option.bind_some]
        dsimp only
        rw [if_pos rfl, if_pos rfl, if_pos (by simp; omega)]
        have e1 : layEnd l 0 (ss ++ [p]) = layEnd l 0 ss + n := by rw [layEnd_snoc, hn, Int.toNat_natCast]
        have e2 : (ss ++ [p]).map (fun s : Nat => (s : Int)) = ss.map (fun s : Nat => (s : Int)) ++ [(p : Int)] := by simp
        rw [← e1] at hrow
        have := ih (i + 1) k (ss ++ [p]) B' _ (by omega) (by omega) (by simp; omega) (by omega) hrow (laid_snoc ss 0 (laid_more ss 0 (Nat.le_refl _) hl) hp (by omega) (by
          rw [WP.at_high _ _ _ _ hr.lt, hn, Int.toNat_natCast, Nat.mod_eq_of_lt (WP.rev_lt _ _)]))
        rw [e1, e2] at this
        exact this
theorem CanonBack : wherrylaw02_CanonBack.Pure := by
  intro l text _ _ _ _ _ _
  refine ⟨1000, ?_⟩
  unfold wherrylaw02_CanonBack.f
  have done : wherrylaw02_CanonBack.j0 1000 l text true = some true := by simp only [wherrylaw02_CanonBack.j0]; rw [if_pos trivial]
  by_cases h0 : (l.length : Int) > 300
  · rw [if_pos h0]; exact done
  rw [if_neg h0]
  by_cases h1 : (text.length : Int) > 60
  · rw [decide_eq_true h1]; exact done
  rw [decide_eq_false h1]
  simp only [wherrylaw02_CanonBack.j0]
  rw [if_neg (by decide)]
  obtain ⟨e, he, _⟩ := check_some l
  by_cases h2 : e = 0
  · subst h2
    rw [codes_yes he, Option.bind_some, if_pos rfl]
    dsimp only
    rw [codesL_length, bne_self_eq_false]
    simp only [wherrylaw02_CanonBack.j1]
    rw [if_neg (by decide)]
    exact back_l0 he text (by omega) text.length 0 998 [] [] 0 (by omega) (by omega) (by simp) (by simp [layEnd]) Row.empty trivial
  · rw [codes_no he h2, Option.bind_some, if_neg h2]
    simp only [wherrylaw02_CanonBack.j1]
    rw [if_pos trivial, if_neg h2, wakes02_is 998 (by decide)]
    rfl
end Go.Proofs.Ytcmpeffaikjemaa.Pure
