/- MatchOne holds: a text of one byte over and over is that byte and pieces of it from one back; at every byte and int. No condition. -/
import Derived.Test.YtagdlmlanjjecaaMatch
import Derived.Test.YtagdlmlanjjecaaPx0
import Derived.Test.YtagdlmlanjjecaaPx4
import Derived.Test.YtagdlmlanjjecaaPx5
import Derived.Test.YtagdlmlanjjecaaPx6
import Derived.Test.YtagdlmlanjjecaaPx10
import Derived.Test.YtagdlmlanjjecaaPx19
namespace Go.Proofs.Ytagdlmlanjjecaa.Pure
open Go.RowKit Go.Proofs.Ytagdlmlanjjecaa.P Go.Proofs.YtagdlmlanjjecaaW.PrintWords Go.Proofs.YtagdlmlanjjecaaW.PrintLast Go.Proofs.YtagdlmlanjjecaaW.PrintMore
set_option linter.unusedVariables false
set_option linter.unusedSimpArgs false
/-- What is left of a text of one byte, in pieces. -/
def onesT (c : Int) : Nat → Nat → List S40
  | 0, _ => []
  | f + 1, left => if 3 ≤ left then ⟨0, ((min left 258 : Nat) : Int), 1⟩ :: onesT c f (left - min left 258) else if 0 < left then ⟨c, 0, 0⟩ :: onesT c f (left - 1) else []
theorem ones_get (c : Int) (n i : Nat) (h : i < n) : (List.replicate n c).getD i 0 = c := by
  simp [List.getD_eq_getElem?_getD, List.getElem?_replicate, h]
theorem ones_com (c : Int) (n i o : Nat) (h1 : 1 ≤ o) (h2 : o ≤ i) (hi : i < n) : com (List.replicate n c) (i - o) i = min (n - i) 258 := by
  have a := com_len (List.replicate n c) (i - o) i (by rw [List.length_replicate]; omega)
  have b := com_le (List.replicate n c) (i - o) i
  have d := com_ge (List.replicate n c) (i - o) i (min (n - i) 258) (by omega) (fun j hj => ⟨by rw [List.length_replicate]; omega, by rw [ones_get c n _ (by omega), ones_get c n _ (by omega)]⟩)
  rw [List.length_replicate] at a
  omega
theorem ones_best (c : Int) (n i : Nat) (hi : i < n) (h1 : 1 ≤ i) : IsBest (List.replicate n c) i (if 3 ≤ n - i then min (n - i) 258 else 0) (if 3 ≤ n - i then 1 else 0) := by
  by_cases h : 3 ≤ n - i
  · rw [if_pos h, if_pos h]
    refine ⟨Or.inr ⟨by omega, by omega, by omega, by omega, by omega, by rw [List.length_replicate]; omega, ones_com c n i 1 (by omega) h1 hi⟩, fun o a b d => Or.inr (Or.inr ⟨ones_com c n i o a b hi, a⟩)⟩
  · rw [if_neg h, if_neg h]
    refine ⟨Or.inl ⟨rfl, rfl⟩, fun o a b d => Or.inl ?_⟩
    rw [ones_com c n i o a b hi]; omega
theorem ones_toks (c : Int) (n : Nat) : ∀ f i, 1 ≤ i → toks (List.replicate n c) f i = onesT c f (n - i)
  | 0, i, _ => rfl
  | f + 1, i, h1 => by
    rw [toks, onesT]
    by_cases hi : i < n
    · rw [if_pos (by rw [List.length_replicate]; exact hi)]
      obtain ⟨e1, e2⟩ := (bestL_is (List.replicate n c) i (by rw [List.length_replicate]; exact hi)).one (ones_best c n i hi h1)
      rw [e1, e2]
      by_cases h : 3 ≤ n - i
      · rw [if_pos h, if_pos h, if_neg (by omega), if_pos h, ones_toks c n f _ (by omega), Nat.sub_add_eq]; rfl
      · rw [if_neg h, if_pos rfl, if_neg h, if_pos (by omega), ones_toks c n f _ (by omega), ones_get c n i hi, Nat.sub_add_eq]
    · rw [if_neg (by rw [List.length_replicate]; exact hi), if_neg (by omega), if_neg (by omega)]
theorem ones_toks0 (c : Int) (n : Nat) (hn : 0 < n) : toks (List.replicate n c) n 0 = ⟨c, 0, 0⟩ :: onesT c (n - 1) (n - 1) := by
  obtain ⟨m, rfl⟩ : ∃ m, n = m + 1 := ⟨n - 1, by omega⟩
  have hb := bestL_is (List.replicate (m + 1) c) 0 (by simp)
  have h0 : (bestL (noted (List.replicate (m + 1) c) 0) (List.replicate (m + 1) c) 0).1 = 0 := by
    rcases hb.1 with ⟨e, _⟩ | h
    · exact e
    · omega
  rw [toks, if_pos (by simp), if_pos h0, ones_toks c (m + 1) m _ (by omega), ones_get c (m + 1) 0 (by omega)]
  rfl
theorem ones_fuel (c : Int) : ∀ f f' left, left ≤ f → left ≤ f' → onesT c f left = onesT c f' left
  | 0, f', left, h, h' => by
    obtain rfl : left = 0 := by omega
    cases f' <;> simp [onesT]
  | f + 1, 0, left, h, h' => by
    obtain rfl : left = 0 := by omega
    simp [onesT]
  | f + 1, f' + 1, left, h, h' => by
    simp only [onesT]
    split
    · rw [ones_fuel c f f' _ (by omega) (by omega)]
    · split
      · rw [ones_fuel c f f' _ (by omega) (by omega)]
      · rfl
theorem keepToks_loop (a : List S40) (hm : a.length < 2 ^ 60) : ∀ (d i k : Nat), i + d = a.length → d < k → wherrykeep_Toks.l0 k a a (i : Int) = some true
  | 0, i, k, hi, hk => by
    obtain ⟨k, rfl⟩ : ∃ m, k = m + 1 := ⟨k - 1, by omega⟩
    rw [wherrykeep_Toks.l0, if_neg (by omega)]
  | d + 1, i, k, hi, hk => by
    obtain ⟨k, rfl⟩ : ∃ m, k = m + 1 := ⟨k - 1, by omega⟩
    rw [wherrykeep_Toks.l0, if_pos (by omega), if_pos (by omega), if_pos (by omega), if_pos rfl, if_pos rfl, if_pos rfl, wi (by omega) (by omega)]
    exact keepToks_loop a hm d (i + 1) k (by omega) (by omega)
theorem keepToks_same (a : List S40) (hm : a.length < 2 ^ 60) (k : Nat) (hk : a.length < k) : wherrykeep_Toks.f k a a = some true := by
  unfold wherrykeep_Toks.f
  rw [if_pos rfl]
  exact keepToks_loop a hm a.length 0 k (by omega) hk
section
variable (c : Int) (n : Nat) (hn : n < 1200) (hw : (Lit.int .u8 c).wf = true)
include hn hw
theorem one_end (acc : List S40) (left : Nat) (hl : left < 3) (ha : acc.length ≤ 1300) (he : acc ++ onesT c left left = toks (List.replicate n c) n 0) : ∀ k, 3000 ≤ k → wherrylaw04_MatchOne.l2 k c (List.replicate n c) acc (left : Int) = some true := by
  have last : ∀ acc : List S40, acc = toks (List.replicate n c) n 0 → acc.length ≤ 1310 → ∀ k, 2000 ≤ k → wherrylaw04_MatchOne.l2 k c (List.replicate n c) acc 0 = some true := by
    intro acc he hlen k hk
    obtain ⟨k, rfl⟩ : ∃ m, k = m + 1 := ⟨k - 1, by omega⟩
    have ht := tokens_is (l := List.replicate n c) (fun x hx => by rw [List.eq_of_mem_replicate hx]; exact hw) (by rw [List.length_replicate]; omega)
    rw [List.length_replicate] at ht
    rw [wherrylaw04_MatchOne.l2, if_neg (by omega), ht, Option.bind_some]
    dsimp only
    rw [if_pos rfl, ← he, keepToks_same acc (by omega) k (by omega), Option.bind_some, if_pos rfl]
    rfl
  intro k hk
  obtain ⟨k, rfl⟩ : ∃ m, k = m + 2 := ⟨k - 2, by omega⟩
  match left, hl with
  | 0, _ => exact last acc (by simpa [onesT] using he) (by omega) (k + 2) (by omega)
  | 1, _ =>
    rw [show ((1 : Nat) : Int) = 1 from rfl, wherrylaw04_MatchOne.l2, if_pos (by omega), if_pos (by omega), wi (by omega) (by omega), show (1 : Int) - 1 = 0 from rfl]
    exact last _ (by simpa [onesT] using he) (by simp; omega) (k + 1) (by omega)
  | 2, _ =>
    rw [show ((2 : Nat) : Int) = 2 from rfl, wherrylaw04_MatchOne.l2, if_pos (by omega), if_pos (by omega), wi (by omega) (by omega), show (2 : Int) - 1 = 1 from rfl, wherrylaw04_MatchOne.l2, if_pos (by omega), if_pos (by simp; omega), wi (by omega) (by omega), show (1 : Int) - 1 = 0 from rfl]
    exact last _ (by simpa [onesT] using he) (by simp; omega) k (by omega)
theorem one_pieces : ∀ (f left : Nat) (acc : List S40), left ≤ f → acc.length + f ≤ 1250 → acc ++ onesT c left left = toks (List.replicate n c) n 0 → ∀ k, 3001 + f ≤ k → wherrylaw04_MatchOne.l1 k c (List.replicate n c) acc (left : Int) = some true
  | 0, left, acc, h, ha, he, k, hk => by
    obtain ⟨k, rfl⟩ : ∃ m, k = m + 1 := ⟨k - 1, by omega⟩
    rw [wherrylaw04_MatchOne.l1, if_neg (by omega)]
    exact one_end c n hn hw acc left (by omega) (by omega) he k (by omega)
  | f + 1, left, acc, h, ha, he, k, hk => by
    obtain ⟨k, rfl⟩ : ∃ m, k = m + 1 := ⟨k - 1, by omega⟩
    rw [wherrylaw04_MatchOne.l1]
    by_cases h3 : 3 ≤ left
    · have hmn : mn (left : Int) 258 = ((min left 258 : Nat) : Int) := by unfold mn; split <;> omega
      rw [if_pos (by omega), if_pos (by omega), hmn, wi (by omega) (by omega), show (left : Int) - ((min left 258 : Nat) : Int) = ((left - min left 258 : Nat) : Int) from by omega]
      refine one_pieces f (left - min left 258) _ (by omega) (by simp; omega) ?_ k (by omega)
      rw [← he, List.append_assoc]
      congr 1
      obtain ⟨m, rfl⟩ : ∃ m, left = m + 1 := ⟨left - 1, by omega⟩
      rw [onesT, if_pos h3, ones_fuel c m (m + 1 - min (m + 1) 258) _ (by omega) (Nat.le_refl _)]
      rfl
    · rw [if_neg (by omega)]
      exact one_end c n hn hw acc left (by omega) (by omega) he k (by omega)
theorem one_loop : ∀ (f i k : Nat), i + f = n → 6000 + f ≤ k → wherrylaw04_MatchOne.l0 k c (n : Int) (List.replicate i c) (i : Int) = some true
  | 0, i, k, h, hk => by
    obtain rfl : i = n := by omega
    obtain ⟨k, rfl⟩ : ∃ m, k = m + 2 := ⟨k - 2, by omega⟩
    rw [wherrylaw04_MatchOne.l0, if_neg (by omega)]
    by_cases h0 : 0 < i
    · rw [if_pos (by omega), if_pos (by simp), wi (by omega) (by omega), wherrylaw04_MatchOne.j1, show (i : Int) - 1 = ((i - 1 : Nat) : Int) from by omega]
      exact one_pieces c i hn hw (i - 1) (i - 1) _ (Nat.le_refl _) (by simp; omega) (by rw [ones_toks0 c i h0]; rfl) k (by omega)
    · obtain rfl : i = 0 := by omega
      rw [if_neg (by omega), wherrylaw04_MatchOne.j1]
      exact one_pieces c 0 hn hw 0 0 [] (by omega) (by simp) (by simp [onesT, toks]) k (by omega)
  | f + 1, i, k, h, hk => by
    obtain ⟨k, rfl⟩ : ∃ m, k = m + 1 := ⟨k - 1, by omega⟩
    rw [wherrylaw04_MatchOne.l0, if_pos (by omega), if_pos (by rw [List.length_replicate]; omega), wi (by omega) (by omega), ← List.replicate_succ']
    exact one_loop f (i + 1) k (by omega) (by omega)
end
theorem MatchOne : wherrylaw04_MatchOne.Pure := by
  intro a0 a1 hw _
  refine ⟨8000, ?_⟩
  unfold wherrylaw04_MatchOne.f
  obtain ⟨n, hn, en⟩ := tmod_u64 a1 1200 (by omega) (by omega)
  rw [en]
  exact one_loop a0 n (by omega) hw n 0 8000 (by omega) (by omega)
end Go.Proofs.Ytagdlmlanjjecaa.Pure
