/- TreeDeep holds: weights that grow like Fibonacci's numbers are as deep as there are; where that is above the limit they are made flatter, and make codes still; at every two ints. No condition. -/
import Derived.Test.YtaoeghdpmmeaiaaTreeKraft
import Derived.Test.YtaoeghdpmmeaiaaPx4
import Derived.Test.YtaoeghdpmmeaiaaPx10
import Derived.Test.YtaoeghdpmmeaiaaPx12
import Derived.Test.YtaoeghdpmmeaiaaPx22
import Derived.Test.YtaoeghdpmmeaiaaPx25
namespace Go.Proofs.Ytaoeghdpmmeaiaa.Pure
open Go.RowKit Go.Proofs.Ytaoeghdpmmeaiaa.P Go.Proofs.Ytaoeghdpmmeaiaa.Glue Go.Proofs.YtaoeghdpmmeaiaaW.PrintWords Go.Proofs.YtaoeghdpmmeaiaaW.PrintLast Go.Proofs.YtaoeghdpmmeaiaaW.PrintMore
set_option linter.unusedVariables false
set_option linter.unusedSimpArgs false

/-- The first n weights that grow like Fibonacci's numbers. -/
def fibs (n : Nat) : List Int := (List.range n).map (fun j => (fibN (j + 1) : Int))
theorem fibs_length (n : Nat) : (fibs n).length = n := by unfold fibs; simp
theorem fibs_succ (n : Nat) : fibs (n + 1) = fibs n ++ [(fibN (n + 1) : Int)] := by unfold fibs; rw [List.range_succ, List.map_append]; rfl
/-- The greatest of a row and 0. -/
def maxL (l : List Int) : Int := l.foldl mx 0
theorem maxL_snoc (l : List Int) (v : Int) : maxL (l ++ [v]) = mx (maxL l) v := by unfold maxL; rw [List.foldl_append]; rfl
theorem maxL_le (B : Int) (h0 : 0 ≤ B) (l : List Int) : maxL l ≤ B ↔ ∀ v ∈ l, v ≤ B := by
  induction l using snoc_induct with
  | h0 => simp [maxL, h0]
  | h1 l v ih =>
    rw [maxL_snoc]
    have e : mx (maxL l) v ≤ B ↔ maxL l ≤ B ∧ v ≤ B := by
      unfold mx
      split <;> omega
    rw [e, ih]
    constructor
    · rintro ⟨h1, h2⟩ x hx
      rcases List.mem_append.1 hx with hx | hx
      · exact h1 x hx
      · rw [List.mem_singleton.1 hx]; exact h2
    · intro h
      exact ⟨fun x hx => h x (List.mem_append_left _ hx), h v (by simp)⟩
theorem deep_small : ∀ n : Fin 17, 2 ≤ n.val → maxL (onceOf (fibs n.val)) = (n.val : Int) - 1 := by decide +kernel
theorem fib_small (n : Nat) (h : n ≤ 29) : fibN n ≤ 514229 := by
  have := fib_mono n (29 - n)
  rw [show n + (29 - n) = 29 from by omega] at this
  have e : fibN 29 = 514229 := by decide +kernel
  omega
theorem fib_pos (n : Nat) : 1 ≤ fibN (n + 1) := by
  have := fib_mono 1 n
  rw [show 1 + n = n + 1 from by omega] at this
  exact this
theorem fibs_weigh (n : Nat) (h : n ≤ 27) : weighs (fibs n) = true := by
  refine (weighs_iff _).2 ⟨by rw [fibs_length]; omega, fun x hx => ?_⟩
  unfold fibs at hx
  obtain ⟨j, hj, rfl⟩ := List.mem_map.1 hx
  have := List.mem_range.1 hj
  have := fib_small (j + 1) (by omega)
  omega
/-- What lengths are told of them. -/
theorem deep_lens (n : Nat) (h2 : 2 ≤ n) (h : n ≤ 27) (lim : Int) (h9 : 9 ≤ lim) (h15 : lim ≤ 15) : ∃ l, tree_Lengths.f (fibs n) lim = some (l, 0) ∧ l.length = n ∧ canon_Check.f l = some 0 ∧ maxL l ≤ lim ∧ ((n : Int) - 1 ≤ lim → maxL l = (n : Int) - 1) := by
  have hw := fibs_weigh n h
  by_cases hn : (n : Int) - 1 ≤ lim
  · have hd := deep_small ⟨n, by omega⟩ h2
    have hb : ∀ v ∈ onceOf (fibs n), v ≤ lim := (maxL_le lim (by omega) _).1 (by simp only at hd; omega)
    refine ⟨onceOf (fibs n), ?_, by rw [once_length, fibs_length], once_check _ hw (fun v hv => by have := hb v hv; omega), by simp only at hd; omega, fun _ => hd⟩
    unfold tree_Lengths.f lensOf
    rw [if_neg (by rw [hw]; simp; omega), lensFrom_done 31 _ lim (by omega) hb]
    rfl
  · obtain ⟨ws', a1, a2, a3, a4, a5⟩ := lens_ok hw h15 (Or.inl h9)
    exact ⟨_, a1, by rw [once_length, a3, fibs_length], once_check ws' a2 (fun v hv => by have := (a5 v hv).2; omega), (maxL_le lim (by omega) _).2 (fun v hv => (a5 v hv).2), fun hc => absurd hc hn⟩
theorem deep_l1 (n : Nat) (lim : Int) (h9 : 9 ≤ lim) (h15 : lim ≤ 15) (hn : 2 ≤ n) (l : List Int) (hl : l.length = n) (hm : maxL l ≤ lim) (he : (n : Int) - 1 ≤ lim → maxL l = (n : Int) - 1) : ∀ (d i k : Nat), i + d = n → n ≤ 27 → d + 50 ≤ k → wherrylaw03_TreeDeep.l1 k (n : Int) lim l (maxL (l.take i)) (i : Int) = some true := by
  intro d
  induction d with
  | zero =>
    intro i k hi h27 hk
    obtain ⟨k, rfl⟩ : ∃ m, k = m + 1 := ⟨k - 1, by omega⟩
    simp only [wherrylaw03_TreeDeep.l1]
    rw [if_neg (by omega), List.take_of_length_le (by omega), wrap64_in (by omega) (by omega)]
    by_cases hc : (n : Int) - 1 > lim
    · rw [if_pos hc, if_pos hm, wakes03_is k (by omega)]
      rfl
    · rw [if_neg hc, if_pos (he (by omega)), if_pos hm, wakes03_is k (by omega)]
      rfl
  | succ d ih =>
    intro i k hi h27 hk
    have hlt : i < l.length := by omega
    obtain ⟨k, rfl⟩ : ∃ m, k = m + 1 := ⟨k - 1, by omega⟩
    simp only [wherrylaw03_TreeDeep.l1]
    have e : rd l (i : Int) = l[i] := by rw [rd_nat]; simp [hlt]
    rw [if_pos (by omega), if_pos (by omega), if_pos (by omega), wrap64_in (by omega) (by omega), e]
    have := ih (i + 1) k (by omega) h27 (by omega)
    rw [List.take_succ_eq_append_getElem hlt, maxL_snoc] at this
    exact this
theorem deep_l0 (n : Nat) (lim : Int) (h9 : 9 ≤ lim) (h15 : lim ≤ 15) (h2 : 2 ≤ n) (h27 : n ≤ 27) : ∀ (d i k : Nat), i + d = n → d + 100 ≤ k → wherrylaw03_TreeDeep.l0 k (n : Int) lim (fibN (i + 1) : Int) (fibN (i + 2) : Int) (fibs i) (i : Int) = some true := by
  intro d
  induction d with
  | zero =>
    intro i k hi hk
    have hin : i = n := by omega
    subst hin
    obtain ⟨k, rfl⟩ : ∃ m, k = m + 2 := ⟨k - 2, by omega⟩
    obtain ⟨l, a1, a2, a3, a4, a5⟩ := deep_lens i h2 h27 lim h9 h15
    simp only [wherrylaw03_TreeDeep.l0]
    rw [if_neg (by omega), a1, Option.bind_some]
    dsimp only
    rw [if_pos (by trivial), if_pos (by omega), a3, Option.bind_some, show ((0 : Int) != 0) = false from rfl]
    simp only [wherrylaw03_TreeDeep.j1]
    rw [if_neg (by decide)]
    exact deep_l1 i lim h9 h15 h2 l a2 a4 a5 i 0 k (by omega) h27 (by omega)
  | succ d ih =>
    intro i k hi hk
    obtain ⟨k, rfl⟩ : ∃ m, k = m + 1 := ⟨k - 1, by omega⟩
    have f1 := fib_small (i + 1) (by omega)
    have f2 := fib_small (i + 2) (by omega)
    have e3 : fibN (i + 1 + 2) = fibN (i + 2) + fibN (i + 1) := rfl
    simp only [wherrylaw03_TreeDeep.l0]
    rw [if_pos (by omega), if_pos (by rw [fibs_length]; omega), wrap64_in (by omega) (by omega), wrap64_in (by omega) (by omega)]
    have := ih (i + 1) k (by omega) (by omega)
    rw [fibs_succ, e3, show (((fibN (i + 2) + fibN (i + 1) : Nat)) : Int) = (fibN (i + 1) : Int) + (fibN (i + 2) : Int) from by omega] at this
    exact this
theorem TreeDeep : wherrylaw03_TreeDeep.Pure := by
  intro a0 a1 _ _
  refine ⟨300, ?_⟩
  unfold wherrylaw03_TreeDeep.f
  obtain ⟨n, hn, e0⟩ := tmod_u64 a0 26 (by omega) (by omega)
  obtain ⟨m, hm, e⟩ := tmod_u64 a1 7 (by omega) (by omega)
  rw [e0, e, wrap64_in (a := 2 + (n : Int)) (by omega) (by omega), wrap64_in (a := 9 + (m : Int)) (by omega) (by omega), show 2 + (n : Int) = ((n + 2 : Nat) : Int) from by omega]
  exact deep_l0 (n + 2) (9 + m) (by omega) (by omega) (by omega) (by omega) (n + 2) 0 300 (by omega) (by omega)
end Go.Proofs.Ytaoeghdpmmeaiaa.Pure
