/- TreeLeast holds: of up to three weights, of equal ones, the lengths are known; other lengths that make codes cost no less; at every three ints and all lists of ints. No condition. -/
import Derived.Test.YtaoeghdpmmeaiaaTreeKraft
import Derived.Test.YtaoeghdpmmeaiaaPx3
import Derived.Test.YtaoeghdpmmeaiaaPx4
import Derived.Test.YtaoeghdpmmeaiaaPx10
import Derived.Test.YtaoeghdpmmeaiaaPx12
import Derived.Test.YtaoeghdpmmeaiaaPx22
import Derived.Test.YtaoeghdpmmeaiaaPx24
namespace Go.Proofs.Ytaoeghdpmmeaiaa.Pure
open Go.RowKit Go.Proofs.Ytaoeghdpmmeaiaa.P Go.Proofs.Ytaoeghdpmmeaiaa.Glue Go.Proofs.YtaoeghdpmmeaiaaW.PrintWords Go.Proofs.YtaoeghdpmmeaiaaW.PrintLast Go.Proofs.YtaoeghdpmmeaiaaW.PrintMore
set_option linter.unusedVariables false
set_option linter.unusedSimpArgs false

theorem three_weigh {a b c : Int} (ha : 0 ≤ a ∧ a ≤ 1000) (hb : 0 ≤ b ∧ b ≤ 1000) (hc : 0 ≤ c ∧ c ≤ 1000) : weighs [a, b, c] = true := by
  refine (weighs_iff _).2 ⟨by simp, fun x hx => ?_⟩
  simp only [List.mem_cons, List.not_mem_nil, or_false] at hx
  rcases hx with rfl | rfl | rfl <;> omega
theorem three_run (x y z : Int × List Int) (out : List Int) : qRun 3 [x, y, z] out = if x.1 + y.1 < z.1 then bump (bump out (x.2 ++ y.2)) ((x.2 ++ y.2) ++ z.2) else if z.1 < x.1 + y.1 then bump (bump out (x.2 ++ y.2)) (z.2 ++ (x.2 ++ y.2)) else bump (bump out (x.2 ++ y.2)) (z.2 ++ (x.2 ++ y.2)) := by
  show qRun 2 (if x.1 + y.1 < z.1 then [(x.1 + y.1, x.2 ++ y.2), z] else [z, (x.1 + y.1, x.2 ++ y.2)]) _ = _
  by_cases h : x.1 + y.1 < z.1
  · rw [if_pos h, if_pos h]; rfl
  · rw [if_neg h, if_neg h]
    split <;> rfl
/-- The lengths of three weights: the greatest one has one bit, the others two. -/
theorem three_once {a b c : Int} (ha : 1 ≤ a ∧ a ≤ 1000) (hb : 1 ≤ b ∧ b ≤ 1000) (hc : 1 ≤ c ∧ c ≤ 1000) :
    (onceOf [a, b, c] = [1, 2, 2] ∧ b ≤ a ∧ c ≤ a) ∨ (onceOf [a, b, c] = [2, 1, 2] ∧ a ≤ b ∧ c ≤ b) ∨ (onceOf [a, b, c] = [2, 2, 1] ∧ a ≤ c ∧ b ≤ c) := by
  have hw := three_weigh (a := a) (b := b) (c := c) (by omega) (by omega) (by omega)
  have hp : pos [a, b, c] = 3 := by
    unfold pos
    simp only [List.filter_cons, List.filter_nil]
    rw [if_pos (by simp; omega), if_pos (by simp; omega), if_pos (by simp; omega)]
    rfl
  have hl : leafs [a, b, c] 3 = [(a, [0]), (b, [1]), (c, [2])] := by
    rw [leafs_succ, leafs_succ, leafs_succ]
    rw [if_pos (show 0 < [a, b, c].getD 0 0 from by show 0 < a; omega), if_pos (show 0 < [a, b, c].getD 1 0 from by show 0 < b; omega), if_pos (show 0 < [a, b, c].getD 2 0 from by show 0 < c; omega)]
    rfl
  have hs : sortQ [(a, [0]), (b, [1]), (c, [2])] = insQ (c, [2]) (if b < a then [(b, [1]), (a, [0])] else [(a, [0]), (b, [1])]) := rfl
  rw [once_is _ hw (by omega), hp, show [a, b, c].length = 3 from rfl, hl, hs]
  have z3 : List.replicate 3 (0 : Int) = [0, 0, 0] := rfl
  rw [z3]
  by_cases h1 : b < a
  · rw [if_pos h1]
    unfold insQ
    by_cases h2 : c < b
    · rw [if_pos h2, three_run]
      refine Or.inl ⟨?_, by omega, by omega⟩
      split <;> (try split) <;> (dsimp only; decide +kernel)
    · rw [if_neg h2]
      unfold insQ
      by_cases h3 : c < a
      · rw [if_pos h3, three_run]
        refine Or.inl ⟨?_, by omega, by omega⟩
        split <;> (try split) <;> (dsimp only; decide +kernel)
      · rw [if_neg h3]
        show _ ∨ _ ∨ (qRun 3 [(b, [1]), (a, [0]), (c, [2])] _ = _ ∧ _)
        refine Or.inr (Or.inr ⟨?_, by omega, by omega⟩)
        rw [three_run]
        split <;> (try split) <;> (dsimp only; decide +kernel)
  · rw [if_neg h1]
    unfold insQ
    by_cases h2 : c < a
    · rw [if_pos h2, three_run]
      refine Or.inr (Or.inl ⟨?_, by omega, by omega⟩)
      split <;> (try split) <;> (dsimp only; decide +kernel)
    · rw [if_neg h2]
      unfold insQ
      by_cases h3 : c < b
      · rw [if_pos h3, three_run]
        refine Or.inr (Or.inl ⟨?_, by omega, by omega⟩)
        split <;> (try split) <;> (dsimp only; decide +kernel)
      · rw [if_neg h3]
        show _ ∨ _ ∨ (qRun 3 [(a, [0]), (b, [1]), (c, [2])] _ = _ ∧ _)
        refine Or.inr (Or.inr ⟨?_, by omega, by omega⟩)
        rw [three_run]
        split <;> (try split) <;> (dsimp only; decide +kernel)
theorem mx_cases (a b : Int) : (mx a b = a ∧ b ≤ a) ∨ (mx a b = b ∧ a ≤ b) := by
  unfold mx
  split
  · exact Or.inr ⟨rfl, by omega⟩
  · exact Or.inl ⟨rfl, by omega⟩
def k3 (x y z : Nat) : Bool := x == 0 || y == 0 || z == 0 || !(2 ^ (15 - x) + (2 ^ (15 - y) + 2 ^ (15 - z)) == 32768) || (x == 1 && y == 2 && z == 2) || (x == 2 && y == 1 && z == 2) || (x == 2 && y == 2 && z == 1)
theorem k3_all : ∀ x y z : Fin 16, k3 x.val y.val z.val = true := by decide +kernel
theorem kraft3 (x y z : Nat) (hx : x < 16) (hy : y < 16) (hz : z < 16) (h1 : 1 ≤ x) (h2 : 1 ≤ y) (h3 : 1 ≤ z) (h : 2 ^ (15 - x) + (2 ^ (15 - y) + 2 ^ (15 - z)) = 32768) : (x = 1 ∧ y = 2 ∧ z = 2) ∨ (x = 2 ∧ y = 1 ∧ z = 2) ∨ (x = 2 ∧ y = 2 ∧ z = 1) := by
  have := k3_all ⟨x, hx⟩ ⟨y, hy⟩ ⟨z, hz⟩
  unfold k3 at this
  simp only at this
  rw [h] at this
  simp at this
  omega
theorem three_makes {x y z : Int} (hx : 1 ≤ x) (hy : 1 ≤ y) (hz : 1 ≤ z) (h : canon_Check.f [x, y, z] = some 0) : (x = 1 ∧ y = 2 ∧ z = 2) ∨ (x = 2 ∧ y = 1 ∧ z = 2) ∨ (x = 2 ∧ y = 2 ∧ z = 1) := by
  obtain ⟨h1, h2⟩ := (check_iff _).1 h
  obtain ⟨_, h3⟩ := (rightB_iff _).1 h1
  have bx := h3 x (by simp)
  have by' := h3 y (by simp)
  have bz := h3 z (by simp)
  unfold makesB at h2
  simp only [Bool.or_eq_true, beq_iff_eq, Bool.and_eq_true] at h2
  have hA : cA [x, y, z] = 3 := by
    rw [cA_sum _ h3]
    simp only [List.map_cons, List.map_nil, List.sum_cons, List.sum_nil]
    rw [if_pos (by omega), if_pos (by omega), if_pos (by omega)]
    rfl
  have hW : cW [x, y, z] = 32768 := by omega
  rw [cW_sum _ h3] at hW
  simp only [List.map_cons, List.map_nil, List.sum_cons, List.sum_nil, wTerm] at hW
  rw [if_pos (by omega), if_pos (by omega), if_pos (by omega)] at hW
  have := kraft3 x.toNat y.toNat z.toNat (by omega) (by omega) (by omega) (by omega) (by omega) (by omega) (by omega)
  omega
theorem least_j1 (l w : List Int) (n : Int) (k : Nat) (hk : 50 ≤ k) (b : Bool) (h : b = false → ∃ m, tree_Cost.f w l = some (m, 0) ∧ m ≥ n) : wherrylaw03_TreeLeast.j1 k l w n b = some true := by
  obtain ⟨k, rfl⟩ : ∃ m, k = m + 1 := ⟨k - 1, by omega⟩
  simp only [wherrylaw03_TreeLeast.j1]
  cases b with
  | true =>
    rw [if_pos rfl, wakes03_is k (by omega)]
    rfl
  | false =>
    obtain ⟨m, h1, h2⟩ := h rfl
    rw [if_neg (by decide), h1, Option.bind_some]
    dsimp only
    rw [if_pos (by trivial), if_pos h2, wakes03_is k (by omega)]
    rfl
theorem least_j0 (l : List Int) {a b c : Int} (ha : 1 ≤ a ∧ a ≤ 1000) (hb : 1 ≤ b ∧ b ≤ 1000) (hc : 1 ≤ c ∧ c ≤ 1000) (n : Int) (hn : n = a + b + c + a + b + c - mx a (mx b c)) (k : Nat) (hk : 60 ≤ k) : wherrylaw03_TreeLeast.j0 k l [a, b, c] n false = some true := by
  obtain ⟨k, rfl⟩ : ∃ m, k = m + 1 := ⟨k - 1, by omega⟩
  have yes := least_j1 l [a, b, c] n k (by omega) true (fun h => by simp at h)
  simp only [wherrylaw03_TreeLeast.j0]
  rw [if_neg (by decide)]
  by_cases hl : (l.length : Int) = 3
  · rw [if_pos hl]
    match l, hl with
    | [x, y, z], _ =>
      rw [if_pos (by simp), if_pos (show (1 : Int) < ([x, y, z].length : Int) from by simp), if_pos (show (2 : Int) < ([x, y, z].length : Int) from by simp)]
      rw [show rd [x, y, z] 0 = x from rfl, show rd [x, y, z] 1 = y from rfl, show rd [x, y, z] 2 = z from rfl]
      by_cases hx : x < 1
      · rw [if_pos hx]; exact yes
      rw [if_neg hx]
      by_cases hy : y < 1
      · rw [if_pos hy]; exact yes
      rw [if_neg hy]
      by_cases hz : z < 1
      · rw [if_pos hz]; exact yes
      rw [if_neg hz]
      obtain ⟨e, he, _⟩ := check_some [x, y, z]
      rw [he, Option.bind_some]
      refine least_j1 _ _ n k (by omega) _ fun hb0 => ?_
      have he0 : e = 0 := by simpa using hb0
      subst he0
      have hm := three_makes (by omega) (by omega) (by omega) he
      have hr := (check_right0 he).2
      refine ⟨costOf [a, b, c] [x, y, z], cost_is rfl (three_weigh (by omega) (by omega) (by omega)) ?_, ?_⟩
      · simp only [List.any_cons, List.any_nil, badLen, Bool.or_false]
        have r1 := hr x (by simp)
        have r2 := hr y (by simp)
        have r3 := hr z (by simp)
        simp
        omega
      · subst hn
        simp only [costOf]
        have m1 := mx_cases b c
        have m2 := mx_cases a (mx b c)
        rcases hm with ⟨rfl, rfl, rfl⟩ | ⟨rfl, rfl, rfl⟩ | ⟨rfl, rfl, rfl⟩ <;> omega
  · rw [if_neg hl]; exact yes
theorem TreeLeast : wherrylaw03_TreeLeast.Pure := by
  intro a0 a1 a2 l3 _ _ _ _ _ _
  refine ⟨300, ?_⟩
  unfold wherrylaw03_TreeLeast.f
  obtain ⟨n0, hn0, e0⟩ := tmod_u64 a0 1000 (by omega) (by omega)
  obtain ⟨n1, hn1, e1⟩ := tmod_u64 a1 1000 (by omega) (by omega)
  obtain ⟨n2, hn2, e2⟩ := tmod_u64 a2 1000 (by omega) (by omega)
  rw [e0, e1, e2, wrap64_in (a := 1 + (n0 : Int)) (by omega) (by omega), wrap64_in (a := 1 + (n1 : Int)) (by omega) (by omega), wrap64_in (a := 1 + (n2 : Int)) (by omega) (by omega)]
  obtain ⟨a, ha⟩ : ∃ a : Int, a = 1 + n0 := ⟨_, rfl⟩
  obtain ⟨b, hb⟩ : ∃ b : Int, b = 1 + n1 := ⟨_, rfl⟩
  obtain ⟨c, hc⟩ : ∃ c : Int, c = 1 + n2 := ⟨_, rfl⟩
  rw [← ha, ← hb, ← hc]
  have ra : 1 ≤ a ∧ a ≤ 1000 := by omega
  have rb : 1 ≤ b ∧ b ≤ 1000 := by omega
  have rc : 1 ≤ c ∧ c ≤ 1000 := by omega
  clear ha hb hc e0 e1 e2
  have m1 := mx_cases b c
  have m2 := mx_cases a (mx b c)
  have hw := three_weigh (a := a) (b := b) (c := c) (by omega) (by omega) (by omega)
  have key : ∃ l, tree_Lengths.f [a, b, c] 15 = some (l, 0) ∧ tree_Cost.f [a, b, c] l = some (a + b + c + a + b + c - mx a (mx b c), 0) := by
    have h3 := three_once ra rb rc
    refine ⟨onceOf [a, b, c], lens_flat hw ?_, ?_⟩
    · intro v hv
      rcases h3 with ⟨h, _⟩ | ⟨h, _⟩ | ⟨h, _⟩ <;> (rw [h] at hv; simp at hv; omega)
    · rcases h3 with ⟨h, _⟩ | ⟨h, _⟩ | ⟨h, _⟩ <;> (rw [h, cost_is (w := [a, b, c]) (by simp) hw (by decide)]; simp only [costOf]; congr 2; omega)
  have hone : tree_Lengths.f [0, a, 0] 15 = some ([0, 1, 0], 0) := by
    have hw1 := three_weigh (a := 0) (b := a) (c := 0) (by omega) (by omega) (by omega)
    have hp : pos [0, a, 0] = 1 := by
      unfold pos
      simp only [List.filter_cons, List.filter_nil]
      rw [if_neg (by simp), if_pos (by simp; omega), if_neg (by simp)]
      rfl
    obtain ⟨j, j1, j2, j3, j4⟩ := once_single _ hp
    have hj : j = 1 := (j3 1 (by simp) (by show 0 < a; omega)).symm
    subst hj
    have e : onceOf [0, a, 0] = [0, 1, 0] := j4
    rw [lens_flat hw1 (by rw [e]; intro v hv; simp at hv; omega), e]
  obtain ⟨l, hl, hc⟩ := key
  rw [Option.bind_some, hl, Option.bind_some]
  dsimp only
  rw [hc, Option.bind_some]
  dsimp only
  rw [hone, Option.bind_some]
  dsimp only
  rw [if_pos (by trivial), if_pos (by trivial), if_pos (by trivial), keepInts_is _ _ (by simp) 300 (by simp), decide_eq_true rfl, Option.bind_some, if_pos (by trivial)]
  rw [wrap64_in (a := a + b) (by omega) (by omega), wrap64_in (a := a + b + c) (by omega) (by omega), wrap64_in (a := a + b + c + a) (by omega) (by omega), wrap64_in (a := a + b + c + a + b) (by omega) (by omega), wrap64_in (a := a + b + c + a + b + c) (by omega) (by omega), wrap64_in (a := a + b + c + a + b + c - mx a (mx b c)) (by omega) (by omega)]
  rw [show (a + b + c + a + b + c - mx a (mx b c) != a + b + c + a + b + c - mx a (mx b c)) = false from by simp]
  exact least_j0 l3 ra rb rc _ rfl 300 (by omega)
end Go.Proofs.Ytaoeghdpmmeaiaa.Pure
