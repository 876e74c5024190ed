/- What the reference's functions on lengths answer: what canon's do; used by the claims of this seat. -/
import Derived.Test.YtaoeghdpmmeaiaaCanonG
import Derived.Test.YtaoeghdpmmeaiaaPx13
import Derived.Test.YtaoeghdpmmeaiaaPx15
import Derived.Test.YtaoeghdpmmeaiaaPx23
import Derived.Test.YtaoeghdpmmeaiaaPx24
import Derived.Test.YtaoeghdpmmeaiaaPx25
namespace Go.Proofs.Ytaoeghdpmmeaiaa.Glue
open Go.RowKit Go.Proofs.Ytaoeghdpmmeaiaa.P Go.Proofs.YtaoeghdpmmeaiaaW.PrintWords Go.Proofs.YtaoeghdpmmeaiaaW.PrintLast Go.Proofs.YtaoeghdpmmeaiaaW.PrintMore
open WP (Row Bytes at_ val)

theorem refin_is (a b c : Int) : wherryref01_in.f a b c = some (decide (b ≤ a ∧ a ≤ c)) := by
  unfold wherryref01_in.f
  by_cases h : a ≥ b
  · rw [if_pos h]; congr 1; simp [h]
  · rw [if_neg h]; congr 1; simp; omega
theorem refright_loop (l : List Int) (hl : l.length ≤ 300) : ∀ (d i k : Nat), i + d = l.length → d < k → wherryref01_RightLengths.l0 k l (i : Int) = some ((l.drop i).all (fun x => decide (0 ≤ x) && decide (x ≤ 15))) := by
  intro d
  induction d with
  | zero =>
    intro i k hi hk
    obtain ⟨k, rfl⟩ : ∃ m, k = m + 1 := ⟨k - 1, by omega⟩
    simp only [wherryref01_RightLengths.l0]
    rw [if_neg (by omega), List.drop_of_length_le (by omega)]
    rfl
  | succ d ih =>
    intro i k hi hk
    obtain ⟨k, rfl⟩ : ∃ m, k = m + 1 := ⟨k - 1, by omega⟩
    have hlt : i < l.length := by omega
    simp only [wherryref01_RightLengths.l0]
    have e : rd l (i : Int) = l[i] := by rw [rd_nat, List.getD_eq_getElem?_getD, List.getElem?_eq_getElem hlt]; rfl
    rw [if_pos (by omega), if_pos (by omega), refin_is, Option.bind_some, wrap64_in (by omega) (by omega), show (i : Int) + 1 = ((i + 1 : Nat) : Int) from by omega, List.drop_eq_getElem_cons hlt, List.all_cons, e]
    by_cases h0 : 0 ≤ l[i] ∧ l[i] ≤ 15
    · rw [if_pos (decide_eq_true h0), ih (i + 1) k (by omega) (by omega), decide_eq_true h0.1, decide_eq_true h0.2]; rfl
    · rw [if_neg (by simpa using h0)]
      by_cases h1 : 0 ≤ l[i]
      · rw [decide_eq_true h1, decide_eq_false (by omega)]; rfl
      · rw [decide_eq_false h1]; rfl
theorem refright_is (l : List Int) (k : Nat) (hk : 302 ≤ k) : wherryref01_RightLengths.f k l = some (rightB l) := by
  unfold wherryref01_RightLengths.f rightB
  by_cases h : l.length ≤ 300
  · rw [if_neg (by omega), decide_eq_true h]
    have := refright_loop l h l.length 0 k (by omega) (by omega)
    simpa using this
  · rw [if_pos (by omega), decide_eq_false h]; rfl
/-- What the first symbols weigh, and how many have a code. -/
def weighAt (l : List Int) (i : Nat) : Nat := weighTo (fun n => (symsTo l i n).length) 15
def allAt (l : List Int) (i : Nat) : Nat := allTo (fun n => (symsTo l i n).length) 15
theorem weigh_put (c : Nat → Nat) (v : Nat) (h0 : 0 < v) : ∀ N, weighTo (fun n => c n + if n = v then 1 else 0) N = weighTo c N + if v ≤ N then 2 ^ (15 - v) else 0
  | 0 => by rw [if_neg (by omega)]; rfl
  | N + 1 => by
    simp only [weighTo]
    rw [weigh_put c v h0 N, Nat.add_mul]
    by_cases h1 : v ≤ N
    · rw [if_pos h1, if_neg (show ¬ N + 1 = v by omega), if_pos (show v ≤ N + 1 by omega)]; omega
    · rw [if_neg h1]
      by_cases h2 : N + 1 = v
      · rw [if_pos h2, if_pos (show v ≤ N + 1 by omega), h2]; omega
      · rw [if_neg h2, if_neg (show ¬ v ≤ N + 1 by omega)]; omega
theorem all_put (c : Nat → Nat) (v : Nat) (h0 : 0 < v) : ∀ N, allTo (fun n => c n + if n = v then 1 else 0) N = allTo c N + if v ≤ N then 1 else 0
  | 0 => by rw [if_neg (by omega)]; rfl
  | N + 1 => by
    simp only [allTo]
    rw [all_put c v h0 N]
    by_cases h1 : v ≤ N
    · rw [if_pos h1, if_neg (show ¬ N + 1 = v by omega), if_pos (show v ≤ N + 1 by omega)]; omega
    · rw [if_neg h1]
      by_cases h2 : N + 1 = v
      · rw [if_pos h2, if_pos (show v ≤ N + 1 by omega)]; omega
      · rw [if_neg h2, if_neg (show ¬ v ≤ N + 1 by omega)]; omega
theorem rank_len (l : List Int) (i n : Nat) : (symsTo l (i + 1) n).length = (symsTo l i n).length + if l.getD i 0 = (n : Int) ∧ 0 < n then 1 else 0 := by
  rw [symsTo_step, List.length_append]
  congr 1
  split <;> rfl
theorem rank_put {l : List Int} {i v : Nat} (hv : l.getD i 0 = (v : Int)) (h0 : 0 < v) : (fun n => (symsTo l (i + 1) n).length) = fun n => (symsTo l i n).length + if n = v then 1 else 0 := by
  funext n
  rw [rank_len, hv]
  congr 1
  by_cases h : n = v
  · rw [if_pos h, if_pos (by omega)]
  · rw [if_neg h, if_neg (by omega)]
theorem rank_keep {l : List Int} {i : Nat} (hv : l.getD i 0 = 0) : (fun n => (symsTo l (i + 1) n).length) = fun n => (symsTo l i n).length := by
  funext n
  rw [rank_len, hv, if_neg (by omega)]
  rfl
theorem weighAt_put {l : List Int} {i v : Nat} (hv : l.getD i 0 = (v : Int)) (h0 : 0 < v) (h15 : v ≤ 15) : weighAt l (i + 1) = weighAt l i + 2 ^ (15 - v) ∧ allAt l (i + 1) = allAt l i + 1 := by
  unfold weighAt allAt
  rw [rank_put hv h0, weigh_put _ v h0, all_put _ v h0, if_pos h15, if_pos h15]
  exact ⟨rfl, rfl⟩
theorem weighAt_keep {l : List Int} {i : Nat} (hv : l.getD i 0 = 0) : weighAt l (i + 1) = weighAt l i ∧ allAt l (i + 1) = allAt l i := by
  unfold weighAt allAt
  rw [rank_keep hv]
  exact ⟨rfl, rfl⟩
theorem allAt_le (l : List Int) (i : Nat) : allAt l i ≤ 15 * i := allTo_le _ i (fun n => symsTo_len l i n) 15
theorem bound_at {l : List Int} (hr : rightB l = true) {i : Nat} (hi : i < l.length) : ∃ v : Nat, l.getD i 0 = (v : Int) ∧ v ≤ 15 := by
  have := ((rightB_iff l).1 hr).2 _ (getD_mem hi)
  exact ⟨(l.getD i 0).toNat, by omega, by omega⟩
end Go.Proofs.Ytaoeghdpmmeaiaa.Glue
