/- Plain laws on rows of lengths written by symbols, and that the program's steps are these; used by the claims of this seat. -/
import Derived.Test.YtcjijhjdkgjgeaaBits
import Derived.Test.YtcjijhjdkgjgeaaPx0
import Derived.Test.YtcjijhjdkgjgeaaPx46
import Derived.Test.YtcjijhjdkgjgeaaPx61
/- Plain laws on rows of lengths, written by symbols for what is repeated, and read back: no program in sight. -/
namespace RowSteps
/-- The symbol of a value that stands so often behind another one, its bits more, how many these are, how many values it stands for. -/
def stepOf (v ahead : Int) (r : Nat) : Int × Int × Int × Int :=
  if v = 0 ∧ 11 ≤ r then (18, ((min r 138 - 11 : Nat) : Int), 7, ((min r 138 : Nat) : Int)) else if v = 0 ∧ 3 ≤ r then (17, ((r - 3 : Nat) : Int), 3, (r : Int)) else if v ≠ 0 ∧ v = ahead ∧ 3 ≤ r then (16, ((min r 6 - 3 : Nat) : Int), 2, ((min r 6 : Nat) : Int)) else (v, 0, 0, 1)
/-- How many of these values a row begins with. -/
def run (v : Int) : List Int → Nat
  | [] => 0
  | x :: t => if x = v then run v t + 1 else 0
def steps : Nat → Int → List Int → List (Int × Int × Int × Int)
  | 0, _, _ => []
  | _ + 1, _, [] => []
  | f + 1, a, v :: t => stepOf v a (run v t + 1) :: steps f v ((v :: t).drop (stepOf v a (run v t + 1)).2.2.2.toNat)
/-- What a symbol stands for, behind what is there. -/
def vk (acc : List Int) (sym more : Int) : Int × Nat :=
  if sym = 16 then (acc.getD (acc.length - 1) 0, (3 + more).toNat) else if sym = 17 then (0, (3 + more).toNat) else if sym = 18 then (0, (11 + more).toNat) else (sym, 1)
/-- What is true of a symbol that was told. -/
structure Fit (v a : Int) (r : Nat) (s : Int × Int × Int × Int) : Prop where
  sym : 0 ≤ s.1 ∧ s.1 ≤ 18
  runs : ∃ m : Nat, s.2.2.2 = (m : Int) ∧ 1 ≤ m ∧ m ≤ r
  more : ∃ x n : Nat, s.2.1 = (x : Int) ∧ s.2.2.1 = (n : Int) ∧ x < 2 ^ n ∧ n ≤ 7
  wide : s.2.2.1 = if s.1 = 16 then 2 else if s.1 = 17 then 3 else if s.1 = 18 then 7 else 0
  back : s.1 = 16 → v = a
  is : ∀ acc : List Int, (s.1 = 16 → acc.getD (acc.length - 1) 0 = a) → vk acc s.1 s.2.1 = (v, s.2.2.2.toNat)
theorem next_fit (v a : Int) (r : Nat) (hr : 1 ≤ r) (hv : 0 ≤ v ∧ v ≤ 15) : Fit v a r (stepOf v a r) := by
  unfold stepOf
  split
  · rename_i h
    refine ⟨⟨by show (0 : Int) ≤ 18; decide, by show (18 : Int) ≤ 18; decide⟩, ⟨min r 138, rfl, by omega, by omega⟩, ⟨min r 138 - 11, 7, rfl, rfl, by omega, by omega⟩, rfl, fun h => by simp at h, fun acc _ => ?_⟩
    unfold vk
    simp only [show (18 : Int) ≠ 16 from by decide, show (18 : Int) ≠ 17 from by decide, if_false, if_true]
    rw [h.1]
    congr 1
    omega
  · split
    · rename_i h0 h
      have h11 : ¬ 11 ≤ r := fun h' => h0 ⟨h.1, h'⟩
      refine ⟨⟨by show (0 : Int) ≤ 17; decide, by show (17 : Int) ≤ 18; decide⟩, ⟨r, rfl, by omega, by omega⟩, ⟨r - 3, 3, rfl, rfl, by omega, by omega⟩, rfl, fun h => by simp at h, fun acc _ => ?_⟩
      unfold vk
      simp only [show (17 : Int) ≠ 16 from by decide, if_false, if_true]
      rw [h.1]
      congr 1
      omega
    · split
      · rename_i h
        refine ⟨⟨by show (0 : Int) ≤ 16; decide, by show (16 : Int) ≤ 18; decide⟩, ⟨min r 6, rfl, by omega, by omega⟩, ⟨min r 6 - 3, 2, rfl, rfl, by omega, by omega⟩, rfl, fun _ => h.2.1, fun acc hacc => ?_⟩
        unfold vk
        simp only [if_true]
        rw [hacc rfl, h.2.1]
        congr 1
        omega
      · refine ⟨⟨hv.1, by omega⟩, ⟨1, rfl, by omega, hr⟩, ⟨0, 0, rfl, rfl, by decide, by omega⟩, ?_, fun h => by simp only at h; omega, fun acc _ => ?_⟩
        · simp only
          rw [if_neg (by omega), if_neg (by omega), if_neg (by omega)]
        · unfold vk
          simp only
          rw [if_neg (by omega), if_neg (by omega), if_neg (by omega)]
          rfl
end RowSteps
namespace Go.Proofs.Ytcjijhjdkgjgeaa.Glue
open Go.RowKit Go.Proofs.Ytcjijhjdkgjgeaa.P Go.Proofs.YtcjijhjdkgjgeaaW.PrintWords Go.Proofs.YtcjijhjdkgjgeaaW.PrintLast Go.Proofs.YtcjijhjdkgjgeaaW.PrintMore
open RowSteps
end Go.Proofs.Ytcjijhjdkgjgeaa.Glue
