/- Plain laws on rows of lengths written by symbols, and that the program's steps are these; used by the claims of this seat. -/
import Derived.Test.YtlffpaploefljaaBits
import Derived.Test.YtlffpaploefljaaPx0
import Derived.Test.YtlffpaploefljaaPx10
import Derived.Test.YtlffpaploefljaaPx26
/- Plain laws on rows of lengths, written by symbols for what is repeated, and read back: no program in sight. -/
namespace RowSteps
/-- The symbol of a value that stands so often behind another one, its bits more, how many these are, how many values it stands for. -/
def stepOf (v ahead : Int) (r : Nat) : Int × Int × Int × Int :=
  if v = 0 ∧ 11 ≤ r then (18, ((min r 138 - 11 : Nat) : Int), 7, ((min r 138 : Nat) : Int)) else if v = 0 ∧ 3 ≤ r then (17, ((r - 3 : Nat) : Int), 3, (r : Int)) else if v ≠ 0 ∧ v = ahead ∧ 3 ≤ r then (16, ((min r 6 - 3 : Nat) : Int), 2, ((min r 6 : Nat) : Int)) else (v, 0, 0, 1)
/-- How many of these values a row begins with. -/
def run (v : Int) : List Int → Nat
  | [] => 0
  | x :: t => if x = v then run v t + 1 else 0
def steps : Nat → Int → List Int → List (Int × Int × Int × Int)
  | 0, _, _ => []
  | _ + 1, _, [] => []
  | f + 1, a, v :: t => stepOf v a (run v t + 1) :: steps f v ((v :: t).drop (stepOf v a (run v t + 1)).2.2.2.toNat)
/-- What a symbol stands for, behind what is there. -/
def vk (acc : List Int) (sym more : Int) : Int × Nat :=
  if sym = 16 then (acc.getD (acc.length - 1) 0, (3 + more).toNat) else if sym = 17 then (0, (3 + more).toNat) else if sym = 18 then (0, (11 + more).toNat) else (sym, 1)
def put1 (acc : List Int) (s : Int × Int × Int × Int) : List Int := acc ++ List.replicate (vk acc s.1 s.2.1).2 (vk acc s.1 s.2.1).1
theorem run_le (v : Int) : ∀ t, run v t ≤ t.length
  | [] => Nat.le_refl _
  | x :: t => by
    simp only [run, List.length_cons]
    have := run_le v t
    split <;> omega
theorem run_take (v : Int) : ∀ (t : List Int) (m : Nat), m ≤ run v t → t = List.replicate m v ++ t.drop m
  | t, 0, _ => by simp
  | [], m + 1, h => by simp [run] at h
  | x :: t, m + 1, h => by
    simp only [run] at h
    split at h
    · rename_i hx
      subst hx
      rw [List.replicate_succ, List.drop_succ_cons, List.cons_append, ← run_take x t m (by omega)]
    · omega
/-- What is true of a symbol that was told. -/
structure Fit (v a : Int) (r : Nat) (s : Int × Int × Int × Int) : Prop where
  sym : 0 ≤ s.1 ∧ s.1 ≤ 18
  runs : ∃ m : Nat, s.2.2.2 = (m : Int) ∧ 1 ≤ m ∧ m ≤ r
  more : ∃ x n : Nat, s.2.1 = (x : Int) ∧ s.2.2.1 = (n : Int) ∧ x < 2 ^ n ∧ n ≤ 7
  wide : s.2.2.1 = if s.1 = 16 then 2 else if s.1 = 17 then 3 else if s.1 = 18 then 7 else 0
  back : s.1 = 16 → v = a
  is : ∀ acc : List Int, (s.1 = 16 → acc.getD (acc.length - 1) 0 = a) → vk acc s.1 s.2.1 = (v, s.2.2.2.toNat)
theorem next_fit (v a : Int) (r : Nat) (hr : 1 ≤ r) (hv : 0 ≤ v ∧ v ≤ 15) : Fit v a r (stepOf v a r) := by
  unfold stepOf
  split
  · rename_i h
    refine ⟨⟨by show (0 : Int) ≤ 18; decide, by show (18 : Int) ≤ 18; decide⟩, ⟨min r 138, rfl, by omega, by omega⟩, ⟨min r 138 - 11, 7, rfl, rfl, by omega, by omega⟩, rfl, fun h => by simp at h, fun acc _ => ?_⟩
    unfold vk
    simp only [show (18 : Int) ≠ 16 from by decide, show (18 : Int) ≠ 17 from by decide, if_false, if_true]
    rw [h.1]
    congr 1
    omega
  · split
    · rename_i h0 h
      have h11 : ¬ 11 ≤ r := fun h' => h0 ⟨h.1, h'⟩
      refine ⟨⟨by show (0 : Int) ≤ 17; decide, by show (17 : Int) ≤ 18; decide⟩, ⟨r, rfl, by omega, by omega⟩, ⟨r - 3, 3, rfl, rfl, by omega, by omega⟩, rfl, fun h => by simp at h, fun acc _ => ?_⟩
      unfold vk
      simp only [show (17 : Int) ≠ 16 from by decide, if_false, if_true]
      rw [h.1]
      congr 1
      omega
    · split
      · rename_i h
        refine ⟨⟨by show (0 : Int) ≤ 16; decide, by show (16 : Int) ≤ 18; decide⟩, ⟨min r 6, rfl, by omega, by omega⟩, ⟨min r 6 - 3, 2, rfl, rfl, by omega, by omega⟩, rfl, fun _ => h.2.1, fun acc hacc => ?_⟩
        unfold vk
        simp only [if_true]
        rw [hacc rfl, h.2.1]
        congr 1
        omega
      · refine ⟨⟨hv.1, by omega⟩, ⟨1, rfl, by omega, hr⟩, ⟨0, 0, rfl, rfl, by decide, by omega⟩, ?_, fun h => by simp only at h; omega, fun acc _ => ?_⟩
        · simp only
          rw [if_neg (by omega), if_neg (by omega), if_neg (by omega)]
        · unfold vk
          simp only
          rw [if_neg (by omega), if_neg (by omega), if_neg (by omega)]
          rfl
/-- What stands ahead: nothing, or such a value. -/
def Ahead (acc : List Int) (a : Int) : Prop := a = -1 ∨ (0 < acc.length ∧ acc.getD (acc.length - 1) 0 = a)
theorem last_rep (acc : List Int) (v : Int) (m : Nat) (h : 1 ≤ m) : 0 < (acc ++ List.replicate m v).length ∧ (acc ++ List.replicate m v).getD ((acc ++ List.replicate m v).length - 1) 0 = v := by
  refine ⟨by simp; omega, ?_⟩
  rw [List.getD_eq_getElem?_getD, List.length_append, List.length_replicate, List.getElem?_append_right (by omega), List.getElem?_replicate]
  rw [if_pos (by omega)]
  rfl
theorem steps_put (v : Int) (t acc : List Int) (a : Int) (hv : 0 ≤ v ∧ v ≤ 15) (ha : Ahead acc a) :
    ∃ m : Nat, (stepOf v a (run v t + 1)).2.2.2 = (m : Int) ∧ 1 ≤ m ∧ m ≤ t.length + 1 ∧ put1 acc (stepOf v a (run v t + 1)) = acc ++ List.replicate m v ∧ v :: t = List.replicate m v ++ (v :: t).drop m := by
  have hf := next_fit v a (run v t + 1) (by omega) hv
  obtain ⟨m, hm, h1, h2⟩ := hf.runs
  refine ⟨m, hm, h1, Nat.le_trans h2 (by have := run_le v t; omega), ?_, ?_⟩
  · unfold put1
    rw [hf.is acc (fun h16 => by
      rcases ha with ha | ha
      · have := hf.back h16; omega
      · exact ha.2)]
    rw [hm]
    rfl
  · obtain ⟨q, rfl⟩ : ∃ q, m = q + 1 := ⟨m - 1, by omega⟩
    rw [List.replicate_succ, List.cons_append, List.drop_succ_cons, ← run_take v t q (by omega)]
end RowSteps
namespace Go.Proofs.Ytlffpaploefljaa.Glue
open Go.RowKit Go.Proofs.Ytlffpaploefljaa.P Go.Proofs.YtlffpaploefljaaW.PrintWords Go.Proofs.YtlffpaploefljaaW.PrintLast Go.Proofs.YtlffpaploefljaaW.PrintMore
open RowSteps
/-- A step as the program tells it. -/
def toS (s : Int × Int × Int × Int) : S76 := ⟨s.1, s.2.1, s.2.2.1, s.2.2.2⟩
theorem run_get (v : Int) : ∀ (t : List Int) (j : Nat), j < run v t → t.getD j 0 = v
  | [], j, h => by simp [run] at h
  | x :: t, j, h => by
    simp only [run] at h
    split at h
    · rename_i hx
      match j, h with
      | 0, _ => exact hx
      | j + 1, h => rw [List.getD_cons_succ]; exact run_get v t j (by omega)
    · omega
theorem run_stop (v : Int) : ∀ (t : List Int), run v t < t.length → t.getD (run v t) 0 ≠ v
  | [], h => by simp [run] at h
  | x :: t, h => by
    simp only [run] at h ⊢
    split
    · rename_i hx
      rw [if_pos hx, List.length_cons] at h
      rw [List.getD_cons_succ]
      exact run_stop v t (by omega)
    · exact fun h' => by rename_i hx; exact hx h'
theorem mn_nat (a b : Nat) : mn (a : Int) (b : Int) = ((min a b : Nat) : Int) := by unfold mn; omega
theorem next_is (v a : Int) (r k : Nat) (hr : 1 ≤ r) (hm : r ≤ 1000) (hk : 3 ≤ k) : shrink_next.f k v a (r : Int) = some (stepOf v a r) := by
  obtain ⟨k, rfl⟩ : ∃ m, k = m + 3 := ⟨k - 3, by omega⟩
  have h138 : mn (r : Int) 138 = ((min r 138 : Nat) : Int) := mn_nat r 138
  have h6 : mn (r : Int) 6 = ((min r 6 : Nat) : Int) := mn_nat r 6
  unfold shrink_next.f stepOf
  by_cases hv : v = 0
  · rw [if_pos hv]
    simp only [shrink_next.j0]
    by_cases h11 : 11 ≤ r
    · rw [show decide ((r : Int) ≥ 11) = true from decide_eq_true (by omega), if_pos rfl, if_pos ⟨hv, h11⟩, h138, wrap64_in (by omega) (by omega), show ((min r 138 : Nat) : Int) - 11 = ((min r 138 - 11 : Nat) : Int) from by omega]
    · rw [show decide ((r : Int) ≥ 11) = false from decide_eq_false (by omega), if_neg (by decide), if_pos hv, if_neg (fun h => h11 h.2)]
      simp only [shrink_next.j1]
      by_cases h3 : 3 ≤ r
      · rw [show decide ((r : Int) ≥ 3) = true from decide_eq_true (by omega), if_pos rfl, if_pos ⟨hv, h3⟩, wrap64_in (by omega) (by omega), show (r : Int) - 3 = ((r - 3 : Nat) : Int) from by omega]
      · rw [show decide ((r : Int) ≥ 3) = false from decide_eq_false (by omega), if_neg (by decide), if_pos hv, if_neg (fun h => h3 h.2), if_neg (fun h => h.1 hv)]
  · rw [if_neg hv]
    simp only [shrink_next.j0, Bool.false_eq_true, if_false]
    rw [if_neg hv]
    simp only [shrink_next.j1, Bool.false_eq_true, if_false]
    rw [if_neg hv, if_neg (show ¬ (v = 0 ∧ 11 ≤ r) from fun h => hv h.1), if_neg (show ¬ (v = 0 ∧ 3 ≤ r) from fun h => hv h.1)]
    by_cases ha : v = a
    · rw [if_pos ha]
      by_cases h3 : 3 ≤ r
      · rw [if_pos (by omega), if_pos (show v ≠ 0 ∧ v = a ∧ 3 ≤ r from ⟨hv, ha, h3⟩), h6, wrap64_in (by omega) (by omega), show ((min r 6 : Nat) : Int) - 3 = ((min r 6 - 3 : Nat) : Int) from by omega]
      · rw [if_neg (by omega), if_neg (show ¬ (v ≠ 0 ∧ v = a ∧ 3 ≤ r) from fun h => h3 h.2.2)]
    · rw [if_neg ha, if_neg (show ¬ (v ≠ 0 ∧ v = a ∧ 3 ≤ r) from fun h => ha h.2.1)]
theorem drop_cons {l : List Int} {i : Nat} (hi : i < l.length) : l.drop i = l.getD i 0 :: l.drop (i + 1) := by
  rw [List.drop_eq_getElem_cons hi, List.getD_eq_getElem?_getD, List.getElem?_eq_getElem hi]; rfl
theorem getD_drop (l : List Int) (i j : Nat) : (l.drop i).getD j 0 = l.getD (i + j) 0 := by
  rw [List.getD_eq_getElem?_getD, List.getD_eq_getElem?_getD, List.getElem?_drop]
theorem scan (l : List Int) (hl : l.length ≤ 500) (out : List S76) (ho : out.length < 4398046511104) (a : Int) (i : Nat) (hi : i < l.length) (k : Nat) : ∀ (d r : Nat), 1 ≤ r → r + d = run (l.getD i 0) (l.drop (i + 1)) + 1 →
    shrink_steps.l1 (k + d + 1) l out a (i : Int) (r : Int) = (shrink_next.f k (l.getD i 0) a ((run (l.getD i 0) (l.drop (i + 1)) + 1 : Nat) : Int)).bind fun bt => shrink_steps.l0 k l (out ++ [(⟨bt.1, bt.2.1, bt.2.2.1, bt.2.2.2⟩ : S76)]) (l.getD i 0) (wrap64 ((i : Int) + bt.2.2.2)) := by
  intro d
  have hrun := run_le (l.getD i 0) (l.drop (i + 1))
  rw [List.length_drop] at hrun
  induction d with
  | zero =>
    intro r h1 hr
    obtain rfl : r = run (l.getD i 0) (l.drop (i + 1)) + 1 := by omega
    simp only [shrink_steps.l1, if_pos ho]
    rw [wrap64_in (a := (i : Int) + _) (by omega) (by omega), rd_nat]
    by_cases hend : i + (run (l.getD i 0) (l.drop (i + 1)) + 1) < l.length
    · rw [if_pos (by omega), if_pos (by omega), if_pos (by omega), if_pos (by omega)]
      have hs := run_stop (l.getD i 0) (l.drop (i + 1)) (by rw [List.length_drop]; omega)
      rw [getD_drop] at hs
      rw [show (i : Int) + ((run (l.getD i 0) (l.drop (i + 1)) + 1 : Nat) : Int) = ((i + 1 + run (l.getD i 0) (l.drop (i + 1)) : Nat) : Int) from by omega, rd_nat, if_neg hs]
    · rw [if_neg (by omega), if_pos (by omega), if_pos (by omega)]
  | succ d ih =>
    intro r h1 hr
    have hg := run_get (l.getD i 0) (l.drop (i + 1)) (r - 1) (by omega)
    rw [getD_drop] at hg
    rw [show k + (d + 1) + 1 = (k + d + 1) + 1 from by omega]
    rw [shrink_steps.l1]
    rw [wrap64_in (a := (i : Int) + (r : Int)) (by omega) (by omega), if_pos (by omega), if_pos (by omega), if_pos (by omega), if_pos (by omega), rd_nat, show (i : Int) + (r : Int) = ((i + 1 + (r - 1) : Nat) : Int) from by omega, rd_nat, if_pos hg, wrap64_in (by omega) (by omega), show (r : Int) + 1 = ((r + 1 : Nat) : Int) from by omega]
    exact ih (r + 1) (by omega) (by omega)
theorem steps_loop (l : List Int) (hl : l.length ≤ 500) (hx : ∀ x ∈ l, 0 ≤ x ∧ x ≤ 15) : ∀ (f i : Nat) (a : Int) (out : List S76) (k : Nat), i ≤ l.length → l.length - i ≤ f → out.length + f ≤ 100000 → (l.length + 2) * f + 5 ≤ k →
    shrink_steps.l0 k l out a (i : Int) = some (out ++ (steps f a (l.drop i)).map toS) := by
  intro f
  induction f with
  | zero =>
    intro i a out k hi hf ho hk
    obtain rfl : i = l.length := by omega
    obtain ⟨k, rfl⟩ : ∃ m, k = m + 1 := ⟨k - 1, by omega⟩
    simp only [shrink_steps.l0]
    rw [if_neg (by omega)]
    simp [steps]
  | succ f ih =>
    intro i a out k hi hf ho hk
    by_cases hlt : i < l.length
    · have hrun := run_le (l.getD i 0) (l.drop (i + 1))
      rw [List.length_drop] at hrun
      have hmul : (l.length + 2) * (f + 1) = (l.length + 2) * f + (l.length + 2) := Nat.mul_succ _ _
      obtain ⟨k', hk'⟩ : ∃ k', k = k' + run (l.getD i 0) (l.drop (i + 1)) + 1 + 1 := ⟨k - (run (l.getD i 0) (l.drop (i + 1)) + 2), by omega⟩
      subst hk'
      have hmem : l.getD i 0 ∈ l := by rw [List.getD_eq_getElem?_getD, List.getElem?_eq_getElem hlt]; exact List.getElem_mem hlt
      obtain ⟨m, hm, h1, h2, _, h4⟩ := steps_put (l.getD i 0) (l.drop (i + 1)) [] (-1) (hx _ hmem) (.inl rfl)
      have hfit := next_fit (l.getD i 0) a (run (l.getD i 0) (l.drop (i + 1)) + 1) (by omega) (hx _ hmem)
      obtain ⟨m, hm, h1, h2⟩ := hfit.runs
      rw [shrink_steps.l0, if_pos (by omega)]
      have hs := scan l hl out (by omega) a i hlt k' (run (l.getD i 0) (l.drop (i + 1))) 1 (by omega) (by omega)
      rw [show ((1 : Nat) : Int) = 1 from rfl] at hs
      rw [hs, next_is _ _ _ _ (by omega) (by omega) (by omega), Option.bind_some, hm, wrap64_in (by omega) (by omega), show (i : Int) + (m : Int) = ((i + m : Nat) : Int) from by omega]
      rw [ih (i + m) _ _ k' (by omega) (by omega) (by rw [List.length_append]; simp only [List.length_singleton]; omega) (by omega), drop_cons hlt]
      simp only [steps, List.map_cons, List.append_assoc, List.singleton_append]
      rw [hm, Int.toNat_natCast, ← drop_cons hlt, List.drop_drop]
      congr 3
      unfold toS
      rw [hm]
    · obtain rfl : i = l.length := by omega
      obtain ⟨k, rfl⟩ : ∃ m, k = m + 1 := ⟨k - 1, by omega⟩
      simp only [shrink_steps.l0]
      rw [if_neg (by omega), List.drop_length]
      simp [steps]
/-- The steps of a row. -/
theorem steps_is (l : List Int) (hl : l.length ≤ 400) (hx : ∀ x ∈ l, 0 ≤ x ∧ x ≤ 15) (k : Nat) (hk : 170000 ≤ k) : shrink_steps.f k l = some ((steps l.length (-1) l).map toS) := by
  unfold shrink_steps.f
  have h := steps_loop l (by omega) hx l.length 0 (-1) [] k (by omega) (by omega) (by simp; omega) (by
    have := Nat.mul_le_mul (show l.length + 2 ≤ 402 by omega) hl
    omega)
  rw [List.drop_zero] at h
  exact h
end Go.Proofs.Ytlffpaploefljaa.Glue
