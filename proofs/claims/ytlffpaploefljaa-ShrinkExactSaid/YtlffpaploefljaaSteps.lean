/- Plain laws on rows of lengths written by symbols; used by the claims of this seat. -/
/- Plain laws on rows of lengths, written by symbols for what is repeated, and read back: no program in sight. -/
namespace RowSteps
/-- The symbol of a value that stands so often behind another one, its bits more, how many these are, how many values it stands for. -/
def stepOf (v ahead : Int) (r : Nat) : Int × Int × Int × Int :=
  if v = 0 ∧ 11 ≤ r then (18, ((min r 138 - 11 : Nat) : Int), 7, ((min r 138 : Nat) : Int)) else if v = 0 ∧ 3 ≤ r then (17, ((r - 3 : Nat) : Int), 3, (r : Int)) else if v ≠ 0 ∧ v = ahead ∧ 3 ≤ r then (16, ((min r 6 - 3 : Nat) : Int), 2, ((min r 6 : Nat) : Int)) else (v, 0, 0, 1)
/-- How many of these values a row begins with. -/
def run (v : Int) : List Int → Nat
  | [] => 0
  | x :: t => if x = v then run v t + 1 else 0
def steps : Nat → Int → List Int → List (Int × Int × Int × Int)
  | 0, _, _ => []
  | _ + 1, _, [] => []
  | f + 1, a, v :: t => stepOf v a (run v t + 1) :: steps f v ((v :: t).drop (stepOf v a (run v t + 1)).2.2.2.toNat)
/-- What a symbol stands for, behind what is there. -/
def vk (acc : List Int) (sym more : Int) : Int × Nat :=
  if sym = 16 then (acc.getD (acc.length - 1) 0, (3 + more).toNat) else if sym = 17 then (0, (3 + more).toNat) else if sym = 18 then (0, (11 + more).toNat) else (sym, 1)
theorem run_le (v : Int) : ∀ t, run v t ≤ t.length
  | [] => Nat.le_refl _
  | x :: t => by
    simp only [run, List.length_cons]
    have := run_le v t
    split <;> omega
/-- What is true of a symbol that was told. -/
structure Fit (v a : Int) (r : Nat) (s : Int × Int × Int × Int) : Prop where
  sym : 0 ≤ s.1 ∧ s.1 ≤ 18
  runs : ∃ m : Nat, s.2.2.2 = (m : Int) ∧ 1 ≤ m ∧ m ≤ r
  more : ∃ x n : Nat, s.2.1 = (x : Int) ∧ s.2.2.1 = (n : Int) ∧ x < 2 ^ n ∧ n ≤ 7
  wide : s.2.2.1 = if s.1 = 16 then 2 else if s.1 = 17 then 3 else if s.1 = 18 then 7 else 0
  back : s.1 = 16 → v = a
  is : ∀ acc : List Int, (s.1 = 16 → acc.getD (acc.length - 1) 0 = a) → vk acc s.1 s.2.1 = (v, s.2.2.2.toNat)
theorem next_fit (v a : Int) (r : Nat) (hr : 1 ≤ r) (hv : 0 ≤ v ∧ v ≤ 15) : Fit v a r (stepOf v a r) := by
  unfold stepOf
  split
  · rename_i h
    refine ⟨⟨by show (0 : Int) ≤ 18; decide, by show (18 : Int) ≤ 18; decide⟩, ⟨min r 138, rfl, by omega, by omega⟩, ⟨min r 138 - 11, 7, rfl, rfl, by omega, by omega⟩, rfl, fun h => by simp at h, fun acc _ => ?_⟩
    unfold vk
    simp only [show (18 : Int) ≠ 16 from by decide, show (18 : Int) ≠ 17 from by decide, if_false, if_true]
    rw [h.1]
    congr 1
    omega
  · split
    · rename_i h0 h
      have h11 : ¬ 11 ≤ r := fun h' => h0 ⟨h.1, h'⟩
      refine ⟨⟨by show (0 : Int) ≤ 17; decide, by show (17 : Int) ≤ 18; decide⟩, ⟨r, rfl, by omega, by omega⟩, ⟨r - 3, 3, rfl, rfl, by omega, by omega⟩, rfl, fun h => by simp at h, fun acc _ => ?_⟩
      unfold vk
      simp only [show (17 : Int) ≠ 16 from by decide, if_false, if_true]
      rw [h.1]
      congr 1
      omega
    · split
      · rename_i h
        refine ⟨⟨by show (0 : Int) ≤ 16; decide, by show (16 : Int) ≤ 18; decide⟩, ⟨min r 6, rfl, by omega, by omega⟩, ⟨min r 6 - 3, 2, rfl, rfl, by omega, by omega⟩, rfl, fun _ => h.2.1, fun acc hacc => ?_⟩
        unfold vk
        simp only [if_true]
        rw [hacc rfl, h.2.1]
        congr 1
        omega
      · refine ⟨⟨hv.1, by omega⟩, ⟨1, rfl, by omega, hr⟩, ⟨0, 0, rfl, rfl, by decide, by omega⟩, ?_, fun h => by simp only at h; omega, fun acc _ => ?_⟩
        · simp only
          rw [if_neg (by omega), if_neg (by omega), if_neg (by omega)]
        · unfold vk
          simp only
          rw [if_neg (by omega), if_neg (by omega), if_neg (by omega)]
          rfl
/-! ### rows, told step by step -/
theorem run_get (v : Int) : ∀ (t : List Int) (j : Nat), j < run v t → t.getD j 0 = v
  | [], j, h => by simp [run] at h
  | x :: t, j, h => by
    simp only [run] at h
    split at h
    · rename_i hx
      match j, h with
      | 0, _ => exact hx
      | j + 1, h => rw [List.getD_cons_succ]; exact run_get v t j (by omega)
    · omega
theorem run_stop (v : Int) : ∀ (t : List Int), run v t < t.length → t.getD (run v t) 0 ≠ v
  | [], h => by simp [run] at h
  | x :: t, h => by
    simp only [run] at h ⊢
    split
    · rename_i hx
      rw [if_pos hx, List.length_cons] at h
      rw [List.getD_cons_succ]
      exact run_stop v t (by omega)
    · exact fun h' => by rename_i hx; exact hx h'
theorem drop_cons {l : List Int} {i : Nat} (hi : i < l.length) : l.drop i = l.getD i 0 :: l.drop (i + 1) := by
  rw [List.drop_eq_getElem_cons hi, List.getD_eq_getElem?_getD, List.getElem?_eq_getElem hi]; rfl
theorem getD_drop (l : List Int) (i j : Nat) : (l.drop i).getD j 0 = l.getD (i + j) 0 := by
  rw [List.getD_eq_getElem?_getD, List.getD_eq_getElem?_getD, List.getElem?_drop]
/-- The value ahead of a place. -/
def prev (l : List Int) (i : Nat) : Int := if i = 0 then -1 else l.getD (i - 1) 0
/-- What is told by now, with what the rest tells. -/
def RowS (l : List Int) (S : List (Int × Int × Int × Int)) (i : Nat) : Prop := ∃ f, l.length - i ≤ f ∧ S ++ steps f (prev l i) (l.drop i) = steps l.length (-1) l ∧ S.length ≤ i
theorem RowS.begin (l : List Int) : RowS l [] 0 := ⟨l.length, by omega, rfl, by simp⟩
theorem RowS.ends {l : List Int} {S : List (Int × Int × Int × Int)} (h : RowS l S l.length) : S = steps l.length (-1) l := by
  obtain ⟨f, _, h2, _⟩ := h
  rw [List.drop_length] at h2
  have e : steps f (prev l l.length) [] = [] := by cases f <;> rfl
  rw [← h2, e, List.append_nil]
theorem RowS.next {l : List Int} {S : List (Int × Int × Int × Int)} {i m r : Nat} {sy mo bt : Int} (h : RowS l S i) (hi : i < l.length) (hx : ∀ x ∈ l, 0 ≤ x ∧ x ≤ 15) (hr : r = run (l.getD i 0) (l.drop (i + 1)) + 1) (hs : stepOf (l.getD i 0) (prev l i) r = (sy, mo, bt, (m : Int))) :
    RowS l (S ++ [(sy, mo, bt, (m : Int))]) (i + m) ∧ 1 ≤ m ∧ i + m ≤ l.length ∧ prev l (i + m) = l.getD i 0 := by
  obtain ⟨f, h1, h2, h4⟩ := h
  have hrun := run_le (l.getD i 0) (l.drop (i + 1))
  rw [List.length_drop] at hrun
  have hmem : l.getD i 0 ∈ l := by rw [List.getD_eq_getElem?_getD, List.getElem?_eq_getElem hi]; exact List.getElem_mem hi
  obtain ⟨m', hm, hm1, hm2⟩ := (next_fit (l.getD i 0) (prev l i) r (by omega) (hx _ hmem)).runs
  rw [hs] at hm
  have hm : (m : Int) = (m' : Int) := hm
  obtain rfl : m = m' := by omega
  have hpv : prev l (i + m) = l.getD i 0 := by
    unfold prev
    rw [if_neg (by omega)]
    by_cases hm1 : m = 1
    · rw [show i + m - 1 = i from by omega]
    · have := run_get (l.getD i 0) (l.drop (i + 1)) (m - 2) (by omega)
      rw [getD_drop] at this
      rw [show i + m - 1 = i + 1 + (m - 2) from by omega]
      exact this
  obtain ⟨f, rfl⟩ : ∃ q, f = q + 1 := ⟨f - 1, by omega⟩
  rw [drop_cons hi] at h2
  simp only [steps, ← hr, hs, Int.toNat_natCast] at h2
  rw [← drop_cons hi, List.drop_drop] at h2
  refine ⟨⟨f, by omega, ?_, by rw [List.length_append, List.length_singleton]; omega⟩, hm1, by omega, hpv⟩
  rw [hpv, List.append_assoc]
  exact h2
theorem scan_more {l : List Int} {i r : Nat} (hr : 1 ≤ r) (h : r ≤ run (l.getD i 0) (l.drop (i + 1))) : i + r < l.length ∧ l.getD (i + r) 0 = l.getD i 0 := by
  have hrun := run_le (l.getD i 0) (l.drop (i + 1))
  rw [List.length_drop] at hrun
  have hg := run_get (l.getD i 0) (l.drop (i + 1)) (r - 1) (by omega)
  rw [getD_drop, show i + 1 + (r - 1) = i + r from by omega] at hg
  exact ⟨by omega, hg⟩
theorem scan_stop {l : List Int} {i r : Nat} (h : r = run (l.getD i 0) (l.drop (i + 1)) + 1) (hn : i + r < l.length) : l.getD (i + r) 0 ≠ l.getD i 0 := by
  have hs := run_stop (l.getD i 0) (l.drop (i + 1)) (by rw [List.length_drop]; omega)
  rw [getD_drop, show i + 1 + run (l.getD i 0) (l.drop (i + 1)) = i + r from by omega] at hs
  exact hs
theorem step_a {v a : Int} {r : Nat} (h0 : v = 0) (h : 11 ≤ r) : stepOf v a r = (18, ((min r 138 : Nat) : Int) - 11, 7, ((min r 138 : Nat) : Int)) := by
  unfold stepOf; rw [if_pos ⟨h0, h⟩, show ((min r 138 : Nat) : Int) - 11 = ((min r 138 - 11 : Nat) : Int) from by omega]
theorem step_b {v a : Int} {r : Nat} (h0 : v = 0) (h : 3 ≤ r) (h2 : r < 11) : stepOf v a r = (17, (r : Int) - 3, 3, (r : Int)) := by
  unfold stepOf; rw [if_neg (by omega), if_pos ⟨h0, h⟩, show (r : Int) - 3 = ((r - 3 : Nat) : Int) from by omega]
theorem step_c {v a : Int} {r : Nat} (h0 : v ≠ 0) (ha : a = v) (h : 3 ≤ r) : stepOf v a r = (16, ((min r 6 : Nat) : Int) - 3, 2, ((min r 6 : Nat) : Int)) := by
  unfold stepOf; rw [if_neg (fun h => h0 h.1), if_neg (fun h => h0 h.1), if_pos ⟨h0, ha.symm, h⟩, show ((min r 6 : Nat) : Int) - 3 = ((min r 6 - 3 : Nat) : Int) from by omega]
theorem step_d {v a : Int} {r : Nat} (h : (v = 0 ∧ r < 3) ∨ (v ≠ 0 ∧ a ≠ v) ∨ (v ≠ 0 ∧ r < 3)) : stepOf v a r = (v, 0, 0, ((1 : Nat) : Int)) := by
  unfold stepOf; rw [if_neg (by omega), if_neg (by omega), if_neg (by rcases h with h | h | h <;> omega)]; rfl
theorem row_cases (v p : Int) (i r : Nat) : (v = 0 ∧ 11 ≤ r) ∨ (v = 0 ∧ 3 ≤ r ∧ r < 11) ∨ (v = 0 ∧ r < 3) ∨ (v ≠ 0 ∧ i = 0) ∨ (v ≠ 0 ∧ 0 < i ∧ p ≠ v) ∨ (v ≠ 0 ∧ 0 < i ∧ p = v ∧ r < 3) ∨ (v ≠ 0 ∧ 0 < i ∧ p = v ∧ 3 ≤ r) := by omega
theorem steps_len : ∀ (f : Nat) (a : Int) (l : List Int), (∀ x ∈ l, 0 ≤ x ∧ x ≤ 15) → (steps f a l).length ≤ l.length
  | 0, a, l, _ => by simp [steps]
  | f + 1, a, [], _ => by simp [steps]
  | f + 1, a, v :: t, hx => by
    have hf := next_fit v a (run v t + 1) (by omega) (hx v List.mem_cons_self)
    obtain ⟨m, hm, h1, h2⟩ := hf.runs
    simp only [steps, List.length_cons]
    have := steps_len f v ((v :: t).drop (stepOf v a (run v t + 1)).2.2.2.toNat) (fun x h => hx x (List.mem_of_mem_drop h))
    rw [List.length_drop, hm, Int.toNat_natCast, List.length_cons] at this
    rw [hm, Int.toNat_natCast]
    omega
end RowSteps
