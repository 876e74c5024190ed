/- ShrinkRow holds: how any lengths are written is the reference's, read back it is the lengths, and what may not be is told so; at every list of ints. No condition. -/
import Derived.Test.YtlffpaploefljaaSteps
import Derived.Test.YtlffpaploefljaaCanonG
import Derived.Test.YtlffpaploefljaaPx0
import Derived.Test.YtlffpaploefljaaPx29
import Derived.Test.YtlffpaploefljaaPx45
import Derived.Test.YtlffpaploefljaaPx51
import Derived.Test.YtlffpaploefljaaPx72
import Derived.Test.YtlffpaploefljaaPx74
namespace Go.Proofs.Ytlffpaploefljaa.Pure
open Go.RowKit Go.Proofs.Ytlffpaploefljaa.P Go.Proofs.Ytlffpaploefljaa.Glue Go.Proofs.YtlffpaploefljaaW.PrintWords Go.Proofs.YtlffpaploefljaaW.PrintLast Go.Proofs.YtlffpaploefljaaW.PrintMore
open RowSteps
set_option linter.unusedVariables false
set_option linter.unusedSimpArgs false
theorem wakes6 : wherrylaw06_wakes.f = some true := rfl
/-- What Row tells. -/
theorem row_loop (S : List (Int × Int × Int × Int)) (hS : S.length ≤ 1000) : ∀ (d q k : Nat) (xs ys : List Int), q + d = S.length → d < k → xs.length + d ≤ 100000 → ys.length + d ≤ 100000 →
    shrink_Row.l0 k xs ys (S.map toS) (((S.map toS).length : Nat) : Int) (q : Int) = some (xs ++ (S.drop q).map (·.1), ys ++ (S.drop q).map (·.2.1), 0) := by
  intro d
  induction d with
  | zero =>
    intro q k xs ys hq hk hx hy
    obtain ⟨k, rfl⟩ : ∃ m, k = m + 1 := ⟨k - 1, by omega⟩
    obtain rfl : q = S.length := by omega
    simp only [shrink_Row.l0]
    rw [if_neg (by rw [List.length_map]; omega), List.drop_length]
    simp
  | succ d ih =>
    intro q k xs ys hq hk hx hy
    obtain ⟨k, rfl⟩ : ∃ m, k = m + 1 := ⟨k - 1, by omega⟩
    have hlt : q < S.length := by omega
    have hrd : rd_T76 (S.map toS) (q : Int) = toS S[q] := by
      unfold rd_T76
      rw [Int.toNat_natCast, List.getD_eq_getElem?_getD, List.getElem?_map, List.getElem?_eq_getElem hlt]
      rfl
    simp only [shrink_Row.l0]
    rw [if_pos (by rw [List.length_map]; omega), if_pos (by omega), if_pos (by rw [List.length_map]; omega), hrd]
    simp only [Option.bind_some, List.length_singleton]
    rw [if_pos (by omega), if_pos (by omega), wrap64_in (by omega) (by omega), show (q : Int) + 1 = ((q + 1 : Nat) : Int) from by omega]
    rw [ih (q + 1) k _ _ (by omega) (by omega) (by rw [List.length_append, List.length_singleton]; omega) (by rw [List.length_append, List.length_singleton]; omega), List.drop_eq_getElem_cons hlt]
    simp only [List.map_cons, toS, List.append_assoc, List.singleton_append]
theorem steps_len : ∀ (f : Nat) (a : Int) (l : List Int), (∀ x ∈ l, 0 ≤ x ∧ x ≤ 15) → (steps f a l).length ≤ l.length
  | 0, a, l, _ => by simp [steps]
  | f + 1, a, [], _ => by simp [steps]
  | f + 1, a, v :: t, hx => by
    obtain ⟨m, hm, h1, _, _, _⟩ := steps_put v t [] (-1) (hx v List.mem_cons_self) (.inl rfl)
    have hf := next_fit v a (run v t + 1) (by omega) (hx v List.mem_cons_self)
    obtain ⟨m, hm, h1, h2⟩ := hf.runs
    simp only [steps, List.length_cons]
    have := steps_len f v ((v :: t).drop (nextOf v a (run v t + 1)).2.2.2.toNat) (fun x h => hx x (List.mem_of_mem_drop h))
    rw [List.length_drop, hm, Int.toNat_natCast, List.length_cons] at this
    rw [hm, Int.toNat_natCast]
    omega
theorem bad_iff (l : List Int) : l.any badLen = false ↔ ∀ x ∈ l, 0 ≤ x ∧ x ≤ 15 := by
  constructor
  · exact any_bad
  · intro h
    rw [List.any_eq_false]
    intro x hx
    have := h x hx
    unfold badLen
    simp
    omega
theorem row_is (l : List Int) (k : Nat) (hk : 200000 ≤ k) (hl : l.length ≤ 320) (hx : ∀ x ∈ l, 0 ≤ x ∧ x ≤ 15) :
    shrink_Row.f k l = some ((steps l.length (-1) l).map (·.1), (steps l.length (-1) l).map (·.2.1), 0) := by
  obtain ⟨k, rfl⟩ : ∃ m, k = m + 1 := ⟨k - 1, by omega⟩
  have hsl := steps_len l.length (-1) l hx
  unfold shrink_Row.f rowBad
  rw [if_neg (by omega), (bad_iff l).2 hx, Option.bind_some]
  simp only [shrink_Row.j0, Bool.false_eq_true, if_false]
  rw [steps_is l (by omega) hx k (by omega), Option.bind_some]
  have h := row_loop (steps l.length (-1) l) (by omega) (steps l.length (-1) l).length 0 k [] [] (by omega) (by omega) (by simp; omega) (by simp; omega)
  rw [List.drop_zero] at h
  exact h
theorem row_bad (l : List Int) (k : Nat) (hk : 5 ≤ k) (h : ¬ (l.length ≤ 320 ∧ ∀ x ∈ l, 0 ≤ x ∧ x ≤ 15)) : shrink_Row.f k l = some ([], [], 1) := by
  obtain ⟨k, rfl⟩ : ∃ m, k = m + 1 := ⟨k - 1, by omega⟩
  unfold shrink_Row.f rowBad
  by_cases hl : l.length ≤ 320
  · rw [if_neg (by omega), Option.bind_some]
    have hb : l.any badLen = true := by
      cases hb : l.any badLen with
      | true => rfl
      | false => exact absurd ⟨hl, (bad_iff l).1 hb⟩ h
    rw [hb]
    simp only [shrink_Row.j0, if_true]
  · rw [if_pos (by omega)]
    simp only [shrink_Row.j0, if_true]
/-- The value ahead of a place. -/
def prev (l : List Int) (i : Nat) : Int := if i = 0 then -1 else l.getD (i - 1) 0
theorem ref_scan (l : List Int) (hl : l.length ≤ 500) (xs ys : List Int) (i : Nat) (hi : i < l.length) (k : Nat) : ∀ (d r : Nat), 1 ≤ r → r + d = run (l.getD i 0) (l.drop (i + 1)) + 1 →
    wherryref01_Row.l1 (k + d + 1) l xs ys (i : Int) (r : Int) = wherryref01_Row.j2 k l xs ys (i : Int) ((run (l.getD i 0) (l.drop (i + 1)) + 1 : Nat) : Int) := by
  intro d
  have hrun := run_le (l.getD i 0) (l.drop (i + 1))
  rw [List.length_drop] at hrun
  induction d with
  | zero =>
    intro r h1 hr
    obtain rfl : r = run (l.getD i 0) (l.drop (i + 1)) + 1 := by omega
    simp only [Nat.add_zero, wherryref01_Row.l1]
    rw [wrap64_in (a := (i : Int) + _) (by omega) (by omega), rd_nat]
    by_cases hend : i + (run (l.getD i 0) (l.drop (i + 1)) + 1) < l.length
    · rw [if_pos (by omega), if_pos (by omega), if_pos (by omega), if_pos (by omega)]
      have hs := run_stop (l.getD i 0) (l.drop (i + 1)) (by rw [List.length_drop]; omega)
      rw [getD_drop] at hs
      rw [show (i : Int) + ((run (l.getD i 0) (l.drop (i + 1)) + 1 : Nat) : Int) = ((i + 1 + run (l.getD i 0) (l.drop (i + 1)) : Nat) : Int) from by omega, rd_nat, if_neg hs]
    · rw [if_neg (by omega)]
  | succ d ih =>
    intro r h1 hr
    have hg := run_get (l.getD i 0) (l.drop (i + 1)) (r - 1) (by omega)
    rw [getD_drop] at hg
    rw [show k + (d + 1) + 1 = (k + d + 1) + 1 from by omega]
    rw [wherryref01_Row.l1]
    rw [wrap64_in (a := (i : Int) + (r : Int)) (by omega) (by omega), if_pos (by omega), if_pos (by omega), if_pos (by omega), if_pos (by omega), rd_nat, show (i : Int) + (r : Int) = ((i + 1 + (r - 1) : Nat) : Int) from by omega, rd_nat, if_pos hg, wrap64_in (by omega) (by omega), show (r : Int) + 1 = ((r + 1 : Nat) : Int) from by omega]
    exact ih (r + 1) (by omega) (by omega)
/-- The reference's choice. -/
theorem ref_next (l : List Int) (hl : l.length ≤ 500) (xs ys : List Int) (hxs : xs.length ≤ 100000) (hys : ys.length ≤ 100000) (i : Nat) (hi : i < l.length) (r : Nat) (h1 : 1 ≤ r) (hr : r ≤ 500) (hx : ∀ x ∈ l, 0 ≤ x ∧ x ≤ 15) (k : Nat) : ∃ k', k ≤ k' ∧ k' ≤ k + 3 ∧
    wherryref01_Row.j2 (k + 3) l xs ys (i : Int) (r : Int) = wherryref01_Row.l0 k' l (xs ++ [(nextOf (l.getD i 0) (prev l i) r).1]) (ys ++ [(nextOf (l.getD i 0) (prev l i) r).2.1]) (wrap64 ((i : Int) + (nextOf (l.getD i 0) (prev l i) r).2.2.2)) := by
  have h138 : mn (r : Int) 138 = ((min r 138 : Nat) : Int) := mn_nat r 138
  have h6 : mn (r : Int) 6 = ((min r 6 : Nat) : Int) := mn_nat r 6
  have hi0 : (0 : Int) ≤ (i : Int) := by omega
  have hi1 : (i : Int) < (l.length : Int) := by omega
  have hX : xs.length < 17592186044416 := by omega
  have hY : ys.length < 17592186044416 := by omega
  obtain ⟨v, hv⟩ : ∃ v, v = l.getD i 0 := ⟨_, rfl⟩
  have hmem : l.getD i 0 ∈ l := by rw [List.getD_eq_getElem?_getD, List.getElem?_eq_getElem hi]; exact List.getElem_mem hi
  have hv0 := hx _ hmem
  rw [← hv] at hv0 ⊢
  simp only [wherryref01_Row.j2, if_pos hi0, if_pos hi1, rd_nat, ← hv]
  unfold nextOf
  by_cases h0 : v = 0
  · by_cases h11 : 11 ≤ r
    · refine ⟨k + 1, by omega, by omega, ?_⟩
      rw [if_pos h0, show decide ((r : Int) ≥ 11) = true from decide_eq_true (by omega), if_pos (show v = 0 ∧ 11 ≤ r from ⟨h0, h11⟩)]
      simp only [wherryref01_Row.j3, if_true, if_pos hX, if_pos hY, h138]
      rw [wrap64_in (a := ((min r 138 : Nat) : Int) - 11) (by omega) (by omega), show ((min r 138 : Nat) : Int) - 11 = ((min r 138 - 11 : Nat) : Int) from by omega]
    · refine ⟨k, by omega, by omega, ?_⟩
      rw [if_pos h0, show decide ((r : Int) ≥ 11) = false from decide_eq_false (by omega), if_neg (show ¬ (v = 0 ∧ 11 ≤ r) from fun h => h11 h.2)]
      simp only [wherryref01_Row.j3, Bool.false_eq_true, if_false, if_pos hi0, if_pos hi1, rd_nat, ← hv, if_pos h0]
      by_cases h3 : 3 ≤ r
      · rw [show decide ((r : Int) ≥ 3) = true from decide_eq_true (by omega), if_pos (show v = 0 ∧ 3 ≤ r from ⟨h0, h3⟩)]
        simp only [wherryref01_Row.j4, if_true, if_pos hX, if_pos hY]
        rw [wrap64_in (a := (r : Int) - 3) (by omega) (by omega), show (r : Int) - 3 = ((r - 3 : Nat) : Int) from by omega]
      · rw [show decide ((r : Int) ≥ 3) = false from decide_eq_false (by omega), if_neg (show ¬ (v = 0 ∧ 3 ≤ r) from fun h => h3 h.2), if_neg (show ¬ (v ≠ 0 ∧ v = prev l i ∧ 3 ≤ r) from fun h => h.1 h0)]
        simp only [wherryref01_Row.j4, Bool.false_eq_true, if_false, if_pos hi0, if_pos hi1, rd_nat, ← hv, if_pos h0, if_pos hX, if_pos hY]
  · refine ⟨k, by omega, by omega, ?_⟩
    rw [if_neg h0, if_neg (show ¬ (v = 0 ∧ 11 ≤ r) from fun h => h0 h.1), if_neg (show ¬ (v = 0 ∧ 3 ≤ r) from fun h => h0 h.1)]
    simp only [wherryref01_Row.j3, wherryref01_Row.j4, Bool.false_eq_true, if_false, if_pos hi0, if_pos hi1, rd_nat, ← hv, if_neg h0, if_pos hX, if_pos hY]
    by_cases hz : i = 0
    · rw [if_neg (by omega), if_neg (show ¬ (v ≠ 0 ∧ v = prev l i ∧ 3 ≤ r) from fun h => by have := h.2.1; unfold prev at this; rw [if_pos hz] at this; omega)]
    · have hp : prev l i = l.getD (i - 1) 0 := by unfold prev; rw [if_neg hz]
      rw [if_pos (by omega), wrap64_in (a := (i : Int) - 1) (by omega) (by omega), if_pos (by omega), if_pos (by omega), show (i : Int) - 1 = ((i - 1 : Nat) : Int) from by omega, rd_nat, ← hp]
      by_cases hpv : prev l i = v
      · rw [if_pos hpv]
        by_cases h3 : 3 ≤ r
        · rw [if_pos (by omega), if_pos (show v ≠ 0 ∧ v = prev l i ∧ 3 ≤ r from ⟨h0, hpv.symm, h3⟩), h6, wrap64_in (a := ((min r 6 : Nat) : Int) - 3) (by omega) (by omega), show ((min r 6 : Nat) : Int) - 3 = ((min r 6 - 3 : Nat) : Int) from by omega]
        · rw [if_neg (by omega), if_neg (show ¬ (v ≠ 0 ∧ v = prev l i ∧ 3 ≤ r) from fun h => h3 h.2.2)]
      · rw [if_neg hpv, if_neg (show ¬ (v ≠ 0 ∧ v = prev l i ∧ 3 ≤ r) from fun h => hpv h.2.1.symm)]
theorem ref_loop (l : List Int) (hl : l.length ≤ 400) (hx : ∀ x ∈ l, 0 ≤ x ∧ x ≤ 15) : ∀ (f i k : Nat) (xs ys : List Int), i ≤ l.length → l.length - i ≤ f → xs.length + f ≤ 100000 → ys.length + f ≤ 100000 → (l.length + 6) * f + 5 ≤ k →
    wherryref01_Row.l0 k l xs ys (i : Int) = some (xs ++ (steps f (prev l i) (l.drop i)).map (·.1), ys ++ (steps f (prev l i) (l.drop i)).map (·.2.1)) := by
  intro f
  induction f with
  | zero =>
    intro i k xs ys hi hf hxs hys hk
    obtain rfl : i = l.length := by omega
    obtain ⟨k, rfl⟩ : ∃ m, k = m + 1 := ⟨k - 1, by omega⟩
    simp only [wherryref01_Row.l0]
    rw [if_neg (by omega)]
    simp [steps]
  | succ f ih =>
    intro i k xs ys hi hf hxs hys hk
    by_cases hlt : i < l.length
    · have hrun := run_le (l.getD i 0) (l.drop (i + 1))
      rw [List.length_drop] at hrun
      have hmul : (l.length + 6) * (f + 1) = (l.length + 6) * f + (l.length + 6) := Nat.mul_succ _ _
      obtain ⟨k', hk'⟩ : ∃ k', k = (k' + 3) + run (l.getD i 0) (l.drop (i + 1)) + 1 + 1 := ⟨k - (run (l.getD i 0) (l.drop (i + 1)) + 5), by omega⟩
      subst hk'
      have hmem : l.getD i 0 ∈ l := by rw [List.getD_eq_getElem?_getD, List.getElem?_eq_getElem hlt]; exact List.getElem_mem hlt
      have hfit := next_fit (l.getD i 0) (prev l i) (run (l.getD i 0) (l.drop (i + 1)) + 1) (by omega) (hx _ hmem)
      obtain ⟨m, hm, h1, h2⟩ := hfit.runs
      rw [wherryref01_Row.l0, if_pos (by omega)]
      have hs := ref_scan l (by omega) xs ys i hlt (k' + 3) (run (l.getD i 0) (l.drop (i + 1))) 1 (by omega) (by omega)
      rw [show ((1 : Nat) : Int) = 1 from rfl] at hs
      rw [hs]
      obtain ⟨k2, hk2, _, hn⟩ := ref_next l (by omega) xs ys (by omega) (by omega) i hlt (run (l.getD i 0) (l.drop (i + 1)) + 1) (by omega) (by omega) hx k'
      rw [hn, hm, wrap64_in (by omega) (by omega), show (i : Int) + (m : Int) = ((i + m : Nat) : Int) from by omega]
      have hpv : prev l (i + m) = l.getD i 0 := by
        unfold prev
        rw [if_neg (by omega)]
        by_cases hm1 : m = 1
        · rw [show i + m - 1 = i from by omega]
        · have := run_get (l.getD i 0) (l.drop (i + 1)) (m - 2) (by omega)
          rw [getD_drop] at this
          rw [show i + m - 1 = i + 1 + (m - 2) from by omega]
          exact this
      rw [ih (i + m) k2 _ _ (by omega) (by omega) (by rw [List.length_append, List.length_singleton]; omega) (by rw [List.length_append, List.length_singleton]; omega) (by omega), hpv, drop_cons hlt]
      simp only [steps, List.map_cons, List.append_assoc, List.singleton_append]
      rw [hm, Int.toNat_natCast, ← drop_cons hlt, List.drop_drop]
    · obtain rfl : i = l.length := by omega
      obtain ⟨k, rfl⟩ : ∃ m, k = m + 1 := ⟨k - 1, by omega⟩
      simp only [wherryref01_Row.l0]
      rw [if_neg (by omega), List.drop_length]
      simp [steps]
theorem refrow_is (l : List Int) (hl : l.length ≤ 400) (hx : ∀ x ∈ l, 0 ≤ x ∧ x ≤ 15) (k : Nat) (hk : 170000 ≤ k) : wherryref01_Row.f k l = some ((steps l.length (-1) l).map (·.1), (steps l.length (-1) l).map (·.2.1)) := by
  unfold wherryref01_Row.f
  have h := ref_loop l hl hx l.length 0 k [] [] (by omega) (by omega) (by simp; omega) (by simp; omega) (by
    have := Nat.mul_le_mul (show l.length + 6 ≤ 406 by omega) hl
    omega)
  rw [List.drop_zero] at h
  exact h
/-- So many of a value behind the others. -/
theorem back_put (l x4 x5 : List Int) (v : Int) (q : Nat) (hq : q ≤ 1000) : ∀ (m k : Nat) (acc : List Int), acc.length + m ≤ 400 → wherrylaw06_ShrinkRow.l2 (k + m + 1) l x4 x5 acc (q : Int) v (m : Int) = wherrylaw06_ShrinkRow.l1 k l x4 x5 (acc ++ List.replicate m v) ((q + 1 : Nat) : Int) := by
  intro m
  induction m with
  | zero =>
    intro k acc h
    simp only [Nat.add_zero, wherrylaw06_ShrinkRow.l2]
    rw [if_neg (by omega), wrap64_in (by omega) (by omega)]
    simp
  | succ m ih =>
    intro k acc h
    rw [show k + (m + 1) + 1 = (k + m + 1) + 1 from by omega, wherrylaw06_ShrinkRow.l2, if_pos (by omega), if_pos (by omega), if_pos (by omega), wrap64_in (by omega) (by omega), show ((m + 1 : Nat) : Int) - 1 = (m : Int) from by omega, ih k _ (by rw [List.length_append, List.length_singleton]; omega), List.replicate_succ, List.append_assoc, List.singleton_append]
theorem back_loop (l : List Int) (hl : l.length ≤ 320) (hx : ∀ x ∈ l, 0 ≤ x ∧ x ≤ 15) (S : List (Int × Int × Int × Int)) (hS : S.length ≤ 320) : ∀ (f i q k : Nat) (a : Int), i ≤ l.length → l.length - i ≤ f → S.drop q = steps f a (l.drop i) → q ≤ S.length → Ahead (l.take i) a → (l.length + 6) * f + 500 ≤ k →
    wherrylaw06_ShrinkRow.l1 k l (S.map (·.1)) (S.map (·.2.1)) (l.take i) (q : Int) = some true := by
  intro f
  have stop : ∀ (q k : Nat), S.drop q = [] → q ≤ S.length → 500 ≤ k → wherrylaw06_ShrinkRow.l1 k l (S.map (·.1)) (S.map (·.2.1)) (l.take l.length) (q : Int) = some true := by
    intro q k hd hq hk
    obtain ⟨k, rfl⟩ : ∃ m, k = m + 1 := ⟨k - 1, by omega⟩
    have : S.length ≤ q := List.drop_eq_nil_iff.1 hd
    simp only [wherrylaw06_ShrinkRow.l1]
    rw [if_neg (by rw [List.length_map]; omega), List.take_length, keepInts_is l l (by omega) k (by omega), Option.bind_some, decide_eq_true rfl, if_pos rfl, wakes6, Option.bind_some]
  induction f with
  | zero =>
    intro i q k a hi hf hd hq ha hk
    obtain rfl : i = l.length := by omega
    exact stop q k (by rw [hd]; simp [steps]) hq (by omega)
  | succ f ih =>
    intro i q k a hi hf hd hq ha hk
    by_cases hlt : i < l.length
    · have hmul : (l.length + 6) * (f + 1) = (l.length + 6) * f + (l.length + 6) := Nat.mul_succ _ _
      obtain ⟨k, rfl⟩ : ∃ m, k = m + 1 := ⟨k - 1, by omega⟩
      have hmem : l.getD i 0 ∈ l := by rw [List.getD_eq_getElem?_getD, List.getElem?_eq_getElem hlt]; exact List.getElem_mem hlt
      rw [drop_cons hlt] at hd
      simp only [steps] at hd
      obtain ⟨m, hm, h1, h2, h3, h4⟩ := steps_put (l.getD i 0) (l.drop (i + 1)) (l.take i) a (hx _ hmem) ha
      have hfit := next_fit (l.getD i 0) a (run (l.getD i 0) (l.drop (i + 1)) + 1) (by omega) (hx _ hmem)
      rw [List.length_drop] at h2
      generalize nextOf (l.getD i 0) a (run (l.getD i 0) (l.drop (i + 1)) + 1) = s at hd hm h3 hfit
      rw [hm, Int.toNat_natCast, ← drop_cons hlt, List.drop_drop] at hd
      have hqS : q < S.length := by
        apply Classical.byContradiction
        intro h
        rw [List.drop_eq_nil_iff.2 (by omega)] at hd
        cases hd
      rw [List.drop_eq_getElem_cons hqS] at hd
      injection hd with hs hd
      have g4 : rd (S.map (·.1)) (q : Int) = s.1 := by rw [rd_nat, List.getD_eq_getElem?_getD, List.getElem?_map, List.getElem?_eq_getElem hqS, hs]; rfl
      have g5 : rd (S.map (·.2.1)) (q : Int) = s.2.1 := by rw [rd_nat, List.getD_eq_getElem?_getD, List.getElem?_map, List.getElem?_eq_getElem hqS, hs]; rfl
      obtain ⟨x, n, hx1, _, hx2, hn7⟩ := hfit.more
      have hp7 : 2 ^ n ≤ 2 ^ 7 := Nat.pow_le_pow_right (by decide) hn7
      have hvk := hfit.is (l.take i) (fun h16 => by
        rcases ha with ha | ha
        · have := hfit.back h16; have := hx _ hmem; omega
        · exact ha.2)
      rw [hm, Int.toNat_natCast] at hvk
      have hti : (l.take i).length = i := by rw [List.length_take]; omega
      have htake : l.take i ++ List.replicate m (l.getD i 0) = l.take (i + m) := by
        rw [List.take_add, drop_cons hlt, h4, List.take_left' (by simp)]
      have hrest : ∀ k, (l.length + 6) * f + 500 ≤ k → wherrylaw06_ShrinkRow.l1 k l (S.map (·.1)) (S.map (·.2.1)) (l.take (i + m)) ((q + 1 : Nat) : Int) = some true := by
        intro k hk
        refine ih (i + m) (q + 1) k (l.getD i 0) (by omega) (by omega) hd (by omega) ?_ hk
        have := last_rep (l.take i) (l.getD i 0) m h1
        rw [htake] at this
        exact .inr this
      have hgo : ∀ k, (l.length + 6) * f + 500 + m + 2 ≤ k → wherrylaw06_ShrinkRow.j3 k l (S.map (·.1)) (S.map (·.2.1)) (l.take i) (q : Int) (l.getD i 0) (m : Int) = some true := by
        intro k hk
        obtain ⟨k, rfl⟩ : ∃ z, k = (z + m + 1) + 1 := ⟨k - (m + 2), by omega⟩
        rw [wherrylaw06_ShrinkRow.j3, back_put l _ _ _ q (by omega) m k _ (by omega), htake]
        exact hrest k (by omega)
      rw [wherrylaw06_ShrinkRow.l1, if_pos (by rw [List.length_map]; omega), if_pos (by omega), g4, g5]
      unfold vk at hvk
      rw [hti] at hvk
      simp only [hti]
      have hti2 := hti
      clear hti
      have hS5 : (q : Int) < ((S.map (·.2.1)).length : Int) := by rw [List.length_map]; omega
      by_cases h16 : s.1 = 16
      · rw [if_pos h16] at hvk
        injection hvk with e1 e2
        have hi0 : i ≠ 0 := by
          rcases ha with ha | ha
          · have := hfit.back h16; have := hx _ hmem; omega
          · omega
        rw [if_pos h16, if_neg (by omega), wrap64_in (a := (i : Int) - 1) (by omega) (by omega), if_pos (by omega), if_pos (by omega), if_pos hS5, show (i : Int) - 1 = ((i - 1 : Nat) : Int) from by omega, rd_nat, e1, wrap64_in (by omega) (by omega), show 3 + s.2.1 = (m : Int) from by omega]
        exact hgo k (by omega)
      · rw [if_neg h16] at hvk ⊢
        by_cases h17 : s.1 = 17
        · rw [if_pos h17] at hvk ⊢
          injection hvk with e1 e2
          rw [if_pos hS5, wrap64_in (by omega) (by omega), show 3 + s.2.1 = (m : Int) from by omega, e1]
          exact hgo k (by omega)
        · rw [if_neg h17] at hvk ⊢
          by_cases h18 : s.1 = 18
          · rw [if_pos h18] at hvk ⊢
            injection hvk with e1 e2
            rw [if_pos hS5, wrap64_in (by omega) (by omega), show 11 + s.2.1 = (m : Int) from by omega, e1]
            exact hgo k (by omega)
          · rw [if_neg h18] at hvk ⊢
            injection hvk with e1 e2
            rw [e1, show (1 : Int) = (m : Int) from by omega]
            exact hgo k (by omega)
    · obtain rfl : i = l.length := by omega
      exact stop q k (by rw [hd, List.drop_length]; simp [steps]) hq (by omega)
/-- The look for lengths that may not be. -/
theorem ok_loop (l x3 x4 x5 : List Int) (x6 : Int) (hl : l.length ≤ 400) : ∀ (d i k : Nat) (ok : Bool), i + d = l.length → 
    wherrylaw06_ShrinkRow.l0 (k + d + 1) l x3 x4 x5 x6 ok (i : Int) = wherrylaw06_ShrinkRow.l0 (k + 1) l x3 x4 x5 x6 (ok && (l.drop i).all (fun x => decide (0 ≤ x) && decide (x ≤ 15))) (l.length : Int) := by
  intro d
  induction d with
  | zero =>
    intro i k ok hi
    obtain rfl : i = l.length := by omega
    simp
  | succ d ih =>
    intro i k ok hi
    have hlt : i < l.length := by omega
    rw [show k + (d + 1) + 1 = (k + d + 1) + 1 from by omega, wherrylaw06_ShrinkRow.l0, if_pos (by omega), rd_nat, wrap64_in (by omega) (by omega), show (i : Int) + 1 = ((i + 1 : Nat) : Int) from by omega, drop_cons hlt, List.all_cons]
    cases ok with
    | false =>
      rw [if_neg (by decide), ih (i + 1) k false (by omega)]
      simp
    | true =>
      rw [if_pos rfl, if_pos (by omega)]
      by_cases h0 : l.getD i 0 ≥ 0
      · rw [if_pos h0, ih (i + 1) k _ (by omega), decide_eq_true (show 0 ≤ l.getD i 0 from h0)]
        simp
      · rw [if_neg h0, ih (i + 1) k false (by omega), decide_eq_false (show ¬ 0 ≤ l.getD i 0 from h0)]
        simp
theorem ShrinkRow : wherrylaw06_ShrinkRow.Pure := by
  intro l hm h8 hw
  by_cases h400 : l.length ≤ 400
  rotate_left
  · refine ⟨0, ?_⟩
    unfold wherrylaw06_ShrinkRow.f
    rw [if_pos (by omega)]
  refine ⟨300000 + l.length + 1, ?_⟩
  have hall : (l.all (fun x => decide (0 ≤ x) && decide (x ≤ 15))) = true ↔ ∀ x ∈ l, 0 ≤ x ∧ x ≤ 15 := by
    rw [List.all_eq_true]
    exact ⟨fun h x hx => by have := h x hx; simp at this; exact this, fun h x hx => by have := h x hx; simp; exact this⟩
  unfold wherrylaw06_ShrinkRow.f
  rw [if_neg (by omega), twinInts_is l (by omega), Option.bind_some]
  by_cases hok : l.length ≤ 320 ∧ ∀ x ∈ l, 0 ≤ x ∧ x ≤ 15
  · rw [row_is l _ (by omega) hok.1 hok.2, Option.bind_some]
    have ho := ok_loop l l ((steps l.length (-1) l).map (·.1)) ((steps l.length (-1) l).map (·.2.1)) 0 (by omega) l.length 0 300000 (decide ((l.length : Int) ≤ 320)) (by omega)
    rw [show ((0 : Nat) : Int) = 0 from rfl, List.drop_zero, hall.2 hok.2, decide_eq_true (show (l.length : Int) ≤ 320 by omega)] at ho
    simp only
    rw [decide_eq_true (show (l.length : Int) ≤ 320 by omega), ho, Bool.and_true, wherrylaw06_ShrinkRow.l0, if_neg (by omega), if_pos rfl, refrow_is l (by omega) hok.2 _ (by omega), Option.bind_some, if_pos rfl]
    have hsl := steps_len l.length (-1) l hok.2
    rw [keepInts_is _ _ (by rw [List.length_map]; omega) _ (by rw [List.length_map]; omega), Option.bind_some, decide_eq_true rfl, if_pos rfl]
    rw [keepInts_is _ _ (by rw [List.length_map]; omega) _ (by rw [List.length_map]; omega), Option.bind_some, decide_eq_true rfl, if_pos rfl]
    rw [keepInts_is l l (by omega) _ (by omega), Option.bind_some, decide_eq_true rfl, if_pos rfl]
    rw [show (300000 : Nat) = 299999 + 1 from rfl, wherrylaw06_ShrinkRow.j1, List.length_map, List.length_map, bne_self_eq_false, if_neg (by decide)]
    have hb := back_loop l hok.1 hok.2 (steps l.length (-1) l) (by omega) l.length 0 0 299999 (-1) (by omega) (by omega) (by rw [List.drop_zero, List.drop_zero]) (by omega) (.inl rfl) (by
      have := Nat.mul_le_mul (show l.length + 6 ≤ 326 by omega) hok.1
      omega)
    rw [List.take_zero] at hb
    exact hb
  · rw [row_bad l _ (by omega) hok, Option.bind_some]
    have ho := ok_loop l l [] [] 1 (by omega) l.length 0 300000 (decide ((l.length : Int) ≤ 320)) (by omega)
    rw [show ((0 : Nat) : Int) = 0 from rfl, List.drop_zero] at ho
    simp only
    have hf : (decide ((l.length : Int) ≤ 320) && (l.all (fun x => decide (0 ≤ x) && decide (x ≤ 15)))) = false := by
      cases hb : (l.all (fun x => decide (0 ≤ x) && decide (x ≤ 15))) with
      | false => simp
      | true =>
        rw [Bool.and_true]
        exact decide_eq_false (fun h => hok ⟨by omega, hall.1 hb⟩)
    rw [ho, hf, wherrylaw06_ShrinkRow.l0, if_neg (by omega), if_neg (by decide), if_pos rfl, show wrap64 ((([] : List Int).length : Int) + (([] : List Int).length : Int)) = 0 from by rw [wrap64_in (by simp) (by simp)]; simp, if_pos rfl, wakes6, Option.bind_some]
end Go.Proofs.Ytlffpaploefljaa.Pure
