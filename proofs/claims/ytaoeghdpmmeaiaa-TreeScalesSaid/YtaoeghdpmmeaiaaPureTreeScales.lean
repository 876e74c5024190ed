/- TreeScales holds: weights that are all as many times as great have the same lengths, where none was halved; at all lists of ints and every int. No condition. -/
import Derived.Test.YtaoeghdpmmeaiaaTreeHuff
import Derived.Test.YtaoeghdpmmeaiaaPx4
import Derived.Test.YtaoeghdpmmeaiaaPx10
import Derived.Test.YtaoeghdpmmeaiaaPx16
namespace Go.Proofs.Ytaoeghdpmmeaiaa.Pure
open Go.RowKit Go.Proofs.Ytaoeghdpmmeaiaa.P Go.Proofs.Ytaoeghdpmmeaiaa.Glue Go.Proofs.YtaoeghdpmmeaiaaW.PrintWords Go.Proofs.YtaoeghdpmmeaiaaW.PrintLast Go.Proofs.YtaoeghdpmmeaiaaW.PrintMore
set_option linter.unusedVariables false
set_option linter.unusedSimpArgs false

/-- A weight so many times as great. -/
def scl (c : Int) (x : Int × List Int) : Int × List Int := (c * x.1, x.2)
theorem scl_lt {c : Int} (hc : 0 < c) (a b : Int) : c * a < c * b ↔ a < b := ⟨fun h => Int.lt_of_mul_lt_mul_left h (Int.le_of_lt hc), fun h => Int.mul_lt_mul_of_pos_left h hc⟩
theorem scl_ins {c : Int} (hc : 0 < c) (z : Int × List Int) : ∀ q, insQ (scl c z) (q.map (scl c)) = (insQ z q).map (scl c)
  | [] => rfl
  | y :: ys => by
    unfold insQ
    rw [List.map_cons]
    show (if c * z.1 < c * y.1 then _ else _) = _
    by_cases h : z.1 < y.1
    · rw [if_pos ((scl_lt hc _ _).2 h), if_pos h]; rfl
    · rw [if_neg (fun hh => h ((scl_lt hc _ _).1 hh)), if_neg h, scl_ins hc z ys]; rfl
theorem scl_sort {c : Int} (hc : 0 < c) (ns : List (Int × List Int)) : sortQ (ns.map (scl c)) = (sortQ ns).map (scl c) := by
  induction ns using snoc_induct with
  | h0 => rfl
  | h1 ns z ih => rw [List.map_append, List.map_singleton, sortQ_snoc, sortQ_snoc, ih, scl_ins hc]
theorem scl_run {c : Int} (hc : 0 < c) : ∀ (k : Nat) (q : List (Int × List Int)) (out : List Int), qRun k (q.map (scl c)) out = qRun k q out
  | 0, _, _ => by unfold qRun; rfl
  | k + 1, [], _ => rfl
  | k + 1, [_], _ => rfl
  | k + 1, x :: y :: r, out => by
    show qRun k (insQ (c * x.1 + c * y.1, x.2 ++ y.2) (r.map (scl c))) _ = qRun k _ _
    rw [← Int.mul_add, show (c * (x.1 + y.1), x.2 ++ y.2) = scl c (x.1 + y.1, x.2 ++ y.2) from rfl, scl_ins hc, scl_run hc k]
    rfl
theorem map_at (c : Int) (ws : List Int) (j : Nat) : (ws.map (fun x => c * x)).getD j 0 = c * ws.getD j 0 := by
  rw [List.getD_eq_getElem?_getD, List.getD_eq_getElem?_getD, List.getElem?_map]
  cases ws[j]? with
  | none => simp
  | some v => rfl
theorem scl_pos {c : Int} (hc : 0 < c) (a : Int) : 0 < c * a ↔ 0 < a := by
  have := scl_lt hc 0 a
  rwa [Int.mul_zero] at this
theorem scl_leafs {c : Int} (hc : 0 < c) (ws : List Int) : ∀ i : Nat, leafs (ws.map (fun x => c * x)) i = (leafs ws i).map (scl c)
  | 0 => rfl
  | i + 1 => by
    rw [leafs_succ, leafs_succ, scl_leafs hc ws i, List.map_append, map_at]
    congr 1
    by_cases h : 0 < ws.getD i 0
    · rw [if_pos h, if_pos ((scl_pos hc _).2 h)]; rfl
    · rw [if_neg h, if_neg (fun hh => h ((scl_pos hc _).1 hh))]; rfl
theorem scl_once {c : Int} (hc : 0 < c) (ws : List Int) (h1 : weighs ws = true) (h2 : weighs (ws.map (fun x => c * x)) = true) : onceOf (ws.map (fun x => c * x)) = onceOf ws := by
  have hl : (ws.map (fun x => c * x)).length = ws.length := by simp
  have hp : pos (ws.map (fun x => c * x)) = pos ws := by
    rw [← leafs_count, ← leafs_count, hl, scl_leafs hc, List.length_map]
  by_cases hone : pos ws = 1
  · obtain ⟨j, a1, a2, a3, a4⟩ := once_single ws hone
    obtain ⟨i, b1, b2, b3, b4⟩ := once_single _ (hp.trans hone)
    rw [hl] at b1 b4
    rw [map_at] at b2
    have := a3 i b1 ((scl_pos hc _).1 b2)
    subst this
    rw [a4, b4]
  · rw [once_is _ h2 (by omega), once_is _ h1 hone, hp, hl, scl_leafs hc, scl_sort hc, scl_run hc]
theorem scales_end (l : List Int) (c : Int) (hc : 1 ≤ c ∧ c ≤ 20) (hl : l.length ≤ 60) (hr : ∀ x ∈ l, 0 ≤ x ∧ x ≤ 1000) (k : Nat) (hk : 100 ≤ k) : wherrylaw03_TreeScales.l0 k l c l.sum (l.map (fun x => c * x)) (l.length : Int) = some true := by
  obtain ⟨k, rfl⟩ : ∃ m, k = m + 1 := ⟨k - 1, by omega⟩
  simp only [wherrylaw03_TreeScales.l0]
  rw [if_neg (by omega)]
  by_cases hs : l.sum ≥ 1500
  · rw [if_pos hs]
  · rw [if_neg hs]
    have w1 : weighs l = true := (weighs_iff l).2 ⟨by omega, fun x hx => by have := hr x hx; omega⟩
    have w2 : weighs (l.map (fun x => c * x)) = true := (weighs_iff _).2 ⟨by rw [List.length_map]; omega, fun x hx => by
      obtain ⟨y, hy, rfl⟩ := List.mem_map.1 hx
      have h1 := hr y hy
      have h2 : 0 ≤ c * y := Int.mul_nonneg (by omega) h1.1
      have h3 : c * y ≤ 20 * 1000 := Int.mul_le_mul hc.2 h1.2 h1.1 (by omega)
      omega⟩
    have e := scl_once (show 0 < c by omega) l w1 w2
    have hf : ∀ v ∈ onceOf l, v ≤ 15 := fun v hv => (once_flat l w1 (by omega) v hv).2
    rw [lens_flat w1 hf, lens_flat w2 (by rw [e]; exact hf), e]
    simp only [Option.bind_some]
    rw [if_pos (by trivial), if_pos (by trivial), keepInts_is _ _ (by rw [once_length]; omega) k (by rw [once_length]; omega), decide_eq_true rfl]
    simp only [Option.bind_some]
    rw [if_pos (by trivial), wakes03_is k (by omega)]
    rfl
theorem scales_loop (l : List Int) (c : Int) (hc : 1 ≤ c ∧ c ≤ 20) (hl : l.length ≤ 60) : ∀ (d i k : Nat), i + d = l.length → d + 100 ≤ k → (∀ x ∈ l.take i, 0 ≤ x ∧ x ≤ 1000) → wherrylaw03_TreeScales.l0 k l c (l.take i).sum ((l.take i).map (fun x => c * x)) (i : Int) = some true := by
  intro d
  induction d with
  | zero =>
    intro i k hi hk hr
    have e : i = l.length := by omega
    subst e
    rw [List.take_length] at hr ⊢
    exact scales_end l c hc hl hr k (by omega)
  | succ d ih =>
    intro i k hi hk hr
    have hlt : i < l.length := by omega
    obtain ⟨k, rfl⟩ : ∃ m, k = m + 1 := ⟨k - 1, by omega⟩
    have e : rd l (i : Int) = l[i] := by rw [rd_nat]; simp [hlt]
    simp only [wherrylaw03_TreeScales.l0]
    rw [if_pos (by omega), if_pos (by omega), e]
    by_cases h0 : l[i] < 0
    · rw [if_pos h0]
    · rw [if_neg h0]
      by_cases h1 : l[i] > 1000
      · rw [if_pos h1]
      · rw [if_neg h1, if_pos (by rw [List.length_map, List.length_take]; omega)]
        have hb := sum_le 1000 (l.take i) hr
        rw [List.length_take] at hb
        have h2 : 0 ≤ c * l[i] := Int.mul_nonneg (by omega) (by omega)
        have h3 : c * l[i] ≤ 20 * 1000 := Int.mul_le_mul hc.2 (by omega) (by omega) (by omega)
        rw [wrap64_in (a := (l.take i).sum + l[i]) (by omega) (by omega), wrap64_in (a := c * l[i]) (by omega) (by omega), wrap64_in (a := (i : Int) + 1) (by omega) (by omega)]
        have hr' : ∀ x ∈ l.take (i + 1), 0 ≤ x ∧ x ≤ 1000 := by
          intro x hx
          rw [List.take_succ_eq_append_getElem hlt] at hx
          rcases List.mem_append.1 hx with hx | hx
          · exact hr x hx
          · rw [List.mem_singleton.1 hx]; omega
        have := ih (i + 1) k (by omega) (by omega) hr'
        rw [List.take_succ_eq_append_getElem hlt, List.sum_append, List.map_append] at this
        simpa using this
theorem TreeScales : wherrylaw03_TreeScales.Pure := by
  intro l0 a1 m0 _ _ _
  refine ⟨300, ?_⟩
  unfold wherrylaw03_TreeScales.f
  by_cases h : (l0.length : Int) > 60
  · rw [if_pos h]
  · rw [if_neg h]
    obtain ⟨n, hn, e⟩ := tmod_u64 a1 20 (by omega) (by omega)
    rw [e, wrap64_in (by omega) (by omega)]
    exact scales_loop l0 (1 + n) (by omega) (by omega) l0.length 0 300 (by omega) (by omega) (by simp)
end Go.Proofs.Ytaoeghdpmmeaiaa.Pure
