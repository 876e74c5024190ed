/- The lengths of a tree fill all that there is: they make codes; used by the claims of this seat. -/
import Derived.Test.YtaoeghdpmmeaiaaTreeFuel
import Derived.Test.YtaoeghdpmmeaiaaCanonG
import Derived.Test.YtaoeghdpmmeaiaaPx4
import Derived.Test.YtaoeghdpmmeaiaaPx10
import Derived.Test.YtaoeghdpmmeaiaaPx20
import Derived.Test.YtaoeghdpmmeaiaaPx21
import Derived.Test.YtaoeghdpmmeaiaaPx22
namespace Go.Proofs.Ytaoeghdpmmeaiaa.Glue
open Go.RowKit Go.Proofs.Ytaoeghdpmmeaiaa.P Go.Proofs.YtaoeghdpmmeaiaaW.PrintWords Go.Proofs.YtaoeghdpmmeaiaaW.PrintLast Go.Proofs.YtaoeghdpmmeaiaaW.PrintMore
set_option linter.unusedVariables false
set_option linter.unusedSimpArgs false

theorem front_at (l : List Int) (v : Int) {i : Nat} (hi : i < l.length) : (l ++ [v]).getD i 0 = l.getD i 0 := by
  rw [List.getD_eq_getElem?_getD, List.getD_eq_getElem?_getD, List.getElem?_append_left hi]
theorem front_syms (l : List Int) (v : Int) (n : Nat) : ∀ i, i ≤ l.length → symsTo (l ++ [v]) i n = symsTo l i n
  | 0, _ => rfl
  | i + 1, h => by rw [symsTo_step, symsTo_step, front_syms l v n i (by omega), front_at l v (by omega)]
theorem snoc_cnt (l : List Int) (v : Int) (n : Nat) : cnt (l ++ [v]) n = cnt l n + if v = (n : Int) ∧ 0 < n then 1 else 0 := by
  unfold cnt
  rw [List.length_append, List.length_singleton, symsTo_step, front_syms l _ n _ (Nat.le_refl _), List.length_append]
  congr 1
  have : (l ++ [v]).getD l.length 0 = v := by simp
  rw [this]
  split <;> rfl
theorem weight_snoc (c : Nat → Nat) (v : Int) (h0 : 0 ≤ v) (h15 : v ≤ 15) : ∀ N, weighTo (fun n => c n + if v = (n : Int) ∧ 0 < n then 1 else 0) N = weighTo c N + if 0 < v ∧ v ≤ N then 2 ^ (15 - v.toNat) else 0
  | 0 => by rw [if_neg (by omega)]; rfl
  | N + 1 => by
    simp only [weighTo]
    rw [weight_snoc c v h0 h15 N, Nat.add_mul]
    by_cases h1 : 0 < v ∧ v ≤ N
    · rw [if_pos h1, if_neg (show ¬ (v = ((N + 1 : Nat) : Int) ∧ 0 < N + 1) by omega), if_pos (show 0 < v ∧ v ≤ ((N + 1 : Nat) : Int) by omega)]; omega
    · rw [if_neg h1]
      by_cases h2 : v = ((N + 1 : Nat) : Int)
      · rw [if_pos ⟨h2, by omega⟩, if_pos (show 0 < v ∧ v ≤ ((N + 1 : Nat) : Int) by omega), show v.toNat = N + 1 from by omega]; omega
      · rw [if_neg (fun h => h2 h.1), if_neg (show ¬ (0 < v ∧ v ≤ ((N + 1 : Nat) : Int)) by omega)]; omega
theorem all_snoc (c : Nat → Nat) (v : Int) (h0 : 0 ≤ v) (h15 : v ≤ 15) : ∀ N, allTo (fun n => c n + if v = (n : Int) ∧ 0 < n then 1 else 0) N = allTo c N + if 0 < v ∧ v ≤ N then 1 else 0
  | 0 => by rw [if_neg (by omega)]; rfl
  | N + 1 => by
    simp only [allTo]
    rw [all_snoc c v h0 h15 N]
    by_cases h1 : 0 < v ∧ v ≤ N
    · rw [if_pos h1, if_neg (show ¬ (v = ((N + 1 : Nat) : Int) ∧ 0 < N + 1) by omega), if_pos (show 0 < v ∧ v ≤ ((N + 1 : Nat) : Int) by omega)]; omega
    · rw [if_neg h1]
      by_cases h2 : v = ((N + 1 : Nat) : Int)
      · rw [if_pos ⟨h2, by omega⟩, if_pos (show 0 < v ∧ v ≤ ((N + 1 : Nat) : Int) by omega)]; omega
      · rw [if_neg (fun h => h2 h.1), if_neg (show ¬ (0 < v ∧ v ≤ ((N + 1 : Nat) : Int)) by omega)]; omega
/-- What lengths weigh, symbol by symbol. -/
def wTerm (v : Int) : Nat := if 0 < v then 2 ^ (15 - v.toNat) else 0
theorem cW_sum (l : List Int) : (∀ x ∈ l, 0 ≤ x ∧ x ≤ 15) → cW l = (l.map wTerm).sum := by
  induction l using snoc_induct with
  | h0 => intro _; decide
  | h1 l v ih =>
    intro h
    have hv := h v (by simp)
    have e : (fun n => (symsTo (l ++ [v]) (l ++ [v]).length n).length) = fun n => cnt l n + if v = (n : Int) ∧ 0 < n then 1 else 0 := funext (snoc_cnt l v)
    have := ih (fun x hx => h x (List.mem_append_left _ hx))
    unfold cW at this ⊢
    rw [e, weight_snoc _ v hv.1 hv.2, List.map_append, List.sum_append, ← this]
    show weighTo (cnt l) 15 + _ = weighTo (cnt l) 15 + _
    congr 1
    unfold wTerm
    by_cases h0 : 0 < v
    · rw [if_pos ⟨h0, by omega⟩]; simp [h0]
    · rw [if_neg (fun h => h0 h.1)]; simp [h0]
theorem cA_sum (l : List Int) : (∀ x ∈ l, 0 ≤ x ∧ x ≤ 15) → cA l = (l.map (fun v => if 0 < v then 1 else 0)).sum := by
  induction l using snoc_induct with
  | h0 => intro _; decide
  | h1 l v ih =>
    intro h
    have hv := h v (by simp)
    have e : (fun n => (symsTo (l ++ [v]) (l ++ [v]).length n).length) = fun n => cnt l n + if v = (n : Int) ∧ 0 < n then 1 else 0 := funext (snoc_cnt l v)
    have := ih (fun x hx => h x (List.mem_append_left _ hx))
    unfold cA at this ⊢
    rw [e, all_snoc _ v hv.1 hv.2, List.map_append, List.sum_append, ← this]
    show allTo (cnt l) 15 + _ = allTo (cnt l) 15 + _
    congr 1
    by_cases h0 : 0 < v
    · rw [if_pos ⟨h0, by omega⟩]; simp [h0]
    · rw [if_neg (fun h => h0 h.1)]; simp [h0]
theorem cnt_sum (n : Nat) (l : List Int) : cnt l n = (l.map (fun v => if v = (n : Int) ∧ 0 < n then 1 else 0)).sum := by
  induction l using snoc_induct with
  | h0 => rfl
  | h1 l v ih => rw [snoc_cnt, List.map_append, List.sum_append, ih]; simp
theorem sum_single (f : Int → Nat) (h : f 0 = 0) : ∀ (n j : Nat), j < n → (((List.replicate n (0 : Int)).set j 1).map f).sum = f 1
  | n + 1, 0, _ => by
    rw [List.replicate_succ, List.set_cons_zero, List.map_cons, List.sum_cons, List.map_replicate, h]
    simp
  | n + 1, j + 1, hj => by
    rw [List.replicate_succ, List.set_cons_succ, List.map_cons, List.sum_cons, h, sum_single f h n j (by omega)]
    omega
theorem QInv.perm {ws : List Int} {x : Int × List Int} {out : List Int} (h : QInv ws [x] out) : ((leafs ws ws.length).flatMap (·.2)).Perm x.2 := by
  refine (List.perm_ext_iff_of_nodup (leafs_nodup ws _) (by have := h.nodup; simpa using this)).2 fun a => ?_
  constructor
  · intro ha
    obtain ⟨y, hy, hay⟩ := List.mem_flatMap.1 ha
    obtain ⟨j, h1, h2, rfl⟩ := (leafs_mem ws _ y).1 hy
    have e : a = (j : Int) := by simpa using hay
    rw [e]
    exact (h.total h1).1 h2
  · intro ha
    have := h.syms x (by simp) a ha
    obtain ⟨j, rfl⟩ : ∃ j : Nat, a = (j : Int) := ⟨a.toNat, by omega⟩
    exact List.mem_flatMap.2 ⟨_, (leafs_mem ws _ _).2 ⟨j, by omega, (h.total (by omega)).2 ha, rfl⟩, by simp⟩
/-- As deep as there may be. -/
def deepest : Nat := 300
theorem deepest_is : deepest = 300 := rfl
/-- What a place adds, in parts of 2^300. -/
def kTerm (out : List Int) (s : Int) : Nat := 2 ^ (deepest - (rd out s).toNat)
theorem half_terms (o o' : List Int) : ∀ l : List Int, (∀ s ∈ l, rd o' s = rd o s + 1 ∧ 0 ≤ rd o s ∧ rd o s < 300) → 2 * (l.map (kTerm o')).sum = (l.map (kTerm o)).sum
  | [], _ => rfl
  | s :: r, h => by
    have h1 := h s List.mem_cons_self
    have e : 2 * kTerm o' s = kTerm o s := by
      unfold kTerm
      have := deepest_is
      rw [h1.1, show deepest - (rd o s).toNat = (deepest - (rd o s + 1).toNat) + 1 from by omega, Nat.pow_succ]
      omega
    rw [List.map_cons, List.sum_cons, List.map_cons, List.sum_cons, ← half_terms o o' r (fun t ht => h t (List.mem_cons_of_mem _ ht)), ← e]
    omega
theorem same_terms (o o' : List Int) (l : List Int) (h : ∀ s ∈ l, rd o' s = rd o s) : (l.map (kTerm o')).sum = (l.map (kTerm o)).sum := by
  congr 1
  exact List.map_congr_left fun s hs => by unfold kTerm; rw [h s hs]
/-- The lengths fill all that there is. -/
theorem once_kraft (ws : List Int) (h : weighs ws = true) (h2 : 2 ≤ pos ws) : ∃ x, QInv ws [x] (onceOf ws) ∧ (x.2.map (kTerm (onceOf ws))).sum = 2 ^ deepest ∧ ∀ s ∈ x.2, 1 ≤ rd (onceOf ws) s := by
  obtain ⟨w1, _⟩ := (weighs_iff ws).1 h
  obtain ⟨x, hx, hP⟩ := once_ind ws h h2 (P := fun q out => ∀ x ∈ q, (x.2.map (kTerm out)).sum = 2 ^ deepest ∧ (2 ≤ x.2.length → ∀ s ∈ x.2, 1 ≤ rd out s))
    (fun x hx => by
      obtain ⟨j, _, _, rfl⟩ := (leafs_mem ws _ x).1 ((sortQ_perm _).mem_iff.1 hx)
      refine ⟨?_, fun hl => by simp at hl⟩
      show (kTerm _ (j : Int)) + 0 = _
      unfold kTerm
      rw [rd_zeros]
      simp)
    (fun x y r out hq hP z hz => by
      obtain ⟨o1, o2, o3, _⟩ := q_outs (by omega) hq
      have hx : x ∈ x :: y :: r := List.mem_cons_self
      have hy : y ∈ x :: y :: r := List.mem_cons_of_mem _ List.mem_cons_self
      rcases (insQ_mem _ _ _).1 hz with rfl | hz
      · have e1 := half_terms out (bump out (x.2 ++ y.2)) x.2 (fun s hs => by
          have a := hq.outs x hx s hs
          have b := hq.long hx
          exact ⟨o1 s hs, a.1, by omega⟩)
        have e2 := half_terms out (bump out (x.2 ++ y.2)) y.2 (fun s hs => by
          have a := hq.outs y hy s hs
          have b := hq.long hy
          exact ⟨o2 s hs, a.1, by omega⟩)
        rw [(hP x hx).1] at e1
        rw [(hP y hy).1] at e2
        refine ⟨?_, fun _ s hs => ?_⟩
        · show ((x.2 ++ y.2).map _).sum = _
          rw [List.map_append, List.sum_append]
          generalize (x.2.map (kTerm (bump out (x.2 ++ y.2)))).sum = p at e1 ⊢
          generalize (y.2.map (kTerm (bump out (x.2 ++ y.2)))).sum = t at e2 ⊢
          generalize 2 ^ deepest = T at e1 e2 ⊢
          omega
        · rcases List.mem_append.1 hs with hs | hs
          · rw [o1 s hs]; have := (hq.outs x hx s hs).1; omega
          · rw [o2 s hs]; have := (hq.outs y hy s hs).1; omega
      · have hzr := List.mem_cons_of_mem x (List.mem_cons_of_mem y hz)
        refine ⟨by rw [same_terms out _ z.2 (o3 z hz)]; exact (hP z hzr).1, fun hl s hs => ?_⟩
        rw [o3 z hz s hs]
        exact (hP z hzr).2 hl s hs)
  refine ⟨x, hx, (hP x (by simp)).1, (hP x (by simp)).2 ?_⟩
  have hl := hx.perm.length_eq
  have hg : ∀ i : Nat, ((leafs ws i).flatMap (·.2)).length = (leafs ws i).length := by
    intro i
    induction i with
    | zero => rfl
    | succ i ih =>
      rw [leafs_succ, List.flatMap_append, List.length_append, List.length_append, ih]
      congr 1
      by_cases hp : 0 < ws.getD i 0
      · rw [if_pos hp]; rfl
      · rw [if_neg hp]; rfl
  rw [hg, leafs_count] at hl
  omega
/-- Just weights above 0 have a length. -/
theorem once_has (ws : List Int) (h : weighs ws = true) {i : Nat} (hi : i < ws.length) : 0 < rd (onceOf ws) (i : Int) ↔ 0 < ws.getD i 0 := by
  by_cases h0 : pos ws = 0
  · rw [once_none ws h0, rd_zeros]
    constructor
    · intro hh; omega
    · intro hh
      exfalso
      have : (leafs ws ws.length).length = 0 := by rw [leafs_count, h0]
      have hm := (leafs_mem ws ws.length _).2 ⟨i, hi, hh, rfl⟩
      rw [List.length_eq_zero_iff.1 this] at hm
      simp at hm
  · by_cases h1 : pos ws = 1
    · obtain ⟨j, hj, a1, a2, e⟩ := once_single ws h1
      have := rd_set (List.replicate ws.length 0) (j : Int) (i : Int) 1 (by omega) (by omega) (by simp; omega)
      rw [Int.toNat_natCast] at this
      rw [e, this]
      by_cases hij : (i : Int) = j
      · rw [if_pos hij]
        have : i = j := by omega
        subst this
        exact ⟨fun _ => a1, fun _ => by omega⟩
      · rw [if_neg hij, rd_zeros]
        exact ⟨fun hh => by omega, fun hh => by have := a2 i hi hh; omega⟩
    · obtain ⟨x, hx, _, ho⟩ := once_kraft ws h (by omega)
      constructor
      · intro hh
        refine Classical.byContradiction fun hc => ?_
        rw [hx.zero i hi hc] at hh
        omega
      · intro hh
        have := ho _ ((hx.total hi).1 hh)
        omega
theorem terms_take (ws l : List Int) (hl : l.length = ws.length) (h : ∀ i : Nat, i < ws.length → (0 < rd l (i : Int) ↔ 0 < ws.getD i 0)) : ∀ i : Nat, i ≤ ws.length → ((l.take i).map wTerm).sum = (((leafs ws i).flatMap (·.2)).map (fun s => 2 ^ (15 - (rd l s).toNat))).sum
  | 0, _ => by simp [leafs]
  | i + 1, hi => by
    have hlt : i < l.length := by omega
    rw [List.take_succ_eq_append_getElem hlt, List.map_append, List.sum_append, terms_take ws l hl h i (by omega), leafs_succ, List.flatMap_append, List.map_append, List.sum_append]
    congr 1
    have e : rd l (i : Int) = l[i] := by rw [rd_nat]; simp [hlt]
    have hh := h i (by omega)
    rw [e] at hh
    unfold wTerm
    by_cases hp : 0 < ws.getD i 0
    · rw [if_pos hp]
      simp [hh.2 hp, e]
    · rw [if_neg hp]
      have : ¬ 0 < l[i] := fun h => hp (hh.1 h)
      simp [this]
theorem scale_terms (o : List Int) : ∀ l : List Int, (∀ s ∈ l, rd o s ≤ 15) → (l.map (kTerm o)).sum = 2 ^ (deepest - 15) * (l.map (fun s => 2 ^ (15 - (rd o s).toNat))).sum
  | [], _ => rfl
  | s :: r, h => by
    have h1 := h s List.mem_cons_self
    rw [List.map_cons, List.sum_cons, List.map_cons, List.sum_cons, scale_terms o r (fun t ht => h t (List.mem_cons_of_mem _ ht)), Nat.mul_add]
    congr 1
    unfold kTerm
    have := deepest_is
    rw [← Nat.pow_add]
    congr 1
    omega
/-- The lengths make codes, where none is above 15. -/
theorem once_check (ws : List Int) (h : weighs ws = true) (hb : ∀ v ∈ onceOf ws, v ≤ 15) : canon_Check.f (onceOf ws) = some 0 := by
  obtain ⟨w1, _⟩ := (weighs_iff ws).1 h
  have hr : ∀ v ∈ onceOf ws, 0 ≤ v ∧ v ≤ 15 := fun v hv => ⟨once_nonneg ws h v hv, hb v hv⟩
  refine (check_iff _).2 ⟨(rightB_iff _).2 ⟨by rw [once_length]; exact w1, hr⟩, ?_⟩
  unfold makesB
  simp only [Bool.or_eq_true, beq_iff_eq, Bool.and_eq_true]
  by_cases h0 : pos ws = 0
  · refine Or.inr (Or.inl ?_)
    rw [cA_sum _ hr, once_none ws h0, List.map_replicate]
    simp
  · by_cases h1 : pos ws = 1
    · obtain ⟨j, hj, _, _, e⟩ := once_single ws h1
      refine Or.inr (Or.inr ⟨?_, ?_⟩)
      · rw [cA_sum _ hr, e, sum_single _ (by simp) _ _ hj]
        rfl
      · have := cnt_sum 1 (onceOf ws)
        unfold cnt at this
        rw [this, e, sum_single _ (by simp) _ _ hj]
        rfl
    · obtain ⟨x, hx, hk, _⟩ := once_kraft ws h (by omega)
      refine Or.inl ?_
      have hx15 : ∀ s ∈ x.2, rd (onceOf ws) s ≤ 15 := by
        intro s hs
        have := hx.syms x (by simp) s hs
        obtain ⟨j, rfl⟩ : ∃ j : Nat, s = (j : Int) := ⟨s.toNat, by omega⟩
        exact hb _ (rd_lt_mem (by rw [once_length]; omega))
      rw [scale_terms _ _ hx15] at hk
      have ht := terms_take ws (onceOf ws) (once_length ws) (fun i hi => once_has ws h hi) ws.length (Nat.le_refl _)
      rw [← once_length ws, List.take_length] at ht
      rw [cW_sum _ hr, ht, once_length, (hx.perm.map _).sum_nat]
      generalize (x.2.map (fun s => 2 ^ (15 - (rd (onceOf ws) s).toNat))).sum = T at hk
      have e : (2 : Nat) ^ deepest = 2 ^ (deepest - 15) * 32768 := by
        rw [show (32768 : Nat) = 2 ^ 15 from rfl, ← Nat.pow_add]
        exact congrArg (fun n => 2 ^ n) (show deepest = deepest - 15 + 15 from by decide)
      rw [e] at hk
      exact Nat.eq_of_mul_eq_mul_left (Nat.pow_pos (by decide)) hk
end Go.Proofs.Ytaoeghdpmmeaiaa.Glue
