/- The tree's rounds are those over a row sorted by weight; used by the claims of this seat. -/
import Derived.Test.YtaoeghdpmmeaiaaTreeGlue
import Derived.Test.YtaoeghdpmmeaiaaPx7
import Derived.Test.YtaoeghdpmmeaiaaPx10
namespace Go.Proofs.Ytaoeghdpmmeaiaa.Glue
open Go.RowKit Go.Proofs.Ytaoeghdpmmeaiaa.P Go.Proofs.YtaoeghdpmmeaiaaW.PrintWords Go.Proofs.YtaoeghdpmmeaiaaW.PrintLast Go.Proofs.YtaoeghdpmmeaiaaW.PrintMore
set_option linter.unusedVariables false
set_option linter.unusedSimpArgs false

/-- Laid in behind all that weigh no more. -/
def insQ (z : Int × List Int) : List (Int × List Int) → List (Int × List Int)
  | [] => [z]
  | x :: xs => if z.1 < x.1 then z :: x :: xs else x :: insQ z xs
def sortQ (ns : List (Int × List Int)) : List (Int × List Int) := ns.foldl (fun q z => insQ z q) []
theorem sortQ_snoc (ns : List (Int × List Int)) (z : Int × List Int) : sortQ (ns ++ [z]) = insQ z (sortQ ns) := by
  unfold sortQ
  rw [List.foldl_append]
  rfl
theorem leastTo_front (ws t : List Int) : ∀ k, k ≤ ws.length → leastTo (ws ++ t) k = leastTo ws k
  | 0, _ => rfl
  | k + 1, h => by
    rw [leastTo_succ, leastTo_succ, leastTo_front ws t k (by omega)]
    have e : ∀ j, j < ws.length → (ws ++ t).getD j 0 = ws.getD j 0 := by
      intro j hj
      rw [List.getD_eq_getElem?_getD, List.getD_eq_getElem?_getD, List.getElem?_append_left hj]
    have hl : leastTo ws k < ws.length := leastTo_lt ws k (by omega) (by omega)
    rw [e k (by omega), e _ hl]
theorem leastAt_snoc (ws : List Int) (v : Int) (h : 0 < ws.length) : leastAt (ws ++ [v]) = if v < ws.getD (leastAt ws) 0 then ws.length else leastAt ws := by
  unfold leastAt
  rw [List.length_append, List.length_singleton, leastTo_succ, leastTo_front ws [v] _ (Nat.le_refl _)]
  have e : (ws ++ [v]).getD ws.length 0 = v := by simp
  have hl : leastTo ws ws.length < ws.length := leastTo_lt ws _ (Nat.le_refl _) h
  have e2 : (ws ++ [v]).getD (leastTo ws ws.length) 0 = ws.getD (leastTo ws ws.length) 0 := by
    rw [List.getD_eq_getElem?_getD, List.getD_eq_getElem?_getD, List.getElem?_append_left hl]
  rw [e, e2]
theorem pick_weight (ns : List (Int × List Int)) (h : 0 < ns.length) : (ns.map (·.1)).getD (leastAt (ns.map (·.1))) 0 = (pickOf ns).1 := by
  obtain ⟨hl, hp⟩ := pick_mem ns h
  rw [hp]
  simp [hl]
theorem snoc_induct {α : Type} {P : List α → Prop} (h0 : P []) (h1 : ∀ l x, P l → P (l ++ [x])) (l : List α) : P l := by
  rw [← List.reverse_reverse l]
  induction l.reverse with
  | nil => exact h0
  | cons x xs ih => rw [List.reverse_cons]; exact h1 _ _ ih
/-- What is taken out first is the sorted row's first one. -/
theorem sortQ_pick (ns : List (Int × List Int)) : 0 < ns.length → sortQ ns = pickOf ns :: sortQ (restOf ns) := by
  induction ns using snoc_induct with
  | h0 => intro h; simp at h
  | h1 ns z ih =>
    intro _
    rw [sortQ_snoc]
    by_cases h0 : 0 < ns.length
    · have hs := leastAt_snoc (ns.map (·.1)) z.1 (by simpa using h0)
      rw [pick_weight ns h0, List.length_map] at hs
      have hm : (ns ++ [z]).map (·.1) = ns.map (·.1) ++ [z.1] := by simp
      obtain ⟨hl, hp⟩ := pick_mem ns h0
      rw [ih h0]
      show (if z.1 < (pickOf ns).1 then _ else _) = _
      by_cases hz : z.1 < (pickOf ns).1
      · rw [if_pos hz] at hs ⊢
        have e1 : pickOf (ns ++ [z]) = z := by unfold pickOf; rw [hm, hs]; simp
        have e2 : restOf (ns ++ [z]) = ns := by
          unfold restOf
          rw [hm, hs, List.eraseIdx_append_of_length_le (Nat.le_refl _), Nat.sub_self]
          simp
        rw [e1, e2, ih h0]
      · rw [if_neg hz] at hs ⊢
        have e1 : pickOf (ns ++ [z]) = pickOf ns := by
          unfold pickOf
          rw [hm, hs, List.getD_eq_getElem?_getD, List.getD_eq_getElem?_getD, List.getElem?_append_left hl]
        have e2 : restOf (ns ++ [z]) = restOf ns ++ [z] := by
          unfold restOf
          rw [hm, hs, List.eraseIdx_append_of_lt_length hl]
        rw [e1, e2, sortQ_snoc]
    · have hn : ns = [] := by cases ns with | nil => rfl | cons a b => simp at h0
      subst hn
      obtain ⟨hl, hp⟩ := pick_mem ([] ++ [z]) (by simp)
      have h1 : leastAt (([] ++ [z] : List (Int × List Int)).map (·.1)) = 0 := by
        have : ([] ++ [z] : List (Int × List Int)).length = 1 := rfl
        omega
      have e1 : pickOf ([] ++ [z]) = z := by unfold pickOf; rw [h1]; rfl
      have e2 : restOf ([] ++ [z]) = [] := by unfold restOf; rw [h1]; rfl
      rw [e1, e2]
      rfl
theorem insQ_length (z : Int × List Int) : ∀ q, (insQ z q).length = q.length + 1
  | [] => rfl
  | x :: xs => by
    unfold insQ
    by_cases h : z.1 < x.1
    · rw [if_pos h]; rfl
    · rw [if_neg h, List.length_cons, insQ_length z xs]; rfl
theorem sortQ_length (ns : List (Int × List Int)) : (sortQ ns).length = ns.length := by
  induction ns using snoc_induct with
  | h0 => rfl
  | h1 ns z ih => rw [sortQ_snoc, insQ_length, ih, List.length_append]; rfl
/-- The tree's rounds over a sorted row; a weight may wrap. -/
def qFrom : Nat → List (Int × List Int) → List Int → List Int
  | k + 1, x :: y :: r, out => qFrom k (insQ (wrap64 (x.1 + y.1), x.2 ++ y.2) r) (bump out (x.2 ++ y.2))
  | _, _, out => out
theorem rest_length (ns : List (Int × List Int)) (h : 0 < ns.length) : (restOf ns).length = ns.length - 1 := by
  obtain ⟨hl, _⟩ := pick_mem ns h
  unfold restOf
  rw [List.length_eraseIdx_of_lt hl]
theorem once_q : ∀ (k : Nat) (ns : List (Int × List Int)) (out : List Int), onceFrom k ns out = qFrom k (sortQ ns) out
  | 0, _, _ => by unfold onceFrom qFrom; rfl
  | k + 1, ns, out => by
    by_cases h : 1 < ns.length
    · have e1 := sortQ_pick ns (by omega)
      have e2 := sortQ_pick (restOf ns) (by rw [rest_length ns (by omega)]; omega)
      unfold onceFrom
      rw [if_pos h, once_q k, e1, e2]
      unfold mergeOf
      rw [sortQ_snoc]
      rfl
    · rw [onceFrom_end _ _ _ h]
      have hl := sortQ_length ns
      match hq : sortQ ns with
      | [] => rfl
      | [_] => rfl
      | _ :: _ :: _ => rw [hq] at hl; simp at hl; omega
/-- The same, no weight wraps. -/
def qRun : Nat → List (Int × List Int) → List Int → List Int
  | k + 1, x :: y :: r, out => qRun k (insQ (x.1 + y.1, x.2 ++ y.2) r) (bump out (x.2 ++ y.2))
  | _, _, out => out
theorem insQ_mem (z x : Int × List Int) : ∀ q, x ∈ insQ z q ↔ x = z ∨ x ∈ q
  | [] => by simp [insQ]
  | y :: ys => by
    unfold insQ
    by_cases h : z.1 < y.1
    · rw [if_pos h, List.mem_cons]
    · rw [if_neg h, List.mem_cons, insQ_mem z x ys, List.mem_cons]
      constructor
      · rintro (h | h | h)
        · exact Or.inr (Or.inl h)
        · exact Or.inl h
        · exact Or.inr (Or.inr h)
      · rintro (h | h | h)
        · exact Or.inr (Or.inl h)
        · exact Or.inl h
        · exact Or.inr (Or.inr h)
theorem insQ_perm (z : Int × List Int) : ∀ q, (insQ z q).Perm (z :: q)
  | [] => List.Perm.refl _
  | y :: ys => by
    unfold insQ
    by_cases h : z.1 < y.1
    · rw [if_pos h]
    · rw [if_neg h]
      exact ((insQ_perm z ys).cons y).trans (List.Perm.swap z y ys)
theorem insQ_sum (f : Int × List Int → Int) (z : Int × List Int) : ∀ q, ((insQ z q).map f).sum = f z + (q.map f).sum
  | [] => by simp [insQ]
  | y :: ys => by
    unfold insQ
    by_cases h : z.1 < y.1
    · rw [if_pos h]; simp
    · rw [if_neg h, List.map_cons, List.sum_cons, insQ_sum f z ys, List.map_cons, List.sum_cons]; omega
theorem insQ_sumN (f : Int × List Int → Nat) (z : Int × List Int) : ∀ q, ((insQ z q).map f).sum = f z + (q.map f).sum
  | [] => by simp [insQ]
  | y :: ys => by
    unfold insQ
    by_cases h : z.1 < y.1
    · rw [if_pos h]; simp
    · rw [if_neg h, List.map_cons, List.sum_cons, insQ_sumN f z ys, List.map_cons, List.sum_cons]; omega
theorem insQ_sorted (z : Int × List Int) : ∀ q : List (Int × List Int), q.Pairwise (fun a b => a.1 ≤ b.1) → (insQ z q).Pairwise (fun a b => a.1 ≤ b.1)
  | [], _ => by simp [insQ]
  | y :: ys, hq => by
    unfold insQ
    rw [List.pairwise_cons] at hq
    by_cases h : z.1 < y.1
    · rw [if_pos h]
      refine List.pairwise_cons.2 ⟨fun b hb => ?_, List.pairwise_cons.2 hq⟩
      rcases List.mem_cons.1 hb with rfl | hb
      · omega
      · have := hq.1 b hb; omega
    · rw [if_neg h]
      refine List.pairwise_cons.2 ⟨fun b hb => ?_, insQ_sorted z ys hq.2⟩
      rcases (insQ_mem z b ys).1 hb with rfl | hb
      · omega
      · exact hq.1 b hb
theorem insQ_last (z : Int × List Int) : ∀ q : List (Int × List Int), (∀ x ∈ q, x.1 ≤ z.1) → insQ z q = q ++ [z]
  | [], _ => rfl
  | y :: ys, h => by
    unfold insQ
    rw [if_neg (by have := h y List.mem_cons_self; omega), insQ_last z ys (fun x hx => h x (List.mem_cons_of_mem _ hx))]
    rfl
theorem sortQ_sorted (ns : List (Int × List Int)) : (sortQ ns).Pairwise (fun a b => a.1 ≤ b.1) := by
  induction ns using snoc_induct with
  | h0 => exact List.Pairwise.nil
  | h1 ns z ih => rw [sortQ_snoc]; exact insQ_sorted _ _ ih
theorem sortQ_perm (ns : List (Int × List Int)) : (sortQ ns).Perm ns := by
  induction ns using snoc_induct with
  | h0 => exact List.Perm.refl _
  | h1 ns z ih =>
    rw [sortQ_snoc]
    exact (insQ_perm _ _).trans ((ih.cons z).trans (List.perm_append_singleton z ns).symm)
theorem sum_pos (f : Int × List Int → Int) : ∀ q : List (Int × List Int), (∀ x ∈ q, 0 ≤ f x) → 0 ≤ (q.map f).sum ∧ ∀ x ∈ q, f x ≤ (q.map f).sum
  | [], _ => by simp
  | y :: ys, h => by
    obtain ⟨h1, h2⟩ := sum_pos f ys (fun x hx => h x (List.mem_cons_of_mem _ hx))
    have := h y List.mem_cons_self
    rw [List.map_cons, List.sum_cons]
    refine ⟨by omega, fun x hx => ?_⟩
    rcases List.mem_cons.1 hx with rfl | hx
    · omega
    · have := h2 x hx; omega
theorem q_lift : ∀ (k : Nat) (q : List (Int × List Int)) (out : List Int), (∀ x ∈ q, 0 ≤ x.1) → (q.map (·.1)).sum ≤ 2 ^ 40 → qFrom k q out = qRun k q out
  | 0, _, _, _, _ => by unfold qFrom qRun; rfl
  | k + 1, [], _, _, _ => rfl
  | k + 1, [_], _, _, _ => rfl
  | k + 1, x :: y :: r, out, h0, hs => by
    have hx := h0 x List.mem_cons_self
    have hy := h0 y (List.mem_cons_of_mem _ List.mem_cons_self)
    have hr := (sum_pos (·.1) r (fun z hz => h0 z (List.mem_cons_of_mem _ (List.mem_cons_of_mem _ hz)))).1
    simp only [List.map_cons, List.sum_cons] at hs
    have e : wrap64 (x.1 + y.1) = x.1 + y.1 := wrap64_in (by omega) (by omega)
    show qFrom k _ _ = qRun k _ _
    rw [e]
    refine q_lift k _ _ (fun z hz => ?_) ?_
    · rcases (insQ_mem _ _ _).1 hz with rfl | hz
      · show 0 ≤ x.1 + y.1; omega
      · exact h0 z (List.mem_cons_of_mem _ (List.mem_cons_of_mem _ hz))
    · rw [insQ_sum]
      show x.1 + y.1 + _ ≤ _
      omega
theorem qRun_ind {P : List (Int × List Int) → List Int → Prop} (step : ∀ x y r out, P (x :: y :: r) out → P (insQ (x.1 + y.1, x.2 ++ y.2) r) (bump out (x.2 ++ y.2))) :
    ∀ (k : Nat) (q : List (Int × List Int)) (out : List Int), q.length ≤ k + 1 → P q out → ∃ q', q'.length ≤ 1 ∧ (0 < q.length → q'.length = 1) ∧ P q' (qRun k q out)
  | 0, q, out, hl, hP => ⟨q, by omega, fun _ => by omega, by unfold qRun; exact hP⟩
  | k + 1, [], out, _, hP => ⟨[], by simp, by simp, hP⟩
  | k + 1, [x], out, _, hP => ⟨[x], by simp, by simp, hP⟩
  | k + 1, x :: y :: r, out, hl, hP => by
    obtain ⟨q', h1, h2, h3⟩ := qRun_ind step k (insQ (x.1 + y.1, x.2 ++ y.2) r) (bump out (x.2 ++ y.2)) (by rw [insQ_length]; simp at hl; omega) (step x y r out hP)
    exact ⟨q', h1, fun _ => h2 (by rw [insQ_length]; omega), h3⟩
end Go.Proofs.Ytaoeghdpmmeaiaa.Glue
