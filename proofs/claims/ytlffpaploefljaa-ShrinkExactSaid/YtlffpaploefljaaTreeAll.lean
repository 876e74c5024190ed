/- Plain laws on trees of weights: the rounds as a sorted row, what holds at each round, how deep they are, that they make codes; used by the claims of this seat. -/
import Derived.Test.YtlffpaploefljaaCanon
import Derived.Test.YtlffpaploefljaaPx5
import Derived.Test.YtlffpaploefljaaPx38
import Derived.Test.YtlffpaploefljaaPx39
namespace Go.Proofs.Ytlffpaploefljaa.Glue
open Go.RowKit Go.Proofs.Ytlffpaploefljaa.P Go.Proofs.YtlffpaploefljaaW.PrintWords Go.Proofs.YtlffpaploefljaaW.PrintLast Go.Proofs.YtlffpaploefljaaW.PrintMore
set_option linter.unusedVariables false
set_option linter.unusedSimpArgs false

/-- Laid in behind all that weigh no more. -/
def insQ (z : Int × List Int) : List (Int × List Int) → List (Int × List Int)
  | [] => [z]
  | x :: xs => if z.1 < x.1 then z :: x :: xs else x :: insQ z xs
def sortQ (ns : List (Int × List Int)) : List (Int × List Int) := ns.foldl (fun q z => insQ z q) []
theorem sortQ_snoc (ns : List (Int × List Int)) (z : Int × List Int) : sortQ (ns ++ [z]) = insQ z (sortQ ns) := by
  unfold sortQ
  rw [List.foldl_append]
  rfl
theorem leastTo_front (ws t : List Int) : ∀ k, k ≤ ws.length → leastTo (ws ++ t) k = leastTo ws k
  | 0, _ => rfl
  | k + 1, h => by
    rw [leastTo_succ, leastTo_succ, leastTo_front ws t k (by omega)]
    have e : ∀ j, j < ws.length → (ws ++ t).getD j 0 = ws.getD j 0 := by
      intro j hj
      rw [List.getD_eq_getElem?_getD, List.getD_eq_getElem?_getD, List.getElem?_append_left hj]
    have hl : leastTo ws k < ws.length := leastTo_lt ws k (by omega) (by omega)
    rw [e k (by omega), e _ hl]
theorem leastAt_snoc (ws : List Int) (v : Int) (h : 0 < ws.length) : leastAt (ws ++ [v]) = if v < ws.getD (leastAt ws) 0 then ws.length else leastAt ws := by
  unfold leastAt
  rw [List.length_append, List.length_singleton, leastTo_succ, leastTo_front ws [v] _ (Nat.le_refl _)]
  have e : (ws ++ [v]).getD ws.length 0 = v := by simp
  have hl : leastTo ws ws.length < ws.length := leastTo_lt ws _ (Nat.le_refl _) h
  have e2 : (ws ++ [v]).getD (leastTo ws ws.length) 0 = ws.getD (leastTo ws ws.length) 0 := by
    rw [List.getD_eq_getElem?_getD, List.getD_eq_getElem?_getD, List.getElem?_append_left hl]
  rw [e, e2]
theorem pick_weight (ns : List (Int × List Int)) (h : 0 < ns.length) : (ns.map (·.1)).getD (leastAt (ns.map (·.1))) 0 = (pickOf ns).1 := by
  obtain ⟨hl, hp⟩ := pick_mem ns h
  rw [hp]
  simp [hl]
theorem snoc_induct {α : Type} {P : List α → Prop} (h0 : P []) (h1 : ∀ l x, P l → P (l ++ [x])) (l : List α) : P l := by
  rw [← List.reverse_reverse l]
  induction l.reverse with
  | nil => exact h0
  | cons x xs ih => rw [List.reverse_cons]; exact h1 _ _ ih
/-- What is taken out first is the sorted row's first one. -/
theorem sortQ_pick (ns : List (Int × List Int)) : 0 < ns.length → sortQ ns = pickOf ns :: sortQ (restOf ns) := by
  induction ns using snoc_induct with
  | h0 => intro h; simp at h
  | h1 ns z ih =>
    intro _
    rw [sortQ_snoc]
    by_cases h0 : 0 < ns.length
    · have hs := leastAt_snoc (ns.map (·.1)) z.1 (by simpa using h0)
      rw [pick_weight ns h0, List.length_map] at hs
      have hm : (ns ++ [z]).map (·.1) = ns.map (·.1) ++ [z.1] := by simp
      obtain ⟨hl, hp⟩ := pick_mem ns h0
      rw [ih h0]
      show (if z.1 < (pickOf ns).1 then _ else _) = _
      by_cases hz : z.1 < (pickOf ns).1
      · rw [if_pos hz] at hs ⊢
        have e1 : pickOf (ns ++ [z]) = z := by unfold pickOf; rw [hm, hs]; simp
        have e2 : restOf (ns ++ [z]) = ns := by
          unfold restOf
          rw [hm, hs, List.eraseIdx_append_of_length_le (Nat.le_refl _), Nat.sub_self]
          simp
        rw [e1, e2, ih h0]
      · rw [if_neg hz] at hs ⊢
        have e1 : pickOf (ns ++ [z]) = pickOf ns := by
          unfold pickOf
          rw [hm, hs, List.getD_eq_getElem?_getD, List.getD_eq_getElem?_getD, List.getElem?_append_left hl]
        have e2 : restOf (ns ++ [z]) = restOf ns ++ [z] := by
          unfold restOf
          rw [hm, hs, List.eraseIdx_append_of_lt_length hl]
        rw [e1, e2, sortQ_snoc]
    · have hn : ns = [] := by cases ns with | nil => rfl | cons a b => simp at h0
      subst hn
      obtain ⟨hl, hp⟩ := pick_mem ([] ++ [z]) (by simp)
      have h1 : leastAt (([] ++ [z] : List (Int × List Int)).map (·.1)) = 0 := by
        have : ([] ++ [z] : List (Int × List Int)).length = 1 := rfl
        omega
      have e1 : pickOf ([] ++ [z]) = z := by unfold pickOf; rw [h1]; rfl
      have e2 : restOf ([] ++ [z]) = [] := by unfold restOf; rw [h1]; rfl
      rw [e1, e2]
      rfl
theorem insQ_length (z : Int × List Int) : ∀ q, (insQ z q).length = q.length + 1
  | [] => rfl
  | x :: xs => by
    unfold insQ
    by_cases h : z.1 < x.1
    · rw [if_pos h]; rfl
    · rw [if_neg h, List.length_cons, insQ_length z xs]; rfl
theorem sortQ_length (ns : List (Int × List Int)) : (sortQ ns).length = ns.length := by
  induction ns using snoc_induct with
  | h0 => rfl
  | h1 ns z ih => rw [sortQ_snoc, insQ_length, ih, List.length_append]; rfl
/-- The tree's rounds over a sorted row; a weight may wrap. -/
def qFrom : Nat → List (Int × List Int) → List Int → List Int
  | k + 1, x :: y :: r, out => qFrom k (insQ (wrap64 (x.1 + y.1), x.2 ++ y.2) r) (bump out (x.2 ++ y.2))
  | _, _, out => out
theorem rest_length (ns : List (Int × List Int)) (h : 0 < ns.length) : (restOf ns).length = ns.length - 1 := by
  obtain ⟨hl, _⟩ := pick_mem ns h
  unfold restOf
  rw [List.length_eraseIdx_of_lt hl]
theorem once_q : ∀ (k : Nat) (ns : List (Int × List Int)) (out : List Int), onceFrom k ns out = qFrom k (sortQ ns) out
  | 0, _, _ => by unfold onceFrom qFrom; rfl
  | k + 1, ns, out => by
    by_cases h : 1 < ns.length
    · have e1 := sortQ_pick ns (by omega)
      have e2 := sortQ_pick (restOf ns) (by rw [rest_length ns (by omega)]; omega)
      unfold onceFrom
      rw [if_pos h, once_q k, e1, e2]
      unfold mergeOf
      rw [sortQ_snoc]
      rfl
    · rw [onceFrom_end _ _ _ h]
      have hl := sortQ_length ns
      match hq : sortQ ns with
      | [] => rfl
      | [_] => rfl
      | _ :: _ :: _ => rw [hq] at hl; simp at hl; omega
/-- The same, no weight wraps. -/
def qRun : Nat → List (Int × List Int) → List Int → List Int
  | k + 1, x :: y :: r, out => qRun k (insQ (x.1 + y.1, x.2 ++ y.2) r) (bump out (x.2 ++ y.2))
  | _, _, out => out
theorem insQ_mem (z x : Int × List Int) : ∀ q, x ∈ insQ z q ↔ x = z ∨ x ∈ q
  | [] => by simp [insQ]
  | y :: ys => by
    unfold insQ
    by_cases h : z.1 < y.1
    · rw [if_pos h, List.mem_cons]
    · rw [if_neg h, List.mem_cons, insQ_mem z x ys, List.mem_cons]
      constructor
      · rintro (h | h | h)
        · exact Or.inr (Or.inl h)
        · exact Or.inl h
        · exact Or.inr (Or.inr h)
      · rintro (h | h | h)
        · exact Or.inr (Or.inl h)
        · exact Or.inl h
        · exact Or.inr (Or.inr h)
theorem insQ_perm (z : Int × List Int) : ∀ q, (insQ z q).Perm (z :: q)
  | [] => List.Perm.refl _
  | y :: ys => by
    unfold insQ
    by_cases h : z.1 < y.1
    · rw [if_pos h]
    · rw [if_neg h]
      exact ((insQ_perm z ys).cons y).trans (List.Perm.swap z y ys)
theorem insQ_sum (f : Int × List Int → Int) (z : Int × List Int) : ∀ q, ((insQ z q).map f).sum = f z + (q.map f).sum
  | [] => by simp [insQ]
  | y :: ys => by
    unfold insQ
    by_cases h : z.1 < y.1
    · rw [if_pos h]; simp
    · rw [if_neg h, List.map_cons, List.sum_cons, insQ_sum f z ys, List.map_cons, List.sum_cons]; omega
theorem insQ_sumN (f : Int × List Int → Nat) (z : Int × List Int) : ∀ q, ((insQ z q).map f).sum = f z + (q.map f).sum
  | [] => by simp [insQ]
  | y :: ys => by
    unfold insQ
    by_cases h : z.1 < y.1
    · rw [if_pos h]; simp
    · rw [if_neg h, List.map_cons, List.sum_cons, insQ_sumN f z ys, List.map_cons, List.sum_cons]; omega
theorem insQ_sorted (z : Int × List Int) : ∀ q : List (Int × List Int), q.Pairwise (fun a b => a.1 ≤ b.1) → (insQ z q).Pairwise (fun a b => a.1 ≤ b.1)
  | [], _ => by simp [insQ]
  | y :: ys, hq => by
    unfold insQ
    rw [List.pairwise_cons] at hq
    by_cases h : z.1 < y.1
    · rw [if_pos h]
      refine List.pairwise_cons.2 ⟨fun b hb => ?_, List.pairwise_cons.2 hq⟩
      rcases List.mem_cons.1 hb with rfl | hb
      · omega
      · have := hq.1 b hb; omega
    · rw [if_neg h]
      refine List.pairwise_cons.2 ⟨fun b hb => ?_, insQ_sorted z ys hq.2⟩
      rcases (insQ_mem z b ys).1 hb with rfl | hb
      · omega
      · exact hq.1 b hb
theorem insQ_last (z : Int × List Int) : ∀ q : List (Int × List Int), (∀ x ∈ q, x.1 ≤ z.1) → insQ z q = q ++ [z]
  | [], _ => rfl
  | y :: ys, h => by
    unfold insQ
    rw [if_neg (by have := h y List.mem_cons_self; omega), insQ_last z ys (fun x hx => h x (List.mem_cons_of_mem _ hx))]
    rfl
theorem sortQ_sorted (ns : List (Int × List Int)) : (sortQ ns).Pairwise (fun a b => a.1 ≤ b.1) := by
  induction ns using snoc_induct with
  | h0 => exact List.Pairwise.nil
  | h1 ns z ih => rw [sortQ_snoc]; exact insQ_sorted _ _ ih
theorem sortQ_perm (ns : List (Int × List Int)) : (sortQ ns).Perm ns := by
  induction ns using snoc_induct with
  | h0 => exact List.Perm.refl _
  | h1 ns z ih =>
    rw [sortQ_snoc]
    exact (insQ_perm _ _).trans ((ih.cons z).trans (List.perm_append_singleton z ns).symm)
theorem sum_pos (f : Int × List Int → Int) : ∀ q : List (Int × List Int), (∀ x ∈ q, 0 ≤ f x) → 0 ≤ (q.map f).sum ∧ ∀ x ∈ q, f x ≤ (q.map f).sum
  | [], _ => by simp
  | y :: ys, h => by
    obtain ⟨h1, h2⟩ := sum_pos f ys (fun x hx => h x (List.mem_cons_of_mem _ hx))
    have := h y List.mem_cons_self
    rw [List.map_cons, List.sum_cons]
    refine ⟨by omega, fun x hx => ?_⟩
    rcases List.mem_cons.1 hx with rfl | hx
    · omega
    · have := h2 x hx; omega
theorem q_lift : ∀ (k : Nat) (q : List (Int × List Int)) (out : List Int), (∀ x ∈ q, 0 ≤ x.1) → (q.map (·.1)).sum ≤ 2 ^ 40 → qFrom k q out = qRun k q out
  | 0, _, _, _, _ => by unfold qFrom qRun; rfl
  | k + 1, [], _, _, _ => rfl
  | k + 1, [_], _, _, _ => rfl
  | k + 1, x :: y :: r, out, h0, hs => by
    have hx := h0 x List.mem_cons_self
    have hy := h0 y (List.mem_cons_of_mem _ List.mem_cons_self)
    have hr := (sum_pos (·.1) r (fun z hz => h0 z (List.mem_cons_of_mem _ (List.mem_cons_of_mem _ hz)))).1
    simp only [List.map_cons, List.sum_cons] at hs
    have e : wrap64 (x.1 + y.1) = x.1 + y.1 := wrap64_in (by omega) (by omega)
    show qFrom k _ _ = qRun k _ _
    rw [e]
    refine q_lift k _ _ (fun z hz => ?_) ?_
    · rcases (insQ_mem _ _ _).1 hz with rfl | hz
      · show 0 ≤ x.1 + y.1; omega
      · exact h0 z (List.mem_cons_of_mem _ (List.mem_cons_of_mem _ hz))
    · rw [insQ_sum]
      show x.1 + y.1 + _ ≤ _
      omega
theorem qRun_ind {P : List (Int × List Int) → List Int → Prop} (step : ∀ x y r out, P (x :: y :: r) out → P (insQ (x.1 + y.1, x.2 ++ y.2) r) (bump out (x.2 ++ y.2))) :
    ∀ (k : Nat) (q : List (Int × List Int)) (out : List Int), q.length ≤ k + 1 → P q out → ∃ q', q'.length ≤ 1 ∧ (0 < q.length → q'.length = 1) ∧ P q' (qRun k q out)
  | 0, q, out, hl, hP => ⟨q, by omega, fun _ => by omega, by unfold qRun; exact hP⟩
  | k + 1, [], out, _, hP => ⟨[], by simp, by simp, hP⟩
  | k + 1, [x], out, _, hP => ⟨[x], by simp, by simp, hP⟩
  | k + 1, x :: y :: r, out, hl, hP => by
    obtain ⟨q', h1, h2, h3⟩ := qRun_ind step k (insQ (x.1 + y.1, x.2 ++ y.2) r) (bump out (x.2 ++ y.2)) (by rw [insQ_length]; simp at hl; omega) (step x y r out hP)
    exact ⟨q', h1, fun _ => h2 (by rw [insQ_length]; omega), h3⟩
end Go.Proofs.Ytlffpaploefljaa.Glue
namespace Go.Proofs.Ytlffpaploefljaa.Glue
open Go.RowKit Go.Proofs.Ytlffpaploefljaa.P Go.Proofs.YtlffpaploefljaaW.PrintWords Go.Proofs.YtlffpaploefljaaW.PrintLast Go.Proofs.YtlffpaploefljaaW.PrintMore
set_option linter.unusedVariables false
set_option linter.unusedSimpArgs false

theorem rd_set (out : List Int) (t s v : Int) (ht : 0 ≤ t) (hs : 0 ≤ s) (hl : t < out.length) : rd (out.set t.toNat v) s = if s = t then v else rd out s := by
  unfold rd
  by_cases h : s = t
  · subst h
    rw [if_pos rfl, List.getD_eq_getElem?_getD, List.getElem?_set_self (by omega)]
    rfl
  · rw [if_neg h, List.getD_eq_getElem?_getD, List.getD_eq_getElem?_getD, List.getElem?_set_ne (by omega)]
theorem bump_rd : ∀ (both out : List Int) (s : Int), both.Nodup → (∀ t ∈ both, 0 ≤ t ∧ t < out.length) → (∀ t ∈ both, 0 ≤ rd out t ∧ rd out t < 2 ^ 40) → 0 ≤ s → rd (bump out both) s = if s ∈ both then rd out s + 1 else rd out s
  | [], out, s, _, _, _, _ => by rw [if_neg (by simp)]; rfl
  | t :: r, out, s, hn, hr, ho, hs => by
    rw [List.nodup_cons] at hn
    have ht := hr t List.mem_cons_self
    have hot := ho t List.mem_cons_self
    have hw : wrap64 (rd out t + 1) = rd out t + 1 := wrap64_in (by omega) (by omega)
    have e : bump out (t :: r) = bump (out.set t.toNat (rd out t + 1)) r := by
      show bump (out.set t.toNat (wrap64 (rd out t + 1))) r = _
      rw [hw]
    have hne : ∀ u ∈ r, u ≠ t := fun u hu he => hn.1 (he ▸ hu)
    have hset : ∀ u, 0 ≤ u → rd (out.set t.toNat (rd out t + 1)) u = if u = t then rd out t + 1 else rd out u := fun u hu => rd_set out t u _ ht.1 hu ht.2
    rw [e, bump_rd r _ s hn.2 (fun u hu => by rw [List.length_set]; exact hr u (List.mem_cons_of_mem _ hu)) (fun u hu => by
      rw [hset u (hr u (List.mem_cons_of_mem _ hu)).1, if_neg (hne u hu)]
      exact ho u (List.mem_cons_of_mem _ hu)) hs, hset s hs]
    by_cases h : s = t
    · subst h
      rw [if_pos rfl, if_neg hn.1, if_pos List.mem_cons_self]
    · rw [if_neg h]
      by_cases h2 : s ∈ r
      · rw [if_pos h2, if_pos (List.mem_cons_of_mem _ h2)]
      · rw [if_neg h2, if_neg (by rw [List.mem_cons]; exact fun hh => hh.elim h h2)]
/-- What holds at every round. -/
structure QInv (ws : List Int) (q : List (Int × List Int)) (out : List Int) : Prop where
  len : out.length = ws.length
  sorted : q.Pairwise (fun a b => a.1 ≤ b.1)
  nodup : (q.flatMap (·.2)).Nodup
  count : (q.map (·.2.length)).sum ≤ ws.length
  syms : ∀ x ∈ q, ∀ s ∈ x.2, 0 ≤ s ∧ s < ws.length ∧ 0 < rd ws s
  cover : ∀ i : Nat, i < ws.length → 0 < ws.getD i 0 → (i : Int) ∈ q.flatMap (·.2)
  weight : ∀ x ∈ q, x.1 = (x.2.map (rd ws)).sum
  ne : ∀ x ∈ q, x.2 ≠ []
  outs : ∀ x ∈ q, ∀ s ∈ x.2, 0 ≤ rd out s ∧ rd out s + 1 ≤ x.2.length
  zero : ∀ i : Nat, i < ws.length → ¬ 0 < ws.getD i 0 → rd out i = 0
theorem sum_mem (f : Int × List Int → Nat) : ∀ (q : List (Int × List Int)) (x : Int × List Int), x ∈ q → f x ≤ (q.map f).sum
  | y :: ys, x, h => by
    rw [List.map_cons, List.sum_cons]
    rcases List.mem_cons.1 h with rfl | h
    · omega
    · have := sum_mem f ys x h; omega
theorem QInv.long {ws : List Int} {q : List (Int × List Int)} {out : List Int} (h : QInv ws q out) {x : Int × List Int} (hx : x ∈ q) : x.2.length ≤ ws.length := Nat.le_trans (sum_mem (·.2.length) q x hx) h.count
theorem sum_rd_pos (ws : List Int) : ∀ l : List Int, (∀ s ∈ l, 0 < rd ws s) → (l.length : Int) ≤ (l.map (rd ws)).sum
  | [], _ => by simp
  | s :: r, h => by
    have h1 := sum_rd_pos ws r (fun t ht => h t (List.mem_cons_of_mem _ ht))
    have h2 := h s List.mem_cons_self
    rw [List.map_cons, List.sum_cons, List.length_cons]
    omega
theorem QInv.big {ws : List Int} {q : List (Int × List Int)} {out : List Int} (h : QInv ws q out) {x : Int × List Int} (hx : x ∈ q) : 1 ≤ x.1 := by
  have h1 := sum_rd_pos ws x.2 (fun s hs => (h.syms x hx s hs).2.2)
  have h2 := h.ne x hx
  rw [h.weight x hx]
  have : 0 < x.2.length := by cases hh : x.2 with | nil => exact absurd hh h2 | cons a b => simp
  omega
theorem q_outs {ws : List Int} {x y : Int × List Int} {r : List (Int × List Int)} {out : List Int} (hn : ws.length ≤ 2 ^ 30) (h : QInv ws (x :: y :: r) out) :
    (∀ s ∈ x.2, rd (bump out (x.2 ++ y.2)) s = rd out s + 1) ∧ (∀ s ∈ y.2, rd (bump out (x.2 ++ y.2)) s = rd out s + 1) ∧ (∀ z ∈ r, ∀ s ∈ z.2, rd (bump out (x.2 ++ y.2)) s = rd out s) ∧ (∀ s, 0 ≤ s → s ∉ x.2 ++ y.2 → rd (bump out (x.2 ++ y.2)) s = rd out s) := by
  have hd := h.nodup
  simp only [List.flatMap_cons] at hd
  rw [← List.append_assoc, List.nodup_append] at hd
  obtain ⟨d1, d2, d3⟩ := hd
  have hx : x ∈ x :: y :: r := List.mem_cons_self
  have hy : y ∈ x :: y :: r := List.mem_cons_of_mem _ List.mem_cons_self
  have hin : ∀ t ∈ x.2 ++ y.2, (0 ≤ t ∧ t < out.length) ∧ 0 ≤ rd out t ∧ rd out t < 2 ^ 40 := by
    intro t ht
    rw [h.len]
    rcases List.mem_append.1 ht with ht | ht
    · have a := h.syms x hx t ht
      have b := h.outs x hx t ht
      have c := h.long hx
      exact ⟨⟨a.1, a.2.1⟩, b.1, by omega⟩
    · have a := h.syms y hy t ht
      have b := h.outs y hy t ht
      have c := h.long hy
      exact ⟨⟨a.1, a.2.1⟩, b.1, by omega⟩
  have hb : ∀ s, 0 ≤ s → rd (bump out (x.2 ++ y.2)) s = if s ∈ x.2 ++ y.2 then rd out s + 1 else rd out s := fun s hs => bump_rd (x.2 ++ y.2) out s d1 (fun t ht => (hin t ht).1) (fun t ht => (hin t ht).2) hs
  refine ⟨fun s hs => ?_, fun s hs => ?_, fun z hz s hs => ?_, fun s h0 hs => ?_⟩
  · have hm : s ∈ x.2 ++ y.2 := List.mem_append_left _ hs
    rw [hb s (hin s hm).1.1, if_pos hm]
  · have hm : s ∈ x.2 ++ y.2 := List.mem_append_right _ hs
    rw [hb s (hin s hm).1.1, if_pos hm]
  · have h0 := (h.syms z (List.mem_cons_of_mem _ (List.mem_cons_of_mem _ hz)) s hs).1
    rw [hb s h0, if_neg]
    intro hm
    exact d3 s hm s (List.mem_flatMap.2 ⟨z, hz, hs⟩) rfl
  · rw [hb s h0, if_neg hs]
theorem q_step {ws : List Int} (hn : ws.length ≤ 2 ^ 30) (x y : Int × List Int) (r : List (Int × List Int)) (out : List Int) (h : QInv ws (x :: y :: r) out) : QInv ws (insQ (x.1 + y.1, x.2 ++ y.2) r) (bump out (x.2 ++ y.2)) := by
  obtain ⟨o1, o2, o3, o4⟩ := q_outs hn h
  have hx : x ∈ x :: y :: r := List.mem_cons_self
  have hy : y ∈ x :: y :: r := List.mem_cons_of_mem _ List.mem_cons_self
  have hr : ∀ z ∈ r, z ∈ x :: y :: r := fun z hz => List.mem_cons_of_mem _ (List.mem_cons_of_mem _ hz)
  have hp : ((insQ (x.1 + y.1, x.2 ++ y.2) r).flatMap (·.2)).Perm ((x :: y :: r).flatMap (·.2)) := by
    refine (List.Perm.flatMap_right _ (insQ_perm _ r)).trans ?_
    simp only [List.flatMap_cons, List.append_assoc]
    exact List.Perm.refl _
  have hm : ∀ z, z ∈ insQ (x.1 + y.1, x.2 ++ y.2) r → z = (x.1 + y.1, x.2 ++ y.2) ∨ z ∈ r := fun z hz => (insQ_mem _ _ _).1 hz
  refine ⟨?_, ?_, hp.nodup_iff.2 h.nodup, ?_, fun z hz => ?_, fun i hi hw => hp.mem_iff.2 (h.cover i hi hw), fun z hz => ?_, fun z hz => ?_, fun z hz s hs => ?_, fun i hi hw => ?_⟩
  · rw [bump_length, h.len]
  · have := h.sorted
    rw [List.pairwise_cons, List.pairwise_cons] at this
    exact insQ_sorted _ _ this.2.2
  · have := h.count
    rw [insQ_sumN]
    simp only [List.map_cons, List.sum_cons] at this
    show (x.2 ++ y.2).length + _ ≤ _
    rw [List.length_append]
    omega
  · rcases hm z hz with rfl | hz
    · intro s hs
      rcases List.mem_append.1 hs with hs | hs
      · exact h.syms x hx s hs
      · exact h.syms y hy s hs
    · exact h.syms z (hr z hz)
  · rcases hm z hz with rfl | hz
    · show x.1 + y.1 = ((x.2 ++ y.2).map (rd ws)).sum
      rw [List.map_append, List.sum_append, ← h.weight x hx, ← h.weight y hy]
    · exact h.weight z (hr z hz)
  · rcases hm z hz with rfl | hz
    · intro he
      exact h.ne x hx (List.append_eq_nil_iff.1 he).1
    · exact h.ne z (hr z hz)
  · rcases hm z hz with rfl | hz
    · have lx : 0 < x.2.length := by cases hh : x.2 with | nil => exact absurd hh (h.ne x hx) | cons a b => simp
      have ly : 0 < y.2.length := by cases hh : y.2 with | nil => exact absurd hh (h.ne y hy) | cons a b => simp
      have hs' : s ∈ x.2 ++ y.2 := hs
      have hl : ((x.1 + y.1, x.2 ++ y.2) : Int × List Int).2.length = x.2.length + y.2.length := List.length_append
      rw [hl]
      rcases List.mem_append.1 hs' with hs | hs
      · rw [o1 s hs]; have := h.outs x hx s hs; omega
      · rw [o2 s hs]; have := h.outs y hy s hs; omega
    · rw [o3 z hz s hs]
      exact h.outs z (hr z hz) s hs
  · rw [o4 (i : Int) (by omega) (fun hin => ?_)]
    · exact h.zero i hi hw
    · have hp2 : 0 < rd ws (i : Int) := by
        rcases List.mem_append.1 hin with hs | hs
        · exact (h.syms x hx _ hs).2.2
        · exact (h.syms y hy _ hs).2.2
      rw [rd_nat] at hp2
      exact hw hp2
theorem leafs_mem (ws : List Int) : ∀ (i : Nat) (x : Int × List Int), x ∈ leafs ws i ↔ ∃ j : Nat, j < i ∧ 0 < ws.getD j 0 ∧ x = (ws.getD j 0, [(j : Int)])
  | 0, x => by simp [leafs]
  | i + 1, x => by
    rw [leafs_succ, List.mem_append, leafs_mem ws i]
    constructor
    · rintro (⟨j, h1, h2, h3⟩ | h)
      · exact ⟨j, by omega, h2, h3⟩
      · by_cases hp : 0 < ws.getD i 0
        · rw [if_pos hp] at h
          exact ⟨i, by omega, hp, by simpa using h⟩
        · rw [if_neg hp] at h; simp at h
    · rintro ⟨j, h1, h2, h3⟩
      by_cases hj : j = i
      · subst hj
        exact Or.inr (by rw [if_pos h2, h3]; simp)
      · exact Or.inl ⟨j, by omega, h2, h3⟩
theorem leafs_nodup (ws : List Int) : ∀ i : Nat, ((leafs ws i).flatMap (·.2)).Nodup
  | 0 => by simp [leafs]
  | i + 1 => by
    rw [leafs_succ, List.flatMap_append, List.nodup_append]
    refine ⟨leafs_nodup ws i, ?_, fun a ha b hb => ?_⟩
    · by_cases hp : 0 < ws.getD i 0
      · rw [if_pos hp]; simp
      · rw [if_neg hp]; simp
    · obtain ⟨x, hx, hax⟩ := List.mem_flatMap.1 ha
      obtain ⟨j, h1, h2, rfl⟩ := (leafs_mem ws i x).1 hx
      have ea : a = (j : Int) := by simpa using hax
      by_cases hp : 0 < ws.getD i 0
      · rw [if_pos hp] at hb
        have eb : b = (i : Int) := by simpa using hb
        omega
      · rw [if_neg hp] at hb; simp at hb
theorem rd_zeros (n : Nat) (s : Int) : rd (List.replicate n (0 : Int)) s = 0 := by
  unfold rd
  rw [List.getD_eq_getElem?_getD, List.getElem?_replicate]
  by_cases h : s.toNat < n
  · rw [if_pos h]; rfl
  · rw [if_neg h]; rfl
theorem q_start (ws : List Int) : QInv ws (sortQ (leafs ws ws.length)) (List.replicate ws.length 0) := by
  have hp := sortQ_perm (leafs ws ws.length)
  have hpf := List.Perm.flatMap_right (fun x : Int × List Int => x.2) hp
  have hm : ∀ x, x ∈ sortQ (leafs ws ws.length) → ∃ j : Nat, j < ws.length ∧ 0 < ws.getD j 0 ∧ x = (ws.getD j 0, [(j : Int)]) := fun x hx => (leafs_mem ws _ x).1 (hp.mem_iff.1 hx)
  refine ⟨by simp, sortQ_sorted _, hpf.nodup_iff.2 (leafs_nodup ws _), ?_, fun x hx s hs => ?_, fun i hi hw => hpf.mem_iff.2 (List.mem_flatMap.2 ⟨_, (leafs_mem ws _ _).2 ⟨i, hi, hw, rfl⟩, by simp⟩), fun x hx => ?_, fun x hx => ?_, fun x hx s hs => ?_, fun i hi hw => rd_zeros _ _⟩
  · rw [(hp.map _).sum_nat]
    exact (leafs_good ws ws.length (Nat.le_refl _)).2.1
  · obtain ⟨j, h1, h2, rfl⟩ := hm x hx
    have e : s = (j : Int) := by simpa using hs
    subst e
    exact ⟨by omega, by omega, by rw [rd_nat]; exact h2⟩
  · obtain ⟨j, h1, h2, rfl⟩ := hm x hx
    simp [rd_nat]
  · obtain ⟨j, h1, h2, rfl⟩ := hm x hx
    simp
  · obtain ⟨j, h1, h2, rfl⟩ := hm x hx
    rw [rd_zeros]
    simp
theorem leafs_pos (ws : List Int) : ∀ i : Nat, i ≤ ws.length → (leafs ws i).length = pos (ws.take i)
  | 0, _ => by simp [leafs, pos]
  | i + 1, h => by
    have hlt : i < ws.length := by omega
    have e : ws.getD i 0 = ws[i] := by simp [hlt]
    rw [leafs_succ, List.length_append, leafs_pos ws i (by omega), List.take_succ_eq_append_getElem hlt]
    unfold pos
    rw [List.filter_append, List.length_append, e]
    congr 1
    by_cases hp : 0 < ws[i] <;> simp [hp]
theorem leafs_count (ws : List Int) : (leafs ws ws.length).length = pos ws := by rw [leafs_pos ws _ (Nat.le_refl _), List.take_length]
theorem leafs_sum (ws : List Int) (h : ∀ x ∈ ws, 0 ≤ x) : ∀ i : Nat, i ≤ ws.length → ((leafs ws i).map (·.1)).sum = (ws.take i).sum
  | 0, _ => by simp [leafs]
  | i + 1, hi => by
    have hlt : i < ws.length := by omega
    have e : ws.getD i 0 = ws[i] := by simp [hlt]
    rw [leafs_succ, List.map_append, List.sum_append, leafs_sum ws h i (by omega), List.take_succ_eq_append_getElem hlt, List.sum_append, e]
    congr 1
    by_cases hp : 0 < ws[i]
    · rw [if_pos hp]; simp
    · rw [if_neg hp]
      have := h ws[i] (List.getElem_mem hlt)
      simp; omega
theorem int_sum_perm {l1 l2 : List Int} (h : l1.Perm l2) : l1.sum = l2.sum := by
  induction h with
  | nil => rfl
  | cons x _ ih => rw [List.sum_cons, List.sum_cons, ih]
  | swap x y l => simp only [List.sum_cons]; omega
  | trans _ _ h1 h2 => rw [h1, h2]
theorem q_sum (ws : List Int) (h : ∀ x ∈ ws, 0 ≤ x) : ((sortQ (leafs ws ws.length)).map (·.1)).sum = ws.sum := by
  rw [int_sum_perm ((sortQ_perm _).map _), leafs_sum ws h _ (Nat.le_refl _), List.take_length]
theorem sum_le (B : Int) : ∀ ws : List Int, (∀ x ∈ ws, 0 ≤ x ∧ x ≤ B) → 0 ≤ ws.sum ∧ ws.sum ≤ ws.length * B
  | [], _ => by simp
  | x :: xs, h => by
    have h1 := sum_le B xs (fun y hy => h y (List.mem_cons_of_mem _ hy))
    have h2 := h x List.mem_cons_self
    rw [List.sum_cons, List.length_cons]
    have : ((xs.length + 1 : Nat) : Int) * B = xs.length * B + B := by rw [show ((xs.length + 1 : Nat) : Int) = (xs.length : Int) + 1 from by omega, Int.add_mul, Int.one_mul]
    omega
/-- What is told, where there are at least two: by the sorted row. -/
theorem once_is (ws : List Int) (h : weighs ws = true) (h2 : pos ws ≠ 1) : onceOf ws = qRun (pos ws) (sortQ (leafs ws ws.length)) (List.replicate ws.length 0) := by
  obtain ⟨w1, w2⟩ := (weighs_iff ws).1 h
  unfold onceOf
  rw [leafs_count, if_neg h2, once_q]
  refine q_lift _ _ _ (fun x hx => ?_) ?_
  · obtain ⟨j, _, h2, rfl⟩ := (leafs_mem ws _ x).1 ((sortQ_perm _).mem_iff.1 hx)
    exact Int.le_of_lt h2
  · rw [q_sum ws (fun x hx => (w2 x hx).1)]
    have := (sum_le 1048576 ws w2).2
    omega
/-- A law that holds at the start and is kept by each round holds at the end, where one is left. -/
theorem once_ind (ws : List Int) (h : weighs ws = true) (h2 : 2 ≤ pos ws) {P : List (Int × List Int) → List Int → Prop} (start : P (sortQ (leafs ws ws.length)) (List.replicate ws.length 0))
    (step : ∀ x y r out, QInv ws (x :: y :: r) out → P (x :: y :: r) out → P (insQ (x.1 + y.1, x.2 ++ y.2) r) (bump out (x.2 ++ y.2))) :
    ∃ x, QInv ws [x] (onceOf ws) ∧ P [x] (onceOf ws) := by
  obtain ⟨w1, w2⟩ := (weighs_iff ws).1 h
  rw [once_is ws h (by omega)]
  have hl : (sortQ (leafs ws ws.length)).length = pos ws := by rw [sortQ_length, leafs_count]
  obtain ⟨q', h1, h3, h4⟩ := qRun_ind (P := fun q out => QInv ws q out ∧ P q out) (fun x y r out hP => ⟨q_step (by omega) x y r out hP.1, step x y r out hP.1 hP.2⟩) (pos ws) _ _ (by omega) ⟨q_start ws, start⟩
  have h5 := h3 (by omega)
  match q', h5 with
  | [x], _ => exact ⟨x, h4⟩
end Go.Proofs.Ytlffpaploefljaa.Glue
namespace Go.Proofs.Ytlffpaploefljaa.Glue
open Go.RowKit Go.Proofs.Ytlffpaploefljaa.P Go.Proofs.YtlffpaploefljaaW.PrintWords Go.Proofs.YtlffpaploefljaaW.PrintLast Go.Proofs.YtlffpaploefljaaW.PrintMore
set_option linter.unusedVariables false
set_option linter.unusedSimpArgs false

def fibN : Nat → Nat
  | 0 => 0
  | 1 => 1
  | n + 2 => fibN (n + 1) + fibN n
theorem sorted_two {x y : Int × List Int} {r : List (Int × List Int)} (h : (x :: y :: r).Pairwise (fun a b => a.1 ≤ b.1)) : x.1 ≤ y.1 ∧ ∀ z ∈ r, y.1 ≤ z.1 := by
  rw [List.pairwise_cons, List.pairwise_cons] at h
  exact ⟨h.1 y List.mem_cons_self, h.2.1⟩
theorem toNat_succ {a : Int} (h : 0 ≤ a) : (a + 1).toNat = a.toNat + 1 := by omega
/-- Weights of Fibonacci stand behind each length. -/
theorem once_fib (ws : List Int) (h : weighs ws = true) (h2 : 2 ≤ pos ws) : ∃ x, QInv ws [x] (onceOf ws) ∧ ∀ s ∈ x.2, (fibN ((rd (onceOf ws) s).toNat + 2) : Int) ≤ x.1 := by
  obtain ⟨x, hx, m, _, hm⟩ := once_ind ws h h2 (P := fun q out => ∃ m : Int, (∀ x ∈ q, m ≤ x.1) ∧ ∀ x ∈ q, ∀ s ∈ x.2, (fibN ((rd out s).toNat + 1) : Int) ≤ m ∧ (fibN ((rd out s).toNat + 2) : Int) ≤ x.1)
    ⟨1, fun x hx => (q_start ws).big hx, fun x hx s hs => by
      rw [rd_zeros]
      have := (q_start ws).big hx
      exact ⟨by decide, this⟩⟩
    (by
      rintro x y r out hq ⟨m, h1, h3⟩
      obtain ⟨w1, _⟩ := (weighs_iff ws).1 h
      obtain ⟨o1, o2, o3, _⟩ := q_outs (by omega) hq
      have hx : x ∈ x :: y :: r := List.mem_cons_self
      have hy : y ∈ x :: y :: r := List.mem_cons_of_mem _ List.mem_cons_self
      have hr : ∀ z ∈ r, z ∈ x :: y :: r := fun z hz => List.mem_cons_of_mem _ (List.mem_cons_of_mem _ hz)
      obtain ⟨s1, s2⟩ := sorted_two hq.sorted
      have b1 := hq.big hx
      have m1 := h1 x hx
      have m2 := h1 y hy
      refine ⟨y.1, fun z hz => ?_, fun z hz s hs => ?_⟩
      · rcases (insQ_mem _ _ _).1 hz with rfl | hz
        · show y.1 ≤ x.1 + y.1; omega
        · exact s2 z hz
      · rcases (insQ_mem _ _ _).1 hz with rfl | hz
        · show _ ∧ _ ≤ x.1 + y.1
          rcases List.mem_append.1 hs with hs | hs
          · have a := h3 x hx s hs
            rw [o1 s hs, toNat_succ (hq.outs x hx s hs).1]
            have e : fibN ((rd out s).toNat + 1 + 2) = fibN ((rd out s).toNat + 2) + fibN ((rd out s).toNat + 1) := rfl
            rw [e]
            exact ⟨by have := a.2; show ((fibN ((rd out s).toNat + 2) : Nat) : Int) ≤ y.1; omega, by omega⟩
          · have a := h3 y hy s hs
            rw [o2 s hs, toNat_succ (hq.outs y hy s hs).1]
            have e : fibN ((rd out s).toNat + 1 + 2) = fibN ((rd out s).toNat + 2) + fibN ((rd out s).toNat + 1) := rfl
            rw [e]
            exact ⟨by have := a.2; show ((fibN ((rd out s).toNat + 2) : Nat) : Int) ≤ y.1; omega, by omega⟩
        · have a := h3 z (hr z hz) s hs
          rw [o3 z hz s hs]
          exact ⟨by omega, a.2⟩)
  exact ⟨x, hx, fun s hs => (hm x (by simp) s hs).2⟩
theorem QInv.total {ws : List Int} {x : Int × List Int} {out : List Int} (h : QInv ws [x] out) {i : Nat} (hi : i < ws.length) : 0 < ws.getD i 0 ↔ (i : Int) ∈ x.2 := by
  constructor
  · intro hw
    have := h.cover i hi hw
    simpa using this
  · intro hm
    have := (h.syms x (by simp) _ hm).2.2
    rwa [rd_nat] at this
theorem onceFrom_length : ∀ (k : Nat) (ns : List (Int × List Int)) (out : List Int), (onceFrom k ns out).length = out.length
  | 0, _, _ => rfl
  | k + 1, ns, out => by
    unfold onceFrom
    by_cases h : 1 < ns.length
    · rw [if_pos h, onceFrom_length k, bump_length]
    · rw [if_neg h]
theorem once_length (ws : List Int) : (onceOf ws).length = ws.length := by
  unfold onceOf
  by_cases h : (leafs ws ws.length).length = 1
  · rw [if_pos h]; simp
  · rw [if_neg h, onceFrom_length]; simp
theorem once_none (ws : List Int) (h : pos ws = 0) : onceOf ws = List.replicate ws.length 0 := by
  unfold onceOf
  have hl := leafs_count ws
  rw [if_neg (by omega), onceFrom_end _ _ _ (by omega)]
/-- A single one has one bit. -/
theorem once_single (ws : List Int) (h : pos ws = 1) : ∃ j : Nat, j < ws.length ∧ 0 < ws.getD j 0 ∧ (∀ i : Nat, i < ws.length → 0 < ws.getD i 0 → i = j) ∧ onceOf ws = (List.replicate ws.length 0).set j 1 := by
  have hl := leafs_count ws
  have hu : onceOf ws = (List.replicate ws.length 0).set (rd ((leafs ws ws.length).getD 0 (0, [])).2 0).toNat 1 := by
    unfold onceOf
    rw [if_pos (by omega)]
  match hq : leafs ws ws.length with
  | [] => rw [hq] at hl; simp at hl; omega
  | _ :: _ :: _ => rw [hq] at hl; simp at hl; omega
  | [x] =>
    obtain ⟨j, h1, h2, h3⟩ := (leafs_mem ws ws.length x).1 (by rw [hq]; simp)
    refine ⟨j, h1, h2, fun i hi hw => ?_, ?_⟩
    · have := (leafs_mem ws ws.length _).2 ⟨i, hi, hw, rfl⟩
      rw [hq, List.mem_singleton, h3] at this
      have := congrArg (·.2) this
      simp at this
      omega
    · rw [hu, hq, h3]
      rfl
theorem rd_lt_mem {l : List Int} {i : Nat} (h : i < l.length) : rd l (i : Int) ∈ l := by
  rw [rd_nat, List.getD_eq_getElem?_getD, List.getElem?_eq_getElem h]
  exact List.getElem_mem h
theorem mem_rd {l : List Int} {v : Int} (h : v ∈ l) : ∃ i : Nat, i < l.length ∧ v = rd l (i : Int) := by
  obtain ⟨i, hi, e⟩ := List.getElem_of_mem h
  exact ⟨i, hi, by rw [rd_nat, List.getD_eq_getElem?_getD, List.getElem?_eq_getElem hi]; exact e.symm⟩
/-- All lengths are up to B, if those of two weights and more above 0 are. -/
theorem once_upto (ws : List Int) (h : weighs ws = true) (B : Int) (hB : 1 ≤ B) (hq : 2 ≤ pos ws → ∀ x, QInv ws [x] (onceOf ws) → ∀ s ∈ x.2, rd (onceOf ws) s ≤ B) : ∀ v ∈ onceOf ws, 0 ≤ v ∧ v ≤ B := by
  intro v hv
  obtain ⟨i, hi, rfl⟩ := mem_rd hv
  rw [once_length] at hi
  by_cases h0 : pos ws = 0
  · rw [once_none ws h0, rd_zeros]; omega
  · by_cases h1 : pos ws = 1
    · obtain ⟨j, hj, _, _, e⟩ := once_single ws h1
      have := rd_set (List.replicate ws.length 0) (j : Int) (i : Int) 1 (by omega) (by omega) (by simp; omega)
      rw [Int.toNat_natCast] at this
      rw [e, this]
      by_cases hij : (i : Int) = j
      · rw [if_pos hij]; omega
      · rw [if_neg hij, rd_zeros]; omega
    · obtain ⟨x, hx, _⟩ := once_fib ws h (by omega)
      by_cases hw : 0 < ws.getD i 0
      · have hm := (hx.total hi).1 hw
        exact ⟨(hx.outs x (by simp) _ hm).1, hq (by omega) x hx _ hm⟩
      · rw [hx.zero i hi hw]; omega
theorem max_le (B : Int) : ∀ (xs : List Int) (m : Int), maxOf m xs ≤ B ↔ m ≤ B ∧ ∀ x ∈ xs, x ≤ B
  | [], m => by simp [maxOf]
  | x :: xs, m => by
    unfold maxOf
    rw [max_le B xs, List.forall_mem_cons]
    by_cases h : m < x
    · rw [if_pos h]
      exact ⟨fun ⟨a, b⟩ => ⟨by omega, a, b⟩, fun ⟨_, a, b⟩ => ⟨a, b⟩⟩
    · rw [if_neg h]
      exact ⟨fun ⟨a, b⟩ => ⟨a, by omega, b⟩, fun ⟨a, _, b⟩ => ⟨a, b⟩⟩
theorem top_le (B : Int) (h0 : 0 ≤ B) : ∀ l : List Int, topOf l ≤ B ↔ ∀ x ∈ l, x ≤ B
  | [] => by simp [topOf, h0]
  | x :: xs => by unfold topOf; rw [max_le, List.forall_mem_cons]
theorem lensFrom_done (k : Nat) (ws : List Int) (lim : Int) (h0 : 0 ≤ lim) (h : ∀ v ∈ onceOf ws, v ≤ lim) : lensFrom (k + 1) ws lim = some (onceOf ws) := by
  unfold lensFrom
  rw [if_pos (Or.inr ((top_le lim h0 _).2 h))]
end Go.Proofs.Ytlffpaploefljaa.Glue
namespace Go.Proofs.Ytlffpaploefljaa.Glue
open Go.RowKit Go.Proofs.Ytlffpaploefljaa.P Go.Proofs.YtlffpaploefljaaW.PrintWords Go.Proofs.YtlffpaploefljaaW.PrintLast Go.Proofs.YtlffpaploefljaaW.PrintMore
set_option linter.unusedVariables false
set_option linter.unusedSimpArgs false

/-- The state of equal weights: some nodes of a height, behind them some one higher. -/
def Levels (E : Prop) (H : Nat) (q : List (Int × List Int)) (out : List Int) : Prop :=
  (∀ x y r, q = x :: y :: r → ∀ z ∈ r, z.1 ≤ x.1 + y.1) ∧ ∃ (A B : List (Int × List Int)) (h : Nat), q = A ++ B ∧ (∀ x ∈ A, ∀ s ∈ x.2, rd out s ≤ h ∧ (E → rd out s = h)) ∧ (∀ x ∈ B, ∀ s ∈ x.2, rd out s ≤ h + 1 ∧ (E → rd out s = h + 1)) ∧ (A.length + 2 * B.length) * 2 ^ h ≤ 2 ^ H ∧ (E → (A.length + 2 * B.length) * 2 ^ h = 2 ^ H)
theorem pow_split {h H : Nat} {a : Nat} (ha : 2 ≤ a) (hle : a * 2 ^ h ≤ 2 ^ H) : ∃ d, H = h + 1 + d ∧ a ≤ 2 * 2 ^ d := by
  have h1 : h < H := by
    refine Classical.byContradiction fun hc => ?_
    have h2 : 2 ^ H ≤ 2 ^ h := Nat.pow_le_pow_right (by decide) (by omega)
    have h3 : 2 * 2 ^ h ≤ a * 2 ^ h := Nat.mul_le_mul_right _ ha
    have h4 : 0 < 2 ^ h := Nat.pow_pos (by decide)
    omega
  refine ⟨H - h - 1, by omega, ?_⟩
  have e : 2 ^ H = (2 * 2 ^ (H - h - 1)) * 2 ^ h := by
    rw [show 2 * 2 ^ (H - h - 1) = 2 ^ (H - h - 1 + 1) from by rw [Nat.pow_succ]; omega, ← Nat.pow_add]
    congr 1
    omega
  rw [e] at hle
  exact Nat.le_of_mul_le_mul_right hle (Nat.pow_pos (by decide))
theorem two_inj {a b : Nat} (h : 2 ^ a = 2 ^ b) : a = b := Nat.le_antisymm ((Nat.pow_le_pow_iff_right (by decide)).1 (Nat.le_of_eq h)) ((Nat.pow_le_pow_iff_right (by decide)).1 (Nat.le_of_eq h.symm))
theorem levels_step {E : Prop} {H : Nat} {ws : List Int} (hn : ws.length ≤ 2 ^ 30) (x y : Int × List Int) (r : List (Int × List Int)) (out : List Int) (hq : QInv ws (x :: y :: r) out) (hP : Levels E H (x :: y :: r) out) : Levels E H (insQ (x.1 + y.1, x.2 ++ y.2) r) (bump out (x.2 ++ y.2)) := by
  obtain ⟨hS, A, B, h, he, hA, hB, hc, hE⟩ := hP
  obtain ⟨o1, o2, o3, _⟩ := q_outs hn hq
  obtain ⟨s1, s2⟩ := sorted_two hq.sorted
  have hins : insQ (x.1 + y.1, x.2 ++ y.2) r = r ++ [(x.1 + y.1, x.2 ++ y.2)] := insQ_last _ r (hS x y r rfl)
  have b1 := hq.big (show x ∈ x :: y :: r from List.mem_cons_self)
  have b2 := hq.big (show y ∈ x :: y :: r from List.mem_cons_of_mem _ List.mem_cons_self)
  rw [hins]
  refine ⟨fun x' y' r' he' z hz => ?_, ?_⟩
  · have hz1 : z.1 ≤ x.1 + y.1 := by
      have hm : z ∈ r ++ [(x.1 + y.1, x.2 ++ y.2)] := by rw [he']; exact List.mem_cons_of_mem _ (List.mem_cons_of_mem _ hz)
      rcases List.mem_append.1 hm with hm | hm
      · exact hS x y r rfl z hm
      · rw [List.mem_singleton.1 hm]; exact Int.le_refl _
    match r, he' with
    | [], he' => simp at he'
    | [r0], he' =>
      simp at he'
      rw [he'.2.2] at hz
      simp at hz
    | r0 :: r1 :: r2, he' =>
      simp at he'
      have a1 := s2 r0 List.mem_cons_self
      have a2 := s2 r1 (List.mem_cons_of_mem _ List.mem_cons_self)
      rw [← he'.1, ← he'.2.1]
      omega
  · match A, he with
    | x0 :: y0 :: A', he =>
      simp at he
      obtain ⟨rfl, rfl, rfl⟩ := he
      refine ⟨A', B ++ [(x.1 + y.1, x.2 ++ y.2)], h, by simp, fun z hz s hs => ?_, fun z hz s hs => ?_, ?_, ?_⟩
      · rw [o3 z (List.mem_append_left _ hz) s hs]
        exact hA z (List.mem_cons_of_mem _ (List.mem_cons_of_mem _ hz)) s hs
      · rcases List.mem_append.1 hz with hz | hz
        · rw [o3 z (List.mem_append_right _ hz) s hs]
          exact hB z hz s hs
        · rw [List.mem_singleton.1 hz] at hs
          rcases List.mem_append.1 hs with hs | hs
          · have := hA x List.mem_cons_self s hs
            rw [o1 s hs]
            exact ⟨by omega, fun e => by have := this.2 e; omega⟩
          · have := hA y (List.mem_cons_of_mem _ List.mem_cons_self) s hs
            rw [o2 s hs]
            exact ⟨by omega, fun e => by have := this.2 e; omega⟩
      · rw [List.length_append, List.length_singleton, show A'.length + 2 * (B.length + 1) = (x :: y :: A').length + 2 * B.length from by simp; omega]
        exact hc
      · rw [List.length_append, List.length_singleton, show A'.length + 2 * (B.length + 1) = (x :: y :: A').length + 2 * B.length from by simp; omega]
        exact hE
    | [x0], he =>
      match B, he with
      | [], he => simp at he
      | y0 :: B', he =>
        simp at he
        obtain ⟨rfl, rfl, rfl⟩ := he
        have hc2 : (1 + 2 * (r.length + 1)) * 2 ^ h ≤ 2 ^ H := by simpa using hc
        obtain ⟨d, rfl, hd⟩ := pow_split (by omega) hc2
        refine ⟨r, [(x.1 + y.1, x.2 ++ y.2)], h + 1, rfl, fun z hz s hs => ?_, fun z hz s hs => ?_, ?_, ?_⟩
        · rw [o3 z hz s hs]
          have := hB z (List.mem_cons_of_mem _ hz) s hs
          exact ⟨by omega, fun e => by have := this.2 e; omega⟩
        · rw [List.mem_singleton.1 hz] at hs
          have hno : ¬ E := by
            intro e
            have hh := hE e
            have hh2 : (1 + 2 * (r.length + 1)) * 2 ^ h = 2 * 2 ^ d * 2 ^ h := by
              rw [show 2 * 2 ^ d * 2 ^ h = 2 ^ (h + 1 + d) from by rw [Nat.pow_add, Nat.pow_succ, Nat.mul_comm (2 ^ h) 2, Nat.mul_assoc, Nat.mul_assoc, Nat.mul_comm (2 ^ d)]]
              simpa using hh
            have := Nat.eq_of_mul_eq_mul_right (Nat.pow_pos (by decide)) hh2
            omega
          rcases List.mem_append.1 hs with hs | hs
          · have := hA x List.mem_cons_self s hs
            rw [o1 s hs]
            exact ⟨by omega, fun e => absurd e hno⟩
          · have := hB y List.mem_cons_self s hs
            rw [o2 s hs]
            exact ⟨by omega, fun e => absurd e hno⟩
        · rw [List.length_singleton, show h + 1 + d = d + (h + 1) from by omega, Nat.pow_add 2 d (h + 1)]
          exact Nat.mul_le_mul_right _ (by omega)
        · intro e
          exfalso
          have hh := hE e
          have hh2 : (1 + 2 * (r.length + 1)) * 2 ^ h = 2 * 2 ^ d * 2 ^ h := by
            rw [show 2 * 2 ^ d * 2 ^ h = 2 ^ (h + 1 + d) from by rw [Nat.pow_add, Nat.pow_succ, Nat.mul_comm (2 ^ h) 2, Nat.mul_assoc, Nat.mul_assoc, Nat.mul_comm (2 ^ d)]]
            simpa using hh
          have := Nat.eq_of_mul_eq_mul_right (Nat.pow_pos (by decide)) hh2
          omega
    | [], he =>
      simp at he
      subst he
      have e2 : ∀ b : Nat, (0 + 2 * (b + 2)) * 2 ^ h = (b + 2 * 1) * 2 ^ (h + 1) := by
        intro b
        rw [Nat.pow_succ, Nat.mul_comm (2 ^ h) 2, ← Nat.mul_assoc]
        congr 1
        omega
      refine ⟨r, [(x.1 + y.1, x.2 ++ y.2)], h + 1, rfl, fun z hz s hs => ?_, fun z hz s hs => ?_, ?_, ?_⟩
      · rw [o3 z hz s hs]
        have := hB z (List.mem_cons_of_mem _ (List.mem_cons_of_mem _ hz)) s hs
        exact ⟨by omega, fun e => by have := this.2 e; omega⟩
      · rw [List.mem_singleton.1 hz] at hs
        rcases List.mem_append.1 hs with hs | hs
        · have := hB x List.mem_cons_self s hs
          rw [o1 s hs]
          exact ⟨by omega, fun e => by have := this.2 e; omega⟩
        · have := hB y (List.mem_cons_of_mem _ List.mem_cons_self) s hs
          rw [o2 s hs]
          exact ⟨by omega, fun e => by have := this.2 e; omega⟩
      · rw [List.length_singleton, ← e2]
        simpa using hc
      · intro e
        rw [List.length_singleton, ← e2]
        simpa using hE e
/-- Equal weights: no length above H, where there are up to 2^H; all of them H, where there are just so many. -/
theorem once_equal (ws : List Int) (h : weighs ws = true) (h2 : 2 ≤ pos ws) (u : Int) (hu : ∀ i : Nat, i < ws.length → 0 < ws.getD i 0 → ws.getD i 0 = u) (H : Nat) (E : Prop) (hH : pos ws ≤ 2 ^ H) (hE : E → pos ws = 2 ^ H) :
    ∃ x, QInv ws [x] (onceOf ws) ∧ ∀ s ∈ x.2, rd (onceOf ws) s ≤ H ∧ (E → rd (onceOf ws) s = H) := by
  have hl : (sortQ (leafs ws ws.length)).length = pos ws := by rw [sortQ_length, leafs_count]
  have hm : ∀ x ∈ sortQ (leafs ws ws.length), x.1 = u ∧ 0 < u := by
    intro x hx
    obtain ⟨j, a, b, rfl⟩ := (leafs_mem ws _ x).1 ((sortQ_perm _).mem_iff.1 hx)
    have := hu j a b
    exact ⟨this, by omega⟩
  obtain ⟨w1, _⟩ := (weighs_iff ws).1 h
  obtain ⟨x, hx, hS, A, B, h, he, hA, hB, hc, hcE⟩ := once_ind ws h h2 (P := Levels E H)
    ⟨fun x y r he z hz => by
      have h1 := hm x (by rw [he]; simp)
      have h2 := hm y (by rw [he]; simp)
      have h3 := hm z (by rw [he]; simp [hz])
      omega, sortQ (leafs ws ws.length), [], 0, by simp, fun x hx s hs => by rw [rd_zeros]; exact ⟨by omega, fun _ => rfl⟩, by simp, by rw [hl]; simpa using hH, fun e => by rw [hl]; simpa using hE e⟩
    (fun x y r out hq hP => levels_step (by omega) x y r out hq hP)
  refine ⟨x, hx, fun s hs => ?_⟩
  match A, B, he with
  | [], [], he => simp at he
  | [], [b], he =>
    simp at he
    subst he
    have := hB x (by simp) s hs
    have hc : 2 * 2 ^ h ≤ 2 ^ H := by simpa using hc
    obtain ⟨d, rfl, hd⟩ := pow_split (by omega) hc
    refine ⟨by omega, fun e => ?_⟩
    have h3 : 2 * 2 ^ h = 2 ^ (h + 1 + d) := by simpa using hcE e
    have h4 : h + 1 = h + 1 + d := two_inj (by show 2 ^ (h + 1) = _; rw [Nat.pow_succ, ← h3]; omega)
    have := this.2 e
    omega
  | [a], [], he =>
    simp at he
    subst he
    have := hA x (by simp) s hs
    have hc : 2 ^ h ≤ 2 ^ H := by simpa using hc
    have h5 : h ≤ H := (Nat.pow_le_pow_iff_right (by decide)).1 hc
    refine ⟨by omega, fun e => ?_⟩
    have h3 : 2 ^ h = 2 ^ H := by simpa using hcE e
    have h4 : h = H := two_inj h3
    have := this.2 e
    omega
  | [a], b :: B', he => simp at he
  | a :: a2 :: A', B, he => simp at he
  | [], b :: b2 :: B', he => simp at he
theorem once_nonneg (ws : List Int) (h : weighs ws = true) : ∀ v ∈ onceOf ws, 0 ≤ v := fun v hv => (once_upto ws h 1000 (by omega) (fun _ x hx s hs => by
  have h1 := (hx.outs x (by simp) s hs).2
  have h2 := hx.long (show x ∈ [x] from by simp)
  have h3 := ((weighs_iff ws).1 h).1
  omega) v hv).1
theorem half_is {w : Int} (h0 : 0 ≤ w) (h1 : w ≤ 1048576) : (if 0 < w then wrap64 ((wrap64 (w + 1)).tdiv 2) else w) = (w + 1) / 2 := by
  by_cases h : 0 < w
  · rw [if_pos h, wrap64_in (a := w + 1) (by omega) (by omega), Int.tdiv_eq_ediv_of_nonneg (by omega), wrap64_in (by omega) (by omega)]
  · rw [if_neg h]; omega
theorem halved_is {ws : List Int} (h : weighs ws = true) : halved ws = ws.map (fun w => (w + 1) / 2) := by
  unfold halved
  refine List.map_congr_left fun w hw => ?_
  have := ((weighs_iff ws).1 h).2 w hw
  exact half_is this.1 this.2
theorem half_at (ws : List Int) (j : Nat) : (ws.map (fun w => (w + 1) / 2)).getD j 0 = (ws.getD j 0 + 1) / 2 := by
  rw [List.getD_eq_getElem?_getD, List.getD_eq_getElem?_getD, List.getElem?_map]
  cases ws[j]? with
  | none => rfl
  | some v => rfl
theorem half_pos (ws : List Int) : pos (ws.map (fun w => (w + 1) / 2)) = pos ws := by
  unfold pos
  rw [List.filter_map, List.length_map]
  congr 1
  refine List.filter_congr fun x _ => ?_
  show decide (0 < (x + 1) / 2) = _
  by_cases h : 0 < x
  · rw [decide_eq_true h, decide_eq_true (by omega)]
  · rw [decide_eq_false h, decide_eq_false (by omega)]
theorem half_weighs {ws : List Int} (h : weighs ws = true) : weighs (ws.map (fun w => (w + 1) / 2)) = true := by
  obtain ⟨w1, w2⟩ := (weighs_iff ws).1 h
  refine (weighs_iff _).2 ⟨by rw [List.length_map]; exact w1, fun x hx => ?_⟩
  obtain ⟨y, hy, rfl⟩ := List.mem_map.1 hx
  have := w2 y hy
  omega
/-- Halved often enough: they are found. -/
theorem lens_fuel : ∀ (j : Nat) (ws : List Int) (lim : Int) (k : Nat), weighs ws = true → (∀ x ∈ ws, x ≤ 2 ^ j) → (9 ≤ lim ∨ (5 ≤ lim ∧ pos ws ≤ 19)) → j < k →
    ∃ ws', lensFrom k ws lim = some (onceOf ws') ∧ weighs ws' = true ∧ ws'.length = ws.length ∧ (∀ i : Nat, 0 < ws'.getD i 0 ↔ 0 < ws.getD i 0) ∧ ∀ v ∈ onceOf ws', v ≤ lim := by
  intro j
  induction j with
  | zero =>
    intro ws lim k hw hx hl hk
    obtain ⟨k, rfl⟩ : ∃ m, k = m + 1 := ⟨k - 1, by omega⟩
    obtain ⟨w1, w2⟩ := (weighs_iff ws).1 hw
    have hu : ∀ i : Nat, i < ws.length → 0 < ws.getD i 0 → ws.getD i 0 = 1 := by
      intro i hi h0
      have hm := rd_lt_mem hi
      rw [rd_nat] at hm
      have := hx _ hm
      omega
    have hp := pos_le ws
    have hb : ∀ v ∈ onceOf ws, v ≤ lim := by
      intro v hv
      rcases hl with hl | ⟨hl, h19⟩
      · have := (once_upto ws hw 9 (by omega) (fun h2 x hx s hs => by
          obtain ⟨y, hy, hf⟩ := once_equal ws hw h2 1 hu 9 False (by omega) (fun e => e.elim)
          have hsx := hx.syms x (by simp) s hs
          obtain ⟨j, rfl⟩ : ∃ j : Nat, s = (j : Int) := ⟨s.toNat, by omega⟩
          exact (hf _ ((hy.total (by omega)).1 ((hx.total (by omega)).2 hs))).1) v hv).2
        omega
      · have := (once_upto ws hw 5 (by omega) (fun h2 x hx s hs => by
          obtain ⟨y, hy, hf⟩ := once_equal ws hw h2 1 hu 5 False (by omega) (fun e => e.elim)
          have hsx := hx.syms x (by simp) s hs
          obtain ⟨j, rfl⟩ : ∃ j : Nat, s = (j : Int) := ⟨s.toNat, by omega⟩
          exact (hf _ ((hy.total (by omega)).1 ((hx.total (by omega)).2 hs))).1) v hv).2
        omega
    exact ⟨ws, lensFrom_done k ws lim (by omega) hb, hw, rfl, fun _ => Iff.rfl, hb⟩
  | succ j ih =>
    intro ws lim k hw hx hl hk
    obtain ⟨k, rfl⟩ : ∃ m, k = m + 1 := ⟨k - 1, by omega⟩
    by_cases hb : ∀ v ∈ onceOf ws, v ≤ lim
    · exact ⟨ws, lensFrom_done k ws lim (by omega) hb, hw, rfl, fun _ => Iff.rfl, hb⟩
    · have hne : (onceOf ws).length ≠ 0 := by
        intro h0
        have : onceOf ws = [] := List.length_eq_zero_iff.1 h0
        rw [this] at hb
        exact hb (by simp)
      obtain ⟨ws', a1, a2, a3, a4, a5⟩ := ih (ws.map (fun w => (w + 1) / 2)) lim k (half_weighs hw) (fun x hx' => by
        obtain ⟨y, hy, rfl⟩ := List.mem_map.1 hx'
        have h1 := hx y hy
        rw [Int.pow_succ] at h1
        omega) (by rw [half_pos]; exact hl) (by omega)
      refine ⟨ws', ?_, a2, by rw [a3, List.length_map], fun i => ?_, a5⟩
      · unfold lensFrom
        rw [if_neg (by rw [top_le lim (by omega)]; exact fun h => h.elim hne hb), halved_is hw]
        exact a1
      · rw [a4 i, half_at]
        omega
/-- What lengths are told of right weights up to a right limit. -/
theorem lens_ok {ws : List Int} {lim : Int} (h : weighs ws = true) (h15 : lim ≤ 15) (hl : 9 ≤ lim ∨ (5 ≤ lim ∧ pos ws ≤ 19)) :
    ∃ ws', tree_Lengths.f ws lim = some (onceOf ws', 0) ∧ weighs ws' = true ∧ ws'.length = ws.length ∧ (∀ i : Nat, 0 < ws'.getD i 0 ↔ 0 < ws.getD i 0) ∧ ∀ v ∈ onceOf ws', 0 ≤ v ∧ v ≤ lim := by
  obtain ⟨w1, w2⟩ := (weighs_iff ws).1 h
  obtain ⟨ws', a1, a2, a3, a4, a5⟩ := lens_fuel 20 ws lim 32 h (fun x hx => by have := (w2 x hx).2; omega) hl (by omega)
  refine ⟨ws', ?_, a2, a3, a4, fun v hv => ⟨once_nonneg ws' a2 v hv, a5 v hv⟩⟩
  unfold tree_Lengths.f lensOf
  rw [if_neg (by rw [h]; simp; omega), a1]
  rfl
end Go.Proofs.Ytlffpaploefljaa.Glue
namespace Go.Proofs.Ytlffpaploefljaa.Glue
open Go.RowKit Go.Proofs.Ytlffpaploefljaa.P Go.Proofs.YtlffpaploefljaaW.PrintWords Go.Proofs.YtlffpaploefljaaW.PrintLast Go.Proofs.YtlffpaploefljaaW.PrintMore
set_option linter.unusedVariables false
set_option linter.unusedSimpArgs false

theorem front_at (l : List Int) (v : Int) {i : Nat} (hi : i < l.length) : (l ++ [v]).getD i 0 = l.getD i 0 := by
  rw [List.getD_eq_getElem?_getD, List.getD_eq_getElem?_getD, List.getElem?_append_left hi]
theorem front_syms (l : List Int) (v : Int) (n : Nat) : ∀ i, i ≤ l.length → symsTo (l ++ [v]) i n = symsTo l i n
  | 0, _ => rfl
  | i + 1, h => by rw [symsTo_step, symsTo_step, front_syms l v n i (by omega), front_at l v (by omega)]
theorem snoc_cnt (l : List Int) (v : Int) (n : Nat) : cnt (l ++ [v]) n = cnt l n + if v = (n : Int) ∧ 0 < n then 1 else 0 := by
  unfold cnt
  rw [List.length_append, List.length_singleton, symsTo_step, front_syms l _ n _ (Nat.le_refl _), List.length_append]
  congr 1
  have : (l ++ [v]).getD l.length 0 = v := by simp
  rw [this]
  split <;> rfl
theorem weight_snoc (c : Nat → Nat) (v : Int) (h0 : 0 ≤ v) (h15 : v ≤ 15) : ∀ N, weighTo (fun n => c n + if v = (n : Int) ∧ 0 < n then 1 else 0) N = weighTo c N + if 0 < v ∧ v ≤ N then 2 ^ (15 - v.toNat) else 0
  | 0 => by rw [if_neg (by omega)]; rfl
  | N + 1 => by
    simp only [weighTo]
    rw [weight_snoc c v h0 h15 N, Nat.add_mul]
    by_cases h1 : 0 < v ∧ v ≤ N
    · rw [if_pos h1, if_neg (show ¬ (v = ((N + 1 : Nat) : Int) ∧ 0 < N + 1) by omega), if_pos (show 0 < v ∧ v ≤ ((N + 1 : Nat) : Int) by omega)]; omega
    · rw [if_neg h1]
      by_cases h2 : v = ((N + 1 : Nat) : Int)
      · rw [if_pos ⟨h2, by omega⟩, if_pos (show 0 < v ∧ v ≤ ((N + 1 : Nat) : Int) by omega), show v.toNat = N + 1 from by omega]; omega
      · rw [if_neg (fun h => h2 h.1), if_neg (show ¬ (0 < v ∧ v ≤ ((N + 1 : Nat) : Int)) by omega)]; omega
theorem all_snoc (c : Nat → Nat) (v : Int) (h0 : 0 ≤ v) (h15 : v ≤ 15) : ∀ N, allTo (fun n => c n + if v = (n : Int) ∧ 0 < n then 1 else 0) N = allTo c N + if 0 < v ∧ v ≤ N then 1 else 0
  | 0 => by rw [if_neg (by omega)]; rfl
  | N + 1 => by
    simp only [allTo]
    rw [all_snoc c v h0 h15 N]
    by_cases h1 : 0 < v ∧ v ≤ N
    · rw [if_pos h1, if_neg (show ¬ (v = ((N + 1 : Nat) : Int) ∧ 0 < N + 1) by omega), if_pos (show 0 < v ∧ v ≤ ((N + 1 : Nat) : Int) by omega)]; omega
    · rw [if_neg h1]
      by_cases h2 : v = ((N + 1 : Nat) : Int)
      · rw [if_pos ⟨h2, by omega⟩, if_pos (show 0 < v ∧ v ≤ ((N + 1 : Nat) : Int) by omega)]; omega
      · rw [if_neg (fun h => h2 h.1), if_neg (show ¬ (0 < v ∧ v ≤ ((N + 1 : Nat) : Int)) by omega)]; omega
/-- What lengths weigh, symbol by symbol. -/
def wTerm (v : Int) : Nat := if 0 < v then 2 ^ (15 - v.toNat) else 0
theorem cW_sum (l : List Int) : (∀ x ∈ l, 0 ≤ x ∧ x ≤ 15) → cW l = (l.map wTerm).sum := by
  induction l using snoc_induct with
  | h0 => intro _; decide
  | h1 l v ih =>
    intro h
    have hv := h v (by simp)
    have e : (fun n => (symsTo (l ++ [v]) (l ++ [v]).length n).length) = fun n => cnt l n + if v = (n : Int) ∧ 0 < n then 1 else 0 := funext (snoc_cnt l v)
    have := ih (fun x hx => h x (List.mem_append_left _ hx))
    unfold cW at this ⊢
    rw [e, weight_snoc _ v hv.1 hv.2, List.map_append, List.sum_append, ← this]
    show weighTo (cnt l) 15 + _ = weighTo (cnt l) 15 + _
    congr 1
    unfold wTerm
    by_cases h0 : 0 < v
    · rw [if_pos ⟨h0, by omega⟩]; simp [h0]
    · rw [if_neg (fun h => h0 h.1)]; simp [h0]
theorem cA_sum (l : List Int) : (∀ x ∈ l, 0 ≤ x ∧ x ≤ 15) → cA l = (l.map (fun v => if 0 < v then 1 else 0)).sum := by
  induction l using snoc_induct with
  | h0 => intro _; decide
  | h1 l v ih =>
    intro h
    have hv := h v (by simp)
    have e : (fun n => (symsTo (l ++ [v]) (l ++ [v]).length n).length) = fun n => cnt l n + if v = (n : Int) ∧ 0 < n then 1 else 0 := funext (snoc_cnt l v)
    have := ih (fun x hx => h x (List.mem_append_left _ hx))
    unfold cA at this ⊢
    rw [e, all_snoc _ v hv.1 hv.2, List.map_append, List.sum_append, ← this]
    show allTo (cnt l) 15 + _ = allTo (cnt l) 15 + _
    congr 1
    by_cases h0 : 0 < v
    · rw [if_pos ⟨h0, by omega⟩]; simp [h0]
    · rw [if_neg (fun h => h0 h.1)]; simp [h0]
theorem cnt_sum (n : Nat) (l : List Int) : cnt l n = (l.map (fun v => if v = (n : Int) ∧ 0 < n then 1 else 0)).sum := by
  induction l using snoc_induct with
  | h0 => rfl
  | h1 l v ih => rw [snoc_cnt, List.map_append, List.sum_append, ih]; simp
theorem sum_single (f : Int → Nat) (h : f 0 = 0) : ∀ (n j : Nat), j < n → (((List.replicate n (0 : Int)).set j 1).map f).sum = f 1
  | n + 1, 0, _ => by
    rw [List.replicate_succ, List.set_cons_zero, List.map_cons, List.sum_cons, List.map_replicate, h]
    simp
  | n + 1, j + 1, hj => by
    rw [List.replicate_succ, List.set_cons_succ, List.map_cons, List.sum_cons, h, sum_single f h n j (by omega)]
    omega
theorem QInv.perm {ws : List Int} {x : Int × List Int} {out : List Int} (h : QInv ws [x] out) : ((leafs ws ws.length).flatMap (·.2)).Perm x.2 := by
  refine (List.perm_ext_iff_of_nodup (leafs_nodup ws _) (by have := h.nodup; simpa using this)).2 fun a => ?_
  constructor
  · intro ha
    obtain ⟨y, hy, hay⟩ := List.mem_flatMap.1 ha
    obtain ⟨j, h1, h2, rfl⟩ := (leafs_mem ws _ y).1 hy
    have e : a = (j : Int) := by simpa using hay
    rw [e]
    exact (h.total h1).1 h2
  · intro ha
    have := h.syms x (by simp) a ha
    obtain ⟨j, rfl⟩ : ∃ j : Nat, a = (j : Int) := ⟨a.toNat, by omega⟩
    exact List.mem_flatMap.2 ⟨_, (leafs_mem ws _ _).2 ⟨j, by omega, (h.total (by omega)).2 ha, rfl⟩, by simp⟩
/-- As deep as there may be. -/
def deepest : Nat := 300
theorem deepest_is : deepest = 300 := rfl
/-- What a place adds, in parts of 2^300. -/
def kTerm (out : List Int) (s : Int) : Nat := 2 ^ (deepest - (rd out s).toNat)
theorem half_terms (o o' : List Int) : ∀ l : List Int, (∀ s ∈ l, rd o' s = rd o s + 1 ∧ 0 ≤ rd o s ∧ rd o s < 300) → 2 * (l.map (kTerm o')).sum = (l.map (kTerm o)).sum
  | [], _ => rfl
  | s :: r, h => by
    have h1 := h s List.mem_cons_self
    have e : 2 * kTerm o' s = kTerm o s := by
      unfold kTerm
      have := deepest_is
      rw [h1.1, show deepest - (rd o s).toNat = (deepest - (rd o s + 1).toNat) + 1 from by omega, Nat.pow_succ]
      omega
    rw [List.map_cons, List.sum_cons, List.map_cons, List.sum_cons, ← half_terms o o' r (fun t ht => h t (List.mem_cons_of_mem _ ht)), ← e]
    omega
theorem same_terms (o o' : List Int) (l : List Int) (h : ∀ s ∈ l, rd o' s = rd o s) : (l.map (kTerm o')).sum = (l.map (kTerm o)).sum := by
  congr 1
  exact List.map_congr_left fun s hs => by unfold kTerm; rw [h s hs]
/-- The lengths fill all that there is. -/
theorem once_kraft (ws : List Int) (h : weighs ws = true) (h2 : 2 ≤ pos ws) : ∃ x, QInv ws [x] (onceOf ws) ∧ (x.2.map (kTerm (onceOf ws))).sum = 2 ^ deepest ∧ ∀ s ∈ x.2, 1 ≤ rd (onceOf ws) s := by
  obtain ⟨w1, _⟩ := (weighs_iff ws).1 h
  obtain ⟨x, hx, hP⟩ := once_ind ws h h2 (P := fun q out => ∀ x ∈ q, (x.2.map (kTerm out)).sum = 2 ^ deepest ∧ (2 ≤ x.2.length → ∀ s ∈ x.2, 1 ≤ rd out s))
    (fun x hx => by
      obtain ⟨j, _, _, rfl⟩ := (leafs_mem ws _ x).1 ((sortQ_perm _).mem_iff.1 hx)
      refine ⟨?_, fun hl => by simp at hl⟩
      show (kTerm _ (j : Int)) + 0 = _
      unfold kTerm
      rw [rd_zeros]
      simp)
    (fun x y r out hq hP z hz => by
      obtain ⟨o1, o2, o3, _⟩ := q_outs (by omega) hq
      have hx : x ∈ x :: y :: r := List.mem_cons_self
      have hy : y ∈ x :: y :: r := List.mem_cons_of_mem _ List.mem_cons_self
      rcases (insQ_mem _ _ _).1 hz with rfl | hz
      · have e1 := half_terms out (bump out (x.2 ++ y.2)) x.2 (fun s hs => by
          have a := hq.outs x hx s hs
          have b := hq.long hx
          exact ⟨o1 s hs, a.1, by omega⟩)
        have e2 := half_terms out (bump out (x.2 ++ y.2)) y.2 (fun s hs => by
          have a := hq.outs y hy s hs
          have b := hq.long hy
          exact ⟨o2 s hs, a.1, by omega⟩)
        rw [(hP x hx).1] at e1
        rw [(hP y hy).1] at e2
        refine ⟨?_, fun _ s hs => ?_⟩
        · show ((x.2 ++ y.2).map _).sum = _
          rw [List.map_append, List.sum_append]
          generalize (x.2.map (kTerm (bump out (x.2 ++ y.2)))).sum = p at e1 ⊢
          generalize (y.2.map (kTerm (bump out (x.2 ++ y.2)))).sum = t at e2 ⊢
          generalize 2 ^ deepest = T at e1 e2 ⊢
          omega
        · rcases List.mem_append.1 hs with hs | hs
          · rw [o1 s hs]; have := (hq.outs x hx s hs).1; omega
          · rw [o2 s hs]; have := (hq.outs y hy s hs).1; omega
      · have hzr := List.mem_cons_of_mem x (List.mem_cons_of_mem y hz)
        refine ⟨by rw [same_terms out _ z.2 (o3 z hz)]; exact (hP z hzr).1, fun hl s hs => ?_⟩
        rw [o3 z hz s hs]
        exact (hP z hzr).2 hl s hs)
  refine ⟨x, hx, (hP x (by simp)).1, (hP x (by simp)).2 ?_⟩
  have hl := hx.perm.length_eq
  have hg : ∀ i : Nat, ((leafs ws i).flatMap (·.2)).length = (leafs ws i).length := by
    intro i
    induction i with
    | zero => rfl
    | succ i ih =>
      rw [leafs_succ, List.flatMap_append, List.length_append, List.length_append, ih]
      congr 1
      by_cases hp : 0 < ws.getD i 0
      · rw [if_pos hp]; rfl
      · rw [if_neg hp]; rfl
  rw [hg, leafs_count] at hl
  omega
/-- Just weights above 0 have a length. -/
theorem once_has (ws : List Int) (h : weighs ws = true) {i : Nat} (hi : i < ws.length) : 0 < rd (onceOf ws) (i : Int) ↔ 0 < ws.getD i 0 := by
  by_cases h0 : pos ws = 0
  · rw [once_none ws h0, rd_zeros]
    constructor
    · intro hh; omega
    · intro hh
      exfalso
      have : (leafs ws ws.length).length = 0 := by rw [leafs_count, h0]
      have hm := (leafs_mem ws ws.length _).2 ⟨i, hi, hh, rfl⟩
      rw [List.length_eq_zero_iff.1 this] at hm
      simp at hm
  · by_cases h1 : pos ws = 1
    · obtain ⟨j, hj, a1, a2, e⟩ := once_single ws h1
      have := rd_set (List.replicate ws.length 0) (j : Int) (i : Int) 1 (by omega) (by omega) (by simp; omega)
      rw [Int.toNat_natCast] at this
      rw [e, this]
      by_cases hij : (i : Int) = j
      · rw [if_pos hij]
        have : i = j := by omega
        subst this
        exact ⟨fun _ => a1, fun _ => by omega⟩
      · rw [if_neg hij, rd_zeros]
        exact ⟨fun hh => by omega, fun hh => by have := a2 i hi hh; omega⟩
    · obtain ⟨x, hx, _, ho⟩ := once_kraft ws h (by omega)
      constructor
      · intro hh
        refine Classical.byContradiction fun hc => ?_
        rw [hx.zero i hi hc] at hh
        omega
      · intro hh
        have := ho _ ((hx.total hi).1 hh)
        omega
theorem terms_take (ws l : List Int) (hl : l.length = ws.length) (h : ∀ i : Nat, i < ws.length → (0 < rd l (i : Int) ↔ 0 < ws.getD i 0)) : ∀ i : Nat, i ≤ ws.length → ((l.take i).map wTerm).sum = (((leafs ws i).flatMap (·.2)).map (fun s => 2 ^ (15 - (rd l s).toNat))).sum
  | 0, _ => by simp [leafs]
  | i + 1, hi => by
    have hlt : i < l.length := by omega
    rw [List.take_succ_eq_append_getElem hlt, List.map_append, List.sum_append, terms_take ws l hl h i (by omega), leafs_succ, List.flatMap_append, List.map_append, List.sum_append]
    congr 1
    have e : rd l (i : Int) = l[i] := by rw [rd_nat]; simp [hlt]
    have hh := h i (by omega)
    rw [e] at hh
    unfold wTerm
    by_cases hp : 0 < ws.getD i 0
    · rw [if_pos hp]
      simp [hh.2 hp, e]
    · rw [if_neg hp]
      have : ¬ 0 < l[i] := fun h => hp (hh.1 h)
      simp [this]
theorem scale_terms (o : List Int) : ∀ l : List Int, (∀ s ∈ l, rd o s ≤ 15) → (l.map (kTerm o)).sum = 2 ^ (deepest - 15) * (l.map (fun s => 2 ^ (15 - (rd o s).toNat))).sum
  | [], _ => rfl
  | s :: r, h => by
    have h1 := h s List.mem_cons_self
    rw [List.map_cons, List.sum_cons, List.map_cons, List.sum_cons, scale_terms o r (fun t ht => h t (List.mem_cons_of_mem _ ht)), Nat.mul_add]
    congr 1
    unfold kTerm
    have := deepest_is
    rw [← Nat.pow_add]
    congr 1
    omega
/-- The lengths make codes, where none is above 15. -/
theorem once_check (ws : List Int) (h : weighs ws = true) (hb : ∀ v ∈ onceOf ws, v ≤ 15) : canon_Check.f (onceOf ws) = some 0 := by
  obtain ⟨w1, _⟩ := (weighs_iff ws).1 h
  have hr : ∀ v ∈ onceOf ws, 0 ≤ v ∧ v ≤ 15 := fun v hv => ⟨once_nonneg ws h v hv, hb v hv⟩
  refine (check_iff _).2 ⟨(rightB_iff _).2 ⟨by rw [once_length]; exact w1, hr⟩, ?_⟩
  unfold makesB
  simp only [Bool.or_eq_true, beq_iff_eq, Bool.and_eq_true]
  by_cases h0 : pos ws = 0
  · refine Or.inr (Or.inl ?_)
    rw [cA_sum _ hr, once_none ws h0, List.map_replicate]
    simp
  · by_cases h1 : pos ws = 1
    · obtain ⟨j, hj, _, _, e⟩ := once_single ws h1
      refine Or.inr (Or.inr ⟨?_, ?_⟩)
      · rw [cA_sum _ hr, e, sum_single _ (by simp) _ _ hj]
        rfl
      · have := cnt_sum 1 (onceOf ws)
        unfold cnt at this
        rw [this, e, sum_single _ (by simp) _ _ hj]
        rfl
    · obtain ⟨x, hx, hk, _⟩ := once_kraft ws h (by omega)
      refine Or.inl ?_
      have hx15 : ∀ s ∈ x.2, rd (onceOf ws) s ≤ 15 := by
        intro s hs
        have := hx.syms x (by simp) s hs
        obtain ⟨j, rfl⟩ : ∃ j : Nat, s = (j : Int) := ⟨s.toNat, by omega⟩
        exact hb _ (rd_lt_mem (by rw [once_length]; omega))
      rw [scale_terms _ _ hx15] at hk
      have ht := terms_take ws (onceOf ws) (once_length ws) (fun i hi => once_has ws h hi) ws.length (Nat.le_refl _)
      rw [← once_length ws, List.take_length] at ht
      rw [cW_sum _ hr, ht, once_length, (hx.perm.map _).sum_nat]
      generalize (x.2.map (fun s => 2 ^ (15 - (rd (onceOf ws) s).toNat))).sum = T at hk
      have e : (2 : Nat) ^ deepest = 2 ^ (deepest - 15) * 32768 := by
        rw [show (32768 : Nat) = 2 ^ 15 from rfl, ← Nat.pow_add]
        exact congrArg (fun n => 2 ^ n) (show deepest = deepest - 15 + 15 from by decide)
      rw [e] at hk
      exact Nat.eq_of_mul_eq_mul_left (Nat.pow_pos (by decide)) hk
end Go.Proofs.Ytlffpaploefljaa.Glue
