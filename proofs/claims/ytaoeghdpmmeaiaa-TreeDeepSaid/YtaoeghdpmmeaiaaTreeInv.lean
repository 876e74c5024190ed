/- What holds of the nodes and the lengths at each round of the tree; used by the claims of this seat. -/
import Derived.Test.YtaoeghdpmmeaiaaTreePlain
import Derived.Test.YtaoeghdpmmeaiaaPx4
import Derived.Test.YtaoeghdpmmeaiaaPx10
namespace Go.Proofs.Ytaoeghdpmmeaiaa.Glue
open Go.RowKit Go.Proofs.Ytaoeghdpmmeaiaa.P Go.Proofs.YtaoeghdpmmeaiaaW.PrintWords Go.Proofs.YtaoeghdpmmeaiaaW.PrintLast Go.Proofs.YtaoeghdpmmeaiaaW.PrintMore
set_option linter.unusedVariables false
set_option linter.unusedSimpArgs false

theorem rd_set (out : List Int) (t s v : Int) (ht : 0 ≤ t) (hs : 0 ≤ s) (hl : t < out.length) : rd (out.set t.toNat v) s = if s = t then v else rd out s := by
  unfold rd
  by_cases h : s = t
  · subst h
    rw [if_pos rfl, List.getD_eq_getElem?_getD, List.getElem?_set_self (by omega)]
    rfl
  · rw [if_neg h, List.getD_eq_getElem?_getD, List.getD_eq_getElem?_getD, List.getElem?_set_ne (by omega)]
theorem bump_rd : ∀ (both out : List Int) (s : Int), both.Nodup → (∀ t ∈ both, 0 ≤ t ∧ t < out.length) → (∀ t ∈ both, 0 ≤ rd out t ∧ rd out t < 2 ^ 40) → 0 ≤ s → rd (bump out both) s = if s ∈ both then rd out s + 1 else rd out s
  | [], out, s, _, _, _, _ => by rw [if_neg (by simp)]; rfl
  | t :: r, out, s, hn, hr, ho, hs => by
    rw [List.nodup_cons] at hn
    have ht := hr t List.mem_cons_self
    have hot := ho t List.mem_cons_self
    have hw : wrap64 (rd out t + 1) = rd out t + 1 := wrap64_in (by omega) (by omega)
    have e : bump out (t :: r) = bump (out.set t.toNat (rd out t + 1)) r := by
      show bump (out.set t.toNat (wrap64 (rd out t + 1))) r = _
      rw [hw]
    have hne : ∀ u ∈ r, u ≠ t := fun u hu he => hn.1 (he ▸ hu)
    have hset : ∀ u, 0 ≤ u → rd (out.set t.toNat (rd out t + 1)) u = if u = t then rd out t + 1 else rd out u := fun u hu => rd_set out t u _ ht.1 hu ht.2
    rw [e, bump_rd r _ s hn.2 (fun u hu => by rw [List.length_set]; exact hr u (List.mem_cons_of_mem _ hu)) (fun u hu => by
      rw [hset u (hr u (List.mem_cons_of_mem _ hu)).1, if_neg (hne u hu)]
      exact ho u (List.mem_cons_of_mem _ hu)) hs, hset s hs]
    by_cases h : s = t
    · subst h
      rw [if_pos rfl, if_neg hn.1, if_pos List.mem_cons_self]
    · rw [if_neg h]
      by_cases h2 : s ∈ r
      · rw [if_pos h2, if_pos (List.mem_cons_of_mem _ h2)]
      · rw [if_neg h2, if_neg (by rw [List.mem_cons]; exact fun hh => hh.elim h h2)]
/-- What holds at every round. -/
structure QInv (ws : List Int) (q : List (Int × List Int)) (out : List Int) : Prop where
  len : out.length = ws.length
  sorted : q.Pairwise (fun a b => a.1 ≤ b.1)
  nodup : (q.flatMap (·.2)).Nodup
  count : (q.map (·.2.length)).sum ≤ ws.length
  syms : ∀ x ∈ q, ∀ s ∈ x.2, 0 ≤ s ∧ s < ws.length ∧ 0 < rd ws s
  cover : ∀ i : Nat, i < ws.length → 0 < ws.getD i 0 → (i : Int) ∈ q.flatMap (·.2)
  weight : ∀ x ∈ q, x.1 = (x.2.map (rd ws)).sum
  ne : ∀ x ∈ q, x.2 ≠ []
  outs : ∀ x ∈ q, ∀ s ∈ x.2, 0 ≤ rd out s ∧ rd out s + 1 ≤ x.2.length
  zero : ∀ i : Nat, i < ws.length → ¬ 0 < ws.getD i 0 → rd out i = 0
theorem sum_mem (f : Int × List Int → Nat) : ∀ (q : List (Int × List Int)) (x : Int × List Int), x ∈ q → f x ≤ (q.map f).sum
  | y :: ys, x, h => by
    rw [List.map_cons, List.sum_cons]
    rcases List.mem_cons.1 h with rfl | h
    · omega
    · have := sum_mem f ys x h; omega
theorem QInv.long {ws : List Int} {q : List (Int × List Int)} {out : List Int} (h : QInv ws q out) {x : Int × List Int} (hx : x ∈ q) : x.2.length ≤ ws.length := Nat.le_trans (sum_mem (·.2.length) q x hx) h.count
theorem sum_rd_pos (ws : List Int) : ∀ l : List Int, (∀ s ∈ l, 0 < rd ws s) → (l.length : Int) ≤ (l.map (rd ws)).sum
  | [], _ => by simp
  | s :: r, h => by
    have h1 := sum_rd_pos ws r (fun t ht => h t (List.mem_cons_of_mem _ ht))
    have h2 := h s List.mem_cons_self
    rw [List.map_cons, List.sum_cons, List.length_cons]
    omega
theorem QInv.big {ws : List Int} {q : List (Int × List Int)} {out : List Int} (h : QInv ws q out) {x : Int × List Int} (hx : x ∈ q) : 1 ≤ x.1 := by
  have h1 := sum_rd_pos ws x.2 (fun s hs => (h.syms x hx s hs).2.2)
  have h2 := h.ne x hx
  rw [h.weight x hx]
  have : 0 < x.2.length := by cases hh : x.2 with | nil => exact absurd hh h2 | cons a b => simp
  omega
theorem q_outs {ws : List Int} {x y : Int × List Int} {r : List (Int × List Int)} {out : List Int} (hn : ws.length ≤ 2 ^ 30) (h : QInv ws (x :: y :: r) out) :
    (∀ s ∈ x.2, rd (bump out (x.2 ++ y.2)) s = rd out s + 1) ∧ (∀ s ∈ y.2, rd (bump out (x.2 ++ y.2)) s = rd out s + 1) ∧ (∀ z ∈ r, ∀ s ∈ z.2, rd (bump out (x.2 ++ y.2)) s = rd out s) ∧ (∀ s, 0 ≤ s → s ∉ x.2 ++ y.2 → rd (bump out (x.2 ++ y.2)) s = rd out s) := by
  have hd := h.nodup
  simp only [List.flatMap_cons] at hd
  rw [← List.append_assoc, List.nodup_append] at hd
  obtain ⟨d1, d2, d3⟩ := hd
  have hx : x ∈ x :: y :: r := List.mem_cons_self
  have hy : y ∈ x :: y :: r := List.mem_cons_of_mem _ List.mem_cons_self
  have hin : ∀ t ∈ x.2 ++ y.2, (0 ≤ t ∧ t < out.length) ∧ 0 ≤ rd out t ∧ rd out t < 2 ^ 40 := by
    intro t ht
    rw [h.len]
    rcases List.mem_append.1 ht with ht | ht
    · have a := h.syms x hx t ht
      have b := h.outs x hx t ht
      have c := h.long hx
      exact ⟨⟨a.1, a.2.1⟩, b.1, by omega⟩
    · have a := h.syms y hy t ht
      have b := h.outs y hy t ht
      have c := h.long hy
      exact ⟨⟨a.1, a.2.1⟩, b.1, by omega⟩
  have hb : ∀ s, 0 ≤ s → rd (bump out (x.2 ++ y.2)) s = if s ∈ x.2 ++ y.2 then rd out s + 1 else rd out s := fun s hs => bump_rd (x.2 ++ y.2) out s d1 (fun t ht => (hin t ht).1) (fun t ht => (hin t ht).2) hs
  refine ⟨fun s hs => ?_, fun s hs => ?_, fun z hz s hs => ?_, fun s h0 hs => ?_⟩
  · have hm : s ∈ x.2 ++ y.2 := List.mem_append_left _ hs
    rw [hb s (hin s hm).1.1, if_pos hm]
  · have hm : s ∈ x.2 ++ y.2 := List.mem_append_right _ hs
    rw [hb s (hin s hm).1.1, if_pos hm]
  · have h0 := (h.syms z (List.mem_cons_of_mem _ (List.mem_cons_of_mem _ hz)) s hs).1
    rw [hb s h0, if_neg]
    intro hm
    exact d3 s hm s (List.mem_flatMap.2 ⟨z, hz, hs⟩) rfl
  · rw [hb s h0, if_neg hs]
theorem q_step {ws : List Int} (hn : ws.length ≤ 2 ^ 30) (x y : Int × List Int) (r : List (Int × List Int)) (out : List Int) (h : QInv ws (x :: y :: r) out) : QInv ws (insQ (x.1 + y.1, x.2 ++ y.2) r) (bump out (x.2 ++ y.2)) := by
  obtain ⟨o1, o2, o3, o4⟩ := q_outs hn h
  have hx : x ∈ x :: y :: r := List.mem_cons_self
  have hy : y ∈ x :: y :: r := List.mem_cons_of_mem _ List.mem_cons_self
  have hr : ∀ z ∈ r, z ∈ x :: y :: r := fun z hz => List.mem_cons_of_mem _ (List.mem_cons_of_mem _ hz)
  have hp : ((insQ (x.1 + y.1, x.2 ++ y.2) r).flatMap (·.2)).Perm ((x :: y :: r).flatMap (·.2)) := by
    refine (List.Perm.flatMap_right _ (insQ_perm _ r)).trans ?_
    simp only [List.flatMap_cons, List.append_assoc]
    exact List.Perm.refl _
  have hm : ∀ z, z ∈ insQ (x.1 + y.1, x.2 ++ y.2) r → z = (x.1 + y.1, x.2 ++ y.2) ∨ z ∈ r := fun z hz => (insQ_mem _ _ _).1 hz
  refine ⟨?_, ?_, hp.nodup_iff.2 h.nodup, ?_, fun z hz => ?_, fun i hi hw => hp.mem_iff.2 (h.cover i hi hw), fun z hz => ?_, fun z hz => ?_, fun z hz s hs => ?_, fun i hi hw => ?_⟩
  · rw [bump_length, h.len]
  · have := h.sorted
    rw [List.pairwise_cons, List.pairwise_cons] at this
    exact insQ_sorted _ _ this.2.2
  · have := h.count
    rw [insQ_sumN]
    simp only [List.map_cons, List.sum_cons] at this
    show (x.2 ++ y.2).length + _ ≤ _
    rw [List.length_append]
    omega
  · rcases hm z hz with rfl | hz
    · intro s hs
      rcases List.mem_append.1 hs with hs | hs
      · exact h.syms x hx s hs
      · exact h.syms y hy s hs
    · exact h.syms z (hr z hz)
  · rcases hm z hz with rfl | hz
    · show x.1 + y.1 = ((x.2 ++ y.2).map (rd ws)).sum
      rw [List.map_append, List.sum_append, ← h.weight x hx, ← h.weight y hy]
    · exact h.weight z (hr z hz)
  · rcases hm z hz with rfl | hz
    · intro he
      exact h.ne x hx (List.append_eq_nil_iff.1 he).1
    · exact h.ne z (hr z hz)
  · rcases hm z hz with rfl | hz
    · have lx : 0 < x.2.length := by cases hh : x.2 with | nil => exact absurd hh (h.ne x hx) | cons a b => simp
      have ly : 0 < y.2.length := by cases hh : y.2 with | nil => exact absurd hh (h.ne y hy) | cons a b => simp
      have hs' : s ∈ x.2 ++ y.2 := hs
      have hl : ((x.1 + y.1, x.2 ++ y.2) : Int × List Int).2.length = x.2.length + y.2.length := List.length_append
      rw [hl]
      rcases List.mem_append.1 hs' with hs | hs
      · rw [o1 s hs]; have := h.outs x hx s hs; omega
      · rw [o2 s hs]; have := h.outs y hy s hs; omega
    · rw [o3 z hz s hs]
      exact h.outs z (hr z hz) s hs
  · rw [o4 (i : Int) (by omega) (fun hin => ?_)]
    · exact h.zero i hi hw
    · have hp2 : 0 < rd ws (i : Int) := by
        rcases List.mem_append.1 hin with hs | hs
        · exact (h.syms x hx _ hs).2.2
        · exact (h.syms y hy _ hs).2.2
      rw [rd_nat] at hp2
      exact hw hp2
theorem leafs_mem (ws : List Int) : ∀ (i : Nat) (x : Int × List Int), x ∈ leafs ws i ↔ ∃ j : Nat, j < i ∧ 0 < ws.getD j 0 ∧ x = (ws.getD j 0, [(j : Int)])
  | 0, x => by simp [leafs]
  | i + 1, x => by
    rw [leafs_succ, List.mem_append, leafs_mem ws i]
    constructor
    · rintro (⟨j, h1, h2, h3⟩ | h)
      · exact ⟨j, by omega, h2, h3⟩
      · by_cases hp : 0 < ws.getD i 0
        · rw [if_pos hp] at h
          exact ⟨i, by omega, hp, by simpa using h⟩
        · rw [if_neg hp] at h; simp at h
    · rintro ⟨j, h1, h2, h3⟩
      by_cases hj : j = i
      · subst hj
        exact Or.inr (by rw [if_pos h2, h3]; simp)
      · exact Or.inl ⟨j, by omega, h2, h3⟩
theorem leafs_nodup (ws : List Int) : ∀ i : Nat, ((leafs ws i).flatMap (·.2)).Nodup
  | 0 => by simp [leafs]
  | i + 1 => by
    rw [leafs_succ, List.flatMap_append, List.nodup_append]
    refine ⟨leafs_nodup ws i, ?_, fun a ha b hb => ?_⟩
    · by_cases hp : 0 < ws.getD i 0
      · rw [if_pos hp]; simp
      · rw [if_neg hp]; simp
    · obtain ⟨x, hx, hax⟩ := List.mem_flatMap.1 ha
      obtain ⟨j, h1, h2, rfl⟩ := (leafs_mem ws i x).1 hx
      have ea : a = (j : Int) := by simpa using hax
      by_cases hp : 0 < ws.getD i 0
      · rw [if_pos hp] at hb
        have eb : b = (i : Int) := by simpa using hb
        omega
      · rw [if_neg hp] at hb; simp at hb
theorem rd_zeros (n : Nat) (s : Int) : rd (List.replicate n (0 : Int)) s = 0 := by
  unfold rd
  rw [List.getD_eq_getElem?_getD, List.getElem?_replicate]
  by_cases h : s.toNat < n
  · rw [if_pos h]; rfl
  · rw [if_neg h]; rfl
theorem q_start (ws : List Int) : QInv ws (sortQ (leafs ws ws.length)) (List.replicate ws.length 0) := by
  have hp := sortQ_perm (leafs ws ws.length)
  have hpf := List.Perm.flatMap_right (fun x : Int × List Int => x.2) hp
  have hm : ∀ x, x ∈ sortQ (leafs ws ws.length) → ∃ j : Nat, j < ws.length ∧ 0 < ws.getD j 0 ∧ x = (ws.getD j 0, [(j : Int)]) := fun x hx => (leafs_mem ws _ x).1 (hp.mem_iff.1 hx)
  refine ⟨by simp, sortQ_sorted _, hpf.nodup_iff.2 (leafs_nodup ws _), ?_, fun x hx s hs => ?_, fun i hi hw => hpf.mem_iff.2 (List.mem_flatMap.2 ⟨_, (leafs_mem ws _ _).2 ⟨i, hi, hw, rfl⟩, by simp⟩), fun x hx => ?_, fun x hx => ?_, fun x hx s hs => ?_, fun i hi hw => rd_zeros _ _⟩
  · rw [(hp.map _).sum_nat]
    exact (leafs_good ws ws.length (Nat.le_refl _)).2.1
  · obtain ⟨j, h1, h2, rfl⟩ := hm x hx
    have e : s = (j : Int) := by simpa using hs
    subst e
    exact ⟨by omega, by omega, by rw [rd_nat]; exact h2⟩
  · obtain ⟨j, h1, h2, rfl⟩ := hm x hx
    simp [rd_nat]
  · obtain ⟨j, h1, h2, rfl⟩ := hm x hx
    simp
  · obtain ⟨j, h1, h2, rfl⟩ := hm x hx
    rw [rd_zeros]
    simp
theorem leafs_pos (ws : List Int) : ∀ i : Nat, i ≤ ws.length → (leafs ws i).length = pos (ws.take i)
  | 0, _ => by simp [leafs, pos]
  | i + 1, h => by
    have hlt : i < ws.length := by omega
    have e : ws.getD i 0 = ws[i] := by simp [hlt]
    rw [leafs_succ, List.length_append, leafs_pos ws i (by omega), List.take_succ_eq_append_getElem hlt]
    unfold pos
    rw [List.filter_append, List.length_append, e]
    congr 1
    by_cases hp : 0 < ws[i] <;> simp [hp]
theorem leafs_count (ws : List Int) : (leafs ws ws.length).length = pos ws := by rw [leafs_pos ws _ (Nat.le_refl _), List.take_length]
theorem leafs_sum (ws : List Int) (h : ∀ x ∈ ws, 0 ≤ x) : ∀ i : Nat, i ≤ ws.length → ((leafs ws i).map (·.1)).sum = (ws.take i).sum
  | 0, _ => by simp [leafs]
  | i + 1, hi => by
    have hlt : i < ws.length := by omega
    have e : ws.getD i 0 = ws[i] := by simp [hlt]
    rw [leafs_succ, List.map_append, List.sum_append, leafs_sum ws h i (by omega), List.take_succ_eq_append_getElem hlt, List.sum_append, e]
    congr 1
    by_cases hp : 0 < ws[i]
    · rw [if_pos hp]; simp
    · rw [if_neg hp]
      have := h ws[i] (List.getElem_mem hlt)
      simp; omega
theorem int_sum_perm {l1 l2 : List Int} (h : l1.Perm l2) : l1.sum = l2.sum := by
  induction h with
  | nil => rfl
  | cons x _ ih => rw [List.sum_cons, List.sum_cons, ih]
  | swap x y l => simp only [List.sum_cons]; omega
  | trans _ _ h1 h2 => rw [h1, h2]
theorem q_sum (ws : List Int) (h : ∀ x ∈ ws, 0 ≤ x) : ((sortQ (leafs ws ws.length)).map (·.1)).sum = ws.sum := by
  rw [int_sum_perm ((sortQ_perm _).map _), leafs_sum ws h _ (Nat.le_refl _), List.take_length]
theorem sum_le (B : Int) : ∀ ws : List Int, (∀ x ∈ ws, 0 ≤ x ∧ x ≤ B) → 0 ≤ ws.sum ∧ ws.sum ≤ ws.length * B
  | [], _ => by simp
  | x :: xs, h => by
    have h1 := sum_le B xs (fun y hy => h y (List.mem_cons_of_mem _ hy))
    have h2 := h x List.mem_cons_self
    rw [List.sum_cons, List.length_cons]
    have : ((xs.length + 1 : Nat) : Int) * B = xs.length * B + B := by rw [show ((xs.length + 1 : Nat) : Int) = (xs.length : Int) + 1 from by omega, Int.add_mul, Int.one_mul]
    omega
/-- What is told, where there are at least two: by the sorted row. -/
theorem once_is (ws : List Int) (h : weighs ws = true) (h2 : pos ws ≠ 1) : onceOf ws = qRun (pos ws) (sortQ (leafs ws ws.length)) (List.replicate ws.length 0) := by
  obtain ⟨w1, w2⟩ := (weighs_iff ws).1 h
  unfold onceOf
  rw [leafs_count, if_neg h2, once_q]
  refine q_lift _ _ _ (fun x hx => ?_) ?_
  · obtain ⟨j, _, h2, rfl⟩ := (leafs_mem ws _ x).1 ((sortQ_perm _).mem_iff.1 hx)
    exact Int.le_of_lt h2
  · rw [q_sum ws (fun x hx => (w2 x hx).1)]
    have := (sum_le 1048576 ws w2).2
    omega
/-- A law that holds at the start and is kept by each round holds at the end, where one is left. -/
theorem once_ind (ws : List Int) (h : weighs ws = true) (h2 : 2 ≤ pos ws) {P : List (Int × List Int) → List Int → Prop} (start : P (sortQ (leafs ws ws.length)) (List.replicate ws.length 0))
    (step : ∀ x y r out, QInv ws (x :: y :: r) out → P (x :: y :: r) out → P (insQ (x.1 + y.1, x.2 ++ y.2) r) (bump out (x.2 ++ y.2))) :
    ∃ x, QInv ws [x] (onceOf ws) ∧ P [x] (onceOf ws) := by
  obtain ⟨w1, w2⟩ := (weighs_iff ws).1 h
  rw [once_is ws h (by omega)]
  have hl : (sortQ (leafs ws ws.length)).length = pos ws := by rw [sortQ_length, leafs_count]
  obtain ⟨q', h1, h3, h4⟩ := qRun_ind (P := fun q out => QInv ws q out ∧ P q out) (fun x y r out hP => ⟨q_step (by omega) x y r out hP.1, step x y r out hP.1 hP.2⟩) (pos ws) _ _ (by omega) ⟨q_start ws, start⟩
  have h5 := h3 (by omega)
  match q', h5 with
  | [x], _ => exact ⟨x, h4⟩
end Go.Proofs.Ytaoeghdpmmeaiaa.Glue
