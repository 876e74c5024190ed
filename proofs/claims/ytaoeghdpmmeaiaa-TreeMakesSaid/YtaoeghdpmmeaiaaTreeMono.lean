/- Of two weights the greater one's length is no greater; used by the claims of this seat. -/
import Derived.Test.YtaoeghdpmmeaiaaTreeAll
import Derived.Test.YtaoeghdpmmeaiaaPx4
import Derived.Test.YtaoeghdpmmeaiaaPx10
namespace Go.Proofs.Ytaoeghdpmmeaiaa.Glue
open Go.RowKit Go.Proofs.Ytaoeghdpmmeaiaa.P Go.Proofs.YtaoeghdpmmeaiaaW.PrintWords Go.Proofs.YtaoeghdpmmeaiaaW.PrintLast Go.Proofs.YtaoeghdpmmeaiaaW.PrintMore
set_option linter.unusedVariables false
set_option linter.unusedSimpArgs false

/-- In one node the heavier one's length is no greater. -/
def SameB (ws out : List Int) (x : Int × List Int) : Prop := ∀ s ∈ x.2, ∀ t ∈ x.2, rd ws t < rd ws s → rd out s ≤ rd out t
/-- What is taken earlier is deeper, as far as weights tell it. -/
def BeforeB (ws out : List Int) (a b : Int × List Int) : Prop := ∀ s ∈ a.2, ∀ t ∈ b.2, (rd ws t < rd ws s → rd out s < rd out t) ∧ (rd ws s < rd ws t → rd out t ≤ rd out s)
theorem insQ_pairwise {B : Int × List Int → Int × List Int → Prop} (z : Int × List Int) : ∀ r : List (Int × List Int), r.Pairwise (fun a b => a.1 ≤ b.1) → r.Pairwise B → (∀ w ∈ r, w.1 ≤ z.1 → B w z) → (∀ w ∈ r, z.1 < w.1 → B z w) → (insQ z r).Pairwise B
  | [], _, _, _, _ => by simp [insQ]
  | y :: ys, hs, hb, h1, h2 => by
    unfold insQ
    rw [List.pairwise_cons] at hs hb
    by_cases h : z.1 < y.1
    · rw [if_pos h]
      refine List.pairwise_cons.2 ⟨fun b hb' => ?_, List.pairwise_cons.2 hb⟩
      rcases List.mem_cons.1 hb' with rfl | hb'
      · exact h2 _ List.mem_cons_self h
      · have := hs.1 b hb'
        exact h2 b (List.mem_cons_of_mem _ hb') (by omega)
    · rw [if_neg h]
      refine List.pairwise_cons.2 ⟨fun b hb' => ?_, insQ_pairwise z ys hs.2 hb.2 (fun w hw => h1 w (List.mem_cons_of_mem _ hw)) (fun w hw => h2 w (List.mem_cons_of_mem _ hw))⟩
      rcases (insQ_mem z b ys).1 hb' with rfl | hb'
      · exact h1 y List.mem_cons_self (by omega)
      · exact hb.1 b hb'
/-- Of two weights the greater one's length is no greater. -/
theorem once_mono (ws : List Int) (h : weighs ws = true) (h2 : 2 ≤ pos ws) {i k : Nat} (hi : i < ws.length) (hk : k < ws.length) (h0 : 0 < ws.getD k 0) (hlt : ws.getD k 0 < ws.getD i 0) : rd (onceOf ws) (i : Int) ≤ rd (onceOf ws) (k : Int) := by
  obtain ⟨w1, _⟩ := (weighs_iff ws).1 h
  obtain ⟨x, hx, _, hS, _⟩ := once_ind ws h h2 (P := fun q out => (∀ x y r, q = x :: y :: r → ∀ z ∈ r, 2 ≤ z.2.length → z.1 ≤ x.1 + y.1) ∧ (∀ x ∈ q, SameB ws out x) ∧ q.Pairwise (BeforeB ws out))
    (by
      have hm : ∀ x, x ∈ sortQ (leafs ws ws.length) → ∃ j : Nat, j < ws.length ∧ 0 < ws.getD j 0 ∧ x = (ws.getD j 0, [(j : Int)]) := fun x hx => (leafs_mem ws _ x).1 ((sortQ_perm _).mem_iff.1 hx)
      refine ⟨fun x y r he z hz hl => ?_, fun x hx s hs t ht hst => ?_, ?_⟩
      · obtain ⟨j, _, _, rfl⟩ := hm z (by rw [he]; simp [hz])
        simp at hl
      · rw [rd_zeros, rd_zeros]; exact Int.le_refl _
      · refine List.Pairwise.imp_of_mem (R := fun a b => a.1 ≤ b.1) (fun {a b} ha hb hab s hs t ht => ?_) (sortQ_sorted _)
        obtain ⟨j, _, _, rfl⟩ := hm a ha
        obtain ⟨l, _, _, rfl⟩ := hm b hb
        have es : s = (j : Int) := by simpa using hs
        have et : t = (l : Int) := by simpa using ht
        subst es et
        rw [rd_zeros, rd_zeros, rd_nat, rd_nat]
        have hab : ws.getD j 0 ≤ ws.getD l 0 := hab
        exact ⟨fun hh => by omega, fun _ => Int.le_refl _⟩)
    (by
      rintro x y r out hq ⟨hA, hS, hB⟩
      obtain ⟨o1, o2, o3, _⟩ := q_outs (by omega) hq
      have hx : x ∈ x :: y :: r := List.mem_cons_self
      have hy : y ∈ x :: y :: r := List.mem_cons_of_mem _ List.mem_cons_self
      have hr : ∀ z ∈ r, z ∈ x :: y :: r := fun z hz => List.mem_cons_of_mem _ (List.mem_cons_of_mem _ hz)
      obtain ⟨s1, s2⟩ := sorted_two hq.sorted
      have b1 := hq.big hx
      have hsr : r.Pairwise (fun a b => a.1 ≤ b.1) := by
        have := hq.sorted
        rw [List.pairwise_cons, List.pairwise_cons] at this
        exact this.2.2
      rw [List.pairwise_cons, List.pairwise_cons] at hB
      obtain ⟨hBx, hBy, hBr⟩ := hB
      -- what stands behind: its symbols' lengths against those of the two that are taken
      have far : ∀ w ∈ r, ∀ s ∈ x.2 ++ y.2, ∀ t ∈ w.2, (rd ws t < rd ws s → rd out s < rd out t) ∧ (rd ws s < rd ws t → rd out t ≤ rd out s) := by
        intro w hw s hs t ht
        rcases List.mem_append.1 hs with hs | hs
        · exact hBx w (List.mem_cons_of_mem _ hw) s hs t ht
        · exact hBy w hw s hs t ht
      have oz : ∀ s ∈ x.2 ++ y.2, rd (bump out (x.2 ++ y.2)) s = rd out s + 1 := by
        intro s hs
        rcases List.mem_append.1 hs with hs | hs
        · exact o1 s hs
        · exact o2 s hs
      refine ⟨fun x' y' r' he z hz hl => ?_, fun z hz => ?_, ?_⟩
      · have hmem : ∀ u, u ∈ x' :: y' :: r' → u = (x.1 + y.1, x.2 ++ y.2) ∨ u ∈ r := fun u hu => (insQ_mem _ _ _).1 (by rw [he]; exact hu)
        have ge : ∀ u, u ∈ x' :: y' :: r' → y.1 ≤ u.1 := by
          intro u hu
          rcases hmem u hu with rfl | hu
          · show y.1 ≤ x.1 + y.1; omega
          · exact s2 u hu
        have gx := ge x' List.mem_cons_self
        have gy := ge y' (List.mem_cons_of_mem _ List.mem_cons_self)
        rcases hmem z (List.mem_cons_of_mem _ (List.mem_cons_of_mem _ hz)) with rfl | hzr
        · show x.1 + y.1 ≤ _; omega
        · have := hA x y r rfl z hzr hl
          omega
      · rcases (insQ_mem _ _ _).1 hz with rfl | hz
        · intro s hs t ht hst
          rw [oz s hs, oz t ht]
          rcases List.mem_append.1 hs with hs | hs
          · rcases List.mem_append.1 ht with ht | ht
            · have := hS x hx s hs t ht hst; omega
            · have := (hBx y List.mem_cons_self s hs t ht).1 hst; omega
          · rcases List.mem_append.1 ht with ht | ht
            · have := (hBx y List.mem_cons_self t ht s hs).2 hst; omega
            · have := hS y hy s hs t ht hst; omega
        · intro s hs t ht hst
          rw [o3 z hz s hs, o3 z hz t ht]
          exact hS z (hr z hz) s hs t ht hst
      · refine insQ_pairwise _ r hsr ?_ (fun w hw hle s hs t ht => ?_) (fun w hw hlt s hs t ht => ?_)
        · refine List.Pairwise.imp_of_mem (fun {a b} ha hb hab s hs t ht => ?_) hBr
          rw [o3 a ha s hs, o3 b hb t ht]
          exact hab s hs t ht
        · have hf := far w hw t ht s hs
          rw [o3 w hw s hs, oz t ht]
          exact ⟨fun hh => by have := hf.2 hh; omega, fun hh => by have := hf.1 hh; omega⟩
        · have hf := far w hw s hs t ht
          rw [oz s hs, o3 w hw t ht]
          refine ⟨fun hh => ?_, fun hh => by have := hf.2 hh; omega⟩
          have h3 := hf.1 hh
          refine Classical.byContradiction fun hc => ?_
          have h4 := hq.outs w (hr w hw) t ht
          have h5 := (hq.outs x hx)
          have h6 : 0 ≤ rd out s := by
            rcases List.mem_append.1 hs with hs | hs
            · exact (hq.outs x hx s hs).1
            · exact (hq.outs y hy s hs).1
          have h7 := hA x y r rfl w hw (by omega)
          have h8 : x.1 + y.1 < w.1 := hlt
          omega)
  exact hS x (by simp) _ ((hx.total hi).1 (by omega)) _ ((hx.total hk).1 h0) (by rw [rd_nat, rd_nat]; exact hlt)
end Go.Proofs.Ytaoeghdpmmeaiaa.Glue
