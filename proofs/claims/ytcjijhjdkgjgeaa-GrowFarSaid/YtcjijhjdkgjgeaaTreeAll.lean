/- Plain laws on trees of weights: the rounds as a sorted row, what holds at each round, how deep they are, that they make codes; used by the claims of this seat. -/
import Derived.Test.YtcjijhjdkgjgeaaCanon
import Derived.Test.YtcjijhjdkgjgeaaPx1
import Derived.Test.YtcjijhjdkgjgeaaPx2
import Derived.Test.YtcjijhjdkgjgeaaPx16
namespace Go.Proofs.Ytcjijhjdkgjgeaa.Glue
open Go.RowKit Go.Proofs.Ytcjijhjdkgjgeaa.P Go.Proofs.YtcjijhjdkgjgeaaW.PrintWords Go.Proofs.YtcjijhjdkgjgeaaW.PrintLast Go.Proofs.YtcjijhjdkgjgeaaW.PrintMore
set_option linter.unusedVariables false
set_option linter.unusedSimpArgs false

end Go.Proofs.Ytcjijhjdkgjgeaa.Glue
namespace Go.Proofs.Ytcjijhjdkgjgeaa.Glue
open Go.RowKit Go.Proofs.Ytcjijhjdkgjgeaa.P Go.Proofs.YtcjijhjdkgjgeaaW.PrintWords Go.Proofs.YtcjijhjdkgjgeaaW.PrintLast Go.Proofs.YtcjijhjdkgjgeaaW.PrintMore
set_option linter.unusedVariables false
set_option linter.unusedSimpArgs false

/-- What holds at every round. -/
structure QInv (ws : List Int) (q : List (Int × List Int)) (out : List Int) : Prop where
  len : out.length = ws.length
  sorted : q.Pairwise (fun a b => a.1 ≤ b.1)
  nodup : (q.flatMap (·.2)).Nodup
  count : (q.map (·.2.length)).sum ≤ ws.length
  syms : ∀ x ∈ q, ∀ s ∈ x.2, 0 ≤ s ∧ s < ws.length ∧ 0 < rd ws s
  cover : ∀ i : Nat, i < ws.length → 0 < ws.getD i 0 → (i : Int) ∈ q.flatMap (·.2)
  weight : ∀ x ∈ q, x.1 = (x.2.map (rd ws)).sum
  ne : ∀ x ∈ q, x.2 ≠ []
  outs : ∀ x ∈ q, ∀ s ∈ x.2, 0 ≤ rd out s ∧ rd out s + 1 ≤ x.2.length
  zero : ∀ i : Nat, i < ws.length → ¬ 0 < ws.getD i 0 → rd out i = 0
theorem sum_mem (f : Int × List Int → Nat) : ∀ (q : List (Int × List Int)) (x : Int × List Int), x ∈ q → f x ≤ (q.map f).sum
  | y :: ys, x, h => by
    rw [List.map_cons, List.sum_cons]
    rcases List.mem_cons.1 h with rfl | h
    · omega
    · have := sum_mem f ys x h; omega
theorem QInv.long {ws : List Int} {q : List (Int × List Int)} {out : List Int} (h : QInv ws q out) {x : Int × List Int} (hx : x ∈ q) : x.2.length ≤ ws.length := Nat.le_trans (sum_mem (·.2.length) q x hx) h.count
end Go.Proofs.Ytcjijhjdkgjgeaa.Glue
namespace Go.Proofs.Ytcjijhjdkgjgeaa.Glue
open Go.RowKit Go.Proofs.Ytcjijhjdkgjgeaa.P Go.Proofs.YtcjijhjdkgjgeaaW.PrintWords Go.Proofs.YtcjijhjdkgjgeaaW.PrintLast Go.Proofs.YtcjijhjdkgjgeaaW.PrintMore
set_option linter.unusedVariables false
set_option linter.unusedSimpArgs false

theorem QInv.total {ws : List Int} {x : Int × List Int} {out : List Int} (h : QInv ws [x] out) {i : Nat} (hi : i < ws.length) : 0 < ws.getD i 0 ↔ (i : Int) ∈ x.2 := by
  constructor
  · intro hw
    have := h.cover i hi hw
    simpa using this
  · intro hm
    have := (h.syms x (by simp) _ hm).2.2
    rwa [rd_nat] at this
end Go.Proofs.Ytcjijhjdkgjgeaa.Glue
namespace Go.Proofs.Ytcjijhjdkgjgeaa.Glue
open Go.RowKit Go.Proofs.Ytcjijhjdkgjgeaa.P Go.Proofs.YtcjijhjdkgjgeaaW.PrintWords Go.Proofs.YtcjijhjdkgjgeaaW.PrintLast Go.Proofs.YtcjijhjdkgjgeaaW.PrintMore
set_option linter.unusedVariables false
set_option linter.unusedSimpArgs false

end Go.Proofs.Ytcjijhjdkgjgeaa.Glue
namespace Go.Proofs.Ytcjijhjdkgjgeaa.Glue
open Go.RowKit Go.Proofs.Ytcjijhjdkgjgeaa.P Go.Proofs.YtcjijhjdkgjgeaaW.PrintWords Go.Proofs.YtcjijhjdkgjgeaaW.PrintLast Go.Proofs.YtcjijhjdkgjgeaaW.PrintMore
set_option linter.unusedVariables false
set_option linter.unusedSimpArgs false

end Go.Proofs.Ytcjijhjdkgjgeaa.Glue
