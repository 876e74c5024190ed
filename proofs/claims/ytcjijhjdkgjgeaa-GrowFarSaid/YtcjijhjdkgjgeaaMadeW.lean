/- What a block of lengths of its own is written as; used by the claims of this seat. -/
import Derived.Test.YtcjijhjdkgjgeaaTreeAll
import Derived.Test.YtcjijhjdkgjgeaaTokW
import Derived.Test.YtcjijhjdkgjgeaaSteps
import Derived.Test.YtcjijhjdkgjgeaaPx0
import Derived.Test.YtcjijhjdkgjgeaaPx1
import Derived.Test.YtcjijhjdkgjgeaaPx2
import Derived.Test.YtcjijhjdkgjgeaaPx16
import Derived.Test.YtcjijhjdkgjgeaaPx31
import Derived.Test.YtcjijhjdkgjgeaaPx46
import Derived.Test.YtcjijhjdkgjgeaaPx61
namespace Go.Proofs.Ytcjijhjdkgjgeaa.Glue
open Go.RowKit Go.Proofs.Ytcjijhjdkgjgeaa.P Go.Proofs.YtcjijhjdkgjgeaaW.PrintWords Go.Proofs.YtcjijhjdkgjgeaaW.PrintLast Go.Proofs.YtcjijhjdkgjgeaaW.PrintMore
open WP (Row Bytes at_ val wN wX Wrote)
open Go.Proofs.Ytcjijhjdkgjgeaa.Tok (LenSym DistSym OkT OkL rdT_mid check_is sizeL sizeT sizeL_ge)
set_option linter.unusedVariables false
set_option linter.unusedSimpArgs false
/-! ### rows of counts -/
def Mono (a b : List Int) : Prop := ∀ i : Nat, rd a (i : Int) ≤ rd b (i : Int)
theorem Mono.refl (a : List Int) : Mono a a := fun _ => Int.le_refl _
theorem Mono.trans {a b c : List Int} (h : Mono a b) (k : Mono b c) : Mono a c := fun i => Int.le_trans (h i) (k i)
/-! ### weights of tokens -/
/-- What a token uses is counted. -/
def Uses (a b : List Int) (t : S70) : Prop := if t.f1 = 0 then 0 < rd a t.f0 else 0 < rd a ((lenOf t.f1).1 : Int) ∧ 0 < rd b ((distOf t.f2).1 : Int)
theorem Uses.mono {a b a' b' : List Int} {t : S70} (h0 : 0 ≤ t.f0) (h : Uses a b t) (ha : Mono a a') (hb : Mono b b') : Uses a' b' t := by
  unfold Uses at h ⊢
  split at h
  · rename_i hz
    rw [if_pos hz]
    have := ha t.f0.toNat
    rw [Int.toNat_of_nonneg h0] at this
    omega
  · rename_i hz
    rw [if_neg hz]
    have h1 := ha (lenOf t.f1).1
    have h2 := hb (distOf t.f2).1
    exact ⟨by omega, by omega⟩
/-! ### lengths of weights -/
/-! ### lengths without the noughts at their end -/
/-! ### the row of lengths, and the lengths' own -/
/-- What a symbol of a row is written as. -/
def stepI (own : List Int) (t : Int × Int × Int × Int) : List (Nat × Nat) := [codeI own t.1.toNat, (t.2.1.toNat, t.2.2.1.toNat)]
/-- What a block of lengths of its own is made of. -/
structure MadeOk (l : List S70) (lits dists own turned : List Int) : Prop where
  cl : canon_Check.f lits = some 0
  cd : canon_Check.f dists = some 0
  co : canon_Check.f own = some 0
  llen : 257 ≤ lits.length ∧ lits.length ≤ 286
  dlen : 1 ≤ dists.length ∧ dists.length ≤ 30
  olen : own.length = 19
  o7 : ∀ x ∈ own, 0 ≤ x ∧ x ≤ 7
  turn : ∃ n, turned = (ord19.map (rd own)).take n ∧ 4 ≤ n ∧ n ≤ 19 ∧ ∀ j, n ≤ j → (ord19.map (rd own)).getD j 0 = 0
  stop : Has lits 256
  toks : ∀ t ∈ l, TokHas lits dists t
  row : ∀ t ∈ RowSteps.steps (lits ++ dists).length (-1) (lits ++ dists), Has own t.1.toNat
def madeI (l : List S70) (lits dists own turned : List Int) : List (Nat × Nat) :=
  [(1, 1), (2, 2), (lits.length - 257, 5), (dists.length - 1, 5), (turned.length - 4, 4)] ++ turned.map (fun x => (x.toNat, 3)) ++ (RowSteps.steps (lits ++ dists).length (-1) (lits ++ dists)).flatMap (stepI own) ++ bodyI l lits dists
theorem steps_fit : ∀ (f : Nat) (a : Int) (l : List Int), (∀ x ∈ l, 0 ≤ x ∧ x ≤ 15) → ∀ t ∈ RowSteps.steps f a l, 0 ≤ t.1 ∧ t.1 ≤ 18 ∧ ∃ x n : Nat, t.2.1 = (x : Int) ∧ t.2.2.1 = (n : Int) ∧ x < 2 ^ n ∧ n ≤ 7
  | 0, a, l, _, t, ht => by simp [RowSteps.steps] at ht
  | f + 1, a, [], _, t, ht => by simp [RowSteps.steps] at ht
  | f + 1, a, v :: q, hx, t, ht => by
    simp only [RowSteps.steps] at ht
    rcases List.mem_cons.1 ht with rfl | ht
    · have hf := RowSteps.next_fit v a (RowSteps.run v q + 1) (by omega) (hx v List.mem_cons_self)
      exact ⟨hf.sym.1, hf.sym.2, hf.more⟩
    · exact steps_fit f v _ (fun x h => hx x (List.mem_of_mem_drop h)) t ht
end Go.Proofs.Ytcjijhjdkgjgeaa.Glue
