/- What is written is read: whole blocks, one behind the other; used by the claims of this seat. -/
import Derived.Test.YtcjijhjdkgjgeaaGrowRead
import Derived.Test.YtcjijhjdkgjgeaaPx0
import Derived.Test.YtcjijhjdkgjgeaaPx1
import Derived.Test.YtcjijhjdkgjgeaaPx2
import Derived.Test.YtcjijhjdkgjgeaaPx16
import Derived.Test.YtcjijhjdkgjgeaaPx25
import Derived.Test.YtcjijhjdkgjgeaaPx61
namespace Go.Proofs.Ytcjijhjdkgjgeaa.Glue
open Go.RowKit Go.Proofs.Ytcjijhjdkgjgeaa.P Go.Proofs.YtcjijhjdkgjgeaaW.PrintWords Go.Proofs.YtcjijhjdkgjgeaaW.PrintLast Go.Proofs.YtcjijhjdkgjgeaaW.PrintMore
open WP (Row Bytes at_ val wN wX Wrote)
open Go.Proofs.Ytcjijhjdkgjgeaa.Tok (LenSym DistSym OkT OkL sizeL sizeT sizeL_ge exT)
open RowSteps
set_option linter.unusedVariables false
set_option linter.unusedSimpArgs false
/-! ### what stands behind other bytes -/
section
variable {b : List Int} (hb : Bytes b) (hl : b.length < 2 ^ 40)
include hb hl
/-- One block more. -/
theorem stream_step {most : Int} {s s3 : RSt} (h : s.er = 0) {p : Nat} (hp : s.pos = (p : Int)) {f k : Nat} {r : List (Nat × Nat)} (hst : Stand (val b) p ((f, 1) :: (k, 2) :: r)) (he : p + 3 ≤ 8 * b.length) {N M : Nat} (n : Nat)
    (hbk : blockS b most N M (k : Int) { s with pos := ((p + 3 : Nat) : Int) } = some s3) :
    streamL b most N M (n + 1) 0 s = streamL b most N M n (f : Int) { s3 with bl := wrap64 (s3.bl + 1) } := by
  obtain ⟨a1, a2, _⟩ := hst
  simp only at a1 a2
  rw [streamL, if_pos ⟨rfl, h⟩, show (1 : Int) = ((1 : Nat) : Int) from rfl, take_is hb hl h hp (by omega) (by omega) a1, Option.bind_some]
  simp only
  rw [show (2 : Int) = ((2 : Nat) : Int) from rfl, take_is hb hl (s := { s with pos := ((p + 1 : Nat) : Int) }) h rfl (by omega) (by omega) a2, Option.bind_some]
  simp only
  rw [if_neg (by rw [h]; simp), show p + 1 + 2 = p + 3 from rfl, hbk, Option.bind_some]
omit hb hl in
theorem stream_stop {most : Int} {N M : Nat} (n : Nat) {f : Int} (hf : f ≠ 0) (s : RSt) : streamL b most N M (n + 1) f s = some s := by
  rw [streamL, if_neg (fun h => hf h.1)]
end
/-- What a block was written as. -/
def Kind {t : List Int} (m : Made t) (x : List Int × Nat) (it : List (Nat × Nat)) : Prop :=
  (x = m.st ∧ it = plainI t) ∨ (x = m.kn ∧ it = knownI (T t)) ∨ (x = m.dy ∧ it = madeI (T t) m.lits m.dists m.own m.turned)
theorem Kind.pen {t : List Int} {m : Made t} {x : List Int × Nat} {it : List (Nat × Nat)} (h : Kind m x it) : PenW x it := by
  rcases h with ⟨rfl, rfl⟩ | ⟨rfl, rfl⟩ | ⟨rfl, rfl⟩
  · exact m.wst
  · exact m.wkn
  · exact m.wdy
theorem Kind.lt {t : List Int} (ht : Bytes t) (h4 : t.length ≤ 4096) {m : Made t} {x : List Int × Nat} {it : List (Nat × Nat)} (h : Kind m x it) : Lt it := by
  rcases h with ⟨rfl, rfl⟩ | ⟨rfl, rfl⟩ | ⟨rfl, rfl⟩
  · exact plain_lt t ht h4
  · exact known_lt t ht h4
  · exact made_lt ht h4 m.ok
end Go.Proofs.Ytcjijhjdkgjgeaa.Glue
