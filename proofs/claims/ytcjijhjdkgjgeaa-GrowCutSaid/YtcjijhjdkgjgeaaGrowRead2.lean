/- What is written is read: blocks of lengths of their own, of the fixed lengths; used by the claims of this seat. -/
import Derived.Test.YtcjijhjdkgjgeaaGrowRead
import Derived.Test.YtcjijhjdkgjgeaaPx0
import Derived.Test.YtcjijhjdkgjgeaaPx1
import Derived.Test.YtcjijhjdkgjgeaaPx2
import Derived.Test.YtcjijhjdkgjgeaaPx16
import Derived.Test.YtcjijhjdkgjgeaaPx25
import Derived.Test.YtcjijhjdkgjgeaaPx61
namespace Go.Proofs.Ytcjijhjdkgjgeaa.Glue
open Go.RowKit Go.Proofs.Ytcjijhjdkgjgeaa.P Go.Proofs.YtcjijhjdkgjgeaaW.PrintWords Go.Proofs.YtcjijhjdkgjgeaaW.PrintLast Go.Proofs.YtcjijhjdkgjgeaaW.PrintMore
open WP (Row Bytes at_ val wN wX Wrote)
open Go.Proofs.Ytcjijhjdkgjgeaa.Tok (LenSym DistSym OkT OkL sizeL sizeT sizeL_ge exT exT_shift copyN copyN_len)
open RowSteps
set_option linter.unusedVariables false
set_option linter.unusedSimpArgs false
/-! ### the lengths' own -/
section
variable {b : List Int} (hb : Bytes b) (hl : b.length < 2 ^ 40)
include hb hl
/-! ### blocks -/
omit hb hl in
theorem okL_up : ∀ (ts : List S70) (n m : Nat), n ≤ m → OkL ts n → OkL ts m
  | [], _, _, _, _ => trivial
  | t :: ts, n, m, h, ⟨h1, h2⟩ => ⟨by
      rcases h1 with h1 | h1
      · exact Or.inl h1
      · exact Or.inr ⟨h1.1, h1.2.1, h1.2.2.1, h1.2.2.2.1, by omega, h1.2.2.2.2.2⟩, okL_up ts _ _ (by omega) h2⟩
/-- A block of the fixed lengths is read where it stands, behind its kind. -/
theorem fixed_is {t : List Int} (ht : Bytes t) (h4 : t.length ≤ 4096) {most : Int} (hmost : most ≤ 100000) {s : RSt} (h : s.er = 0) {p : Nat} (hp : s.pos = (p : Int)) (hr : (s.out.length : Int) + t.length ≤ most)
    (hst : Stand (val b) p (bodyI (T t) fixL fixD)) (he : p + wN (bodyI (T t) fixL fixD) ≤ 8 * b.length) :
    fixedS b most 50000 s = some { s with pos := ((p + wN (bodyI (T t) fixL fixD) : Nat) : Int), out := s.out ++ t } := by
  obtain ⟨o1, o2, o3, o4, o5⟩ := T_ok t ht h4
  unfold fixedS
  rw [fix_is, Option.bind_some, if_pos ⟨((check_iff _).1 fixL_check).1, ((check_iff _).1 fixD_check).1⟩]
  simp only
  rw [coded_is hb hl (makes_of fixL_check) (makes_of fixD_check) (fixL_has (by decide)) hmost (T t) 50000 s p (by omega) h hp (fun u hu => ⟨o5 u hu, fix_toks (o5 u hu)⟩) (okL_up _ 0 _ (by omega) o1) (by omega) hst he]
  have hsh := exT_shift s.out (T t) [] o1
  rw [List.append_nil, o2] at hsh
  rw [hsh]
end
end Go.Proofs.Ytcjijhjdkgjgeaa.Glue
