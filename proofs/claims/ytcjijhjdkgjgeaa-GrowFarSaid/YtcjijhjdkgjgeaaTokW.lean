/- What pens write for tokens and for texts as they are; used by the claims of this seat. -/
import Derived.Test.YtcjijhjdkgjgeaaCanon
import Derived.Test.YtcjijhjdkgjgeaaTok
import Derived.Test.YtcjijhjdkgjgeaaPx0
import Derived.Test.YtcjijhjdkgjgeaaPx16
import Derived.Test.YtcjijhjdkgjgeaaPx31
import Derived.Test.YtcjijhjdkgjgeaaPx46
namespace Go.Proofs.Ytcjijhjdkgjgeaa.Glue
open Go.RowKit Go.Proofs.Ytcjijhjdkgjgeaa.P Go.Proofs.YtcjijhjdkgjgeaaW.PrintWords Go.Proofs.YtcjijhjdkgjgeaaW.PrintLast Go.Proofs.YtcjijhjdkgjgeaaW.PrintMore
open WP (Row Bytes at_ val wN wX Wrote)
open Go.Proofs.Ytcjijhjdkgjgeaa.Tok (LenSym DistSym len_is dist_is OkT OkL)
set_option linter.unusedVariables false
set_option linter.unusedSimpArgs false
/-- A pen that wrote just these. -/
def PenW (s : List Int × Nat) (it : List (Nat × Nat)) : Prop := Wrote s.1 it ∧ s.2 = wN it
theorem PenW.more {s : List Int × Nat} {it : List (Nat × Nat)} (h : PenW s it) {v n : Nat} (hv : v < 2 ^ 62) (hn : n ≤ 64) (hl : wN it ≤ 1000000000) : ∃ s', addS (v : Int) (n : Int) s = some s' ∧ PenW s' (it ++ [(v, n)]) := by
  obtain ⟨s', h1, h2, h3⟩ := add_is h.1 h.2 hv hn hl
  exact ⟨s', h1, h2, h3⟩
/-- A symbol that has a code. -/
def Has (l : List Int) (j : Nat) : Prop := j < l.length ∧ 0 < l.getD j 0
/-- A symbol's code as it is written: the highest bit first. -/
def codeI (l : List Int) (j : Nat) : Nat × Nat := (WP.rev (l.getD j 0).toNat (codeN l j (l.getD j 0).toNat), (l.getD j 0).toNat)
theorem codeI_le {l : List Int} (hm : Makes l) {j : Nat} (hh : Has l j) : 0 < (codeI l j).2 ∧ (codeI l j).2 ≤ 15 ∧ (codeI l j).1 < 2 ^ (codeI l j).2 := by
  obtain ⟨n, hn, h15⟩ := hm.at hh.1
  unfold codeI
  rw [hn, Int.toNat_natCast]
  have := hh.2
  exact ⟨by simp only; omega, h15, WP.rev_lt _ _⟩
/-- The symbol of a length, its bits more, what they say. -/
def lenOf (n : Int) : Nat × Nat × Nat := match sym_Len.f 400 n with | some r => (r.1.toNat, r.2.1.toNat, r.2.2.1.toNat) | none => (0, 0, 0)
def distOf (n : Int) : Nat × Nat × Nat := match sym_Dist.f 400 n with | some r => (r.1.toNat, r.2.1.toNat, r.2.2.1.toNat) | none => (0, 0, 0)
theorem lenOf_is {n : Int} (h0 : 3 ≤ n) (h1 : n ≤ 258) : LenSym n.toNat (lenOf n).1 (lenOf n).2.1 (lenOf n).2.2 ∧ sym_Len.f 400 n = some (((lenOf n).1 : Int), ((lenOf n).2.1 : Int), ((lenOf n).2.2 : Int), 0) := by
  obtain ⟨m, rfl⟩ := Int.eq_ofNat_of_zero_le (show 0 ≤ n by omega)
  obtain ⟨s, b, v, h, hk⟩ := len_is m (by omega) (by omega)
  have e : lenOf (m : Int) = (s, b, v) := by unfold lenOf; rw [hk 400 (by decide)]; rfl
  rw [e]
  exact ⟨h, hk 400 (by decide)⟩
theorem distOf_is {n : Int} (h0 : 1 ≤ n) (h1 : n ≤ 32768) : DistSym n.toNat (distOf n).1 (distOf n).2.1 (distOf n).2.2 ∧ sym_Dist.f 400 n = some (((distOf n).1 : Int), ((distOf n).2.1 : Int), ((distOf n).2.2 : Int), 0) := by
  obtain ⟨m, rfl⟩ := Int.eq_ofNat_of_zero_le (show 0 ≤ n by omega)
  obtain ⟨s, b, v, h, hk⟩ := dist_is m (by omega) (by omega)
  have e : distOf (m : Int) = (s, b, v) := by unfold distOf; rw [hk 400 (by decide)]; rfl
  rw [e]
  exact ⟨h, hk 400 (by decide)⟩
/-- What a token is written as. -/
def tokI (lits dists : List Int) (t : S70) : List (Nat × Nat) :=
  if t.f1 = 0 then [codeI lits t.f0.toNat] else [codeI lits (lenOf t.f1).1, ((lenOf t.f1).2.2, (lenOf t.f1).2.1), codeI dists (distOf t.f2).1, ((distOf t.f2).2.2, (distOf t.f2).2.1)]
def bodyI (l : List S70) (lits dists : List Int) : List (Nat × Nat) := l.flatMap (tokI lits dists) ++ [codeI lits 256]
/-- A token that may be, of a byte or of a piece. -/
def Fine (t : S70) : Prop := 0 ≤ t.f0 ∧ t.f0 < 256 ∧ ((t.f1 = 0 ∧ t.f2 = 0) ∨ (3 ≤ t.f1 ∧ t.f1 ≤ 258 ∧ 1 ≤ t.f2 ∧ t.f2 ≤ 2048))
/-- All that a token needs has a code. -/
def TokHas (lits dists : List Int) (t : S70) : Prop := if t.f1 = 0 then Has lits t.f0.toNat else Has lits (lenOf t.f1).1 ∧ Has dists (distOf t.f2).1
/-- What a stored block is written as. -/
def plainI (b : List Int) : List (Nat × Nat) := [(1, 1), (0, 2), (0, 5), (b.length, 16), (65535 - b.length, 16)] ++ b.map (fun c => (c.toNat, 8))
end Go.Proofs.Ytcjijhjdkgjgeaa.Glue
