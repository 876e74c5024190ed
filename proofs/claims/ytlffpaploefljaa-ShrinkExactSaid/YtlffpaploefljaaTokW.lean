/- What pens write for tokens and for texts as they are; used by the claims of this seat. -/
import Derived.Test.YtlffpaploefljaaCanon
import Derived.Test.YtlffpaploefljaaTok
import Derived.Test.YtlffpaploefljaaPx0
import Derived.Test.YtlffpaploefljaaPx5
import Derived.Test.YtlffpaploefljaaPx39
import Derived.Test.YtlffpaploefljaaPx38
import Derived.Test.YtlffpaploefljaaPx23
namespace Go.Proofs.Ytlffpaploefljaa.Glue
open Go.RowKit Go.Proofs.Ytlffpaploefljaa.P Go.Proofs.YtlffpaploefljaaW.PrintWords Go.Proofs.YtlffpaploefljaaW.PrintLast Go.Proofs.YtlffpaploefljaaW.PrintMore
open WP (Row Bytes at_ val wN wX Wrote)
open Go.Proofs.Ytlffpaploefljaa.Tok (LenSym DistSym len_is dist_is OkT OkL)
set_option linter.unusedVariables false
set_option linter.unusedSimpArgs false
/-- A pen that wrote just these. -/
def PenW (s : List Int × Nat) (it : List (Nat × Nat)) : Prop := Wrote s.1 it ∧ s.2 = wN it
theorem PenW.more {s : List Int × Nat} {it : List (Nat × Nat)} (h : PenW s it) {v n : Nat} (hv : v < 2 ^ 62) (hn : n ≤ 64) (hl : wN it ≤ 1000000000) : ∃ s', addS (v : Int) (n : Int) s = some s' ∧ PenW s' (it ++ [(v, n)]) := by
  obtain ⟨s', h1, h2, h3⟩ := add_is h.1 h.2 hv hn hl
  exact ⟨s', h1, h2, h3⟩
/-- A symbol that has a code. -/
def Has (l : List Int) (j : Nat) : Prop := j < l.length ∧ 0 < l.getD j 0
/-- A symbol's code as it is written: the highest bit first. -/
def codeI (l : List Int) (j : Nat) : Nat × Nat := (WP.rev (l.getD j 0).toNat (codeN l j (l.getD j 0).toNat), (l.getD j 0).toNat)
theorem codeI_le {l : List Int} (hm : Makes l) {j : Nat} (hh : Has l j) : 0 < (codeI l j).2 ∧ (codeI l j).2 ≤ 15 ∧ (codeI l j).1 < 2 ^ (codeI l j).2 := by
  obtain ⟨n, hn, h15⟩ := hm.at hh.1
  unfold codeI
  rw [hn, Int.toNat_natCast]
  have := hh.2
  exact ⟨by simp only; omega, h15, WP.rev_lt _ _⟩
theorem code_is {l : List Int} (hm : Makes l) {j : Nat} (hh : Has l j) {s : List Int × Nat} {it : List (Nat × Nat)} (h : PenW s it) (hl : wN it ≤ 1000000000) :
    ∃ s', codeS (codesL l) l (j : Int) s = some s' ∧ PenW s' (it ++ [codeI l j]) := by
  obtain ⟨n, hn, h15⟩ := hm.at hh.1
  have h0 : 0 < n := by have := hh.2; omega
  have hlen := codesL_length l
  have hj := hh.1
  have hsm := codeN_small hm hj hn h0 h15
  unfold codeS
  rw [if_pos ⟨by omega, by omega, by omega⟩, rd_nat, rd_nat, codesL_get hj, codeOf_is hn h0, hn, turn_is _ n 40 (by omega) hsm (by decide), Option.bind_some]
  unfold codeI
  rw [hn, Int.toNat_natCast]
  have hp : 2 ^ n ≤ 2 ^ 15 := Nat.pow_le_pow_right (by decide) h15
  exact h.more (Nat.lt_of_lt_of_le (WP.rev_lt _ _) (Nat.le_trans hp (by decide))) (by omega) hl
/-- The symbol of a length, its bits more, what they say. -/
def lenOf (n : Int) : Nat × Nat × Nat := match sym_Len.f 400 n with | some r => (r.1.toNat, r.2.1.toNat, r.2.2.1.toNat) | none => (0, 0, 0)
def distOf (n : Int) : Nat × Nat × Nat := match sym_Dist.f 400 n with | some r => (r.1.toNat, r.2.1.toNat, r.2.2.1.toNat) | none => (0, 0, 0)
theorem lenOf_is {n : Int} (h0 : 3 ≤ n) (h1 : n ≤ 258) : LenSym n.toNat (lenOf n).1 (lenOf n).2.1 (lenOf n).2.2 ∧ sym_Len.f 400 n = some (((lenOf n).1 : Int), ((lenOf n).2.1 : Int), ((lenOf n).2.2 : Int), 0) := by
  obtain ⟨m, rfl⟩ := Int.eq_ofNat_of_zero_le (show 0 ≤ n by omega)
  obtain ⟨s, b, v, h, hk⟩ := len_is m (by omega) (by omega)
  have e : lenOf (m : Int) = (s, b, v) := by unfold lenOf; rw [hk 400 (by decide)]; rfl
  rw [e]
  exact ⟨h, hk 400 (by decide)⟩
theorem distOf_is {n : Int} (h0 : 1 ≤ n) (h1 : n ≤ 32768) : DistSym n.toNat (distOf n).1 (distOf n).2.1 (distOf n).2.2 ∧ sym_Dist.f 400 n = some (((distOf n).1 : Int), ((distOf n).2.1 : Int), ((distOf n).2.2 : Int), 0) := by
  obtain ⟨m, rfl⟩ := Int.eq_ofNat_of_zero_le (show 0 ≤ n by omega)
  obtain ⟨s, b, v, h, hk⟩ := dist_is m (by omega) (by omega)
  have e : distOf (m : Int) = (s, b, v) := by unfold distOf; rw [hk 400 (by decide)]; rfl
  rw [e]
  exact ⟨h, hk 400 (by decide)⟩
/-- What a token is written as. -/
def tokI (lits dists : List Int) (t : S53) : List (Nat × Nat) :=
  if t.f1 = 0 then [codeI lits t.f0.toNat] else [codeI lits (lenOf t.f1).1, ((lenOf t.f1).2.2, (lenOf t.f1).2.1), codeI dists (distOf t.f2).1, ((distOf t.f2).2.2, (distOf t.f2).2.1)]
def bodyI (l : List S53) (lits dists : List Int) : List (Nat × Nat) := l.flatMap (tokI lits dists) ++ [codeI lits 256]
/-- A token that may be, of a byte or of a piece. -/
def Fine (t : S53) : Prop := 0 ≤ t.f0 ∧ t.f0 < 256 ∧ ((t.f1 = 0 ∧ t.f2 = 0) ∨ (3 ≤ t.f1 ∧ t.f1 ≤ 258 ∧ 1 ≤ t.f2 ∧ t.f2 ≤ 2048))
/-- All that a token needs has a code. -/
def TokHas (lits dists : List Int) (t : S53) : Prop := if t.f1 = 0 then Has lits t.f0.toNat else Has lits (lenOf t.f1).1 ∧ Has dists (distOf t.f2).1
theorem tok_is {lits dists : List Int} (hm : Makes lits) (hd : Makes dists) {t : S53} (ht : Fine t) (hh : TokHas lits dists t) {s : List Int × Nat} {it : List (Nat × Nat)} (h : PenW s it) (hl : wN it ≤ 900000000) :
    ∃ s', tokS (codesL lits) lits (codesL dists) dists t s = some s' ∧ PenW s' (it ++ tokI lits dists t) ∧ wN (it ++ tokI lits dists t) ≤ wN it + 60 := by
  unfold tokS tokI
  unfold TokHas at hh
  by_cases h0 : t.f1 = 0
  · rw [if_pos h0] at hh
    rw [if_pos h0, if_pos h0, wrap64_in (by have := ht.1; omega) (by have := ht.2.1; omega), ← Int.toNat_of_nonneg ht.1]
    obtain ⟨s', h1, h2⟩ := code_is hm hh h (by omega)
    refine ⟨s', h1, h2, ?_⟩
    have := codeI_le hm hh
    rw [Int.toNat_natCast, WP.wN_append]
    simp only [wN]
    omega
  · rw [if_neg h0] at hh
    rw [if_neg h0, if_neg h0]
    have hp : 3 ≤ t.f1 ∧ t.f1 ≤ 258 ∧ 1 ≤ t.f2 ∧ t.f2 ≤ 2048 := by
      rcases ht.2.2 with h | h
      · exact absurd h.1 h0
      · exact h
    obtain ⟨l1, l2⟩ := lenOf_is hp.1 hp.2.1
    obtain ⟨d1, d2⟩ := distOf_is hp.2.2.1 (show t.f2 ≤ 32768 by omega)
    have l3 := l1.le
    have d3 := d1.le
    have c1 := codeI_le hm hh.1
    have c2 := codeI_le hd hh.2
    have p5 : 2 ^ (lenOf t.f1).2.1 ≤ 2 ^ 5 := Nat.pow_le_pow_right (by decide) l3.2.2.2
    have p13 : 2 ^ (distOf t.f2).2.1 ≤ 2 ^ 13 := Nat.pow_le_pow_right (by decide) d3.2.2
    rw [l2, Option.bind_some]
    obtain ⟨s1, e1, w1⟩ := code_is hm hh.1 h (by omega)
    simp only [e1, Option.bind_some]
    obtain ⟨s2, e2, w2⟩ := w1.more (v := (lenOf t.f1).2.2) (n := (lenOf t.f1).2.1) (by omega) (by omega) (by rw [WP.wN_append]; simp only [wN]; omega)
    simp only [e2, d2, Option.bind_some]
    obtain ⟨s3, e3, w3⟩ := code_is hd hh.2 w2 (by rw [WP.wN_append, WP.wN_append]; simp only [wN]; omega)
    simp only [e3, Option.bind_some]
    obtain ⟨s4, e4, w4⟩ := w3.more (v := (distOf t.f2).2.2) (n := (distOf t.f2).2.1) (by omega) (by omega) (by rw [WP.wN_append, WP.wN_append, WP.wN_append]; simp only [wN]; omega)
    refine ⟨s4, e4, ?_, ?_⟩
    · simpa using w4
    · rw [WP.wN_append]
      simp only [wN]
      omega
theorem body_loop {lits dists : List Int} (hm : Makes lits) (hd : Makes dists) : ∀ (l : List S53) (s : List Int × Nat) (it : List (Nat × Nat)), (∀ t ∈ l, Fine t ∧ TokHas lits dists t) → PenW s it → wN it + 60 * l.length ≤ 900000000 →
    ∃ s', bodyL (codesL lits) lits (codesL dists) dists l s = some s' ∧ PenW s' (it ++ l.flatMap (tokI lits dists)) ∧ wN (it ++ l.flatMap (tokI lits dists)) ≤ wN it + 60 * l.length
  | [], s, it, _, h, _ => ⟨s, rfl, by simpa using h, by simp⟩
  | t :: l, s, it, ht, h, hl => by
    rw [List.length_cons] at hl
    obtain ⟨h1, h2⟩ := ht t List.mem_cons_self
    obtain ⟨s1, e1, w1, n1⟩ := tok_is hm hd h1 h2 h (by omega)
    obtain ⟨s2, e2, w2, n2⟩ := body_loop hm hd l s1 _ (fun u hu => ht u (List.mem_cons_of_mem _ hu)) w1 (by omega)
    refine ⟨s2, ?_, ?_, ?_⟩
    · simp only [bodyL, e1, Option.bind_some]
      exact e2
    · simpa using w2
    · rw [List.flatMap_cons, ← List.append_assoc, List.length_cons]
      omega
/-- Tokens and the end, as they are written. -/
theorem body_is {lits dists : List Int} (hm : canon_Check.f lits = some 0) (hd : canon_Check.f dists = some 0) (he : Has lits 256) {l : List S53} (ht : ∀ t ∈ l, Fine t ∧ TokHas lits dists t) {s : List Int × Nat} {it : List (Nat × Nat)} (h : PenW s it) (hl : wN it + 60 * l.length ≤ 900000000) :
    ∃ s', bodyS l lits dists s = some s' ∧ PenW s' (it ++ bodyI l lits dists) ∧ wN (it ++ bodyI l lits dists) ≤ wN it + 60 * l.length + 15 := by
  have ml := makes_of hm
  have md := makes_of hd
  obtain ⟨s1, e1, w1, n1⟩ := body_loop ml md l s it ht h hl
  obtain ⟨s2, e2, w2⟩ := code_is ml he w1 (by omega)
  have hc := codeI_le ml he
  refine ⟨s2, ?_, ?_, ?_⟩
  · unfold bodyS canon_Codes.f
    rw [hm, hd, Option.bind_some, if_pos rfl, Option.bind_some, Option.bind_some, if_pos rfl, Option.bind_some]
    simp only [e1, Option.bind_some]
    exact e2
  · unfold bodyI
    rw [← List.append_assoc]
    exact w2
  · unfold bodyI
    rw [← List.append_assoc, WP.wN_append]
    simp only [wN]
    omega
/-- A block's begin. -/
theorem begin_is (kind : Nat) (hk : kind < 4) : ∃ s, beginS (kind : Int) = some s ∧ PenW s [(1, 1), (kind, 2)] := by
  have h0 : PenW ([], 0) [] := ⟨Wrote.nil, rfl⟩
  obtain ⟨s1, e1, w1⟩ := h0.more (v := 1) (n := 1) (by decide) (by decide) (by decide)
  obtain ⟨s2, e2, w2⟩ := w1.more (v := kind) (n := 2) (by omega) (by decide) (by decide)
  refine ⟨s2, ?_, w2⟩
  unfold beginS
  rw [show (1 : Int) = ((1 : Nat) : Int) from rfl, e1, Option.bind_some]
  exact e2
theorem bytes_is : ∀ (b : List Int) (s : List Int × Nat) (it : List (Nat × Nat)), Bytes b → PenW s it → wN it + 8 * b.length ≤ 900000000 → ∃ s', bytesL b s = some s' ∧ PenW s' (it ++ b.map (fun c => (c.toNat, 8)))
  | [], s, it, _, h, _ => ⟨s, rfl, by simpa using h⟩
  | c :: b, s, it, hb, h, hl => by
    rw [List.length_cons] at hl
    have hc := (hb.cons).1
    obtain ⟨s1, e1, w1⟩ := h.more (v := c.toNat) (n := 8) (by omega) (by decide) (by omega)
    obtain ⟨s2, e2, w2⟩ := bytes_is b s1 _ (hb.cons).2 w1 (by rw [WP.wN_append]; simp only [wN]; omega)
    refine ⟨s2, ?_, by simpa using w2⟩
    simp only [bytesL]
    rw [wrap64_in (by omega) (by omega), ← Int.toNat_of_nonneg hc.1, show (8 : Int) = ((8 : Nat) : Int) from rfl, e1, Option.bind_some]
    exact e2
/-- What a stored block is written as. -/
def plainI (b : List Int) : List (Nat × Nat) := [(1, 1), (0, 2), (0, 5), (b.length, 16), (65535 - b.length, 16)] ++ b.map (fun c => (c.toNat, 8))
theorem xor_sub (n : Nat) (h : n < 65536) : n ^^^ 65535 = 65535 - n := by
  apply Nat.eq_of_testBit_eq
  intro i
  rw [Nat.testBit_xor, show 65535 - n = 2 ^ 16 - (n + 1) from by omega, Nat.testBit_two_pow_sub_succ (by omega), show (65535 : Nat) = 2 ^ 16 - 1 from rfl, Nat.testBit_two_pow_sub_one]
  by_cases hi : i < 16
  · rw [decide_eq_true hi]; cases n.testBit i <;> rfl
  · rw [decide_eq_false hi, Bool.false_and, Bool.xor_false]
    exact Nat.testBit_lt_two_pow (Nat.lt_of_lt_of_le h (Nat.pow_le_pow_right (show 0 < 2 by decide) (show 16 ≤ i by omega)))
theorem xor16 (n : Nat) (h : n ≤ 4096) : Go.bits .xor .i64 (n : Int) 65535 = ((65535 - n : Nat) : Int) := by
  rw [← xor_sub n (by omega)]
  have hx : n ^^^ 65535 < 2 ^ 63 := by rw [xor_sub n (by omega)]; omega
  have ha : n % 2 ^ IntKind.bits .i64 = n := Nat.mod_eq_of_lt (show n < 2 ^ 64 by omega)
  have hb : 65535 % 2 ^ IntKind.bits .i64 = 65535 := rfl
  simp only [Go.bits]
  rw [show (65535 : Int) = ((65535 : Nat) : Int) from rfl, BitVec.ofInt_natCast, BitVec.ofInt_natCast, BitVec.toNat_xor, BitVec.toNat_ofNat, BitVec.toNat_ofNat, ha, hb]
  exact i64_wraps _ (by omega) (by omega)
theorem bytes8 (b : List Int) : wN (b.map (fun c => (c.toNat, 8))) = 8 * b.length := by
  induction b with
  | nil => rfl
  | cons c b ih => simp only [List.map_cons, wN, ih, List.length_cons]; omega
theorem plainI_N (b : List Int) : wN (plainI b) = 40 + 8 * b.length := by
  unfold plainI
  rw [WP.wN_append, bytes8]
  rfl
theorem plain_is (b : List Int) (hb : Bytes b) (hl : b.length ≤ 4096) : ∃ s, plainS b = some s ∧ PenW s (plainI b) := by
  obtain ⟨s1, e1, w1⟩ := begin_is 0 (by decide)
  obtain ⟨s2, e2, w2⟩ := w1.more (v := 0) (n := 5) (by decide) (by decide) (by decide)
  obtain ⟨s3, e3, w3⟩ := w2.more (v := b.length) (n := 16) (by omega) (by decide) (by decide)
  obtain ⟨s4, e4, w4⟩ := w3.more (v := 65535 - b.length) (n := 16) (by omega) (by decide) (by simp only [List.cons_append, List.nil_append, wN]; decide)
  obtain ⟨s5, e5, w5⟩ := bytes_is b s4 _ hb w4 (by simp only [List.cons_append, List.nil_append, wN]; omega)
  refine ⟨s5, ?_, by unfold plainI; simpa using w5⟩
  unfold plainS
  rw [show (0 : Int) = ((0 : Nat) : Int) from rfl, e1, Option.bind_some, show (5 : Int) = ((5 : Nat) : Int) from rfl, e2, Option.bind_some, show (16 : Int) = ((16 : Nat) : Int) from rfl, e3, Option.bind_some, xor16 b.length (by omega), e4, Option.bind_some]
  exact e5
end Go.Proofs.Ytlffpaploefljaa.Glue
