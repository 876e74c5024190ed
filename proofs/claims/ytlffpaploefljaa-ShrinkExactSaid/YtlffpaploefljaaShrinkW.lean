/- What a text is made small to, as each kind of block and as the least one; used by the claims of this seat. -/
import Derived.Test.YtlffpaploefljaaMadeW
import Derived.Test.YtlffpaploefljaaPx0
import Derived.Test.YtlffpaploefljaaPx39
import Derived.Test.YtlffpaploefljaaPx23
import Derived.Test.YtlffpaploefljaaPx5
namespace Go.Proofs.Ytlffpaploefljaa.Glue
open Go.RowKit Go.Proofs.Ytlffpaploefljaa.P Go.Proofs.YtlffpaploefljaaW.PrintWords Go.Proofs.YtlffpaploefljaaW.PrintLast Go.Proofs.YtlffpaploefljaaW.PrintMore
open WP (Row Bytes at_ val wN wX Wrote)
open Go.Proofs.Ytlffpaploefljaa.Tok (LenSym DistSym OkT OkL sizeL sizeT sizeL_ge exT toks_right tokens_is)
set_option linter.unusedVariables false
set_option linter.unusedSimpArgs false
/-! ### the fixed lengths -/
def fixL : List Int := List.replicate 144 8 ++ List.replicate 112 9 ++ List.replicate 24 7 ++ List.replicate 8 8
def fixD : List Int := List.replicate 32 5
theorem fix_is : sym_Fixed.f = some (fixL, fixD) := by decide +kernel
theorem fixL_check : canon_Check.f fixL = some 0 := by decide +kernel
theorem fixD_check : canon_Check.f fixD = some 0 := by decide +kernel
theorem fixL_pos : ∀ j : Fin 288, 0 < fixL.getD j.val 0 := by decide +kernel
theorem fixD_pos : ∀ j : Fin 32, 0 < fixD.getD j.val 0 := by decide +kernel
theorem fixL_len : fixL.length = 288 := by unfold fixL; rw [List.length_append, List.length_append, List.length_append, List.length_replicate, List.length_replicate, List.length_replicate, List.length_replicate]
theorem fixD_len : fixD.length = 32 := List.length_replicate
theorem fixL_has {j : Nat} (h : j < 288) : Has fixL j := ⟨by rw [fixL_len]; exact h, fixL_pos ⟨j, h⟩⟩
theorem fixD_has {j : Nat} (h : j < 32) : Has fixD j := ⟨by rw [fixD_len]; exact h, fixD_pos ⟨j, h⟩⟩
/-! ### a text's tokens -/
theorem toks_byte (l : List Int) (hb : Bytes l) : ∀ (f i : Nat), ∀ t ∈ toks l f i, 0 ≤ t.f0 ∧ t.f0 < 256
  | 0, i, t, h => by simp [toks] at h
  | f + 1, i, t, h => by
    simp only [toks] at h
    split at h
    · split at h
      · rcases List.mem_cons.1 h with rfl | h
        · exact hb.get i
        · exact toks_byte l hb f _ t h
      · rcases List.mem_cons.1 h with rfl | h
        · exact ⟨by show (0 : Int) ≤ 0; decide, by show (0 : Int) < 256; decide⟩
        · exact toks_byte l hb f _ t h
    · cases h
theorem okL_mem : ∀ (ts : List S53) (n : Nat), OkL ts n → ∀ t ∈ ts, ∃ m, OkT t m
  | [], n, _, t, h => by cases h
  | u :: ts, n, h, t, ht => by
    rcases List.mem_cons.1 ht with rfl | ht
    · exact ⟨n, h.1⟩
    · exact okL_mem ts _ h.2 t ht
theorem okT_fine {t : S53} {m : Nat} (h : OkT t m) (hb : 0 ≤ t.f0 ∧ t.f0 < 256) : Fine t := by
  refine ⟨hb.1, hb.2, ?_⟩
  rcases h with h | ⟨_, h1, h2, h3, _, h5⟩
  · exact .inl h
  · exact .inr ⟨h1, h2, h3, h5⟩
/-- The tokens of a text. -/
abbrev T (b : List Int) : List S53 := toks b b.length 0
theorem T_ok (b : List Int) (hb : Bytes b) (hl : b.length ≤ 4096) : OkL (T b) 0 ∧ exT (T b) [] = b ∧ sizeL (T b) = b.length ∧ (T b).length ≤ 4096 ∧ ∀ t ∈ T b, Fine t := by
  obtain ⟨h1, h2, h3⟩ := toks_right b b.length 0 (by omega) (by omega)
  have h4 := sizeL_ge h1
  rw [List.take_zero] at h2
  exact ⟨h1, h2, by unfold T; omega, by unfold T; omega, fun t ht => by
    obtain ⟨m, hm⟩ := okL_mem _ _ h1 t ht
    exact okT_fine hm (toks_byte b hb _ _ t ht)⟩
theorem bytes_wf {b : List Int} (hb : Bytes b) : ∀ x ∈ b, (Lit.int .u8 x).wf = true := fun x hx => by
  have := hb x hx
  simp [Lit.wf, IntKind.min, IntKind.max, IntKind.signed, IntKind.bits]
  omega
/-! ### blocks -/
def knownI (l : List S53) : List (Nat × Nat) := [(1, 1), (1, 2)] ++ bodyI l fixL fixD
theorem fix_toks {t : S53} (h : Fine t) : TokHas fixL fixD t := by
  unfold TokHas
  by_cases h0 : t.f1 = 0
  · rw [if_pos h0]
    exact fixL_has (by have := h.1; have := h.2.1; omega)
  · rw [if_neg h0]
    have hp : 3 ≤ t.f1 ∧ t.f1 ≤ 258 ∧ 1 ≤ t.f2 ∧ t.f2 ≤ 2048 := by
      rcases h.2.2 with h | h
      · exact absurd h.1 h0
      · exact h
    have l3 := (lenOf_is hp.1 hp.2.1).1.le
    have d3 := (distOf_is hp.2.2.1 (show t.f2 ≤ 32768 by omega)).1.le
    exact ⟨fixL_has (by omega), fixD_has (by omega)⟩
theorem known_is (l : List S53) (hl : l.length ≤ 4096) (hf : ∀ t ∈ l, Fine t) : ∃ s, knownS l = some s ∧ PenW s (knownI l) ∧ wN (knownI l) ≤ 300000 := by
  obtain ⟨s0, e0, w0⟩ := begin_is 1 (by decide)
  obtain ⟨s1, e1, w1, n1⟩ := body_is fixL_check fixD_check (fixL_has (j := 256) (by decide)) (fun t ht => ⟨hf t ht, fix_toks (hf t ht)⟩) w0 (by simp only [wN]; omega)
  refine ⟨s1, ?_, w1, ?_⟩
  · unfold knownS
    rw [show (1 : Int) = ((1 : Nat) : Int) from rfl, e0, Option.bind_some, fix_is, Option.bind_some]
    exact e1
  · unfold knownI
    simp only [wN] at n1
    omega
/-- What a text is made small to, as each kind of block and as the least one. -/
structure Made (b : List Int) where
  la : List Int
  lb : List Int
  lits : List Int
  dists : List Int
  own : List Int
  turned : List Int
  st : List Int × Nat
  kn : List Int × Nat
  dy : List Int × Nat
  ok : MadeOk (T b) lits dists own turned
  by_ : MadeBy (T b) la lb lits dists own turned
  hst : plainS b = some st
  hkn : knownS (T b) = some kn
  hdy : madeS (T b) = some dy
  wst : PenW st (plainI b)
  wkn : PenW kn (knownI (T b))
  wdy : PenW dy (madeI (T b) lits dists own turned)
theorem made_all (b : List Int) (hb : Bytes b) (hl : b.length ≤ 4096) : Nonempty (Made b) := by
  obtain ⟨h1, h2, h3, h4, h5⟩ := T_ok b hb hl
  obtain ⟨s1, e1, w1⟩ := plain_is b hb hl
  obtain ⟨s2, e2, w2, _⟩ := known_is (T b) h4 h5
  obtain ⟨s3, la, lb, lits, dists, own, turned, e3, ok, w3, _, by_⟩ := made_is (T b) h4 h1 h5 (by omega)
  exact ⟨⟨la, lb, lits, dists, own, turned, s1, s2, s3, ok, by_, e1, e2, e3, w1, w2, w3⟩⟩
theorem stored_f {b : List Int} (hl : b.length ≤ 4096) (m : Made b) : shrink_Stored.f b = some (m.st.1, 0) := by
  unfold shrink_Stored.f
  rw [if_neg (by omega), m.hst, Option.bind_some]
theorem fixed_f {b : List Int} (hb : Bytes b) (hl : b.length ≤ 4096) (m : Made b) : shrink_Fixed.f b = some (m.kn.1, 0) := by
  unfold shrink_Fixed.f
  rw [tokens_is (bytes_wf hb) hl, Option.bind_some, if_pos rfl, if_pos (by have : (toks b b.length 0).length ≤ 4096 := (T_ok b hb hl).2.2.2.1; simp only; omega)]
  simp only
  rw [m.hkn, Option.bind_some]
def Made.least {b : List Int} (m : Made b) : List Int × Nat := pick2 (pick2 m.st m.kn) m.dy
theorem shrink_f {b : List Int} (hb : Bytes b) (hl : b.length ≤ 4096) (m : Made b) : shrink_Shrink.f b = some (m.least.1, 0) := by
  unfold shrink_Shrink.f
  rw [tokens_is (bytes_wf hb) hl, Option.bind_some, if_pos rfl, if_pos ⟨by have : (toks b b.length 0).length ≤ 4096 := (T_ok b hb hl).2.2.2.1; simp only; omega, by omega⟩]
  simp only
  rw [m.hst, Option.bind_some, m.hkn, Option.bind_some, m.hdy, Option.bind_some]
  rfl
theorem least_is {b : List Int} (m : Made b) : (m.least = m.st ∨ m.least = m.kn ∨ m.least = m.dy) ∧ m.least.2 ≤ m.st.2 ∧ m.least.2 ≤ m.kn.2 ∧ m.least.2 ≤ m.dy.2 := by
  unfold Made.least pick2
  split <;> split <;> refine ⟨by simp, ?_, ?_, ?_⟩ <;> omega
theorem PenW.len {s : List Int × Nat} {it : List (Nat × Nat)} (h : PenW s it) : s.1.length = (s.2 + 7) / 8 := by rw [h.1.len, h.2]
end Go.Proofs.Ytlffpaploefljaa.Glue
