/- What is written is read by the reference: whole blocks; used by the claims of this seat. -/
import Derived.Test.YtlffpaploefljaaRefRead
import Derived.Test.YtlffpaploefljaaPx0
import Derived.Test.YtlffpaploefljaaPx10
import Derived.Test.YtlffpaploefljaaPx39
import Derived.Test.YtlffpaploefljaaPx51
import Derived.Test.YtlffpaploefljaaPx62
import Derived.Test.YtlffpaploefljaaPx69
namespace Go.Proofs.Ytlffpaploefljaa.Glue
open Go.RowKit Go.Proofs.Ytlffpaploefljaa.P Go.Proofs.YtlffpaploefljaaW.PrintWords Go.Proofs.YtlffpaploefljaaW.PrintLast Go.Proofs.YtlffpaploefljaaW.PrintMore
open WP (Row Bytes at_ val wN wX Wrote)
open Go.Proofs.Ytlffpaploefljaa.Tok (LenSym DistSym OkT OkL sizeL sizeT sizeL_ge exT exT_shift copyN copyN_len)
open RowSteps
set_option linter.unusedVariables false
set_option linter.unusedSimpArgs false
/-! ### the lengths' own -/
def fillO (o : List Int) : Nat → List Int → List Int
  | _, [] => o
  | i, x :: ts => fillO (o.set (ordR.getD i 0).toNat x) (i + 1) ts
def invO (j : Nat) : Nat := ord19.idxOf (j : Int)
theorem invO_in : ∀ j : Fin 19, invO j.val < 19 ∧ ord19.getD (invO j.val) 0 = (j.val : Int) := by decide
theorem invO_of : ∀ i : Fin 19, invO (ord19.getD i.val 0).toNat = i.val := by decide
theorem ord_same : ordR = ord19 := rfl
theorem fill_len : ∀ (ts : List Int) (i : Nat) (o : List Int), (fillO o i ts).length = o.length
  | [], i, o => rfl
  | x :: ts, i, o => by rw [fillO, fill_len ts, List.length_set]
theorem fill_get : ∀ (ts : List Int) (i : Nat) (o : List Int), o.length = 19 → i + ts.length ≤ 19 → ∀ j, j < 19 → (fillO o i ts).getD j 0 = if i ≤ invO j ∧ invO j < i + ts.length then ts.getD (invO j - i) 0 else o.getD j 0
  | [], i, o, _, _, j, _ => by
    rw [fillO, if_neg (by simp)]
  | x :: ts, i, o, ho, hi, j, hj => by
    rw [List.length_cons] at hi
    rw [fillO, fill_get ts (i + 1) _ (by rw [List.length_set]; exact ho) (by omega) j hj, ord_same, List.length_cons]
    have h1 := invO_in ⟨j, hj⟩
    have h2 := invO_of ⟨i, by omega⟩
    have h3 := ord19_in ⟨i, by omega⟩
    simp only at h1 h2 h3
    by_cases he : invO j = i
    · have e : (ord19.getD i 0).toNat = j := by rw [← he, h1.2]; rfl
      rw [if_neg (by omega), if_pos ⟨by omega, by omega⟩, e, List.getD_eq_getElem?_getD, List.getElem?_set_self (by omega), he, Nat.sub_self]
      rfl
    · have ne : (ord19.getD i 0).toNat ≠ j := fun h => he (by rw [← h]; exact h2)
      rw [List.getD_eq_getElem?_getD (l := o.set _ _), List.getElem?_set_ne ne, ← List.getD_eq_getElem?_getD]
      by_cases hc : i + 1 ≤ invO j ∧ invO j < i + 1 + ts.length
      · rw [if_pos hc, if_pos ⟨by omega, by omega⟩, show invO j - i = (invO j - (i + 1)) + 1 from by omega, List.getD_cons_succ]
      · rw [if_neg hc, if_neg (by omega)]
theorem fill_is {own turned : List Int} {n : Nat} (ho : own.length = 19) (e : turned = (ord19.map (rd own)).take n) (hn : n ≤ 19) (hz : ∀ j, n ≤ j → (ord19.map (rd own)).getD j 0 = 0) : fillO (List.replicate 19 0) 0 turned = own := by
  have hO : (ord19.map (rd own)).length = 19 := by rw [List.length_map]; rfl
  have ht : turned.length = n := by rw [e, List.length_take]; omega
  apply List.ext_getElem?
  intro j
  by_cases hj : j < 19
  · have h := fill_get turned 0 (List.replicate 19 0) (by simp) (by omega) j hj
    have h1 := invO_in ⟨j, hj⟩
    simp only at h1
    have hg : (ord19.map (rd own)).getD (invO j) 0 = own.getD j 0 := by
      rw [List.getD_eq_getElem?_getD, List.getElem?_map, List.getElem?_eq_getElem (show invO j < ord19.length from h1.1)]
      have := h1.2
      rw [List.getD_eq_getElem?_getD, List.getElem?_eq_getElem (show invO j < ord19.length from h1.1)] at this
      simp only [Option.getD_some, Option.map_some] at this ⊢
      rw [this, rd_nat]
    have hv : (fillO (List.replicate 19 0) 0 turned).getD j 0 = own.getD j 0 := by
      rw [h]
      by_cases hc : invO j < n
      · rw [if_pos ⟨by omega, by omega⟩, Nat.sub_zero, e, take_getD _ hc, hg]
      · rw [if_neg (by omega), ← hg, hz _ (by omega), List.getD_eq_getElem?_getD, List.getElem?_replicate]
        split <;> rfl
    have hl : (fillO (List.replicate 19 0) 0 turned).length = 19 := by rw [fill_len]; simp
    rw [List.getD_eq_getElem?_getD, List.getD_eq_getElem?_getD, List.getElem?_eq_getElem (by omega), List.getElem?_eq_getElem (by omega)] at hv
    rw [List.getElem?_eq_getElem (by omega), List.getElem?_eq_getElem (by omega)]
    simpa using hv
  · rw [List.getElem?_eq_none (by rw [fill_len]; simp; omega), List.getElem?_eq_none (by omega)]
section
variable {b : List Int} (hb : Bytes b) (hl : b.length ≤ 100000)
include hb hl
theorem ownR_is : ∀ (ts : List Int) (i : Nat) (o : List Int) (p : Nat) (r : List (Nat × Nat)), (∀ x ∈ ts, 0 ≤ x ∧ x ≤ 7) → Stand (val b) p (ts.map (fun x => (x.toNat, 3)) ++ r) → p + 3 * ts.length ≤ 8 * b.length →
    ownR b ts.length i o (p : Int) = some (fillO o i ts, ((p + 3 * ts.length : Nat) : Int))
  | [], i, o, p, r, _, _, _ => by
    simp only [List.length_nil, ownR, fillO, Nat.mul_zero, Nat.add_zero]
  | x :: ts, i, o, p, r, hx, hst, he => by
    rw [List.length_cons] at he ⊢
    have h0 := hx x List.mem_cons_self
    simp only [List.map_cons, List.cons_append, Stand] at hst
    unfold ownR
    rw [show (3 : Int) = ((3 : Nat) : Int) from rfl, getR_is hb hl (by omega) (by omega) hst.1, Option.bind_some]
    simp only
    rw [ownR_is ts (i + 1) _ (p + 3) r (fun y hy => hx y (List.mem_cons_of_mem _ hy)) hst.2 (by omega), Int.toNat_of_nonneg h0.1]
    rw [fillO]
    congr 3
    omega
/-- The row of lengths is read where it stands. -/
theorem rowR_is {own : List Int} (hm : Makes own) {many : Nat} (hmany : many ≤ 1000) : ∀ (f k : Nat) (a : Int) (R acc : List Int) (p : Nat) (r : List (Nat × Nat)), R.length ≤ f → R.length < k → acc.length + R.length = many → (∀ x ∈ R, 0 ≤ x ∧ x ≤ 15) → Ahead acc a → (∀ t ∈ steps f a R, Has own t.1.toNat) →
    Stand (val b) p ((steps f a R).flatMap (stepI own) ++ r) → p + wN ((steps f a R).flatMap (stepI own)) ≤ 8 * b.length →
    rowR own (codesL own) b (many : Int) k acc (p : Int) = some (acc ++ R, ((p + wN ((steps f a R).flatMap (stepI own)) : Nat) : Int)) := by
  intro f
  have none : ∀ (k : Nat) (acc : List Int) (p : Nat), 0 < k → acc.length = many → rowR own (codesL own) b (many : Int) k acc (p : Int) = some (acc ++ [], ((p + 0 : Nat) : Int)) := by
    intro k acc p hk ha
    obtain ⟨k, rfl⟩ : ∃ m, k = m + 1 := ⟨k - 1, by omega⟩
    unfold rowR
    rw [if_neg (by omega), List.append_nil, Nat.add_zero]
  induction f with
  | zero =>
    intro k a R acc p r hR hk ham hx ha hh hst he
    have : R = [] := List.length_eq_zero_iff.1 (by omega)
    subst this
    simp only [steps, List.flatMap_nil, wN]
    exact none k acc p (by omega) (by simpa using ham)
  | succ f ih =>
    intro k a R acc p r hR hk ham hx ha hh hst he
    match R, hR, hk, ham, hx, hh, hst, he with
    | [], hR, hk, ham, hx, hh, hst, he =>
      simp only [steps, List.flatMap_nil, wN]
      exact none k acc p (by omega) (by simpa using ham)
    | v :: t, hR, hk, ham, hx, hh, hst, he =>
      obtain ⟨k, rfl⟩ : ∃ m, k = m + 1 := ⟨k - 1, by omega⟩
      simp only [List.length_cons] at hR hk ham
      obtain ⟨m, em, m1, m2, m3, m4⟩ := steps_put v t acc a (hx v List.mem_cons_self) ha
      have fit := next_fit v a (run v t + 1) (by omega) (hx v List.mem_cons_self)
      simp only [steps] at hh hst he ⊢
      have hs := hh _ List.mem_cons_self
      rw [em, Int.toNat_natCast] at hh hst he ⊢
      have hvk := fit.is acc (fun h16 => by
        rcases ha with ha | ha
        · have := fit.back h16; have := hx v List.mem_cons_self; omega
        · exact ha.2)
      rw [em, Int.toNat_natCast] at hvk
      generalize stepOf v a (run v t + 1) = q at *
      rw [List.flatMap_cons] at hst he ⊢
      rw [List.append_assoc] at hst
      obtain ⟨x, n, ex, en, xn, n7⟩ := fit.more
      have hst2 := ((stand_append _ _ _).1 hst).2
      have eI : stepI own q = [codeI own q.1.toNat, (x, n)] := by unfold stepI; rw [ex, en]; rfl
      rw [eI] at hst hst2 he ⊢
      simp only [WP.wN_append, wN, Nat.add_zero] at hst2 he ⊢
      obtain ⟨c1, c2, _⟩ := hst
      simp only at c2
      have hlen : (v :: t).length = t.length + 1 := rfl
      have next : rowR own (codesL own) b (many : Int) k (acc ++ List.replicate m v) ((p + (codeI own q.1.toNat).2 + n : Nat) : Int) = some (acc ++ v :: t, ((p + ((codeI own q.1.toNat).2 + n + wN ((steps f v ((v :: t).drop m)).flatMap (stepI own))) : Nat) : Int)) := by
        rw [ih k v ((v :: t).drop m) (acc ++ List.replicate m v) (p + (codeI own q.1.toNat).2 + n) r (by rw [List.length_drop]; omega) (by rw [List.length_drop]; omega) (by rw [List.length_append, List.length_replicate, List.length_drop]; omega) (fun y hy => hx y (List.mem_of_mem_drop hy)) (.inr (last_rep acc v m m1)) (fun y hy => hh y (List.mem_cons_of_mem _ hy)) (by rw [Nat.add_assoc]; exact hst2) (by omega), List.append_assoc, ← m4]
        congr 3
        omega
      have hrow : rowS (rowR own (codesL own) b (many : Int) k) acc v (m : Int) ((p + (codeI own q.1.toNat).2 + n : Nat) : Int) = some (acc ++ v :: t, ((p + ((codeI own q.1.toNat).2 + n + wN ((steps f v ((v :: t).drop m)).flatMap (stepI own))) : Nat) : Int)) := by
        unfold rowS
        rw [if_pos ⟨by omega, by omega, by omega⟩, Int.toNat_natCast]
        exact next
      have hq0 := fit.sym.1
      have hw := fit.wide
      have hcc := codeI_le hm hs
      unfold rowR
      rw [if_pos (by omega), symR_is hb hl hm hs (by omega) c1, Option.bind_some]
      simp only
      rw [Int.toNat_of_nonneg hq0]
      have hp7 : 2 ^ n ≤ 2 ^ 7 := Nat.pow_le_pow_right (by decide) n7
      unfold vk at hvk
      by_cases h16 : q.1 = 16
      · rw [if_pos h16] at hvk hw ⊢
        injection hvk with v1 v2
        have hacc : 0 < acc.length := by
          rcases ha with ha | ha
          · have := fit.back h16; have := hx v List.mem_cons_self; omega
          · exact ha.1
        rw [if_pos hacc, show (2 : Int) = ((2 : Nat) : Int) from rfl]
        obtain rfl : n = 2 := by omega
        rw [getR_is hb hl (by omega) (by omega) c2, Option.bind_some]
        simp only
        rw [wrap64_in (by omega) (by omega), show (3 : Int) + (x : Int) = (m : Int) from by omega, show (acc.length : Int) - 1 = ((acc.length - 1 : Nat) : Int) from by omega, rd_nat, v1]
        exact hrow
      · rw [if_neg h16] at hvk hw ⊢
        by_cases h17 : q.1 = 17
        · rw [if_pos h17] at hvk hw ⊢
          injection hvk with v1 v2
          obtain rfl : n = 3 := by omega
          rw [show (3 : Int) = ((3 : Nat) : Int) from rfl, getR_is hb hl (by omega) (by omega) c2, Option.bind_some]
          simp only
          rw [wrap64_in (by omega) (by omega), show ((3 : Nat) : Int) + (x : Int) = (m : Int) from by omega, v1]
          exact hrow
        · rw [if_neg h17] at hvk hw ⊢
          by_cases h18 : q.1 = 18
          · rw [if_pos h18] at hvk hw ⊢
            injection hvk with v1 v2
            obtain rfl : n = 7 := by omega
            rw [show (7 : Int) = ((7 : Nat) : Int) from rfl, getR_is hb hl (by omega) (by omega) c2, Option.bind_some]
            simp only
            rw [wrap64_in (by omega) (by omega), show (11 : Int) + (x : Int) = (m : Int) from by omega, v1]
            exact hrow
          · rw [if_neg h18] at hvk hw ⊢
            injection hvk with v1 v2
            obtain rfl : n = 0 := by omega
            have e1 := hrow
            rw [v1] at e1 ⊢
            rw [show (1 : Int) = (m : Int) from by omega]
            exact e1
/-! ### blocks -/
omit hb hl in
theorem okL_up : ∀ (ts : List S53) (n m : Nat), n ≤ m → OkL ts n → OkL ts m
  | [], _, _, _, _ => trivial
  | t :: ts, n, m, h, ⟨h1, h2⟩ => ⟨by
      rcases h1 with h1 | h1
      · exact Or.inl h1
      · exact Or.inr ⟨h1.1, h1.2.1, h1.2.2.1, h1.2.2.2.1, by omega, h1.2.2.2.2.2⟩, okL_up ts _ _ (by omega) h2⟩
omit hb hl in
theorem makes_yes {l : List Int} (h : canon_Check.f l = some 0) : wherryref01_makes.f 6000 l = some true := by
  obtain ⟨h1, h2⟩ := (check_iff l).1 h
  rw [refmakes_is l h1 6000 (by omega), h2]
omit hb hl in
theorem codes_of {l : List Int} (h : canon_Check.f l = some 0) : wherryref01_codes.f 8000 l = some (codesL l) := refcodes_is (makes_of h) 8000 (by omega)
/-- A block of lengths of its own is read where it stands, behind its kind. -/
theorem dynR_is {t : List Int} (ht : Bytes t) (h4 : t.length ≤ 4096) {lits dists own turned : List Int} (ok : MadeOk (T t) lits dists own turned) {most : Int} (hmost : most ≤ 100000) {p : Nat} {out : List Int} (hr : (out.length : Int) + t.length ≤ most) {rest : List (Nat × Nat)}
    (hI : madeI (T t) lits dists own turned = (1, 1) :: (2, 2) :: rest) (hst : Stand (val b) p rest) (he : p + wN rest ≤ 8 * b.length) :
    dynR b most 50000 (p : Int) out = some (((p + wN rest : Nat) : Int), out ++ t) := by
  obtain ⟨hx, h7, t4, t19⟩ := made_bounds ok
  have l1 := ok.llen
  have l2 := ok.dlen
  obtain ⟨o1, o2, o3, o4, o5⟩ := T_ok t ht h4
  have hrest : rest = (lits.length - 257, 5) :: (dists.length - 1, 5) :: (turned.length - 4, 4) :: (turned.map (fun x => (x.toNat, 3)) ++ ((steps (lits ++ dists).length (-1) (lits ++ dists)).flatMap (stepI own) ++ bodyI (T t) lits dists)) := by
    unfold madeI at hI
    simp only [List.cons_append, List.append_assoc, List.nil_append] at hI
    injection hI with _ hI
    injection hI with _ hI
    exact hI.symm
  have ebody := stand_append (X := val b) ((steps (lits ++ dists).length (-1) (lits ++ dists)).flatMap (stepI own)) (bodyI (T t) lits dists)
  rw [hrest] at hst he
  have eN : wN rest = 14 + 3 * turned.length + wN ((steps (lits ++ dists).length (-1) (lits ++ dists)).flatMap (stepI own)) + wN (bodyI (T t) lits dists) := by
    rw [hrest]
    simp only [wN, WP.wN_append, wN_nums]
    omega
  rw [← hrest] at he
  rw [eN] at he ⊢
  obtain ⟨a1, a2, a3, a4⟩ := hst
  simp only at a1 a2 a3
  have a5 := ((stand_append _ _ _).1 a4).2
  rw [wN_nums] at a5
  have a6 := ((ebody _).1 a5).2
  obtain ⟨nt, et, _, nt19, nz⟩ := ok.turn
  unfold dynR
  rw [show (5 : Int) = ((5 : Nat) : Int) from rfl, getR_is hb hl (by omega) (by omega) a1, Option.bind_some]
  simp only
  rw [getR_is hb hl (by omega) (by omega) a2, Option.bind_some]
  simp only
  rw [show (4 : Int) = ((4 : Nat) : Int) from rfl, getR_is hb hl (by omega) (by omega) a3, Option.bind_some]
  simp only
  rw [if_pos ⟨by omega, by omega, by omega, by omega, by omega, by omega⟩, Int.toNat_natCast, Int.toNat_natCast, show turned.length - 4 + 4 = turned.length from by omega]
  rw [ownR_is hb hl turned 0 (List.replicate 19 0) (p + 5 + 5 + 4) _ h7 a4 (by omega), Option.bind_some]
  simp only
  rw [fill_is ok.olen et nt19 nz, if_pos (makes_yes ok.co), codes_of ok.co, Option.bind_some, show ((lits.length - 257 : Nat) : Int) + 257 + (((dists.length - 1 : Nat) : Int) + 1) = (((lits ++ dists).length : Nat) : Int) from by rw [List.length_append]; omega]
  rw [rowR_is hb hl (makes_of ok.co) (by rw [List.length_append]; omega) (lits ++ dists).length 400 (-1) (lits ++ dists) [] (p + 5 + 5 + 4 + 3 * turned.length) _ (Nat.le_refl _) (by rw [List.length_append]; omega) (by simp) hx (.inl rfl) ok.row a5 (by omega), Option.bind_some]
  simp only [List.nil_append]
  rw [show lits.length - 257 + 257 = lits.length from by omega, List.take_left, List.drop_left]
  have h256 : rd (lits ++ dists) 256 ≠ 0 := by
    have := ok.stop.2
    have h1 := ok.stop.1
    rw [show (256 : Int) = ((256 : Nat) : Int) from rfl, rd_nat, List.getD_eq_getElem?_getD, List.getElem?_append_left h1, ← List.getD_eq_getElem?_getD]
    omega
  rw [if_pos ⟨trivial, makes_yes ok.cl, makes_yes ok.cd, h256⟩, codes_of ok.cl, Option.bind_some, codes_of ok.cd, Option.bind_some]
  rw [textR_is hb hl (makes_of ok.cl) (makes_of ok.cd) ok.stop hmost (T t) 50000 (p + 5 + 5 + 4 + 3 * turned.length + wN ((steps (lits ++ dists).length (-1) (lits ++ dists)).flatMap (stepI own))) out (by omega) (fun u hu => ⟨o5 u hu, ok.toks u hu⟩) (okL_up _ 0 _ (by omega) o1) (by omega) a6 (by omega)]
  have hsh := exT_shift out (T t) [] o1
  rw [List.append_nil, o2] at hsh
  rw [hsh]
  congr 3
  omega
omit hb hl in
theorem reffix_is : wherryref01_Fixed.f 6000 = some (fixL, fixD) := by decide +kernel
/-- A block of the fixed lengths is read where it stands, behind its kind. -/
theorem fixedR_is {t : List Int} (ht : Bytes t) (h4 : t.length ≤ 4096) {most : Int} (hmost : most ≤ 100000) {p : Nat} {out : List Int} (hr : (out.length : Int) + t.length ≤ most)
    (hst : Stand (val b) p (bodyI (T t) fixL fixD)) (he : p + wN (bodyI (T t) fixL fixD) ≤ 8 * b.length) :
    kindR b most 50000 1 (p : Int) out = some (((p + wN (bodyI (T t) fixL fixD) : Nat) : Int), out ++ t) := by
  obtain ⟨o1, o2, o3, o4, o5⟩ := T_ok t ht h4
  unfold kindR
  rw [if_neg (by decide), if_pos rfl, reffix_is, Option.bind_some, codes_of fixL_check, Option.bind_some, codes_of fixD_check, Option.bind_some]
  simp only
  rw [textR_is hb hl (makes_of fixL_check) (makes_of fixD_check) (fixL_has (by decide)) hmost (T t) 50000 p out (by omega) (fun u hu => ⟨o5 u hu, fix_toks (o5 u hu)⟩) (okL_up _ 0 _ (by omega) o1) (by omega) hst he]
  have hsh := exT_shift out (T t) [] o1
  rw [List.append_nil, o2] at hsh
  rw [hsh]
/-- The one block that there is. -/
theorem blocksR_one {most : Int} {k p3 : Nat} {t : List Int} {r : List (Nat × Nat)} (hst : Stand (val b) 0 ((1, 1) :: (k, 2) :: r)) (he : 3 ≤ 8 * b.length) (hk : kindR b most 50000 (k : Int) ((3 : Nat) : Int) [] = some ((p3 : Int), t)) :
    blocksR b most 50000 400 0 [] 0 = some ((p3 : Int), t, 1) := by
  obtain ⟨a1, a2, _⟩ := hst
  simp only at a1 a2
  unfold blocksR
  rw [show (1 : Int) = ((1 : Nat) : Int) from rfl, show (0 : Int) = ((0 : Nat) : Int) from rfl, getR_is hb hl (by omega) (by omega) a1, Option.bind_some]
  simp only
  rw [show (2 : Int) = ((2 : Nat) : Int) from rfl, getR_is hb hl (by omega) (by omega) a2, Option.bind_some]
  simp only
  rw [show 0 + 1 + 2 = 3 from rfl, hk, Option.bind_some]
  simp only
  rw [if_neg (by decide), wrap64_in (by decide) (by decide)]
  rfl
end
theorem pen_room {s : List Int × Nat} {it : List (Nat × Nat)} (h : PenW s it) : wN it ≤ 8 * s.1.length ∧ 8 * s.1.length < wN it + 8 := by
  have := h.1.len
  omega
/-- What a block was written as. -/
def Kind {t : List Int} (m : Made t) (x : List Int × Nat) (it : List (Nat × Nat)) : Prop :=
  (x = m.st ∧ it = plainI t) ∨ (x = m.kn ∧ it = knownI (T t)) ∨ (x = m.dy ∧ it = madeI (T t) m.lits m.dists m.own m.turned)
theorem Kind.pen {t : List Int} {m : Made t} {x : List Int × Nat} {it : List (Nat × Nat)} (h : Kind m x it) : PenW x it := by
  rcases h with ⟨rfl, rfl⟩ | ⟨rfl, rfl⟩ | ⟨rfl, rfl⟩
  · exact m.wst
  · exact m.wkn
  · exact m.wdy
theorem Kind.lt {t : List Int} (ht : Bytes t) (h4 : t.length ≤ 4096) {m : Made t} {x : List Int × Nat} {it : List (Nat × Nat)} (h : Kind m x it) : Lt it := by
  rcases h with ⟨rfl, rfl⟩ | ⟨rfl, rfl⟩ | ⟨rfl, rfl⟩
  · exact plain_lt t ht h4
  · exact known_lt t ht h4
  · exact made_lt ht h4 m.ok
theorem least_kind {t : List Int} (m : Made t) : ∃ it, Kind m m.least it := by
  rcases (least_is m).1 with h | h | h
  · exact ⟨_, .inl ⟨h, rfl⟩⟩
  · exact ⟨_, .inr (.inl ⟨h, rfl⟩)⟩
  · exact ⟨_, .inr (.inr ⟨h, rfl⟩)⟩
/-- What was made small is made great by the reference. -/
theorem refgrow_is {t : List Int} (ht : Bytes t) (h4 : t.length ≤ 4096) {m : Made t} {x : List Int × Nat} {it : List (Nat × Nat)} (h : Kind m x it) (hl : x.1.length ≤ 100000) {most : Int} (hmost : most ≤ 100000) (hr : (t.length : Int) ≤ most) :
    wherryref01_Grow.f x.1 most = some (t, 1, 0) := by
  have hw := h.pen
  have hlt := h.lt ht h4
  have hroom := pen_room hw
  have hb : Bytes x.1 := hw.1.bytes
  have hst := at_pen hw hlt
  have hr0 : ((([] : List Int).length : Nat) : Int) + t.length ≤ most := by simpa using hr
  have hk : blocksR x.1 most 50000 400 0 [] 0 = some ((wN it : Int), t, 1) := by
    rcases h with ⟨rfl, rfl⟩ | ⟨rfl, rfl⟩ | ⟨rfl, rfl⟩
    · have hN := plainI_N t
      rw [hN] at hroom ⊢
      unfold plainI at hst
      simp only [List.cons_append, List.nil_append] at hst
      have hr2 := hst.2.2
      simp only at hr2
      have hb2 := storedR_is hb (by omega) (most := most) ht h4 (p := 0 + 1 + 2) (out := []) (by omega) hr0 hmost (r := []) (by rw [List.append_nil]; exact hr2) (by omega)
      refine blocksR_one hb (by omega) hst (by omega) (p3 := 40 + 8 * t.length) ?_
      unfold kindR
      rw [if_pos (by decide)]
      rw [show 0 + 1 + 2 = 3 from rfl] at hb2
      rw [hb2, List.nil_append]
      first | done | (congr 3; omega)
    · have hN : wN (knownI (T t)) = 3 + wN (bodyI (T t) fixL fixD) := by
        unfold knownI
        rw [WP.wN_append]
        rfl
      rw [hN] at hroom ⊢
      unfold knownI at hst
      simp only [List.cons_append, List.nil_append] at hst
      have hr2 := hst.2.2
      simp only at hr2
      have hb2 := fixedR_is hb (by omega) ht h4 hmost (p := 0 + 1 + 2) (out := []) hr0 hr2 (by omega)
      refine blocksR_one hb (by omega) hst (by omega) (p3 := 3 + wN (bodyI (T t) fixL fixD)) ?_
      rw [show 0 + 1 + 2 = 3 from rfl] at hb2
      rw [show ((1 : Nat) : Int) = 1 from rfl, hb2, List.nil_append]
    · obtain ⟨rest, hI⟩ := madeI_kind (T t) m.lits m.dists m.own m.turned
      have hN : wN (madeI (T t) m.lits m.dists m.own m.turned) = 3 + wN rest := by
        rw [hI]
        simp only [wN]
        omega
      rw [hN] at hroom ⊢
      rw [hI] at hst
      have hr2 := hst.2.2
      simp only at hr2
      have hb2 := dynR_is hb (by omega) ht h4 m.ok hmost (p := 0 + 1 + 2) (out := []) hr0 hI hr2 (by omega)
      refine blocksR_one hb (by omega) hst (by omega) (p3 := 3 + wN rest) ?_
      unfold kindR
      rw [if_neg (by decide), if_neg (by decide), if_pos (by decide)]
      rw [show 0 + 1 + 2 = 3 from rfl] at hb2
      rw [hb2, List.nil_append]
  unfold wherryref01_Grow.f
  rw [hk, Option.bind_some]
  simp only
  have z1 : (8 - wN it % 8) % 8 = 8 * x.1.length - wN it := by omega
  have z2 : at_ (val x.1) (wN it) (8 * x.1.length - wN it) = 0 := by
    rw [hw.1.val]
    unfold at_
    rw [Nat.div_eq_of_lt (WP.wX_lt it), Nat.zero_mod]
  rw [padR_is hb (by omega) 8 (wN it) (by omega) (by omega) (by rw [z1]; exact z2), Option.bind_some, if_pos ⟨by omega, by omega⟩]
theorem known_short {t : List Int} (ht : Bytes t) (h4 : t.length ≤ 4096) : wN (knownI (T t)) ≤ 300000 := by
  obtain ⟨o1, o2, o3, o4, o5⟩ := T_ok t ht h4
  obtain ⟨_, _, _, h⟩ := known_is (T t) o4 o5
  exact h
theorem Kind.short {t : List Int} {m : Made t} {x : List Int × Nat} {it : List (Nat × Nat)} (h : Kind m x it) (ht : Bytes t) (h4 : t.length ≤ 4096) : x.1.length ≤ 100000 := by
  obtain ⟨o1, o2, o3, o4, o5⟩ := T_ok t ht h4
  rcases h with ⟨rfl, _⟩ | ⟨rfl, _⟩ | ⟨rfl, _⟩
  · have h1 := pen_room m.wst
    rw [plainI_N] at h1
    omega
  · have h1 := pen_room m.wkn
    have := known_short ht h4
    omega
  · obtain ⟨s, l, d, o, tu, e, ok, w, hN⟩ := made_is (T t) o4 o1 o5 (by omega)
    rw [m.hdy] at e
    injection e with e
    subst e
    have h1 := pen_room w
    omega
theorem least_len {t : List Int} (h4 : t.length ≤ 4096) (m : Made t) : m.least.1.length ≤ t.length + 5 := by
  obtain ⟨it, w⟩ := m.wleast
  have h1 := w.len
  have h2 := (least_is m).2.1
  have h3 := m.wst.2
  rw [plainI_N] at h3
  omega
end Go.Proofs.Ytlffpaploefljaa.Glue
