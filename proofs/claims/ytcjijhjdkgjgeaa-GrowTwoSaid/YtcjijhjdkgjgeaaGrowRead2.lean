/- What is written is read: blocks of lengths of their own, of the fixed lengths; used by the claims of this seat. -/
import Derived.Test.YtcjijhjdkgjgeaaGrowRead
import Derived.Test.YtcjijhjdkgjgeaaPx0
import Derived.Test.YtcjijhjdkgjgeaaPx1
import Derived.Test.YtcjijhjdkgjgeaaPx2
import Derived.Test.YtcjijhjdkgjgeaaPx16
import Derived.Test.YtcjijhjdkgjgeaaPx25
import Derived.Test.YtcjijhjdkgjgeaaPx61
namespace Go.Proofs.Ytcjijhjdkgjgeaa.Glue
open Go.RowKit Go.Proofs.Ytcjijhjdkgjgeaa.P Go.Proofs.YtcjijhjdkgjgeaaW.PrintWords Go.Proofs.YtcjijhjdkgjgeaaW.PrintLast Go.Proofs.YtcjijhjdkgjgeaaW.PrintMore
open WP (Row Bytes at_ val wN wX Wrote)
open Go.Proofs.Ytcjijhjdkgjgeaa.Tok (LenSym DistSym OkT OkL sizeL sizeT sizeL_ge exT exT_shift copyN copyN_len)
open RowSteps
set_option linter.unusedVariables false
set_option linter.unusedSimpArgs false
/-! ### the lengths' own -/
def fillO (o : List Int) : Nat → List Int → List Int
  | _, [] => o
  | i, x :: ts => fillO (o.set (ordL.getD i 0).toNat x) (i + 1) ts
def invO (j : Nat) : Nat := ord19.idxOf (j : Int)
theorem invO_in : ∀ j : Fin 19, invO j.val < 19 ∧ ord19.getD (invO j.val) 0 = (j.val : Int) := by decide
theorem invO_of : ∀ i : Fin 19, invO (ord19.getD i.val 0).toNat = i.val := by decide
theorem ord_same : ordL = ord19 := rfl
theorem fill_len : ∀ (ts : List Int) (i : Nat) (o : List Int), (fillO o i ts).length = o.length
  | [], i, o => rfl
  | x :: ts, i, o => by rw [fillO, fill_len ts, List.length_set]
theorem fill_get : ∀ (ts : List Int) (i : Nat) (o : List Int), o.length = 19 → i + ts.length ≤ 19 → ∀ j, j < 19 → (fillO o i ts).getD j 0 = if i ≤ invO j ∧ invO j < i + ts.length then ts.getD (invO j - i) 0 else o.getD j 0
  | [], i, o, _, _, j, _ => by
    rw [fillO, if_neg (by simp)]
  | x :: ts, i, o, ho, hi, j, hj => by
    rw [List.length_cons] at hi
    rw [fillO, fill_get ts (i + 1) _ (by rw [List.length_set]; exact ho) (by omega) j hj, ord_same, List.length_cons]
    have h1 := invO_in ⟨j, hj⟩
    have h2 := invO_of ⟨i, by omega⟩
    have h3 := ord19_in ⟨i, by omega⟩
    simp only at h1 h2 h3
    by_cases he : invO j = i
    · have e : (ord19.getD i 0).toNat = j := by rw [← he, h1.2]; rfl
      rw [if_neg (by omega), if_pos ⟨by omega, by omega⟩, e, List.getD_eq_getElem?_getD, List.getElem?_set_self (by omega), he, Nat.sub_self]
      rfl
    · have ne : (ord19.getD i 0).toNat ≠ j := fun h => he (by rw [← h]; exact h2)
      rw [List.getD_eq_getElem?_getD (l := o.set _ _), List.getElem?_set_ne ne, ← List.getD_eq_getElem?_getD]
      by_cases hc : i + 1 ≤ invO j ∧ invO j < i + 1 + ts.length
      · rw [if_pos hc, if_pos ⟨by omega, by omega⟩, show invO j - i = (invO j - (i + 1)) + 1 from by omega, List.getD_cons_succ]
      · rw [if_neg hc, if_neg (by omega)]
theorem fill_is {own turned : List Int} {n : Nat} (ho : own.length = 19) (e : turned = (ord19.map (rd own)).take n) (hn : n ≤ 19) (hz : ∀ j, n ≤ j → (ord19.map (rd own)).getD j 0 = 0) : fillO (List.replicate 19 0) 0 turned = own := by
  have hO : (ord19.map (rd own)).length = 19 := by rw [List.length_map]; rfl
  have ht : turned.length = n := by rw [e, List.length_take]; omega
  apply List.ext_getElem?
  intro j
  by_cases hj : j < 19
  · have h := fill_get turned 0 (List.replicate 19 0) (by simp) (by omega) j hj
    have h1 := invO_in ⟨j, hj⟩
    simp only at h1
    have hg : (ord19.map (rd own)).getD (invO j) 0 = own.getD j 0 := by
      rw [List.getD_eq_getElem?_getD, List.getElem?_map, List.getElem?_eq_getElem (show invO j < ord19.length from h1.1)]
      have := h1.2
      rw [List.getD_eq_getElem?_getD, List.getElem?_eq_getElem (show invO j < ord19.length from h1.1)] at this
      simp only [Option.getD_some, Option.map_some] at this ⊢
      rw [this, rd_nat]
    have hv : (fillO (List.replicate 19 0) 0 turned).getD j 0 = own.getD j 0 := by
      rw [h]
      by_cases hc : invO j < n
      · rw [if_pos ⟨by omega, by omega⟩, Nat.sub_zero, e, take_getD _ hc, hg]
      · rw [if_neg (by omega), ← hg, hz _ (by omega), List.getD_eq_getElem?_getD, List.getElem?_replicate]
        split <;> rfl
    have hl : (fillO (List.replicate 19 0) 0 turned).length = 19 := by rw [fill_len]; simp
    rw [List.getD_eq_getElem?_getD, List.getD_eq_getElem?_getD, List.getElem?_eq_getElem (by omega), List.getElem?_eq_getElem (by omega)] at hv
    rw [List.getElem?_eq_getElem (by omega), List.getElem?_eq_getElem (by omega)]
    simpa using hv
  · rw [List.getElem?_eq_none (by rw [fill_len]; simp; omega), List.getElem?_eq_none (by omega)]
section
variable {b : List Int} (hb : Bytes b) (hl : b.length < 2 ^ 40)
include hb hl
theorem ownL_is : ∀ (ts : List Int) (i : Nat) (o : List Int) (s : RSt) (p : Nat) (r : List (Nat × Nat)), (∀ x ∈ ts, 0 ≤ x ∧ x ≤ 7) → s.er = 0 → s.pos = (p : Int) → Stand (val b) p (ts.map (fun x => (x.toNat, 3)) ++ r) → p + 3 * ts.length ≤ 8 * b.length →
    ownL b ts.length i o s = some (fillO o i ts, { s with pos := ((p + 3 * ts.length : Nat) : Int) })
  | [], i, o, s, p, r, _, h, hp, _, _ => by
    simp only [List.length_nil, ownL, fillO, Nat.mul_zero, Nat.add_zero]
    rw [← hp]
  | x :: ts, i, o, s, p, r, hx, h, hp, hst, he => by
    rw [List.length_cons] at he ⊢
    have h0 := hx x List.mem_cons_self
    simp only [List.map_cons, List.cons_append, Stand] at hst
    unfold ownL
    rw [show (3 : Int) = ((3 : Nat) : Int) from rfl, take_is hb hl h hp (by omega) (by omega) hst.1, Option.bind_some]
    simp only
    rw [ownL_is ts (i + 1) _ { s with pos := ((p + 3 : Nat) : Int) } (p + 3) r (fun y hy => hx y (List.mem_cons_of_mem _ hy)) h rfl hst.2 (by omega), Int.toNat_of_nonneg h0.1]
    rw [fillO]
    congr 3
    omega
/-- The row of lengths is read where it stands. -/
theorem rowL_is {own : List Int} (hm : Makes own) {many : Nat} (hmany : many ≤ 1000) : ∀ (f k : Nat) (a : Int) (R acc : List Int) (s : RSt) (p : Nat) (r : List (Nat × Nat)), R.length ≤ f → R.length < k → acc.length + R.length = many → (∀ x ∈ R, 0 ≤ x ∧ x ≤ 15) → Ahead acc a → (∀ t ∈ steps f a R, Has own t.1.toNat) → s.er = 0 → s.pos = (p : Int) →
    Stand (val b) p ((steps f a R).flatMap (stepI own) ++ r) → p + wN ((steps f a R).flatMap (stepI own)) ≤ 8 * b.length →
    rowL (fun n => (openF own n : Int)) (symsTo own own.length) b (many : Int) k acc s = some (acc ++ R, { s with pos := ((p + wN ((steps f a R).flatMap (stepI own)) : Nat) : Int) }) := by
  intro f
  have none : ∀ (k : Nat) (acc : List Int) (s : RSt) (p : Nat), 0 < k → acc.length = many → s.pos = (p : Int) → rowL (fun n => (openF own n : Int)) (symsTo own own.length) b (many : Int) k acc s = some (acc ++ [], { s with pos := ((p + 0 : Nat) : Int) }) := by
    intro k acc s p hk ha hp
    obtain ⟨k, rfl⟩ : ∃ m, k = m + 1 := ⟨k - 1, by omega⟩
    unfold rowL
    rw [if_neg (by omega), List.append_nil, Nat.add_zero, ← hp]
  induction f with
  | zero =>
    intro k a R acc s p r hR hk ham hx ha hh h hp hst he
    have : R = [] := List.length_eq_zero_iff.1 (by omega)
    subst this
    simp only [steps, List.flatMap_nil, wN]
    exact none k acc s p (by omega) (by simpa using ham) hp
  | succ f ih =>
    intro k a R acc s p r hR hk ham hx ha hh h hp hst he
    match R, hR, hk, ham, hx, hh, hst, he with
    | [], hR, hk, ham, hx, hh, hst, he =>
      simp only [steps, List.flatMap_nil, wN]
      exact none k acc s p (by omega) (by simpa using ham) hp
    | v :: t, hR, hk, ham, hx, hh, hst, he =>
      obtain ⟨k, rfl⟩ : ∃ m, k = m + 1 := ⟨k - 1, by omega⟩
      simp only [List.length_cons] at hR hk ham
      obtain ⟨m, em, m1, m2, m3, m4⟩ := steps_put v t acc a (hx v List.mem_cons_self) ha
      have fit := next_fit v a (run v t + 1) (by omega) (hx v List.mem_cons_self)
      simp only [steps] at hh hst he ⊢
      have hs := hh _ List.mem_cons_self
      rw [em, Int.toNat_natCast] at hh hst he ⊢
      have hvk := fit.is acc (fun h16 => by
        rcases ha with ha | ha
        · have := fit.back h16; have := hx v List.mem_cons_self; omega
        · exact ha.2)
      rw [em, Int.toNat_natCast] at hvk
      generalize stepOf v a (run v t + 1) = q at *
      rw [List.flatMap_cons] at hst he ⊢
      rw [List.append_assoc] at hst
      obtain ⟨x, n, ex, en, xn, n7⟩ := fit.more
      have hst2 := ((stand_append _ _ _).1 hst).2
      have eI : stepI own q = [codeI own q.1.toNat, (x, n)] := by unfold stepI; rw [ex, en]; rfl
      rw [eI] at hst hst2 he ⊢
      simp only [WP.wN_append, wN, Nat.add_zero] at hst2 he ⊢
      obtain ⟨c1, c2, _⟩ := hst
      simp only at c2
      have hlen : (v :: t).length = t.length + 1 := rfl
      have next : ∀ s' : RSt, s'.er = 0 → s'.pos = ((p + (codeI own q.1.toNat).2 + n : Nat) : Int) → s' = { s with pos := ((p + (codeI own q.1.toNat).2 + n : Nat) : Int) } →
          rowL (fun n => (openF own n : Int)) (symsTo own own.length) b (many : Int) k (acc ++ List.replicate m v) s' = some (acc ++ v :: t, { s with pos := ((p + ((codeI own q.1.toNat).2 + n + wN ((steps f v ((v :: t).drop m)).flatMap (stepI own))) : Nat) : Int) }) := by
        intro s' h' hp' es
        rw [ih k v ((v :: t).drop m) (acc ++ List.replicate m v) s' (p + (codeI own q.1.toNat).2 + n) r (by rw [List.length_drop]; omega) (by rw [List.length_drop]; omega) (by rw [List.length_append, List.length_replicate, List.length_drop]; omega) (fun y hy => hx y (List.mem_of_mem_drop hy)) (.inr (last_rep acc v m m1)) (fun y hy => hh y (List.mem_cons_of_mem _ hy)) h' hp' (by rw [Nat.add_assoc]; exact hst2) (by omega), List.append_assoc, ← m4, es]
        congr 3
        omega
      have hrow : ∀ s' : RSt, s'.er = 0 → s'.pos = ((p + (codeI own q.1.toNat).2 + n : Nat) : Int) → s' = { s with pos := ((p + (codeI own q.1.toNat).2 + n : Nat) : Int) } →
          rowP (many : Int) (rowL (fun n => (openF own n : Int)) (symsTo own own.length) b (many : Int) k) acc v (m : Int) s' = some (acc ++ v :: t, { s with pos := ((p + ((codeI own q.1.toNat).2 + n + wN ((steps f v ((v :: t).drop m)).flatMap (stepI own))) : Nat) : Int) }) := by
        intro s' h' hp' es
        unfold rowP
        rw [if_pos ⟨by omega, by omega, by omega⟩, wrap64_in (by omega) (by omega), decide_eq_true (by omega), want_yes, Int.toNat_natCast]
        exact next s' h' hp' es
      have hq0 := fit.sym.1
      have hw := fit.wide
      have hcc := codeI_le hm hs
      unfold rowL
      rw [if_pos ⟨by omega, h⟩, sym_is hb hl hm hs h hp (by omega) c1, Option.bind_some]
      simp only
      rw [Int.toNat_of_nonneg hq0]
      have hp7 : 2 ^ n ≤ 2 ^ 7 := Nat.pow_le_pow_right (by decide) n7
      unfold vk at hvk
      by_cases h16 : q.1 = 16
      · rw [if_pos h16] at hvk hw ⊢
        injection hvk with v1 v2
        have hacc : 0 < acc.length := by
          rcases ha with ha | ha
          · have := fit.back h16; have := hx v List.mem_cons_self; omega
          · exact ha.1
        rw [decide_eq_true hacc, want_yes, if_neg (by rw [h]; simp), if_pos ⟨hacc, by omega⟩, show (2 : Int) = ((2 : Nat) : Int) from rfl]
        obtain rfl : n = 2 := by omega
        rw [take_is hb hl (s := { s with pos := ((p + (codeI own q.1.toNat).2 : Nat) : Int) }) h rfl (by omega) (by omega) c2, Option.bind_some]
        simp only
        rw [wrap64_in (by omega) (by omega), show (3 : Int) + (x : Int) = (m : Int) from by omega, show (acc.length : Int) - 1 = ((acc.length - 1 : Nat) : Int) from by omega, rd_nat, v1]
        exact hrow _ h rfl rfl
      · rw [if_neg h16] at hvk hw ⊢
        by_cases h17 : q.1 = 17
        · rw [if_pos h17] at hvk hw ⊢
          injection hvk with v1 v2
          obtain rfl : n = 3 := by omega
          rw [show (3 : Int) = ((3 : Nat) : Int) from rfl, take_is hb hl (s := { s with pos := ((p + (codeI own q.1.toNat).2 : Nat) : Int) }) h rfl (by omega) (by omega) c2, Option.bind_some]
          simp only
          rw [wrap64_in (by omega) (by omega), show ((3 : Nat) : Int) + (x : Int) = (m : Int) from by omega, v1]
          exact hrow _ h rfl rfl
        · rw [if_neg h17] at hvk hw ⊢
          by_cases h18 : q.1 = 18
          · rw [if_pos h18] at hvk hw ⊢
            injection hvk with v1 v2
            obtain rfl : n = 7 := by omega
            rw [show (7 : Int) = ((7 : Nat) : Int) from rfl, take_is hb hl (s := { s with pos := ((p + (codeI own q.1.toNat).2 : Nat) : Int) }) h rfl (by omega) (by omega) c2, Option.bind_some]
            simp only
            rw [wrap64_in (by omega) (by omega), show (11 : Int) + (x : Int) = (m : Int) from by omega, v1]
            exact hrow _ h rfl rfl
          · rw [if_neg h18] at hvk hw ⊢
            injection hvk with v1 v2
            obtain rfl : n = 0 := by omega
            have e1 := hrow { s with pos := ((p + (codeI own q.1.toNat).2 : Nat) : Int) } h rfl rfl
            rw [v1] at e1 ⊢
            rw [show (1 : Int) = (m : Int) from by omega]
            exact e1
/-! ### blocks -/
omit hb hl in
theorem okL_up : ∀ (ts : List S70) (n m : Nat), n ≤ m → OkL ts n → OkL ts m
  | [], _, _, _, _ => trivial
  | t :: ts, n, m, h, ⟨h1, h2⟩ => ⟨by
      rcases h1 with h1 | h1
      · exact Or.inl h1
      · exact Or.inr ⟨h1.1, h1.2.1, h1.2.2.1, h1.2.2.2.1, by omega, h1.2.2.2.2.2⟩, okL_up ts _ _ (by omega) h2⟩
/-- A block of lengths of its own is read where it stands, behind its kind. -/
theorem dyn_is {t : List Int} (ht : Bytes t) (h4 : t.length ≤ 4096) {lits dists own turned : List Int} (ok : MadeOk (T t) lits dists own turned) {most : Int} (hmost : most ≤ 100000) {s : RSt} (h : s.er = 0) {p : Nat} (hp : s.pos = (p : Int)) (hr : (s.out.length : Int) + t.length ≤ most) {rest : List (Nat × Nat)}
    (hI : madeI (T t) lits dists own turned = (1, 1) :: (2, 2) :: rest) (hst : Stand (val b) p rest) (he : p + wN rest ≤ 8 * b.length) :
    dynS b most 400 50000 s = some { s with pos := ((p + wN rest : Nat) : Int), out := s.out ++ t } := by
  obtain ⟨hx, h7, t4, t19⟩ := made_bounds ok
  have l1 := ok.llen
  have l2 := ok.dlen
  obtain ⟨o1, o2, o3, o4, o5⟩ := T_ok t ht h4
  have hrest : rest = (lits.length - 257, 5) :: (dists.length - 1, 5) :: (turned.length - 4, 4) :: (turned.map (fun x => (x.toNat, 3)) ++ ((steps (lits ++ dists).length (-1) (lits ++ dists)).flatMap (stepI own) ++ bodyI (T t) lits dists)) := by
    unfold madeI at hI
    simp only [List.cons_append, List.append_assoc, List.nil_append] at hI
    injection hI with _ hI
    injection hI with _ hI
    exact hI.symm
  have ebody := stand_append (X := val b) ((steps (lits ++ dists).length (-1) (lits ++ dists)).flatMap (stepI own)) (bodyI (T t) lits dists)
  rw [hrest] at hst he
  have eN : wN rest = 14 + 3 * turned.length + wN ((steps (lits ++ dists).length (-1) (lits ++ dists)).flatMap (stepI own)) + wN (bodyI (T t) lits dists) := by
    rw [hrest]
    simp only [wN, WP.wN_append, wN_nums]
    omega
  rw [← hrest] at he
  rw [eN] at he ⊢
  obtain ⟨a1, a2, a3, a4⟩ := hst
  simp only at a1 a2 a3
  have a5 := ((stand_append _ _ _).1 a4).2
  rw [wN_nums] at a5
  have a6 := ((ebody _).1 a5).2
  obtain ⟨nt, et, _, nt19, nz⟩ := ok.turn
  unfold dynS
  rw [show (5 : Int) = ((5 : Nat) : Int) from rfl, take_is hb hl h hp (by omega) (by omega) a1, Option.bind_some]
  simp only
  rw [take_is hb hl (s := { s with pos := ((p + 5 : Nat) : Int) }) h rfl (by omega) (by omega) a2, Option.bind_some]
  simp only
  rw [show (4 : Int) = ((4 : Nat) : Int) from rfl, take_is hb hl (s := { s with pos := ((p + 5 + 5 : Nat) : Int) }) h rfl (by omega) (by omega) a3, Option.bind_some]
  simp only
  rw [wrap64_in (a := 257 + _) (by omega) (by omega), wrap64_in (a := 1 + _) (by omega) (by omega), wrap64_in (by omega) (by omega), decide_eq_true (show (257 : Int) + ((lits.length - 257 : Nat) : Int) ≤ 286 by omega), decide_eq_true (show (1 : Int) + ((dists.length - 1 : Nat) : Int) ≤ 30 by omega), Bool.true_and, want_yes]
  rw [show (257 : Int) + ((lits.length - 257 : Nat) : Int) = (lits.length : Int) from by omega, show (1 : Int) + ((dists.length - 1 : Nat) : Int) = (dists.length : Int) from by omega, show ((4 : Nat) : Int) + ((turned.length - 4 : Nat) : Int) = (turned.length : Int) from by omega]
  unfold dynA
  rw [if_neg (by rw [h]; simp)]
  unfold ownS
  rw [if_pos ⟨by omega, by omega⟩, Int.toNat_natCast, ownL_is hb hl turned 0 (List.replicate 19 0) { s with pos := ((p + 5 + 5 + 4 : Nat) : Int) } (p + 5 + 5 + 4) _ h7 h rfl a4 (by omega), Option.bind_some]
  simp only
  rw [fill_is ok.olen et nt19 nz, ok.co, Option.bind_some, show ((0 : Int) == 0) = true from rfl, want_yes, Option.bind_some]
  unfold dynB
  rw [if_neg (by rw [h]; simp), if_pos ((check_iff _).1 ok.co).1, wrap64_in (by omega) (by omega), show (lits.length : Int) + (dists.length : Int) = (((lits ++ dists).length : Nat) : Int) from by rw [List.length_append]; omega]
  rw [rowL_is hb hl (makes_of ok.co) (by rw [List.length_append]; omega) (lits ++ dists).length 400 (-1) (lits ++ dists) [] { s with pos := ((p + 5 + 5 + 4 + 3 * turned.length : Nat) : Int) } (p + 5 + 5 + 4 + 3 * turned.length) _ (Nat.le_refl _) (by rw [List.length_append]; omega) (by simp) hx (.inl rfl) ok.row h rfl a5 (by omega), Option.bind_some]
  simp only [List.nil_append]
  unfold dynC
  rw [if_neg (by rw [h]; simp), if_pos ⟨by omega, by rw [List.length_append]; omega, by rw [List.length_append]; omega⟩, Int.toNat_natCast, List.take_left, List.drop_left, ok.cl, Option.bind_some, ok.cd, Option.bind_some, decide_eq_true (show 0 < rd lits 256 by have := ok.stop.2; rw [show (256 : Int) = ((256 : Nat) : Int) from rfl, rd_nat]; exact this)]
  simp only [beq_self_eq_true, Bool.and_self, want_yes]
  rw [if_neg (by rw [h]; simp)]
  rw [coded_is hb hl (makes_of ok.cl) (makes_of ok.cd) ok.stop hmost (T t) 50000 { s with pos := ((p + 5 + 5 + 4 + 3 * turned.length + wN ((steps (lits ++ dists).length (-1) (lits ++ dists)).flatMap (stepI own)) : Nat) : Int) } (p + 5 + 5 + 4 + 3 * turned.length + wN ((steps (lits ++ dists).length (-1) (lits ++ dists)).flatMap (stepI own))) (by omega) h rfl (fun u hu => ⟨o5 u hu, ok.toks u hu⟩) (okL_up _ 0 _ (by omega) o1) (by show (s.out.length : Int) + (sizeL (T t) : Int) ≤ most; omega) a6 (by omega)]
  have hsh := exT_shift s.out (T t) [] o1
  rw [List.append_nil, o2] at hsh
  rw [hsh]
  congr 3
  omega
/-- A block of the fixed lengths is read where it stands, behind its kind. -/
theorem fixed_is {t : List Int} (ht : Bytes t) (h4 : t.length ≤ 4096) {most : Int} (hmost : most ≤ 100000) {s : RSt} (h : s.er = 0) {p : Nat} (hp : s.pos = (p : Int)) (hr : (s.out.length : Int) + t.length ≤ most)
    (hst : Stand (val b) p (bodyI (T t) fixL fixD)) (he : p + wN (bodyI (T t) fixL fixD) ≤ 8 * b.length) :
    fixedS b most 50000 s = some { s with pos := ((p + wN (bodyI (T t) fixL fixD) : Nat) : Int), out := s.out ++ t } := by
  obtain ⟨o1, o2, o3, o4, o5⟩ := T_ok t ht h4
  unfold fixedS
  rw [fix_is, Option.bind_some, if_pos ⟨((check_iff _).1 fixL_check).1, ((check_iff _).1 fixD_check).1⟩]
  simp only
  rw [coded_is hb hl (makes_of fixL_check) (makes_of fixD_check) (fixL_has (by decide)) hmost (T t) 50000 s p (by omega) h hp (fun u hu => ⟨o5 u hu, fix_toks (o5 u hu)⟩) (okL_up _ 0 _ (by omega) o1) (by omega) hst he]
  have hsh := exT_shift s.out (T t) [] o1
  rw [List.append_nil, o2] at hsh
  rw [hsh]
end
end Go.Proofs.Ytcjijhjdkgjgeaa.Glue
