/- What is written is read: the reader's steps where a block stands; used by the claims of this seat. -/
import Derived.Test.YtcjijhjdkgjgeaaInjW
import Derived.Test.YtcjijhjdkgjgeaaPx0
import Derived.Test.YtcjijhjdkgjgeaaPx1
import Derived.Test.YtcjijhjdkgjgeaaPx2
import Derived.Test.YtcjijhjdkgjgeaaPx16
namespace Go.Proofs.Ytcjijhjdkgjgeaa.Glue
open Go.RowKit Go.Proofs.Ytcjijhjdkgjgeaa.P Go.Proofs.YtcjijhjdkgjgeaaW.PrintWords Go.Proofs.YtcjijhjdkgjgeaaW.PrintLast Go.Proofs.YtcjijhjdkgjgeaaW.PrintMore
open WP (Row Bytes at_ val wN wX Wrote)
open Go.Proofs.Ytcjijhjdkgjgeaa.Tok (LenSym DistSym OkT OkL sizeL sizeT sizeL_ge exT copyN copyN_len ll lk dl dk)
open RowSteps
set_option linter.unusedVariables false
set_option linter.unusedSimpArgs false
/-! What is written is read: the reader's steps where a block stands. -/
section
variable {b : List Int} (hb : Bytes b) (hl : b.length < 2 ^ 40)
include hb hl
theorem take_is {s : RSt} (h : s.er = 0) {p n v : Nat} (hp : s.pos = (p : Int)) (hn : n ≤ 24) (he : p + n ≤ 8 * b.length) (hv : at_ (val b) p n = v) : takeS b s (n : Int) = some ((v : Int), { s with pos := ((p + n : Nat) : Int) }) := by
  unfold takeS
  rw [if_neg (by rw [h]; simp), hp, get_is hb hl p n 40 hn he (by omega), Option.bind_some, hv]
  rfl
theorem sym_is {l : List Int} (hm : Makes l) {j : Nat} (hh : Has l j) {s : RSt} (h : s.er = 0) {p : Nat} (hp : s.pos = (p : Int)) (he : p + (codeI l j).2 ≤ 8 * b.length) (hat : at_ (val b) p (codeI l j).2 = (codeI l j).1) :
    symS (fun n => (openF l n : Int)) (symsTo l l.length) b s = some ((j : Int), { s with pos := ((p + (codeI l j).2 : Nat) : Int) }) := by
  obtain ⟨n, en, n15⟩ := hm.at hh.1
  have n0 : 0 < n := by have := hh.2; omega
  have e2 : (codeI l j).2 = n := by unfold codeI; rw [en]; rfl
  have e1 : (codeI l j).1 = WP.rev n (codeN l j n) := by unfold codeI; rw [en]; rfl
  rw [e2] at he hat ⊢
  rw [e1] at hat
  have := next_sym hm hb hl hh.1 en n0 he hat
  unfold nextOf at this
  unfold symS
  rw [if_neg (by rw [h]; simp), hp, this, Option.bind_some, if_pos rfl]
omit hb hl in
theorem want_yes (s : RSt) (e : Int) : wantS s true e = s := by unfold wantS; rw [if_neg (by simp)]
omit hb hl in
theorem tell_is {most : Int} {s : RSt} (h : s.er = 0) (hr : (s.out.length : Int) < most) (c : Int) : tellS most s c = { s with out := s.out ++ [c] } := by
  unfold tellS
  rw [decide_eq_true hr, want_yes, if_pos h]
omit hb hl in
theorem copy_is {most : Int} {d : Nat} (hd : 1 ≤ d) : ∀ (n : Nat) (s : RSt), s.er = 0 → d ≤ s.out.length → (s.out.length : Int) + n ≤ most → s.out.length + n ≤ 1000000 → copyL most (d : Int) n s = some { s with out := copyN n d s.out }
  | 0, s, _, _, _, _ => by simp [copyL, copyN]
  | n + 1, s, h, h1, h2, h3 => by
    unfold copyL
    rw [if_pos ⟨by omega, by omega, by omega⟩, tell_is h (by omega), show (s.out.length : Int) - (d : Int) = ((s.out.length - d : Nat) : Int) from by omega, rd_nat, copy_is hd n { s with out := s.out ++ [s.out.getD (s.out.length - d) 0] } h (by show d ≤ (s.out ++ [_]).length; rw [List.length_append]; omega) (by show ((s.out ++ [_]).length : Int) + n ≤ most; rw [List.length_append, List.length_singleton]; omega) (by show (s.out ++ [_]).length + n ≤ 1000000; rw [List.length_append, List.length_singleton]; omega)]
    rfl
end
theorem of_len : ∀ q : Fin 28, sym_LenOf.f 400 (257 + (q.val : Int)) = some (3 + (ll q.val : Int), (lk q.val : Int), 0) := by decide +kernel
theorem of_len285 : sym_LenOf.f 400 285 = some (258, 0, 0) := by decide +kernel
theorem of_dist : ∀ s : Fin 30, sym_DistOf.f 400 (s.val : Int) = some (1 + (dl s.val : Int), (dk s.val : Int), 0) := by decide +kernel
theorem lenOf_back {n s m v : Nat} (h : LenSym n s m v) : ∃ x : Nat, sym_LenOf.f 400 (s : Int) = some ((x : Int), (m : Int), 0) ∧ x + v = n := by
  rcases h with ⟨rfl, rfl, rfl, rfl⟩ | ⟨q, hq, rfl, rfl, hn, _, _⟩
  · exact ⟨258, of_len285, rfl⟩
  · refine ⟨3 + ll q, ?_, by omega⟩
    have := of_len ⟨q, hq⟩
    simp only at this
    rw [show ((257 + q : Nat) : Int) = 257 + (q : Int) from by omega, this]
    congr 2
theorem distOf_back {n s m v : Nat} (h : DistSym n s m v) : ∃ x : Nat, sym_DistOf.f 400 (s : Int) = some ((x : Int), (m : Int), 0) ∧ x + v = n := by
  obtain ⟨hs, rfl, hn, _⟩ := h
  refine ⟨1 + dl s, ?_, by omega⟩
  have := of_dist ⟨s, hs⟩
  simp only at this
  rw [this]
  congr 2
section
variable {b : List Int} (hb : Bytes b) (hl : b.length < 2 ^ 40)
include hb hl
/-- A piece is read where it stands, behind its length's symbol. -/
theorem piece_is {lits dists : List Int} (hd : Makes dists) {t : S70} (hf : Fine t) (h0 : t.f1 ≠ 0) (hD : Has dists (distOf t.f2).1) {most : Int} {s : RSt} (h : s.er = 0) {p : Nat} (hp : s.pos = (p : Int)) {r : List (Nat × Nat)}
    (hst : Stand (val b) p (((lenOf t.f1).2.2, (lenOf t.f1).2.1) :: codeI dists (distOf t.f2).1 :: ((distOf t.f2).2.2, (distOf t.f2).2.1) :: r)) (he : p + (lenOf t.f1).2.1 + (codeI dists (distOf t.f2).1).2 + (distOf t.f2).2.1 ≤ 8 * b.length)
    (hback : t.f2.toNat ≤ s.out.length) (hroom : (s.out.length : Int) + t.f1 ≤ most) (hbig : s.out.length ≤ 100000) (hmost : most ≤ 100000) :
    pieceS (fun n => (openF dists n : Int)) (symsTo dists dists.length) b most s ((lenOf t.f1).1 : Int) = some { s with pos := ((p + (lenOf t.f1).2.1 + (codeI dists (distOf t.f2).1).2 + (distOf t.f2).2.1 : Nat) : Int), out := copyN t.f1.toNat t.f2.toNat s.out } := by
  have hp3 := piece_in hf h0
  have l1 := (lenOf_is hp3.1 hp3.2.1).1
  have d1 := (distOf_is hp3.2.2.1 (show t.f2 ≤ 32768 by omega)).1
  obtain ⟨x, ex, exn⟩ := lenOf_back l1
  obtain ⟨y, ey, eyn⟩ := distOf_back d1
  have l2 := l1.le
  have d2 := d1.le
  obtain ⟨a1, a2, a3, _⟩ := hst
  simp only at a1 a3
  unfold pieceS
  rw [ex, Option.bind_some]
  simp only [beq_self_eq_true, want_yes]
  rw [if_neg (by rw [h]; simp), take_is hb hl h hp (by omega) (by omega) a1, Option.bind_some]
  simp only
  unfold pieceD
  rw [sym_is hb hl hd hD (s := { s with pos := ((p + (lenOf t.f1).2.1 : Nat) : Int) }) h rfl (by omega) a2, Option.bind_some, ey, Option.bind_some]
  simp only [beq_self_eq_true, want_yes]
  rw [if_neg (by rw [h]; simp), take_is hb hl (s := { s with pos := ((p + (lenOf t.f1).2.1 + (codeI dists (distOf t.f2).1).2 : Nat) : Int) }) h rfl (by omega) (by omega) a3, Option.bind_some]
  simp only
  rw [wrap64_in (a := (x : Int) + _) (by omega) (by omega), wrap64_in (a := (y : Int) + _) (by omega) (by omega)]
  have e1 : (x : Int) + ((lenOf t.f1).2.2 : Int) = (t.f1.toNat : Int) := by omega
  have e2 : (y : Int) + ((distOf t.f2).2.2 : Int) = (t.f2.toNat : Int) := by omega
  rw [e1, e2, decide_eq_true (by omega), want_yes]
  unfold pieceG
  dsimp only
  rw [if_neg (by rw [h]; simp), wrap64_in (a := most - _) (by omega) (by omega), decide_eq_true (by omega), want_yes]
  unfold pieceH
  dsimp only
  rw [if_neg (by rw [h]; simp), if_pos ⟨by omega, by omega⟩, Int.toNat_natCast, copy_is (by omega) t.f1.toNat { s with pos := ((p + (lenOf t.f1).2.1 + (codeI dists (distOf t.f2).1).2 + (distOf t.f2).2.1 : Nat) : Int) } h hback (by show (s.out.length : Int) + _ ≤ most; omega) (by show s.out.length + _ ≤ 1000000; omega)]
/-- A block of codes is read where it stands. -/
theorem coded_is {lits dists : List Int} (hm : Makes lits) (hd : Makes dists) (hE : Has lits 256) {most : Int} (hmost : most ≤ 100000) : ∀ (ts : List S70) (k : Nat) (s : RSt) (p : Nat), ts.length < k → s.er = 0 → s.pos = (p : Int) → (∀ t ∈ ts, Fine t ∧ TokHas lits dists t) → OkL ts s.out.length → (s.out.length : Int) + sizeL ts ≤ most →
    Stand (val b) p (bodyI ts lits dists) → p + wN (bodyI ts lits dists) ≤ 8 * b.length →
    codedL (fun n => (openF lits n : Int)) (symsTo lits lits.length) (fun n => (openF dists n : Int)) (symsTo dists dists.length) b most k s = some { s with pos := ((p + wN (bodyI ts lits dists) : Nat) : Int), out := exT ts s.out }
  | [], k, s, p, hk, h, hp, _, _, _, hst, he => by
    obtain ⟨k, rfl⟩ : ∃ m, k = m + 1 := ⟨k - 1, by simp at hk; omega⟩
    unfold bodyI at hst he
    simp only [List.flatMap_nil, List.nil_append, wN, Nat.add_zero] at hst he
    unfold codedL
    rw [if_neg (by rw [h]; simp), sym_is hb hl hm hE h hp he hst.1, Option.bind_some]
    simp only
    rw [if_pos (show s.er ≠ 0 ∨ ((256 : Nat) : Int) = 256 from .inr rfl)]
    unfold bodyI
    simp only [List.flatMap_nil, List.nil_append, wN, Nat.add_zero, exT]
  | t :: ts, k, s, p, hk, h, hp, hf, ho, hr, hst, he => by
    obtain ⟨k, rfl⟩ : ∃ m, k = m + 1 := ⟨k - 1, by simp at hk; omega⟩
    simp only [List.length_cons] at hk
    obtain ⟨f1, f2⟩ := hf t List.mem_cons_self
    obtain ⟨o1, o2⟩ := ho
    simp only [sizeL] at hr
    have eI : bodyI (t :: ts) lits dists = tokI lits dists t ++ bodyI ts lits dists := by unfold bodyI; rw [List.flatMap_cons, List.append_assoc]
    rw [eI] at hst he ⊢
    obtain ⟨g1, g2⟩ := tok_first f2 hst
    have hst2 := ((stand_append _ _ _).1 hst).2
    rw [WP.wN_append] at he ⊢
    unfold codedL
    have hc := codeI_le hm g1
    by_cases h0 : t.f1 = 0
    · have es : sym1 t = t.f0.toNat := by unfold sym1; rw [if_pos h0]
      have et : tokI lits dists t = [codeI lits t.f0.toNat] := by unfold tokI; rw [if_pos h0]
      have ez : sizeT t = 1 := by unfold sizeT; rw [if_pos h0]
      rw [es] at g1 g2
      rw [et] at hst2 he ⊢
      simp only [wN, Nat.add_zero] at hst2 he ⊢
      have b0 := f1.1
      have b1 := f1.2.1
      rw [if_neg (by rw [h]; simp), sym_is hb hl hm g1 h hp (by omega) g2, Option.bind_some]
      simp only
      rw [if_neg (by rw [h]; simp; omega), if_pos (by omega), if_pos (by omega), tell_is (s := { s with pos := ((p + (codeI lits t.f0.toNat).2 : Nat) : Int) }) h (by show (s.out.length : Int) < most; omega)]
      rw [coded_is hm hd hE hmost ts k { s with pos := ((p + (codeI lits t.f0.toNat).2 : Nat) : Int), out := s.out ++ [((t.f0.toNat : Nat) : Int) % 256] } (p + (codeI lits t.f0.toNat).2) (by omega) h rfl (fun u hu => hf u (List.mem_cons_of_mem _ hu)) (by show OkL ts (s.out ++ [_]).length; rw [List.length_append, List.length_singleton, ← ez]; exact o2) (by show ((s.out ++ [_]).length : Int) + _ ≤ most; rw [List.length_append, List.length_singleton]; omega) hst2 (by omega)]
      simp only [exT, if_pos h0]
      rw [show ((t.f0.toNat : Nat) : Int) % 256 = t.f0 from by omega, Nat.add_assoc]
    · have es : sym1 t = (lenOf t.f1).1 := by unfold sym1; rw [if_neg h0]
      have et : tokI lits dists t = [codeI lits (lenOf t.f1).1, ((lenOf t.f1).2.2, (lenOf t.f1).2.1), codeI dists (distOf t.f2).1, ((distOf t.f2).2.2, (distOf t.f2).2.1)] := by unfold tokI; rw [if_neg h0]
      have ez : sizeT t = t.f1.toNat := by unfold sizeT; rw [if_neg h0]
      have hp3 := piece_in f1 h0
      have l2 := ((lenOf_is hp3.1 hp3.2.1).1).le
      have hD : Has dists (distOf t.f2).1 := by unfold TokHas at f2; rw [if_neg h0] at f2; exact f2.2
      have hbk : t.f2.toNat ≤ s.out.length := by
        rcases o1 with o1 | o1
        · exact absurd o1.1 h0
        · omega
      rw [es] at g1 g2
      rw [et] at hst hst2 he ⊢
      simp only [wN, Nat.add_zero] at hst2 he ⊢
      rw [if_neg (by rw [h]; simp), sym_is hb hl hm g1 h hp (by omega) g2, Option.bind_some]
      simp only
      rw [if_neg (by rw [h]; simp; omega), if_neg (by omega)]
      rw [piece_is hb hl (lits := lits) hd f1 h0 hD (most := most) (s := { s with pos := ((p + (codeI lits (lenOf t.f1).1).2 : Nat) : Int) }) h rfl hst.2 (by omega) hbk (by show (s.out.length : Int) + t.f1 ≤ most; omega) (by show s.out.length ≤ 100000; omega) hmost, Option.bind_some]
      simp only
      have hcl := copyN_len t.f1.toNat t.f2.toNat s.out
      rw [coded_is hm hd hE hmost ts k { s with pos := ((p + (codeI lits (lenOf t.f1).1).2 + (lenOf t.f1).2.1 + (codeI dists (distOf t.f2).1).2 + (distOf t.f2).2.1 : Nat) : Int), out := copyN t.f1.toNat t.f2.toNat s.out } (p + (codeI lits (lenOf t.f1).1).2 + (lenOf t.f1).2.1 + (codeI dists (distOf t.f2).1).2 + (distOf t.f2).2.1) (by omega) h rfl (fun u hu => hf u (List.mem_cons_of_mem _ hu)) (by show OkL ts (copyN _ _ s.out).length; rw [hcl, ← ez]; exact o2) (by show ((copyN _ _ s.out).length : Int) + _ ≤ most; rw [hcl]; omega) (by rw [show p + (codeI lits (lenOf t.f1).1).2 + (lenOf t.f1).2.1 + (codeI dists (distOf t.f2).1).2 + (distOf t.f2).2.1 = p + ((codeI lits (lenOf t.f1).1).2 + ((lenOf t.f1).2.1 + ((codeI dists (distOf t.f2).1).2 + (distOf t.f2).2.1))) from by omega]; exact hst2) (by omega)]
      simp only [exT, if_neg h0]
      congr 3
      omega
/-! ### a text as it is -/
theorem pad_is {s : RSt} (h : s.er = 0) {p : Nat} (hp : s.pos = (p : Int)) (hs : p ≤ 1000000) (he : p + (8 - p % 8) % 8 ≤ 8 * b.length) (hz : at_ (val b) p ((8 - p % 8) % 8) = 0) : padS b s = some { s with pos := ((p + (8 - p % 8) % 8 : Nat) : Int) } := by
  unfold padS
  rw [if_pos ⟨by omega, by omega⟩, hp, Int.toNat_natCast, take_is hb hl h hp (by omega) he hz, Option.bind_some]
  simp only [Int.natCast_zero]
  rw [show ((0 : Int) == 0) = true from rfl, want_yes]
theorem storedL_is {most : Int} : ∀ (t : List Int) (s : RSt) (p : Nat) (r : List (Nat × Nat)), (∀ x ∈ t, 0 ≤ x ∧ x < 256) → s.er = 0 → s.pos = (p : Int) → (s.out.length : Int) + t.length ≤ most → most ≤ 100000 → Stand (val b) p (t.map (fun c => (c.toNat, 8)) ++ r) → p + 8 * t.length ≤ 8 * b.length →
    storedL b most t.length s = some { s with pos := ((p + 8 * t.length : Nat) : Int), out := s.out ++ t }
  | [], s, p, r, _, h, hp, _, _, _, _ => by
    simp only [List.length_nil, storedL, List.append_nil, Nat.mul_zero, Nat.add_zero]
    rw [← hp]
  | c :: t, s, p, r, hx, h, hp, hr, hmost, hst, he => by
    rw [List.length_cons] at hr he ⊢
    have h0 := hx c List.mem_cons_self
    simp only [List.map_cons, List.cons_append, Stand] at hst
    unfold storedL
    rw [if_neg (by rw [h]; simp), show (8 : Int) = ((8 : Nat) : Int) from rfl, take_is hb hl h hp (by omega) (by omega) hst.1, Option.bind_some]
    simp only
    rw [if_pos (by show s.out.length ≤ 1000000000; omega), tell_is (s := { s with pos := ((p + 8 : Nat) : Int) }) h (by show (s.out.length : Int) < most; omega)]
    rw [storedL_is t { s with pos := ((p + 8 : Nat) : Int), out := s.out ++ [((c.toNat : Nat) : Int) % 256] } (p + 8) r (fun x hx' => hx x (List.mem_cons_of_mem _ hx')) h rfl (by show ((s.out ++ [_]).length : Int) + t.length ≤ most; rw [List.length_append, List.length_singleton]; omega) hmost hst.2 (by omega)]
    rw [show ((c.toNat : Nat) : Int) % 256 = c from by omega]
    simp only [List.append_assoc, List.singleton_append]
    congr 3
    omega
/-- A stored block is read where it stands, behind its kind. -/
theorem stored_is {most : Int} {t : List Int} (ht : Bytes t) (h4 : t.length ≤ 4096) {s : RSt} (h : s.er = 0) {p : Nat} (hp : s.pos = (p : Int)) (h8 : p % 8 = 3) (hs : p ≤ 1000000) (hr : (s.out.length : Int) + t.length ≤ most) (hmost : most ≤ 100000) {r : List (Nat × Nat)}
    (hst : Stand (val b) p ((0, 5) :: (t.length, 16) :: (65535 - t.length, 16) :: (t.map (fun c => (c.toNat, 8)) ++ r))) (he : p + 37 + 8 * t.length ≤ 8 * b.length) :
    storedS b most s = some { s with pos := ((p + 37 + 8 * t.length : Nat) : Int), out := s.out ++ t } := by
  obtain ⟨a1, a2, a3, a4⟩ := hst
  simp only at a1 a2 a3 a4
  have e5 : (8 - p % 8) % 8 = 5 := by omega
  unfold storedS
  rw [pad_is hb hl h hp hs (by omega) (by rw [e5]; exact a1), Option.bind_some, e5, show (16 : Int) = ((16 : Nat) : Int) from rfl]
  rw [take_is hb hl (s := { s with pos := ((p + 5 : Nat) : Int) }) h rfl (by omega) (by omega) a2, Option.bind_some]
  simp only
  rw [take_is hb hl (s := { s with pos := ((p + 5 + 16 : Nat) : Int) }) h rfl (by omega) (by omega) a3, Option.bind_some]
  simp only
  rw [xor16 t.length h4, beq_self_eq_true, want_yes, if_neg (by rw [h]; simp), if_pos ⟨by omega, by omega⟩, Int.toNat_natCast]
  rw [storedL_is hb hl t { s with pos := ((p + 5 + 16 + 16 : Nat) : Int) } (p + 5 + 16 + 16) r (fun x hx => ht x hx) h rfl hr hmost a4 (by omega)]
end
end Go.Proofs.Ytcjijhjdkgjgeaa.Glue
