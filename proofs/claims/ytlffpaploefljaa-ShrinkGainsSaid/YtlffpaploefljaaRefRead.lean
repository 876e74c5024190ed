/- What is written is read by the reference: its reader's steps where a block stands; used by the claims of this seat. -/
import Derived.Test.YtlffpaploefljaaInjW
import Derived.Test.YtlffpaploefljaaRefCanon
import Derived.Test.YtlffpaploefljaaPx0
import Derived.Test.YtlffpaploefljaaPx10
import Derived.Test.YtlffpaploefljaaPx51
import Derived.Test.YtlffpaploefljaaPx62
namespace Go.Proofs.Ytlffpaploefljaa.Glue
open Go.RowKit Go.Proofs.Ytlffpaploefljaa.P Go.Proofs.YtlffpaploefljaaW.PrintWords Go.Proofs.YtlffpaploefljaaW.PrintLast Go.Proofs.YtlffpaploefljaaW.PrintMore
open WP (Row Bytes at_ val wN wX Wrote)
open Go.Proofs.Ytlffpaploefljaa.Tok (LenSym DistSym OkT OkL sizeL sizeT sizeL_ge exT exT_shift copyN copyN_len ll lk dl dk)
set_option linter.unusedVariables false
set_option linter.unusedSimpArgs false
/-! What is written is read by the reference: its reader's steps where a block stands. -/
theorem refGet_loop {b : List Int} (hb : Bytes b) (hl : b.length < 2 ^ 40) (a n : Nat) (hn : n ≤ 24) (ha : a + n ≤ 8 * b.length) : ∀ (d i k : Nat), i + d = n → d < k →
    wherryref01_Get.l0 k b (a : Int) (n : Int) ((at_ (val b) a i : Nat) : Int) (i : Int) = some (((at_ (val b) a n : Nat) : Int), ((a + n : Nat) : Int), 0) := by
  intro d
  induction d with
  | zero =>
    intro i k hi hk
    obtain ⟨k, rfl⟩ : ∃ m, k = m + 1 := ⟨k - 1, by omega⟩
    obtain rfl : i = n := by omega
    simp only [wherryref01_Get.l0]
    rw [if_neg (by omega), wrap64_in (by omega) (by omega)]
    rfl
  | succ d ih =>
    intro i k hi hk
    obtain ⟨k, rfl⟩ : ∃ m, k = m + 1 := ⟨k - 1, by omega⟩
    simp only [wherryref01_Get.l0]
    have hb2 : val b / 2 ^ (a + i) % 2 < 2 := Nat.mod_lt _ (by decide)
    have hi24 : 2 ^ i ≤ 2 ^ 24 := Nat.pow_le_pow_right (by decide) (by omega)
    have hat := WP.at_lt (val b) a i
    rw [if_pos (by omega), wrap64_in (a := (a : Int) + (i : Int)) (by omega) (by omega), show (a : Int) + (i : Int) = ((a + i : Nat) : Int) from by omega, refbit_is hb hl _ (by omega), Option.bind_some, u64_in (by omega) (by omega), if_pos (by omega)]
    have := ih (i + 1) k (by omega) (by omega)
    rw [WP.at_succ] at this
    generalize val b / 2 ^ (a + i) % 2 = q at hb2 this ⊢
    have hmul : q * 2 ^ i ≤ 2 ^ i := by
      have := Nat.mul_le_mul_right (2 ^ i) (show q ≤ 1 by omega)
      simpa using this
    rw [shl_nat (by omega) (by omega), or_nat (by omega) (by omega), or_add hat, wrap64_in (by omega) (by omega), show (i : Int) + 1 = ((i + 1 : Nat) : Int) from by omega]
    exact this
theorem refGet_is {b : List Int} (hb : Bytes b) (hl : b.length < 2 ^ 40) (a n k : Nat) (hn : n ≤ 24) (ha : a + n ≤ 8 * b.length) (hk : 30 ≤ k) :
    wherryref01_Get.f k b (a : Int) (n : Int) = some (((at_ (val b) a n : Nat) : Int), ((a + n : Nat) : Int), 0) := by
  obtain ⟨k, rfl⟩ : ∃ m, k = m + 1 := ⟨k - 1, by omega⟩
  unfold wherryref01_Get.f
  rw [refin_is, Option.bind_some, decide_eq_true (by omega), if_pos rfl, refin_is, wrap64_in (a := 8 * (b.length : Int)) (by omega) (by omega), Option.bind_some, decide_eq_true (by omega)]
  simp only [wherryref01_Get.j0]
  rw [if_neg (by decide), wrap64_in (a := 8 * (b.length : Int)) (by omega) (by omega), wrap64_in (by omega) (by omega), if_neg (by omega)]
  have := refGet_loop hb hl a n hn ha n 0 k (by omega) (by omega)
  have h0 : at_ (val b) a 0 = 0 := Nat.mod_one _
  rw [h0] at this
  exact this
section
variable {b : List Int} (hb : Bytes b) (hl : b.length ≤ 100000)
include hb hl
theorem getR_is {p n v : Nat} (hn : n ≤ 24) (he : p + n ≤ 8 * b.length) (hv : at_ (val b) p n = v) : getR b (p : Int) (n : Int) = some ((v : Int), ((p + n : Nat) : Int)) := by
  unfold getR
  rw [if_pos ⟨by omega, by omega, by omega, by omega, by omega⟩, refGet_is hb (by omega) p n 60 hn he (by omega), Option.bind_some, hv]
theorem refsym_is {l : List Int} (hm : Makes l) {a j n : Nat} (hj : j < l.length) (hn : l.getD j 0 = (n : Int)) (h0 : 0 < n) (ha : a + n ≤ 8 * b.length) (hat : at_ (val b) a n = WP.rev n (codeN l j n)) (k : Nat) (hk : 6000 ≤ k) :
    wherryref01_read.f k l (codesL l) b (a : Int) = some ((j : Int), ((a + n : Nat) : Int)) := by
  obtain ⟨n', hn', h15⟩ := hm.at hj
  obtain rfl : n' = n := by omega
  have hv := codeN_small hm hj hn h0 h15
  have hr := rdv_code hv hat
  obtain ⟨m, rfl⟩ : ∃ m, n' = m + 1 := ⟨n' - 1, by omega⟩
  have hr2 := hr
  unfold codeN at hr2
  rw [Nat.add_sub_cancel] at hr2
  have hu := ups hr2
  have hle := hm.len
  unfold wherryref01_read.f
  obtain ⟨k', hk', e⟩ := refread_skips hm hb hl m (by omega) (by omega) (fun q hq => hu (m - q) q (by omega)) k (by omega)
  rw [e, refread_step hb hl (by omega) (by omega) (by omega)]
  exact refscan_found hm (m + 1) (by omega) h15 (rdv (val b) a (m + 1)) hj hn hr.symm (by omega) j 0 (k' - 2) (by omega) (by omega)
theorem symR_is {l : List Int} (hm : Makes l) {j : Nat} (hh : Has l j) {p : Nat} (he : p + (codeI l j).2 ≤ 8 * b.length) (hat : at_ (val b) p (codeI l j).2 = (codeI l j).1) :
    symR l (codesL l) b (p : Int) = some ((j : Int), ((p + (codeI l j).2 : Nat) : Int)) := by
  obtain ⟨n, en, n15⟩ := hm.at hh.1
  have n0 : 0 < n := by have := hh.2; omega
  have e2 : (codeI l j).2 = n := by unfold codeI; rw [en]; rfl
  have e1 : (codeI l j).1 = WP.rev n (codeN l j n) := by unfold codeI; rw [en]; rfl
  rw [e2] at he hat ⊢
  rw [e1] at hat
  unfold symR
  rw [refsym_is hb hl hm hh.1 en n0 he hat 6000 (by omega), Option.bind_some, if_pos (show (0 : Int) ≤ ((j : Int), ((p + n : Nat) : Int)).1 from Int.natCast_nonneg j)]
end
theorem copyR_is {d : Nat} (hd : 1 ≤ d) : ∀ (n : Nat) (o : List Int), d ≤ o.length → copyR d n o = copyN n d o
  | 0, o, _ => rfl
  | n + 1, o, h => by
    unfold copyR copyN
    rw [show (o.length : Int) - (d : Int) = ((o.length - d : Nat) : Int) from by omega, rd_nat, copyR_is hd n _ (by rw [List.length_append]; omega)]
theorem ref_len : ∀ q : Fin 28, wherryref01_LenOf.f (257 + (q.val : Int)) = some (3 + (ll q.val : Int), (lk q.val : Int), 0) := by decide +kernel
theorem ref_len285 : wherryref01_LenOf.f 285 = some (258, 0, 0) := by decide +kernel
theorem ref_dist : ∀ s : Fin 30, wherryref01_DistOf.f (s.val : Int) = some (1 + (dl s.val : Int), (dk s.val : Int), 0) := by decide +kernel
theorem refLen_back {n s m v : Nat} (h : LenSym n s m v) : ∃ x : Nat, wherryref01_LenOf.f (s : Int) = some ((x : Int), (m : Int), 0) ∧ x + v = n := by
  rcases h with ⟨rfl, rfl, rfl, rfl⟩ | ⟨q, hq, rfl, rfl, hn, _, _⟩
  · exact ⟨258, ref_len285, rfl⟩
  · refine ⟨3 + ll q, ?_, by omega⟩
    have := ref_len ⟨q, hq⟩
    simp only at this
    rw [show ((257 + q : Nat) : Int) = 257 + (q : Int) from by omega, this]
    congr 2
theorem refDist_back {n s m v : Nat} (h : DistSym n s m v) : ∃ x : Nat, wherryref01_DistOf.f (s : Int) = some ((x : Int), (m : Int), 0) ∧ x + v = n ∧ s ≤ 29 := by
  obtain ⟨hs, rfl, hn, _⟩ := h
  refine ⟨1 + dl s, ?_, by omega, by omega⟩
  have := ref_dist ⟨s, hs⟩
  simp only at this
  rw [this]
  congr 2
section
variable {b : List Int} (hb : Bytes b) (hl : b.length ≤ 100000)
include hb hl
/-- A block of codes is read where it stands. -/
theorem textR_is {lits dists : List Int} (hm : Makes lits) (hd : Makes dists) (hE : Has lits 256) {most : Int} (hmost : most ≤ 100000) : ∀ (ts : List S53) (k p : Nat) (out : List Int), ts.length < k → (∀ t ∈ ts, Fine t ∧ TokHas lits dists t) → OkL ts out.length → (out.length : Int) + sizeL ts ≤ most →
    Stand (val b) p (bodyI ts lits dists) → p + wN (bodyI ts lits dists) ≤ 8 * b.length →
    textR lits (codesL lits) dists (codesL dists) b most k (p : Int) out = some (((p + wN (bodyI ts lits dists) : Nat) : Int), exT ts out)
  | [], k, p, out, hk, _, _, _, hst, he => by
    obtain ⟨k, rfl⟩ : ∃ m, k = m + 1 := ⟨k - 1, by simp at hk; omega⟩
    unfold bodyI at hst he
    simp only [List.flatMap_nil, List.nil_append, wN, Nat.add_zero] at hst he
    unfold textR
    rw [symR_is hb hl hm hE he hst.1, Option.bind_some, if_pos (show (((256 : Nat) : Int), ((p + (codeI lits 256).2 : Nat) : Int)).1 = 256 from rfl)]
    unfold bodyI
    simp only [List.flatMap_nil, List.nil_append, wN, Nat.add_zero, exT]
  | t :: ts, k, p, out, hk, hf, ho, hr, hst, he => by
    obtain ⟨k, rfl⟩ : ∃ m, k = m + 1 := ⟨k - 1, by simp at hk; omega⟩
    simp only [List.length_cons] at hk
    obtain ⟨f1, f2⟩ := hf t List.mem_cons_self
    obtain ⟨o1, o2⟩ := ho
    simp only [sizeL] at hr
    have eI : bodyI (t :: ts) lits dists = tokI lits dists t ++ bodyI ts lits dists := by unfold bodyI; rw [List.flatMap_cons, List.append_assoc]
    rw [eI] at hst he ⊢
    obtain ⟨g1, g2⟩ := tok_first f2 hst
    have hst2 := ((stand_append _ _ _).1 hst).2
    rw [WP.wN_append] at he ⊢
    unfold textR
    have hc := codeI_le hm g1
    by_cases h0 : t.f1 = 0
    · have es : sym1 t = t.f0.toNat := by unfold sym1; rw [if_pos h0]
      have et : tokI lits dists t = [codeI lits t.f0.toNat] := by unfold tokI; rw [if_pos h0]
      have ez : sizeT t = 1 := by unfold sizeT; rw [if_pos h0]
      rw [es] at g1 g2
      rw [et] at hst2 he ⊢
      simp only [wN, Nat.add_zero] at hst2 he ⊢
      have b0 := f1.1
      have b1 := f1.2.1
      rw [symR_is hb hl hm g1 (by omega) g2, Option.bind_some]
      simp only
      rw [if_neg (by omega), if_pos (by omega), if_pos ⟨by omega, by omega, by omega⟩]
      rw [textR_is hm hd hE hmost ts k (p + (codeI lits t.f0.toNat).2) (out ++ [((t.f0.toNat : Nat) : Int)]) (by omega) (fun u hu => hf u (List.mem_cons_of_mem _ hu)) (by rw [List.length_append, List.length_singleton, ← ez]; exact o2) (by rw [List.length_append, List.length_singleton]; omega) hst2 (by omega)]
      simp only [exT, if_pos h0]
      rw [show ((t.f0.toNat : Nat) : Int) = t.f0 from by omega, Nat.add_assoc]
    · have es : sym1 t = (lenOf t.f1).1 := by unfold sym1; rw [if_neg h0]
      have et : tokI lits dists t = [codeI lits (lenOf t.f1).1, ((lenOf t.f1).2.2, (lenOf t.f1).2.1), codeI dists (distOf t.f2).1, ((distOf t.f2).2.2, (distOf t.f2).2.1)] := by unfold tokI; rw [if_neg h0]
      have ez : sizeT t = t.f1.toNat := by unfold sizeT; rw [if_neg h0]
      have hp3 := piece_in f1 h0
      have l1 := (lenOf_is hp3.1 hp3.2.1).1
      have d1 := (distOf_is hp3.2.2.1 (show t.f2 ≤ 32768 by omega)).1
      obtain ⟨x, ex, exn⟩ := refLen_back l1
      obtain ⟨y, ey, eyn, ey29⟩ := refDist_back d1
      have l2 := l1.le
      have d2 := d1.le
      have hD : Has dists (distOf t.f2).1 := by unfold TokHas at f2; rw [if_neg h0] at f2; exact f2.2
      have hbk : t.f2.toNat ≤ out.length := by
        rcases o1 with o1 | o1
        · exact absurd o1.1 h0
        · omega
      have e258 : (lenOf t.f1).1 ≤ 285 := by rcases l1 with ⟨h, _⟩ | ⟨q, hq, h, _⟩ <;> omega
      rw [es] at g1 g2
      rw [et] at hst hst2 he ⊢
      simp only [wN, Nat.add_zero] at hst2 he ⊢
      obtain ⟨_, a1, a2, a3, _⟩ := hst
      simp only at a1 a3
      have hcd := codeI_le hd hD
      rw [symR_is hb hl hm g1 (by omega) g2, Option.bind_some]
      simp only
      rw [if_neg (by omega), if_neg (by omega), if_pos (by omega), ex, Option.bind_some]
      simp only
      rw [getR_is hb hl (by omega) (by omega) a1, Option.bind_some]
      simp only
      rw [symR_is hb hl hd hD (by omega) a2, Option.bind_some]
      simp only
      rw [if_pos (by omega), ey, Option.bind_some]
      simp only
      rw [getR_is hb hl (by omega) (by omega) a3, Option.bind_some]
      simp only
      rw [wrap64_in (a := (x : Int) + _) (by omega) (by omega), wrap64_in (a := (y : Int) + _) (by omega) (by omega)]
      have e1 : (x : Int) + ((lenOf t.f1).2.2 : Int) = (t.f1.toNat : Int) := by omega
      have e2 : (y : Int) + ((distOf t.f2).2.2 : Int) = (t.f2.toNat : Int) := by omega
      rw [e1, e2, if_pos ⟨by omega, by omega, by omega, by omega, by omega, by omega⟩, Int.toNat_natCast, Int.toNat_natCast, copyR_is (by omega) _ _ hbk]
      have hcl := copyN_len t.f1.toNat t.f2.toNat out
      rw [textR_is hm hd hE hmost ts k (p + (codeI lits (lenOf t.f1).1).2 + (lenOf t.f1).2.1 + (codeI dists (distOf t.f2).1).2 + (distOf t.f2).2.1) (copyN t.f1.toNat t.f2.toNat out) (by omega) (fun u hu => hf u (List.mem_cons_of_mem _ hu)) (by rw [hcl, ← ez]; exact o2) (by rw [hcl]; omega) (by rw [show p + (codeI lits (lenOf t.f1).1).2 + (lenOf t.f1).2.1 + (codeI dists (distOf t.f2).1).2 + (distOf t.f2).2.1 = p + ((codeI lits (lenOf t.f1).1).2 + ((lenOf t.f1).2.1 + ((codeI dists (distOf t.f2).1).2 + (distOf t.f2).2.1))) from by omega]; exact hst2) (by omega)]
      simp only [exT, if_neg h0]
      congr 3
      omega
/-! ### a text as it is -/
theorem padR_is : ∀ (k p : Nat), (8 - p % 8) % 8 ≤ k → p + (8 - p % 8) % 8 ≤ 8 * b.length → at_ (val b) p ((8 - p % 8) % 8) = 0 → padR b k (p : Int) = some ((p + (8 - p % 8) % 8 : Nat) : Int)
  | 0, p, hk, _, _ => by
    unfold padR
    rw [if_pos (by omega), show (8 - p % 8) % 8 = 0 from by omega]
    rfl
  | k + 1, p, hk, he, hz => by
    unfold padR
    by_cases h : p % 8 = 0
    · rw [if_pos (by omega), show (8 - p % 8) % 8 = 0 from by omega]
      rfl
    · have e : (8 - p % 8) % 8 = 1 + (8 - (p + 1) % 8) % 8 := by omega
      rw [e, WP.at_add, Nat.pow_one] at hz
      rw [if_neg (by omega), if_pos (by omega), show (1 : Int) = ((1 : Nat) : Int) from rfl, getR_is hb hl (v := 0) (by omega) (by omega) (by omega), Option.bind_some]
      simp only
      rw [if_pos (by omega), padR_is k (p + 1) (by omega) (by omega) (by omega)]
      congr 2
      omega
theorem bytesR_is {most : Int} : ∀ (t : List Int) (p : Nat) (out : List Int) (r : List (Nat × Nat)), (∀ x ∈ t, 0 ≤ x ∧ x < 256) → (out.length : Int) + t.length ≤ most → most ≤ 100000 → Stand (val b) p (t.map (fun c => (c.toNat, 8)) ++ r) → p + 8 * t.length ≤ 8 * b.length →
    bytesR b most t.length (p : Int) out = some (((p + 8 * t.length : Nat) : Int), out ++ t)
  | [], p, out, r, _, _, _, _, _ => by
    simp only [List.length_nil, bytesR, List.append_nil, Nat.mul_zero, Nat.add_zero]
  | c :: t, p, out, r, hx, hr, hmost, hst, he => by
    rw [List.length_cons] at hr he ⊢
    have h0 := hx c List.mem_cons_self
    simp only [List.map_cons, List.cons_append, Stand] at hst
    unfold bytesR
    rw [if_pos ⟨by omega, by omega⟩, show (8 : Int) = ((8 : Nat) : Int) from rfl, getR_is hb hl (by omega) (by omega) hst.1, Option.bind_some]
    simp only
    rw [if_pos ⟨by omega, by omega⟩, bytesR_is t (p + 8) (out ++ [((c.toNat : Nat) : Int)]) r (fun x hx' => hx x (List.mem_cons_of_mem _ hx')) (by rw [List.length_append, List.length_singleton]; omega) hmost hst.2 (by omega)]
    rw [show ((c.toNat : Nat) : Int) = c from by omega]
    simp only [List.append_assoc, List.singleton_append]
    congr 3
    omega
/-- A stored block is read where it stands, behind its kind. -/
theorem storedR_is {most : Int} {t : List Int} (ht : Bytes t) (h4 : t.length ≤ 4096) {p : Nat} {out : List Int} (h8 : p % 8 = 3) (hr : (out.length : Int) + t.length ≤ most) (hmost : most ≤ 100000) {r : List (Nat × Nat)}
    (hst : Stand (val b) p ((0, 5) :: (t.length, 16) :: (65535 - t.length, 16) :: (t.map (fun c => (c.toNat, 8)) ++ r))) (he : p + 37 + 8 * t.length ≤ 8 * b.length) :
    storedR b most (p : Int) out = some (((p + 37 + 8 * t.length : Nat) : Int), out ++ t) := by
  obtain ⟨a1, a2, a3, a4⟩ := hst
  simp only at a1 a2 a3 a4
  have e5 : (8 - p % 8) % 8 = 5 := by omega
  unfold storedR
  rw [padR_is hb hl 8 p (by omega) (by omega) (by rw [e5]; exact a1), Option.bind_some, e5, show (16 : Int) = ((16 : Nat) : Int) from rfl]
  rw [getR_is hb hl (by omega) (by omega) a2, Option.bind_some]
  simp only
  rw [getR_is hb hl (by omega) (by omega) a3, Option.bind_some]
  simp only
  rw [if_pos ⟨by omega, by omega, by omega⟩, Int.toNat_natCast, bytesR_is hb hl t (p + 5 + 16 + 16) out r (fun x hx => ht x hx) hr hmost a4 (by omega)]
end
end Go.Proofs.Ytlffpaploefljaa.Glue
