/- What is written stands for one text alone; used by the claims of this seat. -/
import Derived.Test.YtlffpaploefljaaShrinkW
import Derived.Test.YtlffpaploefljaaPx0
import Derived.Test.YtlffpaploefljaaPx10
import Derived.Test.YtlffpaploefljaaPx39
namespace Go.Proofs.Ytlffpaploefljaa.Glue
open Go.RowKit Go.Proofs.Ytlffpaploefljaa.P Go.Proofs.YtlffpaploefljaaW.PrintWords Go.Proofs.YtlffpaploefljaaW.PrintLast Go.Proofs.YtlffpaploefljaaW.PrintMore
open WP (Row Bytes at_ val wN wX Wrote)
open Go.Proofs.Ytlffpaploefljaa.Tok (LenSym DistSym OkT OkL sizeL sizeT sizeL_ge exT)
open RowSteps
set_option linter.unusedVariables false
set_option linter.unusedSimpArgs false
/-- These stand from a place on. -/
def Stand (X : Nat) : Nat → List (Nat × Nat) → Prop
  | _, [] => True
  | a, p :: r => at_ X a p.2 = p.1 ∧ Stand X (a + p.2) r
theorem stand_append {X : Nat} : ∀ (p q : List (Nat × Nat)) (a : Nat), Stand X a (p ++ q) ↔ Stand X a p ∧ Stand X (a + wN p) q
  | [], q, a => by simp [Stand, wN]
  | x :: p, q, a => by
    simp only [List.cons_append, Stand, wN]
    rw [stand_append p q (a + x.2), and_assoc, Nat.add_assoc]
/-- Numbers that fit. -/
def Lt (it : List (Nat × Nat)) : Prop := ∀ p ∈ it, p.1 < 2 ^ p.2
theorem at_wrote (pre : List (Nat × Nat)) : ∀ it, Lt it → Stand (wX (pre ++ it)) (wN pre) it
  | [], _ => trivial
  | p :: it, h => by
    refine ⟨WP.wX_at_lt pre p.1 p.2 it (h p List.mem_cons_self), ?_⟩
    have := at_wrote (pre ++ [p]) it (fun q hq => h q (List.mem_cons_of_mem _ hq))
    rw [WP.wN_append] at this
    simp only [wN, Nat.add_zero, List.append_assoc, List.singleton_append] at this
    exact this
theorem at_pen {s : List Int × Nat} {it : List (Nat × Nat)} (h : PenW s it) (hl : Lt it) : Stand (val s.1) 0 it := by
  have := at_wrote [] it hl
  rw [List.nil_append] at this
  rw [h.1.val]
  exact this
theorem Lt.append {p q : List (Nat × Nat)} (hp : Lt p) (hq : Lt q) : Lt (p ++ q) := fun x hx => (List.mem_append.1 hx).elim (hp x) (hq x)
/-! ### codes -/
/-! ### tokens -/
theorem piece_in {t : S53} (h : Fine t) (h0 : t.f1 ≠ 0) : 3 ≤ t.f1 ∧ t.f1 ≤ 258 ∧ 1 ≤ t.f2 ∧ t.f2 ≤ 2048 := by
  rcases h.2.2 with h | h
  · exact absurd h.1 h0
  · exact h
/-- The first symbol of a token. -/
def sym1 (t : S53) : Nat := if t.f1 = 0 then t.f0.toNat else (lenOf t.f1).1
theorem tok_first {lits dists : List Int} {t : S53} (hh : TokHas lits dists t) {X a : Nat} {r : List (Nat × Nat)} (h : Stand X a (tokI lits dists t ++ r)) : Has lits (sym1 t) ∧ at_ X a (codeI lits (sym1 t)).2 = (codeI lits (sym1 t)).1 := by
  unfold sym1
  unfold TokHas at hh
  unfold tokI at h
  split
  · rename_i h0
    rw [if_pos h0] at hh h
    exact ⟨hh, h.1⟩
  · rename_i h0
    rw [if_neg h0] at hh h
    exact ⟨hh.1, h.1⟩
/-! ### rows of lengths -/
/-! ### blocks -/
theorem codeI_lt {l : List Int} (hm : Makes l) {j : Nat} (hh : Has l j) : (codeI l j).1 < 2 ^ (codeI l j).2 := (codeI_le hm hh).2.2
theorem tokI_lt {lits dists : List Int} (hm : Makes lits) (hd : Makes dists) {t : S53} (hf : Fine t) (hh : TokHas lits dists t) : Lt (tokI lits dists t) := by
  unfold TokHas at hh
  unfold tokI
  split
  · rename_i h0
    rw [if_pos h0] at hh
    intro p hp
    rw [List.mem_singleton.1 hp]
    exact codeI_lt hm hh
  · rename_i h0
    rw [if_neg h0] at hh
    have hp := piece_in hf h0
    have l1 := (lenOf_is hp.1 hp.2.1).1.le
    have d1 := (distOf_is hp.2.2.1 (show t.f2 ≤ 32768 by omega)).1.le
    intro p hp
    simp only [List.mem_cons, List.not_mem_nil, or_false] at hp
    rcases hp with rfl | rfl | rfl | rfl
    · exact codeI_lt hm hh.1
    · exact l1.2.2.1
    · exact codeI_lt hd hh.2
    · exact d1.2.1
theorem bodyI_lt {lits dists : List Int} (hm : Makes lits) (hd : Makes dists) (he : Has lits 256) {l : List S53} (h : ∀ t ∈ l, Fine t ∧ TokHas lits dists t) : Lt (bodyI l lits dists) := by
  unfold bodyI
  refine Lt.append (fun p hp => ?_) (fun p hp => by rw [List.mem_singleton.1 hp]; exact codeI_lt hm he)
  obtain ⟨t, ht, hp⟩ := List.mem_flatMap.1 hp
  exact tokI_lt hm hd (h t ht).1 (h t ht).2 p hp
theorem plain_lt (b : List Int) (hb : Bytes b) (hl : b.length ≤ 4096) : Lt (plainI b) := by
  unfold plainI
  refine Lt.append (fun p hp => ?_) (fun p hp => ?_)
  · simp only [List.mem_cons, List.not_mem_nil, or_false] at hp
    rcases hp with rfl | rfl | rfl | rfl | rfl
    · show (1 : Nat) < 2 ^ 1; decide
    · show (0 : Nat) < 2 ^ 2; decide
    · show (0 : Nat) < 2 ^ 5; decide
    · show b.length < 2 ^ 16; omega
    · show 65535 - b.length < 2 ^ 16; omega
  · obtain ⟨c, hc, rfl⟩ := List.mem_map.1 hp
    have := hb c hc
    show c.toNat < 2 ^ 8
    omega
theorem known_lt (b : List Int) (hb : Bytes b) (hl : b.length ≤ 4096) : Lt (knownI (T b)) := by
  unfold knownI
  refine Lt.append (fun p hp => ?_) (bodyI_lt (makes_of fixL_check) (makes_of fixD_check) (fixL_has (by decide)) (fun t ht => ⟨(T_ok b hb hl).2.2.2.2 t ht, fix_toks ((T_ok b hb hl).2.2.2.2 t ht)⟩))
  simp only [List.mem_cons, List.not_mem_nil, or_false] at hp
  rcases hp with rfl | rfl
  · show (1 : Nat) < 2 ^ 1; decide
  · show (1 : Nat) < 2 ^ 2; decide
theorem made_bounds {l : List S53} {lits dists own turned : List Int} (ok : MadeOk l lits dists own turned) : (∀ x ∈ lits ++ dists, 0 ≤ x ∧ x ≤ 15) ∧ (∀ x ∈ turned, 0 ≤ x ∧ x ≤ 7) ∧ 4 ≤ turned.length ∧ turned.length ≤ 19 := by
  obtain ⟨n, e, n4, n19, _⟩ := ok.turn
  have hO : (ord19.map (rd own)).length = 19 := by rw [List.length_map]; rfl
  refine ⟨fun x hx => (List.mem_append.1 hx).elim ((makes_of ok.cl).bounds x) ((makes_of ok.cd).bounds x), fun x hx => ?_, by rw [e, List.length_take]; omega, by rw [e, List.length_take]; omega⟩
  rw [e] at hx
  obtain ⟨j, hj, rfl⟩ := List.mem_map.1 (List.mem_of_mem_take hx)
  have hj19 : 0 ≤ j ∧ j < 19 := by
    have : ∀ y ∈ ord19, 0 ≤ y ∧ y < 19 := by decide
    exact this j hj
  obtain ⟨q, rfl⟩ := Int.eq_ofNat_of_zero_le hj19.1
  rw [rd_nat]
  exact ok.o7 _ (getD_mem (l := own) (j := q) (by have := ok.olen; omega))
theorem made_lt {b : List Int} (hb : Bytes b) (hl : b.length ≤ 4096) {lits dists own turned : List Int} (ok : MadeOk (T b) lits dists own turned) : Lt (madeI (T b) lits dists own turned) := by
  obtain ⟨hx, ht, t4, t19⟩ := made_bounds ok
  have h1 := ok.llen
  have h2 := ok.dlen
  unfold madeI
  refine Lt.append (Lt.append (Lt.append (fun p hp => ?_) (fun p hp => ?_)) (fun p hp => ?_)) (bodyI_lt (makes_of ok.cl) (makes_of ok.cd) ok.stop (fun t ht => ⟨(T_ok b hb hl).2.2.2.2 t ht, ok.toks t ht⟩))
  · simp only [List.mem_cons, List.not_mem_nil, or_false] at hp
    rcases hp with rfl | rfl | rfl | rfl | rfl
    · show (1 : Nat) < 2 ^ 1; decide
    · show (2 : Nat) < 2 ^ 2; decide
    · show lits.length - 257 < 2 ^ 5; omega
    · show dists.length - 1 < 2 ^ 5; omega
    · show turned.length - 4 < 2 ^ 4; omega
  · obtain ⟨c, hc, rfl⟩ := List.mem_map.1 hp
    have := ht c hc
    show c.toNat < 2 ^ 3
    omega
  · obtain ⟨t, ht, hp⟩ := List.mem_flatMap.1 hp
    have hf := steps_fit _ _ _ hx t ht
    unfold stepI at hp
    simp only [List.mem_cons, List.not_mem_nil, or_false] at hp
    rcases hp with rfl | rfl
    · exact codeI_lt (makes_of ok.co) (ok.row t ht)
    · obtain ⟨x, n, e1, e2, e3, _⟩ := hf.2.2
      show t.2.1.toNat < 2 ^ t.2.2.1.toNat
      rw [e1, e2]
      simpa using e3
theorem wN_nums (n : Nat) : ∀ l : List Int, wN (l.map (fun x => (x.toNat, n))) = n * l.length
  | [] => rfl
  | x :: l => by simp only [List.map_cons, wN, wN_nums n l, List.length_cons, Nat.mul_add]; omega
theorem madeI_kind (l : List S53) (a b c d : List Int) : ∃ r, madeI l a b c d = (1, 1) :: (2, 2) :: r := by
  unfold madeI
  simp only [List.cons_append, List.append_assoc]
  exact ⟨_, rfl⟩
end Go.Proofs.Ytlffpaploefljaa.Glue
