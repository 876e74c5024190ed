/- What is written stands for one text alone; used by the claims of this seat. -/
import Derived.Test.YtlffpaploefljaaShrinkW
import Derived.Test.YtlffpaploefljaaPx0
import Derived.Test.YtlffpaploefljaaPx10
import Derived.Test.YtlffpaploefljaaPx39
namespace Go.Proofs.Ytlffpaploefljaa.Glue
open Go.RowKit Go.Proofs.Ytlffpaploefljaa.P Go.Proofs.YtlffpaploefljaaW.PrintWords Go.Proofs.YtlffpaploefljaaW.PrintLast Go.Proofs.YtlffpaploefljaaW.PrintMore
open WP (Row Bytes at_ val wN wX Wrote)
open Go.Proofs.Ytlffpaploefljaa.Tok (LenSym DistSym OkT OkL sizeL sizeT sizeL_ge exT)
open RowSteps
set_option linter.unusedVariables false
set_option linter.unusedSimpArgs false
/-- These stand from a place on. -/
def At (X : Nat) : Nat → List (Nat × Nat) → Prop
  | _, [] => True
  | a, p :: r => at_ X a p.2 = p.1 ∧ At X (a + p.2) r
theorem at_append {X : Nat} : ∀ (p q : List (Nat × Nat)) (a : Nat), At X a (p ++ q) ↔ At X a p ∧ At X (a + wN p) q
  | [], q, a => by simp [At, wN]
  | x :: p, q, a => by
    simp only [List.cons_append, At, wN]
    rw [at_append p q (a + x.2), and_assoc, Nat.add_assoc]
/-- Numbers that fit. -/
def Lt (it : List (Nat × Nat)) : Prop := ∀ p ∈ it, p.1 < 2 ^ p.2
theorem at_wrote (pre : List (Nat × Nat)) : ∀ it, Lt it → At (wX (pre ++ it)) (wN pre) it
  | [], _ => trivial
  | p :: it, h => by
    refine ⟨WP.wX_at_lt pre p.1 p.2 it (h p List.mem_cons_self), ?_⟩
    have := at_wrote (pre ++ [p]) it (fun q hq => h q (List.mem_cons_of_mem _ hq))
    rw [WP.wN_append] at this
    simp only [wN, Nat.add_zero, List.append_assoc, List.singleton_append] at this
    exact this
theorem at_pen {s : List Int × Nat} {it : List (Nat × Nat)} (h : PenW s it) (hl : Lt it) : At (val s.1) 0 it := by
  have := at_wrote [] it hl
  rw [List.nil_append] at this
  rw [h.1.val]
  exact this
theorem Lt.append {p q : List (Nat × Nat)} (hp : Lt p) (hq : Lt q) : Lt (p ++ q) := fun x hx => (List.mem_append.1 hx).elim (hp x) (hq x)
/-! ### codes -/
theorem rdv_down (X a n : Nat) : ∀ d, rdv X a (n + d) / 2 ^ d = rdv X a n
  | 0 => by simp
  | d + 1 => by
    rw [Nat.pow_succ, Nat.mul_comm, ← Nat.div_div_eq_div_mul, ← Nat.add_assoc, rdv_half]
    exact rdv_down X a n d
/-- Just one symbol's code stands at a place. -/
theorem code_one {l : List Int} (hm : Makes l) {i j : Nat} (hi : Has l i) (hj : Has l j) {X a : Nat} (h1 : at_ X a (codeI l i).2 = (codeI l i).1) (h2 : at_ X a (codeI l j).2 = (codeI l j).1) : i = j := by
  obtain ⟨n, en, n15⟩ := hm.at hi.1
  obtain ⟨m, em, m15⟩ := hm.at hj.1
  have n0 : 0 < n := by have := hi.2; omega
  have m0 : 0 < m := by have := hj.2; omega
  unfold codeI at h1 h2
  rw [en, Int.toNat_natCast] at h1
  rw [em, Int.toNat_natCast] at h2
  have r1 := rdv_code (codeN_small hm hi.1 en n0 n15) h1
  have r2 := rdv_code (codeN_small hm hj.1 em m0 m15) h2
  rcases Nat.lt_trichotomy n m with h | h | h
  · have := codes_apart (k := j) hi.1 en n0 h m15
    rw [← r2, show m = n + (m - n) from by omega, show n + (m - n) - n = m - n from by omega, rdv_down, r1] at this
    omega
  · subst h
    rw [r1] at r2
    unfold codeN at r2
    exact symsTo_uniq l en em n0 (by omega)
  · have := codes_apart (k := i) hj.1 em m0 h n15
    rw [← r1, show n = m + (n - m) from by omega, show m + (n - m) - m = n - m from by omega, rdv_down, r2] at this
    omega
/-! ### tokens -/
/-- A token that is a byte, or a piece. -/
def Exact (t : S53) : Prop := Fine t ∧ (t.f1 ≠ 0 → t.f0 = 0)
theorem lenSym_one {n n' s m m' v v' : Nat} (h : LenSym n s m v) (h' : LenSym n' s m' v') : m = m' ∧ (v = v' → n = n') := by
  rcases h with ⟨h1, h2, h3, h4⟩ | ⟨q, hq, h1, h2, h3, h4, h5⟩
  · rcases h' with ⟨h1', h2', h3', h4'⟩ | ⟨q', hq', h1', h2', h3', h4', h5'⟩
    · exact ⟨by omega, fun _ => by omega⟩
    · omega
  · rcases h' with ⟨h1', h2', h3', h4'⟩ | ⟨q', hq', h1', h2', h3', h4', h5'⟩
    · omega
    · obtain rfl : q = q' := by omega
      exact ⟨by omega, fun _ => by omega⟩
theorem distSym_one {n n' s m m' v v' : Nat} (h : DistSym n s m v) (h' : DistSym n' s m' v') : m = m' ∧ (v = v' → n = n') := by
  obtain ⟨h1, h2, h3, h4⟩ := h
  obtain ⟨h1', h2', h3', h4'⟩ := h'
  exact ⟨by omega, fun _ => by omega⟩
theorem piece_in {t : S53} (h : Fine t) (h0 : t.f1 ≠ 0) : 3 ≤ t.f1 ∧ t.f1 ≤ 258 ∧ 1 ≤ t.f2 ∧ t.f2 ≤ 2048 := by
  rcases h.2.2 with h | h
  · exact absurd h.1 h0
  · exact h
/-- The first symbol of a token. -/
def sym1 (t : S53) : Nat := if t.f1 = 0 then t.f0.toNat else (lenOf t.f1).1
theorem tok_first {lits dists : List Int} {t : S53} (hh : TokHas lits dists t) {X a : Nat} {r : List (Nat × Nat)} (h : At X a (tokI lits dists t ++ r)) : Has lits (sym1 t) ∧ at_ X a (codeI lits (sym1 t)).2 = (codeI lits (sym1 t)).1 := by
  unfold sym1
  unfold TokHas at hh
  unfold tokI at h
  split
  · rename_i h0
    rw [if_pos h0] at hh h
    exact ⟨hh, h.1⟩
  · rename_i h0
    rw [if_neg h0] at hh h
    exact ⟨hh.1, h.1⟩
theorem sym1_not {t : S53} (h : Fine t) : sym1 t ≠ 256 := by
  unfold sym1
  split
  · have := h.1; have := h.2.1; omega
  · rename_i h0
    have hp := piece_in h h0
    have := (lenOf_is hp.1 hp.2.1).1.le
    omega
theorem tok_one {lits dists : List Int} (hm : Makes lits) (hd : Makes dists) {t u : S53} (ht : Exact t) (hu : Exact u) (tt : TokHas lits dists t) (tu : TokHas lits dists u) {X a : Nat} {r r' : List (Nat × Nat)} (h : At X a (tokI lits dists t ++ r)) (h' : At X a (tokI lits dists u ++ r')) : t = u := by
  obtain ⟨a1, a2⟩ := tok_first tt h
  obtain ⟨b1, b2⟩ := tok_first tu h'
  have hs := code_one hm a1 b1 a2 b2
  unfold sym1 at hs
  by_cases h0 : t.f1 = 0
  · rw [if_pos h0] at hs
    by_cases k0 : u.f1 = 0
    · rw [if_pos k0] at hs
      have e2 : t.f2 = 0 := by
        rcases ht.1.2.2 with h | h
        · exact h.2
        · omega
      have e2' : u.f2 = 0 := by
        rcases hu.1.2.2 with h | h
        · exact h.2
        · omega
      have e0 : t.f0 = u.f0 := by have := ht.1.1; have := hu.1.1; omega
      obtain ⟨x, y, z⟩ := t
      obtain ⟨x', y', z'⟩ := u
      simp only at *
      subst h0 k0 e0 e2 e2'
      rfl
    · rw [if_neg k0] at hs
      have hp := piece_in hu.1 k0
      have := (lenOf_is hp.1 hp.2.1).1.le
      have := ht.1.1; have := ht.1.2.1
      omega
  · rw [if_neg h0] at hs
    have hp := piece_in ht.1 h0
    have l1 := (lenOf_is hp.1 hp.2.1).1
    by_cases k0 : u.f1 = 0
    · rw [if_pos k0] at hs
      have := l1.le
      have := hu.1.1; have := hu.1.2.1
      omega
    · rw [if_neg k0] at hs
      have hq := piece_in hu.1 k0
      have l2 := (lenOf_is hq.1 hq.2.1).1
      have d1 := (distOf_is hp.2.2.1 (show t.f2 ≤ 32768 by omega)).1
      have d2 := (distOf_is hq.2.2.1 (show u.f2 ≤ 32768 by omega)).1
      unfold TokHas at tt tu
      rw [if_neg h0] at tt
      rw [if_neg k0] at tu
      unfold tokI at h h'
      rw [if_neg h0] at h
      rw [if_neg k0] at h'
      simp only [List.cons_append, List.nil_append, At] at h h'
      obtain ⟨_, x1, x2, x3, _⟩ := h
      obtain ⟨_, y1, y2, y3, _⟩ := h'
      rw [← hs] at l2 y1 y2 y3
      obtain ⟨em, en⟩ := lenSym_one l1 l2
      rw [← em] at y1 y2 y3
      have e1 : t.f1 = u.f1 := by have := en (by omega); omega
      have es := code_one hd tt.2 tu.2 x2 y2
      rw [← es] at d2 y3
      obtain ⟨em', en'⟩ := distSym_one d1 d2
      rw [← em'] at y3
      have e2 : t.f2 = u.f2 := by have := en' (by omega); omega
      have e0 : t.f0 = u.f0 := by rw [ht.2 h0, hu.2 k0]
      obtain ⟨x, y, z⟩ := t
      obtain ⟨x', y', z'⟩ := u
      simp only at e0 e1 e2
      subst e0 e1 e2
      rfl
theorem body_one {lits dists : List Int} (hm : Makes lits) (hd : Makes dists) (he : Has lits 256) {X : Nat} : ∀ (ts us : List S53) (a : Nat), (∀ t ∈ ts, Exact t ∧ TokHas lits dists t) → (∀ t ∈ us, Exact t ∧ TokHas lits dists t) →
    At X a (ts.flatMap (tokI lits dists) ++ [codeI lits 256]) → At X a (us.flatMap (tokI lits dists) ++ [codeI lits 256]) → ts = us
  | [], [], a, _, _, _, _ => rfl
  | [], u :: us, a, _, hu, h, h' => by
    obtain ⟨h1, h2⟩ := hu u List.mem_cons_self
    rw [List.flatMap_cons, List.append_assoc] at h'
    obtain ⟨b1, b2⟩ := tok_first h2 h'
    exact absurd (code_one hm b1 he b2 h.1) (sym1_not h1.1)
  | t :: ts, [], a, ht, _, h, h' => by
    obtain ⟨h1, h2⟩ := ht t List.mem_cons_self
    rw [List.flatMap_cons, List.append_assoc] at h
    obtain ⟨b1, b2⟩ := tok_first h2 h
    exact absurd (code_one hm b1 he b2 h'.1) (sym1_not h1.1)
  | t :: ts, u :: us, a, ht, hu, h, h' => by
    obtain ⟨h1, h2⟩ := ht t List.mem_cons_self
    obtain ⟨k1, k2⟩ := hu u List.mem_cons_self
    rw [List.flatMap_cons, List.append_assoc] at h h'
    have e := tok_one hm hd h1 k1 h2 k2 h h'
    subst e
    have e2 := body_one hm hd he ts us (a + wN (tokI lits dists t)) (fun x hx => ht x (List.mem_cons_of_mem _ hx)) (fun x hx => hu x (List.mem_cons_of_mem _ hx)) ((at_append _ _ _).1 h).2 ((at_append _ _ _).1 h').2
    rw [e2]
/-! ### rows of lengths -/
theorem row_one {own : List Int} (hm : Makes own) {X : Nat} : ∀ (f f' : Nat) (a : Int) (p : Nat) (l l' : List Int), l.length = l'.length → l.length ≤ f → l'.length ≤ f' → (∀ x ∈ l, 0 ≤ x ∧ x ≤ 15) → (∀ x ∈ l', 0 ≤ x ∧ x ≤ 15) →
    (∀ t ∈ steps f a l, Has own t.1.toNat) → (∀ t ∈ steps f' a l', Has own t.1.toNat) → ∀ r r', At X p ((steps f a l).flatMap (stepI own) ++ r) → At X p ((steps f' a l').flatMap (stepI own) ++ r') → l = l' := by
  intro f
  induction f with
  | zero =>
    intro f' a p l l' he hl _ _ _ _ _ _ _ _ _
    have : l = [] := List.length_eq_zero_iff.1 (by omega)
    subst this
    exact (List.length_eq_zero_iff.1 he.symm).symm
  | succ f ih =>
    intro f' a p l l' he hl hl' hx hx' ho ho' r r' h h'
    match l, l', he, hl, hl', hx, hx', ho, ho', h, h' with
    | [], l', he, _, _, _, _, _, _, _, _ => exact (List.length_eq_zero_iff.1 he.symm).symm
    | v :: t, [], he, _, _, _, _, _, _, _, _ => cases he
    | v :: t, v' :: t', he, hl, hl', hx, hx', ho, ho', h, h' =>
      obtain ⟨f', rfl⟩ : ∃ z, f' = z + 1 := ⟨f' - 1, by simp only [List.length_cons] at hl'; omega⟩
      have fit := next_fit v a (run v t + 1) (by omega) (hx v List.mem_cons_self)
      have fit' := next_fit v' a (run v' t' + 1) (by omega) (hx' v' List.mem_cons_self)
      have key : ∀ (v : Int) (t : List Int), 0 ≤ v ∧ v ≤ 15 → ∃ m : Nat, (nextOf v a (run v t + 1)).2.2.2 = (m : Int) ∧ 1 ≤ m ∧ m ≤ t.length + 1 ∧ v :: t = List.replicate m v ++ (v :: t).drop m := by
        intro v t hv
        obtain ⟨m, k1, k2, k3⟩ := (next_fit v a (run v t + 1) (by omega) hv).runs
        refine ⟨m, k1, k2, by have := run_le v t; omega, ?_⟩
        obtain ⟨q, rfl⟩ : ∃ q, m = q + 1 := ⟨m - 1, by omega⟩
        rw [List.replicate_succ, List.cons_append, List.drop_succ_cons, ← run_take v t q (by omega)]
      obtain ⟨m, em, m1, m2, m3⟩ := key v t (hx v List.mem_cons_self)
      obtain ⟨m', em', m1', m2', m3'⟩ := key v' t' (hx' v' List.mem_cons_self)
      simp only [steps] at ho ho' h h'
      have hs := ho _ List.mem_cons_self
      have hs' := ho' _ List.mem_cons_self
      rw [em, Int.toNat_natCast] at ho h
      rw [em', Int.toNat_natCast] at ho' h'
      generalize nextOf v a (run v t + 1) = s at *
      generalize nextOf v' a (run v' t' + 1) = s' at *
      rw [List.flatMap_cons, List.append_assoc] at h h'
      have c1 : at_ X p (codeI own s.1.toNat).2 = (codeI own s.1.toNat).1 := by unfold stepI at h; exact h.1
      have c2 : at_ X p (codeI own s'.1.toNat).2 = (codeI own s'.1.toNat).1 := by unfold stepI at h'; exact h'.1
      have e1 := code_one hm hs hs' c1 c2
      have es : s.1 = s'.1 := by have := fit.sym.1; have := fit'.sym.1; omega
      have ew : s.2.2.1 = s'.2.2.1 := by rw [fit.wide, fit'.wide, es]
      have d1 : at_ X (p + (codeI own s.1.toNat).2) s.2.2.1.toNat = s.2.1.toNat := by unfold stepI at h; exact h.2.1
      have d2 : at_ X (p + (codeI own s'.1.toNat).2) s'.2.2.1.toNat = s'.2.1.toNat := by unfold stepI at h'; exact h'.2.1
      rw [← es, ← ew] at d2
      have em2 : s.2.1 = s'.2.1 := by
        obtain ⟨x, _, hx1, _⟩ := fit.more
        obtain ⟨x', _, hx1', _⟩ := fit'.more
        omega
      have k1 := fit.is [a] (fun _ => rfl)
      have k2 := fit'.is [a] (fun _ => rfl)
      rw [← es, ← em2, k1] at k2
      injection k2 with k3 k4
      subst k3
      have emm : m = m' := by rw [em, em'] at k4; simpa using k4
      subst emm
      have eI : stepI own s' = stepI own s := by unfold stepI; rw [es, em2, ew]
      rw [eI] at h'
      have e3 := ih f' v (p + wN (stepI own s)) ((v :: t).drop m) ((v :: t').drop m) (by rw [List.length_drop, List.length_drop, he]) (by rw [List.length_drop]; simp only [List.length_cons] at hl ⊢; omega) (by rw [List.length_drop]; simp only [List.length_cons] at hl' ⊢; omega) (fun x h => hx x (List.mem_of_mem_drop h)) (fun x h => hx' x (List.mem_of_mem_drop h)) (fun x h => ho x (List.mem_cons_of_mem _ h)) (fun x h => ho' x (List.mem_cons_of_mem _ h)) r r' ((at_append _ _ _).1 h).2 ((at_append _ _ _).1 h').2
      rw [m3, m3', e3]
/-! ### blocks -/
theorem codeI_lt {l : List Int} (hm : Makes l) {j : Nat} (hh : Has l j) : (codeI l j).1 < 2 ^ (codeI l j).2 := (codeI_le hm hh).2.2
theorem tokI_lt {lits dists : List Int} (hm : Makes lits) (hd : Makes dists) {t : S53} (hf : Fine t) (hh : TokHas lits dists t) : Lt (tokI lits dists t) := by
  unfold TokHas at hh
  unfold tokI
  split
  · rename_i h0
    rw [if_pos h0] at hh
    intro p hp
    rw [List.mem_singleton.1 hp]
    exact codeI_lt hm hh
  · rename_i h0
    rw [if_neg h0] at hh
    have hp := piece_in hf h0
    have l1 := (lenOf_is hp.1 hp.2.1).1.le
    have d1 := (distOf_is hp.2.2.1 (show t.f2 ≤ 32768 by omega)).1.le
    intro p hp
    simp only [List.mem_cons, List.not_mem_nil, or_false] at hp
    rcases hp with rfl | rfl | rfl | rfl
    · exact codeI_lt hm hh.1
    · exact l1.2.2.1
    · exact codeI_lt hd hh.2
    · exact d1.2.1
theorem bodyI_lt {lits dists : List Int} (hm : Makes lits) (hd : Makes dists) (he : Has lits 256) {l : List S53} (h : ∀ t ∈ l, Fine t ∧ TokHas lits dists t) : Lt (bodyI l lits dists) := by
  unfold bodyI
  refine Lt.append (fun p hp => ?_) (fun p hp => by rw [List.mem_singleton.1 hp]; exact codeI_lt hm he)
  obtain ⟨t, ht, hp⟩ := List.mem_flatMap.1 hp
  exact tokI_lt hm hd (h t ht).1 (h t ht).2 p hp
theorem T_exact (b : List Int) (hb : Bytes b) (hl : b.length ≤ 4096) : ∀ t ∈ T b, Exact t := fun t ht => by
  obtain ⟨h1, _, _, _, h5⟩ := T_ok b hb hl
  obtain ⟨m, hm⟩ := okL_mem _ _ h1 t ht
  exact ⟨h5 t ht, fun h0 => by
    rcases hm with h | h
    · exact absurd h.1 h0
    · exact h.1⟩
theorem T_inj {b c : List Int} (hb : Bytes b) (hc : Bytes c) (hl : b.length ≤ 4096) (hk : c.length ≤ 4096) (h : T b = T c) : b = c := by
  rw [← (T_ok b hb hl).2.1, ← (T_ok c hc hk).2.1, h]
theorem plain_lt (b : List Int) (hb : Bytes b) (hl : b.length ≤ 4096) : Lt (plainI b) := by
  unfold plainI
  refine Lt.append (fun p hp => ?_) (fun p hp => ?_)
  · simp only [List.mem_cons, List.not_mem_nil, or_false] at hp
    rcases hp with rfl | rfl | rfl | rfl | rfl
    · show (1 : Nat) < 2 ^ 1; decide
    · show (0 : Nat) < 2 ^ 2; decide
    · show (0 : Nat) < 2 ^ 5; decide
    · show b.length < 2 ^ 16; omega
    · show 65535 - b.length < 2 ^ 16; omega
  · obtain ⟨c, hc, rfl⟩ := List.mem_map.1 hp
    have := hb c hc
    show c.toNat < 2 ^ 8
    omega
theorem known_lt (b : List Int) (hb : Bytes b) (hl : b.length ≤ 4096) : Lt (knownI (T b)) := by
  unfold knownI
  refine Lt.append (fun p hp => ?_) (bodyI_lt (makes_of fixL_check) (makes_of fixD_check) (fixL_has (by decide)) (fun t ht => ⟨(T_ok b hb hl).2.2.2.2 t ht, fix_toks ((T_ok b hb hl).2.2.2.2 t ht)⟩))
  simp only [List.mem_cons, List.not_mem_nil, or_false] at hp
  rcases hp with rfl | rfl
  · show (1 : Nat) < 2 ^ 1; decide
  · show (1 : Nat) < 2 ^ 2; decide
theorem made_bounds {l : List S53} {lits dists own turned : List Int} (ok : MadeOk l lits dists own turned) : (∀ x ∈ lits ++ dists, 0 ≤ x ∧ x ≤ 15) ∧ (∀ x ∈ turned, 0 ≤ x ∧ x ≤ 7) ∧ 4 ≤ turned.length ∧ turned.length ≤ 19 := by
  obtain ⟨n, e, n4, n19, _⟩ := ok.turn
  have hO : (ord19.map (rd own)).length = 19 := by rw [List.length_map]; rfl
  refine ⟨fun x hx => (List.mem_append.1 hx).elim ((makes_of ok.cl).bounds x) ((makes_of ok.cd).bounds x), fun x hx => ?_, by rw [e, List.length_take]; omega, by rw [e, List.length_take]; omega⟩
  rw [e] at hx
  obtain ⟨j, hj, rfl⟩ := List.mem_map.1 (List.mem_of_mem_take hx)
  have hj19 : 0 ≤ j ∧ j < 19 := by
    have : ∀ y ∈ ord19, 0 ≤ y ∧ y < 19 := by decide
    exact this j hj
  obtain ⟨q, rfl⟩ := Int.eq_ofNat_of_zero_le hj19.1
  rw [rd_nat]
  exact ok.o7 _ (getD_mem (l := own) (j := q) (by have := ok.olen; omega))
theorem made_lt {b : List Int} (hb : Bytes b) (hl : b.length ≤ 4096) {lits dists own turned : List Int} (ok : MadeOk (T b) lits dists own turned) : Lt (madeI (T b) lits dists own turned) := by
  obtain ⟨hx, ht, t4, t19⟩ := made_bounds ok
  have h1 := ok.llen
  have h2 := ok.dlen
  unfold madeI
  refine Lt.append (Lt.append (Lt.append (fun p hp => ?_) (fun p hp => ?_)) (fun p hp => ?_)) (bodyI_lt (makes_of ok.cl) (makes_of ok.cd) ok.stop (fun t ht => ⟨(T_ok b hb hl).2.2.2.2 t ht, ok.toks t ht⟩))
  · simp only [List.mem_cons, List.not_mem_nil, or_false] at hp
    rcases hp with rfl | rfl | rfl | rfl | rfl
    · show (1 : Nat) < 2 ^ 1; decide
    · show (2 : Nat) < 2 ^ 2; decide
    · show lits.length - 257 < 2 ^ 5; omega
    · show dists.length - 1 < 2 ^ 5; omega
    · show turned.length - 4 < 2 ^ 4; omega
  · obtain ⟨c, hc, rfl⟩ := List.mem_map.1 hp
    have := ht c hc
    show c.toNat < 2 ^ 3
    omega
  · obtain ⟨t, ht, hp⟩ := List.mem_flatMap.1 hp
    have hf := steps_fit _ _ _ hx t ht
    unfold stepI at hp
    simp only [List.mem_cons, List.not_mem_nil, or_false] at hp
    rcases hp with rfl | rfl
    · exact codeI_lt (makes_of ok.co) (ok.row t ht)
    · obtain ⟨x, n, e1, e2, e3, _⟩ := hf.2.2
      show t.2.1.toNat < 2 ^ t.2.2.1.toNat
      rw [e1, e2]
      simpa using e3
theorem nums_one (n : Nat) {X : Nat} : ∀ (l l' : List Int) (p : Nat) (r r' : List (Nat × Nat)), l.length = l'.length → (∀ x ∈ l, 0 ≤ x) → (∀ x ∈ l', 0 ≤ x) → At X p (l.map (fun x => (x.toNat, n)) ++ r) → At X p (l'.map (fun x => (x.toNat, n)) ++ r') → l = l'
  | [], [], p, r, r', _, _, _, _, _ => rfl
  | x :: l, y :: l', p, r, r', he, hx, hy, h, h' => by
    simp only [List.map_cons, List.cons_append, At] at h h'
    have h0 := hx x List.mem_cons_self
    have h1 := hy y List.mem_cons_self
    have e : x = y := by omega
    rw [e, nums_one n l l' (p + n) r r' (by simpa using he) (fun z hz => hx z (List.mem_cons_of_mem _ hz)) (fun z hz => hy z (List.mem_cons_of_mem _ hz)) h.2 h'.2]
theorem wN_nums (n : Nat) : ∀ l : List Int, wN (l.map (fun x => (x.toNat, n))) = n * l.length
  | [] => rfl
  | x :: l => by simp only [List.map_cons, wN, wN_nums n l, List.length_cons, Nat.mul_add]; omega
theorem ord19_all : ∀ j : Fin 19, ∃ i : Fin 19, ord19.getD i.val 0 = (j.val : Int) := by decide
theorem own_one {own own' turned : List Int} {n n' : Nat} (hl : own.length = 19) (hl' : own'.length = 19) (e : turned = (ord19.map (rd own)).take n) (e' : turned = (ord19.map (rd own')).take n') (h19 : n ≤ 19) (h19' : n' ≤ 19) (hz : ∀ j, n ≤ j → (ord19.map (rd own)).getD j 0 = 0) (hz' : ∀ j, n' ≤ j → (ord19.map (rd own')).getD j 0 = 0) : own = own' := by
  have hO : ∀ o : List Int, (ord19.map (rd o)).length = 19 := fun o => by rw [List.length_map]; rfl
  have hn : n = n' := by
    have h1 : turned.length = n := by rw [e, List.length_take, hO]; omega
    have h2 : turned.length = n' := by rw [e', List.length_take, hO]; omega
    omega
  subst hn
  have hmap : ord19.map (rd own) = ord19.map (rd own') := by
    rw [take_zeros (by rw [hO]; exact h19) hz, take_zeros (by rw [hO]; exact h19) hz', ← e, ← e', hO, hO]
  have hj : ∀ j, j < 19 → own.getD j 0 = own'.getD j 0 := by
    intro j hj
    obtain ⟨i, hi⟩ := ord19_all ⟨j, hj⟩
    have h1 : (ord19.map (rd own)).getD i.val 0 = (ord19.map (rd own')).getD i.val 0 := by rw [hmap]
    have hg : ∀ o : List Int, (ord19.map (rd o)).getD i.val 0 = rd o (ord19.getD i.val 0) := fun o => by
      rw [List.getD_eq_getElem?_getD, List.getElem?_map, List.getElem?_eq_getElem (show i.val < ord19.length from i.isLt), List.getD_eq_getElem?_getD, List.getElem?_eq_getElem (show i.val < ord19.length from i.isLt)]
      rfl
    rw [hg, hg, hi] at h1
    simp only [rd_nat] at h1
    exact h1
  apply List.ext_getElem?
  intro j
  by_cases h : j < 19
  · have := hj j h
    rw [List.getD_eq_getElem?_getD, List.getD_eq_getElem?_getD, List.getElem?_eq_getElem (by omega), List.getElem?_eq_getElem (by omega)] at this
    rw [List.getElem?_eq_getElem (by omega), List.getElem?_eq_getElem (by omega)]
    simpa using this
  · rw [List.getElem?_eq_none (by omega), List.getElem?_eq_none (by omega)]
/-- Two texts whose blocks of lengths of their own stand at one place are one text. -/
theorem made_one {b c : List Int} (hb : Bytes b) (hc : Bytes c) (hl : b.length ≤ 4096) (hk : c.length ≤ 4096) {lits dists own turned lits' dists' own' turned' : List Int} (ok : MadeOk (T b) lits dists own turned) (ok' : MadeOk (T c) lits' dists' own' turned') {X : Nat}
    (h : At X 0 (madeI (T b) lits dists own turned)) (h' : At X 0 (madeI (T c) lits' dists' own' turned')) : b = c := by
  obtain ⟨hx, ht, t4, t19⟩ := made_bounds ok
  obtain ⟨hx', ht', t4', t19'⟩ := made_bounds ok'
  have l1 := ok.llen
  have l1' := ok'.llen
  have l2 := ok.dlen
  have l2' := ok'.dlen
  unfold madeI at h h'
  rw [List.append_assoc, List.append_assoc] at h h'
  have q := h
  have q' := h'
  simp only [List.cons_append, List.nil_append, At] at q q'
  have eL : lits.length = lits'.length := by omega
  have eD : dists.length = dists'.length := by omega
  have eT : turned.length = turned'.length := by omega
  obtain ⟨_, a1⟩ := (at_append _ _ _).1 h
  obtain ⟨_, a1'⟩ := (at_append _ _ _).1 h'
  simp only [wN] at a1 a1'
  have et := nums_one 3 turned turned' _ _ _ eT (fun x hx => (ht x hx).1) (fun x hx => (ht' x hx).1) a1 a1'
  subst et
  obtain ⟨n, e1, _, n19, nz⟩ := ok.turn
  obtain ⟨n', e1', _, n19', nz'⟩ := ok'.turn
  have eo := own_one ok.olen ok'.olen e1 e1' n19 n19' nz nz'
  subst eo
  obtain ⟨_, a2⟩ := (at_append _ _ _).1 a1
  obtain ⟨_, a2'⟩ := (at_append _ _ _).1 a1'
  have er := row_one (makes_of ok.co) _ _ (-1) _ (lits ++ dists) (lits' ++ dists') (by rw [List.length_append, List.length_append]; omega) (Nat.le_refl _) (Nat.le_refl _) hx hx' ok.row ok'.row _ _ a2 a2'
  obtain ⟨el, ed⟩ := List.append_inj er eL
  subst el ed
  obtain ⟨_, a3⟩ := (at_append _ _ _).1 a2
  obtain ⟨_, a3'⟩ := (at_append _ _ _).1 a2'
  unfold bodyI at a3 a3'
  exact T_inj hb hc hl hk (body_one (makes_of ok.cl) (makes_of ok.cd) ok.stop (T b) (T c) _ (fun t h => ⟨T_exact b hb hl t h, ok.toks t h⟩) (fun t h => ⟨T_exact c hc hk t h, ok'.toks t h⟩) a3 a3')
theorem known_one {b c : List Int} (hb : Bytes b) (hc : Bytes c) (hl : b.length ≤ 4096) (hk : c.length ≤ 4096) {X : Nat} (h : At X 0 (knownI (T b))) (h' : At X 0 (knownI (T c))) : b = c := by
  unfold knownI bodyI at h h'
  have a := ((at_append _ _ _).1 h).2
  have a' := ((at_append _ _ _).1 h').2
  exact T_inj hb hc hl hk (body_one (makes_of fixL_check) (makes_of fixD_check) (fixL_has (by decide)) (T b) (T c) _ (fun t h => ⟨T_exact b hb hl t h, fix_toks (T_exact b hb hl t h).1⟩) (fun t h => ⟨T_exact c hc hk t h, fix_toks (T_exact c hc hk t h).1⟩) a a')
theorem plain_one {b c : List Int} (hb : Bytes b) (hc : Bytes c) {X : Nat} (hl : b.length ≤ 4096) (hk : c.length ≤ 4096) (h : At X 0 (plainI b)) (h' : At X 0 (plainI c)) : b = c := by
  unfold plainI at h h'
  have q := h
  have q' := h'
  simp only [List.cons_append, List.nil_append, At] at q q'
  have e : b.length = c.length := by omega
  have a := ((at_append _ _ _).1 h).2
  have a' := ((at_append _ _ _).1 h').2
  simp only [wN] at a a'
  rw [← List.append_nil (List.map _ b)] at a
  rw [← List.append_nil (List.map _ c)] at a'
  exact nums_one 8 b c _ [] [] e (fun x hx => (hb x hx).1) (fun x hx => (hc x hx).1) a a'
/-- What stands in a block's third bit and its second one: its kind. -/
theorem kind_at {X : Nat} {k : Nat} {r : List (Nat × Nat)} (h : At X 0 ((1, 1) :: (k, 2) :: r)) : at_ X 1 2 = k := h.2.1
theorem plainI_kind (b : List Int) : ∃ r, plainI b = (1, 1) :: (0, 2) :: r := ⟨_, rfl⟩
theorem knownI_kind (l : List S53) : ∃ r, knownI l = (1, 1) :: (1, 2) :: r := ⟨_, rfl⟩
theorem madeI_kind (l : List S53) (a b c d : List Int) : ∃ r, madeI l a b c d = (1, 1) :: (2, 2) :: r := by
  unfold madeI
  simp only [List.cons_append, List.append_assoc]
  exact ⟨_, rfl⟩
end Go.Proofs.Ytlffpaploefljaa.Glue
