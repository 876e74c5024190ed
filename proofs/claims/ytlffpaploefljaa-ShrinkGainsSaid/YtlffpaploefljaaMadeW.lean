/- What a block of lengths of its own is written as; used by the claims of this seat. -/
import Derived.Test.YtlffpaploefljaaTreeAll
import Derived.Test.YtlffpaploefljaaTokW
import Derived.Test.YtlffpaploefljaaSteps
import Derived.Test.YtlffpaploefljaaPx0
import Derived.Test.YtlffpaploefljaaPx1
import Derived.Test.YtlffpaploefljaaPx10
import Derived.Test.YtlffpaploefljaaPx29
import Derived.Test.YtlffpaploefljaaPx39
namespace Go.Proofs.Ytlffpaploefljaa.Glue
open Go.RowKit Go.Proofs.Ytlffpaploefljaa.P Go.Proofs.YtlffpaploefljaaW.PrintWords Go.Proofs.YtlffpaploefljaaW.PrintLast Go.Proofs.YtlffpaploefljaaW.PrintMore
open WP (Row Bytes at_ val wN wX Wrote)
open Go.Proofs.Ytlffpaploefljaa.Tok (LenSym DistSym OkT OkL rdT_mid check_is sizeL sizeT sizeL_ge)
set_option linter.unusedVariables false
set_option linter.unusedSimpArgs false
/-! ### rows of counts -/
def inc (a : List Int) (i : Nat) : List Int := a.set i (wrap64 (rd a (i : Int) + 1))
theorem inc_len (a : List Int) (i : Nat) : (inc a i).length = a.length := List.length_set
theorem rd_put_at (a : List Int) (i j : Nat) (x : Int) : rd (a.set i x) (j : Int) = if i = j ∧ i < a.length then x else rd a (j : Int) := by
  rw [rd_nat, rd_nat]
  simp only [List.getD_eq_getElem?_getD]
  rw [List.getElem?_set]
  by_cases h : i = j
  · subst h
    by_cases h2 : i < a.length
    · simp [h2]
    · simp [h2]
  · simp [h]
def Small (a : List Int) (B : Nat) : Prop := ∀ i, 0 ≤ rd a (i : Nat) ∧ rd a (i : Nat) ≤ (B : Int)
def Mono (a b : List Int) : Prop := ∀ i : Nat, rd a (i : Int) ≤ rd b (i : Int)
theorem Mono.refl (a : List Int) : Mono a a := fun _ => Int.le_refl _
theorem Mono.trans {a b c : List Int} (h : Mono a b) (k : Mono b c) : Mono a c := fun i => Int.le_trans (h i) (k i)
theorem inc_rd {a : List Int} {B i : Nat} (h : Small a B) (hB : B < 100000) (j : Nat) : rd (inc a i) (j : Int) = rd a (j : Int) + if i = j ∧ i < a.length then 1 else 0 := by
  unfold inc
  rw [rd_put_at]
  by_cases hc : i = j ∧ i < a.length
  · rw [if_pos hc, if_pos hc, wrap64_in (by have := (h i).1; omega) (by have := (h i).2; omega), hc.1]
  · rw [if_neg hc, if_neg hc]; omega
theorem inc_small {a : List Int} {B i : Nat} (h : Small a B) (hB : B < 100000) : Small (inc a i) (B + 1) := by
  intro j
  rw [inc_rd h hB]
  have := h j
  split <;> omega
theorem inc_mono {a : List Int} {B i : Nat} (h : Small a B) (hB : B < 100000) : Mono a (inc a i) := by
  intro j
  rw [inc_rd h hB]
  split <;> omega
theorem inc_pos {a : List Int} {B i : Nat} (h : Small a B) (hB : B < 100000) (hi : i < a.length) : 0 < rd (inc a i) (i : Int) := by
  rw [inc_rd h hB, if_pos ⟨rfl, hi⟩]
  have := (h i).1
  omega
theorem small_mono {a : List Int} {B B' : Nat} (h : Small a B) (hB : B ≤ B') : Small a B' := fun i => ⟨(h i).1, by have := (h i).2; omega⟩
theorem zeros_small (n B : Nat) : Small (List.replicate n 0) B := by
  intro i
  rw [rd_nat]
  simp only [List.getD_eq_getElem?_getD, List.getElem?_replicate]
  split <;> simp
theorem small_weighs {a : List Int} {B : Nat} (h : Small a B) (hB : B ≤ 100000) (hl : a.length ≤ 300) : weighs a = true := by
  refine (weighs_iff a).2 ⟨hl, fun x hx => ?_⟩
  obtain ⟨i, hi, rfl⟩ := List.getElem_of_mem hx
  have := h i
  rw [rd_nat, List.getD_eq_getElem?_getD, List.getElem?_eq_getElem hi] at this
  simp only [Option.getD_some] at this
  omega
/-! ### weights of tokens -/
/-- What a token uses is counted. -/
def Uses (a b : List Int) (t : S53) : Prop := if t.f1 = 0 then 0 < rd a t.f0 else 0 < rd a ((lenOf t.f1).1 : Int) ∧ 0 < rd b ((distOf t.f2).1 : Int)
theorem Uses.mono {a b a' b' : List Int} {t : S53} (h0 : 0 ≤ t.f0) (h : Uses a b t) (ha : Mono a a') (hb : Mono b b') : Uses a' b' t := by
  unfold Uses at h ⊢
  split at h
  · rename_i hz
    rw [if_pos hz]
    have := ha t.f0.toNat
    rw [Int.toNat_of_nonneg h0] at this
    omega
  · rename_i hz
    rw [if_neg hz]
    have h1 := ha (lenOf t.f1).1
    have h2 := hb (distOf t.f2).1
    exact ⟨by omega, by omega⟩
theorem wts_loop (l : List S53) (hl : l.length ≤ 5000) : ∀ (us pre : List S53) (B : Nat) (a b : List Int), l = pre ++ us → (∀ t ∈ us, Fine t) → a.length = 286 → b.length = 30 → Small a B → Small b B → B + us.length ≤ 50000 →
    ∃ a' b' : List Int, a'.length = 286 ∧ b'.length = 30 ∧ Small a' (B + us.length) ∧ Small b' (B + us.length) ∧ Mono a a' ∧ Mono b b' ∧ (∀ t ∈ us, Uses a' b' t) ∧
      ∀ k, 500 + us.length ≤ k → sym_Weights.l0 k a b l (l.length : Int) (pre.length : Int) = some (inc a' 256, b', 0)
  | [], pre, B, a, b, e, _, la, lb, sa, sb, _ => by
    refine ⟨a, b, la, lb, sa, sb, Mono.refl _, Mono.refl _, ⟨(fun t h => by cases h), fun k hk => ?_⟩⟩
    obtain ⟨k, rfl⟩ : ∃ m, k = m + 1 := ⟨k - 1, by omega⟩
    rw [sym_Weights.l0, if_neg (by rw [e]; simp), if_pos (by omega)]
    rfl
  | u :: us, pre, B, a, b, e, hf, la, lb, sa, sb, hB => by
    have hlen : pre.length < l.length := by rw [e]; simp
    have hrd : rd_T53 l (pre.length : Int) = u := by rw [e]; exact rdT_mid pre us u
    have hu := hf u List.mem_cons_self
    have hf' : ∀ t ∈ us, Fine t := fun t ht => hf t (List.mem_cons_of_mem _ ht)
    simp only [List.length_cons] at hB
    by_cases h0 : u.f1 = 0
    · obtain ⟨x, hx⟩ := Int.eq_ofNat_of_zero_le hu.1
      have hx2 : x < 256 := by have := hu.2.1; omega
      obtain ⟨a', b', q1, q2, q3, q4, q5, q6, q7, q8⟩ := wts_loop l hl us (pre ++ [u]) (B + 1) (inc a x) b (by rw [e]; simp) hf' (by rw [inc_len]; exact la) lb (inc_small sa (by omega)) (small_mono sb (by omega)) (by omega)
      rw [List.length_append, List.length_singleton] at q8
      refine ⟨a', b', q1, q2, small_mono q3 (by simp; omega), small_mono q4 (by simp; omega), (inc_mono sa (by omega)).trans q5, q6, fun t ht => ?_, fun k hk => ?_⟩
      · rcases List.mem_cons.1 ht with rfl | ht
        · unfold Uses
          rw [if_pos h0, hx]
          have h1 := inc_pos sa (by omega) (show x < a.length by omega)
          have h2 := q5 x
          omega
        · exact q7 t ht
      · simp only [List.length_cons] at hk
        obtain ⟨k, rfl⟩ : ∃ m, k = m + 1 := ⟨k - 1, by omega⟩
        rw [sym_Weights.l0, if_pos (by omega), if_pos (by omega), if_pos (by omega), hrd, if_pos h0, hx, if_pos (by omega), if_pos (by omega), wrap64_in (a := (pre.length : Int) + 1) (by omega) (by omega), Int.toNat_natCast]
        exact q8 k (by omega)
    · have hp : 3 ≤ u.f1 ∧ u.f1 ≤ 258 ∧ 1 ≤ u.f2 ∧ u.f2 ≤ 2048 := by
        rcases hu.2.2 with h | h
        · exact absurd h.1 h0
        · exact h
      obtain ⟨l1, l2⟩ := lenOf_is hp.1 hp.2.1
      obtain ⟨d1, d2⟩ := distOf_is hp.2.2.1 (show u.f2 ≤ 32768 by omega)
      have l3 := l1.le
      have d3 := d1.le
      obtain ⟨a', b', q1, q2, q3, q4, q5, q6, q7, q8⟩ := wts_loop l hl us (pre ++ [u]) (B + 1) (inc a (lenOf u.f1).1) (inc b (distOf u.f2).1) (by rw [e]; simp) hf' (by rw [inc_len]; exact la) (by rw [inc_len]; exact lb) (inc_small sa (by omega)) (inc_small sb (by omega)) (by omega)
      rw [List.length_append, List.length_singleton] at q8
      refine ⟨a', b', q1, q2, small_mono q3 (by simp; omega), small_mono q4 (by simp; omega), (inc_mono sa (by omega)).trans q5, (inc_mono sb (by omega)).trans q6, fun t ht => ?_, fun k hk => ?_⟩
      · rcases List.mem_cons.1 ht with rfl | ht
        · unfold Uses
          rw [if_neg h0]
          have h1 := inc_pos sa (by omega) (show (lenOf t.f1).1 < a.length by omega)
          have h2 := q5 (lenOf t.f1).1
          have h3 := inc_pos sb (by omega) (show (distOf t.f2).1 < b.length by omega)
          have h4 := q6 (distOf t.f2).1
          exact ⟨by omega, by omega⟩
        · exact q7 t ht
      · simp only [List.length_cons] at hk
        obtain ⟨k, rfl⟩ : ∃ m, k = m + 1 := ⟨k - 1, by omega⟩
        obtain ⟨k4, hk4⟩ : ∃ k4, k = k4 + 400 := ⟨k - 400, by omega⟩
        have hL : sym_Len.f k u.f1 = some (((lenOf u.f1).1 : Int), ((lenOf u.f1).2.1 : Int), ((lenOf u.f1).2.2 : Int), 0) := at_rounds (g := fun k => sym_Len.f k u.f1) (fun k => sym_Len.mono _ k) (show 400 ≤ k by omega) l2
        have hD : sym_Dist.f k u.f2 = some (((distOf u.f2).1 : Int), ((distOf u.f2).2.1 : Int), ((distOf u.f2).2.2 : Int), 0) := at_rounds (g := fun k => sym_Dist.f k u.f2) (fun k => sym_Dist.mono _ k) (show 400 ≤ k by omega) d2
        rw [sym_Weights.l0, if_pos (by omega), if_pos (by omega), if_pos (by omega), hrd, if_neg h0, hL, Option.bind_some, hD, Option.bind_some]
        dsimp only
        rw [if_pos (by omega), if_pos (by omega), if_pos (by omega), if_pos (by omega), wrap64_in (a := (pre.length : Int) + 1) (by omega) (by omega), Int.toNat_natCast, Int.toNat_natCast]
        exact q8 k (by omega)
theorem wts_is (l : List S53) (hl : l.length ≤ 5000) (h : OkL l 0) (hf : ∀ t ∈ l, Fine t) (hs : sizeL l ≤ 4096) : ∃ a b : List Int, sym_Weights.f 20000 l = some (a, b, 0) ∧ a.length = 286 ∧ b.length = 30 ∧ Small a 6000 ∧ Small b 6000 ∧ 0 < rd a 256 ∧ ∀ t ∈ l, Uses a b t := by
  obtain ⟨a', b', q1, q2, q3, q4, q5, q6, q7, q8⟩ := wts_loop l hl l [] 0 (List.replicate 286 0) (List.replicate 30 0) rfl hf List.length_replicate List.length_replicate (zeros_small 286 0) (zeros_small 30 0) (by omega)
  refine ⟨inc a' 256, b', ?_, by rw [inc_len]; exact q1, q2, small_mono (inc_small q3 (by omega)) (by omega), small_mono q4 (by omega), inc_pos q3 (by omega) (by omega), fun t ht => (q7 t ht).mono (hf t ht).1 (inc_mono q3 (by omega)) (Mono.refl _)⟩
  unfold sym_Weights.f
  rw [check_is l (by omega) h hs 20000 (by omega), Option.bind_some, if_pos rfl, if_pos (by omega), if_pos (by omega)]
  exact q8 20000 (by omega)
/-! ### lengths of weights -/
theorem lens_made {ws : List Int} {lim : Int} (h : weighs ws = true) (h15 : lim ≤ 15) (hl : 9 ≤ lim ∨ (5 ≤ lim ∧ pos ws ≤ 19)) :
    ∃ la, tree_Lengths.f ws lim = some (la, 0) ∧ la.length = ws.length ∧ canon_Check.f la = some 0 ∧ (∀ j : Nat, 0 < ws.getD j 0 → 0 < la.getD j 0) ∧ ∀ v ∈ la, 0 ≤ v ∧ v ≤ lim := by
  obtain ⟨ws', a1, a2, a3, a4, a5⟩ := lens_ok h h15 hl
  refine ⟨onceOf ws', a1, by rw [once_length, a3], once_check ws' a2 (fun v hv => by have := a5 v hv; omega), fun j hj => ?_, a5⟩
  have hjl : j < ws'.length := by
    apply Classical.byContradiction
    intro hn
    rw [List.getD_eq_getElem?_getD, List.getElem?_eq_none (by omega)] at hj
    simp at hj
  have := (once_has ws' a2 hjl).2 ((a4 j).2 hj)
  rw [rd_nat] at this
  exact this
/-! ### lengths without the noughts at their end -/
theorem less_is (most : Nat) (hm : most < 1000) : ∀ (k : Nat) (l : List Int), l.length < k → l.length ≤ 1000 → ∃ n, shrink_less.l0 k l (most : Int) = some (l.take n) ∧ n ≤ l.length ∧ (most ≤ n ∨ n = l.length) ∧ ∀ j, n ≤ j → l.getD j 0 = 0 := by
  intro k
  induction k with
  | zero => intro l h; omega
  | succ k ih =>
    intro l h hl
    have hout : ∀ j, l.length ≤ j → l.getD j 0 = 0 := fun j hj => by rw [List.getD_eq_getElem?_getD, List.getElem?_eq_none hj]; rfl
    rw [shrink_less.l0]
    by_cases hgt : most < l.length
    · rw [if_pos (by omega), wrap64_in (by omega) (by omega), show (l.length : Int) - 1 = ((l.length - 1 : Nat) : Int) from by omega, if_pos (by omega), if_pos (by omega), rd_nat, Int.toNat_natCast]
      by_cases hz : l.getD (l.length - 1) 0 = 0
      · rw [if_pos hz, if_pos (by omega)]
        obtain ⟨n, h1, h2, h3, h4⟩ := ih (l.take (l.length - 1)) (by rw [List.length_take]; omega) (by rw [List.length_take]; omega)
        rw [List.length_take] at h2 h3
        refine ⟨n, by rw [h1, List.take_take, Nat.min_eq_left (by omega)], by omega, by omega, fun j hj => ?_⟩
        by_cases hj2 : j < l.length - 1
        · have := h4 j hj
          rw [List.getD_eq_getElem?_getD, List.getElem?_take_of_lt hj2, ← List.getD_eq_getElem?_getD] at this
          exact this
        · by_cases hj3 : j = l.length - 1
          · rw [hj3]; exact hz
          · exact hout j (by omega)
      · rw [if_neg hz]
        exact ⟨l.length, by rw [List.take_length], Nat.le_refl _, .inr rfl, hout⟩
    · rw [if_neg (by omega)]
      exact ⟨l.length, by rw [List.take_length], Nat.le_refl _, .inr rfl, hout⟩
theorem check_front (l : List Int) : ∀ d, canon_Check.f (l ++ List.replicate d 0) = some 0 → canon_Check.f l = some 0
  | 0, h => by simpa using h
  | d + 1, h => by
    rw [List.replicate_succ', ← List.append_assoc] at h
    refine check_front l d ?_
    generalize l ++ List.replicate d 0 = m at h
    obtain ⟨h1, h2⟩ := (check_iff _).1 h
    have e : (fun n => (symsTo (m ++ [0]) (m ++ [0]).length n).length) = fun n => (symsTo m m.length n).length := by
      funext n
      have := snoc_cnt m 0 n
      unfold cnt at this
      rw [this, if_neg (by omega)]
      rfl
    refine (check_iff m).2 ⟨?_, ?_⟩
    · obtain ⟨h3, h4⟩ := (rightB_iff _).1 h1
      exact (rightB_iff m).2 ⟨by rw [List.length_append] at h3; omega, fun x hx => h4 x (List.mem_append_left _ hx)⟩
    · unfold makesB cW cA at h2 ⊢
      rw [e] at h2
      have e1 : (symsTo (m ++ [0]) (m ++ [0]).length 1).length = (symsTo m m.length 1).length := congrFun e 1
      rw [e1] at h2
      exact h2
theorem take_zeros {l : List Int} {n : Nat} (hn : n ≤ l.length) (hz : ∀ j, n ≤ j → l.getD j 0 = 0) : l = l.take n ++ List.replicate (l.length - n) 0 := by
  apply List.ext_getElem?
  intro i
  by_cases hi : i < n
  · rw [List.getElem?_append_left (by rw [List.length_take]; omega), List.getElem?_take_of_lt hi]
  · rw [List.getElem?_append_right (by rw [List.length_take]; omega), List.length_take, Nat.min_eq_left hn, List.getElem?_replicate]
    by_cases hl : i < l.length
    · rw [if_pos (by omega)]
      have := hz i (by omega)
      rw [List.getD_eq_getElem?_getD, List.getElem?_eq_getElem hl] at this
      rw [List.getElem?_eq_getElem hl, ← this]
      rfl
    · rw [if_neg (by omega), List.getElem?_eq_none (by omega)]
theorem take_getD (l : List Int) {n j : Nat} (h : j < n) : (l.take n).getD j 0 = l.getD j 0 := by
  rw [List.getD_eq_getElem?_getD, List.getElem?_take_of_lt h, ← List.getD_eq_getElem?_getD]
theorem has_take {l : List Int} {n j : Nat} (hz : ∀ j, n ≤ j → l.getD j 0 = 0) (h : 0 < l.getD j 0) : Has (l.take n) j := by
  have hjl : j < l.length := by
    apply Classical.byContradiction
    intro hn
    rw [List.getD_eq_getElem?_getD, List.getElem?_eq_none (by omega)] at h
    simp at h
  have hjn : j < n := by
    apply Classical.byContradiction
    intro hn
    have := hz j (by omega)
    omega
  exact ⟨by rw [List.length_take]; omega, by rw [take_getD l hjn]; exact h⟩
/-! ### the row of lengths, and the lengths' own -/
theorem met_is : ∀ (S : List (Int × Int × Int × Int)) (m : List Int) (B : Nat), (∀ t ∈ S, 0 ≤ t.1 ∧ t.1 ≤ 18) → m.length = 19 → Small m B → B + S.length ≤ 50000 →
    ∃ m', metL (S.map toS) m = some m' ∧ m'.length = 19 ∧ Small m' (B + S.length) ∧ Mono m m' ∧ ∀ t ∈ S, 0 < rd m' t.1
  | [], m, B, _, hm, hs, _ => ⟨m, rfl, hm, hs, Mono.refl _, fun t h => by cases h⟩
  | t :: S, m, B, ht, hm, hs, hB => by
    rw [List.length_cons] at hB
    have h0 := ht t List.mem_cons_self
    obtain ⟨q, hq⟩ := Int.eq_ofNat_of_zero_le h0.1
    obtain ⟨m', h1, h2, h3, h4, h5⟩ := met_is S (inc m q) (B + 1) (fun u hu => ht u (List.mem_cons_of_mem _ hu)) (by rw [inc_len]; exact hm) (inc_small hs (by omega)) (by omega)
    refine ⟨m', ?_, h2, small_mono h3 (by rw [List.length_cons]; omega), (inc_mono hs (by omega)).trans h4, fun u hu => ?_⟩
    · simp only [List.map_cons, metL, toS]
      rw [hq, if_pos ⟨by omega, by omega⟩, Int.toNat_natCast]
      exact h1
    · rcases List.mem_cons.1 hu with rfl | hu
      · rw [hq]
        have h6 := inc_pos hs (by omega) (show q < m.length by omega)
        have h7 := h4 q
        omega
      · exact h5 u hu
theorem lens3_is : ∀ (l : List Int) (s : List Int × Nat) (it : List (Nat × Nat)), (∀ x ∈ l, 0 ≤ x ∧ x ≤ 15) → PenW s it → wN it + 3 * l.length ≤ 900000000 → ∃ s', lens3 l s = some s' ∧ PenW s' (it ++ l.map (fun x => (x.toNat, 3)))
  | [], s, it, _, h, _ => ⟨s, rfl, by simpa using h⟩
  | x :: l, s, it, hx, h, hl => by
    rw [List.length_cons] at hl
    have h0 := hx x List.mem_cons_self
    obtain ⟨s1, e1, w1⟩ := h.more (v := x.toNat) (n := 3) (by omega) (by decide) (by omega)
    obtain ⟨s2, e2, w2⟩ := lens3_is l s1 _ (fun y hy => hx y (List.mem_cons_of_mem _ hy)) w1 (by rw [WP.wN_append]; simp only [wN]; omega)
    refine ⟨s2, ?_, by simpa using w2⟩
    simp only [lens3]
    rw [← Int.toNat_of_nonneg h0.1, show (3 : Int) = ((3 : Nat) : Int) from rfl, e1, Option.bind_some]
    exact e2
/-- What a symbol of a row is written as. -/
def stepI (own : List Int) (t : Int × Int × Int × Int) : List (Nat × Nat) := [codeI own t.1.toNat, (t.2.1.toNat, t.2.2.1.toNat)]
theorem seq_is {own : List Int} (hm : Makes own) : ∀ (S : List (Int × Int × Int × Int)) (s : List Int × Nat) (it : List (Nat × Nat)), (∀ t ∈ S, 0 ≤ t.1 ∧ Has own t.1.toNat ∧ ∃ x n : Nat, t.2.1 = (x : Int) ∧ t.2.2.1 = (n : Int) ∧ x < 2 ^ n ∧ n ≤ 7) → PenW s it → wN it + 30 * S.length ≤ 900000000 →
    ∃ s', seqL (codesL own) own (S.map toS) s = some s' ∧ PenW s' (it ++ S.flatMap (stepI own)) ∧ wN (it ++ S.flatMap (stepI own)) ≤ wN it + 30 * S.length
  | [], s, it, _, h, _ => ⟨s, rfl, by simpa using h, by simp⟩
  | t :: S, s, it, ht, h, hl => by
    rw [List.length_cons] at hl
    obtain ⟨h0, hh, x, n, hx, hn, hxn, hn7⟩ := ht t List.mem_cons_self
    have hp7 : 2 ^ n ≤ 2 ^ 7 := Nat.pow_le_pow_right (by decide) hn7
    have hc := codeI_le hm hh
    obtain ⟨s1, e1, w1⟩ := code_is hm hh h (by omega)
    obtain ⟨s2, e2, w2⟩ := w1.more (v := x) (n := n) (by omega) (by omega) (by rw [WP.wN_append]; simp only [wN]; omega)
    have e12 : it ++ [codeI own t.1.toNat] ++ [(x, n)] = it ++ stepI own t := by
      unfold stepI
      rw [hx, hn, Int.toNat_natCast, Int.toNat_natCast]
      simp
    rw [e12] at w2
    have hN : wN (it ++ stepI own t) ≤ wN it + 30 := by
      rw [← e12, WP.wN_append, WP.wN_append]
      simp only [wN]
      omega
    obtain ⟨s3, e3, w3, n3⟩ := seq_is hm S s2 _ (fun u hu => ht u (List.mem_cons_of_mem _ hu)) w2 (by omega)
    refine ⟨s3, ?_, by simpa using w3, ?_⟩
    · simp only [List.map_cons, seqL, toS]
      rw [Int.toNat_of_nonneg h0] at e1
      rw [e1, Option.bind_some, hx, hn, e2, Option.bind_some]
      exact e3
    · rw [List.flatMap_cons, ← List.append_assoc, List.length_cons]
      omega
/-- What a block of lengths of its own is made of. -/
structure MadeOk (l : List S53) (lits dists own turned : List Int) : Prop where
  cl : canon_Check.f lits = some 0
  cd : canon_Check.f dists = some 0
  co : canon_Check.f own = some 0
  llen : 257 ≤ lits.length ∧ lits.length ≤ 286
  dlen : 1 ≤ dists.length ∧ dists.length ≤ 30
  olen : own.length = 19
  o7 : ∀ x ∈ own, 0 ≤ x ∧ x ≤ 7
  turn : ∃ n, turned = (ord19.map (rd own)).take n ∧ 4 ≤ n ∧ n ≤ 19 ∧ ∀ j, n ≤ j → (ord19.map (rd own)).getD j 0 = 0
  stop : Has lits 256
  toks : ∀ t ∈ l, TokHas lits dists t
  row : ∀ t ∈ RowSteps.steps (lits ++ dists).length (-1) (lits ++ dists), Has own t.1.toNat
def madeI (l : List S53) (lits dists own turned : List Int) : List (Nat × Nat) :=
  [(1, 1), (2, 2), (lits.length - 257, 5), (dists.length - 1, 5), (turned.length - 4, 4)] ++ turned.map (fun x => (x.toNat, 3)) ++ (RowSteps.steps (lits ++ dists).length (-1) (lits ++ dists)).flatMap (stepI own) ++ bodyI l lits dists
theorem steps_fit : ∀ (f : Nat) (a : Int) (l : List Int), (∀ x ∈ l, 0 ≤ x ∧ x ≤ 15) → ∀ t ∈ RowSteps.steps f a l, 0 ≤ t.1 ∧ t.1 ≤ 18 ∧ ∃ x n : Nat, t.2.1 = (x : Int) ∧ t.2.2.1 = (n : Int) ∧ x < 2 ^ n ∧ n ≤ 7
  | 0, a, l, _, t, ht => by simp [RowSteps.steps] at ht
  | f + 1, a, [], _, t, ht => by simp [RowSteps.steps] at ht
  | f + 1, a, v :: q, hx, t, ht => by
    simp only [RowSteps.steps] at ht
    rcases List.mem_cons.1 ht with rfl | ht
    · have hf := RowSteps.next_fit v a (RowSteps.run v q + 1) (by omega) (hx v List.mem_cons_self)
      exact ⟨hf.sym.1, hf.sym.2, hf.more⟩
    · exact steps_fit f v _ (fun x h => hx x (List.mem_of_mem_drop h)) t ht
theorem steps_len : ∀ (f : Nat) (a : Int) (l : List Int), (∀ x ∈ l, 0 ≤ x ∧ x ≤ 15) → (RowSteps.steps f a l).length ≤ l.length
  | 0, a, l, _ => by simp [RowSteps.steps]
  | f + 1, a, [], _ => by simp [RowSteps.steps]
  | f + 1, a, v :: t, hx => by
    have hf := RowSteps.next_fit v a (RowSteps.run v t + 1) (by omega) (hx v List.mem_cons_self)
    obtain ⟨m, hm, h1, h2⟩ := hf.runs
    simp only [RowSteps.steps, List.length_cons]
    have := steps_len f v ((v :: t).drop (RowSteps.stepOf v a (RowSteps.run v t + 1)).2.2.2.toNat) (fun x h => hx x (List.mem_of_mem_drop h))
    rw [List.length_drop, hm, Int.toNat_natCast, List.length_cons] at this
    rw [hm, Int.toNat_natCast]
    omega
/-- What a block of lengths of its own is written as. -/
theorem made_is (l : List S53) (hl : l.length ≤ 4096) (h : OkL l 0) (hf : ∀ t ∈ l, Fine t) (hs : sizeL l ≤ 4096) :
    ∃ s lits dists own turned, madeS l = some s ∧ MadeOk l lits dists own turned ∧ PenW s (madeI l lits dists own turned) ∧ wN (madeI l lits dists own turned) ≤ 400000 := by
  obtain ⟨s0, e0, w0⟩ := begin_is 2 (by decide)
  obtain ⟨wa, wb, ew, la1, lb1, sa, sb, h256, hu⟩ := wts_is l (by omega) h hf hs
  obtain ⟨la, ea, la2, la3, la4, la5⟩ := lens_made (small_weighs sa (by omega) (by omega)) (show (15 : Int) ≤ 15 by omega) (.inl (by omega))
  obtain ⟨lb, eb, lb2, lb3, lb4, lb5⟩ := lens_made (small_weighs sb (by omega) (by omega)) (show (15 : Int) ≤ 15 by omega) (.inl (by omega))
  obtain ⟨na, fa, na1, na2, na3⟩ := less_is 257 (by decide) 400 la (by omega) (by omega)
  obtain ⟨nb, fb, nb1, nb2, nb3⟩ := less_is 1 (by decide) 400 lb (by omega) (by omega)
  have cl : canon_Check.f (la.take na) = some 0 := check_front _ (la.length - na) (by rw [← take_zeros na1 na3]; exact la3)
  have cd : canon_Check.f (lb.take nb) = some 0 := check_front _ (lb.length - nb) (by rw [← take_zeros nb1 nb3]; exact lb3)
  have hla : (la.take na).length = na := by rw [List.length_take]; omega
  have hlb : (lb.take nb).length = nb := by rw [List.length_take]; omega
  have hx : ∀ x ∈ la.take na ++ lb.take nb, 0 ≤ x ∧ x ≤ 15 := fun x hx => by
    rcases List.mem_append.1 hx with hx | hx
    · have := la5 x (List.mem_of_mem_take hx); omega
    · have := lb5 x (List.mem_of_mem_take hx); omega
  have hlen : (la.take na ++ lb.take nb).length = na + nb := by rw [List.length_append, hla, hlb]
  have hst := steps_is (la.take na ++ lb.take nb) (by omega) hx 200000 (by omega)
  have hfit := steps_fit (la.take na ++ lb.take nb).length (-1) (la.take na ++ lb.take nb) hx
  have hsl := steps_len (la.take na ++ lb.take nb).length (-1) (la.take na ++ lb.take nb) hx
  obtain ⟨S, hS⟩ : ∃ S, S = RowSteps.steps (la.take na ++ lb.take nb).length (-1) (la.take na ++ lb.take nb) := ⟨_, rfl⟩
  rw [← hS] at hst hfit hsl
  obtain ⟨met, em, ml, ms, _, mu⟩ := met_is S (List.replicate 19 0) 0 (fun t ht => ⟨(hfit t ht).1, (hfit t ht).2.1⟩) (by simp) (zeros_small 19 0) (by omega)
  obtain ⟨own, eo, lo2, lo3, lo4, lo5⟩ := lens_made (small_weighs ms (by omega) (by omega)) (show (7 : Int) ≤ 15 by omega) (.inr ⟨by omega, by have := pos_le met; omega⟩)
  have hO : (ord19.map (rd own)).length = 19 := by rw [List.length_map]; rfl
  obtain ⟨nt, ft, nt1, nt2, nt3⟩ := less_is 4 (by decide) 400 (ord19.map (rd own)) (by omega) (by omega)
  have hT : ((ord19.map (rd own)).take nt).length = nt := by rw [List.length_take]; omega
  have ht7 : ∀ x ∈ (ord19.map (rd own)).take nt, 0 ≤ x ∧ x ≤ 15 := fun x hx => by
    obtain ⟨j, hj, rfl⟩ := List.mem_map.1 (List.mem_of_mem_take hx)
    have hj19 : 0 ≤ j ∧ j < 19 := by
      have : ∀ y ∈ ord19, 0 ≤ y ∧ y < 19 := by decide
      exact this j hj
    obtain ⟨q, rfl⟩ := Int.eq_ofNat_of_zero_le hj19.1
    rw [rd_nat]
    have := lo5 _ (getD_mem (l := own) (j := q) (by omega))
    omega
  have hown : ∀ t ∈ S, Has own t.1.toNat := fun t ht => by
    have h1 := mu t ht
    obtain ⟨q, hq⟩ := Int.eq_ofNat_of_zero_le (hfit t ht).1
    have h2 := (hfit t ht).2.1
    rw [hq, rd_nat] at h1
    rw [hq, Int.toNat_natCast]
    exact ⟨by omega, lo4 q h1⟩
  have hok : MadeOk l (la.take na) (lb.take nb) own ((ord19.map (rd own)).take nt) := by
    refine ⟨cl, cd, lo3, by omega, by omega, by omega, fun x hx => lo5 x hx, ⟨nt, rfl, by omega, by omega, nt3⟩, ?_, fun t ht => ?_, by rw [← hS]; exact hown⟩
    · refine has_take na3 (la4 256 ?_)
      have := rd_nat wa 256
      rw [show ((256 : Nat) : Int) = 256 from rfl] at this
      rw [← this]
      exact h256
    · have h1 := hu t ht
      have h2 := hf t ht
      unfold Uses at h1
      unfold TokHas
      split at h1
      · rename_i hz
        rw [if_pos hz]
        refine has_take na3 (la4 _ ?_)
        rw [← rd_nat, Int.toNat_of_nonneg h2.1]
        exact h1
      · rename_i hz
        rw [if_neg hz]
        refine ⟨has_take na3 (la4 _ ?_), has_take nb3 (lb4 _ ?_)⟩
        · rw [← rd_nat]; exact h1.1
        · rw [← rd_nat]; exact h1.2
  obtain ⟨s1, e1, w1⟩ := w0.more (v := na - 257) (n := 5) (by omega) (by decide) (by decide)
  obtain ⟨s2, e2, w2⟩ := w1.more (v := nb - 1) (n := 5) (by omega) (by decide) (by simp only [List.cons_append, List.nil_append, wN]; decide)
  obtain ⟨s3, e3, w3⟩ := w2.more (v := nt - 4) (n := 4) (by omega) (by decide) (by simp only [List.cons_append, List.nil_append, wN]; decide)
  simp only [List.cons_append, List.nil_append] at w3
  obtain ⟨s4, e4, w4⟩ := lens3_is ((ord19.map (rd own)).take nt) s3 _ ht7 w3 (by simp only [wN]; omega)
  have hmap3 : ∀ l : List Int, wN (l.map (fun x => (x.toNat, 3))) = 3 * l.length := fun l => by
    induction l with
    | nil => rfl
    | cons c b ih => simp only [List.map_cons, wN, ih, List.length_cons]; omega
  have n4 : wN ([(1, 1), (2, 2), (na - 257, 5), (nb - 1, 5), (nt - 4, 4)] ++ ((ord19.map (rd own)).take nt).map (fun x => (x.toNat, 3))) ≤ 100 := by
    rw [WP.wN_append, hmap3]; simp only [wN]; omega
  obtain ⟨s5, e5, w5, n5⟩ := seq_is (makes_of lo3) S s4 _ (fun t ht => ⟨(hfit t ht).1, hown t ht, (hfit t ht).2.2⟩) w4 (by omega)
  obtain ⟨s6, e6, w6, n6⟩ := body_is cl cd hok.stop (fun t ht => ⟨hf t ht, hok.toks t ht⟩) w5 (by omega)
  refine ⟨s6, _, _, _, _, ?_, hok, ?_, ?_⟩
  · unfold madeS
    rw [show (2 : Int) = ((2 : Nat) : Int) from rfl, e0, Option.bind_some, ew, Option.bind_some]
    simp only
    rw [ea, Option.bind_some, eb, Option.bind_some]
    unfold shrink_less.f
    simp only
    rw [show (257 : Int) = ((257 : Nat) : Int) from rfl, fa, Option.bind_some, show (1 : Int) = ((1 : Nat) : Int) from rfl, fb, Option.bind_some, if_pos (by omega), hst, Option.bind_some]
    unfold madeB
    rw [if_pos (by rw [List.length_map]; omega), em, Option.bind_some, eo, Option.bind_some]
    simp only
    rw [if_pos (by omega)]
    unfold shrink_less.f
    rw [show (4 : Int) = ((4 : Nat) : Int) from rfl, ft, Option.bind_some]
    unfold madeC
    rw [if_pos (by omega), hla, hlb, hT, wrap64_in (a := (na : Int) - 256) (by omega) (by omega), wrap64_in (by omega) (by omega), wrap64_in (by omega) (by omega), wrap64_in (by omega) (by omega), show (na : Int) - 256 - 1 = ((na - 257 : Nat) : Int) from by omega, show (nb : Int) - 1 = ((nb - 1 : Nat) : Int) from by omega, show (nt : Int) - 4 = ((nt - 4 : Nat) : Int) from by omega, show (5 : Int) = ((5 : Nat) : Int) from rfl, show (4 : Int) = ((4 : Nat) : Int) from rfl, e1, Option.bind_some, e2, Option.bind_some, e3, Option.bind_some, e4, Option.bind_some]
    unfold canon_Codes.f
    rw [lo3, Option.bind_some, if_pos rfl, Option.bind_some, e5, Option.bind_some]
    exact e6
  · unfold madeI
    rw [hla, hlb, hT, ← hS]
    exact w6
  · unfold madeI
    rw [hla, hlb, hT, ← hS]
    omega
end Go.Proofs.Ytlffpaploefljaa.Glue
