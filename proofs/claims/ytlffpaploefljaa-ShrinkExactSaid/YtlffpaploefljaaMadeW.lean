/- What a block of lengths of its own is written as; used by the claims of this seat. -/
import Derived.Test.YtlffpaploefljaaTreeAll
import Derived.Test.YtlffpaploefljaaTokW
import Derived.Test.YtlffpaploefljaaSteps
import Derived.Test.YtlffpaploefljaaPx0
import Derived.Test.YtlffpaploefljaaPx39
import Derived.Test.YtlffpaploefljaaPx5
import Derived.Test.YtlffpaploefljaaPx38
import Derived.Test.YtlffpaploefljaaPx23
namespace Go.Proofs.Ytlffpaploefljaa.Glue
open Go.RowKit Go.Proofs.Ytlffpaploefljaa.P Go.Proofs.YtlffpaploefljaaW.PrintWords Go.Proofs.YtlffpaploefljaaW.PrintLast Go.Proofs.YtlffpaploefljaaW.PrintMore
open WP (Row Bytes at_ val wN wX Wrote)
open Go.Proofs.Ytlffpaploefljaa.Tok (LenSym DistSym OkT OkL rdT_mid check_is sizeL sizeT sizeL_ge)
set_option linter.unusedVariables false
set_option linter.unusedSimpArgs false
/-! ### rows of counts -/
def inc (a : List Int) (i : Nat) : List Int := a.set i (wrap64 (rd a (i : Int) + 1))
theorem inc_len (a : List Int) (i : Nat) : (inc a i).length = a.length := List.length_set
theorem rd_put_at (a : List Int) (i j : Nat) (x : Int) : rd (a.set i x) (j : Int) = if i = j ∧ i < a.length then x else rd a (j : Int) := by
  rw [rd_nat, rd_nat]
  simp only [List.getD_eq_getElem?_getD]
  rw [List.getElem?_set]
  by_cases h : i = j
  · subst h
    by_cases h2 : i < a.length
    · simp [h2]
    · simp [h2]
  · simp [h]
def Small (a : List Int) (B : Nat) : Prop := ∀ i, 0 ≤ rd a (i : Nat) ∧ rd a (i : Nat) ≤ (B : Int)
def Mono (a b : List Int) : Prop := ∀ i : Nat, rd a (i : Int) ≤ rd b (i : Int)
theorem Mono.refl (a : List Int) : Mono a a := fun _ => Int.le_refl _
theorem Mono.trans {a b c : List Int} (h : Mono a b) (k : Mono b c) : Mono a c := fun i => Int.le_trans (h i) (k i)
theorem inc_rd {a : List Int} {B i : Nat} (h : Small a B) (hB : B < 100000) (j : Nat) : rd (inc a i) (j : Int) = rd a (j : Int) + if i = j ∧ i < a.length then 1 else 0 := by
  unfold inc
  rw [rd_put_at]
  by_cases hc : i = j ∧ i < a.length
  · rw [if_pos hc, if_pos hc, wrap64_in (by have := (h i).1; omega) (by have := (h i).2; omega), hc.1]
  · rw [if_neg hc, if_neg hc]; omega
theorem inc_small {a : List Int} {B i : Nat} (h : Small a B) (hB : B < 100000) : Small (inc a i) (B + 1) := by
  intro j
  rw [inc_rd h hB]
  have := h j
  split <;> omega
theorem inc_mono {a : List Int} {B i : Nat} (h : Small a B) (hB : B < 100000) : Mono a (inc a i) := by
  intro j
  rw [inc_rd h hB]
  split <;> omega
theorem inc_pos {a : List Int} {B i : Nat} (h : Small a B) (hB : B < 100000) (hi : i < a.length) : 0 < rd (inc a i) (i : Int) := by
  rw [inc_rd h hB, if_pos ⟨rfl, hi⟩]
  have := (h i).1
  omega
theorem small_mono {a : List Int} {B B' : Nat} (h : Small a B) (hB : B ≤ B') : Small a B' := fun i => ⟨(h i).1, by have := (h i).2; omega⟩
theorem zeros_small (n B : Nat) : Small (List.replicate n 0) B := by
  intro i
  rw [rd_nat]
  simp only [List.getD_eq_getElem?_getD, List.getElem?_replicate]
  split <;> simp
theorem small_weighs {a : List Int} {B : Nat} (h : Small a B) (hB : B ≤ 100000) (hl : a.length ≤ 300) : weighs a = true := by
  refine (weighs_iff a).2 ⟨hl, fun x hx => ?_⟩
  obtain ⟨i, hi, rfl⟩ := List.getElem_of_mem hx
  have := h i
  rw [rd_nat, List.getD_eq_getElem?_getD, List.getElem?_eq_getElem hi] at this
  simp only [Option.getD_some] at this
  omega
/-! ### weights of tokens -/
/-- What a token uses is counted. -/
def Uses (a b : List Int) (t : S53) : Prop := if t.f1 = 0 then 0 < rd a t.f0 else 0 < rd a ((lenOf t.f1).1 : Int) ∧ 0 < rd b ((distOf t.f2).1 : Int)
theorem Uses.mono {a b a' b' : List Int} {t : S53} (h0 : 0 ≤ t.f0) (h : Uses a b t) (ha : Mono a a') (hb : Mono b b') : Uses a' b' t := by
  unfold Uses at h ⊢
  split at h
  · rename_i hz
    rw [if_pos hz]
    have := ha t.f0.toNat
    rw [Int.toNat_of_nonneg h0] at this
    omega
  · rename_i hz
    rw [if_neg hz]
    have h1 := ha (lenOf t.f1).1
    have h2 := hb (distOf t.f2).1
    exact ⟨by omega, by omega⟩
/-- The weights that a token adds to. -/
def stepW (ab : List Int × List Int) (t : S53) : List Int × List Int := if t.f1 = 0 then (inc ab.1 t.f0.toNat, ab.2) else (inc ab.1 (lenOf t.f1).1, inc ab.2 (distOf t.f2).1)
theorem stepW_len (ab : List Int × List Int) (t : S53) : (stepW ab t).1.length = ab.1.length ∧ (stepW ab t).2.length = ab.2.length := by
  unfold stepW
  split
  · exact ⟨inc_len _ _, rfl⟩
  · exact ⟨inc_len _ _, inc_len _ _⟩
theorem foldW_len : ∀ (ts : List S53) (ab : List Int × List Int), (ts.foldl stepW ab).1.length = ab.1.length ∧ (ts.foldl stepW ab).2.length = ab.2.length
  | [], _ => ⟨rfl, rfl⟩
  | t :: ts, ab => by
    have h := foldW_len ts (stepW ab t)
    have h2 := stepW_len ab t
    exact ⟨h.1.trans h2.1, h.2.trans h2.2⟩
/-- The weights of tokens, and of their end, as the reference adds them. -/
def wtsR (ts : List S53) : List Int × List Int := ts.foldl stepW ((List.replicate 286 0).set 256 1, List.replicate 30 0)
theorem fine_in {t : S53} (h : Fine t) : (t.f1 = 0 ∧ t.f0.toNat < 256) ∨ (t.f1 ≠ 0 ∧ 257 ≤ (lenOf t.f1).1 ∧ (lenOf t.f1).1 < 286 ∧ (distOf t.f2).1 < 30 ∧ sym_Len.f 400 t.f1 = some (((lenOf t.f1).1 : Int), ((lenOf t.f1).2.1 : Int), ((lenOf t.f1).2.2 : Int), 0) ∧ sym_Dist.f 400 t.f2 = some (((distOf t.f2).1 : Int), ((distOf t.f2).2.1 : Int), ((distOf t.f2).2.2 : Int), 0)) := by
  by_cases h0 : t.f1 = 0
  · exact .inl ⟨h0, by have := h.1; have := h.2.1; omega⟩
  · have hp : 3 ≤ t.f1 ∧ t.f1 ≤ 258 ∧ 1 ≤ t.f2 ∧ t.f2 ≤ 2048 := by
      rcases h.2.2 with h | h
      · exact absurd h.1 h0
      · exact h
    obtain ⟨l1, l2⟩ := lenOf_is hp.1 hp.2.1
    obtain ⟨d1, d2⟩ := distOf_is hp.2.2.1 (show t.f2 ≤ 32768 by omega)
    exact .inr ⟨h0, l1.le.1, by have := l1.le; omega, by have := d1.le; omega, l2, d2⟩
theorem fold_is : ∀ (ts : List S53) (ab : List Int × List Int), (∀ t ∈ ts, Fine t) → wfold ts ab = some (ts.foldl stepW ab)
  | [], _, _ => rfl
  | t :: ts, ab, hf => by
    have hs : wstep ab t = some (stepW ab t) := by
      have h := hf t List.mem_cons_self
      unfold wstep stepW
      rcases fine_in h with ⟨h0, h1⟩ | ⟨h0, h1, h2, h3, h4, h5⟩
      · rw [if_pos h0, if_pos h0, if_pos ⟨h.1, h.2.1⟩]
        rfl
      · rw [if_neg h0, if_neg h0, h4, Option.bind_some, h5, Option.bind_some]
        dsimp only
        rw [if_pos ⟨by omega, by omega, by omega, by omega⟩, Int.toNat_natCast, Int.toNat_natCast]
        rfl
    show (wstep ab t).bind (wfold ts) = _
    rw [hs, Option.bind_some, fold_is ts _ (fun u hu => hf u (List.mem_cons_of_mem _ hu))]
    rfl
theorem inc_comm (a : List Int) {i j : Nat} (h : i ≠ j) : inc (inc a i) j = inc (inc a j) i := by
  unfold inc
  rw [rd_put_at, rd_put_at, if_neg (fun hh => h hh.1), if_neg (fun hh => h hh.1.symm), List.set_comm _ _ h]
theorem fold_inc : ∀ (ts : List S53) (a b : List Int), (∀ t ∈ ts, Fine t) → ts.foldl stepW (inc a 256, b) = (inc (ts.foldl stepW (a, b)).1 256, (ts.foldl stepW (a, b)).2)
  | [], _, _, _ => rfl
  | t :: ts, a, b, hf => by
    have hs : stepW (inc a 256, b) t = (inc (stepW (a, b) t).1 256, (stepW (a, b) t).2) := by
      unfold stepW
      rcases fine_in (hf t List.mem_cons_self) with ⟨h0, h1⟩ | ⟨h0, h1, h2, h3, h4, h5⟩
      · rw [if_pos h0, if_pos h0, inc_comm a (by omega)]
      · rw [if_neg h0, if_neg h0, inc_comm a (by omega)]
    rw [List.foldl_cons, hs, fold_inc ts _ _ (fun u hu => hf u (List.mem_cons_of_mem _ hu))]
    rfl
theorem fold_uses : ∀ (ts : List S53) (B : Nat) (a b : List Int), (∀ t ∈ ts, Fine t) → a.length = 286 → b.length = 30 → Small a B → Small b B → B + ts.length ≤ 50000 →
    Small (ts.foldl stepW (a, b)).1 (B + ts.length) ∧ Small (ts.foldl stepW (a, b)).2 (B + ts.length) ∧ Mono a (ts.foldl stepW (a, b)).1 ∧ Mono b (ts.foldl stepW (a, b)).2 ∧ ∀ t ∈ ts, Uses (ts.foldl stepW (a, b)).1 (ts.foldl stepW (a, b)).2 t
  | [], B, a, b, _, _, _, sa, sb, _ => ⟨sa, sb, Mono.refl _, Mono.refl _, fun t h => by cases h⟩
  | u :: us, B, a, b, hf, la, lb, sa, sb, hB => by
    rw [List.length_cons] at hB ⊢
    have hu := hf u List.mem_cons_self
    have hs : ∃ a2 b2, stepW (a, b) u = (a2, b2) ∧ a2.length = 286 ∧ b2.length = 30 ∧ Small a2 (B + 1) ∧ Small b2 (B + 1) ∧ Mono a a2 ∧ Mono b b2 ∧ Uses a2 b2 u := by
      unfold stepW Uses
      rcases fine_in hu with ⟨h0, h1⟩ | ⟨h0, h1, h2, h3, _, _⟩
      · rw [if_pos h0]
        refine ⟨_, _, rfl, by rw [inc_len]; exact la, lb, inc_small sa (by omega), small_mono sb (by omega), inc_mono sa (by omega), Mono.refl _, ?_⟩
        rw [if_pos h0]
        have := inc_pos sa (by omega) (show u.f0.toNat < a.length by omega)
        rwa [Int.toNat_of_nonneg hu.1] at this
      · rw [if_neg h0]
        exact ⟨_, _, rfl, by rw [inc_len]; exact la, by rw [inc_len]; exact lb, inc_small sa (by omega), inc_small sb (by omega), inc_mono sa (by omega), inc_mono sb (by omega), by rw [if_neg h0]; exact ⟨inc_pos sa (by omega) (show _ < a.length by omega), inc_pos sb (by omega) (show _ < b.length by omega)⟩⟩
    obtain ⟨a2, b2, e, la2, lb2, sa2, sb2, ma, mb, hu2⟩ := hs
    obtain ⟨q1, q2, q3, q4, q5⟩ := fold_uses us (B + 1) a2 b2 (fun t ht => hf t (List.mem_cons_of_mem _ ht)) la2 lb2 sa2 sb2 (by omega)
    rw [List.foldl_cons, e]
    refine ⟨small_mono q1 (by omega), small_mono q2 (by omega), ma.trans q3, mb.trans q4, fun t ht => ?_⟩
    rcases List.mem_cons.1 ht with rfl | ht
    · exact hu2.mono hu.1 q3 q4
    · exact q5 t ht
theorem wts_is (l : List S53) (hl : l.length ≤ 5000) (h : OkL l 0) (hf : ∀ t ∈ l, Fine t) (hs : sizeL l ≤ 4096) : sym_Weights.f l = some ((wtsR l).1, (wtsR l).2, 0) ∧ (wtsR l).1.length = 286 ∧ (wtsR l).2.length = 30 ∧ Small (wtsR l).1 6000 ∧ Small (wtsR l).2 6000 ∧ 0 < rd (wtsR l).1 256 ∧ ∀ t ∈ l, Uses (wtsR l).1 (wtsR l).2 t := by
  obtain ⟨q1, q2, q3, q4, q5⟩ := fold_uses l 0 (List.replicate 286 0) (List.replicate 30 0) hf List.length_replicate List.length_replicate (zeros_small 286 0) (zeros_small 30 0) (by omega)
  have hln := foldW_len l (List.replicate 286 0, List.replicate 30 0)
  have e : wtsR l = (inc (l.foldl stepW (List.replicate 286 0, List.replicate 30 0)).1 256, (l.foldl stepW (List.replicate 286 0, List.replicate 30 0)).2) := by
    have h := fold_inc l (List.replicate 286 0) (List.replicate 30 0) hf
    rw [show inc (List.replicate 286 0) 256 = (List.replicate 286 (0 : Int)).set 256 1 from by decide +kernel] at h
    exact h
  rw [List.length_replicate, List.length_replicate] at hln
  rw [e]
  refine ⟨?_, by rw [inc_len]; exact hln.1, hln.2, small_mono (inc_small q1 (by omega)) (by omega), small_mono q2 (by omega), inc_pos q1 (by omega) (by omega), fun t ht => (q5 t ht).mono (hf t ht).1 (inc_mono q1 (by omega)) (Mono.refl _)⟩
  unfold sym_Weights.f
  rw [if_pos (by omega), check_is l (by omega) h hs 20000 (by omega), Option.bind_some, if_pos rfl, fold_is _ _ hf, Option.bind_some]
  rfl
/-! ### lengths of weights -/
theorem lens_made {ws : List Int} {lim : Int} (h : weighs ws = true) (h15 : lim ≤ 15) (hl : 9 ≤ lim ∨ (5 ≤ lim ∧ pos ws ≤ 19)) :
    ∃ la, tree_Lengths.f ws lim = some (la, 0) ∧ la.length = ws.length ∧ canon_Check.f la = some 0 ∧ (∀ j : Nat, 0 < ws.getD j 0 → 0 < la.getD j 0) ∧ ∀ v ∈ la, 0 ≤ v ∧ v ≤ lim := by
  obtain ⟨ws', a1, a2, a3, a4, a5⟩ := lens_ok h h15 hl
  refine ⟨onceOf ws', a1, by rw [once_length, a3], once_check ws' a2 (fun v hv => by have := a5 v hv; omega), fun j hj => ?_, a5⟩
  have hjl : j < ws'.length := by
    apply Classical.byContradiction
    intro hn
    rw [List.getD_eq_getElem?_getD, List.getElem?_eq_none (by omega)] at hj
    simp at hj
  have := (once_has ws' a2 hjl).2 ((a4 j).2 hj)
  rw [rd_nat] at this
  exact this
theorem lens_from {ws la : List Int} {lim : Int} (h : tree_Lengths.f ws lim = some (la, 0)) : lensFrom 32 ws lim = some la := by
  unfold tree_Lengths.f lensOf at h
  split at h
  · injection h with h
    injection h with _ h
    exact absurd h (by decide)
  · obtain ⟨r, hr, e⟩ := Option.map_eq_some_iff.1 h
    injection e with e
    rw [← e]
    exact hr
/-! ### lengths without the noughts at their end -/
theorem take_getD (l : List Int) {n j : Nat} (h : j < n) : (l.take n).getD j 0 = l.getD j 0 := by
  rw [List.getD_eq_getElem?_getD, List.getElem?_take_of_lt h, ← List.getD_eq_getElem?_getD]
/-- How many of a row are left without the 0s at its end, but at least so many. -/
def cutN (l : List Int) (least : Nat) : Nat → Nat
  | 0 => 0
  | n + 1 => if least < n + 1 ∧ l.getD n 0 = 0 then cutN l least n else n + 1
theorem cutN_le (l : List Int) (least : Nat) : ∀ n, cutN l least n ≤ n
  | 0 => Nat.le_refl _
  | n + 1 => by
    simp only [cutN]
    have := cutN_le l least n
    split <;> omega
theorem cutN_take (l : List Int) (least n : Nat) : ∀ m, m ≤ n → cutN (l.take n) least m = cutN l least m
  | 0, _ => rfl
  | m + 1, h => by
    simp only [cutN]
    rw [cutN_take l least n m (by omega), take_getD l (by omega)]
theorem cutN_out (l : List Int) (least : Nat) : ∀ n, (∀ j, n ≤ j → l.getD j 0 = 0) → (least ≤ cutN l least n ∨ cutN l least n = n) ∧ ∀ j, cutN l least n ≤ j → l.getD j 0 = 0
  | 0, h => ⟨.inr rfl, h⟩
  | n + 1, h => by
    simp only [cutN]
    by_cases hc : least < n + 1 ∧ l.getD n 0 = 0
    · rw [if_pos hc]
      obtain ⟨h1, h2⟩ := cutN_out l least n (fun j hj => by
        by_cases hj2 : j = n
        · rw [hj2]; exact hc.2
        · exact h j (by omega))
      exact ⟨by omega, h2⟩
    · rw [if_neg hc]
      exact ⟨.inr rfl, h⟩
theorem less_loop (most : Nat) (hm : most < 1000) : ∀ (k : Nat) (l : List Int), l.length < k → l.length ≤ 1000 → shrink_less.l0 k l (most : Int) = some (l.take (cutN l most l.length)) := by
  intro k
  induction k with
  | zero => intro l h; omega
  | succ k ih =>
    intro l h hl
    rw [shrink_less.l0]
    by_cases hgt : most < l.length
    · obtain ⟨n, hn⟩ : ∃ n, l.length = n + 1 := ⟨l.length - 1, by omega⟩
      rw [if_pos (by omega), wrap64_in (by omega) (by omega), show (l.length : Int) - 1 = (n : Int) from by omega, if_pos (by omega), if_pos (by omega), rd_nat, Int.toNat_natCast, hn]
      simp only [cutN]
      by_cases hz : l.getD n 0 = 0
      · have hln : (l.take n).length = n := by rw [List.length_take]; omega
        rw [if_pos hz, if_pos (by omega), ih (l.take n) (by omega) (by omega), hln, cutN_take _ _ _ _ (Nat.le_refl _), List.take_take, Nat.min_eq_left (cutN_le _ _ _), if_pos ⟨by omega, hz⟩]
      · rw [if_neg hz, if_neg (fun hh => hz hh.2), ← hn, List.take_length]
    · rw [if_neg (by omega)]
      have : cutN l most l.length = l.length := by
        cases hn : l.length with
        | zero => rfl
        | succ n => simp only [cutN]; rw [if_neg (fun hh => by omega)]
      rw [this, List.take_length]
theorem less_is (most : Nat) (hm : most < 1000) (k : Nat) (l : List Int) (h : l.length < k) (hl : l.length ≤ 1000) : ∃ n, n = cutN l most l.length ∧ shrink_less.l0 k l (most : Int) = some (l.take n) ∧ n ≤ l.length ∧ (most ≤ n ∨ n = l.length) ∧ ∀ j, n ≤ j → l.getD j 0 = 0 := by
  obtain ⟨h1, h2⟩ := cutN_out l most l.length (fun j hj => by rw [List.getD_eq_getElem?_getD, List.getElem?_eq_none hj]; rfl)
  exact ⟨_, rfl, less_loop most hm k l h hl, cutN_le _ _ _, h1, h2⟩
theorem check_front (l : List Int) : ∀ d, canon_Check.f (l ++ List.replicate d 0) = some 0 → canon_Check.f l = some 0
  | 0, h => by simpa using h
  | d + 1, h => by
    rw [List.replicate_succ', ← List.append_assoc] at h
    refine check_front l d ?_
    generalize l ++ List.replicate d 0 = m at h
    obtain ⟨h1, h2⟩ := (check_iff _).1 h
    have e : (fun n => (symsTo (m ++ [0]) (m ++ [0]).length n).length) = fun n => (symsTo m m.length n).length := by
      funext n
      have := snoc_cnt m 0 n
      unfold cnt at this
      rw [this, if_neg (by omega)]
      rfl
    refine (check_iff m).2 ⟨?_, ?_⟩
    · obtain ⟨h3, h4⟩ := (rightB_iff _).1 h1
      exact (rightB_iff m).2 ⟨by rw [List.length_append] at h3; omega, fun x hx => h4 x (List.mem_append_left _ hx)⟩
    · unfold makesB cW cA at h2 ⊢
      rw [e] at h2
      have e1 : (symsTo (m ++ [0]) (m ++ [0]).length 1).length = (symsTo m m.length 1).length := congrFun e 1
      rw [e1] at h2
      exact h2
theorem codeI_front (l : List Int) (j : Nat) (h : Has l j) : ∀ d, codeI (l ++ List.replicate d 0) j = codeI l j
  | 0 => by rw [List.replicate_zero, List.append_nil]
  | d + 1 => by
    rw [List.replicate_succ', ← List.append_assoc, ← codeI_front l j h d]
    generalize hm : l ++ List.replicate d 0 = m
    have hj : j < m.length := by rw [← hm, List.length_append]; have := h.1; omega
    have e : cnt (m ++ [0]) = cnt m := funext fun n => by rw [snoc_cnt, if_neg (by omega)]; rfl
    have e2 : (m ++ [0]).getD j 0 = m.getD j 0 := by rw [List.getD_eq_getElem?_getD, List.getElem?_append_left hj, ← List.getD_eq_getElem?_getD]
    unfold codeI codeN
    rw [e, e2, front_syms _ _ _ _ (by omega)]
theorem take_zeros {l : List Int} {n : Nat} (hn : n ≤ l.length) (hz : ∀ j, n ≤ j → l.getD j 0 = 0) : l = l.take n ++ List.replicate (l.length - n) 0 := by
  apply List.ext_getElem?
  intro i
  by_cases hi : i < n
  · rw [List.getElem?_append_left (by rw [List.length_take]; omega), List.getElem?_take_of_lt hi]
  · rw [List.getElem?_append_right (by rw [List.length_take]; omega), List.length_take, Nat.min_eq_left hn, List.getElem?_replicate]
    by_cases hl : i < l.length
    · rw [if_pos (by omega)]
      have := hz i (by omega)
      rw [List.getD_eq_getElem?_getD, List.getElem?_eq_getElem hl] at this
      rw [List.getElem?_eq_getElem hl, ← this]
      rfl
    · rw [if_neg (by omega), List.getElem?_eq_none (by omega)]
theorem has_take {l : List Int} {n j : Nat} (hz : ∀ j, n ≤ j → l.getD j 0 = 0) (h : 0 < l.getD j 0) : Has (l.take n) j := by
  have hjl : j < l.length := by
    apply Classical.byContradiction
    intro hn
    rw [List.getD_eq_getElem?_getD, List.getElem?_eq_none (by omega)] at h
    simp at h
  have hjn : j < n := by
    apply Classical.byContradiction
    intro hn
    have := hz j (by omega)
    omega
  exact ⟨by rw [List.length_take]; omega, by rw [take_getD l hjn]; exact h⟩
/-! ### the row of lengths, and the lengths' own -/
theorem steps_is (l : List Int) (hl : l.length ≤ 400) (hx : ∀ x ∈ l, 0 ≤ x ∧ x ≤ 15) : shrink_steps.f l = some ((RowSteps.steps l.length (-1) l).map toS) := if_pos ⟨hl, hx⟩
/-- How often each symbol of a row of lengths stands in it. -/
def metF (S : List Int) : List Int := S.foldl (fun m q => inc m q.toNat) (List.replicate 19 0)
theorem met_loop : ∀ (S : List (Int × Int × Int × Int)) (m : List Int) (B : Nat), (∀ t ∈ S, 0 ≤ t.1 ∧ t.1 ≤ 18) → m.length = 19 → Small m B → B + S.length ≤ 50000 →
    ∃ m', m' = (S.map (·.1)).foldl (fun m q => inc m q.toNat) m ∧ metL (S.map toS) m = some m' ∧ m'.length = 19 ∧ Small m' (B + S.length) ∧ Mono m m' ∧ ∀ t ∈ S, 0 < rd m' t.1
  | [], m, B, _, hm, hs, _ => ⟨m, rfl, rfl, hm, hs, Mono.refl _, fun t h => by cases h⟩
  | t :: S, m, B, ht, hm, hs, hB => by
    rw [List.length_cons] at hB
    have h0 := ht t List.mem_cons_self
    obtain ⟨q, hq⟩ := Int.eq_ofNat_of_zero_le h0.1
    obtain ⟨m', h6, h1, h2, h3, h4, h5⟩ := met_loop S (inc m q) (B + 1) (fun u hu => ht u (List.mem_cons_of_mem _ hu)) (by rw [inc_len]; exact hm) (inc_small hs (by omega)) (by omega)
    refine ⟨m', ?_, ?_, h2, small_mono h3 (by rw [List.length_cons]; omega), (inc_mono hs (by omega)).trans h4, fun u hu => ?_⟩
    · rw [List.map_cons, List.foldl_cons, hq, Int.toNat_natCast]
      exact h6
    · simp only [List.map_cons, metL, toS]
      rw [hq, if_pos ⟨by omega, by omega⟩, Int.toNat_natCast]
      exact h1
    · rcases List.mem_cons.1 hu with rfl | hu
      · rw [hq]
        have h6 := inc_pos hs (by omega) (show q < m.length by omega)
        have h7 := h4 q
        omega
      · exact h5 u hu
theorem met_is (S : List (Int × Int × Int × Int)) (ht : ∀ t ∈ S, 0 ≤ t.1 ∧ t.1 ≤ 18) (hB : S.length ≤ 50000) : ∃ m', m' = metF (S.map (·.1)) ∧ metL (S.map toS) (List.replicate 19 0) = some m' ∧ m'.length = 19 ∧ Small m' S.length ∧ ∀ t ∈ S, 0 < rd m' t.1 := by
  obtain ⟨m', h1, h2, h3, h4, _, h5⟩ := met_loop S (List.replicate 19 0) 0 ht List.length_replicate (zeros_small 19 0) (by omega)
  exact ⟨m', h1, h2, h3, small_mono h4 (by omega), h5⟩
theorem lens3_is : ∀ (l : List Int) (s : List Int × Nat) (it : List (Nat × Nat)), (∀ x ∈ l, 0 ≤ x ∧ x ≤ 15) → PenW s it → wN it + 3 * l.length ≤ 900000000 → ∃ s', lens3 l s = some s' ∧ PenW s' (it ++ l.map (fun x => (x.toNat, 3)))
  | [], s, it, _, h, _ => ⟨s, rfl, by simpa using h⟩
  | x :: l, s, it, hx, h, hl => by
    rw [List.length_cons] at hl
    have h0 := hx x List.mem_cons_self
    obtain ⟨s1, e1, w1⟩ := h.more (v := x.toNat) (n := 3) (by omega) (by decide) (by omega)
    obtain ⟨s2, e2, w2⟩ := lens3_is l s1 _ (fun y hy => hx y (List.mem_cons_of_mem _ hy)) w1 (by rw [WP.wN_append]; simp only [wN]; omega)
    refine ⟨s2, ?_, by simpa using w2⟩
    simp only [lens3]
    rw [← Int.toNat_of_nonneg h0.1, show (3 : Int) = ((3 : Nat) : Int) from rfl, e1, Option.bind_some]
    exact e2
/-- What a symbol of a row is written as. -/
def stepI (own : List Int) (t : Int × Int × Int × Int) : List (Nat × Nat) := [codeI own t.1.toNat, (t.2.1.toNat, t.2.2.1.toNat)]
theorem seq_is {own : List Int} (hm : Makes own) : ∀ (S : List (Int × Int × Int × Int)) (s : List Int × Nat) (it : List (Nat × Nat)), (∀ t ∈ S, 0 ≤ t.1 ∧ Has own t.1.toNat ∧ ∃ x n : Nat, t.2.1 = (x : Int) ∧ t.2.2.1 = (n : Int) ∧ x < 2 ^ n ∧ n ≤ 7) → PenW s it → wN it + 30 * S.length ≤ 900000000 →
    ∃ s', seqL (codesL own) own (S.map toS) s = some s' ∧ PenW s' (it ++ S.flatMap (stepI own)) ∧ wN (it ++ S.flatMap (stepI own)) ≤ wN it + 30 * S.length
  | [], s, it, _, h, _ => ⟨s, rfl, by simpa using h, by simp⟩
  | t :: S, s, it, ht, h, hl => by
    rw [List.length_cons] at hl
    obtain ⟨h0, hh, x, n, hx, hn, hxn, hn7⟩ := ht t List.mem_cons_self
    have hp7 : 2 ^ n ≤ 2 ^ 7 := Nat.pow_le_pow_right (by decide) hn7
    have hc := codeI_le hm hh
    obtain ⟨s1, e1, w1⟩ := code_is hm hh h (by omega)
    obtain ⟨s2, e2, w2⟩ := w1.more (v := x) (n := n) (by omega) (by omega) (by rw [WP.wN_append]; simp only [wN]; omega)
    have e12 : it ++ [codeI own t.1.toNat] ++ [(x, n)] = it ++ stepI own t := by
      unfold stepI
      rw [hx, hn, Int.toNat_natCast, Int.toNat_natCast]
      simp
    rw [e12] at w2
    have hN : wN (it ++ stepI own t) ≤ wN it + 30 := by
      rw [← e12, WP.wN_append, WP.wN_append]
      simp only [wN]
      omega
    obtain ⟨s3, e3, w3, n3⟩ := seq_is hm S s2 _ (fun u hu => ht u (List.mem_cons_of_mem _ hu)) w2 (by omega)
    refine ⟨s3, ?_, by simpa using w3, ?_⟩
    · simp only [List.map_cons, seqL, toS]
      rw [Int.toNat_of_nonneg h0] at e1
      rw [e1, Option.bind_some, hx, hn, e2, Option.bind_some]
      exact e3
    · rw [List.flatMap_cons, ← List.append_assoc, List.length_cons]
      omega
/-- What a block of lengths of its own is made of. -/
structure MadeOk (l : List S53) (lits dists own turned : List Int) : Prop where
  cl : canon_Check.f lits = some 0
  cd : canon_Check.f dists = some 0
  co : canon_Check.f own = some 0
  llen : 257 ≤ lits.length ∧ lits.length ≤ 286
  dlen : 1 ≤ dists.length ∧ dists.length ≤ 30
  olen : own.length = 19
  o7 : ∀ x ∈ own, 0 ≤ x ∧ x ≤ 7
  turn : ∃ n, turned = (ord19.map (rd own)).take n ∧ 4 ≤ n ∧ n ≤ 19 ∧ ∀ j, n ≤ j → (ord19.map (rd own)).getD j 0 = 0
  stop : Has lits 256
  toks : ∀ t ∈ l, TokHas lits dists t
  row : ∀ t ∈ RowSteps.steps (lits ++ dists).length (-1) (lits ++ dists), Has own t.1.toNat
def madeI (l : List S53) (lits dists own turned : List Int) : List (Nat × Nat) :=
  [(1, 1), (2, 2), (lits.length - 257, 5), (dists.length - 1, 5), (turned.length - 4, 4)] ++ turned.map (fun x => (x.toNat, 3)) ++ (RowSteps.steps (lits ++ dists).length (-1) (lits ++ dists)).flatMap (stepI own) ++ bodyI l lits dists
/-- How they come about. -/
structure MadeBy (l : List S53) (la lb lits dists own turned : List Int) : Prop where
  wa : weighs (wtsR l).1 = true
  wb : weighs (wtsR l).2 = true
  ea : lensFrom 32 (wtsR l).1 15 = some la
  eb : lensFrom 32 (wtsR l).2 15 = some lb
  la0 : la.length = 286
  lb0 : lb.length = 30
  lits_ : lits = la.take (cutN la 257 286)
  dists_ : dists = lb.take (cutN lb 1 30)
  rng : ∀ x ∈ lits ++ dists, 0 ≤ x ∧ x ≤ 15
  wm : weighs (metF ((RowSteps.steps (lits ++ dists).length (-1) (lits ++ dists)).map (·.1))) = true
  eo : lensFrom 32 (metF ((RowSteps.steps (lits ++ dists).length (-1) (lits ++ dists)).map (·.1))) 7 = some own
  trng : ∀ x ∈ turned, 0 ≤ x ∧ x ≤ 15
  tn : turned = (ord19.map (rd own)).take (cutN (ord19.map (rd own)) 4 19)
  tlen : 4 ≤ turned.length
  ml : Makes la
  md : Makes lb
  stop : Has la 256
  toks : ∀ t ∈ l, TokHas la lb t
  slen : (RowSteps.steps (lits ++ dists).length (-1) (lits ++ dists)).length ≤ 400
  body : bodyI l la lb = bodyI l lits dists
theorem codeI_take {l : List Int} {n j : Nat} (hn : n ≤ l.length) (hz : ∀ j, n ≤ j → l.getD j 0 = 0) (h : 0 < l.getD j 0) : codeI l j = codeI (l.take n) j := by
  conv => lhs; rw [take_zeros hn hz]
  exact codeI_front _ _ (has_take hz h) _
theorem steps_fit : ∀ (f : Nat) (a : Int) (l : List Int), (∀ x ∈ l, 0 ≤ x ∧ x ≤ 15) → ∀ t ∈ RowSteps.steps f a l, 0 ≤ t.1 ∧ t.1 ≤ 18 ∧ ∃ x n : Nat, t.2.1 = (x : Int) ∧ t.2.2.1 = (n : Int) ∧ x < 2 ^ n ∧ n ≤ 7
  | 0, a, l, _, t, ht => by simp [RowSteps.steps] at ht
  | f + 1, a, [], _, t, ht => by simp [RowSteps.steps] at ht
  | f + 1, a, v :: q, hx, t, ht => by
    simp only [RowSteps.steps] at ht
    rcases List.mem_cons.1 ht with rfl | ht
    · have hf := RowSteps.next_fit v a (RowSteps.run v q + 1) (by omega) (hx v List.mem_cons_self)
      exact ⟨hf.sym.1, hf.sym.2, hf.more⟩
    · exact steps_fit f v _ (fun x h => hx x (List.mem_of_mem_drop h)) t ht
/-- What a block of lengths of its own is written as. -/
theorem made_is (l : List S53) (hl : l.length ≤ 4096) (h : OkL l 0) (hf : ∀ t ∈ l, Fine t) (hs : sizeL l ≤ 4096) :
    ∃ s la lb lits dists own turned, madeS l = some s ∧ MadeOk l lits dists own turned ∧ PenW s (madeI l lits dists own turned) ∧ wN (madeI l lits dists own turned) ≤ 400000 ∧ MadeBy l la lb lits dists own turned := by
  obtain ⟨s0, e0, w0⟩ := begin_is 2 (by decide)
  obtain ⟨ew, la1, lb1, sa, sb, h256, hu⟩ := wts_is l (by omega) h hf hs
  obtain ⟨wa, hwa⟩ : ∃ x, x = (wtsR l).1 := ⟨_, rfl⟩
  obtain ⟨wb, hwb⟩ : ∃ x, x = (wtsR l).2 := ⟨_, rfl⟩
  rw [← hwa, ← hwb] at ew hu
  rw [← hwa] at la1 sa h256
  rw [← hwb] at lb1 sb
  obtain ⟨la, ea, la2, la3, la4, la5⟩ := lens_made (small_weighs sa (by omega) (by omega)) (show (15 : Int) ≤ 15 by omega) (.inl (by omega))
  obtain ⟨lb, eb, lb2, lb3, lb4, lb5⟩ := lens_made (small_weighs sb (by omega) (by omega)) (show (15 : Int) ≤ 15 by omega) (.inl (by omega))
  obtain ⟨na, ena, fa, na1, na2, na3⟩ := less_is 257 (by decide) 400 la (by omega) (by omega)
  obtain ⟨nb, enb, fb, nb1, nb2, nb3⟩ := less_is 1 (by decide) 400 lb (by omega) (by omega)
  have cl : canon_Check.f (la.take na) = some 0 := check_front _ (la.length - na) (by rw [← take_zeros na1 na3]; exact la3)
  have cd : canon_Check.f (lb.take nb) = some 0 := check_front _ (lb.length - nb) (by rw [← take_zeros nb1 nb3]; exact lb3)
  have hla : (la.take na).length = na := by rw [List.length_take]; omega
  have hlb : (lb.take nb).length = nb := by rw [List.length_take]; omega
  have hx : ∀ x ∈ la.take na ++ lb.take nb, 0 ≤ x ∧ x ≤ 15 := fun x hx => by
    rcases List.mem_append.1 hx with hx | hx
    · have := la5 x (List.mem_of_mem_take hx); omega
    · have := lb5 x (List.mem_of_mem_take hx); omega
  have hlen : (la.take na ++ lb.take nb).length = na + nb := by rw [List.length_append, hla, hlb]
  have hst := steps_is (la.take na ++ lb.take nb) (by omega) hx
  have hfit := steps_fit (la.take na ++ lb.take nb).length (-1) (la.take na ++ lb.take nb) hx
  have hsl := RowSteps.steps_len (la.take na ++ lb.take nb).length (-1) (la.take na ++ lb.take nb) hx
  obtain ⟨S, hS⟩ : ∃ S, S = RowSteps.steps (la.take na ++ lb.take nb).length (-1) (la.take na ++ lb.take nb) := ⟨_, rfl⟩
  rw [← hS] at hst hfit hsl
  obtain ⟨met, emf, em, ml, ms, mu⟩ := met_is S (fun t ht => ⟨(hfit t ht).1, (hfit t ht).2.1⟩) (by omega)
  obtain ⟨own, eo, lo2, lo3, lo4, lo5⟩ := lens_made (small_weighs ms (by omega) (by omega)) (show (7 : Int) ≤ 15 by omega) (.inr ⟨by omega, by have := pos_le met; omega⟩)
  have hO : (ord19.map (rd own)).length = 19 := by rw [List.length_map]; rfl
  obtain ⟨nt, ent, ft, nt1, nt2, nt3⟩ := less_is 4 (by decide) 400 (ord19.map (rd own)) (by omega) (by omega)
  have hT : ((ord19.map (rd own)).take nt).length = nt := by rw [List.length_take]; omega
  have ht7 : ∀ x ∈ (ord19.map (rd own)).take nt, 0 ≤ x ∧ x ≤ 15 := fun x hx => by
    obtain ⟨j, hj, rfl⟩ := List.mem_map.1 (List.mem_of_mem_take hx)
    have hj19 : 0 ≤ j ∧ j < 19 := by
      have : ∀ y ∈ ord19, 0 ≤ y ∧ y < 19 := by decide
      exact this j hj
    obtain ⟨q, rfl⟩ := Int.eq_ofNat_of_zero_le hj19.1
    rw [rd_nat]
    have := lo5 _ (getD_mem (l := own) (j := q) (by omega))
    omega
  have hown : ∀ t ∈ S, Has own t.1.toNat := fun t ht => by
    have h1 := mu t ht
    obtain ⟨q, hq⟩ := Int.eq_ofNat_of_zero_le (hfit t ht).1
    have h2 := (hfit t ht).2.1
    rw [hq, rd_nat] at h1
    rw [hq, Int.toNat_natCast]
    exact ⟨by omega, lo4 q h1⟩
  have p256 : 0 < la.getD 256 0 := by
    refine la4 256 ?_
    have := rd_nat wa 256
    rw [show ((256 : Nat) : Int) = 256 from rfl] at this
    rw [← this]
    exact h256
  have full : ∀ {l : List Int} {j : Nat}, 0 < l.getD j 0 → Has l j := fun {l j} hp => ⟨by
    apply Classical.byContradiction
    intro hn
    rw [List.getD_eq_getElem?_getD, List.getElem?_eq_none (by omega)] at hp
    simp at hp, hp⟩
  have tpos : ∀ t ∈ l, (t.f1 = 0 → 0 < la.getD t.f0.toNat 0) ∧ (t.f1 ≠ 0 → 0 < la.getD (lenOf t.f1).1 0 ∧ 0 < lb.getD (distOf t.f2).1 0) := fun t ht => by
    have h1 := hu t ht
    have h2 := hf t ht
    unfold Uses at h1
    refine ⟨fun hz => ?_, fun hz => ?_⟩
    · rw [if_pos hz] at h1
      refine la4 _ ?_
      rw [← rd_nat, Int.toNat_of_nonneg h2.1]
      exact h1
    · rw [if_neg hz] at h1
      exact ⟨la4 _ (by rw [← rd_nat]; exact h1.1), lb4 _ (by rw [← rd_nat]; exact h1.2)⟩
  have hok : MadeOk l (la.take na) (lb.take nb) own ((ord19.map (rd own)).take nt) := by
    refine ⟨cl, cd, lo3, by omega, by omega, by omega, fun x hx => lo5 x hx, ⟨nt, rfl, by omega, by omega, nt3⟩, has_take na3 p256, fun t ht => ?_, by rw [← hS]; exact hown⟩
    unfold TokHas
    split
    · rename_i hz
      exact has_take na3 ((tpos t ht).1 hz)
    · rename_i hz
      exact ⟨has_take na3 ((tpos t ht).2 hz).1, has_take nb3 ((tpos t ht).2 hz).2⟩
  have hby : MadeBy l la lb (la.take na) (lb.take nb) own ((ord19.map (rd own)).take nt) := by
    refine ⟨by rw [← hwa]; exact small_weighs sa (by omega) (by omega), by rw [← hwb]; exact small_weighs sb (by omega) (by omega), by rw [← hwa]; exact lens_from ea, by rw [← hwb]; exact lens_from eb, by omega, by omega, by rw [ena, show la.length = 286 by omega], by rw [enb, show lb.length = 30 by omega], hx, ?_, ?_, ht7, by rw [ent, hO], by omega, makes_of la3, makes_of lb3, full p256, fun t ht => ?_, by rw [← hS]; omega, ?_⟩
    · rw [← hS, ← emf]; exact small_weighs ms (by omega) (by omega)
    · rw [← hS, ← emf]; exact lens_from eo
    · unfold TokHas
      split
      · rename_i hz
        exact full ((tpos t ht).1 hz)
      · rename_i hz
        exact ⟨full ((tpos t ht).2 hz).1, full ((tpos t ht).2 hz).2⟩
    · have ht : ∀ t ∈ l, tokI la lb t = tokI (la.take na) (lb.take nb) t := fun t ht => by
        unfold tokI
        split
        · rename_i hz
          rw [codeI_take na1 na3 ((tpos t ht).1 hz)]
        · rename_i hz
          rw [codeI_take na1 na3 ((tpos t ht).2 hz).1, codeI_take nb1 nb3 ((tpos t ht).2 hz).2]
      unfold bodyI
      rw [codeI_take na1 na3 p256, List.flatMap_def, List.flatMap_def, List.map_congr_left ht]
  obtain ⟨s1, e1, w1⟩ := w0.more (v := na - 257) (n := 5) (by omega) (by decide) (by decide)
  obtain ⟨s2, e2, w2⟩ := w1.more (v := nb - 1) (n := 5) (by omega) (by decide) (by simp only [List.cons_append, List.nil_append, wN]; decide)
  obtain ⟨s3, e3, w3⟩ := w2.more (v := nt - 4) (n := 4) (by omega) (by decide) (by simp only [List.cons_append, List.nil_append, wN]; decide)
  simp only [List.cons_append, List.nil_append] at w3
  obtain ⟨s4, e4, w4⟩ := lens3_is ((ord19.map (rd own)).take nt) s3 _ ht7 w3 (by simp only [wN]; omega)
  have hmap3 : ∀ l : List Int, wN (l.map (fun x => (x.toNat, 3))) = 3 * l.length := fun l => by
    induction l with
    | nil => rfl
    | cons c b ih => simp only [List.map_cons, wN, ih, List.length_cons]; omega
  have n4 : wN ([(1, 1), (2, 2), (na - 257, 5), (nb - 1, 5), (nt - 4, 4)] ++ ((ord19.map (rd own)).take nt).map (fun x => (x.toNat, 3))) ≤ 100 := by
    rw [WP.wN_append, hmap3]; simp only [wN]; omega
  obtain ⟨s5, e5, w5, n5⟩ := seq_is (makes_of lo3) S s4 _ (fun t ht => ⟨(hfit t ht).1, hown t ht, (hfit t ht).2.2⟩) w4 (by omega)
  obtain ⟨s6, e6, w6, n6⟩ := body_is cl cd hok.stop (fun t ht => ⟨hf t ht, hok.toks t ht⟩) w5 (by omega)
  refine ⟨s6, la, lb, _, _, _, _, ?_, hok, ?_, ?_, hby⟩
  · unfold madeS
    rw [show (2 : Int) = ((2 : Nat) : Int) from rfl, e0, Option.bind_some, ew, Option.bind_some]
    simp only
    rw [ea, Option.bind_some, eb, Option.bind_some]
    unfold shrink_less.f
    simp only
    rw [show (257 : Int) = ((257 : Nat) : Int) from rfl, fa, Option.bind_some, show (1 : Int) = ((1 : Nat) : Int) from rfl, fb, Option.bind_some, if_pos (by omega), hst, Option.bind_some]
    unfold madeB
    rw [if_pos (by rw [List.length_map]; omega), em, Option.bind_some, eo, Option.bind_some]
    simp only
    rw [if_pos (by omega)]
    unfold shrink_less.f
    rw [show (4 : Int) = ((4 : Nat) : Int) from rfl, ft, Option.bind_some]
    unfold madeC
    rw [if_pos (by omega), hla, hlb, hT, wrap64_in (a := (na : Int) - 256) (by omega) (by omega), wrap64_in (by omega) (by omega), wrap64_in (by omega) (by omega), wrap64_in (by omega) (by omega), show (na : Int) - 256 - 1 = ((na - 257 : Nat) : Int) from by omega, show (nb : Int) - 1 = ((nb - 1 : Nat) : Int) from by omega, show (nt : Int) - 4 = ((nt - 4 : Nat) : Int) from by omega, show (5 : Int) = ((5 : Nat) : Int) from rfl, show (4 : Int) = ((4 : Nat) : Int) from rfl, e1, Option.bind_some, e2, Option.bind_some, e3, Option.bind_some, e4, Option.bind_some]
    unfold canon_Codes.f
    rw [lo3, Option.bind_some, if_pos rfl, Option.bind_some, e5, Option.bind_some]
    exact e6
  · unfold madeI
    rw [hla, hlb, hT, ← hS]
    exact w6
  · unfold madeI
    rw [hla, hlb, hT, ← hS]
    omega
end Go.Proofs.Ytlffpaploefljaa.Glue
