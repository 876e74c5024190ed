/- Plain laws on a text's tokens and on symbols, and what the printed functions answer by them; used by the claims of this seat. -/
import Derived.Test.YtlffpaploefljaaWMore
import Derived.Test.YtlffpaploefljaaPx0
import Derived.Test.YtlffpaploefljaaPx39
import Derived.Test.YtlffpaploefljaaPx38
namespace Go.Proofs.Ytlffpaploefljaa.Tok
open Go.RowKit Go.Proofs.Ytlffpaploefljaa.P Go.Proofs.YtlffpaploefljaaW.PrintWords Go.Proofs.YtlffpaploefljaaW.PrintLast Go.Proofs.YtlffpaploefljaaW.PrintMore
set_option linter.unusedVariables false
set_option linter.unusedSimpArgs false
/-- What two places have in common: alike so far. -/
theorem comF_same (l : List Int) (p i : Nat) : ∀ f n, (∀ j, j < n → i + j < l.length ∧ l.getD (p + j) 0 = l.getD (i + j) 0) → ∀ j, j < comF l p i f n → i + j < l.length ∧ l.getD (p + j) 0 = l.getD (i + j) 0
  | 0, n, h => by simpa [comF] using h
  | f + 1, n, h => by
    intro j hj
    simp only [comF] at hj
    split at hj
    · rename_i hc
      refine comF_same l p i f (n + 1) (fun j hj => ?_) j hj
      by_cases e : j = n
      · subst e; exact hc
      · exact h j (by omega)
    · exact h j hj
theorem com_same (l : List Int) (p i : Nat) {j : Nat} (hj : j < com l p i) : i + j < l.length ∧ l.getD (p + j) 0 = l.getD (i + j) 0 :=
  comF_same l p i 258 0 (fun j hj => absurd hj (Nat.not_lt_zero _)) j hj
theorem comF_ge (l : List Int) (p i m : Nat) (h : ∀ j, j < m → i + j < l.length ∧ l.getD (p + j) 0 = l.getD (i + j) 0) : ∀ f n, m ≤ n + f → m ≤ comF l p i f n
  | 0, n, hm => by simpa [comF] using hm
  | f + 1, n, hm => by
    simp only [comF]
    split
    · exact comF_ge l p i m h f (n + 1) (by omega)
    · rename_i hc
      by_cases e : n < m
      · exact absurd (h n e) hc
      · omega
theorem com_ge (l : List Int) (p i m : Nat) (hm : m ≤ 258) (h : ∀ j, j < m → i + j < l.length ∧ l.getD (p + j) 0 = l.getD (i + j) 0) : m ≤ com l p i := comF_ge l p i m h 258 0 (by omega)
theorem com_len (l : List Int) (p i : Nat) (hi : i ≤ l.length) : i + com l p i ≤ l.length := comF_len l p i 258 0 (by omega)
/-- What was noted under three bytes: the places where they stand. -/
theorem noted_mem (l : List Int) : ∀ (i : Nat) (x y z p : Int), p ∈ noted l i x y z ↔ ∃ q : Nat, p = (q : Int) ∧ q < i ∧ q + 3 ≤ l.length ∧ l.getD q 0 = x ∧ l.getD (q + 1) 0 = y ∧ l.getD (q + 2) 0 = z
  | 0, x, y, z, p => by simp [noted]
  | i + 1, x, y, z, p => by
    have ih := noted_mem l i
    simp only [noted, addAt]
    split
    · rw [ih]
      constructor
      · rintro ⟨q, h1, h2, h3⟩; exact ⟨q, h1, by omega, h3⟩
      · rintro ⟨q, h1, h2, h3, h4⟩; exact ⟨q, h1, by omega, h3, h4⟩
    · unfold upd3
      split
      · rename_i hx
        obtain ⟨rfl, rfl, rfl⟩ := hx
        rw [List.mem_append, List.mem_singleton, ih]
        constructor
        · rintro (⟨q, h1, h2, h3⟩ | rfl)
          · exact ⟨q, h1, by omega, h3⟩
          · exact ⟨i, rfl, by omega, by omega, rfl, rfl, rfl⟩
        · rintro ⟨q, h1, h2, h3⟩
          by_cases e : q = i
          · subst e; exact Or.inr h1
          · exact Or.inl ⟨q, h1, by omega, h3⟩
      · rename_i hx
        rw [ih]
        constructor
        · rintro ⟨q, h1, h2, h3⟩; exact ⟨q, h1, by omega, h3⟩
        · rintro ⟨q, h1, h2, h3, h4, h5, h6⟩
          by_cases e : q = i
          · subst e; exact absurd ⟨h4.symm, h5.symm, h6.symm⟩ hx
          · exact ⟨q, h1, by omega, h3, h4, h5, h6⟩
theorem noted_up (l : List Int) : ∀ (i : Nat) (x y z : Int), (noted l i x y z).Pairwise (· < ·)
  | 0, x, y, z => by simp [noted]
  | i + 1, x, y, z => by
    have ih := noted_up l i
    simp only [noted, addAt]
    split
    · exact ih x y z
    · unfold upd3
      split
      · rw [List.pairwise_append]
        refine ⟨ih _ _ _, by simp, fun a ha b hb => ?_⟩
        rw [List.mem_singleton] at hb
        subst hb
        exact (noted_lt l i _ _ _ a ha).2
      · exact ih x y z
theorem pick_is (l : List Int) (i : Nat) : ∀ (ps : List Int) (a : Nat × Nat), ps.Pairwise (fun x y => y < x) → (∀ p ∈ ps, 0 ≤ p ∧ p < (i : Int)) →
    a.1 ≤ (pick l i ps a).1 ∧ (pick l i ps a = a ∨ (a.1 < (pick l i ps a).1 ∧ ∃ q : Nat, (q : Int) ∈ ps ∧ (i : Int) - q ≤ 2048 ∧ pick l i ps a = (com l q i, i - q))) ∧
      ∀ q : Nat, (q : Int) ∈ ps → (i : Int) - q ≤ 2048 → com l q i < (pick l i ps a).1 ∨ (com l q i = (pick l i ps a).1 ∧ (pick l i ps a = a ∨ (pick l i ps a).2 ≤ i - q))
  | [], a, _, _ => ⟨Nat.le_refl _, Or.inl rfl, fun q h => by simp at h⟩
  | p :: ps, a, hp, hb => by
    obtain ⟨hp1, hp2⟩ := List.pairwise_cons.1 hp
    obtain ⟨q0, rfl⟩ := Int.eq_ofNat_of_zero_le (hb p (List.mem_cons_self)).1
    have hq0 := (hb q0 (List.mem_cons_self)).2
    have hb' : ∀ p ∈ ps, 0 ≤ p ∧ p < (i : Int) := fun p h => hb p (List.mem_cons_of_mem _ h)
    simp only [pick]
    by_cases h1 : (i : Int) - (q0 : Int) ≤ 2048
    · rw [if_pos h1]
      simp only [Int.toNat_natCast]
      by_cases h2 : com l q0 i > a.1
      · rw [if_pos h2]
        obtain ⟨ih1, ih2, ih3⟩ := pick_is l i ps (com l q0 i, i - q0) hp2 hb'
        refine ⟨by simp only at ih1; omega, Or.inr ⟨by simp only at ih1; omega, ?_⟩, fun q hq hr => ?_⟩
        · rcases ih2 with e | ⟨hlt, q, hq, hr, e⟩
          · exact ⟨q0, List.mem_cons_self, h1, e⟩
          · exact ⟨q, List.mem_cons_of_mem _ hq, hr, e⟩
        · rcases List.mem_cons.1 hq with e | hq
          · obtain rfl : q = q0 := by omega
            rcases Nat.lt_or_eq_of_le ih1 with h | h
            · exact Or.inl h
            · refine Or.inr ⟨h, Or.inr ?_⟩
              rcases ih2 with e | ⟨hlt, _⟩
              · rw [e]; exact Nat.le_refl _
              · simp only at hlt h; omega
          · have hqlt := hp1 _ hq
            rcases ih3 q hq hr with h | ⟨h, e⟩
            · exact Or.inl h
            · refine Or.inr ⟨h, Or.inr ?_⟩
              rcases e with e | e
              · rw [e]; simp only; omega
              · exact e
      · rw [if_neg h2]
        obtain ⟨ih1, ih2, ih3⟩ := pick_is l i ps a hp2 hb'
        refine ⟨ih1, ?_, fun q hq hr => ?_⟩
        · rcases ih2 with e | ⟨hlt, q, hq, hr, e⟩
          · exact Or.inl e
          · exact Or.inr ⟨hlt, q, List.mem_cons_of_mem _ hq, hr, e⟩
        · rcases List.mem_cons.1 hq with e | hq
          · obtain rfl : q = q0 := by omega
            by_cases h : com l q i < (pick l i ps a).1
            · exact Or.inl h
            · refine Or.inr ⟨by omega, Or.inl ?_⟩
              rcases ih2 with e | ⟨hlt, _⟩
              · exact e
              · omega
          · exact ih3 q hq hr
    · rw [if_neg h1]
      refine ⟨Nat.le_refl _, Or.inl rfl, fun q hq hr => ?_⟩
      rcases List.mem_cons.1 hq with e | hq
      · omega
      · have := hp1 _ hq; omega
/-- The best piece at a place. -/
def IsBest (l : List Int) (i n d : Nat) : Prop :=
  (n = 0 ∧ d = 0 ∨ 3 ≤ n ∧ n ≤ 258 ∧ 1 ≤ d ∧ d ≤ i ∧ d ≤ 2048 ∧ i + n ≤ l.length ∧ com l (i - d) i = n) ∧
    ∀ o, 1 ≤ o → o ≤ i → o ≤ 2048 → com l (i - o) i < 3 ∨ com l (i - o) i < n ∨ (com l (i - o) i = n ∧ d ≤ o)
theorem IsBest.one {l : List Int} {i n d n' d' : Nat} (h : IsBest l i n d) (h' : IsBest l i n' d') : n = n' ∧ d = d' := by
  obtain ⟨h1, h2⟩ := h
  obtain ⟨h1', h2'⟩ := h'
  rcases h1 with ⟨rfl, rfl⟩ | ⟨a1, a2, a3, a4, a5, a6, a7⟩
  · rcases h1' with ⟨rfl, rfl⟩ | ⟨b1, b2, b3, b4, b5, b6, b7⟩
    · exact ⟨rfl, rfl⟩
    · have := h2 d' b3 b4 b5; omega
  · have A := h2' d a3 a4 a5
    rcases h1' with ⟨rfl, rfl⟩ | ⟨b1, b2, b3, b4, b5, b6, b7⟩
    · omega
    · have B := h2 d' b3 b4 b5; omega
theorem bestL_is (l : List Int) (i : Nat) (hi : i < l.length) : IsBest l i (bestL (noted l i) l i).1 (bestL (noted l i) l i).2 := by
  have hshort : l.length < i + 3 → ∀ p, com l p i < 3 := fun h p => by have := com_len l p i (by omega); omega
  unfold bestL
  by_cases h3 : l.length < i + 3
  · rw [if_pos h3]
    exact ⟨Or.inl ⟨rfl, rfl⟩, fun o _ _ _ => Or.inl (hshort h3 _)⟩
  · rw [if_neg h3]
    have hmem := noted_mem l i (l.getD i 0) (l.getD (i + 1) 0) (l.getD (i + 2) 0)
    have hup := noted_up l i (l.getD i 0) (l.getD (i + 1) 0) (l.getD (i + 2) 0)
    obtain ⟨h1, h2, h4⟩ := pick_is l i (noted l i (l.getD i 0) (l.getD (i + 1) 0) (l.getD (i + 2) 0)).reverse (0, 0) (List.pairwise_reverse.2 hup) (fun p hp => by
      rw [List.mem_reverse] at hp; exact noted_lt l i _ _ _ p hp)
    generalize hr : pick l i (noted l i (l.getD i 0) (l.getD (i + 1) 0) (l.getD (i + 2) 0)).reverse (0, 0) = r at *
    have three : ∀ q : Nat, q < i → (3 ≤ com l q i ↔ ((q : Nat) : Int) ∈ (noted l i (l.getD i 0) (l.getD (i + 1) 0) (l.getD (i + 2) 0)).reverse) := by
      intro q hq
      rw [List.mem_reverse, hmem]
      constructor
      · intro h
        exact ⟨q, rfl, hq, by omega, (com_same l q i (j := 0) (by omega)).2, (com_same l q i (j := 1) (by omega)).2, (com_same l q i (j := 2) (by omega)).2⟩
      · rintro ⟨q', e, _, _, e0, e1, e2⟩
        obtain rfl : q = q' := by omega
        refine com_ge l q i 3 (by omega) (fun j hj => ⟨by omega, ?_⟩)
        match j, hj with
        | 0, _ => exact e0
        | 1, _ => exact e1
        | 2, _ => exact e2
    constructor
    · rcases h2 with e | ⟨hlt, q, hq, hr2, e⟩
      · subst e; exact Or.inl ⟨rfl, rfl⟩
      · have hqi : q < i := by
          have := (noted_lt l i _ _ _ _ (List.mem_reverse.1 hq)).2; omega
        have hc3 := (three q hqi).2 hq
        refine Or.inr ?_
        rw [e]
        have hl := com_len l q i (by omega)
        have hle := com_le l q i
        refine ⟨hc3, hle, by simp only; omega, by simp only; omega, by simp only; omega, hl, ?_⟩
        simp only
        rw [show i - (i - q) = q from by omega]
    · intro o ho1 ho2 ho3
      by_cases hc : com l (i - o) i < 3
      · exact Or.inl hc
      · refine Or.inr ?_
        have hin := (three (i - o) (by omega)).1 (by omega)
        rcases h4 (i - o) hin (by omega) with h | ⟨h, e⟩
        · exact Or.inl h
        · refine Or.inr ⟨h, ?_⟩
          rcases e with e | e
          · subst e; simp at h; omega
          · omega
/-- So many bytes behind a text, each the one so far back. -/
def copyN : Nat → Nat → List Int → List Int
  | 0, _, out => out
  | n + 1, d, out => copyN n d (out ++ [out.getD (out.length - d) 0])
/-- What tokens stand for, behind a text. -/
def exT : List S53 → List Int → List Int
  | [], out => out
  | t :: ts, out => exT ts (if t.f1 = 0 then out ++ [t.f0] else copyN t.f1.toNat t.f2.toNat out)
/-- How many bytes a token stands for. -/
def sizeT (t : S53) : Nat := if t.f1 = 0 then 1 else t.f1.toNat
def sizeL : List S53 → Nat
  | [] => 0
  | t :: ts => sizeT t + sizeL ts
/-- A right token behind so many bytes. -/
def OkT (t : S53) (n : Nat) : Prop := (t.f1 = 0 ∧ t.f2 = 0) ∨ (t.f0 = 0 ∧ 3 ≤ t.f1 ∧ t.f1 ≤ 258 ∧ 1 ≤ t.f2 ∧ t.f2 ≤ (n : Int) ∧ t.f2 ≤ 2048)
def OkL : List S53 → Nat → Prop
  | [], _ => True
  | t :: ts, n => OkT t n ∧ OkL ts (n + sizeT t)
theorem sizeT_pos {t : S53} {n : Nat} (h : OkT t n) : 1 ≤ sizeT t ∧ sizeT t ≤ 258 ∧ (sizeT t : Int) = mx 1 t.f1 := by
  unfold sizeT mx
  rcases h with h | h
  · rw [if_pos h.1, h.1]; exact ⟨by omega, by omega, by decide⟩
  · rw [if_neg (by omega), if_pos (by omega)]; omega
theorem OkL.append : ∀ {ts us : List S53} {n : Nat}, OkL ts n → OkL us (n + sizeL ts) → OkL (ts ++ us) n
  | [], us, n, _, h => by simpa [sizeL] using h
  | t :: ts, us, n, ⟨h1, h2⟩, h => ⟨h1, OkL.append h2 (by rw [Nat.add_assoc]; exact h)⟩
theorem copyN_take (l : List Int) (d : Nat) (hd : 1 ≤ d) : ∀ n i, d ≤ i → i + n ≤ l.length → (∀ j, j < n → l.getD (i - d + j) 0 = l.getD (i + j) 0) → copyN n d (l.take i) = l.take (i + n)
  | 0, i, _, _, _ => rfl
  | n + 1, i, h1, h2, h => by
    simp only [copyN]
    have e : (l.take i).getD ((l.take i).length - d) 0 = l.getD i 0 := by
      have := h 0 (by omega)
      rw [Nat.add_zero, Nat.add_zero] at this
      rw [← this, List.length_take, Nat.min_eq_left (by omega)]
      simp only [List.getD_eq_getElem?_getD]
      rw [List.getElem?_take_of_lt (by omega)]
    rw [e, show l.take i ++ [l.getD i 0] = l.take (i + 1) from by
      rw [List.take_add_one]
      simp only [List.getD_eq_getElem?_getD]
      rw [List.getElem?_eq_getElem (show i < l.length by omega)]; rfl]
    rw [show i + (n + 1) = i + 1 + n from by omega]
    refine copyN_take l d hd n (i + 1) (by omega) (by omega) (fun j hj => ?_)
    have := h (j + 1) (by omega)
    rw [show i + 1 - d + j = i - d + (j + 1) from by omega, show i + 1 + j = i + (j + 1) from by omega]
    exact this
/-- The tokens of a text are a right row, and stand for it. -/
theorem toks_right (l : List Int) : ∀ f i, i ≤ l.length → l.length ≤ i + f → OkL (toks l f i) i ∧ exT (toks l f i) (l.take i) = l ∧ i + sizeL (toks l f i) = l.length
  | 0, i, h, h' => by
    obtain rfl : i = l.length := by omega
    exact ⟨trivial, by simp [toks, exT], by simp [toks, sizeL]⟩
  | f + 1, i, h, h' => by
    simp only [toks]
    by_cases hi : i < l.length
    · rw [if_pos hi]
      obtain ⟨hb, -⟩ := bestL_is l i hi
      by_cases h0 : (bestL (noted l i) l i).1 = 0
      · rw [if_pos h0]
        obtain ⟨ih1, ih2, ih3⟩ := toks_right l f (i + 1) (by omega) (by omega)
        refine ⟨⟨Or.inl ⟨rfl, rfl⟩, ih1⟩, ?_, ?_⟩
        · simp only [exT]
          rw [if_pos trivial, show l.take i ++ [l.getD i 0] = l.take (i + 1) from by
            rw [List.take_add_one]
            simp only [List.getD_eq_getElem?_getD]
            rw [List.getElem?_eq_getElem hi]; rfl]
          exact ih2
        · simp only [sizeL, sizeT]; rw [if_pos trivial]; omega
      · rw [if_neg h0]
        have hb' := hb.resolve_left (fun e => h0 e.1)
        generalize (bestL (noted l i) l i).1 = n at *
        generalize (bestL (noted l i) l i).2 = d at *
        obtain ⟨a1, a2, a3, a4, a5, a6, a7⟩ := hb'
        obtain ⟨ih1, ih2, ih3⟩ := toks_right l f (i + n) (by omega) (by omega)
        have hs : sizeT (⟨0, (n : Int), (d : Int)⟩ : S53) = n := by unfold sizeT; rw [if_neg (by simp only; omega)]; simp
        refine ⟨⟨Or.inr ⟨rfl, by simp only; omega, by simp only; omega, by simp only; omega, by simp only; omega, by simp only; omega⟩, by rw [hs]; exact ih1⟩, ?_, ?_⟩
        · simp only [exT]
          rw [if_neg (by omega), Int.toNat_natCast, Int.toNat_natCast, copyN_take l d a3 n i a4 a6 (fun j hj => (com_same l (i - d) i (by omega)).2)]
          exact ih2
        · simp only [sizeL]; rw [hs]; omega
    · rw [if_neg hi]
      obtain rfl : i = l.length := by omega
      exact ⟨trivial, by simp [exT], by simp [sizeL]⟩
theorem sizeL_ge : ∀ {ts : List S53} {n : Nat}, OkL ts n → ts.length ≤ sizeL ts
  | [], _, _ => Nat.le_refl _
  | t :: ts, n, ⟨h1, h2⟩ => by have := sizeL_ge h2; have := sizeT_pos h1; simp only [sizeL, List.length_cons]; omega
/-! What the printed functions of package match answer, told by the plain laws. -/
theorem wi {a : Int} (h0 : -9223372036854775808 ≤ a) (h1 : a < 9223372036854775808) : wrap64 a = a := by unfold wrap64; omega
theorem rdT_mid (pre us : List S53) (u : S53) : rd_T53 (pre ++ u :: us) (pre.length : Int) = u := by
  unfold rd_T53
  rw [Int.toNat_natCast, List.getD_eq_getElem?_getD, List.getElem?_append_right (Nat.le_refl _), Nat.sub_self]; rfl
theorem rd_nat (l : List Int) (i : Nat) : rd l (i : Int) = l.getD i 0 := by unfold rd; rw [Int.toNat_natCast]
/-- One token that is right. -/
theorem size_step (l : List S53) (u : S53) (n i k : Nat) (hrd : rd_T53 l (i : Int) = u) (hi : i < l.length) (hl : l.length ≤ 2 ^ 40) (hn : n ≤ 2 ^ 40) (hu : OkT u n) :
    match_size.l0 (k + 2) (n : Int) l (l.length : Int) (i : Int) = match_size.l0 k ((n + sizeT u : Nat) : Int) l (l.length : Int) ((i + 1 : Nat) : Int) := by
  have hs := sizeT_pos hu
  rw [match_size.l0, if_pos (by omega), if_pos (by omega), if_pos (by omega), hrd]
  rcases hu with ⟨h1, h2⟩ | ⟨h1, h2, h3, h4, h5, h6⟩
  · have e : sizeT u = 1 := by unfold sizeT; rw [if_pos h1]
    rw [if_pos h1, match_size.j1, if_pos (by rw [h2]; rfl), wi (by omega) (by omega), wi (by omega) (by omega), e]
    rfl
  · have e : (sizeT u : Int) = u.f1 := by unfold sizeT; rw [if_neg (by omega)]; omega
    rw [if_neg (by omega), match_size.j1, if_neg (by simp), if_pos h1, if_neg (by omega), if_neg (by omega), if_neg (by omega), if_neg (by unfold mn; split <;> omega), wi (by omega) (by omega), wi (by omega) (by omega)]
    congr 1; omega
theorem size_loop (l : List S53) (hl : l.length ≤ 2 ^ 30) : ∀ (us pre : List S53) (n k : Nat), l = pre ++ us → OkL us n → n + sizeL us ≤ 2 ^ 40 → 2 * us.length < k →
    match_size.l0 k (n : Int) l (l.length : Int) (pre.length : Int) = some (((n + sizeL us : Nat) : Int), true)
  | [], pre, n, k, e, _, _, hk => by
    obtain ⟨k, rfl⟩ : ∃ m, k = m + 1 := ⟨k - 1, by omega⟩
    rw [match_size.l0, if_neg (by rw [e]; simp)]
    rfl
  | u :: us, pre, n, k, e, ⟨h1, h2⟩, hn, hk => by
    have hlen : pre.length < l.length := by rw [e]; simp
    have hrd : rd_T53 l (pre.length : Int) = u := by rw [e]; exact rdT_mid pre us u
    obtain ⟨k, rfl⟩ : ∃ m, k = m + 2 := ⟨k - 2, by simp at hk; omega⟩
    simp only [sizeL] at hn
    rw [size_step l u n pre.length k hrd hlen (by omega) (by omega) h1]
    have := size_loop l hl us (pre ++ [u]) (n + sizeT u) k (by rw [e]; simp) h2 (by omega) (by simp at hk; omega)
    rw [List.length_append, List.length_singleton] at this
    rw [this]
    simp only [sizeL]
    rw [Nat.add_assoc]
theorem size_is (l : List S53) (hl : l.length ≤ 2 ^ 30) (h : OkL l 0) (hs : sizeL l ≤ 2 ^ 40) (k : Nat) (hk : 2 * l.length < k) : match_size.f k l = some ((sizeL l : Int), true) := by
  have := size_loop l hl l [] 0 k rfl h (by omega) hk
  rw [Nat.zero_add] at this
  exact this
theorem check_is (l : List S53) (hl : l.length ≤ 2 ^ 30) (h : OkL l 0) (hs : sizeL l ≤ 4096) (k : Nat) (hk : 2 * l.length < k) : match_Check.f k l = some 0 := by
  unfold match_Check.f
  rw [size_is l hl h (by omega) k hk, Option.bind_some]
  dsimp only
  rw [if_pos rfl, if_neg (by omega)]
theorem tokens_is {l : List Int} (hw : ∀ x ∈ l, (Lit.int .u8 x).wf = true) (hl : l.length ≤ 4096) : match_Tokens.f l = some (toks l l.length 0, 0) := by
  unfold match_Tokens.f
  rw [if_pos (List.all_eq_true.2 hw), if_neg (by omega)]
theorem wrap_u64 (a : Int) : IntKind.u64.wrap a = a % 18446744073709551616 := by simp [IntKind.wrap, IntKind.signed, IntKind.bits]
theorem u64_in {a : Int} (h0 : 0 ≤ a) (h1 : a < 9223372036854775808) : IntKind.u64.wrap a = a := by rw [wrap_u64]; omega
theorem wf_u8 {x : Int} (h : (Lit.int .u8 x).wf = true) : 0 ≤ x ∧ x < 256 := by
  simp [Lit.wf, IntKind.min, IntKind.max, IntKind.signed, IntKind.bits] at h; omega
/-- The least distance (from 0 on) of a symbol, in the document's closed form. -/
def dl : Nat → Nat
  | 0 => 0 | 1 => 1 | 2 => 2 | 3 => 3 | 4 => 4 | 5 => 6 | 6 => 8 | 7 => 12 | 8 => 16 | 9 => 24 | 10 => 32 | 11 => 48 | 12 => 64 | 13 => 96 | 14 => 128 | 15 => 192 | 16 => 256 | 17 => 384 | 18 => 512 | 19 => 768 | 20 => 1024 | 21 => 1536 | 22 => 2048 | 23 => 3072 | 24 => 4096 | 25 => 6144 | 26 => 8192 | 27 => 12288 | 28 => 16384 | 29 => 24576 | _ => 32768
def dk (s : Nat) : Nat := s / 2 - 1
def ll : Nat → Nat
  | 0 => 0 | 1 => 1 | 2 => 2 | 3 => 3 | 4 => 4 | 5 => 5 | 6 => 6 | 7 => 7 | 8 => 8 | 9 => 10 | 10 => 12 | 11 => 14 | 12 => 16 | 13 => 20 | 14 => 24 | 15 => 28 | 16 => 32 | 17 => 40 | 18 => 48 | 19 => 56 | 20 => 64 | 21 => 80 | 22 => 96 | 23 => 112 | 24 => 128 | 25 => 160 | 26 => 192 | 27 => 224 | _ => 256
def lk (s : Nat) : Nat := s / 4 - 1

theorem of_d : ∀ s : Fin 30, sym_scale_of.f 40 4 2 (s.val : Int) = some ((dl s.val : Int), (dk s.val : Int)) := by decide +kernel
theorem of_l : ∀ s : Fin 28, sym_scale_of.f 40 8 4 (s.val : Int) = some ((ll s.val : Int), (lk s.val : Int)) := by decide +kernel
theorem dl_succ : ∀ s : Fin 30, dl (s.val + 1) = dl s.val + 2 ^ dk s.val := by decide
theorem ll_succ : ∀ s : Fin 28, ll (s.val + 1) = ll s.val + 2 ^ lk s.val := by decide
theorem shl_d : ∀ s : Fin 30, shl .i64 1 (IntKind.u64.wrap (dk s.val : Int)) = ((2 ^ dk s.val : Nat) : Int) ∧ 0 ≤ IntKind.u64.wrap (dk s.val : Int) := by decide +kernel
theorem shl_l : ∀ s : Fin 28, shl .i64 1 (IntKind.u64.wrap (lk s.val : Int)) = ((2 ^ lk s.val : Nat) : Int) ∧ 0 ≤ IntKind.u64.wrap (lk s.val : Int) := by decide +kernel

theorem at_gen (A B : Int) (D K : Nat → Nat) (T : Nat) (hT : T ≤ 40) (hof : ∀ s, s < T → sym_scale_of.f 40 A B (s : Int) = some ((D s : Int), (K s : Int)))
    (hsucc : ∀ s, s < T → D (s + 1) = D s + 2 ^ K s) (hshl : ∀ s, s < T → shl .i64 1 (IntKind.u64.wrap (K s : Int)) = ((2 ^ K s : Nat) : Int) ∧ 0 ≤ IntKind.u64.wrap (K s : Int))
    (hD : D T ≤ 40000) : ∀ (t s n k : Nat), s + t + 1 = T → D s ≤ n → n < D T → 41 + t ≤ k →
      ∃ s', s ≤ s' ∧ s' < T ∧ D s' ≤ n ∧ n < D (s' + 1) ∧ sym_scale_at.l0 k (n : Int) (s : Int) A B = some ((s' : Int), (K s' : Int), (n : Int) - (D s' : Int)) := by
  intro t
  induction t with
  | zero =>
    intro s n k hs h0 h1 hk
    obtain ⟨k, rfl⟩ : ∃ m, k = m + 1 := ⟨k - 1, by omega⟩
    have e := at_rounds (sym_scale_of.mono A B s) (k' := k) (by omega) (hof s (by omega))
    obtain ⟨e1, e2⟩ := hshl s (by omega)
    have hs1 : s + 1 = T := by omega
    have hn : n < D s + 2 ^ K s := by rw [← hsucc s (by omega), hs1]; exact h1
    refine ⟨s, Nat.le_refl _, by omega, h0, by rw [hs1]; exact h1, ?_⟩
    simp only [sym_scale_at.l0]
    rw [e]
    simp only [Option.bind_some]
    rw [wi (by omega) (by omega), if_pos e2, e1, if_pos (by omega)]
  | succ t ih =>
    intro s n k hs h0 h1 hk
    obtain ⟨k, rfl⟩ : ∃ m, k = m + 1 := ⟨k - 1, by omega⟩
    have e := at_rounds (sym_scale_of.mono A B s) (k' := k) (by omega) (hof s (by omega))
    obtain ⟨e1, e2⟩ := hshl s (by omega)
    by_cases hn : n < D s + 2 ^ K s
    · refine ⟨s, Nat.le_refl _, by omega, h0, by rw [hsucc s (by omega)]; exact hn, ?_⟩
      simp only [sym_scale_at.l0]
      rw [e]
      simp only [Option.bind_some]
      rw [wi (by omega) (by omega), if_pos e2, e1, if_pos (by omega)]
    · obtain ⟨s', a, b, c, d, e'⟩ := ih (s + 1) n k (by omega) (by rw [hsucc s (by omega)]; omega) h1 (by omega)
      refine ⟨s', by omega, b, c, d, ?_⟩
      simp only [sym_scale_at.l0]
      rw [e]
      simp only [Option.bind_some]
      rw [wi (by omega) (by omega), if_pos e2, e1, if_neg (by omega), wi (by omega) (by omega)]
      exact e'

/-- The symbol of a distance, from 0 on; of a length, from 0 on. -/
theorem at_d (n k : Nat) (h : n < 32768) (hk : 70 ≤ k) : ∃ s, s < 30 ∧ dl s ≤ n ∧ n < dl (s + 1) ∧ sym_scale_at.f k 4 2 (n : Int) = some ((s : Int), (dk s : Int), (n : Int) - (dl s : Int)) := by
  obtain ⟨s, _, a, b, c, d⟩ := at_gen 4 2 dl dk 30 (by decide) (fun s h => of_d ⟨s, h⟩) (fun s h => dl_succ ⟨s, h⟩) (fun s h => shl_d ⟨s, h⟩) (by decide) 29 0 n k rfl (Nat.zero_le _) h (by omega)
  exact ⟨s, a, b, c, d⟩
theorem at_l (n k : Nat) (h : n < 256) (hk : 70 ≤ k) : ∃ s, s < 28 ∧ ll s ≤ n ∧ n < ll (s + 1) ∧ sym_scale_at.f k 8 4 (n : Int) = some ((s : Int), (lk s : Int), (n : Int) - (ll s : Int)) := by
  obtain ⟨s, _, a, b, c, d⟩ := at_gen 8 4 ll lk 28 (by decide) (fun s h => of_l ⟨s, h⟩) (fun s h => ll_succ ⟨s, h⟩) (fun s h => shl_l ⟨s, h⟩) (by decide) 27 0 n k rfl (Nat.zero_le _) h (by omega)
  exact ⟨s, a, b, c, d⟩
/-- A length's symbol, its bits more, what they say. -/
def LenSym (n s m v : Nat) : Prop := (s = 285 ∧ n = 258 ∧ m = 0 ∧ v = 0) ∨ ∃ q, q < 28 ∧ s = 257 + q ∧ m = lk q ∧ n = 3 + ll q + v ∧ v < 2 ^ lk q ∧ n < 258
/-- A distance's symbol, its bits more, what they say. -/
def DistSym (n s m v : Nat) : Prop := s < 30 ∧ m = dk s ∧ n = 1 + dl s + v ∧ v < 2 ^ dk s
theorem LenSym.le {n s m v : Nat} (h : LenSym n s m v) : 257 ≤ s ∧ s ≤ 285 ∧ v < 2 ^ m ∧ m ≤ 5 := by
  rcases h with ⟨rfl, _, rfl, rfl⟩ | ⟨q, hq, rfl, rfl, _, hv, _⟩
  · exact ⟨by omega, by omega, by decide, by omega⟩
  · exact ⟨by omega, by omega, hv, by unfold lk; omega⟩
theorem DistSym.le {n s m v : Nat} (h : DistSym n s m v) : s ≤ 29 ∧ v < 2 ^ m ∧ m ≤ 13 := by
  obtain ⟨h1, rfl, _, hv⟩ := h
  exact ⟨by omega, hv, by unfold dk; omega⟩
theorem len_is (n : Nat) (h0 : 3 ≤ n) (h1 : n ≤ 258) : ∃ s m v : Nat, LenSym n s m v ∧ ∀ k, 100 ≤ k → sym_Len.f k (n : Int) = some ((s : Int), (m : Int), (v : Int), 0) := by
  by_cases h : n = 258
  · refine ⟨285, 0, 0, .inl ⟨rfl, h, rfl, rfl⟩, fun k hk => ?_⟩
    subst h
    obtain ⟨k, rfl⟩ : ∃ m, k = m + 1 := ⟨k - 1, by omega⟩
    unfold sym_Len.f
    rw [if_neg (by omega), decide_eq_false (by omega), sym_Len.j0, if_neg (by decide), if_pos (by rfl)]
    rfl
  · obtain ⟨s, s1, s2, s3, _⟩ := at_l (n - 3) 70 (by omega) (by omega)
    have hs := ll_succ ⟨s, s1⟩
    simp only at hs
    refine ⟨257 + s, lk s, n - 3 - ll s, .inr ⟨s, s1, rfl, rfl, by omega, by omega, by omega⟩, fun k hk => ?_⟩
    obtain ⟨k, rfl⟩ : ∃ m, k = m + 1 := ⟨k - 1, by omega⟩
    obtain ⟨s', p1, p2, p3, p4⟩ := at_l (n - 3) k (by omega) (by omega)
    obtain rfl : s' = s := by
      have mono : ∀ x y : Fin 29, x.val ≤ y.val → ll x.val ≤ ll y.val := by decide
      by_cases hlt : s' < s
      · have := mono ⟨s' + 1, by omega⟩ ⟨s, by omega⟩ (by simp only; omega)
        simp only at this; omega
      · by_cases hgt : s < s'
        · have := mono ⟨s + 1, by omega⟩ ⟨s', by omega⟩ (by simp only; omega)
          simp only at this; omega
        · omega
    unfold sym_Len.f
    rw [if_neg (by omega), decide_eq_false (by omega), sym_Len.j0, if_neg (by decide), if_neg (by omega), sym_lens.f, Option.bind_some]
    dsimp only
    rw [wi (by omega) (by omega), show (n : Int) - 3 = ((n - 3 : Nat) : Int) from by omega, p4, Option.bind_some]
    dsimp only
    rw [wi (by omega) (by omega)]
    congr 3
    · congr 1; congr 1; omega
theorem dist_is (n : Nat) (h0 : 1 ≤ n) (h1 : n ≤ 32768) : ∃ s m v : Nat, DistSym n s m v ∧ ∀ k, 100 ≤ k → sym_Dist.f k (n : Int) = some ((s : Int), (m : Int), (v : Int), 0) := by
  obtain ⟨s, s1, s2, s3, _⟩ := at_d (n - 1) 70 (by omega) (by omega)
  have hs := dl_succ ⟨s, s1⟩
  simp only at hs
  refine ⟨s, dk s, n - 1 - dl s, ⟨s1, rfl, by omega, by omega⟩, fun k hk => ?_⟩
  obtain ⟨k, rfl⟩ : ∃ m, k = m + 1 := ⟨k - 1, by omega⟩
  obtain ⟨s', p1, p2, p3, p4⟩ := at_d (n - 1) k (by omega) (by omega)
  obtain rfl : s' = s := by
    have mono : ∀ x y : Fin 31, x.val ≤ y.val → dl x.val ≤ dl y.val := by decide
    by_cases hlt : s' < s
    · have := mono ⟨s' + 1, by omega⟩ ⟨s, by omega⟩ (by simp only; omega)
      simp only at this; omega
    · by_cases hgt : s < s'
      · have := mono ⟨s + 1, by omega⟩ ⟨s', by omega⟩ (by simp only; omega)
        simp only at this; omega
      · omega
  unfold sym_Dist.f
  rw [if_neg (by omega), decide_eq_false (by omega), sym_Dist.j0, if_neg (by decide), sym_dists.f, Option.bind_some]
  dsimp only
  rw [wi (by omega) (by omega), show (n : Int) - 1 = ((n - 1 : Nat) : Int) from by omega, p4, Option.bind_some]
  dsimp only
  congr 3
  · congr 1; congr 1; omega
end Go.Proofs.Ytlffpaploefljaa.Tok
