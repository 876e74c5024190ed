/- Plain laws on a text's tokens, and what the printed functions of package match answer by them; used by the claims of this seat. -/
import Derived.Test.YtagdlmlanjjecaaWMore
import Derived.Test.YtagdlmlanjjecaaPx0
import Derived.Test.YtagdlmlanjjecaaPx1
import Derived.Test.YtagdlmlanjjecaaPx2
import Derived.Test.YtagdlmlanjjecaaPx4
import Derived.Test.YtagdlmlanjjecaaPx5
import Derived.Test.YtagdlmlanjjecaaPx6
import Derived.Test.YtagdlmlanjjecaaPx8
import Derived.Test.YtagdlmlanjjecaaPx10
import Derived.Test.YtagdlmlanjjecaaPx13
import Derived.Test.YtagdlmlanjjecaaPx14
namespace Go.Proofs.Ytagdlmlanjjecaa.P
open Go.RowKit Go.Proofs.Ytagdlmlanjjecaa.P Go.Proofs.YtagdlmlanjjecaaW.PrintWords Go.Proofs.YtagdlmlanjjecaaW.PrintLast Go.Proofs.YtagdlmlanjjecaaW.PrintMore
set_option linter.unusedVariables false
set_option linter.unusedSimpArgs false
/-- What two places have in common: alike so far. -/
theorem comF_same (l : List Int) (p i : Nat) : ∀ f n, (∀ j, j < n → i + j < l.length ∧ l.getD (p + j) 0 = l.getD (i + j) 0) → ∀ j, j < comF l p i f n → i + j < l.length ∧ l.getD (p + j) 0 = l.getD (i + j) 0
  | 0, n, h => by simpa [comF] using h
  | f + 1, n, h => by
    intro j hj
    simp only [comF] at hj
    split at hj
    · rename_i hc
      refine comF_same l p i f (n + 1) (fun j hj => ?_) j hj
      by_cases e : j = n
      · subst e; exact hc
      · exact h j (by omega)
    · exact h j hj
theorem com_same (l : List Int) (p i : Nat) {j : Nat} (hj : j < com l p i) : i + j < l.length ∧ l.getD (p + j) 0 = l.getD (i + j) 0 :=
  comF_same l p i 258 0 (fun j hj => absurd hj (Nat.not_lt_zero _)) j hj
theorem comF_from (l : List Int) (p i : Nat) : ∀ f n, n ≤ comF l p i f n
  | 0, n => by simp [comF]
  | f + 1, n => by
    simp only [comF]
    split
    · have := comF_from l p i f (n + 1); omega
    · omega
theorem comF_ge (l : List Int) (p i m : Nat) (h : ∀ j, j < m → i + j < l.length ∧ l.getD (p + j) 0 = l.getD (i + j) 0) : ∀ f n, m ≤ n + f → m ≤ comF l p i f n
  | 0, n, hm => by simpa [comF] using hm
  | f + 1, n, hm => by
    simp only [comF]
    split
    · exact comF_ge l p i m h f (n + 1) (by omega)
    · rename_i hc
      by_cases e : n < m
      · exact absurd (h n e) hc
      · omega
theorem com_ge (l : List Int) (p i m : Nat) (hm : m ≤ 258) (h : ∀ j, j < m → i + j < l.length ∧ l.getD (p + j) 0 = l.getD (i + j) 0) : m ≤ com l p i := comF_ge l p i m h 258 0 (by omega)
theorem com_len (l : List Int) (p i : Nat) (hi : i ≤ l.length) : i + com l p i ≤ l.length := comF_len l p i 258 0 (by omega)
/-- What was noted under three bytes: the places where they stand. -/
theorem noted_mem (l : List Int) : ∀ (i : Nat) (x y z p : Int), p ∈ noted l i x y z ↔ ∃ q : Nat, p = (q : Int) ∧ q < i ∧ q + 3 ≤ l.length ∧ l.getD q 0 = x ∧ l.getD (q + 1) 0 = y ∧ l.getD (q + 2) 0 = z
  | 0, x, y, z, p => by simp [noted]
  | i + 1, x, y, z, p => by
    have ih := noted_mem l i
    simp only [noted, addAt]
    split
    · rw [ih]
      constructor
      · rintro ⟨q, h1, h2, h3⟩; exact ⟨q, h1, by omega, h3⟩
      · rintro ⟨q, h1, h2, h3, h4⟩; exact ⟨q, h1, by omega, h3, h4⟩
    · unfold upd3
      split
      · rename_i hx
        obtain ⟨rfl, rfl, rfl⟩ := hx
        rw [List.mem_append, List.mem_singleton, ih]
        constructor
        · rintro (⟨q, h1, h2, h3⟩ | rfl)
          · exact ⟨q, h1, by omega, h3⟩
          · exact ⟨i, rfl, by omega, by omega, rfl, rfl, rfl⟩
        · rintro ⟨q, h1, h2, h3⟩
          by_cases e : q = i
          · subst e; exact Or.inr h1
          · exact Or.inl ⟨q, h1, by omega, h3⟩
      · rename_i hx
        rw [ih]
        constructor
        · rintro ⟨q, h1, h2, h3⟩; exact ⟨q, h1, by omega, h3⟩
        · rintro ⟨q, h1, h2, h3, h4, h5, h6⟩
          by_cases e : q = i
          · subst e; exact absurd ⟨h4.symm, h5.symm, h6.symm⟩ hx
          · exact ⟨q, h1, by omega, h3, h4, h5, h6⟩
theorem noted_up (l : List Int) : ∀ (i : Nat) (x y z : Int), (noted l i x y z).Pairwise (· < ·)
  | 0, x, y, z => by simp [noted]
  | i + 1, x, y, z => by
    have ih := noted_up l i
    simp only [noted, addAt]
    split
    · exact ih x y z
    · unfold upd3
      split
      · rw [List.pairwise_append]
        refine ⟨ih _ _ _, by simp, fun a ha b hb => ?_⟩
        rw [List.mem_singleton] at hb
        subst hb
        exact (noted_lt l i _ _ _ a ha).2
      · exact ih x y z
theorem pick_is (l : List Int) (i : Nat) : ∀ (ps : List Int) (a : Nat × Nat), ps.Pairwise (fun x y => y < x) → (∀ p ∈ ps, 0 ≤ p ∧ p < (i : Int)) →
    a.1 ≤ (pick l i ps a).1 ∧ (pick l i ps a = a ∨ (a.1 < (pick l i ps a).1 ∧ ∃ q : Nat, (q : Int) ∈ ps ∧ (i : Int) - q ≤ 2048 ∧ pick l i ps a = (com l q i, i - q))) ∧
      ∀ q : Nat, (q : Int) ∈ ps → (i : Int) - q ≤ 2048 → com l q i < (pick l i ps a).1 ∨ (com l q i = (pick l i ps a).1 ∧ (pick l i ps a = a ∨ (pick l i ps a).2 ≤ i - q))
  | [], a, _, _ => ⟨Nat.le_refl _, Or.inl rfl, fun q h => by simp at h⟩
  | p :: ps, a, hp, hb => by
    obtain ⟨hp1, hp2⟩ := List.pairwise_cons.1 hp
    obtain ⟨q0, rfl⟩ := Int.eq_ofNat_of_zero_le (hb p (List.mem_cons_self)).1
    have hq0 := (hb q0 (List.mem_cons_self)).2
    have hb' : ∀ p ∈ ps, 0 ≤ p ∧ p < (i : Int) := fun p h => hb p (List.mem_cons_of_mem _ h)
    simp only [pick]
    by_cases h1 : (i : Int) - (q0 : Int) ≤ 2048
    · rw [if_pos h1]
      simp only [Int.toNat_natCast]
      by_cases h2 : com l q0 i > a.1
      · rw [if_pos h2]
        obtain ⟨ih1, ih2, ih3⟩ := pick_is l i ps (com l q0 i, i - q0) hp2 hb'
        refine ⟨by simp only at ih1; omega, Or.inr ⟨by simp only at ih1; omega, ?_⟩, fun q hq hr => ?_⟩
        · rcases ih2 with e | ⟨hlt, q, hq, hr, e⟩
          · exact ⟨q0, List.mem_cons_self, h1, e⟩
          · exact ⟨q, List.mem_cons_of_mem _ hq, hr, e⟩
        · rcases List.mem_cons.1 hq with e | hq
          · obtain rfl : q = q0 := by omega
            rcases Nat.lt_or_eq_of_le ih1 with h | h
            · exact Or.inl h
            · refine Or.inr ⟨h, Or.inr ?_⟩
              rcases ih2 with e | ⟨hlt, _⟩
              · rw [e]; exact Nat.le_refl _
              · simp only at hlt h; omega
          · have hqlt := hp1 _ hq
            rcases ih3 q hq hr with h | ⟨h, e⟩
            · exact Or.inl h
            · refine Or.inr ⟨h, Or.inr ?_⟩
              rcases e with e | e
              · rw [e]; simp only; omega
              · exact e
      · rw [if_neg h2]
        obtain ⟨ih1, ih2, ih3⟩ := pick_is l i ps a hp2 hb'
        refine ⟨ih1, ?_, fun q hq hr => ?_⟩
        · rcases ih2 with e | ⟨hlt, q, hq, hr, e⟩
          · exact Or.inl e
          · exact Or.inr ⟨hlt, q, List.mem_cons_of_mem _ hq, hr, e⟩
        · rcases List.mem_cons.1 hq with e | hq
          · obtain rfl : q = q0 := by omega
            by_cases h : com l q i < (pick l i ps a).1
            · exact Or.inl h
            · refine Or.inr ⟨by omega, Or.inl ?_⟩
              rcases ih2 with e | ⟨hlt, _⟩
              · exact e
              · omega
          · exact ih3 q hq hr
    · rw [if_neg h1]
      refine ⟨Nat.le_refl _, Or.inl rfl, fun q hq hr => ?_⟩
      rcases List.mem_cons.1 hq with e | hq
      · omega
      · have := hp1 _ hq; omega
/-- The best piece at a place. -/
def IsBest (l : List Int) (i n d : Nat) : Prop :=
  (n = 0 ∧ d = 0 ∨ 3 ≤ n ∧ n ≤ 258 ∧ 1 ≤ d ∧ d ≤ i ∧ d ≤ 2048 ∧ i + n ≤ l.length ∧ com l (i - d) i = n) ∧
    ∀ o, 1 ≤ o → o ≤ i → o ≤ 2048 → com l (i - o) i < 3 ∨ com l (i - o) i < n ∨ (com l (i - o) i = n ∧ d ≤ o)
theorem IsBest.one {l : List Int} {i n d n' d' : Nat} (h : IsBest l i n d) (h' : IsBest l i n' d') : n = n' ∧ d = d' := by
  obtain ⟨h1, h2⟩ := h
  obtain ⟨h1', h2'⟩ := h'
  rcases h1 with ⟨rfl, rfl⟩ | ⟨a1, a2, a3, a4, a5, a6, a7⟩
  · rcases h1' with ⟨rfl, rfl⟩ | ⟨b1, b2, b3, b4, b5, b6, b7⟩
    · exact ⟨rfl, rfl⟩
    · have := h2 d' b3 b4 b5; omega
  · have A := h2' d a3 a4 a5
    rcases h1' with ⟨rfl, rfl⟩ | ⟨b1, b2, b3, b4, b5, b6, b7⟩
    · omega
    · have B := h2 d' b3 b4 b5; omega
theorem bestL_is (l : List Int) (i : Nat) (hi : i < l.length) : IsBest l i (bestL (noted l i) l i).1 (bestL (noted l i) l i).2 := by
  have hshort : l.length < i + 3 → ∀ p, com l p i < 3 := fun h p => by have := com_len l p i (by omega); omega
  unfold bestL
  by_cases h3 : l.length < i + 3
  · rw [if_pos h3]
    exact ⟨Or.inl ⟨rfl, rfl⟩, fun o _ _ _ => Or.inl (hshort h3 _)⟩
  · rw [if_neg h3]
    have hmem := noted_mem l i (l.getD i 0) (l.getD (i + 1) 0) (l.getD (i + 2) 0)
    have hup := noted_up l i (l.getD i 0) (l.getD (i + 1) 0) (l.getD (i + 2) 0)
    obtain ⟨h1, h2, h4⟩ := pick_is l i (noted l i (l.getD i 0) (l.getD (i + 1) 0) (l.getD (i + 2) 0)).reverse (0, 0) (List.pairwise_reverse.2 hup) (fun p hp => by
      rw [List.mem_reverse] at hp; exact noted_lt l i _ _ _ p hp)
    generalize hr : pick l i (noted l i (l.getD i 0) (l.getD (i + 1) 0) (l.getD (i + 2) 0)).reverse (0, 0) = r at *
    have three : ∀ q : Nat, q < i → (3 ≤ com l q i ↔ ((q : Nat) : Int) ∈ (noted l i (l.getD i 0) (l.getD (i + 1) 0) (l.getD (i + 2) 0)).reverse) := by
      intro q hq
      rw [List.mem_reverse, hmem]
      constructor
      · intro h
        exact ⟨q, rfl, hq, by omega, (com_same l q i (j := 0) (by omega)).2, (com_same l q i (j := 1) (by omega)).2, (com_same l q i (j := 2) (by omega)).2⟩
      · rintro ⟨q', e, _, _, e0, e1, e2⟩
        obtain rfl : q = q' := by omega
        refine com_ge l q i 3 (by omega) (fun j hj => ⟨by omega, ?_⟩)
        match j, hj with
        | 0, _ => exact e0
        | 1, _ => exact e1
        | 2, _ => exact e2
    constructor
    · rcases h2 with e | ⟨hlt, q, hq, hr2, e⟩
      · subst e; exact Or.inl ⟨rfl, rfl⟩
      · have hqi : q < i := by
          have := (noted_lt l i _ _ _ _ (List.mem_reverse.1 hq)).2; omega
        have hc3 := (three q hqi).2 hq
        refine Or.inr ?_
        rw [e]
        have hl := com_len l q i (by omega)
        have hle := com_le l q i
        refine ⟨hc3, hle, by simp only; omega, by simp only; omega, by simp only; omega, hl, ?_⟩
        simp only
        rw [show i - (i - q) = q from by omega]
    · intro o ho1 ho2 ho3
      by_cases hc : com l (i - o) i < 3
      · exact Or.inl hc
      · refine Or.inr ?_
        have hin := (three (i - o) (by omega)).1 (by omega)
        rcases h4 (i - o) hin (by omega) with h | ⟨h, e⟩
        · exact Or.inl h
        · refine Or.inr ⟨h, ?_⟩
          rcases e with e | e
          · subst e; simp at h; omega
          · omega
/-- So many bytes behind a text, each the one so far back. -/
def copyN : Nat → Nat → List Int → List Int
  | 0, _, out => out
  | n + 1, d, out => copyN n d (out ++ [out.getD (out.length - d) 0])
/-- What tokens stand for, behind a text. -/
def exT : List S40 → List Int → List Int
  | [], out => out
  | t :: ts, out => exT ts (if t.f1 = 0 then out ++ [t.f0] else copyN t.f1.toNat t.f2.toNat out)
/-- How many bytes a token stands for. -/
def sizeT (t : S40) : Nat := if t.f1 = 0 then 1 else t.f1.toNat
def sizeL : List S40 → Nat
  | [] => 0
  | t :: ts => sizeT t + sizeL ts
/-- A right token behind so many bytes. -/
def OkT (t : S40) (n : Nat) : Prop := (t.f1 = 0 ∧ t.f2 = 0) ∨ (t.f0 = 0 ∧ 3 ≤ t.f1 ∧ t.f1 ≤ 258 ∧ 1 ≤ t.f2 ∧ t.f2 ≤ (n : Int) ∧ t.f2 ≤ 2048)
def OkL : List S40 → Nat → Prop
  | [], _ => True
  | t :: ts, n => OkT t n ∧ OkL ts (n + sizeT t)
theorem sizeT_pos {t : S40} {n : Nat} (h : OkT t n) : 1 ≤ sizeT t ∧ sizeT t ≤ 258 ∧ (sizeT t : Int) = mx 1 t.f1 := by
  unfold sizeT mx
  rcases h with h | h
  · rw [if_pos h.1, h.1]; exact ⟨by omega, by omega, by decide⟩
  · rw [if_neg (by omega), if_pos (by omega)]; omega
theorem OkL.mono : ∀ {ts : List S40} {n m : Nat}, n ≤ m → OkL ts n → OkL ts m
  | [], _, _, _, _ => trivial
  | t :: ts, n, m, h, ⟨h1, h2⟩ => ⟨by rcases h1 with h1 | h1; exact Or.inl h1; exact Or.inr ⟨h1.1, h1.2.1, h1.2.2.1, h1.2.2.2.1, by omega, h1.2.2.2.2.2⟩, h2.mono (by omega)⟩
theorem OkL.append : ∀ {ts us : List S40} {n : Nat}, OkL ts n → OkL us (n + sizeL ts) → OkL (ts ++ us) n
  | [], us, n, _, h => by simpa [sizeL] using h
  | t :: ts, us, n, ⟨h1, h2⟩, h => ⟨h1, OkL.append h2 (by rw [Nat.add_assoc]; exact h)⟩
theorem sizeL_append (ts us : List S40) : sizeL (ts ++ us) = sizeL ts + sizeL us := by
  induction ts with
  | nil => simp [sizeL]
  | cons t ts ih => rw [List.cons_append]; simp only [sizeL]; rw [ih]; omega
theorem exT_append (ts us : List S40) : ∀ out, exT (ts ++ us) out = exT us (exT ts out) := by
  induction ts with
  | nil => intro out; rfl
  | cons t ts ih => intro out; rw [List.cons_append]; simp only [exT]; rw [ih]
theorem copyN_len : ∀ n d out, (copyN n d out).length = out.length + n
  | 0, _, _ => rfl
  | n + 1, d, out => by simp only [copyN]; rw [copyN_len n d]; simp; omega
theorem exT_len : ∀ (ts : List S40) out, (exT ts out).length = out.length + sizeL ts
  | [], out => rfl
  | t :: ts, out => by
    simp only [exT, sizeL, sizeT]
    rw [exT_len ts]
    split
    · simp; omega
    · rw [copyN_len]; omega
theorem copyN_shift (a : List Int) : ∀ n d out, 1 ≤ d → d ≤ out.length → copyN n d (a ++ out) = a ++ copyN n d out
  | 0, _, _, _, _ => rfl
  | n + 1, d, out, h1, h2 => by
    simp only [copyN]
    rw [show (a ++ out).getD ((a ++ out).length - d) 0 = out.getD (out.length - d) 0 from by
      rw [List.length_append, show a.length + out.length - d = a.length + (out.length - d) from by omega]
      simp only [List.getD_eq_getElem?_getD]; rw [List.getElem?_append_right (by omega), Nat.add_sub_cancel_left]]
    rw [List.append_assoc]
    exact copyN_shift a n d _ h1 (by simp; omega)
theorem exT_shift (a : List Int) : ∀ (ts : List S40) out, OkL ts out.length → exT ts (a ++ out) = a ++ exT ts out
  | [], out, _ => rfl
  | t :: ts, out, ⟨h1, h2⟩ => by
    simp only [exT]
    by_cases h : t.f1 = 0
    · rw [if_pos h, if_pos h, List.append_assoc]
      exact exT_shift a ts _ (by simp only [sizeT, if_pos h] at h2; simpa using h2)
    · rw [if_neg h, if_neg h]
      have h1' := h1.resolve_left (fun e => h e.1)
      rw [copyN_shift a _ _ _ (by omega) (by omega)]
      exact exT_shift a ts _ (by simp only [sizeT, if_neg h] at h2; rw [copyN_len]; exact h2)
theorem copyN_take (l : List Int) (d : Nat) (hd : 1 ≤ d) : ∀ n i, d ≤ i → i + n ≤ l.length → (∀ j, j < n → l.getD (i - d + j) 0 = l.getD (i + j) 0) → copyN n d (l.take i) = l.take (i + n)
  | 0, i, _, _, _ => rfl
  | n + 1, i, h1, h2, h => by
    simp only [copyN]
    have e : (l.take i).getD ((l.take i).length - d) 0 = l.getD i 0 := by
      have := h 0 (by omega)
      rw [Nat.add_zero, Nat.add_zero] at this
      rw [← this, List.length_take, Nat.min_eq_left (by omega)]
      simp only [List.getD_eq_getElem?_getD]
      rw [List.getElem?_take_of_lt (by omega)]
    rw [e, show l.take i ++ [l.getD i 0] = l.take (i + 1) from by
      rw [List.take_add_one]
      simp only [List.getD_eq_getElem?_getD]
      rw [List.getElem?_eq_getElem (show i < l.length by omega)]; rfl]
    rw [show i + (n + 1) = i + 1 + n from by omega]
    refine copyN_take l d hd n (i + 1) (by omega) (by omega) (fun j hj => ?_)
    have := h (j + 1) (by omega)
    rw [show i + 1 - d + j = i - d + (j + 1) from by omega, show i + 1 + j = i + (j + 1) from by omega]
    exact this
/-- The tokens of a text are a right row, and stand for it. -/
theorem toks_right (l : List Int) : ∀ f i, i ≤ l.length → l.length ≤ i + f → OkL (toks l f i) i ∧ exT (toks l f i) (l.take i) = l ∧ i + sizeL (toks l f i) = l.length
  | 0, i, h, h' => by
    obtain rfl : i = l.length := by omega
    exact ⟨trivial, by simp [toks, exT], by simp [toks, sizeL]⟩
  | f + 1, i, h, h' => by
    simp only [toks]
    by_cases hi : i < l.length
    · rw [if_pos hi]
      obtain ⟨hb, -⟩ := bestL_is l i hi
      by_cases h0 : (bestL (noted l i) l i).1 = 0
      · rw [if_pos h0]
        obtain ⟨ih1, ih2, ih3⟩ := toks_right l f (i + 1) (by omega) (by omega)
        refine ⟨⟨Or.inl ⟨rfl, rfl⟩, ih1⟩, ?_, ?_⟩
        · simp only [exT]
          rw [if_pos trivial, show l.take i ++ [l.getD i 0] = l.take (i + 1) from by
            rw [List.take_add_one]
            simp only [List.getD_eq_getElem?_getD]
            rw [List.getElem?_eq_getElem hi]; rfl]
          exact ih2
        · simp only [sizeL, sizeT]; rw [if_pos trivial]; omega
      · rw [if_neg h0]
        have hb' := hb.resolve_left (fun e => h0 e.1)
        generalize (bestL (noted l i) l i).1 = n at *
        generalize (bestL (noted l i) l i).2 = d at *
        obtain ⟨a1, a2, a3, a4, a5, a6, a7⟩ := hb'
        obtain ⟨ih1, ih2, ih3⟩ := toks_right l f (i + n) (by omega) (by omega)
        have hs : sizeT (⟨0, (n : Int), (d : Int)⟩ : S40) = n := by unfold sizeT; rw [if_neg (by simp only; omega)]; simp
        refine ⟨⟨Or.inr ⟨rfl, by simp only; omega, by simp only; omega, by simp only; omega, by simp only; omega, by simp only; omega⟩, by rw [hs]; exact ih1⟩, ?_, ?_⟩
        · simp only [exT]
          rw [if_neg (by omega), Int.toNat_natCast, Int.toNat_natCast, copyN_take l d a3 n i a4 a6 (fun j hj => (com_same l (i - d) i (by omega)).2)]
          exact ih2
        · simp only [sizeL]; rw [hs]; omega
    · rw [if_neg hi]
      obtain rfl : i = l.length := by omega
      exact ⟨trivial, by simp [exT], by simp [sizeL]⟩
theorem sizeL_ge : ∀ {ts : List S40} {n : Nat}, OkL ts n → ts.length ≤ sizeL ts
  | [], _, _ => Nat.le_refl _
  | t :: ts, n, ⟨h1, h2⟩ => by have := sizeL_ge h2; have := sizeT_pos h1; simp only [sizeL, List.length_cons]; omega
theorem exT_wf : ∀ (ts : List S40) (out : List Int), True := fun _ _ => trivial
/-! What the printed functions of package match answer, told by the plain laws. -/
theorem wi {a : Int} (h0 : -9223372036854775808 ≤ a) (h1 : a < 9223372036854775808) : wrap64 a = a := by unfold wrap64; omega
theorem rdT_mid (pre us : List S40) (u : S40) : rd_T40 (pre ++ u :: us) (pre.length : Int) = u := by
  unfold rd_T40
  rw [Int.toNat_natCast, List.getD_eq_getElem?_getD, List.getElem?_append_right (Nat.le_refl _), Nat.sub_self]; rfl
theorem rd_nat (l : List Int) (i : Nat) : rd l (i : Int) = l.getD i 0 := by unfold rd; rw [Int.toNat_natCast]
/-- One token that is right. -/
theorem size_step (l : List S40) (u : S40) (n i k : Nat) (hrd : rd_T40 l (i : Int) = u) (hi : i < l.length) (hl : l.length ≤ 2 ^ 40) (hn : n ≤ 2 ^ 40) (hu : OkT u n) :
    match_size.l0 (k + 2) (n : Int) l (l.length : Int) (i : Int) = match_size.l0 k ((n + sizeT u : Nat) : Int) l (l.length : Int) ((i + 1 : Nat) : Int) := by
  have hs := sizeT_pos hu
  rw [match_size.l0, if_pos (by omega), if_pos (by omega), if_pos (by omega), hrd]
  rcases hu with ⟨h1, h2⟩ | ⟨h1, h2, h3, h4, h5, h6⟩
  · have e : sizeT u = 1 := by unfold sizeT; rw [if_pos h1]
    rw [if_pos h1, match_size.j1, if_pos (by rw [h2]; rfl), wi (by omega) (by omega), wi (by omega) (by omega), e]
    rfl
  · have e : (sizeT u : Int) = u.f1 := by unfold sizeT; rw [if_neg (by omega)]; omega
    rw [if_neg (by omega), match_size.j1, if_neg (by simp), if_pos h1, if_neg (by omega), if_neg (by omega), if_neg (by omega), if_neg (by unfold mn; split <;> omega), wi (by omega) (by omega), wi (by omega) (by omega)]
    congr 1; omega
theorem size_loop (l : List S40) (hl : l.length ≤ 2 ^ 30) : ∀ (us pre : List S40) (n k : Nat), l = pre ++ us → OkL us n → n + sizeL us ≤ 2 ^ 40 → 2 * us.length < k →
    match_size.l0 k (n : Int) l (l.length : Int) (pre.length : Int) = some (((n + sizeL us : Nat) : Int), true)
  | [], pre, n, k, e, _, _, hk => by
    obtain ⟨k, rfl⟩ : ∃ m, k = m + 1 := ⟨k - 1, by omega⟩
    rw [match_size.l0, if_neg (by rw [e]; simp)]
    rfl
  | u :: us, pre, n, k, e, ⟨h1, h2⟩, hn, hk => by
    have hlen : pre.length < l.length := by rw [e]; simp
    have hrd : rd_T40 l (pre.length : Int) = u := by rw [e]; exact rdT_mid pre us u
    obtain ⟨k, rfl⟩ : ∃ m, k = m + 2 := ⟨k - 2, by simp at hk; omega⟩
    simp only [sizeL] at hn
    rw [size_step l u n pre.length k hrd hlen (by omega) (by omega) h1]
    have := size_loop l hl us (pre ++ [u]) (n + sizeT u) k (by rw [e]; simp) h2 (by omega) (by simp at hk; omega)
    rw [List.length_append, List.length_singleton] at this
    rw [this]
    simp only [sizeL]
    rw [Nat.add_assoc]
/-- A token that is not right tells so. -/
theorem size_bad (l : List S40) (hl : l.length ≤ 2 ^ 30) (v : S40) (ws : List S40) : ∀ (us pre : List S40) (n k : Nat), l = pre ++ us ++ v :: ws → OkL us n → n + sizeL us ≤ 2 ^ 40 → ¬ OkT v (n + sizeL us) → 2 * us.length + 2 < k →
    match_size.l0 k (n : Int) l (l.length : Int) (pre.length : Int) = some (0, false)
  | [], pre, n, k, e, _, hn, hv, hk => by
    obtain ⟨k, rfl⟩ : ∃ m, k = m + 2 := ⟨k - 2, by omega⟩
    have hlen : pre.length < l.length := by rw [e]; simp
    have hrd : rd_T40 l (pre.length : Int) = v := by rw [e, List.append_nil]; exact rdT_mid pre ws v
    simp only [sizeL, Nat.add_zero] at hv hn
    have hbad : match_size.j1 (k + 1) (n : Int) l (l.length : Int) (pre.length : Int) false v.f0 v.f1 v.f2 = some (0, false) := by
      rw [match_size.j1, if_neg (by simp)]
      by_cases h0 : v.f0 = 0
      · rw [if_pos h0]
        by_cases a1 : v.f1 < 3
        · rw [if_pos a1]
        rw [if_neg a1]
        by_cases a2 : v.f1 > 258
        · rw [if_pos a2]
        rw [if_neg a2]
        by_cases a3 : v.f2 < 1
        · rw [if_pos a3]
        rw [if_neg a3, if_pos]
        by_cases a4 : v.f2 ≤ (n : Int) ∧ v.f2 ≤ 2048
        · exact absurd (Or.inr ⟨h0, by omega, by omega, by omega, a4.1, a4.2⟩) hv
        · unfold mn; split <;> omega
      · rw [if_neg h0]
    rw [match_size.l0, if_pos (by omega), if_pos (by omega), if_pos (by omega), hrd]
    by_cases h1 : v.f1 = 0
    · rw [if_pos h1]
      by_cases h2 : v.f2 = 0
      · exact absurd (Or.inl ⟨h1, h2⟩) hv
      · rw [show (v.f2 == 0) = false from by rw [beq_eq_false_iff_ne]; exact h2]; exact hbad
    · rw [if_neg h1]; exact hbad
  | u :: us, pre, n, k, e, ⟨h1, h2⟩, hn, hv, hk => by
    have hlen : pre.length < l.length := by rw [e]; simp
    have hrd : rd_T40 l (pre.length : Int) = u := by rw [e, List.append_assoc]; exact rdT_mid pre _ u
    obtain ⟨k, rfl⟩ : ∃ m, k = m + 2 := ⟨k - 2, by simp at hk; omega⟩
    simp only [sizeL] at hn hv
    rw [size_step l u n pre.length k hrd hlen (by omega) (by omega) h1]
    have := size_bad l hl v ws us (pre ++ [u]) (n + sizeT u) k (by rw [e]; simp) h2 (by omega) (by rw [Nat.add_assoc]; exact hv) (by simp at hk; omega)
    rw [List.length_append, List.length_singleton] at this
    rw [this]
theorem size_is (l : List S40) (hl : l.length ≤ 2 ^ 30) (h : OkL l 0) (hs : sizeL l ≤ 2 ^ 40) (k : Nat) (hk : 2 * l.length < k) : match_size.f k l = some ((sizeL l : Int), true) := by
  have := size_loop l hl l [] 0 k rfl h (by omega) hk
  rw [Nat.zero_add] at this
  exact this
theorem check_is (l : List S40) (hl : l.length ≤ 2 ^ 30) (h : OkL l 0) (hs : sizeL l ≤ 4096) (k : Nat) (hk : 2 * l.length < k) : match_Check.f k l = some 0 := by
  unfold match_Check.f
  rw [size_is l hl h (by omega) k hk, Option.bind_some]
  dsimp only
  rw [if_pos rfl, if_neg (by omega)]
theorem check_bad (us ws : List S40) (v : S40) (hl : (us ++ v :: ws).length ≤ 2 ^ 30) (h : OkL us 0) (hs : sizeL us ≤ 2 ^ 40) (hv : ¬ OkT v (sizeL us)) (k : Nat) (hk : 2 * us.length + 2 < k) : match_Check.f k (us ++ v :: ws) = some 1 := by
  unfold match_Check.f match_size.f
  have := size_bad (us ++ v :: ws) hl v ws us [] 0 k rfl h (by omega) (by rw [Nat.zero_add]; exact hv) hk
  rw [show ((0 : Nat) : Int) = 0 from rfl, show (([] : List S40).length : Int) = 0 from rfl] at this
  rw [this, Option.bind_some]
  dsimp only
  rw [if_neg (by simp)]
/-- A piece, byte by byte. -/
theorem expand_copy (l : List S40) (i : Int) (c d : Int) (b n dd : Int) (hd : dd = d) (h1 : 1 ≤ d) : ∀ (m j k : Nat) (out : List Int), d ≤ (out.length : Int) → out.length + m ≤ 2 ^ 40 → (j : Int) + (m : Int) = c → j + m ≤ 2 ^ 40 →
    match_Expand.l1 (k + m + 1) out l (l.length : Int) i c (j : Int) b n dd = match_Expand.l0 k (copyN m d.toNat out) l (l.length : Int) (wrap64 (i + 1))
  | 0, j, k, out, _, _, hj, _ => by
    rw [match_Expand.l1, if_neg (by omega)]; rfl
  | m + 1, j, k, out, ho, hs, hj, hm => by
    subst hd
    rw [show k + (m + 1) + 1 = (k + m + 1) + 1 from by omega, match_Expand.l1, if_pos (by omega), wi (by omega) (by omega), if_pos (by omega), if_pos (by omega), if_pos (by omega), wi (by omega) (by omega)]
    rw [show ((j : Int) + 1) = ((j + 1 : Nat) : Int) from by omega, expand_copy l i c dd b n dd rfl h1 m (j + 1) k _ (by simp; omega) (by simp; omega) (by omega) (by omega)]
    simp only [copyN]
    rw [show ((out.length : Int) - dd) = ((out.length - dd.toNat : Nat) : Int) from by omega, rd_nat]
theorem expand_loop (l : List S40) (hl : l.length ≤ 2 ^ 30) : ∀ (us pre : List S40) (out : List Int) (k : Nat), l = pre ++ us → OkL us out.length → out.length + sizeL us ≤ 2 ^ 40 → 3 * us.length + sizeL us < k →
    match_Expand.l0 k out l (l.length : Int) (pre.length : Int) = some (exT us out, 0)
  | [], pre, out, k, e, _, _, hk => by
    obtain ⟨k, rfl⟩ : ∃ m, k = m + 1 := ⟨k - 1, by omega⟩
    rw [match_Expand.l0, if_neg (by rw [e]; simp)]
    rfl
  | u :: us, pre, out, k, e, ⟨h1, h2⟩, hn, hk => by
    have hlen : pre.length < l.length := by rw [e]; simp
    have hrd : rd_T40 l (pre.length : Int) = u := by rw [e]; exact rdT_mid pre us u
    have hs := sizeT_pos h1
    simp only [sizeL] at hn hk
    simp only [List.length_cons] at hk
    have ih := fun out' k' a b c => expand_loop l hl us (pre ++ [u]) out' k' (by rw [e]; simp) a b c
    rw [List.length_append, List.length_singleton] at ih
    simp only [exT]
    by_cases h0 : u.f1 = 0
    · have es : sizeT u = 1 := by unfold sizeT; rw [if_pos h0]
      rw [es] at hn hk h2
      obtain ⟨k, rfl⟩ : ∃ m, k = m + 3 := ⟨k - 3, by omega⟩
      rw [match_Expand.l0, if_pos (by omega), if_pos (by omega), if_pos (by omega), hrd, if_pos h0, if_pos (by omega), match_Expand.j1, match_Expand.l1, if_neg (by omega), wi (by omega) (by omega), if_pos h0]
      exact ih _ _ (by simpa using h2) (by simp; omega) (by omega)
    · have es : sizeT u = u.f1.toNat := by unfold sizeT; rw [if_neg h0]
      rw [es] at hn hk h2
      have h1' := h1.resolve_left (fun x => h0 x.1)
      obtain ⟨k, rfl⟩ : ∃ m, k = (m + u.f1.toNat + 1) + 2 := ⟨k - 3 - u.f1.toNat, by omega⟩
      rw [match_Expand.l0, if_pos (by omega), if_pos (by omega), if_pos (by omega), hrd, if_neg h0, match_Expand.j1]
      have hc := expand_copy l (pre.length : Int) u.f1 u.f2 u.f0 u.f1 u.f2 rfl (by omega) u.f1.toNat 0 k out (by omega) (by omega) (by omega) (by omega)
      rw [show ((0 : Nat) : Int) = 0 from rfl] at hc
      rw [hc, wi (by omega) (by omega), if_neg h0]
      exact ih _ _ (by rw [copyN_len]; exact h2) (by rw [copyN_len]; omega) (by omega)
theorem expand_is (l : List S40) (hl : l.length ≤ 2 ^ 30) (h : OkL l 0) (hs : sizeL l ≤ 4096) (k : Nat) (hk : 3 * l.length + sizeL l < k) : match_Expand.f k l = some (exT l [], 0) := by
  unfold match_Expand.f
  rw [check_is l hl h hs k (by omega), Option.bind_some, if_pos rfl]
  exact expand_loop l hl l [] [] k rfl h (by simpa using (by omega : sizeL l ≤ 2 ^ 40)) hk
theorem expand_bad (l : List S40) (k : Nat) (e : Int) (he : e ≠ 0) (h : match_Check.f k l = some e) : match_Expand.f k l = some ([], e) := by
  unfold match_Expand.f
  rw [h, Option.bind_some, if_neg he]
theorem tokens_is {l : List Int} (hw : ∀ x ∈ l, (Lit.int .u8 x).wf = true) (hl : l.length ≤ 4096) : match_Tokens.f l = some (toks l l.length 0, 0) := by
  unfold match_Tokens.f
  rw [if_pos (List.all_eq_true.2 hw), if_neg (by omega)]
theorem best_is {l : List Int} (hw : ∀ x ∈ l, (Lit.int .u8 x).wf = true) (hl : l.length ≤ 4096) (i : Nat) (hi : i < l.length) : match_Best.f l (i : Int) = some (((bestL (noted l i) l i).1 : Int), ((bestL (noted l i) l i).2 : Int)) := by
  unfold match_Best.f
  rw [if_pos (List.all_eq_true.2 hw), if_neg (by omega), if_neg (by omega), if_neg (by omega), Int.toNat_natCast]
/-! Plain answers of the helpers of this seat. -/
theorem wrap_u64 (a : Int) : IntKind.u64.wrap a = a % 18446744073709551616 := by simp [IntKind.wrap, IntKind.signed, IntKind.bits]
theorem u64_in {a : Int} (h0 : 0 ≤ a) (h1 : a < 9223372036854775808) : IntKind.u64.wrap a = a := by rw [wrap_u64]; omega
theorem u64_nonneg (a : Int) : 0 ≤ IntKind.u64.wrap a := by rw [wrap_u64]; omega
theorem tmod_u64 (a m : Int) (h0 : 0 < m) (h1 : m < 9223372036854775808) : ∃ n : Nat, (n : Int) < m ∧ wrap64 (Int.tmod (IntKind.u64.wrap a) m) = n := by
  have hw := u64_nonneg a
  generalize IntKind.u64.wrap a = b at hw
  have h2 : 0 ≤ b % m := Int.emod_nonneg _ (by omega)
  have h3 : b % m < m := Int.emod_lt_of_pos _ h0
  refine ⟨(b % m).toNat, by omega, ?_⟩
  rw [Int.tmod_eq_emod_of_nonneg hw, Int.toNat_of_nonneg h2, wi (by omega) (by omega)]
theorem wf_u8 {x : Int} (h : (Lit.int .u8 x).wf = true) : 0 ≤ x ∧ x < 256 := by
  simp [Lit.wf, IntKind.min, IntKind.max, IntKind.signed, IntKind.bits] at h; omega
theorem wf_i64 {x : Int} (h : (Lit.int .i64 x).wf = true) : -9223372036854775808 ≤ x ∧ x < 9223372036854775808 := by
  simp [Lit.wf, IntKind.min, IntKind.max, IntKind.signed, IntKind.bits] at h; omega
theorem keepBytes_loop (a b : List Int) (hl : a.length = b.length) (hm : a.length < 2 ^ 60) : ∀ (d i k : Nat), i + d = a.length → d < k → a.take i = b.take i → wherrykeep_Bytes.l0 k a b (i : Int) = some (decide (a = b)) := by
  intro d
  induction d with
  | zero =>
    intro i k hi hk h
    obtain ⟨k, rfl⟩ : ∃ m, k = m + 1 := ⟨k - 1, by omega⟩
    simp only [wherrykeep_Bytes.l0]
    rw [if_neg (by omega)]
    rw [List.take_of_length_le (by omega), List.take_of_length_le (by omega)] at h
    rw [decide_eq_true h]
  | succ d ih =>
    intro i k hi hk h
    obtain ⟨k, rfl⟩ : ∃ m, k = m + 1 := ⟨k - 1, by omega⟩
    simp only [wherrykeep_Bytes.l0]
    rw [if_pos (by omega), if_pos (by omega), if_pos (by omega), rd_nat, rd_nat]
    have ha : i < a.length := by omega
    have hb : i < b.length := by omega
    have e1 : a.getD i 0 = a[i] := by simp [ha]
    have e2 : b.getD i 0 = b[i] := by simp [hb]
    by_cases hx : a.getD i 0 = b.getD i 0
    · rw [if_pos hx, wi (by omega) (by omega), show (i : Int) + 1 = ((i + 1 : Nat) : Int) from by omega]
      refine ih (i + 1) k (by omega) (by omega) ?_
      rw [List.take_succ_eq_append_getElem ha, List.take_succ_eq_append_getElem hb, h, ← e1, ← e2, hx]
    · rw [if_neg hx, decide_eq_false]
      rintro rfl
      exact hx rfl
theorem keepBytes_is (a b : List Int) (hm : a.length < 2 ^ 60) (k : Nat) (hk : a.length < k) : wherrykeep_Bytes.f k a b = some (decide (a = b)) := by
  unfold wherrykeep_Bytes.f
  by_cases hl : a.length = b.length
  · rw [if_pos (by omega)]
    exact keepBytes_loop a b hl hm a.length 0 k (by omega) hk rfl
  · rw [if_neg (by omega), decide_eq_false]
    rintro rfl
    exact hl rfl
theorem twin_is (a : List Int) (h : a.length < 2 ^ 46) : wherrykeep_Twin.f a = some a := by
  unfold wherrykeep_Twin.f
  rw [if_pos (by simp only [List.length_nil]; omega), List.nil_append]
theorem back_loop (x0 c : List Int) (l : List S40) (hl : l.length ≤ 2 ^ 30) : ∀ (us pre : List S40) (n k : Nat), l = pre ++ us → OkL us n → n + sizeL us ≤ 2 ^ 40 →
    wherrylaw04_MatchBack.l0 (k + us.length + 1) x0 l c 0 (n : Int) (pre.length : Int) = ((wherrykeep_Bytes.f k c x0).bind fun t => (if t = true then (if ((n + sizeL us : Nat) : Int) = (x0.length : Int) then some true else some false) else some false))
  | [], pre, n, k, e, _, _ => by
    rw [List.length_nil, Nat.add_zero, wherrylaw04_MatchBack.l0, if_neg (by rw [e]; simp), if_pos rfl]
    rfl
  | u :: us, pre, n, k, e, ⟨h1, h2⟩, hn => by
    have hlen : pre.length < l.length := by rw [e]; simp
    have hrd : rd_T40 l (pre.length : Int) = u := by rw [e]; exact rdT_mid pre us u
    have hs := sizeT_pos h1
    simp only [sizeL] at hn
    rw [List.length_cons, show k + (us.length + 1) + 1 = (k + us.length + 1) + 1 from by omega, wherrylaw04_MatchBack.l0, if_pos (by omega), if_pos (by omega), hrd, ← hs.2.2, wi (by omega) (by omega), wi (by omega) (by omega)]
    have := back_loop x0 c l hl us (pre ++ [u]) (n + sizeT u) k (by rw [e]; simp) h2 (by omega)
    rw [List.length_append, List.length_singleton] at this
    rw [show ((n : Int) + (sizeT u : Int)) = ((n + sizeT u : Nat) : Int) from by omega, show ((pre.length : Int) + 1) = ((pre.length + 1 : Nat) : Int) from by omega, this]
    simp only [sizeL]
    rw [Nat.add_assoc]
    rfl
theorem same_loop (l : List Int) (i d : Nat) (hd1 : 1 ≤ d) (hd : d ≤ i) (hl : l.length ≤ 1000000) (hi : i ≤ 1000000) : ∀ (f n k : Nat), n + f = 258 → f < k → wherrylaw04_same.l0 k l (i : Int) (d : Int) (n : Int) = some ((comF l (i - d) i f n : Nat) : Int)
  | 0, n, k, hn, hk => by
    obtain ⟨k, rfl⟩ : ∃ m, k = m + 1 := ⟨k - 1, by omega⟩
    rw [wherrylaw04_same.l0, if_neg (by omega)]; rfl
  | f + 1, n, k, hn, hk => by
    obtain ⟨k, rfl⟩ : ∃ m, k = m + 1 := ⟨k - 1, by omega⟩
    rw [wherrylaw04_same.l0, if_pos (by omega), wi (by omega) (by omega)]
    simp only [comF]
    by_cases h1 : i + n < l.length
    · rw [if_pos (by omega), if_pos (by omega), wi (by omega) (by omega), if_pos (by omega), if_pos (by omega), wi (by omega) (by omega), show (i : Int) + (n : Int) - (d : Int) = ((i - d + n : Nat) : Int) from by omega, show (i : Int) + (n : Int) = ((i + n : Nat) : Int) from by omega, rd_nat, rd_nat, show (n : Int) + 1 = ((n + 1 : Nat) : Int) from by omega]
      by_cases h2 : l.getD (i - d + n) 0 = l.getD (i + n) 0
      · rw [if_pos h2.symm, if_pos ⟨h1, h2⟩]
        exact same_loop l i d hd1 hd hl hi f (n + 1) k (by omega) (by omega)
      · rw [if_neg (fun h => h2 h.symm), if_neg (fun h => h2 h.2)]
    · rw [if_neg (by omega), if_neg (fun h => h1 h.1)]
theorem same_is (l : List Int) (i d : Nat) (hd1 : 1 ≤ d) (hd : d ≤ i) (hl : l.length ≤ 1000000) (hi : i ≤ 1000000) (k : Nat) (hk : 300 ≤ k) : wherrylaw04_same.f k l (i : Int) (d : Int) = some ((com l (i - d) i : Nat) : Int) := same_loop l i d hd1 hd hl hi 258 0 k rfl (by omega)
end Go.Proofs.Ytagdlmlanjjecaa.P
