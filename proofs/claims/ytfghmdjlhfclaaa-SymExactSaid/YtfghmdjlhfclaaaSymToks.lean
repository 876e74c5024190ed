/- Plain laws on rows of tokens, on symbols, and what the printed functions answer by them; used by the claims of this seat. -/
import Derived.Test.YtfghmdjlhfclaaaWMore
import Derived.Test.YtfghmdjlhfclaaaPx0
import Derived.Test.YtfghmdjlhfclaaaPx1
import Derived.Test.YtfghmdjlhfclaaaPx2
import Derived.Test.YtfghmdjlhfclaaaPx3
import Derived.Test.YtfghmdjlhfclaaaPx6
namespace Go.Proofs.Ytfghmdjlhfclaaa.P
open Go.RowKit Go.Proofs.Ytfghmdjlhfclaaa.P Go.Proofs.YtfghmdjlhfclaaaW.PrintWords Go.Proofs.YtfghmdjlhfclaaaW.PrintLast Go.Proofs.YtfghmdjlhfclaaaW.PrintMore
set_option linter.unusedVariables false
set_option linter.unusedSimpArgs false
/-- For how many bytes, at most so many more, two places go alike. -/
def comF (l : List Int) (p i : Nat) : Nat → Nat → Nat
  | 0, n => n
  | f + 1, n => if i + n < l.length ∧ l.getD (p + n) 0 = l.getD (i + n) 0 then comF l p i f (n + 1) else n
def com (l : List Int) (p i : Nat) : Nat := comF l p i 258 0
theorem comF_le (l : List Int) (p i : Nat) : ∀ f n, comF l p i f n ≤ n + f
  | 0, n => by simp [comF]
  | f + 1, n => by
    simp only [comF]
    split
    · have := comF_le l p i f (n + 1); omega
    · omega
theorem com_le (l : List Int) (p i : Nat) : com l p i ≤ 258 := by have := comF_le l p i 258 0; unfold com; omega
theorem comF_len (l : List Int) (p i : Nat) : ∀ f n, i + n ≤ l.length → i + comF l p i f n ≤ l.length
  | 0, n, h => by simpa [comF] using h
  | f + 1, n, h => by
    simp only [comF]
    split
    · rename_i h1
      exact comF_len l p i f (n + 1) (by omega)
    · exact h
/-- What two places have in common: alike so far. -/
theorem comF_same (l : List Int) (p i : Nat) : ∀ f n, (∀ j, j < n → i + j < l.length ∧ l.getD (p + j) 0 = l.getD (i + j) 0) → ∀ j, j < comF l p i f n → i + j < l.length ∧ l.getD (p + j) 0 = l.getD (i + j) 0
  | 0, n, h => by simpa [comF] using h
  | f + 1, n, h => by
    intro j hj
    simp only [comF] at hj
    split at hj
    · rename_i hc
      refine comF_same l p i f (n + 1) (fun j hj => ?_) j hj
      by_cases e : j = n
      · subst e; exact hc
      · exact h j (by omega)
    · exact h j hj
theorem com_same (l : List Int) (p i : Nat) {j : Nat} (hj : j < com l p i) : i + j < l.length ∧ l.getD (p + j) 0 = l.getD (i + j) 0 :=
  comF_same l p i 258 0 (fun j hj => absurd hj (Nat.not_lt_zero _)) j hj
theorem comF_from (l : List Int) (p i : Nat) : ∀ f n, n ≤ comF l p i f n
  | 0, n => by simp [comF]
  | f + 1, n => by
    simp only [comF]
    split
    · have := comF_from l p i f (n + 1); omega
    · omega
theorem comF_ge (l : List Int) (p i m : Nat) (h : ∀ j, j < m → i + j < l.length ∧ l.getD (p + j) 0 = l.getD (i + j) 0) : ∀ f n, m ≤ n + f → m ≤ comF l p i f n
  | 0, n, hm => by simpa [comF] using hm
  | f + 1, n, hm => by
    simp only [comF]
    split
    · exact comF_ge l p i m h f (n + 1) (by omega)
    · rename_i hc
      by_cases e : n < m
      · exact absurd (h n e) hc
      · omega
theorem com_ge (l : List Int) (p i m : Nat) (hm : m ≤ 258) (h : ∀ j, j < m → i + j < l.length ∧ l.getD (p + j) 0 = l.getD (i + j) 0) : m ≤ com l p i := comF_ge l p i m h 258 0 (by omega)
theorem com_len (l : List Int) (p i : Nat) (hi : i ≤ l.length) : i + com l p i ≤ l.length := comF_len l p i 258 0 (by omega)
/-- The best piece at a place. -/
def IsBest (l : List Int) (i n d : Nat) : Prop :=
  (n = 0 ∧ d = 0 ∨ 3 ≤ n ∧ n ≤ 258 ∧ 1 ≤ d ∧ d ≤ i ∧ d ≤ 2048 ∧ i + n ≤ l.length ∧ com l (i - d) i = n) ∧
    ∀ o, 1 ≤ o → o ≤ i → o ≤ 2048 → com l (i - o) i < 3 ∨ com l (i - o) i < n ∨ (com l (i - o) i = n ∧ d ≤ o)
theorem IsBest.one {l : List Int} {i n d n' d' : Nat} (h : IsBest l i n d) (h' : IsBest l i n' d') : n = n' ∧ d = d' := by
  obtain ⟨h1, h2⟩ := h
  obtain ⟨h1', h2'⟩ := h'
  rcases h1 with ⟨rfl, rfl⟩ | ⟨a1, a2, a3, a4, a5, a6, a7⟩
  · rcases h1' with ⟨rfl, rfl⟩ | ⟨b1, b2, b3, b4, b5, b6, b7⟩
    · exact ⟨rfl, rfl⟩
    · have := h2 d' b3 b4 b5; omega
  · have A := h2' d a3 a4 a5
    rcases h1' with ⟨rfl, rfl⟩ | ⟨b1, b2, b3, b4, b5, b6, b7⟩
    · omega
    · have B := h2 d' b3 b4 b5; omega
/-- The best of the distances that were tried. -/
def BestSo (l : List Int) (i d n d0 : Nat) : Prop :=
  (n = 0 ∧ d0 = 0 ∨ 1 ≤ n ∧ 1 ≤ d0 ∧ d0 < d ∧ d0 ≤ i ∧ com l (i - d0) i = n) ∧ ∀ o, 1 ≤ o → o < d → com l (i - o) i < n ∨ (com l (i - o) i = n ∧ d0 ≤ o)
theorem bestSo_next {l : List Int} {i d n d0 : Nat} (hd1 : 1 ≤ d) (h1 : d ≤ i) (hs : BestSo l i d n d0) : BestSo l i (d + 1) (if n < com l (i - d) i then com l (i - d) i else n) (if n < com l (i - d) i then d else d0) := by
  obtain ⟨s1, s2⟩ := hs
  by_cases hlt : n < com l (i - d) i
  · rw [if_pos hlt, if_pos hlt]
    refine ⟨Or.inr ⟨by omega, hd1, by omega, h1, rfl⟩, fun o ho1 ho2 => ?_⟩
    by_cases eo : o = d
    · subst eo; exact Or.inr ⟨rfl, Nat.le_refl _⟩
    · have := s2 o ho1 (by omega); left; omega
  · rw [if_neg hlt, if_neg hlt]
    refine ⟨by rcases s1 with s | s; exact Or.inl s; exact Or.inr ⟨s.1, s.2.1, by omega, s.2.2.2⟩, fun o ho1 ho2 => ?_⟩
    by_cases eo : o = d
    · subst eo
      rcases Nat.lt_or_ge (com l (i - o) i) n with h | h
      · exact Or.inl h
      · exact Or.inr ⟨by omega, by omega⟩
    · exact s2 o ho1 (by omega)
theorem bestSo_all (l : List Int) (i : Nat) : ∀ d, d ≤ i → ∃ n d0, BestSo l i (d + 1) n d0
  | 0, _ => ⟨0, 0, Or.inl ⟨rfl, rfl⟩, fun o h1 h2 => by omega⟩
  | d + 1, h => by
    obtain ⟨n, d0, hs⟩ := bestSo_all l i d (by omega)
    exact ⟨_, _, bestSo_next (by omega) h hs⟩
/-- There is a best piece at each place. -/
theorem best_exists (l : List Int) (i : Nat) (hi : i < l.length) : ∃ n d, IsBest l i n d := by
  obtain ⟨n, d0, s1, s2⟩ := bestSo_all l i (min i 2048) (by omega)
  by_cases h3 : n < 3
  · exact ⟨0, 0, Or.inl ⟨rfl, rfl⟩, fun o ho1 ho2 ho3 => by have := s2 o ho1 (by omega); omega⟩
  · have s1' := s1.resolve_left (by omega)
    exact ⟨n, d0, Or.inr ⟨by omega, by have := com_le l (i - d0) i; omega, by omega, by omega, by omega, by have := com_len l (i - d0) i (by omega); omega, s1'.2.2.2.2⟩, fun o ho1 ho2 ho3 => by have := s2 o ho1 (by omega); omega⟩
/-- So many bytes behind a text, each the one so far back. -/
def copyN : Nat → Nat → List Int → List Int
  | 0, _, out => out
  | n + 1, d, out => copyN n d (out ++ [out.getD (out.length - d) 0])
/-- What tokens stand for, behind a text. -/
def exT : List S39 → List Int → List Int
  | [], out => out
  | t :: ts, out => exT ts (if t.f1 = 0 then out ++ [t.f0] else copyN t.f1.toNat t.f2.toNat out)
/-- How many bytes a token stands for. -/
def sizeT (t : S39) : Nat := if t.f1 = 0 then 1 else t.f1.toNat
def sizeL : List S39 → Nat
  | [] => 0
  | t :: ts => sizeT t + sizeL ts
/-- A right token behind so many bytes. -/
def OkT (t : S39) (n : Nat) : Prop := (t.f1 = 0 ∧ t.f2 = 0) ∨ (t.f0 = 0 ∧ 3 ≤ t.f1 ∧ t.f1 ≤ 258 ∧ 1 ≤ t.f2 ∧ t.f2 ≤ (n : Int) ∧ t.f2 ≤ 2048)
def OkL : List S39 → Nat → Prop
  | [], _ => True
  | t :: ts, n => OkT t n ∧ OkL ts (n + sizeT t)
theorem sizeT_pos {t : S39} {n : Nat} (h : OkT t n) : 1 ≤ sizeT t ∧ sizeT t ≤ 258 ∧ (sizeT t : Int) = mx 1 t.f1 := by
  unfold sizeT mx
  rcases h with h | h
  · rw [if_pos h.1, h.1]; exact ⟨by omega, by omega, by decide⟩
  · rw [if_neg (by omega), if_pos (by omega)]; omega
theorem OkL.mono : ∀ {ts : List S39} {n m : Nat}, n ≤ m → OkL ts n → OkL ts m
  | [], _, _, _, _ => trivial
  | t :: ts, n, m, h, ⟨h1, h2⟩ => ⟨by rcases h1 with h1 | h1; exact Or.inl h1; exact Or.inr ⟨h1.1, h1.2.1, h1.2.2.1, h1.2.2.2.1, by omega, h1.2.2.2.2.2⟩, h2.mono (by omega)⟩
theorem OkL.append : ∀ {ts us : List S39} {n : Nat}, OkL ts n → OkL us (n + sizeL ts) → OkL (ts ++ us) n
  | [], us, n, _, h => by simpa [sizeL] using h
  | t :: ts, us, n, ⟨h1, h2⟩, h => ⟨h1, OkL.append h2 (by rw [Nat.add_assoc]; exact h)⟩
theorem sizeL_append (ts us : List S39) : sizeL (ts ++ us) = sizeL ts + sizeL us := by
  induction ts with
  | nil => simp [sizeL]
  | cons t ts ih => rw [List.cons_append]; simp only [sizeL]; rw [ih]; omega
theorem exT_append (ts us : List S39) : ∀ out, exT (ts ++ us) out = exT us (exT ts out) := by
  induction ts with
  | nil => intro out; rfl
  | cons t ts ih => intro out; rw [List.cons_append]; simp only [exT]; rw [ih]
theorem copyN_len : ∀ n d out, (copyN n d out).length = out.length + n
  | 0, _, _ => rfl
  | n + 1, d, out => by simp only [copyN]; rw [copyN_len n d]; simp; omega
theorem exT_len : ∀ (ts : List S39) out, (exT ts out).length = out.length + sizeL ts
  | [], out => rfl
  | t :: ts, out => by
    simp only [exT, sizeL, sizeT]
    rw [exT_len ts]
    split
    · simp; omega
    · rw [copyN_len]; omega
theorem copyN_shift (a : List Int) : ∀ n d out, 1 ≤ d → d ≤ out.length → copyN n d (a ++ out) = a ++ copyN n d out
  | 0, _, _, _, _ => rfl
  | n + 1, d, out, h1, h2 => by
    simp only [copyN]
    rw [show (a ++ out).getD ((a ++ out).length - d) 0 = out.getD (out.length - d) 0 from by
      rw [List.length_append, show a.length + out.length - d = a.length + (out.length - d) from by omega]
      simp only [List.getD_eq_getElem?_getD]; rw [List.getElem?_append_right (by omega), Nat.add_sub_cancel_left]]
    rw [List.append_assoc]
    exact copyN_shift a n d _ h1 (by simp; omega)
theorem exT_shift (a : List Int) : ∀ (ts : List S39) out, OkL ts out.length → exT ts (a ++ out) = a ++ exT ts out
  | [], out, _ => rfl
  | t :: ts, out, ⟨h1, h2⟩ => by
    simp only [exT]
    by_cases h : t.f1 = 0
    · rw [if_pos h, if_pos h, List.append_assoc]
      exact exT_shift a ts _ (by simp only [sizeT, if_pos h] at h2; simpa using h2)
    · rw [if_neg h, if_neg h]
      have h1' := h1.resolve_left (fun e => h e.1)
      rw [copyN_shift a _ _ _ (by omega) (by omega)]
      exact exT_shift a ts _ (by simp only [sizeT, if_neg h] at h2; rw [copyN_len]; exact h2)
theorem copyN_take (l : List Int) (d : Nat) (hd : 1 ≤ d) : ∀ n i, d ≤ i → i + n ≤ l.length → (∀ j, j < n → l.getD (i - d + j) 0 = l.getD (i + j) 0) → copyN n d (l.take i) = l.take (i + n)
  | 0, i, _, _, _ => rfl
  | n + 1, i, h1, h2, h => by
    simp only [copyN]
    have e : (l.take i).getD ((l.take i).length - d) 0 = l.getD i 0 := by
      have := h 0 (by omega)
      rw [Nat.add_zero, Nat.add_zero] at this
      rw [← this, List.length_take, Nat.min_eq_left (by omega)]
      simp only [List.getD_eq_getElem?_getD]
      rw [List.getElem?_take_of_lt (by omega)]
    rw [e, show l.take i ++ [l.getD i 0] = l.take (i + 1) from by
      rw [List.take_add_one]
      simp only [List.getD_eq_getElem?_getD]
      rw [List.getElem?_eq_getElem (show i < l.length by omega)]; rfl]
    rw [show i + (n + 1) = i + 1 + n from by omega]
    refine copyN_take l d hd n (i + 1) (by omega) (by omega) (fun j hj => ?_)
    have := h (j + 1) (by omega)
    rw [show i + 1 - d + j = i - d + (j + 1) from by omega, show i + 1 + j = i + (j + 1) from by omega]
    exact this
theorem sizeL_ge : ∀ {ts : List S39} {n : Nat}, OkL ts n → ts.length ≤ sizeL ts
  | [], _, _ => Nat.le_refl _
  | t :: ts, n, ⟨h1, h2⟩ => by have := sizeL_ge h2; have := sizeT_pos h1; simp only [sizeL, List.length_cons]; omega
/-! What the printed functions of package match answer, told by the plain laws. -/
theorem wi {a : Int} (h0 : -9223372036854775808 ≤ a) (h1 : a < 9223372036854775808) : wrap64 a = a := by unfold wrap64; omega
theorem rdT_mid (pre us : List S39) (u : S39) : rd_T39 (pre ++ u :: us) (pre.length : Int) = u := by
  unfold rd_T39
  rw [Int.toNat_natCast, List.getD_eq_getElem?_getD, List.getElem?_append_right (Nat.le_refl _), Nat.sub_self]; rfl
theorem rd_nat (l : List Int) (i : Nat) : rd l (i : Int) = l.getD i 0 := by unfold rd; rw [Int.toNat_natCast]
/-- One token that is right. -/
theorem size_step (l : List S39) (u : S39) (n i k : Nat) (hrd : rd_T39 l (i : Int) = u) (hi : i < l.length) (hl : l.length ≤ 2 ^ 40) (hn : n ≤ 2 ^ 40) (hu : OkT u n) :
    match_size.l0 (k + 2) (n : Int) l (l.length : Int) (i : Int) = match_size.l0 k ((n + sizeT u : Nat) : Int) l (l.length : Int) ((i + 1 : Nat) : Int) := by
  have hs := sizeT_pos hu
  rw [match_size.l0, if_pos (by omega), if_pos (by omega), if_pos (by omega), hrd]
  rcases hu with ⟨h1, h2⟩ | ⟨h1, h2, h3, h4, h5, h6⟩
  · have e : sizeT u = 1 := by unfold sizeT; rw [if_pos h1]
    rw [if_pos h1, match_size.j1, if_pos (by rw [h2]; rfl), wi (by omega) (by omega), wi (by omega) (by omega), e]
    rfl
  · have e : (sizeT u : Int) = u.f1 := by unfold sizeT; rw [if_neg (by omega)]; omega
    rw [if_neg (by omega), match_size.j1, if_neg (by simp), if_pos h1, if_neg (by omega), if_neg (by omega), if_neg (by omega), if_neg (by unfold mn; split <;> omega), wi (by omega) (by omega), wi (by omega) (by omega)]
    congr 1; omega
theorem size_loop (l : List S39) (hl : l.length ≤ 2 ^ 30) : ∀ (us pre : List S39) (n k : Nat), l = pre ++ us → OkL us n → n + sizeL us ≤ 2 ^ 40 → 2 * us.length < k →
    match_size.l0 k (n : Int) l (l.length : Int) (pre.length : Int) = some (((n + sizeL us : Nat) : Int), true)
  | [], pre, n, k, e, _, _, hk => by
    obtain ⟨k, rfl⟩ : ∃ m, k = m + 1 := ⟨k - 1, by omega⟩
    rw [match_size.l0, if_neg (by rw [e]; simp)]
    rfl
  | u :: us, pre, n, k, e, ⟨h1, h2⟩, hn, hk => by
    have hlen : pre.length < l.length := by rw [e]; simp
    have hrd : rd_T39 l (pre.length : Int) = u := by rw [e]; exact rdT_mid pre us u
    obtain ⟨k, rfl⟩ : ∃ m, k = m + 2 := ⟨k - 2, by simp at hk; omega⟩
    simp only [sizeL] at hn
    rw [size_step l u n pre.length k hrd hlen (by omega) (by omega) h1]
    have := size_loop l hl us (pre ++ [u]) (n + sizeT u) k (by rw [e]; simp) h2 (by omega) (by simp at hk; omega)
    rw [List.length_append, List.length_singleton] at this
    rw [this]
    simp only [sizeL]
    rw [Nat.add_assoc]
/-- A token that is not right tells so. -/
theorem size_bad (l : List S39) (hl : l.length ≤ 2 ^ 30) (v : S39) (ws : List S39) : ∀ (us pre : List S39) (n k : Nat), l = pre ++ us ++ v :: ws → OkL us n → n + sizeL us ≤ 2 ^ 40 → ¬ OkT v (n + sizeL us) → 2 * us.length + 2 < k →
    match_size.l0 k (n : Int) l (l.length : Int) (pre.length : Int) = some (0, false)
  | [], pre, n, k, e, _, hn, hv, hk => by
    obtain ⟨k, rfl⟩ : ∃ m, k = m + 2 := ⟨k - 2, by omega⟩
    have hlen : pre.length < l.length := by rw [e]; simp
    have hrd : rd_T39 l (pre.length : Int) = v := by rw [e, List.append_nil]; exact rdT_mid pre ws v
    simp only [sizeL, Nat.add_zero] at hv hn
    have hbad : match_size.j1 (k + 1) (n : Int) l (l.length : Int) (pre.length : Int) false v.f0 v.f1 v.f2 = some (0, false) := by
      rw [match_size.j1, if_neg (by simp)]
      by_cases h0 : v.f0 = 0
      · rw [if_pos h0]
        by_cases a1 : v.f1 < 3
        · rw [if_pos a1]
        rw [if_neg a1]
        by_cases a2 : v.f1 > 258
        · rw [if_pos a2]
        rw [if_neg a2]
        by_cases a3 : v.f2 < 1
        · rw [if_pos a3]
        rw [if_neg a3, if_pos]
        by_cases a4 : v.f2 ≤ (n : Int) ∧ v.f2 ≤ 2048
        · exact absurd (Or.inr ⟨h0, by omega, by omega, by omega, a4.1, a4.2⟩) hv
        · unfold mn; split <;> omega
      · rw [if_neg h0]
    rw [match_size.l0, if_pos (by omega), if_pos (by omega), if_pos (by omega), hrd]
    by_cases h1 : v.f1 = 0
    · rw [if_pos h1]
      by_cases h2 : v.f2 = 0
      · exact absurd (Or.inl ⟨h1, h2⟩) hv
      · rw [show (v.f2 == 0) = false from by rw [beq_eq_false_iff_ne]; exact h2]; exact hbad
    · rw [if_neg h1]; exact hbad
  | u :: us, pre, n, k, e, ⟨h1, h2⟩, hn, hv, hk => by
    have hlen : pre.length < l.length := by rw [e]; simp
    have hrd : rd_T39 l (pre.length : Int) = u := by rw [e, List.append_assoc]; exact rdT_mid pre _ u
    obtain ⟨k, rfl⟩ : ∃ m, k = m + 2 := ⟨k - 2, by simp at hk; omega⟩
    simp only [sizeL] at hn hv
    rw [size_step l u n pre.length k hrd hlen (by omega) (by omega) h1]
    have := size_bad l hl v ws us (pre ++ [u]) (n + sizeT u) k (by rw [e]; simp) h2 (by omega) (by rw [Nat.add_assoc]; exact hv) (by simp at hk; omega)
    rw [List.length_append, List.length_singleton] at this
    rw [this]
theorem size_is (l : List S39) (hl : l.length ≤ 2 ^ 30) (h : OkL l 0) (hs : sizeL l ≤ 2 ^ 40) (k : Nat) (hk : 2 * l.length < k) : match_size.f k l = some ((sizeL l : Int), true) := by
  have := size_loop l hl l [] 0 k rfl h (by omega) hk
  rw [Nat.zero_add] at this
  exact this
theorem check_is (l : List S39) (hl : l.length ≤ 2 ^ 30) (h : OkL l 0) (hs : sizeL l ≤ 4096) (k : Nat) (hk : 2 * l.length < k) : match_Check.f k l = some 0 := by
  unfold match_Check.f
  rw [size_is l hl h (by omega) k hk, Option.bind_some]
  dsimp only
  rw [if_pos rfl, if_neg (by omega)]
theorem check_bad (us ws : List S39) (v : S39) (hl : (us ++ v :: ws).length ≤ 2 ^ 30) (h : OkL us 0) (hs : sizeL us ≤ 2 ^ 40) (hv : ¬ OkT v (sizeL us)) (k : Nat) (hk : 2 * us.length + 2 < k) : match_Check.f k (us ++ v :: ws) = some 1 := by
  unfold match_Check.f match_size.f
  have := size_bad (us ++ v :: ws) hl v ws us [] 0 k rfl h (by omega) (by rw [Nat.zero_add]; exact hv) hk
  rw [show ((0 : Nat) : Int) = 0 from rfl, show (([] : List S39).length : Int) = 0 from rfl] at this
  rw [this, Option.bind_some]
  dsimp only
  rw [if_neg (by simp)]
theorem wrap_u64 (a : Int) : IntKind.u64.wrap a = a % 18446744073709551616 := by simp [IntKind.wrap, IntKind.signed, IntKind.bits]
theorem u64_in {a : Int} (h0 : 0 ≤ a) (h1 : a < 9223372036854775808) : IntKind.u64.wrap a = a := by rw [wrap_u64]; omega
theorem u64_nonneg (a : Int) : 0 ≤ IntKind.u64.wrap a := by rw [wrap_u64]; omega
theorem tmod_u64 (a m : Int) (h0 : 0 < m) (h1 : m < 9223372036854775808) : ∃ n : Nat, (n : Int) < m ∧ wrap64 (Int.tmod (IntKind.u64.wrap a) m) = n := by
  have hw := u64_nonneg a
  generalize IntKind.u64.wrap a = b at hw
  have h2 : 0 ≤ b % m := Int.emod_nonneg _ (by omega)
  have h3 : b % m < m := Int.emod_lt_of_pos _ h0
  refine ⟨(b % m).toNat, by omega, ?_⟩
  rw [Int.tmod_eq_emod_of_nonneg hw, Int.toNat_of_nonneg h2, wi (by omega) (by omega)]
theorem wf_u8 {x : Int} (h : (Lit.int .u8 x).wf = true) : 0 ≤ x ∧ x < 256 := by
  simp [Lit.wf, IntKind.min, IntKind.max, IntKind.signed, IntKind.bits] at h; omega
theorem wf_i64 {x : Int} (h : (Lit.int .i64 x).wf = true) : -9223372036854775808 ≤ x ∧ x < 9223372036854775808 := by
  simp [Lit.wf, IntKind.min, IntKind.max, IntKind.signed, IntKind.bits] at h; omega
/-- The least distance (from 0 on) of a symbol, in the document's closed form. -/
def dl : Nat → Nat
  | 0 => 0 | 1 => 1 | 2 => 2 | 3 => 3 | 4 => 4 | 5 => 6 | 6 => 8 | 7 => 12 | 8 => 16 | 9 => 24 | 10 => 32 | 11 => 48 | 12 => 64 | 13 => 96 | 14 => 128 | 15 => 192 | 16 => 256 | 17 => 384 | 18 => 512 | 19 => 768 | 20 => 1024 | 21 => 1536 | 22 => 2048 | 23 => 3072 | 24 => 4096 | 25 => 6144 | 26 => 8192 | 27 => 12288 | 28 => 16384 | 29 => 24576 | _ => 32768
def dk (s : Nat) : Nat := s / 2 - 1
def ll : Nat → Nat
  | 0 => 0 | 1 => 1 | 2 => 2 | 3 => 3 | 4 => 4 | 5 => 5 | 6 => 6 | 7 => 7 | 8 => 8 | 9 => 10 | 10 => 12 | 11 => 14 | 12 => 16 | 13 => 20 | 14 => 24 | 15 => 28 | 16 => 32 | 17 => 40 | 18 => 48 | 19 => 56 | 20 => 64 | 21 => 80 | 22 => 96 | 23 => 112 | 24 => 128 | 25 => 160 | 26 => 192 | 27 => 224 | _ => 256
def lk (s : Nat) : Nat := s / 4 - 1

theorem of_d : ∀ s : Fin 30, sym_scale_of.f 40 4 2 (s.val : Int) = some ((dl s.val : Int), (dk s.val : Int)) := by decide +kernel
theorem of_l : ∀ s : Fin 28, sym_scale_of.f 40 8 4 (s.val : Int) = some ((ll s.val : Int), (lk s.val : Int)) := by decide +kernel
theorem dl_succ : ∀ s : Fin 30, dl (s.val + 1) = dl s.val + 2 ^ dk s.val := by decide
theorem ll_succ : ∀ s : Fin 28, ll (s.val + 1) = ll s.val + 2 ^ lk s.val := by decide
theorem shl_d : ∀ s : Fin 30, shl .i64 1 (IntKind.u64.wrap (dk s.val : Int)) = ((2 ^ dk s.val : Nat) : Int) ∧ 0 ≤ IntKind.u64.wrap (dk s.val : Int) := by decide +kernel
theorem shl_l : ∀ s : Fin 28, shl .i64 1 (IntKind.u64.wrap (lk s.val : Int)) = ((2 ^ lk s.val : Nat) : Int) ∧ 0 ≤ IntKind.u64.wrap (lk s.val : Int) := by decide +kernel

theorem at_gen (A B : Int) (D K : Nat → Nat) (T : Nat) (hT : T ≤ 40) (hof : ∀ s, s < T → sym_scale_of.f 40 A B (s : Int) = some ((D s : Int), (K s : Int)))
    (hsucc : ∀ s, s < T → D (s + 1) = D s + 2 ^ K s) (hshl : ∀ s, s < T → shl .i64 1 (IntKind.u64.wrap (K s : Int)) = ((2 ^ K s : Nat) : Int) ∧ 0 ≤ IntKind.u64.wrap (K s : Int))
    (hD : D T ≤ 40000) : ∀ (t s n k : Nat), s + t + 1 = T → D s ≤ n → n < D T → 41 + t ≤ k →
      ∃ s', s ≤ s' ∧ s' < T ∧ D s' ≤ n ∧ n < D (s' + 1) ∧ sym_scale_at.l0 k (n : Int) (s : Int) A B = some ((s' : Int), (K s' : Int), (n : Int) - (D s' : Int)) := by
  intro t
  induction t with
  | zero =>
    intro s n k hs h0 h1 hk
    obtain ⟨k, rfl⟩ : ∃ m, k = m + 1 := ⟨k - 1, by omega⟩
    have e := at_rounds (sym_scale_of.mono A B s) (k' := k) (by omega) (hof s (by omega))
    obtain ⟨e1, e2⟩ := hshl s (by omega)
    have hs1 : s + 1 = T := by omega
    have hn : n < D s + 2 ^ K s := by rw [← hsucc s (by omega), hs1]; exact h1
    refine ⟨s, Nat.le_refl _, by omega, h0, by rw [hs1]; exact h1, ?_⟩
    simp only [sym_scale_at.l0]
    rw [e]
    simp only [Option.bind_some]
    rw [wi (by omega) (by omega), if_pos e2, e1, if_pos (by omega)]
  | succ t ih =>
    intro s n k hs h0 h1 hk
    obtain ⟨k, rfl⟩ : ∃ m, k = m + 1 := ⟨k - 1, by omega⟩
    have e := at_rounds (sym_scale_of.mono A B s) (k' := k) (by omega) (hof s (by omega))
    obtain ⟨e1, e2⟩ := hshl s (by omega)
    by_cases hn : n < D s + 2 ^ K s
    · refine ⟨s, Nat.le_refl _, by omega, h0, by rw [hsucc s (by omega)]; exact hn, ?_⟩
      simp only [sym_scale_at.l0]
      rw [e]
      simp only [Option.bind_some]
      rw [wi (by omega) (by omega), if_pos e2, e1, if_pos (by omega)]
    · obtain ⟨s', a, b, c, d, e'⟩ := ih (s + 1) n k (by omega) (by rw [hsucc s (by omega)]; omega) h1 (by omega)
      refine ⟨s', by omega, b, c, d, ?_⟩
      simp only [sym_scale_at.l0]
      rw [e]
      simp only [Option.bind_some]
      rw [wi (by omega) (by omega), if_pos e2, e1, if_neg (by omega), wi (by omega) (by omega)]
      exact e'

theorem step_of (D K : Nat → Nat) (T : Nat) (hsucc : ∀ s, s < T → D (s + 1) = D s + 2 ^ K s) (n s s' : Nat) (h : s < T) (h' : s' < T)
    (a : D s ≤ n) (b : n < D (s + 1)) (c : D s' ≤ n + 1) (d : n + 1 < D (s' + 1)) : s' = s ∨ s' = s + 1 := by
  have mono : ∀ j i, i + j ≤ T → D i ≤ D (i + j) := by
    intro j
    induction j with
    | zero => intro i _; exact Nat.le_refl _
    | succ j ih => intro i hi; have h1 := ih i (by omega); have h2 := hsucc (i + j) (by omega); rw [← Nat.add_assoc, h2]; exact Nat.le_trans h1 (Nat.le_add_right _ _)
  by_cases h1 : s' < s
  · have := mono (s - (s' + 1)) (s' + 1) (by omega)
    rw [show s' + 1 + (s - (s' + 1)) = s from by omega] at this
    omega
  · by_cases h2 : s + 1 < s'
    · have e := hsucc (s + 1) (by omega)
      have := mono (s' - (s + 2)) (s + 2) (by omega)
      rw [show s + 2 + (s' - (s + 2)) = s' from by omega] at this
      have hp : 0 < 2 ^ K (s + 1) := Nat.two_pow_pos _
      rw [show s + 1 + 1 = s + 2 from rfl] at e
      omega
    · omega

/-- The symbol of a distance, from 0 on; of a length, from 0 on. -/
theorem at_d (n k : Nat) (h : n < 32768) (hk : 70 ≤ k) : ∃ s, s < 30 ∧ dl s ≤ n ∧ n < dl (s + 1) ∧ sym_scale_at.f k 4 2 (n : Int) = some ((s : Int), (dk s : Int), (n : Int) - (dl s : Int)) := by
  obtain ⟨s, _, a, b, c, d⟩ := at_gen 4 2 dl dk 30 (by decide) (fun s h => of_d ⟨s, h⟩) (fun s h => dl_succ ⟨s, h⟩) (fun s h => shl_d ⟨s, h⟩) (by decide) 29 0 n k rfl (Nat.zero_le _) h (by omega)
  exact ⟨s, a, b, c, d⟩
theorem at_l (n k : Nat) (h : n < 256) (hk : 70 ≤ k) : ∃ s, s < 28 ∧ ll s ≤ n ∧ n < ll (s + 1) ∧ sym_scale_at.f k 8 4 (n : Int) = some ((s : Int), (lk s : Int), (n : Int) - (ll s : Int)) := by
  obtain ⟨s, _, a, b, c, d⟩ := at_gen 8 4 ll lk 28 (by decide) (fun s h => of_l ⟨s, h⟩) (fun s h => ll_succ ⟨s, h⟩) (fun s h => shl_l ⟨s, h⟩) (by decide) 27 0 n k rfl (Nat.zero_le _) h (by omega)
  exact ⟨s, a, b, c, d⟩
/-- One distance tried: the reference's inner loop. -/
theorem ref_inner (l : List Int) (i d n d0 K : Nat) (hd1 : 1 ≤ d) (hd : d ≤ i) (hl : l.length ≤ 1000000) (hi : i < l.length) (r : Option (Int × Int)) : ∀ (f c k : Nat), c + f = 258 →
    (∀ k', K ≤ k' → wherryref01_Best.l0 k' l (i : Int) ((if n < comF l (i - d) i f c then comF l (i - d) i f c else n : Nat) : Int) ((if n < comF l (i - d) i f c then d else d0 : Nat) : Int) ((d + 1 : Nat) : Int) = r) → K + f + 1 ≤ k →
    wherryref01_Best.l1 k l (i : Int) (n : Int) (d0 : Int) (d : Int) (c : Int) = r
  | 0, c, k, hc, H, hk => by
    obtain ⟨k, rfl⟩ : ∃ m, k = m + 1 := ⟨k - 1, by omega⟩
    have H := H k (by omega)
    rw [show comF l (i - d) i 0 c = c from rfl] at H
    rw [wherryref01_Best.l1, if_neg (by omega), wi (by omega) (by omega)]
    by_cases h : n < c
    · rw [if_pos h, if_pos h] at H
      rw [if_pos (by omega)]; exact H
    · rw [if_neg h, if_neg h] at H
      rw [if_neg (by omega)]; exact H
  | f + 1, c, k, hc, H, hk => by
    obtain ⟨k, rfl⟩ : ∃ m, k = m + 1 := ⟨k - 1, by omega⟩
    rw [wherryref01_Best.l1, if_pos (by omega), wi (by omega) (by omega)]
    have stop : comF l (i - d) i (f + 1) c = c → (if (c : Int) > (n : Int) then (wherryref01_Best.l0 k l (i : Int) (c : Int) (d : Int) (wrap64 ((d : Int) + 1))) else (wherryref01_Best.l0 k l (i : Int) (n : Int) (d0 : Int) (wrap64 ((d : Int) + 1)))) = r := by
      intro e
      have H := H k (by omega)
      rw [e] at H
      rw [wi (by omega) (by omega)]
      by_cases h : n < c
      · rw [if_pos h, if_pos h] at H
        rw [if_pos (by omega)]; exact H
      · rw [if_neg h, if_neg h] at H
        rw [if_neg (by omega)]; exact H
    by_cases h1 : i + c < l.length
    · rw [if_pos (by omega), if_pos (by omega), wi (by omega) (by omega), if_pos (by omega), if_pos (by omega), show (i : Int) + (c : Int) - (d : Int) = ((i - d + c : Nat) : Int) from by omega, show (i : Int) + (c : Int) = ((i + c : Nat) : Int) from by omega, rd_nat, rd_nat]
      by_cases h2 : l.getD (i - d + c) 0 = l.getD (i + c) 0
      · have e : comF l (i - d) i (f + 1) c = comF l (i - d) i f (c + 1) := by rw [comF, if_pos ⟨h1, h2⟩]
        rw [if_pos h2.symm, wi (by omega) (by omega), show (c : Int) + 1 = ((c + 1 : Nat) : Int) from by omega]
        exact ref_inner l i d n d0 K hd1 hd hl hi r f (c + 1) k (by omega) (by rw [← e]; exact H) (by omega)
      · rw [if_neg (fun h => h2 h.symm)]
        exact stop (by rw [comF, if_neg (fun h => h2 h.2)])
    · rw [if_neg (by omega)]
      exact stop (by rw [comF, if_neg (fun h => h1 h.1)])
theorem ref_outer (l : List Int) (i : Nat) (hl : l.length ≤ 4096) (hi : i < l.length) (N D : Nat) (hb : IsBest l i N D) : ∀ (e d n d0 k : Nat), d + e = 2049 → 1 ≤ d → BestSo l i d n d0 → 262 * e + 2 ≤ k →
    wherryref01_Best.l0 k l (i : Int) (n : Int) (d0 : Int) (d : Int) = some ((N : Int), (D : Int))
  | e, d, n, d0, k, he, hd1, hs, hk => by
    obtain ⟨k, rfl⟩ : ∃ m, k = m + 2 := ⟨k - 2, by omega⟩
    have stop : i < d ∨ 2048 < d → wherryref01_Best.j2 (k + 1) l (i : Int) (n : Int) (d0 : Int) (d : Int) false = some ((N : Int), (D : Int)) := by
      intro hstop
      rw [wherryref01_Best.j2, if_neg (by decide)]
      obtain ⟨s1, s2⟩ := hs
      by_cases h3 : n < 3
      · rw [if_pos (by omega)]
        have hz : IsBest l i 0 0 := ⟨Or.inl ⟨rfl, rfl⟩, fun o ho1 ho2 ho3 => by have := s2 o ho1 (by omega); omega⟩
        obtain ⟨rfl, rfl⟩ := hb.one hz
        rfl
      · rw [if_neg (by omega)]
        have s1' := s1.resolve_left (by omega)
        have hz : IsBest l i n d0 := ⟨Or.inr ⟨by omega, by have := com_le l (i - d0) i; omega, by omega, by omega, by omega, by have := com_len l (i - d0) i (by omega); omega, s1'.2.2.2.2⟩, fun o ho1 ho2 ho3 => by have := s2 o ho1 (by omega); omega⟩
        obtain ⟨rfl, rfl⟩ := hb.one hz
        rfl
    rw [wherryref01_Best.l0]
    by_cases h1 : d ≤ i
    · rw [if_pos (by omega)]
      by_cases h2 : d ≤ 2048
      · rw [show (decide ((d : Int) ≤ 2048)) = true from decide_eq_true (by omega), wherryref01_Best.j2, if_pos rfl]
        obtain ⟨e, rfl⟩ : ∃ m, e = m + 1 := ⟨e - 1, by omega⟩
        refine ref_inner l i d n d0 (262 * e + 2) hd1 h1 (by omega) hi _ 258 0 k rfl (fun k' hk' => ?_) (by omega)
        refine ref_outer l i hl hi N D hb e (d + 1) _ _ k' (by omega) (by omega) ?_ hk'
        obtain ⟨s1, s2⟩ := hs
        show BestSo l i (d + 1) (if n < com l (i - d) i then com l (i - d) i else n) (if n < com l (i - d) i then d else d0)
        by_cases hlt : n < com l (i - d) i
        · rw [if_pos hlt, if_pos hlt]
          refine ⟨Or.inr ⟨by omega, hd1, by omega, h1, rfl⟩, fun o ho1 ho2 => ?_⟩
          by_cases eo : o = d
          · subst eo; exact Or.inr ⟨rfl, Nat.le_refl _⟩
          · have := s2 o ho1 (by omega); left; omega
        · rw [if_neg hlt, if_neg hlt]
          refine ⟨by rcases s1 with s | s; exact Or.inl s; exact Or.inr ⟨s.1, s.2.1, by omega, s.2.2.2⟩, fun o ho1 ho2 => ?_⟩
          by_cases eo : o = d
          · subst eo
            rcases Nat.lt_or_ge (com l (i - o) i) n with h | h
            · exact Or.inl h
            · exact Or.inr ⟨by omega, by omega⟩
          · exact s2 o ho1 (by omega)
      · rw [show (decide ((d : Int) ≤ 2048)) = false from decide_eq_false (by omega)]
        exact stop (by omega)
    · rw [if_neg (by omega)]
      exact stop (by omega)
theorem cap_step (n s : Nat) (hn : n ≤ 2 ^ 40) (hs : s ≤ 300) : mn (wrap64 (((min n 8192 : Nat) : Int) + (s : Int))) 8192 = ((min (n + s) 8192 : Nat) : Int) := by
  rw [wi (by omega) (by omega)]
  unfold mn
  split <;> omega
theorem cap_long (n s : Nat) (hs : s ≤ 300) (h : ¬ n > 4096) : (decide ((wrap64 (((min n 8192 : Nat) : Int) + (s : Int))) > 4096)) = decide (n + s > 4096) := by
  rw [wi (by omega) (by omega)]
  exact decide_eq_decide.2 (by omega)
theorem in_is (a b c : Int) : wherryref01_in.f a b c = some (decide (b ≤ a ∧ a ≤ c)) := by
  unfold wherryref01_in.f
  by_cases h : a ≥ b
  · rw [if_pos h]
    congr 1
    exact decide_eq_decide.2 (by omega)
  · rw [if_neg h, decide_eq_false (by omega)]
theorem refcheck_step (l : List S39) (u : S39) (n i k : Nat) (hrd : rd_T39 l (i : Int) = u) (hi : i < l.length) (hl : l.length ≤ 2 ^ 30) (hn : n ≤ 2 ^ 40) (hu : OkT u n) :
    wherryref01_CheckToks.l0 (k + 2) l ((min n 8192 : Nat) : Int) (decide (n > 4096)) (i : Int) = wherryref01_CheckToks.l0 k l ((min (n + sizeT u) 8192 : Nat) : Int) (decide (n + sizeT u > 4096)) ((i + 1 : Nat) : Int) := by
  have hs := sizeT_pos hu
  rw [wherryref01_CheckToks.l0, if_pos (by omega), if_pos (by omega), hrd]
  rcases hu with ⟨h1, h2⟩ | ⟨h1, h2, h3, h4, h5, h6⟩
  · have e : sizeT u = 1 := by unfold sizeT; rw [if_pos h1]
    rw [if_pos h1, wherryref01_CheckToks.j1, if_pos (by rw [h2]; rfl), wi (a := (i : Int) + 1) (by omega) (by omega), e]
    have hc := cap_step n 1 hn (by omega)
    have hg := cap_long n 1 (by omega)
    rw [show ((1 : Nat) : Int) = 1 from rfl] at hc hg
    by_cases h : n > 4096
    · rw [if_pos (decide_eq_true h), hc, decide_eq_true (show n + 1 > 4096 by omega)]; rfl
    · rw [if_neg (by simpa using h), hc, hg h]; rfl
  · have e : (sizeT u : Int) = u.f1 := by unfold sizeT; rw [if_neg (by omega)]; omega
    have hc := cap_step n (sizeT u) hn (by omega)
    have hg := cap_long n (sizeT u) (by omega)
    rw [e] at hc hg
    rw [if_neg (by omega), wherryref01_CheckToks.j1, if_neg (by simp), if_pos (by omega), if_pos (by omega), hrd, if_pos h1, in_is, Option.bind_some, if_pos (decide_eq_true ⟨h2, h3⟩), in_is, Option.bind_some, if_pos (decide_eq_true ⟨h4, h6⟩), if_neg (by omega), wi (a := (i : Int) + 1) (by omega) (by omega)]
    by_cases h : n > 4096
    · rw [if_pos (decide_eq_true h), hc, decide_eq_true (show n + sizeT u > 4096 by omega)]; rfl
    · rw [if_neg (by simpa using h), hc, hg h]; rfl
theorem refcheck_loop (l : List S39) (hl : l.length ≤ 2 ^ 30) : ∀ (us pre : List S39) (n k : Nat), l = pre ++ us → OkL us n → n + sizeL us ≤ 2 ^ 40 → 2 * us.length < k →
    wherryref01_CheckToks.l0 k l ((min n 8192 : Nat) : Int) (decide (n > 4096)) (pre.length : Int) = some (if n + sizeL us > 4096 then 2 else 0)
  | [], pre, n, k, e, _, _, hk => by
    obtain ⟨k, rfl⟩ : ∃ m, k = m + 1 := ⟨k - 1, by omega⟩
    rw [wherryref01_CheckToks.l0, if_neg (by rw [e]; simp)]
    rw [show n + sizeL ([] : List S39) = n from rfl]
    by_cases h : n > 4096
    · rw [if_pos (decide_eq_true h), if_pos h]
    · rw [if_neg (by simpa using h), if_neg h]
  | u :: us, pre, n, k, e, ⟨h1, h2⟩, hn, hk => by
    have hlen : pre.length < l.length := by rw [e]; simp
    have hrd : rd_T39 l (pre.length : Int) = u := by rw [e]; exact rdT_mid pre us u
    obtain ⟨k, rfl⟩ : ∃ m, k = m + 2 := ⟨k - 2, by simp at hk; omega⟩
    simp only [sizeL] at hn
    rw [refcheck_step l u n pre.length k hrd hlen (by omega) (by omega) h1]
    have := refcheck_loop l hl us (pre ++ [u]) (n + sizeT u) k (by rw [e]; simp) h2 (by omega) (by simp at hk; omega)
    rw [List.length_append, List.length_singleton] at this
    rw [this, show n + sizeL (u :: us) = n + sizeT u + sizeL us from by simp only [sizeL]; omega]
theorem refcheck_bad (l : List S39) (hl : l.length ≤ 2 ^ 30) (v : S39) (ws : List S39) : ∀ (us pre : List S39) (n k : Nat), l = pre ++ us ++ v :: ws → OkL us n → n + sizeL us ≤ 2 ^ 40 → ¬ OkT v (n + sizeL us) → 2 * us.length + 2 < k →
    wherryref01_CheckToks.l0 k l ((min n 8192 : Nat) : Int) (decide (n > 4096)) (pre.length : Int) = some 1
  | [], pre, n, k, e, _, hn, hv, hk => by
    obtain ⟨k, rfl⟩ : ∃ m, k = m + 2 := ⟨k - 2, by omega⟩
    have hlen : pre.length < l.length := by rw [e]; simp
    have hrd : rd_T39 l (pre.length : Int) = v := by rw [e, List.append_nil]; exact rdT_mid pre ws v
    simp only [sizeL, Nat.add_zero] at hv hn
    have hbad : wherryref01_CheckToks.j1 (k + 1) l ((min n 8192 : Nat) : Int) (decide (n > 4096)) (pre.length : Int) false = some 1 := by
      rw [wherryref01_CheckToks.j1, if_neg (by simp), if_pos (by omega), if_pos (by omega), hrd]
      by_cases h0 : v.f0 = 0
      · rw [if_pos h0, in_is, Option.bind_some]
        by_cases a1 : 3 ≤ v.f1 ∧ v.f1 ≤ 258
        · rw [if_pos (decide_eq_true a1), in_is, Option.bind_some]
          by_cases a2 : 1 ≤ v.f2 ∧ v.f2 ≤ 2048
          · rw [if_pos (decide_eq_true a2), if_pos]
            by_cases a4 : v.f2 ≤ (n : Int)
            · exact absurd (Or.inr ⟨h0, a1.1, a1.2, a2.1, a4, a2.2⟩) hv
            · omega
          · rw [if_neg (by simpa using a2)]
        · rw [if_neg (by simpa using a1)]
      · rw [if_neg h0]
    rw [wherryref01_CheckToks.l0, if_pos (by omega), if_pos (by omega), hrd]
    by_cases h1 : v.f1 = 0
    · rw [if_pos h1]
      by_cases h2 : v.f2 = 0
      · exact absurd (Or.inl ⟨h1, h2⟩) hv
      · rw [show (v.f2 == 0) = false from by rw [beq_eq_false_iff_ne]; exact h2]; exact hbad
    · rw [if_neg h1]; exact hbad
  | u :: us, pre, n, k, e, ⟨h1, h2⟩, hn, hv, hk => by
    have hlen : pre.length < l.length := by rw [e]; simp
    have hrd : rd_T39 l (pre.length : Int) = u := by rw [e, List.append_assoc]; exact rdT_mid pre _ u
    obtain ⟨k, rfl⟩ : ∃ m, k = m + 2 := ⟨k - 2, by simp at hk; omega⟩
    simp only [sizeL] at hn hv
    rw [refcheck_step l u n pre.length k hrd hlen (by omega) (by omega) h1]
    have := refcheck_bad l hl v ws us (pre ++ [u]) (n + sizeT u) k (by rw [e]; simp) h2 (by omega) (by rw [Nat.add_assoc]; exact hv) (by simp at hk; omega)
    rw [List.length_append, List.length_singleton] at this
    rw [this]
theorem ok_or_bad : ∀ (ts : List S39) (n : Nat), OkL ts n ∨ ∃ us v ws, ts = us ++ v :: ws ∧ OkL us n ∧ ¬ OkT v (n + sizeL us)
  | [], _ => Or.inl trivial
  | t :: ts, n => by
    by_cases h : OkT t n
    · rcases ok_or_bad ts (n + sizeT t) with h2 | ⟨us, v, ws, e, h2, h3⟩
      · exact Or.inl ⟨h, h2⟩
      · exact Or.inr ⟨t :: us, v, ws, by rw [e]; rfl, ⟨h, h2⟩, by simp only [sizeL]; rw [← Nat.add_assoc]; exact h3⟩
    · exact Or.inr ⟨[], t, ts, rfl, trivial, by simpa [sizeL] using h⟩
theorem sizeL_le : ∀ {ts : List S39} {n : Nat}, OkL ts n → sizeL ts ≤ 258 * ts.length
  | [], _, _ => Nat.le_refl _
  | t :: ts, n, ⟨h1, h2⟩ => by have := sizeL_le h2; have := sizeT_pos h1; simp only [sizeL, List.length_cons]; omega
/-- Both say the same of any row of tokens. -/
theorem check_both (l : List S39) (hl : l.length ≤ 600) (k : Nat) (hk : 2000 ≤ k) : ∃ e, match_Check.f k l = some e ∧ wherryref01_CheckToks.f k l = some e ∧ (e = 0 → OkL l 0 ∧ sizeL l ≤ 4096) := by
  rcases ok_or_bad l 0 with h | ⟨us, v, ws, e, h1, h2⟩
  · have hs := sizeL_le h
    have hr := refcheck_loop l (by omega) l [] 0 k rfl h (by omega) (by omega)
    rw [Nat.zero_add] at hr
    refine ⟨if sizeL l > 4096 then 2 else 0, ?_, hr, fun e => ⟨h, ?_⟩⟩
    · unfold match_Check.f
      rw [size_is l (by omega) h (by omega) k (by omega), Option.bind_some]
      dsimp only
      rw [if_pos rfl]
      by_cases hc : sizeL l > 4096
      · rw [if_pos (by omega), if_pos hc]
      · rw [if_neg (by omega), if_neg hc]
    · split at e
      · cases e
      · omega
  · subst e
    have hs := sizeL_le h1
    rw [Nat.zero_add] at h2
    have hlu : us.length ≤ 600 := by rw [List.length_append] at hl; omega
    have hr := refcheck_bad (us ++ v :: ws) (by omega) v ws us [] 0 k rfl h1 (by omega) (by rw [Nat.zero_add]; exact h2) (by omega)
    exact ⟨1, check_bad us ws v (by omega) h1 (by omega) h2 k (by omega), hr, fun e => absurd e (by decide)⟩
end Go.Proofs.Ytfghmdjlhfclaaa.P
