/- The reference answers as the package does, of any row of tokens: plain laws on the printed functions; used by the claims of this seat. -/
import Derived.Test.YtagdlmlanjjecaaMatch
import Derived.Test.YtagdlmlanjjecaaMatchRef
import Derived.Test.YtagdlmlanjjecaaPx0
import Derived.Test.YtagdlmlanjjecaaPx5
import Derived.Test.YtagdlmlanjjecaaPx7
import Derived.Test.YtagdlmlanjjecaaPx8
import Derived.Test.YtagdlmlanjjecaaPx9
namespace Go.Proofs.Ytagdlmlanjjecaa.P
open Go.RowKit Go.Proofs.Ytagdlmlanjjecaa.P Go.Proofs.YtagdlmlanjjecaaW.PrintWords Go.Proofs.YtagdlmlanjjecaaW.PrintLast Go.Proofs.YtagdlmlanjjecaaW.PrintMore
set_option linter.unusedVariables false
set_option linter.unusedSimpArgs false
theorem cap_step (n s : Nat) (hn : n ≤ 2 ^ 40) (hs : s ≤ 300) : mn (wrap64 (((min n 8192 : Nat) : Int) + (s : Int))) 8192 = ((min (n + s) 8192 : Nat) : Int) := by
  rw [wi (by omega) (by omega)]
  unfold mn
  split <;> omega
theorem cap_long (n s : Nat) (hs : s ≤ 300) (h : ¬ n > 4096) : (decide ((wrap64 (((min n 8192 : Nat) : Int) + (s : Int))) > 4096)) = decide (n + s > 4096) := by
  rw [wi (by omega) (by omega)]
  exact decide_eq_decide.2 (by omega)
theorem in_is (a b c : Int) : wherryref01_in.f a b c = some (decide (b ≤ a ∧ a ≤ c)) := by
  unfold wherryref01_in.f
  by_cases h : a ≥ b
  · rw [if_pos h]
    congr 1
    exact decide_eq_decide.2 (by omega)
  · rw [if_neg h, decide_eq_false (by omega)]
theorem refcheck_step (l : List S40) (u : S40) (n i k : Nat) (hrd : rd_T40 l (i : Int) = u) (hi : i < l.length) (hl : l.length ≤ 2 ^ 30) (hn : n ≤ 2 ^ 40) (hu : OkT u n) :
    wherryref01_CheckToks.l0 (k + 2) l ((min n 8192 : Nat) : Int) (decide (n > 4096)) (i : Int) = wherryref01_CheckToks.l0 k l ((min (n + sizeT u) 8192 : Nat) : Int) (decide (n + sizeT u > 4096)) ((i + 1 : Nat) : Int) := by
  have hs := sizeT_pos hu
  rw [wherryref01_CheckToks.l0, if_pos (by omega), if_pos (by omega), hrd]
  rcases hu with ⟨h1, h2⟩ | ⟨h1, h2, h3, h4, h5, h6⟩
  · have e : sizeT u = 1 := by unfold sizeT; rw [if_pos h1]
    rw [if_pos h1, wherryref01_CheckToks.j1, if_pos (by rw [h2]; rfl), wi (a := (i : Int) + 1) (by omega) (by omega), e]
    have hc := cap_step n 1 hn (by omega)
    have hg := cap_long n 1 (by omega)
    rw [show ((1 : Nat) : Int) = 1 from rfl] at hc hg
    by_cases h : n > 4096
    · rw [if_pos (decide_eq_true h), hc, decide_eq_true (show n + 1 > 4096 by omega)]; rfl
    · rw [if_neg (by simpa using h), hc, hg h]; rfl
  · have e : (sizeT u : Int) = u.f1 := by unfold sizeT; rw [if_neg (by omega)]; omega
    have hc := cap_step n (sizeT u) hn (by omega)
    have hg := cap_long n (sizeT u) (by omega)
    rw [e] at hc hg
    rw [if_neg (by omega), wherryref01_CheckToks.j1, if_neg (by simp), if_pos (by omega), if_pos (by omega), hrd, if_pos h1, in_is, Option.bind_some, if_pos (decide_eq_true ⟨h2, h3⟩), in_is, Option.bind_some, if_pos (decide_eq_true ⟨h4, h6⟩), if_neg (by omega), wi (a := (i : Int) + 1) (by omega) (by omega)]
    by_cases h : n > 4096
    · rw [if_pos (decide_eq_true h), hc, decide_eq_true (show n + sizeT u > 4096 by omega)]; rfl
    · rw [if_neg (by simpa using h), hc, hg h]; rfl
theorem refcheck_loop (l : List S40) (hl : l.length ≤ 2 ^ 30) : ∀ (us pre : List S40) (n k : Nat), l = pre ++ us → OkL us n → n + sizeL us ≤ 2 ^ 40 → 2 * us.length < k →
    wherryref01_CheckToks.l0 k l ((min n 8192 : Nat) : Int) (decide (n > 4096)) (pre.length : Int) = some (if n + sizeL us > 4096 then 2 else 0)
  | [], pre, n, k, e, _, _, hk => by
    obtain ⟨k, rfl⟩ : ∃ m, k = m + 1 := ⟨k - 1, by omega⟩
    rw [wherryref01_CheckToks.l0, if_neg (by rw [e]; simp)]
    rw [show n + sizeL ([] : List S40) = n from rfl]
    by_cases h : n > 4096
    · rw [if_pos (decide_eq_true h), if_pos h]
    · rw [if_neg (by simpa using h), if_neg h]
  | u :: us, pre, n, k, e, ⟨h1, h2⟩, hn, hk => by
    have hlen : pre.length < l.length := by rw [e]; simp
    have hrd : rd_T40 l (pre.length : Int) = u := by rw [e]; exact rdT_mid pre us u
    obtain ⟨k, rfl⟩ : ∃ m, k = m + 2 := ⟨k - 2, by simp at hk; omega⟩
    simp only [sizeL] at hn
    rw [refcheck_step l u n pre.length k hrd hlen (by omega) (by omega) h1]
    have := refcheck_loop l hl us (pre ++ [u]) (n + sizeT u) k (by rw [e]; simp) h2 (by omega) (by simp at hk; omega)
    rw [List.length_append, List.length_singleton] at this
    rw [this, show n + sizeL (u :: us) = n + sizeT u + sizeL us from by simp only [sizeL]; omega]
theorem refcheck_bad (l : List S40) (hl : l.length ≤ 2 ^ 30) (v : S40) (ws : List S40) : ∀ (us pre : List S40) (n k : Nat), l = pre ++ us ++ v :: ws → OkL us n → n + sizeL us ≤ 2 ^ 40 → ¬ OkT v (n + sizeL us) → 2 * us.length + 2 < k →
    wherryref01_CheckToks.l0 k l ((min n 8192 : Nat) : Int) (decide (n > 4096)) (pre.length : Int) = some 1
  | [], pre, n, k, e, _, hn, hv, hk => by
    obtain ⟨k, rfl⟩ : ∃ m, k = m + 2 := ⟨k - 2, by omega⟩
    have hlen : pre.length < l.length := by rw [e]; simp
    have hrd : rd_T40 l (pre.length : Int) = v := by rw [e, List.append_nil]; exact rdT_mid pre ws v
    simp only [sizeL, Nat.add_zero] at hv hn
    have hbad : wherryref01_CheckToks.j1 (k + 1) l ((min n 8192 : Nat) : Int) (decide (n > 4096)) (pre.length : Int) false = some 1 := by
      rw [wherryref01_CheckToks.j1, if_neg (by simp), if_pos (by omega), if_pos (by omega), hrd]
      by_cases h0 : v.f0 = 0
      · rw [if_pos h0, in_is, Option.bind_some]
        by_cases a1 : 3 ≤ v.f1 ∧ v.f1 ≤ 258
        · rw [if_pos (decide_eq_true a1), in_is, Option.bind_some]
          by_cases a2 : 1 ≤ v.f2 ∧ v.f2 ≤ 2048
          · rw [if_pos (decide_eq_true a2), if_pos]
            by_cases a4 : v.f2 ≤ (n : Int)
            · exact absurd (Or.inr ⟨h0, a1.1, a1.2, a2.1, a4, a2.2⟩) hv
            · omega
          · rw [if_neg (by simpa using a2)]
        · rw [if_neg (by simpa using a1)]
      · rw [if_neg h0]
    rw [wherryref01_CheckToks.l0, if_pos (by omega), if_pos (by omega), hrd]
    by_cases h1 : v.f1 = 0
    · rw [if_pos h1]
      by_cases h2 : v.f2 = 0
      · exact absurd (Or.inl ⟨h1, h2⟩) hv
      · rw [show (v.f2 == 0) = false from by rw [beq_eq_false_iff_ne]; exact h2]; exact hbad
    · rw [if_neg h1]; exact hbad
  | u :: us, pre, n, k, e, ⟨h1, h2⟩, hn, hv, hk => by
    have hlen : pre.length < l.length := by rw [e]; simp
    have hrd : rd_T40 l (pre.length : Int) = u := by rw [e, List.append_assoc]; exact rdT_mid pre _ u
    obtain ⟨k, rfl⟩ : ∃ m, k = m + 2 := ⟨k - 2, by simp at hk; omega⟩
    simp only [sizeL] at hn hv
    rw [refcheck_step l u n pre.length k hrd hlen (by omega) (by omega) h1]
    have := refcheck_bad l hl v ws us (pre ++ [u]) (n + sizeT u) k (by rw [e]; simp) h2 (by omega) (by rw [Nat.add_assoc]; exact hv) (by simp at hk; omega)
    rw [List.length_append, List.length_singleton] at this
    rw [this]
theorem ok_or_bad : ∀ (ts : List S40) (n : Nat), OkL ts n ∨ ∃ us v ws, ts = us ++ v :: ws ∧ OkL us n ∧ ¬ OkT v (n + sizeL us)
  | [], _ => Or.inl trivial
  | t :: ts, n => by
    by_cases h : OkT t n
    · rcases ok_or_bad ts (n + sizeT t) with h2 | ⟨us, v, ws, e, h2, h3⟩
      · exact Or.inl ⟨h, h2⟩
      · exact Or.inr ⟨t :: us, v, ws, by rw [e]; rfl, ⟨h, h2⟩, by simp only [sizeL]; rw [← Nat.add_assoc]; exact h3⟩
    · exact Or.inr ⟨[], t, ts, rfl, trivial, by simpa [sizeL] using h⟩
theorem sizeL_le : ∀ {ts : List S40} {n : Nat}, OkL ts n → sizeL ts ≤ 258 * ts.length
  | [], _, _ => Nat.le_refl _
  | t :: ts, n, ⟨h1, h2⟩ => by have := sizeL_le h2; have := sizeT_pos h1; simp only [sizeL, List.length_cons]; omega
/-- Both say the same of any row of tokens. -/
theorem check_both (l : List S40) (hl : l.length ≤ 600) (k : Nat) (hk : 2000 ≤ k) : ∃ e, match_Check.f k l = some e ∧ wherryref01_CheckToks.f k l = some e ∧ (e = 0 → OkL l 0 ∧ sizeL l ≤ 4096) := by
  rcases ok_or_bad l 0 with h | ⟨us, v, ws, e, h1, h2⟩
  · have hs := sizeL_le h
    have hr := refcheck_loop l (by omega) l [] 0 k rfl h (by omega) (by omega)
    rw [Nat.zero_add] at hr
    refine ⟨if sizeL l > 4096 then 2 else 0, ?_, hr, fun e => ⟨h, ?_⟩⟩
    · unfold match_Check.f
      rw [size_is l (by omega) h (by omega) k (by omega), Option.bind_some]
      dsimp only
      rw [if_pos rfl]
      by_cases hc : sizeL l > 4096
      · rw [if_pos (by omega), if_pos hc]
      · rw [if_neg (by omega), if_neg hc]
    · split at e
      · cases e
      · omega
  · subst e
    have hs := sizeL_le h1
    rw [Nat.zero_add] at h2
    have hlu : us.length ≤ 600 := by rw [List.length_append] at hl; omega
    have hr := refcheck_bad (us ++ v :: ws) (by omega) v ws us [] 0 k rfl h1 (by omega) (by rw [Nat.zero_add]; exact h2) (by omega)
    exact ⟨1, check_bad us ws v (by omega) h1 (by omega) h2 k (by omega), hr, fun e => absurd e (by decide)⟩
theorem refexpand_copy (l : List S40) (i : Nat) (u : S40) (hrd : rd_T40 l (i : Int) = u) (hi : i < l.length) (hd : 1 ≤ u.f2) : ∀ (m j k : Nat) (out : List Int), u.f2 ≤ (out.length : Int) → out.length + m ≤ 2 ^ 40 → (j : Int) + (m : Int) = u.f1 → j + m ≤ 2 ^ 40 →
    wherryref01_Expand.l1 (k + m + 1) l out (i : Int) (j : Int) = wherryref01_Expand.l0 k l (copyN m u.f2.toNat out) (wrap64 ((i : Int) + 1))
  | 0, j, k, out, _, _, hj, _ => by
    rw [wherryref01_Expand.l1, if_pos (by omega), if_pos (by omega), hrd, if_neg (by omega)]; rfl
  | m + 1, j, k, out, ho, hs, hj, hm => by
    rw [show k + (m + 1) + 1 = (k + m + 1) + 1 from by omega, wherryref01_Expand.l1, if_pos (by omega), if_pos (by omega), hrd, if_pos (by omega), wi (by omega) (by omega), if_pos (by omega), if_pos (by omega), if_pos (by omega), wi (by omega) (by omega)]
    rw [show ((j : Int) + 1) = ((j + 1 : Nat) : Int) from by omega, refexpand_copy l i u hrd hi hd m (j + 1) k _ (by simp; omega) (by simp; omega) (by omega) (by omega)]
    simp only [copyN]
    rw [show ((out.length : Int) - u.f2) = ((out.length - u.f2.toNat : Nat) : Int) from by omega, rd_nat]
theorem refexpand_loop (l : List S40) (hl : l.length ≤ 2 ^ 30) : ∀ (us pre : List S40) (out : List Int) (k : Nat), l = pre ++ us → OkL us out.length → out.length + sizeL us ≤ 2 ^ 40 → 3 * us.length + sizeL us < k →
    wherryref01_Expand.l0 k l out (pre.length : Int) = some (exT us out, 0)
  | [], pre, out, k, e, _, _, hk => by
    obtain ⟨k, rfl⟩ : ∃ m, k = m + 1 := ⟨k - 1, by omega⟩
    rw [wherryref01_Expand.l0, if_neg (by rw [e]; simp)]
    rfl
  | u :: us, pre, out, k, e, ⟨h1, h2⟩, hn, hk => by
    have hlen : pre.length < l.length := by rw [e]; simp
    have hrd : rd_T40 l (pre.length : Int) = u := by rw [e]; exact rdT_mid pre us u
    have hs := sizeT_pos h1
    simp only [sizeL] at hn hk
    simp only [List.length_cons] at hk
    have ih := fun out' k' a b c => refexpand_loop l hl us (pre ++ [u]) out' k' (by rw [e]; simp) a b c
    rw [List.length_append, List.length_singleton] at ih
    simp only [exT]
    by_cases h0 : u.f1 = 0
    · have es : sizeT u = 1 := by unfold sizeT; rw [if_pos h0]
      rw [es] at hn hk h2
      obtain ⟨k, rfl⟩ : ∃ m, k = m + 3 := ⟨k - 3, by omega⟩
      rw [wherryref01_Expand.l0, if_pos (by omega), if_pos (by omega), hrd, if_pos h0, if_pos (by omega), wherryref01_Expand.j1, wherryref01_Expand.l1, if_pos (by omega), if_pos (by omega), hrd, if_neg (by omega), wi (by omega) (by omega), if_pos h0]
      exact ih _ _ (by simpa using h2) (by simp; omega) (by omega)
    · have es : sizeT u = u.f1.toNat := by unfold sizeT; rw [if_neg h0]
      rw [es] at hn hk h2
      have h1' := h1.resolve_left (fun x => h0 x.1)
      obtain ⟨k, rfl⟩ : ∃ m, k = (m + u.f1.toNat + 1) + 2 := ⟨k - 3 - u.f1.toNat, by omega⟩
      rw [wherryref01_Expand.l0, if_pos (by omega), if_pos (by omega), hrd, if_neg h0, wherryref01_Expand.j1]
      have hc := refexpand_copy l pre.length u hrd hlen (by omega) u.f1.toNat 0 k out (by omega) (by omega) (by omega) (by omega)
      rw [show ((0 : Nat) : Int) = 0 from rfl] at hc
      rw [hc, wi (by omega) (by omega), if_neg h0]
      exact ih _ _ (by rw [copyN_len]; exact h2) (by rw [copyN_len]; omega) (by omega)
/-- Both expand alike. -/
theorem expand_both (l : List S40) (hl : l.length ≤ 600) (k : Nat) (hk : 10000 ≤ k) : ∃ out e, out.length ≤ 4096 ∧ match_Expand.f k l = some (out, e) ∧ wherryref01_Expand.f k l = some (out, e) := by
  obtain ⟨e, h1, h2, h3⟩ := check_both l hl k (by omega)
  by_cases he : e = 0
  · subst he
    obtain ⟨h4, h5⟩ := h3 rfl
    have hle := sizeL_ge h4
    refine ⟨exT l [], 0, by rw [exT_len]; simpa using h5, expand_is l (by omega) h4 h5 k (by omega), ?_⟩
    unfold wherryref01_Expand.f
    rw [h2, Option.bind_some, if_pos rfl]
    exact refexpand_loop l (by omega) l [] [] k rfl h4 (by simpa using (by omega : sizeL l ≤ 2 ^ 40)) (by omega)
  · refine ⟨[], e, by simp, expand_bad l k e he h1, ?_⟩
    unfold wherryref01_Expand.f
    rw [h2, Option.bind_some, if_neg he]
theorem best_both (l : List Int) (hw : ∀ x ∈ l, (Lit.int .u8 x).wf = true) (hl : l.length ≤ 4096) (a : Int) (k : Nat) (hk : 600000 ≤ k) : ∃ n d, match_Best.f l a = some (n, d) ∧ wherryref01_Best.f k l a = some (n, d) := by
  by_cases h : 0 ≤ a ∧ a < (l.length : Int)
  · obtain ⟨i, rfl⟩ := Int.eq_ofNat_of_zero_le h.1
    exact ⟨_, _, best_is hw hl i (by omega), refBest_is l hl i (by omega) k hk⟩
  · refine ⟨0, 0, ?_, ?_⟩
    · unfold match_Best.f
      rw [if_pos (List.all_eq_true.2 hw)]
      by_cases h0 : a < 0
      · rw [if_pos h0]
      · rw [if_neg h0, if_pos (by omega)]
    · unfold wherryref01_Best.f
      obtain ⟨k, rfl⟩ : ∃ m, k = m + 1 := ⟨k - 1, by omega⟩
      rw [if_neg (by omega), wi (by omega) (by omega), in_is, Option.bind_some, decide_eq_false (by omega), wherryref01_Best.j0, if_pos (by decide)]
end Go.Proofs.Ytagdlmlanjjecaa.P
