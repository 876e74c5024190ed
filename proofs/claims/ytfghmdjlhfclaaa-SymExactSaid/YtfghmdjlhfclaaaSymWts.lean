/- The weights of tokens: plain laws on the printed functions; used by the claims of this seat. -/
import Derived.Test.YtfghmdjlhfclaaaSymToks
import Derived.Test.YtfghmdjlhfclaaaPx0
import Derived.Test.YtfghmdjlhfclaaaPx1
import Derived.Test.YtfghmdjlhfclaaaPx2
import Derived.Test.YtfghmdjlhfclaaaPx3
import Derived.Test.YtfghmdjlhfclaaaPx5
import Derived.Test.YtfghmdjlhfclaaaPx6
import Derived.Test.YtfghmdjlhfclaaaPx7
namespace Go.Proofs.Ytfghmdjlhfclaaa.P
open Go.RowKit Go.Proofs.Ytfghmdjlhfclaaa.P Go.Proofs.YtfghmdjlhfclaaaW.PrintWords Go.Proofs.YtfghmdjlhfclaaaW.PrintLast Go.Proofs.YtfghmdjlhfclaaaW.PrintMore
set_option linter.unusedVariables false
set_option linter.unusedSimpArgs false
/-- The reference's tokens: a right row, of bytes, that stands for the whole text. -/
theorem refToks (l : List Int) (hl : l.length ≤ 4096) (hw : ∀ x ∈ l, (Lit.int .u8 x).wf = true) : ∀ (f i : Nat), i ≤ l.length → l.length ≤ i + f → ∃ ts : List S39, OkL ts i ∧ i + sizeL ts = l.length ∧ (∀ t ∈ ts, 0 ≤ t.f0 ∧ t.f0 < 256) ∧
    ∀ (acc : List S39) (k : Nat), acc.length + f ≤ 8192 → 600001 + f ≤ k → wherryref01_tokens.l0 k l acc (i : Int) = some (acc ++ ts)
  | 0, i, h1, h2 => by
    refine ⟨[], trivial, by simp [sizeL]; omega, by simp, fun acc k _ hk => ?_⟩
    obtain ⟨k, rfl⟩ : ∃ m, k = m + 1 := ⟨k - 1, by omega⟩
    rw [wherryref01_tokens.l0, if_neg (by omega), List.append_nil]
  | f + 1, i, h1, h2 => by
    by_cases hi : i < l.length
    · obtain ⟨n, d, hb⟩ := best_exists l i hi
      have hbest : ∀ k, 600000 ≤ k → wherryref01_Best.f k l (i : Int) = some ((n : Int), (d : Int)) := by
        intro k hk
        unfold wherryref01_Best.f
        obtain ⟨k, rfl⟩ : ∃ m, k = m + 1 := ⟨k - 1, by omega⟩
        rw [if_neg (by omega), wi (by omega) (by omega), wherryref01_in.f, if_pos (by omega), Option.bind_some, show (decide ((i : Int) ≤ (l.length : Int) - 1)) = true from decide_eq_true (by omega), wherryref01_Best.j0, if_neg (by decide)]
        exact ref_outer l i hl hi n d hb 2048 1 0 0 k rfl (Nat.le_refl _) ⟨Or.inl ⟨rfl, rfl⟩, fun o h1 h2 => by omega⟩ (by omega)
      by_cases h0 : n = 0
      · subst h0
        obtain ⟨ts, t1, t2, t3, t4⟩ := refToks l hl hw f (i + 1) (by omega) (by omega)
        have hx : 0 ≤ l.getD i 0 ∧ l.getD i 0 < 256 := by
          rw [List.getD_eq_getElem?_getD, List.getElem?_eq_getElem hi]
          exact wf_u8 (hw _ (List.getElem_mem hi))
        refine ⟨⟨l.getD i 0, 0, 0⟩ :: ts, ⟨Or.inl ⟨rfl, rfl⟩, t1⟩, by simp only [sizeL, sizeT]; rw [if_pos trivial]; omega, fun t ht => ?_, fun acc k ha hk => ?_⟩
        · rcases List.mem_cons.1 ht with rfl | ht
          · exact hx
          · exact t3 t ht
        · obtain ⟨k, rfl⟩ : ∃ m, k = m + 1 := ⟨k - 1, by omega⟩
          rw [wherryref01_tokens.l0, if_pos (by omega), hbest k (by omega), Option.bind_some]
          dsimp only
          rw [if_pos (by rfl), if_pos (by omega), if_pos (by omega), wi (by omega) (by omega), show (i : Int) + 1 = ((i + 1 : Nat) : Int) from by omega, t4 _ k (by simp; omega) (by omega), rd_nat, List.append_assoc]; rfl
      · have hb' := hb.1.resolve_left (fun e => h0 e.1)
        obtain ⟨a1, a2, a3, a4, a5, a6, a7⟩ := hb'
        obtain ⟨ts, t1, t2, t3, t4⟩ := refToks l hl hw f (i + n) (by omega) (by omega)
        have hs : sizeT (⟨0, (n : Int), (d : Int)⟩ : S39) = n := by unfold sizeT; rw [if_neg (by simp only; omega)]; simp
        refine ⟨⟨0, (n : Int), (d : Int)⟩ :: ts, ⟨Or.inr ⟨rfl, by simp only; omega, by simp only; omega, by simp only; omega, by simp only; omega, by simp only; omega⟩, by rw [hs]; exact t1⟩, by simp only [sizeL]; rw [hs]; omega, fun t ht => ?_, fun acc k ha hk => ?_⟩
        · rcases List.mem_cons.1 ht with rfl | ht
          · exact ⟨by simp, by simp⟩
          · exact t3 t ht
        · obtain ⟨k, rfl⟩ : ∃ m, k = m + 1 := ⟨k - 1, by omega⟩
          rw [wherryref01_tokens.l0, if_pos (by omega), hbest k (by omega), Option.bind_some]
          dsimp only
          rw [if_neg (by omega), if_pos (by omega), wi (by omega) (by omega), show (i : Int) + (n : Int) = ((i + n : Nat) : Int) from by omega, t4 _ k (by simp; omega) (by omega), List.append_assoc]; rfl
    · refine ⟨[], trivial, by simp [sizeL]; omega, by simp, fun acc k _ hk => ?_⟩
      obtain ⟨k, rfl⟩ : ∃ m, k = m + 1 := ⟨k - 1, by omega⟩
      rw [wherryref01_tokens.l0, if_neg (by omega), List.append_nil]
theorem refToks_is (l : List Int) (hl : l.length ≤ 4096) (hw : ∀ x ∈ l, (Lit.int .u8 x).wf = true) : ∃ ts : List S39, OkL ts 0 ∧ sizeL ts = l.length ∧ (∀ t ∈ ts, 0 ≤ t.f0 ∧ t.f0 < 256) ∧ ∀ k, 700000 ≤ k → wherryref01_Tokens.f k l = some (ts, 0) := by
  obtain ⟨ts, t1, t2, t3, t4⟩ := refToks l hl hw l.length 0 (by omega) (by omega)
  refine ⟨ts, t1, by omega, t3, fun k hk => ?_⟩
  unfold wherryref01_Tokens.f wherryref01_tokens.f
  have := t4 [] k (by simp; omega) (by omega)
  rw [show ((0 : Nat) : Int) = 0 from rfl] at this
  rw [if_neg (by omega), this, Option.bind_some]; rfl
/-- One more at a place. -/
def inc (a : List Int) (i : Nat) : List Int := a.set i (wrap64 (rd a (i : Int) + 1))
theorem inc_len (a : List Int) (i : Nat) : (inc a i).length = a.length := List.length_set
theorem rd_set (a : List Int) (i j : Nat) (x : Int) : rd (a.set i x) (j : Int) = if i = j ∧ i < a.length then x else rd a (j : Int) := by
  rw [rd_nat, rd_nat]
  simp only [List.getD_eq_getElem?_getD, List.getElem?_set]
  by_cases h : i = j
  · subst h
    by_cases h2 : i < a.length
    · simp [h2]
    · simp [h2]
  · simp [h]
theorem inc_comm (a : List Int) (i j : Nat) : inc (inc a i) j = inc (inc a j) i := by
  by_cases h : i = j
  · subst h; rfl
  · unfold inc
    rw [rd_set, rd_set, if_neg (fun e => h e.1), if_neg (fun e => h e.1.symm), List.set_comm _ _ h]
theorem sum_set : ∀ (a : List Int) (i : Nat) (x : Int), i < a.length → (a.set i x).sum = a.sum - a.getD i 0 + x
  | [], i, x, h => by simp at h
  | y :: a, 0, x, h => by simp; omega
  | y :: a, i + 1, x, h => by
    have := sum_set a i x (by simpa using h)
    simp only [List.set_cons_succ, List.sum_cons, List.getD_cons_succ]
    omega
/-- All of these are small. -/
def Small (a : List Int) (B : Nat) : Prop := ∀ i, 0 ≤ rd a (i : Nat) ∧ rd a (i : Nat) ≤ (B : Int)
theorem inc_small {a : List Int} {B i : Nat} (h : Small a B) (hB : B < 100000) : Small (inc a i) (B + 1) := by
  intro j
  unfold inc
  rw [rd_set]
  have h1 := h i
  have h2 := h j
  split
  · rw [wi (by omega) (by omega)]; omega
  · omega
theorem inc_sum {a : List Int} {B i : Nat} (h : Small a B) (hB : B < 100000) (hi : i < a.length) : (inc a i).sum = a.sum + 1 := by
  have h1 := h i
  unfold inc
  rw [sum_set a i _ hi, wi (by omega) (by omega), rd_nat]
  omega
theorem inc_other (a : List Int) {i j : Nat} (h : i ≠ j) : rd (inc a i) (j : Int) = rd a (j : Int) := by
  unfold inc
  rw [rd_set, if_neg (fun e => h e.1)]
theorem small_mono {a : List Int} {B B' : Nat} (h : Small a B) (hB : B ≤ B') : Small a B' := fun i => ⟨(h i).1, by have := (h i).2; omega⟩
/-- How many of the tokens are pieces. -/
def piecesN : List S39 → Nat
  | [] => 0
  | t :: ts => (if t.f1 = 0 then 0 else 1) + piecesN ts
theorem rof_l : ∀ s : Fin 28, wherryref01_LenOf.f (257 + (s.val : Int)) = some (3 + (ll s.val : Int), (lk s.val : Int), 0) := by decide +kernel
theorem rof_285 : wherryref01_LenOf.f 285 = some (258, 0, 0) := by decide +kernel
theorem rof_d : ∀ s : Fin 30, wherryref01_DistOf.f (s.val : Int) = some (1 + (dl s.val : Int), (dk s.val : Int), 0) := by decide +kernel
theorem ll_mono : ∀ x y : Fin 29, x.val ≤ y.val → ll x.val ≤ ll y.val := by decide
theorem dl_mono : ∀ x y : Fin 31, x.val ≤ y.val → dl x.val ≤ dl y.val := by decide
theorem ll_top : ∀ x : Fin 29, ll x.val ≤ 40000 := by decide
theorem dl_top : ∀ x : Fin 31, dl x.val ≤ 40000 := by decide
theorem refLen_down (n s : Nat) (h0 : 3 ≤ n) (h1 : n < 258) (hs : s < 28) (a : ll s ≤ n - 3) (b : n - 3 < ll (s + 1)) : ∀ (e j k : Nat), s + e = j → j < 28 → e < k →
    wherryref01_Len.l0 k (n : Int) (257 + (j : Int)) = some (((257 + s : Nat) : Int), ((lk s : Nat) : Int), ((n - 3 - ll s : Nat) : Int), 0)
  | e, j, k, he, hj, hk => by
    obtain ⟨k, rfl⟩ : ∃ m, k = m + 1 := ⟨k - 1, by omega⟩
    have ht := rof_l ⟨j, hj⟩
    have hb := ll_top ⟨j, by omega⟩
    simp only at ht hb
    rw [wherryref01_Len.l0, if_pos (by omega), if_neg (by omega), if_pos (by omega), wherryref01_leastLen.f, ht, Option.bind_some, Option.bind_some, Option.bind_some]
    dsimp only
    by_cases hes : e = 0
    · subst hes
      obtain rfl : s = j := by omega
      rw [if_neg (by omega), wi (by omega) (by omega), show (n : Int) - (3 + (ll s : Int)) = ((n - 3 - ll s : Nat) : Int) from by omega]
      rfl
    · have hm := ll_mono ⟨s + 1, by omega⟩ ⟨j, by omega⟩ (by simp only; omega)
      simp only at hm
      obtain ⟨e, rfl⟩ : ∃ m, e = m + 1 := ⟨e - 1, by omega⟩
      obtain ⟨j, rfl⟩ : ∃ m, j = m + 1 := ⟨j - 1, by omega⟩
      rw [if_pos (by omega), wi (by omega) (by omega), show 257 + ((j + 1 : Nat) : Int) - 1 = 257 + (j : Int) from by omega]
      exact refLen_down n s h0 h1 hs a b e j k (by omega) (by omega) (by omega)
theorem refDist_down (n s : Nat) (h0 : 1 ≤ n) (h1 : n ≤ 32768) (hs : s < 30) (a : dl s ≤ n - 1) (b : n - 1 < dl (s + 1)) : ∀ (e j k : Nat), s + e = j → j < 30 → e < k →
    wherryref01_Dist.l0 k (n : Int) (j : Int) = some ((s : Int), ((dk s : Nat) : Int), ((n - 1 - dl s : Nat) : Int), 0)
  | e, j, k, he, hj, hk => by
    obtain ⟨k, rfl⟩ : ∃ m, k = m + 1 := ⟨k - 1, by omega⟩
    have ht := rof_d ⟨j, hj⟩
    have hb := dl_top ⟨j, by omega⟩
    simp only at ht hb
    by_cases hj0 : j = 0
    · subst hj0
      obtain rfl : s = 0 := by omega
      have e1 : dl 0 = 0 := rfl
      have e2 : dl (0 + 1) = 1 := rfl
      rw [e2] at b
      rw [wherryref01_Dist.l0, if_neg (by omega), e1, show dk 0 = 0 from rfl]
      congr 3; congr 1; omega
    rw [wherryref01_Dist.l0, if_pos (by omega), ht, Option.bind_some]
    dsimp only
    by_cases hes : e = 0
    · subst hes
      obtain rfl : s = j := by omega
      rw [if_pos (by omega), wi (by omega) (by omega)]
      congr 3; congr 1; omega
    · have hm := dl_mono ⟨s + 1, by omega⟩ ⟨j, by omega⟩ (by simp only; omega)
      simp only at hm
      obtain ⟨e, rfl⟩ : ∃ m, e = m + 1 := ⟨e - 1, by omega⟩
      obtain ⟨j, rfl⟩ : ∃ m, j = m + 1 := ⟨j - 1, by omega⟩
      rw [if_neg (by omega), wi (by omega) (by omega), show ((j + 1 : Nat) : Int) - 1 = (j : Int) from by omega]
      exact refDist_down n s h0 h1 hs a b e j k (by omega) (by omega) (by omega)
theorem len_in (n : Nat) (h0 : 3 ≤ n) (h1 : n ≤ 258) : ∃ s m v : Nat, 257 ≤ s ∧ s ≤ 285 ∧ ∀ k, 100 ≤ k → sym_Len.f k (n : Int) = some ((s : Int), (m : Int), (v : Int), 0) ∧ wherryref01_Len.f k (n : Int) = some ((s : Int), (m : Int), (v : Int), 0) := by
  by_cases h : n = 258
  · refine ⟨285, 0, 0, by omega, by omega, fun k hk => ?_⟩
    subst h
    obtain ⟨k, rfl⟩ : ∃ m, k = m + 1 := ⟨k - 1, by omega⟩
    refine ⟨?_, ?_⟩
    · unfold sym_Len.f
      rw [if_neg (by omega), decide_eq_false (by omega), sym_Len.j0, if_neg (by decide), if_pos (by rfl)]
      rfl
    · unfold wherryref01_Len.f
      rw [in_is, Option.bind_some, if_pos (decide_eq_true ⟨by omega, by omega⟩), wherryref01_Len.l0, if_neg (by omega), if_neg (by omega), rof_285, Option.bind_some]
      dsimp only
      rw [wi (by omega) (by omega)]
      rfl
  · obtain ⟨s, s1, s2, s3, _⟩ := at_l (n - 3) 70 (by omega) (by omega)
    refine ⟨257 + s, lk s, n - 3 - ll s, by omega, by omega, fun k hk => ?_⟩
    obtain ⟨k, rfl⟩ : ∃ m, k = m + 1 := ⟨k - 1, by omega⟩
    obtain ⟨s', p1, p2, p3, p4⟩ := at_l (n - 3) k (by omega) (by omega)
    obtain rfl : s' = s := by
      have mono : ∀ x y : Fin 29, x.val ≤ y.val → ll x.val ≤ ll y.val := by decide
      by_cases hlt : s' < s
      · have := mono ⟨s' + 1, by omega⟩ ⟨s, by omega⟩ (by simp only; omega)
        simp only at this; omega
      · by_cases hgt : s < s'
        · have := mono ⟨s + 1, by omega⟩ ⟨s', by omega⟩ (by simp only; omega)
          simp only at this; omega
        · omega
    refine ⟨?_, ?_⟩
    · unfold sym_Len.f
      rw [if_neg (by omega), decide_eq_false (by omega), sym_Len.j0, if_neg (by decide), if_neg (by omega), sym_lens.f, Option.bind_some]
      dsimp only
      rw [wi (by omega) (by omega), show (n : Int) - 3 = ((n - 3 : Nat) : Int) from by omega, p4, Option.bind_some]
      dsimp only
      rw [wi (by omega) (by omega)]
      congr 3
      · congr 1; congr 1; omega
    · unfold wherryref01_Len.f
      rw [in_is, Option.bind_some, if_pos (decide_eq_true ⟨by omega, by omega⟩), wherryref01_Len.l0, if_pos (by omega), if_pos rfl, wi (by omega) (by omega)]
      exact refLen_down n s' (by omega) (by omega) s1 p2 p3 (27 - s') 27 k (by omega) (by omega) (by omega)
theorem dist_in (n : Nat) (h0 : 1 ≤ n) (h1 : n ≤ 32768) : ∃ s m v : Nat, s ≤ 29 ∧ ∀ k, 100 ≤ k → sym_Dist.f k (n : Int) = some ((s : Int), (m : Int), (v : Int), 0) ∧ wherryref01_Dist.f k (n : Int) = some ((s : Int), (m : Int), (v : Int), 0) := by
  obtain ⟨s, s1, s2, s3, _⟩ := at_d (n - 1) 70 (by omega) (by omega)
  refine ⟨s, dk s, n - 1 - dl s, by omega, fun k hk => ?_⟩
  obtain ⟨k, rfl⟩ : ∃ m, k = m + 1 := ⟨k - 1, by omega⟩
  obtain ⟨s', p1, p2, p3, p4⟩ := at_d (n - 1) k (by omega) (by omega)
  obtain rfl : s' = s := by
    have mono : ∀ x y : Fin 31, x.val ≤ y.val → dl x.val ≤ dl y.val := by decide
    by_cases hlt : s' < s
    · have := mono ⟨s' + 1, by omega⟩ ⟨s, by omega⟩ (by simp only; omega)
      simp only at this; omega
    · by_cases hgt : s < s'
      · have := mono ⟨s + 1, by omega⟩ ⟨s', by omega⟩ (by simp only; omega)
        simp only at this; omega
      · omega
  refine ⟨?_, ?_⟩
  · unfold sym_Dist.f
    rw [if_neg (by omega), decide_eq_false (by omega), sym_Dist.j0, if_neg (by decide), sym_dists.f, Option.bind_some]
    dsimp only
    rw [wi (by omega) (by omega), show (n : Int) - 1 = ((n - 1 : Nat) : Int) from by omega, p4, Option.bind_some]
    dsimp only
    congr 3
    · congr 1; congr 1; omega
  · unfold wherryref01_Dist.f
    rw [in_is, Option.bind_some, if_pos (decide_eq_true ⟨by omega, by omega⟩)]
    exact refDist_down n s' (by omega) (by omega) s1 p2 p3 (29 - s') 29 (k + 1) (by omega) (by omega) (by omega)
theorem wts_loop (l : List S39) (hl : l.length ≤ 5000) : ∀ (us pre : List S39) (n B : Nat) (a b : List Int), l = pre ++ us → OkL us n → (∀ t ∈ us, 0 ≤ t.f0 ∧ t.f0 < 256) → a.length = 286 → b.length = 30 → Small a B → Small b B → B + us.length ≤ 50000 →
    ∃ a' b' : List Int, a'.length = 286 ∧ b'.length = 30 ∧ Small a' (B + us.length) ∧ Small b' (B + us.length) ∧ a'.sum = a.sum + (us.length : Int) ∧ b'.sum = b.sum + (piecesN us : Int) ∧ rd a' 256 = rd a 256 ∧
      (∀ k, 200 + us.length ≤ k → sym_Weights.l0 k a b l (l.length : Int) (pre.length : Int) = some (inc a' 256, b', 0)) ∧
      ∀ k, 200 + us.length ≤ k → wherryref01_weights.l0 k l (inc a 256) b (pre.length : Int) = some (inc a' 256, b')
  | [], pre, n, B, a, b, e, _, _, la, lb, sa, sb, _ => by
    refine ⟨a, b, la, lb, sa, sb, by simp, by simp [piecesN], rfl, fun k hk => ?_, fun k hk => ?_⟩
    · obtain ⟨k, rfl⟩ : ∃ m, k = m + 1 := ⟨k - 1, by omega⟩
      rw [sym_Weights.l0, if_neg (by rw [e]; simp), if_pos (by omega)]
      rfl
    · obtain ⟨k, rfl⟩ : ∃ m, k = m + 1 := ⟨k - 1, by omega⟩
      rw [wherryref01_weights.l0, if_neg (by rw [e]; simp)]
  | u :: us, pre, n, B, a, b, e, ⟨h1, h2⟩, hby, la, lb, sa, sb, hB => by
    have hlen : pre.length < l.length := by rw [e]; simp
    have hrd : rd_T39 l (pre.length : Int) = u := by rw [e]; exact rdT_mid pre us u
    have hu := hby u List.mem_cons_self
    have hby' : ∀ t ∈ us, 0 ≤ t.f0 ∧ t.f0 < 256 := fun t ht => hby t (List.mem_cons_of_mem _ ht)
    simp only [List.length_cons] at hB
    by_cases h0 : u.f1 = 0
    · obtain ⟨x, hx⟩ := Int.eq_ofNat_of_zero_le hu.1
      have hx2 : x < 256 := by omega
      obtain ⟨a', b', q1, q2, q3, q4, q5, q6, q7, q8, q9⟩ := wts_loop l hl us (pre ++ [u]) (n + sizeT u) (B + 1) (inc a x) b (by rw [e]; simp) h2 hby' (by rw [inc_len]; exact la) lb (inc_small sa (by omega)) (small_mono sb (by omega)) (by omega)
      rw [List.length_append, List.length_singleton] at q8 q9
      refine ⟨a', b', q1, q2, small_mono q3 (by simp; omega), small_mono q4 (by simp; omega), by rw [q5, inc_sum sa (by omega) (by omega)]; simp; omega, by rw [q6]; simp [piecesN, h0], by rw [q7, show (256 : Int) = ((256 : Nat) : Int) from rfl, inc_other a (by omega)], fun k hk => ?_, fun k hk => ?_⟩
      · simp only [List.length_cons] at hk
        obtain ⟨k, rfl⟩ : ∃ m, k = m + 1 := ⟨k - 1, by omega⟩
        rw [sym_Weights.l0, if_pos (by omega), if_pos (by omega), if_pos (by omega), hrd, if_pos h0, hx, if_pos (by omega), if_pos (by omega), wi (a := (pre.length : Int) + 1) (by omega) (by omega), Int.toNat_natCast]
        exact q8 k (by omega)
      · simp only [List.length_cons] at hk
        obtain ⟨k, rfl⟩ : ∃ m, k = m + 1 := ⟨k - 1, by omega⟩
        rw [wherryref01_weights.l0, if_pos (by omega), if_pos (by omega), hrd, if_pos h0, hx, wi (a := (x : Int)) (by omega) (by omega), if_pos (by omega), if_pos (by rw [inc_len]; omega), wi (a := (pre.length : Int) + 1) (by omega) (by omega), Int.toNat_natCast]
        have hc := inc_comm a x 256
        have := q9 k (by omega)
        rw [hc] at this
        exact this
    · have h1' := h1.resolve_left (fun x => h0 x.1)
      obtain ⟨x, hx⟩ := Int.eq_ofNat_of_zero_le (show 0 ≤ u.f1 by omega)
      obtain ⟨y, hy⟩ := Int.eq_ofNat_of_zero_le (show 0 ≤ u.f2 by omega)
      obtain ⟨s, m, v, s1, s2, s3⟩ := len_in x (by omega) (by omega)
      obtain ⟨d, m', v', d1, d2⟩ := dist_in y (by omega) (by omega)
      obtain ⟨a', b', q1, q2, q3, q4, q5, q6, q7, q8, q9⟩ := wts_loop l hl us (pre ++ [u]) (n + sizeT u) (B + 1) (inc a s) (inc b d) (by rw [e]; simp) h2 hby' (by rw [inc_len]; exact la) (by rw [inc_len]; exact lb) (inc_small sa (by omega)) (inc_small sb (by omega)) (by omega)
      rw [List.length_append, List.length_singleton] at q8 q9
      refine ⟨a', b', q1, q2, small_mono q3 (by simp; omega), small_mono q4 (by simp; omega), by rw [q5, inc_sum sa (by omega) (by omega)]; simp; omega, by rw [q6, inc_sum sb (by omega) (by omega)]; simp [piecesN, h0]; omega, by rw [q7, show (256 : Int) = ((256 : Nat) : Int) from rfl, inc_other a (by omega)], fun k hk => ?_, fun k hk => ?_⟩
      · simp only [List.length_cons] at hk
        obtain ⟨k, rfl⟩ : ∃ m, k = m + 1 := ⟨k - 1, by omega⟩
        rw [sym_Weights.l0, if_pos (by omega), if_pos (by omega), if_pos (by omega), hrd, if_neg h0, hx, hy, (s3 k (by omega)).1, Option.bind_some, (d2 k (by omega)).1, Option.bind_some]
        dsimp only
        rw [if_pos (by omega), if_pos (by omega), if_pos (by omega), if_pos (by omega), wi (a := (pre.length : Int) + 1) (by omega) (by omega), Int.toNat_natCast, Int.toNat_natCast]
        exact q8 k (by omega)
      · simp only [List.length_cons] at hk
        obtain ⟨k, rfl⟩ : ∃ m, k = m + 1 := ⟨k - 1, by omega⟩
        rw [wherryref01_weights.l0, if_pos (by omega), if_pos (by omega), hrd, if_neg h0, hx, hy, (s3 k (by omega)).2, Option.bind_some, (d2 k (by omega)).2, Option.bind_some]
        dsimp only
        rw [if_pos (by omega), if_pos (by rw [inc_len]; omega), if_pos (by omega), if_pos (by omega), wi (a := (pre.length : Int) + 1) (by omega) (by omega), Int.toNat_natCast, Int.toNat_natCast]
        have hc := inc_comm a s 256
        have := q9 k (by omega)
        rw [hc] at this
        exact this
theorem zeros_small (n B : Nat) : Small (List.replicate n 0) B := by
  intro i
  rw [rd_nat]
  simp only [List.getD_eq_getElem?_getD, List.getElem?_replicate]
  split <;> simp
theorem zeros_sum : ∀ n : Nat, (List.replicate n (0 : Int)).sum = 0
  | 0 => rfl
  | n + 1 => by rw [List.replicate_succ, List.sum_cons, zeros_sum n]; rfl
/-- The weights of a right row, and the reference's. -/
theorem wts_is (l : List S39) (hl : l.length ≤ 5000) (h : OkL l 0) (hby : ∀ t ∈ l, 0 ≤ t.f0 ∧ t.f0 < 256) (hs : sizeL l ≤ 4096) : ∃ a' b' : List Int, a'.length = 286 ∧ b'.length = 30 ∧ Small a' l.length ∧ Small b' l.length ∧ a'.sum = (l.length : Int) ∧ b'.sum = (piecesN l : Int) ∧ rd a' 256 = 0 ∧
    ∀ k, 20000 ≤ k → sym_Weights.f k l = some (inc a' 256, b', 0) ∧ wherryref01_weights.f k l = some (inc a' 256, b') := by
  obtain ⟨a', b', q1, q2, q3, q4, q5, q6, q7, q8, q9⟩ := wts_loop l hl l [] 0 0 (List.replicate 286 0) (List.replicate 30 0) rfl h hby List.length_replicate List.length_replicate (zeros_small 286 0) (zeros_small 30 0) (by omega)
  rw [zeros_sum] at q5 q6
  rw [Nat.zero_add] at q3 q4
  refine ⟨a', b', q1, q2, q3, q4, by omega, by omega, by rw [q7]; decide +kernel, fun k hk => ⟨?_, ?_⟩⟩
  · unfold sym_Weights.f
    rw [check_is l (by omega) h hs k (by omega), Option.bind_some, if_pos rfl, if_pos (by omega), if_pos (by omega)]
    exact q8 k (by omega)
  · unfold wherryref01_weights.f
    have hi : (List.replicate 286 (0 : Int)).set (256 : Int).toNat 1 = inc (List.replicate 286 0) 256 := by decide +kernel
    rw [if_pos (by omega), Option.bind_some, if_pos (by omega), if_pos (by rw [List.length_replicate]; omega), hi]
    exact q9 k (by omega)
end Go.Proofs.Ytfghmdjlhfclaaa.P
