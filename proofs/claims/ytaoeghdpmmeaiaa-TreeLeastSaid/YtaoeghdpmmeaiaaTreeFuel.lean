/- Equal weights have no great length; halved often enough right weights have lengths up to any right limit; used by the claims of this seat. -/
import Derived.Test.YtaoeghdpmmeaiaaTreeHuff
import Derived.Test.YtaoeghdpmmeaiaaPx4
import Derived.Test.YtaoeghdpmmeaiaaPx10
import Derived.Test.YtaoeghdpmmeaiaaPx12
namespace Go.Proofs.Ytaoeghdpmmeaiaa.Glue
open Go.RowKit Go.Proofs.Ytaoeghdpmmeaiaa.P Go.Proofs.YtaoeghdpmmeaiaaW.PrintWords Go.Proofs.YtaoeghdpmmeaiaaW.PrintLast Go.Proofs.YtaoeghdpmmeaiaaW.PrintMore
set_option linter.unusedVariables false
set_option linter.unusedSimpArgs false

/-- The state of equal weights: some nodes of a height, behind them some one higher. -/
def Levels (E : Prop) (H : Nat) (q : List (Int × List Int)) (out : List Int) : Prop :=
  (∀ x y r, q = x :: y :: r → ∀ z ∈ r, z.1 ≤ x.1 + y.1) ∧ ∃ (A B : List (Int × List Int)) (h : Nat), q = A ++ B ∧ (∀ x ∈ A, ∀ s ∈ x.2, rd out s ≤ h ∧ (E → rd out s = h)) ∧ (∀ x ∈ B, ∀ s ∈ x.2, rd out s ≤ h + 1 ∧ (E → rd out s = h + 1)) ∧ (A.length + 2 * B.length) * 2 ^ h ≤ 2 ^ H ∧ (E → (A.length + 2 * B.length) * 2 ^ h = 2 ^ H)
theorem pow_split {h H : Nat} {a : Nat} (ha : 2 ≤ a) (hle : a * 2 ^ h ≤ 2 ^ H) : ∃ d, H = h + 1 + d ∧ a ≤ 2 * 2 ^ d := by
  have h1 : h < H := by
    refine Classical.byContradiction fun hc => ?_
    have h2 : 2 ^ H ≤ 2 ^ h := Nat.pow_le_pow_right (by decide) (by omega)
    have h3 : 2 * 2 ^ h ≤ a * 2 ^ h := Nat.mul_le_mul_right _ ha
    have h4 : 0 < 2 ^ h := Nat.pow_pos (by decide)
    omega
  refine ⟨H - h - 1, by omega, ?_⟩
  have e : 2 ^ H = (2 * 2 ^ (H - h - 1)) * 2 ^ h := by
    rw [show 2 * 2 ^ (H - h - 1) = 2 ^ (H - h - 1 + 1) from by rw [Nat.pow_succ]; omega, ← Nat.pow_add]
    congr 1
    omega
  rw [e] at hle
  exact Nat.le_of_mul_le_mul_right hle (Nat.pow_pos (by decide))
theorem two_inj {a b : Nat} (h : 2 ^ a = 2 ^ b) : a = b := Nat.le_antisymm ((Nat.pow_le_pow_iff_right (by decide)).1 (Nat.le_of_eq h)) ((Nat.pow_le_pow_iff_right (by decide)).1 (Nat.le_of_eq h.symm))
theorem levels_step {E : Prop} {H : Nat} {ws : List Int} (hn : ws.length ≤ 2 ^ 30) (x y : Int × List Int) (r : List (Int × List Int)) (out : List Int) (hq : QInv ws (x :: y :: r) out) (hP : Levels E H (x :: y :: r) out) : Levels E H (insQ (x.1 + y.1, x.2 ++ y.2) r) (bump out (x.2 ++ y.2)) := by
  obtain ⟨hS, A, B, h, he, hA, hB, hc, hE⟩ := hP
  obtain ⟨o1, o2, o3, _⟩ := q_outs hn hq
  obtain ⟨s1, s2⟩ := sorted_two hq.sorted
  have hins : insQ (x.1 + y.1, x.2 ++ y.2) r = r ++ [(x.1 + y.1, x.2 ++ y.2)] := insQ_last _ r (hS x y r rfl)
  have b1 := hq.big (show x ∈ x :: y :: r from List.mem_cons_self)
  have b2 := hq.big (show y ∈ x :: y :: r from List.mem_cons_of_mem _ List.mem_cons_self)
  rw [hins]
  refine ⟨fun x' y' r' he' z hz => ?_, ?_⟩
  · have hz1 : z.1 ≤ x.1 + y.1 := by
      have hm : z ∈ r ++ [(x.1 + y.1, x.2 ++ y.2)] := by rw [he']; exact List.mem_cons_of_mem _ (List.mem_cons_of_mem _ hz)
      rcases List.mem_append.1 hm with hm | hm
      · exact hS x y r rfl z hm
      · rw [List.mem_singleton.1 hm]; exact Int.le_refl _
    match r, he' with
    | [], he' => simp at he'
    | [r0], he' =>
      simp at he'
      rw [he'.2.2] at hz
      simp at hz
    | r0 :: r1 :: r2, he' =>
      simp at he'
      have a1 := s2 r0 List.mem_cons_self
      have a2 := s2 r1 (List.mem_cons_of_mem _ List.mem_cons_self)
      rw [← he'.1, ← he'.2.1]
      omega
  · match A, he with
    | x0 :: y0 :: A', he =>
      simp at he
      obtain ⟨rfl, rfl, rfl⟩ := he
      refine ⟨A', B ++ [(x.1 + y.1, x.2 ++ y.2)], h, by simp, fun z hz s hs => ?_, fun z hz s hs => ?_, ?_, ?_⟩
      · rw [o3 z (List.mem_append_left _ hz) s hs]
        exact hA z (List.mem_cons_of_mem _ (List.mem_cons_of_mem _ hz)) s hs
      · rcases List.mem_append.1 hz with hz | hz
        · rw [o3 z (List.mem_append_right _ hz) s hs]
          exact hB z hz s hs
        · rw [List.mem_singleton.1 hz] at hs
          rcases List.mem_append.1 hs with hs | hs
          · have := hA x List.mem_cons_self s hs
            rw [o1 s hs]
            exact ⟨by omega, fun e => by have := this.2 e; omega⟩
          · have := hA y (List.mem_cons_of_mem _ List.mem_cons_self) s hs
            rw [o2 s hs]
            exact ⟨by omega, fun e => by have := this.2 e; omega⟩
      · rw [List.length_append, List.length_singleton, show A'.length + 2 * (B.length + 1) = (x :: y :: A').length + 2 * B.length from by simp; omega]
        exact hc
      · rw [List.length_append, List.length_singleton, show A'.length + 2 * (B.length + 1) = (x :: y :: A').length + 2 * B.length from by simp; omega]
        exact hE
    | [x0], he =>
      match B, he with
      | [], he => simp at he
      | y0 :: B', he =>
        simp at he
        obtain ⟨rfl, rfl, rfl⟩ := he
        have hc2 : (1 + 2 * (r.length + 1)) * 2 ^ h ≤ 2 ^ H := by simpa using hc
        obtain ⟨d, rfl, hd⟩ := pow_split (by omega) hc2
        refine ⟨r, [(x.1 + y.1, x.2 ++ y.2)], h + 1, rfl, fun z hz s hs => ?_, fun z hz s hs => ?_, ?_, ?_⟩
        · rw [o3 z hz s hs]
          have := hB z (List.mem_cons_of_mem _ hz) s hs
          exact ⟨by omega, fun e => by have := this.2 e; omega⟩
        · rw [List.mem_singleton.1 hz] at hs
          have hno : ¬ E := by
            intro e
            have hh := hE e
            have hh2 : (1 + 2 * (r.length + 1)) * 2 ^ h = 2 * 2 ^ d * 2 ^ h := by
              rw [show 2 * 2 ^ d * 2 ^ h = 2 ^ (h + 1 + d) from by rw [Nat.pow_add, Nat.pow_succ, Nat.mul_comm (2 ^ h) 2, Nat.mul_assoc, Nat.mul_assoc, Nat.mul_comm (2 ^ d)]]
              simpa using hh
            have := Nat.eq_of_mul_eq_mul_right (Nat.pow_pos (by decide)) hh2
            omega
          rcases List.mem_append.1 hs with hs | hs
          · have := hA x List.mem_cons_self s hs
            rw [o1 s hs]
            exact ⟨by omega, fun e => absurd e hno⟩
          · have := hB y List.mem_cons_self s hs
            rw [o2 s hs]
            exact ⟨by omega, fun e => absurd e hno⟩
        · rw [List.length_singleton, show h + 1 + d = d + (h + 1) from by omega, Nat.pow_add 2 d (h + 1)]
          exact Nat.mul_le_mul_right _ (by omega)
        · intro e
          exfalso
          have hh := hE e
          have hh2 : (1 + 2 * (r.length + 1)) * 2 ^ h = 2 * 2 ^ d * 2 ^ h := by
            rw [show 2 * 2 ^ d * 2 ^ h = 2 ^ (h + 1 + d) from by rw [Nat.pow_add, Nat.pow_succ, Nat.mul_comm (2 ^ h) 2, Nat.mul_assoc, Nat.mul_assoc, Nat.mul_comm (2 ^ d)]]
            simpa using hh
          have := Nat.eq_of_mul_eq_mul_right (Nat.pow_pos (by decide)) hh2
          omega
    | [], he =>
      simp at he
      subst he
      have e2 : ∀ b : Nat, (0 + 2 * (b + 2)) * 2 ^ h = (b + 2 * 1) * 2 ^ (h + 1) := by
        intro b
        rw [Nat.pow_succ, Nat.mul_comm (2 ^ h) 2, ← Nat.mul_assoc]
        congr 1
        omega
      refine ⟨r, [(x.1 + y.1, x.2 ++ y.2)], h + 1, rfl, fun z hz s hs => ?_, fun z hz s hs => ?_, ?_, ?_⟩
      · rw [o3 z hz s hs]
        have := hB z (List.mem_cons_of_mem _ (List.mem_cons_of_mem _ hz)) s hs
        exact ⟨by omega, fun e => by have := this.2 e; omega⟩
      · rw [List.mem_singleton.1 hz] at hs
        rcases List.mem_append.1 hs with hs | hs
        · have := hB x List.mem_cons_self s hs
          rw [o1 s hs]
          exact ⟨by omega, fun e => by have := this.2 e; omega⟩
        · have := hB y (List.mem_cons_of_mem _ List.mem_cons_self) s hs
          rw [o2 s hs]
          exact ⟨by omega, fun e => by have := this.2 e; omega⟩
      · rw [List.length_singleton, ← e2]
        simpa using hc
      · intro e
        rw [List.length_singleton, ← e2]
        simpa using hE e
/-- Equal weights: no length above H, where there are up to 2^H; all of them H, where there are just so many. -/
theorem once_equal (ws : List Int) (h : weighs ws = true) (h2 : 2 ≤ pos ws) (u : Int) (hu : ∀ i : Nat, i < ws.length → 0 < ws.getD i 0 → ws.getD i 0 = u) (H : Nat) (E : Prop) (hH : pos ws ≤ 2 ^ H) (hE : E → pos ws = 2 ^ H) :
    ∃ x, QInv ws [x] (onceOf ws) ∧ ∀ s ∈ x.2, rd (onceOf ws) s ≤ H ∧ (E → rd (onceOf ws) s = H) := by
  have hl : (sortQ (leafs ws ws.length)).length = pos ws := by rw [sortQ_length, leafs_count]
  have hm : ∀ x ∈ sortQ (leafs ws ws.length), x.1 = u ∧ 0 < u := by
    intro x hx
    obtain ⟨j, a, b, rfl⟩ := (leafs_mem ws _ x).1 ((sortQ_perm _).mem_iff.1 hx)
    have := hu j a b
    exact ⟨this, by omega⟩
  obtain ⟨w1, _⟩ := (weighs_iff ws).1 h
  obtain ⟨x, hx, hS, A, B, h, he, hA, hB, hc, hcE⟩ := once_ind ws h h2 (P := Levels E H)
    ⟨fun x y r he z hz => by
      have h1 := hm x (by rw [he]; simp)
      have h2 := hm y (by rw [he]; simp)
      have h3 := hm z (by rw [he]; simp [hz])
      omega, sortQ (leafs ws ws.length), [], 0, by simp, fun x hx s hs => by rw [rd_zeros]; exact ⟨by omega, fun _ => rfl⟩, by simp, by rw [hl]; simpa using hH, fun e => by rw [hl]; simpa using hE e⟩
    (fun x y r out hq hP => levels_step (by omega) x y r out hq hP)
  refine ⟨x, hx, fun s hs => ?_⟩
  match A, B, he with
  | [], [], he => simp at he
  | [], [b], he =>
    simp at he
    subst he
    have := hB x (by simp) s hs
    have hc : 2 * 2 ^ h ≤ 2 ^ H := by simpa using hc
    obtain ⟨d, rfl, hd⟩ := pow_split (by omega) hc
    refine ⟨by omega, fun e => ?_⟩
    have h3 : 2 * 2 ^ h = 2 ^ (h + 1 + d) := by simpa using hcE e
    have h4 : h + 1 = h + 1 + d := two_inj (by show 2 ^ (h + 1) = _; rw [Nat.pow_succ, ← h3]; omega)
    have := this.2 e
    omega
  | [a], [], he =>
    simp at he
    subst he
    have := hA x (by simp) s hs
    have hc : 2 ^ h ≤ 2 ^ H := by simpa using hc
    have h5 : h ≤ H := (Nat.pow_le_pow_iff_right (by decide)).1 hc
    refine ⟨by omega, fun e => ?_⟩
    have h3 : 2 ^ h = 2 ^ H := by simpa using hcE e
    have h4 : h = H := two_inj h3
    have := this.2 e
    omega
  | [a], b :: B', he => simp at he
  | a :: a2 :: A', B, he => simp at he
  | [], b :: b2 :: B', he => simp at he
theorem once_nonneg (ws : List Int) (h : weighs ws = true) : ∀ v ∈ onceOf ws, 0 ≤ v := fun v hv => (once_upto ws h 1000 (by omega) (fun _ x hx s hs => by
  have h1 := (hx.outs x (by simp) s hs).2
  have h2 := hx.long (show x ∈ [x] from by simp)
  have h3 := ((weighs_iff ws).1 h).1
  omega) v hv).1
theorem half_is {w : Int} (h0 : 0 ≤ w) (h1 : w ≤ 1048576) : (if 0 < w then wrap64 ((wrap64 (w + 1)).tdiv 2) else w) = (w + 1) / 2 := by
  by_cases h : 0 < w
  · rw [if_pos h, wrap64_in (a := w + 1) (by omega) (by omega), Int.tdiv_eq_ediv_of_nonneg (by omega), wrap64_in (by omega) (by omega)]
  · rw [if_neg h]; omega
theorem halved_is {ws : List Int} (h : weighs ws = true) : halved ws = ws.map (fun w => (w + 1) / 2) := by
  unfold halved
  refine List.map_congr_left fun w hw => ?_
  have := ((weighs_iff ws).1 h).2 w hw
  exact half_is this.1 this.2
theorem half_at (ws : List Int) (j : Nat) : (ws.map (fun w => (w + 1) / 2)).getD j 0 = (ws.getD j 0 + 1) / 2 := by
  rw [List.getD_eq_getElem?_getD, List.getD_eq_getElem?_getD, List.getElem?_map]
  cases ws[j]? with
  | none => rfl
  | some v => rfl
theorem half_pos (ws : List Int) : pos (ws.map (fun w => (w + 1) / 2)) = pos ws := by
  unfold pos
  rw [List.filter_map, List.length_map]
  congr 1
  refine List.filter_congr fun x _ => ?_
  show decide (0 < (x + 1) / 2) = _
  by_cases h : 0 < x
  · rw [decide_eq_true h, decide_eq_true (by omega)]
  · rw [decide_eq_false h, decide_eq_false (by omega)]
theorem half_weighs {ws : List Int} (h : weighs ws = true) : weighs (ws.map (fun w => (w + 1) / 2)) = true := by
  obtain ⟨w1, w2⟩ := (weighs_iff ws).1 h
  refine (weighs_iff _).2 ⟨by rw [List.length_map]; exact w1, fun x hx => ?_⟩
  obtain ⟨y, hy, rfl⟩ := List.mem_map.1 hx
  have := w2 y hy
  omega
/-- Halved often enough: they are found. -/
theorem lens_fuel : ∀ (j : Nat) (ws : List Int) (lim : Int) (k : Nat), weighs ws = true → (∀ x ∈ ws, x ≤ 2 ^ j) → (9 ≤ lim ∨ (5 ≤ lim ∧ pos ws ≤ 19)) → j < k →
    ∃ ws', lensFrom k ws lim = some (onceOf ws') ∧ weighs ws' = true ∧ ws'.length = ws.length ∧ (∀ i : Nat, 0 < ws'.getD i 0 ↔ 0 < ws.getD i 0) ∧ ∀ v ∈ onceOf ws', v ≤ lim := by
  intro j
  induction j with
  | zero =>
    intro ws lim k hw hx hl hk
    obtain ⟨k, rfl⟩ : ∃ m, k = m + 1 := ⟨k - 1, by omega⟩
    obtain ⟨w1, w2⟩ := (weighs_iff ws).1 hw
    have hu : ∀ i : Nat, i < ws.length → 0 < ws.getD i 0 → ws.getD i 0 = 1 := by
      intro i hi h0
      have hm := rd_lt_mem hi
      rw [rd_nat] at hm
      have := hx _ hm
      omega
    have hp := pos_le ws
    have hb : ∀ v ∈ onceOf ws, v ≤ lim := by
      intro v hv
      rcases hl with hl | ⟨hl, h19⟩
      · have := (once_upto ws hw 9 (by omega) (fun h2 x hx s hs => by
          obtain ⟨y, hy, hf⟩ := once_equal ws hw h2 1 hu 9 False (by omega) (fun e => e.elim)
          have hsx := hx.syms x (by simp) s hs
          obtain ⟨j, rfl⟩ : ∃ j : Nat, s = (j : Int) := ⟨s.toNat, by omega⟩
          exact (hf _ ((hy.total (by omega)).1 ((hx.total (by omega)).2 hs))).1) v hv).2
        omega
      · have := (once_upto ws hw 5 (by omega) (fun h2 x hx s hs => by
          obtain ⟨y, hy, hf⟩ := once_equal ws hw h2 1 hu 5 False (by omega) (fun e => e.elim)
          have hsx := hx.syms x (by simp) s hs
          obtain ⟨j, rfl⟩ : ∃ j : Nat, s = (j : Int) := ⟨s.toNat, by omega⟩
          exact (hf _ ((hy.total (by omega)).1 ((hx.total (by omega)).2 hs))).1) v hv).2
        omega
    exact ⟨ws, lensFrom_done k ws lim (by omega) hb, hw, rfl, fun _ => Iff.rfl, hb⟩
  | succ j ih =>
    intro ws lim k hw hx hl hk
    obtain ⟨k, rfl⟩ : ∃ m, k = m + 1 := ⟨k - 1, by omega⟩
    by_cases hb : ∀ v ∈ onceOf ws, v ≤ lim
    · exact ⟨ws, lensFrom_done k ws lim (by omega) hb, hw, rfl, fun _ => Iff.rfl, hb⟩
    · have hne : (onceOf ws).length ≠ 0 := by
        intro h0
        have : onceOf ws = [] := List.length_eq_zero_iff.1 h0
        rw [this] at hb
        exact hb (by simp)
      obtain ⟨ws', a1, a2, a3, a4, a5⟩ := ih (ws.map (fun w => (w + 1) / 2)) lim k (half_weighs hw) (fun x hx' => by
        obtain ⟨y, hy, rfl⟩ := List.mem_map.1 hx'
        have h1 := hx y hy
        rw [Int.pow_succ] at h1
        omega) (by rw [half_pos]; exact hl) (by omega)
      refine ⟨ws', ?_, a2, by rw [a3, List.length_map], fun i => ?_, a5⟩
      · unfold lensFrom
        rw [if_neg (by rw [top_le lim (by omega)]; exact fun h => h.elim hne hb), halved_is hw]
        exact a1
      · rw [a4 i, half_at]
        omega
/-- What lengths are told of right weights up to a right limit. -/
theorem lens_ok {ws : List Int} {lim : Int} (h : weighs ws = true) (h15 : lim ≤ 15) (hl : 9 ≤ lim ∨ (5 ≤ lim ∧ pos ws ≤ 19)) :
    ∃ ws', tree_Lengths.f ws lim = some (onceOf ws', 0) ∧ weighs ws' = true ∧ ws'.length = ws.length ∧ (∀ i : Nat, 0 < ws'.getD i 0 ↔ 0 < ws.getD i 0) ∧ ∀ v ∈ onceOf ws', 0 ≤ v ∧ v ≤ lim := by
  obtain ⟨w1, w2⟩ := (weighs_iff ws).1 h
  obtain ⟨ws', a1, a2, a3, a4, a5⟩ := lens_fuel 20 ws lim 32 h (fun x hx => by have := (w2 x hx).2; omega) hl (by omega)
  refine ⟨ws', ?_, a2, a3, a4, fun v hv => ⟨once_nonneg ws' a2 v hv, a5 v hv⟩⟩
  unfold tree_Lengths.f lensOf
  rw [if_neg (by rw [h]; simp; omega), a1]
  rfl
theorem lens_bad {ws : List Int} {lim : Int} (h : weighs ws = false ∨ lim > 15 ∨ lim < 5 ∨ (lim < 9 ∧ pos ws > 19)) : tree_Lengths.f ws lim = some ([], 1) := by
  unfold tree_Lengths.f lensOf
  rw [if_pos h]
end Go.Proofs.Ytaoeghdpmmeaiaa.Glue
