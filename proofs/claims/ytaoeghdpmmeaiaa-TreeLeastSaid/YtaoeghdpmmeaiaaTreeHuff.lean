/- Weights of Fibonacci stand behind each length; little weight has no length above 15; used by the claims of this seat. -/
import Derived.Test.YtaoeghdpmmeaiaaTreeInv
import Derived.Test.YtaoeghdpmmeaiaaPx4
import Derived.Test.YtaoeghdpmmeaiaaPx10
import Derived.Test.YtaoeghdpmmeaiaaPx11
import Derived.Test.YtaoeghdpmmeaiaaPx12
namespace Go.Proofs.Ytaoeghdpmmeaiaa.Glue
open Go.RowKit Go.Proofs.Ytaoeghdpmmeaiaa.P Go.Proofs.YtaoeghdpmmeaiaaW.PrintWords Go.Proofs.YtaoeghdpmmeaiaaW.PrintLast Go.Proofs.YtaoeghdpmmeaiaaW.PrintMore
set_option linter.unusedVariables false
set_option linter.unusedSimpArgs false

def fibN : Nat → Nat
  | 0 => 0
  | 1 => 1
  | n + 2 => fibN (n + 1) + fibN n
theorem fib_up (n : Nat) : fibN n ≤ fibN (n + 1) := by
  cases n with
  | zero => decide
  | succ n => show _ ≤ fibN (n + 1) + fibN n; omega
theorem fib_mono (n : Nat) : ∀ d, fibN n ≤ fibN (n + d)
  | 0 => Nat.le_refl _
  | d + 1 => Nat.le_trans (fib_mono n d) (fib_up _)
theorem sorted_two {x y : Int × List Int} {r : List (Int × List Int)} (h : (x :: y :: r).Pairwise (fun a b => a.1 ≤ b.1)) : x.1 ≤ y.1 ∧ ∀ z ∈ r, y.1 ≤ z.1 := by
  rw [List.pairwise_cons, List.pairwise_cons] at h
  exact ⟨h.1 y List.mem_cons_self, h.2.1⟩
theorem toNat_succ {a : Int} (h : 0 ≤ a) : (a + 1).toNat = a.toNat + 1 := by omega
/-- Weights of Fibonacci stand behind each length. -/
theorem once_fib (ws : List Int) (h : weighs ws = true) (h2 : 2 ≤ pos ws) : ∃ x, QInv ws [x] (onceOf ws) ∧ ∀ s ∈ x.2, (fibN ((rd (onceOf ws) s).toNat + 2) : Int) ≤ x.1 := by
  obtain ⟨x, hx, m, _, hm⟩ := once_ind ws h h2 (P := fun q out => ∃ m : Int, (∀ x ∈ q, m ≤ x.1) ∧ ∀ x ∈ q, ∀ s ∈ x.2, (fibN ((rd out s).toNat + 1) : Int) ≤ m ∧ (fibN ((rd out s).toNat + 2) : Int) ≤ x.1)
    ⟨1, fun x hx => (q_start ws).big hx, fun x hx s hs => by
      rw [rd_zeros]
      have := (q_start ws).big hx
      exact ⟨by decide, this⟩⟩
    (by
      rintro x y r out hq ⟨m, h1, h3⟩
      obtain ⟨w1, _⟩ := (weighs_iff ws).1 h
      obtain ⟨o1, o2, o3, _⟩ := q_outs (by omega) hq
      have hx : x ∈ x :: y :: r := List.mem_cons_self
      have hy : y ∈ x :: y :: r := List.mem_cons_of_mem _ List.mem_cons_self
      have hr : ∀ z ∈ r, z ∈ x :: y :: r := fun z hz => List.mem_cons_of_mem _ (List.mem_cons_of_mem _ hz)
      obtain ⟨s1, s2⟩ := sorted_two hq.sorted
      have b1 := hq.big hx
      have m1 := h1 x hx
      have m2 := h1 y hy
      refine ⟨y.1, fun z hz => ?_, fun z hz s hs => ?_⟩
      · rcases (insQ_mem _ _ _).1 hz with rfl | hz
        · show y.1 ≤ x.1 + y.1; omega
        · exact s2 z hz
      · rcases (insQ_mem _ _ _).1 hz with rfl | hz
        · show _ ∧ _ ≤ x.1 + y.1
          rcases List.mem_append.1 hs with hs | hs
          · have a := h3 x hx s hs
            rw [o1 s hs, toNat_succ (hq.outs x hx s hs).1]
            have e : fibN ((rd out s).toNat + 1 + 2) = fibN ((rd out s).toNat + 2) + fibN ((rd out s).toNat + 1) := rfl
            rw [e]
            exact ⟨by have := a.2; show ((fibN ((rd out s).toNat + 2) : Nat) : Int) ≤ y.1; omega, by omega⟩
          · have a := h3 y hy s hs
            rw [o2 s hs, toNat_succ (hq.outs y hy s hs).1]
            have e : fibN ((rd out s).toNat + 1 + 2) = fibN ((rd out s).toNat + 2) + fibN ((rd out s).toNat + 1) := rfl
            rw [e]
            exact ⟨by have := a.2; show ((fibN ((rd out s).toNat + 2) : Nat) : Int) ≤ y.1; omega, by omega⟩
        · have a := h3 z (hr z hz) s hs
          rw [o3 z hz s hs]
          exact ⟨by omega, a.2⟩)
  exact ⟨x, hx, fun s hs => (hm x (by simp) s hs).2⟩
theorem QInv.total {ws : List Int} {x : Int × List Int} {out : List Int} (h : QInv ws [x] out) {i : Nat} (hi : i < ws.length) : 0 < ws.getD i 0 ↔ (i : Int) ∈ x.2 := by
  constructor
  · intro hw
    have := h.cover i hi hw
    simpa using this
  · intro hm
    have := (h.syms x (by simp) _ hm).2.2
    rwa [rd_nat] at this
theorem onceFrom_length : ∀ (k : Nat) (ns : List (Int × List Int)) (out : List Int), (onceFrom k ns out).length = out.length
  | 0, _, _ => rfl
  | k + 1, ns, out => by
    unfold onceFrom
    by_cases h : 1 < ns.length
    · rw [if_pos h, onceFrom_length k, bump_length]
    · rw [if_neg h]
theorem once_length (ws : List Int) : (onceOf ws).length = ws.length := by
  unfold onceOf
  by_cases h : (leafs ws ws.length).length = 1
  · rw [if_pos h]; simp
  · rw [if_neg h, onceFrom_length]; simp
theorem once_none (ws : List Int) (h : pos ws = 0) : onceOf ws = List.replicate ws.length 0 := by
  unfold onceOf
  have hl := leafs_count ws
  rw [if_neg (by omega), onceFrom_end _ _ _ (by omega)]
/-- A single one has one bit. -/
theorem once_single (ws : List Int) (h : pos ws = 1) : ∃ j : Nat, j < ws.length ∧ 0 < ws.getD j 0 ∧ (∀ i : Nat, i < ws.length → 0 < ws.getD i 0 → i = j) ∧ onceOf ws = (List.replicate ws.length 0).set j 1 := by
  have hl := leafs_count ws
  have hu : onceOf ws = (List.replicate ws.length 0).set (rd ((leafs ws ws.length).getD 0 (0, [])).2 0).toNat 1 := by
    unfold onceOf
    rw [if_pos (by omega)]
  match hq : leafs ws ws.length with
  | [] => rw [hq] at hl; simp at hl; omega
  | _ :: _ :: _ => rw [hq] at hl; simp at hl; omega
  | [x] =>
    obtain ⟨j, h1, h2, h3⟩ := (leafs_mem ws ws.length x).1 (by rw [hq]; simp)
    refine ⟨j, h1, h2, fun i hi hw => ?_, ?_⟩
    · have := (leafs_mem ws ws.length _).2 ⟨i, hi, hw, rfl⟩
      rw [hq, List.mem_singleton, h3] at this
      have := congrArg (·.2) this
      simp at this
      omega
    · rw [hu, hq, h3]
      rfl
theorem rd_lt_mem {l : List Int} {i : Nat} (h : i < l.length) : rd l (i : Int) ∈ l := by
  rw [rd_nat, List.getD_eq_getElem?_getD, List.getElem?_eq_getElem h]
  exact List.getElem_mem h
theorem mem_rd {l : List Int} {v : Int} (h : v ∈ l) : ∃ i : Nat, i < l.length ∧ v = rd l (i : Int) := by
  obtain ⟨i, hi, e⟩ := List.getElem_of_mem h
  exact ⟨i, hi, by rw [rd_nat, List.getD_eq_getElem?_getD, List.getElem?_eq_getElem hi]; exact e.symm⟩
/-- All lengths are up to B, if those of two weights and more above 0 are. -/
theorem once_upto (ws : List Int) (h : weighs ws = true) (B : Int) (hB : 1 ≤ B) (hq : 2 ≤ pos ws → ∀ x, QInv ws [x] (onceOf ws) → ∀ s ∈ x.2, rd (onceOf ws) s ≤ B) : ∀ v ∈ onceOf ws, 0 ≤ v ∧ v ≤ B := by
  intro v hv
  obtain ⟨i, hi, rfl⟩ := mem_rd hv
  rw [once_length] at hi
  by_cases h0 : pos ws = 0
  · rw [once_none ws h0, rd_zeros]; omega
  · by_cases h1 : pos ws = 1
    · obtain ⟨j, hj, _, _, e⟩ := once_single ws h1
      have := rd_set (List.replicate ws.length 0) (j : Int) (i : Int) 1 (by omega) (by omega) (by simp; omega)
      rw [Int.toNat_natCast] at this
      rw [e, this]
      by_cases hij : (i : Int) = j
      · rw [if_pos hij]; omega
      · rw [if_neg hij, rd_zeros]; omega
    · obtain ⟨x, hx, _⟩ := once_fib ws h (by omega)
      by_cases hw : 0 < ws.getD i 0
      · have hm := (hx.total hi).1 hw
        exact ⟨(hx.outs x (by simp) _ hm).1, hq (by omega) x hx _ hm⟩
      · rw [hx.zero i hi hw]; omega
theorem one_sum {ws : List Int} {x : Int × List Int} {out : List Int} (h : QInv ws [x] out) (hp : ∀ v ∈ ws, 0 ≤ v) (hs : ((sortQ (leafs ws ws.length)).map (·.1)).sum = ws.sum) : x.1 ≤ ws.sum := by
  have hpf : ((leafs ws ws.length).flatMap (·.2)).Perm x.2 := by
    refine (List.perm_ext_iff_of_nodup (leafs_nodup ws _) (by have := h.nodup; simpa using this)).2 fun a => ?_
    constructor
    · intro ha
      obtain ⟨y, hy, hay⟩ := List.mem_flatMap.1 ha
      obtain ⟨j, h1, h2, rfl⟩ := (leafs_mem ws _ y).1 hy
      have e : a = (j : Int) := by simpa using hay
      rw [e]
      exact (h.total h1).1 h2
    · intro ha
      have := h.syms x (by simp) a ha
      obtain ⟨j, rfl⟩ : ∃ j : Nat, a = (j : Int) := ⟨a.toNat, by omega⟩
      exact List.mem_flatMap.2 ⟨_, (leafs_mem ws _ _).2 ⟨j, by omega, (h.total (by omega)).2 ha, rfl⟩, by simp⟩
  rw [h.weight x (by simp), ← int_sum_perm (hpf.map (rd ws)), ← hs, int_sum_perm ((sortQ_perm _).map _)]
  have hg : ∀ i : Nat, (((leafs ws i).flatMap (·.2)).map (rd ws)).sum = ((leafs ws i).map (·.1)).sum := by
    intro i
    induction i with
    | zero => rfl
    | succ i ih =>
      rw [leafs_succ, List.flatMap_append, List.map_append, List.sum_append, List.map_append, List.sum_append, ih]
      congr 1
      by_cases hp : 0 < ws.getD i 0
      · rw [if_pos hp]; simp [rd_nat]
      · rw [if_neg hp]; rfl
  rw [hg]
  exact Int.le_refl _
/-- Little weight: no length is above 15. -/
theorem once_flat (ws : List Int) (h : weighs ws = true) (hs : ws.sum < 2584) : ∀ v ∈ onceOf ws, 0 ≤ v ∧ v ≤ 15 := by
  obtain ⟨w1, w2⟩ := (weighs_iff ws).1 h
  refine once_upto ws h 15 (by omega) fun h2 x hx s hsx => ?_
  obtain ⟨y, hy, hf⟩ := once_fib ws h h2
  have hn : (s : Int) ∈ y.2 := by
    have := hx.syms x (by simp) s hsx
    obtain ⟨j, rfl⟩ : ∃ j : Nat, s = (j : Int) := ⟨s.toNat, by omega⟩
    exact (hy.total (by omega)).1 ((hx.total (by omega)).2 hsx)
  have h1 := hf s hn
  have h3 := one_sum hy (fun v hv => (w2 v hv).1) (q_sum ws (fun v hv => (w2 v hv).1))
  refine Classical.byContradiction fun hc => ?_
  have h0 := (hy.outs y (by simp) s hn).1
  have h4 := fib_mono 18 ((rd (onceOf ws) s).toNat - 16)
  rw [show 18 + ((rd (onceOf ws) s).toNat - 16) = (rd (onceOf ws) s).toNat + 2 from by omega] at h4
  have h5 : fibN 18 = 2584 := by decide +kernel
  omega
theorem max_le (B : Int) : ∀ (xs : List Int) (m : Int), maxOf m xs ≤ B ↔ m ≤ B ∧ ∀ x ∈ xs, x ≤ B
  | [], m => by simp [maxOf]
  | x :: xs, m => by
    unfold maxOf
    rw [max_le B xs, List.forall_mem_cons]
    by_cases h : m < x
    · rw [if_pos h]
      exact ⟨fun ⟨a, b⟩ => ⟨by omega, a, b⟩, fun ⟨_, a, b⟩ => ⟨a, b⟩⟩
    · rw [if_neg h]
      exact ⟨fun ⟨a, b⟩ => ⟨a, by omega, b⟩, fun ⟨a, _, b⟩ => ⟨a, b⟩⟩
theorem top_le (B : Int) (h0 : 0 ≤ B) : ∀ l : List Int, topOf l ≤ B ↔ ∀ x ∈ l, x ≤ B
  | [] => by simp [topOf, h0]
  | x :: xs => by unfold topOf; rw [max_le, List.forall_mem_cons]
theorem lensFrom_done (k : Nat) (ws : List Int) (lim : Int) (h0 : 0 ≤ lim) (h : ∀ v ∈ onceOf ws, v ≤ lim) : lensFrom (k + 1) ws lim = some (onceOf ws) := by
  unfold lensFrom
  rw [if_pos (Or.inr ((top_le lim h0 _).2 h))]
theorem lens_flat {ws : List Int} (h : weighs ws = true) (hs : ∀ v ∈ onceOf ws, v ≤ 15) : tree_Lengths.f ws 15 = some (onceOf ws, 0) := by
  unfold tree_Lengths.f lensOf
  rw [if_neg (by rw [h]; simp), lensFrom_done 31 ws 15 (by omega) hs]
  rfl
end Go.Proofs.Ytaoeghdpmmeaiaa.Glue
