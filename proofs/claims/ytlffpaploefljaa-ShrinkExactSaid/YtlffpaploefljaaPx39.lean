-- Written by a program of this session out of the translation. Lean checks it.
import Derived.Test.YtlffpaploefljaaPx0
import Derived.Test.YtlffpaploefljaaPx38
import Derived.Test.YtlffpaploefljaaPx5
namespace Go.Proofs.Ytlffpaploefljaa.P
open Go.RowKit Go.Proofs.YtlffpaploefljaaW.PrintWords Go.Proofs.YtlffpaploefljaaW.PrintLast Go.Proofs.YtlffpaploefljaaW.PrintMore
open List (setIfInBounds_toArray set_cons_zero set_cons_succ)
attribute [local go_sem] max2_int min2_int max_two min_two max_three min_three max_four min_four   -- for this text's walks alone
set_option linter.unusedVariables false
set_option linter.unusedSimpArgs false

/-! ### tree_once: function 90 (by hand) -/
def leafs (ws : List Int) (i : Nat) : List (Int × List Int) := (List.range i).filterMap (fun j => if 0 < ws.getD j 0 then some (ws.getD j 0, [(j : Int)]) else none)
theorem leafs_succ (ws : List Int) (i : Nat) : leafs ws (i + 1) = leafs ws i ++ (if 0 < ws.getD i 0 then [(ws.getD i 0, [(i : Int)])] else []) := by
 unfold leafs
 rw [List.range_succ, List.filterMap_append]
 congr 1
 by_cases h : 0 < ws.getD i 0
 ·rw [if_pos h]; simp only [List.filterMap_cons, List.filterMap_nil, if_pos h]
 ·rw [if_neg h]; simp only [List.filterMap_cons, List.filterMap_nil, if_neg h]
/-- One more for each symbol. -/
def bump (out both : List Int) : List Int := both.foldl (fun o s => o.set s.toNat (wrap64 (rd o s + 1))) out
theorem bump_length (both : List Int) : ∀ out : List Int, (bump out both).length = out.length := by
 induction both with
 | nil => intro out; rfl
 | cons s r ih => intro out; exact (ih _).trans (by simp)
theorem bump_take (out both : List Int) (i : Nat) (h : i < both.length) : bump out (both.take (i + 1)) = (bump out (both.take i)).set (rd both i).toNat (wrap64 (rd (bump out (both.take i)) (rd both i) + 1)) := by
 have e : rd both (i : Int) = both[i] := by unfold rd; rw [Int.toNat_natCast]; simp [h]
 rw [List.take_succ_eq_append_getElem h, e]
 unfold bump
 rw [List.foldl_append]
 rfl
def pickOf (ns : List (Int × List Int)) : Int × List Int := ns.getD (leastAt (ns.map (·.1))) (0, [])
def restOf (ns : List (Int × List Int)) : List (Int × List Int) := ns.eraseIdx (leastAt (ns.map (·.1)))
def bothOf (ns : List (Int × List Int)) : List Int := (pickOf ns).2 ++ (pickOf (restOf ns)).2
def mergeOf (ns : List (Int × List Int)) : List (Int × List Int) := restOf (restOf ns) ++ [(wrap64 ((pickOf ns).1 + (pickOf (restOf ns)).1), bothOf ns)]
def onceFrom : Nat → List (Int × List Int) → List Int → List Int
 | 0, _, out => out
 | k + 1, ns, out => if 1 < ns.length then onceFrom k (mergeOf ns) (bump out (bothOf ns)) else out
def onceOf (ws : List Int) : List Int :=
 if (leafs ws ws.length).length = 1 then (List.replicate ws.length 0).set (rd ((leafs ws ws.length).getD 0 (0, [])).2 0).toNat 1
 else onceFrom (leafs ws ws.length).length (leafs ws ws.length) (List.replicate ws.length 0)
theorem onceFrom_end (k : Nat) (ns : List (Int × List Int)) (out : List Int) (h : ¬ 1 < ns.length) : onceFrom k ns out = out := by
 cases k with
 | zero => rfl
 | succ k => unfold onceFrom; rw [if_neg h]
def Good (n : Nat) (ns : List (Int × List Int)) : Prop := ns.length ≤ n ∧ (ns.map (·.2.length)).sum ≤ n ∧ ∀ x ∈ ns, x.2 ≠ [] ∧ ∀ s ∈ x.2, 0 ≤ s ∧ s < n
theorem leafs_good (ws : List Int) (i : Nat) (h : i ≤ ws.length) : (leafs ws i).length ≤ i ∧ ((leafs ws i).map (·.2.length)).sum ≤ i ∧ ∀ x ∈ leafs ws i, x.2 ≠ [] ∧ ∀ s ∈ x.2, 0 ≤ s ∧ s < (ws.length : Int) := by
 induction i with
 | zero => simp [leafs]
 | succ i ih =>
  obtain ⟨h1, h2, h3⟩ := ih (by omega)
  rw [leafs_succ]
  by_cases hp : 0 < ws.getD i 0
  ·rw [if_pos hp]
   refine ⟨by simp; omega, by simp; omega, fun x hx => ?_⟩
   rcases List.mem_append.1 hx with hx | hx
   ·exact h3 x hx
   ·have hx : x = (ws.getD i 0, [(i : Int)]) := by simpa using hx
    subst hx
    refine ⟨by simp, fun s hs => ?_⟩
    have hs : s = (i : Int) := by simpa using hs
    subst hs
    omega
  ·rw [if_neg hp, List.append_nil]
   exact ⟨by omega, by omega, h3⟩
theorem sum_erase : ∀ (l : List Nat) (i : Nat) (h : i < l.length), l[i] + (l.eraseIdx i).sum = l.sum
 | a :: r, 0, _ => by simp
 | a :: r, i + 1, h => by
  have := sum_erase r i (by simpa using h)
  simp only [List.getElem_cons_succ, List.eraseIdx_cons_succ, List.sum_cons]
  omega
theorem map_erase {α β : Type} (f : α → β) (l : List α) (i : Nat) : (l.eraseIdx i).map f = (l.map f).eraseIdx i := by
 rw [List.eraseIdx_eq_take_drop_succ, List.eraseIdx_eq_take_drop_succ, List.map_append, List.map_take, List.map_drop]
theorem leastAt_lt (ws : List Int) (h : 0 < ws.length) : leastAt ws < ws.length := leastTo_lt ws _ (Nat.le_refl _) h
theorem pick_mem (ns : List (Int × List Int)) (h : 0 < ns.length) : ∃ hl : leastAt (ns.map (·.1)) < ns.length, pickOf ns = ns[leastAt (ns.map (·.1))] := by
 have hl : leastAt (ns.map (·.1)) < ns.length := by simpa using leastAt_lt (ns.map (·.1)) (by simpa using h)
 exact ⟨hl, by unfold pickOf; simp [hl]⟩
theorem rest_good {n : Nat} {ns : List (Int × List Int)} (h : Good n ns) (h0 : 0 < ns.length) : Good n (restOf ns) ∧ (restOf ns).length = ns.length - 1 ∧ (pickOf ns).2.length + ((restOf ns).map (·.2.length)).sum = (ns.map (·.2.length)).sum ∧ (pickOf ns).2 ≠ [] ∧ ∀ s ∈ (pickOf ns).2, 0 ≤ s ∧ s < (n : Int) := by
 obtain ⟨hl, hp⟩ := pick_mem ns h0
 have hle : (restOf ns).length = ns.length - 1 := by unfold restOf; rw [List.length_eraseIdx_of_lt hl]
 have hs := sum_erase (ns.map (·.2.length)) (leastAt (ns.map (·.1))) (by simpa using hl)
 rw [← map_erase, List.getElem_map, ← hp] at hs
 have hm := h.2.2 (pickOf ns) (by rw [hp]; exact List.getElem_mem hl)
 refine ⟨⟨by have := h.1; omega, by have := h.2.1; unfold restOf; omega, fun x hx => h.2.2 x (List.mem_of_mem_eraseIdx hx)⟩, hle, hs, hm⟩
theorem merge_good {n : Nat} {ns : List (Int × List Int)} (h : Good n ns) (h1 : 1 < ns.length) : Good n (mergeOf ns) ∧ (mergeOf ns).length = ns.length - 1 ∧ (bothOf ns).length ≤ n ∧ ∀ s ∈ bothOf ns, 0 ≤ s ∧ s < (n : Int) := by
 obtain ⟨g1, l1, s1, m1, b1⟩ := rest_good h (by omega)
 obtain ⟨g2, l2, s2, m2, b2⟩ := rest_good g1 (by omega)
 have hb : ∀ s ∈ bothOf ns, 0 ≤ s ∧ s < (n : Int) := by
  intro s hs
  rcases List.mem_append.1 hs with hs | hs
  ·exact b1 s hs
  ·exact b2 s hs
 have hlen : (bothOf ns).length = (pickOf ns).2.length + (pickOf (restOf ns)).2.length := by unfold bothOf; rw [List.length_append]
 have hsum := h.2.1
 refine ⟨⟨?_, ?_, fun x hx => ?_⟩, ?_, by omega, hb⟩
 ·unfold mergeOf; rw [List.length_append, List.length_singleton]; have := h.1; omega
 ·unfold mergeOf; rw [List.map_append, List.sum_append]; simp; omega
 ·rcases List.mem_append.1 hx with hx | hx
  ·exact g2.2.2 x hx
  ·have hx : x = (wrap64 ((pickOf ns).1 + (pickOf (restOf ns)).1), bothOf ns) := by simpa using hx
   subst hx
   exact ⟨by unfold bothOf; simp [m1], hb⟩
 ·unfold mergeOf; rw [List.length_append, List.length_singleton]; omega
/-- A row of symbols, in memory of its own from bo on. -/
def SymR (w : World) (bo : Nat) (v : Value) (s : List Int) : Prop := (Kd.int .i64).R 3 w bo (fun _ => True) v s
theorem SymR.keep {w w1 : World} {bo : Nat} {v : Value} {s : List Int} (h : SymR w bo v s) (hm : ∀ k cells, bo ≤ k → k < w.heap.size → w.heap[k]? = some (.cells cells 3 (0, 0)) → w1.heap[k]? = w.heap[k]?) : SymR w1 bo v s := by
 refine Kd.R_mono (Kd.R_move (Kd.R_bound h) (fun k hk => ?_)) (fun _ _ => trivial)
 obtain ⟨_, h1, h2, q, hq, cells, hc⟩ := hk
 have e : q = 3 := by
  have : (Kd.int .i64).E = [] := rfl
  rw [this] at hq
  simpa using hq
 subst e
 exact hm k cells h1 h2 hc
theorem SymR.below {w w1 : World} {bo : Nat} {v : Value} {s : List Int} (h : SymR w bo v s) (hb : Below w.heap.size w w1) : SymR w1 bo v s := Kd.R_below h hb
/-- Nodes' rows of symbols. -/
def Symss (w : World) (bo : Nat) (l : List (Int × Value)) (ns : List (Int × List Int)) : Prop :=
 l.length = ns.length ∧ ∀ (j : Nat) (x : Int × Value) (y : Int × List Int), l[j]? = some x → ns[j]? = some y → x.1 = y.1 ∧ SymR w bo x.2 y.2
def NodesS (w : World) (base bo : Nat) (v : Value) (ns : List (Int × List Int)) : Prop := ∃ l : List (Int × Value), Nodes w base v l ∧ Symss w bo l ns
theorem Symss.keep {w w1 : World} {bo : Nat} {l : List (Int × Value)} {ns : List (Int × List Int)} (h : Symss w bo l ns) (hm : ∀ k cells, bo ≤ k → k < w.heap.size → w.heap[k]? = some (.cells cells 3 (0, 0)) → w1.heap[k]? = w.heap[k]?) : Symss w1 bo l ns :=
 ⟨h.1, fun j x y hx hy => ⟨(h.2 j x y hx hy).1, (h.2 j x y hx hy).2.keep hm⟩⟩
theorem Symss.grown {w w1 : World} {bo : Nat} {l : List (Int × Value)} {ns : List (Int × List Int)} (h : Symss w bo l ns) {row : Option Nat} (hg : w.grownBy w1 row) (hr : ∀ g, row = some g → ∃ cs, w.heap[g]? = some (.cells cs 133 (0, 0))) : Symss w1 bo l ns :=
 h.keep (fun k cells _ hk hc => hg.block k hk (fun e => by
  obtain ⟨cs, h2⟩ := hr k e.symm
  rw [hc] at h2
  injection h2 with h2
  injection h2 with _ h3
  exact absurd h3 (by decide)))
theorem Symss.weights {w : World} {bo : Nat} {l : List (Int × Value)} {ns : List (Int × List Int)} (h : Symss w bo l ns) : l.map (·.1) = ns.map (·.1) := by
 apply List.ext_getElem?
 intro j
 rw [List.getElem?_map, List.getElem?_map]
 by_cases hj : j < l.length
 ·have hj2 : j < ns.length := by rw [← h.1]; exact hj
  rw [List.getElem?_eq_getElem hj, List.getElem?_eq_getElem hj2]
  have := (h.2 j _ _ (List.getElem?_eq_getElem hj) (List.getElem?_eq_getElem hj2)).1
  simp [this]
 ·rw [List.getElem?_eq_none (by omega), List.getElem?_eq_none (by have := h.1; omega)]
  rfl
theorem Symss.erase {w : World} {bo : Nat} {l : List (Int × Value)} {ns : List (Int × List Int)} (h : Symss w bo l ns) (i : Nat) (hi : i < ns.length) : Symss w bo (l.eraseIdx i) (ns.eraseIdx i) := by
 refine ⟨by rw [List.length_eraseIdx_of_lt (by have := h.1; omega), List.length_eraseIdx_of_lt hi, h.1], fun j x y hx hy => ?_⟩
 rw [List.getElem?_eraseIdx] at hx hy
 by_cases hj : j < i
 ·rw [if_pos hj] at hx hy
  exact h.2 j x y hx hy
 ·rw [if_neg hj] at hx hy
  exact h.2 (j + 1) x y hx hy
theorem Symss.snoc {w : World} {bo : Nat} {l : List (Int × Value)} {ns : List (Int × List Int)} (h : Symss w bo l ns) {x : Int × Value} {y : Int × List Int} (hx : x.1 = y.1 ∧ SymR w bo x.2 y.2) : Symss w bo (l ++ [x]) (ns ++ [y]) := by
 refine ⟨by simp [h.1], fun j a b ha hb => ?_⟩
 by_cases hj : j < l.length
 ·rw [List.getElem?_append_left hj] at ha
  rw [List.getElem?_append_left (by have := h.1; omega)] at hb
  exact h.2 j a b ha hb
 ·rw [List.getElem?_append_right (by omega)] at ha
  rw [List.getElem?_append_right (by have := h.1; omega), ← h.1] at hb
  obtain ⟨n, hn⟩ : ∃ n, n = j - l.length := ⟨_, rfl⟩
  rw [← hn] at ha hb
  cases n with
  | zero =>
   simp at ha hb
   subst ha; subst hb
   exact hx
  | succ n => simp at ha
theorem nodes_type {w : World} {base : Nat} {v : Value} {rows : List (List Value)} (h : (Kd.raw 2).R 133 w base (fun _ => True) v rows) : ∀ g, v.ownBlock = some g → ∃ cs, w.heap[g]? = some (.cells cs 133 (0, 0)) := by
 intro g hg
 obtain ⟨inner, ho⟩ := Kd.R_own h
 exact own_typed ho g hg
theorem NodesS.below {w w1 : World} {base bo : Nat} {v : Value} {ns : List (Int × List Int)} (h : NodesS w base bo v ns) (hb : Below w.heap.size w w1) : NodesS w1 base bo v ns := by
 obtain ⟨l, h1, h2⟩ := h
 exact ⟨l, Kd.R_below h1 hb, h2.keep (fun k _ _ hk _ => hb.block k hk)⟩
/-- What is written into a row of ints that lies ahead of bo says nothing of the nodes. -/
theorem NodesS.far {w : World} {base bo : Nat} {v : Value} {ns : List (Int × List Int)} (h : NodesS w base bo v ns) {go : Nat} {cs : Array Value} (hgo : w.heap[go]? = some (.cells cs 3 (0, 0))) (hlt : go < bo) (j : Nat) (u : Value) : NodesS (w.setCell ⟨go, j, none⟩ u) base bo v ns := by
 obtain ⟨l, h1, h2⟩ := h
 refine ⟨l, Kd.R_mono (Kd.R_far (Kd.R_bound h1) (fun k hk => ?_) u) (fun _ _ => trivial), h2.keep (fun k _ hb _ _ => Below.heap_setCell w ⟨go, j, none⟩ u k (by show k ≠ go; omega))⟩
 obtain ⟨_, _, _, q, hq, cells, hc⟩ := hk
 have e : q = 133 := by
  have : (Kd.raw 2).E = [] := rfl
  rw [this] at hq
  simpa using hq
 subst e
 show k ≠ go
 rintro rfl
 rw [hc] at hgo
 injection hgo with hgo
 injection hgo with _ h3
 exact absurd h3 (by decide)
theorem NodesS.lower {w : World} {base base' bo : Nat} {v : Value} {ns : List (Int × List Int)} (h : NodesS w base bo v ns) (hb : base' ≤ base) : NodesS w base' bo v ns := by
 obtain ⟨l, h1, h2⟩ := h
 exact ⟨l, Kd.R_lower h1 hb, h2⟩
theorem NodesS.length {w : World} {base bo : Nat} {v : Value} {ns : List (Int × List Int)} (h : NodesS w base bo v ns) : ∃ A c, v = .slice A ns.length c ∧ ns.length ≤ c := by
 obtain ⟨l, h1, h2⟩ := h
 obtain ⟨A, c, e⟩ := Kd.R_slice h1
 subst e
 have h3 := (Kd.R_reads' h1).2.1
 rw [nodeRows_length, h2.1] at *
 exact ⟨A, c, rfl, h3⟩
theorem least_of (bo : Nat) (v : Value) (ns : List (Int × List Int)) (w0 w : World) (hN : NodesS w w0.heap.size bo v ns) (h0 : 0 < ns.length) (hB : Below w0.heap.size w0 w) (hl : ns.length ≤ 1000000) :
  Calls Try.prog 106 #[v] w fun e w' => ∃ xv v' g, e = .returned (.tuple #[.agg #[.int .i64 (pickOf ns).1, xv], v']) ∧ SymR w' bo xv (pickOf ns).2 ∧ NodesS w' w0.heap.size bo v' (restOf ns) ∧ Below w0.heap.size w0 w' ∧ v.ownBlock = some g ∧ g < w.heap.size ∧ w.grownBy w' (some g) ∧ v'.ownBlock = some g ∧ ∃ cs, w.heap[g]? = some (.cells cs 133 (0, 0)) := by
 obtain ⟨l, h1, h2⟩ := hN
 obtain ⟨g, c, e, _, hgl, hgt⟩ := Kd.R_form h1 (by rw [nodeRows_length, h2.1]; exact h0)
 subst e
 rw [nodeRows_length] at *
 have hw := h2.weights
 refine (tree_least g c l w0 w (by rw [Nodes]; exact h1) (by rw [h2.1]; exact h0) hB (by rw [h2.1]; exact hl) (fun x hx => ?_)).mono ?_
 ·obtain ⟨j, hj⟩ := List.mem_iff_getElem?.1 hx
  have hjl : j < l.length := (List.getElem?_eq_some_iff.1 hj).1
  obtain ⟨A, c', e⟩ := Kd.R_slice (h2.2 j x _ hj (List.getElem?_eq_getElem (by rw [← h2.1]; exact hjl))).2
  exact ⟨A, _, c', e⟩
 ·rintro e w' ⟨x, hx, rfl, hN', hB', hg⟩
  rw [hw] at hx hN'
  obtain ⟨hl1, hp⟩ := pick_mem ns h0
  have hxy := h2.2 _ x _ hx (List.getElem?_eq_getElem hl1)
  rw [← hp] at hxy
  have hgt' : ∀ g', some g = some g' → ∃ cs, w.heap[g']? = some (.cells cs 133 (0, 0)) := fun g' e => by injection e with e; subst e; exact hgt
  have hS := (h2.erase _ hl1).grown hg hgt'
  refine ⟨x.2, _, g, by rw [hxy.1], ?_, ⟨_, hN', hS⟩, hB', by simp [Value.ownBlock], hgl, hg, by simp [Value.ownBlock], hgt⟩
  refine hxy.2.keep (fun k cells _ hk hc => hg.block k hk (fun e => ?_))
  obtain ⟨cs, h5⟩ := hgt' k e.symm
  rw [hc] at h5
  injection h5 with h5
  injection h5 with _ h6
  exact absurd h6 (by decide)
theorem lit_row (w : World) (bo : Nat) (i : Int) (hb : bo ≤ w.heap.size) : SymR (w.alloc (.cells #[.int .i64 i] 3)) bo (.slice (some ⟨w.heap.size, 0, none⟩) 1 1) [i] := by
 refine ⟨fun _ _ => trivial, [.int .i64 i], ⟨rfl, .inr ⟨w.heap.size, 1, #[.int .i64 i], rfl, hb, Array.getElem?_push_size, Nat.le_refl _, by decide, rfl, rfl⟩⟩, rfl, fun j p hj => ?_⟩
 cases j with
 | zero =>
  simp at hj
  subst hj
  rfl
 | succ j => simp at hj
theorem node_info : (Try.prog.info? 133).map (fun i => (i.zero, i.size, i.bytes)) = some (some (.agg #[.int .i64 0, .slice none 0 0]), 2, 32) := by kernel_rfl
/-- A node put behind the others. -/
theorem NodesS.snoc {w w1 : World} {base bo : Nat} {v v1 : Value} {l : List (Int × Value)} {ns : List (Int × List Int)} {x : Int × Value} {y : Int × List Int} (h1 : Nodes w base v l) (h : Symss w bo l ns) (hN : (Kd.raw 2).R 133 w1 base (fun _ => True) v1 (nodeRows l ++ [nodeCells x])) (hg : w.grownBy w1 v.ownBlock) (hx : x.1 = y.1 ∧ SymR w bo x.2 y.2) : NodesS w1 base bo v1 (ns ++ [y]) := by
 refine ⟨l ++ [x], ?_, (h.snoc hx).grown hg (nodes_type h1)⟩
 rw [Nodes, nodeRows, List.map_append]
 exact hN
/-- All blocks of ints are as they were. -/
def Keeps (w w1 : World) : Prop := w.heap.size ≤ w1.heap.size ∧ ∀ (k : Nat) (cells : Array Value), k < w.heap.size → w.heap[k]? = some (.cells cells 3 (0, 0)) → w1.heap[k]? = w.heap[k]?
theorem Keeps.trans {a b c : World} (h : Keeps a b) (k : Keeps b c) : Keeps a c :=
 ⟨Nat.le_trans h.1 k.1, fun i cells hi hc => (k.2 i cells (Nat.lt_of_lt_of_le hi h.1) ((h.2 i cells hi hc).trans hc)).trans (h.2 i cells hi hc)⟩
theorem Keeps.below {w w1 : World} (hb : Below w.heap.size w w1) : Keeps w w1 := ⟨hb.size, fun k _ hk _ => hb.block k hk⟩
theorem not_both {w : World} {k g : Nat} {cells cs : Array Value} (hc : w.heap[k]? = some (.cells cells 3 (0, 0))) (hg : w.heap[g]? = some (.cells cs 133 (0, 0))) : k ≠ g := by
 rintro rfl
 rw [hc] at hg
 injection hg with hg
 injection hg with _ h3
 exact absurd h3 (by decide)
theorem Keeps.grown {w w1 : World} {g : Nat} (hg : w.grownBy w1 (some g)) (hr : ∃ cs, w.heap[g]? = some (.cells cs 133 (0, 0))) : Keeps w w1 := by
 obtain ⟨cs, hr⟩ := hr
 exact ⟨hg.size, fun k cells hk hc => hg.block k hk (fun e => by injection e with e; exact not_both hc hr e)⟩
theorem Keeps.set {w : World} {b : Nat} {cs : Array Value} (hb : w.heap[b]? = some (.cells cs 133 (0, 0))) (j : Nat) (u : Value) : Keeps w (w.setCell ⟨b, j, none⟩ u) :=
 ⟨by simp [World.setCell], fun k cells _ hc => Below.heap_setCell w ⟨b, j, none⟩ u k (not_both hc hb)⟩
theorem SymR.keeps {w w1 : World} {bo : Nat} {v : Value} {s : List Int} (h : SymR w bo v s) (hk : Keeps w w1) : SymR w1 bo v s := h.keep (fun k cells _ hlt hc => hk.2 k cells hlt hc)
theorem NodesS.keeps {w w1 : World} {base bo : Nat} {v : Value} {ns : List (Int × List Int)} (h : NodesS w base bo v ns) (hk : Keeps w w1) (hv : ∀ k, v.ownBlock = some k → w1.heap[k]? = w.heap[k]?) : NodesS w1 base bo v ns := by
 obtain ⟨l, h1, h2⟩ := h
 exact ⟨l, Kd.raw_any (Kd.R_move (Kd.raw_tight h1) (fun k hk => hv k hk.symm)), h2.keep (fun k cells _ hlt hc => hk.2 k cells hlt hc)⟩
theorem NodesS.lt {w : World} {base bo : Nat} {v : Value} {ns : List (Int × List Int)} (h : NodesS w base bo v ns) {g : Nat} (hv : v.ownBlock = some g) : g < w.heap.size := by
 obtain ⟨l, h1, h2⟩ := h
 exact Kd.R_lt h1 g hv
/-- A node laid into a variable's block. -/
theorem node_put {w : World} {b : Nat} {cs : Array Value} (hb : w.heap[b]? = some (.cells cs 133 (0, 0))) (hs : cs = #[.int .i64 0, .slice none 0 0]) (u v : Value) :
  ((w.setCell ⟨b, 0, none⟩ u).setCell ⟨b, 1, none⟩ v).heap[b]? = some (.cells #[u, v] 133 (0, 0)) := by
 subst hs
 exact blk_put (cs := #[u, .slice none 0 0]) (blk_put (cs := #[.int .i64 0, .slice none 0 0]) hb 0 _ rfl) 1 _ rfl
set_option maxHeartbeats 8000000 in
set_option maxRecDepth 100000 in
theorem once_calls (A0 : Option Addr) (c0 : Nat) (l0 : List Int) (w : World) (hr0 : Kd.C (Kd.int .i64) w A0 l0.length l0) (hc0 : l0.length ≤ c0) (hl : l0.length ≤ 300) :
  Calls Try.prog 90 #[.slice A0 l0.length c0] w fun e w' => ∃ v, e = .returned v ∧ Kd.R (Kd.int .i64) 3 w' w.heap.size (fun _ => True) v (onceOf l0) ∧ Below w.heap.size w w' := by
 have HR := Aside0.mk hr0
 have HC := Aside0.mk hc0
 obtain ⟨L, hL⟩ : ∃ L, L = l0.length := ⟨_, rfl⟩
 have HL := Aside0.mk hL
 rw [← hL] at hl ⊢
 clear hr0 hc0 hL
 go_enter Try.func90, Try.ntmps90
 go_wp2_with (refine Kd.R_make (Kd.int .i64) (w0 := w) w.heap.size 3 rfl rfl 32 (.tmp 13) (.tmp 13) rfl (L : Int) rfl rfl Try.underlying32 (.int .i64 0) 8 info3 rfl (by decide) (by decide) (0 : Int) (ok := fun _ => True) (okp := fun _ => False) rfl (fun _ hk => hk.elim) trivial (by omega) (by omega) (Below.refl _ _) (Nat.le_refl _) ?_; intro v1 wB ho hb hg hat; (have HO := Aside0.mk ho); (have HB := Aside0.mk hb); (have HG := Aside0.mk hg); (have HAT := Aside0.mk hat); clear ho hb hg hat)
 rw [Int.toNat_natCast] at HO
 go_loopg [4, 17] L (fun kq v4 v17 w' => ∃ i : Nat, i ≤ L ∧ v17 = .int .i64 i ∧ Aside0 (kq + i = L) ∧ Aside0 (NodesS w' wB.heap.size wB.heap.size v4 (leafs l0 i)) ∧ Aside0 (Below wB.heap.size wB w'))
 case atStart => exact ⟨0, by omega, rfl, ⟨rfl⟩, ⟨[], Kd.R_nil _ _ _ _ _, rfl, fun j x y hx _ => by simp at hx⟩, ⟨Below.refl _ _⟩⟩
 case round =>
  obtain ⟨i, hi, rfl, HK, HN, HBr⟩ := hrel
  by_cases hlt : i < L
  ·have HBw := Aside0.mk (show Below w.heap.size w wr from below_then HB.out HB.out.size HBr.out)
   obtain ⟨ad, rfl, hcell⟩ := Kd.at_int (Kd.C_below HR.out HBw.out) (i : Int) (by omega) (by rw [← HL.out]; omega)
   have e : rd l0 (i : Int) = l0.getD i 0 := by unfold rd; rw [Int.toNat_natCast]
   rw [Int.toNat_natCast, e] at hcell
   have HS := Aside0.mk (leafs_succ l0 i)
   generalize l0.getD i 0 = x at hcell HS
   clear e
   by_cases hx : 0 < x
   ·have hd : decide (0 < x) = true := decide_eq_true hx
    obtain ⟨A4, c4, e4, hc4⟩ := HN.out.length
    subst e4
    obtain ⟨l, hNl, hSl⟩ := HN.out
    have HW2 := Aside0.mk (show Below wr.heap.size wr (wr.alloc (Obj.cells #[Value.int IntKind.i64 (i : Int)] 3)) from (Below.refl _ _).alloc (Nat.le_refl _) _)
    have HNl := Aside0.mk (show Nodes (wr.alloc (Obj.cells #[Value.int IntKind.i64 (i : Int)] 3)) wB.heap.size _ l from Kd.R_below hNl HW2.out)
    have HSl := Aside0.mk (show Symss (wr.alloc (Obj.cells #[Value.int IntKind.i64 (i : Int)] 3)) wB.heap.size l _ from hSl.keep (fun k _ _ hk _ => HW2.out.block k hk))
    have HLit := Aside0.mk (lit_row wr wB.heap.size (i : Int) HBr.out.size)
    have HB2 := Aside0.mk (show Below wB.heap.size wB (wr.alloc (Obj.cells #[Value.int IntKind.i64 (i : Int)] 3)) from below_then HBr.out HBr.out.size HW2.out)
    have HLL := Aside0.mk (show l.length ≤ 300 from by have := (leafs_good l0 i (by have := HL.out; omega)).1; have := hSl.1; omega)
    clear hNl hSl
    go_wp2_with ((with_reducible refine gate_builtin (b := .append) (xs := #[.tmp 24, .tmp 29]) rfl ?_); at_builtin; refine Kd.R_append (Kd.raw 2) (w0 := wB) wB.heap.size rfl (.tmp 24) (.tmp 29) 131 133 (.agg #[.int .i64 0, .slice none 0 0]) 32 rfl Try.underlying131 node_info rfl (by decide) (by decide) (.slice A4 (leafs l0 i).length c4) (nodeRows l) (nodeCells (x, .slice (some ⟨wr.heap.size, 0, none⟩) 1 1)) (nodeCells (x, .slice (some ⟨wr.heap.size, 0, none⟩) 1 1)) (fun _ => True) (fun _ => False) rfl (by simp; rfl) ⟨rfl, rfl, by intro u hu; simp [nodeCells] at hu; rcases hu with rfl | rfl <;> rfl⟩ (fun _ hk => hk.elim) (fun _ _ => trivial) HNl.out HB2.out HB2.out.size (by rw [nodeRows_length]; have := HLL.out; omega) ?_; intro v5 w5 ho hb hg hat; (have HN5 := Aside0.mk (And.intro ho (And.intro hb hg))); clear ho hb hg hat)
    obtain ⟨ho, hb, hg⟩ := HN5.out
    have HN6 := Aside0.mk (NodesS.snoc (y := (x, [(i : Int)])) HNl.out HSl.out ho hg ⟨rfl, HLit.out⟩)
    go_roundg (gk - 1)
    case measure => have := HK.out; omega
    case rel => exact ⟨i + 1, by omega, by go_num, ⟨by have := HK.out; omega⟩, ⟨by rw [HS.out, if_pos hx]; exact HN6.out⟩, ⟨hb⟩⟩
   ·have hd : decide (0 < x) = false := decide_eq_false hx
    go_wp2_with fail
    go_roundg (gk - 1)
    case measure => have := HK.out; omega
    case rel => exact ⟨i + 1, by omega, by go_num, ⟨by have := HK.out; omega⟩, ⟨by rw [HS.out, if_neg (by omega), List.append_nil]; exact HN.out⟩, HBr⟩
  ·have hiL : i = L := by omega
   subst hiL
   obtain ⟨ns, hns⟩ : ∃ ns, ns = leafs l0 i := ⟨_, rfl⟩
   rw [← hns] at HN
   have HNS := Aside0.mk hns
   have HGd := Aside0.mk (show Good i ns from by
    have := leafs_good l0 i (by rw [HL.out]; exact Nat.le_refl _)
    rw [← hns, ← HL.out] at this
    exact this)
   clear hns
   obtain ⟨A4, c4, e4, hc4⟩ := HN.out.length
   subst e4
   go_upto_if 34 with fail
   go_cut [34] (fun v34 wc => ∃ k out, Aside0 (onceFrom k ns out = onceOf l0 ∧ ns.length ≤ k + 1) ∧ Aside0 (Kd.R (Kd.int .i64) 3 wc w.heap.size (fun _ => True) v1 out ∧ out.length = i) ∧ Aside0 (NodesS wc w.heap.size wB.heap.size (.slice A4 ns.length c4) ns) ∧ Aside0 (Below w.heap.size w wc) ∧ Aside0 (wB.heap.size ≤ wc.heap.size))
   case first =>
    have HOr := Aside0.mk (Kd.R_below HO.out HBr.out)
    have HBw := Aside0.mk (show Below w.heap.size w wr from below_then HB.out HB.out.size HBr.out)
    by_cases h1 : ns.length = 1
    ·have hd : ((ns.length : Int) == 1) = true := by rw [beq_iff_eq]; omega
     obtain ⟨l, hNl, hSl⟩ := HN.out
     obtain ⟨go, co, e1, hgo1, hgo2, ocs, hocs⟩ := Kd.R_form HO.out (by rw [List.length_replicate]; have := HGd.out.1; omega)
     rw [List.length_replicate] at e1
     subst e1
     obtain ⟨g, c, e, _, _, _⟩ := Kd.R_form hNl (by rw [nodeRows_length, hSl.1]; omega)
     injection e with e _ ec
     subst e
     obtain ⟨y, hy⟩ : ∃ y, ns[0]? = some y := ⟨_, List.getElem?_eq_getElem (by omega)⟩
     obtain ⟨x, hx⟩ : ∃ x, l[0]? = some x := ⟨_, List.getElem?_eq_getElem (by rw [hSl.1]; omega)⟩
     obtain ⟨hxy, hsy⟩ := hSl.2 0 x y hx hy
     obtain ⟨hyn, hyb⟩ := HGd.out.2.2 y (List.mem_of_getElem? hy)
     have hn1 := (node_at (Kd.R_reads' hNl).2.2 hx).2
     rw [Nat.zero_mul, Nat.zero_add] at hn1
     have hyl : 0 < y.2.length := List.length_pos_iff.2 hyn
     obtain ⟨gs, cs, es, _, _, _⟩ := Kd.R_form hsy hyl
     rw [es] at hn1 hsy
     have hs1 := (Kd.R_celln (0 : Int) hsy 0 (by omega) (by omega)).1
     have hsb := hyb (rd y.2 0) (by unfold rd; rw [show ((0 : Int)).toNat = 0 from rfl]; rw [List.getD_eq_getElem?_getD, List.getElem?_eq_getElem hyl]; exact List.getElem_mem hyl)
     have hrd : rdOf (0 : Int) y.2 0 = rd y.2 0 := rfl
     rw [hrd, show ((0 : Int)).toNat = 0 from rfl] at hs1
     have HF := Aside0.mk (show onceOf l0 = (List.replicate i 0).set (rd y.2 0).toNat 1 from by
      unfold onceOf
      rw [← HL.out, ← HNS.out, if_pos h1, List.getD_eq_getElem?_getD, hy]
      rfl)
     generalize rd y.2 0 = sv at hs1 hsb HF
     clear hrd
     obtain ⟨hs0, hsi⟩ := hsb
     obtain ⟨hoc, hof⟩ := Kd.R_celln (0 : Int) HOr.out sv hs0 hsi
     have HR2 := Aside0.mk (Kd.R_putn HOr.out sv (1 : Int))
     have hocr := (HBr.out.block go hgo2).trans hocs
     have HN2 := Aside0.mk ((HN.out.far hocr hgo2 sv.toNat (.int .i64 1)).lower HB.out.size)
     have HB2 := Aside0.mk (show Below w.heap.size w (wr.setCell ⟨go, sv.toNat, none⟩ (.int .i64 1)) from HBw.out.setCell (p := ⟨go, sv.toNat, none⟩) hgo1 _)
     have HS2 := Aside0.mk (show wB.heap.size ≤ (wr.setCell ⟨go, sv.toNat, none⟩ (.int .i64 1)).heap.size from by have := HBr.out.size; simp [World.setCell]; omega)
     have hyl2 : (0 : Int) < (y.2.length : Int) := by omega
     have hnl2 : (0 : Int) < (ns.length : Int) := by omega
     clear hy hx hxy hsy hyn hyb hocs hocr hgo1 hgo2 hNl hSl es
     go_wp2_with fail
     go_meet
     case rel => exact ⟨0, _, ⟨HF.out.symm, by omega⟩, ⟨HR2.out, by simp⟩, HN2, HB2, HS2⟩
    ·have hd : ((ns.length : Int) == 1) = false := by rw [beq_eq_false_iff_ne]; omega
     go_wp2_with fail
     go_meet
     case rel => exact ⟨ns.length, List.replicate i 0, ⟨by
      unfold onceOf
      rw [← HL.out, ← HNS.out, if_neg h1], by omega⟩, ⟨HOr.out, by simp⟩, ⟨HN.out.lower HB.out.size⟩, HBw, ⟨HBr.out.size⟩⟩
   case rest =>
    obtain ⟨k0, out0, HF0, HO0, HN0, HB0, HS0⟩ := hcut
    have HGo := Aside0.mk (Kd.R_lt HO.out)
    clear HN HBr HO HAT HG
    go_wp2_with fail
    go_loopg [4] ns.length (fun kq v4 w' => ∃ k ns' out, Aside0 (onceFrom k ns' out = onceOf l0 ∧ ns'.length ≤ k + 1) ∧ Aside0 (kq = ns'.length) ∧ Aside0 (Good i ns') ∧ Aside0 (SymR w' w.heap.size v1 out ∧ out.length = i) ∧ Aside0 (NodesS w' w.heap.size wB.heap.size v4 ns') ∧ Aside0 (Below w.heap.size w w') ∧ Aside0 (wB.heap.size ≤ w'.heap.size))
    case atStart => exact ⟨k0, ns, out0, HF0, ⟨rfl⟩, HGd, HO0, HN0, HB0, HS0⟩
    case round =>
     clear HF0 HO0 HN0 HB0 HS0
     obtain ⟨k, ms, out, HF, HK, HGm, HOm, HNm, HBm, HSm⟩ := hrel
     obtain ⟨A4, c4, e4, hc4⟩ := HNm.out.length
     subst e4
     by_cases h1 : 1 < ms.length
     ·have hd : decide ((1 : Int) < (ms.length : Int)) = true := decide_eq_true (by omega)
      have hd2 : decide (1 < ms.length) = true := decide_eq_true h1
      go_wp2_with fail
      -- the two variables' blocks
      obtain ⟨wA, hwA⟩ : ∃ wA, wA = (wr.alloc (Obj.cells #[Value.int IntKind.i64 0, Value.slice none 0 0] 133)).alloc (Obj.cells #[Value.int IntKind.i64 0, Value.slice none 0 0] 133) := ⟨_, rfl⟩
      have HbA := Aside0.mk (show Below wr.heap.size wr wA from by rw [hwA]; exact ((Below.refl _ _).alloc (Nat.le_refl _) _).alloc (by simp) _)
      have kA : wA.heap[wr.heap.size]? = some (.cells #[.int .i64 0, .slice none 0 0] 133 (0, 0)) := by
       rw [hwA]
       exact blk_alloc (Array.getElem?_push_size) _
      have kB : wA.heap[wr.heap.size + 1]? = some (.cells #[.int .i64 0, .slice none 0 0] 133 (0, 0)) := by
       rw [hwA]
       have h := Array.getElem?_push_size (xs := (wr.alloc (Obj.cells #[Value.int IntKind.i64 0, Value.slice none 0 0] 133)).heap) (x := Obj.cells #[Value.int IntKind.i64 0, Value.slice none 0 0] 133)
       have e : (wr.alloc (Obj.cells #[Value.int IntKind.i64 0, Value.slice none 0 0] 133)).heap.size = wr.heap.size + 1 := by simp
       rw [e] at h
       exact h
      rw [← hwA]
      clear hwA
      have HKp := Aside0.mk (Keeps.below HbA.out)
      have HN1 := Aside0.mk (HNm.out.below HbA.out)
      have HBa := Aside0.mk (show Below w.heap.size w wA from below_then HBm.out HBm.out.size HbA.out)
      refine (least_of wB.heap.size _ ms w wA HN1.out (by omega) HBa.out (by have := HGm.out.1; omega)).mono ?_
      rintro e w1 ⟨xa, va, g, rfl, hsa, hna, hba, hvg, _, hgr, hva, hgt⟩
      have hgl := HNm.out.lt hvg
      obtain ⟨Aa, ca, ea⟩ := Kd.R_slice hsa
      subst ea
      obtain ⟨Av, cv, ev, _⟩ := hna.length
      subst ev
      have kA1 := blk_grown kA hgr (by simp; omega)
      have kB1 := blk_grown kB hgr (by simp; omega)
      have HKp1 := Aside0.mk (HKp.out.trans (Keeps.grown hgr hgt))
      clear kA kB hgr hgt
      have ha1 : w1.cell? ⟨wr.heap.size, 0, none⟩ = some (.int .i64 0) := by rw [cell_of_row w1 _ _ _ _ _ kA1]; rfl
      have ha2 : w1.cell? ⟨wr.heap.size, 1, none⟩ = some (.slice none 0 0) := by rw [cell_of_row w1 _ _ _ _ _ kA1]; rfl
      have hfa1 : w1.frozen? ⟨wr.heap.size, 0, none⟩ = false := blk_frozen kA1 _
      have hfa2 : w1.frozen? ⟨wr.heap.size, 1, none⟩ = false := blk_frozen kA1 _
      have HA1 := Aside0.mk (And.intro kA1 kB1)
      have HS1 := Aside0.mk (And.intro hsa hna)
      have HB1 := Aside0.mk hba
      have HV1 := Aside0.mk (And.intro hva hgl)
      clear kA1 kB1 hsa hna hba hva hgl hvg
      obtain ⟨p1, hp1⟩ : ∃ p, p = pickOf ms := ⟨_, rfl⟩
      obtain ⟨m1, hm1⟩ : ∃ m, m = restOf ms := ⟨_, rfl⟩
      rw [← hp1, ← hm1] at HS1
      rw [← hp1]
      (try rw [← hm1])
      have HP1 := Aside0.mk (And.intro hp1 hm1)
      clear hp1 hm1
      go_wp2_with fail
      clear ha1 ha2 hfa1 hfa2
      obtain ⟨w2, hw2⟩ : ∃ w2, w2 = (w1.setCell ⟨wr.heap.size, 0, none⟩ (.int .i64 p1.1)).setCell ⟨wr.heap.size, 1, none⟩ (.slice Aa p1.2.length ca) := ⟨_, rfl⟩
      have hset : ∀ k, k ≠ wr.heap.size → w2.heap[k]? = w1.heap[k]? := fun k hk => by
       rw [hw2]
       exact (Below.heap_setCell _ ⟨wr.heap.size, 1, none⟩ _ k hk).trans (Below.heap_setCell _ ⟨wr.heap.size, 0, none⟩ _ k hk)
      have kA2 : w2.heap[wr.heap.size]? = some (.cells #[.int .i64 p1.1, .slice Aa p1.2.length ca] 133 (0, 0)) := by
       rw [hw2]
       exact node_put HA1.out.1 rfl _ _
      have kB2 := (hset (wr.heap.size + 1) (by omega)).trans HA1.out.2
      have hk2 : Keeps w1 w2 := by
       rw [hw2]
       exact (Keeps.set HA1.out.1 0 _).trans (Keeps.set (blk_put HA1.out.1 0 _ rfl) 1 _)
      have hbl2 : Below wr.heap.size w1 w2 := by
       rw [hw2]
       exact Below.setCell (p := ⟨wr.heap.size, 1, none⟩) (Below.setCell (p := ⟨wr.heap.size, 0, none⟩) (Below.refl _ _) (Nat.le_refl _) _) (Nat.le_refl _) _
      have hN2 := HS1.out.2.keeps hk2 (fun k hk => hset k (by have h := HV1.out.1; rw [← HP1.out.2] at h; rw [h] at hk; injection hk with hk; have := HV1.out.2; omega))
      have HB2 := Aside0.mk (show Below w.heap.size w w2 from HB1.out.trans ⟨hbl2.os, hbl2.tape, hbl2.output, hbl2.size, fun k hk => hbl2.block k (by have := HBm.out.size; omega)⟩)
      have HSa2 := Aside0.mk (HS1.out.1.keeps hk2)
      have HK2 := Aside0.mk (HKp1.out.trans hk2)
      rw [← hw2]
      clear hw2 hset hk2 hbl2 HS1 HB1 HKp1 HKp HN1 HBa HA1
      have hm1l : m1.length = ms.length - 1 ∧ Good i m1 := by
       have h := rest_good HGm.out (by omega)
       rw [← HP1.out.2] at h
       exact ⟨h.2.1, h.1⟩
      refine (least_of wB.heap.size _ m1 w w2 hN2 (by omega) HB2.out (by have := hm1l.2.1; omega)).mono ?_
      rintro e w3 ⟨xb, vb, g', rfl, hsb, hnb, hbb, hvg, _, hgr, hvb, hgt⟩
      have eg : g' = g := by have h := HV1.out.1; rw [← HP1.out.2] at h; rw [h] at hvg; injection hvg with hvg; exact hvg.symm
      subst eg
      obtain ⟨Ab, cb, eb⟩ := Kd.R_slice hsb
      subst eb
      obtain ⟨Aw, cw, ew, _⟩ := hnb.length
      subst ew
      have hgl := HV1.out.2
      have kA3 := blk_grown kA2 hgr (by simp; omega)
      have kB3 := blk_grown kB2 hgr (by simp; omega)
      have HK3 := Aside0.mk (HK2.out.trans (Keeps.grown hgr hgt))
      have HSa3 := Aside0.mk (HSa2.out.keeps (Keeps.grown hgr hgt))
      have ha1 : w3.cell? ⟨wr.heap.size + 1, 0, none⟩ = some (.int .i64 0) := by rw [cell_of_row w3 _ _ _ _ _ kB3]; rfl
      have ha2 : w3.cell? ⟨wr.heap.size + 1, 1, none⟩ = some (.slice none 0 0) := by rw [cell_of_row w3 _ _ _ _ _ kB3]; rfl
      have hfa1 : w3.frozen? ⟨wr.heap.size + 1, 0, none⟩ = false := blk_frozen kB3 _
      have hfa2 : w3.frozen? ⟨wr.heap.size + 1, 1, none⟩ = false := blk_frozen kB3 _
      have HA3 := Aside0.mk (And.intro kA3 kB3)
      have HS3 := Aside0.mk (And.intro hsb hnb)
      have HB3 := Aside0.mk hbb
      have HV3 := Aside0.mk (And.intro hvb hgl)
      clear kA2 kB2 kA3 kB3 hsb hnb hbb hvb hgl hgr hgt hN2 HSa2 HK2 hvg
      obtain ⟨p2, hp2⟩ : ∃ p, p = pickOf m1 := ⟨_, rfl⟩
      obtain ⟨m2, hm2⟩ : ∃ m, m = restOf m1 := ⟨_, rfl⟩
      rw [← hp2, ← hm2] at HS3
      rw [← hp2]
      (try rw [← hm2])
      have HP2 := Aside0.mk (And.intro hp2 hm2)
      clear hp2 hm2
      go_upto_region 15 with fail
      clear ha1 ha2 hfa1 hfa2
      obtain ⟨w4, hw4⟩ : ∃ w4, w4 = (w3.setCell ⟨wr.heap.size + 1, 0, none⟩ (.int .i64 p2.1)).setCell ⟨wr.heap.size + 1, 1, none⟩ (.slice Ab p2.2.length cb) := ⟨_, rfl⟩
      have hset : ∀ k, k ≠ wr.heap.size + 1 → w4.heap[k]? = w3.heap[k]? := fun k hk => by
       rw [hw4]
       exact (Below.heap_setCell _ ⟨wr.heap.size + 1, 1, none⟩ _ k hk).trans (Below.heap_setCell _ ⟨wr.heap.size + 1, 0, none⟩ _ k hk)
      have kB4 : w4.heap[wr.heap.size + 1]? = some (.cells #[.int .i64 p2.1, .slice Ab p2.2.length cb] 133 (0, 0)) := by
       rw [hw4]
       exact node_put HA3.out.2 rfl _ _
      have kA4 := (hset wr.heap.size (by omega)).trans HA3.out.1
      have hk4 : Keeps w3 w4 := by
       rw [hw4]
       exact (Keeps.set HA3.out.2 0 _).trans (Keeps.set (blk_put HA3.out.2 0 _ rfl) 1 _)
      have hbl4 : Below wr.heap.size w3 w4 := by
       rw [hw4]
       exact Below.setCell (p := ⟨wr.heap.size + 1, 1, none⟩) (Below.setCell (p := ⟨wr.heap.size + 1, 0, none⟩) (Below.refl _ _) (Nat.le_succ _) _) (Nat.le_succ _) _
      have HN4 := Aside0.mk (HS3.out.2.keeps hk4 (fun k hk => hset k (by have h := HV3.out.1; rw [← HP2.out.2] at h; rw [h] at hk; injection hk with hk; have := HV3.out.2; omega)))
      have HB4 := Aside0.mk (show Below w.heap.size w w4 from HB3.out.trans ⟨hbl4.os, hbl4.tape, hbl4.output, hbl4.size, fun k hk => hbl4.block k (by have := HBm.out.size; omega)⟩)
      have HSa4 := Aside0.mk (HSa3.out.keeps hk4)
      have HSb4 := Aside0.mk (HS3.out.1.keeps hk4)
      have HK4 := Aside0.mk (HK3.out.trans hk4)
      have HA4 := Aside0.mk (And.intro kA4 kB4)
      have hg1 : w4.cell? ⟨wr.heap.size, 1, none⟩ = some (.slice Aa p1.2.length ca) := by rw [cell_of_row w4 _ _ _ _ _ kA4]; rfl
      have hg2 : w4.cell? ⟨wr.heap.size + 1, 1, none⟩ = some (.slice Ab p2.2.length cb) := by rw [cell_of_row w4 _ _ _ _ _ kB4]; rfl
      rw [← hw4]
      clear hw4 hset hk4 hbl4 HS3 HB3 HK3 HSa3 HA3 kA4 kB4
      go_wp2_with fail
      obtain ⟨w5, hw5⟩ : ∃ w5, w5 = w4.alloc (Obj.cells #[Value.slice Aa p1.2.length ca, Value.slice Ab p2.2.length cb] 32) := ⟨_, rfl⟩
      have hb5 : Below w4.heap.size w4 w5 := by rw [hw5]; exact (Below.refl _ _).alloc (Nat.le_refl _) _
      have kC : w5.heap[w4.heap.size]? = some (.cells #[Value.slice Aa p1.2.length ca, Value.slice Ab p2.2.length cb] 32 (0, 0)) := by
       rw [hw5]; exact Array.getElem?_push_size
      have hp1 : w5.cell? ⟨w4.heap.size, 0, none⟩ = some (.slice Aa p1.2.length ca) := by rw [cell_of_row w5 _ _ _ _ _ kC]; rfl
      have hp2 : w5.cell? ⟨w4.heap.size, 1, none⟩ = some (.slice Ab p2.2.length cb) := by rw [cell_of_row w5 _ _ _ _ _ kC]; rfl
      rw [← hw5]
      have HBth := Aside0.mk (show bothOf ms = p1.2 ++ p2.2 from by unfold bothOf; rw [← HP1.out.2, ← HP2.out.1, ← HP1.out.1])
      have HMg := Aside0.mk (merge_good HGm.out h1)
      have hra := Kd.R_reads' (HSa4.out.below hb5)
      have hrb := Kd.R_reads' (HSb4.out.below hb5)
      have hln : p1.2.length + p2.2.length ≤ 300 := by
       have h := HMg.out.2.2.1
       rw [HBth.out, List.length_append] at h
       omega
      refine (concat_two w4.heap.size Aa Ab ca cb p1.2 p2.2 w5 hp1 hp2 hra.2.2 hrb.2.2 hra.2.1 hrb.2.1 (by omega)).mono ?_
      rintro e w6 ⟨v9, rfl, h9, hb9⟩
      have hb6 : Below w4.heap.size w4 w6 := below_then hb5 hb5.size hb9
      have hs4 : wr.heap.size + 1 < w4.heap.size := by
       have h := (Array.getElem?_eq_some_iff.1 HA4.out.2).1
       exact h
      have HA6 := Aside0.mk (And.intro ((hb6.block _ (by omega)).trans HA4.out.1) ((hb6.block _ hs4).trans HA4.out.2))
      have HB6 := Aside0.mk (show Below w.heap.size w w6 from below_then HB4.out HB4.out.size hb6)
      have HN6 := Aside0.mk (HN4.out.below hb6)
      have HO6 := Aside0.mk (HOm.out.1.keeps (HK4.out.trans (Keeps.below hb6)))
      have HSz := Aside0.mk (show wB.heap.size ≤ w6.heap.size from by have := HSm.out; have := hb6.size; omega)
      rw [← HBth.out] at h9
      have H9 := Aside0.mk (show SymR w6 wB.heap.size v9 (bothOf ms) from Kd.R_lower h9 (by have := HSm.out; have := hb5.size; omega))
      clear hp1 hp2 hg1 hg2 kC hw5 hra hrb h9 hb9 hb6 hs4 hb5 HA4 HB4 HN4 HSa4 HSb4 HK4
      obtain ⟨A9, c9, e9⟩ := Kd.R_slice H9.out
      subst e9
      obtain ⟨bo, hbo⟩ : ∃ b, b = bothOf ms := ⟨_, rfl⟩
      rw [← hbo] at H9 HMg
      rw [← hbo]
      have HBo := Aside0.mk hbo
      clear hbo
      obtain ⟨LB, hLB⟩ : ∃ n, n = bo.length := ⟨_, rfl⟩
      rw [← hLB]
      have HLB := Aside0.mk hLB
      have hLB3 : LB ≤ 300 := by have := HMg.out.2.2.1; omega
      clear hLB
      go_wp2_with fail
      obtain ⟨wr0, ewr0⟩ : ∃ x, x = wr := ⟨_, rfl⟩
      subst ewr0
      obtain ⟨gk0, egk0⟩ : ∃ x, x = gk := ⟨_, rfl⟩
      subst egk0
      go_loopg [64] LB (fun kq v64 w' => ∃ j : Nat, j ≤ LB ∧ v64 = .int .i64 j ∧ Aside0 (kq + j = LB) ∧ Aside0 (SymR w' w.heap.size v1 (bump out (bo.take j))) ∧ Aside0 (NodesS w' w.heap.size wB.heap.size (.slice Aw m2.length cw) m2) ∧ Aside0 (SymR w' wB.heap.size (.slice A9 LB c9) bo) ∧ Aside0 (w'.heap[wr0.heap.size]? = some (.cells #[.int .i64 p1.1, .slice Aa p1.2.length ca] 133 (0, 0)) ∧ w'.heap[wr0.heap.size + 1]? = some (.cells #[.int .i64 p2.1, .slice Ab p2.2.length cb] 133 (0, 0))) ∧ Aside0 (Below w.heap.size w w') ∧ Aside0 (wB.heap.size ≤ w'.heap.size))
      case atStart => exact ⟨0, by omega, rfl, ⟨by omega⟩, HO6, HN6, ⟨HLB.out ▸ H9.out⟩, HA6, HB6, HSz⟩
      case round =>
       clear HO6 HN6 HA6 HB6 HSz H9
       obtain ⟨j, hj, rfl, HKj, HO7, HN7, H97, HA7, HB7, HS7⟩ := hrel
       by_cases hjl : j < LB
       ·obtain ⟨ad9, e9, hcell⟩ := Kd.at_int (Kd.R_reads' H97.out).2.2 (j : Int) (by omega) (by rw [← HLB.out]; omega)
        subst e9
        rw [Int.toNat_natCast] at hcell
        have HBt := Aside0.mk (bump_take out bo j (by rw [← HLB.out]; exact hjl))
        have hsv := HMg.out.2.2.2 (rd bo (j : Int)) (by unfold rd; rw [Int.toNat_natCast, List.getD_eq_getElem?_getD, List.getElem?_eq_getElem (by rw [← HLB.out]; exact hjl)]; exact List.getElem_mem _)
        generalize rd bo (j : Int) = sv at hcell HBt hsv
        obtain ⟨hs0, hsi⟩ := hsv
        have hol : (bump out (bo.take j)).length = i := by rw [bump_length]; exact HOm.out.2
        obtain ⟨o7, ho7⟩ : ∃ o, o = bump out (bo.take j) := ⟨_, rfl⟩
        rw [← ho7] at HO7 hol HBt
        clear ho7
        obtain ⟨go, co, ev1, hgo1, hgo2, ocs, hocs⟩ := Kd.R_form HO7.out (by rw [hol]; omega)
        rw [hol] at ev1
        have hgB := HGo.out go (by rw [ev1]; simp [Value.ownBlock])
        have HO8 := HO7.out
        rw [ev1] at HO8
        obtain ⟨hoc, hof⟩ := Kd.R_celln (0 : Int) HO8 sv hs0 hsi
        have hrd : rdOf (0 : Int) o7 sv = rd o7 sv := rfl
        rw [hrd] at hoc
        clear hrd
        have HV1' := Aside0.mk ev1
        generalize hov : rd o7 sv = ov at hoc HBt
        clear hov
        rw [ev1]
        clear ev1
        go_wp2_with fail
        rw [← HV1'.out]
        have HO9 := Aside0.mk (show SymR (wr.setCell ⟨go, sv.toNat, none⟩ (.int .i64 (wrap64 (ov + 1)))) w.heap.size v1 (bump out (bo.take (j + 1))) from by
         rw [HBt.out, HV1'.out]
         exact Kd.R_putn HO8 sv (wrap64 (ov + 1)))
        have HN9 := Aside0.mk (HN7.out.far hocs hgB sv.toNat (.int .i64 (wrap64 (ov + 1))))
        have H99 := Aside0.mk (H97.out.keep (w1 := wr.setCell ⟨go, sv.toNat, none⟩ (.int .i64 (wrap64 (ov + 1)))) (fun k _ hk _ _ => Below.heap_setCell wr ⟨go, sv.toNat, none⟩ _ k (by show k ≠ go; omega)))
        have HA9 := Aside0.mk (And.intro ((Below.heap_setCell wr ⟨go, sv.toNat, none⟩ (.int .i64 (wrap64 (ov + 1))) wr0.heap.size (Ne.symm (not_both hocs HA7.out.1))).trans HA7.out.1) ((Below.heap_setCell wr ⟨go, sv.toNat, none⟩ (.int .i64 (wrap64 (ov + 1))) (wr0.heap.size + 1) (Ne.symm (not_both hocs HA7.out.2))).trans HA7.out.2))
        have HB9 := Aside0.mk (HB7.out.setCell (p := ⟨go, sv.toNat, none⟩) hgo1 (.int .i64 (wrap64 (ov + 1))))
        go_roundg (gk - 1)
        case measure => have := HKj.out; omega
        case rel => exact ⟨j + 1, by omega, by go_num, ⟨by have := HKj.out; omega⟩, HO9, HN9, H99, HA9, HB9, ⟨by have := HS7.out; simp [World.setCell]; omega⟩⟩
       ·have hjL : j = LB := by omega
        subst hjL
        rw [List.take_of_length_le (by rw [← HLB.out]; exact Nat.le_refl _)] at HO7
        have ha1 : wr.cell? ⟨wr0.heap.size, 0, none⟩ = some (.int .i64 p1.1) := by rw [cell_of_row wr _ _ _ _ _ HA7.out.1]; rfl
        have hb1 : wr.cell? ⟨wr0.heap.size + 1, 0, none⟩ = some (.int .i64 p2.1) := by rw [cell_of_row wr _ _ _ _ _ HA7.out.2]; rfl
        obtain ⟨l, hNl, hSl⟩ := HN7.out
        have HNl := Aside0.mk hNl
        have HSl := Aside0.mk hSl
        have HLL := Aside0.mk (show l.length ≤ 300 from by
         have h := rest_good (rest_good HGm.out (by omega)).1 (by have := (rest_good HGm.out (by omega)).2.1; omega)
         rw [← HP1.out.2, ← HP2.out.2] at h
         have h2 := h.1.1
         have h3 := hSl.1
         omega)
        clear hNl hSl
        go_wp2_with ((with_reducible refine gate_builtin (b := .append) (xs := #[.tmp 75, .tmp 83]) rfl ?_); at_builtin; refine Kd.R_append (Kd.raw 2) (w0 := w) w.heap.size rfl (.tmp 75) (.tmp 83) 131 133 (.agg #[.int .i64 0, .slice none 0 0]) 32 rfl Try.underlying131 node_info rfl (by decide) (by decide) (.slice Aw m2.length cw) (nodeRows l) (nodeCells (wrap64 (p1.1 + p2.1), .slice A9 j c9)) (nodeCells (wrap64 (p1.1 + p2.1), .slice A9 j c9)) (fun _ => True) (fun _ => False) rfl rfl ⟨rfl, rfl, by intro u hu; simp [nodeCells] at hu; rcases hu with rfl | rfl <;> rfl⟩ (fun _ hk => hk.elim) (fun _ _ => trivial) HNl.out HB7.out HB7.out.size (by rw [nodeRows_length]; have := HLL.out; omega) ?_; intro v5 w7 ho hb hg hat; (have HNw := Aside0.mk (And.intro ho (And.intro hb hg))); clear ho hb hg hat)
        obtain ⟨ho, hb, hg⟩ := HNw.out
        have HN8 := Aside0.mk (NodesS.snoc (y := (wrap64 (p1.1 + p2.1), bo)) HNl.out HSl.out ho hg ⟨rfl, H97.out⟩)
        have hk8 : Keeps wr w7 := by
         refine ⟨hg.size, fun k cells hk hc => hg.block k hk (fun e => ?_)⟩
         obtain ⟨cs, h5⟩ := nodes_type HNl.out k e.symm
         exact not_both hc h5 rfl
        have HO8 := Aside0.mk (HO7.out.keeps hk8)
        have hmg : mergeOf ms = m2 ++ [(wrap64 (p1.1 + p2.1), bo)] := by
         unfold mergeOf
         rw [← HBo.out, ← HP1.out.2, ← HP2.out.2, ← HP2.out.1, ← HP1.out.1]
        obtain ⟨k', hk'⟩ : ∃ k', k = k' + 1 := ⟨k - 1, by have := HF.out.2; omega⟩
        have hF2 : onceFrom k' (mergeOf ms) (bump out bo) = onceOf l0 := by
         have h := HF.out.1
         rw [hk'] at h
         unfold onceFrom at h
         rw [if_pos h1, ← HBo.out] at h
         exact h
        go_roundg (gk0 - 1)
        case measure => have := HK.out; omega
        case rel => exact ⟨k', mergeOf ms, bump out bo, ⟨hF2, by have h := HMg.out.2.1; have := HF.out.2; omega⟩, ⟨by have h := HMg.out.2.1; have := HK.out; omega⟩, ⟨HMg.out.1⟩, ⟨HO8.out, by rw [bump_length]; exact HOm.out.2⟩, ⟨by rw [hmg]; exact HN8.out⟩, ⟨hb⟩, ⟨by have := HS7.out; have := hg.size; omega⟩⟩
     ·have hd : decide ((1 : Int) < (ms.length : Int)) = false := decide_eq_false (by omega)
      have hd2 : decide (1 < ms.length) = false := decide_eq_false h1
      go_wp2_with fail
      go_ret
      exact ⟨v1, rfl, by rw [← HF.out.1, onceFrom_end k ms out h1]; exact HOm.out.1, HBm.out⟩
/-! ### slices_Max_int_int: function 91 (by hand) -/
/-- The greatest one of a row that is not empty. -/
def maxOf (m : Int) : List Int → Int
 | [] => m
 | x :: xs => maxOf (if m < x then x else m) xs
theorem maxOf_snoc (x : Int) : ∀ (m : Int) (xs : List Int), maxOf m (xs ++ [x]) = if maxOf m xs < x then x else maxOf m xs
 | m, [] => rfl
 | m, y :: ys => maxOf_snoc x _ ys
theorem maxOf_step (x0 : Int) (xs : List Int) (i : Nat) (h1 : 1 ≤ i) (h : i < (x0 :: xs).length) : (if maxOf x0 (xs.take (i - 1)) < rd (x0 :: xs) (i : Int) then rd (x0 :: xs) (i : Int) else maxOf x0 (xs.take (i - 1))) = maxOf x0 (xs.take (i + 1 - 1)) := by
 obtain ⟨j, rfl⟩ : ∃ j, i = j + 1 := ⟨i - 1, by omega⟩
 have hlen : j < xs.length := by simp at h; exact h
 have e : rd (x0 :: xs) ((j + 1 : Nat) : Int) = xs[j] := by
  unfold rd
  rw [Int.toNat_natCast, List.getD_eq_getElem?_getD, List.getElem?_cons_succ, List.getElem?_eq_getElem hlen]; rfl
 rw [e, Nat.add_sub_cancel, Nat.add_sub_cancel, List.take_succ_eq_append_getElem hlen, maxOf_snoc]
def slices_Max_int_int.f (l0 : List Int) : Option (Int) := match l0 with
 | [] => none
 | x :: xs => some (maxOf x xs)
set_option maxHeartbeats 8000000 in
set_option maxRecDepth 100000 in
theorem slices_Max_int_int.calls (A0 : Option Addr) (c0 : Nat) (l0 : List Int) (r : Int) (w : World) (hr0 : Kd.C (Kd.int .i64) w A0 l0.length l0) (hc0 : l0.length ≤ c0) (h : slices_Max_int_int.f l0 = some r) :
  Calls Try.prog 91 #[.slice A0 l0.length c0] w fun e w' => e = .returned (.int .i64 r) ∧ Below w.heap.size w w' := by
 cases l0 with
 | nil => simp [slices_Max_int_int.f] at h
 | cons x0 xs =>
  unfold slices_Max_int_int.f at h
  injection h with h
  have HR := Aside0.mk hr0
  have HC := Aside0.mk hc0
  obtain ⟨L, hL⟩ : ∃ L, L = (x0 :: xs).length := ⟨_, rfl⟩
  have hL1 : 1 ≤ L := by rw [hL]; simp
  have hLm : L ≤ 9223372036854775807 := by rw [hL]; exact hr0.2.1
  have HL := Aside0.mk hL
  have H := Aside0.mk h
  rw [← hL]
  clear hr0 hc0 h hL
  have hlt1 : decide ((L : Int) < 1) = false := decide_eq_false (by omega)
  have hlt2 : decide (L < 1) = false := decide_eq_false (by omega)
  obtain ⟨ad, rfl, hcell0⟩ := Kd.at_int HR.out 0 (by omega) (by rw [← HL.out]; omega)
  rw [show rd (x0 :: xs) 0 = x0 from rfl, show ((0 : Int)).toNat = 0 from rfl, show ad.add 0 = ad from by unfold Addr.add; simp] at hcell0
  have hpos : (0 : Int) < (L : Int) := by omega
  go_enter Try.func91, Try.ntmps91
  go_wp2_with fail
  clear hcell0
  go_loop [3, 4] (fun v3 v4 => ∃ i : Nat, 1 ≤ i ∧ i ≤ L ∧ v3 = .int .i64 (maxOf x0 (xs.take (i - 1))) ∧ v4 = .int .i64 i) (fun _ v4 => L - (intOf v4).toNat)
  case atStart => exact ⟨1, by omega, by omega, rfl, rfl⟩
  case round =>
   obtain ⟨i, hi1, hi2, rfl, rfl⟩ := hrel
   by_cases hlt : i < L
   ·obtain ⟨ad2, e2, hcell⟩ := Kd.at_int HR.out (i : Int) (by omega) (by rw [← HL.out]; omega)
    injection e2 with e2
    subst e2
    obtain ⟨y, hy⟩ : ∃ y, y = rd (x0 :: xs) (i : Int) := ⟨_, rfl⟩
    rw [← hy, Int.toNat_natCast] at hcell
    obtain ⟨m, hm⟩ : ∃ m, m = maxOf x0 (xs.take (i - 1)) := ⟨_, rfl⟩
    rw [← hm]
    have HM := Aside0.mk (maxOf_step x0 xs i hi1 (by rw [← HL.out]; exact hlt))
    rw [← hm, ← hy] at HM
    clear hm hy
    have hmx := max2_int .i64 .i64 m y
    go_wp2_with fail
    exact ⟨⟨i + 1, by omega, by omega, by rw [HM.out], by go_num⟩, by simp [intOf]; omega⟩
   ·have hi3 : i = L := by omega
    subst hi3
    go_wp2_with fail
    go_ret
    refine ⟨?_, Below.refl _ _⟩
    rw [← H.out, List.take_of_length_le (by have := HL.out; simp at this; omega)]
    rfl

/-! ### slices_Clone_int_int: function 89 (by hand) -/
/-- What came in, in memory of its own. -/
def slices_Clone_int_int.f (l0 : List Int) : Option (List Int) := if l0.length < 17592186044416 then some l0 else none
set_option maxHeartbeats 8000000 in
set_option maxRecDepth 100000 in
theorem slices_Clone_int_int.calls (A0 : Option Addr) (c0 : Nat) (l0 : List Int) (r : List Int) (w : World) (hr0 : Kd.C (Kd.int .i64) w A0 l0.length l0) (hc0 : l0.length ≤ c0) (h : slices_Clone_int_int.f l0 = some r) :
  Calls Try.prog 89 #[.slice A0 l0.length c0] w fun e w' => ∃ v0_ : Value, e = .returned (v0_) ∧ Kd.R (Kd.int .i64) 3 w' w.heap.size (fun _ => True) v0_ r ∧ Below w.heap.size w w' := by
 unfold slices_Clone_int_int.f at h
 by_cases hlt : l0.length < 17592186044416
 ·rw [if_pos hlt] at h
  obtain rfl := Option.some.inj h
  have HR := Aside0.mk hr0
  have HL := Aside0.mk hlt
  clear hr0 hlt h
  cases A0 with
  | none =>
   have h0 : l0 = [] := by
    rcases Nat.eq_zero_or_pos l0.length with h0 | h0
    ·exact List.length_eq_zero_iff.1 h0
    ·obtain ⟨ad, e, _⟩ := HR.out.2.2 h0
     cases e
   subst h0
   have hq : ∀ W : World, (binOp .eql 32 (.slice none 0 c0) (.slice none 0 0)).run Try.prog W = .ok (.bool true) W := fun W => Lib.run_eql_slice_nil W 32 3 none _ _ _ _ Try.underlying32
   go_enter Try.func89, Try.ntmps89
   go_wp2_with fail
   go_ret
   exact ⟨_, rfl, Kd.R_nil _ _ _ _ _, Below.refl _ _⟩
  | some ad =>
   have hq : ∀ W : World, (binOp .eql 32 (.slice (some ad) l0.length c0) (.slice none 0 0)).run Try.prog W = .ok (.bool false) W := fun W => Lib.run_eql_slice_nil W 32 3 (some ad) _ _ _ _ Try.underlying32
   go_enter Try.func89, Try.ntmps89
   go_wp2_with (first
    | ((with_reducible refine gate_dst (N := 5) rfl ?_); refine Kd.R_lit (Kd.int .i64) (w0 := w) w.heap.size 3 rfl (N := 5) rfl (xs := []) (inner := []) (ok := fun _ => True) (okp := fun _ => False) ?hr ?hrep (fun _ hk => hk.elim) trivial (Below.refl _ _) (Nat.le_refl _) (by simp) ?_; (case hr => first | (go_simp; done) | (go_simp; rfl)); (case hrep => exact ⟨rfl, fun j p hj => by simp at hj⟩); intro v1 w1 ho hb hg hat; (have HO := Aside0.mk ho); (have HB := Aside0.mk hb); (have HR1 := Aside0.mk (Kd.C_below HR.out hb)); clear ho hb hg hat HR)
    | ((with_reducible refine gate_builtin (b := .append) (xs := #[.tmp 5, .tmp 6]) rfl ?_); at_builtin; refine Kd.R_append_row (Value.int .i64) 0 (w0 := w) w.heap.size rfl (.tmp 5) (.tmp 6) 32 3 (.int .i64 0) 8 rfl Try.underlying32 info3 rfl (by decide) v1 [] l0 (some ad) l0.length c0 (fun _ => True) rfl rfl (fun _ _ => trivial) HO.out HR1.out HB.out HB.out.size (by have := HL.out; simp; omega) ?_; intro v2 w2 ho2 hb2 hg2 hat2; (have HO2 := Aside0.mk ho2); (have HB2 := Aside0.mk hb2); clear ho2 hb2 hg2 hat2))
   go_ret
   exact ⟨_, rfl, HO2.out, HB2.out⟩
 ·rw [if_neg hlt] at h
  cases h

/-! ### tree_Lengths: function 64 (by hand) -/
theorem clone_calls (A0 : Option Addr) (c0 : Nat) (l0 : List Int) (w : World) (hr0 : Kd.C (Kd.int .i64) w A0 l0.length l0) (hc0 : l0.length ≤ c0) (h : l0.length < 17592186044416) :
  Calls Try.prog 89 #[.slice A0 l0.length c0] w fun e w' => ∃ v0_ : Value, e = .returned (v0_) ∧ Kd.R (Kd.int .i64) 3 w' w.heap.size (fun _ => True) v0_ l0 ∧ Below w.heap.size w w' :=
 slices_Clone_int_int.calls A0 c0 l0 l0 w hr0 hc0 (by unfold slices_Clone_int_int.f; rw [if_pos h])
theorem max_calls (A0 : Option Addr) (c0 : Nat) (x : Int) (xs : List Int) (w : World) (hr0 : Kd.C (Kd.int .i64) w A0 (x :: xs).length (x :: xs)) (hc0 : (x :: xs).length ≤ c0) :
  Calls Try.prog 91 #[.slice A0 (x :: xs).length c0] w fun e w' => e = .returned (.int .i64 (maxOf x xs)) ∧ Below w.heap.size w w' :=
 slices_Max_int_int.calls A0 c0 (x :: xs) (maxOf x xs) w hr0 hc0 rfl
/-- Each weight above 0 halved, rounded up. -/
def halved (ws : List Int) : List Int := ws.map (fun w => if 0 < w then wrap64 ((wrap64 (w + 1)).tdiv 2) else w)
def topOf : List Int → Int
 | [] => 0
 | x :: xs => maxOf x xs
def lensFrom : Nat → List Int → Int → Option (List Int)
 | 0, _, _ => none
 | k + 1, ws, lim => if (onceOf ws).length = 0 ∨ topOf (onceOf ws) ≤ lim then some (onceOf ws) else lensFrom k (halved ws) lim
def lensOf (l0 : List Int) (a1 : Int) : Option (List Int × Int) :=
 if weighs l0 = false ∨ a1 > 15 ∨ a1 < 5 ∨ (a1 < 9 ∧ pos l0 > 19) then some ([], 1) else (lensFrom 32 l0 a1).map (fun r => (r, 0))
theorem bad_iff (l0 : List Int) (a1 n : Int) (q : Bool) (hn : n = if weighs l0 then ((pos l0 : Nat) : Int) else 0) (hq : q = weighs l0) : (!q || decide (15 < a1) || decide (a1 < 5) || (decide (a1 < 9) && decide (19 < n))) = true ↔ (weighs l0 = false ∨ a1 > 15 ∨ a1 < 5 ∨ (a1 < 9 ∧ pos l0 > 19)) := by
 subst hq
 cases hw : weighs l0 with
 | false => simp
 | true =>
  rw [hw] at hn
  simp only [if_true] at hn
  subst hn
  simp only [Bool.not_true, Bool.false_or, Bool.or_eq_true, Bool.and_eq_true, decide_eq_true_eq, Bool.true_eq_false, false_or]
  omega
/-- The first j are halved. -/
def halfTo (ws : List Int) (j : Nat) : List Int := halved (ws.take j) ++ ws.drop j
theorem halfTo_length (ws : List Int) (j : Nat) : (halfTo ws j).length = ws.length := by
 unfold halfTo halved
 rw [List.length_append, List.length_map, List.length_take, List.length_drop]
 omega
theorem halfTo_at (ws : List Int) (j : Nat) (h : j < ws.length) : rd (halfTo ws j) (j : Int) = ws[j] := by
 unfold rd halfTo halved
 rw [Int.toNat_natCast, List.getD_eq_getElem?_getD, List.getElem?_append_right (by simp; omega), List.length_map, List.length_take, Nat.min_eq_left (by omega), Nat.sub_self, List.getElem?_drop, Nat.add_zero, List.getElem?_eq_getElem h]
 rfl
theorem halfTo_succ (ws : List Int) (j : Nat) (h : j < ws.length) : halfTo ws (j + 1) = (halfTo ws j).set j (if 0 < ws[j] then wrap64 ((wrap64 (ws[j] + 1)).tdiv 2) else ws[j]) := by
 unfold halfTo halved
 rw [List.take_succ_eq_append_getElem h, List.drop_eq_getElem_cons h, List.map_append, List.set_append_right _ _ (by simp; omega), List.length_map, List.length_take, Nat.min_eq_left (by omega), Nat.sub_self, List.set_cons_zero, List.append_assoc]
 rfl
theorem halfTo_all (ws : List Int) : halfTo ws ws.length = halved ws := by
 unfold halfTo
 rw [List.take_length, List.drop_length, List.append_nil]
set_option maxHeartbeats 8000000 in
set_option maxRecDepth 100000 in
theorem lengths_calls (A0 : Option Addr) (c0 : Nat) (l0 : List Int) (a1 : Int) (r1 : List Int) (r2 : Int) (w : World) (hr0 : Kd.C (Kd.int .i64) w A0 l0.length l0) (hc0 : l0.length ≤ c0) (h : lensOf l0 a1 = some (r1, r2)) :
  Calls Try.prog 64 #[.slice A0 l0.length c0, .int .i64 a1] w fun e w' => ∃ v0_ : Value, e = .returned (.tuple #[v0_, .int .i64 r2]) ∧ Kd.R (Kd.int .i64) 3 w' w.heap.size (fun _ => True) v0_ r1 ∧ Below w.heap.size w w' := by
 have HR := Aside0.mk hr0
 have HC := Aside0.mk hc0
 have H := Aside0.mk h
 obtain ⟨n, hn⟩ : ∃ n : Int, n = if weighs l0 then ((pos l0 : Nat) : Int) else 0 := ⟨_, rfl⟩
 obtain ⟨q, hq⟩ : ∃ q, q = weighs l0 := ⟨_, rfl⟩
 have HA := Aside0.mk (show tree_above.f 700 l0 = some (n, q) from by rw [above_is, hn, hq]; cases weighs l0 <;> rfl)
 have HN := Aside0.mk (And.intro hn hq)
 clear hr0 hc0 h hn hq
 go_enter Try.func64, Try.ntmps64
 go_wp2_with fail
 refine (tree_above.calls 700 _ _ l0 n q w HR.out HC.out HA.out).mono ?_
 rintro e w1 ⟨rfl, hd⟩
 have HD := Aside0.mk hd.below
 clear hd
 go_upto_region 2 with fail
 go_cut [7, 33] (fun v7 v33 wc => v7 = .bool q ∧ v33 = .bool (!q || decide (15 < a1) || decide (a1 < 5) || (decide (a1 < 9) && decide (19 < n))) ∧ wc = w1)
 case first =>
  go_wp2_with fail
  all_goals (go_meet; case rel => exact ⟨by first | rfl | simp [*], by first | (simp [*]; done) | (simp [*]; omega), rfl⟩)
 case rest =>
  obtain ⟨rfl, rfl, rfl⟩ := hcut
  by_cases hbad : (!q || decide (15 < a1) || decide (a1 < 5) || (decide (a1 < 9) && decide (19 < n))) = true
  ·rw [hbad]
   go_wp2_with fail
   go_ret2
   have h := H.out
   unfold lensOf at h
   rw [if_pos ((bad_iff l0 a1 n q HN.out.1 HN.out.2).1 hbad)] at h
   injection h with h
   injection h with h1 h2
   subst h1; subst h2
   exact ⟨_, rfl, Kd.R_nil _ _ _ _ _, HD.out⟩
  ·rw [Bool.not_eq_true] at hbad
   rw [hbad]
   have HF := Aside0.mk (show ∃ r, lensFrom 32 l0 a1 = some r ∧ r1 = r ∧ r2 = 0 ∧ weighs l0 = true from by
    have hc : ¬ (weighs l0 = false ∨ a1 > 15 ∨ a1 < 5 ∨ (a1 < 9 ∧ pos l0 > 19)) := fun hc => by
     rw [(bad_iff l0 a1 n q HN.out.1 HN.out.2).2 hc] at hbad
     cases hbad
    have h := H.out
    unfold lensOf at h
    rw [if_neg hc] at h
    obtain ⟨r, hr, he⟩ := Option.map_eq_some_iff.1 h
    injection he with h1 h2
    refine ⟨r, hr, h1.symm, h2.symm, ?_⟩
    cases hw : weighs l0 with
    | false => exact absurd (.inl hw) hc
    | true => rfl)
   clear hbad
   go_wp2_with fail
   refine (clone_calls A0 c0 l0 _ (Kd.C_below HR.out HD.out) HC.out (by obtain ⟨_, _, _, _, hw⟩ := HF.out; have := ((weighs_iff l0).1 hw).1; omega)).mono ?_
   rintro e w2 ⟨v0, rfl, ho, hb⟩
   have HO := Aside0.mk ho
   have HB := Aside0.mk (show Below w.heap.size w w2 from below_then HD.out HD.out.size hb)
   have HS := Aside0.mk (show w.heap.size ≤ wc.heap.size from HD.out.size)
   clear ho hb
   go_wp2_with fail
   obtain ⟨r, hr, rfl, rfl, hw⟩ := HF.out
   have HW := Aside0.mk ((weighs_iff l0).1 hw).1
   have HO2 := Aside0.mk (Kd.R_lower HO.out HS.out)
   have HR0 := Aside0.mk hr
   clear hr hw HF HO
   go_loopg [] 32 (fun kq w' => ∃ ws, Aside0 (lensFrom kq ws a1 = some r1) ∧ Aside0 (ws.length ≤ 300) ∧ Aside0 (Kd.R (Kd.int .i64) 3 w' w.heap.size (fun _ => True) v0 ws) ∧ Aside0 (Below w.heap.size w w'))
   case atStart => exact ⟨l0, HR0, HW, HO2, HB⟩
   case round =>
    clear HR0 HW HO2 HB
    obtain ⟨ws, HF, HL, HO, HB⟩ := hrel
    obtain ⟨k', hk'⟩ : ∃ k', gk = k' + 1 := by
     have h := HF.out
     cases gk with
     | zero => simp [lensFrom] at h
     | succ k' => exact ⟨k', rfl⟩
    have HGK := Aside0.mk hk'
    have hF := HF.out
    rw [hk'] at hF
    unfold lensFrom at hF
    have HF2 := Aside0.mk hF
    clear hk' hF HF
    obtain ⟨A, c, e⟩ := Kd.R_slice HO.out
    subst e
    go_wp2_with fail
    refine (once_calls A c ws wr (Kd.R_reads' HO.out).2.2 (Kd.R_reads' HO.out).2.1 HL.out).mono ?_
    rintro e w3 ⟨v8, rfl, h8, hb8⟩
    have H8 := Aside0.mk h8
    have HB8 := Aside0.mk hb8
    have HO3 := Aside0.mk (Kd.R_below HO.out hb8)
    have HBw3 := Aside0.mk (show Below w.heap.size w w3 from below_then HB.out HB.out.size hb8)
    obtain ⟨A8, c8, e8⟩ := Kd.R_slice h8
    subst e8
    clear h8 hb8
    obtain ⟨out, hout⟩ : ∃ o, o = onceOf ws := ⟨_, rfl⟩
    rw [← hout] at H8 HF2 ⊢
    have HOut := Aside0.mk hout
    clear hout
    cases out with
    | nil =>
     go_wp2_with fail
     go_ret2
     have h := HF2.out
     rw [if_pos (show ([] : List Int).length = 0 ∨ topOf [] ≤ a1 from Or.inl rfl)] at h
     injection h with h
     subst h
     exact ⟨_, rfl, Kd.R_lower H8.out HB.out.size, HBw3.out⟩
    | cons x xs =>
     have hne : (((x :: xs).length : Int) == 0) = false := by rw [beq_eq_false_iff_ne]; simp; omega
     have hne2 : (((xs.length : Int) + 1) == 0) = false := by rw [beq_eq_false_iff_ne]; omega
     go_wp2_with fail
     refine (max_calls A8 c8 x xs w3 (Kd.R_reads' H8.out).2.2 (Kd.R_reads' H8.out).2.1).mono ?_
     rintro e w4 ⟨rfl, hb4⟩
     have HB4 := Aside0.mk (show Below w.heap.size w w4 from below_then HBw3.out HBw3.out.size hb4)
     have HO4 := Aside0.mk (Kd.R_below HO3.out hb4)
     have H84 := Aside0.mk (Kd.R_below H8.out hb4)
     clear hb4
     obtain ⟨m, hm⟩ : ∃ m, m = maxOf x xs := ⟨_, rfl⟩
     rw [show topOf (x :: xs) = maxOf x xs from rfl, ← hm] at HF2
     rw [← hm]
     clear hm
     by_cases hle : m ≤ a1
     ·have hd : decide (m ≤ a1) = true := decide_eq_true hle
      go_wp2_with fail
      go_ret2
      have h := HF2.out
      rw [if_pos (show (x :: xs).length = 0 ∨ m ≤ a1 from Or.inr hle)] at h
      injection h with h
      subst h
      exact ⟨_, rfl, Kd.R_lower H84.out HB.out.size, HB4.out⟩
     ·have hd : decide (m ≤ a1) = false := decide_eq_false hle
      have HF3 := Aside0.mk (show lensFrom k' (halved ws) a1 = some r1 from by
       have h := HF2.out
       rw [if_neg (show ¬ ((x :: xs).length = 0 ∨ m ≤ a1) from by simp; omega)] at h
       exact h)
      clear HF2 H84 H8 HO3 HBw3
      obtain ⟨wr0, ewr0⟩ : ∃ y, y = wr := ⟨_, rfl⟩
      subst ewr0
      obtain ⟨gk0, egk0⟩ : ∃ y, y = gk := ⟨_, rfl⟩
      subst egk0
      go_wp2_with fail
      obtain ⟨L, hL⟩ : ∃ L, L = ws.length := ⟨_, rfl⟩
      rw [← hL] at HO4 HL ⊢
      have HLL := Aside0.mk hL
      clear hL
      go_loopg [50] L (fun kq v50 w' => ∃ j : Nat, j ≤ L ∧ v50 = .int .i64 j ∧ Aside0 (kq + j = L) ∧ Aside0 (Kd.R (Kd.int .i64) 3 w' w.heap.size (fun _ => True) (.slice A L c) (halfTo ws j)) ∧ Aside0 (Below w.heap.size w w'))
      case atStart => exact ⟨0, by omega, rfl, ⟨by omega⟩, HO4, HB4⟩
      case round =>
       obtain ⟨j, hj, rfl, HKj, HOj, HBj⟩ := hrel
       have hL3 : L ≤ 300 := HL.out
       by_cases hlt : j < L
       ·obtain ⟨g, cap, e, hg1, _, cells, hcs⟩ := Kd.R_form HOj.out (by rw [halfTo_length, ← HLL.out]; omega)
        injection e with e1 e2 e3
        subst e1
        have hjw : j < ws.length := by rw [← HLL.out]; exact hlt
        obtain ⟨hc1, hc2⟩ := Kd.R_celln (0 : Int) HOj.out (j : Int) (by omega) (by omega)
        have hrd : rdOf (0 : Int) (halfTo ws j) (j : Int) = rd (halfTo ws j) (j : Int) := rfl
        rw [hrd, halfTo_at ws j hjw, Int.toNat_natCast] at hc1
        rw [Int.toNat_natCast] at hc2
        have HST := Aside0.mk (halfTo_succ ws j hjw)
        have HXX := Aside0.mk (show (halfTo ws j)[j]? = some ws[j] from by
         have h := halfTo_at ws j hjw
         unfold rd at h
         rw [Int.toNat_natCast, List.getD_eq_getElem?_getD, List.getElem?_eq_getElem (by rw [halfTo_length]; exact hjw)] at h
         rw [List.getElem?_eq_getElem (by rw [halfTo_length]; exact hjw)]
         exact congrArg some h)
        generalize ws[j] = x at hc1 HST HXX
        clear hrd e2 e3 hcs
        by_cases hx : 0 < x
        ·have hd2 : decide (0 < x) = true := decide_eq_true hx
         go_wp2_with fail
         have HO5 := Aside0.mk (Kd.R_putn HOj.out (j : Int) (wrap64 ((wrap64 (x + 1)).tdiv 2)))
         rw [Int.toNat_natCast] at HO5
         go_roundg (gk - 1)
         case measure => have := HKj.out; omega
         case rel => exact ⟨j + 1, by omega, by go_num, ⟨by have := HKj.out; omega⟩, ⟨by rw [HST.out, if_pos hx]; exact HO5.out⟩, ⟨HBj.out.setCell (p := ⟨g, j, none⟩) hg1 _⟩⟩
        ·have hd2 : decide (0 < x) = false := decide_eq_false hx
         have hse : (halfTo ws j).set j x = halfTo ws j := by
          apply List.ext_getElem?
          intro k
          rw [List.getElem?_set]
          split
          ·rename_i hk
           subst hk
           rw [if_pos (by rw [halfTo_length]; exact hjw)]
           exact HXX.out.symm
          ·rfl
         go_wp2_with fail
         go_roundg (gk - 1)
         case measure => have := HKj.out; omega
         case rel => exact ⟨j + 1, by omega, by go_num, ⟨by have := HKj.out; omega⟩, ⟨by rw [HST.out, if_neg (by omega), hse]; exact HOj.out⟩, HBj⟩
       ·have hjL : j = L := by omega
        have hh : halfTo ws j = halved ws := by rw [hjL, HLL.out, halfTo_all]
        rw [hh] at HOj
        go_wp2_with fail
        have eL := HLL.out
        subst eL
        go_roundg (gk0 - 1)
        case measure => have := HGK.out; omega
        case rel => exact ⟨halved ws, ⟨by rw [HGK.out]; exact HF3.out⟩, ⟨by unfold halved; rw [List.length_map]; have := HLL.out; have := HL.out; omega⟩, HOj, HBj⟩
def tree_Lengths.f (l0 : List Int) (a1 : Int) : Option (List Int × Int) := lensOf l0 a1
set_option maxHeartbeats 8000000 in
set_option maxRecDepth 100000 in
theorem tree_Lengths.calls (A0 : Option Addr) (c0 : Nat) (l0 : List Int) (a1 : Int) (r1 : List Int) (r2 : Int) (w : World) (hr0 : Kd.C (Kd.int .i64) w A0 l0.length l0) (hc0 : l0.length ≤ c0) (h : tree_Lengths.f l0 a1 = some (r1, r2)) :
  Calls Try.prog 64 #[.slice A0 l0.length c0, .int .i64 a1] w fun e w' => ∃ v0_ : Value, e = .returned (.tuple #[v0_, .int .i64 r2]) ∧ Kd.R (Kd.int .i64) 3 w' w.heap.size (fun _ => True) v0_ r1 ∧ Below w.heap.size w w' := lengths_calls A0 c0 l0 a1 r1 r2 w hr0 hc0 h

/-! ### match_seen_add: function 58 (by hand) -/
open Go.WideMaps (ArrKey KeyLaw keyOf_pair)
open Go.ChangeMaps (setBlock heap_setBlock_same heap_setBlock_other)
open Go.MapKept (Stamped)

def key3 (x y z : Int) : Value := .agg #[.int .u8 x, .int .u8 y, .int .u8 z]
theorem laidOut3 : laidOutB Try.prog = true := by kernel_rfl
theorem arr3 : ArrKey Try.prog 109 5 3 := ⟨by kernel_rfl, by kernel_rfl, by kernel_rfl, by kernel_rfl⟩
theorem wide3 : (match Try.prog.underlying 109 with | some (.array _ _) | some (.struct _) => true | _ => false) = true := by kernel_rfl
set_option maxRecDepth 100000 in
theorem law3 : KeyLaw Try.prog 109 := deep_law_laid laidOut3 (m := 2) (by omega) (of_decide_eq_true (by kernel_rfl)) (by kernel_rfl) wide3
theorem keyOf3 {x y z : Int} (wx : (Lit.int .u8 x).wf = true) (wy : (Lit.int .u8 y).wf = true) (wz : (Lit.int .u8 z).wf = true) : keyOf Try.prog 109 (key3 x y z) = some (.string (keyBytes [.int .u8 x, .int .u8 y, .int .u8 z])) := by
 have he : Try.prog.underlying 5 = some (.int .u8) := Try.underlying5
 have hsz : ∃ m, Try.prog.types.size = m + 1 := by
  have h : 0 < Try.prog.types.size := of_decide_eq_true (by kernel_rfl)
  exact ⟨Try.prog.types.size - 1, by omega⟩
 have hkt := arr3.keyType hsz
 obtain ⟨m, hm⟩ := hsz
 unfold keyOf key3
 simp only [arr3.hu]
 rw [if_pos (by simp [hkt, Value.formed, arr3.hu, arr3.size]), hm]
 unfold Program.keyLits
 simp only [arr3.hu, Value.cells]
 rw [if_pos (by rw [arr3.size]; rfl), show List.range 3 = [0, 1, 2] from rfl, List.mapM_cons, List.mapM_cons, List.mapM_cons, List.mapM_nil]
 simp [arr3.one, Program.keyLits, he, wx, wy, wz]
theorem zero55 (u : World) : (zeroValue 32).run Try.prog u = .ok (.slice none 0 0) u := by kernel_rfl

/-- Three bytes as a key. -/
def WF3 (x y z : Int) : Prop := (Lit.int .u8 x).wf = true ∧ (Lit.int .u8 y).wf = true ∧ (Lit.int .u8 z).wf = true
theorem key3_inj {x y z x' y' z' : Int} (h : key3 x y z = key3 x' y' z') : x = x' ∧ y = y' ∧ z = z' := by
 unfold key3 at h
 simp at h
 exact h
/-- Block g is a map of at most n entries from three bytes to rows of places, each in a row of its own from base on; G tells them. -/
def Seen (W : World) (base g n : Nat) (G : Int → Int → Int → List Int) : Prop :=
 ∃ es clock, W.heap[g]? = some (.map es clock) ∧ base ≤ g ∧ Stamped es clock ∧ es.size ≤ n ∧
  (∀ e ∈ es.toList, ∃ x y z, WF3 x y z ∧ e.key = key3 x y z ∧ G x y z ≠ [] ∧ Kd.R (Kd.int .i64) 3 W base (fun _ => True) e.val (G x y z)) ∧
  (∀ e1 ∈ es.toList, ∀ e2 ∈ es.toList, e1.key ≠ e2.key → ∀ k, e1.val.ownBlock = some k → e2.val.ownBlock ≠ some k) ∧
  (∀ x y z, WF3 x y z → G x y z ≠ [] → ∃ e ∈ es.toList, e.key = key3 x y z) ∧ (∀ x y z, (G x y z).length ≤ n)
theorem row_stay {W w' : World} {base : Nat} {v : Value} {xs : List Int} (h : Kd.R (Kd.int .i64) 3 W base (fun _ => True) v xs) (hm : ∀ k, v.ownBlock = some k → w'.heap[k]? = W.heap[k]?) : Kd.R (Kd.int .i64) 3 w' base (fun _ => True) v xs :=
 Kd.R_of_own (own_move (Kd.own_of_R h) hm) (fun _ _ => trivial)
theorem row_cells {W : World} {base : Nat} {v : Value} {xs : List Int} (h : Kd.R (Kd.int .i64) 3 W base (fun _ => True) v xs) {k : Nat} (hk : v.ownBlock = some k) : ∃ cells, W.heap[k]? = some (.cells cells 3 (0, 0)) := own_typed (Kd.own_of_R h) k hk
theorem seen_made (W : World) (base : Nat) (hb : base ≤ W.heap.size) : Seen (W.alloc (.map #[] 0)) base W.heap.size 0 (fun _ _ _ => []) :=
 ⟨#[], 0, (MapKept.heap_alloc W _).1, hb, MapKept.stamped_empty 0, Nat.le_refl _, fun e he => by simp at he, fun e he => by simp at he, fun x y z _ h => absurd rfl h, fun _ _ _ => Nat.le_refl _⟩
/-- What is not of the map, nor of its rows, may turn. -/
theorem Seen.stay {W w' : World} {base g n : Nat} {G : Int → Int → Int → List Int} (h : Seen W base g n G) (hm : ∀ k, base ≤ k → k < W.heap.size → k = g ∨ (∃ cells, W.heap[k]? = some (.cells cells 3 (0, 0))) → w'.heap[k]? = W.heap[k]?) : Seen w' base g n G := by
 obtain ⟨es, clock, hg, hb, hs, hn, he, ha, hall, hlen⟩ := h
 refine ⟨es, clock, ?_, hb, hs, hn, fun e hm' => ?_, ha, hall, hlen⟩
 ·rw [hm g hb (blk_lt hg) (.inl rfl)]; exact hg
 ·obtain ⟨x, y, z, hw, hk, hne, hr⟩ := he e hm'
  exact ⟨x, y, z, hw, hk, hne, row_stay hr (fun k hk => hm k (Kd.R_base hr k hk) (Kd.R_lt hr k hk) (.inr (row_cells hr hk)))⟩
theorem Seen.below {W w' : World} {base g n : Nat} {G : Int → Int → Int → List Int} (h : Seen W base g n G) (hb : Below W.heap.size W w') : Seen w' base g n G := h.stay (fun k _ hk _ => hb.block k hk)
theorem Seen.fit {W : World} {base : Nat} {G : Int → Int → Int → List Int} {es : Array MapEntry} {clock : Nat} (hs : Stamped es clock) (hn : es.size ≤ maxLen)
  (he : ∀ e ∈ es.toList, ∃ x y z, WF3 x y z ∧ e.key = key3 x y z ∧ G x y z ≠ [] ∧ Kd.R (Kd.int .i64) 3 W base (fun _ => True) e.val (G x y z)) : Go.WideElems.Fit (H := Unit) Try.prog 109 (fun _ => some (.nil, [])) es clock :=
 ⟨hn, hs, fun e hm => by
  obtain ⟨x, y, z, hw, hk, _, _⟩ := he e hm
  exact ⟨_, by simp [Go.WideElems.rd, hk, keyOf3 hw.1 hw.2.1 hw.2.2]; rfl⟩⟩
theorem key_unique {es : Array MapEntry} {clock : Nat} (hs : Stamped es clock) {e1 e2 : MapEntry} (h1 : e1 ∈ es.toList) (h2 : e2 ∈ es.toList) (hk : e1.key = e2.key) : e1 = e2 := by
 obtain ⟨i, hi, rfl⟩ := List.mem_iff_getElem.1 h1
 obtain ⟨j, hj, rfl⟩ := List.mem_iff_getElem.1 h2
 have hkeys : (es.toList.map (·.key))[i]'(by simpa using hi) = (es.toList.map (·.key))[j]'(by simpa using hj) := by simpa using hk
 have := (List.getElem_inj hs.2.2).1 hkeys
 subst this
 rfl
theorem seen_look {W : World} {base g n : Nat} {G : Int → Int → Int → List Int} (h : Seen W base g n G) (hn : n ≤ maxLen) {x y z : Int} (hw : WF3 x y z) :
  ∃ A c, (∀ W', Below W.heap.size W W' → (Instr.lookup 87 (.map (some g)) (key3 x y z) false).run Try.prog W' = .ok (.slice A (G x y z).length c) W') ∧ (G x y z).length ≤ c ∧ Kd.C (Kd.int .i64) W A (G x y z).length (G x y z) := by
 obtain ⟨es, clock, hg, hb, hs, hsz, he, ha, hall, hlen⟩ := h
 have F := Seen.fit hs (Nat.le_trans hsz hn) he
 by_cases hx : ∃ e ∈ es.toList, e.key = key3 x y z
 ·obtain ⟨e, hm, hke⟩ := hx
  obtain ⟨x', y', z', hw', hk, hne, hr⟩ := he e hm
  rw [hke] at hk
  obtain ⟨rfl, rfl, rfl⟩ := key3_inj hk
  obtain ⟨A, c, e1, hl, hc⟩ := Kd.R_reads hr
  refine ⟨A, c, fun W' hW' => ?_, hl, hc⟩
  have hg' : W'.heap[g]? = some (.map es clock) := (hW'.block g (blk_lt hg)).trans hg
  rcases Maps.fit_look false (Maps.Keyed.of_law law3) Try.underlying87 (zero55 W') hg' F (keyOf3 hw.1 hw.2.1 hw.2.2) with ⟨hrun, hno, _⟩ | ⟨e0, y0, hm0, h3, hrun, _⟩
  ·exact absurd hke (hno e hm)
  ·obtain rfl := key_unique hs hm0 hm (h3.trans hke.symm)
   rw [e1] at hrun
   exact hrun
 ·have hG : G x y z = [] := by
   apply Classical.byContradiction
   intro hne
   exact hx (hall x y z hw hne)
  rw [hG]
  refine ⟨none, 0, fun W' hW' => ?_, Nat.le_refl _, Kd.C_nil _ _⟩
  have hg' : W'.heap[g]? = some (.map es clock) := (hW'.block g (blk_lt hg)).trans hg
  rcases Maps.fit_look false (Maps.Keyed.of_law law3) Try.underlying87 (zero55 W') hg' F (keyOf3 hw.1 hw.2.1 hw.2.2) with ⟨hrun, _⟩ | ⟨e0, y0, hm0, h3, _⟩
  ·exact hrun
  ·exact absurd ⟨e0, hm0, h3⟩ hx

def upd3 (G : Int → Int → Int → List Int) (x y z a : Int) : Int → Int → Int → List Int := fun x' y' z' => if x' = x ∧ y' = y ∧ z' = z then G x y z ++ [a] else G x' y' z'
theorem upd3_same (G : Int → Int → Int → List Int) (x y z a : Int) : upd3 G x y z a x y z = G x y z ++ [a] := by unfold upd3; rw [if_pos ⟨rfl, rfl, rfl⟩]
theorem upd3_other (G : Int → Int → Int → List Int) {x y z a x' y' z' : Int} (h : key3 x' y' z' ≠ key3 x y z) : upd3 G x y z a x' y' z' = G x' y' z' := by
 unfold upd3
 rw [if_neg]
 rintro ⟨rfl, rfl, rfl⟩
 exact h rfl
/-- 's[k] = append(s[k], a)': the entry, and the store behind the append. -/
theorem seen_entry {W Wb : World} {base g n : Nat} {G : Int → Int → Int → List Int} (h : Seen W base g n G) (hWb : Below W.heap.size W Wb) (hn : n + 1 ≤ maxLen) {x y z : Int} (hw : WF3 x y z) :
  ∃ v0 st es1 clock1, (Instr.mapEntry 87 (.map (some g)) (key3 x y z)).run Try.prog Wb = .ok (.tuple #[v0, goInt st]) (setBlock Wb g (.map es1 clock1)) ∧ Kd.R (Kd.int .i64) 3 W base (fun _ => True) v0 (G x y z) ∧
   ∀ (w2 : World) (v' : Value) (a : Int), w2.heap[g]? = some (.map es1 clock1) → (∀ k, k < W.heap.size → k ≠ g → some k ≠ v0.ownBlock → w2.heap[k]? = W.heap[k]?) → Kd.R (Kd.int .i64) 3 w2 base (fun _ => True) v' (G x y z ++ [a]) → (v'.ownBlock = v0.ownBlock ∨ ∃ b, v'.ownBlock = some b ∧ W.heap.size ≤ b) →
    ∃ es' clock', (Instr.entryStore 87 (.map (some g)) (goInt st) v').run Try.prog w2 = .ok () (setBlock w2 g (.map es' clock')) ∧ Seen (setBlock w2 g (.map es' clock')) base g (n + 1) (upd3 G x y z a) := by
 obtain ⟨es, clock, hg, hb, hs, hsz, he, ha, hall, hlen⟩ := h
 have F := Seen.fit hs (Nat.le_trans hsz (Nat.le_of_succ_le hn)) he
 have hkey := keyOf3 hw.1 hw.2.1 hw.2.2
 have hlen' : ∀ (a x' y' z' : Int), (upd3 G x y z a x' y' z').length ≤ n + 1 := by
  intro a x' y' z'
  unfold upd3
  split
  ·have := hlen x y z; simp; omega
  ·exact Nat.le_succ_of_le (hlen x' y' z')
 have hs1 := hs.1
 have hs2 := hs.2.1
 have hs3 := hs.2.2
 have hg' : Wb.heap[g]? = some (.map es clock) := (hWb.block g (blk_lt hg)).trans hg
 -- an elder row stands behind all that is done
 have stays : ∀ (w2 : World) (es' : Array MapEntry) (clock' : Nat) (es1 : Array MapEntry) (clock1 : Nat) (v0 : Value), w2.heap[g]? = some (.map es1 clock1) → (∀ k, k < W.heap.size → k ≠ g → some k ≠ v0.ownBlock → w2.heap[k]? = W.heap[k]?) → ∀ (v : Value) (xs : List Int), Kd.R (Kd.int .i64) 3 W base (fun _ => True) v xs →
   (∀ k, v.ownBlock = some k → v0.ownBlock ≠ some k) → Kd.R (Kd.int .i64) 3 (setBlock w2 g (.map es' clock')) base (fun _ => True) v xs := by
  intro w2 es' clock' es1 clock1 v0 hw2 hgr v xs hr hap
  refine row_stay hr (fun k hk => ?_)
  obtain ⟨cells, hc⟩ := row_cells hr hk
  have hkg : k ≠ g := by rintro rfl; rw [hg] at hc; cases hc
  have hlt := Kd.R_lt hr k hk
  rw [heap_setBlock_other hw2 _ hkg]
  exact hgr k hlt hkg (fun e => hap k hk e.symm)
 have newrow : ∀ (w2 : World) (es' : Array MapEntry) (clock' : Nat) (es1 : Array MapEntry) (clock1 : Nat) (v' : Value) (xs : List Int), w2.heap[g]? = some (.map es1 clock1) → Kd.R (Kd.int .i64) 3 w2 base (fun _ => True) v' xs → Kd.R (Kd.int .i64) 3 (setBlock w2 g (.map es' clock')) base (fun _ => True) v' xs := by
  intro w2 es' clock' es1 clock1 v' xs hw2 hr
  refine row_stay hr (fun k hk => ?_)
  obtain ⟨cells, hc⟩ := row_cells hr hk
  have hkg : k ≠ g := by rintro rfl; rw [hw2] at hc; cases hc
  exact heap_setBlock_other hw2 _ hkg
 rcases law3.find Wb hkey es.toList F.keys with ⟨h1, h2⟩ | ⟨j, e0, h1, h2, h3⟩
 ·have hG : G x y z = [] := by
   apply Classical.byContradiction
   intro hne
   obtain ⟨e, hm, hk⟩ := hall x y z hw hne
   exact h2 e hm hk
  refine ⟨.slice none 0 0, clock, es.push ⟨key3 x y z, .slice none 0 0, clock⟩, clock + 1, ?_, by rw [hG]; exact Kd.R_nil _ _ _ _ _, ?_⟩
  ·simp [Instr.mapEntry, run_underlying Try.underlying87, MapKept.run_getObj_map hg', law3.check Wb false hkey, h1, zero55, MapKept.run_setObj_map _ hg', Result.andThen, setBlock]
  ·intro w2 v' a hw2 hgr hr' hloc
   rw [hG, List.nil_append] at hr'
   refine ⟨es.push ⟨key3 x y z, v', clock⟩, clock + 1, ?_, ?_⟩
   ·have hidx : (es.push ⟨key3 x y z, .slice none 0 0, clock⟩).findIdx? (fun e => ((e.born : Nat) : Int) == ((clock : Nat) : Int)) = some es.size := by
     rw [Go.WideElems.findIdx_arr]
     exact Go.WideElems.findIdx_born (l := (es.push ⟨key3 x y z, .slice none 0 0, clock⟩).toList) (j := es.size) (e0 := ⟨key3 x y z, .slice none 0 0, clock⟩) (by
      simp only [Array.toList_push, List.map_append, List.map_cons, List.map_nil]
      refine List.nodup_append.2 ⟨hs2, by simp, fun a ha c hc e1 => ?_⟩
      simp only [List.mem_singleton] at hc
      obtain ⟨x, hx, rfl⟩ := List.mem_map.1 ha
      have := hs1 x hx
      omega) (by simp)
    have hmod : (es.push ⟨key3 x y z, .slice none 0 0, clock⟩).modify es.size (fun e => { e with val := v' }) = es.push ⟨key3 x y z, v', clock⟩ := by
     apply Array.ext'
     rw [Array.toList_modify, Array.toList_push, Array.toList_push, ← Array.length_toList, Go.WideElems.modify_last]
    simp [Instr.entryStore, MapKept.run_getObj_map hw2, asInt, asIntOf, goInt, hidx, hmod, MapKept.run_setObj_map _ hw2, Result.andThen, setBlock]
   ·have fresh : ∀ e ∈ es.toList, ∀ k, e.val.ownBlock = some k → v'.ownBlock ≠ some k := by
     intro e hm k hk hk'
     obtain ⟨x', y', z', _, _, _, hr⟩ := he e hm
     have := Kd.R_lt hr k hk
     rcases hloc with hl | ⟨b, hl, hle⟩
     ·rw [hl] at hk'; simp [Value.ownBlock] at hk'
     ·rw [hl] at hk'; injection hk' with hk'; omega
    refine ⟨es.push ⟨key3 x y z, v', clock⟩, clock + 1, heap_setBlock_same hw2 _, hb, MapKept.stamped_push hs h2, by simp; omega, ?_, ?_, ?_, hlen' a⟩
    ·intro e hm
     simp only [Array.toList_push, List.mem_append, List.mem_singleton] at hm
     rcases hm with hm | rfl
     ·obtain ⟨x', y', z', hw', hk, hne, hr⟩ := he e hm
      have hkn : key3 x' y' z' ≠ key3 x y z := by rw [← hk]; exact h2 e hm
      refine ⟨x', y', z', hw', hk, by rw [upd3_other G hkn]; exact hne, ?_⟩
      rw [upd3_other G hkn]
      exact stays w2 _ _ _ _ _ hw2 hgr _ _ hr (fun k _ => by simp [Value.ownBlock])
     ·exact ⟨x, y, z, hw, rfl, by rw [upd3_same]; simp, by rw [upd3_same, hG, List.nil_append]; exact newrow w2 _ _ _ _ _ _ hw2 hr'⟩
    ·intro e1 hm1 e2 hm2 hne k hk
     simp only [Array.toList_push, List.mem_append, List.mem_singleton] at hm1 hm2
     rcases hm1 with hm1 | rfl <;> rcases hm2 with hm2 | rfl
     ·exact ha e1 hm1 e2 hm2 hne k hk
     ·exact fresh e1 hm1 k hk
     ·exact fun hk2 => fresh e2 hm2 k hk2 hk
     ·exact absurd rfl hne
    ·intro x' y' z' hw' hne
     by_cases hk : key3 x' y' z' = key3 x y z
     ·exact ⟨⟨key3 x y z, v', clock⟩, by simp, hk.symm⟩
     ·rw [upd3_other G hk] at hne
      obtain ⟨e, hm, hk2⟩ := hall x' y' z' hw' hne
      exact ⟨e, by simp [Array.mem_toList_iff.1 hm], hk2⟩
 ·have hj : es[j]? = some e0 := by simpa using h2
  have hm0 : e0 ∈ es.toList := List.mem_of_getElem? h2
  obtain ⟨x', y', z', hw', hk0, hne0, hr0⟩ := he e0 hm0
  rw [h3] at hk0
  obtain ⟨rfl, rfl, rfl⟩ := key3_inj hk0
  have hsame : es.modify j (fun e => { e with key := key3 x y z }) = es := by
   apply Array.ext'
   rw [Array.toList_modify, Go.ChangeMaps.modify_eq_set _ _ _ _ h2]
   have : ({ e0 with key := key3 x y z } : MapEntry) = e0 := by rw [← h3]
   rw [this]
   exact Go.WideElems.set_self _ _ _ h2
  refine ⟨e0.val, e0.born, es, clock, ?_, hr0, ?_⟩
  ·simp [Instr.mapEntry, run_underlying Try.underlying87, MapKept.run_getObj_map hg', law3.check Wb false hkey, h1, hj, h3, law3.stays Wb hkey, hsame, MapKept.run_setObj_map _ hg', Result.andThen, setBlock]
  ·intro w2 v' a hw2 hgr hr' hloc
   have hidx : es.findIdx? (fun e => ((e.born : Nat) : Int) == ((e0.born : Nat) : Int)) = some j := by
    rw [Go.WideElems.findIdx_arr]
    exact Go.WideElems.findIdx_born hs2 h2
   have hset : (es.modify j (fun e => { e with val := v' })).toList = es.toList.set j { e0 with val := v' } := by
    rw [Array.toList_modify, Go.ChangeMaps.modify_eq_set _ _ _ _ h2]
   refine ⟨es.modify j (fun e => { e with val := v' }), clock, ?_, ?_⟩
   ·simp [Instr.entryStore, MapKept.run_getObj_map hw2, asInt, asIntOf, goInt, hidx, MapKept.run_setObj_map _ hw2, Result.andThen, setBlock]
   ·have hjl : j < es.toList.length := (List.getElem?_eq_some_iff.1 h2).1
    have hej : es.toList[j] = e0 := (List.getElem?_eq_some_iff.1 h2).2
    -- who is in the row of entries now
    have who : ∀ e ∈ es.toList.set j { e0 with val := v' }, (e ∈ es.toList ∧ e.key ≠ key3 x y z) ∨ e = { e0 with val := v' } := by
     intro e hm
     obtain ⟨i, hi, rfl⟩ := List.mem_iff_getElem.1 hm
     rw [List.length_set] at hi
     rw [List.getElem_set]
     by_cases hij : j = i
     ·rw [if_pos hij]; exact .inr rfl
     ·rw [if_neg hij]
      refine .inl ⟨List.getElem_mem hi, fun hk => hij ?_⟩
      have hkeys : (es.toList.map (·.key))[i]'(by simpa using hi) = (es.toList.map (·.key))[j]'(by simpa using hjl) := by simpa [hej, h3] using hk
      exact ((List.getElem_inj hs3).1 hkeys).symm
    have fresh : ∀ e ∈ es.toList, e.key ≠ key3 x y z → ∀ k, e.val.ownBlock = some k → v'.ownBlock ≠ some k := by
     intro e hm hk0 k hk hk'
     obtain ⟨x', y', z', _, _, _, hr⟩ := he e hm
     have := Kd.R_lt hr k hk
     rcases hloc with hl | ⟨b, hl, hle⟩
     ·rw [hl] at hk'; exact ha e hm e0 hm0 (by rw [h3]; exact hk0) k hk hk'
     ·rw [hl] at hk'; injection hk' with hk'; omega
    refine ⟨es.modify j (fun e => { e with val := v' }), clock, heap_setBlock_same hw2 _, hb, ?_, by simp; omega, ?_, ?_, ?_, hlen' a⟩
    ·refine ⟨fun e hm => ?_, ?_, ?_⟩
     ·rw [hset] at hm
      rcases who e hm with ⟨hm, _⟩ | rfl
      ·exact hs1 e hm
      ·exact hs1 e0 hm0
     ·rw [hset, List.map_set, show ({ e0 with val := v' } : MapEntry).born = (es.toList.map (·.born))[j]'(by simpa using hjl) from by simp [hej], List.set_getElem_self]; exact hs2
     ·rw [hset, List.map_set, show ({ e0 with val := v' } : MapEntry).key = (es.toList.map (·.key))[j]'(by simpa using hjl) from by simp [hej], List.set_getElem_self]; exact hs3
    ·intro e hm
     rw [hset] at hm
     rcases who e hm with ⟨hm, hkn⟩ | rfl
     ·obtain ⟨x', y', z', hw', hk, hne, hr⟩ := he e hm
      rw [hk] at hkn
      refine ⟨x', y', z', hw', hk, by rw [upd3_other G hkn]; exact hne, ?_⟩
      rw [upd3_other G hkn]
      exact stays w2 _ _ _ _ _ hw2 hgr _ _ hr (fun k hk' hk2 => ha e hm e0 hm0 (by rw [hk, h3]; exact hkn) k hk' hk2)
     ·exact ⟨x, y, z, hw, h3, by rw [upd3_same]; simp, by rw [upd3_same]; exact newrow w2 _ _ _ _ _ _ hw2 hr'⟩
    ·intro e1 hm1 e2 hm2 hne k hk
     rw [hset] at hm1 hm2
     rcases who e1 hm1 with ⟨hm1, hk1⟩ | rfl <;> rcases who e2 hm2 with ⟨hm2, hk2⟩ | rfl
     ·exact ha e1 hm1 e2 hm2 hne k hk
     ·exact fresh e1 hm1 hk1 k hk
     ·exact fun hk' => fresh e2 hm2 hk2 k hk' hk
     ·exact absurd rfl hne
    ·intro x' y' z' hw' hne
     rw [hset]
     by_cases hk : key3 x' y' z' = key3 x y z
     ·exact ⟨{ e0 with val := v' }, List.mem_iff_getElem.2 ⟨j, by simpa using hjl, by simp⟩, by rw [hk]; exact h3⟩
     ·rw [upd3_other G hk] at hne
      obtain ⟨e, hm, hk2⟩ := hall x' y' z' hw' hne
      obtain ⟨i, hi, rfl⟩ := List.mem_iff_getElem.1 hm
      refine ⟨es.toList[i], List.mem_iff_getElem.2 ⟨i, by simpa using hi, ?_⟩, hk2⟩
      rw [List.getElem_set, if_neg]
      rintro rfl
      exact hk (by rw [← hk2, hej, h3])
open Go.ChangeMaps (setBlock heap_setBlock_same heap_setBlock_other)

theorem setBlock_alloc (w : World) (g : Nat) (m o : Obj) (h : g < w.heap.size) : setBlock (w.alloc o) g m = (setBlock w g m).alloc o := by
 show ({ w with heap := (w.heap.push o).setIfInBounds g m } : World) = { w with heap := (w.heap.setIfInBounds g m).push o }
 congr 1
 apply Array.ext'
 simp [List.set_append_left, h]
theorem setBlock_size (w : World) (g : Nat) (m : Obj) : (setBlock w g m).heap.size = w.heap.size := by
 show (w.heap.setIfInBounds g m).size = _
 simp
theorem below_setBlock {B : Nat} {w0 w : World} (h : Below B w0 w) {g : Nat} (hg : B ≤ g) {m : Obj} : Below B w0 (setBlock w g m) :=
 h.trans ⟨rfl, rfl, rfl, by rw [setBlock_size]; exact Nat.le_refl _, fun k hk => by
  show (w.heap.setIfInBounds g m)[k]? = _
  rw [Array.getElem?_setIfInBounds, if_neg (by omega)]⟩
theorem row_setBlock {W : World} {base g : Nat} {es : Array MapEntry} {clock : Nat} {m : Obj} {v : Value} {xs : List Int} (hg : W.heap[g]? = some (.map es clock)) (h : Kd.R (Kd.int .i64) 3 W base (fun _ => True) v xs) : Kd.R (Kd.int .i64) 3 (setBlock W g m) base (fun _ => True) v xs := by
 refine row_stay h (fun k hk => ?_)
 obtain ⟨cells, hc⟩ := row_cells h hk
 exact heap_setBlock_other hg _ (by rintro rfl; rw [hg] at hc; cases hc)
/-- The three bytes of a place, written down. -/
def addAt (G : Int → Int → Int → List Int) (l : List Int) (i : Nat) : Int → Int → Int → List Int := if l.length < i + 3 then G else upd3 G (l.getD i 0) (l.getD (i + 1) 0) (l.getD (i + 2) 0) (i : Int)
/-- What is neither the map nor a row of whole numbers stays. -/
def KeptT (w w' : World) (g : Nat) : Prop := w.heap.size ≤ w'.heap.size ∧ ∀ k, k < w.heap.size → k ≠ g → (∀ cs, w.heap[k]? ≠ some (.cells cs 3 (0, 0))) → w'.heap[k]? = w.heap[k]?
set_option maxHeartbeats 8000000 in
set_option maxRecDepth 100000 in
theorem seen_add (g n : Nat) (G : Int → Int → Int → List Int) (A0 : Option Addr) (c0 : Nat) (l0 : List Int) (i : Nat) (w0 w : World) (hB : Below w0.heap.size w0 w) (hS : Seen w w0.heap.size g n G)
  (hr0 : Kd.C (Kd.int .u8) w A0 l0.length l0) (hc0 : l0.length ≤ c0) (hw : ∀ x ∈ l0, (Lit.int .u8 x).wf = true) (hn : n + 1 ≤ 1000000) (hi : i < l0.length) (hl : l0.length ≤ 1000000) :
  Calls Try.prog 58 #[.map (some g), .slice A0 l0.length c0, .int .i64 i] w fun e w' => e = .returned (.tuple #[]) ∧ Seen w' w0.heap.size g (n + 1) (addAt G l0 i) ∧ Below w0.heap.size w0 w' ∧ KeptT w w' g := by
 have HS := Aside0.mk hS
 have HR := Aside0.mk hr0
 have HW := Aside0.mk hw
 have HB := Aside0.mk hB
 clear hS hr0 hw hB
 by_cases h3 : l0.length < i + 3
 ·go_enter Try.func58, Try.ntmps58
  go_wp2_with fail
  refine bodyPost_ret (results_none rfl _ _ _) rfl ?_
  refine ⟨rfl, ?_, HB.out, Nat.le_refl _, fun _ _ _ _ => rfl⟩
  unfold addAt
  rw [if_pos h3]
  obtain ⟨es, clock, hg, hb, hs, hsz, he, ha, hall, hlen⟩ := HS.out
  exact ⟨es, clock, hg, hb, hs, Nat.le_succ_of_le hsz, he, ha, hall, fun x y z => Nat.le_succ_of_le (hlen x y z)⟩
 ·obtain ⟨ad, e0, hx0⟩ := Kd.at_int HR.out (i : Int) (by omega) (by omega)
  obtain ⟨ad1, e1, hx1⟩ := Kd.at_int HR.out ((i : Int) + 1) (by omega) (by omega)
  obtain ⟨ad2, e2, hx2⟩ := Kd.at_int HR.out ((i : Int) + 2) (by omega) (by omega)
  subst e0
  injection e1 with e1
  injection e2 with e2
  subst e1 e2
  obtain ⟨j1, hj1⟩ : ∃ j : Nat, j = i + 1 := ⟨_, rfl⟩
  obtain ⟨j2, hj2⟩ : ∃ j : Nat, j = i + 2 := ⟨_, rfl⟩
  rw [Int.toNat_natCast] at hx0
  rw [show (i : Int) + 1 = (j1 : Int) from by omega, Int.toNat_natCast] at hx1
  rw [show (i : Int) + 2 = (j2 : Int) from by omega, Int.toNat_natCast] at hx2
  obtain ⟨x, ex⟩ : ∃ x, x = rd l0 (i : Int) := ⟨_, rfl⟩
  obtain ⟨y, ey⟩ : ∃ x, x = rd l0 (j1 : Int) := ⟨_, rfl⟩
  obtain ⟨z, ez⟩ : ∃ x, x = rd l0 (j2 : Int) := ⟨_, rfl⟩
  rw [← ex] at hx0
  rw [← ey] at hx1
  rw [← ez] at hx2
  have EX := Aside0.mk (And.intro ex (And.intro ey (And.intro ez (And.intro hj1 hj2))))
  clear ex ey ez
  have hb := below_alloc (Below.refl w.heap.size w) (.cells #[.int .u8 0, .int .u8 0, .int .u8 0] 109 (0, 0))
  have hxa0 := pw_cell_below hb hx0
  have hxa1 := pw_cell_below hb hx1
  have hxa2 := pw_cell_below hb hx2
  clear hb
  have f1 : IntKind.i64.wrap ((i : Int) + 1) = (j1 : Int) := by rw [IntWalk.i64_in _ (by omega)]; omega
  have f2 : IntKind.i64.wrap ((i : Int) + 2) = (j2 : Int) := by rw [IntWalk.i64_in _ (by omega)]; omega
  have f7 : (j1 : Int) < (l0.length : Int) := by omega
  have f8 : (j2 : Int) < (l0.length : Int) := by omega
  clear hj1 hj2
  go_enter Try.func58, Try.ntmps58
  go_wp2_with fail
  go_region_held3 (fun w' => w'.cell? (ad.add i) = some (.int .u8 x) ∧ w'.cell? (ad.add j1) = some (.int .u8 y) ∧ w'.cell? (ad.add j2) = some (.int .u8 z)) (first | exact ⟨hx0, hx1, hx2⟩ | exact ⟨hxa0, hxa1, hxa2⟩ | go_keep) (first | fail)
  obtain ⟨w1, hw1⟩ : ∃ w1, w1 = (w.alloc (.cells #[.int .u8 x, .int .u8 y, .int .u8 z] 109 (0, 0))).drew := ⟨_, rfl⟩
  have hb1 : Below w.heap.size w w1 := by rw [hw1]; exact (below_alloc (Below.refl _ _) _).drew
  have hk0 : w1.heap[w.heap.size]? = some (.cells #[.int .u8 x, .int .u8 y, .int .u8 z] 109 (0, 0)) := by rw [hw1]; exact blk_new w _
  have hsz1 : w1.heap.size = w.heap.size + 1 := by rw [hw1]; simp
  have hS1 := HS.out.below hb1
  have hwf := HW.out
  obtain ⟨ex, ey, ez, ej1, ej2⟩ := EX.out
  have hWF : WF3 x y z := by
   rw [ex, ey, ez]
   unfold rd
   rw [Int.toNat_natCast, Int.toNat_natCast, Int.toNat_natCast]
   refine ⟨hwf _ ?_, hwf _ ?_, hwf _ ?_⟩ <;> (rw [List.getD_eq_getElem?_getD, List.getElem?_eq_getElem (by omega)]; exact List.getElem_mem _)
  obtain ⟨v0, st, es1, clock1, hrunE, hr0, hback⟩ := seen_entry hS1 (Wb := w1.alloc (.cells #[.int .i64 (i : Int)] 3 (0, 0))) (below_alloc (Below.refl _ _) _) (by unfold maxLen; omega) hWF
  obtain ⟨es0, clock0, hg1, hbg, _, _, _, _, _, hlen⟩ := hS1
  have hglt := blk_lt hg1
  have hsw : setBlock (w1.alloc (.cells #[.int .i64 (i : Int)] 3 (0, 0))) g (.map es1 clock1) = (setBlock w1 g (.map es1 clock1)).alloc (.cells #[.int .i64 (i : Int)] 3 (0, 0)) := setBlock_alloc w1 g _ _ hglt
  have HX := Aside0.mk (And.intro hb1 (And.intro hr0 (And.intro hback (And.intro hg1 (And.intro hbg (And.intro (hlen x y z) (And.intro hglt (And.intro hsz1 hsw))))))))
  have hcx0 : w1.cell? ⟨w.heap.size, 0, none⟩ = some (.int .u8 x) := (blk_cell hk0 0).trans rfl
  have hcx1 : w1.cell? ⟨w.heap.size, 1, none⟩ = some (.int .u8 y) := (blk_cell hk0 1).trans rfl
  have hcx2 : w1.cell? ⟨w.heap.size, 2, none⟩ = some (.int .u8 z) := (blk_cell hk0 2).trans rfl
  rw [← hw1]
  unfold key3 at hrunE
  have hu57 := Try.underlying109
  clear hb1 hk0 hr0 hback hg1 hbg hlen hsz1 hsw hwf ex ey ez ej1 ej2 hWF hw1 f1 f2 f7 f8 hx0 hx1 hx2 hxa0 hxa1 hxa2
  go_wp2_with (at_builtin; go_must (rw [HX.out.2.2.2.2.2.2.2.2]; refine Kd.R_append (Kd.int .i64) (w0 := w0) w0.heap.size rfl (.tmp 29) (.tmp 31) 32 3 (.int .i64 0) 8 rfl Try.underlying32 info3 rfl (by decide) (by omega) v0 (G x y z) (i : Int) [.int .i64 (i : Int)] (fun _ => True) (fun _ => False) rfl (by rw [setBlock_size]; rfl) rfl (fun _ hk => hk.elim) (fun _ _ => trivial) (row_setBlock HX.out.2.2.2.1 HX.out.2.1) (below_setBlock (HB.out.trans (HX.out.1.mono HB.out.size)) HX.out.2.2.2.2.1) (by rw [setBlock_size]; exact Nat.le_trans HB.out.size HX.out.1.size) (by have := HX.out.2.2.2.2.2.1; omega) ?_; intro v1 w2 ho hb2 hg hat; (have hgr : ∀ k, k < w1.heap.size → k ≠ g → some k ≠ v0.ownBlock → w2.heap[k]? = w1.heap[k]? := fun k hk hkg hkv => (hg.block k (by rw [setBlock_size]; exact hk) hkv).trans (heap_setBlock_other HX.out.2.2.2.1 _ hkg)); (have hw2 : w2.heap[g]? = some (.map es1 clock1) := (hg.block g (by rw [setBlock_size]; exact HX.out.2.2.2.2.2.2.1) (fun e => by obtain ⟨cs, hc⟩ := row_cells HX.out.2.1 e.symm; rw [HX.out.2.2.2.1] at hc; cases hc)).trans (heap_setBlock_same HX.out.2.2.2.1 _)); (obtain ⟨es', clock', hrunS, hSeen⟩ := HX.out.2.2.1 w2 v1 (i : Int) hw2 hgr ho (by rw [setBlock_size] at hat; exact hat)); (have HY := Aside0.mk (And.intro hb2 (And.intro hgr (And.intro hw2 (And.intro hSeen (by have h_ := hg.size; rw [setBlock_size] at h_; exact h_ : w1.heap.size ≤ w2.heap.size))))));  (unfold goInt at hrunS); clear ho hb2 hg hat hgr hw2 hSeen hrunE))
  go_end0
  obtain ⟨hb1, hr0, _, hg1, hbg, _, hglt, hsz1, _⟩ := HX.out
  obtain ⟨hb2, hgr, hw2, hSeen, hsz2⟩ := HY.out
  have hlt2 : g < w2.heap.size := blk_lt hw2
  refine ⟨rfl, ?_, below_setBlock hb2 hbg, ?_, fun k hk hkg hkt => ?_⟩
  ·unfold addAt
   rw [if_neg h3]
   obtain ⟨ex, ey, ez, ej1, ej2⟩ := EX.out
   rw [ex, ey, ez] at hSeen
   unfold rd at hSeen
   rw [Int.toNat_natCast, Int.toNat_natCast, Int.toNat_natCast, ej1, ej2] at hSeen
   exact hSeen
  ·rw [setBlock_size]; omega
  ·have e1 : w1.heap[k]? = w.heap[k]? := hb1.block k hk
   rw [heap_setBlock_other hw2 _ hkg, hgr k (by omega) hkg ?_, e1]
   intro e
   obtain ⟨cs, hc⟩ := row_cells hr0 e.symm
   exact hkt cs (e1 ▸ hc)

/-! ### match_common: function 85 -/
def match_common.l0 : Nat → List Int → Int → Int → Int → Option (Int)
 | 0, _, _, _, _ => none
 | k + 1, x0, x1, x2, x7 => if x7 < 258 then (if (wrap64 (x2 + x7)) < (x0.length : Int) then (if 0 ≤ (wrap64 (x1 + x7)) then (if (wrap64 (x1 + x7)) < (x0.length : Int) then (if 0 ≤ (wrap64 (x2 + x7)) then (if (rd x0 (wrap64 (x1 + x7))) = (rd x0 (wrap64 (x2 + x7))) then (match_common.l0 k x0 x1 x2 (wrap64 (x7 + 1))) else (some x7)) else (none)) else (none)) else (none)) else (some x7)) else (some x7)
def match_common.f (k : Nat) (l0 : List Int) (a1 : Int) (a2 : Int) : Option (Int) := match_common.l0 k l0 a1 a2 0
set_option maxHeartbeats 8000000 in
set_option maxRecDepth 100000 in
theorem match_common.calls (k : Nat) (A0 : Option Addr) (c0 : Nat) (l0 : List Int) (a1 : Int) (a2 : Int) (r : Int) (w : World) (hr0 : Kd.C (Kd.int .u8) w A0 l0.length l0) (hc0 : l0.length ≤ c0) (h : match_common.f k l0 a1 a2 = some r) :
  Calls Try.prog 85 #[.slice A0 l0.length c0, .int .i64 a1, .int .i64 a2] w fun e w' => e = .returned (.int .i64 r) ∧ Drawn0 w w' := by
 have HR0 := Aside0.mk hr0
 have HC0 := Aside0.mk hc0
 clear hr0 hc0
 have H : (match_common.l0 k l0 a1 a2 0) = some r := h
 clear h
 have H' := Aside0.mk H
 clear H
 go_enter Try.func85, Try.ntmps85
 go_wp2
 repeat (go_quiet (fail); try go_wp2)
 go_loopg [7] k (fun kq v7 w' => ∃ (x7_1 : Int), v7 = .int .i64 x7_1 ∧ Aside0 (match_common.l0 kq l0 a1 a2 x7_1 = some r) ∧ Aside0 (kq ≤ k) ∧ Drawn0 w w')
 case atStart => exact ⟨(0), (by first | rfl | (simp; done) | (simp [*]; done)), H', ⟨Nat.le_refl _⟩, by repeat (first | exact Drawn0.refl _ | apply Drawn0.step)⟩
 case round =>
  clear H'
  try clear p2
  obtain ⟨x7_1, rfl, HA, HK1, ⟨m1, rfl⟩⟩ := hrel
  cases gk with
  | zero => exact absurd HA.out (by simp [match_common.l0])
  | succ k1 =>
   have H := HA.out
   clear HA
   simp only [match_common.l0] at H
   by_cases c4 : x7_1 < 258
   ·rw [if_pos c4] at H
    have c4b0 : decide (x7_1 < 258) = true := decide_eq_true c4
    clear c4
    by_cases c5 : (wrap64 (a2 + x7_1)) < (l0.length : Int)
    ·rw [if_pos c5] at H
     have c5b0 : decide ((wrap64 (a2 + x7_1)) < (l0.length : Int)) = true := decide_eq_true c5
     clear c5
     obtain ⟨ji6, hji6⟩ : ∃ j_ : Int, (wrap64 (a1 + x7_1)) = j_ := ⟨_, rfl⟩
     replace H : (if 0 ≤ (ji6) then (if (ji6) < (l0.length : Int) then (if 0 ≤ (wrap64 (a2 + x7_1)) then (if (rd l0 (ji6)) = (rd l0 (wrap64 (a2 + x7_1))) then (match_common.l0 k1 l0 a1 a2 (wrap64 (x7_1 + 1))) else (some x7_1)) else (none)) else (none)) else (none)) = some r := by first | (rw [hji6] at H; exact H) | (simp only [hji6] at H ⊢; exact H)
     have hji6w : (IntKind.i64.wrap (a1 + x7_1)) = ji6 := (i64_w _).trans hji6
     by_cases c7 : 0 ≤ (ji6)
     ·rw [if_pos c7] at H
      have c7b0 : decide (0 ≤ (ji6)) = true := decide_eq_true c7
      clear c7
      by_cases c8 : (ji6) < (l0.length : Int)
      ·rw [if_pos c8] at H
       have c8b0 : decide ((ji6) < (l0.length : Int)) = true := decide_eq_true c8
       clear c8
       obtain ⟨ji9, hji9⟩ : ∃ j_ : Int, (wrap64 (a2 + x7_1)) = j_ := ⟨_, rfl⟩
       replace H : (if 0 ≤ (ji9) then (if (rd l0 (ji6)) = (rd l0 (ji9)) then (match_common.l0 k1 l0 a1 a2 (wrap64 (x7_1 + 1))) else (some x7_1)) else (none)) = some r := by first | (rw [hji9] at H; exact H) | (simp only [hji9] at H ⊢; exact H)
       (try rw [hji9] at c5b0)
       have hji9w : (IntKind.i64.wrap (a2 + x7_1)) = ji9 := (i64_w _).trans hji9
       by_cases c10 : 0 ≤ (ji9)
       ·rw [if_pos c10] at H
        have c10b0 : decide (0 ≤ (ji9)) = true := decide_eq_true c10
        clear c10
        by_cases c11 : (rd l0 (ji6)) = (rd l0 (ji9))
        ·rw [if_pos c11] at H
         have c11b0 : ((rd l0 (ji6)) == (rd l0 (ji9))) = true := beq_iff_eq.mpr c11
         have c11b1 : ((rd l0 (ji6)) != (rd l0 (ji9))) = false := bne_eq_false_iff_eq.mpr c11
         clear c11
         have H' := Aside0.mk H
         clear H
         have p101 : 0 ≤ ((ji6) : Int) := of_decide_eq_true (by first | (with_reducible assumption) | assumption)
         have q101 : (ji6) < (l0.length : Int) := of_decide_eq_true (by first | (with_reducible assumption) | assumption)
         obtain ⟨ad101, e101, hx101_0⟩ := Kd.at_int HR0.out (ji6) p101 q101
         cases e101
         replace p101 := eq_true p101
         replace q101 := eq_true q101
         have p102 : 0 ≤ ((ji9) : Int) := of_decide_eq_true (by first | (with_reducible assumption) | assumption)
         have q102 : (ji9) < (l0.length : Int) := of_decide_eq_true (by first | (with_reducible assumption) | assumption)
         obtain ⟨ad102, e102, hx102_0⟩ := Kd.at_int HR0.out (ji9) p102 q102
         obtain rfl : ad101 = ad102 := (by injection e102)
         replace p102 := eq_true p102
         replace q102 := eq_true q102
         go_wp2
         repeat (go_quiet (fail); try go_wp2)
         go_roundg k1
         case measure => have := HK1.out; omega
         case rel => exact ⟨(wrap64 (x7_1 + 1)), (by first | rfl | (simp; done) | (simp [*]; done)), H', ⟨by have := HK1.out; omega⟩, by repeat (first | exact Drawn0.refl _ | apply Drawn0.step)⟩
        ·rw [if_neg c11] at H
         have c11b0 : ((rd l0 (ji6)) == (rd l0 (ji9))) = false := beq_eq_false_iff_ne.mpr c11
         have c11b1 : ((rd l0 (ji6)) != (rd l0 (ji9))) = true := bne_iff_ne.mpr c11
         obtain rfl := Option.some.inj H
         have p101 : 0 ≤ ((ji6) : Int) := of_decide_eq_true (by first | (with_reducible assumption) | assumption)
         have q101 : (ji6) < (l0.length : Int) := of_decide_eq_true (by first | (with_reducible assumption) | assumption)
         obtain ⟨ad101, e101, hx101_0⟩ := Kd.at_int HR0.out (ji6) p101 q101
         cases e101
         replace p101 := eq_true p101
         replace q101 := eq_true q101
         have p102 : 0 ≤ ((ji9) : Int) := of_decide_eq_true (by first | (with_reducible assumption) | assumption)
         have q102 : (ji9) < (l0.length : Int) := of_decide_eq_true (by first | (with_reducible assumption) | assumption)
         obtain ⟨ad102, e102, hx102_0⟩ := Kd.at_int HR0.out (ji9) p102 q102
         obtain rfl : ad101 = ad102 := (by injection e102)
         replace p102 := eq_true p102
         replace q102 := eq_true q102
         go_wp2
         repeat (go_quiet (fail); try go_wp2)
         go_ret
         exact ⟨by first | rfl | (simp; done) | (simp only [← hji6, ← hji9] <;> (first | rfl | simp)) | (simp [*]; done), by repeat (first | exact Drawn0.refl _ | apply Drawn0.step)⟩
       ·rw [if_neg c10] at H
        exact absurd H (by simp)
      ·rw [if_neg c8] at H
       exact absurd H (by simp)
     ·rw [if_neg c7] at H
      exact absurd H (by simp)
    ·rw [if_neg c5] at H
     have c5b0 : decide ((wrap64 (a2 + x7_1)) < (l0.length : Int)) = false := decide_eq_false c5
     clear c5
     obtain rfl := Option.some.inj H
     go_wp2
     repeat (go_quiet (fail); try go_wp2)
     go_ret
     exact ⟨by first | rfl | (simp; done) | (simp [*]; done), by repeat (first | exact Drawn0.refl _ | apply Drawn0.step)⟩
   ·rw [if_neg c4] at H
    have c4b0 : decide (x7_1 < 258) = false := decide_eq_false c4
    clear c4
    obtain rfl := Option.some.inj H
    go_wp2
    repeat (go_quiet (fail); try go_wp2)
    go_ret
    exact ⟨by first | rfl | (simp; done) | (simp [*]; done), by repeat (first | exact Drawn0.refl _ | apply Drawn0.step)⟩

/-! ### match_seen_best: function 57 (by hand) -/
/-- For how many bytes, at most so many more, two places go alike. -/
def comF (l : List Int) (p i : Nat) : Nat → Nat → Nat
 | 0, n => n
 | f + 1, n => if i + n < l.length ∧ l.getD (p + n) 0 = l.getD (i + n) 0 then comF l p i f (n + 1) else n
def com (l : List Int) (p i : Nat) : Nat := comF l p i 258 0
theorem comF_le (l : List Int) (p i : Nat) : ∀ f n, comF l p i f n ≤ n + f
 | 0, n => by simp [comF]
 | f + 1, n => by
  simp only [comF]
  split
  ·have := comF_le l p i f (n + 1); omega
  ·omega
theorem com_le (l : List Int) (p i : Nat) : com l p i ≤ 258 := by have := comF_le l p i 258 0; unfold com; omega
theorem common_loop (l : List Int) (p i : Nat) (hp : p ≤ i) (hl : l.length ≤ 1000000) (hi : i ≤ 1000000) : ∀ (f n k : Nat), n + f = 258 → f < k → match_common.l0 k l (p : Int) (i : Int) (n : Int) = some ((comF l p i f n : Nat) : Int) := by
 have wi : ∀ a : Int, 0 ≤ a → a ≤ 3000000 → wrap64 a = a := fun a h0 h1 => by unfold wrap64; omega
 intro f
 induction f with
 | zero =>
  intro n k hn hk
  obtain ⟨k, rfl⟩ : ∃ m, k = m + 1 := ⟨k - 1, by omega⟩
  simp only [match_common.l0, comF]
  rw [if_neg (by omega)]
 | succ f ih =>
  intro n k hn hk
  obtain ⟨k, rfl⟩ : ∃ m, k = m + 1 := ⟨k - 1, by omega⟩
  simp only [match_common.l0, comF]
  rw [if_pos (by omega), wi _ (by omega) (by omega)]
  by_cases h1 : i + n < l.length
  ·rw [if_pos (by omega), wi _ (by omega) (by omega), if_pos (by omega), if_pos (by omega), if_pos (by omega), show (p : Int) + (n : Int) = ((p + n : Nat) : Int) from by omega, show (i : Int) + (n : Int) = ((i + n : Nat) : Int) from by omega]
   unfold rd
   rw [Int.toNat_natCast, Int.toNat_natCast, wi _ (by omega) (by omega), show (n : Int) + 1 = ((n + 1 : Nat) : Int) from by omega]
   by_cases h2 : l.getD (p + n) 0 = l.getD (i + n) 0
   ·rw [if_pos h2, if_pos ⟨h1, h2⟩]
    exact ih (n + 1) k (by omega) (by omega)
   ·rw [if_neg h2, if_neg (fun h => h2 h.2)]
  ·rw [if_neg (by omega), if_neg (fun h => h1 h.1)]
theorem common_is (l : List Int) (p i : Nat) (hp : p ≤ i) (hl : l.length ≤ 1000000) (hi : i ≤ 1000000) : match_common.f 300 l (p : Int) (i : Int) = some ((com l p i : Nat) : Int) := common_loop l p i hp hl hi 258 0 300 rfl (by omega)
/-- The longest piece among these places, the nearest first. -/
def pick (l : List Int) (i : Nat) : List Int → Nat × Nat → Nat × Nat
 | [], a => a
 | p :: ps, a => if (i : Int) - p ≤ 2048 then (if com l p.toNat i > a.1 then pick l i ps (com l p.toNat i, i - p.toNat) else pick l i ps a) else a
def bestL (G : Int → Int → Int → List Int) (l : List Int) (i : Nat) : Nat × Nat := if l.length < i + 3 then (0, 0) else pick l i (G (l.getD i 0) (l.getD (i + 1) 0) (l.getD (i + 2) 0)).reverse (0, 0)
set_option maxHeartbeats 8000000 in
set_option maxRecDepth 100000 in
theorem seen_best (g n base : Nat) (G : Int → Int → Int → List Int) (A0 : Option Addr) (c0 : Nat) (l0 : List Int) (i : Nat) (w : World) (hS : Seen w base g n G)
  (hr0 : Kd.C (Kd.int .u8) w A0 l0.length l0) (hc0 : l0.length ≤ c0) (hw : ∀ x ∈ l0, (Lit.int .u8 x).wf = true) (hn : n + 1 ≤ 1000000) (hi : i < l0.length) (hl : l0.length ≤ 1000000)
  (hG : ∀ x y z p, p ∈ G x y z → 0 ≤ p ∧ p < i) :
  Calls Try.prog 57 #[.map (some g), .slice A0 l0.length c0, .int .i64 i] w fun e w' => e = .returned (.tuple #[.int .i64 ((bestL G l0 i).1 : Int), .int .i64 ((bestL G l0 i).2 : Int)]) ∧ Below w.heap.size w w' := by
 have HS := Aside0.mk hS
 have HR := Aside0.mk hr0
 have HW := Aside0.mk hw
 have HG := Aside0.mk hG
 have HC := Aside0.mk hc0
 clear hS hr0 hw hG hc0
 by_cases h3 : l0.length < i + 3
 ·go_enter Try.func57, Try.ntmps57
  go_wp2_with fail
  go_ret2
  unfold bestL
  rw [if_pos h3]
  exact ⟨rfl, Below.refl _ _⟩
 ·obtain ⟨ad, e0, hx0⟩ := Kd.at_int HR.out (i : Int) (by omega) (by omega)
  obtain ⟨ad1, e1, hx1⟩ := Kd.at_int HR.out ((i : Int) + 1) (by omega) (by omega)
  obtain ⟨ad2, e2, hx2⟩ := Kd.at_int HR.out ((i : Int) + 2) (by omega) (by omega)
  subst e0
  injection e1 with e1
  injection e2 with e2
  subst e1 e2
  obtain ⟨j1, hj1⟩ : ∃ j : Nat, j = i + 1 := ⟨_, rfl⟩
  obtain ⟨j2, hj2⟩ : ∃ j : Nat, j = i + 2 := ⟨_, rfl⟩
  rw [Int.toNat_natCast] at hx0
  rw [show (i : Int) + 1 = (j1 : Int) from by omega, Int.toNat_natCast] at hx1
  rw [show (i : Int) + 2 = (j2 : Int) from by omega, Int.toNat_natCast] at hx2
  obtain ⟨x, ex⟩ : ∃ x, x = rd l0 (i : Int) := ⟨_, rfl⟩
  obtain ⟨y, ey⟩ : ∃ x, x = rd l0 (j1 : Int) := ⟨_, rfl⟩
  obtain ⟨z, ez⟩ : ∃ x, x = rd l0 (j2 : Int) := ⟨_, rfl⟩
  rw [← ex] at hx0
  rw [← ey] at hx1
  rw [← ez] at hx2
  have hwf := HW.out
  have hWF : WF3 x y z := by
   rw [ex, ey, ez]
   unfold rd
   rw [Int.toNat_natCast, Int.toNat_natCast, Int.toNat_natCast]
   refine ⟨hwf _ ?_, hwf _ ?_, hwf _ ?_⟩ <;> (rw [List.getD_eq_getElem?_getD, List.getElem?_eq_getElem (by omega)]; exact List.getElem_mem _)
  have hd1 : Below w.heap.size w w.drew := (Below.refl _ _).drew
  obtain ⟨Ap, cp, hrunL, hcp, hCp⟩ := seen_look HS.out (by unfold maxLen; omega) hWF
  have hrunL0 := hrunL w (Below.refl _ _)
  have hrunL1 := hrunL w.drew hd1
  unfold key3 at hrunL0 hrunL1
  have HX := Aside0.mk (And.intro ex (And.intro ey (And.intro ez (And.intro hj1 (And.intro hj2 (And.intro hCp hcp))))))
  have hu57 := Try.underlying109
  have hP := HG.out x y z
  have hPn : (G x y z).length ≤ 1000000 := by
   obtain ⟨es, clock, hg, hb, hs, hsz, he, ha, hall, hlen⟩ := HS.out
   exact Nat.le_trans (hlen x y z) (by omega)
  generalize hPP : G x y z = P at *
  have HPP := Aside0.mk hPP
  have HP := Aside0.mk hP
  have f1 : IntKind.i64.wrap ((i : Int) + 1) = (j1 : Int) := by rw [IntWalk.i64_in _ (by omega)]; omega
  have f2 : IntKind.i64.wrap ((i : Int) + 2) = (j2 : Int) := by rw [IntWalk.i64_in _ (by omega)]; omega
  have f7 : (j1 : Int) < (l0.length : Int) := by omega
  have f8 : (j2 : Int) < (l0.length : Int) := by omega
  clear ex ey ez hj1 hj2 hwf hWF hd1 hrunL hCp hcp hP hPP
  go_enter Try.func57, Try.ntmps57
  go_wp2_with fail
  go_region_held3 (fun w' => w'.cell? (ad.add i) = some (.int .u8 x) ∧ w'.cell? (ad.add j1) = some (.int .u8 y) ∧ w'.cell? (ad.add j2) = some (.int .u8 z)) (first | exact ⟨hx0, hx1, hx2⟩ | go_keep) (first | fail)
  have hb0 := Aside0.mk ((Below.refl w.heap.size w).drew)
  have hF : Aside0 (pick l0 i (P.take P.length).reverse (0, 0) = bestL G l0 i) := ⟨by
   obtain ⟨ex, ey, ez, ej1, ej2, _⟩ := HX.out
   unfold rd at ex ey ez
   rw [Int.toNat_natCast] at ex ey ez
   unfold bestL
   rw [if_neg h3, List.take_length, ← HPP.out, ex, ey, ez, ej1, ej2]⟩
  clear hrunL0 hrunL1 hx0 hx1 hx2 f1 f2 f7 f8 hu57
  go_wp2_with fail
  go_loopg [6, 7, 9] P.length (fun kq v6 v7 v9 w' => ∃ (n1 d1 m : Nat), v6 = .int .i64 n1 ∧ v7 = .int .i64 d1 ∧ v9 = .int .i64 ((m : Int) - 1) ∧ n1 ≤ 258 ∧ m ≤ P.length ∧ Aside0 (kq = m) ∧ Aside0 (pick l0 i (P.take m).reverse (n1, d1) = bestL G l0 i) ∧ Aside0 (Below w.heap.size w w'))
  case atStart => exact ⟨0, 0, P.length, rfl, rfl, by go_num, by omega, Nat.le_refl _, ⟨rfl⟩, hF, hb0⟩
  case round =>
   clear hb0 hF
   obtain ⟨n1, d1, m, rfl, rfl, rfl, hn1, hm, HK, HF, HB⟩ := hrel
   cases m with
   | zero =>
    go_wp2_with fail
    go_ret2
    have := HF.out
    simp only [List.take_zero, List.reverse_nil, pick] at this
    rw [← this]
    exact ⟨rfl, HB.out⟩
   | succ m =>
    rw [show (((m + 1 : Nat) : Int) - 1) = (m : Int) from by omega]
    obtain ⟨ap, ea, hxp⟩ := Kd.at_int (Kd.C_below HX.out.2.2.2.2.2.1 HB.out) (m : Int) (by omega) (by omega)
    subst ea
    rw [Int.toNat_natCast] at hxp
    obtain ⟨p, ep⟩ : ∃ p, p = rd P (m : Int) := ⟨_, rfl⟩
    rw [← ep] at hxp
    have hpm : p ∈ P := by
     rw [ep]; unfold rd
     rw [Int.toNat_natCast, List.getD_eq_getElem?_getD, List.getElem?_eq_getElem (by omega)]
     exact List.getElem_mem _
    obtain ⟨hp0, hp1⟩ := HP.out p hpm
    obtain ⟨p, rfl⟩ := Int.eq_ofNat_of_zero_le hp0
    have htake : Aside0 ((P.take (m + 1)).reverse = (p : Int) :: (P.take m).reverse) := ⟨by
     rw [List.take_succ_eq_append_getElem (by omega), List.reverse_append, List.reverse_singleton, ep]
     unfold rd
     rw [Int.toNat_natCast, List.getD_eq_getElem?_getD, List.getElem?_eq_getElem (by omega)]
     rfl⟩
    have EP := Aside0.mk ep
    clear ep hpm
    by_cases hd : (i : Int) - (p : Int) ≤ 2048
    ·have hcc := com_le l0 p i
     have hcom := Aside0.mk (common_is l0 p i (by omega) hl (by omega))
     obtain ⟨c, ec⟩ : ∃ c, c = com l0 p i := ⟨_, rfl⟩
     rw [← ec] at hcc hcom
     have EC := Aside0.mk ec
     clear ec
     go_wp2_with fail
     refine (match_common.calls 300 _ _ l0 (p : Int) (i : Int) (c : Int) wr (Kd.C_below HR.out HB.out) HC.out hcom.out).mono ?_
     rintro e1 w2 ⟨rfl, hdr⟩
     have HB2 := Aside0.mk (HB.out.trans (hdr.below.mono HB.out.size))
     obtain ⟨ap2, ea2, hxp2⟩ := Kd.at_int (Kd.C_below HX.out.2.2.2.2.2.1 HB2.out) (m : Int) (by omega) (by omega)
     injection ea2 with ea2
     subst ea2
     rw [Int.toNat_natCast] at hxp2
     rw [show rd P (m : Int) = (p : Int) from EP.out.symm] at hxp2
     by_cases hgt : n1 < c
     ·go_wp2_with fail
      go_region
      go_wp2_with fail
      go_roundg m
      case measure => have := HK.out; omega
      case rel =>
       refine ⟨c, i - p, m, rfl, ?_, rfl, hcc, by omega, ⟨rfl⟩, ⟨?_⟩, ⟨HB2.out.drew⟩⟩
       ·go_num
       ·rw [← HF.out, htake.out]
        simp only [pick]
        rw [if_pos hd, Int.toNat_natCast, ← EC.out, if_pos hgt]
     ·go_wp2_with fail
      go_roundg m
      case measure => have := HK.out; omega
      case rel =>
       refine ⟨n1, d1, m, rfl, rfl, rfl, hn1, by omega, ⟨rfl⟩, ⟨?_⟩, HB2⟩
       rw [← HF.out, htake.out]
       simp only [pick]
       rw [if_pos hd, Int.toNat_natCast, ← EC.out, if_neg hgt]
    ·go_wp2_with fail
     go_ret2
     have := HF.out
     rw [htake.out] at this
     simp only [pick] at this
     rw [if_neg (by omega)] at this
     rw [← this]
     exact ⟨rfl, HB.out⟩
/-- The places that were noted, of the first so many. -/
def noted (l : List Int) : Nat → (Int → Int → Int → List Int)
 | 0 => fun _ _ _ => []
 | i + 1 => addAt (noted l i) l i
theorem noted_lt (l : List Int) : ∀ i x y z p, p ∈ noted l i x y z → 0 ≤ p ∧ p < (i : Int)
 | 0, x, y, z, p, h => by simp [noted] at h
 | i + 1, x, y, z, p, h => by
  simp only [noted, addAt] at h
  split at h
  ·have := noted_lt l i x y z p h; omega
  ·unfold upd3 at h
   split at h
   ·rcases List.mem_append.1 h with h | h
    ·have := noted_lt l i _ _ _ p h; omega
    ·have := List.mem_singleton.1 h; omega
   ·have := noted_lt l i x y z p h; omega

/-! ### match_Tokens: function 33 (by hand) -/
theorem comF_len (l : List Int) (p i : Nat) : ∀ f n, i + n ≤ l.length → i + comF l p i f n ≤ l.length
 | 0, n, h => by simpa [comF] using h
 | f + 1, n, h => by
  simp only [comF]
  split
  ·rename_i h1
   exact comF_len l p i f (n + 1) (by omega)
  ·exact h
theorem pick_len (l : List Int) (i : Nat) (hi : i ≤ l.length) : ∀ ps a, a.1 ≤ 258 ∧ i + a.1 ≤ l.length → (pick l i ps a).1 ≤ 258 ∧ i + (pick l i ps a).1 ≤ l.length
 | [], a, h => h
 | p :: ps, a, h => by
  simp only [pick]
  split
  ·split
   ·exact pick_len l i hi ps _ ⟨com_le l _ i, comF_len l _ i 258 0 (by omega)⟩
   ·exact pick_len l i hi ps _ h
  ·exact h
theorem bestL_len (G : Int → Int → Int → List Int) (l : List Int) (i : Nat) (hi : i ≤ l.length) : (bestL G l i).1 ≤ 258 ∧ i + (bestL G l i).1 ≤ l.length := by
 unfold bestL
 split
 ·exact ⟨by simp, by simpa using hi⟩
 ·exact pick_len l i hi _ _ ⟨by simp, by simpa using hi⟩
/-- The tokens from a place on. -/
def toks (l : List Int) : Nat → Nat → List S53
 | 0, _ => []
 | f + 1, i => if i < l.length then (if (bestL (noted l i) l i).1 = 0 then ⟨l.getD i 0, 0, 0⟩ :: toks l f (i + 1) else ⟨0, ((bestL (noted l i) l i).1 : Int), ((bestL (noted l i) l i).2 : Int)⟩ :: toks l f (i + (bestL (noted l i) l i).1)) else []
theorem toks_fuel (l : List Int) : ∀ f f' i, l.length ≤ i + f → l.length ≤ i + f' → toks l f i = toks l f' i := by
 intro f
 induction f with
 | zero =>
  intro f' i h h'
  cases f' with
  | zero => rfl
  | succ f' => simp only [toks]; rw [if_neg (by omega)]
 | succ f ih =>
  intro f' i h h'
  cases f' with
  | zero => simp only [toks]; rw [if_neg (by omega)]
  | succ f' =>
   simp only [toks]
   split
   ·split
    ·rw [ih f' (i + 1) (by omega) (by omega)]
    ·rw [ih f' _ (by omega) (by omega)]
   ·rfl
def match_Tokens.f (l0 : List Int) : Option (List S53 × Int) :=
 if l0.all (fun x => (Lit.int .u8 x).wf) = true then (if (l0.length : Int) > 4096 then some ([], 2) else some (toks l0 l0.length 0, 0)) else none
theorem out_stay {w w' : World} {base g : Nat} {es : Array MapEntry} {clock : Nat} {v : Value} {xs : List S53} (h : Kd.R k53 53 w base (fun _ => True) v xs) (hg : w.heap[g]? = some (.map es clock)) (hk : KeptT w w' g) : Kd.R k53 53 w' base (fun _ => True) v xs := by
 refine Kd.R_mono (Kd.R_move (Kd.R_bound h) (fun k hk' => ?_)) (fun _ _ => trivial)
 obtain ⟨_, _, hlt, q, hq, cs, hc⟩ := hk'
 have hq40 : q = 53 := by simpa [k53, Kd.iso, Kd.pair, Kd.int, Kd.scalar] using hq
 subst hq40
 exact hk.2 k hlt (by rintro rfl; rw [hg] at hc; cases hc) (fun cs' hc' => by rw [hc] at hc'; injection hc' with hc'; injection hc' with _ hc'; cases hc')
theorem seen_grown {W w' : World} {base g n : Nat} {G : Int → Int → Int → List Int} {v : Value} {xs : List S53} (h : Seen W base g n G) (ho : Kd.R k53 53 W base (fun _ => True) v xs) (hg : W.grownBy w' v.ownBlock) : Seen w' base g n G := by
 obtain ⟨es, clock, hgm, _⟩ := id h
 refine h.stay (fun k hb hlt hk => hg.block k hlt (fun e => ?_))
 obtain ⟨inner, how⟩ := Kd.R_own ho
 obtain ⟨cs, hc⟩ := own_typed how k e.symm
 rcases hk with rfl | ⟨cs', hc'⟩
 ·rw [hgm] at hc; cases hc
 ·rw [hc] at hc'; injection hc' with hc'; injection hc' with _ hc'; cases hc'
set_option maxHeartbeats 8000000 in
set_option maxRecDepth 100000 in
theorem match_Tokens.calls (A0 : Option Addr) (c0 : Nat) (l0 : List Int) (r1 : List (S53)) (r2 : Int) (w : World) (hr0 : Kd.C (Kd.int .u8) w A0 l0.length l0) (hc0 : l0.length ≤ c0) (h : match_Tokens.f l0 = some (r1, r2)) :
  Calls Try.prog 33 #[.slice A0 l0.length c0] w fun e w' => ∃ v0_ : Value, e = .returned (.tuple #[v0_, .int .i64 r2]) ∧ Kd.R k53 53 w' w.heap.size (fun _ => True) v0_ r1 ∧ Below w.heap.size w w' := by
 unfold match_Tokens.f at h
 by_cases hwf : l0.all (fun x => (Lit.int .u8 x).wf) = true
 ·rw [if_pos hwf] at h
  have hw : ∀ x ∈ l0, (Lit.int .u8 x).wf = true := fun x hx => List.all_eq_true.1 hwf x hx
  have HW := Aside0.mk hw
  have HR := Aside0.mk hr0
  have HC := Aside0.mk hc0
  clear hwf hw hr0 hc0
  have hmm := @run_makeMap Try.prog
  have hu40 := Try.underlying53
  by_cases h2 : (l0.length : Int) > 4096
  ·rw [if_pos h2] at h
   simp only [Option.some.injEq, Prod.mk.injEq] at h
   obtain ⟨rfl, rfl⟩ := h
   go_enter Try.func33, Try.ntmps33
   go_wp2_with fail
   go_ret2
   exact ⟨_, rfl, Kd.R_nil _ _ _ _ _, Below.refl _ _⟩
  ·rw [if_neg h2] at h
   simp only [Option.some.injEq, Prod.mk.injEq] at h
   obtain ⟨rfl, rfl⟩ := h
   have hl : l0.length ≤ 4096 := by omega
   have HS := Aside0.mk (seen_made w w.heap.size (Nat.le_refl _))
   have HB := Aside0.mk (below_alloc (Below.refl w.heap.size w) (.map #[] 0))
   have HO := Aside0.mk (Kd.R_nil k53 53 (w.alloc (.map #[] 0)) w.heap.size (fun _ => True))
   go_enter Try.func33, Try.ntmps33
   go_wp2_with fail
   go_loopg [4, 6] l0.length (fun kq v4 v6 w' => ∃ (i : Nat) (out : List S53), v6 = .int .i64 i ∧ i ≤ l0.length ∧ Aside0 (kq + i = l0.length) ∧ Aside0 (out ++ toks l0 l0.length i = toks l0 l0.length 0) ∧ Aside0 (out.length ≤ i) ∧ Aside0 (Seen w' w.heap.size w.heap.size i (noted l0 i)) ∧ Aside0 (Kd.R k53 53 w' w.heap.size (fun _ => True) v4 out) ∧ Aside0 (Below w.heap.size w w'))
   case atStart => exact ⟨0, [], rfl, Nat.zero_le _, ⟨rfl⟩, ⟨rfl⟩, ⟨Nat.le_refl _⟩, HS, HO, HB⟩
   case round =>
    clear HS HB HO
    obtain ⟨i, out, rfl, hi, HK, HT, HN, HS, HO, HB⟩ := hrel
    obtain ⟨Ao, co, rfl⟩ := Kd.R_slice HO.out
    by_cases hlt : i < l0.length
    ·go_wp2_with fail
     refine (seen_best w.heap.size i w.heap.size (noted l0 i) _ _ l0 i wr HS.out (Kd.C_below HR.out HB.out) HC.out HW.out (by omega) (by omega) (by omega) (fun x y z p => noted_lt l0 i x y z p)).mono ?_
     rintro e1 w2 ⟨rfl, hb2⟩
     obtain ⟨n, en⟩ : ∃ n, n = (bestL (noted l0 i) l0 i).1 := ⟨_, rfl⟩
     obtain ⟨d, ed⟩ : ∃ d, d = (bestL (noted l0 i) l0 i).2 := ⟨_, rfl⟩
     have hbl := bestL_len (noted l0 i) l0 i (by omega)
     rw [← en] at hbl
     rw [← en, ← ed]
     have EN := Aside0.mk (And.intro en ed)
     have HS2 := Aside0.mk (HS.out.below hb2)
     have HO2 := Aside0.mk (Kd.R_below HO.out hb2)
     have HB2 := Aside0.mk (HB.out.trans (hb2.mono HB.out.size))
     clear en ed hb2 HS HO HB
     by_cases hn0 : n = 0
     ·have hb0 : ((n : Int) == 0) = true := by rw [beq_iff_eq]; omega
      obtain ⟨ad, e0, hx0⟩ := Kd.at_int (Kd.C_below HR.out HB2.out) (i : Int) (by omega) (by omega)
      subst e0
      rw [Int.toNat_natCast] at hx0
      obtain ⟨x, ex⟩ : ∃ x, x = l0.getD i 0 := ⟨_, rfl⟩
      rw [show rd l0 (i : Int) = x from by rw [ex]; unfold rd; rw [Int.toNat_natCast]] at hx0
      have EX := Aside0.mk ex
      clear ex
      have EN0 := Aside0.mk hn0
      have hxa := pw_cell_below (below_alloc (Below.refl w2.heap.size w2) (.cells #[.int .u8 0, .int .i64 (n : Int), .int .i64 (d : Int)] 53 (0, 0))) hx0
      clear hn0
      go_wp2_with (at_builtin; go_must (refine Kd.R_append k53 (w0 := w) w.heap.size rfl (.tmp 35) (.tmp 37) 45 53 (.agg #[.int .u8 0, .int .i64 0, .int .i64 0]) 24 rfl Try.underlying45 info53 rfl (by decide) (by omega) (.slice Ao out.length co) out ⟨x, 0, 0⟩ [.int .u8 x, .int .i64 0, .int .i64 0] (fun _ => True) (fun _ => False) (by first | rfl | (simp; done) | (simp; rfl) | done) (by first | rfl | (simp [alloc_heap_size]; done) | (simp; rfl) | done) (k53_mkM _ _ _ ⟨x, 0, 0⟩) (fun _ hk => hk.elim) (fun _ _ => trivial) (Kd.R_alloc HO2.out _) (below_alloc HB2.out _) (below_size (below_alloc HB2.out _)) (by have := HN.out; omega) ?_; intro v1 w3 ho3 hb3 hg3 hat3; (have HS3 := Aside0.mk (seen_grown (HS2.out.below (below_alloc (Below.refl _ _) _)) (Kd.R_alloc HO2.out _) hg3)); (have HO3 := Aside0.mk ho3); (have HB3 := Aside0.mk hb3); clear ho3 hb3 hg3 hat3 HS2 HO2 HB2))
      go_loopg [6, 40] 1 (fun kq v6 v40 w' => ∃ j : Nat, v6 = .int .i64 ((i + j : Nat) : Int) ∧ v40 = .int .i64 j ∧ j ≤ 1 ∧ Aside0 (kq + j = 1) ∧ Aside0 (Seen w' w.heap.size w.heap.size (i + j) (noted l0 (i + j))) ∧ Aside0 (Kd.R k53 53 w' w.heap.size (fun _ => True) v1 (out ++ [⟨x, 0, 0⟩])) ∧ Aside0 (Below w.heap.size w w'))
      case atStart => exact ⟨0, by go_num, by go_num, by omega, ⟨rfl⟩, HS3, HO3, HB3⟩
      case round =>
       clear HS3 HO3 HB3
       obtain ⟨j, rfl, rfl, hj, HK2, HS, HO, HB⟩ := hrel
       by_cases hlt2 : j < 1
       ·go_wp2_with fail
        refine (seen_add w.heap.size (i + j) (noted l0 (i + j)) _ _ l0 (i + j) w _ HB.out HS.out (Kd.C_below HR.out HB.out) HC.out HW.out (by omega) (by omega) (by omega)).mono ?_
        rintro e1 w4 ⟨rfl, hs4, hb4, hk4⟩
        have HS4 := Aside0.mk hs4
        have HB4 := Aside0.mk hb4
        have HO4 : Aside0 (Kd.R k53 53 w4 w.heap.size (fun _ => True) v1 (out ++ [⟨x, 0, 0⟩])) := ⟨by
         obtain ⟨es, clock, hgm, _⟩ := HS.out
         exact out_stay HO.out hgm hk4⟩
        clear hs4 hb4 hk4 HS HB HO
        go_wp2_with fail
        go_roundg (1 - (j + 1))
        case measure => have := HK2.out; omega
        case rel => exact ⟨j + 1, by go_num, by go_num, by omega, ⟨by omega⟩, HS4, HO4, HB4⟩
       ·obtain rfl : j = 1 := by omega
        go_wp2_with fail
        go_roundg (l0.length - (i + 1))
        case measure => have := HK.out; omega
        case rel =>
         refine ⟨i + 1, (out ++ [⟨x, 0, 0⟩]), rfl, by omega, ⟨by omega⟩, ⟨?_⟩, ⟨by have := HN.out; simp; omega⟩, HS, HO, HB⟩
         rw [← HT.out, List.append_assoc]
         congr 1
         rw [toks_fuel l0 l0.length (l0.length + 1) i (by omega) (by omega)]
         simp only [toks]
         rw [if_pos hlt, if_pos (EN.out.1 ▸ EN0.out), EX.out]; rfl
     ·have hb0 : ((n : Int) == 0) = false := by rw [beq_eq_false_iff_ne]; omega
      go_wp2_with (at_builtin; go_must (refine Kd.R_append k53 (w0 := w) w.heap.size rfl (.tmp 35) (.tmp 37) 45 53 (.agg #[.int .u8 0, .int .i64 0, .int .i64 0]) 24 rfl Try.underlying45 info53 rfl (by decide) (by omega) (.slice Ao out.length co) out ⟨0, (n : Int), (d : Int)⟩ [.int .u8 0, .int .i64 (n : Int), .int .i64 (d : Int)] (fun _ => True) (fun _ => False) (by first | rfl | (simp; done) | (simp; rfl) | done) (by first | rfl | (simp [alloc_heap_size]; done) | (simp; rfl) | done) (k53_mkM _ _ _ ⟨0, (n : Int), (d : Int)⟩) (fun _ hk => hk.elim) (fun _ _ => trivial) (Kd.R_alloc HO2.out _) (below_alloc HB2.out _) (below_size (below_alloc HB2.out _)) (by have := HN.out; omega) ?_; intro v1 w3 ho3 hb3 hg3 hat3; (have HS3 := Aside0.mk (seen_grown (HS2.out.below (below_alloc (Below.refl _ _) _)) (Kd.R_alloc HO2.out _) hg3)); (have HO3 := Aside0.mk ho3); (have HB3 := Aside0.mk hb3); clear ho3 hb3 hg3 hat3 HS2 HO2 HB2))
      go_loopg [6, 40] n (fun kq v6 v40 w' => ∃ j : Nat, v6 = .int .i64 ((i + j : Nat) : Int) ∧ v40 = .int .i64 j ∧ j ≤ n ∧ Aside0 (kq + j = n) ∧ Aside0 (Seen w' w.heap.size w.heap.size (i + j) (noted l0 (i + j))) ∧ Aside0 (Kd.R k53 53 w' w.heap.size (fun _ => True) v1 (out ++ [⟨0, (n : Int), (d : Int)⟩])) ∧ Aside0 (Below w.heap.size w w'))
      case atStart => exact ⟨0, by go_num, by go_num, by omega, ⟨rfl⟩, HS3, HO3, HB3⟩
      case round =>
       clear HS3 HO3 HB3
       obtain ⟨j, rfl, rfl, hj, HK2, HS, HO, HB⟩ := hrel
       by_cases hlt2 : j < n
       ·go_wp2_with fail
        refine (seen_add w.heap.size (i + j) (noted l0 (i + j)) _ _ l0 (i + j) w _ HB.out HS.out (Kd.C_below HR.out HB.out) HC.out HW.out (by omega) (by omega) (by omega)).mono ?_
        rintro e1 w4 ⟨rfl, hs4, hb4, hk4⟩
        have HS4 := Aside0.mk hs4
        have HB4 := Aside0.mk hb4
        have HO4 : Aside0 (Kd.R k53 53 w4 w.heap.size (fun _ => True) v1 (out ++ [⟨0, (n : Int), (d : Int)⟩])) := ⟨by
         obtain ⟨es, clock, hgm, _⟩ := HS.out
         exact out_stay HO.out hgm hk4⟩
        clear hs4 hb4 hk4 HS HB HO
        go_wp2_with fail
        go_roundg (n - (j + 1))
        case measure => have := HK2.out; omega
        case rel => exact ⟨j + 1, by go_num, by go_num, by omega, ⟨by omega⟩, HS4, HO4, HB4⟩
       ·obtain rfl : n = j := by omega
        go_wp2_with fail
        go_roundg (l0.length - (i + n))
        case measure => have := HK.out; omega
        case rel =>
         refine ⟨i + n, (out ++ [⟨0, (n : Int), (d : Int)⟩]), rfl, by omega, ⟨by omega⟩, ⟨?_⟩, ⟨by have := HN.out; simp; omega⟩, HS, HO, HB⟩
         rw [← HT.out, List.append_assoc]
         congr 1
         rw [toks_fuel l0 l0.length (l0.length + 1) i (by omega) (by omega)]
         simp only [toks]
         rw [if_pos hlt, if_neg (fun h => hn0 (EN.out.1.trans h)), ← EN.out.1, ← EN.out.2]; rfl
    ·go_wp2_with fail
     go_ret2
     have hT := HT.out
     rw [toks_fuel l0 l0.length 0 i (by omega) (by omega)] at hT
     simp only [toks, List.append_nil] at hT
     exact ⟨_, rfl, by rw [← hT]; exact HO.out, HB.out⟩
 ·rw [if_neg hwf] at h
  cases h

/-! ### shrink_plain: function 34 (by hand) -/
theorem begin_n {kind : Int} {s : List Int × Nat} (h : beginS kind = some s) : s.2 = 3 := by
 obtain ⟨s1, h1, h2⟩ := Option.bind_eq_some_iff.1 h
 unfold addS at h1 h2
 split at h1
 ·injection h1 with h1
  subst h1
  split at h2
  ·injection h2 with h2
   subst h2
   rfl
  ·cases h2
 ·cases h1
/-- Bytes behind a pen's bits. -/
def bytesL : List Int → List Int × Nat → Option (List Int × Nat)
 | [], s => some s
 | c :: l, s => (addS (wrap64 c) 8 s).bind (bytesL l)
/-- A text as it is. -/
def plainS (b : List Int) : Option (List Int × Nat) :=
 (beginS 0).bind fun s => (addS 0 5 s).bind fun s => (addS b.length 16 s).bind fun s => (addS (Go.bits .xor .i64 (b.length : Int) 65535) 16 s).bind (bytesL b)
set_option maxHeartbeats 8000000 in
set_option maxRecDepth 100000 in
theorem shr_plain (A0 : Option Addr) (c0 : Nat) (l0 : List Int) (sr : List Int × Nat) (w : World) (hr0 : Kd.C (Kd.int .u8) w A0 l0.length l0) (hc0 : l0.length ≤ c0) (hl : l0.length ≤ 1000000) (h : plainS l0 = some sr) :
  Calls Try.prog 34 #[.slice A0 l0.length c0] w fun e w' => ∃ g, e = .returned (.pointer (some ⟨g, 0, none⟩)) ∧ PenAt w w' g sr ∧ Below w.heap.size w w' := by
 unfold plainS at h
 obtain ⟨s1, h1, h⟩ := Option.bind_eq_some_iff.1 h
 obtain ⟨s2, h2, h⟩ := Option.bind_eq_some_iff.1 h
 obtain ⟨s3, h3, h⟩ := Option.bind_eq_some_iff.1 h
 obtain ⟨s4, h4, h⟩ := Option.bind_eq_some_iff.1 h
 have HN := Aside0.mk (begin_n h1)
 have H1 := Aside0.mk h1
 have H2 := Aside0.mk h2
 have H3 := Aside0.mk h3
 have H4 := Aside0.mk h4
 have HL := Aside0.mk h
 have HR := Aside0.mk hr0
 clear h1 h2 h3 h4 h hr0
 go_enter Try.func34, Try.ntmps34
 go_wp2_with fail
 refine (shr_begin 0 s1 w H1.out).mono ?_
 rintro e w1 ⟨g, rfl, hP1, hB1⟩
 have HP1 := Aside0.mk hP1
 have HB1 := Aside0.mk hB1
 obtain ⟨A, c, hg, hge, ho⟩ := hP1.cell
 have hcz : w1.cell? ⟨g, 1, none⟩ = some (.int .i64 3) := by
  have := blk_cell hg 1
  rw [HN.out] at this
  exact this.trans rfl
 have hfz := blk_frozen hg 1
 clear hP1 hB1 H1 hg ho
 go_upto_region 2 with fail
 go_region_with (go_at_call 60; refine (pen_more g 0 5 s1 s2 w w1.drew (HP1.out.below (Below.refl _ _).drew) HB1.out.drew H2.out).mono ?_; rintro e w2 ⟨rfl, hP2, hB2, _⟩; have HP2 := Aside0.mk hP2; have HB2 := Aside0.mk hB2; clear hP2 hB2)
 all_goals
  clear HP1 HB1 hcz hfz
  go_wp2_with fail
  refine (pen_more g l0.length 16 s2 s3 w _ HP2.out HB2.out H3.out).mono ?_
  rintro e w3 ⟨rfl, hP3, hB3, _⟩
  have HP3 := Aside0.mk hP3
  have HB3 := Aside0.mk hB3
  clear hP3 hB3 HP2 HB2
  go_wp2_with fail
  refine (pen_more g _ 16 s3 s4 w _ HP3.out HB3.out H4.out).mono ?_
  rintro e w4 ⟨rfl, hP4, hB4, _⟩
  have HP4 := Aside0.mk hP4
  have HB4 := Aside0.mk hB4
  clear hP4 hB4 HP3 HB3
  go_wp2_with fail
  go_loopg [35] l0.length (fun kq v35 w' => ∃ (i : Nat) (si : List Int × Nat), v35 = .int .i64 i ∧ i ≤ l0.length ∧ Aside0 (kq + i = l0.length) ∧ Aside0 (bytesL (l0.drop i) si = some sr) ∧ Aside0 (PenAt w w' g si) ∧ Aside0 (Below w.heap.size w w'))
 case atStart => exact ⟨0, s4, rfl, Nat.zero_le _, ⟨by omega⟩, HL, HP4, HB4⟩
 case round =>
  clear HL HP4 HB4
  obtain ⟨i, si, rfl, hi, HG, HL, HP, HB⟩ := hrel
  by_cases hlt : i < l0.length
  rotate_left
  ·obtain rfl : i = l0.length := by omega
   have h := HL.out
   rw [List.drop_length] at h
   simp only [bytesL] at h
   injection h with h
   subst h
   go_wp2_with fail
   go_ret
   exact ⟨g, rfl, HP.out, HB.out⟩
  have h := HL.out
  obtain ⟨ad, ead, k0⟩ := Kd.at_int (Kd.C_below HR.out HB.out) (i : Int) (by omega) (by omega)
  obtain ⟨t, ht⟩ : ∃ t, t = rd l0 (i : Int) := ⟨_, rfl⟩
  rw [← ht, Int.toNat_natCast] at k0
  have hd : l0.drop i = t :: l0.drop (i + 1) := by
   rw [ht]
   unfold rd
   rw [Int.toNat_natCast, List.getD_eq_getElem?_getD, List.getElem?_eq_getElem hlt]
   exact List.drop_eq_getElem_cons hlt
  rw [hd] at h
  simp only [bytesL] at h
  obtain ⟨s5, h5, h⟩ := Option.bind_eq_some_iff.1 h
  have H5 := Aside0.mk h5
  have HL1 := Aside0.mk h
  clear h h5 HL hd ht
  subst ead
  go_wp2_with fail
  refine (pen_more g (wrap64 t) 8 si s5 w _ HP.out HB.out H5.out).mono ?_
  rintro e w5 ⟨rfl, hP5, hB5, _⟩
  have HP5 := Aside0.mk hP5
  have HB5 := Aside0.mk hB5
  clear hP5 hB5 HP HB
  go_wp2_with fail
  go_roundg (gk - 1)
  case measure => have := HG.out; omega
  case rel => exact ⟨i + 1, s5, by go_num, by omega, ⟨by have := HG.out; omega⟩, HL1, HP5, HB5⟩

/-! ### shrink_pen_code: function 69 (by hand) -/
/-- A code behind a pen's bits. -/
def codeS (codes lens : List Int) (sym : Int) (s : List Int × Nat) : Option (List Int × Nat) :=
 if 0 ≤ sym ∧ sym < codes.length ∧ sym < lens.length then (bits_Turn.f 40 (rd codes sym) (rd lens sym)).bind fun t => addS t.1 (rd lens sym) s else none
set_option maxHeartbeats 8000000 in
set_option maxRecDepth 100000 in
theorem pen_code (g : Nat) (A1 A2 : Option Addr) (c1 c2 : Nat) (codes lens : List Int) (sym : Int) (s s1 : List Int × Nat) (w0 w : World) (hP : PenAt w0 w g s) (hB : Below w0.heap.size w0 w)
  (hr1 : Kd.C (Kd.int .i64) w A1 codes.length codes) (hc1 : codes.length ≤ c1) (hr2 : Kd.C (Kd.int .i64) w A2 lens.length lens) (hc2 : lens.length ≤ c2) (h : codeS codes lens sym s = some s1) :
  Calls Try.prog 69 #[.pointer (some ⟨g, 0, none⟩), .slice A1 codes.length c1, .slice A2 lens.length c2, .int .i64 sym] w fun e w' => e = .returned (.tuple #[]) ∧ PenAt w0 w' g s1 ∧ Below w0.heap.size w0 w' ∧ KeepP w w' := by
 unfold codeS at h
 split at h
 rotate_left
 ·cases h
 rename_i hc
 obtain ⟨⟨v, e⟩, ht, h⟩ := Option.bind_eq_some_iff.1 h
 obtain ⟨ad1, rfl, k1⟩ := Kd.at_int hr1 sym hc.1 hc.2.1
 obtain ⟨ad2, rfl, k2⟩ := Kd.at_int hr2 sym hc.1 hc.2.2
 obtain ⟨hs0, hs1, hs2⟩ := hc
 have HR2 := Aside0.mk hr2
 have HT := Aside0.mk ht
 have HA := Aside0.mk h
 have HP := Aside0.mk hP
 have HB := Aside0.mk hB
 clear hP hB hr1 hr2 ht h
 generalize rd codes sym = x1 at k1 HT
 obtain ⟨x2, hx2⟩ : ∃ x2, x2 = rd lens sym := ⟨_, rfl⟩
 rw [← hx2] at k2 HT HA
 have HX := Aside0.mk hx2
 clear hx2
 go_enter Try.func69, Try.ntmps69
 go_upto_region 0 with fail
 go_region_with (go_at_call 95; refine (bits_Turn.calls 40 x1 x2 v e w.drew HT.out).mono ?_; rintro e w1 ⟨rfl, hb1⟩; have HB1 := Aside0.mk hb1; clear hb1)
 all_goals
  have hb : Below w.heap.size w w1 := ((Below.refl _ w).drew).trans (HB1.out.below)
  have HP1 := Aside0.mk (HP.out.below hb)
  have HB2 := Aside0.mk (below_then HB.out HB.out.size hb)
  have HK1 := Aside0.mk (KeepP.of_below hb)
  obtain ⟨ad3, e3, k3⟩ := Kd.at_int (Kd.C_below HR2.out hb) sym hs0 hs2
  injection e3 with e3
  subst e3
  rw [← HX.out] at k3
  clear HP HB HB1 hb k1 k2 HR2 HX
  go_upto_region 1 with fail
  go_region_with (go_at_call 60; refine (pen_more g v x2 s s1 w0 w1.drew (HP1.out.below (Below.refl _ _).drew) HB2.out.drew HA.out).mono ?_; rintro e w2 ⟨rfl, hP2, hB2, hK2⟩; have HP2 := Aside0.mk hP2; have HB3 := Aside0.mk hB2; have HK2 := Aside0.mk hK2; clear hP2 hB2 hK2)
 all_goals
  go_end0
  exact ⟨rfl, HP2.out, HB3.out, (HK1.out.below (Below.refl _ w1).drew).trans HK2.out⟩

end Go.Proofs.Ytlffpaploefljaa.P
