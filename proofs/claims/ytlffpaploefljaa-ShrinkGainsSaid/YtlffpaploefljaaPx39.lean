-- Written by a program of this session out of the translation. Lean checks it.
import Derived.Test.YtlffpaploefljaaPx0
import Derived.Test.YtlffpaploefljaaPx29
import Derived.Test.YtlffpaploefljaaPx1
import Derived.Test.YtlffpaploefljaaPx10
import Derived.Test.YtlffpaploefljaaPx26
namespace Go.Proofs.Ytlffpaploefljaa.P
open Go.RowKit Go.Proofs.YtlffpaploefljaaW.PrintWords Go.Proofs.YtlffpaploefljaaW.PrintLast Go.Proofs.YtlffpaploefljaaW.PrintMore
open List (setIfInBounds_toArray set_cons_zero set_cons_succ)
attribute [local go_sem] max2_int min2_int max_two min_two max_three min_three max_four min_four   -- for this text's walks alone
set_option linter.unusedVariables false
set_option linter.unusedSimpArgs false

/-! ### tree_once: function 90 (by hand) -/
def leafs (ws : List Int) (i : Nat) : List (Int × List Int) := (List.range i).filterMap (fun j => if 0 < ws.getD j 0 then some (ws.getD j 0, [(j : Int)]) else none)
theorem leafs_succ (ws : List Int) (i : Nat) : leafs ws (i + 1) = leafs ws i ++ (if 0 < ws.getD i 0 then [(ws.getD i 0, [(i : Int)])] else []) := by
 unfold leafs
 rw [List.range_succ, List.filterMap_append]
 congr 1
 by_cases h : 0 < ws.getD i 0
 ·rw [if_pos h]; simp only [List.filterMap_cons, List.filterMap_nil, if_pos h]
 ·rw [if_neg h]; simp only [List.filterMap_cons, List.filterMap_nil, if_neg h]
/-- One more for each symbol. -/
def bump (out both : List Int) : List Int := both.foldl (fun o s => o.set s.toNat (wrap64 (rd o s + 1))) out
theorem bump_length (both : List Int) : ∀ out : List Int, (bump out both).length = out.length := by
 induction both with
 | nil => intro out; rfl
 | cons s r ih => intro out; exact (ih _).trans (by simp)
theorem bump_take (out both : List Int) (i : Nat) (h : i < both.length) : bump out (both.take (i + 1)) = (bump out (both.take i)).set (rd both i).toNat (wrap64 (rd (bump out (both.take i)) (rd both i) + 1)) := by
 have e : rd both (i : Int) = both[i] := by unfold rd; rw [Int.toNat_natCast]; simp [h]
 rw [List.take_succ_eq_append_getElem h, e]
 unfold bump
 rw [List.foldl_append]
 rfl
def pickOf (ns : List (Int × List Int)) : Int × List Int := ns.getD (leastAt (ns.map (·.1))) (0, [])
def restOf (ns : List (Int × List Int)) : List (Int × List Int) := ns.eraseIdx (leastAt (ns.map (·.1)))
def bothOf (ns : List (Int × List Int)) : List Int := (pickOf ns).2 ++ (pickOf (restOf ns)).2
def mergeOf (ns : List (Int × List Int)) : List (Int × List Int) := restOf (restOf ns) ++ [(wrap64 ((pickOf ns).1 + (pickOf (restOf ns)).1), bothOf ns)]
def onceFrom : Nat → List (Int × List Int) → List Int → List Int
 | 0, _, out => out
 | k + 1, ns, out => if 1 < ns.length then onceFrom k (mergeOf ns) (bump out (bothOf ns)) else out
def onceOf (ws : List Int) : List Int :=
 if (leafs ws ws.length).length = 1 then (List.replicate ws.length 0).set (rd ((leafs ws ws.length).getD 0 (0, [])).2 0).toNat 1
 else onceFrom (leafs ws ws.length).length (leafs ws ws.length) (List.replicate ws.length 0)
theorem onceFrom_end (k : Nat) (ns : List (Int × List Int)) (out : List Int) (h : ¬ 1 < ns.length) : onceFrom k ns out = out := by
 cases k with
 | zero => rfl
 | succ k => unfold onceFrom; rw [if_neg h]
def Good (n : Nat) (ns : List (Int × List Int)) : Prop := ns.length ≤ n ∧ (ns.map (·.2.length)).sum ≤ n ∧ ∀ x ∈ ns, x.2 ≠ [] ∧ ∀ s ∈ x.2, 0 ≤ s ∧ s < n
theorem leafs_good (ws : List Int) (i : Nat) (h : i ≤ ws.length) : (leafs ws i).length ≤ i ∧ ((leafs ws i).map (·.2.length)).sum ≤ i ∧ ∀ x ∈ leafs ws i, x.2 ≠ [] ∧ ∀ s ∈ x.2, 0 ≤ s ∧ s < (ws.length : Int) := by
 induction i with
 | zero => simp [leafs]
 | succ i ih =>
  obtain ⟨h1, h2, h3⟩ := ih (by omega)
  rw [leafs_succ]
  by_cases hp : 0 < ws.getD i 0
  ·rw [if_pos hp]
   refine ⟨by simp; omega, by simp; omega, fun x hx => ?_⟩
   rcases List.mem_append.1 hx with hx | hx
   ·exact h3 x hx
   ·have hx : x = (ws.getD i 0, [(i : Int)]) := by simpa using hx
    subst hx
    refine ⟨by simp, fun s hs => ?_⟩
    have hs : s = (i : Int) := by simpa using hs
    subst hs
    omega
  ·rw [if_neg hp, List.append_nil]
   exact ⟨by omega, by omega, h3⟩
theorem sum_erase : ∀ (l : List Nat) (i : Nat) (h : i < l.length), l[i] + (l.eraseIdx i).sum = l.sum
 | a :: r, 0, _ => by simp
 | a :: r, i + 1, h => by
  have := sum_erase r i (by simpa using h)
  simp only [List.getElem_cons_succ, List.eraseIdx_cons_succ, List.sum_cons]
  omega
theorem map_erase {α β : Type} (f : α → β) (l : List α) (i : Nat) : (l.eraseIdx i).map f = (l.map f).eraseIdx i := by
 rw [List.eraseIdx_eq_take_drop_succ, List.eraseIdx_eq_take_drop_succ, List.map_append, List.map_take, List.map_drop]
theorem leastAt_lt (ws : List Int) (h : 0 < ws.length) : leastAt ws < ws.length := leastTo_lt ws _ (Nat.le_refl _) h
theorem pick_mem (ns : List (Int × List Int)) (h : 0 < ns.length) : ∃ hl : leastAt (ns.map (·.1)) < ns.length, pickOf ns = ns[leastAt (ns.map (·.1))] := by
 have hl : leastAt (ns.map (·.1)) < ns.length := by simpa using leastAt_lt (ns.map (·.1)) (by simpa using h)
 exact ⟨hl, by unfold pickOf; simp [hl]⟩
theorem rest_good {n : Nat} {ns : List (Int × List Int)} (h : Good n ns) (h0 : 0 < ns.length) : Good n (restOf ns) ∧ (restOf ns).length = ns.length - 1 ∧ (pickOf ns).2.length + ((restOf ns).map (·.2.length)).sum = (ns.map (·.2.length)).sum ∧ (pickOf ns).2 ≠ [] ∧ ∀ s ∈ (pickOf ns).2, 0 ≤ s ∧ s < (n : Int) := by
 obtain ⟨hl, hp⟩ := pick_mem ns h0
 have hle : (restOf ns).length = ns.length - 1 := by unfold restOf; rw [List.length_eraseIdx_of_lt hl]
 have hs := sum_erase (ns.map (·.2.length)) (leastAt (ns.map (·.1))) (by simpa using hl)
 rw [← map_erase, List.getElem_map, ← hp] at hs
 have hm := h.2.2 (pickOf ns) (by rw [hp]; exact List.getElem_mem hl)
 refine ⟨⟨by have := h.1; omega, by have := h.2.1; unfold restOf; omega, fun x hx => h.2.2 x (List.mem_of_mem_eraseIdx hx)⟩, hle, hs, hm⟩
theorem merge_good {n : Nat} {ns : List (Int × List Int)} (h : Good n ns) (h1 : 1 < ns.length) : Good n (mergeOf ns) ∧ (mergeOf ns).length = ns.length - 1 ∧ (bothOf ns).length ≤ n ∧ ∀ s ∈ bothOf ns, 0 ≤ s ∧ s < (n : Int) := by
 obtain ⟨g1, l1, s1, m1, b1⟩ := rest_good h (by omega)
 obtain ⟨g2, l2, s2, m2, b2⟩ := rest_good g1 (by omega)
 have hb : ∀ s ∈ bothOf ns, 0 ≤ s ∧ s < (n : Int) := by
  intro s hs
  rcases List.mem_append.1 hs with hs | hs
  ·exact b1 s hs
  ·exact b2 s hs
 have hlen : (bothOf ns).length = (pickOf ns).2.length + (pickOf (restOf ns)).2.length := by unfold bothOf; rw [List.length_append]
 have hsum := h.2.1
 refine ⟨⟨?_, ?_, fun x hx => ?_⟩, ?_, by omega, hb⟩
 ·unfold mergeOf; rw [List.length_append, List.length_singleton]; have := h.1; omega
 ·unfold mergeOf; rw [List.map_append, List.sum_append]; simp; omega
 ·rcases List.mem_append.1 hx with hx | hx
  ·exact g2.2.2 x hx
  ·have hx : x = (wrap64 ((pickOf ns).1 + (pickOf (restOf ns)).1), bothOf ns) := by simpa using hx
   subst hx
   exact ⟨by unfold bothOf; simp [m1], hb⟩
 ·unfold mergeOf; rw [List.length_append, List.length_singleton]; omega
/-- A row of symbols, in memory of its own from bo on. -/
def SymR (w : World) (bo : Nat) (v : Value) (s : List Int) : Prop := (Kd.int .i64).R 3 w bo (fun _ => True) v s
theorem SymR.keep {w w1 : World} {bo : Nat} {v : Value} {s : List Int} (h : SymR w bo v s) (hm : ∀ k cells, bo ≤ k → k < w.heap.size → w.heap[k]? = some (.cells cells 3 (0, 0)) → w1.heap[k]? = w.heap[k]?) : SymR w1 bo v s := by
 refine Kd.R_mono (Kd.R_move (Kd.R_bound h) (fun k hk => ?_)) (fun _ _ => trivial)
 obtain ⟨_, h1, h2, q, hq, cells, hc⟩ := hk
 have e : q = 3 := by
  have : (Kd.int .i64).E = [] := rfl
  rw [this] at hq
  simpa using hq
 subst e
 exact hm k cells h1 h2 hc
theorem SymR.below {w w1 : World} {bo : Nat} {v : Value} {s : List Int} (h : SymR w bo v s) (hb : Below w.heap.size w w1) : SymR w1 bo v s := Kd.R_below h hb
/-- Nodes' rows of symbols. -/
def Symss (w : World) (bo : Nat) (l : List (Int × Value)) (ns : List (Int × List Int)) : Prop :=
 l.length = ns.length ∧ ∀ (j : Nat) (x : Int × Value) (y : Int × List Int), l[j]? = some x → ns[j]? = some y → x.1 = y.1 ∧ SymR w bo x.2 y.2
def NodesS (w : World) (base bo : Nat) (v : Value) (ns : List (Int × List Int)) : Prop := ∃ l : List (Int × Value), Nodes w base v l ∧ Symss w bo l ns
theorem Symss.keep {w w1 : World} {bo : Nat} {l : List (Int × Value)} {ns : List (Int × List Int)} (h : Symss w bo l ns) (hm : ∀ k cells, bo ≤ k → k < w.heap.size → w.heap[k]? = some (.cells cells 3 (0, 0)) → w1.heap[k]? = w.heap[k]?) : Symss w1 bo l ns :=
 ⟨h.1, fun j x y hx hy => ⟨(h.2 j x y hx hy).1, (h.2 j x y hx hy).2.keep hm⟩⟩
theorem Symss.grown {w w1 : World} {bo : Nat} {l : List (Int × Value)} {ns : List (Int × List Int)} (h : Symss w bo l ns) {row : Option Nat} (hg : w.grownBy w1 row) (hr : ∀ g, row = some g → ∃ cs, w.heap[g]? = some (.cells cs 133 (0, 0))) : Symss w1 bo l ns :=
 h.keep (fun k cells _ hk hc => hg.block k hk (fun e => by
  obtain ⟨cs, h2⟩ := hr k e.symm
  rw [hc] at h2
  injection h2 with h2
  injection h2 with _ h3
  exact absurd h3 (by decide)))
theorem Symss.weights {w : World} {bo : Nat} {l : List (Int × Value)} {ns : List (Int × List Int)} (h : Symss w bo l ns) : l.map (·.1) = ns.map (·.1) := by
 apply List.ext_getElem?
 intro j
 rw [List.getElem?_map, List.getElem?_map]
 by_cases hj : j < l.length
 ·have hj2 : j < ns.length := by rw [← h.1]; exact hj
  rw [List.getElem?_eq_getElem hj, List.getElem?_eq_getElem hj2]
  have := (h.2 j _ _ (List.getElem?_eq_getElem hj) (List.getElem?_eq_getElem hj2)).1
  simp [this]
 ·rw [List.getElem?_eq_none (by omega), List.getElem?_eq_none (by have := h.1; omega)]
  rfl
theorem Symss.erase {w : World} {bo : Nat} {l : List (Int × Value)} {ns : List (Int × List Int)} (h : Symss w bo l ns) (i : Nat) (hi : i < ns.length) : Symss w bo (l.eraseIdx i) (ns.eraseIdx i) := by
 refine ⟨by rw [List.length_eraseIdx_of_lt (by have := h.1; omega), List.length_eraseIdx_of_lt hi, h.1], fun j x y hx hy => ?_⟩
 rw [List.getElem?_eraseIdx] at hx hy
 by_cases hj : j < i
 ·rw [if_pos hj] at hx hy
  exact h.2 j x y hx hy
 ·rw [if_neg hj] at hx hy
  exact h.2 (j + 1) x y hx hy
theorem Symss.snoc {w : World} {bo : Nat} {l : List (Int × Value)} {ns : List (Int × List Int)} (h : Symss w bo l ns) {x : Int × Value} {y : Int × List Int} (hx : x.1 = y.1 ∧ SymR w bo x.2 y.2) : Symss w bo (l ++ [x]) (ns ++ [y]) := by
 refine ⟨by simp [h.1], fun j a b ha hb => ?_⟩
 by_cases hj : j < l.length
 ·rw [List.getElem?_append_left hj] at ha
  rw [List.getElem?_append_left (by have := h.1; omega)] at hb
  exact h.2 j a b ha hb
 ·rw [List.getElem?_append_right (by omega)] at ha
  rw [List.getElem?_append_right (by have := h.1; omega), ← h.1] at hb
  obtain ⟨n, hn⟩ : ∃ n, n = j - l.length := ⟨_, rfl⟩
  rw [← hn] at ha hb
  cases n with
  | zero =>
   simp at ha hb
   subst ha; subst hb
   exact hx
  | succ n => simp at ha
theorem nodes_type {w : World} {base : Nat} {v : Value} {rows : List (List Value)} (h : (Kd.raw 2).R 133 w base (fun _ => True) v rows) : ∀ g, v.ownBlock = some g → ∃ cs, w.heap[g]? = some (.cells cs 133 (0, 0)) := by
 intro g hg
 obtain ⟨inner, ho⟩ := Kd.R_own h
 exact own_typed ho g hg
theorem NodesS.below {w w1 : World} {base bo : Nat} {v : Value} {ns : List (Int × List Int)} (h : NodesS w base bo v ns) (hb : Below w.heap.size w w1) : NodesS w1 base bo v ns := by
 obtain ⟨l, h1, h2⟩ := h
 exact ⟨l, Kd.R_below h1 hb, h2.keep (fun k _ _ hk _ => hb.block k hk)⟩
/-- What is written into a row of ints that lies ahead of bo says nothing of the nodes. -/
theorem NodesS.far {w : World} {base bo : Nat} {v : Value} {ns : List (Int × List Int)} (h : NodesS w base bo v ns) {go : Nat} {cs : Array Value} (hgo : w.heap[go]? = some (.cells cs 3 (0, 0))) (hlt : go < bo) (j : Nat) (u : Value) : NodesS (w.setCell ⟨go, j, none⟩ u) base bo v ns := by
 obtain ⟨l, h1, h2⟩ := h
 refine ⟨l, Kd.R_mono (Kd.R_far (Kd.R_bound h1) (fun k hk => ?_) u) (fun _ _ => trivial), h2.keep (fun k _ hb _ _ => Below.heap_setCell w ⟨go, j, none⟩ u k (by show k ≠ go; omega))⟩
 obtain ⟨_, _, _, q, hq, cells, hc⟩ := hk
 have e : q = 133 := by
  have : (Kd.raw 2).E = [] := rfl
  rw [this] at hq
  simpa using hq
 subst e
 show k ≠ go
 rintro rfl
 rw [hc] at hgo
 injection hgo with hgo
 injection hgo with _ h3
 exact absurd h3 (by decide)
theorem NodesS.lower {w : World} {base base' bo : Nat} {v : Value} {ns : List (Int × List Int)} (h : NodesS w base bo v ns) (hb : base' ≤ base) : NodesS w base' bo v ns := by
 obtain ⟨l, h1, h2⟩ := h
 exact ⟨l, Kd.R_lower h1 hb, h2⟩
theorem NodesS.length {w : World} {base bo : Nat} {v : Value} {ns : List (Int × List Int)} (h : NodesS w base bo v ns) : ∃ A c, v = .slice A ns.length c ∧ ns.length ≤ c := by
 obtain ⟨l, h1, h2⟩ := h
 obtain ⟨A, c, e⟩ := Kd.R_slice h1
 subst e
 have h3 := (Kd.R_reads' h1).2.1
 rw [nodeRows_length, h2.1] at *
 exact ⟨A, c, rfl, h3⟩
theorem least_of (bo : Nat) (v : Value) (ns : List (Int × List Int)) (w0 w : World) (hN : NodesS w w0.heap.size bo v ns) (h0 : 0 < ns.length) (hB : Below w0.heap.size w0 w) (hl : ns.length ≤ 1000000) :
  Calls Try.prog 106 #[v] w fun e w' => ∃ xv v' g, e = .returned (.tuple #[.agg #[.int .i64 (pickOf ns).1, xv], v']) ∧ SymR w' bo xv (pickOf ns).2 ∧ NodesS w' w0.heap.size bo v' (restOf ns) ∧ Below w0.heap.size w0 w' ∧ v.ownBlock = some g ∧ g < w.heap.size ∧ w.grownBy w' (some g) ∧ v'.ownBlock = some g ∧ ∃ cs, w.heap[g]? = some (.cells cs 133 (0, 0)) := by
 obtain ⟨l, h1, h2⟩ := hN
 obtain ⟨g, c, e, _, hgl, hgt⟩ := Kd.R_form h1 (by rw [nodeRows_length, h2.1]; exact h0)
 subst e
 rw [nodeRows_length] at *
 have hw := h2.weights
 refine (tree_least g c l w0 w (by rw [Nodes]; exact h1) (by rw [h2.1]; exact h0) hB (by rw [h2.1]; exact hl) (fun x hx => ?_)).mono ?_
 ·obtain ⟨j, hj⟩ := List.mem_iff_getElem?.1 hx
  have hjl : j < l.length := (List.getElem?_eq_some_iff.1 hj).1
  obtain ⟨A, c', e⟩ := Kd.R_slice (h2.2 j x _ hj (List.getElem?_eq_getElem (by rw [← h2.1]; exact hjl))).2
  exact ⟨A, _, c', e⟩
 ·rintro e w' ⟨x, hx, rfl, hN', hB', hg⟩
  rw [hw] at hx hN'
  obtain ⟨hl1, hp⟩ := pick_mem ns h0
  have hxy := h2.2 _ x _ hx (List.getElem?_eq_getElem hl1)
  rw [← hp] at hxy
  have hgt' : ∀ g', some g = some g' → ∃ cs, w.heap[g']? = some (.cells cs 133 (0, 0)) := fun g' e => by injection e with e; subst e; exact hgt
  have hS := (h2.erase _ hl1).grown hg hgt'
  refine ⟨x.2, _, g, by rw [hxy.1], ?_, ⟨_, hN', hS⟩, hB', by simp [Value.ownBlock], hgl, hg, by simp [Value.ownBlock], hgt⟩
  refine hxy.2.keep (fun k cells _ hk hc => hg.block k hk (fun e => ?_))
  obtain ⟨cs, h5⟩ := hgt' k e.symm
  rw [hc] at h5
  injection h5 with h5
  injection h5 with _ h6
  exact absurd h6 (by decide)
theorem lit_row (w : World) (bo : Nat) (i : Int) (hb : bo ≤ w.heap.size) : SymR (w.alloc (.cells #[.int .i64 i] 3)) bo (.slice (some ⟨w.heap.size, 0, none⟩) 1 1) [i] := by
 refine ⟨fun _ _ => trivial, [.int .i64 i], ⟨rfl, .inr ⟨w.heap.size, 1, #[.int .i64 i], rfl, hb, Array.getElem?_push_size, Nat.le_refl _, by decide, rfl, rfl⟩⟩, rfl, fun j p hj => ?_⟩
 cases j with
 | zero =>
  simp at hj
  subst hj
  rfl
 | succ j => simp at hj
theorem node_info : (Try.prog.info? 133).map (fun i => (i.zero, i.size, i.bytes)) = some (some (.agg #[.int .i64 0, .slice none 0 0]), 2, 32) := by kernel_rfl
/-- A node put behind the others. -/
theorem NodesS.snoc {w w1 : World} {base bo : Nat} {v v1 : Value} {l : List (Int × Value)} {ns : List (Int × List Int)} {x : Int × Value} {y : Int × List Int} (h1 : Nodes w base v l) (h : Symss w bo l ns) (hN : (Kd.raw 2).R 133 w1 base (fun _ => True) v1 (nodeRows l ++ [nodeCells x])) (hg : w.grownBy w1 v.ownBlock) (hx : x.1 = y.1 ∧ SymR w bo x.2 y.2) : NodesS w1 base bo v1 (ns ++ [y]) := by
 refine ⟨l ++ [x], ?_, (h.snoc hx).grown hg (nodes_type h1)⟩
 rw [Nodes, nodeRows, List.map_append]
 exact hN
/-- All blocks of ints are as they were. -/
def Keeps (w w1 : World) : Prop := w.heap.size ≤ w1.heap.size ∧ ∀ (k : Nat) (cells : Array Value), k < w.heap.size → w.heap[k]? = some (.cells cells 3 (0, 0)) → w1.heap[k]? = w.heap[k]?
theorem Keeps.trans {a b c : World} (h : Keeps a b) (k : Keeps b c) : Keeps a c :=
 ⟨Nat.le_trans h.1 k.1, fun i cells hi hc => (k.2 i cells (Nat.lt_of_lt_of_le hi h.1) ((h.2 i cells hi hc).trans hc)).trans (h.2 i cells hi hc)⟩
theorem Keeps.below {w w1 : World} (hb : Below w.heap.size w w1) : Keeps w w1 := ⟨hb.size, fun k _ hk _ => hb.block k hk⟩
theorem not_both {w : World} {k g : Nat} {cells cs : Array Value} (hc : w.heap[k]? = some (.cells cells 3 (0, 0))) (hg : w.heap[g]? = some (.cells cs 133 (0, 0))) : k ≠ g := by
 rintro rfl
 rw [hc] at hg
 injection hg with hg
 injection hg with _ h3
 exact absurd h3 (by decide)
theorem Keeps.grown {w w1 : World} {g : Nat} (hg : w.grownBy w1 (some g)) (hr : ∃ cs, w.heap[g]? = some (.cells cs 133 (0, 0))) : Keeps w w1 := by
 obtain ⟨cs, hr⟩ := hr
 exact ⟨hg.size, fun k cells hk hc => hg.block k hk (fun e => by injection e with e; exact not_both hc hr e)⟩
theorem Keeps.set {w : World} {b : Nat} {cs : Array Value} (hb : w.heap[b]? = some (.cells cs 133 (0, 0))) (j : Nat) (u : Value) : Keeps w (w.setCell ⟨b, j, none⟩ u) :=
 ⟨by simp [World.setCell], fun k cells _ hc => Below.heap_setCell w ⟨b, j, none⟩ u k (not_both hc hb)⟩
theorem SymR.keeps {w w1 : World} {bo : Nat} {v : Value} {s : List Int} (h : SymR w bo v s) (hk : Keeps w w1) : SymR w1 bo v s := h.keep (fun k cells _ hlt hc => hk.2 k cells hlt hc)
theorem NodesS.keeps {w w1 : World} {base bo : Nat} {v : Value} {ns : List (Int × List Int)} (h : NodesS w base bo v ns) (hk : Keeps w w1) (hv : ∀ k, v.ownBlock = some k → w1.heap[k]? = w.heap[k]?) : NodesS w1 base bo v ns := by
 obtain ⟨l, h1, h2⟩ := h
 exact ⟨l, Kd.raw_any (Kd.R_move (Kd.raw_tight h1) (fun k hk => hv k hk.symm)), h2.keep (fun k cells _ hlt hc => hk.2 k cells hlt hc)⟩
theorem NodesS.lt {w : World} {base bo : Nat} {v : Value} {ns : List (Int × List Int)} (h : NodesS w base bo v ns) {g : Nat} (hv : v.ownBlock = some g) : g < w.heap.size := by
 obtain ⟨l, h1, h2⟩ := h
 exact Kd.R_lt h1 g hv
/-- A node laid into a variable's block. -/
theorem node_put {w : World} {b : Nat} {cs : Array Value} (hb : w.heap[b]? = some (.cells cs 133 (0, 0))) (hs : cs = #[.int .i64 0, .slice none 0 0]) (u v : Value) :
  ((w.setCell ⟨b, 0, none⟩ u).setCell ⟨b, 1, none⟩ v).heap[b]? = some (.cells #[u, v] 133 (0, 0)) := by
 subst hs
 exact blk_put (cs := #[u, .slice none 0 0]) (blk_put (cs := #[.int .i64 0, .slice none 0 0]) hb 0 _ rfl) 1 _ rfl
set_option maxHeartbeats 8000000 in
set_option maxRecDepth 100000 in
theorem once_calls (A0 : Option Addr) (c0 : Nat) (l0 : List Int) (w : World) (hr0 : Kd.C (Kd.int .i64) w A0 l0.length l0) (hc0 : l0.length ≤ c0) (hl : l0.length ≤ 300) :
  Calls Try.prog 90 #[.slice A0 l0.length c0] w fun e w' => ∃ v, e = .returned v ∧ Kd.R (Kd.int .i64) 3 w' w.heap.size (fun _ => True) v (onceOf l0) ∧ Below w.heap.size w w' := by
 have HR := Aside0.mk hr0
 have HC := Aside0.mk hc0
 obtain ⟨L, hL⟩ : ∃ L, L = l0.length := ⟨_, rfl⟩
 have HL := Aside0.mk hL
 rw [← hL] at hl ⊢
 clear hr0 hc0 hL
 go_enter Try.func90, Try.ntmps90
 go_wp2_with (refine Kd.R_make (Kd.int .i64) (w0 := w) w.heap.size 3 rfl rfl 32 (.tmp 13) (.tmp 13) rfl (L : Int) rfl rfl Try.underlying32 (.int .i64 0) 8 info3 rfl (by decide) (by decide) (0 : Int) (ok := fun _ => True) (okp := fun _ => False) rfl (fun _ hk => hk.elim) trivial (by omega) (by omega) (Below.refl _ _) (Nat.le_refl _) ?_; intro v1 wB ho hb hg hat; (have HO := Aside0.mk ho); (have HB := Aside0.mk hb); (have HG := Aside0.mk hg); (have HAT := Aside0.mk hat); clear ho hb hg hat)
 rw [Int.toNat_natCast] at HO
 go_loopg [4, 17] L (fun kq v4 v17 w' => ∃ i : Nat, i ≤ L ∧ v17 = .int .i64 i ∧ Aside0 (kq + i = L) ∧ Aside0 (NodesS w' wB.heap.size wB.heap.size v4 (leafs l0 i)) ∧ Aside0 (Below wB.heap.size wB w'))
 case atStart => exact ⟨0, by omega, rfl, ⟨rfl⟩, ⟨[], Kd.R_nil _ _ _ _ _, rfl, fun j x y hx _ => by simp at hx⟩, ⟨Below.refl _ _⟩⟩
 case round =>
  obtain ⟨i, hi, rfl, HK, HN, HBr⟩ := hrel
  by_cases hlt : i < L
  ·have HBw := Aside0.mk (show Below w.heap.size w wr from below_then HB.out HB.out.size HBr.out)
   obtain ⟨ad, rfl, hcell⟩ := Kd.at_int (Kd.C_below HR.out HBw.out) (i : Int) (by omega) (by rw [← HL.out]; omega)
   have e : rd l0 (i : Int) = l0.getD i 0 := by unfold rd; rw [Int.toNat_natCast]
   rw [Int.toNat_natCast, e] at hcell
   have HS := Aside0.mk (leafs_succ l0 i)
   generalize l0.getD i 0 = x at hcell HS
   clear e
   by_cases hx : 0 < x
   ·have hd : decide (0 < x) = true := decide_eq_true hx
    obtain ⟨A4, c4, e4, hc4⟩ := HN.out.length
    subst e4
    obtain ⟨l, hNl, hSl⟩ := HN.out
    have HW2 := Aside0.mk (show Below wr.heap.size wr (wr.alloc (Obj.cells #[Value.int IntKind.i64 (i : Int)] 3)) from (Below.refl _ _).alloc (Nat.le_refl _) _)
    have HNl := Aside0.mk (show Nodes (wr.alloc (Obj.cells #[Value.int IntKind.i64 (i : Int)] 3)) wB.heap.size _ l from Kd.R_below hNl HW2.out)
    have HSl := Aside0.mk (show Symss (wr.alloc (Obj.cells #[Value.int IntKind.i64 (i : Int)] 3)) wB.heap.size l _ from hSl.keep (fun k _ _ hk _ => HW2.out.block k hk))
    have HLit := Aside0.mk (lit_row wr wB.heap.size (i : Int) HBr.out.size)
    have HB2 := Aside0.mk (show Below wB.heap.size wB (wr.alloc (Obj.cells #[Value.int IntKind.i64 (i : Int)] 3)) from below_then HBr.out HBr.out.size HW2.out)
    have HLL := Aside0.mk (show l.length ≤ 300 from by have := (leafs_good l0 i (by have := HL.out; omega)).1; have := hSl.1; omega)
    clear hNl hSl
    go_wp2_with ((with_reducible refine gate_builtin (b := .append) (xs := #[.tmp 24, .tmp 29]) rfl ?_); at_builtin; refine Kd.R_append (Kd.raw 2) (w0 := wB) wB.heap.size rfl (.tmp 24) (.tmp 29) 131 133 (.agg #[.int .i64 0, .slice none 0 0]) 32 rfl Try.underlying131 node_info rfl (by decide) (by decide) (.slice A4 (leafs l0 i).length c4) (nodeRows l) (nodeCells (x, .slice (some ⟨wr.heap.size, 0, none⟩) 1 1)) (nodeCells (x, .slice (some ⟨wr.heap.size, 0, none⟩) 1 1)) (fun _ => True) (fun _ => False) rfl (by simp; rfl) ⟨rfl, rfl, by intro u hu; simp [nodeCells] at hu; rcases hu with rfl | rfl <;> rfl⟩ (fun _ hk => hk.elim) (fun _ _ => trivial) HNl.out HB2.out HB2.out.size (by rw [nodeRows_length]; have := HLL.out; omega) ?_; intro v5 w5 ho hb hg hat; (have HN5 := Aside0.mk (And.intro ho (And.intro hb hg))); clear ho hb hg hat)
    obtain ⟨ho, hb, hg⟩ := HN5.out
    have HN6 := Aside0.mk (NodesS.snoc (y := (x, [(i : Int)])) HNl.out HSl.out ho hg ⟨rfl, HLit.out⟩)
    go_roundg (gk - 1)
    case measure => have := HK.out; omega
    case rel => exact ⟨i + 1, by omega, by go_num, ⟨by have := HK.out; omega⟩, ⟨by rw [HS.out, if_pos hx]; exact HN6.out⟩, ⟨hb⟩⟩
   ·have hd : decide (0 < x) = false := decide_eq_false hx
    go_wp2_with fail
    go_roundg (gk - 1)
    case measure => have := HK.out; omega
    case rel => exact ⟨i + 1, by omega, by go_num, ⟨by have := HK.out; omega⟩, ⟨by rw [HS.out, if_neg (by omega), List.append_nil]; exact HN.out⟩, HBr⟩
  ·have hiL : i = L := by omega
   subst hiL
   obtain ⟨ns, hns⟩ : ∃ ns, ns = leafs l0 i := ⟨_, rfl⟩
   rw [← hns] at HN
   have HNS := Aside0.mk hns
   have HGd := Aside0.mk (show Good i ns from by
    have := leafs_good l0 i (by rw [HL.out]; exact Nat.le_refl _)
    rw [← hns, ← HL.out] at this
    exact this)
   clear hns
   obtain ⟨A4, c4, e4, hc4⟩ := HN.out.length
   subst e4
   go_upto_if 34 with fail
   go_cut [34] (fun v34 wc => ∃ k out, Aside0 (onceFrom k ns out = onceOf l0 ∧ ns.length ≤ k + 1) ∧ Aside0 (Kd.R (Kd.int .i64) 3 wc w.heap.size (fun _ => True) v1 out ∧ out.length = i) ∧ Aside0 (NodesS wc w.heap.size wB.heap.size (.slice A4 ns.length c4) ns) ∧ Aside0 (Below w.heap.size w wc) ∧ Aside0 (wB.heap.size ≤ wc.heap.size))
   case first =>
    have HOr := Aside0.mk (Kd.R_below HO.out HBr.out)
    have HBw := Aside0.mk (show Below w.heap.size w wr from below_then HB.out HB.out.size HBr.out)
    by_cases h1 : ns.length = 1
    ·have hd : ((ns.length : Int) == 1) = true := by rw [beq_iff_eq]; omega
     obtain ⟨l, hNl, hSl⟩ := HN.out
     obtain ⟨go, co, e1, hgo1, hgo2, ocs, hocs⟩ := Kd.R_form HO.out (by rw [List.length_replicate]; have := HGd.out.1; omega)
     rw [List.length_replicate] at e1
     subst e1
     obtain ⟨g, c, e, _, _, _⟩ := Kd.R_form hNl (by rw [nodeRows_length, hSl.1]; omega)
     injection e with e _ ec
     subst e
     obtain ⟨y, hy⟩ : ∃ y, ns[0]? = some y := ⟨_, List.getElem?_eq_getElem (by omega)⟩
     obtain ⟨x, hx⟩ : ∃ x, l[0]? = some x := ⟨_, List.getElem?_eq_getElem (by rw [hSl.1]; omega)⟩
     obtain ⟨hxy, hsy⟩ := hSl.2 0 x y hx hy
     obtain ⟨hyn, hyb⟩ := HGd.out.2.2 y (List.mem_of_getElem? hy)
     have hn1 := (node_at (Kd.R_reads' hNl).2.2 hx).2
     rw [Nat.zero_mul, Nat.zero_add] at hn1
     have hyl : 0 < y.2.length := List.length_pos_iff.2 hyn
     obtain ⟨gs, cs, es, _, _, _⟩ := Kd.R_form hsy hyl
     rw [es] at hn1 hsy
     have hs1 := (Kd.R_celln (0 : Int) hsy 0 (by omega) (by omega)).1
     have hsb := hyb (rd y.2 0) (by unfold rd; rw [show ((0 : Int)).toNat = 0 from rfl]; rw [List.getD_eq_getElem?_getD, List.getElem?_eq_getElem hyl]; exact List.getElem_mem hyl)
     have hrd : rdOf (0 : Int) y.2 0 = rd y.2 0 := rfl
     rw [hrd, show ((0 : Int)).toNat = 0 from rfl] at hs1
     have HF := Aside0.mk (show onceOf l0 = (List.replicate i 0).set (rd y.2 0).toNat 1 from by
      unfold onceOf
      rw [← HL.out, ← HNS.out, if_pos h1, List.getD_eq_getElem?_getD, hy]
      rfl)
     generalize rd y.2 0 = sv at hs1 hsb HF
     clear hrd
     obtain ⟨hs0, hsi⟩ := hsb
     obtain ⟨hoc, hof⟩ := Kd.R_celln (0 : Int) HOr.out sv hs0 hsi
     have HR2 := Aside0.mk (Kd.R_putn HOr.out sv (1 : Int))
     have hocr := (HBr.out.block go hgo2).trans hocs
     have HN2 := Aside0.mk ((HN.out.far hocr hgo2 sv.toNat (.int .i64 1)).lower HB.out.size)
     have HB2 := Aside0.mk (show Below w.heap.size w (wr.setCell ⟨go, sv.toNat, none⟩ (.int .i64 1)) from HBw.out.setCell (p := ⟨go, sv.toNat, none⟩) hgo1 _)
     have HS2 := Aside0.mk (show wB.heap.size ≤ (wr.setCell ⟨go, sv.toNat, none⟩ (.int .i64 1)).heap.size from by have := HBr.out.size; simp [World.setCell]; omega)
     have hyl2 : (0 : Int) < (y.2.length : Int) := by omega
     have hnl2 : (0 : Int) < (ns.length : Int) := by omega
     clear hy hx hxy hsy hyn hyb hocs hocr hgo1 hgo2 hNl hSl es
     go_wp2_with fail
     go_meet
     case rel => exact ⟨0, _, ⟨HF.out.symm, by omega⟩, ⟨HR2.out, by simp⟩, HN2, HB2, HS2⟩
    ·have hd : ((ns.length : Int) == 1) = false := by rw [beq_eq_false_iff_ne]; omega
     go_wp2_with fail
     go_meet
     case rel => exact ⟨ns.length, List.replicate i 0, ⟨by
      unfold onceOf
      rw [← HL.out, ← HNS.out, if_neg h1], by omega⟩, ⟨HOr.out, by simp⟩, ⟨HN.out.lower HB.out.size⟩, HBw, ⟨HBr.out.size⟩⟩
   case rest =>
    obtain ⟨k0, out0, HF0, HO0, HN0, HB0, HS0⟩ := hcut
    have HGo := Aside0.mk (Kd.R_lt HO.out)
    clear HN HBr HO HAT HG
    go_wp2_with fail
    go_loopg [4] ns.length (fun kq v4 w' => ∃ k ns' out, Aside0 (onceFrom k ns' out = onceOf l0 ∧ ns'.length ≤ k + 1) ∧ Aside0 (kq = ns'.length) ∧ Aside0 (Good i ns') ∧ Aside0 (SymR w' w.heap.size v1 out ∧ out.length = i) ∧ Aside0 (NodesS w' w.heap.size wB.heap.size v4 ns') ∧ Aside0 (Below w.heap.size w w') ∧ Aside0 (wB.heap.size ≤ w'.heap.size))
    case atStart => exact ⟨k0, ns, out0, HF0, ⟨rfl⟩, HGd, HO0, HN0, HB0, HS0⟩
    case round =>
     clear HF0 HO0 HN0 HB0 HS0
     obtain ⟨k, ms, out, HF, HK, HGm, HOm, HNm, HBm, HSm⟩ := hrel
     obtain ⟨A4, c4, e4, hc4⟩ := HNm.out.length
     subst e4
     by_cases h1 : 1 < ms.length
     ·have hd : decide ((1 : Int) < (ms.length : Int)) = true := decide_eq_true (by omega)
      have hd2 : decide (1 < ms.length) = true := decide_eq_true h1
      go_wp2_with fail
      -- the two variables' blocks
      obtain ⟨wA, hwA⟩ : ∃ wA, wA = (wr.alloc (Obj.cells #[Value.int IntKind.i64 0, Value.slice none 0 0] 133)).alloc (Obj.cells #[Value.int IntKind.i64 0, Value.slice none 0 0] 133) := ⟨_, rfl⟩
      have HbA := Aside0.mk (show Below wr.heap.size wr wA from by rw [hwA]; exact ((Below.refl _ _).alloc (Nat.le_refl _) _).alloc (by simp) _)
      have kA : wA.heap[wr.heap.size]? = some (.cells #[.int .i64 0, .slice none 0 0] 133 (0, 0)) := by
       rw [hwA]
       exact blk_alloc (Array.getElem?_push_size) _
      have kB : wA.heap[wr.heap.size + 1]? = some (.cells #[.int .i64 0, .slice none 0 0] 133 (0, 0)) := by
       rw [hwA]
       have h := Array.getElem?_push_size (xs := (wr.alloc (Obj.cells #[Value.int IntKind.i64 0, Value.slice none 0 0] 133)).heap) (x := Obj.cells #[Value.int IntKind.i64 0, Value.slice none 0 0] 133)
       have e : (wr.alloc (Obj.cells #[Value.int IntKind.i64 0, Value.slice none 0 0] 133)).heap.size = wr.heap.size + 1 := by simp
       rw [e] at h
       exact h
      rw [← hwA]
      clear hwA
      have HKp := Aside0.mk (Keeps.below HbA.out)
      have HN1 := Aside0.mk (HNm.out.below HbA.out)
      have HBa := Aside0.mk (show Below w.heap.size w wA from below_then HBm.out HBm.out.size HbA.out)
      refine (least_of wB.heap.size _ ms w wA HN1.out (by omega) HBa.out (by have := HGm.out.1; omega)).mono ?_
      rintro e w1 ⟨xa, va, g, rfl, hsa, hna, hba, hvg, _, hgr, hva, hgt⟩
      have hgl := HNm.out.lt hvg
      obtain ⟨Aa, ca, ea⟩ := Kd.R_slice hsa
      subst ea
      obtain ⟨Av, cv, ev, _⟩ := hna.length
      subst ev
      have kA1 := blk_grown kA hgr (by simp; omega)
      have kB1 := blk_grown kB hgr (by simp; omega)
      have HKp1 := Aside0.mk (HKp.out.trans (Keeps.grown hgr hgt))
      clear kA kB hgr hgt
      have ha1 : w1.cell? ⟨wr.heap.size, 0, none⟩ = some (.int .i64 0) := by rw [cell_of_row w1 _ _ _ _ _ kA1]; rfl
      have ha2 : w1.cell? ⟨wr.heap.size, 1, none⟩ = some (.slice none 0 0) := by rw [cell_of_row w1 _ _ _ _ _ kA1]; rfl
      have hfa1 : w1.frozen? ⟨wr.heap.size, 0, none⟩ = false := blk_frozen kA1 _
      have hfa2 : w1.frozen? ⟨wr.heap.size, 1, none⟩ = false := blk_frozen kA1 _
      have HA1 := Aside0.mk (And.intro kA1 kB1)
      have HS1 := Aside0.mk (And.intro hsa hna)
      have HB1 := Aside0.mk hba
      have HV1 := Aside0.mk (And.intro hva hgl)
      clear kA1 kB1 hsa hna hba hva hgl hvg
      obtain ⟨p1, hp1⟩ : ∃ p, p = pickOf ms := ⟨_, rfl⟩
      obtain ⟨m1, hm1⟩ : ∃ m, m = restOf ms := ⟨_, rfl⟩
      rw [← hp1, ← hm1] at HS1
      rw [← hp1]
      (try rw [← hm1])
      have HP1 := Aside0.mk (And.intro hp1 hm1)
      clear hp1 hm1
      go_wp2_with fail
      clear ha1 ha2 hfa1 hfa2
      obtain ⟨w2, hw2⟩ : ∃ w2, w2 = (w1.setCell ⟨wr.heap.size, 0, none⟩ (.int .i64 p1.1)).setCell ⟨wr.heap.size, 1, none⟩ (.slice Aa p1.2.length ca) := ⟨_, rfl⟩
      have hset : ∀ k, k ≠ wr.heap.size → w2.heap[k]? = w1.heap[k]? := fun k hk => by
       rw [hw2]
       exact (Below.heap_setCell _ ⟨wr.heap.size, 1, none⟩ _ k hk).trans (Below.heap_setCell _ ⟨wr.heap.size, 0, none⟩ _ k hk)
      have kA2 : w2.heap[wr.heap.size]? = some (.cells #[.int .i64 p1.1, .slice Aa p1.2.length ca] 133 (0, 0)) := by
       rw [hw2]
       exact node_put HA1.out.1 rfl _ _
      have kB2 := (hset (wr.heap.size + 1) (by omega)).trans HA1.out.2
      have hk2 : Keeps w1 w2 := by
       rw [hw2]
       exact (Keeps.set HA1.out.1 0 _).trans (Keeps.set (blk_put HA1.out.1 0 _ rfl) 1 _)
      have hbl2 : Below wr.heap.size w1 w2 := by
       rw [hw2]
       exact Below.setCell (p := ⟨wr.heap.size, 1, none⟩) (Below.setCell (p := ⟨wr.heap.size, 0, none⟩) (Below.refl _ _) (Nat.le_refl _) _) (Nat.le_refl _) _
      have hN2 := HS1.out.2.keeps hk2 (fun k hk => hset k (by have h := HV1.out.1; rw [← HP1.out.2] at h; rw [h] at hk; injection hk with hk; have := HV1.out.2; omega))
      have HB2 := Aside0.mk (show Below w.heap.size w w2 from HB1.out.trans ⟨hbl2.os, hbl2.tape, hbl2.output, hbl2.size, fun k hk => hbl2.block k (by have := HBm.out.size; omega)⟩)
      have HSa2 := Aside0.mk (HS1.out.1.keeps hk2)
      have HK2 := Aside0.mk (HKp1.out.trans hk2)
      rw [← hw2]
      clear hw2 hset hk2 hbl2 HS1 HB1 HKp1 HKp HN1 HBa HA1
      have hm1l : m1.length = ms.length - 1 ∧ Good i m1 := by
       have h := rest_good HGm.out (by omega)
       rw [← HP1.out.2] at h
       exact ⟨h.2.1, h.1⟩
      refine (least_of wB.heap.size _ m1 w w2 hN2 (by omega) HB2.out (by have := hm1l.2.1; omega)).mono ?_
      rintro e w3 ⟨xb, vb, g', rfl, hsb, hnb, hbb, hvg, _, hgr, hvb, hgt⟩
      have eg : g' = g := by have h := HV1.out.1; rw [← HP1.out.2] at h; rw [h] at hvg; injection hvg with hvg; exact hvg.symm
      subst eg
      obtain ⟨Ab, cb, eb⟩ := Kd.R_slice hsb
      subst eb
      obtain ⟨Aw, cw, ew, _⟩ := hnb.length
      subst ew
      have hgl := HV1.out.2
      have kA3 := blk_grown kA2 hgr (by simp; omega)
      have kB3 := blk_grown kB2 hgr (by simp; omega)
      have HK3 := Aside0.mk (HK2.out.trans (Keeps.grown hgr hgt))
      have HSa3 := Aside0.mk (HSa2.out.keeps (Keeps.grown hgr hgt))
      have ha1 : w3.cell? ⟨wr.heap.size + 1, 0, none⟩ = some (.int .i64 0) := by rw [cell_of_row w3 _ _ _ _ _ kB3]; rfl
      have ha2 : w3.cell? ⟨wr.heap.size + 1, 1, none⟩ = some (.slice none 0 0) := by rw [cell_of_row w3 _ _ _ _ _ kB3]; rfl
      have hfa1 : w3.frozen? ⟨wr.heap.size + 1, 0, none⟩ = false := blk_frozen kB3 _
      have hfa2 : w3.frozen? ⟨wr.heap.size + 1, 1, none⟩ = false := blk_frozen kB3 _
      have HA3 := Aside0.mk (And.intro kA3 kB3)
      have HS3 := Aside0.mk (And.intro hsb hnb)
      have HB3 := Aside0.mk hbb
      have HV3 := Aside0.mk (And.intro hvb hgl)
      clear kA2 kB2 kA3 kB3 hsb hnb hbb hvb hgl hgr hgt hN2 HSa2 HK2 hvg
      obtain ⟨p2, hp2⟩ : ∃ p, p = pickOf m1 := ⟨_, rfl⟩
      obtain ⟨m2, hm2⟩ : ∃ m, m = restOf m1 := ⟨_, rfl⟩
      rw [← hp2, ← hm2] at HS3
      rw [← hp2]
      (try rw [← hm2])
      have HP2 := Aside0.mk (And.intro hp2 hm2)
      clear hp2 hm2
      go_upto_region 15 with fail
      clear ha1 ha2 hfa1 hfa2
      obtain ⟨w4, hw4⟩ : ∃ w4, w4 = (w3.setCell ⟨wr.heap.size + 1, 0, none⟩ (.int .i64 p2.1)).setCell ⟨wr.heap.size + 1, 1, none⟩ (.slice Ab p2.2.length cb) := ⟨_, rfl⟩
      have hset : ∀ k, k ≠ wr.heap.size + 1 → w4.heap[k]? = w3.heap[k]? := fun k hk => by
       rw [hw4]
       exact (Below.heap_setCell _ ⟨wr.heap.size + 1, 1, none⟩ _ k hk).trans (Below.heap_setCell _ ⟨wr.heap.size + 1, 0, none⟩ _ k hk)
      have kB4 : w4.heap[wr.heap.size + 1]? = some (.cells #[.int .i64 p2.1, .slice Ab p2.2.length cb] 133 (0, 0)) := by
       rw [hw4]
       exact node_put HA3.out.2 rfl _ _
      have kA4 := (hset wr.heap.size (by omega)).trans HA3.out.1
      have hk4 : Keeps w3 w4 := by
       rw [hw4]
       exact (Keeps.set HA3.out.2 0 _).trans (Keeps.set (blk_put HA3.out.2 0 _ rfl) 1 _)
      have hbl4 : Below wr.heap.size w3 w4 := by
       rw [hw4]
       exact Below.setCell (p := ⟨wr.heap.size + 1, 1, none⟩) (Below.setCell (p := ⟨wr.heap.size + 1, 0, none⟩) (Below.refl _ _) (Nat.le_succ _) _) (Nat.le_succ _) _
      have HN4 := Aside0.mk (HS3.out.2.keeps hk4 (fun k hk => hset k (by have h := HV3.out.1; rw [← HP2.out.2] at h; rw [h] at hk; injection hk with hk; have := HV3.out.2; omega)))
      have HB4 := Aside0.mk (show Below w.heap.size w w4 from HB3.out.trans ⟨hbl4.os, hbl4.tape, hbl4.output, hbl4.size, fun k hk => hbl4.block k (by have := HBm.out.size; omega)⟩)
      have HSa4 := Aside0.mk (HSa3.out.keeps hk4)
      have HSb4 := Aside0.mk (HS3.out.1.keeps hk4)
      have HK4 := Aside0.mk (HK3.out.trans hk4)
      have HA4 := Aside0.mk (And.intro kA4 kB4)
      have hg1 : w4.cell? ⟨wr.heap.size, 1, none⟩ = some (.slice Aa p1.2.length ca) := by rw [cell_of_row w4 _ _ _ _ _ kA4]; rfl
      have hg2 : w4.cell? ⟨wr.heap.size + 1, 1, none⟩ = some (.slice Ab p2.2.length cb) := by rw [cell_of_row w4 _ _ _ _ _ kB4]; rfl
      rw [← hw4]
      clear hw4 hset hk4 hbl4 HS3 HB3 HK3 HSa3 HA3 kA4 kB4
      go_wp2_with fail
      obtain ⟨w5, hw5⟩ : ∃ w5, w5 = w4.alloc (Obj.cells #[Value.slice Aa p1.2.length ca, Value.slice Ab p2.2.length cb] 32) := ⟨_, rfl⟩
      have hb5 : Below w4.heap.size w4 w5 := by rw [hw5]; exact (Below.refl _ _).alloc (Nat.le_refl _) _
      have kC : w5.heap[w4.heap.size]? = some (.cells #[Value.slice Aa p1.2.length ca, Value.slice Ab p2.2.length cb] 32 (0, 0)) := by
       rw [hw5]; exact Array.getElem?_push_size
      have hp1 : w5.cell? ⟨w4.heap.size, 0, none⟩ = some (.slice Aa p1.2.length ca) := by rw [cell_of_row w5 _ _ _ _ _ kC]; rfl
      have hp2 : w5.cell? ⟨w4.heap.size, 1, none⟩ = some (.slice Ab p2.2.length cb) := by rw [cell_of_row w5 _ _ _ _ _ kC]; rfl
      rw [← hw5]
      have HBth := Aside0.mk (show bothOf ms = p1.2 ++ p2.2 from by unfold bothOf; rw [← HP1.out.2, ← HP2.out.1, ← HP1.out.1])
      have HMg := Aside0.mk (merge_good HGm.out h1)
      have hra := Kd.R_reads' (HSa4.out.below hb5)
      have hrb := Kd.R_reads' (HSb4.out.below hb5)
      have hln : p1.2.length + p2.2.length ≤ 300 := by
       have h := HMg.out.2.2.1
       rw [HBth.out, List.length_append] at h
       omega
      refine (concat_two w4.heap.size Aa Ab ca cb p1.2 p2.2 w5 hp1 hp2 hra.2.2 hrb.2.2 hra.2.1 hrb.2.1 (by omega)).mono ?_
      rintro e w6 ⟨v9, rfl, h9, hb9⟩
      have hb6 : Below w4.heap.size w4 w6 := below_then hb5 hb5.size hb9
      have hs4 : wr.heap.size + 1 < w4.heap.size := by
       have h := (Array.getElem?_eq_some_iff.1 HA4.out.2).1
       exact h
      have HA6 := Aside0.mk (And.intro ((hb6.block _ (by omega)).trans HA4.out.1) ((hb6.block _ hs4).trans HA4.out.2))
      have HB6 := Aside0.mk (show Below w.heap.size w w6 from below_then HB4.out HB4.out.size hb6)
      have HN6 := Aside0.mk (HN4.out.below hb6)
      have HO6 := Aside0.mk (HOm.out.1.keeps (HK4.out.trans (Keeps.below hb6)))
      have HSz := Aside0.mk (show wB.heap.size ≤ w6.heap.size from by have := HSm.out; have := hb6.size; omega)
      rw [← HBth.out] at h9
      have H9 := Aside0.mk (show SymR w6 wB.heap.size v9 (bothOf ms) from Kd.R_lower h9 (by have := HSm.out; have := hb5.size; omega))
      clear hp1 hp2 hg1 hg2 kC hw5 hra hrb h9 hb9 hb6 hs4 hb5 HA4 HB4 HN4 HSa4 HSb4 HK4
      obtain ⟨A9, c9, e9⟩ := Kd.R_slice H9.out
      subst e9
      obtain ⟨bo, hbo⟩ : ∃ b, b = bothOf ms := ⟨_, rfl⟩
      rw [← hbo] at H9 HMg
      rw [← hbo]
      have HBo := Aside0.mk hbo
      clear hbo
      obtain ⟨LB, hLB⟩ : ∃ n, n = bo.length := ⟨_, rfl⟩
      rw [← hLB]
      have HLB := Aside0.mk hLB
      have hLB3 : LB ≤ 300 := by have := HMg.out.2.2.1; omega
      clear hLB
      go_wp2_with fail
      obtain ⟨wr0, ewr0⟩ : ∃ x, x = wr := ⟨_, rfl⟩
      subst ewr0
      obtain ⟨gk0, egk0⟩ : ∃ x, x = gk := ⟨_, rfl⟩
      subst egk0
      go_loopg [64] LB (fun kq v64 w' => ∃ j : Nat, j ≤ LB ∧ v64 = .int .i64 j ∧ Aside0 (kq + j = LB) ∧ Aside0 (SymR w' w.heap.size v1 (bump out (bo.take j))) ∧ Aside0 (NodesS w' w.heap.size wB.heap.size (.slice Aw m2.length cw) m2) ∧ Aside0 (SymR w' wB.heap.size (.slice A9 LB c9) bo) ∧ Aside0 (w'.heap[wr0.heap.size]? = some (.cells #[.int .i64 p1.1, .slice Aa p1.2.length ca] 133 (0, 0)) ∧ w'.heap[wr0.heap.size + 1]? = some (.cells #[.int .i64 p2.1, .slice Ab p2.2.length cb] 133 (0, 0))) ∧ Aside0 (Below w.heap.size w w') ∧ Aside0 (wB.heap.size ≤ w'.heap.size))
      case atStart => exact ⟨0, by omega, rfl, ⟨by omega⟩, HO6, HN6, ⟨HLB.out ▸ H9.out⟩, HA6, HB6, HSz⟩
      case round =>
       clear HO6 HN6 HA6 HB6 HSz H9
       obtain ⟨j, hj, rfl, HKj, HO7, HN7, H97, HA7, HB7, HS7⟩ := hrel
       by_cases hjl : j < LB
       ·obtain ⟨ad9, e9, hcell⟩ := Kd.at_int (Kd.R_reads' H97.out).2.2 (j : Int) (by omega) (by rw [← HLB.out]; omega)
        subst e9
        rw [Int.toNat_natCast] at hcell
        have HBt := Aside0.mk (bump_take out bo j (by rw [← HLB.out]; exact hjl))
        have hsv := HMg.out.2.2.2 (rd bo (j : Int)) (by unfold rd; rw [Int.toNat_natCast, List.getD_eq_getElem?_getD, List.getElem?_eq_getElem (by rw [← HLB.out]; exact hjl)]; exact List.getElem_mem _)
        generalize rd bo (j : Int) = sv at hcell HBt hsv
        obtain ⟨hs0, hsi⟩ := hsv
        have hol : (bump out (bo.take j)).length = i := by rw [bump_length]; exact HOm.out.2
        obtain ⟨o7, ho7⟩ : ∃ o, o = bump out (bo.take j) := ⟨_, rfl⟩
        rw [← ho7] at HO7 hol HBt
        clear ho7
        obtain ⟨go, co, ev1, hgo1, hgo2, ocs, hocs⟩ := Kd.R_form HO7.out (by rw [hol]; omega)
        rw [hol] at ev1
        have hgB := HGo.out go (by rw [ev1]; simp [Value.ownBlock])
        have HO8 := HO7.out
        rw [ev1] at HO8
        obtain ⟨hoc, hof⟩ := Kd.R_celln (0 : Int) HO8 sv hs0 hsi
        have hrd : rdOf (0 : Int) o7 sv = rd o7 sv := rfl
        rw [hrd] at hoc
        clear hrd
        have HV1' := Aside0.mk ev1
        generalize hov : rd o7 sv = ov at hoc HBt
        clear hov
        rw [ev1]
        clear ev1
        go_wp2_with fail
        rw [← HV1'.out]
        have HO9 := Aside0.mk (show SymR (wr.setCell ⟨go, sv.toNat, none⟩ (.int .i64 (wrap64 (ov + 1)))) w.heap.size v1 (bump out (bo.take (j + 1))) from by
         rw [HBt.out, HV1'.out]
         exact Kd.R_putn HO8 sv (wrap64 (ov + 1)))
        have HN9 := Aside0.mk (HN7.out.far hocs hgB sv.toNat (.int .i64 (wrap64 (ov + 1))))
        have H99 := Aside0.mk (H97.out.keep (w1 := wr.setCell ⟨go, sv.toNat, none⟩ (.int .i64 (wrap64 (ov + 1)))) (fun k _ hk _ _ => Below.heap_setCell wr ⟨go, sv.toNat, none⟩ _ k (by show k ≠ go; omega)))
        have HA9 := Aside0.mk (And.intro ((Below.heap_setCell wr ⟨go, sv.toNat, none⟩ (.int .i64 (wrap64 (ov + 1))) wr0.heap.size (Ne.symm (not_both hocs HA7.out.1))).trans HA7.out.1) ((Below.heap_setCell wr ⟨go, sv.toNat, none⟩ (.int .i64 (wrap64 (ov + 1))) (wr0.heap.size + 1) (Ne.symm (not_both hocs HA7.out.2))).trans HA7.out.2))
        have HB9 := Aside0.mk (HB7.out.setCell (p := ⟨go, sv.toNat, none⟩) hgo1 (.int .i64 (wrap64 (ov + 1))))
        go_roundg (gk - 1)
        case measure => have := HKj.out; omega
        case rel => exact ⟨j + 1, by omega, by go_num, ⟨by have := HKj.out; omega⟩, HO9, HN9, H99, HA9, HB9, ⟨by have := HS7.out; simp [World.setCell]; omega⟩⟩
       ·have hjL : j = LB := by omega
        subst hjL
        rw [List.take_of_length_le (by rw [← HLB.out]; exact Nat.le_refl _)] at HO7
        have ha1 : wr.cell? ⟨wr0.heap.size, 0, none⟩ = some (.int .i64 p1.1) := by rw [cell_of_row wr _ _ _ _ _ HA7.out.1]; rfl
        have hb1 : wr.cell? ⟨wr0.heap.size + 1, 0, none⟩ = some (.int .i64 p2.1) := by rw [cell_of_row wr _ _ _ _ _ HA7.out.2]; rfl
        obtain ⟨l, hNl, hSl⟩ := HN7.out
        have HNl := Aside0.mk hNl
        have HSl := Aside0.mk hSl
        have HLL := Aside0.mk (show l.length ≤ 300 from by
         have h := rest_good (rest_good HGm.out (by omega)).1 (by have := (rest_good HGm.out (by omega)).2.1; omega)
         rw [← HP1.out.2, ← HP2.out.2] at h
         have h2 := h.1.1
         have h3 := hSl.1
         omega)
        clear hNl hSl
        go_wp2_with ((with_reducible refine gate_builtin (b := .append) (xs := #[.tmp 75, .tmp 83]) rfl ?_); at_builtin; refine Kd.R_append (Kd.raw 2) (w0 := w) w.heap.size rfl (.tmp 75) (.tmp 83) 131 133 (.agg #[.int .i64 0, .slice none 0 0]) 32 rfl Try.underlying131 node_info rfl (by decide) (by decide) (.slice Aw m2.length cw) (nodeRows l) (nodeCells (wrap64 (p1.1 + p2.1), .slice A9 j c9)) (nodeCells (wrap64 (p1.1 + p2.1), .slice A9 j c9)) (fun _ => True) (fun _ => False) rfl rfl ⟨rfl, rfl, by intro u hu; simp [nodeCells] at hu; rcases hu with rfl | rfl <;> rfl⟩ (fun _ hk => hk.elim) (fun _ _ => trivial) HNl.out HB7.out HB7.out.size (by rw [nodeRows_length]; have := HLL.out; omega) ?_; intro v5 w7 ho hb hg hat; (have HNw := Aside0.mk (And.intro ho (And.intro hb hg))); clear ho hb hg hat)
        obtain ⟨ho, hb, hg⟩ := HNw.out
        have HN8 := Aside0.mk (NodesS.snoc (y := (wrap64 (p1.1 + p2.1), bo)) HNl.out HSl.out ho hg ⟨rfl, H97.out⟩)
        have hk8 : Keeps wr w7 := by
         refine ⟨hg.size, fun k cells hk hc => hg.block k hk (fun e => ?_)⟩
         obtain ⟨cs, h5⟩ := nodes_type HNl.out k e.symm
         exact not_both hc h5 rfl
        have HO8 := Aside0.mk (HO7.out.keeps hk8)
        have hmg : mergeOf ms = m2 ++ [(wrap64 (p1.1 + p2.1), bo)] := by
         unfold mergeOf
         rw [← HBo.out, ← HP1.out.2, ← HP2.out.2, ← HP2.out.1, ← HP1.out.1]
        obtain ⟨k', hk'⟩ : ∃ k', k = k' + 1 := ⟨k - 1, by have := HF.out.2; omega⟩
        have hF2 : onceFrom k' (mergeOf ms) (bump out bo) = onceOf l0 := by
         have h := HF.out.1
         rw [hk'] at h
         unfold onceFrom at h
         rw [if_pos h1, ← HBo.out] at h
         exact h
        go_roundg (gk0 - 1)
        case measure => have := HK.out; omega
        case rel => exact ⟨k', mergeOf ms, bump out bo, ⟨hF2, by have h := HMg.out.2.1; have := HF.out.2; omega⟩, ⟨by have h := HMg.out.2.1; have := HK.out; omega⟩, ⟨HMg.out.1⟩, ⟨HO8.out, by rw [bump_length]; exact HOm.out.2⟩, ⟨by rw [hmg]; exact HN8.out⟩, ⟨hb⟩, ⟨by have := HS7.out; have := hg.size; omega⟩⟩
     ·have hd : decide ((1 : Int) < (ms.length : Int)) = false := decide_eq_false (by omega)
      have hd2 : decide (1 < ms.length) = false := decide_eq_false h1
      go_wp2_with fail
      go_ret
      exact ⟨v1, rfl, by rw [← HF.out.1, onceFrom_end k ms out h1]; exact HOm.out.1, HBm.out⟩
/-! ### slices_Max_int_int: function 91 (by hand) -/
/-- The greatest one of a row that is not empty. -/
def maxOf (m : Int) : List Int → Int
 | [] => m
 | x :: xs => maxOf (if m < x then x else m) xs
theorem maxOf_snoc (x : Int) : ∀ (m : Int) (xs : List Int), maxOf m (xs ++ [x]) = if maxOf m xs < x then x else maxOf m xs
 | m, [] => rfl
 | m, y :: ys => maxOf_snoc x _ ys
theorem maxOf_step (x0 : Int) (xs : List Int) (i : Nat) (h1 : 1 ≤ i) (h : i < (x0 :: xs).length) : (if maxOf x0 (xs.take (i - 1)) < rd (x0 :: xs) (i : Int) then rd (x0 :: xs) (i : Int) else maxOf x0 (xs.take (i - 1))) = maxOf x0 (xs.take (i + 1 - 1)) := by
 obtain ⟨j, rfl⟩ : ∃ j, i = j + 1 := ⟨i - 1, by omega⟩
 have hlen : j < xs.length := by simp at h; exact h
 have e : rd (x0 :: xs) ((j + 1 : Nat) : Int) = xs[j] := by
  unfold rd
  rw [Int.toNat_natCast, List.getD_eq_getElem?_getD, List.getElem?_cons_succ, List.getElem?_eq_getElem hlen]; rfl
 rw [e, Nat.add_sub_cancel, Nat.add_sub_cancel, List.take_succ_eq_append_getElem hlen, maxOf_snoc]
def slices_Max_int_int.f (l0 : List Int) : Option (Int) := match l0 with
 | [] => none
 | x :: xs => some (maxOf x xs)
set_option maxHeartbeats 8000000 in
set_option maxRecDepth 100000 in
theorem slices_Max_int_int.calls (A0 : Option Addr) (c0 : Nat) (l0 : List Int) (r : Int) (w : World) (hr0 : Kd.C (Kd.int .i64) w A0 l0.length l0) (hc0 : l0.length ≤ c0) (h : slices_Max_int_int.f l0 = some r) :
  Calls Try.prog 91 #[.slice A0 l0.length c0] w fun e w' => e = .returned (.int .i64 r) ∧ Below w.heap.size w w' := by
 cases l0 with
 | nil => simp [slices_Max_int_int.f] at h
 | cons x0 xs =>
  unfold slices_Max_int_int.f at h
  injection h with h
  have HR := Aside0.mk hr0
  have HC := Aside0.mk hc0
  obtain ⟨L, hL⟩ : ∃ L, L = (x0 :: xs).length := ⟨_, rfl⟩
  have hL1 : 1 ≤ L := by rw [hL]; simp
  have hLm : L ≤ 9223372036854775807 := by rw [hL]; exact hr0.2.1
  have HL := Aside0.mk hL
  have H := Aside0.mk h
  rw [← hL]
  clear hr0 hc0 h hL
  have hlt1 : decide ((L : Int) < 1) = false := decide_eq_false (by omega)
  have hlt2 : decide (L < 1) = false := decide_eq_false (by omega)
  obtain ⟨ad, rfl, hcell0⟩ := Kd.at_int HR.out 0 (by omega) (by rw [← HL.out]; omega)
  rw [show rd (x0 :: xs) 0 = x0 from rfl, show ((0 : Int)).toNat = 0 from rfl, show ad.add 0 = ad from by unfold Addr.add; simp] at hcell0
  have hpos : (0 : Int) < (L : Int) := by omega
  go_enter Try.func91, Try.ntmps91
  go_wp2_with fail
  clear hcell0
  go_loop [3, 4] (fun v3 v4 => ∃ i : Nat, 1 ≤ i ∧ i ≤ L ∧ v3 = .int .i64 (maxOf x0 (xs.take (i - 1))) ∧ v4 = .int .i64 i) (fun _ v4 => L - (intOf v4).toNat)
  case atStart => exact ⟨1, by omega, by omega, rfl, rfl⟩
  case round =>
   obtain ⟨i, hi1, hi2, rfl, rfl⟩ := hrel
   by_cases hlt : i < L
   ·obtain ⟨ad2, e2, hcell⟩ := Kd.at_int HR.out (i : Int) (by omega) (by rw [← HL.out]; omega)
    injection e2 with e2
    subst e2
    obtain ⟨y, hy⟩ : ∃ y, y = rd (x0 :: xs) (i : Int) := ⟨_, rfl⟩
    rw [← hy, Int.toNat_natCast] at hcell
    obtain ⟨m, hm⟩ : ∃ m, m = maxOf x0 (xs.take (i - 1)) := ⟨_, rfl⟩
    rw [← hm]
    have HM := Aside0.mk (maxOf_step x0 xs i hi1 (by rw [← HL.out]; exact hlt))
    rw [← hm, ← hy] at HM
    clear hm hy
    have hmx := max2_int .i64 .i64 m y
    go_wp2_with fail
    exact ⟨⟨i + 1, by omega, by omega, by rw [HM.out], by go_num⟩, by simp [intOf]; omega⟩
   ·have hi3 : i = L := by omega
    subst hi3
    go_wp2_with fail
    go_ret
    refine ⟨?_, Below.refl _ _⟩
    rw [← H.out, List.take_of_length_le (by have := HL.out; simp at this; omega)]
    rfl

/-! ### tree_Lengths: function 64 (by hand) -/
theorem clone_calls (A0 : Option Addr) (c0 : Nat) (l0 : List Int) (w : World) (hr0 : Kd.C (Kd.int .i64) w A0 l0.length l0) (hc0 : l0.length ≤ c0) (h : l0.length < 17592186044416) :
  Calls Try.prog 89 #[.slice A0 l0.length c0] w fun e w' => ∃ v0_ : Value, e = .returned (v0_) ∧ Kd.R (Kd.int .i64) 3 w' w.heap.size (fun _ => True) v0_ l0 ∧ Below w.heap.size w w' :=
 slices_Clone_int_int.calls A0 c0 l0 l0 w hr0 hc0 (by unfold slices_Clone_int_int.f; rw [if_pos h])
theorem max_calls (A0 : Option Addr) (c0 : Nat) (x : Int) (xs : List Int) (w : World) (hr0 : Kd.C (Kd.int .i64) w A0 (x :: xs).length (x :: xs)) (hc0 : (x :: xs).length ≤ c0) :
  Calls Try.prog 91 #[.slice A0 (x :: xs).length c0] w fun e w' => e = .returned (.int .i64 (maxOf x xs)) ∧ Below w.heap.size w w' :=
 slices_Max_int_int.calls A0 c0 (x :: xs) (maxOf x xs) w hr0 hc0 rfl
/-- Each weight above 0 halved, rounded up. -/
def halved (ws : List Int) : List Int := ws.map (fun w => if 0 < w then wrap64 ((wrap64 (w + 1)).tdiv 2) else w)
def topOf : List Int → Int
 | [] => 0
 | x :: xs => maxOf x xs
def lensFrom : Nat → List Int → Int → Option (List Int)
 | 0, _, _ => none
 | k + 1, ws, lim => if (onceOf ws).length = 0 ∨ topOf (onceOf ws) ≤ lim then some (onceOf ws) else lensFrom k (halved ws) lim
def lensOf (l0 : List Int) (a1 : Int) : Option (List Int × Int) :=
 if weighs l0 = false ∨ a1 > 15 ∨ a1 < 5 ∨ (a1 < 9 ∧ pos l0 > 19) then some ([], 1) else (lensFrom 32 l0 a1).map (fun r => (r, 0))
theorem bad_iff (l0 : List Int) (a1 n : Int) (q : Bool) (hn : n = if weighs l0 then ((pos l0 : Nat) : Int) else 0) (hq : q = weighs l0) : (!q || decide (15 < a1) || decide (a1 < 5) || (decide (a1 < 9) && decide (19 < n))) = true ↔ (weighs l0 = false ∨ a1 > 15 ∨ a1 < 5 ∨ (a1 < 9 ∧ pos l0 > 19)) := by
 subst hq
 cases hw : weighs l0 with
 | false => simp
 | true =>
  rw [hw] at hn
  simp only [if_true] at hn
  subst hn
  simp only [Bool.not_true, Bool.false_or, Bool.or_eq_true, Bool.and_eq_true, decide_eq_true_eq, Bool.true_eq_false, false_or]
  omega
/-- The first j are halved. -/
def halfTo (ws : List Int) (j : Nat) : List Int := halved (ws.take j) ++ ws.drop j
theorem halfTo_length (ws : List Int) (j : Nat) : (halfTo ws j).length = ws.length := by
 unfold halfTo halved
 rw [List.length_append, List.length_map, List.length_take, List.length_drop]
 omega
theorem halfTo_at (ws : List Int) (j : Nat) (h : j < ws.length) : rd (halfTo ws j) (j : Int) = ws[j] := by
 unfold rd halfTo halved
 rw [Int.toNat_natCast, List.getD_eq_getElem?_getD, List.getElem?_append_right (by simp; omega), List.length_map, List.length_take, Nat.min_eq_left (by omega), Nat.sub_self, List.getElem?_drop, Nat.add_zero, List.getElem?_eq_getElem h]
 rfl
theorem halfTo_succ (ws : List Int) (j : Nat) (h : j < ws.length) : halfTo ws (j + 1) = (halfTo ws j).set j (if 0 < ws[j] then wrap64 ((wrap64 (ws[j] + 1)).tdiv 2) else ws[j]) := by
 unfold halfTo halved
 rw [List.take_succ_eq_append_getElem h, List.drop_eq_getElem_cons h, List.map_append, List.set_append_right _ _ (by simp; omega), List.length_map, List.length_take, Nat.min_eq_left (by omega), Nat.sub_self, List.set_cons_zero, List.append_assoc]
 rfl
theorem halfTo_all (ws : List Int) : halfTo ws ws.length = halved ws := by
 unfold halfTo
 rw [List.take_length, List.drop_length, List.append_nil]
set_option maxHeartbeats 8000000 in
set_option maxRecDepth 100000 in
theorem lengths_calls (A0 : Option Addr) (c0 : Nat) (l0 : List Int) (a1 : Int) (r1 : List Int) (r2 : Int) (w : World) (hr0 : Kd.C (Kd.int .i64) w A0 l0.length l0) (hc0 : l0.length ≤ c0) (h : lensOf l0 a1 = some (r1, r2)) :
  Calls Try.prog 64 #[.slice A0 l0.length c0, .int .i64 a1] w fun e w' => ∃ v0_ : Value, e = .returned (.tuple #[v0_, .int .i64 r2]) ∧ Kd.R (Kd.int .i64) 3 w' w.heap.size (fun _ => True) v0_ r1 ∧ Below w.heap.size w w' := by
 have HR := Aside0.mk hr0
 have HC := Aside0.mk hc0
 have H := Aside0.mk h
 obtain ⟨n, hn⟩ : ∃ n : Int, n = if weighs l0 then ((pos l0 : Nat) : Int) else 0 := ⟨_, rfl⟩
 obtain ⟨q, hq⟩ : ∃ q, q = weighs l0 := ⟨_, rfl⟩
 have HA := Aside0.mk (show tree_above.f 700 l0 = some (n, q) from by rw [above_is, hn, hq]; cases weighs l0 <;> rfl)
 have HN := Aside0.mk (And.intro hn hq)
 clear hr0 hc0 h hn hq
 go_enter Try.func64, Try.ntmps64
 go_wp2_with fail
 refine (tree_above.calls 700 _ _ l0 n q w HR.out HC.out HA.out).mono ?_
 rintro e w1 ⟨rfl, hd⟩
 have HD := Aside0.mk hd.below
 clear hd
 go_upto_region 2 with fail
 go_cut [7, 33] (fun v7 v33 wc => v7 = .bool q ∧ v33 = .bool (!q || decide (15 < a1) || decide (a1 < 5) || (decide (a1 < 9) && decide (19 < n))) ∧ wc = w1)
 case first =>
  go_wp2_with fail
  all_goals (go_meet; case rel => exact ⟨by first | rfl | simp [*], by first | (simp [*]; done) | (simp [*]; omega), rfl⟩)
 case rest =>
  obtain ⟨rfl, rfl, rfl⟩ := hcut
  by_cases hbad : (!q || decide (15 < a1) || decide (a1 < 5) || (decide (a1 < 9) && decide (19 < n))) = true
  ·rw [hbad]
   go_wp2_with fail
   go_ret2
   have h := H.out
   unfold lensOf at h
   rw [if_pos ((bad_iff l0 a1 n q HN.out.1 HN.out.2).1 hbad)] at h
   injection h with h
   injection h with h1 h2
   subst h1; subst h2
   exact ⟨_, rfl, Kd.R_nil _ _ _ _ _, HD.out⟩
  ·rw [Bool.not_eq_true] at hbad
   rw [hbad]
   have HF := Aside0.mk (show ∃ r, lensFrom 32 l0 a1 = some r ∧ r1 = r ∧ r2 = 0 ∧ weighs l0 = true from by
    have hc : ¬ (weighs l0 = false ∨ a1 > 15 ∨ a1 < 5 ∨ (a1 < 9 ∧ pos l0 > 19)) := fun hc => by
     rw [(bad_iff l0 a1 n q HN.out.1 HN.out.2).2 hc] at hbad
     cases hbad
    have h := H.out
    unfold lensOf at h
    rw [if_neg hc] at h
    obtain ⟨r, hr, he⟩ := Option.map_eq_some_iff.1 h
    injection he with h1 h2
    refine ⟨r, hr, h1.symm, h2.symm, ?_⟩
    cases hw : weighs l0 with
    | false => exact absurd (.inl hw) hc
    | true => rfl)
   clear hbad
   go_wp2_with fail
   refine (clone_calls A0 c0 l0 _ (Kd.C_below HR.out HD.out) HC.out (by obtain ⟨_, _, _, _, hw⟩ := HF.out; have := ((weighs_iff l0).1 hw).1; omega)).mono ?_
   rintro e w2 ⟨v0, rfl, ho, hb⟩
   have HO := Aside0.mk ho
   have HB := Aside0.mk (show Below w.heap.size w w2 from below_then HD.out HD.out.size hb)
   have HS := Aside0.mk (show w.heap.size ≤ wc.heap.size from HD.out.size)
   clear ho hb
   go_wp2_with fail
   obtain ⟨r, hr, rfl, rfl, hw⟩ := HF.out
   have HW := Aside0.mk ((weighs_iff l0).1 hw).1
   have HO2 := Aside0.mk (Kd.R_lower HO.out HS.out)
   have HR0 := Aside0.mk hr
   clear hr hw HF HO
   go_loopg [] 32 (fun kq w' => ∃ ws, Aside0 (lensFrom kq ws a1 = some r1) ∧ Aside0 (ws.length ≤ 300) ∧ Aside0 (Kd.R (Kd.int .i64) 3 w' w.heap.size (fun _ => True) v0 ws) ∧ Aside0 (Below w.heap.size w w'))
   case atStart => exact ⟨l0, HR0, HW, HO2, HB⟩
   case round =>
    clear HR0 HW HO2 HB
    obtain ⟨ws, HF, HL, HO, HB⟩ := hrel
    obtain ⟨k', hk'⟩ : ∃ k', gk = k' + 1 := by
     have h := HF.out
     cases gk with
     | zero => simp [lensFrom] at h
     | succ k' => exact ⟨k', rfl⟩
    have HGK := Aside0.mk hk'
    have hF := HF.out
    rw [hk'] at hF
    unfold lensFrom at hF
    have HF2 := Aside0.mk hF
    clear hk' hF HF
    obtain ⟨A, c, e⟩ := Kd.R_slice HO.out
    subst e
    go_wp2_with fail
    refine (once_calls A c ws wr (Kd.R_reads' HO.out).2.2 (Kd.R_reads' HO.out).2.1 HL.out).mono ?_
    rintro e w3 ⟨v8, rfl, h8, hb8⟩
    have H8 := Aside0.mk h8
    have HB8 := Aside0.mk hb8
    have HO3 := Aside0.mk (Kd.R_below HO.out hb8)
    have HBw3 := Aside0.mk (show Below w.heap.size w w3 from below_then HB.out HB.out.size hb8)
    obtain ⟨A8, c8, e8⟩ := Kd.R_slice h8
    subst e8
    clear h8 hb8
    obtain ⟨out, hout⟩ : ∃ o, o = onceOf ws := ⟨_, rfl⟩
    rw [← hout] at H8 HF2 ⊢
    have HOut := Aside0.mk hout
    clear hout
    cases out with
    | nil =>
     go_wp2_with fail
     go_ret2
     have h := HF2.out
     rw [if_pos (show ([] : List Int).length = 0 ∨ topOf [] ≤ a1 from Or.inl rfl)] at h
     injection h with h
     subst h
     exact ⟨_, rfl, Kd.R_lower H8.out HB.out.size, HBw3.out⟩
    | cons x xs =>
     have hne : (((x :: xs).length : Int) == 0) = false := by rw [beq_eq_false_iff_ne]; simp; omega
     have hne2 : (((xs.length : Int) + 1) == 0) = false := by rw [beq_eq_false_iff_ne]; omega
     go_wp2_with fail
     refine (max_calls A8 c8 x xs w3 (Kd.R_reads' H8.out).2.2 (Kd.R_reads' H8.out).2.1).mono ?_
     rintro e w4 ⟨rfl, hb4⟩
     have HB4 := Aside0.mk (show Below w.heap.size w w4 from below_then HBw3.out HBw3.out.size hb4)
     have HO4 := Aside0.mk (Kd.R_below HO3.out hb4)
     have H84 := Aside0.mk (Kd.R_below H8.out hb4)
     clear hb4
     obtain ⟨m, hm⟩ : ∃ m, m = maxOf x xs := ⟨_, rfl⟩
     rw [show topOf (x :: xs) = maxOf x xs from rfl, ← hm] at HF2
     rw [← hm]
     clear hm
     by_cases hle : m ≤ a1
     ·have hd : decide (m ≤ a1) = true := decide_eq_true hle
      go_wp2_with fail
      go_ret2
      have h := HF2.out
      rw [if_pos (show (x :: xs).length = 0 ∨ m ≤ a1 from Or.inr hle)] at h
      injection h with h
      subst h
      exact ⟨_, rfl, Kd.R_lower H84.out HB.out.size, HB4.out⟩
     ·have hd : decide (m ≤ a1) = false := decide_eq_false hle
      have HF3 := Aside0.mk (show lensFrom k' (halved ws) a1 = some r1 from by
       have h := HF2.out
       rw [if_neg (show ¬ ((x :: xs).length = 0 ∨ m ≤ a1) from by simp; omega)] at h
       exact h)
      clear HF2 H84 H8 HO3 HBw3
      obtain ⟨wr0, ewr0⟩ : ∃ y, y = wr := ⟨_, rfl⟩
      subst ewr0
      obtain ⟨gk0, egk0⟩ : ∃ y, y = gk := ⟨_, rfl⟩
      subst egk0
      go_wp2_with fail
      obtain ⟨L, hL⟩ : ∃ L, L = ws.length := ⟨_, rfl⟩
      rw [← hL] at HO4 HL ⊢
      have HLL := Aside0.mk hL
      clear hL
      go_loopg [50] L (fun kq v50 w' => ∃ j : Nat, j ≤ L ∧ v50 = .int .i64 j ∧ Aside0 (kq + j = L) ∧ Aside0 (Kd.R (Kd.int .i64) 3 w' w.heap.size (fun _ => True) (.slice A L c) (halfTo ws j)) ∧ Aside0 (Below w.heap.size w w'))
      case atStart => exact ⟨0, by omega, rfl, ⟨by omega⟩, HO4, HB4⟩
      case round =>
       obtain ⟨j, hj, rfl, HKj, HOj, HBj⟩ := hrel
       have hL3 : L ≤ 300 := HL.out
       by_cases hlt : j < L
       ·obtain ⟨g, cap, e, hg1, _, cells, hcs⟩ := Kd.R_form HOj.out (by rw [halfTo_length, ← HLL.out]; omega)
        injection e with e1 e2 e3
        subst e1
        have hjw : j < ws.length := by rw [← HLL.out]; exact hlt
        obtain ⟨hc1, hc2⟩ := Kd.R_celln (0 : Int) HOj.out (j : Int) (by omega) (by omega)
        have hrd : rdOf (0 : Int) (halfTo ws j) (j : Int) = rd (halfTo ws j) (j : Int) := rfl
        rw [hrd, halfTo_at ws j hjw, Int.toNat_natCast] at hc1
        rw [Int.toNat_natCast] at hc2
        have HST := Aside0.mk (halfTo_succ ws j hjw)
        have HXX := Aside0.mk (show (halfTo ws j)[j]? = some ws[j] from by
         have h := halfTo_at ws j hjw
         unfold rd at h
         rw [Int.toNat_natCast, List.getD_eq_getElem?_getD, List.getElem?_eq_getElem (by rw [halfTo_length]; exact hjw)] at h
         rw [List.getElem?_eq_getElem (by rw [halfTo_length]; exact hjw)]
         exact congrArg some h)
        generalize ws[j] = x at hc1 HST HXX
        clear hrd e2 e3 hcs
        by_cases hx : 0 < x
        ·have hd2 : decide (0 < x) = true := decide_eq_true hx
         go_wp2_with fail
         have HO5 := Aside0.mk (Kd.R_putn HOj.out (j : Int) (wrap64 ((wrap64 (x + 1)).tdiv 2)))
         rw [Int.toNat_natCast] at HO5
         go_roundg (gk - 1)
         case measure => have := HKj.out; omega
         case rel => exact ⟨j + 1, by omega, by go_num, ⟨by have := HKj.out; omega⟩, ⟨by rw [HST.out, if_pos hx]; exact HO5.out⟩, ⟨HBj.out.setCell (p := ⟨g, j, none⟩) hg1 _⟩⟩
        ·have hd2 : decide (0 < x) = false := decide_eq_false hx
         have hse : (halfTo ws j).set j x = halfTo ws j := by
          apply List.ext_getElem?
          intro k
          rw [List.getElem?_set]
          split
          ·rename_i hk
           subst hk
           rw [if_pos (by rw [halfTo_length]; exact hjw)]
           exact HXX.out.symm
          ·rfl
         go_wp2_with fail
         go_roundg (gk - 1)
         case measure => have := HKj.out; omega
         case rel => exact ⟨j + 1, by omega, by go_num, ⟨by have := HKj.out; omega⟩, ⟨by rw [HST.out, if_neg (by omega), hse]; exact HOj.out⟩, HBj⟩
       ·have hjL : j = L := by omega
        have hh : halfTo ws j = halved ws := by rw [hjL, HLL.out, halfTo_all]
        rw [hh] at HOj
        go_wp2_with fail
        have eL := HLL.out
        subst eL
        go_roundg (gk0 - 1)
        case measure => have := HGK.out; omega
        case rel => exact ⟨halved ws, ⟨by rw [HGK.out]; exact HF3.out⟩, ⟨by unfold halved; rw [List.length_map]; have := HLL.out; have := HL.out; omega⟩, HOj, HBj⟩
def tree_Lengths.f (l0 : List Int) (a1 : Int) : Option (List Int × Int) := lensOf l0 a1
set_option maxHeartbeats 8000000 in
set_option maxRecDepth 100000 in
theorem tree_Lengths.calls (A0 : Option Addr) (c0 : Nat) (l0 : List Int) (a1 : Int) (r1 : List Int) (r2 : Int) (w : World) (hr0 : Kd.C (Kd.int .i64) w A0 l0.length l0) (hc0 : l0.length ≤ c0) (h : tree_Lengths.f l0 a1 = some (r1, r2)) :
  Calls Try.prog 64 #[.slice A0 l0.length c0, .int .i64 a1] w fun e w' => ∃ v0_ : Value, e = .returned (.tuple #[v0_, .int .i64 r2]) ∧ Kd.R (Kd.int .i64) 3 w' w.heap.size (fun _ => True) v0_ r1 ∧ Below w.heap.size w w' := lengths_calls A0 c0 l0 a1 r1 r2 w hr0 hc0 h

/-! ### shrink_less: function 65 (by hand) -/
def shrink_less.l0 : Nat → List Int → Int → Option (List Int)
 | 0, _, _ => none
 | k + 1, x0, x1 => if (x0.length : Int) > x1 then (if 0 ≤ (wrap64 ((x0.length : Int) - 1)) then (if (wrap64 ((x0.length : Int) - 1)) < (x0.length : Int) then (if (rd x0 (wrap64 ((x0.length : Int) - 1))) = 0 then (if (wrap64 ((x0.length : Int) - 1)) ≤ (x0.length : Int) then (shrink_less.l0 k (x0.take ((wrap64 ((x0.length : Int) - 1)) : Int).toNat) x1) else (none)) else (some x0)) else (none)) else (none)) else (some x0)
def shrink_less.f (k : Nat) (l0 : List Int) (a1 : Int) : Option (List Int) := shrink_less.l0 k l0 a1
set_option maxHeartbeats 8000000 in
set_option maxRecDepth 100000 in
theorem shrink_less.calls (k : Nat) (P0_ : Nat → Prop) (A0 : Option Addr) (c0 : Nat) (l0 : List Int) (a1 : Int) (r : List Int) (w : World) (hs0 : Kd.V (Kd.int .i64) 3 w w.heap.size (fun k_ => P0_ k_) (.slice A0 l0.length c0) l0) (h : shrink_less.f k l0 a1 = some r) :
  Calls Try.prog 65 #[.slice A0 l0.length c0, .int .i64 a1] w fun e w' => ∃ v0_ : Value, e = .returned (v0_) ∧ Kd.V (Kd.int .i64) 3 w' w.heap.size (fun k_ => (P0_ k_)) v0_ r ∧ Below w.heap.size w w' := by
 have HO0 := Aside0.mk hs0
 have HB := Aside0.mk (Below.refl w.heap.size w)
 have H : (shrink_less.l0 k l0 a1) = some r := h
 clear h
 have H' := Aside0.mk H
 clear H
 go_enter Try.func65, Try.ntmps65
 go_wp2
 go_loopg [0] k (fun kq v0 w' => ∃ (x0_1 : List Int), Aside0 (shrink_less.l0 kq x0_1 a1 = some r) ∧ Aside0 (kq ≤ k) ∧ Aside0 (Kd.V (Kd.int .i64) 3 w' w.heap.size (fun k_ => (P0_ k_)) v0 x0_1) ∧ Aside0 (Below w.heap.size w w'))
 case atStart => exact ⟨(l0), H', ⟨Nat.le_refl _⟩, ⟨by (with_reducible repeat (first | apply Kd.V_alloc | apply Kd.V_drewN | apply Kd.V_drew)); exact HO0.out⟩, ⟨by repeat (first | (with_reducible first | exact HB.out | apply below_alloc | apply pw_below_drewN | apply below_drew1) | exact HB.out)⟩⟩
 case round =>
  clear H'
  try clear p2
  obtain ⟨x0_1, HA, HK1, HO_0, HB⟩ := hrel
  cases gk with
  | zero => exact absurd HA.out (by simp [shrink_less.l0])
  | succ k1 =>
   have H := HA.out
   clear HA
   simp only [shrink_less.l0] at H
   by_cases c3 : (x0_1.length : Int) > a1
   ·rw [if_pos c3] at H
    have c3b0 : decide (a1 < (x0_1.length : Int)) = true := decide_eq_true c3
    clear c3
    obtain ⟨ji4, hji4⟩ : ∃ j_ : Int, (wrap64 ((x0_1.length : Int) - 1)) = j_ := ⟨_, rfl⟩
    replace H : (if 0 ≤ (ji4) then (if (ji4) < (x0_1.length : Int) then (if (rd x0_1 (ji4)) = 0 then (if (ji4) ≤ (x0_1.length : Int) then (shrink_less.l0 k1 (x0_1.take ((ji4) : Int).toNat) a1) else (none)) else (some x0_1)) else (none)) else (none)) = some r := by first | (rw [hji4] at H; exact H) | (simp only [hji4] at H ⊢; exact H)
    have hji4w : (IntKind.i64.wrap ((x0_1.length : Int) - 1)) = ji4 := (i64_w _).trans hji4
    by_cases c5 : 0 ≤ (ji4)
    ·rw [if_pos c5] at H
     have c5b0 : decide (0 ≤ (ji4)) = true := decide_eq_true c5
     clear c5
     by_cases c6 : (ji4) < (x0_1.length : Int)
     ·rw [if_pos c6] at H
      have c6b0 : decide ((ji4) < (x0_1.length : Int)) = true := decide_eq_true c6
      clear c6
      by_cases c7 : (rd x0_1 (ji4)) = 0
      ·rw [if_pos c7] at H
       have c7b0 : ((rd x0_1 (ji4)) == 0) = true := beq_iff_eq.mpr c7
       have c7b1 : ((rd x0_1 (ji4)) != 0) = false := bne_eq_false_iff_eq.mpr c7
       clear c7
       have c8b0 := eq_true (of_decide_eq_true (by first | (with_reducible assumption) | assumption) : 0 ≤ (ji4))
       by_cases c9 : (ji4) ≤ (x0_1.length : Int)
       ·rw [if_pos c9] at H
        have c9b0 := eq_true c9
        have c9b1 : decide ((ji4) ≤ (x0_1.length : Int)) = true := decide_eq_true c9
        clear c9
        obtain ⟨y198, hy198⟩ : ∃ y_ : List Int, y_ = (x0_1.take ((ji4) : Int).toNat) := ⟨_, rfl⟩
        replace H : (shrink_less.l0 k1 y198 a1) = some r := by first | (rw [hy198]; with_reducible exact H) | (have H2_ := (Option.bind_some _ _).symm.trans H; rw [hy198]; with_reducible exact H2_) | (have H2_ := (Option.bind_some _ _).symm.trans H; with_reducible exact H2_) | with_reducible exact H | (rw [hy198]; exact H) | exact H
        have Ny198 := Aside0.mk hy198
        clear hy198
        have H' := Aside0.mk H
        clear H
        obtain ⟨Ao10, co10, eo10⟩ := Kd.V_slice HO_0.out
        subst eo10
        have p197 : 0 ≤ ((ji4) : Int) := of_decide_eq_true (by first | (with_reducible assumption) | assumption)
        have q197 : (ji4) < (x0_1.length : Int) := of_decide_eq_true (by first | (with_reducible assumption) | assumption)
        obtain ⟨ad197, e197, hx197_0⟩ := Kd.at_int (Kd.V_reads' HO_0.out).2.2 (ji4) p197 q197
        cases e197
        replace p197 := eq_true p197
        replace q197 := eq_true q197
        have q11 : ((ji4) : Int) ≤ ((x0_1.length : Int) : Int) := of_decide_eq_true (by first | (with_reducible assumption) | assumption)
        obtain ⟨i011, hi011, _, hsz11, _⟩ := info_parts info3
        have hroom11 : x0_1.length ≤ co10 := (Kd.V_reads' HO_0.out).2.1
        have hC11 : Kd.F (Kd.int .i64) _ _ (some ad197) x0_1.length x0_1 := (Kd.V_at (base := w.heap.size) HO_0.out).2.2
        have hcut11 := cut_to (P := Try.prog) 32 3 .i64 Try.underlying32 hi011 (some ad197) x0_1.length co10 (ji4) (of_decide_eq_true (by first | (with_reducible assumption) | assumption)) q11 hroom11
        have hr11 := Kd.F_take (m := ((ji4) : Int).toNat) hC11 (by omega)
        have hy11 : y198.length = ((ji4) : Int).toNat := (by rw [Ny198.out, List.length_take]; omega)
        rw [← Ny198.out] at hr11
        rw [← hy11] at hcut11
        have HO202 := Aside0.mk (show Kd.V (Kd.int .i64) 3 _ w.heap.size _ (.slice (some ad197) y198.length co10) y198 from Kd.V_mk (by omega) hr11)
        have HC202 := Aside0.mk (show y198.length ≤ co10 from by omega)
        clear hr11 hC11 hroom11 hi011 hsz11
        have KY11 := Aside0.mk hy11
        clear hy11
        replace q11 := eq_true q11
        go_wp2
        go_roundg k1
        case measure => have := HK1.out; omega
        case rel => exact ⟨(y198), H', ⟨by have := HK1.out; omega⟩, ⟨by (with_reducible repeat (first | apply Kd.V_alloc | apply Kd.V_drewN | apply Kd.V_drew)); exact HO202.out⟩, ⟨by repeat (first | (with_reducible first | exact HB.out | apply below_alloc | apply pw_below_drewN | apply below_drew1) | exact HB.out)⟩⟩
       ·rw [if_neg c9] at H
        exact absurd H (by simp)
      ·rw [if_neg c7] at H
       have c7b0 : ((rd x0_1 (ji4)) == 0) = false := beq_eq_false_iff_ne.mpr c7
       have c7b1 : ((rd x0_1 (ji4)) != 0) = true := bne_iff_ne.mpr c7
       obtain rfl := Option.some.inj H
       obtain ⟨Ao12, co12, eo12⟩ := Kd.V_slice HO_0.out
       subst eo12
       have p197 : 0 ≤ ((ji4) : Int) := of_decide_eq_true (by first | (with_reducible assumption) | assumption)
       have q197 : (ji4) < (x0_1.length : Int) := of_decide_eq_true (by first | (with_reducible assumption) | assumption)
       obtain ⟨ad197, e197, hx197_0⟩ := Kd.at_int (Kd.V_reads' HO_0.out).2.2 (ji4) p197 q197
       cases e197
       replace p197 := eq_true p197
       replace q197 := eq_true q197
       go_wp2
       go_ret
       exact ⟨_, by first | rfl | (simp [errW_none, errW_some] <;> rfl) | (simp only [← hji4]; first | rfl | (simp [errW_none, errW_some] <;> rfl)) | (simp [*, errW_none, errW_some] <;> rfl), by (with_reducible repeat (first | apply Kd.V_alloc | apply Kd.V_drewN | apply Kd.V_drew)); exact HO_0.out, by repeat (first | (with_reducible first | exact HB.out | apply below_alloc | apply pw_below_drewN | apply below_drew1) | exact HB.out)⟩
     ·rw [if_neg c6] at H
      exact absurd H (by simp)
    ·rw [if_neg c5] at H
     exact absurd H (by simp)
   ·rw [if_neg c3] at H
    have c3b0 : decide (a1 < (x0_1.length : Int)) = false := decide_eq_false c3
    clear c3
    obtain rfl := Option.some.inj H
    obtain ⟨Ao13, co13, eo13⟩ := Kd.V_slice HO_0.out
    subst eo13
    go_wp2
    go_ret
    exact ⟨_, by first | rfl | (simp [errW_none, errW_some] <;> rfl) | (simp [*, errW_none, errW_some] <;> rfl), by (with_reducible repeat (first | apply Kd.V_alloc | apply Kd.V_drewN | apply Kd.V_drew)); exact HO_0.out, by repeat (first | (with_reducible first | exact HB.out | apply below_alloc | apply pw_below_drewN | apply below_drew1) | exact HB.out)⟩

/-! ### shrink_Order: function 67 -/
def shrink_Order.f  : Option (List Int) := some (([16, 17, 18, 0, 8, 7, 9, 6, 10, 5, 11, 4, 12, 3, 13, 2, 14, 1, 15] : List Int))
set_option maxHeartbeats 8000000 in
set_option maxRecDepth 100000 in
theorem shrink_Order.calls  (r : List Int) (w : World) (h : shrink_Order.f  = some r) :
  Calls Try.prog 67 #[] w fun e w' => ∃ v0_ : Value, e = .returned (v0_) ∧ Kd.R (Kd.int .i64) 3 w' w.heap.size (fun _ => True) v0_ r ∧ Below w.heap.size w w' := by
 have HB := Aside0.mk (Below.refl w.heap.size w)
 have H : (some (([16, 17, 18, 0, 8, 7, 9, 6, 10, 5, 11, 4, 12, 3, 13, 2, 14, 1, 15] : List Int))) = some r := h
 clear h
 obtain ⟨y189, hy189⟩ : ∃ y_ : List Int, y_ = (([16, 17, 18, 0, 8, 7, 9, 6, 10, 5, 11, 4, 12, 3, 13, 2, 14, 1, 15] : List Int)) := ⟨_, rfl⟩
 replace H : (some y189) = some r := by first | (rw [hy189]; with_reducible exact H) | (have H2_ := (Option.bind_some _ _).symm.trans H; rw [hy189]; with_reducible exact H2_) | (have H2_ := (Option.bind_some _ _).symm.trans H; with_reducible exact H2_) | with_reducible exact H | (rw [hy189]; exact H) | exact H
 have Ny189 := Aside0.mk hy189
 clear hy189
 obtain rfl := Option.some.inj H
 go_enter Try.func67, Try.ntmps67
 go_wp2_with (first | ((with_reducible refine gate_dst (N := 1) rfl ?_); refine Kd.R_lit (Kd.int .i64) _ 3 ?hg (N := 1) ?hd (xs := ([16, 17, 18, 0, 8, 7, 9, 6, 10, 5, 11, 4, 12, 3, 13, 2, 14, 1, 15] : List Int)) (inner := [.int .i64 16, .int .i64 17, .int .i64 18, .int .i64 0, .int .i64 8, .int .i64 7, .int .i64 9, .int .i64 6, .int .i64 10, .int .i64 5, .int .i64 11, .int .i64 4, .int .i64 12, .int .i64 3, .int .i64 13, .int .i64 2, .int .i64 14, .int .i64 1, .int .i64 15]) (ok := fun _ => True) (okp := fun _ => True) ?hr ?hp (fun _ hk => hk) trivial (Below.refl _ _) (Nat.le_refl _) (by simp) ?_; (case hd => rfl); (case hg => rfl); (case hr => first | (go_simp; done) | (go_simp; rfl)); (case hp => exact (Reps.one (show Kd.M (Kd.int .i64) _ _ _ 16 [.int .i64 16] from rfl) (Reps.one (show Kd.M (Kd.int .i64) _ _ _ 17 [.int .i64 17] from rfl) (Reps.one (show Kd.M (Kd.int .i64) _ _ _ 18 [.int .i64 18] from rfl) (Reps.one (show Kd.M (Kd.int .i64) _ _ _ 0 [.int .i64 0] from rfl) (Reps.one (show Kd.M (Kd.int .i64) _ _ _ 8 [.int .i64 8] from rfl) (Reps.one (show Kd.M (Kd.int .i64) _ _ _ 7 [.int .i64 7] from rfl) (Reps.one (show Kd.M (Kd.int .i64) _ _ _ 9 [.int .i64 9] from rfl) (Reps.one (show Kd.M (Kd.int .i64) _ _ _ 6 [.int .i64 6] from rfl) (Reps.one (show Kd.M (Kd.int .i64) _ _ _ 10 [.int .i64 10] from rfl) (Reps.one (show Kd.M (Kd.int .i64) _ _ _ 5 [.int .i64 5] from rfl) (Reps.one (show Kd.M (Kd.int .i64) _ _ _ 11 [.int .i64 11] from rfl) (Reps.one (show Kd.M (Kd.int .i64) _ _ _ 4 [.int .i64 4] from rfl) (Reps.one (show Kd.M (Kd.int .i64) _ _ _ 12 [.int .i64 12] from rfl) (Reps.one (show Kd.M (Kd.int .i64) _ _ _ 3 [.int .i64 3] from rfl) (Reps.one (show Kd.M (Kd.int .i64) _ _ _ 13 [.int .i64 13] from rfl) (Reps.one (show Kd.M (Kd.int .i64) _ _ _ 2 [.int .i64 2] from rfl) (Reps.one (show Kd.M (Kd.int .i64) _ _ _ 14 [.int .i64 14] from rfl) (Reps.one (show Kd.M (Kd.int .i64) _ _ _ 1 [.int .i64 1] from rfl) (Reps.one (show Kd.M (Kd.int .i64) _ _ _ 15 [.int .i64 15] from rfl) (Reps.none _ _))))))))))))))))))))); intro v190 w1 ho2 hb hg_ hnew_; clear hg_ hnew_; (first | rw [← Ny189.out] at ho2 | (simp only [Int.reduceToNat] at ho2; rw [← Ny189.out] at ho2)); have n0_ := Aside0.mk (Kd.R_lower ho2 (below_size (by repeat (first | (with_reducible first | exact HB.out | apply below_alloc | apply pw_below_drewN | apply below_drew1) | exact HB.out)))); have n1_ := Aside0.mk (below_step (by repeat (first | (with_reducible first | exact HB.out | apply below_alloc | apply pw_below_drewN | apply below_drew1) | exact HB.out)) hb); clear HB; have HO191 := n0_; have HB := n1_; clear n0_ n1_; clear hb ho2))
 go_ret
 exact ⟨_, by first | rfl | (simp [errW_none, errW_some] <;> rfl) | (simp [*, errW_none, errW_some] <;> rfl), by (with_reducible repeat (first | apply Kd.R_alloc | apply Kd.R_drewN | apply Kd.R_drew)); exact HO191.out, by repeat (first | (with_reducible first | exact HB.out | apply below_alloc | apply pw_below_drewN | apply below_drew1) | exact HB.out)⟩

/-! ### shrink_made: function 36 (by hand) -/
/-- Blocks of whole numbers. -/
def IntB (W : World) (k : Nat) : Prop := ∃ cells, W.heap[k]? = some (.cells cells 3 (0, 0))
theorem intview {w : World} {base : Nat} {ok : Nat → Prop} {v : Value} {l : List Int} (h : Kd.R (Kd.int .i64) 3 w base ok v l) : Kd.V (Kd.int .i64) 3 w w.heap.size (fun k => IntB w k) v l := by
 refine Kd.R_V (Kd.R_mono (Kd.R_bound h) (fun k hk' => ?_))
 obtain ⟨_, _, _, q, hq, cells, hc⟩ := hk'
 have hq' : q = 3 := by simpa [Kd.int, Kd.scalar] using hq
 subst hq'
 exact ⟨cells, hc⟩
theorem readsP_view {w w1 : World} {A : Option Addr} {n c : Nat} {l : List Int} (h : Kd.V (Kd.int .i64) 3 w1 w.heap.size (fun k => IntB w k) (.slice A n c) l) (hb : Below w.heap.size w w1) : ReadsP w1 A l ∧ n = l.length ∧ l.length ≤ c := by
 refine ⟨fun W hW => (Kd.V_reads' (Kd.V_step h (fun k hk _ => ?_))).2.2, (Kd.V_reads' h).1, by have h1 := (Kd.V_reads' h).1; have h2 := (Kd.V_reads' h).2.1; omega⟩
 obtain ⟨cells, hc⟩ := hk
 have h1 := (hb.block k (heap_ltP hc)).trans hc
 exact (hW.2 k cells _ h1 (by decide) (by decide)).trans h1.symm
theorem steprow_keepP {W W1 : World} {base : Nat} {ok : Nat → Prop} {v : Value} {l : List S76} (h : Kd.R k76 76 W base ok v l) (hk : KeepP W W1) : Kd.R k76 76 W1 base ok v l := by
 refine Kd.R_mono (Kd.R_move (Kd.R_bound h) (fun k hk' => ?_)) (fun _ hk' => hk'.1)
 obtain ⟨_, _, _, q, hq, cells, hc⟩ := hk'
 have hq' : q = 76 := by simpa [k76, Kd.iso, Kd.pair, Kd.int, Kd.scalar] using hq
 subst hq'
 exact (hk.2 k cells _ hc (by decide) (by decide)).trans hc.symm
/-- A row of steps that pens leave. -/
def ReadsS (w : World) (A : Option Addr) (l : List S76) : Prop := ∀ W, KeepP w W → Kd.C k76 W A l.length l
theorem readsS_own {w : World} {base : Nat} {ok : Nat → Prop} {A : Option Addr} {n c : Nat} {l : List S76} (h : Kd.R k76 76 w base ok (.slice A n c) l) : ReadsS w A l ∧ n = l.length ∧ l.length ≤ c :=
 ⟨fun W hW => (Kd.R_reads' (steprow_keepP h hW)).2.2, (Kd.R_reads' h).1, by have h1 := (Kd.R_reads' h).1; have h2 := (Kd.R_reads' h).2.1; omega⟩
theorem ReadsS.keep {w w1 : World} {A : Option Addr} {l : List S76} (h : ReadsS w A l) (hk : KeepP w w1) : ReadsS w1 A l := fun W hW => h W (hk.trans hW)
def ord19 : List Int := [16, 17, 18, 0, 8, 7, 9, 6, 10, 5, 11, 4, 12, 3, 13, 2, 14, 1, 15]
theorem ord19_in : ∀ i : Fin 19, 0 ≤ ord19.getD i.val 0 ∧ ord19.getD i.val 0 < 19 := by decide
/-- How often each symbol of a row stands. -/
def metL : List S76 → List Int → Option (List Int)
 | [], m => some m
 | t :: r, m => if 0 ≤ t.f0 ∧ t.f0 < m.length then metL r (m.set t.f0.toNat (wrap64 (rd m t.f0 + 1))) else none
/-- The lengths' own behind a pen's bits. -/
def lens3 : List Int → List Int × Nat → Option (List Int × Nat)
 | [], s => some s
 | n :: l, s => (addS n 3 s).bind (lens3 l)
/-- A row's symbols behind a pen's bits. -/
def seqL (codes own : List Int) : List S76 → List Int × Nat → Option (List Int × Nat)
 | [], s => some s
 | t :: l, s => (codeS codes own t.f0 s).bind fun s1 => (addS t.f1 t.f2 s1).bind (seqL codes own l)
def madeC (l : List S53) (lits dists own turned : List Int) (row : List S76) (s : List Int × Nat) : Option (List Int × Nat) :=
 if turned.length ≤ 1000000 then (addS (wrap64 (wrap64 ((lits.length : Int) - 256) - 1)) 5 s).bind fun s => (addS (wrap64 ((dists.length : Int) - 1)) 5 s).bind fun s => (addS (wrap64 ((turned.length : Int) - 4)) 4 s).bind fun s =>
  (lens3 turned s).bind fun s => (canon_Codes.f own).bind fun c => (seqL c.1 own row s).bind fun s => bodyS l lits dists s else none
def madeB (l : List S53) (lits dists : List Int) (row : List S76) (s : List Int × Nat) : Option (List Int × Nat) :=
 if row.length ≤ 1000000 then (metL row (List.replicate 19 0)).bind fun met => (tree_Lengths.f met 7).bind fun own => if own.1.length = 19 then (shrink_less.f 400 (ord19.map (rd own.1)) 4).bind fun turned => madeC l lits dists own.1 turned row s else none else none
/-- Tokens by lengths of their own. -/
def madeS (l : List S53) : Option (List Int × Nat) :=
 (beginS 2).bind fun s => (sym_Weights.f 20000 l).bind fun w => (tree_Lengths.f w.1 15).bind fun a => (tree_Lengths.f w.2.1 15).bind fun b =>
  (shrink_less.f 400 a.1 257).bind fun lits => (shrink_less.f 400 b.1 1).bind fun dists => if lits.length + dists.length ≤ 1000000 then
   (shrink_steps.f 200000 (lits ++ dists)).bind fun row => madeB l lits dists row s else none
set_option maxHeartbeats 2000000 in
set_option maxRecDepth 100000 in
theorem shr_made (A0 : Option Addr) (c0 : Nat) (l : List S53) (sr : List Int × Nat) (w : World) (hr0 : ReadsT w A0 l) (hc0 : l.length ≤ c0) (hl : l.length ≤ 1000000) (h : madeS l = some sr) :
  Calls Try.prog 36 #[.slice A0 l.length c0] w fun e w' => ∃ g, e = .returned (.pointer (some ⟨g, 0, none⟩)) ∧ PenAt w w' g sr ∧ Below w.heap.size w w' := by
 unfold madeS at h
 obtain ⟨s1, h1, h⟩ := Option.bind_eq_some_iff.1 h
 obtain ⟨⟨wa, wb, we⟩, h2, h⟩ := Option.bind_eq_some_iff.1 h
 obtain ⟨⟨la, e1⟩, h3, h⟩ := Option.bind_eq_some_iff.1 h
 obtain ⟨⟨lb, e2⟩, h4, h⟩ := Option.bind_eq_some_iff.1 h
 obtain ⟨lits, h5, h⟩ := Option.bind_eq_some_iff.1 h
 obtain ⟨dists, h6, h⟩ := Option.bind_eq_some_iff.1 h
 split at h
 rotate_left
 ·cases h
 rename_i hlen
 obtain ⟨row, h7, h⟩ := Option.bind_eq_some_iff.1 h
 simp only at h3 h4 h5 h6 h7 h
 have H1 := Aside0.mk h1
 have H2 := Aside0.mk h2
 have H3 := Aside0.mk h3
 have H4 := Aside0.mk h4
 have H5 := Aside0.mk h5
 have H6 := Aside0.mk h6
 have H7 := Aside0.mk h7
 have H := Aside0.mk h
 have HR := Aside0.mk hr0
 have HLN := Aside0.mk hlen
 clear h1 h2 h3 h4 h5 h6 h7 h hr0 hlen
 go_enter Try.func36, Try.ntmps36
 go_wp2_with fail
 refine (shr_begin 2 s1 w H1.out).mono ?_
 rintro e w1 ⟨g, rfl, hP1, hB1⟩
 have HP1 := Aside0.mk hP1
 have HB1 := Aside0.mk hB1
 clear hP1 hB1 H1
 go_wp2_with fail
 refine (sym_Weights.calls 20000 A0 c0 l wa wb we w1 (HR.out w1 (KeepP.of_below HB1.out)) hc0 H2.out).mono ?_
 rintro e w2 ⟨v1, v2, rfl, ho1, ho2, hb2⟩
 obtain ⟨A1, c1, e1_⟩ := Kd.R_slice ho1
 subst e1_
 obtain ⟨A2, c2, e2_⟩ := Kd.R_slice ho2
 subst e2_
 obtain ⟨ra, _, hca⟩ := readsP_own ho1
 obtain ⟨rb, _, hcb⟩ := readsP_own ho2
 have RB := Aside0.mk rb
 have HP2 := Aside0.mk (HP1.out.below hb2)
 have HB2 := Aside0.mk (below_then HB1.out HB1.out.size hb2)
 have RA := Aside0.mk ra
 clear rb ra hb2 ho1 ho2 HP1 HB1 H2
 go_wp2_with fail
 refine (tree_Lengths.calls A1 c1 wa 15 la e1 w2 RA.out.now hca H3.out).mono ?_
 rintro e w3 ⟨v3, rfl, ho3, hb3⟩
 have HO3 := Aside0.mk ho3
 have RB3 := Aside0.mk (RB.out.keep (KeepP.of_below hb3))
 have HP3 := Aside0.mk (HP2.out.below hb3)
 have HB3 := Aside0.mk (below_then HB2.out HB2.out.size hb3)
 clear hb3 ho3 HP2 HB2 H3 RB RA
 go_wp2_with fail
 refine (tree_Lengths.calls A2 c2 wb 15 lb e2 w3 RB3.out.now hcb H4.out).mono ?_
 rintro e w4 ⟨v4, rfl, ho4, hb4⟩
 obtain ⟨A3, c3, e3⟩ := Kd.R_slice HO3.out
 subst e3
 obtain ⟨A4, c4, e4⟩ := Kd.R_slice ho4
 subst e4
 have HV3 := Aside0.mk (intview (Kd.R_below HO3.out hb4))
 have HO4 := Aside0.mk ho4
 have HP4 := Aside0.mk (HP3.out.below hb4)
 have HB4 := Aside0.mk (below_then HB3.out HB3.out.size hb4)
 clear hb4 ho4 HP3 HB3 H4 RB3 HO3
 go_wp2_with fail
 refine (shrink_less.calls 400 (fun k => IntB w4 k) A3 c3 la 257 lits w4 HV3.out H5.out).mono ?_
 rintro e w5 ⟨v5, rfl, ho5, hb5⟩
 obtain ⟨A5, c5, e5⟩ := Kd.V_slice ho5
 subst e5
 obtain ⟨r5, _, hc5⟩ := readsP_view ho5 hb5
 have RL5 := Aside0.mk r5
 have HV4 := Aside0.mk (intview (Kd.R_below HO4.out hb5))
 have HP5 := Aside0.mk (HP4.out.below hb5)
 have HB5 := Aside0.mk (below_then HB4.out HB4.out.size hb5)
 clear hb5 ho5 r5 HP4 HB4 H5 HV3 HO4
 go_wp2_with fail
 refine (shrink_less.calls 400 (fun k => IntB w5 k) A4 c4 lb 1 dists w5 HV4.out H6.out).mono ?_
 rintro e w6 ⟨v6, rfl, ho6, hb6⟩
 obtain ⟨A6, c6, e6⟩ := Kd.V_slice ho6
 subst e6
 obtain ⟨r6, _, hc6⟩ := readsP_view ho6 hb6
 have RD6 := Aside0.mk r6
 have RL6 := Aside0.mk (RL5.out.keep (KeepP.of_below hb6))
 have HP6 := Aside0.mk (HP5.out.below hb6)
 have HB6 := Aside0.mk (below_then HB5.out HB5.out.size hb6)
 clear hb6 ho6 r6 HP5 HB5 H6 HV4 RL5
 go_wp2_with fail
 have hal : Below w6.heap.size w6 (w6.alloc (.cells #[.slice A5 lits.length c5, .slice A6 dists.length c6] 32)) := (Below.refl _ _).alloc (Nat.le_refl _) _
 have hk0 := KeepP.of_below hal
 refine (concat_two w6.heap.size A5 A6 c5 c6 lits dists (w6.alloc (.cells #[.slice A5 lits.length c5, .slice A6 dists.length c6] 32)) ((blk_cell (blk_new w6 _) 0).trans rfl) ((blk_cell (blk_new w6 _) 1).trans rfl) (RL6.out.keep hk0).now (RD6.out.keep hk0).now hc5 hc6 HLN.out).mono ?_
 rintro e w7 ⟨v7, rfl, ho7, hb7⟩
 have h7_ := H7.out
 generalize lits ++ dists = LL at ho7 h7_
 have H7L := Aside0.mk h7_
 clear h7_ H7
 obtain ⟨A7, c7, e7⟩ := Kd.R_slice ho7
 subst e7
 obtain ⟨r7, _, hc7⟩ := readsP_own ho7
 have R7 := Aside0.mk r7
 have hk7 := hk0.below hb7
 have RL7 := Aside0.mk (RL6.out.keep hk7)
 have RD7 := Aside0.mk (RD6.out.keep hk7)
 have HP7 := Aside0.mk ((HP6.out.below hal).below hb7)
 have HB7 := Aside0.mk (below_then (HB6.out.alloc HB6.out.size _) (HB6.out.alloc HB6.out.size _).size hb7)
 clear hb7 ho7 r7 HP6 HB6 RL6 RD6 hal hk0 hk7
 go_wp2_with fail
 refine (shrink_steps.calls 200000 A7 c7 LL row w7 R7.out.now hc7 H7L.out).mono ?_
 rintro e w8 ⟨v8, rfl, ho8, hb8⟩
 obtain ⟨A8, c8, e8⟩ := Kd.R_slice ho8
 subst e8
 obtain ⟨r8, _, hc8⟩ := readsS_own ho8
 have RS8 := Aside0.mk r8
 have RL8 := Aside0.mk (RL7.out.keep (KeepP.of_below hb8))
 have RD8 := Aside0.mk (RD7.out.keep (KeepP.of_below hb8))
 have HP8 := Aside0.mk (HP7.out.below hb8)
 have HB8 := Aside0.mk (below_then HB7.out HB7.out.size hb8)
 clear hb8 ho8 r8 HP7 HB7 RL7 RD7 R7 H7L
 go_wp2_with fail
 refine (shrink_Order.calls _ w8 rfl).mono ?_
 rintro e w9 ⟨v9, rfl, ho9, hb9⟩
 obtain ⟨g9, c9, e9, hg91, hg92, ocs9, hocs9⟩ := Kd.R_form ho9 (by decide)
 subst e9
 have RS9 := Aside0.mk (RS8.out.keep (KeepP.of_below hb9))
 have RL9 := Aside0.mk (RL8.out.keep (KeepP.of_below hb9))
 have RD9 := Aside0.mk (RD8.out.keep (KeepP.of_below hb9))
 have HP9 := Aside0.mk (HP8.out.below hb9)
 have HB9 := Aside0.mk (below_then HB8.out HB8.out.size hb9)
 clear hb9 ho9 hg91 hg92 hocs9 HP8 HB8 RS8 RL8 RD8
 have hh := H.out
 unfold madeB at hh
 split at hh
 rotate_left
 ·cases hh
 rename_i hrl
 obtain ⟨met, hm, hh⟩ := Option.bind_eq_some_iff.1 hh
 have HM := Aside0.mk hm
 have HH := Aside0.mk hh
 clear hm hh H
 go_wp2_with (refine Kd.R_make (Kd.int .i64) (w0 := w9) w9.heap.size 3 rfl rfl 32 (.tmp 53) (.tmp 53) rfl (19 : Int) rfl rfl Try.underlying32 (.int .i64 0) 8 info3 rfl (by decide) (by decide) (0 : Int) (ok := fun _ => True) (okp := fun _ => False) rfl (fun _ hk => hk.elim) trivial (by omega) (by omega) (Below.refl _ _) (Nat.le_refl _) ?_; intro v1 wB ho hb hg hat; (have HO := Aside0.mk ho); (have HBm := Aside0.mk hb); clear ho hb hg hat)
 rw [show (19 : Int).toNat = 19 from rfl] at HO
 obtain ⟨gm, cm, e1_, hgm1, hgm2, ocsm, hocsm⟩ := Kd.R_form HO.out (by decide)
 rw [List.length_replicate] at e1_
 subst e1_
 have HG0 := Aside0.mk hgm1
 clear hocsm hgm1 hgm2
 go_loopg [57] row.length (fun kq v57 w' => ∃ (i : Nat) (mi : List Int), v57 = .int .i64 i ∧ i ≤ row.length ∧ mi.length = 19 ∧ Aside0 (kq + i = row.length) ∧ Aside0 (metL (row.drop i) mi = some met) ∧ Aside0 (Kd.R (Kd.int .i64) 3 w' w9.heap.size (fun _ => True) (.slice (some ⟨gm, 0, none⟩) 19 cm) mi) ∧ Aside0 (Below w9.heap.size w9 w'))
 case atStart => exact ⟨0, _, rfl, Nat.zero_le _, rfl, ⟨rfl⟩, HM, HO, HBm⟩
 case round =>
  clear HM HO HBm
  obtain ⟨i, mi, rfl, hi, hml, HG, HM, HO, HBm⟩ := hrel
  by_cases hlt : i < row.length
  ·have h := HM.out
   obtain ⟨t, ht⟩ : ∃ t, t = rd_T76 row (i : Int) := ⟨_, rfl⟩
   have hd : row.drop i = t :: row.drop (i + 1) := by
    rw [ht]
    unfold rd_T76
    rw [Int.toNat_natCast, List.getD_eq_getElem?_getD, List.getElem?_eq_getElem hlt]
    exact List.drop_eq_getElem_cons hlt
   rw [hd] at h
   simp only [metL] at h
   split at h
   rotate_left
   ·cases h
   rename_i hq
   have HM2 := Aside0.mk h
   obtain ⟨ad, ead, k0, k1, k2, k3⟩ := at_T76 (RS9.out wr (KeepP.of_below HBm.out)) (i : Int) (by omega) (by omega)
   rw [← ht, Int.toNat_natCast] at k0
   rw [← ht, Int.toNat_natCast] at k1 k2 k3
   subst ead
   clear ht hd h HM
   obtain ⟨q, hq0⟩ : ∃ q : Nat, t.f0 = (q : Int) := ⟨t.f0.toNat, by omega⟩
   have hqi : (q : Int) < 19 := by omega
   have hqn : (0 : Int) ≤ (q : Int) := by omega
   have hq19 : q < 19 := by omega
   rw [hq0] at k0 HM2
   rw [Int.toNat_natCast] at HM2
   clear hq
   have HOa := Aside0.mk (Kd.R_alloc HO.out (.cells #[.int .i64 (q : Int), .int .i64 t.f1, .int .i64 t.f2, .int .i64 t.f3] 76))
   have HBa := Aside0.mk (HBm.out.alloc HBm.out.size (.cells #[.int .i64 (q : Int), .int .i64 t.f1, .int .i64 t.f2, .int .i64 t.f3] 76))
   obtain ⟨hoc, hof⟩ := Kd.R_celln (0 : Int) HOa.out (q : Int) hqn (by omega)
   have HP := Aside0.mk (Kd.R_putn HOa.out (q : Int) (wrap64 (rd mi (q : Int) + 1)))
   have HBp := Aside0.mk (HBa.out.setCell (p := ⟨gm, q, none⟩) HG0.out (.int .i64 (wrap64 (rd mi (q : Int) + 1))))
   rw [Int.toNat_natCast] at hoc hof HP
   rw [show rdOf (0 : Int) mi (q : Int) = rd mi (q : Int) from rfl] at hoc
   obtain ⟨x, hx⟩ : ∃ x, rd mi (q : Int) = x := ⟨_, rfl⟩
   rw [hx] at hoc HP HBp HM2
   clear hx HO HBm HOa HBa
   go_wp2_with fail
   go_roundg (gk - 1)
   case measure => have := HG.out; omega
   case rel => exact ⟨i + 1, _, by go_num, by omega, by rw [List.length_set]; exact hml, ⟨by have := HG.out; omega⟩, HM2, HP, HBp⟩
  obtain rfl : i = row.length := by omega
  have h := HM.out
  rw [List.drop_length] at h
  simp only [metL] at h
  injection h with h
  subst h
  have hh := HH.out
  obtain ⟨⟨own, eo⟩, hown, hh⟩ := Option.bind_eq_some_iff.1 hh
  split at hh
  rotate_left
  ·cases hh
  rename_i hol
  obtain ⟨turned, htu, hh⟩ := Option.bind_eq_some_iff.1 hh
  simp only at hol htu hh
  have HOLN := Aside0.mk hol
  clear hol
  have HOW := Aside0.mk hown
  have HTU := Aside0.mk htu
  have HH2 := Aside0.mk hh
  clear hown htu hh HH HM
  go_wp2_with fail
  have hcm := (Kd.R_reads' HO.out).2.1
  have hcall := tree_Lengths.calls (some ⟨gm, 0, none⟩) cm mi 7 own eo wr (Kd.R_reads' HO.out).2.2 (by omega) HOW.out
  rw [hml] at hcall
  refine hcall.mono ?_
  clear hcall
  rintro e w10 ⟨v10, rfl, ho10, hb10⟩
  obtain ⟨A10, c10, e10⟩ := Kd.R_slice ho10
  subst e10
  obtain ⟨r10, _, hc10⟩ := readsP_own ho10
  have RO10 := Aside0.mk r10
  have hk10 := (KeepP.of_below HBm.out).below hb10
  have RS10 := Aside0.mk (RS9.out.keep hk10)
  have RL10 := Aside0.mk (RL9.out.keep hk10)
  have RD10 := Aside0.mk (RD9.out.keep hk10)
  have HP10 := Aside0.mk ((HP9.out.below HBm.out).below hb10)
  have HB10 := Aside0.mk (below_then (below_then HB9.out HB9.out.size HBm.out) (below_then HB9.out HB9.out.size HBm.out).size hb10)
  clear hb10 ho10 r10 hk10 hcm RS9 RL9 RD9 HP9 HB9 HO HBm HOW hml
  go_wp2_with fail
  refine (shrink_Order.calls _ w10 rfl).mono ?_
  rintro e w11 ⟨v11, rfl, ho11, hb11⟩
  obtain ⟨A11, c11, e11⟩ := Kd.R_slice ho11
  subst e11
  obtain ⟨r11, _, hc11⟩ := readsP_own ho11
  have ROR := Aside0.mk (show ReadsP w11 A11 ord19 from r11)
  have hl19 : ([16, 17, 18, 0, 8, 7, 9, 6, 10, 5, 11, 4, 12, 3, 13, 2, 14, 1, 15] : List Int).length = 19 := rfl
  have hk11 := KeepP.of_below hb11
  have RO11 := Aside0.mk (RO10.out.keep hk11)
  have RS11 := Aside0.mk (RS10.out.keep hk11)
  have RL11 := Aside0.mk (RL10.out.keep hk11)
  have RD11 := Aside0.mk (RD10.out.keep hk11)
  have HP11 := Aside0.mk (HP10.out.below hb11)
  have HB11 := Aside0.mk (below_then HB10.out HB10.out.size hb11)
  clear hb11 ho11 r11 hk11 RO10 RS10 RL10 RD10 HP10 HB10 hc11
  obtain ⟨T0, hT0⟩ : ∃ T0, T0 = ord19.map (rd own) := ⟨_, rfl⟩
  rw [← hT0] at HTU
  have HT0 := Aside0.mk hT0
  clear hT0
  go_wp2_with fail
  go_loopg [17, 76] 19 (fun kq v17 v76 w' => ∃ (i : Nat) (o : List Int), v76 = .int .i64 i ∧ i ≤ 19 ∧ Aside0 (kq + i = 19) ∧ Aside0 (o = T0.take i) ∧ Aside0 (Kd.R (Kd.int .i64) 3 w' w11.heap.size (fun _ => True) v17 o) ∧ Aside0 (Below w11.heap.size w11 w'))
  case atStart => exact ⟨0, [], rfl, Nat.zero_le _, ⟨rfl⟩, ⟨rfl⟩, ⟨Kd.R_nil _ _ _ _ _⟩, ⟨Below.refl _ _⟩⟩
  case round =>
   obtain ⟨i, o, rfl, hi, HG, HJ, HO, HBm⟩ := hrel
   obtain ⟨A9, c9, e9⟩ := Kd.R_slice HO.out
   subst e9
   by_cases hlt : i < 19
   ·have hx := ord19_in ⟨i, hlt⟩
    simp only at hx
    obtain ⟨q, hq⟩ : ∃ q : Nat, ord19.getD i 0 = (q : Int) := ⟨(ord19.getD i 0).toNat, by omega⟩
    have hq19 : (q : Int) < 19 := by omega
    have hq0 : (0 : Int) ≤ (q : Int) := by omega
    have HJL := Aside0.mk (show o.length ≤ 1000000 from by rw [HJ.out, List.length_take]; omega)
    obtain ⟨ad, ead, k0⟩ := Kd.at_int (ROR.out.keep (KeepP.of_below HBm.out)).now (i : Int) (by omega) (by show (i : Int) < 19; omega)
    rw [show rd ord19 (i : Int) = (q : Int) from by unfold rd; rw [Int.toNat_natCast]; exact hq, Int.toNat_natCast] at k0
    subst ead
    obtain ⟨ad2, ead2, k1⟩ := Kd.at_int (RO11.out.keep (KeepP.of_below HBm.out)).now (q : Int) hq0 (by rw [HOLN.out]; exact hq19)
    subst ead2
    obtain ⟨x, hx2⟩ : ∃ x, x = rd own (q : Int) := ⟨_, rfl⟩
    rw [← hx2, Int.toNat_natCast] at k1
    have HX := Aside0.mk (show x = rd own (ord19.getD i 0) from by rw [hq]; exact hx2)
    clear hx2 hq hx
    have hqo : (q : Int) < (own.length : Int) := by rw [HOLN.out]; exact hq19
    go_wp2_with ((with_reducible refine gate_builtin (b := .append) (xs := #[.tmp 80, .tmp 85]) rfl ?_); at_builtin; refine Kd.R_append (Kd.int .i64) (w0 := w11) w11.heap.size rfl (.tmp 80) (.tmp 85) 32 3 (.int .i64 0) 8 rfl Try.underlying32 info3 rfl (by decide) (by omega) (.slice A9 o.length c9) o x [.int .i64 x] (fun _ => True) (fun _ => False) rfl rfl rfl (fun _ hk => hk.elim) (fun _ _ => trivial) HO.out HBm.out HBm.out.size (by have := HJL.out; omega) ?_; intro v5 w12 ho hb hg hat; (have HN5 := Aside0.mk (And.intro ho hb)); clear ho hb hg hat)
    obtain ⟨ho, hb⟩ := HN5.out
    go_roundg (gk - 1)
    case measure => have := HG.out; omega
    case rel =>
     refine ⟨i + 1, _, by go_num, by omega, ⟨by have := HG.out; omega⟩, ⟨?_⟩, ⟨ho⟩, ⟨hb⟩⟩
     have hT : T0[i]? = some x := by rw [HT0.out, HX.out, List.getElem?_map, List.getD_eq_getElem?_getD, List.getElem?_eq_getElem (show i < ord19.length from hlt)]; rfl
     rw [HJ.out, List.take_add_one, hT]; rfl
   obtain rfl : i = 19 := by omega
   have hjo : o = T0 := by rw [HJ.out]; exact List.take_of_length_le (by rw [HT0.out, List.length_map]; decide)
   subst hjo
   go_wp2_with fail
   refine (shrink_less.calls 400 (fun k => IntB wr k) A9 c9 o 4 turned wr (intview HO.out) HTU.out).mono ?_
   rintro e w12 ⟨v12, rfl, ho12, hb12⟩
   obtain ⟨A12, c12, e12⟩ := Kd.V_slice ho12
   subst e12
   obtain ⟨r12, _, hc12⟩ := readsP_view ho12 hb12
   have RT12 := Aside0.mk r12
   have hk12 := (KeepP.of_below HBm.out).below hb12
   have RO12 := Aside0.mk (RO11.out.keep hk12)
   have RS12 := Aside0.mk (RS11.out.keep hk12)
   have RL12 := Aside0.mk (RL11.out.keep hk12)
   have RD12 := Aside0.mk (RD11.out.keep hk12)
   have HP12 := Aside0.mk ((HP11.out.below HBm.out).below hb12)
   have HB12 := Aside0.mk (below_then (below_then HB11.out HB11.out.size HBm.out) (below_then HB11.out HB11.out.size HBm.out).size hb12)
   clear hb12 ho12 r12 hk12 RO11 RS11 RL11 RD11 HP11 HB11 ROR HO HBm HTU HJ HT0 HG
   have hh := HH2.out
   unfold madeC at hh
   split at hh
   rotate_left
   ·cases hh
   rename_i htl
   have HTL := Aside0.mk htl
   clear htl
   obtain ⟨s13, h13, hh⟩ := Option.bind_eq_some_iff.1 hh
   obtain ⟨s14, h14, hh⟩ := Option.bind_eq_some_iff.1 hh
   obtain ⟨s15, h15, hh⟩ := Option.bind_eq_some_iff.1 hh
   obtain ⟨s16, h16, hh⟩ := Option.bind_eq_some_iff.1 hh
   obtain ⟨⟨codes, ec⟩, h17, hh⟩ := Option.bind_eq_some_iff.1 hh
   obtain ⟨s18, h18, hh⟩ := Option.bind_eq_some_iff.1 hh
   simp only at h18 hh
   have H13 := Aside0.mk h13
   have H14 := Aside0.mk h14
   have H15 := Aside0.mk h15
   have H16 := Aside0.mk h16
   have H17 := Aside0.mk h17
   have H18 := Aside0.mk h18
   have H19 := Aside0.mk hh
   clear hh h13 h14 h15 h16 h17 h18 HH2
   go_wp2_with fail
   refine (pen_more g _ 5 s1 s13 w w12 HP12.out HB12.out H13.out).mono ?_
   rintro e w13 ⟨rfl, hP13, hB13, hK13⟩
   have HP13 := Aside0.mk hP13
   have HB13 := Aside0.mk hB13
   have HK13 := Aside0.mk hK13
   clear hP13 hB13 hK13 HP12 HB12 H13
   go_wp2_with fail
   refine (pen_more g _ 5 s13 s14 w w13 HP13.out HB13.out H14.out).mono ?_
   rintro e w14 ⟨rfl, hP14, hB14, hK14⟩
   have HP14 := Aside0.mk hP14
   have HB14 := Aside0.mk hB14
   have HK14 := Aside0.mk (HK13.out.trans hK14)
   clear hP14 hB14 hK14 HP13 HB13 HK13 H14
   go_wp2_with fail
   refine (pen_more g _ 4 s14 s15 w w14 HP14.out HB14.out H15.out).mono ?_
   rintro e w15 ⟨rfl, hP15, hB15, hK15⟩
   have HP15 := Aside0.mk hP15
   have HB15 := Aside0.mk hB15
   have HK15 := Aside0.mk (HK14.out.trans hK15)
   clear hP15 hB15 hK15 HP14 HB14 HK14 H15
   go_wp2_with fail
   go_loopg [114] turned.length (fun kq v114 w' => ∃ (i : Nat) (si : List Int × Nat), v114 = .int .i64 i ∧ i ≤ turned.length ∧ Aside0 (kq + i = turned.length) ∧ Aside0 (lens3 (turned.drop i) si = some s16) ∧ Aside0 (PenAt w w' g si) ∧ Aside0 (Below w.heap.size w w') ∧ Aside0 (KeepP w12 w'))
   case atStart => exact ⟨0, s15, rfl, Nat.zero_le _, ⟨by omega⟩, H16, HP15, HB15, HK15⟩
   case round =>
    clear H16 HP15 HB15 HK15
    obtain ⟨i, si, rfl, hi, HG, HL, HP, HB, HK⟩ := hrel
    have htl := HTL.out
    by_cases hlt : i < turned.length
    ·have h := HL.out
     obtain ⟨ad, ead, k0⟩ := Kd.at_int (RT12.out.keep HK.out).now (i : Int) (by omega) (by omega)
     obtain ⟨t, ht⟩ : ∃ t, t = rd turned (i : Int) := ⟨_, rfl⟩
     rw [← ht, Int.toNat_natCast] at k0
     have hd : turned.drop i = t :: turned.drop (i + 1) := by
      rw [ht]
      unfold rd
      rw [Int.toNat_natCast, List.getD_eq_getElem?_getD, List.getElem?_eq_getElem hlt]
      exact List.drop_eq_getElem_cons hlt
     rw [hd] at h
     simp only [lens3] at h
     obtain ⟨s5, h5, h⟩ := Option.bind_eq_some_iff.1 h
     have H5 := Aside0.mk h5
     have HL1 := Aside0.mk h
     clear h h5 HL hd ht
     subst ead
     go_wp2_with fail
     refine (pen_more g t 3 si s5 w _ HP.out HB.out H5.out).mono ?_
     rintro e w5 ⟨rfl, hP5, hB5, hK5⟩
     have HP5 := Aside0.mk hP5
     have HB5 := Aside0.mk hB5
     have HK5 := Aside0.mk (HK.out.trans hK5)
     clear hP5 hB5 hK5 HP HB HK
     go_wp2_with fail
     go_roundg (gk - 1)
     case measure => have := HG.out; omega
     case rel => exact ⟨i + 1, s5, by go_num, by omega, ⟨by have := HG.out; omega⟩, HL1, HP5, HB5, HK5⟩
    obtain rfl : i = turned.length := by omega
    have h := HL.out
    rw [List.drop_length] at h
    simp only [lens3] at h
    injection h with h
    subst h
    go_wp2_with fail
    refine (canon_Codes.calls A10 c10 own codes ec wr (RO12.out.keep HK.out).now hc10 H17.out).mono ?_
    rintro e w17 ⟨v17, rfl, ho17, hb17⟩
    obtain ⟨A17, c17, e17⟩ := Kd.R_slice ho17
    subst e17
    obtain ⟨r17, _, hc17⟩ := readsP_own ho17
    have RC17 := Aside0.mk r17
    have hk17 := HK.out.below hb17
    have RO17 := Aside0.mk (RO12.out.keep hk17)
    have RS17 := Aside0.mk (RS12.out.keep hk17)
    have RL17 := Aside0.mk (RL12.out.keep hk17)
    have RD17 := Aside0.mk (RD12.out.keep hk17)
    have HP17 := Aside0.mk (HP.out.below hb17)
    have HB17 := Aside0.mk (below_then HB.out HB.out.size hb17)
    clear hb17 ho17 r17 hk17 RO12 RS12 RL12 RD12 HP HB HK RT12 H17 HL HG
    go_wp2_with fail
    go_loopg [131] row.length (fun kq v131 w' => ∃ (i : Nat) (si : List Int × Nat), v131 = .int .i64 i ∧ i ≤ row.length ∧ Aside0 (kq + i = row.length) ∧ Aside0 (seqL codes own (row.drop i) si = some s18) ∧ Aside0 (PenAt w w' g si) ∧ Aside0 (Below w.heap.size w w') ∧ Aside0 (KeepP w17 w'))
    case atStart => exact ⟨0, _, rfl, Nat.zero_le _, ⟨by omega⟩, H18, HP17, HB17, ⟨KeepP.refl _⟩⟩
    case round =>
     clear H18 HP17 HB17
     obtain ⟨i, si, rfl, hi, HG, HL, HP, HB, HK⟩ := hrel
     by_cases hlt : i < row.length
     ·have h := HL.out
      obtain ⟨ad, ead, k0, k1, k2, k3⟩ := at_T76 (RS17.out wr HK.out) (i : Int) (by omega) (by omega)
      obtain ⟨t, ht⟩ : ∃ t, t = rd_T76 row (i : Int) := ⟨_, rfl⟩
      rw [← ht, Int.toNat_natCast] at k0
      rw [← ht, Int.toNat_natCast] at k1 k2 k3
      have hd : row.drop i = t :: row.drop (i + 1) := by
       rw [ht]
       unfold rd_T76
       rw [Int.toNat_natCast, List.getD_eq_getElem?_getD, List.getElem?_eq_getElem hlt]
       exact List.drop_eq_getElem_cons hlt
      rw [hd] at h
      simp only [seqL] at h
      obtain ⟨s5, h5, h⟩ := Option.bind_eq_some_iff.1 h
      obtain ⟨s6, h6, h⟩ := Option.bind_eq_some_iff.1 h
      have H5 := Aside0.mk h5
      have H6 := Aside0.mk h6
      have HL1 := Aside0.mk h
      clear h h5 h6 HL hd ht
      subst ead
      have hal : Below wr.heap.size wr (wr.alloc (.cells #[.int .i64 t.f0, .int .i64 t.f1, .int .i64 t.f2, .int .i64 t.f3] 76)) := (Below.refl _ _).alloc (Nat.le_refl _) _
      have HAL := Aside0.mk hal
      have BT := Aside0.mk (blk_new wr (.cells #[.int .i64 t.f0, .int .i64 t.f1, .int .i64 t.f2, .int .i64 t.f3] 76))
      clear hal
      go_wp2_with fail
      have hk0 := HK.out.trans (KeepP.of_below HAL.out)
      refine (pen_code g A17 A10 c17 c10 codes own t.f0 si s5 w _ (HP.out.below HAL.out) (HB.out.alloc HB.out.size _) (RC17.out.keep hk0).now hc17 (RO17.out.keep hk0).now hc10 H5.out).mono ?_
      rintro e w5 ⟨rfl, hP5, hB5, hK5⟩
      have HP5 := Aside0.mk hP5
      have HB5 := Aside0.mk hB5
      have HK5 := Aside0.mk (hk0.trans hK5)
      have BT5 := Aside0.mk (hK5.2 _ _ _ BT.out (by decide) (by decide))
      clear hP5 hB5 hK5 HP HB HK hk0 BT HAL H5
      have hcz1 : w5.cell? ⟨wr.heap.size, 1, none⟩ = some (.int .i64 t.f1) := (blk_cell BT5.out 1).trans rfl
      have hcz2 : w5.cell? ⟨wr.heap.size, 2, none⟩ = some (.int .i64 t.f2) := (blk_cell BT5.out 2).trans rfl
      go_upto_region 34 with fail
      go_region_with (go_at_call 60; refine (pen_more g t.f1 t.f2 s5 s6 w w5.drew (HP5.out.below (Below.refl _ _).drew) HB5.out.drew H6.out).mono ?_; rintro e w6 ⟨rfl, hP6, hB6, hK6⟩; have HP6 := Aside0.mk hP6; have HB6 := Aside0.mk hB6; have HK6 := Aside0.mk ((HK5.out.below (Below.refl _ w5).drew).trans hK6); clear hP6 hB6 hK6)
      all_goals
       clear HP5 HB5 HK5 BT5 hcz1 hcz2 H6
       go_wp2_with fail
       go_roundg (gk - 1)
       case measure => have := HG.out; omega
       case rel => exact ⟨i + 1, s6, by go_num, by omega, ⟨by have := HG.out; omega⟩, HL1, HP6, HB6, HK6⟩
     obtain rfl : i = row.length := by omega
     have h := HL.out
     rw [List.drop_length] at h
     simp only [seqL] at h
     injection h with h
     subst h
     go_wp2_with fail
     refine (pen_body g A0 A5 A6 c0 c5 c6 l lits dists _ sr w wr HP.out HB.out (ReadsT.keep HR.out (KeepP.of_below HB.out)) hc0 hl (RL17.out.keep HK.out) hc5 (RD17.out.keep HK.out) hc6 H19.out).mono ?_
     rintro e w19 ⟨rfl, hP19, hB19, _⟩
     go_wp2_with fail
     go_ret
     exact ⟨g, rfl, hP19, hB19⟩

end Go.Proofs.Ytlffpaploefljaa.P
