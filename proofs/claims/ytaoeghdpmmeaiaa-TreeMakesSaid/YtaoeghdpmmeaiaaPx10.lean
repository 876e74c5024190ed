-- Written by a program of this session out of the translation. Lean checks it.
import Derived.Test.YtaoeghdpmmeaiaaPx0
import Derived.Test.YtaoeghdpmmeaiaaPx6
import Derived.Test.YtaoeghdpmmeaiaaPx7
import Derived.Test.YtaoeghdpmmeaiaaPx9
namespace Go.Proofs.Ytaoeghdpmmeaiaa.P
open Go.RowKit Go.Proofs.YtaoeghdpmmeaiaaW.PrintWords Go.Proofs.YtaoeghdpmmeaiaaW.PrintLast Go.Proofs.YtaoeghdpmmeaiaaW.PrintMore
attribute [local go_sem] max2_int min2_int max_two min_two max_three min_three max_four min_four   -- for this text's walks alone
set_option linter.unusedVariables false
set_option linter.unusedSimpArgs false

-- PART
/-! ### tree_once: function 21 (by hand) -/
def leafs (ws : List Int) (i : Nat) : List (Int × List Int) := (List.range i).filterMap (fun j => if 0 < ws.getD j 0 then some (ws.getD j 0, [(j : Int)]) else none)
theorem leafs_succ (ws : List Int) (i : Nat) : leafs ws (i + 1) = leafs ws i ++ (if 0 < ws.getD i 0 then [(ws.getD i 0, [(i : Int)])] else []) := by
  unfold leafs
  rw [List.range_succ, List.filterMap_append]
  congr 1
  by_cases h : 0 < ws.getD i 0
  · rw [if_pos h]; simp only [List.filterMap_cons, List.filterMap_nil, if_pos h]
  · rw [if_neg h]; simp only [List.filterMap_cons, List.filterMap_nil, if_neg h]
/-- One more for each symbol. -/
def bump (out both : List Int) : List Int := both.foldl (fun o s => o.set s.toNat (wrap64 (rd o s + 1))) out
theorem bump_length (both : List Int) : ∀ out : List Int, (bump out both).length = out.length := by
  induction both with
  | nil => intro out; rfl
  | cons s r ih => intro out; exact (ih _).trans (by simp)
theorem bump_take (out both : List Int) (i : Nat) (h : i < both.length) : bump out (both.take (i + 1)) = (bump out (both.take i)).set (rd both i).toNat (wrap64 (rd (bump out (both.take i)) (rd both i) + 1)) := by
  have e : rd both (i : Int) = both[i] := by unfold rd; rw [Int.toNat_natCast]; simp [h]
  rw [List.take_succ_eq_append_getElem h, e]
  unfold bump
  rw [List.foldl_append]
  rfl
def pickOf (ns : List (Int × List Int)) : Int × List Int := ns.getD (leastAt (ns.map (·.1))) (0, [])
def restOf (ns : List (Int × List Int)) : List (Int × List Int) := ns.eraseIdx (leastAt (ns.map (·.1)))
def bothOf (ns : List (Int × List Int)) : List Int := (pickOf ns).2 ++ (pickOf (restOf ns)).2
def mergeOf (ns : List (Int × List Int)) : List (Int × List Int) := restOf (restOf ns) ++ [(wrap64 ((pickOf ns).1 + (pickOf (restOf ns)).1), bothOf ns)]
def onceFrom : Nat → List (Int × List Int) → List Int → List Int
  | 0, _, out => out
  | k + 1, ns, out => if 1 < ns.length then onceFrom k (mergeOf ns) (bump out (bothOf ns)) else out
def onceOf (ws : List Int) : List Int :=
  if (leafs ws ws.length).length = 1 then (List.replicate ws.length 0).set (rd ((leafs ws ws.length).getD 0 (0, [])).2 0).toNat 1
  else onceFrom (leafs ws ws.length).length (leafs ws ws.length) (List.replicate ws.length 0)
theorem onceFrom_end (k : Nat) (ns : List (Int × List Int)) (out : List Int) (h : ¬ 1 < ns.length) : onceFrom k ns out = out := by
  cases k with
  | zero => rfl
  | succ k => unfold onceFrom; rw [if_neg h]
def Good (n : Nat) (ns : List (Int × List Int)) : Prop := ns.length ≤ n ∧ (ns.map (·.2.length)).sum ≤ n ∧ ∀ x ∈ ns, x.2 ≠ [] ∧ ∀ s ∈ x.2, 0 ≤ s ∧ s < n
theorem leafs_good (ws : List Int) (i : Nat) (h : i ≤ ws.length) : (leafs ws i).length ≤ i ∧ ((leafs ws i).map (·.2.length)).sum ≤ i ∧ ∀ x ∈ leafs ws i, x.2 ≠ [] ∧ ∀ s ∈ x.2, 0 ≤ s ∧ s < (ws.length : Int) := by
  induction i with
  | zero => simp [leafs]
  | succ i ih =>
    obtain ⟨h1, h2, h3⟩ := ih (by omega)
    rw [leafs_succ]
    by_cases hp : 0 < ws.getD i 0
    · rw [if_pos hp]
      refine ⟨by simp; omega, by simp; omega, fun x hx => ?_⟩
      rcases List.mem_append.1 hx with hx | hx
      · exact h3 x hx
      · have hx : x = (ws.getD i 0, [(i : Int)]) := by simpa using hx
        subst hx
        refine ⟨by simp, fun s hs => ?_⟩
        have hs : s = (i : Int) := by simpa using hs
        subst hs
        omega
    · rw [if_neg hp, List.append_nil]
      exact ⟨by omega, by omega, h3⟩
theorem sum_erase : ∀ (l : List Nat) (i : Nat) (h : i < l.length), l[i] + (l.eraseIdx i).sum = l.sum
  | a :: r, 0, _ => by simp
  | a :: r, i + 1, h => by
    have := sum_erase r i (by simpa using h)
    simp only [List.getElem_cons_succ, List.eraseIdx_cons_succ, List.sum_cons]
    omega
theorem map_erase {α β : Type} (f : α → β) (l : List α) (i : Nat) : (l.eraseIdx i).map f = (l.map f).eraseIdx i := by
  rw [List.eraseIdx_eq_take_drop_succ, List.eraseIdx_eq_take_drop_succ, List.map_append, List.map_take, List.map_drop]
theorem leastAt_lt (ws : List Int) (h : 0 < ws.length) : leastAt ws < ws.length := leastTo_lt ws _ (Nat.le_refl _) h
theorem pick_mem (ns : List (Int × List Int)) (h : 0 < ns.length) : ∃ hl : leastAt (ns.map (·.1)) < ns.length, pickOf ns = ns[leastAt (ns.map (·.1))] := by
  have hl : leastAt (ns.map (·.1)) < ns.length := by simpa using leastAt_lt (ns.map (·.1)) (by simpa using h)
  exact ⟨hl, by unfold pickOf; simp [hl]⟩
theorem rest_good {n : Nat} {ns : List (Int × List Int)} (h : Good n ns) (h0 : 0 < ns.length) : Good n (restOf ns) ∧ (restOf ns).length = ns.length - 1 ∧ (pickOf ns).2.length + ((restOf ns).map (·.2.length)).sum = (ns.map (·.2.length)).sum ∧ (pickOf ns).2 ≠ [] ∧ ∀ s ∈ (pickOf ns).2, 0 ≤ s ∧ s < (n : Int) := by
  obtain ⟨hl, hp⟩ := pick_mem ns h0
  have hle : (restOf ns).length = ns.length - 1 := by unfold restOf; rw [List.length_eraseIdx_of_lt hl]
  have hs := sum_erase (ns.map (·.2.length)) (leastAt (ns.map (·.1))) (by simpa using hl)
  rw [← map_erase, List.getElem_map, ← hp] at hs
  have hm := h.2.2 (pickOf ns) (by rw [hp]; exact List.getElem_mem hl)
  refine ⟨⟨by have := h.1; omega, by have := h.2.1; unfold restOf; omega, fun x hx => h.2.2 x (List.mem_of_mem_eraseIdx hx)⟩, hle, hs, hm⟩
theorem merge_good {n : Nat} {ns : List (Int × List Int)} (h : Good n ns) (h1 : 1 < ns.length) : Good n (mergeOf ns) ∧ (mergeOf ns).length = ns.length - 1 ∧ (bothOf ns).length ≤ n ∧ ∀ s ∈ bothOf ns, 0 ≤ s ∧ s < (n : Int) := by
  obtain ⟨g1, l1, s1, m1, b1⟩ := rest_good h (by omega)
  obtain ⟨g2, l2, s2, m2, b2⟩ := rest_good g1 (by omega)
  have hb : ∀ s ∈ bothOf ns, 0 ≤ s ∧ s < (n : Int) := by
    intro s hs
    rcases List.mem_append.1 hs with hs | hs
    · exact b1 s hs
    · exact b2 s hs
  have hlen : (bothOf ns).length = (pickOf ns).2.length + (pickOf (restOf ns)).2.length := by unfold bothOf; rw [List.length_append]
  have hsum := h.2.1
  refine ⟨⟨?_, ?_, fun x hx => ?_⟩, ?_, by omega, hb⟩
  · unfold mergeOf; rw [List.length_append, List.length_singleton]; have := h.1; omega
  · unfold mergeOf; rw [List.map_append, List.sum_append]; simp; omega
  · rcases List.mem_append.1 hx with hx | hx
    · exact g2.2.2 x hx
    · have hx : x = (wrap64 ((pickOf ns).1 + (pickOf (restOf ns)).1), bothOf ns) := by simpa using hx
      subst hx
      exact ⟨by unfold bothOf; simp [m1], hb⟩
  · unfold mergeOf; rw [List.length_append, List.length_singleton]; omega
/-- A row of symbols, in memory of its own from bo on. -/
def SymR (w : World) (bo : Nat) (v : Value) (s : List Int) : Prop := (Kd.int .i64).R 3 w bo (fun _ => True) v s
theorem SymR.keep {w w1 : World} {bo : Nat} {v : Value} {s : List Int} (h : SymR w bo v s) (hm : ∀ k cells, bo ≤ k → k < w.heap.size → w.heap[k]? = some (.cells cells 3 (0, 0)) → w1.heap[k]? = w.heap[k]?) : SymR w1 bo v s := by
  refine Kd.R_mono (Kd.R_move (Kd.R_bound h) (fun k hk => ?_)) (fun _ _ => trivial)
  obtain ⟨_, h1, h2, q, hq, cells, hc⟩ := hk
  have e : q = 3 := by
    have : (Kd.int .i64).E = [] := rfl
    rw [this] at hq
    simpa using hq
  subst e
  exact hm k cells h1 h2 hc
theorem SymR.below {w w1 : World} {bo : Nat} {v : Value} {s : List Int} (h : SymR w bo v s) (hb : Below w.heap.size w w1) : SymR w1 bo v s := Kd.R_below h hb
/-- Nodes' rows of symbols. -/
def Symss (w : World) (bo : Nat) (l : List (Int × Value)) (ns : List (Int × List Int)) : Prop :=
  l.length = ns.length ∧ ∀ (j : Nat) (x : Int × Value) (y : Int × List Int), l[j]? = some x → ns[j]? = some y → x.1 = y.1 ∧ SymR w bo x.2 y.2
def NodesS (w : World) (base bo : Nat) (v : Value) (ns : List (Int × List Int)) : Prop := ∃ l : List (Int × Value), Nodes w base v l ∧ Symss w bo l ns
theorem Symss.keep {w w1 : World} {bo : Nat} {l : List (Int × Value)} {ns : List (Int × List Int)} (h : Symss w bo l ns) (hm : ∀ k cells, bo ≤ k → k < w.heap.size → w.heap[k]? = some (.cells cells 3 (0, 0)) → w1.heap[k]? = w.heap[k]?) : Symss w1 bo l ns :=
  ⟨h.1, fun j x y hx hy => ⟨(h.2 j x y hx hy).1, (h.2 j x y hx hy).2.keep hm⟩⟩
theorem Symss.grown {w w1 : World} {bo : Nat} {l : List (Int × Value)} {ns : List (Int × List Int)} (h : Symss w bo l ns) {row : Option Nat} (hg : w.grownBy w1 row) (hr : ∀ g, row = some g → ∃ cs, w.heap[g]? = some (.cells cs 56 (0, 0))) : Symss w1 bo l ns :=
  h.keep (fun k cells _ hk hc => hg.block k hk (fun e => by
    obtain ⟨cs, h2⟩ := hr k e.symm
    rw [hc] at h2
    injection h2 with h2
    injection h2 with _ h3
    exact absurd h3 (by decide)))
theorem Symss.weights {w : World} {bo : Nat} {l : List (Int × Value)} {ns : List (Int × List Int)} (h : Symss w bo l ns) : l.map (·.1) = ns.map (·.1) := by
  apply List.ext_getElem?
  intro j
  rw [List.getElem?_map, List.getElem?_map]
  by_cases hj : j < l.length
  · have hj2 : j < ns.length := by rw [← h.1]; exact hj
    rw [List.getElem?_eq_getElem hj, List.getElem?_eq_getElem hj2]
    have := (h.2 j _ _ (List.getElem?_eq_getElem hj) (List.getElem?_eq_getElem hj2)).1
    simp [this]
  · rw [List.getElem?_eq_none (by omega), List.getElem?_eq_none (by have := h.1; omega)]
    rfl
theorem Symss.erase {w : World} {bo : Nat} {l : List (Int × Value)} {ns : List (Int × List Int)} (h : Symss w bo l ns) (i : Nat) (hi : i < ns.length) : Symss w bo (l.eraseIdx i) (ns.eraseIdx i) := by
  refine ⟨by rw [List.length_eraseIdx_of_lt (by have := h.1; omega), List.length_eraseIdx_of_lt hi, h.1], fun j x y hx hy => ?_⟩
  rw [List.getElem?_eraseIdx] at hx hy
  by_cases hj : j < i
  · rw [if_pos hj] at hx hy
    exact h.2 j x y hx hy
  · rw [if_neg hj] at hx hy
    exact h.2 (j + 1) x y hx hy
theorem Symss.snoc {w : World} {bo : Nat} {l : List (Int × Value)} {ns : List (Int × List Int)} (h : Symss w bo l ns) {x : Int × Value} {y : Int × List Int} (hx : x.1 = y.1 ∧ SymR w bo x.2 y.2) : Symss w bo (l ++ [x]) (ns ++ [y]) := by
  refine ⟨by simp [h.1], fun j a b ha hb => ?_⟩
  by_cases hj : j < l.length
  · rw [List.getElem?_append_left hj] at ha
    rw [List.getElem?_append_left (by have := h.1; omega)] at hb
    exact h.2 j a b ha hb
  · rw [List.getElem?_append_right (by omega)] at ha
    rw [List.getElem?_append_right (by have := h.1; omega), ← h.1] at hb
    obtain ⟨n, hn⟩ : ∃ n, n = j - l.length := ⟨_, rfl⟩
    rw [← hn] at ha hb
    cases n with
    | zero =>
      simp at ha hb
      subst ha; subst hb
      exact hx
    | succ n => simp at ha
theorem nodes_type {w : World} {base : Nat} {v : Value} {rows : List (List Value)} (h : (Kd.raw 2).R 56 w base (fun _ => True) v rows) : ∀ g, v.ownBlock = some g → ∃ cs, w.heap[g]? = some (.cells cs 56 (0, 0)) := by
  intro g hg
  obtain ⟨inner, ho⟩ := Kd.R_own h
  exact own_typed ho g hg
theorem NodesS.below {w w1 : World} {base bo : Nat} {v : Value} {ns : List (Int × List Int)} (h : NodesS w base bo v ns) (hb : Below w.heap.size w w1) : NodesS w1 base bo v ns := by
  obtain ⟨l, h1, h2⟩ := h
  exact ⟨l, Kd.R_below h1 hb, h2.keep (fun k _ _ hk _ => hb.block k hk)⟩
/-- What is written into a row of ints that lies ahead of bo says nothing of the nodes. -/
theorem NodesS.far {w : World} {base bo : Nat} {v : Value} {ns : List (Int × List Int)} (h : NodesS w base bo v ns) {go : Nat} {cs : Array Value} (hgo : w.heap[go]? = some (.cells cs 3 (0, 0))) (hlt : go < bo) (j : Nat) (u : Value) : NodesS (w.setCell ⟨go, j, none⟩ u) base bo v ns := by
  obtain ⟨l, h1, h2⟩ := h
  refine ⟨l, Kd.R_mono (Kd.R_far (Kd.R_bound h1) (fun k hk => ?_) u) (fun _ _ => trivial), h2.keep (fun k _ hb _ _ => Below.heap_setCell w ⟨go, j, none⟩ u k (by show k ≠ go; omega))⟩
  obtain ⟨_, _, _, q, hq, cells, hc⟩ := hk
  have e : q = 56 := by
    have : (Kd.raw 2).E = [] := rfl
    rw [this] at hq
    simpa using hq
  subst e
  show k ≠ go
  rintro rfl
  rw [hc] at hgo
  injection hgo with hgo
  injection hgo with _ h3
  exact absurd h3 (by decide)
theorem NodesS.lower {w : World} {base base' bo : Nat} {v : Value} {ns : List (Int × List Int)} (h : NodesS w base bo v ns) (hb : base' ≤ base) : NodesS w base' bo v ns := by
  obtain ⟨l, h1, h2⟩ := h
  exact ⟨l, Kd.R_lower h1 hb, h2⟩
theorem NodesS.length {w : World} {base bo : Nat} {v : Value} {ns : List (Int × List Int)} (h : NodesS w base bo v ns) : ∃ A c, v = .slice A ns.length c ∧ ns.length ≤ c := by
  obtain ⟨l, h1, h2⟩ := h
  obtain ⟨A, c, e⟩ := Kd.R_slice h1
  subst e
  have h3 := (Kd.R_reads' h1).2.1
  rw [nodeRows_length, h2.1] at *
  exact ⟨A, c, rfl, h3⟩
theorem least_of (bo : Nat) (v : Value) (ns : List (Int × List Int)) (w0 w : World) (hN : NodesS w w0.heap.size bo v ns) (h0 : 0 < ns.length) (hB : Below w0.heap.size w0 w) (hl : ns.length ≤ 1000000) :
    Calls Try.prog 32 #[v] w fun e w' => ∃ xv v' g, e = .returned (.tuple #[.agg #[.int .i64 (pickOf ns).1, xv], v']) ∧ SymR w' bo xv (pickOf ns).2 ∧ NodesS w' w0.heap.size bo v' (restOf ns) ∧ Below w0.heap.size w0 w' ∧ v.ownBlock = some g ∧ g < w.heap.size ∧ w.grownBy w' (some g) ∧ v'.ownBlock = some g ∧ ∃ cs, w.heap[g]? = some (.cells cs 56 (0, 0)) := by
  obtain ⟨l, h1, h2⟩ := hN
  obtain ⟨g, c, e, _, hgl, hgt⟩ := Kd.R_form h1 (by rw [nodeRows_length, h2.1]; exact h0)
  subst e
  rw [nodeRows_length] at *
  have hw := h2.weights
  refine (tree_least g c l w0 w (by rw [Nodes]; exact h1) (by rw [h2.1]; exact h0) hB (by rw [h2.1]; exact hl) (fun x hx => ?_)).mono ?_
  · obtain ⟨j, hj⟩ := List.mem_iff_getElem?.1 hx
    have hjl : j < l.length := (List.getElem?_eq_some_iff.1 hj).1
    obtain ⟨A, c', e⟩ := Kd.R_slice (h2.2 j x _ hj (List.getElem?_eq_getElem (by rw [← h2.1]; exact hjl))).2
    exact ⟨A, _, c', e⟩
  · rintro e w' ⟨x, hx, rfl, hN', hB', hg⟩
    rw [hw] at hx hN'
    obtain ⟨hl1, hp⟩ := pick_mem ns h0
    have hxy := h2.2 _ x _ hx (List.getElem?_eq_getElem hl1)
    rw [← hp] at hxy
    have hgt' : ∀ g', some g = some g' → ∃ cs, w.heap[g']? = some (.cells cs 56 (0, 0)) := fun g' e => by injection e with e; subst e; exact hgt
    have hS := (h2.erase _ hl1).grown hg hgt'
    refine ⟨x.2, _, g, by rw [hxy.1], ?_, ⟨_, hN', hS⟩, hB', by simp [Value.ownBlock], hgl, hg, by simp [Value.ownBlock], hgt⟩
    refine hxy.2.keep (fun k cells _ hk hc => hg.block k hk (fun e => ?_))
    obtain ⟨cs, h5⟩ := hgt' k e.symm
    rw [hc] at h5
    injection h5 with h5
    injection h5 with _ h6
    exact absurd h6 (by decide)
theorem lit_row (w : World) (bo : Nat) (i : Int) (hb : bo ≤ w.heap.size) : SymR (w.alloc (.cells #[.int .i64 i] 3)) bo (.slice (some ⟨w.heap.size, 0, none⟩) 1 1) [i] := by
  refine ⟨fun _ _ => trivial, [.int .i64 i], ⟨rfl, .inr ⟨w.heap.size, 1, #[.int .i64 i], rfl, hb, Array.getElem?_push_size, Nat.le_refl _, by decide, rfl, rfl⟩⟩, rfl, fun j p hj => ?_⟩
  cases j with
  | zero =>
    simp at hj
    subst hj
    rfl
  | succ j => simp at hj
theorem node_info : (Try.prog.info? 56).map (fun i => (i.zero, i.size, i.bytes)) = some (some (.agg #[.int .i64 0, .slice none 0 0]), 2, 32) := by kernel_rfl
/-- A node put behind the others. -/
theorem NodesS.snoc {w w1 : World} {base bo : Nat} {v v1 : Value} {l : List (Int × Value)} {ns : List (Int × List Int)} {x : Int × Value} {y : Int × List Int} (h1 : Nodes w base v l) (h : Symss w bo l ns) (hN : (Kd.raw 2).R 56 w1 base (fun _ => True) v1 (nodeRows l ++ [nodeCells x])) (hg : w.grownBy w1 v.ownBlock) (hx : x.1 = y.1 ∧ SymR w bo x.2 y.2) : NodesS w1 base bo v1 (ns ++ [y]) := by
  refine ⟨l ++ [x], ?_, (h.snoc hx).grown hg (nodes_type h1)⟩
  rw [Nodes, nodeRows, List.map_append]
  exact hN
/-- All blocks of ints are as they were. -/
def Keeps (w w1 : World) : Prop := w.heap.size ≤ w1.heap.size ∧ ∀ (k : Nat) (cells : Array Value), k < w.heap.size → w.heap[k]? = some (.cells cells 3 (0, 0)) → w1.heap[k]? = w.heap[k]?
theorem Keeps.trans {a b c : World} (h : Keeps a b) (k : Keeps b c) : Keeps a c :=
  ⟨Nat.le_trans h.1 k.1, fun i cells hi hc => (k.2 i cells (Nat.lt_of_lt_of_le hi h.1) ((h.2 i cells hi hc).trans hc)).trans (h.2 i cells hi hc)⟩
theorem Keeps.below {w w1 : World} (hb : Below w.heap.size w w1) : Keeps w w1 := ⟨hb.size, fun k _ hk _ => hb.block k hk⟩
theorem not_both {w : World} {k g : Nat} {cells cs : Array Value} (hc : w.heap[k]? = some (.cells cells 3 (0, 0))) (hg : w.heap[g]? = some (.cells cs 56 (0, 0))) : k ≠ g := by
  rintro rfl
  rw [hc] at hg
  injection hg with hg
  injection hg with _ h3
  exact absurd h3 (by decide)
theorem Keeps.grown {w w1 : World} {g : Nat} (hg : w.grownBy w1 (some g)) (hr : ∃ cs, w.heap[g]? = some (.cells cs 56 (0, 0))) : Keeps w w1 := by
  obtain ⟨cs, hr⟩ := hr
  exact ⟨hg.size, fun k cells hk hc => hg.block k hk (fun e => by injection e with e; exact not_both hc hr e)⟩
theorem Keeps.set {w : World} {b : Nat} {cs : Array Value} (hb : w.heap[b]? = some (.cells cs 56 (0, 0))) (j : Nat) (u : Value) : Keeps w (w.setCell ⟨b, j, none⟩ u) :=
  ⟨by simp [World.setCell], fun k cells _ hc => Below.heap_setCell w ⟨b, j, none⟩ u k (not_both hc hb)⟩
theorem SymR.keeps {w w1 : World} {bo : Nat} {v : Value} {s : List Int} (h : SymR w bo v s) (hk : Keeps w w1) : SymR w1 bo v s := h.keep (fun k cells _ hlt hc => hk.2 k cells hlt hc)
theorem NodesS.keeps {w w1 : World} {base bo : Nat} {v : Value} {ns : List (Int × List Int)} (h : NodesS w base bo v ns) (hk : Keeps w w1) (hv : ∀ k, v.ownBlock = some k → w1.heap[k]? = w.heap[k]?) : NodesS w1 base bo v ns := by
  obtain ⟨l, h1, h2⟩ := h
  exact ⟨l, Kd.raw_any (Kd.R_move (Kd.raw_tight h1) (fun k hk => hv k hk.symm)), h2.keep (fun k cells _ hlt hc => hk.2 k cells hlt hc)⟩
theorem NodesS.lt {w : World} {base bo : Nat} {v : Value} {ns : List (Int × List Int)} (h : NodesS w base bo v ns) {g : Nat} (hv : v.ownBlock = some g) : g < w.heap.size := by
  obtain ⟨l, h1, h2⟩ := h
  exact Kd.R_lt h1 g hv
/-- A node laid into a variable's block. -/
theorem node_put {w : World} {b : Nat} {cs : Array Value} (hb : w.heap[b]? = some (.cells cs 56 (0, 0))) (hs : cs = #[.int .i64 0, .slice none 0 0]) (u v : Value) :
    ((w.setCell ⟨b, 0, none⟩ u).setCell ⟨b, 1, none⟩ v).heap[b]? = some (.cells #[u, v] 56 (0, 0)) := by
  subst hs
  exact blk_put (cs := #[u, .slice none 0 0]) (blk_put (cs := #[.int .i64 0, .slice none 0 0]) hb 0 _ rfl) 1 _ rfl
set_option maxHeartbeats 8000000 in
set_option maxRecDepth 100000 in
theorem once_calls (A0 : Option Addr) (c0 : Nat) (l0 : List Int) (w : World) (hr0 : Kd.C (Kd.int .i64) w A0 l0.length l0) (hc0 : l0.length ≤ c0) (hl : l0.length ≤ 300) :
    Calls Try.prog 21 #[.slice A0 l0.length c0] w fun e w' => ∃ v, e = .returned v ∧ Kd.R (Kd.int .i64) 3 w' w.heap.size (fun _ => True) v (onceOf l0) ∧ Below w.heap.size w w' := by
  have HR := Aside0.mk hr0
  have HC := Aside0.mk hc0
  obtain ⟨L, hL⟩ : ∃ L, L = l0.length := ⟨_, rfl⟩
  have HL := Aside0.mk hL
  rw [← hL] at hl ⊢
  clear hr0 hc0 hL
  go_enter Try.func21, Try.ntmps21
  go_wp2_with (refine Kd.R_make (Kd.int .i64) (w0 := w) w.heap.size 3 rfl rfl 22 (.tmp 13) (.tmp 13) rfl (L : Int) rfl rfl Try.underlying22 (.int .i64 0) 8 info3 rfl (by decide) (by decide) (0 : Int) (ok := fun _ => True) (okp := fun _ => False) rfl (fun _ hk => hk.elim) trivial (by omega) (by omega) (Below.refl _ _) (Nat.le_refl _) ?_; intro v1 wB ho hb hg hat; (have HO := Aside0.mk ho); (have HB := Aside0.mk hb); (have HG := Aside0.mk hg); (have HAT := Aside0.mk hat); clear ho hb hg hat)
  rw [Int.toNat_natCast] at HO
  go_loopg [4, 17] L (fun kq v4 v17 w' => ∃ i : Nat, i ≤ L ∧ v17 = .int .i64 i ∧ Aside0 (kq + i = L) ∧ Aside0 (NodesS w' wB.heap.size wB.heap.size v4 (leafs l0 i)) ∧ Aside0 (Below wB.heap.size wB w'))
  case atStart => exact ⟨0, by omega, rfl, ⟨rfl⟩, ⟨[], Kd.R_nil _ _ _ _ _, rfl, fun j x y hx _ => by simp at hx⟩, ⟨Below.refl _ _⟩⟩
  case round =>
    obtain ⟨i, hi, rfl, HK, HN, HBr⟩ := hrel
    by_cases hlt : i < L
    · have HBw := Aside0.mk (show Below w.heap.size w wr from below_then HB.out HB.out.size HBr.out)
      obtain ⟨ad, rfl, hcell⟩ := Kd.at_int (Kd.C_below HR.out HBw.out) (i : Int) (by omega) (by rw [← HL.out]; omega)
      have e : rd l0 (i : Int) = l0.getD i 0 := by unfold rd; rw [Int.toNat_natCast]
      rw [Int.toNat_natCast, e] at hcell
      have HS := Aside0.mk (leafs_succ l0 i)
      generalize l0.getD i 0 = x at hcell HS
      clear e
      by_cases hx : 0 < x
      · have hd : decide (0 < x) = true := decide_eq_true hx
        obtain ⟨A4, c4, e4, hc4⟩ := HN.out.length
        subst e4
        obtain ⟨l, hNl, hSl⟩ := HN.out
        have HW2 := Aside0.mk (show Below wr.heap.size wr (wr.alloc (Obj.cells #[Value.int IntKind.i64 (i : Int)] 3)) from (Below.refl _ _).alloc (Nat.le_refl _) _)
        have HNl := Aside0.mk (show Nodes (wr.alloc (Obj.cells #[Value.int IntKind.i64 (i : Int)] 3)) wB.heap.size _ l from Kd.R_below hNl HW2.out)
        have HSl := Aside0.mk (show Symss (wr.alloc (Obj.cells #[Value.int IntKind.i64 (i : Int)] 3)) wB.heap.size l _ from hSl.keep (fun k _ _ hk _ => HW2.out.block k hk))
        have HLit := Aside0.mk (lit_row wr wB.heap.size (i : Int) HBr.out.size)
        have HB2 := Aside0.mk (show Below wB.heap.size wB (wr.alloc (Obj.cells #[Value.int IntKind.i64 (i : Int)] 3)) from below_then HBr.out HBr.out.size HW2.out)
        have HLL := Aside0.mk (show l.length ≤ 300 from by have := (leafs_good l0 i (by have := HL.out; omega)).1; have := hSl.1; omega)
        clear hNl hSl
        go_wp2_with ((with_reducible refine gate_builtin (b := .append) (xs := #[.tmp 24, .tmp 29]) rfl ?_); at_builtin; refine Kd.R_append (Kd.raw 2) (w0 := wB) wB.heap.size rfl (.tmp 24) (.tmp 29) 54 56 (.agg #[.int .i64 0, .slice none 0 0]) 32 rfl Try.underlying54 node_info rfl (by decide) (by decide) (.slice A4 (leafs l0 i).length c4) (nodeRows l) (nodeCells (x, .slice (some ⟨wr.heap.size, 0, none⟩) 1 1)) (nodeCells (x, .slice (some ⟨wr.heap.size, 0, none⟩) 1 1)) (fun _ => True) (fun _ => False) rfl (by simp; rfl) ⟨rfl, rfl, by intro u hu; simp [nodeCells] at hu; rcases hu with rfl | rfl <;> rfl⟩ (fun _ hk => hk.elim) (fun _ _ => trivial) HNl.out HB2.out HB2.out.size (by rw [nodeRows_length]; have := HLL.out; omega) ?_; intro v5 w5 ho hb hg hat; (have HN5 := Aside0.mk (And.intro ho (And.intro hb hg))); clear ho hb hg hat)
        obtain ⟨ho, hb, hg⟩ := HN5.out
        have HN6 := Aside0.mk (NodesS.snoc (y := (x, [(i : Int)])) HNl.out HSl.out ho hg ⟨rfl, HLit.out⟩)
        go_roundg (gk - 1)
        case measure => have := HK.out; omega
        case rel => exact ⟨i + 1, by omega, by go_num, ⟨by have := HK.out; omega⟩, ⟨by rw [HS.out, if_pos hx]; exact HN6.out⟩, ⟨hb⟩⟩
      · have hd : decide (0 < x) = false := decide_eq_false hx
        go_wp2_with fail
        go_roundg (gk - 1)
        case measure => have := HK.out; omega
        case rel => exact ⟨i + 1, by omega, by go_num, ⟨by have := HK.out; omega⟩, ⟨by rw [HS.out, if_neg (by omega), List.append_nil]; exact HN.out⟩, HBr⟩
    · have hiL : i = L := by omega
      subst hiL
      obtain ⟨ns, hns⟩ : ∃ ns, ns = leafs l0 i := ⟨_, rfl⟩
      rw [← hns] at HN
      have HNS := Aside0.mk hns
      have HGd := Aside0.mk (show Good i ns from by
        have := leafs_good l0 i (by rw [HL.out]; exact Nat.le_refl _)
        rw [← hns, ← HL.out] at this
        exact this)
      clear hns
      obtain ⟨A4, c4, e4, hc4⟩ := HN.out.length
      subst e4
      go_upto_if 34 with fail
      go_cut [34] (fun v34 wc => ∃ k out, Aside0 (onceFrom k ns out = onceOf l0 ∧ ns.length ≤ k + 1) ∧ Aside0 (Kd.R (Kd.int .i64) 3 wc w.heap.size (fun _ => True) v1 out ∧ out.length = i) ∧ Aside0 (NodesS wc w.heap.size wB.heap.size (.slice A4 ns.length c4) ns) ∧ Aside0 (Below w.heap.size w wc) ∧ Aside0 (wB.heap.size ≤ wc.heap.size))
      case first =>
        have HOr := Aside0.mk (Kd.R_below HO.out HBr.out)
        have HBw := Aside0.mk (show Below w.heap.size w wr from below_then HB.out HB.out.size HBr.out)
        by_cases h1 : ns.length = 1
        · have hd : ((ns.length : Int) == 1) = true := by rw [beq_iff_eq]; omega
          obtain ⟨l, hNl, hSl⟩ := HN.out
          obtain ⟨go, co, e1, hgo1, hgo2, ocs, hocs⟩ := Kd.R_form HO.out (by rw [List.length_replicate]; have := HGd.out.1; omega)
          rw [List.length_replicate] at e1
          subst e1
          obtain ⟨g, c, e, _, _, _⟩ := Kd.R_form hNl (by rw [nodeRows_length, hSl.1]; omega)
          injection e with e _ ec
          subst e
          obtain ⟨y, hy⟩ : ∃ y, ns[0]? = some y := ⟨_, List.getElem?_eq_getElem (by omega)⟩
          obtain ⟨x, hx⟩ : ∃ x, l[0]? = some x := ⟨_, List.getElem?_eq_getElem (by rw [hSl.1]; omega)⟩
          obtain ⟨hxy, hsy⟩ := hSl.2 0 x y hx hy
          obtain ⟨hyn, hyb⟩ := HGd.out.2.2 y (List.mem_of_getElem? hy)
          have hn1 := (node_at (Kd.R_reads' hNl).2.2 hx).2
          rw [Nat.zero_mul, Nat.zero_add] at hn1
          have hyl : 0 < y.2.length := List.length_pos_iff.2 hyn
          obtain ⟨gs, cs, es, _, _, _⟩ := Kd.R_form hsy hyl
          rw [es] at hn1 hsy
          have hs1 := (Kd.R_celln (0 : Int) hsy 0 (by omega) (by omega)).1
          have hsb := hyb (rd y.2 0) (by unfold rd; rw [show ((0 : Int)).toNat = 0 from rfl]; rw [List.getD_eq_getElem?_getD, List.getElem?_eq_getElem hyl]; exact List.getElem_mem hyl)
          have hrd : rdOf (0 : Int) y.2 0 = rd y.2 0 := rfl
          rw [hrd, show ((0 : Int)).toNat = 0 from rfl] at hs1
          have HF := Aside0.mk (show onceOf l0 = (List.replicate i 0).set (rd y.2 0).toNat 1 from by
            unfold onceOf
            rw [← HL.out, ← HNS.out, if_pos h1, List.getD_eq_getElem?_getD, hy]
            rfl)
          generalize rd y.2 0 = sv at hs1 hsb HF
          clear hrd
          obtain ⟨hs0, hsi⟩ := hsb
          obtain ⟨hoc, hof⟩ := Kd.R_celln (0 : Int) HOr.out sv hs0 hsi
          have HR2 := Aside0.mk (Kd.R_putn HOr.out sv (1 : Int))
          have hocr := (HBr.out.block go hgo2).trans hocs
          have HN2 := Aside0.mk ((HN.out.far hocr hgo2 sv.toNat (.int .i64 1)).lower HB.out.size)
          have HB2 := Aside0.mk (show Below w.heap.size w (wr.setCell ⟨go, sv.toNat, none⟩ (.int .i64 1)) from HBw.out.setCell (p := ⟨go, sv.toNat, none⟩) hgo1 _)
          have HS2 := Aside0.mk (show wB.heap.size ≤ (wr.setCell ⟨go, sv.toNat, none⟩ (.int .i64 1)).heap.size from by have := HBr.out.size; simp [World.setCell]; omega)
          have hyl2 : (0 : Int) < (y.2.length : Int) := by omega
          have hnl2 : (0 : Int) < (ns.length : Int) := by omega
          clear hy hx hxy hsy hyn hyb hocs hocr hgo1 hgo2 hNl hSl es
          go_wp2_with fail
          go_meet
          case rel => exact ⟨0, _, ⟨HF.out.symm, by omega⟩, ⟨HR2.out, by simp⟩, HN2, HB2, HS2⟩
        · have hd : ((ns.length : Int) == 1) = false := by rw [beq_eq_false_iff_ne]; omega
          go_wp2_with fail
          go_meet
          case rel => exact ⟨ns.length, List.replicate i 0, ⟨by
            unfold onceOf
            rw [← HL.out, ← HNS.out, if_neg h1], by omega⟩, ⟨HOr.out, by simp⟩, ⟨HN.out.lower HB.out.size⟩, HBw, ⟨HBr.out.size⟩⟩
      case rest =>
        obtain ⟨k0, out0, HF0, HO0, HN0, HB0, HS0⟩ := hcut
        have HGo := Aside0.mk (Kd.R_lt HO.out)
        clear HN HBr HO HAT HG
        go_wp2_with fail
        go_loopg [4] ns.length (fun kq v4 w' => ∃ k ns' out, Aside0 (onceFrom k ns' out = onceOf l0 ∧ ns'.length ≤ k + 1) ∧ Aside0 (kq = ns'.length) ∧ Aside0 (Good i ns') ∧ Aside0 (SymR w' w.heap.size v1 out ∧ out.length = i) ∧ Aside0 (NodesS w' w.heap.size wB.heap.size v4 ns') ∧ Aside0 (Below w.heap.size w w') ∧ Aside0 (wB.heap.size ≤ w'.heap.size))
        case atStart => exact ⟨k0, ns, out0, HF0, ⟨rfl⟩, HGd, HO0, HN0, HB0, HS0⟩
        case round =>
          clear HF0 HO0 HN0 HB0 HS0
          obtain ⟨k, ms, out, HF, HK, HGm, HOm, HNm, HBm, HSm⟩ := hrel
          obtain ⟨A4, c4, e4, hc4⟩ := HNm.out.length
          subst e4
          by_cases h1 : 1 < ms.length
          · have hd : decide ((1 : Int) < (ms.length : Int)) = true := decide_eq_true (by omega)
            have hd2 : decide (1 < ms.length) = true := decide_eq_true h1
            go_wp2_with fail
            -- the two variables' blocks
            obtain ⟨wA, hwA⟩ : ∃ wA, wA = (wr.alloc (Obj.cells #[Value.int IntKind.i64 0, Value.slice none 0 0] 56)).alloc (Obj.cells #[Value.int IntKind.i64 0, Value.slice none 0 0] 56) := ⟨_, rfl⟩
            have HbA := Aside0.mk (show Below wr.heap.size wr wA from by rw [hwA]; exact ((Below.refl _ _).alloc (Nat.le_refl _) _).alloc (by simp) _)
            have kA : wA.heap[wr.heap.size]? = some (.cells #[.int .i64 0, .slice none 0 0] 56 (0, 0)) := by
              rw [hwA]
              exact blk_alloc (Array.getElem?_push_size) _
            have kB : wA.heap[wr.heap.size + 1]? = some (.cells #[.int .i64 0, .slice none 0 0] 56 (0, 0)) := by
              rw [hwA]
              have h := Array.getElem?_push_size (xs := (wr.alloc (Obj.cells #[Value.int IntKind.i64 0, Value.slice none 0 0] 56)).heap) (x := Obj.cells #[Value.int IntKind.i64 0, Value.slice none 0 0] 56)
              have e : (wr.alloc (Obj.cells #[Value.int IntKind.i64 0, Value.slice none 0 0] 56)).heap.size = wr.heap.size + 1 := by simp
              rw [e] at h
              exact h
            rw [← hwA]
            clear hwA
            have HKp := Aside0.mk (Keeps.below HbA.out)
            have HN1 := Aside0.mk (HNm.out.below HbA.out)
            have HBa := Aside0.mk (show Below w.heap.size w wA from below_then HBm.out HBm.out.size HbA.out)
            refine (least_of wB.heap.size _ ms w wA HN1.out (by omega) HBa.out (by have := HGm.out.1; omega)).mono ?_
            rintro e w1 ⟨xa, va, g, rfl, hsa, hna, hba, hvg, _, hgr, hva, hgt⟩
            have hgl := HNm.out.lt hvg
            obtain ⟨Aa, ca, ea⟩ := Kd.R_slice hsa
            subst ea
            obtain ⟨Av, cv, ev, _⟩ := hna.length
            subst ev
            have kA1 := blk_grown kA hgr (by simp; omega)
            have kB1 := blk_grown kB hgr (by simp; omega)
            have HKp1 := Aside0.mk (HKp.out.trans (Keeps.grown hgr hgt))
            clear kA kB hgr hgt
            have ha1 : w1.cell? ⟨wr.heap.size, 0, none⟩ = some (.int .i64 0) := by rw [cell_of_row w1 _ _ _ _ _ kA1]; rfl
            have ha2 : w1.cell? ⟨wr.heap.size, 1, none⟩ = some (.slice none 0 0) := by rw [cell_of_row w1 _ _ _ _ _ kA1]; rfl
            have hfa1 : w1.frozen? ⟨wr.heap.size, 0, none⟩ = false := blk_frozen kA1 _
            have hfa2 : w1.frozen? ⟨wr.heap.size, 1, none⟩ = false := blk_frozen kA1 _
            have HA1 := Aside0.mk (And.intro kA1 kB1)
            have HS1 := Aside0.mk (And.intro hsa hna)
            have HB1 := Aside0.mk hba
            have HV1 := Aside0.mk (And.intro hva hgl)
            clear kA1 kB1 hsa hna hba hva hgl hvg
            obtain ⟨p1, hp1⟩ : ∃ p, p = pickOf ms := ⟨_, rfl⟩
            obtain ⟨m1, hm1⟩ : ∃ m, m = restOf ms := ⟨_, rfl⟩
            rw [← hp1, ← hm1] at HS1
            rw [← hp1]
            (try rw [← hm1])
            have HP1 := Aside0.mk (And.intro hp1 hm1)
            clear hp1 hm1
            go_wp2_with fail
            clear ha1 ha2 hfa1 hfa2
            obtain ⟨w2, hw2⟩ : ∃ w2, w2 = (w1.setCell ⟨wr.heap.size, 0, none⟩ (.int .i64 p1.1)).setCell ⟨wr.heap.size, 1, none⟩ (.slice Aa p1.2.length ca) := ⟨_, rfl⟩
            have hset : ∀ k, k ≠ wr.heap.size → w2.heap[k]? = w1.heap[k]? := fun k hk => by
              rw [hw2]
              exact (Below.heap_setCell _ ⟨wr.heap.size, 1, none⟩ _ k hk).trans (Below.heap_setCell _ ⟨wr.heap.size, 0, none⟩ _ k hk)
            have kA2 : w2.heap[wr.heap.size]? = some (.cells #[.int .i64 p1.1, .slice Aa p1.2.length ca] 56 (0, 0)) := by
              rw [hw2]
              exact node_put HA1.out.1 rfl _ _
            have kB2 := (hset (wr.heap.size + 1) (by omega)).trans HA1.out.2
            have hk2 : Keeps w1 w2 := by
              rw [hw2]
              exact (Keeps.set HA1.out.1 0 _).trans (Keeps.set (blk_put HA1.out.1 0 _ rfl) 1 _)
            have hbl2 : Below wr.heap.size w1 w2 := by
              rw [hw2]
              exact Below.setCell (p := ⟨wr.heap.size, 1, none⟩) (Below.setCell (p := ⟨wr.heap.size, 0, none⟩) (Below.refl _ _) (Nat.le_refl _) _) (Nat.le_refl _) _
            have hN2 := HS1.out.2.keeps hk2 (fun k hk => hset k (by have h := HV1.out.1; rw [← HP1.out.2] at h; rw [h] at hk; injection hk with hk; have := HV1.out.2; omega))
            have HB2 := Aside0.mk (show Below w.heap.size w w2 from HB1.out.trans ⟨hbl2.os, hbl2.tape, hbl2.output, hbl2.size, fun k hk => hbl2.block k (by have := HBm.out.size; omega)⟩)
            have HSa2 := Aside0.mk (HS1.out.1.keeps hk2)
            have HK2 := Aside0.mk (HKp1.out.trans hk2)
            rw [← hw2]
            clear hw2 hset hk2 hbl2 HS1 HB1 HKp1 HKp HN1 HBa HA1
            have hm1l : m1.length = ms.length - 1 ∧ Good i m1 := by
              have h := rest_good HGm.out (by omega)
              rw [← HP1.out.2] at h
              exact ⟨h.2.1, h.1⟩
            refine (least_of wB.heap.size _ m1 w w2 hN2 (by omega) HB2.out (by have := hm1l.2.1; omega)).mono ?_
            rintro e w3 ⟨xb, vb, g', rfl, hsb, hnb, hbb, hvg, _, hgr, hvb, hgt⟩
            have eg : g' = g := by have h := HV1.out.1; rw [← HP1.out.2] at h; rw [h] at hvg; injection hvg with hvg; exact hvg.symm
            subst eg
            obtain ⟨Ab, cb, eb⟩ := Kd.R_slice hsb
            subst eb
            obtain ⟨Aw, cw, ew, _⟩ := hnb.length
            subst ew
            have hgl := HV1.out.2
            have kA3 := blk_grown kA2 hgr (by simp; omega)
            have kB3 := blk_grown kB2 hgr (by simp; omega)
            have HK3 := Aside0.mk (HK2.out.trans (Keeps.grown hgr hgt))
            have HSa3 := Aside0.mk (HSa2.out.keeps (Keeps.grown hgr hgt))
            have ha1 : w3.cell? ⟨wr.heap.size + 1, 0, none⟩ = some (.int .i64 0) := by rw [cell_of_row w3 _ _ _ _ _ kB3]; rfl
            have ha2 : w3.cell? ⟨wr.heap.size + 1, 1, none⟩ = some (.slice none 0 0) := by rw [cell_of_row w3 _ _ _ _ _ kB3]; rfl
            have hfa1 : w3.frozen? ⟨wr.heap.size + 1, 0, none⟩ = false := blk_frozen kB3 _
            have hfa2 : w3.frozen? ⟨wr.heap.size + 1, 1, none⟩ = false := blk_frozen kB3 _
            have HA3 := Aside0.mk (And.intro kA3 kB3)
            have HS3 := Aside0.mk (And.intro hsb hnb)
            have HB3 := Aside0.mk hbb
            have HV3 := Aside0.mk (And.intro hvb hgl)
            clear kA2 kB2 kA3 kB3 hsb hnb hbb hvb hgl hgr hgt hN2 HSa2 HK2 hvg
            obtain ⟨p2, hp2⟩ : ∃ p, p = pickOf m1 := ⟨_, rfl⟩
            obtain ⟨m2, hm2⟩ : ∃ m, m = restOf m1 := ⟨_, rfl⟩
            rw [← hp2, ← hm2] at HS3
            rw [← hp2]
            (try rw [← hm2])
            have HP2 := Aside0.mk (And.intro hp2 hm2)
            clear hp2 hm2
            go_upto_region 15 with fail
            clear ha1 ha2 hfa1 hfa2
            obtain ⟨w4, hw4⟩ : ∃ w4, w4 = (w3.setCell ⟨wr.heap.size + 1, 0, none⟩ (.int .i64 p2.1)).setCell ⟨wr.heap.size + 1, 1, none⟩ (.slice Ab p2.2.length cb) := ⟨_, rfl⟩
            have hset : ∀ k, k ≠ wr.heap.size + 1 → w4.heap[k]? = w3.heap[k]? := fun k hk => by
              rw [hw4]
              exact (Below.heap_setCell _ ⟨wr.heap.size + 1, 1, none⟩ _ k hk).trans (Below.heap_setCell _ ⟨wr.heap.size + 1, 0, none⟩ _ k hk)
            have kB4 : w4.heap[wr.heap.size + 1]? = some (.cells #[.int .i64 p2.1, .slice Ab p2.2.length cb] 56 (0, 0)) := by
              rw [hw4]
              exact node_put HA3.out.2 rfl _ _
            have kA4 := (hset wr.heap.size (by omega)).trans HA3.out.1
            have hk4 : Keeps w3 w4 := by
              rw [hw4]
              exact (Keeps.set HA3.out.2 0 _).trans (Keeps.set (blk_put HA3.out.2 0 _ rfl) 1 _)
            have hbl4 : Below wr.heap.size w3 w4 := by
              rw [hw4]
              exact Below.setCell (p := ⟨wr.heap.size + 1, 1, none⟩) (Below.setCell (p := ⟨wr.heap.size + 1, 0, none⟩) (Below.refl _ _) (Nat.le_succ _) _) (Nat.le_succ _) _
            have HN4 := Aside0.mk (HS3.out.2.keeps hk4 (fun k hk => hset k (by have h := HV3.out.1; rw [← HP2.out.2] at h; rw [h] at hk; injection hk with hk; have := HV3.out.2; omega)))
            have HB4 := Aside0.mk (show Below w.heap.size w w4 from HB3.out.trans ⟨hbl4.os, hbl4.tape, hbl4.output, hbl4.size, fun k hk => hbl4.block k (by have := HBm.out.size; omega)⟩)
            have HSa4 := Aside0.mk (HSa3.out.keeps hk4)
            have HSb4 := Aside0.mk (HS3.out.1.keeps hk4)
            have HK4 := Aside0.mk (HK3.out.trans hk4)
            have HA4 := Aside0.mk (And.intro kA4 kB4)
            have hg1 : w4.cell? ⟨wr.heap.size, 1, none⟩ = some (.slice Aa p1.2.length ca) := by rw [cell_of_row w4 _ _ _ _ _ kA4]; rfl
            have hg2 : w4.cell? ⟨wr.heap.size + 1, 1, none⟩ = some (.slice Ab p2.2.length cb) := by rw [cell_of_row w4 _ _ _ _ _ kB4]; rfl
            rw [← hw4]
            clear hw4 hset hk4 hbl4 HS3 HB3 HK3 HSa3 HA3 kA4 kB4
            go_wp2_with fail
            obtain ⟨w5, hw5⟩ : ∃ w5, w5 = w4.alloc (Obj.cells #[Value.slice Aa p1.2.length ca, Value.slice Ab p2.2.length cb] 22) := ⟨_, rfl⟩
            have hb5 : Below w4.heap.size w4 w5 := by rw [hw5]; exact (Below.refl _ _).alloc (Nat.le_refl _) _
            have kC : w5.heap[w4.heap.size]? = some (.cells #[Value.slice Aa p1.2.length ca, Value.slice Ab p2.2.length cb] 22 (0, 0)) := by
              rw [hw5]; exact Array.getElem?_push_size
            have hp1 : w5.cell? ⟨w4.heap.size, 0, none⟩ = some (.slice Aa p1.2.length ca) := by rw [cell_of_row w5 _ _ _ _ _ kC]; rfl
            have hp2 : w5.cell? ⟨w4.heap.size, 1, none⟩ = some (.slice Ab p2.2.length cb) := by rw [cell_of_row w5 _ _ _ _ _ kC]; rfl
            rw [← hw5]
            have HBth := Aside0.mk (show bothOf ms = p1.2 ++ p2.2 from by unfold bothOf; rw [← HP1.out.2, ← HP2.out.1, ← HP1.out.1])
            have HMg := Aside0.mk (merge_good HGm.out h1)
            have hra := Kd.R_reads' (HSa4.out.below hb5)
            have hrb := Kd.R_reads' (HSb4.out.below hb5)
            have hln : p1.2.length + p2.2.length ≤ 300 := by
              have h := HMg.out.2.2.1
              rw [HBth.out, List.length_append] at h
              omega
            refine (concat_two w4.heap.size Aa Ab ca cb p1.2 p2.2 w5 hp1 hp2 hra.2.2 hrb.2.2 hra.2.1 hrb.2.1 (by omega)).mono ?_
            rintro e w6 ⟨v9, rfl, h9, hb9⟩
            have hb6 : Below w4.heap.size w4 w6 := below_then hb5 hb5.size hb9
            have hs4 : wr.heap.size + 1 < w4.heap.size := by
              have h := (Array.getElem?_eq_some_iff.1 HA4.out.2).1
              exact h
            have HA6 := Aside0.mk (And.intro ((hb6.block _ (by omega)).trans HA4.out.1) ((hb6.block _ hs4).trans HA4.out.2))
            have HB6 := Aside0.mk (show Below w.heap.size w w6 from below_then HB4.out HB4.out.size hb6)
            have HN6 := Aside0.mk (HN4.out.below hb6)
            have HO6 := Aside0.mk (HOm.out.1.keeps (HK4.out.trans (Keeps.below hb6)))
            have HSz := Aside0.mk (show wB.heap.size ≤ w6.heap.size from by have := HSm.out; have := hb6.size; omega)
            rw [← HBth.out] at h9
            have H9 := Aside0.mk (show SymR w6 wB.heap.size v9 (bothOf ms) from Kd.R_lower h9 (by have := HSm.out; have := hb5.size; omega))
            clear hp1 hp2 hg1 hg2 kC hw5 hra hrb h9 hb9 hb6 hs4 hb5 HA4 HB4 HN4 HSa4 HSb4 HK4
            obtain ⟨A9, c9, e9⟩ := Kd.R_slice H9.out
            subst e9
            obtain ⟨bo, hbo⟩ : ∃ b, b = bothOf ms := ⟨_, rfl⟩
            rw [← hbo] at H9 HMg
            rw [← hbo]
            have HBo := Aside0.mk hbo
            clear hbo
            obtain ⟨LB, hLB⟩ : ∃ n, n = bo.length := ⟨_, rfl⟩
            rw [← hLB]
            have HLB := Aside0.mk hLB
            have hLB3 : LB ≤ 300 := by have := HMg.out.2.2.1; omega
            clear hLB
            go_wp2_with fail
            obtain ⟨wr0, ewr0⟩ : ∃ x, x = wr := ⟨_, rfl⟩
            subst ewr0
            obtain ⟨gk0, egk0⟩ : ∃ x, x = gk := ⟨_, rfl⟩
            subst egk0
            go_loopg [64] LB (fun kq v64 w' => ∃ j : Nat, j ≤ LB ∧ v64 = .int .i64 j ∧ Aside0 (kq + j = LB) ∧ Aside0 (SymR w' w.heap.size v1 (bump out (bo.take j))) ∧ Aside0 (NodesS w' w.heap.size wB.heap.size (.slice Aw m2.length cw) m2) ∧ Aside0 (SymR w' wB.heap.size (.slice A9 LB c9) bo) ∧ Aside0 (w'.heap[wr0.heap.size]? = some (.cells #[.int .i64 p1.1, .slice Aa p1.2.length ca] 56 (0, 0)) ∧ w'.heap[wr0.heap.size + 1]? = some (.cells #[.int .i64 p2.1, .slice Ab p2.2.length cb] 56 (0, 0))) ∧ Aside0 (Below w.heap.size w w') ∧ Aside0 (wB.heap.size ≤ w'.heap.size))
            case atStart => exact ⟨0, by omega, rfl, ⟨by omega⟩, HO6, HN6, ⟨HLB.out ▸ H9.out⟩, HA6, HB6, HSz⟩
            case round =>
              clear HO6 HN6 HA6 HB6 HSz H9
              obtain ⟨j, hj, rfl, HKj, HO7, HN7, H97, HA7, HB7, HS7⟩ := hrel
              by_cases hjl : j < LB
              · obtain ⟨ad9, e9, hcell⟩ := Kd.at_int (Kd.R_reads' H97.out).2.2 (j : Int) (by omega) (by rw [← HLB.out]; omega)
                subst e9
                rw [Int.toNat_natCast] at hcell
                have HBt := Aside0.mk (bump_take out bo j (by rw [← HLB.out]; exact hjl))
                have hsv := HMg.out.2.2.2 (rd bo (j : Int)) (by unfold rd; rw [Int.toNat_natCast, List.getD_eq_getElem?_getD, List.getElem?_eq_getElem (by rw [← HLB.out]; exact hjl)]; exact List.getElem_mem _)
                generalize rd bo (j : Int) = sv at hcell HBt hsv
                obtain ⟨hs0, hsi⟩ := hsv
                have hol : (bump out (bo.take j)).length = i := by rw [bump_length]; exact HOm.out.2
                obtain ⟨o7, ho7⟩ : ∃ o, o = bump out (bo.take j) := ⟨_, rfl⟩
                rw [← ho7] at HO7 hol HBt
                clear ho7
                obtain ⟨go, co, ev1, hgo1, hgo2, ocs, hocs⟩ := Kd.R_form HO7.out (by rw [hol]; omega)
                rw [hol] at ev1
                have hgB := HGo.out go (by rw [ev1]; simp [Value.ownBlock])
                have HO8 := HO7.out
                rw [ev1] at HO8
                obtain ⟨hoc, hof⟩ := Kd.R_celln (0 : Int) HO8 sv hs0 hsi
                have hrd : rdOf (0 : Int) o7 sv = rd o7 sv := rfl
                rw [hrd] at hoc
                clear hrd
                have HV1' := Aside0.mk ev1
                generalize hov : rd o7 sv = ov at hoc HBt
                clear hov
                rw [ev1]
                clear ev1
                go_wp2_with fail
                rw [← HV1'.out]
                have HO9 := Aside0.mk (show SymR (wr.setCell ⟨go, sv.toNat, none⟩ (.int .i64 (wrap64 (ov + 1)))) w.heap.size v1 (bump out (bo.take (j + 1))) from by
                  rw [HBt.out, HV1'.out]
                  exact Kd.R_putn HO8 sv (wrap64 (ov + 1)))
                have HN9 := Aside0.mk (HN7.out.far hocs hgB sv.toNat (.int .i64 (wrap64 (ov + 1))))
                have H99 := Aside0.mk (H97.out.keep (w1 := wr.setCell ⟨go, sv.toNat, none⟩ (.int .i64 (wrap64 (ov + 1)))) (fun k _ hk _ _ => Below.heap_setCell wr ⟨go, sv.toNat, none⟩ _ k (by show k ≠ go; omega)))
                have HA9 := Aside0.mk (And.intro ((Below.heap_setCell wr ⟨go, sv.toNat, none⟩ (.int .i64 (wrap64 (ov + 1))) wr0.heap.size (Ne.symm (not_both hocs HA7.out.1))).trans HA7.out.1) ((Below.heap_setCell wr ⟨go, sv.toNat, none⟩ (.int .i64 (wrap64 (ov + 1))) (wr0.heap.size + 1) (Ne.symm (not_both hocs HA7.out.2))).trans HA7.out.2))
                have HB9 := Aside0.mk (HB7.out.setCell (p := ⟨go, sv.toNat, none⟩) hgo1 (.int .i64 (wrap64 (ov + 1))))
                go_roundg (gk - 1)
                case measure => have := HKj.out; omega
                case rel => exact ⟨j + 1, by omega, by go_num, ⟨by have := HKj.out; omega⟩, HO9, HN9, H99, HA9, HB9, ⟨by have := HS7.out; simp [World.setCell]; omega⟩⟩
              · have hjL : j = LB := by omega
                subst hjL
                rw [List.take_of_length_le (by rw [← HLB.out]; exact Nat.le_refl _)] at HO7
                have ha1 : wr.cell? ⟨wr0.heap.size, 0, none⟩ = some (.int .i64 p1.1) := by rw [cell_of_row wr _ _ _ _ _ HA7.out.1]; rfl
                have hb1 : wr.cell? ⟨wr0.heap.size + 1, 0, none⟩ = some (.int .i64 p2.1) := by rw [cell_of_row wr _ _ _ _ _ HA7.out.2]; rfl
                obtain ⟨l, hNl, hSl⟩ := HN7.out
                have HNl := Aside0.mk hNl
                have HSl := Aside0.mk hSl
                have HLL := Aside0.mk (show l.length ≤ 300 from by
                  have h := rest_good (rest_good HGm.out (by omega)).1 (by have := (rest_good HGm.out (by omega)).2.1; omega)
                  rw [← HP1.out.2, ← HP2.out.2] at h
                  have h2 := h.1.1
                  have h3 := hSl.1
                  omega)
                clear hNl hSl
                go_wp2_with ((with_reducible refine gate_builtin (b := .append) (xs := #[.tmp 75, .tmp 83]) rfl ?_); at_builtin; refine Kd.R_append (Kd.raw 2) (w0 := w) w.heap.size rfl (.tmp 75) (.tmp 83) 54 56 (.agg #[.int .i64 0, .slice none 0 0]) 32 rfl Try.underlying54 node_info rfl (by decide) (by decide) (.slice Aw m2.length cw) (nodeRows l) (nodeCells (wrap64 (p1.1 + p2.1), .slice A9 j c9)) (nodeCells (wrap64 (p1.1 + p2.1), .slice A9 j c9)) (fun _ => True) (fun _ => False) rfl rfl ⟨rfl, rfl, by intro u hu; simp [nodeCells] at hu; rcases hu with rfl | rfl <;> rfl⟩ (fun _ hk => hk.elim) (fun _ _ => trivial) HNl.out HB7.out HB7.out.size (by rw [nodeRows_length]; have := HLL.out; omega) ?_; intro v5 w7 ho hb hg hat; (have HNw := Aside0.mk (And.intro ho (And.intro hb hg))); clear ho hb hg hat)
                obtain ⟨ho, hb, hg⟩ := HNw.out
                have HN8 := Aside0.mk (NodesS.snoc (y := (wrap64 (p1.1 + p2.1), bo)) HNl.out HSl.out ho hg ⟨rfl, H97.out⟩)
                have hk8 : Keeps wr w7 := by
                  refine ⟨hg.size, fun k cells hk hc => hg.block k hk (fun e => ?_)⟩
                  obtain ⟨cs, h5⟩ := nodes_type HNl.out k e.symm
                  exact not_both hc h5 rfl
                have HO8 := Aside0.mk (HO7.out.keeps hk8)
                have hmg : mergeOf ms = m2 ++ [(wrap64 (p1.1 + p2.1), bo)] := by
                  unfold mergeOf
                  rw [← HBo.out, ← HP1.out.2, ← HP2.out.2, ← HP2.out.1, ← HP1.out.1]
                obtain ⟨k', hk'⟩ : ∃ k', k = k' + 1 := ⟨k - 1, by have := HF.out.2; omega⟩
                have hF2 : onceFrom k' (mergeOf ms) (bump out bo) = onceOf l0 := by
                  have h := HF.out.1
                  rw [hk'] at h
                  unfold onceFrom at h
                  rw [if_pos h1, ← HBo.out] at h
                  exact h
                go_roundg (gk0 - 1)
                case measure => have := HK.out; omega
                case rel => exact ⟨k', mergeOf ms, bump out bo, ⟨hF2, by have h := HMg.out.2.1; have := HF.out.2; omega⟩, ⟨by have h := HMg.out.2.1; have := HK.out; omega⟩, ⟨HMg.out.1⟩, ⟨HO8.out, by rw [bump_length]; exact HOm.out.2⟩, ⟨by rw [hmg]; exact HN8.out⟩, ⟨hb⟩, ⟨by have := HS7.out; have := hg.size; omega⟩⟩
          · have hd : decide ((1 : Int) < (ms.length : Int)) = false := decide_eq_false (by omega)
            have hd2 : decide (1 < ms.length) = false := decide_eq_false h1
            go_wp2_with fail
            go_ret
            exact ⟨v1, rfl, by rw [← HF.out.1, onceFrom_end k ms out h1]; exact HOm.out.1, HBm.out⟩
def tree_once.f (l0 : List Int) : Option (List Int) := if l0.length ≤ 300 then some (onceOf l0) else none
set_option maxHeartbeats 8000000 in
set_option maxRecDepth 100000 in
theorem tree_once.calls (A0 : Option Addr) (c0 : Nat) (l0 : List Int) (r : List Int) (w : World) (hr0 : Kd.C (Kd.int .i64) w A0 l0.length l0) (hc0 : l0.length ≤ c0) (h : tree_once.f l0 = some r) :
    Calls Try.prog 21 #[.slice A0 l0.length c0] w fun e w' => ∃ v0_ : Value, e = .returned (v0_) ∧ Kd.R (Kd.int .i64) 3 w' w.heap.size (fun _ => True) v0_ r ∧ Below w.heap.size w w' := by
  unfold tree_once.f at h
  by_cases hl : l0.length ≤ 300
  · rw [if_pos hl] at h
    injection h with h
    subst h
    exact once_calls A0 c0 l0 w hr0 hc0 hl
  · rw [if_neg hl] at h
    cases h

-- PART
end Go.Proofs.Ytaoeghdpmmeaiaa.P
