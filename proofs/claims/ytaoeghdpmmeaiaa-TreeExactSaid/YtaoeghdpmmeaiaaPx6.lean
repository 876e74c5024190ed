-- Written by a program of this session out of the translation. Lean checks it.
import Derived.Test.YtaoeghdpmmeaiaaPx0
import Derived.Test.YtaoeghdpmmeaiaaPx4
namespace Go.Proofs.Ytaoeghdpmmeaiaa.P
open Go.RowKit Go.Proofs.YtaoeghdpmmeaiaaW.PrintWords Go.Proofs.YtaoeghdpmmeaiaaW.PrintLast Go.Proofs.YtaoeghdpmmeaiaaW.PrintMore
attribute [local go_sem] max2_int min2_int max_two min_two max_three min_three max_four min_four   -- for this text's walks alone
set_option linter.unusedVariables false
set_option linter.unusedSimpArgs false

-- PART
/-! ### tree_node: function 36 (by hand) -/
/-- The cells of a node: what it weighs, its row of symbols. -/
def nodeCells (x : Int × Value) : List Value := [.int .i64 x.1, x.2]
def nodeRows (l : List (Int × Value)) : List (List Value) := l.map nodeCells
theorem nodeRows_length (l : List (Int × Value)) : (nodeRows l).length = l.length := by simp [nodeRows]
theorem nodeRows_at (l : List (Int × Value)) (i : Nat) (h : i < l.length) : (nodeRows l).getD i [] = nodeCells l[i] := by simp [nodeRows, h]
theorem nodeRows_erase (l : List (Int × Value)) (k : Nat) : (nodeRows l).eraseIdx k = nodeRows (l.eraseIdx k) := by
  rw [List.eraseIdx_eq_take_drop_succ, List.eraseIdx_eq_take_drop_succ, nodeRows, nodeRows, List.map_append, List.map_take, List.map_drop]
/-- A node list in memory of its own. -/
def Nodes (w : World) (base : Nat) (v : Value) (l : List (Int × Value)) : Prop := (Kd.raw 2).R 56 w base (fun _ => True) v (nodeRows l)
/-- Its block is known whole, its cells may be written. -/
theorem nodes_block {w : World} {base g m c : Nat} {rows : List (List Value)} (h : (Kd.raw 2).R 56 w base (fun _ => True) (.slice (some ⟨g, 0, none⟩) m c) rows) :
    ∃ cur, w.heap[g]? = some (.cells cur 56 (0, 0)) ∧ cur.size = c * 2 ∧ c ≤ maxLen ∧ base ≤ g := by
  obtain ⟨_, inner, hown, _⟩ := h
  rcases hown.2 with ⟨hv, _⟩ | ⟨g', cap', cur, hv, hb, hh, _, hcm, hcs, _⟩
  · cases hv
  injection hv with ha _ hc
  injection ha with ha
  injection ha with hg
  subst hg; subst hc
  exact ⟨cur, hh, hcs, hcm, hb⟩
/-- What is written behind its end changes nothing of it. -/
theorem nodes_behind {w : World} {base g m c o : Nat} {rows : List (List Value)} (h : (Kd.raw 2).R 56 w base (fun _ => True) (.slice (some ⟨g, 0, none⟩) m c) rows) (seg : List Value) (ho : m * 2 ≤ o) (hs : o + seg.length ≤ c * 2) :
    (Kd.raw 2).R 56 (w.setCells g o seg) base (fun _ => True) (.slice (some ⟨g, 0, none⟩) m c) rows := by
  obtain ⟨h0, inner, hown, hr⟩ := h
  refine ⟨h0, inner, ⟨hown.1, ?_⟩, hr⟩
  rcases hown.2 with ⟨hv, _⟩ | ⟨g', cap', cur, hv, hb, hh, hmc, hcm, hcs, htake⟩
  · cases hv
  injection hv with ha hn hc
  injection ha with ha
  injection ha with hg
  subst hg; subst hc
  have hz : (Kd.raw 2).sz = 2 := rfl
  obtain ⟨cur', h3, h4, h5⟩ := setCells_row seg o w cur hh (by rw [hcs, hz]; exact hs)
  refine .inr ⟨g, c, cur', by rw [hn], hb, h3, hmc, hcm, by rw [h4, hcs], ?_⟩
  have hl : (cur.toList.take o).length = o := by rw [List.length_take, Array.length_toList, hcs, hz]; omega
  rw [h5, List.append_assoc, ← htake, List.take_append_of_le_length (by rw [hl, ← hn, hz]; omega), List.take_take, Nat.min_eq_left (by rw [← hn, hz]; omega)]
theorem clear_node (w : World) (ty : TypeId) (b o c : Nat) (hc : ∀ j, j < 2 → (w.cell? ⟨b, o + j, none⟩).isSome = true) (hf : ∀ j, j < 2 → w.frozen? ⟨b, o + j, none⟩ = false) :
    (Builtin.clear_ #[54] ty #[.slice (some ⟨b, o, none⟩) 1 c]).run Try.prog w = .ok (.tuple #[]) (w.setCells b o [.int .i64 0, .slice none 0 0]) := by
  have ht := Try.underlying54
  have hv : ∀ w, (zeroValue 56).run Try.prog w = .ok (.agg #[.int .i64 0, .slice none 0 0]) w := fun w => by kernel_rfl
  have hst := run_storeCells_cells (P := Try.prog) b o [.int .i64 0, .slice none 0 0] 0 w (by simpa using hc) (by simpa using hf) (by intro v hv'; simp at hv'; rcases hv' with rfl | rfl <;> rfl)
  simp only [Nat.add_zero] at hst
  have hzc : (Builtin.zeroCells (Value.agg #[.int .i64 0, .slice none 0 0]).cells 1).toList = [.int .i64 0, .slice none 0 0] := by simp [Builtin.zeroCells, Value.cells]; rfl
  simp [Builtin.clear_, run_underlying ht, hv, hzc, hst]
set_option maxHeartbeats 8000000 in
set_option maxRecDepth 100000 in
theorem delete_node (g c at' : Nat) (l : List (Int × Value)) (w0 w : World) (hO : Nodes w w0.heap.size (.slice (some ⟨g, 0, none⟩) l.length c) l) (hat : at' < l.length) (hB : Below w0.heap.size w0 w) (hl : l.length ≤ 1000000) :
    Calls Try.prog 36 #[.slice (some ⟨g, 0, none⟩) l.length c, .int .i64 at', .int .i64 ((at' : Int) + 1)] w fun e w' => e = .returned (.slice (some ⟨g, 0, none⟩) (l.length - 1) c) ∧
      Nodes w' w0.heap.size (.slice (some ⟨g, 0, none⟩) (l.length - 1) c) (l.eraseIdx at') ∧ Below w0.heap.size w0 w' ∧ w.grownBy w' (some g) := by
  have HB := Aside0.mk hB
  obtain ⟨hn, hc, _⟩ := Kd.R_reads' hO
  have hcl : l.length ≤ c := by omega
  obtain ⟨L, hL⟩ : ∃ L, L = l.length := ⟨_, rfl⟩
  have HL := Aside0.mk hL
  rw [← hL] at hat hcl hl hO ⊢
  have HO := Aside0.mk hO
  have hmx : c ≤ 9223372036854775807 := by
    obtain ⟨_, _, _, h, _⟩ := nodes_block hO
    exact h
  clear hO hB hn hc hL
  have hne : ((at' : Int) == (at' : Int) + 1) = false := by rw [beq_eq_false_iff_ne]; omega
  have hic : at' ≤ c := by omega
  have hjc : at' + 1 ≤ c := by omega
  have hi2 : (0 : Int) ≤ (at' : Int) + 1 := by omega
  have hi0 : (0 : Int) ≤ (at' : Int) := by omega
  have hi1 : (at' : Int) + 1 ≤ (L : Int) := by omega
  go_enter Try.func36, Try.ntmps36
  go_wp2_with fail
  have hA : (if c = at' + 1 then some ({ block := g, off := 0 } : Addr) else some { block := g, off := (at' + 1) * 2 }) = if c = at' + 1 then some (⟨g, 0, none⟩ : Addr) else (some (⟨g, 0, none⟩ : Addr)).map (·.add ((at' + 1) * (Kd.raw 2).sz)) := by
    have hz : (Kd.raw 2).sz = 2 := rfl
    simp [hz, Addr.add]
  have HA := Aside0.mk hA
  clear hA
  have hinfo : (Try.prog.info? 56).map (·.size) = some (Kd.raw 2).sz := by kernel_rfl
  have HB1 := HB.out.drew
  have hO1 := Kd.R_drew HO.out
  go_region_law (refine Kd.R_delete_step (Kd.raw 2) (w0 := w0) w0.heap.size rfl (.tmp 22) (.tmp 25) 54 56 rfl Try.underlying54 hinfo rfl rfl HA.out rfl hO1 hat HB1 HB1.size ?_; intro w1 hO1 hB1 hg1)
  have HO1 := Aside0.mk hO1
  have HB2 := Aside0.mk hB1
  have HG := Aside0.mk hg1
  obtain ⟨cur1, hh1, hs1, _, _⟩ := nodes_block hO1
  have hcl : ∀ ty, (Builtin.clear_ #[54] ty #[.slice (some ⟨g, (L - 1) * 2, none⟩) (L - (L - 1)) (c - (L - 1))]).run Try.prog w1 = .ok (.tuple #[]) (w1.setCells g ((L - 1) * 2) [.int .i64 0, .slice none 0 0]) := fun ty => by
    rw [show L - (L - 1) = 1 by omega]
    exact clear_node w1 ty g ((L - 1) * 2) (c - (L - 1)) (fun j hj => by rw [cell_of_row w1 g _ cur1 56 (0, 0) hh1]; simp; omega) (fun j _ => blk_frozen hh1 _)
  have hc1 : ¬ (c = L - 1) := by omega
  have hc2 : L - 1 ≤ L := by omega
  have hc3 : L ≤ c := by omega
  have hc4 : (0 : Int) ≤ ((L - 1 : Nat) : Int) := by omega
  have hc5 : ((L - 1 : Nat) : Int) ≤ (L : Int) := by omega
  have HN := Aside0.mk (nodes_behind hO1 [.int .i64 0, .slice none 0 0] (Nat.le_refl _) (by simp; omega))
  obtain ⟨s1, s2, s3, s4⟩ := setCells_same g [.int .i64 0, .slice none 0 0] ((L - 1) * 2) w1
  have HS := Aside0.mk (show w1.grownBy (w1.setCells g ((L - 1) * 2) [.int .i64 0, .slice none 0 0]) (some g) from ⟨s1, s2, s3, by rw [s4]; exact Nat.le_refl _, fun k' _ hk' => setCells_far _ _ k' (fun he => hk' (by rw [he]))⟩)
  have HGG := Aside0.mk (show w.grownBy w.drew (some g) from ⟨rfl, rfl, rfl, Nat.le_refl _, fun _ _ _ => rfl⟩)
  clear hO1 hB1 hg1 hh1 hs1 s1 s2 s3 s4
  have HZ := Aside0.mk ‹w0.heap.size ≤ g›
  go_wp2_with fail
  all_goals
    go_ret
    refine ⟨rfl, ?_, ?_, ?_⟩
    · rw [Nodes, ← nodeRows_erase]
      first
      | exact HN.out
      | (have hh := HN.out; rw [show c = at' + 1 by assumption] at hh; exact hh)
    · exact HB2.out.grown HS.out HB2.out.size (fun k hk => by injection hk with hk; subst hk; exact HZ.out)
    · exact (HGG.out.trans HG.out).trans HS.out

-- PART
end Go.Proofs.Ytaoeghdpmmeaiaa.P
