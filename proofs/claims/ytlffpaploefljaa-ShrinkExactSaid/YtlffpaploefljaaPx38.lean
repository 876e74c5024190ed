-- Written by a program of this session out of the translation. Lean checks it.
import Derived.Test.YtlffpaploefljaaPx0
import Derived.Test.YtlffpaploefljaaPx5
namespace Go.Proofs.Ytlffpaploefljaa.P
open Go.RowKit Go.Proofs.YtlffpaploefljaaW.PrintWords Go.Proofs.YtlffpaploefljaaW.PrintLast Go.Proofs.YtlffpaploefljaaW.PrintMore
open List (setIfInBounds_toArray set_cons_zero set_cons_succ)
attribute [local go_sem] max2_int min2_int max_two min_two max_three min_three max_four min_four   -- for this text's walks alone
set_option linter.unusedVariables false
set_option linter.unusedSimpArgs false

/-! ### tree_least: function 106 (by hand) -/
/-- The place of the first one of the least ones, of the first k. -/
def leastTo (ws : List Int) (k : Nat) : Nat := (List.range k).foldl (fun at' i => if ws.getD i 0 < ws.getD at' 0 then i else at') 0
def leastAt (ws : List Int) : Nat := leastTo ws ws.length
theorem leastTo_succ (ws : List Int) (k : Nat) : leastTo ws (k + 1) = if ws.getD k 0 < ws.getD (leastTo ws k) 0 then k else leastTo ws k := by
 simp [leastTo, List.range_succ]
theorem leastTo_lt (ws : List Int) (k : Nat) (h : k ≤ ws.length) (h0 : 0 < ws.length) : leastTo ws k < ws.length := by
 induction k with
 | zero => simpa [leastTo] using h0
 | succ n ih =>
  rw [leastTo_succ]
  split
  ·omega
  ·exact ih (by omega)
theorem node_at {w : World} {g : Nat} {l : List (Int × Value)} (h : (Kd.raw 2).C w (some ⟨g, 0, none⟩) (nodeRows l).length (nodeRows l)) {i : Nat} {x : Int × Value} (hx : l[i]? = some x) :
  w.cell? ⟨g, i * 2, none⟩ = some (.int .i64 x.1) ∧ w.cell? ⟨g, i * 2 + 1, none⟩ = some x.2 := by
 have hi : i < l.length := (List.getElem?_eq_some_iff.1 hx).1
 obtain ⟨ad, c, e, hc, hr, hcell⟩ := ReadsRow.get_ h [] (i : Int) (by omega) (by rw [nodeRows_length]; omega)
 injection e with e
 subst e
 rw [Int.toNat_natCast, nodeRows_at l i hi] at hr
 rw [Int.toNat_natCast] at hcell
 have e2 : l[i] = x := by rw [List.getElem?_eq_getElem hi] at hx; injection hx
 rw [e2] at hr
 have e3 : c = nodeCells x := hr.1
 subst e3
 have h0 := hcell 0 _ rfl
 have h1 := hcell 1 _ rfl
 rw [show (Kd.raw 2).sz = 2 from rfl, add_plain] at h0 h1
 exact ⟨h0, h1⟩
set_option maxHeartbeats 8000000 in
set_option maxRecDepth 100000 in
theorem tree_least (g c : Nat) (l : List (Int × Value)) (w0 w : World) (hO : Nodes w w0.heap.size (.slice (some ⟨g, 0, none⟩) l.length c) l) (h0 : 0 < l.length) (hB : Below w0.heap.size w0 w) (hl : l.length ≤ 1000000) (hV : ∀ x ∈ l, ∃ A n c, x.2 = .slice A n c) :
  Calls Try.prog 106 #[.slice (some ⟨g, 0, none⟩) l.length c] w fun e w' => ∃ x, l[leastAt (l.map (·.1))]? = some x ∧ e = .returned (.tuple #[.agg #[.int .i64 x.1, x.2], .slice (some ⟨g, 0, none⟩) (l.length - 1) c]) ∧
   Nodes w' w0.heap.size (.slice (some ⟨g, 0, none⟩) (l.length - 1) c) (l.eraseIdx (leastAt (l.map (·.1)))) ∧ Below w0.heap.size w0 w' ∧ w.grownBy w' (some g) := by
 have HV := Aside0.mk hV
 clear hV
 have HO := Aside0.mk hO
 have HB := Aside0.mk hB
 obtain ⟨hLL, hLc, hC⟩ := Kd.R_reads' hO
 have HC := Aside0.mk hC
 obtain ⟨L, hL⟩ : ∃ L, L = l.length := ⟨_, rfl⟩
 rw [← hL] at hl h0 ⊢
 have HL := Aside0.mk hL
 obtain ⟨ws, hws⟩ : ∃ ws, ws = l.map (·.1) := ⟨_, rfl⟩
 rw [← hws]
 have HW := Aside0.mk hws
 clear hO hB hC hLc hL hws hLL
 go_enter Try.func106, Try.ntmps106
 go_wp2_with fail
 obtain ⟨wA, hwA⟩ : ∃ wA, wA = w.alloc (Obj.cells #[Value.int IntKind.i64 0, Value.slice none 0 0] 133) := ⟨_, rfl⟩
 have hAc : wA.cell? ⟨w.heap.size, 0, none⟩ = some (.int .i64 0) := by rw [hwA]; simp
 have HAb := Aside0.mk (show Below w.heap.size w wA from by rw [hwA]; exact (Below.refl _ _).alloc (Nat.le_refl _) _)
 have HAs := Aside0.mk (show w.heap.size + 1 = wA.heap.size from by rw [hwA]; simp)
 rw [← hwA]
 have HA := Aside0.mk hwA
 clear hwA
 go_loopg [4, 10] L (fun kq v4 v10 w' => ∃ i : Nat, i ≤ L ∧ v10 = .int .i64 i ∧ v4 = .int .i64 (leastTo ws i) ∧ Aside0 (kq + i = L) ∧ Aside0 (Below wA.heap.size wA w'))
 case atStart => exact ⟨0, by omega, rfl, rfl, ⟨rfl⟩, ⟨Below.refl _ _⟩⟩
 case round =>
  obtain ⟨i, hi, rfl, rfl, HG, HBr⟩ := hrel
  by_cases hlt : i < L
  ·have HBw := Aside0.mk (show Below w.heap.size w wr from below_then HAb.out (by have := HAs.out; omega) HBr.out)
   obtain ⟨⟨wx, vx⟩, hx⟩ : ∃ x, l[i]? = some x := ⟨_, List.getElem?_eq_getElem (by rw [← HL.out]; exact hlt)⟩
   obtain ⟨⟨wy, vy⟩, hy⟩ : ∃ y, l[leastTo ws i]? = some y := ⟨_, List.getElem?_eq_getElem (by have := leastTo_lt ws i (by rw [HW.out]; simp; have := HL.out; omega) (by rw [HW.out]; simp; have := HL.out; omega); rw [HW.out] at this ⊢; simpa using this)⟩
   obtain ⟨Ax, nx, cx, ex⟩ := HV.out _ (List.mem_of_getElem? hx)
   obtain ⟨Ay, ny, cy, ey⟩ := HV.out _ (List.mem_of_getElem? hy)
   simp only at ex ey
   subst ex; subst ey
   obtain ⟨hx1, hx2⟩ := node_at (Kd.C_below HC.out HBw.out) hx
   obtain ⟨hy1, hy2⟩ := node_at (Kd.C_below HC.out HBw.out) hy
   have HX := Aside0.mk hx
   have HY := Aside0.mk hy
   clear hx hy
   go_wp2_with fail
   obtain ⟨w2, hw2⟩ : ∃ w2, w2 = wr.alloc (Obj.cells #[Value.int IntKind.i64 wx, Value.slice Ax nx cx] 133) := ⟨_, rfl⟩
   have hn1 : w2.cell? ⟨wr.heap.size, 0, none⟩ = some (.int .i64 wx) := by rw [hw2]; simp
   have HB2 := Aside0.mk (show Below wr.heap.size wr w2 from by rw [hw2]; exact (Below.refl _ _).alloc (Nat.le_refl _) _)
   have hy3 : w2.cell? ⟨g, leastTo ws i * 2, none⟩ = some (.int .i64 wy) := pw_cell_below HB2.out hy1
   rw [← hw2]
   clear hw2 hx1 hx2 hy1 hy2 hAc
   obtain ⟨at', hat⟩ : ∃ at', at' = leastTo ws i := ⟨_, rfl⟩
   have HAT := Aside0.mk hat
   have hatL : at' < L := by
    rw [hat]
    have := leastTo_lt ws i (by rw [HW.out]; simp; have := HL.out; omega) (by rw [HW.out]; simp; have := HL.out; omega)
    rw [HW.out] at this ⊢
    have h2 := HL.out
    simpa [← h2] using this
   rw [← hat] at hy3 ⊢
   clear hat
   have hat0 : (0 : Int) ≤ (at' : Int) := by omega
   have hat1 : (at' : Int) < (L : Int) := by omega
   have HS := Aside0.mk (show leastTo ws (i + 1) = if wx < wy then i else at' from by
    have hx := HX.out
    have hy := HY.out
    rw [leastTo_succ, ← HAT.out, HW.out]
    rw [← HAT.out] at hy
    simp [List.getD_eq_getElem?_getD, hx, hy])
   go_region
   by_cases hxy : wx < wy
   ·have hd : decide (wx < wy) = true := decide_eq_true hxy
    go_wp2_with fail
    go_roundg (gk - 1)
    case measure => have := HG.out; omega
    case rel => exact ⟨i + 1, by omega, by go_num, by rw [HS.out, if_pos hxy], ⟨by have := HG.out; omega⟩, ⟨below_then (HBr.out) HBr.out.size (by exact below_then HB2.out HB2.out.size (below_drew (Below.refl _ _)))⟩⟩
   ·have hd : decide (wx < wy) = false := decide_eq_false hxy
    go_wp2_with fail
    go_roundg (gk - 1)
    case measure => have := HG.out; omega
    case rel => exact ⟨i + 1, by omega, by go_num, by rw [HS.out, if_neg (by omega)], ⟨by have := HG.out; omega⟩, ⟨below_then (HBr.out) HBr.out.size (by exact below_then HB2.out HB2.out.size (below_drew (Below.refl _ _)))⟩⟩
  ·have hiL : i = L := by omega
   subst hiL
   have HBw := Aside0.mk (show Below w.heap.size w wr from below_then HAb.out (by have := HAs.out; omega) HBr.out)
   obtain ⟨⟨wy, vy⟩, hy⟩ : ∃ y, l[leastTo ws i]? = some y := ⟨_, List.getElem?_eq_getElem (by have := leastTo_lt ws i (by rw [HW.out]; simp; have := HL.out; omega) (by rw [HW.out]; simp; have := HL.out; omega); rw [HW.out] at this ⊢; simpa using this)⟩
   obtain ⟨Ay, ny, cy, ey⟩ := HV.out _ (List.mem_of_getElem? hy)
   simp only at ey
   subst ey
   obtain ⟨hy1, hy2⟩ := node_at (Kd.C_below HC.out HBw.out) hy
   have HY := Aside0.mk hy
   clear hy
   obtain ⟨at', hat⟩ : ∃ at', at' = leastTo ws i := ⟨_, rfl⟩
   have HAT := Aside0.mk hat
   have hatL : at' < i := by
    rw [hat]
    have := leastTo_lt ws i (by rw [HW.out]; simp; have := HL.out; omega) (by rw [HW.out]; simp; have := HL.out; omega)
    rw [HW.out] at this ⊢
    have h2 := HL.out
    simpa [← h2] using this
   rw [← hat] at hy1 hy2 ⊢
   clear hat
   have hat0 : (0 : Int) ≤ (at' : Int) := by omega
   have hat1 : (at' : Int) < (i : Int) := by omega
   go_wp2_with fail
   have hgl : g < w.heap.size := Kd.R_lt HO.out g (by simp [Value.ownBlock])
   have hrl : w.heap.size < wr.heap.size := by have := HAs.out; have := HBr.out.size; omega
   obtain ⟨w2, hw2⟩ : ∃ w2, w2 = wr.alloc (Obj.cells #[Value.int IntKind.i64 wy, Value.slice Ay ny cy] 133) := ⟨_, rfl⟩
   have HB2 := Aside0.mk (show Below wr.heap.size wr w2 from by rw [hw2]; exact (Below.refl _ _).alloc (Nat.le_refl _) _)
   have kN : w2.heap[wr.heap.size]? = some (.cells #[Value.int IntKind.i64 wy, Value.slice Ay ny cy] 133 (0, 0)) := by rw [hw2]; exact Array.getElem?_push_size
   have kA : w2.heap[w.heap.size]? = some (.cells #[Value.int IntKind.i64 0, Value.slice none 0 0] 133 (0, 0)) := by
    rw [HB2.out.block _ hrl, HBr.out.block _ (by have := HAs.out; omega), HA.out]; exact Array.getElem?_push_size
   rw [← hw2]
   have KN := Aside0.mk kN
   have KA := Aside0.mk kA
   have hn1 : w2.cell? ⟨wr.heap.size, 0, none⟩ = some (.int .i64 wy) := by rw [cell_of_row w2 _ _ _ _ _ kN]; rfl
   have hn2 : w2.cell? ⟨wr.heap.size, 1, none⟩ = some (.slice Ay ny cy) := by rw [cell_of_row w2 _ _ _ _ _ kN]; rfl
   have HB3 := Aside0.mk (show Below w.heap.size w w2 from below_then HBw.out HBw.out.size HB2.out)
   have HB4 := Aside0.mk (show Below w0.heap.size w0 w2 from below_then HB.out HB.out.size HB3.out)
   have HO2 := Aside0.mk (show Nodes w2 w0.heap.size (.slice (some ⟨g, 0, none⟩) i c) l from HL.out ▸ Kd.R_below HO.out HB3.out)
   have HLL := HL.out
   subst HLL
   clear hw2 kN kA hy1 hy2 hAc
   have hwr : IntKind.i64.wrap ((at' : Int) + 1) = (at' : Int) + 1 := IntWalk.i64_in _ (by omega)
   go_region_with (go_at_call 113; refine (delete_node g c at' l w0 _ (Kd.R_drew HO2.out) hatL (HB4.out.drew) hl).mono ?_; rintro e1 w3 ⟨rfl, hN, hB5, hg⟩; (have kN := blk_grown (show w2.drew.heap[wr.heap.size]? = _ from KN.out) hg (by simp; omega)); (have kA := blk_grown (show w2.drew.heap[w.heap.size]? = _ from KA.out) hg (by simp; omega)); (have hm1 : w3.cell? ⟨wr.heap.size, 0, none⟩ = some (.int .i64 wy) := by (rw [cell_of_row w3 _ _ _ _ _ kN]; rfl)); (have hm2 : w3.cell? ⟨wr.heap.size, 1, none⟩ = some (.slice Ay ny cy) := by (rw [cell_of_row w3 _ _ _ _ _ kN]; rfl)); (have hr1 : w3.cell? ⟨w.heap.size, 0, none⟩ = some (.int .i64 0) := by (rw [cell_of_row w3 _ _ _ _ _ kA]; rfl)); (have hr2 : w3.cell? ⟨w.heap.size, 1, none⟩ = some (.slice none 0 0) := by (rw [cell_of_row w3 _ _ _ _ _ kA]; rfl)); (have hf1 : w3.frozen? ⟨w.heap.size, 0, none⟩ = false := blk_frozen kA _); (have hf2 : w3.frozen? ⟨w.heap.size, 1, none⟩ = false := blk_frozen kA _); (have HN := Aside0.mk (And.intro hN (And.intro hB5 hg))); (have KA3 := Aside0.mk kA); clear kN kA hN hB5 hg)
   all_goals
    go_wp2_with fail
    (try simp only [Exit.inBlock, Exit.then])
    refine bodyPost_ret (results_ct rfl _ _ w.heap.size 133 #[.int .i64 wy, .slice Ay ny cy] (0, 0) _ rfl (by (with_reducible repeat (first | refine blk_drewN ?_ _ | refine blk_drew ?_ | refine blk_alloc ?_ _)); refine blk_put (cs := #[.int .i64 wy, .slice none 0 0]) ?_ 1 _ rfl; (with_reducible repeat (first | refine blk_drewN ?_ _ | refine blk_drew ?_ | refine blk_alloc ?_ _)); refine blk_put (cs := #[.int .i64 0, .slice none 0 0]) ?_ 0 _ rfl; (with_reducible repeat (first | refine blk_drewN ?_ _ | refine blk_drew ?_ | refine blk_alloc ?_ _)); exact KA3.out) Try.underlying133 rfl (by kernel_rfl)) rfl ?_
    obtain ⟨hN, hB5, hg⟩ := HN.out
    have hle : leastAt ws = at' := by
     rw [HAT.out, leastAt, HW.out, List.length_map]
    have hwb : w0.heap.size ≤ w.heap.size := HB.out.size
    have hw3 : Below w.heap.size w3 ((w3.setCell ⟨w.heap.size, 0, none⟩ (.int .i64 wy)).setCell ⟨w.heap.size, 1, none⟩ (.slice Ay ny cy)) :=
     Below.setCell (p := ⟨w.heap.size, 1, none⟩) (Below.setCell (p := ⟨w.heap.size, 0, none⟩) (Below.refl _ _) (Nat.le_refl _) _) (Nat.le_refl _) _
    refine ⟨_, by rw [hle, HAT.out]; exact HY.out, rfl, ?_, ?_, ?_⟩
    ·rw [hle]
     refine Kd.raw_any (Kd.R_far (Kd.R_far (Kd.raw_tight hN) ?_ _) ?_ _)
     all_goals (intro k hk; simp [Value.ownBlock] at hk ⊢; omega)
    ·exact hB5.trans ⟨hw3.os, hw3.tape, hw3.output, hw3.size, fun k hk => hw3.block k (by omega)⟩
    ·have h3 := HB3.out
     have h4 : w2.drew.heap.size = w2.heap.size := rfl
     exact ⟨hw3.os.trans (hg.os.trans h3.os), hw3.tape.trans (hg.tape.trans h3.tape), hw3.output.trans (hg.output.trans h3.output), by have := hg.size; have := h3.size; have := hw3.size; omega, fun k hk hne => (hw3.block k hk).trans ((hg.block k (by have := h3.size; omega) hne).trans (h3.block k hk))⟩

/-! ### sym_lens: function 102 -/
def sym_lens.f  : Option (Int × Int) := some (8, 4)
set_option maxHeartbeats 8000000 in
set_option maxRecDepth 100000 in
theorem sym_lens.calls  (r1 : Int) (r2 : Int) (w : World) (h : sym_lens.f  = some (r1, r2)) :
  Calls Try.prog 102 #[] w fun e w' => e = .returned (.agg #[.int .i64 r1, .int .i64 r2]) ∧ Below w.heap.size w w' := by
 have hu127 := Try.underlying127
 have HB := Aside0.mk (Below.refl w.heap.size w)
 have H : (some (8, 4)) = some (r1, r2) := h
 clear h
 simp only [Option.some.injEq, Prod.mk.injEq] at H
 obtain ⟨rfl, rfl⟩ := H
 go_enter Try.func102, Try.ntmps102
 go_wp2_with (first | ((with_reducible refine gate_dst (N := 0) rfl ?_); refine box_event ?hg (N := 0) ?hd (cs := #[.int .i64 0, .int .i64 0]) (t := 127) ?hr ?_; (case hd => rfl); (case hg => rfl); (case hr => first | (go_simp; done) | (go_simp; rfl)); intro gb105 hg w1 hbox hb; have n0_ := Aside0.mk (below_step (by repeat (first | (with_reducible first | exact HB.out | apply below_alloc | apply pw_below_drewN | apply below_drew1) | exact HB.out)) hb); have n1_ := Aside0.mk (hbox); have n2_ := Aside0.mk ((by rw [hg]; exact (below_size (by repeat (first | (with_reducible first | exact HB.out | apply below_alloc | apply pw_below_drewN | apply below_drew1) | exact HB.out))) : w.heap.size ≤ gb105)); have n3_ := Aside0.mk ((by rw [hg]; exact (below_size (by repeat (first | (with_reducible first | exact HB.out | apply below_alloc | apply pw_below_drewN | apply below_drew1) | exact HB.out))) : w.heap.size ≤ gb105)); clear HB; have HB := n0_; have BK105 := n1_; have GW105 := n2_; have GE105 := n3_; clear n0_ n1_ n2_ n3_; clear hb hbox hg; have hcz2_0 : w1.cell? ⟨gb105, 0, none⟩ = some (.int .i64 0) := (blk_cell BK105.out 0).trans rfl; have hcz2_1 : w1.cell? ⟨gb105, 1, none⟩ = some (.int .i64 0) := (blk_cell BK105.out 1).trans rfl; have hfz2_0 := blk_frozen BK105.out 0; have hfz2_1 := blk_frozen BK105.out 1))
 refine bodyPost_ret (results_cell_row rfl _ _ gb105 127 #[.int .i64 8, .int .i64 4] (0, 0) _ rfl (by (with_reducible repeat (first | refine blk_drewN ?_ _ | refine blk_drew ?_ | refine blk_alloc ?_ _)); refine blk_put (cs := #[.int .i64 8, .int .i64 0]) ?_ 1 _ rfl; (with_reducible repeat (first | refine blk_drewN ?_ _ | refine blk_drew ?_ | refine blk_alloc ?_ _)); refine blk_put (cs := #[.int .i64 0, .int .i64 0]) ?_ 0 _ rfl; (with_reducible repeat (first | refine blk_drewN ?_ _ | refine blk_drew ?_ | refine blk_alloc ?_ _)); exact BK105.out) Try.underlying127 rfl (by kernel_rfl)) rfl ?_
 exact ⟨by first | rfl | (simp [errW_none, errW_some] <;> rfl) | (simp [*, errW_none, errW_some] <;> rfl), by repeat (first | (with_reducible first | exact HB.out | apply below_alloc | apply pw_below_drewN | apply below_drew1 | refine below_set ?_ GE105.out) | exact HB.out)⟩

/-! ### sym_scale_of: function 112 -/
def sym_scale_of.l0 : Nat → Int → Int → Int → Int → Int → Int → Option (Int × Int)
 | 0, _, _, _, _, _, _ => none
 | k + 1, x1, x4, x5, x6, x107000, x107001 => if x6 < x1 then (if x107001 = 0 then (none) else (if 0 ≤ (IntKind.u64.wrap (wrap64 (1 + (wrap64 (Int.tdiv (wrap64 (x6 - x107000)) x107001))))) then (sym_scale_of.l0 k x1 (wrap64 (x4 + (shl .i64 1 (IntKind.u64.wrap (wrap64 (1 + (wrap64 (Int.tdiv (wrap64 (x6 - x107000)) x107001)))))))) x5 (wrap64 (x6 + 1)) x107000 x107001) else (none))) else (if x1 ≥ x107000 then (if x107001 = 0 then (none) else (some (x4, wrap64 (1 + (wrap64 (Int.tdiv (wrap64 (x1 - x107000)) x107001)))))) else (some (x4, x5)))
def sym_scale_of.f (k : Nat) (a0_0 : Int) (a0_1 : Int) (a1 : Int) : Option (Int × Int) := sym_scale_of.l0 k a1 (mn a1 a0_0) 0 a0_0 a0_0 a0_1
theorem sym_scale_of.mono_l : ∀ k, (∀ y0 y1 y2 y3 y4 y5, LeO (sym_scale_of.l0 k y0 y1 y2 y3 y4 y5) (sym_scale_of.l0 (k + 1) y0 y1 y2 y3 y4 y5))
 | 0 => fun _ _ _ _ _ _ r h => by simp [sym_scale_of.l0] at h
 | k + 1 => by
  have ih0 := sym_scale_of.mono_l k
  ·intro y0 y1 y2 y3 y4 y5
   unfold sym_scale_of.l0
   repeat' first
   | (with_reducible exact ih0 _ _ _ _ _ _)
   | (with_reducible exact LeO.refl _)
   | (with_reducible exact LeO.none _)
   | (with_reducible refine LeO.ite ?_ ?_)
   | (with_reducible refine LeO.bind ?_ (fun _ => ?_))
   | exact ih0 _ _ _ _ _ _
   | exact LeO.none _
   | refine LeO.ite ?_ ?_
   | refine LeO.bind ?_ (fun _ => ?_)
theorem sym_scale_of.mono : ∀ a0 a1 a2 k, LeO (sym_scale_of.f k a0 a1 a2) (sym_scale_of.f (k + 1) a0 a1 a2) := by
 intro a0 a1 a2 k
 have ih0 := sym_scale_of.mono_l k
 unfold sym_scale_of.f
 repeat' first
   | (with_reducible exact ih0 _ _ _ _ _ _)
   | (with_reducible exact LeO.refl _)
   | (with_reducible exact LeO.none _)
   | (with_reducible refine LeO.ite ?_ ?_)
   | (with_reducible refine LeO.bind ?_ (fun _ => ?_))
   | exact ih0 _ _ _ _ _ _
   | exact LeO.none _
   | refine LeO.ite ?_ ?_
   | refine LeO.bind ?_ (fun _ => ?_)
set_option maxHeartbeats 8000000 in
set_option maxRecDepth 100000 in
theorem sym_scale_of.calls (k : Nat) (a0_0 : Int) (a0_1 : Int) (a1 : Int) (r1 : Int) (r2 : Int) (w : World) (h : sym_scale_of.f k a0_0 a0_1 a1 = some (r1, r2)) :
  Calls Try.prog 112 #[.agg #[.int .i64 a0_0, .int .i64 a0_1], .int .i64 a1] w fun e w' => e = .returned (.tuple #[.int .i64 r1, .int .i64 r2]) ∧ Below w.heap.size w w' := by
 have hu127 := Try.underlying127
 have HB := Aside0.mk (Below.refl w.heap.size w)
 have H : (sym_scale_of.l0 k a1 (mn a1 a0_0) 0 a0_0 a0_0 a0_1) = some (r1, r2) := h
 clear h
 obtain ⟨ji3, hji3⟩ : ∃ j_ : Int, (mn a1 a0_0) = j_ := ⟨_, rfl⟩
 replace H : (sym_scale_of.l0 k a1 ji3 0 a0_0 a0_0 a0_1) = some (r1, r2) := by first | (rw [hji3] at H; exact H) | (simp only [hji3] at H ⊢; exact H)
 have hji3_ : (if a0_0 < a1 then a0_0 else a1) = ji3 := hji3
 have H' := Aside0.mk H
 clear H
 go_enter Try.func112, Try.ntmps112
 go_wp2_with (first | ((with_reducible refine gate_dst (N := 2) rfl ?_); refine box_event ?hg (N := 2) ?hd (cs := #[.int .i64 a0_0, .int .i64 a0_1]) (t := 127) ?hr ?_; (case hd => rfl); (case hg => rfl); (case hr => first | (go_simp; done) | (go_simp; rfl)); intro gb106 hg w4 hbox hb; have n0_ := Aside0.mk (below_step (by repeat (first | (with_reducible first | exact HB.out | apply below_alloc | apply pw_below_drewN | apply below_drew1) | exact HB.out)) hb); have n1_ := Aside0.mk (hbox); have n2_ := Aside0.mk ((by rw [hg]; exact (below_size (by repeat (first | (with_reducible first | exact HB.out | apply below_alloc | apply pw_below_drewN | apply below_drew1) | exact HB.out))) : w.heap.size ≤ gb106)); have n3_ := Aside0.mk ((by rw [hg]; exact (below_size (by repeat (first | (with_reducible first | exact HB.out | apply below_alloc | apply pw_below_drewN | apply below_drew1) | exact HB.out))) : w.heap.size ≤ gb106)); clear HB; have HB := n0_; have BK106 := n1_; have GW106 := n2_; have GE106 := n3_; clear n0_ n1_ n2_ n3_; clear hb hbox hg; have hcz5_0 : w4.cell? ⟨gb106, 0, none⟩ = some (.int .i64 a0_0) := (blk_cell BK106.out 0).trans rfl; have hcz5_1 : w4.cell? ⟨gb106, 1, none⟩ = some (.int .i64 a0_1) := (blk_cell BK106.out 1).trans rfl; have hfz5_0 := blk_frozen BK106.out 0; have hfz5_1 := blk_frozen BK106.out 1))
 go_loopg [4, 6] k (fun kq v4 v6 w' => ∃ (x4_1 : Int) (x6_1 : Int), v4 = .int .i64 x4_1 ∧ v6 = .int .i64 x6_1 ∧ Aside0 (sym_scale_of.l0 kq a1 x4_1 0 x6_1 a0_0 a0_1 = some (r1, r2)) ∧ Aside0 (kq ≤ k) ∧ Aside0 (w'.heap[gb106]? = some (.cells #[.int .i64 a0_0, .int .i64 a0_1] 127 (0, 0))) ∧ Aside0 (Below w.heap.size w w'))
 case atStart => exact ⟨(ji3), (a0_0), (by first | rfl | (simp; done) | (simp only [← hji3] <;> (first | rfl | simp)) | (simp [*]; done)), (by first | rfl | (simp; done) | (simp [*]; done)), H', ⟨Nat.le_refl _⟩, ⟨by (with_reducible repeat (first | refine blk_drewN ?_ _ | refine blk_drew ?_ | refine blk_alloc ?_ _)); exact BK106.out⟩, ⟨by repeat (first | (with_reducible first | exact HB.out | apply below_alloc | apply pw_below_drewN | apply below_drew1 | refine below_set ?_ GE106.out) | exact HB.out)⟩⟩
 case round =>
  clear H'
  try clear c1
  try clear p2
  try clear hcz5_0
  try clear hcz5_1
  try clear hfz5_0
  try clear hfz5_1
  obtain ⟨x4_1, x6_1, rfl, rfl, HA, HK1, BK106, HB⟩ := hrel
  cases gk with
  | zero => exact absurd HA.out (by simp [sym_scale_of.l0])
  | succ k1 =>
   have H := HA.out
   clear HA
   simp only [sym_scale_of.l0] at H
   by_cases c6 : x6_1 < a1
   ·rw [if_pos c6] at H
    have c6b0 : decide (x6_1 < a1) = true := decide_eq_true c6
    clear c6
    by_cases c7 : a0_1 = 0
    ·rw [if_pos c7] at H
     exact absurd H (by simp)
    ·rw [if_neg c7] at H
     have c7b0 : (a0_1 == 0) = false := beq_eq_false_iff_ne.mpr c7
     have c7b1 : (a0_1 != 0) = true := bne_iff_ne.mpr c7
     obtain ⟨ji8, hji8⟩ : ∃ j_ : Int, (IntKind.u64.wrap (wrap64 (1 + (wrap64 (Int.tdiv (wrap64 (x6_1 - a0_0)) a0_1))))) = j_ := ⟨_, rfl⟩
     replace H : (if 0 ≤ (ji8) then (sym_scale_of.l0 k1 a1 (wrap64 (x4_1 + (shl .i64 1 (ji8)))) 0 (wrap64 (x6_1 + 1)) a0_0 a0_1) else (none)) = some (r1, r2) := by first | (rw [hji8] at H; exact H) | (simp only [hji8] at H ⊢; exact H)
     by_cases c9 : 0 ≤ (ji8)
     ·rw [if_pos c9] at H
      have c9b0 := eq_true c9
      have c9b1 : decide (0 ≤ (ji8)) = true := decide_eq_true c9
      clear c9
      obtain ⟨ji10, hji10⟩ : ∃ j_ : Int, (shl .i64 1 (ji8)) = j_ := ⟨_, rfl⟩
      replace H : (sym_scale_of.l0 k1 a1 (wrap64 (x4_1 + (ji10))) 0 (wrap64 (x6_1 + 1)) a0_0 a0_1) = some (r1, r2) := by first | (rw [hji10] at H; exact H) | (simp only [hji10] at H ⊢; exact H)
      have hji10_ : (IntKind.i64.wrap (1 * 2 ^ min (ji8).toNat 64)) = ji10 := hji10
      have hji10z : (ji8) ≤ 64 → (IntKind.i64.wrap (1 * 2 ^ (ji8).toNat)) = ji10 := shl_small hji10
      have hji10u : (IntKind.i64.wrap (2 ^ min (ji8).toNat 64)) = ji10 := by have h_ := hji10_; rw [Int.one_mul] at h_; exact h_
      have hji10v : (ji8) ≤ 64 → (IntKind.i64.wrap (2 ^ (ji8).toNat)) = ji10 := fun hle_ => by have h_ := hji10z hle_; rw [Int.one_mul] at h_; exact h_
      have hji10y : (wrap64 (1 * 2 ^ min (ji8).toNat 64)) = ji10 := (i64_w _).symm.trans hji10_
      have hji10x : (ji8) ≤ 64 → (wrap64 (1 * 2 ^ (ji8).toNat)) = ji10 := fun h_ => (i64_w _).symm.trans (hji10z h_)
      have H' := Aside0.mk H
      clear H
      have hcz11_0 : wr.cell? ⟨gb106, 0, none⟩ = some (.int .i64 a0_0) := (blk_cell BK106.out 0).trans rfl
      have hcz11_1 : wr.cell? ⟨gb106, 1, none⟩ = some (.int .i64 a0_1) := (blk_cell BK106.out 1).trans rfl
      have hfz11_0 := blk_frozen BK106.out 0
      have hfz11_1 := blk_frozen BK106.out 1
      go_wp2
      go_roundg k1
      case measure => have := HK1.out; omega
      case rel => exact ⟨(wrap64 (x4_1 + (ji10))), (wrap64 (x6_1 + 1)), (by first | rfl | (simp; done) | (simp only [← hji10] <;> (first | rfl | simp)) | (simp [*]; done)), (by first | rfl | (simp; done) | (simp [*]; done)), H', ⟨by have := HK1.out; omega⟩, ⟨by (with_reducible repeat (first | refine blk_drewN ?_ _ | refine blk_drew ?_ | refine blk_alloc ?_ _)); exact BK106.out⟩, ⟨by repeat (first | (with_reducible first | exact HB.out | apply below_alloc | apply pw_below_drewN | apply below_drew1 | refine below_set ?_ GE106.out) | exact HB.out)⟩⟩
     ·rw [if_neg c9] at H
      exact absurd H (by simp)
   ·rw [if_neg c6] at H
    have c6b0 : decide (x6_1 < a1) = false := decide_eq_false c6
    clear c6
    by_cases c12 : a1 ≥ a0_0
    ·rw [if_pos c12] at H
     have c12b0 : decide (a0_0 ≤ a1) = true := decide_eq_true c12
     clear c12
     by_cases c13 : a0_1 = 0
     ·rw [if_pos c13] at H
      exact absurd H (by simp)
     ·rw [if_neg c13] at H
      have c13b0 : (a0_1 == 0) = false := beq_eq_false_iff_ne.mpr c13
      have c13b1 : (a0_1 != 0) = true := bne_iff_ne.mpr c13
      simp only [Option.some.injEq, Prod.mk.injEq] at H
      obtain ⟨rfl, rfl⟩ := H
      have hcz14_0 : wr.cell? ⟨gb106, 0, none⟩ = some (.int .i64 a0_0) := (blk_cell BK106.out 0).trans rfl
      have hcz14_1 : wr.cell? ⟨gb106, 1, none⟩ = some (.int .i64 a0_1) := (blk_cell BK106.out 1).trans rfl
      have hfz14_0 := blk_frozen BK106.out 0
      have hfz14_1 := blk_frozen BK106.out 1
      go_wp2
      go_ret2
      exact ⟨by first | rfl | (simp [errW_none, errW_some] <;> rfl) | (simp only [← hji3]; first | rfl | (simp [errW_none, errW_some] <;> rfl)) | (simp [*, errW_none, errW_some] <;> rfl), by repeat (first | (with_reducible first | exact HB.out | apply below_alloc | apply pw_below_drewN | apply below_drew1 | refine below_set ?_ GE106.out) | exact HB.out)⟩
    ·rw [if_neg c12] at H
     have c12b0 : decide (a0_0 ≤ a1) = false := decide_eq_false c12
     clear c12
     simp only [Option.some.injEq, Prod.mk.injEq] at H
     obtain ⟨rfl, rfl⟩ := H
     have hcz15_0 : wr.cell? ⟨gb106, 0, none⟩ = some (.int .i64 a0_0) := (blk_cell BK106.out 0).trans rfl
     have hcz15_1 : wr.cell? ⟨gb106, 1, none⟩ = some (.int .i64 a0_1) := (blk_cell BK106.out 1).trans rfl
     have hfz15_0 := blk_frozen BK106.out 0
     have hfz15_1 := blk_frozen BK106.out 1
     go_wp2
     go_ret2
     exact ⟨by first | rfl | (simp [errW_none, errW_some] <;> rfl) | (simp only [← hji3]; first | rfl | (simp [errW_none, errW_some] <;> rfl)) | (simp [*, errW_none, errW_some] <;> rfl), by repeat (first | (with_reducible first | exact HB.out | apply below_alloc | apply pw_below_drewN | apply below_drew1 | refine below_set ?_ GE106.out) | exact HB.out)⟩

/-! ### sym_scale_at: function 103 -/
def sym_scale_at.l0 : Nat → Int → Int → Int → Int → Option (Int × Int × Int)
 | 0, _, _, _, _ => none
 | k + 1, x1, x4, x108000, x108001 => (sym_scale_of.f k x108000 x108001 x4).bind fun bt108 => (if 0 ≤ (IntKind.u64.wrap (bt108.2)) then (if (wrap64 (x1 - bt108.1)) < (shl .i64 1 (IntKind.u64.wrap (bt108.2))) then (some (x4, bt108.2, wrap64 (x1 - bt108.1))) else (sym_scale_at.l0 k x1 (wrap64 (x4 + 1)) x108000 x108001)) else (none))
def sym_scale_at.f (k : Nat) (a0_0 : Int) (a0_1 : Int) (a1 : Int) : Option (Int × Int × Int) := sym_scale_at.l0 k a1 0 a0_0 a0_1
set_option maxHeartbeats 8000000 in
set_option maxRecDepth 100000 in
theorem sym_scale_at.calls (k : Nat) (a0_0 : Int) (a0_1 : Int) (a1 : Int) (r1 : Int) (r2 : Int) (r3 : Int) (w : World) (h : sym_scale_at.f k a0_0 a0_1 a1 = some (r1, r2, r3)) :
  Calls Try.prog 103 #[.agg #[.int .i64 a0_0, .int .i64 a0_1], .int .i64 a1] w fun e w' => e = .returned (.tuple #[.int .i64 r1, .int .i64 r2, .int .i64 r3]) ∧ Below w.heap.size w w' := by
 have hu127 := Try.underlying127
 have HB := Aside0.mk (Below.refl w.heap.size w)
 have H : (sym_scale_at.l0 k a1 0 a0_0 a0_1) = some (r1, r2, r3) := h
 clear h
 have H' := Aside0.mk H
 clear H
 go_enter Try.func103, Try.ntmps103
 go_wp2_with (first | ((with_reducible refine gate_dst (N := 2) rfl ?_); refine box_event ?hg (N := 2) ?hd (cs := #[.int .i64 a0_0, .int .i64 a0_1]) (t := 127) ?hr ?_; (case hd => rfl); (case hg => rfl); (case hr => first | (go_simp; done) | (go_simp; rfl)); intro gb107 hg w3 hbox hb; have n0_ := Aside0.mk (below_step (by repeat (first | (with_reducible first | exact HB.out | apply below_alloc | apply pw_below_drewN | apply below_drew1) | exact HB.out)) hb); have n1_ := Aside0.mk (hbox); have n2_ := Aside0.mk ((by rw [hg]; exact (below_size (by repeat (first | (with_reducible first | exact HB.out | apply below_alloc | apply pw_below_drewN | apply below_drew1) | exact HB.out))) : w.heap.size ≤ gb107)); have n3_ := Aside0.mk ((by rw [hg]; exact (below_size (by repeat (first | (with_reducible first | exact HB.out | apply below_alloc | apply pw_below_drewN | apply below_drew1) | exact HB.out))) : w.heap.size ≤ gb107)); clear HB; have HB := n0_; have BK107 := n1_; have GW107 := n2_; have GE107 := n3_; clear n0_ n1_ n2_ n3_; clear hb hbox hg))
 go_loopg [4] k (fun kq v4 w' => ∃ (x4_1 : Int), v4 = .int .i64 x4_1 ∧ Aside0 (sym_scale_at.l0 kq a1 x4_1 a0_0 a0_1 = some (r1, r2, r3)) ∧ Aside0 (kq ≤ k) ∧ Aside0 (w'.heap[gb107]? = some (.cells #[.int .i64 a0_0, .int .i64 a0_1] 127 (0, 0))) ∧ Aside0 (Below w.heap.size w w'))
 case atStart => exact ⟨(0), (by first | rfl | (simp; done) | (simp [*]; done)), H', ⟨Nat.le_refl _⟩, ⟨by (with_reducible repeat (first | refine blk_drewN ?_ _ | refine blk_drew ?_ | refine blk_alloc ?_ _)); exact BK107.out⟩, ⟨by repeat (first | (with_reducible first | exact HB.out | apply below_alloc | apply pw_below_drewN | apply below_drew1 | refine below_set ?_ GE107.out) | exact HB.out)⟩⟩
 case round =>
  clear H'
  try clear c1
  try clear p2
  obtain ⟨x4_1, rfl, HA, HK1, BK107, HB⟩ := hrel
  cases gk with
  | zero => exact absurd HA.out (by simp [sym_scale_at.l0])
  | succ k1 =>
   have H := HA.out
   clear HA
   simp only [sym_scale_at.l0] at H
   replace H := Option.bind_eq_some_iff.mp H
   obtain ⟨⟨t108, t109⟩, A40, H⟩ := H
   replace H : (if 0 ≤ (IntKind.u64.wrap (t109)) then (if (wrap64 (a1 - t108)) < (shl .i64 1 (IntKind.u64.wrap (t109))) then (some (x4_1, t109, wrap64 (a1 - t108))) else (sym_scale_at.l0 k1 a1 (wrap64 (x4_1 + 1)) a0_0 a0_1)) else (none)) = some (r1, r2, r3) := H
   have A4 := Aside0.mk A40
   clear A40
   obtain ⟨ji5, hji5⟩ : ∃ j_ : Int, (IntKind.u64.wrap (t109)) = j_ := ⟨_, rfl⟩
   replace H : (if 0 ≤ (ji5) then (if (wrap64 (a1 - t108)) < (shl .i64 1 (ji5)) then (some (x4_1, t109, wrap64 (a1 - t108))) else (sym_scale_at.l0 k1 a1 (wrap64 (x4_1 + 1)) a0_0 a0_1)) else (none)) = some (r1, r2, r3) := by first | (rw [hji5] at H; exact H) | (simp only [hji5] at H ⊢; exact H)
   (try rw [hji5] at A4)
   by_cases c6 : 0 ≤ (ji5)
   ·rw [if_pos c6] at H
    have c6b0 := eq_true c6
    have c6b1 : decide (0 ≤ (ji5)) = true := decide_eq_true c6
    clear c6
    obtain ⟨ji7, hji7⟩ : ∃ j_ : Int, (shl .i64 1 (ji5)) = j_ := ⟨_, rfl⟩
    replace H : (if (wrap64 (a1 - t108)) < (ji7) then (some (x4_1, t109, wrap64 (a1 - t108))) else (sym_scale_at.l0 k1 a1 (wrap64 (x4_1 + 1)) a0_0 a0_1)) = some (r1, r2, r3) := by first | (rw [hji7] at H; exact H) | (simp only [hji7] at H ⊢; exact H)
    (try rw [hji7] at A4)
    have hji7_ : (IntKind.i64.wrap (1 * 2 ^ min (ji5).toNat 64)) = ji7 := hji7
    have hji7z : (ji5) ≤ 64 → (IntKind.i64.wrap (1 * 2 ^ (ji5).toNat)) = ji7 := shl_small hji7
    have hji7u : (IntKind.i64.wrap (2 ^ min (ji5).toNat 64)) = ji7 := by have h_ := hji7_; rw [Int.one_mul] at h_; exact h_
    have hji7v : (ji5) ≤ 64 → (IntKind.i64.wrap (2 ^ (ji5).toNat)) = ji7 := fun hle_ => by have h_ := hji7z hle_; rw [Int.one_mul] at h_; exact h_
    have hji7y : (wrap64 (1 * 2 ^ min (ji5).toNat 64)) = ji7 := (i64_w _).symm.trans hji7_
    have hji7x : (ji5) ≤ 64 → (wrap64 (1 * 2 ^ (ji5).toNat)) = ji7 := fun h_ => (i64_w _).symm.trans (hji7z h_)
    by_cases c8 : (wrap64 (a1 - t108)) < (ji7)
    ·rw [if_pos c8] at H
     have c8b0 : decide ((wrap64 (a1 - t108)) < (ji7)) = true := decide_eq_true c8
     clear c8
     simp only [Option.some.injEq, Prod.mk.injEq] at H
     obtain ⟨rfl, rfl, rfl⟩ := H
     have hcz9_0 : wr.cell? ⟨gb107, 0, none⟩ = some (.int .i64 a0_0) := (blk_cell BK107.out 0).trans rfl
     have hcz9_1 : wr.cell? ⟨gb107, 1, none⟩ = some (.int .i64 a0_1) := (blk_cell BK107.out 1).trans rfl
     have hfz9_0 := blk_frozen BK107.out 0
     have hfz9_1 := blk_frozen BK107.out 1
     go_wp2_with (first | ((with_reducible refine gate_callee (f := 112) rfl ?_); refine goesL_ (some 12) rfl rfl Try.func112 (by kernel_rfl) rfl #[.agg #[.int .i64 a0_0, .int .i64 a0_1], .int .i64 x4_1] rfl (by (try simp only [List.map_toArray, List.map_cons, List.map_nil]); first | done | rfl | (simp only [List.length_drop, List.length_take]; rfl)) ?_; (with_reducible refine (sym_scale_of.calls k1 a0_0 a0_1 x4_1 t108 t109 _ A4.out).mono ?_); rintro e w10 ⟨rfl, hb⟩; refine ⟨_, rfl, ?_⟩; have n0_ := Aside0.mk (blk_below (g := gb107) (o := .cells #[.int .i64 a0_0, .int .i64 a0_1] 127 (0, 0)) (by (with_reducible repeat (first | refine blk_drewN ?_ _ | refine blk_drew ?_ | refine blk_alloc ?_ _)); exact BK107.out) hb); have n1_ := Aside0.mk (below_step (by repeat (first | (with_reducible first | exact HB.out | apply below_alloc | apply pw_below_drewN | apply below_drew1 | refine below_set ?_ GE107.out) | exact HB.out)) hb); clear BK107; clear HB; have BK107 := n0_; have HB := n1_; clear n0_ n1_; (try clear hb); (try clear hb2); (try clear hk); (try clear hi)))
     go_ret3
     exact ⟨by first | rfl | (simp [errW_none, errW_some] <;> rfl) | (simp only [← hji5, ← hji7]; first | rfl | (simp [errW_none, errW_some] <;> rfl)) | (simp [*, errW_none, errW_some] <;> rfl), by repeat (first | (with_reducible first | exact HB.out | apply below_alloc | apply pw_below_drewN | apply below_drew1 | refine below_set ?_ GE107.out) | exact HB.out)⟩
    ·rw [if_neg c8] at H
     have c8b0 : decide ((wrap64 (a1 - t108)) < (ji7)) = false := decide_eq_false c8
     clear c8
     have H' := Aside0.mk H
     clear H
     have hcz11_0 : wr.cell? ⟨gb107, 0, none⟩ = some (.int .i64 a0_0) := (blk_cell BK107.out 0).trans rfl
     have hcz11_1 : wr.cell? ⟨gb107, 1, none⟩ = some (.int .i64 a0_1) := (blk_cell BK107.out 1).trans rfl
     have hfz11_0 := blk_frozen BK107.out 0
     have hfz11_1 := blk_frozen BK107.out 1
     go_wp2_with (first | ((with_reducible refine gate_callee (f := 112) rfl ?_); refine goesL_ (some 12) rfl rfl Try.func112 (by kernel_rfl) rfl #[.agg #[.int .i64 a0_0, .int .i64 a0_1], .int .i64 x4_1] rfl (by (try simp only [List.map_toArray, List.map_cons, List.map_nil]); first | done | rfl | (simp only [List.length_drop, List.length_take]; rfl)) ?_; (with_reducible refine (sym_scale_of.calls k1 a0_0 a0_1 x4_1 t108 t109 _ A4.out).mono ?_); rintro e w12 ⟨rfl, hb⟩; refine ⟨_, rfl, ?_⟩; have n0_ := Aside0.mk (blk_below (g := gb107) (o := .cells #[.int .i64 a0_0, .int .i64 a0_1] 127 (0, 0)) (by (with_reducible repeat (first | refine blk_drewN ?_ _ | refine blk_drew ?_ | refine blk_alloc ?_ _)); exact BK107.out) hb); have n1_ := Aside0.mk (below_step (by repeat (first | (with_reducible first | exact HB.out | apply below_alloc | apply pw_below_drewN | apply below_drew1 | refine below_set ?_ GE107.out) | exact HB.out)) hb); clear BK107; clear HB; have BK107 := n0_; have HB := n1_; clear n0_ n1_; (try clear hb); (try clear hb2); (try clear hk); (try clear hi)))
     go_roundg k1
     case measure => have := HK1.out; omega
     case rel => exact ⟨(wrap64 (x4_1 + 1)), (by first | rfl | (simp; done) | (simp [*]; done)), H', ⟨by have := HK1.out; omega⟩, ⟨by (with_reducible repeat (first | refine blk_drewN ?_ _ | refine blk_drew ?_ | refine blk_alloc ?_ _)); exact BK107.out⟩, ⟨by repeat (first | (with_reducible first | exact HB.out | apply below_alloc | apply pw_below_drewN | apply below_drew1 | refine below_set ?_ GE107.out) | exact HB.out)⟩⟩
   ·rw [if_neg c6] at H
    exact absurd H (by simp)

/-! ### sym_Len: function 86 -/
def sym_Len.j0 : Nat → Int → Bool → Option (Int × Int × Int × Int)
 | 0, _, _ => none
 | k + 1, x0, x6 => if x6 = true then (some (0, 0, 0, 1)) else (if x0 = 258 then (some (285, 0, 0, 0)) else ((sym_lens.f).bind fun bt110 => ((sym_scale_at.f k bt110.1 bt110.2 (wrap64 (x0 - 3))).bind fun bt112 => (some (wrap64 (257 + bt112.1), bt112.2.1, bt112.2.2, 0)))))
def sym_Len.f (k : Nat) (a0 : Int) : Option (Int × Int × Int × Int) := if a0 < 3 then (sym_Len.j0 k a0 true) else (sym_Len.j0 k a0 (decide (a0 > 258)))
set_option maxHeartbeats 8000000 in
set_option maxRecDepth 100000 in
theorem sym_Len.calls (k : Nat) (a0 : Int) (r1 : Int) (r2 : Int) (r3 : Int) (r4 : Int) (w : World) (h : sym_Len.f k a0 = some (r1, r2, r3, r4)) :
  Calls Try.prog 86 #[.int .i64 a0] w fun e w' => e = .returned (.tuple #[.int .i64 r1, .int .i64 r2, .int .i64 r3, .int .i64 r4]) ∧ Below w.heap.size w w' := by
 have HB := Aside0.mk (Below.refl w.heap.size w)
 have H : (if a0 < 3 then (sym_Len.j0 k a0 true) else (sym_Len.j0 k a0 (decide (a0 > 258)))) = some (r1, r2, r3, r4) := h
 clear h
 have HC2 := Aside0.mk H
 clear H
 go_enter Try.func86, Try.ntmps86
 go_upto_region 1 with (fail)
 go_cut [6] (fun v6 wc => ∃ (kq : Nat) (x6_1 : Bool), v6 = .bool x6_1 ∧ Aside0 (sym_Len.j0 kq a0 x6_1 = some (r1, r2, r3, r4)) ∧ Aside0 (kq ≤ k) ∧ Aside0 (Below w.heap.size w wc))
 case first =>
  have H := HC2.out
  clear HC2
  by_cases c3 : a0 < 3
  ·rw [if_pos c3] at H
   have c3b0 : decide (a0 < 3) = true := decide_eq_true c3
   clear c3
   (first | rw [c3b0] | (simp only [i64_w, i32_w]; rw [c3b0]) | skip)
   have H' := Aside0.mk H
   clear H
   go_wp2
   go_meet
   case rel => exact ⟨_, (true), (by first | rfl | (simp; done) | (simp [*]; done)), H', ⟨by first | omega | exact Nat.le_refl _⟩, ⟨by repeat (first | (with_reducible first | exact HB.out | apply below_alloc | apply pw_below_drewN | apply below_drew1) | exact HB.out)⟩⟩
  ·rw [if_neg c3] at H
   have c3b0 : decide (a0 < 3) = false := decide_eq_false c3
   clear c3
   (first | rw [c3b0] | (simp only [i64_w, i32_w]; rw [c3b0]) | skip)
   have H' := Aside0.mk H
   clear H
   go_wp2
   go_meet
   case rel => exact ⟨_, (decide (a0 > 258)), (by first | rfl | (simp; done) | (simp [*]; done)), H', ⟨by first | omega | exact Nat.le_refl _⟩, ⟨by repeat (first | (with_reducible first | exact HB.out | apply below_alloc | apply pw_below_drewN | apply below_drew1) | exact HB.out)⟩⟩
 case rest =>
  clear HC2
  try clear p2
  try clear c3
  try clear c3b0
  obtain ⟨kq, x6_1, rfl, HA, HJ1, HB⟩ := hcut
  cases kq with
  | zero => exact absurd HA.out (by simp [sym_Len.j0])
  | succ kj1 =>
   have H := HA.out
   clear HA
   simp only [sym_Len.j0] at H
   by_cases c4 : x6_1 = true
   ·subst c4
    have H1 : (some (0, 0, 0, 1)) = some (r1, r2, r3, r4) := by rw [if_pos rfl] at H; exact H
    clear H
    have H := H1
    clear H1
    simp only [Option.some.injEq, Prod.mk.injEq] at H
    obtain ⟨rfl, rfl, rfl, rfl⟩ := H
    go_wp2
    refine bodyPost_ret (results_list (rs := [.tmp 2, .tmp 3, .tmp 4, .tmp 5]) rfl (by simp) (.tmp (.tmp (.tmp (.tmp .nil))))) rfl ?_
    exact ⟨by first | rfl | (simp [errW_none, errW_some] <;> rfl) | (simp [*, errW_none, errW_some] <;> rfl), by repeat (first | (with_reducible first | exact HB.out | apply below_alloc | apply pw_below_drewN | apply below_drew1) | exact HB.out)⟩
   ·replace c4 := Bool.eq_false_iff.mpr c4
    subst c4
    have H1 : (if a0 = 258 then (some (285, 0, 0, 0)) else ((sym_lens.f).bind fun bt110 => ((sym_scale_at.f kj1 bt110.1 bt110.2 (wrap64 (a0 - 3))).bind fun bt112 => (some (wrap64 (257 + bt112.1), bt112.2.1, bt112.2.2, 0))))) = some (r1, r2, r3, r4) := by rw [if_neg (show ¬ (false = true) by decide)] at H; exact H
    clear H
    have H := H1
    clear H1
    by_cases c5 : a0 = 258
    ·rw [if_pos c5] at H
     have c5b0 : (a0 == 258) = true := beq_iff_eq.mpr c5
     have c5b1 : (a0 != 258) = false := bne_eq_false_iff_eq.mpr c5
     clear c5
     simp only [Option.some.injEq, Prod.mk.injEq] at H
     obtain ⟨rfl, rfl, rfl, rfl⟩ := H
     go_wp2
     refine bodyPost_ret (results_list (rs := [.tmp 2, .tmp 3, .tmp 4, .tmp 5]) rfl (by simp) (.tmp (.tmp (.tmp (.tmp .nil))))) rfl ?_
     exact ⟨by first | rfl | (simp [errW_none, errW_some] <;> rfl) | (simp [*, errW_none, errW_some] <;> rfl), by repeat (first | (with_reducible first | exact HB.out | apply below_alloc | apply pw_below_drewN | apply below_drew1) | exact HB.out)⟩
    ·rw [if_neg c5] at H
     have c5b0 : (a0 == 258) = false := beq_eq_false_iff_ne.mpr c5
     have c5b1 : (a0 != 258) = true := bne_iff_ne.mpr c5
     replace H := Option.bind_eq_some_iff.mp H
     obtain ⟨⟨t110, t111⟩, A60, H⟩ := H
     replace H : ((sym_scale_at.f kj1 t110 t111 (wrap64 (a0 - 3))).bind fun bt112 => (some (wrap64 (257 + bt112.1), bt112.2.1, bt112.2.2, 0))) = some (r1, r2, r3, r4) := H
     have A6 := Aside0.mk A60
     clear A60
     replace H := Option.bind_eq_some_iff.mp H
     obtain ⟨⟨t112, t113, t114⟩, A70, H⟩ := H
     replace H : (some (wrap64 (257 + t112), t113, t114, 0)) = some (r1, r2, r3, r4) := H
     have A7 := Aside0.mk A70
     clear A70
     simp only [Option.some.injEq, Prod.mk.injEq] at H
     obtain ⟨rfl, rfl, rfl, rfl⟩ := H
     go_wp2_with (first | ((with_reducible refine gate_callee (f := 102) rfl ?_); refine goesL_ (some 17) rfl rfl Try.func102 (by kernel_rfl) rfl #[] rfl (by (try simp only [List.map_toArray, List.map_cons, List.map_nil]); first | done | rfl | (simp only [List.length_drop, List.length_take]; rfl)) ?_; (with_reducible refine (sym_lens.calls  t110 t111 _ A6.out).mono ?_); rintro e w8 ⟨rfl, hb⟩; refine ⟨_, rfl, ?_⟩; have n0_ := Aside0.mk (below_step (by repeat (first | (with_reducible first | exact HB.out | apply below_alloc | apply pw_below_drewN | apply below_drew1) | exact HB.out)) hb); clear HB; have HB := n0_; clear n0_; (try clear hb); (try clear hb2); (try clear hk); (try clear hi)) | ((with_reducible refine gate_callee (f := 103) rfl ?_); refine goesL_ (some 20) rfl rfl Try.func103 (by kernel_rfl) rfl #[.agg #[.int .i64 t110, .int .i64 t111], .int .i64 (wrap64 (a0 - 3))] rfl (by (try simp only [List.map_toArray, List.map_cons, List.map_nil]); first | done | rfl | (simp only [List.length_drop, List.length_take]; rfl)) ?_; (with_reducible refine (sym_scale_at.calls kj1 t110 t111 (wrap64 (a0 - 3)) t112 t113 t114 _ A7.out).mono ?_); rintro e w9 ⟨rfl, hb⟩; refine ⟨_, rfl, ?_⟩; have n0_ := Aside0.mk (below_step (by repeat (first | (with_reducible first | exact HB.out | apply below_alloc | apply pw_below_drewN | apply below_drew1) | exact HB.out)) hb); clear HB; have HB := n0_; clear n0_; (try clear hb); (try clear hb2); (try clear hk); (try clear hi)))
     refine bodyPost_ret (results_list (rs := [.tmp 2, .tmp 3, .tmp 4, .tmp 5]) rfl (by simp) (.tmp (.tmp (.tmp (.tmp .nil))))) rfl ?_
     exact ⟨by first | rfl | (simp [errW_none, errW_some] <;> rfl) | (simp [*, errW_none, errW_some] <;> rfl), by repeat (first | (with_reducible first | exact HB.out | apply below_alloc | apply pw_below_drewN | apply below_drew1) | exact HB.out)⟩

/-! ### sym_dists: function 104 -/
def sym_dists.f  : Option (Int × Int) := some (4, 2)
set_option maxHeartbeats 8000000 in
set_option maxRecDepth 100000 in
theorem sym_dists.calls  (r1 : Int) (r2 : Int) (w : World) (h : sym_dists.f  = some (r1, r2)) :
  Calls Try.prog 104 #[] w fun e w' => e = .returned (.agg #[.int .i64 r1, .int .i64 r2]) ∧ Below w.heap.size w w' := by
 have hu127 := Try.underlying127
 have HB := Aside0.mk (Below.refl w.heap.size w)
 have H : (some (4, 2)) = some (r1, r2) := h
 clear h
 simp only [Option.some.injEq, Prod.mk.injEq] at H
 obtain ⟨rfl, rfl⟩ := H
 go_enter Try.func104, Try.ntmps104
 go_wp2_with (first | ((with_reducible refine gate_dst (N := 0) rfl ?_); refine box_event ?hg (N := 0) ?hd (cs := #[.int .i64 0, .int .i64 0]) (t := 127) ?hr ?_; (case hd => rfl); (case hg => rfl); (case hr => first | (go_simp; done) | (go_simp; rfl)); intro gb115 hg w1 hbox hb; have n0_ := Aside0.mk (below_step (by repeat (first | (with_reducible first | exact HB.out | apply below_alloc | apply pw_below_drewN | apply below_drew1) | exact HB.out)) hb); have n1_ := Aside0.mk (hbox); have n2_ := Aside0.mk ((by rw [hg]; exact (below_size (by repeat (first | (with_reducible first | exact HB.out | apply below_alloc | apply pw_below_drewN | apply below_drew1) | exact HB.out))) : w.heap.size ≤ gb115)); have n3_ := Aside0.mk ((by rw [hg]; exact (below_size (by repeat (first | (with_reducible first | exact HB.out | apply below_alloc | apply pw_below_drewN | apply below_drew1) | exact HB.out))) : w.heap.size ≤ gb115)); clear HB; have HB := n0_; have BK115 := n1_; have GW115 := n2_; have GE115 := n3_; clear n0_ n1_ n2_ n3_; clear hb hbox hg; have hcz2_0 : w1.cell? ⟨gb115, 0, none⟩ = some (.int .i64 0) := (blk_cell BK115.out 0).trans rfl; have hcz2_1 : w1.cell? ⟨gb115, 1, none⟩ = some (.int .i64 0) := (blk_cell BK115.out 1).trans rfl; have hfz2_0 := blk_frozen BK115.out 0; have hfz2_1 := blk_frozen BK115.out 1))
 refine bodyPost_ret (results_cell_row rfl _ _ gb115 127 #[.int .i64 4, .int .i64 2] (0, 0) _ rfl (by (with_reducible repeat (first | refine blk_drewN ?_ _ | refine blk_drew ?_ | refine blk_alloc ?_ _)); refine blk_put (cs := #[.int .i64 4, .int .i64 0]) ?_ 1 _ rfl; (with_reducible repeat (first | refine blk_drewN ?_ _ | refine blk_drew ?_ | refine blk_alloc ?_ _)); refine blk_put (cs := #[.int .i64 0, .int .i64 0]) ?_ 0 _ rfl; (with_reducible repeat (first | refine blk_drewN ?_ _ | refine blk_drew ?_ | refine blk_alloc ?_ _)); exact BK115.out) Try.underlying127 rfl (by kernel_rfl)) rfl ?_
 exact ⟨by first | rfl | (simp [errW_none, errW_some] <;> rfl) | (simp [*, errW_none, errW_some] <;> rfl), by repeat (first | (with_reducible first | exact HB.out | apply below_alloc | apply pw_below_drewN | apply below_drew1 | refine below_set ?_ GE115.out) | exact HB.out)⟩

/-! ### sym_Dist: function 87 -/
def sym_Dist.j0 : Nat → Int → Bool → Option (Int × Int × Int × Int)
 | 0, _, _ => none
 | k + 1, x0, x11 => if x11 = true then (some (0, 0, 0, 1)) else ((sym_dists.f).bind fun bt116 => ((sym_scale_at.f k bt116.1 bt116.2 (wrap64 (x0 - 1))).bind fun bt118 => (some (bt118.1, bt118.2.1, bt118.2.2, 0))))
def sym_Dist.f (k : Nat) (a0 : Int) : Option (Int × Int × Int × Int) := if a0 < 1 then (sym_Dist.j0 k a0 true) else (sym_Dist.j0 k a0 (decide (a0 > 32768)))
set_option maxHeartbeats 8000000 in
set_option maxRecDepth 100000 in
theorem sym_Dist.calls (k : Nat) (a0 : Int) (r1 : Int) (r2 : Int) (r3 : Int) (r4 : Int) (w : World) (h : sym_Dist.f k a0 = some (r1, r2, r3, r4)) :
  Calls Try.prog 87 #[.int .i64 a0] w fun e w' => e = .returned (.tuple #[.int .i64 r1, .int .i64 r2, .int .i64 r3, .int .i64 r4]) ∧ Below w.heap.size w w' := by
 have HB := Aside0.mk (Below.refl w.heap.size w)
 have H : (if a0 < 1 then (sym_Dist.j0 k a0 true) else (sym_Dist.j0 k a0 (decide (a0 > 32768)))) = some (r1, r2, r3, r4) := h
 clear h
 have HC2 := Aside0.mk H
 clear H
 go_enter Try.func87, Try.ntmps87
 go_upto_region 1 with (fail)
 go_cut [11] (fun v11 wc => ∃ (kq : Nat) (x11_1 : Bool), v11 = .bool x11_1 ∧ Aside0 (sym_Dist.j0 kq a0 x11_1 = some (r1, r2, r3, r4)) ∧ Aside0 (kq ≤ k) ∧ Aside0 (Below w.heap.size w wc))
 case first =>
  have H := HC2.out
  clear HC2
  by_cases c3 : a0 < 1
  ·rw [if_pos c3] at H
   have c3b0 : decide (a0 < 1) = true := decide_eq_true c3
   clear c3
   (first | rw [c3b0] | (simp only [i64_w, i32_w]; rw [c3b0]) | skip)
   have H' := Aside0.mk H
   clear H
   go_wp2
   go_meet
   case rel => exact ⟨_, (true), (by first | rfl | (simp; done) | (simp [*]; done)), H', ⟨by first | omega | exact Nat.le_refl _⟩, ⟨by repeat (first | (with_reducible first | exact HB.out | apply below_alloc | apply pw_below_drewN | apply below_drew1) | exact HB.out)⟩⟩
  ·rw [if_neg c3] at H
   have c3b0 : decide (a0 < 1) = false := decide_eq_false c3
   clear c3
   (first | rw [c3b0] | (simp only [i64_w, i32_w]; rw [c3b0]) | skip)
   have H' := Aside0.mk H
   clear H
   go_wp2
   go_meet
   case rel => exact ⟨_, (decide (a0 > 32768)), (by first | rfl | (simp; done) | (simp [*]; done)), H', ⟨by first | omega | exact Nat.le_refl _⟩, ⟨by repeat (first | (with_reducible first | exact HB.out | apply below_alloc | apply pw_below_drewN | apply below_drew1) | exact HB.out)⟩⟩
 case rest =>
  clear HC2
  try clear p2
  try clear c3
  try clear c3b0
  obtain ⟨kq, x11_1, rfl, HA, HJ1, HB⟩ := hcut
  cases kq with
  | zero => exact absurd HA.out (by simp [sym_Dist.j0])
  | succ kj1 =>
   have H := HA.out
   clear HA
   simp only [sym_Dist.j0] at H
   by_cases c4 : x11_1 = true
   ·subst c4
    have H1 : (some (0, 0, 0, 1)) = some (r1, r2, r3, r4) := by rw [if_pos rfl] at H; exact H
    clear H
    have H := H1
    clear H1
    simp only [Option.some.injEq, Prod.mk.injEq] at H
    obtain ⟨rfl, rfl, rfl, rfl⟩ := H
    go_wp2
    refine bodyPost_ret (results_list (rs := [.tmp 2, .tmp 3, .tmp 4, .tmp 5]) rfl (by simp) (.tmp (.tmp (.tmp (.tmp .nil))))) rfl ?_
    exact ⟨by first | rfl | (simp [errW_none, errW_some] <;> rfl) | (simp [*, errW_none, errW_some] <;> rfl), by repeat (first | (with_reducible first | exact HB.out | apply below_alloc | apply pw_below_drewN | apply below_drew1) | exact HB.out)⟩
   ·replace c4 := Bool.eq_false_iff.mpr c4
    subst c4
    have H1 : ((sym_dists.f).bind fun bt116 => ((sym_scale_at.f kj1 bt116.1 bt116.2 (wrap64 (a0 - 1))).bind fun bt118 => (some (bt118.1, bt118.2.1, bt118.2.2, 0)))) = some (r1, r2, r3, r4) := by rw [if_neg (show ¬ (false = true) by decide)] at H; exact H
    clear H
    have H := H1
    clear H1
    replace H := Option.bind_eq_some_iff.mp H
    obtain ⟨⟨t116, t117⟩, A50, H⟩ := H
    replace H : ((sym_scale_at.f kj1 t116 t117 (wrap64 (a0 - 1))).bind fun bt118 => (some (bt118.1, bt118.2.1, bt118.2.2, 0))) = some (r1, r2, r3, r4) := H
    have A5 := Aside0.mk A50
    clear A50
    replace H := Option.bind_eq_some_iff.mp H
    obtain ⟨⟨t118, t119, t120⟩, A60, H⟩ := H
    replace H : (some (t118, t119, t120, 0)) = some (r1, r2, r3, r4) := H
    have A6 := Aside0.mk A60
    clear A60
    simp only [Option.some.injEq, Prod.mk.injEq] at H
    obtain ⟨rfl, rfl, rfl, rfl⟩ := H
    go_wp2_with (first | ((with_reducible refine gate_callee (f := 104) rfl ?_); refine goesL_ (some 13) rfl rfl Try.func104 (by kernel_rfl) rfl #[] rfl (by (try simp only [List.map_toArray, List.map_cons, List.map_nil]); first | done | rfl | (simp only [List.length_drop, List.length_take]; rfl)) ?_; (with_reducible refine (sym_dists.calls  t116 t117 _ A5.out).mono ?_); rintro e w7 ⟨rfl, hb⟩; refine ⟨_, rfl, ?_⟩; have n0_ := Aside0.mk (below_step (by repeat (first | (with_reducible first | exact HB.out | apply below_alloc | apply pw_below_drewN | apply below_drew1) | exact HB.out)) hb); clear HB; have HB := n0_; clear n0_; (try clear hb); (try clear hb2); (try clear hk); (try clear hi)) | ((with_reducible refine gate_callee (f := 103) rfl ?_); refine goesL_ (some 16) rfl rfl Try.func103 (by kernel_rfl) rfl #[.agg #[.int .i64 t116, .int .i64 t117], .int .i64 (wrap64 (a0 - 1))] rfl (by (try simp only [List.map_toArray, List.map_cons, List.map_nil]); first | done | rfl | (simp only [List.length_drop, List.length_take]; rfl)) ?_; (with_reducible refine (sym_scale_at.calls kj1 t116 t117 (wrap64 (a0 - 1)) t118 t119 t120 _ A6.out).mono ?_); rintro e w8 ⟨rfl, hb⟩; refine ⟨_, rfl, ?_⟩; have n0_ := Aside0.mk (below_step (by repeat (first | (with_reducible first | exact HB.out | apply below_alloc | apply pw_below_drewN | apply below_drew1) | exact HB.out)) hb); clear HB; have HB := n0_; clear n0_; (try clear hb); (try clear hb2); (try clear hk); (try clear hi)))
    refine bodyPost_ret (results_list (rs := [.tmp 2, .tmp 3, .tmp 4, .tmp 5]) rfl (by simp) (.tmp (.tmp (.tmp (.tmp .nil))))) rfl ?_
    exact ⟨by first | rfl | (simp [errW_none, errW_some] <;> rfl) | (simp [*, errW_none, errW_some] <;> rfl), by repeat (first | (with_reducible first | exact HB.out | apply below_alloc | apply pw_below_drewN | apply below_drew1) | exact HB.out)⟩

/-! ### match_size: function 105 -/
mutual
def match_size.l0 : Nat → Int → List (S53) → Int → Int → Option (Int × Bool)
 | 0, _, _, _, _ => none
 | k + 1, x4, x7, x8, x9 => if x9 < x8 then (if 0 ≤ x9 then (if x9 < (x7.length : Int) then (if ((rd_T53 x7 x9).f1) = 0 then (match_size.j1 k x4 x7 x8 x9 (((rd_T53 x7 x9).f2) == 0) ((rd_T53 x7 x9).f0) ((rd_T53 x7 x9).f1) ((rd_T53 x7 x9).f2)) else (match_size.j1 k x4 x7 x8 x9 false ((rd_T53 x7 x9).f0) ((rd_T53 x7 x9).f1) ((rd_T53 x7 x9).f2))) else (none)) else (none)) else (some (x4, true))
def match_size.j1 : Nat → Int → List (S53) → Int → Int → Bool → Int → Int → Int → Option (Int × Bool)
 | 0, _, _, _, _, _, _, _, _ => none
 | k + 1, x4, x7, x8, x9, x17, x123000, x123001, x123002 => if x17 = true then (match_size.l0 k (wrap64 (x4 + 1)) x7 x8 (wrap64 (x9 + 1))) else (if x123000 = 0 then (if x123001 < 3 then (some (0, false)) else (if x123001 > 258 then (some (0, false)) else (if x123002 < 1 then (some (0, false)) else (if x123002 > (mn x4 2048) then (some (0, false)) else (match_size.l0 k (wrap64 (x4 + x123001)) x7 x8 (wrap64 (x9 + 1))))))) else (some (0, false)))
end
def match_size.f (k : Nat) (l0 : List (S53)) : Option (Int × Bool) := match_size.l0 k 0 l0 (l0.length : Int) 0
set_option maxHeartbeats 8000000 in
set_option maxRecDepth 100000 in
theorem match_size.calls (k : Nat) (A0 : Option Addr) (c0 : Nat) (l0 : List (S53)) (r1 : Int) (r2 : Bool) (w : World) (hr0 : Kd.C k53 w A0 l0.length l0) (hc0 : l0.length ≤ c0) (h : match_size.f k l0 = some (r1, r2)) :
  Calls Try.prog 105 #[.slice A0 l0.length c0] w fun e w' => e = .returned (.tuple #[.int .i64 r1, .bool r2]) ∧ Below w.heap.size w w' := by
 have hu53 := Try.underlying53
 have HR0 := Aside0.mk hr0
 have HC0 := Aside0.mk hc0
 clear hr0 hc0
 have HB := Aside0.mk (Below.refl w.heap.size w)
 have H : (match_size.l0 k 0 l0 (l0.length : Int) 0) = some (r1, r2) := h
 clear h
 have H' := Aside0.mk H
 clear H
 go_enter Try.func105, Try.ntmps105
 go_wp2
 go_loopg [4, 9] k (fun kq v4 v9 w' => ∃ (x4_1 : Int) (x9_1 : Int), v4 = .int .i64 x4_1 ∧ v9 = .int .i64 x9_1 ∧ Aside0 (match_size.l0 kq x4_1 l0 (l0.length : Int) x9_1 = some (r1, r2)) ∧ Aside0 (kq ≤ k) ∧ Aside0 (Below w.heap.size w w'))
 case atStart => exact ⟨(0), (0), (by first | rfl | (simp; done) | (simp [*]; done)), (by first | rfl | (simp; done) | (simp [*]; done)), H', ⟨Nat.le_refl _⟩, ⟨by repeat (first | (with_reducible first | exact HB.out | apply below_alloc | apply pw_below_drewN | apply below_drew1) | exact HB.out)⟩⟩
 case round =>
  clear H'
  try clear c1
  obtain ⟨x4_1, x9_1, rfl, rfl, HA, HK1, HB⟩ := hrel
  cases gk with
  | zero => exact absurd HA.out (by simp [match_size.l0])
  | succ k1 =>
   have H := HA.out
   clear HA
   simp only [match_size.l0] at H
   by_cases c2 : x9_1 < (l0.length : Int)
   ·rw [if_pos c2] at H
    have c2b0 : decide (x9_1 < (l0.length : Int)) = true := decide_eq_true c2
    clear c2
    by_cases c3 : 0 ≤ x9_1
    ·rw [if_pos c3] at H
     have c3b0 : decide (0 ≤ x9_1) = true := decide_eq_true c3
     clear c3
     by_cases c4 : x9_1 < (l0.length : Int)
     ·rw [if_pos c4] at H
      have c4b0 : decide (x9_1 < (l0.length : Int)) = true := decide_eq_true c4
      clear c4
      have HC5 := Aside0.mk H
      clear H
      have p121 : 0 ≤ (x9_1 : Int) := of_decide_eq_true (by first | (with_reducible assumption) | assumption)
      have q121 : x9_1 < (l0.length : Int) := of_decide_eq_true (by first | (with_reducible assumption) | assumption)
      obtain ⟨ad121, e121, hx121_0, hx121_1, hx121_2⟩ := at_T53 HR0.out x9_1 p121 q121
      cases e121
      replace hx121_0 := (HB.out.cell (World.block_lt_of_cell? w _ hx121_0)).trans hx121_0
      replace hx121_1 := (HB.out.cell (World.block_lt_of_cell? w _ hx121_1)).trans hx121_1
      replace hx121_2 := (HB.out.cell (World.block_lt_of_cell? w _ hx121_2)).trans hx121_2
      replace p121 := eq_true p121
      replace q121 := eq_true q121
      go_upto_region 6 with (first | ((with_reducible refine gate_dst (N := 6) rfl ?_); (try (refine gate_guard (by rfl) ?_; dsimp only)); refine box_event ?hg (N := 6) ?hd (cs := #[.int .u8 0, .int .i64 0, .int .i64 0]) (t := 53) ?hr ?_; (case hd => rfl); (case hg => rfl); (case hr => first | (go_simp; done) | (go_simp; rfl)); intro gb122 hg w6 hbox hb; have n0_ := Aside0.mk (below_step (by repeat (first | (with_reducible first | exact HB.out | apply below_alloc | apply pw_below_drewN | apply below_drew1) | exact HB.out)) hb); have n1_ := Aside0.mk (hbox); have n2_ := Aside0.mk ((by rw [hg]; exact (below_size (by repeat (first | (with_reducible first | exact HB.out | apply below_alloc | apply pw_below_drewN | apply below_drew1) | exact HB.out))) : w.heap.size ≤ gb122)); have n3_ := Aside0.mk ((by rw [hg]; exact (below_size (by repeat (first | (with_reducible first | exact HB.out | apply below_alloc | apply pw_below_drewN | apply below_drew1) | exact HB.out))) : w.heap.size ≤ gb122)); clear HB; have HB := n0_; have BK122 := n1_; have GW122 := n2_; have GE122 := n3_; clear n0_ n1_ n2_ n3_; clear hb hbox hg; have hcz7_0 : w6.cell? ⟨gb122, 0, none⟩ = some (.int .u8 0) := (blk_cell BK122.out 0).trans rfl; have hcz7_1 : w6.cell? ⟨gb122, 1, none⟩ = some (.int .i64 0) := (blk_cell BK122.out 1).trans rfl; have hcz7_2 : w6.cell? ⟨gb122, 2, none⟩ = some (.int .i64 0) := (blk_cell BK122.out 2).trans rfl; have hfz7_0 := blk_frozen BK122.out 0; have hfz7_1 := blk_frozen BK122.out 1; have hfz7_2 := blk_frozen BK122.out 2))
      (try simp only [Act.put, setIfInBounds_toArray, set_cons_zero, set_cons_succ])
      go_cut [17] (fun v17 wc => ∃ (kq : Nat) (x17_4 : Bool), v17 = .bool x17_4 ∧ Aside0 (match_size.j1 kq x4_1 l0 (l0.length : Int) x9_1 x17_4 ((rd_T53 l0 x9_1).f0) ((rd_T53 l0 x9_1).f1) ((rd_T53 l0 x9_1).f2) = some (r1, r2)) ∧ Aside0 (kq ≤ k1) ∧ Aside0 (wc.heap[gb122]? = some (.cells #[.int .u8 ((rd_T53 l0 x9_1).f0), .int .i64 ((rd_T53 l0 x9_1).f1), .int .i64 ((rd_T53 l0 x9_1).f2)] 53 (0, 0))) ∧ Aside0 (Below w.heap.size w wc))
      case first =>
       have H := HC5.out
       clear HC5
       by_cases c8 : ((rd_T53 l0 x9_1).f1) = 0
       ·rw [if_pos c8] at H
        have c8b0 : (((rd_T53 l0 x9_1).f1) == 0) = true := beq_iff_eq.mpr c8
        have c8b1 : (((rd_T53 l0 x9_1).f1) != 0) = false := bne_eq_false_iff_eq.mpr c8
        clear c8
        (first | rw [c8b0] | (simp only [i64_w, i32_w]; rw [c8b0]) | skip)
        have H' := Aside0.mk H
        clear H
        have hcz9_0 : w6.cell? ⟨gb122, 0, none⟩ = some (.int .u8 0) := (blk_cell BK122.out 0).trans rfl
        have hcz9_1 : w6.cell? ⟨gb122, 1, none⟩ = some (.int .i64 0) := (blk_cell BK122.out 1).trans rfl
        have hcz9_2 : w6.cell? ⟨gb122, 2, none⟩ = some (.int .i64 0) := (blk_cell BK122.out 2).trans rfl
        have hfz9_0 := blk_frozen BK122.out 0
        have hfz9_1 := blk_frozen BK122.out 1
        have hfz9_2 := blk_frozen BK122.out 2
        go_wp2
        go_meet
        case rel => exact ⟨_, ((((rd_T53 l0 x9_1).f2) == 0)), (by first | rfl | (simp; done) | (simp [*]; done)), H', ⟨by have := HK1.out; first | omega | exact Nat.le_refl _⟩, ⟨by (with_reducible repeat (first | refine blk_drewN ?_ _ | refine blk_drew ?_ | refine blk_alloc ?_ _)); refine blk_put (cs := #[.int .u8 ((rd_T53 l0 x9_1).f0), .int .i64 ((rd_T53 l0 x9_1).f1), .int .i64 0]) ?_ 2 _ rfl; (with_reducible repeat (first | refine blk_drewN ?_ _ | refine blk_drew ?_ | refine blk_alloc ?_ _)); refine blk_put (cs := #[.int .u8 ((rd_T53 l0 x9_1).f0), .int .i64 0, .int .i64 0]) ?_ 1 _ rfl; (with_reducible repeat (first | refine blk_drewN ?_ _ | refine blk_drew ?_ | refine blk_alloc ?_ _)); refine blk_put (cs := #[.int .u8 0, .int .i64 0, .int .i64 0]) ?_ 0 _ rfl; (with_reducible repeat (first | refine blk_drewN ?_ _ | refine blk_drew ?_ | refine blk_alloc ?_ _)); exact BK122.out⟩, ⟨by repeat (first | (with_reducible first | exact HB.out | apply below_alloc | apply pw_below_drewN | apply below_drew1 | refine below_set ?_ GE122.out) | exact HB.out)⟩⟩
       ·rw [if_neg c8] at H
        have c8b0 : (((rd_T53 l0 x9_1).f1) == 0) = false := beq_eq_false_iff_ne.mpr c8
        have c8b1 : (((rd_T53 l0 x9_1).f1) != 0) = true := bne_iff_ne.mpr c8
        (first | rw [c8b0] | (simp only [i64_w, i32_w]; rw [c8b0]) | skip)
        have H' := Aside0.mk H
        clear H
        have hcz10_0 : w6.cell? ⟨gb122, 0, none⟩ = some (.int .u8 0) := (blk_cell BK122.out 0).trans rfl
        have hcz10_1 : w6.cell? ⟨gb122, 1, none⟩ = some (.int .i64 0) := (blk_cell BK122.out 1).trans rfl
        have hcz10_2 : w6.cell? ⟨gb122, 2, none⟩ = some (.int .i64 0) := (blk_cell BK122.out 2).trans rfl
        have hfz10_0 := blk_frozen BK122.out 0
        have hfz10_1 := blk_frozen BK122.out 1
        have hfz10_2 := blk_frozen BK122.out 2
        go_wp2
        go_meet
        case rel => exact ⟨_, (false), (by first | rfl | (simp; done) | (simp [*]; done)), H', ⟨by have := HK1.out; first | omega | exact Nat.le_refl _⟩, ⟨by (with_reducible repeat (first | refine blk_drewN ?_ _ | refine blk_drew ?_ | refine blk_alloc ?_ _)); refine blk_put (cs := #[.int .u8 ((rd_T53 l0 x9_1).f0), .int .i64 ((rd_T53 l0 x9_1).f1), .int .i64 0]) ?_ 2 _ rfl; (with_reducible repeat (first | refine blk_drewN ?_ _ | refine blk_drew ?_ | refine blk_alloc ?_ _)); refine blk_put (cs := #[.int .u8 ((rd_T53 l0 x9_1).f0), .int .i64 0, .int .i64 0]) ?_ 1 _ rfl; (with_reducible repeat (first | refine blk_drewN ?_ _ | refine blk_drew ?_ | refine blk_alloc ?_ _)); refine blk_put (cs := #[.int .u8 0, .int .i64 0, .int .i64 0]) ?_ 0 _ rfl; (with_reducible repeat (first | refine blk_drewN ?_ _ | refine blk_drew ?_ | refine blk_alloc ?_ _)); exact BK122.out⟩, ⟨by repeat (first | (with_reducible first | exact HB.out | apply below_alloc | apply pw_below_drewN | apply below_drew1 | refine below_set ?_ GE122.out) | exact HB.out)⟩⟩
      case rest =>
       clear HC5
       try clear c1
       try clear p1
       try clear q1
       try clear hx1
       try clear c2
       try clear c2b0
       try clear p2
       try clear c3
       try clear c3b0
       try clear c4
       try clear c4b0
       try clear c8
       try clear c8b0
       try clear c8b1
       try clear c10
       try clear hcz10_0
       try clear hcz10_1
       try clear hcz10_2
       try clear hcz7_0
       try clear hcz7_1
       try clear hcz7_2
       try clear hcz9_0
       try clear hcz9_1
       try clear hcz9_2
       try clear hfz10_0
       try clear hfz10_1
       try clear hfz10_2
       try clear hfz7_0
       try clear hfz7_1
       try clear hfz7_2
       try clear hfz9_0
       try clear hfz9_1
       try clear hfz9_2
       try clear hx121_0
       try clear hx121_1
       try clear hx121_2
       try clear p121
       try clear q121
       obtain ⟨kq, x17_4, rfl, HA, HJ4, BK122, HB⟩ := hcut
       cases kq with
       | zero => exact absurd HA.out (by simp [match_size.j1])
       | succ kj4 =>
        have H := HA.out
        clear HA
        simp only [match_size.j1] at H
        by_cases c11 : x17_4 = true
        ·subst c11
         have H1 : (match_size.l0 kj4 (wrap64 (x4_1 + 1)) l0 (l0.length : Int) (wrap64 (x9_1 + 1))) = some (r1, r2) := by rw [if_pos rfl] at H; exact H
         clear H
         have H := H1
         clear H1
         have H' := Aside0.mk H
         clear H
         go_wp2
         go_roundg kj4
         case measure => have := HK1.out; have := HJ4.out; omega
         case rel => exact ⟨(wrap64 (x4_1 + 1)), (wrap64 (x9_1 + 1)), (by first | rfl | (simp; done) | (simp [*]; done)), (by first | rfl | (simp; done) | (simp [*]; done)), H', ⟨by have := HK1.out; have := HJ4.out; omega⟩, ⟨by repeat (first | (with_reducible first | exact HB.out | apply below_alloc | apply pw_below_drewN | apply below_drew1 | refine below_set ?_ GE122.out) | exact HB.out)⟩⟩
        ·replace c11 := Bool.eq_false_iff.mpr c11
         subst c11
         have H1 : (if ((rd_T53 l0 x9_1).f0) = 0 then (if ((rd_T53 l0 x9_1).f1) < 3 then (some (0, false)) else (if ((rd_T53 l0 x9_1).f1) > 258 then (some (0, false)) else (if ((rd_T53 l0 x9_1).f2) < 1 then (some (0, false)) else (if ((rd_T53 l0 x9_1).f2) > (mn x4_1 2048) then (some (0, false)) else (match_size.l0 kj4 (wrap64 (x4_1 + ((rd_T53 l0 x9_1).f1))) l0 (l0.length : Int) (wrap64 (x9_1 + 1))))))) else (some (0, false))) = some (r1, r2) := by rw [if_neg (show ¬ (false = true) by decide)] at H; exact H
         clear H
         have H := H1
         clear H1
         by_cases c12 : ((rd_T53 l0 x9_1).f0) = 0
         ·rw [if_pos c12] at H
          have c12b0 : (((rd_T53 l0 x9_1).f0) == 0) = true := beq_iff_eq.mpr c12
          have c12b1 : (((rd_T53 l0 x9_1).f0) != 0) = false := bne_eq_false_iff_eq.mpr c12
          clear c12
          by_cases c13 : ((rd_T53 l0 x9_1).f1) < 3
          ·rw [if_pos c13] at H
           have c13b0 : decide (((rd_T53 l0 x9_1).f1) < 3) = true := decide_eq_true c13
           clear c13
           simp only [Option.some.injEq, Prod.mk.injEq] at H
           obtain ⟨rfl, rfl⟩ := H
           have hcz14_0 : wc.cell? ⟨gb122, 0, none⟩ = some (.int .u8 ((rd_T53 l0 x9_1).f0)) := (blk_cell BK122.out 0).trans rfl
           have hcz14_1 : wc.cell? ⟨gb122, 1, none⟩ = some (.int .i64 ((rd_T53 l0 x9_1).f1)) := (blk_cell BK122.out 1).trans rfl
           have hcz14_2 : wc.cell? ⟨gb122, 2, none⟩ = some (.int .i64 ((rd_T53 l0 x9_1).f2)) := (blk_cell BK122.out 2).trans rfl
           have hfz14_0 := blk_frozen BK122.out 0
           have hfz14_1 := blk_frozen BK122.out 1
           have hfz14_2 := blk_frozen BK122.out 2
           go_wp2
           go_ret2
           exact ⟨by first | rfl | (simp [errW_none, errW_some] <;> rfl) | (simp [*, errW_none, errW_some] <;> rfl), by repeat (first | (with_reducible first | exact HB.out | apply below_alloc | apply pw_below_drewN | apply below_drew1 | refine below_set ?_ GE122.out) | exact HB.out)⟩
          ·rw [if_neg c13] at H
           have c13b0 : decide (((rd_T53 l0 x9_1).f1) < 3) = false := decide_eq_false c13
           clear c13
           by_cases c15 : ((rd_T53 l0 x9_1).f1) > 258
           ·rw [if_pos c15] at H
            have c15b0 : decide (258 < ((rd_T53 l0 x9_1).f1)) = true := decide_eq_true c15
            clear c15
            simp only [Option.some.injEq, Prod.mk.injEq] at H
            obtain ⟨rfl, rfl⟩ := H
            have hcz16_0 : wc.cell? ⟨gb122, 0, none⟩ = some (.int .u8 ((rd_T53 l0 x9_1).f0)) := (blk_cell BK122.out 0).trans rfl
            have hcz16_1 : wc.cell? ⟨gb122, 1, none⟩ = some (.int .i64 ((rd_T53 l0 x9_1).f1)) := (blk_cell BK122.out 1).trans rfl
            have hcz16_2 : wc.cell? ⟨gb122, 2, none⟩ = some (.int .i64 ((rd_T53 l0 x9_1).f2)) := (blk_cell BK122.out 2).trans rfl
            have hfz16_0 := blk_frozen BK122.out 0
            have hfz16_1 := blk_frozen BK122.out 1
            have hfz16_2 := blk_frozen BK122.out 2
            go_wp2
            go_ret2
            exact ⟨by first | rfl | (simp [errW_none, errW_some] <;> rfl) | (simp [*, errW_none, errW_some] <;> rfl), by repeat (first | (with_reducible first | exact HB.out | apply below_alloc | apply pw_below_drewN | apply below_drew1 | refine below_set ?_ GE122.out) | exact HB.out)⟩
           ·rw [if_neg c15] at H
            have c15b0 : decide (258 < ((rd_T53 l0 x9_1).f1)) = false := decide_eq_false c15
            clear c15
            by_cases c17 : ((rd_T53 l0 x9_1).f2) < 1
            ·rw [if_pos c17] at H
             have c17b0 : decide (((rd_T53 l0 x9_1).f2) < 1) = true := decide_eq_true c17
             clear c17
             simp only [Option.some.injEq, Prod.mk.injEq] at H
             obtain ⟨rfl, rfl⟩ := H
             have hcz18_0 : wc.cell? ⟨gb122, 0, none⟩ = some (.int .u8 ((rd_T53 l0 x9_1).f0)) := (blk_cell BK122.out 0).trans rfl
             have hcz18_1 : wc.cell? ⟨gb122, 1, none⟩ = some (.int .i64 ((rd_T53 l0 x9_1).f1)) := (blk_cell BK122.out 1).trans rfl
             have hcz18_2 : wc.cell? ⟨gb122, 2, none⟩ = some (.int .i64 ((rd_T53 l0 x9_1).f2)) := (blk_cell BK122.out 2).trans rfl
             have hfz18_0 := blk_frozen BK122.out 0
             have hfz18_1 := blk_frozen BK122.out 1
             have hfz18_2 := blk_frozen BK122.out 2
             go_wp2
             go_ret2
             exact ⟨by first | rfl | (simp [errW_none, errW_some] <;> rfl) | (simp [*, errW_none, errW_some] <;> rfl), by repeat (first | (with_reducible first | exact HB.out | apply below_alloc | apply pw_below_drewN | apply below_drew1 | refine below_set ?_ GE122.out) | exact HB.out)⟩
            ·rw [if_neg c17] at H
             have c17b0 : decide (((rd_T53 l0 x9_1).f2) < 1) = false := decide_eq_false c17
             clear c17
             obtain ⟨ji19, hji19⟩ : ∃ j_ : Int, (mn x4_1 2048) = j_ := ⟨_, rfl⟩
             replace H : (if ((rd_T53 l0 x9_1).f2) > (ji19) then (some (0, false)) else (match_size.l0 kj4 (wrap64 (x4_1 + ((rd_T53 l0 x9_1).f1))) l0 (l0.length : Int) (wrap64 (x9_1 + 1)))) = some (r1, r2) := by first | (rw [hji19] at H; exact H) | (simp only [hji19] at H ⊢; exact H)
             have hji19_ : (if 2048 < x4_1 then 2048 else x4_1) = ji19 := hji19
             by_cases c20 : ((rd_T53 l0 x9_1).f2) > (ji19)
             ·rw [if_pos c20] at H
              have c20b0 : decide ((ji19) < ((rd_T53 l0 x9_1).f2)) = true := decide_eq_true c20
              clear c20
              simp only [Option.some.injEq, Prod.mk.injEq] at H
              obtain ⟨rfl, rfl⟩ := H
              have hcz21_0 : wc.cell? ⟨gb122, 0, none⟩ = some (.int .u8 ((rd_T53 l0 x9_1).f0)) := (blk_cell BK122.out 0).trans rfl
              have hcz21_1 : wc.cell? ⟨gb122, 1, none⟩ = some (.int .i64 ((rd_T53 l0 x9_1).f1)) := (blk_cell BK122.out 1).trans rfl
              have hcz21_2 : wc.cell? ⟨gb122, 2, none⟩ = some (.int .i64 ((rd_T53 l0 x9_1).f2)) := (blk_cell BK122.out 2).trans rfl
              have hfz21_0 := blk_frozen BK122.out 0
              have hfz21_1 := blk_frozen BK122.out 1
              have hfz21_2 := blk_frozen BK122.out 2
              go_wp2
              go_ret2
              exact ⟨by first | rfl | (simp [errW_none, errW_some] <;> rfl) | (simp only [← hji19]; first | rfl | (simp [errW_none, errW_some] <;> rfl)) | (simp [*, errW_none, errW_some] <;> rfl), by repeat (first | (with_reducible first | exact HB.out | apply below_alloc | apply pw_below_drewN | apply below_drew1 | refine below_set ?_ GE122.out) | exact HB.out)⟩
             ·rw [if_neg c20] at H
              have c20b0 : decide ((ji19) < ((rd_T53 l0 x9_1).f2)) = false := decide_eq_false c20
              clear c20
              have H' := Aside0.mk H
              clear H
              have hcz22_0 : wc.cell? ⟨gb122, 0, none⟩ = some (.int .u8 ((rd_T53 l0 x9_1).f0)) := (blk_cell BK122.out 0).trans rfl
              have hcz22_1 : wc.cell? ⟨gb122, 1, none⟩ = some (.int .i64 ((rd_T53 l0 x9_1).f1)) := (blk_cell BK122.out 1).trans rfl
              have hcz22_2 : wc.cell? ⟨gb122, 2, none⟩ = some (.int .i64 ((rd_T53 l0 x9_1).f2)) := (blk_cell BK122.out 2).trans rfl
              have hfz22_0 := blk_frozen BK122.out 0
              have hfz22_1 := blk_frozen BK122.out 1
              have hfz22_2 := blk_frozen BK122.out 2
              go_wp2
              go_roundg kj4
              case measure => have := HK1.out; have := HJ4.out; omega
              case rel => exact ⟨(wrap64 (x4_1 + ((rd_T53 l0 x9_1).f1))), (wrap64 (x9_1 + 1)), (by first | rfl | (simp; done) | (simp [*]; done)), (by first | rfl | (simp; done) | (simp [*]; done)), H', ⟨by have := HK1.out; have := HJ4.out; omega⟩, ⟨by repeat (first | (with_reducible first | exact HB.out | apply below_alloc | apply pw_below_drewN | apply below_drew1 | refine below_set ?_ GE122.out) | exact HB.out)⟩⟩
         ·rw [if_neg c12] at H
          have c12b0 : (((rd_T53 l0 x9_1).f0) == 0) = false := beq_eq_false_iff_ne.mpr c12
          have c12b1 : (((rd_T53 l0 x9_1).f0) != 0) = true := bne_iff_ne.mpr c12
          simp only [Option.some.injEq, Prod.mk.injEq] at H
          obtain ⟨rfl, rfl⟩ := H
          have hcz23_0 : wc.cell? ⟨gb122, 0, none⟩ = some (.int .u8 ((rd_T53 l0 x9_1).f0)) := (blk_cell BK122.out 0).trans rfl
          have hcz23_1 : wc.cell? ⟨gb122, 1, none⟩ = some (.int .i64 ((rd_T53 l0 x9_1).f1)) := (blk_cell BK122.out 1).trans rfl
          have hcz23_2 : wc.cell? ⟨gb122, 2, none⟩ = some (.int .i64 ((rd_T53 l0 x9_1).f2)) := (blk_cell BK122.out 2).trans rfl
          have hfz23_0 := blk_frozen BK122.out 0
          have hfz23_1 := blk_frozen BK122.out 1
          have hfz23_2 := blk_frozen BK122.out 2
          go_wp2
          go_ret2
          exact ⟨by first | rfl | (simp [errW_none, errW_some] <;> rfl) | (simp [*, errW_none, errW_some] <;> rfl), by repeat (first | (with_reducible first | exact HB.out | apply below_alloc | apply pw_below_drewN | apply below_drew1 | refine below_set ?_ GE122.out) | exact HB.out)⟩
     ·rw [if_neg c4] at H
      exact absurd H (by simp)
    ·rw [if_neg c3] at H
     exact absurd H (by simp)
   ·rw [if_neg c2] at H
    have c2b0 : decide (x9_1 < (l0.length : Int)) = false := decide_eq_false c2
    clear c2
    simp only [Option.some.injEq, Prod.mk.injEq] at H
    obtain ⟨rfl, rfl⟩ := H
    go_wp2
    go_ret2
    exact ⟨by first | rfl | (simp [errW_none, errW_some] <;> rfl) | (simp [*, errW_none, errW_some] <;> rfl), by repeat (first | (with_reducible first | exact HB.out | apply below_alloc | apply pw_below_drewN | apply below_drew1) | exact HB.out)⟩

/-! ### match_Check: function 88 -/
def match_Check.f (k : Nat) (l0 : List (S53)) : Option (Int) := (match_size.f k l0).bind fun bt123 => (if bt123.2 = true then (if bt123.1 > 4096 then (some 2) else (some 0)) else (some 1))
set_option maxHeartbeats 8000000 in
set_option maxRecDepth 100000 in
theorem match_Check.calls (k : Nat) (A0 : Option Addr) (c0 : Nat) (l0 : List (S53)) (r : Int) (w : World) (hr0 : Kd.C k53 w A0 l0.length l0) (hc0 : l0.length ≤ c0) (h : match_Check.f k l0 = some r) :
  Calls Try.prog 88 #[.slice A0 l0.length c0] w fun e w' => e = .returned (.int .i64 r) ∧ Below w.heap.size w w' := by
 have HR0 := Aside0.mk hr0
 have HC0 := Aside0.mk hc0
 clear hr0 hc0
 have HB := Aside0.mk (Below.refl w.heap.size w)
 have H : ((match_size.f k l0).bind fun bt123 => (if bt123.2 = true then (if bt123.1 > 4096 then (some 2) else (some 0)) else (some 1))) = some r := h
 clear h
 replace H := Option.bind_eq_some_iff.mp H
 obtain ⟨⟨t123, t124⟩, A20, H⟩ := H
 replace H : (if t124 = true then (if t123 > 4096 then (some 2) else (some 0)) else (some 1)) = some r := H
 have A2 := Aside0.mk A20
 clear A20
 by_cases c3 : t124 = true
 ·subst c3
  have H1 : (if t123 > 4096 then (some 2) else (some 0)) = some r := by rw [if_pos rfl] at H; exact H
  clear H
  have H := H1
  clear H1
  by_cases c4 : t123 > 4096
  ·rw [if_pos c4] at H
   have c4b0 : decide (4096 < t123) = true := decide_eq_true c4
   clear c4
   obtain rfl := Option.some.inj H
   go_enter Try.func88, Try.ntmps88
   go_wp2_with (first | ((with_reducible refine gate_callee (f := 105) rfl ?_); refine goesL_ (some 7) rfl rfl Try.func105 (by kernel_rfl) rfl #[.slice A0 l0.length c0] rfl (by (try simp only [List.map_toArray, List.map_cons, List.map_nil]); first | done | rfl | (simp only [List.length_drop, List.length_take]; rfl)) ?_; (with_reducible refine (match_size.calls k _ _ l0 t123 true _ ?side1 ?side2 A2.out).mono ?_); (case side1 => repeat (first | exact HR0.out | (with_reducible refine Kd.C_alloc ?_ _) | (with_reducible refine Kd.C_drewN ?_ _) | (with_reducible refine Kd.C_drew ?_))); (case side2 => exact HC0.out); rintro e w5 ⟨rfl, hb⟩; refine ⟨_, rfl, ?_⟩; have n0_ := Aside0.mk (below_step (by repeat (first | (with_reducible first | exact HB.out | apply below_alloc | apply pw_below_drewN | apply below_drew1) | exact HB.out)) hb); clear HB; have HB := n0_; clear n0_; (try clear hb); (try clear hb2); (try clear hk); (try clear hi)))
   go_ret
   exact ⟨by first | rfl | (simp [errW_none, errW_some] <;> rfl) | (simp [*, errW_none, errW_some] <;> rfl), by repeat (first | (with_reducible first | exact HB.out | apply below_alloc | apply pw_below_drewN | apply below_drew1) | exact HB.out)⟩
  ·rw [if_neg c4] at H
   have c4b0 : decide (4096 < t123) = false := decide_eq_false c4
   clear c4
   obtain rfl := Option.some.inj H
   go_enter Try.func88, Try.ntmps88
   go_wp2_with (first | ((with_reducible refine gate_callee (f := 105) rfl ?_); refine goesL_ (some 7) rfl rfl Try.func105 (by kernel_rfl) rfl #[.slice A0 l0.length c0] rfl (by (try simp only [List.map_toArray, List.map_cons, List.map_nil]); first | done | rfl | (simp only [List.length_drop, List.length_take]; rfl)) ?_; (with_reducible refine (match_size.calls k _ _ l0 t123 true _ ?side1 ?side2 A2.out).mono ?_); (case side1 => repeat (first | exact HR0.out | (with_reducible refine Kd.C_alloc ?_ _) | (with_reducible refine Kd.C_drewN ?_ _) | (with_reducible refine Kd.C_drew ?_))); (case side2 => exact HC0.out); rintro e w6 ⟨rfl, hb⟩; refine ⟨_, rfl, ?_⟩; have n0_ := Aside0.mk (below_step (by repeat (first | (with_reducible first | exact HB.out | apply below_alloc | apply pw_below_drewN | apply below_drew1) | exact HB.out)) hb); clear HB; have HB := n0_; clear n0_; (try clear hb); (try clear hb2); (try clear hk); (try clear hi)))
   go_ret
   exact ⟨by first | rfl | (simp [errW_none, errW_some] <;> rfl) | (simp [*, errW_none, errW_some] <;> rfl), by repeat (first | (with_reducible first | exact HB.out | apply below_alloc | apply pw_below_drewN | apply below_drew1) | exact HB.out)⟩
 ·replace c3 := Bool.eq_false_iff.mpr c3
  subst c3
  have H1 : (some 1) = some r := by rw [if_neg (show ¬ (false = true) by decide)] at H; exact H
  clear H
  have H := H1
  clear H1
  obtain rfl := Option.some.inj H
  go_enter Try.func88, Try.ntmps88
  go_wp2_with (first | ((with_reducible refine gate_callee (f := 105) rfl ?_); refine goesL_ (some 7) rfl rfl Try.func105 (by kernel_rfl) rfl #[.slice A0 l0.length c0] rfl (by (try simp only [List.map_toArray, List.map_cons, List.map_nil]); first | done | rfl | (simp only [List.length_drop, List.length_take]; rfl)) ?_; (with_reducible refine (match_size.calls k _ _ l0 t123 false _ ?side1 ?side2 A2.out).mono ?_); (case side1 => repeat (first | exact HR0.out | (with_reducible refine Kd.C_alloc ?_ _) | (with_reducible refine Kd.C_drewN ?_ _) | (with_reducible refine Kd.C_drew ?_))); (case side2 => exact HC0.out); rintro e w7 ⟨rfl, hb⟩; refine ⟨_, rfl, ?_⟩; have n0_ := Aside0.mk (below_step (by repeat (first | (with_reducible first | exact HB.out | apply below_alloc | apply pw_below_drewN | apply below_drew1) | exact HB.out)) hb); clear HB; have HB := n0_; clear n0_; (try clear hb); (try clear hb2); (try clear hk); (try clear hi)))
  go_ret
  exact ⟨by first | rfl | (simp [errW_none, errW_some] <;> rfl) | (simp [*, errW_none, errW_some] <;> rfl), by repeat (first | (with_reducible first | exact HB.out | apply below_alloc | apply pw_below_drewN | apply below_drew1) | exact HB.out)⟩

/-! ### sym_Weights: function 63 (by hand) -/
theorem litk_row (K : IntKind) (xs : List Int) {W : World} {g : Nat} {ty : TypeId} {z : Nat × Nat} {cs : Array Value} (hb : W.heap[g]? = some (.cells cs ty z)) (hc : cs = (xs.map (fun x => Value.int K x)).toArray) (hm : xs.length ≤ 1000) : Kd.C (Kd.int K) W (some ⟨g, 0, none⟩) xs.length xs := by
 refine ⟨rfl, by have : maxLen = maxLen := rfl; exact Nat.le_trans hm (by decide), fun _ => ⟨_, rfl, fun j p hp => ⟨[.int K p], rfl, rfl, fun i u hu => ?_⟩⟩⟩
 have hi : i = 0 := by
  rcases i with _ | i
  ·rfl
  ·simp at hu
 subst hi
 obtain rfl : Value.int K p = u := by simpa using hu
 have e : ((⟨g, 0, none⟩ : Addr).add (j * (Kd.int K).sz + 0)) = ⟨g, j, none⟩ := by
  simp [Addr.add, Kd.int, Kd.scalar]; omega
 show W.cell? ((⟨g, 0, none⟩ : Addr).add (j * (Kd.int K).sz + 0)) = _
 rw [e]
 simp only [World.cell?, hb]
 subst hc
 simp [hp]
theorem two_made {w0 W W1 W2 : World} {v v' : Value} {xs ys : List Int} (hB : Below w0.heap.size w0 W) (h1 : Kd.R (Kd.int .i64) 3 W1 W.heap.size (fun _ => True) v xs) (b1 : Below W.heap.size W W1) (h2 : Kd.R (Kd.int .i64) 3 W2 W1.heap.size (fun _ => True) v' ys) (b2 : Below W1.heap.size W1 W2) :
  Kd.R (Kd.int .i64) 3 W2 w0.heap.size (fun k => some k ≠ v'.ownBlock) v xs ∧ Kd.R (Kd.int .i64) 3 W2 w0.heap.size (fun k => some k ≠ v.ownBlock) v' ys ∧ Below w0.heap.size w0 W2 :=
 ⟨Kd.R_lower (Kd.R_mono (Kd.R_elder' h1 (Kd.R_base h2) b2) (fun _ hk => hk.2)) hB.size, Kd.R_lower (Kd.R_mono (Kd.R_new' h2 (Kd.R_lt h1)) (fun _ hk => hk.2)) (Nat.le_trans hB.size b1.size), below_then (below_then hB hB.size b1) (Nat.le_trans hB.size b1.size) b2⟩
section
variable {P : Program} {ops : Array Oper} {o : Oper} {a : Act} {Q : Exit → Act → World → Prop} {Kc : Act → World → Prop}
/-- A row of 0s is made, in a region that draws its order. -/
theorem make_step {W : World} {t : TypeId} {x y : Operand} {N : Tmp} (n : Nat) (hw : Region.wanted o (yielded ops a.tmps) = true) (hd : o.dst = some N) (ho : o.op = .makeSlice t x y) (hx : a.eval x = .int .i64 (n : Int)) (hy : a.eval y = .int .i64 (n : Int)) (ht : P.underlying t = some (.slice 3)) (hinfo : (P.info? 3).map (fun i => (i.zero, i.size, i.bytes)) = some (some (.int .i64 0), 1, 8)) (hl : n ≤ 1000000)
  (h : ∀ v1 w1, Kd.R (Kd.int .i64) 3 w1 W.heap.size (fun _ => True) v1 (List.replicate n 0) ∧ Below W.heap.size W w1 → Kc (a.put o.dst v1) w1) : if Region.wanted o (yielded ops a.tmps) = true then Oper.wp P o a W Kc Q else Kc (a.put o.dst undef) W :=
 Kd.R_make_step (Kd.int .i64) _ 3 hw hd t x y ho n hx hy ht (.int .i64 0) 8 hinfo rfl (by decide) (by omega) 0 (ok := fun _ => True) (okp := fun _ => True) rfl (fun _ hk => hk) trivial (by omega) (by simp only [Int.toNat_natCast]; omega) (Below.refl _ _) (Nat.le_refl _) (fun v1 w1 h1 h2 _ _ => h v1 w1 ⟨by simpa using h1, h2⟩)
end
/-- Two rows of whole numbers in blocks of their own. -/
structure Two (w0 W : World) (g1 c1 g2 c2 : Nat) (a b : List Int) : Prop where
 ne : g1 ≠ g2
 l : Kd.R (Kd.int .i64) 3 W w0.heap.size (fun k => k ≠ g2) (.slice (some ⟨g1, 0, none⟩) a.length c1) a
 r : Kd.R (Kd.int .i64) 3 W w0.heap.size (fun k => k ≠ g1) (.slice (some ⟨g2, 0, none⟩) b.length c2) b
 bel : Below w0.heap.size w0 W
 ge : w0.heap.size ≤ g1 ∧ w0.heap.size ≤ g2
theorem Two.swap {w0 W : World} {g1 c1 g2 c2 : Nat} {a b : List Int} (h : Two w0 W g1 c1 g2 c2 a b) : Two w0 W g2 c2 g1 c1 b a := ⟨h.ne.symm, h.r, h.l, h.bel, h.ge.2, h.ge.1⟩
theorem Two.below {w0 W W2 : World} {g1 c1 g2 c2 : Nat} {a b : List Int} (h : Two w0 W g1 c1 g2 c2 a b) (hb : Below W.heap.size W W2) : Two w0 W2 g1 c1 g2 c2 a b := ⟨h.ne, Kd.R_below h.l hb, Kd.R_below h.r hb, below_then h.bel h.bel.size hb, h.ge⟩
theorem Two.put {w0 W : World} {g1 c1 g2 c2 : Nat} {a b : List Int} (h : Two w0 W g1 c1 g2 c2 a b) (i : Nat) (x : Int) : Two w0 (W.setCell ⟨g1, i, none⟩ (.int .i64 x)) g1 c1 g2 c2 (a.set i x) b := by
 have h1 := Kd.R_putn h.l (i : Int) x
 rw [Int.toNat_natCast] at h1
 refine ⟨h.ne, ?_, Kd.R_far (p := ⟨g1, i, none⟩) h.r (fun _ hk => hk) _, below_set h.bel h.ge.1, h.ge⟩
 rw [List.length_set]
 exact h1
theorem Two.cell {w0 W : World} {g1 c1 g2 c2 : Nat} {a b : List Int} (h : Two w0 W g1 c1 g2 c2 a b) {i : Nat} (hi : i < a.length) : W.cell? ⟨g1, i, none⟩ = some (.int .i64 (rd a (i : Int))) ∧ W.frozen? ⟨g1, i, none⟩ = false := by
 have h1 := Kd.R_celln 0 h.l (i : Int) (by omega) (by omega)
 rw [Int.toNat_natCast] at h1
 exact h1
/-- The weights that a token adds to. -/
def winc (a : List Int) (i : Nat) : List Int := a.set i (wrap64 (rd a (i : Int) + 1))
def wstep (ab : List Int × List Int) (t : S53) : Option (List Int × List Int) :=
 if t.f1 = 0 then (if 0 ≤ t.f0 ∧ t.f0 < 256 then some (winc ab.1 t.f0.toNat, ab.2) else none) else (sym_Len.f 400 t.f1).bind fun r => (sym_Dist.f 400 t.f2).bind fun q => if 0 ≤ r.1 ∧ r.1 < 286 ∧ 0 ≤ q.1 ∧ q.1 < 30 then some (winc ab.1 r.1.toNat, winc ab.2 q.1.toNat) else none
def wfold : List S53 → List Int × List Int → Option (List Int × List Int)
 | [], ab => some ab
 | t :: ts, ab => (wstep ab t).bind (wfold ts)
theorem winc_len (a : List Int) (i : Nat) : (winc a i).length = a.length := List.length_set
theorem wstep_len {ab cd : List Int × List Int} {t : S53} (h : wstep ab t = some cd) : cd.1.length = ab.1.length ∧ cd.2.length = ab.2.length := by
 unfold wstep at h
 split at h
 ·split at h
  ·injection h with h; subst h; exact ⟨winc_len _ _, rfl⟩
  ·cases h
 ·obtain ⟨r, _, h⟩ := Option.bind_eq_some_iff.1 h
  obtain ⟨q, _, h⟩ := Option.bind_eq_some_iff.1 h
  split at h
  ·injection h with h; subst h; exact ⟨winc_len _ _, winc_len _ _⟩
  ·cases h
def sym_Weights.f (l0 : List S53) : Option (List Int × List Int × Int) := if l0.length ≤ 1000000 then (match_Check.f 20000 l0).bind fun e => if e = 0 then (wfold l0 (List.replicate 286 0, List.replicate 30 0)).bind fun ab => some (winc ab.1 256, ab.2, 0) else none else none
set_option maxHeartbeats 8000000 in
set_option maxRecDepth 100000 in
theorem sym_Weights.calls (A0 : Option Addr) (c0 : Nat) (l0 : List (S53)) (r1 : List Int) (r2 : List Int) (r3 : Int) (w : World) (hr0 : Kd.C k53 w A0 l0.length l0) (hc0 : l0.length ≤ c0) (h : sym_Weights.f l0 = some (r1, r2, r3)) :
  Calls Try.prog 63 #[.slice A0 l0.length c0] w fun e w' => ∃ v0_ v1_ : Value, e = .returned (.tuple #[v0_, v1_, .int .i64 r3]) ∧ Kd.R (Kd.int .i64) 3 w' w.heap.size (fun k_ => some k_ ≠ (v1_ : Value).ownBlock) v0_ r1 ∧ Kd.R (Kd.int .i64) 3 w' w.heap.size (fun k_ => some k_ ≠ (v0_ : Value).ownBlock) v1_ r2 ∧ Below w.heap.size w w' := by
 unfold sym_Weights.f at h
 by_cases hl : l0.length ≤ 1000000
 rotate_left
 ·rw [if_neg hl] at h; cases h
 rw [if_pos hl] at h
 obtain ⟨e0, he, h⟩ := Option.bind_eq_some_iff.1 h
 by_cases h0 : e0 = 0
 rotate_left
 ·rw [if_neg h0] at h; cases h
 rw [if_pos h0] at h
 subst h0
 obtain ⟨⟨ra, rb⟩, hf, h⟩ := Option.bind_eq_some_iff.1 h
 injection h with h
 injection h with h1 h2
 injection h2 with h2 h3
 have HF := Aside0.mk hf
 have HE := Aside0.mk he
 have HR := Aside0.mk hr0
 have HR1 := Aside0.mk h1
 have hu53 := Try.underlying53
 simp only at h2
 subst h2 h3
 clear hr0 hf he h1
 go_enter Try.func63, Try.ntmps63
 go_wp2_with fail
 refine (match_Check.calls 20000 A0 c0 l0 0 w HR.out hc0 HE.out).mono ?_
 rintro e w1 ⟨rfl, hb1⟩
 have HB1 := Aside0.mk hb1
 clear hb1 HE
 go_wp2_with fail
 refine start_ (n := 4) (S := fun w' => True) (ds := []) #[false, false, false, false] (by kernel_rfl) rfl rfl trivial (fun hHeld => ?_)
 have HB := Aside0.mk HB1.out.drew
 generalize w1.drew = w6 at HB hHeld ⊢
 refine join_ (σ := Value × Value) 1 #[true, true, true, false] (fun s_ => [(20, s_.1), (21, s_.2), (2, s_.1)]) (fun s_ w' => Kd.R (Kd.int .i64) 3 w' w.heap.size (fun k => some k ≠ (s_.2 : Value).ownBlock) s_.1 (List.replicate 286 0) ∧ Kd.R (Kd.int .i64) 3 w' w.heap.size (fun k => some k ≠ (s_.1 : Value).ownBlock) s_.2 (List.replicate 30 0) ∧ Below w.heap.size w w') ?_ ?_
 rotate_left
 ·intro hCont
  refine two_ (i := 0) (j := 1) (Ni := some 20) (Nj := some 21) #[true, false, false, false] #[false, true, false, false] rfl rfl rfl rfl (by kernel_rfl) (by decide) (by decide) (fun K hK => ?_) (fun K hK => ?_)
  ·refine make_step 286 (by rfl) (N := 20) rfl rfl rfl rfl Try.underlying32 info3 (by decide) fun v15 w7 h15 => hK.out _ _ trivial fun hHeld => ?_
   clear hK K
   refine norm_ (a' := ?_) ?_ ?_
   rotate_left
   ·show Act.put _ (some 20) _ = _
    simp only [Act.put, setIfInBounds_toArray, set_cons_zero, set_cons_succ, i64_w, i32_w]
    rfl
   refine pure_ (i := 2) (N := some 2) (v := ?_) (a' := ?_) #[true, false, true, false] rfl rfl (by kernel_rfl) (fun _ _ _ h => h) (Or.inl ⟨by rfl, ?_⟩) ?_ ?_; rotate_left; (intro w'; go_simp; with_reducible rfl); rotate_left; (simp only [Act.put, setIfInBounds_toArray, set_cons_zero, set_cons_succ, i64_w, i32_w]; rfl)
   refine one_ (i := 1) (N := some 21) #[true, true, true, false] rfl rfl (by kernel_rfl) (by decide) (fun K hK => ?_)
   refine make_step 30 (by rfl) (N := 21) rfl rfl rfl rfl Try.underlying32 info3 (by decide) fun v16 w9 h16 => hK.out _ _ trivial fun hHeld => ?_
   clear hK K
   refine norm_ (a' := ?_) ?_ ?_
   rotate_left
   ·show Act.put _ (some 21) _ = _
    simp only [Act.put, setIfInBounds_toArray, set_cons_zero, set_cons_succ, i64_w, i32_w]
    rfl
   exact norm_ (by simp only [putAll, Act.put, setIfInBounds_toArray, set_cons_zero, set_cons_succ]) (hCont (v15, v16) _ (two_made HB.out h15.1 h15.2 h16.1 h16.2))
  ·refine make_step 30 (by rfl) (N := 21) rfl rfl rfl rfl Try.underlying32 info3 (by decide) fun v16 w7 h16 => hK.out _ _ trivial fun hHeld => ?_
   clear hK K
   refine norm_ (a' := ?_) ?_ ?_
   rotate_left
   ·show Act.put _ (some 21) _ = _
    simp only [Act.put, setIfInBounds_toArray, set_cons_zero, set_cons_succ, i64_w, i32_w]
    rfl
   refine one_ (i := 0) (N := some 20) #[true, true, false, false] rfl rfl (by kernel_rfl) (by decide) (fun K hK => ?_)
   refine make_step 286 (by rfl) (N := 20) rfl rfl rfl rfl Try.underlying32 info3 (by decide) fun v15 w9 h15 => hK.out _ _ trivial fun hHeld => ?_
   clear hK K
   refine norm_ (a' := ?_) ?_ ?_
   rotate_left
   ·show Act.put _ (some 20) _ = _
    simp only [Act.put, setIfInBounds_toArray, set_cons_zero, set_cons_succ, i64_w, i32_w]
    rfl
   refine pure_ (i := 2) (N := some 2) (v := ?_) (a' := ?_) #[true, true, true, false] rfl rfl (by kernel_rfl) (fun _ _ _ h => h) (Or.inl ⟨by rfl, ?_⟩) ?_ ?_; rotate_left; (intro w'; go_simp; with_reducible rfl); rotate_left; (simp only [Act.put, setIfInBounds_toArray, set_cons_zero, set_cons_succ, i64_w, i32_w]; rfl)
   obtain ⟨q1, q2, q3⟩ := two_made HB.out h16.1 h16.2 h15.1 h15.2
   exact norm_ (by simp only [putAll, Act.put, setIfInBounds_toArray, set_cons_zero, set_cons_succ]) (hCont (v15, v16) _ ⟨q2, q1, q3⟩)
 rintro ⟨v15, v16⟩ w11 ⟨h0, h1, h2⟩
 have hHeld := trivial
 refine norm_ (a' := ?_) ?_ ?_
 rotate_left
 ·simp only [putAll, Act.put, setIfInBounds_toArray, set_cons_zero, set_cons_succ]
  rfl
 refine pure_ (i := 3) (N := some 3) (v := ?_) (a' := ?_) #[true, true, true, true] rfl rfl (by kernel_rfl) (fun _ _ _ h => h) (Or.inl ⟨by rfl, ?_⟩) ?_ ?_; rotate_left; (intro w'; go_simp; with_reducible rfl); rotate_left; (simp only [Act.put, setIfInBounds_toArray, set_cons_zero, set_cons_succ, i64_w, i32_w]; rfl)
 refine done_ (by kernel_rfl) ?_
 obtain ⟨g1, c1, e1, gb1, _, _⟩ := Kd.R_form h0 (by simp)
 obtain ⟨g2, c2, e2, gb2, _, _⟩ := Kd.R_form h1 (by simp)
 simp only [List.length_replicate] at e1 e2
 subst e1 e2
 have HT : Aside0 (Two w w11 g1 c1 g2 c2 (List.replicate 286 0) (List.replicate 30 0)) := ⟨⟨fun e => h1.1 g2 rfl (by rw [e]; rfl), Kd.R_mono h0 (fun k hk e => hk (by rw [e]; rfl)), Kd.R_mono h1 (fun k hk e => hk (by rw [e]; rfl)), h2, gb1, gb2⟩⟩
 clear h0 h1 h2 gb1 gb2 HB hHeld
 obtain ⟨a0, ha0⟩ : ∃ a0 : List Int, a0 = List.replicate 286 0 := ⟨_, rfl⟩
 obtain ⟨b0, hb0⟩ : ∃ b0 : List Int, b0 = List.replicate 30 0 := ⟨_, rfl⟩
 have hla : a0.length = 286 := by rw [ha0, List.length_replicate]
 have hlb : b0.length = 30 := by rw [hb0, List.length_replicate]
 rw [← ha0, ← hb0] at HT HF
 clear ha0 hb0
 go_wp2_with fail
 go_loopg [24] l0.length (fun kq v24 w' => ∃ (i : Nat) (a b : List Int), v24 = .int .i64 i ∧ i ≤ l0.length ∧ Aside0 (kq + i = l0.length) ∧ a.length = 286 ∧ b.length = 30 ∧ Aside0 (wfold (l0.drop i) (a, b) = some (ra, rb)) ∧ Aside0 (Two w w' g1 c1 g2 c2 a b))
 case atStart => exact ⟨0, a0, b0, rfl, Nat.zero_le _, ⟨by omega⟩, hla, hlb, HF, HT⟩
 case round =>
  clear HT HF hla hlb
  obtain ⟨i, a, b, rfl, hi, HG, hla, hlb, HF, HT⟩ := hrel
  by_cases hlt : i < l0.length
  rotate_left
  ·obtain rfl : i = l0.length := by omega
   have hF := HF.out
   rw [List.drop_length] at hF
   injection hF with hF
   injection hF with hF1 hF2
   subst hF1 hF2
   obtain ⟨y1, y2⟩ := HT.out.cell (i := 256) (by omega)
   obtain ⟨y, hy⟩ : ∃ y, y = rd a ((256 : Nat) : Int) := ⟨_, rfl⟩
   rw [← hy] at y1
   obtain ⟨z, hz⟩ : ∃ z, wrap64 (y + 1) = z := ⟨_, rfl⟩
   have hz2 : IntKind.i64.wrap (y + 1) = z := (i64_w _).trans hz
   have HZ : Aside0 (a.set 256 z = r1) := ⟨by rw [← hz, hy]; exact HR1.out⟩
   have HT2 := Aside0.mk (HT.out.put 256 z)
   clear hy
   go_wp2_with fail
   go_ret3
   have h := HT2.out
   have hl1 : (a.set 256 z).length = 286 := by rw [List.length_set]; exact hla
   refine ⟨_, _, rfl, ?_, ?_, h.bel⟩
   ·rw [← HZ.out, ← hl1]; exact Kd.R_mono h.l (fun k hk e => hk (by injection e))
   ·rw [← hlb]; exact Kd.R_mono h.r (fun k hk e => hk (by injection e))
  obtain ⟨t, et⟩ : ∃ t, t = rd_T53 l0 (i : Int) := ⟨_, rfl⟩
  have hdr : l0.drop i = t :: l0.drop (i + 1) := by
   rw [et]
   unfold rd_T53
   rw [Int.toNat_natCast, List.getD_eq_getElem?_getD, List.getElem?_eq_getElem hlt]
   exact List.drop_eq_getElem_cons hlt
  have hF := HF.out
  rw [hdr] at hF
  obtain ⟨⟨a2, b2⟩, hst, hF⟩ := Option.bind_eq_some_iff.1 hF
  have hsl := wstep_len hst
  simp only [hla, hlb] at hsl
  obtain ⟨ad, ead, k0, k1, k2⟩ := at_T53 (Kd.C_below HR.out HT.out.bel) (i : Int) (by omega) (by omega)
  rw [← et, Int.toNat_natCast] at k0
  rw [← et, Int.toNat_natCast] at k1 k2
  subst ead
  have HF2 := Aside0.mk hF
  have HSL := Aside0.mk hsl
  have hal : Below wr.heap.size wr (wr.alloc (.cells #[.int .u8 t.f0, .int .i64 t.f1, .int .i64 t.f2] 53)) := (Below.refl _ _).alloc (Nat.le_refl _) _
  have HT1 := Aside0.mk (HT.out.below hal)
  have BT := Aside0.mk (blk_new wr (.cells #[.int .u8 t.f0, .int .i64 t.f1, .int .i64 t.f2] 53))
  clear hdr hF hsl HF et hal
  unfold wstep at hst
  by_cases h0 : t.f1 = 0
  ·have d0 : (t.f1 == 0) = true := beq_iff_eq.2 h0
   rw [if_pos h0] at hst
   by_cases h8 : 0 ≤ t.f0 ∧ t.f0 < 256
   rotate_left
   ·rw [if_neg h8] at hst; cases hst
   rw [if_pos h8] at hst
   injection hst with hst
   injection hst with hs1 hs2
   obtain ⟨xn, hxn⟩ := Int.eq_ofNat_of_zero_le h8.1
   have hx8 : xn < 256 := by omega
   rw [hxn, Int.toNat_natCast] at hs1
   rw [hxn] at k0 BT HT1
   obtain ⟨y1, y2⟩ := HT1.out.cell (i := xn) (by omega)
   obtain ⟨y, hy⟩ : ∃ y, y = rd a (xn : Int) := ⟨_, rfl⟩
   rw [← hy] at y1
   obtain ⟨z, hz⟩ : ∃ z, wrap64 (y + 1) = z := ⟨_, rfl⟩
   have hz2 : IntKind.i64.wrap (y + 1) = z := (i64_w _).trans hz
   have HZ : Aside0 (a.set xn z = a2) := ⟨by rw [← hs1, ← hz, hy]; rfl⟩
   have HS2 := Aside0.mk hs2
   clear hy hs1 hs2 hxn h8 h0
   go_wp2_with fail
   go_roundg (gk - 1)
   case measure => have := HG.out; omega
   case rel =>
    refine ⟨i + 1, a2, b2, by go_num, by omega, ⟨by have := HG.out; omega⟩, HSL.out.1, HSL.out.2, HF2, ⟨?_⟩⟩
    rw [← HZ.out, ← HS2.out]
    exact HT1.out.put xn z
  ·have d0 : (t.f1 == 0) = false := beq_eq_false_iff_ne.2 h0
   rw [if_neg h0] at hst
   obtain ⟨⟨p1, p2, p3, p4⟩, hp, hst⟩ := Option.bind_eq_some_iff.1 hst
   obtain ⟨⟨q1, q2, q3, q4⟩, hq, hst⟩ := Option.bind_eq_some_iff.1 hst
   simp only at hst
   by_cases h8 : 0 ≤ p1 ∧ p1 < 286 ∧ 0 ≤ q1 ∧ q1 < 30
   rotate_left
   ·rw [if_neg h8] at hst; cases hst
   rw [if_pos h8] at hst
   injection hst with hst
   injection hst with hs1 hs2
   obtain ⟨ls, rfl⟩ := Int.eq_ofNat_of_zero_le h8.1
   obtain ⟨ds, rfl⟩ := Int.eq_ofNat_of_zero_le h8.2.2.1
   rw [Int.toNat_natCast] at hs1 hs2
   have hl8 : ls < 286 ∧ ds < 30 := by omega
   have HP := Aside0.mk hp
   have HQ := Aside0.mk hq
   have HS1 := Aside0.mk hs1
   have HS2 := Aside0.mk hs2
   clear hp hq hs1 hs2 h8 h0
   go_wp2_with fail
   refine (sym_Len.calls 400 t.f1 _ _ _ _ _ HP.out).mono ?_
   rintro e w5 ⟨rfl, hb5⟩
   have HT5 := Aside0.mk (HT1.out.below hb5)
   have BT5 := Aside0.mk (blk_below BT.out hb5)
   have hc2 : w5.cell? ⟨wr.heap.size, 2, none⟩ = some (.int .i64 t.f2) := (blk_cell BT5.out 2).trans rfl
   clear hb5 HT1 BT k0 k1 k2
   go_wp2_with fail
   refine (sym_Dist.calls 400 t.f2 _ _ _ _ _ HQ.out).mono ?_
   rintro e w6 ⟨rfl, hb6⟩
   have HT6 := Aside0.mk (HT5.out.below hb6)
   clear hb6 HT5 BT5 hc2
   obtain ⟨y1, y2⟩ := HT6.out.cell (i := ls) (by omega)
   obtain ⟨y, hy⟩ : ∃ y, y = rd a (ls : Int) := ⟨_, rfl⟩
   rw [← hy] at y1
   obtain ⟨z, hz⟩ : ∃ z, wrap64 (y + 1) = z := ⟨_, rfl⟩
   have hz2 : IntKind.i64.wrap (y + 1) = z := (i64_w _).trans hz
   have HZ : Aside0 (a.set ls z = a2) := ⟨by rw [← HS1.out, ← hz, hy]; rfl⟩
   have HT7 := Aside0.mk (HT6.out.put ls z)
   obtain ⟨y3, y4⟩ := HT7.out.swap.cell (i := ds) (by omega)
   obtain ⟨x, hx⟩ : ∃ x, x = rd b (ds : Int) := ⟨_, rfl⟩
   rw [← hx] at y3
   obtain ⟨u, hu⟩ : ∃ u, wrap64 (x + 1) = u := ⟨_, rfl⟩
   have hu2 : IntKind.i64.wrap (x + 1) = u := (i64_w _).trans hu
   have HU : Aside0 (b.set ds u = b2) := ⟨by rw [← HS2.out, ← hu, hx]; rfl⟩
   clear hy hx
   go_wp2_with fail
   go_roundg (gk - 1)
   case measure => have := HG.out; omega
   case rel =>
    refine ⟨i + 1, a2, b2, by go_num, by omega, ⟨by have := HG.out; omega⟩, HSL.out.1, HSL.out.2, HF2, ⟨?_⟩⟩
    rw [← HZ.out, ← HU.out]
    exact (HT7.out.swap.put ds u).swap

/-! ### slices_Grow_int_int: function 92 (by hand) -/
set_option maxHeartbeats 8000000 in
set_option maxRecDepth 100000 in
/-- Room for so many, out of nothing. -/
theorem grow_nil (n : Nat) (w : World) (hn : n ≤ 1000000) :
  Calls Try.prog 92 #[.slice none 0 0, .int .i64 n] w fun e w' => ∃ v, e = .returned v ∧ Kd.R (Kd.int .i64) 3 w' w.heap.size (fun _ => True) v [] ∧ Below w.heap.size w w' := by
 by_cases h0 : n = 0
 ·subst h0
  go_enter Try.func92, Try.ntmps92
  go_wp2_with fail
  go_ret
  exact ⟨_, rfl, Kd.R_nil _ _ _ _ _, Below.refl _ _⟩
 ·have h1 : decide ((n : Int) < 0) = false := decide_eq_false (by omega)
  have h2 : decide ((0 : Int) < (n : Int)) = true := decide_eq_true (by omega)
  have HN := Aside0.mk (Kd.R_nil (Kd.int .i64) 3 w w.heap.size (fun _ => True))
  obtain ⟨ti, hti, hts⟩ : ∃ i, Try.prog.info? 3 = some i ∧ i.size = 1 := by
   have h := info3
   obtain ⟨i, hi, hz⟩ := Option.map_eq_some_iff.1 h
   simp only [Prod.mk.injEq] at hz
   exact ⟨i, hi, hz.2.1⟩
  have HI := Aside0.mk (And.intro hti hts)
  clear hti hts
  go_enter Try.func92, Try.ntmps92
  go_wp2_with ((with_reducible refine gate_builtin (b := .append) (xs := #[.tmp 20, .tmp 21]) rfl ?_); at_builtin; refine Kd.R_append_zeros (Kd.int .i64) (w0 := w) w.heap.size rfl (.tmp 20) (.tmp 21) 32 3 3 (.int .i64 0) 8 rfl Try.underlying32 Try.underlying3 info3 rfl (by decide) (by decide) (.slice none 0 0) [] (0 : Int) (n : Int) (fun _ => True) rfl rfl rfl (fun _ _ => trivial) HN.out (by omega) (Below.refl _ _) (Nat.le_refl _) (by simp; omega) ?_; intro v1 w1 ho hb hg hat; (obtain ⟨A1, c1, e1⟩ := Kd.R_slice ho); (subst e1); (have hcut := (print_take_int (k := .i64) 32 3 Try.underlying32 HI.out.1 HI.out.2 A1 c1 ([] ++ List.replicate ((n : Int)).toNat 0) 0 (by omega) (by omega) (Kd.R_reads' ho).2.1).1 w1); (have HO := Aside0.mk ho); (have HB := Aside0.mk hb); clear ho hb hg hat)
  go_ret
  exact ⟨_, rfl, Kd.R_take (m := 0) HO.out (Nat.zero_le _), HB.out⟩

/-! ### slices_Concat_int_int: function 66 (by hand) -/
set_option maxHeartbeats 8000000 in
set_option maxRecDepth 100000 in
/-- Two rows one behind the other, in memory of their own. -/
theorem concat_two (gc : Nat) (A1 A2 : Option Addr) (c1 c2 : Nat) (s1 s2 : List Int) (w : World) (hg1 : w.cell? ⟨gc, 0, none⟩ = some (.slice A1 s1.length c1)) (hg2 : w.cell? ⟨gc, 1, none⟩ = some (.slice A2 s2.length c2))
  (hr1 : Kd.C (Kd.int .i64) w A1 s1.length s1) (hr2 : Kd.C (Kd.int .i64) w A2 s2.length s2) (hc1 : s1.length ≤ c1) (hc2 : s2.length ≤ c2) (hl : s1.length + s2.length ≤ 1000000) :
  Calls Try.prog 66 #[.slice (some ⟨gc, 0, none⟩) 2 2] w fun e w' => ∃ v, e = .returned v ∧ Kd.R (Kd.int .i64) 3 w' w.heap.size (fun _ => True) v (s1 ++ s2) ∧ Below w.heap.size w w' := by
 have H1 := Aside0.mk (And.intro hr1 hc1)
 have H2 := Aside0.mk (And.intro hr2 hc2)
 have HG := Aside0.mk (And.intro hg1 hg2)
 clear hr1 hr2 hc1 hc2
 obtain ⟨L1, hL1⟩ : ∃ L, L = s1.length := ⟨_, rfl⟩
 obtain ⟨L2, hL2⟩ : ∃ L, L = s2.length := ⟨_, rfl⟩
 have HL := Aside0.mk (And.intro hL1 hL2)
 rw [← hL1] at hg1 hl
 rw [← hL2] at hg2 hl
 clear hL1 hL2
 have hg3 : w.cell? ((⟨gc, 0, none⟩ : Addr).add 0) = some (.slice A1 L1 c1) := hg1
 go_enter Try.func66, Try.ntmps66
 go_wp2_with fail
 go_loop [3, 11] (fun v3 v11 => ∃ i : Nat, i ≤ 2 ∧ v11 = .int .i64 i ∧ v3 = .int .i64 ((if i = 0 then 0 else if i = 1 then L1 else L1 + L2 : Nat) : Int)) (fun _ v11 => 2 - (intOf v11).toNat)
 case atStart => exact ⟨0, by omega, rfl, rfl⟩
 case round =>
  obtain ⟨i, hi, rfl, rfl⟩ := hrel
  have hi3 : i = 0 ∨ i = 1 ∨ i = 2 := by omega
  rcases hi3 with rfl | rfl | rfl
  ·simp only [if_true]
   go_wp2_with fail
   exact ⟨⟨1, by omega, rfl, rfl⟩, by decide⟩
  ·simp only [if_true, Nat.one_ne_zero, if_false]
   go_wp2_with fail
   exact ⟨⟨2, by omega, rfl, by go_num⟩, by decide⟩
  ·simp only [show ¬ (2 : Nat) = 0 from by decide, show ¬ (2 : Nat) = 1 from by decide, if_false]
   obtain ⟨n, hn⟩ : ∃ n, n = L1 + L2 := ⟨_, rfl⟩
   rw [← hn]
   have hnl : n ≤ 1000000 := by omega
   have hn2 := Aside0.mk hn
   clear hn
   go_wp2_with fail
   refine (grow_nil n w hnl).mono ?_
   rintro e1 w1 ⟨v0, rfl, ho, hb⟩
   have HO := Aside0.mk ho
   have HB := Aside0.mk hb
   clear ho hb hg1 hg2 hg3
   have hn2 := hn2.out
   go_wp2_with fail
   go_loopg [6, 27] 2 (fun kq v6 v27 w' => ∃ i : Nat, i ≤ 2 ∧ v27 = .int .i64 i ∧ Aside0 (kq + i = 2) ∧ Aside0 (Kd.R (Kd.int .i64) 3 w' w.heap.size (fun _ => True) v6 (if i = 0 then [] else if i = 1 then s1 else s1 ++ s2)) ∧ Aside0 (Below w.heap.size w w'))
   case atStart => exact ⟨0, by omega, rfl, ⟨rfl⟩, HO, HB⟩
   case round =>
    clear HO HB
    obtain ⟨i, hi, rfl, HG2, HO, HB⟩ := hrel
    obtain ⟨A6, c6, e6⟩ := Kd.R_slice HO.out
    subst e6
    have hg1 := pw_cell_below HB.out HG.out.1
    have hg2 := pw_cell_below HB.out HG.out.2
    rw [← HL.out.1] at hg1
    rw [← HL.out.2] at hg2
    have hg3 : wr.cell? ((⟨gc, 0, none⟩ : Addr).add 0) = some (.slice A1 L1 c1) := hg1
    have hi3 : i = 0 ∨ i = 1 ∨ i = 2 := by omega
    rcases hi3 with rfl | rfl | rfl
    ·simp only [if_true] at HO ⊢
     go_wp2_with ((with_reducible refine gate_builtin (b := .append) (xs := #[.tmp 31, .tmp 32]) rfl ?_); at_builtin; refine Kd.R_append_row (Value.int .i64) 0 (w0 := w) w.heap.size rfl (.tmp 31) (.tmp 32) 32 3 (.int .i64 0) 8 rfl Try.underlying32 info3 rfl (by decide) (.slice A6 ([] : List Int).length c6) [] s1 A1 L1 c1 (fun _ => True) rfl rfl (fun _ _ => trivial) HO.out (HL.out.1 ▸ Kd.C_below H1.out.1 HB.out) HB.out HB.out.size (by have := HL.out; simp; omega) ?_; intro v2 w2 ho2 hb2 hg_ hat2; (have HO2 := Aside0.mk ho2); (have HB2 := Aside0.mk hb2); clear ho2 hb2 hg_ hat2)
     go_roundg (gk - 1)
     case measure => have := HG2.out; omega
     case rel => exact ⟨1, by omega, rfl, ⟨by have := HG2.out; omega⟩, ⟨by have h := HO2.out; rw [List.nil_append] at h; exact h⟩, HB2⟩
    ·simp only [if_true, Nat.one_ne_zero, if_false] at HO ⊢
     go_wp2_with ((with_reducible refine gate_builtin (b := .append) (xs := #[.tmp 31, .tmp 32]) rfl ?_); at_builtin; refine Kd.R_append_row (Value.int .i64) 0 (w0 := w) w.heap.size rfl (.tmp 31) (.tmp 32) 32 3 (.int .i64 0) 8 rfl Try.underlying32 info3 rfl (by decide) (.slice A6 s1.length c6) s1 s2 A2 L2 c2 (fun _ => True) rfl rfl (fun _ _ => trivial) HO.out (HL.out.2 ▸ Kd.C_below H2.out.1 HB.out) HB.out HB.out.size (by have := HL.out; omega) ?_; intro v2 w2 ho2 hb2 hg_ hat2; (have HO2 := Aside0.mk ho2); (have HB2 := Aside0.mk hb2); clear ho2 hb2 hg_ hat2)
     go_roundg (gk - 1)
     case measure => have := HG2.out; omega
     case rel => exact ⟨2, by omega, rfl, ⟨by have := HG2.out; omega⟩, ⟨HO2.out⟩, HB2⟩
    ·simp only [show ¬ (2 : Nat) = 0 from by decide, show ¬ (2 : Nat) = 1 from by decide, if_false] at HO ⊢
     go_wp2_with fail
     go_ret
     exact ⟨_, rfl, HO.out, HB.out⟩

end Go.Proofs.Ytlffpaploefljaa.P
