-- Written by a program of this session out of the translation. Lean checks it.
import Derived.Test.YtaoeghdpmmeaiaaPx0
import Derived.Test.YtaoeghdpmmeaiaaPx6
namespace Go.Proofs.Ytaoeghdpmmeaiaa.P
open Go.RowKit Go.Proofs.YtaoeghdpmmeaiaaW.PrintWords Go.Proofs.YtaoeghdpmmeaiaaW.PrintLast Go.Proofs.YtaoeghdpmmeaiaaW.PrintMore
attribute [local go_sem] max2_int min2_int max_two min_two max_three min_three max_four min_four   -- for this text's walks alone
set_option linter.unusedVariables false
set_option linter.unusedSimpArgs false

-- PART
/-! ### tree_least: function 32 (by hand) -/
/-- The place of the first one of the least ones, of the first k. -/
def leastTo (ws : List Int) (k : Nat) : Nat := (List.range k).foldl (fun at' i => if ws.getD i 0 < ws.getD at' 0 then i else at') 0
def leastAt (ws : List Int) : Nat := leastTo ws ws.length
theorem leastTo_succ (ws : List Int) (k : Nat) : leastTo ws (k + 1) = if ws.getD k 0 < ws.getD (leastTo ws k) 0 then k else leastTo ws k := by
  simp [leastTo, List.range_succ]
theorem leastTo_lt (ws : List Int) (k : Nat) (h : k ≤ ws.length) (h0 : 0 < ws.length) : leastTo ws k < ws.length := by
  induction k with
  | zero => simpa [leastTo] using h0
  | succ n ih =>
    rw [leastTo_succ]
    split
    · omega
    · exact ih (by omega)
theorem node_at {w : World} {g : Nat} {l : List (Int × Value)} (h : (Kd.raw 2).C w (some ⟨g, 0, none⟩) (nodeRows l).length (nodeRows l)) {i : Nat} {x : Int × Value} (hx : l[i]? = some x) :
    w.cell? ⟨g, i * 2, none⟩ = some (.int .i64 x.1) ∧ w.cell? ⟨g, i * 2 + 1, none⟩ = some x.2 := by
  have hi : i < l.length := (List.getElem?_eq_some_iff.1 hx).1
  obtain ⟨ad, c, e, hc, hr, hcell⟩ := ReadsRow.get_ h [] (i : Int) (by omega) (by rw [nodeRows_length]; omega)
  injection e with e
  subst e
  rw [Int.toNat_natCast, nodeRows_at l i hi] at hr
  rw [Int.toNat_natCast] at hcell
  have e2 : l[i] = x := by rw [List.getElem?_eq_getElem hi] at hx; injection hx
  rw [e2] at hr
  have e3 : c = nodeCells x := hr.1
  subst e3
  have h0 := hcell 0 _ rfl
  have h1 := hcell 1 _ rfl
  rw [show (Kd.raw 2).sz = 2 from rfl, add_plain] at h0 h1
  exact ⟨h0, h1⟩
set_option maxHeartbeats 8000000 in
set_option maxRecDepth 100000 in
theorem tree_least (g c : Nat) (l : List (Int × Value)) (w0 w : World) (hO : Nodes w w0.heap.size (.slice (some ⟨g, 0, none⟩) l.length c) l) (h0 : 0 < l.length) (hB : Below w0.heap.size w0 w) (hl : l.length ≤ 1000000) (hV : ∀ x ∈ l, ∃ A n c, x.2 = .slice A n c) :
    Calls Try.prog 32 #[.slice (some ⟨g, 0, none⟩) l.length c] w fun e w' => ∃ x, l[leastAt (l.map (·.1))]? = some x ∧ e = .returned (.tuple #[.agg #[.int .i64 x.1, x.2], .slice (some ⟨g, 0, none⟩) (l.length - 1) c]) ∧
      Nodes w' w0.heap.size (.slice (some ⟨g, 0, none⟩) (l.length - 1) c) (l.eraseIdx (leastAt (l.map (·.1)))) ∧ Below w0.heap.size w0 w' ∧ w.grownBy w' (some g) := by
  have HV := Aside0.mk hV
  clear hV
  have HO := Aside0.mk hO
  have HB := Aside0.mk hB
  obtain ⟨hLL, hLc, hC⟩ := Kd.R_reads' hO
  have HC := Aside0.mk hC
  obtain ⟨L, hL⟩ : ∃ L, L = l.length := ⟨_, rfl⟩
  rw [← hL] at hl h0 ⊢
  have HL := Aside0.mk hL
  obtain ⟨ws, hws⟩ : ∃ ws, ws = l.map (·.1) := ⟨_, rfl⟩
  rw [← hws]
  have HW := Aside0.mk hws
  clear hO hB hC hLc hL hws hLL
  go_enter Try.func32, Try.ntmps32
  go_wp2_with fail
  obtain ⟨wA, hwA⟩ : ∃ wA, wA = w.alloc (Obj.cells #[Value.int IntKind.i64 0, Value.slice none 0 0] 56) := ⟨_, rfl⟩
  have hAc : wA.cell? ⟨w.heap.size, 0, none⟩ = some (.int .i64 0) := by rw [hwA]; simp
  have HAb := Aside0.mk (show Below w.heap.size w wA from by rw [hwA]; exact (Below.refl _ _).alloc (Nat.le_refl _) _)
  have HAs := Aside0.mk (show w.heap.size + 1 = wA.heap.size from by rw [hwA]; simp)
  rw [← hwA]
  have HA := Aside0.mk hwA
  clear hwA
  go_loopg [4, 10] L (fun kq v4 v10 w' => ∃ i : Nat, i ≤ L ∧ v10 = .int .i64 i ∧ v4 = .int .i64 (leastTo ws i) ∧ Aside0 (kq + i = L) ∧ Aside0 (Below wA.heap.size wA w'))
  case atStart => exact ⟨0, by omega, rfl, rfl, ⟨rfl⟩, ⟨Below.refl _ _⟩⟩
  case round =>
    obtain ⟨i, hi, rfl, rfl, HG, HBr⟩ := hrel
    by_cases hlt : i < L
    · have HBw := Aside0.mk (show Below w.heap.size w wr from below_then HAb.out (by have := HAs.out; omega) HBr.out)
      obtain ⟨⟨wx, vx⟩, hx⟩ : ∃ x, l[i]? = some x := ⟨_, List.getElem?_eq_getElem (by rw [← HL.out]; exact hlt)⟩
      obtain ⟨⟨wy, vy⟩, hy⟩ : ∃ y, l[leastTo ws i]? = some y := ⟨_, List.getElem?_eq_getElem (by have := leastTo_lt ws i (by rw [HW.out]; simp; have := HL.out; omega) (by rw [HW.out]; simp; have := HL.out; omega); rw [HW.out] at this ⊢; simpa using this)⟩
      obtain ⟨Ax, nx, cx, ex⟩ := HV.out _ (List.mem_of_getElem? hx)
      obtain ⟨Ay, ny, cy, ey⟩ := HV.out _ (List.mem_of_getElem? hy)
      simp only at ex ey
      subst ex; subst ey
      obtain ⟨hx1, hx2⟩ := node_at (Kd.C_below HC.out HBw.out) hx
      obtain ⟨hy1, hy2⟩ := node_at (Kd.C_below HC.out HBw.out) hy
      have HX := Aside0.mk hx
      have HY := Aside0.mk hy
      clear hx hy
      go_wp2_with fail
      obtain ⟨w2, hw2⟩ : ∃ w2, w2 = wr.alloc (Obj.cells #[Value.int IntKind.i64 wx, Value.slice Ax nx cx] 56) := ⟨_, rfl⟩
      have hn1 : w2.cell? ⟨wr.heap.size, 0, none⟩ = some (.int .i64 wx) := by rw [hw2]; simp
      have HB2 := Aside0.mk (show Below wr.heap.size wr w2 from by rw [hw2]; exact (Below.refl _ _).alloc (Nat.le_refl _) _)
      have hy3 : w2.cell? ⟨g, leastTo ws i * 2, none⟩ = some (.int .i64 wy) := pw_cell_below HB2.out hy1
      rw [← hw2]
      clear hw2 hx1 hx2 hy1 hy2 hAc
      obtain ⟨at', hat⟩ : ∃ at', at' = leastTo ws i := ⟨_, rfl⟩
      have HAT := Aside0.mk hat
      have hatL : at' < L := by
        rw [hat]
        have := leastTo_lt ws i (by rw [HW.out]; simp; have := HL.out; omega) (by rw [HW.out]; simp; have := HL.out; omega)
        rw [HW.out] at this ⊢
        have h2 := HL.out
        simpa [← h2] using this
      rw [← hat] at hy3 ⊢
      clear hat
      have hat0 : (0 : Int) ≤ (at' : Int) := by omega
      have hat1 : (at' : Int) < (L : Int) := by omega
      have HS := Aside0.mk (show leastTo ws (i + 1) = if wx < wy then i else at' from by
        have hx := HX.out
        have hy := HY.out
        rw [leastTo_succ, ← HAT.out, HW.out]
        rw [← HAT.out] at hy
        simp [List.getD_eq_getElem?_getD, hx, hy])
      go_region
      by_cases hxy : wx < wy
      · have hd : decide (wx < wy) = true := decide_eq_true hxy
        go_wp2_with fail
        go_roundg (gk - 1)
        case measure => have := HG.out; omega
        case rel => exact ⟨i + 1, by omega, by go_num, by rw [HS.out, if_pos hxy], ⟨by have := HG.out; omega⟩, ⟨below_then (HBr.out) HBr.out.size (by exact below_then HB2.out HB2.out.size (below_drew (Below.refl _ _)))⟩⟩
      · have hd : decide (wx < wy) = false := decide_eq_false hxy
        go_wp2_with fail
        go_roundg (gk - 1)
        case measure => have := HG.out; omega
        case rel => exact ⟨i + 1, by omega, by go_num, by rw [HS.out, if_neg (by omega)], ⟨by have := HG.out; omega⟩, ⟨below_then (HBr.out) HBr.out.size (by exact below_then HB2.out HB2.out.size (below_drew (Below.refl _ _)))⟩⟩
    · have hiL : i = L := by omega
      subst hiL
      have HBw := Aside0.mk (show Below w.heap.size w wr from below_then HAb.out (by have := HAs.out; omega) HBr.out)
      obtain ⟨⟨wy, vy⟩, hy⟩ : ∃ y, l[leastTo ws i]? = some y := ⟨_, List.getElem?_eq_getElem (by have := leastTo_lt ws i (by rw [HW.out]; simp; have := HL.out; omega) (by rw [HW.out]; simp; have := HL.out; omega); rw [HW.out] at this ⊢; simpa using this)⟩
      obtain ⟨Ay, ny, cy, ey⟩ := HV.out _ (List.mem_of_getElem? hy)
      simp only at ey
      subst ey
      obtain ⟨hy1, hy2⟩ := node_at (Kd.C_below HC.out HBw.out) hy
      have HY := Aside0.mk hy
      clear hy
      obtain ⟨at', hat⟩ : ∃ at', at' = leastTo ws i := ⟨_, rfl⟩
      have HAT := Aside0.mk hat
      have hatL : at' < i := by
        rw [hat]
        have := leastTo_lt ws i (by rw [HW.out]; simp; have := HL.out; omega) (by rw [HW.out]; simp; have := HL.out; omega)
        rw [HW.out] at this ⊢
        have h2 := HL.out
        simpa [← h2] using this
      rw [← hat] at hy1 hy2 ⊢
      clear hat
      have hat0 : (0 : Int) ≤ (at' : Int) := by omega
      have hat1 : (at' : Int) < (i : Int) := by omega
      go_wp2_with fail
      have hgl : g < w.heap.size := Kd.R_lt HO.out g (by simp [Value.ownBlock])
      have hrl : w.heap.size < wr.heap.size := by have := HAs.out; have := HBr.out.size; omega
      obtain ⟨w2, hw2⟩ : ∃ w2, w2 = wr.alloc (Obj.cells #[Value.int IntKind.i64 wy, Value.slice Ay ny cy] 56) := ⟨_, rfl⟩
      have HB2 := Aside0.mk (show Below wr.heap.size wr w2 from by rw [hw2]; exact (Below.refl _ _).alloc (Nat.le_refl _) _)
      have kN : w2.heap[wr.heap.size]? = some (.cells #[Value.int IntKind.i64 wy, Value.slice Ay ny cy] 56 (0, 0)) := by rw [hw2]; exact Array.getElem?_push_size
      have kA : w2.heap[w.heap.size]? = some (.cells #[Value.int IntKind.i64 0, Value.slice none 0 0] 56 (0, 0)) := by
        rw [HB2.out.block _ hrl, HBr.out.block _ (by have := HAs.out; omega), HA.out]; exact Array.getElem?_push_size
      rw [← hw2]
      have KN := Aside0.mk kN
      have KA := Aside0.mk kA
      have hn1 : w2.cell? ⟨wr.heap.size, 0, none⟩ = some (.int .i64 wy) := by rw [cell_of_row w2 _ _ _ _ _ kN]; rfl
      have hn2 : w2.cell? ⟨wr.heap.size, 1, none⟩ = some (.slice Ay ny cy) := by rw [cell_of_row w2 _ _ _ _ _ kN]; rfl
      have HB3 := Aside0.mk (show Below w.heap.size w w2 from below_then HBw.out HBw.out.size HB2.out)
      have HB4 := Aside0.mk (show Below w0.heap.size w0 w2 from below_then HB.out HB.out.size HB3.out)
      have HO2 := Aside0.mk (show Nodes w2 w0.heap.size (.slice (some ⟨g, 0, none⟩) i c) l from HL.out ▸ Kd.R_below HO.out HB3.out)
      have HLL := HL.out
      subst HLL
      clear hw2 kN kA hy1 hy2 hAc
      have hwr : IntKind.i64.wrap ((at' : Int) + 1) = (at' : Int) + 1 := IntWalk.i64_in _ (by omega)
      go_region_with (go_at_call 36; refine (delete_node g c at' l w0 _ (Kd.R_drew HO2.out) hatL (HB4.out.drew) hl).mono ?_; rintro e1 w3 ⟨rfl, hN, hB5, hg⟩; (have kN := blk_grown (show w2.drew.heap[wr.heap.size]? = _ from KN.out) hg (by simp; omega)); (have kA := blk_grown (show w2.drew.heap[w.heap.size]? = _ from KA.out) hg (by simp; omega)); (have hm1 : w3.cell? ⟨wr.heap.size, 0, none⟩ = some (.int .i64 wy) := by (rw [cell_of_row w3 _ _ _ _ _ kN]; rfl)); (have hm2 : w3.cell? ⟨wr.heap.size, 1, none⟩ = some (.slice Ay ny cy) := by (rw [cell_of_row w3 _ _ _ _ _ kN]; rfl)); (have hr1 : w3.cell? ⟨w.heap.size, 0, none⟩ = some (.int .i64 0) := by (rw [cell_of_row w3 _ _ _ _ _ kA]; rfl)); (have hr2 : w3.cell? ⟨w.heap.size, 1, none⟩ = some (.slice none 0 0) := by (rw [cell_of_row w3 _ _ _ _ _ kA]; rfl)); (have hf1 : w3.frozen? ⟨w.heap.size, 0, none⟩ = false := blk_frozen kA _); (have hf2 : w3.frozen? ⟨w.heap.size, 1, none⟩ = false := blk_frozen kA _); (have HN := Aside0.mk (And.intro hN (And.intro hB5 hg))); (have KA3 := Aside0.mk kA); clear kN kA hN hB5 hg)
      all_goals
        go_wp2_with fail
        (try simp only [Exit.inBlock, Exit.then])
        refine bodyPost_ret (results_ct rfl _ _ w.heap.size 56 #[.int .i64 wy, .slice Ay ny cy] (0, 0) _ rfl (by (with_reducible repeat (first | refine blk_drewN ?_ _ | refine blk_drew ?_ | refine blk_alloc ?_ _)); refine blk_put (cs := #[.int .i64 wy, .slice none 0 0]) ?_ 1 _ rfl; (with_reducible repeat (first | refine blk_drewN ?_ _ | refine blk_drew ?_ | refine blk_alloc ?_ _)); refine blk_put (cs := #[.int .i64 0, .slice none 0 0]) ?_ 0 _ rfl; (with_reducible repeat (first | refine blk_drewN ?_ _ | refine blk_drew ?_ | refine blk_alloc ?_ _)); exact KA3.out) Try.underlying56 rfl (by kernel_rfl)) rfl ?_
        obtain ⟨hN, hB5, hg⟩ := HN.out
        have hle : leastAt ws = at' := by
          rw [HAT.out, leastAt, HW.out, List.length_map]
        have hwb : w0.heap.size ≤ w.heap.size := HB.out.size
        have hw3 : Below w.heap.size w3 ((w3.setCell ⟨w.heap.size, 0, none⟩ (.int .i64 wy)).setCell ⟨w.heap.size, 1, none⟩ (.slice Ay ny cy)) :=
          Below.setCell (p := ⟨w.heap.size, 1, none⟩) (Below.setCell (p := ⟨w.heap.size, 0, none⟩) (Below.refl _ _) (Nat.le_refl _) _) (Nat.le_refl _) _
        refine ⟨_, by rw [hle, HAT.out]; exact HY.out, rfl, ?_, ?_, ?_⟩
        · rw [hle]
          refine Kd.raw_any (Kd.R_far (Kd.R_far (Kd.raw_tight hN) ?_ _) ?_ _)
          all_goals (intro k hk; simp [Value.ownBlock] at hk ⊢; omega)
        · exact hB5.trans ⟨hw3.os, hw3.tape, hw3.output, hw3.size, fun k hk => hw3.block k (by omega)⟩
        · have h3 := HB3.out
          have h4 : w2.drew.heap.size = w2.heap.size := rfl
          exact ⟨hw3.os.trans (hg.os.trans h3.os), hw3.tape.trans (hg.tape.trans h3.tape), hw3.output.trans (hg.output.trans h3.output), by have := hg.size; have := h3.size; have := hw3.size; omega, fun k hk hne => (hw3.block k hk).trans ((hg.block k (by have := h3.size; omega) hne).trans (h3.block k hk))⟩

-- PART
end Go.Proofs.Ytaoeghdpmmeaiaa.P
