-- Written by a program of this session out of the translation. Lean checks it.
import Derived.Test.YtcjijhjdkgjgeaaPx0
import Derived.Test.YtcjijhjdkgjgeaaPx1
namespace Go.Proofs.Ytcjijhjdkgjgeaa.P
open Go.RowKit Go.Proofs.YtcjijhjdkgjgeaaW.PrintWords Go.Proofs.YtcjijhjdkgjgeaaW.PrintLast Go.Proofs.YtcjijhjdkgjgeaaW.PrintMore
attribute [local go_sem] max2_int min2_int max_two min_two max_three min_three max_four min_four   -- for this text's walks alone
set_option linter.unusedVariables false
set_option linter.unusedSimpArgs false

-- PART
/-! ### grow_reader_want: function 48 (by hand) -/
/-- What a reader of a stream has come to: where it is, what it told, how many blocks, the first error. -/
structure RSt where
  pos : Int
  out : List Int
  bl : Int
  er : Int
/-- A reader's block. -/
def Rdr (w0 W : World) (g : Nat) (b : List Int) (most : Int) (s : RSt) : Prop :=
  ∃ A0 c0 v3, W.heap[g]? = some (.cells #[.slice A0 b.length c0, .int .i64 s.pos, .int .i64 most, v3, .int .i64 s.bl, .int .i64 s.er] 49 (0, 0)) ∧ w0.heap.size ≤ g ∧ Kd.C (Kd.int .u8) w0 A0 b.length b ∧ b.length ≤ c0 ∧ Kd.R (Kd.int .u8) 5 W w0.heap.size (fun _ => True) v3 s.out
/-- Blocks of other types than bytes and readers stay. -/
def KeepT (W W' : World) : Prop := W.heap.size ≤ W'.heap.size ∧ ∀ (k : Nat) (cells : Array Value) (ty : TypeId), W.heap[k]? = some (.cells cells ty (0, 0)) → ty ≠ 5 → ty ≠ 49 → W'.heap[k]? = some (.cells cells ty (0, 0))
theorem KeepT.refl (W : World) : KeepT W W := ⟨Nat.le_refl _, fun _ _ _ h _ _ => h⟩
theorem KeepT.trans {W W1 W2 : World} (h : KeepT W W1) (k : KeepT W1 W2) : KeepT W W2 := ⟨Nat.le_trans h.1 k.1, fun i c t hi h5 h9 => k.2 i c t (h.2 i c t hi h5 h9) h5 h9⟩
theorem heap_lt {W : World} {k : Nat} {o : Obj} (h : W.heap[k]? = some o) : k < W.heap.size := (Array.getElem?_eq_some_iff.1 h).1
theorem KeepT.of_below {W W1 : World} (h : Below W.heap.size W W1) : KeepT W W1 := ⟨h.size, fun k c t hk _ _ => (h.block k (heap_lt hk)).trans hk⟩
theorem KeepT.below {W W1 W2 : World} (h : KeepT W W1) (k : Below W1.heap.size W1 W2) : KeepT W W2 := h.trans (KeepT.of_below k)
theorem KeepT.grown {W W1 : World} {row : Option Nat} (h : W.grownBy W1 row) (hr : ∀ g, row = some g → ∃ cs, W.heap[g]? = some (.cells cs 5 (0, 0))) : KeepT W W1 := by
  refine ⟨h.size, fun k c t hk h5 _ => (h.block k (heap_lt hk) fun hrow => ?_).trans hk⟩
  obtain ⟨cs, hc⟩ := hr k hrow.symm
  rw [hc] at hk
  injection hk with hk
  injection hk with _ ht
  exact h5 ht.symm
theorem KeepT.put {W : World} {g : Nat} {cs : Array Value} {fr : Nat × Nat} (hg : W.heap[g]? = some (.cells cs 49 fr)) (i : Nat) (v : Value) : KeepT W (W.setCell ⟨g, i, none⟩ v) := by
  refine ⟨by simp [World.setCell], fun k c t hk _ h9 => ?_⟩
  have hne : k ≠ g := by
    rintro rfl
    rw [hg] at hk
    injection hk with hk
    injection hk with _ ht
    exact h9 ht.symm
  exact blk_far (p := ⟨g, i, none⟩) hk hne v
/-- One of the four whole numbers of a reader, stored. -/
theorem Rdr.put {w0 W : World} {g : Nat} {cs : Array Value} {v3 : Value} {out : List Int} (hg : W.heap[g]? = some (.cells cs 49 (0, 0))) (ho : Kd.R (Kd.int .u8) 5 W w0.heap.size (fun _ => True) v3 out) (i : Nat) (v : Value) : Kd.R (Kd.int .u8) 5 (W.setCell ⟨g, i, none⟩ v) w0.heap.size (fun _ => True) v3 out :=
  Kd.R_mono (Kd.R_far (p := ⟨g, i, none⟩) (Kd.R_types ho hg (by decide)) (fun _ hk => hk.2) v) (fun _ hk => hk.1)
theorem Rdr.cells {w0 W : World} {g : Nat} {b : List Int} {most : Int} {s : RSt} (h : Rdr w0 W g b most s) : ∃ A0 c0 A3 c3, W.heap[g]? = some (.cells #[.slice A0 b.length c0, .int .i64 s.pos, .int .i64 most, .slice A3 s.out.length c3, .int .i64 s.bl, .int .i64 s.er] 49 (0, 0)) ∧ w0.heap.size ≤ g ∧ Kd.C (Kd.int .u8) w0 A0 b.length b ∧ b.length ≤ c0 ∧ Kd.R (Kd.int .u8) 5 W w0.heap.size (fun _ => True) (.slice A3 s.out.length c3) s.out := by
  obtain ⟨A0, c0, v3, h1, h2, h3, h4, h5⟩ := h
  obtain ⟨A3, c3, rfl⟩ := Kd.R_slice h5
  exact ⟨A0, c0, A3, c3, h1, h2, h3, h4, h5⟩
theorem Rdr.below {w0 W W1 : World} {g : Nat} {b : List Int} {most : Int} {s : RSt} (h : Rdr w0 W g b most s) (hb : Below W.heap.size W W1) : Rdr w0 W1 g b most s := by
  obtain ⟨A0, c0, v3, h1, h2, h3, h4, h5⟩ := h
  exact ⟨A0, c0, v3, (hb.block g (heap_lt h1)).trans h1, h2, h3, h4, Kd.R_below h5 hb⟩
/-- The first error is kept. -/
def wantS (s : RSt) (is : Bool) (e : Int) : RSt := if s.er = 0 ∧ is = false then { s with er := e } else s
theorem want_in {s : RSt} {is : Bool} {e : Int} (h : s.er = 0) (hi : is = true) : wantS s is e = s := by unfold wantS; rw [if_neg (by rw [hi]; simp)]
theorem cell_other (w : World) (g : Nat) {i j : Nat} (h : i ≠ j) (v : Value) : (w.setCell ⟨g, j, none⟩ v).cell? ⟨g, i, none⟩ = w.cell? ⟨g, i, none⟩ := by
  simp only [World.cell?, World.setCell]
  rw [Array.getElem?_modify, if_pos rfl]
  cases w.heap[g]? with
  | none => rfl
  | some o =>
    cases o <;> simp [Array.getElem?_setIfInBounds_ne, Ne.symm h]
set_option maxHeartbeats 8000000 in
set_option maxRecDepth 100000 in
theorem rdr_want2 (g : Nat) (b : List Int) (most : Int) (s : RSt) (is : Bool) (e : Int) (w0 w : World) (hR : Rdr w0 w g b most s) (hB : Below w0.heap.size w0 w) :
    Calls Try.prog 48 #[.pointer (some ⟨g, 0, none⟩), .bool is, .int .i64 e] w fun r w' => r = .returned (.bool ((wantS s is e).er == 0)) ∧ Rdr w0 w' g b most (wantS s is e) ∧ Below w0.heap.size w0 w' ∧ KeepT w w' ∧ (∀ i : Nat, i ≠ 5 → w'.cell? ⟨g, i, none⟩ = w.cell? ⟨g, i, none⟩) := by
  obtain ⟨A0, c0, A3, c3, hg, hge, hb, hc, ho⟩ := hR.cells
  have HG := Aside0.mk hg
  have HB := Aside0.mk hB
  have HC := Aside0.mk hb
  have HO := Aside0.mk ho
  have HR := Aside0.mk hR
  have hcz : w.cell? ⟨g, 5, none⟩ = some (.int .i64 s.er) := (blk_cell HG.out 5).trans rfl
  have hfz := blk_frozen HG.out 5
  clear hg hB hb ho hR
  go_enter Try.func48, Try.ntmps48
  by_cases h0 : s.er = 0
  · have d0 : (s.er == 0) = true := beq_iff_eq.2 h0
    cases is with
    | true =>
      go_wp2_with fail
      go_ret
      have e1 : wantS s true e = s := want_in h0 rfl
      rw [e1]
      exact ⟨by rw [d0]; rfl, HR.out, HB.out, KeepT.refl _, fun _ _ => rfl⟩
    | false =>
      have e1 : wantS s false e = { s with er := e } := by unfold wantS; rw [if_pos ⟨h0, rfl⟩]
      have hcz2 : (w.setCell ⟨g, 5, none⟩ (.int .i64 e)).cell? ⟨g, 5, none⟩ = some (.int .i64 e) := (blk_cell (blk_put HG.out 5 (.int .i64 e) rfl) 5).trans rfl
      go_wp2_with fail
      go_ret
      rw [e1]
      exact ⟨rfl, ⟨A0, c0, _, blk_put HG.out 5 (.int .i64 e) rfl, hge, HC.out, hc, Rdr.put HG.out HO.out 5 _⟩, HB.out.setCell (p := ⟨g, 5, none⟩) hge _, KeepT.put HG.out 5 _, fun i hi => cell_other w g hi _⟩
  · have d0 : (s.er == 0) = false := beq_eq_false_iff_ne.2 h0
    go_wp2_with fail
    go_ret
    have e1 : wantS s is e = s := by unfold wantS; rw [if_neg (fun h => h0 h.1)]
    rw [e1]
    exact ⟨by rw [d0]; rfl, HR.out, HB.out, KeepT.refl _, fun _ _ => rfl⟩
theorem rdr_want (g : Nat) (b : List Int) (most : Int) (s : RSt) (is : Bool) (e : Int) (w0 w : World) (hR : Rdr w0 w g b most s) (hB : Below w0.heap.size w0 w) :
    Calls Try.prog 48 #[.pointer (some ⟨g, 0, none⟩), .bool is, .int .i64 e] w fun r w' => r = .returned (.bool ((wantS s is e).er == 0)) ∧ Rdr w0 w' g b most (wantS s is e) ∧ Below w0.heap.size w0 w' ∧ KeepT w w' :=
  (rdr_want2 g b most s is e w0 w hR hB).mono fun _ _ h => ⟨h.1, h.2.1, h.2.2.1, h.2.2.2.1⟩
theorem rdr_want' (g : Nat) (b : List Int) (most : Int) (s : RSt) (is : Bool) (e : Int) (s1 : RSt) (w0 w : World) (hs : wantS s is e = s1) (hR : Rdr w0 w g b most s) (hB : Below w0.heap.size w0 w) :
    Calls Try.prog 48 #[.pointer (some ⟨g, 0, none⟩), .bool is, .int .i64 e] w fun r w' => r = .returned (.bool (s1.er == 0)) ∧ Rdr w0 w' g b most s1 ∧ Below w0.heap.size w0 w' ∧ KeepT w w' ∧ (∀ i : Nat, i ≠ 5 → w'.cell? ⟨g, i, none⟩ = w.cell? ⟨g, i, none⟩) := by
  have := rdr_want2 g b most s is e w0 w hR hB
  rw [hs] at this
  exact this

-- PART
end Go.Proofs.Ytcjijhjdkgjgeaa.P
namespace Go.Proofs.Ytcjijhjdkgjgeaa.P
open Go.RowKit Go.Proofs.YtcjijhjdkgjgeaaW.PrintWords Go.Proofs.YtcjijhjdkgjgeaaW.PrintLast Go.Proofs.YtcjijhjdkgjgeaaW.PrintMore
attribute [local go_sem] max2_int min2_int max_two min_two max_three min_three max_four min_four   -- for this text's walks alone
set_option linter.unusedVariables false
set_option linter.unusedSimpArgs false

/-! ### bits_Get: function 61 -/
mutual
def bits_Get.j0 : Nat → List Int → Int → Int → Int → Int → Bool → Option (Int × Int × Int)
  | 0, _, _, _, _, _, _ => none
  | k + 1, x0, x1, x2, x6, x9, x15 => if x15 = true then (some (0, 0, 1)) else (if (wrap64 (x9 - x1)) < x2 then (some (0, 0, 3)) else (bits_Get.l0 k x0 x1 x2 x6 x2 0))
def bits_Get.l0 : Nat → List Int → Int → Int → Int → Int → Int → Option (Int × Int × Int)
  | 0, _, _, _, _, _, _ => none
  | k + 1, x0, x1, x2, x6, x37, x38 => if x38 < x37 then (if 0 ≤ (wrap64 (Int.tdiv (wrap64 (x1 + x38)) 8)) then (if (wrap64 (Int.tdiv (wrap64 (x1 + x38)) 8)) < (x0.length : Int) then (if 0 ≤ (IntKind.u64.wrap (Int.tmod (wrap64 (x1 + x38)) 8)) then (if 0 ≤ (IntKind.u64.wrap (x38)) then (bits_Get.l0 k x0 x1 x2 (Go.bits .or .i64 x6 (shl .i64 (Go.bits .and .i64 (shr .i64 (wrap64 (rd x0 (wrap64 (Int.tdiv (wrap64 (x1 + x38)) 8)))) (IntKind.u64.wrap (Int.tmod (wrap64 (x1 + x38)) 8))) 1) (IntKind.u64.wrap (x38)))) x37 (wrap64 (x38 + 1))) else (none)) else (none)) else (none)) else (none)) else (some (x6, wrap64 (x1 + x2), 0))
end
def bits_Get.f (k : Nat) (l0 : List Int) (a1 : Int) (a2 : Int) : Option (Int × Int × Int) := if a2 < 0 then (bits_Get.j0 k l0 a1 a2 0 (wrap64 (8 * (l0.length : Int))) true) else (if a2 > 24 then (bits_Get.j0 k l0 a1 a2 0 (wrap64 (8 * (l0.length : Int))) true) else (if a1 < 0 then (bits_Get.j0 k l0 a1 a2 0 (wrap64 (8 * (l0.length : Int))) true) else (bits_Get.j0 k l0 a1 a2 0 (wrap64 (8 * (l0.length : Int))) (decide (a1 > (wrap64 (8 * (l0.length : Int))))))))
theorem bits_Get.mono_l : ∀ k, (∀ y0 y1 y2 y3 y4 y5, LeO (bits_Get.j0 k y0 y1 y2 y3 y4 y5) (bits_Get.j0 (k + 1) y0 y1 y2 y3 y4 y5)) ∧ (∀ y0 y1 y2 y3 y4 y5, LeO (bits_Get.l0 k y0 y1 y2 y3 y4 y5) (bits_Get.l0 (k + 1) y0 y1 y2 y3 y4 y5))
  | 0 => ⟨fun _ _ _ _ _ _ r h => by simp [bits_Get.j0] at h, fun _ _ _ _ _ _ r h => by simp [bits_Get.l0] at h⟩
  | k + 1 => by
    obtain ⟨ih0, ih1⟩ := bits_Get.mono_l k
    refine ⟨?_, ?_⟩
    · intro y0 y1 y2 y3 y4 y5
      unfold bits_Get.j0
      repeat' first
      | (with_reducible exact ih0 _ _ _ _ _ _)
      | (with_reducible exact ih1 _ _ _ _ _ _)
      | (with_reducible exact LeO.refl _)
      | (with_reducible exact LeO.none _)
      | (with_reducible refine LeO.ite ?_ ?_)
      | (with_reducible refine LeO.bind ?_ (fun _ => ?_))
      | exact ih0 _ _ _ _ _ _
      | exact ih1 _ _ _ _ _ _
      | exact LeO.none _
      | refine LeO.ite ?_ ?_
      | refine LeO.bind ?_ (fun _ => ?_)
    · intro y0 y1 y2 y3 y4 y5
      unfold bits_Get.l0
      repeat' first
      | (with_reducible exact ih0 _ _ _ _ _ _)
      | (with_reducible exact ih1 _ _ _ _ _ _)
      | (with_reducible exact LeO.refl _)
      | (with_reducible exact LeO.none _)
      | (with_reducible refine LeO.ite ?_ ?_)
      | (with_reducible refine LeO.bind ?_ (fun _ => ?_))
      | exact ih0 _ _ _ _ _ _
      | exact ih1 _ _ _ _ _ _
      | exact LeO.none _
      | refine LeO.ite ?_ ?_
      | refine LeO.bind ?_ (fun _ => ?_)
theorem bits_Get.mono : ∀ a0 a1 a2 k, LeO (bits_Get.f k a0 a1 a2) (bits_Get.f (k + 1) a0 a1 a2) := by
  intro a0 a1 a2 k
  obtain ⟨ih0, ih1⟩ := bits_Get.mono_l k
  unfold bits_Get.f
  repeat' first
      | (with_reducible exact ih0 _ _ _ _ _ _)
      | (with_reducible exact ih1 _ _ _ _ _ _)
      | (with_reducible exact LeO.refl _)
      | (with_reducible exact LeO.none _)
      | (with_reducible refine LeO.ite ?_ ?_)
      | (with_reducible refine LeO.bind ?_ (fun _ => ?_))
      | exact ih0 _ _ _ _ _ _
      | exact ih1 _ _ _ _ _ _
      | exact LeO.none _
      | refine LeO.ite ?_ ?_
      | refine LeO.bind ?_ (fun _ => ?_)
set_option maxHeartbeats 8000000 in
set_option maxRecDepth 100000 in
theorem bits_Get.calls (k : Nat) (A0 : Option Addr) (c0 : Nat) (l0 : List Int) (a1 : Int) (a2 : Int) (r1 : Int) (r2 : Int) (r3 : Int) (w : World) (hr0 : Kd.C (Kd.int .u8) w A0 l0.length l0) (hc0 : l0.length ≤ c0) (h : bits_Get.f k l0 a1 a2 = some (r1, r2, r3)) :
    Calls Try.prog 61 #[.slice A0 l0.length c0, .int .i64 a1, .int .i64 a2] w fun e w' => e = .returned (.tuple #[.int .i64 r1, .int .i64 r2, .int .i64 r3]) ∧ Drawn0 w w' := by
  have HR0 := Aside0.mk hr0
  have HC0 := Aside0.mk hc0
  clear hr0 hc0
  have H : (if a2 < 0 then (bits_Get.j0 k l0 a1 a2 0 (wrap64 (8 * (l0.length : Int))) true) else (if a2 > 24 then (bits_Get.j0 k l0 a1 a2 0 (wrap64 (8 * (l0.length : Int))) true) else (if a1 < 0 then (bits_Get.j0 k l0 a1 a2 0 (wrap64 (8 * (l0.length : Int))) true) else (bits_Get.j0 k l0 a1 a2 0 (wrap64 (8 * (l0.length : Int))) (decide (a1 > (wrap64 (8 * (l0.length : Int))))))))) = some (r1, r2, r3) := h
  clear h
  have HC4 := Aside0.mk H
  clear H
  go_enter Try.func61, Try.ntmps61
  go_upto_region 2 with (fail)
  go_cut [15] (fun v15 wc => ∃ (kq : Nat) (x15_3 : Bool), v15 = .bool x15_3 ∧ Aside0 (bits_Get.j0 kq l0 a1 a2 0 (wrap64 (8 * (l0.length : Int))) x15_3 = some (r1, r2, r3)) ∧ Aside0 (kq ≤ k) ∧ Drawn0 w wc)
  case first =>
    have H := HC4.out
    clear HC4
    by_cases c5 : a2 < 0
    · rw [if_pos c5] at H
      have c5b0 : decide (a2 < 0) = true := decide_eq_true c5
      clear c5
      (first | rw [c5b0] | (simp only [i64_w, i32_w]; rw [c5b0]) | skip)
      have H' := Aside0.mk H
      clear H
      go_wp2
      go_meet
      case rel => exact ⟨_, (true), (by first | rfl | (simp; done) | (simp [*]; done)), H', ⟨by first | omega | exact Nat.le_refl _⟩, by repeat (first | exact Drawn0.refl _ | apply Drawn0.step)⟩
    · rw [if_neg c5] at H
      have c5b0 : decide (a2 < 0) = false := decide_eq_false c5
      clear c5
      (first | rw [c5b0] | (simp only [i64_w, i32_w]; rw [c5b0]) | skip)
      by_cases c6 : a2 > 24
      · rw [if_pos c6] at H
        have c6b0 : decide (24 < a2) = true := decide_eq_true c6
        clear c6
        have H' := Aside0.mk H
        clear H
        go_wp2
        go_meet
        case rel => exact ⟨_, (true), (by first | rfl | (simp; done) | (simp [*]; done)), H', ⟨by first | omega | exact Nat.le_refl _⟩, by repeat (first | exact Drawn0.refl _ | apply Drawn0.step)⟩
      · rw [if_neg c6] at H
        have c6b0 : decide (24 < a2) = false := decide_eq_false c6
        clear c6
        by_cases c7 : a1 < 0
        · rw [if_pos c7] at H
          have c7b0 : decide (a1 < 0) = true := decide_eq_true c7
          clear c7
          have H' := Aside0.mk H
          clear H
          go_wp2
          go_meet
          case rel => exact ⟨_, (true), (by first | rfl | (simp; done) | (simp [*]; done)), H', ⟨by first | omega | exact Nat.le_refl _⟩, by repeat (first | exact Drawn0.refl _ | apply Drawn0.step)⟩
        · rw [if_neg c7] at H
          have c7b0 : decide (a1 < 0) = false := decide_eq_false c7
          clear c7
          have H' := Aside0.mk H
          clear H
          go_wp2
          go_meet
          case rel => exact ⟨_, (decide (a1 > (wrap64 (8 * (l0.length : Int))))), (by first | rfl | (simp; done) | (simp [*]; done)), H', ⟨by first | omega | exact Nat.le_refl _⟩, by repeat (first | exact Drawn0.refl _ | apply Drawn0.step)⟩
  case rest =>
    clear HC4
    try clear p2
    try clear c5
    try clear c5b0
    try clear c6
    try clear c6b0
    try clear p6
    try clear c7
    try clear c7b0
    obtain ⟨kq, x15_3, rfl, HA, HJ3, ⟨mc3, rfl⟩⟩ := hcut
    cases kq with
    | zero => exact absurd HA.out (by simp [bits_Get.j0])
    | succ kj3 =>
      have H := HA.out
      clear HA
      simp only [bits_Get.j0] at H
      by_cases c8 : x15_3 = true
      · subst c8
        have H1 : (some (0, 0, 1)) = some (r1, r2, r3) := by rw [if_pos rfl] at H; exact H
        clear H
        have H := H1
        clear H1
        simp only [Option.some.injEq, Prod.mk.injEq] at H
        obtain ⟨rfl, rfl, rfl⟩ := H
        go_wp2
        go_ret3
        exact ⟨by first | rfl | (simp; done) | (simp [*]; done), by repeat (first | exact Drawn0.refl _ | apply Drawn0.step)⟩
      · replace c8 := Bool.eq_false_iff.mpr c8
        subst c8
        have H1 : (if (wrap64 ((wrap64 (8 * (l0.length : Int))) - a1)) < a2 then (some (0, 0, 3)) else (bits_Get.l0 kj3 l0 a1 a2 0 a2 0)) = some (r1, r2, r3) := by rw [if_neg (show ¬ (false = true) by decide)] at H; exact H
        clear H
        have H := H1
        clear H1
        by_cases c9 : (wrap64 ((wrap64 (8 * (l0.length : Int))) - a1)) < a2
        · rw [if_pos c9] at H
          have c9b0 : decide ((wrap64 ((wrap64 (8 * (l0.length : Int))) - a1)) < a2) = true := decide_eq_true c9
          clear c9
          simp only [Option.some.injEq, Prod.mk.injEq] at H
          obtain ⟨rfl, rfl, rfl⟩ := H
          go_wp2
          go_ret3
          exact ⟨by first | rfl | (simp; done) | (simp [*]; done), by repeat (first | exact Drawn0.refl _ | apply Drawn0.step)⟩
        · rw [if_neg c9] at H
          have c9b0 : decide ((wrap64 ((wrap64 (8 * (l0.length : Int))) - a1)) < a2) = false := decide_eq_false c9
          clear c9
          have H' := Aside0.mk H
          clear H
          go_wp2
          go_loopg [6, 38] kj3 (fun kq v6 v38 w' => ∃ (x6_2 : Int) (x38_2 : Int), v6 = .int .i64 x6_2 ∧ v38 = .int .i64 x38_2 ∧ Aside0 (bits_Get.l0 kq l0 a1 a2 x6_2 a2 x38_2 = some (r1, r2, r3)) ∧ Aside0 (kq ≤ kj3) ∧ Drawn0 w w')
          case atStart => exact ⟨(0), (0), (by first | rfl | (simp; done) | (simp [*]; done)), (by first | rfl | (simp; done) | (simp [*]; done)), H', ⟨Nat.le_refl _⟩, by repeat (first | exact Drawn0.refl _ | apply Drawn0.step)⟩
          case round =>
            clear H'
            try clear p2
            try clear c3
            try clear c5
            try clear c5b0
            try clear c6
            try clear c6b0
            try clear p6
            try clear c7
            try clear c7b0
            try clear c8
            try clear c9
            try clear c9b0
            try clear p2
            try clear p6
            obtain ⟨x6_2, x38_2, rfl, rfl, HA, HK2, ⟨m2, rfl⟩⟩ := hrel
            cases gk with
            | zero => exact absurd HA.out (by simp [bits_Get.l0])
            | succ k2 =>
              have H := HA.out
              clear HA
              simp only [bits_Get.l0] at H
              by_cases c10 : x38_2 < a2
              · rw [if_pos c10] at H
                have c10b0 : decide (x38_2 < a2) = true := decide_eq_true c10
                clear c10
                obtain ⟨ji11, hji11⟩ : ∃ j_ : Int, (wrap64 (Int.tdiv (wrap64 (a1 + x38_2)) 8)) = j_ := ⟨_, rfl⟩
                replace H : (if 0 ≤ (ji11) then (if (ji11) < (l0.length : Int) then (if 0 ≤ (IntKind.u64.wrap (Int.tmod (wrap64 (a1 + x38_2)) 8)) then (if 0 ≤ (IntKind.u64.wrap (x38_2)) then (bits_Get.l0 k2 l0 a1 a2 (Go.bits .or .i64 x6_2 (shl .i64 (Go.bits .and .i64 (shr .i64 (wrap64 (rd l0 (ji11))) (IntKind.u64.wrap (Int.tmod (wrap64 (a1 + x38_2)) 8))) 1) (IntKind.u64.wrap (x38_2)))) a2 (wrap64 (x38_2 + 1))) else (none)) else (none)) else (none)) else (none)) = some (r1, r2, r3) := by first | (rw [hji11] at H; exact H) | (simp only [hji11] at H ⊢; exact H)
                have hji11w : (IntKind.i64.wrap (Int.tdiv (wrap64 (a1 + x38_2)) 8)) = ji11 := (i64_w _).trans hji11
                by_cases c12 : 0 ≤ (ji11)
                · rw [if_pos c12] at H
                  have c12b0 : decide (0 ≤ (ji11)) = true := decide_eq_true c12
                  clear c12
                  by_cases c13 : (ji11) < (l0.length : Int)
                  · rw [if_pos c13] at H
                    have c13b0 : decide ((ji11) < (l0.length : Int)) = true := decide_eq_true c13
                    clear c13
                    obtain ⟨ji14, hji14⟩ : ∃ j_ : Int, (IntKind.u64.wrap (Int.tmod (wrap64 (a1 + x38_2)) 8)) = j_ := ⟨_, rfl⟩
                    replace H : (if 0 ≤ (ji14) then (if 0 ≤ (IntKind.u64.wrap (x38_2)) then (bits_Get.l0 k2 l0 a1 a2 (Go.bits .or .i64 x6_2 (shl .i64 (Go.bits .and .i64 (shr .i64 (wrap64 (rd l0 (ji11))) (ji14)) 1) (IntKind.u64.wrap (x38_2)))) a2 (wrap64 (x38_2 + 1))) else (none)) else (none)) = some (r1, r2, r3) := by first | (rw [hji14] at H; exact H) | (simp only [hji14] at H ⊢; exact H)
                    by_cases c15 : 0 ≤ (ji14)
                    · rw [if_pos c15] at H
                      have c15b0 := eq_true c15
                      have c15b1 : decide (0 ≤ (ji14)) = true := decide_eq_true c15
                      clear c15
                      obtain ⟨ji16, hji16⟩ : ∃ j_ : Int, (shr .i64 (wrap64 (rd l0 (ji11))) (ji14)) = j_ := ⟨_, rfl⟩
                      replace H : (if 0 ≤ (IntKind.u64.wrap (x38_2)) then (bits_Get.l0 k2 l0 a1 a2 (Go.bits .or .i64 x6_2 (shl .i64 (Go.bits .and .i64 (ji16) 1) (IntKind.u64.wrap (x38_2)))) a2 (wrap64 (x38_2 + 1))) else (none)) = some (r1, r2, r3) := by first | (rw [hji16] at H; exact H) | (simp only [hji16] at H ⊢; exact H)
                      have hji16_ : ((wrap64 (rd l0 (ji11))) / 2 ^ min (ji14).toNat 64) = ji16 := hji16
                      have hji16z : (ji14) ≤ 64 → ((wrap64 (rd l0 (ji11))) / 2 ^ (ji14).toNat) = ji16 := shr_small hji16
                      obtain ⟨ji17, hji17⟩ : ∃ j_ : Int, (IntKind.u64.wrap (x38_2)) = j_ := ⟨_, rfl⟩
                      replace H : (if 0 ≤ (ji17) then (bits_Get.l0 k2 l0 a1 a2 (Go.bits .or .i64 x6_2 (shl .i64 (Go.bits .and .i64 (ji16) 1) (ji17))) a2 (wrap64 (x38_2 + 1))) else (none)) = some (r1, r2, r3) := by first | (rw [hji17] at H; exact H) | (simp only [hji17] at H ⊢; exact H)
                      by_cases c18 : 0 ≤ (ji17)
                      · rw [if_pos c18] at H
                        have c18b0 := eq_true c18
                        have c18b1 : decide (0 ≤ (ji17)) = true := decide_eq_true c18
                        clear c18
                        obtain ⟨ji19, hji19⟩ : ∃ j_ : Int, (shl .i64 (Go.bits .and .i64 (ji16) 1) (ji17)) = j_ := ⟨_, rfl⟩
                        replace H : (bits_Get.l0 k2 l0 a1 a2 (Go.bits .or .i64 x6_2 (ji19)) a2 (wrap64 (x38_2 + 1))) = some (r1, r2, r3) := by first | (rw [hji19] at H; exact H) | (simp only [hji19] at H ⊢; exact H)
                        have hji19_ : (IntKind.i64.wrap ((Go.bits .and .i64 (ji16) 1) * 2 ^ min (ji17).toNat 64)) = ji19 := hji19
                        have hji19z : (ji17) ≤ 64 → (IntKind.i64.wrap ((Go.bits .and .i64 (ji16) 1) * 2 ^ (ji17).toNat)) = ji19 := shl_small hji19
                        have hji19y : (wrap64 ((Go.bits .and .i64 (ji16) 1) * 2 ^ min (ji17).toNat 64)) = ji19 := (i64_w _).symm.trans hji19_
                        have hji19x : (ji17) ≤ 64 → (wrap64 ((Go.bits .and .i64 (ji16) 1) * 2 ^ (ji17).toNat)) = ji19 := fun h_ => (i64_w _).symm.trans (hji19z h_)
                        have H' := Aside0.mk H
                        clear H
                        have p116 : 0 ≤ ((ji11) : Int) := of_decide_eq_true (by first | (with_reducible assumption) | assumption)
                        have q116 : (ji11) < (l0.length : Int) := of_decide_eq_true (by first | (with_reducible assumption) | assumption)
                        obtain ⟨ad116, e116, hx116_0⟩ := Kd.at_int HR0.out (ji11) p116 q116
                        cases e116
                        replace p116 := eq_true p116
                        replace q116 := eq_true q116
                        go_wp2
                        go_roundg k2
                        case measure => have := HJ3.out; have := HK2.out; omega
                        case rel => exact ⟨(Go.bits .or .i64 x6_2 (ji19)), (wrap64 (x38_2 + 1)), (by first | rfl | (simp; done) | (simp only [← hji19] <;> (first | rfl | simp)) | (simp [*]; done)), (by first | rfl | (simp; done) | (simp [*]; done)), H', ⟨by have := HJ3.out; have := HK2.out; omega⟩, by repeat (first | exact Drawn0.refl _ | apply Drawn0.step)⟩
                      · rw [if_neg c18] at H
                        exact absurd H (by simp)
                    · rw [if_neg c15] at H
                      exact absurd H (by simp)
                  · rw [if_neg c13] at H
                    exact absurd H (by simp)
                · rw [if_neg c12] at H
                  exact absurd H (by simp)
              · rw [if_neg c10] at H
                have c10b0 : decide (x38_2 < a2) = false := decide_eq_false c10
                clear c10
                simp only [Option.some.injEq, Prod.mk.injEq] at H
                obtain ⟨rfl, rfl, rfl⟩ := H
                go_wp2
                go_ret3
                exact ⟨by first | rfl | (simp; done) | (simp [*]; done), by repeat (first | exact Drawn0.refl _ | apply Drawn0.step)⟩

end Go.Proofs.Ytcjijhjdkgjgeaa.P
namespace Go.Proofs.Ytcjijhjdkgjgeaa.P
open Go.RowKit Go.Proofs.YtcjijhjdkgjgeaaW.PrintWords Go.Proofs.YtcjijhjdkgjgeaaW.PrintLast Go.Proofs.YtcjijhjdkgjgeaaW.PrintMore
attribute [local go_sem] max2_int min2_int max_two min_two max_three min_three max_four min_four   -- for this text's walks alone
set_option linter.unusedVariables false
set_option linter.unusedSimpArgs false

-- PART
/-! ### grow_reader_take: function 43 (by hand) -/
/-- A number of so many bits. -/
def takeS (b : List Int) (s : RSt) (n : Int) : Option (Int × RSt) :=
  if s.er ≠ 0 then some (0, s) else (bits_Get.f 40 b s.pos n).bind fun r => if r.2.2 = 0 then some (r.1, { s with pos := r.2.1 }) else some (0, { s with er := 3 })
set_option maxHeartbeats 8000000 in
set_option maxRecDepth 100000 in
theorem rdr_take (g : Nat) (b : List Int) (most : Int) (s : RSt) (n : Int) (v : Int) (s1 : RSt) (w0 w : World) (hR : Rdr w0 w g b most s) (hB : Below w0.heap.size w0 w) (h : takeS b s n = some (v, s1)) :
    Calls Try.prog 43 #[.pointer (some ⟨g, 0, none⟩), .int .i64 n] w fun r w' => r = .returned (.int .i64 v) ∧ Rdr w0 w' g b most s1 ∧ Below w0.heap.size w0 w' ∧ KeepT w w' := by
  obtain ⟨A0, c0, A3, c3, hg, hge, hb, hc, ho⟩ := hR.cells
  have HG := Aside0.mk hg
  have HB := Aside0.mk hB
  have HC := Aside0.mk hb
  have HO := Aside0.mk ho
  have HR := Aside0.mk hR
  have H := Aside0.mk h
  have hcz0 : w.cell? ⟨g, 0, none⟩ = some (.slice A0 b.length c0) := (blk_cell HG.out 0).trans rfl
  have hcz1 : w.cell? ⟨g, 1, none⟩ = some (.int .i64 s.pos) := (blk_cell HG.out 1).trans rfl
  have hcz5 : w.cell? ⟨g, 5, none⟩ = some (.int .i64 s.er) := (blk_cell HG.out 5).trans rfl
  clear hg hB hb ho hR h
  go_enter Try.func43, Try.ntmps43
  by_cases h0 : s.er = 0
  · have d0 : (s.er != 0) = false := by rw [h0]; rfl
    have h1 := H.out
    unfold takeS at h1
    rw [if_neg (by rw [h0]; simp)] at h1
    obtain ⟨⟨r1, r2, r3⟩, hr, h2⟩ := Option.bind_eq_some_iff.1 h1
    have HGet := Aside0.mk hr
    have H2 := Aside0.mk h2
    clear h1 hr h2 H
    go_upto_region 3 with fail
    go_region_with (go_at_call 61; refine (bits_Get.calls 40 _ _ b s.pos n r1 r2 r3 w.drew (Kd.C_below HC.out HB.out.drew) hc HGet.out).mono ?_; rintro e w1 ⟨rfl, hd⟩; have HD := Aside0.mk hd; clear hd)
    all_goals
      have hb1 : Below w.heap.size w w1 := below_then (Below.refl _ _).drew (Nat.le_refl _) HD.out.below
      have HR1 := Aside0.mk (HR.out.below hb1)
      have HB1 := Aside0.mk (show Below w0.heap.size w0 w1 from below_then HB.out HB.out.size hb1)
      have HK1 := Aside0.mk (KeepT.of_below hb1)
      clear hcz0 hcz1 hcz5 hb1 HD HG
      go_wp2_with fail
      refine (rdr_want g b most s (r3 == 0) 3 w0 w1 HR1.out HB1.out).mono ?_
      rintro e w2 ⟨rfl, hR2, hB2, hK2⟩
      by_cases h3 : r3 = 0
      · have e1 : wantS s (r3 == 0) 3 = s := want_in h0 (beq_iff_eq.2 h3)
        rw [e1] at hR2 ⊢
        have d1 : (s.er == 0) = true := beq_iff_eq.2 h0
        have h4 := H2.out
        rw [if_pos h3] at h4
        injection h4 with h4
        injection h4 with h4 h5
        subst h4 h5
        obtain ⟨A1, c1, A4, c4, hg2, hge2, hb2, hc2, ho2⟩ := hR2.cells
        have HG2 := Aside0.mk hg2
        have HB2 := Aside0.mk hB2
        have HO2 := Aside0.mk ho2
        have HK2 := Aside0.mk hK2
        have HC2 := Aside0.mk hb2
        have hfz := blk_frozen HG2.out 1
        have hczs : w2.cell? ⟨g, 1, none⟩ = some (.int .i64 s.pos) := (blk_cell HG2.out 1).trans rfl
        clear hg2 hB2 ho2 hK2 hb2 hR2 e1
        go_wp2_with fail
        go_ret
        exact ⟨rfl, ⟨A1, c1, _, blk_put HG2.out 1 (.int .i64 r2) rfl, hge2, HC2.out, hc2, Rdr.put HG2.out HO2.out 1 _⟩, HB2.out.setCell (p := ⟨g, 1, none⟩) hge2 _, (HK1.out.trans HK2.out).trans (KeepT.put HG2.out 1 _)⟩
      · have e1 : wantS s (r3 == 0) 3 = { s with er := 3 } := by unfold wantS; rw [if_pos ⟨h0, beq_eq_false_iff_ne.2 h3⟩]
        rw [e1] at hR2 ⊢
        have h4 := H2.out
        rw [if_neg h3] at h4
        injection h4 with h4
        injection h4 with h4 h5
        subst h4 h5
        have HR2 := Aside0.mk hR2
        have HB2 := Aside0.mk hB2
        have HK2 := Aside0.mk hK2
        clear hR2 hB2 hK2 e1
        go_wp2_with fail
        go_ret
        exact ⟨rfl, HR2.out, HB2.out, HK1.out.trans HK2.out⟩
  · have d0 : (s.er != 0) = true := bne_iff_ne.2 h0
    go_wp2_with fail
    go_ret
    have h1 := H.out
    unfold takeS at h1
    rw [if_pos h0] at h1
    injection h1 with h1
    injection h1 with h1 h2
    subst h1 h2
    exact ⟨rfl, HR.out, HB.out, KeepT.refl _⟩

-- PART
end Go.Proofs.Ytcjijhjdkgjgeaa.P
namespace Go.Proofs.Ytcjijhjdkgjgeaa.P
open Go.RowKit Go.Proofs.YtcjijhjdkgjgeaaW.PrintWords Go.Proofs.YtcjijhjdkgjgeaaW.PrintLast Go.Proofs.YtcjijhjdkgjgeaaW.PrintMore
attribute [local go_sem] max2_int min2_int max_two min_two max_three min_three max_four min_four   -- for this text's walks alone
set_option linter.unusedVariables false
set_option linter.unusedSimpArgs false

-- PART
/-! ### grow_reader_pad: function 49 (by hand) -/
/-- Noughts up to a whole byte. -/
def padS (b : List Int) (s : RSt) : Option RSt := if 0 ≤ s.pos ∧ s.pos ≤ 1099511627776 then (takeS b s (((8 - s.pos.toNat % 8) % 8 : Nat) : Int)).bind fun r => some (wantS r.2 (r.1 == 0) 3) else none
set_option maxHeartbeats 8000000 in
set_option maxRecDepth 100000 in
theorem rdr_pad (g : Nat) (b : List Int) (most : Int) (s : RSt) (s1 : RSt) (w0 w : World) (hR : Rdr w0 w g b most s) (hB : Below w0.heap.size w0 w) (h : padS b s = some s1) :
    Calls Try.prog 49 #[.pointer (some ⟨g, 0, none⟩)] w fun r w' => r = .returned (.tuple #[]) ∧ Rdr w0 w' g b most s1 ∧ Below w0.heap.size w0 w' ∧ KeepT w w' := by
  obtain ⟨A0, c0, A3, c3, hg, hge, hb, hc, ho⟩ := hR.cells
  by_cases hrange : 0 ≤ s.pos ∧ s.pos ≤ 1099511627776
  rotate_left
  · unfold padS at h
    rw [if_neg hrange] at h
    cases h
  obtain ⟨h0, h1⟩ := hrange
  obtain ⟨p, hp⟩ : ∃ p : Nat, s.pos = (p : Int) := ⟨s.pos.toNat, by omega⟩
  have HB := Aside0.mk hB
  have HR := Aside0.mk hR
  unfold padS at h
  rw [if_pos ⟨h0, h1⟩] at h
  rw [hp] at h hg h1
  rw [Int.toNat_natCast] at h
  have hcz1 : w.cell? ⟨g, 1, none⟩ = some (.int .i64 (p : Int)) := (blk_cell hg 1).trans rfl
  obtain ⟨⟨v, s2⟩, ht, h2⟩ := Option.bind_eq_some_iff.1 h
  injection h2 with h2
  have HT := Aside0.mk ht
  have H2 := Aside0.mk h2
  clear hg hB hb ho hR h ht h2 h0 hp
  go_enter Try.func49, Try.ntmps49
  go_wp2_with fail
  rw [show (-((p : Int) % 8) % 8) = (((8 - p % 8) % 8 : Nat) : Int) from by omega]
  refine (rdr_take g b most s _ v s2 w0 w HR.out HB.out HT.out).mono ?_
  rintro e w1 ⟨rfl, hR1, hB1, hK1⟩
  have HR1 := Aside0.mk hR1
  have HB1 := Aside0.mk hB1
  have HK1 := Aside0.mk hK1
  clear hR1 hB1 hK1 hcz1
  go_wp2_with fail
  refine (rdr_want g b most s2 (v == 0) 3 w0 w1 HR1.out HB1.out).mono ?_
  rintro e w2 ⟨rfl, hR2, hB2, hK2⟩
  rw [H2.out] at hR2 ⊢
  have HR2 := Aside0.mk hR2
  have HB2 := Aside0.mk hB2
  have HK2 := Aside0.mk hK2
  clear hR2 hB2 hK2
  go_wp2_with fail
  go_end0
  exact ⟨rfl, HR2.out, HB2.out, HK1.out.trans HK2.out⟩

-- PART
end Go.Proofs.Ytcjijhjdkgjgeaa.P
namespace Go.Proofs.Ytcjijhjdkgjgeaa.P
open Go.RowKit Go.Proofs.YtcjijhjdkgjgeaaW.PrintWords Go.Proofs.YtcjijhjdkgjgeaaW.PrintLast Go.Proofs.YtcjijhjdkgjgeaaW.PrintMore
attribute [local go_sem] max2_int min2_int max_two min_two max_three min_three max_four min_four   -- for this text's walks alone
set_option linter.unusedVariables false
set_option linter.unusedSimpArgs false

-- PART
/-! ### grow_reader_tell: function 62 (by hand) -/
/-- A byte is told, where there is room. -/
def tellS (most : Int) (s : RSt) (c : Int) : RSt := if (wantS s (decide ((s.out.length : Int) < most)) 2).er = 0 then { wantS s (decide ((s.out.length : Int) < most)) 2 with out := s.out ++ [c] } else wantS s (decide ((s.out.length : Int) < most)) 2
theorem wantS_out (s : RSt) (is : Bool) (e : Int) : (wantS s is e).out = s.out ∧ (wantS s is e).pos = s.pos ∧ (wantS s is e).bl = s.bl := by
  unfold wantS
  split <;> exact ⟨rfl, rfl, rfl⟩
set_option maxHeartbeats 8000000 in
set_option maxRecDepth 100000 in
theorem rdr_tell (g : Nat) (b : List Int) (most : Int) (s : RSt) (c : Int) (w0 w : World) (hR : Rdr w0 w g b most s) (hB : Below w0.heap.size w0 w) (hl : s.out.length ≤ 1000000000) :
    Calls Try.prog 62 #[.pointer (some ⟨g, 0, none⟩), .int .u8 c] w fun r w' => r = .returned (.tuple #[]) ∧ Rdr w0 w' g b most (tellS most s c) ∧ Below w0.heap.size w0 w' ∧ KeepT w w' := by
  obtain ⟨A0, c0, A3, c3, hg, hge, hb, hc, ho⟩ := hR.cells
  have HG := Aside0.mk hg
  have HB := Aside0.mk hB
  have HO := Aside0.mk ho
  have HR := Aside0.mk hR
  have HL := Aside0.mk hl
  have hcz2 : w.cell? ⟨g, 2, none⟩ = some (.int .i64 most) := (blk_cell HG.out 2).trans rfl
  have hcz3 : w.cell? ⟨g, 3, none⟩ = some (.slice A3 s.out.length c3) := (blk_cell HG.out 3).trans rfl
  clear hg hB hb ho hR hl
  go_enter Try.func62, Try.ntmps62
  go_upto_region 0 with fail
  go_region_with (go_at_call 48; refine (rdr_want g b most s (decide ((s.out.length : Int) < most)) 2 w0 w.drew (HR.out.below (Below.refl _ _).drew) HB.out.drew).mono ?_; rintro e w1 ⟨rfl, hR1, hB1, hK1⟩; have HR1 := Aside0.mk hR1; have HB1 := Aside0.mk hB1; have HK1 := Aside0.mk hK1; clear hR1 hB1 hK1)
  all_goals
    have HK2 := Aside0.mk ((KeepT.of_below (Below.refl _ w).drew).trans HK1.out)
    obtain ⟨e1, e2, e3⟩ := wantS_out s (decide ((s.out.length : Int) < most)) 2
    have HT := Aside0.mk (show tellS most s c = if (wantS s (decide ((s.out.length : Int) < most)) 2).er = 0 then { wantS s (decide ((s.out.length : Int) < most)) 2 with out := s.out ++ [c] } else wantS s (decide ((s.out.length : Int) < most)) 2 from rfl)
    have HE := Aside0.mk e1
    clear e1 e2 e3 HK1 hcz2 hcz3 HG HO
    generalize wantS s (decide ((s.out.length : Int) < most)) 2 = s1 at HR1 HT HE ⊢
    by_cases h0 : s1.er = 0
    · have d0 : (s1.er == 0) = true := beq_iff_eq.2 h0
      obtain ⟨A1, c1, A4, c4, hg2, hge2, hb2, hc2, ho2⟩ := HR1.out.cells
      have HG2 := Aside0.mk hg2
      have HO2 := Aside0.mk ho2
      have HC2 := Aside0.mk hb2
      have hcz3 : w1.cell? ⟨g, 3, none⟩ = some (.slice A4 s1.out.length c4) := (blk_cell HG2.out 3).trans rfl
      have hfz3 := blk_frozen HG2.out 3
      clear hg2 hb2 ho2
      go_wp2_with ((with_reducible refine gate_builtin (b := .append) (xs := #[.tmp 20, .tmp 22]) rfl ?_); at_builtin; refine Kd.R_append (Kd.int .u8) (w0 := w0) w0.heap.size rfl (.tmp 20) (.tmp 22) 22 5 (.int .u8 0) 1 rfl Try.underlying22 info5 rfl (by decide) (by omega) (.slice A4 s1.out.length c4) s1.out c [.int .u8 c] (fun _ => True) (fun _ => False) rfl rfl rfl (fun _ hk => hk.elim) (fun _ _ => trivial) HO2.out HB1.out HB1.out.size (by rw [HE.out]; have := HL.out; omega) ?_; intro v5 w5 ho hb hg hat; (obtain ⟨A5, c5, e5⟩ := Kd.R_slice ho); (subst e5); (have HN5 := Aside0.mk (And.intro ho (And.intro hb hg))); (have hcz5 : w5.cell? ⟨g, 3, none⟩ = some (.slice A4 s1.out.length c4) := (blk_cell (blk_grown HG2.out hg (Kd.R_ne HO2.out HG2.out (by decide))) 3).trans rfl); (have hfz5 : w5.frozen? ⟨g, 3, none⟩ = false := blk_frozen (blk_grown HG2.out hg (Kd.R_ne HO2.out HG2.out (by decide))) 3); clear ho hb hg hat)
      go_end0
      obtain ⟨ho, hb, hgr⟩ := HN5.out
      have HG5 := blk_grown HG2.out hgr (Kd.R_ne HO2.out HG2.out (by decide))
      rw [HT.out, if_pos h0, ← HE.out]
      have ho2 : Kd.R (Kd.int .u8) 5 w5 w0.heap.size (fun _ => True) (.slice A5 (s1.out.length + 1) c5) (s1.out ++ [c]) := by
        have e : s1.out.length + 1 = (s1.out ++ [c]).length := by simp
        rw [e]
        exact ho
      refine ⟨rfl, ⟨A1, c1, _, blk_put HG5 3 _ rfl, hge2, HC2.out, hc2, Rdr.put HG5 ho2 3 _⟩, hb.setCell (p := ⟨g, 3, none⟩) hge2 _, (HK2.out.trans (KeepT.grown hgr fun r hr => ?_)).trans (KeepT.put HG5 3 _)⟩
      exact own_typed (Kd.own_of_R HO2.out) r hr
    · have d0 : (s1.er == 0) = false := beq_eq_false_iff_ne.2 h0
      go_wp2_with fail
      go_end0
      rw [HT.out, if_neg h0]
      exact ⟨rfl, HR1.out, HB1.out, HK2.out⟩

-- PART
end Go.Proofs.Ytcjijhjdkgjgeaa.P
namespace Go.Proofs.Ytcjijhjdkgjgeaa.P
open Go.RowKit Go.Proofs.YtcjijhjdkgjgeaaW.PrintWords Go.Proofs.YtcjijhjdkgjgeaaW.PrintLast Go.Proofs.YtcjijhjdkgjgeaaW.PrintMore
attribute [local go_sem] max2_int min2_int max_two min_two max_three min_three max_four min_four   -- for this text's walks alone
set_option linter.unusedVariables false
set_option linter.unusedSimpArgs false

-- PART
/-! ### grow_reader_stored: function 44 (by hand) -/
/-- So many bytes as they are. -/
def storedL (b : List Int) (most : Int) : Nat → RSt → Option RSt
  | 0, s => some s
  | n + 1, s => if s.er ≠ 0 then some s else (takeS b s 8).bind fun r => if r.2.out.length ≤ 1000000000 then storedL b most n (tellS most r.2 (r.1 % 256)) else none
def storedS (b : List Int) (most : Int) (s : RSt) : Option RSt :=
  (padS b s).bind fun s1 => (takeS b s1 16).bind fun r1 => (takeS b r1.2 16).bind fun r2 =>
    if (wantS r2.2 (Go.bits .xor .i64 r1.1 65535 == r2.1) 3).er ≠ 0 then some (wantS r2.2 (Go.bits .xor .i64 r1.1 65535 == r2.1) 3)
    else if 0 ≤ r1.1 ∧ r1.1 ≤ 1000000 then storedL b most r1.1.toNat (wantS r2.2 (Go.bits .xor .i64 r1.1 65535 == r2.1) 3) else none
set_option maxHeartbeats 8000000 in
set_option maxRecDepth 100000 in
theorem rdr_stored (g : Nat) (b : List Int) (most : Int) (s : RSt) (sr : RSt) (w0 w : World) (hR : Rdr w0 w g b most s) (hB : Below w0.heap.size w0 w) (h : storedS b most s = some sr) :
    Calls Try.prog 44 #[.pointer (some ⟨g, 0, none⟩)] w fun r w' => r = .returned (.tuple #[]) ∧ Rdr w0 w' g b most sr ∧ Below w0.heap.size w0 w' ∧ KeepT w w' := by
  unfold storedS at h
  obtain ⟨s1, ha, h⟩ := Option.bind_eq_some_iff.1 h
  obtain ⟨⟨v1, s2⟩, hb, h⟩ := Option.bind_eq_some_iff.1 h
  obtain ⟨⟨v2, s3⟩, hc, h⟩ := Option.bind_eq_some_iff.1 h
  have HA := Aside0.mk ha
  have HBb := Aside0.mk hb
  have HC := Aside0.mk hc
  have H := Aside0.mk h
  clear ha hb hc h
  go_enter Try.func44, Try.ntmps44
  go_wp2_with fail
  refine (rdr_pad g b most s s1 w0 w hR hB HA.out).mono ?_
  rintro e w1 ⟨rfl, hR1, hB1, hK1⟩
  have HR1 := Aside0.mk hR1
  have HB1 := Aside0.mk hB1
  have HK1 := Aside0.mk hK1
  clear hR1 hB1 hK1 hR hB
  go_wp2_with fail
  refine (rdr_take g b most s1 16 v1 s2 w0 w1 HR1.out HB1.out HBb.out).mono ?_
  rintro e w2 ⟨rfl, hR2, hB2, hK2⟩
  have HR2 := Aside0.mk hR2
  have HB2 := Aside0.mk hB2
  have HK2 := Aside0.mk (HK1.out.trans hK2)
  clear hR2 hB2 hK2 HR1 HB1 HK1
  go_wp2_with fail
  refine (rdr_take g b most s2 16 v2 s3 w0 w2 HR2.out HB2.out HC.out).mono ?_
  rintro e w3 ⟨rfl, hR3, hB3, hK3⟩
  have HR3 := Aside0.mk hR3
  have HB3 := Aside0.mk hB3
  have HK3 := Aside0.mk (HK2.out.trans hK3)
  clear hR3 hB3 hK3 HR2 HB2 HK2
  go_wp2_with fail
  refine (rdr_want g b most s3 (Go.bits .xor .i64 v1 65535 == v2) 3 w0 w3 HR3.out HB3.out).mono ?_
  rintro e w4 ⟨rfl, hR4, hB4, hK4⟩
  have HR4 := Aside0.mk hR4
  have HB4 := Aside0.mk hB4
  have HK4 := Aside0.mk (HK3.out.trans hK4)
  clear hR4 hB4 hK4 HR3 HB3 HK3 HA HBb HC
  generalize wantS s3 (Go.bits .xor .i64 v1 65535 == v2) 3 = s4 at H HR4 ⊢
  by_cases h0 : s4.er = 0
  · have d0 : (s4.er == 0) = true := beq_iff_eq.2 h0
    have h := H.out
    rw [if_neg (by rw [h0]; simp)] at h
    by_cases hv : 0 ≤ v1 ∧ v1 ≤ 1000000
    · rw [if_pos hv] at h
      obtain ⟨n, rfl⟩ : ∃ n : Nat, v1 = (n : Int) := ⟨v1.toNat, by omega⟩
      rw [Int.toNat_natCast] at h
      have hn : n ≤ 1000000 := by omega
      have HL := Aside0.mk h
      clear h H hv d0
      go_wp2_with fail
      go_loopg [2] n (fun kq v2 w' => ∃ (i : Nat) (si : RSt), v2 = .int .i64 i ∧ i ≤ n ∧ Aside0 (kq = i) ∧ Aside0 (storedL b most i si = some sr) ∧ Aside0 (Rdr w0 w' g b most si) ∧ Aside0 (Below w0.heap.size w0 w') ∧ Aside0 (KeepT w w'))
      case atStart => exact ⟨n, s4, rfl, Nat.le_refl _, ⟨rfl⟩, HL, HR4, HB4, HK4⟩
      case round =>
        clear HL HR4 HB4 HK4
        obtain ⟨i, si, rfl, hi, HG, HL, HR, HB, HK⟩ := hrel
        obtain ⟨A0, c0, A3, c3, hg, hge, hb, hc, ho⟩ := HR.out.cells
        have hcz5 : wr.cell? ⟨g, 5, none⟩ = some (.int .i64 si.er) := (blk_cell hg 5).trans rfl
        clear hg hb ho hc
        match i, hi, HG, HL with
        | 0, hi, HG, HL =>
          go_wp2_with fail
          go_end0
          have h := HL.out
          unfold storedL at h
          injection h with h
          subst h
          exact ⟨rfl, HR.out, HB.out, HK.out⟩
        | i + 1, hi, HG, HL =>
          by_cases he : si.er = 0
          · have d1 : (si.er == 0) = true := beq_iff_eq.2 he
            have h := HL.out
            unfold storedL at h
            rw [if_neg (by rw [he]; simp)] at h
            obtain ⟨⟨v3, s5⟩, ht, h⟩ := Option.bind_eq_some_iff.1 h
            by_cases hol : s5.out.length ≤ 1000000000
            rotate_left
            · rw [if_neg hol] at h; cases h
            rw [if_pos hol] at h
            have HT := Aside0.mk ht
            have HL2 := Aside0.mk h
            have HO5 := Aside0.mk hol
            clear h ht hol HL
            go_wp2_with fail
            refine (rdr_take g b most si 8 v3 s5 w0 wr HR.out HB.out HT.out).mono ?_
            rintro e w5 ⟨rfl, hR5, hB5, hK5⟩
            have HR5 := Aside0.mk hR5
            have HB5 := Aside0.mk hB5
            have HK5 := Aside0.mk (HK.out.trans hK5)
            clear hR5 hB5 hK5 HR HB HK hcz5
            go_wp2_with fail
            refine (rdr_tell g b most s5 (v3 % 256) w0 w5 HR5.out HB5.out HO5.out).mono ?_
            rintro e w6 ⟨rfl, hR6, hB6, hK6⟩
            have HR6 := Aside0.mk hR6
            have HB6 := Aside0.mk hB6
            have HK6 := Aside0.mk (HK5.out.trans hK6)
            clear hR6 hB6 hK6 HR5 HB5 HK5
            go_wp2_with fail
            go_roundg (gk - 1)
            case measure => have := HG.out; omega
            case rel => exact ⟨i, _, by go_num, by omega, ⟨by have := HG.out; omega⟩, HL2, HR6, HB6, HK6⟩
          · have d1 : (si.er == 0) = false := beq_eq_false_iff_ne.2 he
            go_wp2_with fail
            go_end0
            have h := HL.out
            unfold storedL at h
            rw [if_pos he] at h
            injection h with h
            subst h
            exact ⟨rfl, HR.out, HB.out, HK.out⟩
    · rw [if_neg hv] at h
      cases h
  · have d0 : (s4.er == 0) = false := beq_eq_false_iff_ne.2 h0
    have h := H.out
    rw [if_pos h0] at h
    injection h with h
    subst h
    go_wp2_with fail
    ((try simp only [Exit.inBlock, Exit.then]); refine bodyPost_ret (results_none rfl _ _ _) rfl ?_)
    exact ⟨rfl, HR4.out, HB4.out, HK4.out⟩

-- PART
end Go.Proofs.Ytcjijhjdkgjgeaa.P
namespace Go.Proofs.Ytcjijhjdkgjgeaa.P
open Go.RowKit Go.Proofs.YtcjijhjdkgjgeaaW.PrintWords Go.Proofs.YtcjijhjdkgjgeaaW.PrintLast Go.Proofs.YtcjijhjdkgjgeaaW.PrintMore
attribute [local go_sem] max2_int min2_int max_two min_two max_three min_three max_four min_four   -- for this text's walks alone
set_option linter.unusedVariables false
set_option linter.unusedSimpArgs false

-- PART
/-! ### canon_Open: function 46 (by hand) -/
/-- What stands in a book's block: how many codes there are of each length, the first one, the symbols, each row in a block of its own. -/
def BookAt (W : World) (base g : Nat) (F : Nat → Int) (S : Nat → List Int) : Prop :=
  ∃ (cs : Array Value) (V : Nat → Value), W.heap[g]? = some (.cells cs 111 (0, 0)) ∧ base ≤ g ∧ cs.size = 51 ∧ (∀ n, n < 17 → cs[n]? = some (.int .i64 (S n).length)) ∧ (∀ n, n < 17 → cs[17 + n]? = some (.int .i64 (F n))) ∧
    (∀ n, n < 17 → cs[34 + n]? = some (V n) ∧ Kd.R (Kd.int .i64) 3 W base (fun _ => True) (V n) (S n)) ∧ (∀ n m, n < 17 → m < 17 → n ≠ m → ∀ k, (V n).ownBlock = some k → (V m).ownBlock ≠ some k)
theorem brow_stay {W w' : World} {base : Nat} {v : Value} {xs : List Int} (h : Kd.R (Kd.int .i64) 3 W base (fun _ => True) v xs) (hm : ∀ k, v.ownBlock = some k → w'.heap[k]? = W.heap[k]?) : Kd.R (Kd.int .i64) 3 w' base (fun _ => True) v xs :=
  Kd.R_of_own (own_move (Kd.own_of_R h) hm) (fun _ _ => trivial)
theorem brow_cells {W : World} {base : Nat} {v : Value} {xs : List Int} (h : Kd.R (Kd.int .i64) 3 W base (fun _ => True) v xs) {k : Nat} (hk : v.ownBlock = some k) : ∃ cells, W.heap[k]? = some (.cells cells 3 (0, 0)) := own_typed (Kd.own_of_R h) k hk
theorem BookAt.below {W w' : World} {base g : Nat} {F : Nat → Int} {S : Nat → List Int} (h : BookAt W base g F S) (hb : Below W.heap.size W w') : BookAt w' base g F S := by
  obtain ⟨cs, V, h1, h2, h3, h4, h5, h6, h7⟩ := h
  exact ⟨cs, V, blk_below h1 hb, h2, h3, h4, h5, fun n hn => ⟨(h6 n hn).1, Kd.R_below (h6 n hn).2 hb⟩, h7⟩
theorem BookAt.many {W : World} {base g : Nat} {F : Nat → Int} {S : Nat → List Int} (h : BookAt W base g F S) (n : Nat) (hn : n < 17) : W.cell? ⟨g, n, none⟩ = some (.int .i64 (S n).length) ∧ W.frozen? ⟨g, n, none⟩ = false := by
  obtain ⟨cs, V, h1, h2, h3, h4, h5, h6, h7⟩ := h
  exact ⟨(blk_cell h1 n).trans (h4 n hn), blk_frozen h1 n⟩
theorem BookAt.first {W : World} {base g : Nat} {F : Nat → Int} {S : Nat → List Int} (h : BookAt W base g F S) (n : Nat) (hn : n < 17) : W.cell? ⟨g, 17 + n, none⟩ = some (.int .i64 (F n)) ∧ W.frozen? ⟨g, 17 + n, none⟩ = false := by
  obtain ⟨cs, V, h1, h2, h3, h4, h5, h6, h7⟩ := h
  exact ⟨(blk_cell h1 _).trans (h5 n hn), blk_frozen h1 _⟩
theorem BookAt.syms {W : World} {base g : Nat} {F : Nat → Int} {S : Nat → List Int} (h : BookAt W base g F S) (n : Nat) (hn : n < 17) : ∃ A c, W.cell? ⟨g, 34 + n, none⟩ = some (.slice A (S n).length c) ∧ (S n).length ≤ c ∧ Kd.C (Kd.int .i64) W A (S n).length (S n) := by
  obtain ⟨cs, V, h1, h2, h3, h4, h5, h6, h7⟩ := h
  obtain ⟨A, c, e, hl, hc⟩ := Kd.R_reads (h6 n hn).2
  exact ⟨A, c, by rw [blk_cell h1 _, (h6 n hn).1, e], hl, hc⟩
theorem brow_far {W : World} {base g : Nat} {cs : Array Value} (h1 : W.heap[g]? = some (.cells cs 111 (0, 0))) {v : Value} {xs : List Int} (h : Kd.R (Kd.int .i64) 3 W base (fun _ => True) v xs) (i : Nat) (u : Value) : Kd.R (Kd.int .i64) 3 (W.setCell ⟨g, i, none⟩ u) base (fun _ => True) v xs := by
  refine brow_stay h (fun k hk => ?_)
  obtain ⟨cells, hc⟩ := brow_cells h hk
  exact Below.heap_setCell W ⟨g, i, none⟩ u k (by rintro rfl; rw [h1] at hc; cases hc)
/-- The half-step between: the count of one length is one more than its row is long. -/
def BookMid (W : World) (base g : Nat) (F : Nat → Int) (S : Nat → List Int) (x : Nat) : Prop :=
  ∃ (cs : Array Value) (V : Nat → Value), W.heap[g]? = some (.cells cs 111 (0, 0)) ∧ base ≤ g ∧ cs.size = 51 ∧ (∀ n, n < 17 → cs[n]? = some (.int .i64 (if n = x then ((S n).length + 1 : Nat) else (S n).length : Nat))) ∧ (∀ n, n < 17 → cs[17 + n]? = some (.int .i64 (F n))) ∧
    (∀ n, n < 17 → cs[34 + n]? = some (V n) ∧ Kd.R (Kd.int .i64) 3 W base (fun _ => True) (V n) (S n)) ∧ (∀ n m, n < 17 → m < 17 → n ≠ m → ∀ k, (V n).ownBlock = some k → (V m).ownBlock ≠ some k)
theorem BookAt.count {W : World} {base g : Nat} {F : Nat → Int} {S : Nat → List Int} (h : BookAt W base g F S) {x : Nat} (hx : x < 17) : BookMid (W.setCell ⟨g, x, none⟩ (.int .i64 ((S x).length + 1))) base g F S x := by
  rw [show ((S x).length : Int) + 1 = ((S x).length + 1 : Nat) from rfl]
  obtain ⟨cs, V, h1, h2, h3, h4, h5, h6, h7⟩ := h
  refine ⟨cs.setIfInBounds x (.int .i64 ((S x).length + 1 : Nat)), V, blk_set h1 x _, h2, by simpa using h3, fun n hn => ?_, fun n hn => ?_, fun n hn => ⟨?_, brow_far h1 (h6 n hn).2 x _⟩, h7⟩
  · rw [Array.getElem?_setIfInBounds]
    by_cases hnx : x = n
    · subst hnx; rw [if_pos rfl, if_pos (by omega), if_pos rfl]
    · rw [if_neg hnx, if_neg (fun h => hnx h.symm), h4 n hn]
  · rw [Array.getElem?_setIfInBounds, if_neg (by omega), h5 n hn]
  · rw [Array.getElem?_setIfInBounds, if_neg (by omega), (h6 n hn).1]
/-- The symbol is appended to its row, the row stored. -/
theorem BookMid.push {W w2 : World} {base g : Nat} {F : Nat → Int} {S : Nat → List Int} {x : Nat} (h : BookMid W base g F S x) (hx : x < 17) {v v' : Value} {a : Int} (hv : W.cell? ⟨g, 34 + x, none⟩ = some v)
    (hgr : ∀ k, k < W.heap.size → some k ≠ v.ownBlock → w2.heap[k]? = W.heap[k]?) (hr' : Kd.R (Kd.int .i64) 3 w2 base (fun _ => True) v' (S x ++ [a])) (hat : v'.ownBlock = v.ownBlock ∨ ∃ b, v'.ownBlock = some b ∧ W.heap.size ≤ b) :
    BookAt (w2.setCell ⟨g, 34 + x, none⟩ v') base g F (fun n => if n = x then S x ++ [a] else S n) := by
  obtain ⟨cs, V, h1, h2, h3, h4, h5, h6, h7⟩ := h
  have hvx : v = V x := by
    have := (blk_cell h1 (34 + x)).symm.trans hv
    rw [(h6 x hx).1] at this
    exact (Option.some.inj this).symm
  subst hvx
  have hg2 : w2.heap[g]? = some (.cells cs 111 (0, 0)) := by
    rw [hgr g (blk_lt h1) (fun e => by
      obtain ⟨cells, hc⟩ := brow_cells (h6 x hx).2 e.symm
      rw [h1] at hc; cases hc)]
    exact h1
  have hnew : ∀ n, n < 17 → n ≠ x → ∀ k, (V n).ownBlock = some k → v'.ownBlock ≠ some k := by
    intro n hn hne k hk hk'
    have hlt := Kd.R_lt (h6 n hn).2 k hk
    rcases hat with e | ⟨b, e, hb⟩
    · rw [e] at hk'; exact h7 n x hn hx hne k hk hk'
    · rw [e] at hk'; injection hk' with hk'; omega
  refine ⟨cs.setIfInBounds (34 + x) v', fun n => if n = x then v' else V n, blk_set hg2 _ _, h2, by simpa using h3, fun n hn => ?_, fun n hn => ?_, fun n hn => ⟨?_, ?_⟩, fun n m hn hm hne k hk => ?_⟩
  · dsimp only
    rw [Array.getElem?_setIfInBounds, if_neg (by omega), h4 n hn]
    by_cases hnx : n = x
    · rw [if_pos hnx, if_pos hnx, hnx]; simp
    · rw [if_neg hnx, if_neg hnx]
  · rw [Array.getElem?_setIfInBounds, if_neg (by omega), h5 n hn]
  · dsimp only
    rw [Array.getElem?_setIfInBounds]
    by_cases hnx : n = x
    · subst hnx; rw [if_pos rfl, if_pos (by omega), if_pos rfl]
    · rw [if_neg (by omega), if_neg hnx, (h6 n hn).1]
  · dsimp only
    by_cases hnx : n = x
    · rw [if_pos hnx, if_pos hnx]; exact brow_far hg2 hr' _ _
    · rw [if_neg hnx, if_neg hnx]
      refine brow_far hg2 (brow_stay (h6 n hn).2 (fun k hk => ?_)) _ _
      exact hgr k (Kd.R_lt (h6 n hn).2 k hk) (fun e => h7 n x hn hx hnx k hk e.symm)
  · dsimp only at hk ⊢
    by_cases hnx : n = x
    · have hmx : m ≠ x := fun e => hne (hnx.trans e.symm)
      rw [if_pos hnx] at hk
      rw [if_neg hmx]
      exact fun hk' => hnew m hm hmx k hk' hk
    · rw [if_neg hnx] at hk
      by_cases hmx : m = x
      · rw [if_pos hmx]; exact hnew n hn hnx k hk
      · rw [if_neg hmx]; exact h7 n m hn hm hne k hk
theorem BookMid.count {W : World} {base g : Nat} {F : Nat → Int} {S : Nat → List Int} {x : Nat} (h : BookMid W base g F S x) (hx : x < 17) : ∃ v, W.cell? ⟨g, 34 + x, none⟩ = some v ∧ W.frozen? ⟨g, 34 + x, none⟩ = false ∧ (∃ cs, W.heap[g]? = some (.cells cs 111 (0, 0))) ∧ base ≤ g ∧ some g ≠ v.ownBlock ∧ Kd.R (Kd.int .i64) 3 W base (fun _ => True) v (S x) := by
  obtain ⟨cs, V, h1, h2, h3, h4, h5, h6, h7⟩ := h
  exact ⟨V x, (blk_cell h1 _).trans (h6 x hx).1, blk_frozen h1 _, ⟨cs, h1⟩, h2, Kd.R_ne (h6 x hx).2 h1 (by decide), (h6 x hx).2⟩
theorem BookAt.put {W : World} {base g : Nat} {F : Nat → Int} {S : Nat → List Int} (h : BookAt W base g F S) {x : Nat} (hx : x < 17) (y : Int) : BookAt (W.setCell ⟨g, 17 + x, none⟩ (.int .i64 y)) base g (fun n => if n = x then y else F n) S := by
  obtain ⟨cs, V, h1, h2, h3, h4, h5, h6, h7⟩ := h
  refine ⟨cs.setIfInBounds (17 + x) (.int .i64 y), V, blk_set h1 _ _, h2, by simpa using h3, fun n hn => ?_, fun n hn => ?_, fun n hn => ⟨?_, brow_far h1 (h6 n hn).2 _ _⟩, h7⟩
  · rw [Array.getElem?_setIfInBounds, if_neg (by omega), h4 n hn]
  · dsimp only
    rw [Array.getElem?_setIfInBounds]
    by_cases hnx : n = x
    · subst hnx; rw [if_pos rfl, if_pos (by omega), if_pos rfl]
    · rw [if_neg (by omega), if_neg hnx, h5 n hn]
  · rw [Array.getElem?_setIfInBounds, if_neg (by omega), (h6 n hn).1]
theorem BookAt.made (W : World) (base : Nat) (hb : base ≤ W.heap.size) : BookAt (W.alloc (.cells (Array.replicate 34 (.int .i64 0) ++ Array.replicate 17 (.slice none 0 0)) 111 (0, 0))) base W.heap.size (fun _ => 0) (fun _ => []) := by
  refine ⟨_, fun _ => .slice none 0 0, blk_new W _, hb, by simp, fun n hn => ?_, fun n hn => ?_, fun n hn => ⟨?_, Kd.R_nil _ _ _ _ _⟩, fun n m _ _ _ k hk => by simp [Value.ownBlock] at hk⟩
  · rw [Array.getElem?_append_left (by simp; omega), Array.getElem?_replicate, if_pos (by omega)]; rfl
  · rw [Array.getElem?_append_left (by simp; omega), Array.getElem?_replicate, if_pos (by omega)]
  · rw [Array.getElem?_append_right (by simp), Array.getElem?_replicate, if_pos (by simp; omega)]
/-- The symbols of a length among the first i, in their order. -/
def symsTo (l : List Int) (i n : Nat) : List Int := ((List.range i).filter (fun j => l.getD j 0 == (n : Int) && decide (0 < n))).map (fun j : Nat => (j : Int))
theorem symsTo_len (l : List Int) (i n : Nat) : (symsTo l i n).length ≤ i := by
  unfold symsTo
  rw [List.length_map]
  exact Nat.le_trans (List.length_filter_le _ _) (by simp)
theorem symsTo_step (l : List Int) (i n : Nat) : symsTo l (i + 1) n = symsTo l i n ++ if l.getD i 0 = (n : Int) ∧ 0 < n then [(i : Int)] else [] := by
  unfold symsTo
  rw [List.range_succ, List.filter_append, List.map_append]
  congr 1
  by_cases h : l.getD i 0 = (n : Int) ∧ 0 < n
  · rw [if_pos h, List.filter_cons_of_pos (by rw [h.1]; simp [h.2])]; rfl
  · rw [if_neg h, List.filter_cons_of_neg (by simp only [Bool.and_eq_true, beq_iff_eq, decide_eq_true_eq]; exact h)]; rfl
theorem symsTo_succ (l : List Int) (i x : Nat) (hx : l.getD i 0 = (x : Int)) (h0 : 0 < x) : symsTo l (i + 1) = fun n => if n = x then symsTo l i x ++ [(i : Int)] else symsTo l i n := by
  funext n
  rw [symsTo_step, hx]
  by_cases hn : n = x
  · subst hn; rw [if_pos rfl, if_pos ⟨rfl, h0⟩]
  · rw [if_neg hn, if_neg (by omega), List.append_nil]
theorem symsTo_none (l : List Int) (i : Nat) (hx : l.getD i 0 = 0) : symsTo l (i + 1) = symsTo l i := by
  funext n
  rw [symsTo_step, hx, if_neg (by omega), List.append_nil]
/-- The first code of each length. -/
def firstOf (c : Nat → Nat) : Nat → Nat
  | 0 => 0
  | 1 => 0
  | n + 2 => 2 * (firstOf c (n + 1) + c (n + 1))
theorem firstOf_le (c : Nat → Nat) (T : Nat) (hc : ∀ n, c n ≤ T) : ∀ n, firstOf c (n + 1) + 2 * T ≤ 2 ^ (n + 1) * T
  | 0 => by simp [firstOf]
  | n + 1 => by
    have ih := firstOf_le c T hc n
    have h1 := hc (n + 1)
    simp only [firstOf]
    rw [show 2 ^ (n + 1 + 1) * T = 2 * (2 ^ (n + 1) * T) from by rw [Nat.pow_succ 2 (n + 1), Nat.mul_comm _ 2, Nat.mul_assoc]]
    omega
theorem BookMid.below {W w' : World} {base g : Nat} {F : Nat → Int} {S : Nat → List Int} {x : Nat} (h : BookMid W base g F S x) (hb : Below W.heap.size W w') : BookMid w' base g F S x := by
  obtain ⟨cs, V, h1, h2, h3, h4, h5, h6, h7⟩ := h
  exact ⟨cs, V, blk_below h1 hb, h2, h3, h4, h5, fun n hn => ⟨(h6 n hn).1, Kd.R_below (h6 n hn).2 hb⟩, h7⟩
/-- What Open makes of lengths. -/
def openF (l : List Int) (n : Nat) : Nat := firstOf (fun n => (symsTo l l.length n).length) n
set_option maxHeartbeats 8000000 in
set_option maxRecDepth 100000 in
theorem open_book (A0 : Option Addr) (c0 : Nat) (l0 : List Int) (w : World) (hr0 : Kd.C (Kd.int .i64) w A0 l0.length l0) (hc0 : l0.length ≤ c0) (hx : ∀ x ∈ l0, 0 ≤ x ∧ x ≤ 15) (hl : l0.length ≤ 1000000) :
    Calls Try.prog 46 #[.slice A0 l0.length c0] w fun e w' => ∃ g, e = .returned (.pointer (some ⟨g, 0, none⟩)) ∧ BookAt w' w.heap.size g (fun n => (openF l0 n : Int)) (symsTo l0 l0.length) ∧ Below w.heap.size w w' := by
  have HR := Aside0.mk hr0
  have HC := Aside0.mk hc0
  have HX := Aside0.mk hx
  have HM := Aside0.mk (BookAt.made w w.heap.size (Nat.le_refl _))
  have HB0 := Aside0.mk (below_alloc (Below.refl w.heap.size w) (.cells (Array.replicate 34 (.int .i64 0) ++ Array.replicate 17 (.slice none 0 0)) 111 (0, 0)))
  clear hr0 hc0 hx
  go_enter Try.func46, Try.ntmps46
  go_wp2_with fail
  go_loopg [4, 5, 11] l0.length (fun kq v4 v5 v11 w' => ∃ (i : Nat), v11 = .int .i64 i ∧ i ≤ l0.length ∧ Aside0 (kq + i = l0.length) ∧ Aside0 (BookAt w' w.heap.size w.heap.size (fun _ => 0) (symsTo l0 i)) ∧ Aside0 (Below w.heap.size w w'))
  case atStart => exact ⟨0, rfl, Nat.zero_le _, ⟨rfl⟩, HM, HB0⟩
  case round =>
    obtain ⟨i, rfl, hi, HG, HBk, HBl⟩ := hrel
    clear HM HB0
    by_cases hlt : i < l0.length
    · obtain ⟨ad, rfl, hcell⟩ := Kd.at_int (Kd.C_below HR.out HBl.out) (i : Int) (by omega) (by omega)
      rw [Int.toNat_natCast] at hcell
      have hxi : 0 ≤ rd l0 (i : Int) ∧ rd l0 (i : Int) ≤ 15 := by
        unfold rd
        rw [Int.toNat_natCast, List.getD_eq_getElem?_getD, List.getElem?_eq_getElem hlt]
        exact HX.out _ (List.getElem_mem _)
      obtain ⟨x, hxe⟩ := Int.eq_ofNat_of_zero_le hxi.1
      rw [hxe] at hcell hxi
      have hgd : l0.getD i 0 = (x : Int) := by rw [← hxe]; unfold rd; rw [Int.toNat_natCast]
      have HE := Aside0.mk hgd
      clear hxe hgd
      have hx15 : x ≤ 15 := by omega
      clear hxi
      by_cases h0 : x = 0
      · subst h0
        go_wp2_with fail
        go_roundg (gk - 1)
        case measure => have := HG.out; omega
        case rel => exact ⟨i + 1, by go_num, by omega, ⟨by have := HG.out; omega⟩, ⟨by rw [symsTo_none l0 i HE.out]; exact HBk.out⟩, HBl⟩
      · have h0' : 0 < x := by omega
        obtain ⟨g, hg⟩ : ∃ g, g = w.heap.size := ⟨_, rfl⟩
        obtain ⟨hm1, hm2⟩ := HBk.out.many x (by omega)
        rw [← hg] at HBk
        rw [← hg] at hm1 hm2
        rw [← hg]
        have hlen := symsTo_len l0 i x
        have f1 : IntKind.i64.wrap (((symsTo l0 i x).length : Int) + 1) = (((symsTo l0 i x).length + 1 : Nat) : Int) := by rw [IntWalk.i64_in _ (by omega)]; omega
        have HGg := Aside0.mk hg
        clear hg hlen
        go_wp2_with fail
        go_region
        go_wp2_with fail
        have HBm : Aside0 (BookMid (wr.setCell ⟨g, x, none⟩ (.int .i64 ((symsTo l0 i x).length + 1))).drew g g (fun _ => 0) (symsTo l0 i) x) := ⟨(HBk.out.count (x := x) (by omega)).below ((Below.refl _ _).drew)⟩
        have HBl1 : Aside0 (Below w.heap.size w (wr.setCell ⟨g, x, none⟩ (.int .i64 ((symsTo l0 i x).length + 1))).drew) := ⟨(HBl.out.setCell (p := ⟨g, x, none⟩) (by show w.heap.size ≤ g; have := HGg.out; omega) _).drew⟩
        clear hm1 hm2 f1 HBk HBl hcell
        generalize (wr.setCell ⟨g, x, none⟩ (.int .i64 ((symsTo l0 i x).length + 1))).drew = w1 at HBm HBl1 ⊢
        obtain ⟨v, hv1, hv2, ⟨cs, hv3⟩, hv4, hv5, hv6⟩ := HBm.out.count (by omega)
        have HK := Aside0.mk hv3
        have HV := Aside0.mk (And.intro hv4 (And.intro hv5 hv6))
        have HSz := Aside0.mk HBl1.out.size
        have hlen := symsTo_len l0 i x
        have hx17 : (x : Int) < 17 := by omega
        have hx0 : (0 : Int) ≤ (x : Int) := by omega
        clear hv3 hv4 hv5 hv6
        have hv1a : (w1.alloc (.cells #[.int .i64 (i : Int)] 3)).cell? ⟨g, 34 + x, none⟩ = some v := pw_cell_below (below_alloc (Below.refl _ _) _) hv1
        go_region_law
          ((refine Kd.R_append_step (Kd.int .i64) (w0 := w) g rfl (.tmp 35) (.tmp 37) 73 3 (.int .i64 0) 8 rfl Try.underlying73 info3 rfl (by decide) (by omega) v (symsTo l0 i x) (i : Int) [.int .i64 (i : Int)] (fun _ => True) (fun _ => False) rfl rfl rfl (fun _ hk => hk.elim) (fun _ _ => trivial) (Kd.R_drew HV.out.2.2) (HGg.out ▸ HBl1.out.drew) (by have := HSz.out; have := HGg.out; simp; omega) (by omega) ?_; intro v1 w2 ho hb hg hat; (obtain ⟨A1, c1, e1⟩ := Kd.R_slice ho); (subst e1); (have hcz := cell_grown hg (show w1.drew.cell? _ = some v from hv1) HV.out.2.1); (have hfz := blk_frozen (blk_grown (show w1.drew.heap[g]? = _ from HK.out) hg HV.out.2.1) (34 + x)); (have HN := Aside0.mk (And.intro ho (And.intro hb (And.intro hg hat)))); clear ho hb hg hat))
        all_goals
          go_wp2_with fail
          have hg := HGg.out
          subst hg
          go_roundg (gk - 1)
          case measure => have := HG.out; omega
          case rel =>
            have hP := (HBm.out.below ((Below.refl _ _).drew)).push (by omega) hv1 (fun k hk hne => HN.out.2.2.1.block k hk hne) HN.out.1 HN.out.2.2.2
            rw [List.length_append, List.length_singleton, ← symsTo_succ l0 i x HE.out h0'] at hP
            exact ⟨i + 1, by go_num, by omega, ⟨by have := HG.out; omega⟩, ⟨hP⟩, ⟨HN.out.2.1.setCell (p := ⟨w.heap.size, 34 + x, none⟩) (Nat.le_refl _) _⟩⟩
    · have hi2 : i = l0.length := by omega
      subst hi2
      obtain ⟨g, hg⟩ : ∃ g, g = w.heap.size := ⟨_, rfl⟩
      obtain ⟨S, hS⟩ : ∃ S, S = symsTo l0 l0.length := ⟨_, rfl⟩
      rw [← hg, ← hS] at HBk
      rw [← hg]
      have HGg := Aside0.mk hg
      have HSl : Aside0 (∀ n, (S n).length ≤ 1000000) := ⟨fun n => by rw [hS]; exact Nat.le_trans (symsTo_len _ _ _) hl⟩
      have HSe := Aside0.mk hS
      have HFl : Aside0 (∀ n, n ≤ 16 → firstOf (fun n => (S n).length) n ≤ 65536 * 1000000) := ⟨fun n hn => by
        cases n with
        | zero => simp [firstOf]
        | succ n =>
          have h1 := firstOf_le (fun n => (S n).length) 1000000 HSl.out n
          have h2 : 2 ^ (n + 1) ≤ 2 ^ 16 := Nat.pow_le_pow_right (by decide) hn
          have h3 := Nat.mul_le_mul_right 1000000 h2
          omega⟩
      have HBk0 : Aside0 (BookAt wr g g (fun m => if m ≤ 1 then (firstOf (fun n => (S n).length) m : Int) else 0) S) := ⟨by
        have e : (fun _ => 0 : Nat → Int) = (fun m => if m ≤ 1 then (firstOf (fun n => (S n).length) m : Int) else 0) := by
          funext m
          by_cases hm : m ≤ 1
          · rw [if_pos hm]
            have : m = 0 ∨ m = 1 := by omega
            rcases this with rfl | rfl <;> rfl
          · rw [if_neg hm]
        rw [← e]
        exact HBk.out⟩
      clear hg hlt hi hS HBk
      go_wp2_with fail
      go_loopg [6] 16 (fun kq v6 w' => ∃ (n : Nat), v6 = .int .i64 n ∧ 1 ≤ n ∧ n ≤ 16 ∧ Aside0 (kq + n = 17) ∧ Aside0 (BookAt w' g g (fun m => if m ≤ n then (firstOf (fun n => (S n).length) m : Int) else 0) S) ∧ Aside0 (Below w.heap.size w w'))
      case atStart => exact ⟨1, rfl, by omega, by omega, ⟨rfl⟩, HBk0, HBl⟩
      case round =>
        clear HBk0 HBl
        obtain ⟨n, rfl, hn1, hn2, HG2, HBk, HBl⟩ := hrel
        by_cases hlt : n < 16
        · obtain ⟨hm1, hm2⟩ := HBk.out.many n (by omega)
          obtain ⟨hf1, hf2⟩ := HBk.out.first n (by omega)
          obtain ⟨hs1, hs2⟩ := HBk.out.first (n + 1) (by omega)
          rw [if_pos (Nat.le_refl n)] at hf1
          have hSl := HSl.out n
          have hFl := HFl.out n (by omega)
          have hn16 : (n : Int) ≤ 15 := by omega
          obtain ⟨c, hc⟩ : ∃ c, c = (S n).length := ⟨_, rfl⟩
          obtain ⟨f, hf⟩ : ∃ f, f = firstOf (fun n => (S n).length) n := ⟨_, rfl⟩
          rw [← hc] at hm1 hSl
          rw [← hf] at hf1 hFl
          have HCF := Aside0.mk (And.intro hc hf)
          have f1 : IntKind.i64.wrap ((n : Int) + 1) = ((n + 1 : Nat) : Int) := by rw [IntWalk.i64_in _ (by omega)]; omega
          have f2 : IntKind.i64.wrap ((f : Int) + (c : Int)) = ((f + c : Nat) : Int) := by rw [IntWalk.i64_in _ (by omega)]; omega
          have f3 : IntKind.i64.wrap (2 * ((f + c : Nat) : Int)) = ((2 * (f + c) : Nat) : Int) := by rw [IntWalk.i64_in _ (by omega)]; omega
          have f4 : IntKind.i64.wrap (2 * ((f : Int) + (c : Int))) = ((2 * (f + c) : Nat) : Int) := by rw [IntWalk.i64_in _ (by omega)]; omega
          clear hc hf
          go_wp2_with fail
          go_region
          go_wp2_with fail
          go_roundg (gk - 1)
          case measure => have := HG2.out; omega
          case rel =>
            have hP := HBk.out.put (x := n + 1) (by omega) (2 * ((f : Int) + (c : Int)))
            have e : (fun m => if m = n + 1 then 2 * ((f : Int) + (c : Int)) else (fun m => if m ≤ n then (firstOf (fun n => (S n).length) m : Int) else 0) m) = (fun m => if m ≤ n + 1 then (firstOf (fun n => (S n).length) m : Int) else 0) := by
              funext m
              dsimp only
              by_cases hm : m = n + 1
              · subst hm
                rw [if_pos rfl, if_pos (Nat.le_refl _)]
                obtain ⟨k, rfl⟩ : ∃ k, n = k + 1 := ⟨n - 1, by omega⟩
                obtain ⟨hc, hf⟩ := HCF.out
                rw [show firstOf (fun n => (S n).length) (k + 1 + 1) = 2 * (firstOf (fun n => (S n).length) (k + 1) + (S (k + 1)).length) from rfl, ← hf, ← hc]
                omega
              · rw [if_neg hm]
                by_cases hm2 : m ≤ n
                · rw [if_pos hm2, if_pos (by omega)]
                · rw [if_neg hm2, if_neg (by omega)]
            rw [e] at hP
            exact ⟨n + 1, by go_num, by omega, by omega, ⟨by have := HG2.out; omega⟩, ⟨hP.below ((Below.refl _ _).drew)⟩, ⟨(HBl.out.setCell (p := ⟨g, 17 + (n + 1), none⟩) (by show w.heap.size ≤ g; have := HGg.out; omega) _).drew⟩⟩
        · have hn : n = 16 := by omega
          subst hn
          go_wp2_with fail
          go_ret
          have hg := HGg.out
          have hS := HSe.out
          subst hg hS
          obtain ⟨cs, V, h1, h2, h3, h4, h5, h6, h7⟩ := HBk.out
          refine ⟨_, rfl, ⟨cs, V, h1, h2, h3, h4, fun n hn => ?_, h6, h7⟩, HBl.out⟩
          rw [h5 n hn]
          dsimp only
          rw [if_pos (by omega)]
          rfl

-- PART
end Go.Proofs.Ytcjijhjdkgjgeaa.P
namespace Go.Proofs.Ytcjijhjdkgjgeaa.P
open Go.RowKit Go.Proofs.YtcjijhjdkgjgeaaW.PrintWords Go.Proofs.YtcjijhjdkgjgeaaW.PrintLast Go.Proofs.YtcjijhjdkgjgeaaW.PrintMore
attribute [local go_sem] max2_int min2_int max_two min_two max_three min_three max_four min_four   -- for this text's walks alone
set_option linter.unusedVariables false
set_option linter.unusedSimpArgs false

-- PART
/-! ### canon_Book_Next: function 74 (by hand) -/
/-- What Next tells from length n on: so many lengths are left, what was read, where. -/
def nextF (F : Nat → Int) (S : Nat → List Int) (b : List Int) : Nat → Nat → Int → Int → Option (Int × Int × Bool)
  | 0, _, _, _ => some (0, 0, false)
  | d + 1, n, code, at' => (bits_Get.f 40 b at' 1).bind fun r => if r.2.2 = 0 then
      (if 0 ≤ wrap64 (wrap64 (wrap64 (2 * code) + r.1) - F n) ∧ wrap64 (wrap64 (wrap64 (2 * code) + r.1) - F n) < (S n).length then
        some (rd (S n) (wrap64 (wrap64 (wrap64 (2 * code) + r.1) - F n)), r.2.1, true)
      else nextF F S b d (n + 1) (wrap64 (wrap64 (2 * code) + r.1)) r.2.1) else some (0, 0, false)
set_option maxHeartbeats 8000000 in
set_option maxRecDepth 100000 in
theorem book_next (base g : Nat) (F : Nat → Int) (S : Nat → List Int) (A1 : Option Addr) (c1 : Nat) (l1 : List Int) (a2 : Int) (r1 r2 : Int) (r3 : Bool) (w : World) (hb : BookAt w base g F S) (hr1 : Kd.C (Kd.int .u8) w A1 l1.length l1) (hc1 : l1.length ≤ c1)
    (h : nextF F S l1 15 1 0 a2 = some (r1, r2, r3)) :
    Calls Try.prog 74 #[.pointer (some ⟨g, 0, none⟩), .slice A1 l1.length c1, .int .i64 a2] w fun e w' => e = .returned (.tuple #[.int .i64 r1, .int .i64 r2, .bool r3]) ∧ Drawn0 w w' := by
  have HB := Aside0.mk hb
  have HR := Aside0.mk hr1
  have HC := Aside0.mk hc1
  have H := Aside0.mk h
  have HD := Aside0.mk (Drawn0.refl w)
  clear hb hr1 hc1 h
  go_enter Try.func74, Try.ntmps74
  go_wp2_with fail
  go_loopg [2, 9, 10] 15 (fun kq v2 v9 v10 w' => ∃ (n : Nat) (code at' : Int), v10 = .int .i64 n ∧ v9 = .int .i64 code ∧ v2 = .int .i64 at' ∧ n ≤ 16 ∧ 1 ≤ n ∧ Aside0 (kq + n = 16) ∧ Aside0 (nextF F S l1 kq n code at' = some (r1, r2, r3)) ∧ Aside0 (Drawn0 w w'))
  case atStart => exact ⟨1, 0, a2, rfl, rfl, rfl, by omega, by omega, ⟨rfl⟩, H, HD⟩
  case round =>
    clear H HD
    obtain ⟨n, code, at', rfl, rfl, rfl, hn, hn1, HG, H, HD⟩ := hrel
    by_cases hlt : n < 16
    · obtain ⟨k1, rfl⟩ : ∃ m, gk = m + 1 := ⟨gk - 1, by have := HG.out; omega⟩
      have h := H.out
      simp only [nextF] at h
      obtain ⟨⟨q1, q2, q3⟩, hq, h⟩ := Option.bind_eq_some_iff.1 h
      have HQ := Aside0.mk hq
      clear hq H
      have h15 : (n : Int) ≤ 15 := by omega
      by_cases h0 : q3 = 0
      · subst h0
        rw [if_pos rfl] at h
        have H := Aside0.mk h
        clear h
        go_wp2_with fail
        refine (bits_Get.calls 40 _ _ l1 at' 1 q1 q2 0 _ (Kd.C_below HR.out HD.out.below) HC.out HQ.out).mono ?_
        rintro e1 w1 ⟨rfl, hd⟩
        have HD1 := Aside0.mk (show Drawn0 w w1 from by
          obtain ⟨m1, e1⟩ := HD.out.out
          obtain ⟨m2, e2⟩ := hd.out
          rw [e1] at e2
          exact ⟨⟨m1 + m2, by rw [e2, World.drewN_drewN]⟩⟩)
        have HB1 := Aside0.mk (HB.out.below HD1.out.below)
        obtain ⟨hm1, hm2⟩ := HB1.out.many n (by omega)
        obtain ⟨hf1, hf2⟩ := HB1.out.first n (by omega)
        obtain ⟨As, cs, hs1, hs2, hs3⟩ := HB1.out.syms n (by omega)
        have HS := Aside0.mk (And.intro hs2 hs3)
        clear hs2 hs3 hm2 hf2 hd HD
        obtain ⟨x, hx⟩ : ∃ x, wrap64 (wrap64 (2 * code) + q1) = x := ⟨_, rfl⟩
        obtain ⟨y, hy⟩ : ∃ y, wrap64 (x - F n) = y := ⟨_, rfl⟩
        have h := H.out
        rw [hx, hy] at h
        have H2 := Aside0.mk h
        clear h H
        by_cases hy0 : 0 ≤ y
        · by_cases hy1 : y < (S n).length
          · have h := H2.out
            rw [if_pos ⟨hy0, hy1⟩] at h
            simp only [Option.some.injEq, Prod.mk.injEq] at h
            have H3 := Aside0.mk h
            clear h H2
            obtain ⟨ad, rfl, hcell⟩ := Kd.at_int HS.out.2 y hy0 hy1
            have d0 : decide (0 ≤ y) = true := decide_eq_true hy0
            have d1 : decide (y < ((S n).length : Int)) = true := decide_eq_true hy1
            go_wp2_with fail
            go_ret3
            obtain ⟨rfl, rfl, rfl⟩ := H3.out
            exact ⟨rfl, HD1.out⟩
          · have h := H2.out
            rw [if_neg (fun hh => hy1 hh.2)] at h
            have H3 := Aside0.mk h
            clear h H2
            have d0 : decide (0 ≤ y) = true := decide_eq_true hy0
            have d1 : decide (y < ((S n).length : Int)) = false := decide_eq_false hy1
            go_wp2_with fail
            go_roundg k1
            case measure => omega
            case rel => exact ⟨n + 1, x, q2, by go_num, by rw [hx], rfl, by omega, by omega, ⟨by have := HG.out; omega⟩, H3, HD1⟩
        · have h := H2.out
          rw [if_neg (fun hh => hy0 hh.1)] at h
          have H3 := Aside0.mk h
          clear h H2
          have d0 : decide (0 ≤ y) = false := decide_eq_false hy0
          go_wp2_with fail
          go_roundg k1
          case measure => omega
          case rel => exact ⟨n + 1, x, q2, by go_num, by rw [hx], rfl, by omega, by omega, ⟨by have := HG.out; omega⟩, H3, HD1⟩
      · rw [if_neg h0] at h
        have H := Aside0.mk h
        have hb0 : (q3 != 0) = true := bne_iff_ne.2 h0
        clear h h0
        go_wp2_with fail
        refine (bits_Get.calls 40 _ _ l1 at' 1 q1 q2 q3 _ (Kd.C_below HR.out HD.out.below) HC.out HQ.out).mono ?_
        rintro e1 w1 ⟨rfl, hd⟩
        have HD1 := Aside0.mk (show Drawn0 w w1 from by
          obtain ⟨m1, e1⟩ := HD.out.out
          obtain ⟨m2, e2⟩ := hd.out
          rw [e1] at e2
          exact ⟨⟨m1 + m2, by rw [e2, World.drewN_drewN]⟩⟩)
        go_wp2_with fail
        go_ret3
        have h := H.out
        simp only [Option.some.injEq, Prod.mk.injEq] at h
        obtain ⟨rfl, rfl, rfl⟩ := h
        exact ⟨rfl, HD1.out⟩
    · have hn16 : n = 16 := by omega
      subst hn16
      have hk : gk = 0 := by have := HG.out; omega
      subst hk
      have h := H.out
      simp only [nextF, Option.some.injEq, Prod.mk.injEq] at h
      have H3 := Aside0.mk h
      clear h H
      go_wp2_with fail
      go_ret3
      obtain ⟨rfl, rfl, rfl⟩ := H3.out
      exact ⟨rfl, HD.out⟩

-- PART
end Go.Proofs.Ytcjijhjdkgjgeaa.P
namespace Go.Proofs.Ytcjijhjdkgjgeaa.P
open Go.RowKit Go.Proofs.YtcjijhjdkgjgeaaW.PrintWords Go.Proofs.YtcjijhjdkgjgeaaW.PrintLast Go.Proofs.YtcjijhjdkgjgeaaW.PrintMore
attribute [local go_sem] max2_int min2_int max_two min_two max_three min_three max_four min_four   -- for this text's walks alone
set_option linter.unusedVariables false
set_option linter.unusedSimpArgs false

-- PART
/-! ### grow_reader_sym: function 63 (by hand) -/
theorem BookAt.keepT {W W' : World} {base g : Nat} {F : Nat → Int} {S : Nat → List Int} (h : BookAt W base g F S) (hk : KeepT W W') : BookAt W' base g F S := by
  obtain ⟨cs, V, h1, h2, h3, h4, h5, h6, h7⟩ := h
  refine ⟨cs, V, hk.2 _ _ _ h1 (by decide) (by decide), h2, h3, h4, h5, fun n hn => ⟨(h6 n hn).1, brow_stay (h6 n hn).2 fun k hkk => ?_⟩, h7⟩
  obtain ⟨cells, hc⟩ := brow_cells (h6 n hn).2 hkk
  rw [hc]
  exact hk.2 _ _ _ hc (by decide) (by decide)
/-- A symbol, by a book. -/
def symS (F : Nat → Int) (S : Nat → List Int) (b : List Int) (s : RSt) : Option (Int × RSt) :=
  if s.er ≠ 0 then some (0, s) else (nextF F S b 15 1 0 s.pos).bind fun r => if r.2.2 = true then some (r.1, { s with pos := r.2.1 }) else some (0, { s with er := 3 })
set_option maxHeartbeats 8000000 in
set_option maxRecDepth 100000 in
theorem rdr_sym (g : Nat) (b : List Int) (most : Int) (s : RSt) (base gk : Nat) (F : Nat → Int) (S : Nat → List Int) (v : Int) (s1 : RSt) (w0 w : World) (hR : Rdr w0 w g b most s) (hB : Below w0.heap.size w0 w) (hK : BookAt w base gk F S) (h : symS F S b s = some (v, s1)) :
    Calls Try.prog 63 #[.pointer (some ⟨g, 0, none⟩), .pointer (some ⟨gk, 0, none⟩)] w fun r w' => r = .returned (.int .i64 v) ∧ Rdr w0 w' g b most s1 ∧ Below w0.heap.size w0 w' ∧ KeepT w w' := by
  obtain ⟨A0, c0, A3, c3, hg, hge, hb, hc, ho⟩ := hR.cells
  have HG := Aside0.mk hg
  have HB := Aside0.mk hB
  have HC := Aside0.mk hb
  have HO := Aside0.mk ho
  have HR := Aside0.mk hR
  have HKb := Aside0.mk hK
  have H := Aside0.mk h
  have hcz0 : w.cell? ⟨g, 0, none⟩ = some (.slice A0 b.length c0) := (blk_cell HG.out 0).trans rfl
  have hcz1 : w.cell? ⟨g, 1, none⟩ = some (.int .i64 s.pos) := (blk_cell HG.out 1).trans rfl
  have hcz5 : w.cell? ⟨g, 5, none⟩ = some (.int .i64 s.er) := (blk_cell HG.out 5).trans rfl
  clear hg hB hb ho hR h hK
  go_enter Try.func63, Try.ntmps63
  by_cases h0 : s.er = 0
  · have d0 : (s.er != 0) = false := by rw [h0]; rfl
    have h1 := H.out
    unfold symS at h1
    rw [if_neg (by rw [h0]; simp)] at h1
    obtain ⟨⟨r1, r2, r3⟩, hr, h2⟩ := Option.bind_eq_some_iff.1 h1
    have HGet := Aside0.mk hr
    have H2 := Aside0.mk h2
    clear h1 hr h2 H
    go_upto_region 3 with fail
    go_region_with (go_at_call 74; refine (book_next base gk F S _ _ b s.pos r1 r2 r3 w.drew (HKb.out.below (Below.refl _ _).drew) (Kd.C_below HC.out HB.out.drew) hc HGet.out).mono ?_; rintro e w1 ⟨rfl, hd⟩; have HD := Aside0.mk hd; clear hd)
    all_goals
      have hb1 : Below w.heap.size w w1 := below_then (Below.refl _ _).drew (Nat.le_refl _) HD.out.below
      have HR1 := Aside0.mk (HR.out.below hb1)
      have HB1 := Aside0.mk (show Below w0.heap.size w0 w1 from below_then HB.out HB.out.size hb1)
      have HK1 := Aside0.mk (KeepT.of_below hb1)
      clear hcz0 hcz1 hcz5 hb1 HD HG
      go_wp2_with fail
      refine (rdr_want g b most s r3 3 w0 w1 HR1.out HB1.out).mono ?_
      rintro e w2 ⟨rfl, hR2, hB2, hK2⟩
      by_cases h3 : r3 = true
      · have e1 : wantS s r3 3 = s := want_in h0 h3
        rw [e1] at hR2 ⊢
        have d1 : (s.er == 0) = true := beq_iff_eq.2 h0
        have h4 := H2.out
        rw [if_pos h3] at h4
        injection h4 with h4
        injection h4 with h4 h5
        subst h4 h5
        obtain ⟨A1, c1, A4, c4, hg2, hge2, hb2, hc2, ho2⟩ := hR2.cells
        have HG2 := Aside0.mk hg2
        have HB2 := Aside0.mk hB2
        have HO2 := Aside0.mk ho2
        have HK2 := Aside0.mk hK2
        have HC2 := Aside0.mk hb2
        have hfz := blk_frozen HG2.out 1
        have hczs : w2.cell? ⟨g, 1, none⟩ = some (.int .i64 s.pos) := (blk_cell HG2.out 1).trans rfl
        clear hg2 hB2 ho2 hK2 hb2 hR2 e1
        go_wp2_with fail
        go_ret
        exact ⟨rfl, ⟨A1, c1, _, blk_put HG2.out 1 (.int .i64 r2) rfl, hge2, HC2.out, hc2, Rdr.put HG2.out HO2.out 1 _⟩, HB2.out.setCell (p := ⟨g, 1, none⟩) hge2 _, (HK1.out.trans HK2.out).trans (KeepT.put HG2.out 1 _)⟩
      · have e1 : wantS s r3 3 = { s with er := 3 } := by unfold wantS; rw [if_pos ⟨h0, by simpa using h3⟩]
        rw [e1] at hR2 ⊢
        have h4 := H2.out
        rw [if_neg h3] at h4
        injection h4 with h4
        injection h4 with h4 h5
        subst h4 h5
        have HR2 := Aside0.mk hR2
        have HB2 := Aside0.mk hB2
        have HK2 := Aside0.mk hK2
        clear hR2 hB2 hK2 e1
        go_wp2_with fail
        go_ret
        exact ⟨rfl, HR2.out, HB2.out, HK1.out.trans HK2.out⟩
  · have d0 : (s.er != 0) = true := bne_iff_ne.2 h0
    go_wp2_with fail
    go_ret
    have h1 := H.out
    unfold symS at h1
    rw [if_pos h0] at h1
    injection h1 with h1
    injection h1 with h1 h2
    subst h1 h2
    exact ⟨rfl, HR.out, HB.out, KeepT.refl _⟩

-- PART
end Go.Proofs.Ytcjijhjdkgjgeaa.P
namespace Go.Proofs.Ytcjijhjdkgjgeaa.P
open Go.RowKit Go.Proofs.YtcjijhjdkgjgeaaW.PrintWords Go.Proofs.YtcjijhjdkgjgeaaW.PrintLast Go.Proofs.YtcjijhjdkgjgeaaW.PrintMore
attribute [local go_sem] max2_int min2_int max_two min_two max_three min_three max_four min_four   -- for this text's walks alone
set_option linter.unusedVariables false
set_option linter.unusedSimpArgs false

/-! ### sym_lens: function 67 -/
def sym_lens.f  : Option (Int × Int) := some (8, 4)
set_option maxHeartbeats 8000000 in
set_option maxRecDepth 100000 in
theorem sym_lens.calls  (r1 : Int) (r2 : Int) (w : World) (h : sym_lens.f  = some (r1, r2)) :
    Calls Try.prog 67 #[] w fun e w' => e = .returned (.agg #[.int .i64 r1, .int .i64 r2]) ∧ Below w.heap.size w w' := by
  have hu120 := Try.underlying120
  have HB := Aside0.mk (Below.refl w.heap.size w)
  have H : (some (8, 4)) = some (r1, r2) := h
  clear h
  simp only [Option.some.injEq, Prod.mk.injEq] at H
  obtain ⟨rfl, rfl⟩ := H
  go_enter Try.func67, Try.ntmps67
  go_wp2_with (first | ((with_reducible refine gate_dst (N := 0) rfl ?_); refine box_event ?hg (N := 0) ?hd (cs := #[.int .i64 0, .int .i64 0]) (t := 120) ?hr ?_; (case hd => rfl); (case hg => rfl); (case hr => first | (go_simp; done) | (go_simp; rfl)); intro gb117 hg w1 hbox hb; have n0_ := Aside0.mk (below_step (by repeat (first | (with_reducible first | exact HB.out | apply below_alloc | apply pw_below_drewN | apply below_drew1) | exact HB.out)) hb); have n1_ := Aside0.mk (hbox); have n2_ := Aside0.mk ((by rw [hg]; exact (below_size (by repeat (first | (with_reducible first | exact HB.out | apply below_alloc | apply pw_below_drewN | apply below_drew1) | exact HB.out))) : w.heap.size ≤ gb117)); have n3_ := Aside0.mk ((by rw [hg]; exact (below_size (by repeat (first | (with_reducible first | exact HB.out | apply below_alloc | apply pw_below_drewN | apply below_drew1) | exact HB.out))) : w.heap.size ≤ gb117)); clear HB; have HB := n0_; have BK117 := n1_; have GW117 := n2_; have GE117 := n3_; clear n0_ n1_ n2_ n3_; clear hb hbox hg; have hcz2_0 : w1.cell? ⟨gb117, 0, none⟩ = some (.int .i64 0) := (blk_cell BK117.out 0).trans rfl; have hcz2_1 : w1.cell? ⟨gb117, 1, none⟩ = some (.int .i64 0) := (blk_cell BK117.out 1).trans rfl; have hfz2_0 := blk_frozen BK117.out 0; have hfz2_1 := blk_frozen BK117.out 1))
  refine bodyPost_ret (results_cell_row rfl _ _ gb117 120 #[.int .i64 8, .int .i64 4] (0, 0) _ rfl (by (with_reducible repeat (first | refine blk_drewN ?_ _ | refine blk_drew ?_ | refine blk_alloc ?_ _)); refine blk_put (cs := #[.int .i64 8, .int .i64 0]) ?_ 1 _ rfl; (with_reducible repeat (first | refine blk_drewN ?_ _ | refine blk_drew ?_ | refine blk_alloc ?_ _)); refine blk_put (cs := #[.int .i64 0, .int .i64 0]) ?_ 0 _ rfl; (with_reducible repeat (first | refine blk_drewN ?_ _ | refine blk_drew ?_ | refine blk_alloc ?_ _)); exact BK117.out) Try.underlying120 rfl (by kernel_rfl)) rfl ?_
  exact ⟨by first | rfl | (simp [errW_none, errW_some] <;> rfl) | (simp [*, errW_none, errW_some] <;> rfl), by repeat (first | (with_reducible first | exact HB.out | apply below_alloc | apply pw_below_drewN | apply below_drew1 | refine below_set ?_ GE117.out) | exact HB.out)⟩

end Go.Proofs.Ytcjijhjdkgjgeaa.P
namespace Go.Proofs.Ytcjijhjdkgjgeaa.P
open Go.RowKit Go.Proofs.YtcjijhjdkgjgeaaW.PrintWords Go.Proofs.YtcjijhjdkgjgeaaW.PrintLast Go.Proofs.YtcjijhjdkgjgeaaW.PrintMore
attribute [local go_sem] max2_int min2_int max_two min_two max_three min_three max_four min_four   -- for this text's walks alone
set_option linter.unusedVariables false
set_option linter.unusedSimpArgs false

/-! ### sym_scale_of: function 77 -/
def sym_scale_of.l0 : Nat → Int → Int → Int → Int → Int → Int → Option (Int × Int)
  | 0, _, _, _, _, _, _ => none
  | k + 1, x1, x4, x5, x6, x119000, x119001 => if x6 < x1 then (if x119001 = 0 then (none) else (if 0 ≤ (IntKind.u64.wrap (wrap64 (1 + (wrap64 (Int.tdiv (wrap64 (x6 - x119000)) x119001))))) then (sym_scale_of.l0 k x1 (wrap64 (x4 + (shl .i64 1 (IntKind.u64.wrap (wrap64 (1 + (wrap64 (Int.tdiv (wrap64 (x6 - x119000)) x119001)))))))) x5 (wrap64 (x6 + 1)) x119000 x119001) else (none))) else (if x1 ≥ x119000 then (if x119001 = 0 then (none) else (some (x4, wrap64 (1 + (wrap64 (Int.tdiv (wrap64 (x1 - x119000)) x119001)))))) else (some (x4, x5)))
def sym_scale_of.f (k : Nat) (a0_0 : Int) (a0_1 : Int) (a1 : Int) : Option (Int × Int) := sym_scale_of.l0 k a1 (mn a1 a0_0) 0 a0_0 a0_0 a0_1
theorem sym_scale_of.mono_l : ∀ k, (∀ y0 y1 y2 y3 y4 y5, LeO (sym_scale_of.l0 k y0 y1 y2 y3 y4 y5) (sym_scale_of.l0 (k + 1) y0 y1 y2 y3 y4 y5))
  | 0 => fun _ _ _ _ _ _ r h => by simp [sym_scale_of.l0] at h
  | k + 1 => by
    have ih0 := sym_scale_of.mono_l k
    · intro y0 y1 y2 y3 y4 y5
      unfold sym_scale_of.l0
      repeat' first
      | (with_reducible exact ih0 _ _ _ _ _ _)
      | (with_reducible exact LeO.refl _)
      | (with_reducible exact LeO.none _)
      | (with_reducible refine LeO.ite ?_ ?_)
      | (with_reducible refine LeO.bind ?_ (fun _ => ?_))
      | exact ih0 _ _ _ _ _ _
      | exact LeO.none _
      | refine LeO.ite ?_ ?_
      | refine LeO.bind ?_ (fun _ => ?_)
theorem sym_scale_of.mono : ∀ a0 a1 a2 k, LeO (sym_scale_of.f k a0 a1 a2) (sym_scale_of.f (k + 1) a0 a1 a2) := by
  intro a0 a1 a2 k
  have ih0 := sym_scale_of.mono_l k
  unfold sym_scale_of.f
  repeat' first
      | (with_reducible exact ih0 _ _ _ _ _ _)
      | (with_reducible exact LeO.refl _)
      | (with_reducible exact LeO.none _)
      | (with_reducible refine LeO.ite ?_ ?_)
      | (with_reducible refine LeO.bind ?_ (fun _ => ?_))
      | exact ih0 _ _ _ _ _ _
      | exact LeO.none _
      | refine LeO.ite ?_ ?_
      | refine LeO.bind ?_ (fun _ => ?_)
set_option maxHeartbeats 8000000 in
set_option maxRecDepth 100000 in
theorem sym_scale_of.calls (k : Nat) (a0_0 : Int) (a0_1 : Int) (a1 : Int) (r1 : Int) (r2 : Int) (w : World) (h : sym_scale_of.f k a0_0 a0_1 a1 = some (r1, r2)) :
    Calls Try.prog 77 #[.agg #[.int .i64 a0_0, .int .i64 a0_1], .int .i64 a1] w fun e w' => e = .returned (.tuple #[.int .i64 r1, .int .i64 r2]) ∧ Below w.heap.size w w' := by
  have hu120 := Try.underlying120
  have HB := Aside0.mk (Below.refl w.heap.size w)
  have H : (sym_scale_of.l0 k a1 (mn a1 a0_0) 0 a0_0 a0_0 a0_1) = some (r1, r2) := h
  clear h
  obtain ⟨ji3, hji3⟩ : ∃ j_ : Int, (mn a1 a0_0) = j_ := ⟨_, rfl⟩
  replace H : (sym_scale_of.l0 k a1 ji3 0 a0_0 a0_0 a0_1) = some (r1, r2) := by first | (rw [hji3] at H; exact H) | (simp only [hji3] at H ⊢; exact H)
  have hji3_ : (if a0_0 < a1 then a0_0 else a1) = ji3 := hji3
  have H' := Aside0.mk H
  clear H
  go_enter Try.func77, Try.ntmps77
  go_wp2_with (first | ((with_reducible refine gate_dst (N := 2) rfl ?_); refine box_event ?hg (N := 2) ?hd (cs := #[.int .i64 a0_0, .int .i64 a0_1]) (t := 120) ?hr ?_; (case hd => rfl); (case hg => rfl); (case hr => first | (go_simp; done) | (go_simp; rfl)); intro gb118 hg w4 hbox hb; have n0_ := Aside0.mk (below_step (by repeat (first | (with_reducible first | exact HB.out | apply below_alloc | apply pw_below_drewN | apply below_drew1) | exact HB.out)) hb); have n1_ := Aside0.mk (hbox); have n2_ := Aside0.mk ((by rw [hg]; exact (below_size (by repeat (first | (with_reducible first | exact HB.out | apply below_alloc | apply pw_below_drewN | apply below_drew1) | exact HB.out))) : w.heap.size ≤ gb118)); have n3_ := Aside0.mk ((by rw [hg]; exact (below_size (by repeat (first | (with_reducible first | exact HB.out | apply below_alloc | apply pw_below_drewN | apply below_drew1) | exact HB.out))) : w.heap.size ≤ gb118)); clear HB; have HB := n0_; have BK118 := n1_; have GW118 := n2_; have GE118 := n3_; clear n0_ n1_ n2_ n3_; clear hb hbox hg; have hcz5_0 : w4.cell? ⟨gb118, 0, none⟩ = some (.int .i64 a0_0) := (blk_cell BK118.out 0).trans rfl; have hcz5_1 : w4.cell? ⟨gb118, 1, none⟩ = some (.int .i64 a0_1) := (blk_cell BK118.out 1).trans rfl; have hfz5_0 := blk_frozen BK118.out 0; have hfz5_1 := blk_frozen BK118.out 1))
  go_loopg [4, 6] k (fun kq v4 v6 w' => ∃ (x4_1 : Int) (x6_1 : Int), v4 = .int .i64 x4_1 ∧ v6 = .int .i64 x6_1 ∧ Aside0 (sym_scale_of.l0 kq a1 x4_1 0 x6_1 a0_0 a0_1 = some (r1, r2)) ∧ Aside0 (kq ≤ k) ∧ Aside0 (w'.heap[gb118]? = some (.cells #[.int .i64 a0_0, .int .i64 a0_1] 120 (0, 0))) ∧ Aside0 (Below w.heap.size w w'))
  case atStart => exact ⟨(ji3), (a0_0), (by first | rfl | (simp; done) | (simp only [← hji3] <;> (first | rfl | simp)) | (simp [*]; done)), (by first | rfl | (simp; done) | (simp [*]; done)), H', ⟨Nat.le_refl _⟩, ⟨by (with_reducible repeat (first | refine blk_drewN ?_ _ | refine blk_drew ?_ | refine blk_alloc ?_ _)); exact BK118.out⟩, ⟨by repeat (first | (with_reducible first | exact HB.out | apply below_alloc | apply pw_below_drewN | apply below_drew1 | refine below_set ?_ GE118.out) | exact HB.out)⟩⟩
  case round =>
    clear H'
    try clear p2
    try clear hcz5_0
    try clear hcz5_1
    try clear hfz5_0
    try clear hfz5_1
    obtain ⟨x4_1, x6_1, rfl, rfl, HA, HK1, BK118, HB⟩ := hrel
    cases gk with
    | zero => exact absurd HA.out (by simp [sym_scale_of.l0])
    | succ k1 =>
      have H := HA.out
      clear HA
      simp only [sym_scale_of.l0] at H
      by_cases c6 : x6_1 < a1
      · rw [if_pos c6] at H
        have c6b0 : decide (x6_1 < a1) = true := decide_eq_true c6
        clear c6
        by_cases c7 : a0_1 = 0
        · rw [if_pos c7] at H
          exact absurd H (by simp)
        · rw [if_neg c7] at H
          have c7b0 : (a0_1 == 0) = false := beq_eq_false_iff_ne.mpr c7
          have c7b1 : (a0_1 != 0) = true := bne_iff_ne.mpr c7
          obtain ⟨ji8, hji8⟩ : ∃ j_ : Int, (IntKind.u64.wrap (wrap64 (1 + (wrap64 (Int.tdiv (wrap64 (x6_1 - a0_0)) a0_1))))) = j_ := ⟨_, rfl⟩
          replace H : (if 0 ≤ (ji8) then (sym_scale_of.l0 k1 a1 (wrap64 (x4_1 + (shl .i64 1 (ji8)))) 0 (wrap64 (x6_1 + 1)) a0_0 a0_1) else (none)) = some (r1, r2) := by first | (rw [hji8] at H; exact H) | (simp only [hji8] at H ⊢; exact H)
          by_cases c9 : 0 ≤ (ji8)
          · rw [if_pos c9] at H
            have c9b0 := eq_true c9
            have c9b1 : decide (0 ≤ (ji8)) = true := decide_eq_true c9
            clear c9
            obtain ⟨ji10, hji10⟩ : ∃ j_ : Int, (shl .i64 1 (ji8)) = j_ := ⟨_, rfl⟩
            replace H : (sym_scale_of.l0 k1 a1 (wrap64 (x4_1 + (ji10))) 0 (wrap64 (x6_1 + 1)) a0_0 a0_1) = some (r1, r2) := by first | (rw [hji10] at H; exact H) | (simp only [hji10] at H ⊢; exact H)
            have hji10_ : (IntKind.i64.wrap (1 * 2 ^ min (ji8).toNat 64)) = ji10 := hji10
            have hji10z : (ji8) ≤ 64 → (IntKind.i64.wrap (1 * 2 ^ (ji8).toNat)) = ji10 := shl_small hji10
            have hji10u : (IntKind.i64.wrap (2 ^ min (ji8).toNat 64)) = ji10 := by have h_ := hji10_; rw [Int.one_mul] at h_; exact h_
            have hji10v : (ji8) ≤ 64 → (IntKind.i64.wrap (2 ^ (ji8).toNat)) = ji10 := fun hle_ => by have h_ := hji10z hle_; rw [Int.one_mul] at h_; exact h_
            have hji10y : (wrap64 (1 * 2 ^ min (ji8).toNat 64)) = ji10 := (i64_w _).symm.trans hji10_
            have hji10x : (ji8) ≤ 64 → (wrap64 (1 * 2 ^ (ji8).toNat)) = ji10 := fun h_ => (i64_w _).symm.trans (hji10z h_)
            have H' := Aside0.mk H
            clear H
            have hcz11_0 : wr.cell? ⟨gb118, 0, none⟩ = some (.int .i64 a0_0) := (blk_cell BK118.out 0).trans rfl
            have hcz11_1 : wr.cell? ⟨gb118, 1, none⟩ = some (.int .i64 a0_1) := (blk_cell BK118.out 1).trans rfl
            have hfz11_0 := blk_frozen BK118.out 0
            have hfz11_1 := blk_frozen BK118.out 1
            go_wp2
            go_roundg k1
            case measure => have := HK1.out; omega
            case rel => exact ⟨(wrap64 (x4_1 + (ji10))), (wrap64 (x6_1 + 1)), (by first | rfl | (simp; done) | (simp only [← hji10] <;> (first | rfl | simp)) | (simp [*]; done)), (by first | rfl | (simp; done) | (simp [*]; done)), H', ⟨by have := HK1.out; omega⟩, ⟨by (with_reducible repeat (first | refine blk_drewN ?_ _ | refine blk_drew ?_ | refine blk_alloc ?_ _)); exact BK118.out⟩, ⟨by repeat (first | (with_reducible first | exact HB.out | apply below_alloc | apply pw_below_drewN | apply below_drew1 | refine below_set ?_ GE118.out) | exact HB.out)⟩⟩
          · rw [if_neg c9] at H
            exact absurd H (by simp)
      · rw [if_neg c6] at H
        have c6b0 : decide (x6_1 < a1) = false := decide_eq_false c6
        clear c6
        by_cases c12 : a1 ≥ a0_0
        · rw [if_pos c12] at H
          have c12b0 : decide (a0_0 ≤ a1) = true := decide_eq_true c12
          clear c12
          by_cases c13 : a0_1 = 0
          · rw [if_pos c13] at H
            exact absurd H (by simp)
          · rw [if_neg c13] at H
            have c13b0 : (a0_1 == 0) = false := beq_eq_false_iff_ne.mpr c13
            have c13b1 : (a0_1 != 0) = true := bne_iff_ne.mpr c13
            simp only [Option.some.injEq, Prod.mk.injEq] at H
            obtain ⟨rfl, rfl⟩ := H
            have hcz14_0 : wr.cell? ⟨gb118, 0, none⟩ = some (.int .i64 a0_0) := (blk_cell BK118.out 0).trans rfl
            have hcz14_1 : wr.cell? ⟨gb118, 1, none⟩ = some (.int .i64 a0_1) := (blk_cell BK118.out 1).trans rfl
            have hfz14_0 := blk_frozen BK118.out 0
            have hfz14_1 := blk_frozen BK118.out 1
            go_wp2
            go_ret2
            exact ⟨by first | rfl | (simp [errW_none, errW_some] <;> rfl) | (simp only [← hji3]; first | rfl | (simp [errW_none, errW_some] <;> rfl)) | (simp [*, errW_none, errW_some] <;> rfl), by repeat (first | (with_reducible first | exact HB.out | apply below_alloc | apply pw_below_drewN | apply below_drew1 | refine below_set ?_ GE118.out) | exact HB.out)⟩
        · rw [if_neg c12] at H
          have c12b0 : decide (a0_0 ≤ a1) = false := decide_eq_false c12
          clear c12
          simp only [Option.some.injEq, Prod.mk.injEq] at H
          obtain ⟨rfl, rfl⟩ := H
          have hcz15_0 : wr.cell? ⟨gb118, 0, none⟩ = some (.int .i64 a0_0) := (blk_cell BK118.out 0).trans rfl
          have hcz15_1 : wr.cell? ⟨gb118, 1, none⟩ = some (.int .i64 a0_1) := (blk_cell BK118.out 1).trans rfl
          have hfz15_0 := blk_frozen BK118.out 0
          have hfz15_1 := blk_frozen BK118.out 1
          go_wp2
          go_ret2
          exact ⟨by first | rfl | (simp [errW_none, errW_some] <;> rfl) | (simp only [← hji3]; first | rfl | (simp [errW_none, errW_some] <;> rfl)) | (simp [*, errW_none, errW_some] <;> rfl), by repeat (first | (with_reducible first | exact HB.out | apply below_alloc | apply pw_below_drewN | apply below_drew1 | refine below_set ?_ GE118.out) | exact HB.out)⟩

end Go.Proofs.Ytcjijhjdkgjgeaa.P
namespace Go.Proofs.Ytcjijhjdkgjgeaa.P
open Go.RowKit Go.Proofs.YtcjijhjdkgjgeaaW.PrintWords Go.Proofs.YtcjijhjdkgjgeaaW.PrintLast Go.Proofs.YtcjijhjdkgjgeaaW.PrintMore
attribute [local go_sem] max2_int min2_int max_two min_two max_three min_three max_four min_four   -- for this text's walks alone
set_option linter.unusedVariables false
set_option linter.unusedSimpArgs false

/-! ### sym_LenOf: function 75 -/
def sym_LenOf.j0 : Nat → Int → Bool → Option (Int × Int × Int)
  | 0, _, _ => none
  | k + 1, x0, x5 => if x5 = true then (some (0, 0, 1)) else (if x0 = 285 then (some (258, 0, 0)) else ((sym_lens.f).bind fun bt119 => ((sym_scale_of.f k bt119.1 bt119.2 (wrap64 (x0 - 257))).bind fun bt121 => (some (wrap64 (3 + bt121.1), bt121.2, 0)))))
def sym_LenOf.f (k : Nat) (a0 : Int) : Option (Int × Int × Int) := if a0 < 257 then (sym_LenOf.j0 k a0 true) else (sym_LenOf.j0 k a0 (decide (a0 > 285)))
theorem sym_LenOf.mono_l : ∀ k, (∀ y0 y1, LeO (sym_LenOf.j0 k y0 y1) (sym_LenOf.j0 (k + 1) y0 y1))
  | 0 => fun _ _ r h => by simp [sym_LenOf.j0] at h
  | k + 1 => by
    have ih0 := sym_LenOf.mono_l k
    · intro y0 y1
      unfold sym_LenOf.j0
      repeat' first
      | (with_reducible exact ih0 _ _)
      | (with_reducible exact sym_scale_of.mono _ _ _ _)
      | (with_reducible exact LeO.refl _)
      | (with_reducible exact LeO.none _)
      | (with_reducible refine LeO.ite ?_ ?_)
      | (with_reducible refine LeO.bind ?_ (fun _ => ?_))
      | exact ih0 _ _
      | exact sym_scale_of.mono _ _ _ _
      | exact LeO.none _
      | refine LeO.ite ?_ ?_
      | refine LeO.bind ?_ (fun _ => ?_)
theorem sym_LenOf.mono : ∀ a0 k, LeO (sym_LenOf.f k a0) (sym_LenOf.f (k + 1) a0) := by
  intro a0 k
  have ih0 := sym_LenOf.mono_l k
  unfold sym_LenOf.f
  repeat' first
      | (with_reducible exact ih0 _ _)
      | (with_reducible exact sym_scale_of.mono _ _ _ _)
      | (with_reducible exact LeO.refl _)
      | (with_reducible exact LeO.none _)
      | (with_reducible refine LeO.ite ?_ ?_)
      | (with_reducible refine LeO.bind ?_ (fun _ => ?_))
      | exact ih0 _ _
      | exact sym_scale_of.mono _ _ _ _
      | exact LeO.none _
      | refine LeO.ite ?_ ?_
      | refine LeO.bind ?_ (fun _ => ?_)
set_option maxHeartbeats 8000000 in
set_option maxRecDepth 100000 in
theorem sym_LenOf.calls (k : Nat) (a0 : Int) (r1 : Int) (r2 : Int) (r3 : Int) (w : World) (h : sym_LenOf.f k a0 = some (r1, r2, r3)) :
    Calls Try.prog 75 #[.int .i64 a0] w fun e w' => e = .returned (.tuple #[.int .i64 r1, .int .i64 r2, .int .i64 r3]) ∧ Below w.heap.size w w' := by
  have HB := Aside0.mk (Below.refl w.heap.size w)
  have H : (if a0 < 257 then (sym_LenOf.j0 k a0 true) else (sym_LenOf.j0 k a0 (decide (a0 > 285)))) = some (r1, r2, r3) := h
  clear h
  have HC2 := Aside0.mk H
  clear H
  go_enter Try.func75, Try.ntmps75
  go_upto_region 1 with (fail)
  go_cut [5] (fun v5 wc => ∃ (kq : Nat) (x5_1 : Bool), v5 = .bool x5_1 ∧ Aside0 (sym_LenOf.j0 kq a0 x5_1 = some (r1, r2, r3)) ∧ Aside0 (kq ≤ k) ∧ Aside0 (Below w.heap.size w wc))
  case first =>
    have H := HC2.out
    clear HC2
    by_cases c3 : a0 < 257
    · rw [if_pos c3] at H
      have c3b0 : decide (a0 < 257) = true := decide_eq_true c3
      clear c3
      (first | rw [c3b0] | (simp only [i64_w, i32_w]; rw [c3b0]) | skip)
      have H' := Aside0.mk H
      clear H
      go_wp2
      go_meet
      case rel => exact ⟨_, (true), (by first | rfl | (simp; done) | (simp [*]; done)), H', ⟨by first | omega | exact Nat.le_refl _⟩, ⟨by repeat (first | (with_reducible first | exact HB.out | apply below_alloc | apply pw_below_drewN | apply below_drew1) | exact HB.out)⟩⟩
    · rw [if_neg c3] at H
      have c3b0 : decide (a0 < 257) = false := decide_eq_false c3
      clear c3
      (first | rw [c3b0] | (simp only [i64_w, i32_w]; rw [c3b0]) | skip)
      have H' := Aside0.mk H
      clear H
      go_wp2
      go_meet
      case rel => exact ⟨_, (decide (a0 > 285)), (by first | rfl | (simp; done) | (simp [*]; done)), H', ⟨by first | omega | exact Nat.le_refl _⟩, ⟨by repeat (first | (with_reducible first | exact HB.out | apply below_alloc | apply pw_below_drewN | apply below_drew1) | exact HB.out)⟩⟩
  case rest =>
    clear HC2
    try clear p2
    try clear c3
    try clear c3b0
    obtain ⟨kq, x5_1, rfl, HA, HJ1, HB⟩ := hcut
    cases kq with
    | zero => exact absurd HA.out (by simp [sym_LenOf.j0])
    | succ kj1 =>
      have H := HA.out
      clear HA
      simp only [sym_LenOf.j0] at H
      by_cases c4 : x5_1 = true
      · subst c4
        have H1 : (some (0, 0, 1)) = some (r1, r2, r3) := by rw [if_pos rfl] at H; exact H
        clear H
        have H := H1
        clear H1
        simp only [Option.some.injEq, Prod.mk.injEq] at H
        obtain ⟨rfl, rfl, rfl⟩ := H
        go_wp2
        go_ret3
        exact ⟨by first | rfl | (simp [errW_none, errW_some] <;> rfl) | (simp [*, errW_none, errW_some] <;> rfl), by repeat (first | (with_reducible first | exact HB.out | apply below_alloc | apply pw_below_drewN | apply below_drew1) | exact HB.out)⟩
      · replace c4 := Bool.eq_false_iff.mpr c4
        subst c4
        have H1 : (if a0 = 285 then (some (258, 0, 0)) else ((sym_lens.f).bind fun bt119 => ((sym_scale_of.f kj1 bt119.1 bt119.2 (wrap64 (a0 - 257))).bind fun bt121 => (some (wrap64 (3 + bt121.1), bt121.2, 0))))) = some (r1, r2, r3) := by rw [if_neg (show ¬ (false = true) by decide)] at H; exact H
        clear H
        have H := H1
        clear H1
        by_cases c5 : a0 = 285
        · rw [if_pos c5] at H
          have c5b0 : (a0 == 285) = true := beq_iff_eq.mpr c5
          have c5b1 : (a0 != 285) = false := bne_eq_false_iff_eq.mpr c5
          clear c5
          simp only [Option.some.injEq, Prod.mk.injEq] at H
          obtain ⟨rfl, rfl, rfl⟩ := H
          go_wp2
          go_ret3
          exact ⟨by first | rfl | (simp [errW_none, errW_some] <;> rfl) | (simp [*, errW_none, errW_some] <;> rfl), by repeat (first | (with_reducible first | exact HB.out | apply below_alloc | apply pw_below_drewN | apply below_drew1) | exact HB.out)⟩
        · rw [if_neg c5] at H
          have c5b0 : (a0 == 285) = false := beq_eq_false_iff_ne.mpr c5
          have c5b1 : (a0 != 285) = true := bne_iff_ne.mpr c5
          replace H := Option.bind_eq_some_iff.mp H
          obtain ⟨⟨t119, t120⟩, A60, H⟩ := H
          replace H : ((sym_scale_of.f kj1 t119 t120 (wrap64 (a0 - 257))).bind fun bt121 => (some (wrap64 (3 + bt121.1), bt121.2, 0))) = some (r1, r2, r3) := H
          have A6 := Aside0.mk A60
          clear A60
          replace H := Option.bind_eq_some_iff.mp H
          obtain ⟨⟨t121, t122⟩, A70, H⟩ := H
          replace H : (some (wrap64 (3 + t121), t122, 0)) = some (r1, r2, r3) := H
          have A7 := Aside0.mk A70
          clear A70
          simp only [Option.some.injEq, Prod.mk.injEq] at H
          obtain ⟨rfl, rfl, rfl⟩ := H
          go_wp2_with (first | ((with_reducible refine gate_callee (f := 67) rfl ?_); refine goesL_ (some 16) rfl rfl Try.func67 (by kernel_rfl) rfl #[] rfl (by (try simp only [List.map_toArray, List.map_cons, List.map_nil]); first | done | rfl | (simp only [List.length_drop, List.length_take]; rfl)) ?_; (with_reducible refine (sym_lens.calls  t119 t120 _ A6.out).mono ?_); rintro e w8 ⟨rfl, hb⟩; refine ⟨_, rfl, ?_⟩; have n0_ := Aside0.mk (below_step (by repeat (first | (with_reducible first | exact HB.out | apply below_alloc | apply pw_below_drewN | apply below_drew1) | exact HB.out)) hb); clear HB; have HB := n0_; clear n0_; (try clear hb); (try clear hb2); (try clear hk); (try clear hi)) | ((with_reducible refine gate_callee (f := 77) rfl ?_); refine goesL_ (some 19) rfl rfl Try.func77 (by kernel_rfl) rfl #[.agg #[.int .i64 t119, .int .i64 t120], .int .i64 (wrap64 (a0 - 257))] rfl (by (try simp only [List.map_toArray, List.map_cons, List.map_nil]); first | done | rfl | (simp only [List.length_drop, List.length_take]; rfl)) ?_; (with_reducible refine (sym_scale_of.calls kj1 t119 t120 (wrap64 (a0 - 257)) t121 t122 _ A7.out).mono ?_); rintro e w9 ⟨rfl, hb⟩; refine ⟨_, rfl, ?_⟩; have n0_ := Aside0.mk (below_step (by repeat (first | (with_reducible first | exact HB.out | apply below_alloc | apply pw_below_drewN | apply below_drew1) | exact HB.out)) hb); clear HB; have HB := n0_; clear n0_; (try clear hb); (try clear hb2); (try clear hk); (try clear hi)))
          go_ret3
          exact ⟨by first | rfl | (simp [errW_none, errW_some] <;> rfl) | (simp [*, errW_none, errW_some] <;> rfl), by repeat (first | (with_reducible first | exact HB.out | apply below_alloc | apply pw_below_drewN | apply below_drew1) | exact HB.out)⟩

end Go.Proofs.Ytcjijhjdkgjgeaa.P
namespace Go.Proofs.Ytcjijhjdkgjgeaa.P
open Go.RowKit Go.Proofs.YtcjijhjdkgjgeaaW.PrintWords Go.Proofs.YtcjijhjdkgjgeaaW.PrintLast Go.Proofs.YtcjijhjdkgjgeaaW.PrintMore
attribute [local go_sem] max2_int min2_int max_two min_two max_three min_three max_four min_four   -- for this text's walks alone
set_option linter.unusedVariables false
set_option linter.unusedSimpArgs false

/-! ### sym_dists: function 69 -/
def sym_dists.f  : Option (Int × Int) := some (4, 2)
set_option maxHeartbeats 8000000 in
set_option maxRecDepth 100000 in
theorem sym_dists.calls  (r1 : Int) (r2 : Int) (w : World) (h : sym_dists.f  = some (r1, r2)) :
    Calls Try.prog 69 #[] w fun e w' => e = .returned (.agg #[.int .i64 r1, .int .i64 r2]) ∧ Below w.heap.size w w' := by
  have hu120 := Try.underlying120
  have HB := Aside0.mk (Below.refl w.heap.size w)
  have H : (some (4, 2)) = some (r1, r2) := h
  clear h
  simp only [Option.some.injEq, Prod.mk.injEq] at H
  obtain ⟨rfl, rfl⟩ := H
  go_enter Try.func69, Try.ntmps69
  go_wp2_with (first | ((with_reducible refine gate_dst (N := 0) rfl ?_); refine box_event ?hg (N := 0) ?hd (cs := #[.int .i64 0, .int .i64 0]) (t := 120) ?hr ?_; (case hd => rfl); (case hg => rfl); (case hr => first | (go_simp; done) | (go_simp; rfl)); intro gb123 hg w1 hbox hb; have n0_ := Aside0.mk (below_step (by repeat (first | (with_reducible first | exact HB.out | apply below_alloc | apply pw_below_drewN | apply below_drew1) | exact HB.out)) hb); have n1_ := Aside0.mk (hbox); have n2_ := Aside0.mk ((by rw [hg]; exact (below_size (by repeat (first | (with_reducible first | exact HB.out | apply below_alloc | apply pw_below_drewN | apply below_drew1) | exact HB.out))) : w.heap.size ≤ gb123)); have n3_ := Aside0.mk ((by rw [hg]; exact (below_size (by repeat (first | (with_reducible first | exact HB.out | apply below_alloc | apply pw_below_drewN | apply below_drew1) | exact HB.out))) : w.heap.size ≤ gb123)); clear HB; have HB := n0_; have BK123 := n1_; have GW123 := n2_; have GE123 := n3_; clear n0_ n1_ n2_ n3_; clear hb hbox hg; have hcz2_0 : w1.cell? ⟨gb123, 0, none⟩ = some (.int .i64 0) := (blk_cell BK123.out 0).trans rfl; have hcz2_1 : w1.cell? ⟨gb123, 1, none⟩ = some (.int .i64 0) := (blk_cell BK123.out 1).trans rfl; have hfz2_0 := blk_frozen BK123.out 0; have hfz2_1 := blk_frozen BK123.out 1))
  refine bodyPost_ret (results_cell_row rfl _ _ gb123 120 #[.int .i64 4, .int .i64 2] (0, 0) _ rfl (by (with_reducible repeat (first | refine blk_drewN ?_ _ | refine blk_drew ?_ | refine blk_alloc ?_ _)); refine blk_put (cs := #[.int .i64 4, .int .i64 0]) ?_ 1 _ rfl; (with_reducible repeat (first | refine blk_drewN ?_ _ | refine blk_drew ?_ | refine blk_alloc ?_ _)); refine blk_put (cs := #[.int .i64 0, .int .i64 0]) ?_ 0 _ rfl; (with_reducible repeat (first | refine blk_drewN ?_ _ | refine blk_drew ?_ | refine blk_alloc ?_ _)); exact BK123.out) Try.underlying120 rfl (by kernel_rfl)) rfl ?_
  exact ⟨by first | rfl | (simp [errW_none, errW_some] <;> rfl) | (simp [*, errW_none, errW_some] <;> rfl), by repeat (first | (with_reducible first | exact HB.out | apply below_alloc | apply pw_below_drewN | apply below_drew1 | refine below_set ?_ GE123.out) | exact HB.out)⟩

end Go.Proofs.Ytcjijhjdkgjgeaa.P
namespace Go.Proofs.Ytcjijhjdkgjgeaa.P
open Go.RowKit Go.Proofs.YtcjijhjdkgjgeaaW.PrintWords Go.Proofs.YtcjijhjdkgjgeaaW.PrintLast Go.Proofs.YtcjijhjdkgjgeaaW.PrintMore
attribute [local go_sem] max2_int min2_int max_two min_two max_three min_three max_four min_four   -- for this text's walks alone
set_option linter.unusedVariables false
set_option linter.unusedSimpArgs false

/-! ### sym_DistOf: function 76 -/
def sym_DistOf.j0 : Nat → Int → Bool → Option (Int × Int × Int)
  | 0, _, _ => none
  | k + 1, x0, x10 => if x10 = true then (some (0, 0, 1)) else ((sym_dists.f).bind fun bt124 => ((sym_scale_of.f k bt124.1 bt124.2 x0).bind fun bt126 => (some (wrap64 (1 + bt126.1), bt126.2, 0))))
def sym_DistOf.f (k : Nat) (a0 : Int) : Option (Int × Int × Int) := if a0 < 0 then (sym_DistOf.j0 k a0 true) else (sym_DistOf.j0 k a0 (decide (a0 ≥ 30)))
theorem sym_DistOf.mono_l : ∀ k, (∀ y0 y1, LeO (sym_DistOf.j0 k y0 y1) (sym_DistOf.j0 (k + 1) y0 y1))
  | 0 => fun _ _ r h => by simp [sym_DistOf.j0] at h
  | k + 1 => by
    have ih0 := sym_DistOf.mono_l k
    · intro y0 y1
      unfold sym_DistOf.j0
      repeat' first
      | (with_reducible exact ih0 _ _)
      | (with_reducible exact sym_scale_of.mono _ _ _ _)
      | (with_reducible exact LeO.refl _)
      | (with_reducible exact LeO.none _)
      | (with_reducible refine LeO.ite ?_ ?_)
      | (with_reducible refine LeO.bind ?_ (fun _ => ?_))
      | exact ih0 _ _
      | exact sym_scale_of.mono _ _ _ _
      | exact LeO.none _
      | refine LeO.ite ?_ ?_
      | refine LeO.bind ?_ (fun _ => ?_)
theorem sym_DistOf.mono : ∀ a0 k, LeO (sym_DistOf.f k a0) (sym_DistOf.f (k + 1) a0) := by
  intro a0 k
  have ih0 := sym_DistOf.mono_l k
  unfold sym_DistOf.f
  repeat' first
      | (with_reducible exact ih0 _ _)
      | (with_reducible exact sym_scale_of.mono _ _ _ _)
      | (with_reducible exact LeO.refl _)
      | (with_reducible exact LeO.none _)
      | (with_reducible refine LeO.ite ?_ ?_)
      | (with_reducible refine LeO.bind ?_ (fun _ => ?_))
      | exact ih0 _ _
      | exact sym_scale_of.mono _ _ _ _
      | exact LeO.none _
      | refine LeO.ite ?_ ?_
      | refine LeO.bind ?_ (fun _ => ?_)
set_option maxHeartbeats 8000000 in
set_option maxRecDepth 100000 in
theorem sym_DistOf.calls (k : Nat) (a0 : Int) (r1 : Int) (r2 : Int) (r3 : Int) (w : World) (h : sym_DistOf.f k a0 = some (r1, r2, r3)) :
    Calls Try.prog 76 #[.int .i64 a0] w fun e w' => e = .returned (.tuple #[.int .i64 r1, .int .i64 r2, .int .i64 r3]) ∧ Below w.heap.size w w' := by
  have HB := Aside0.mk (Below.refl w.heap.size w)
  have H : (if a0 < 0 then (sym_DistOf.j0 k a0 true) else (sym_DistOf.j0 k a0 (decide (a0 ≥ 30)))) = some (r1, r2, r3) := h
  clear h
  have HC2 := Aside0.mk H
  clear H
  go_enter Try.func76, Try.ntmps76
  go_upto_region 1 with (fail)
  go_cut [10] (fun v10 wc => ∃ (kq : Nat) (x10_1 : Bool), v10 = .bool x10_1 ∧ Aside0 (sym_DistOf.j0 kq a0 x10_1 = some (r1, r2, r3)) ∧ Aside0 (kq ≤ k) ∧ Aside0 (Below w.heap.size w wc))
  case first =>
    have H := HC2.out
    clear HC2
    by_cases c3 : a0 < 0
    · rw [if_pos c3] at H
      have c3b0 : decide (a0 < 0) = true := decide_eq_true c3
      clear c3
      (first | rw [c3b0] | (simp only [i64_w, i32_w]; rw [c3b0]) | skip)
      have H' := Aside0.mk H
      clear H
      go_wp2
      go_meet
      case rel => exact ⟨_, (true), (by first | rfl | (simp; done) | (simp [*]; done)), H', ⟨by first | omega | exact Nat.le_refl _⟩, ⟨by repeat (first | (with_reducible first | exact HB.out | apply below_alloc | apply pw_below_drewN | apply below_drew1) | exact HB.out)⟩⟩
    · rw [if_neg c3] at H
      have c3b0 : decide (a0 < 0) = false := decide_eq_false c3
      clear c3
      (first | rw [c3b0] | (simp only [i64_w, i32_w]; rw [c3b0]) | skip)
      have H' := Aside0.mk H
      clear H
      go_wp2
      go_meet
      case rel => exact ⟨_, (decide (a0 ≥ 30)), (by first | rfl | (simp; done) | (simp [*]; done)), H', ⟨by first | omega | exact Nat.le_refl _⟩, ⟨by repeat (first | (with_reducible first | exact HB.out | apply below_alloc | apply pw_below_drewN | apply below_drew1) | exact HB.out)⟩⟩
  case rest =>
    clear HC2
    try clear p2
    try clear c3
    try clear c3b0
    obtain ⟨kq, x10_1, rfl, HA, HJ1, HB⟩ := hcut
    cases kq with
    | zero => exact absurd HA.out (by simp [sym_DistOf.j0])
    | succ kj1 =>
      have H := HA.out
      clear HA
      simp only [sym_DistOf.j0] at H
      by_cases c4 : x10_1 = true
      · subst c4
        have H1 : (some (0, 0, 1)) = some (r1, r2, r3) := by rw [if_pos rfl] at H; exact H
        clear H
        have H := H1
        clear H1
        simp only [Option.some.injEq, Prod.mk.injEq] at H
        obtain ⟨rfl, rfl, rfl⟩ := H
        go_wp2
        go_ret3
        exact ⟨by first | rfl | (simp [errW_none, errW_some] <;> rfl) | (simp [*, errW_none, errW_some] <;> rfl), by repeat (first | (with_reducible first | exact HB.out | apply below_alloc | apply pw_below_drewN | apply below_drew1) | exact HB.out)⟩
      · replace c4 := Bool.eq_false_iff.mpr c4
        subst c4
        have H1 : ((sym_dists.f).bind fun bt124 => ((sym_scale_of.f kj1 bt124.1 bt124.2 a0).bind fun bt126 => (some (wrap64 (1 + bt126.1), bt126.2, 0)))) = some (r1, r2, r3) := by rw [if_neg (show ¬ (false = true) by decide)] at H; exact H
        clear H
        have H := H1
        clear H1
        replace H := Option.bind_eq_some_iff.mp H
        obtain ⟨⟨t124, t125⟩, A50, H⟩ := H
        replace H : ((sym_scale_of.f kj1 t124 t125 a0).bind fun bt126 => (some (wrap64 (1 + bt126.1), bt126.2, 0))) = some (r1, r2, r3) := H
        have A5 := Aside0.mk A50
        clear A50
        replace H := Option.bind_eq_some_iff.mp H
        obtain ⟨⟨t126, t127⟩, A60, H⟩ := H
        replace H : (some (wrap64 (1 + t126), t127, 0)) = some (r1, r2, r3) := H
        have A6 := Aside0.mk A60
        clear A60
        simp only [Option.some.injEq, Prod.mk.injEq] at H
        obtain ⟨rfl, rfl, rfl⟩ := H
        go_wp2_with (first | ((with_reducible refine gate_callee (f := 69) rfl ?_); refine goesL_ (some 12) rfl rfl Try.func69 (by kernel_rfl) rfl #[] rfl (by (try simp only [List.map_toArray, List.map_cons, List.map_nil]); first | done | rfl | (simp only [List.length_drop, List.length_take]; rfl)) ?_; (with_reducible refine (sym_dists.calls  t124 t125 _ A5.out).mono ?_); rintro e w7 ⟨rfl, hb⟩; refine ⟨_, rfl, ?_⟩; have n0_ := Aside0.mk (below_step (by repeat (first | (with_reducible first | exact HB.out | apply below_alloc | apply pw_below_drewN | apply below_drew1) | exact HB.out)) hb); clear HB; have HB := n0_; clear n0_; (try clear hb); (try clear hb2); (try clear hk); (try clear hi)) | ((with_reducible refine gate_callee (f := 77) rfl ?_); refine goesL_ (some 14) rfl rfl Try.func77 (by kernel_rfl) rfl #[.agg #[.int .i64 t124, .int .i64 t125], .int .i64 a0] rfl (by (try simp only [List.map_toArray, List.map_cons, List.map_nil]); first | done | rfl | (simp only [List.length_drop, List.length_take]; rfl)) ?_; (with_reducible refine (sym_scale_of.calls kj1 t124 t125 a0 t126 t127 _ A6.out).mono ?_); rintro e w8 ⟨rfl, hb⟩; refine ⟨_, rfl, ?_⟩; have n0_ := Aside0.mk (below_step (by repeat (first | (with_reducible first | exact HB.out | apply below_alloc | apply pw_below_drewN | apply below_drew1) | exact HB.out)) hb); clear HB; have HB := n0_; clear n0_; (try clear hb); (try clear hb2); (try clear hk); (try clear hi)))
        go_ret3
        exact ⟨by first | rfl | (simp [errW_none, errW_some] <;> rfl) | (simp [*, errW_none, errW_some] <;> rfl), by repeat (first | (with_reducible first | exact HB.out | apply below_alloc | apply pw_below_drewN | apply below_drew1) | exact HB.out)⟩

end Go.Proofs.Ytcjijhjdkgjgeaa.P
