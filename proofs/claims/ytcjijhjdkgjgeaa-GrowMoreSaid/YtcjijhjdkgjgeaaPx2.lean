-- Written by a program of this session out of the translation. Lean checks it.
import Derived.Test.YtcjijhjdkgjgeaaPx0
namespace Go.Proofs.Ytcjijhjdkgjgeaa.P
open Go.RowKit Go.Proofs.YtcjijhjdkgjgeaaW.PrintWords Go.Proofs.YtcjijhjdkgjgeaaW.PrintLast Go.Proofs.YtcjijhjdkgjgeaaW.PrintMore
attribute [local go_sem] max2_int min2_int max_two min_two max_three min_three max_four min_four   -- for this text's walks alone
set_option linter.unusedVariables false
set_option linter.unusedSimpArgs false

-- PART
/-! ### grow_reader_want: function 48 (by hand) -/
/-- What a reader of a stream has come to: where it is, what it told, how many blocks, the first error. -/
structure RSt where
  pos : Int
  out : List Int
  bl : Int
  er : Int
/-- A reader's block. -/
def Rdr (w0 W : World) (g : Nat) (b : List Int) (most : Int) (s : RSt) : Prop :=
  ∃ A0 c0 v3, W.heap[g]? = some (.cells #[.slice A0 b.length c0, .int .i64 s.pos, .int .i64 most, v3, .int .i64 s.bl, .int .i64 s.er] 49 (0, 0)) ∧ w0.heap.size ≤ g ∧ Kd.C (Kd.int .u8) w0 A0 b.length b ∧ b.length ≤ c0 ∧ Kd.R (Kd.int .u8) 5 W w0.heap.size (fun _ => True) v3 s.out
/-- Blocks of other types than bytes and readers stay. -/
def KeepT (W W' : World) : Prop := W.heap.size ≤ W'.heap.size ∧ ∀ (k : Nat) (cells : Array Value) (ty : TypeId), W.heap[k]? = some (.cells cells ty (0, 0)) → ty ≠ 5 → ty ≠ 49 → W'.heap[k]? = some (.cells cells ty (0, 0))
theorem KeepT.refl (W : World) : KeepT W W := ⟨Nat.le_refl _, fun _ _ _ h _ _ => h⟩
theorem KeepT.trans {W W1 W2 : World} (h : KeepT W W1) (k : KeepT W1 W2) : KeepT W W2 := ⟨Nat.le_trans h.1 k.1, fun i c t hi h5 h9 => k.2 i c t (h.2 i c t hi h5 h9) h5 h9⟩
theorem heap_lt {W : World} {k : Nat} {o : Obj} (h : W.heap[k]? = some o) : k < W.heap.size := (Array.getElem?_eq_some_iff.1 h).1
theorem KeepT.of_below {W W1 : World} (h : Below W.heap.size W W1) : KeepT W W1 := ⟨h.size, fun k c t hk _ _ => (h.block k (heap_lt hk)).trans hk⟩
theorem KeepT.below {W W1 W2 : World} (h : KeepT W W1) (k : Below W1.heap.size W1 W2) : KeepT W W2 := h.trans (KeepT.of_below k)
theorem KeepT.grown {W W1 : World} {row : Option Nat} (h : W.grownBy W1 row) (hr : ∀ g, row = some g → ∃ cs, W.heap[g]? = some (.cells cs 5 (0, 0))) : KeepT W W1 := by
  refine ⟨h.size, fun k c t hk h5 _ => (h.block k (heap_lt hk) fun hrow => ?_).trans hk⟩
  obtain ⟨cs, hc⟩ := hr k hrow.symm
  rw [hc] at hk
  injection hk with hk
  injection hk with _ ht
  exact h5 ht.symm
theorem KeepT.put {W : World} {g : Nat} {cs : Array Value} {fr : Nat × Nat} (hg : W.heap[g]? = some (.cells cs 49 fr)) (i : Nat) (v : Value) : KeepT W (W.setCell ⟨g, i, none⟩ v) := by
  refine ⟨by simp [World.setCell], fun k c t hk _ h9 => ?_⟩
  have hne : k ≠ g := by
    rintro rfl
    rw [hg] at hk
    injection hk with hk
    injection hk with _ ht
    exact h9 ht.symm
  exact blk_far (p := ⟨g, i, none⟩) hk hne v
/-- One of the four whole numbers of a reader, stored. -/
theorem Rdr.put {w0 W : World} {g : Nat} {cs : Array Value} {v3 : Value} {out : List Int} (hg : W.heap[g]? = some (.cells cs 49 (0, 0))) (ho : Kd.R (Kd.int .u8) 5 W w0.heap.size (fun _ => True) v3 out) (i : Nat) (v : Value) : Kd.R (Kd.int .u8) 5 (W.setCell ⟨g, i, none⟩ v) w0.heap.size (fun _ => True) v3 out :=
  Kd.R_mono (Kd.R_far (p := ⟨g, i, none⟩) (Kd.R_types ho hg (by decide)) (fun _ hk => hk.2) v) (fun _ hk => hk.1)
theorem Rdr.cells {w0 W : World} {g : Nat} {b : List Int} {most : Int} {s : RSt} (h : Rdr w0 W g b most s) : ∃ A0 c0 A3 c3, W.heap[g]? = some (.cells #[.slice A0 b.length c0, .int .i64 s.pos, .int .i64 most, .slice A3 s.out.length c3, .int .i64 s.bl, .int .i64 s.er] 49 (0, 0)) ∧ w0.heap.size ≤ g ∧ Kd.C (Kd.int .u8) w0 A0 b.length b ∧ b.length ≤ c0 ∧ Kd.R (Kd.int .u8) 5 W w0.heap.size (fun _ => True) (.slice A3 s.out.length c3) s.out := by
  obtain ⟨A0, c0, v3, h1, h2, h3, h4, h5⟩ := h
  obtain ⟨A3, c3, rfl⟩ := Kd.R_slice h5
  exact ⟨A0, c0, A3, c3, h1, h2, h3, h4, h5⟩
theorem Rdr.below {w0 W W1 : World} {g : Nat} {b : List Int} {most : Int} {s : RSt} (h : Rdr w0 W g b most s) (hb : Below W.heap.size W W1) : Rdr w0 W1 g b most s := by
  obtain ⟨A0, c0, v3, h1, h2, h3, h4, h5⟩ := h
  exact ⟨A0, c0, v3, (hb.block g (heap_lt h1)).trans h1, h2, h3, h4, Kd.R_below h5 hb⟩
/-- The first error is kept. -/
def wantS (s : RSt) (is : Bool) (e : Int) : RSt := if s.er = 0 ∧ is = false then { s with er := e } else s
theorem want_in {s : RSt} {is : Bool} {e : Int} (h : s.er = 0) (hi : is = true) : wantS s is e = s := by unfold wantS; rw [if_neg (by rw [hi]; simp)]
theorem cell_other (w : World) (g : Nat) {i j : Nat} (h : i ≠ j) (v : Value) : (w.setCell ⟨g, j, none⟩ v).cell? ⟨g, i, none⟩ = w.cell? ⟨g, i, none⟩ := by
  simp only [World.cell?, World.setCell]
  rw [Array.getElem?_modify, if_pos rfl]
  cases w.heap[g]? with
  | none => rfl
  | some o =>
    cases o <;> simp [Array.getElem?_setIfInBounds_ne, Ne.symm h]
set_option maxHeartbeats 8000000 in
set_option maxRecDepth 100000 in
theorem rdr_want2 (g : Nat) (b : List Int) (most : Int) (s : RSt) (is : Bool) (e : Int) (w0 w : World) (hR : Rdr w0 w g b most s) (hB : Below w0.heap.size w0 w) :
    Calls Try.prog 48 #[.pointer (some ⟨g, 0, none⟩), .bool is, .int .i64 e] w fun r w' => r = .returned (.bool ((wantS s is e).er == 0)) ∧ Rdr w0 w' g b most (wantS s is e) ∧ Below w0.heap.size w0 w' ∧ KeepT w w' ∧ (∀ i : Nat, i ≠ 5 → w'.cell? ⟨g, i, none⟩ = w.cell? ⟨g, i, none⟩) := by
  obtain ⟨A0, c0, A3, c3, hg, hge, hb, hc, ho⟩ := hR.cells
  have HG := Aside0.mk hg
  have HB := Aside0.mk hB
  have HC := Aside0.mk hb
  have HO := Aside0.mk ho
  have HR := Aside0.mk hR
  have hcz : w.cell? ⟨g, 5, none⟩ = some (.int .i64 s.er) := (blk_cell HG.out 5).trans rfl
  have hfz := blk_frozen HG.out 5
  clear hg hB hb ho hR
  go_enter Try.func48, Try.ntmps48
  by_cases h0 : s.er = 0
  · have d0 : (s.er == 0) = true := beq_iff_eq.2 h0
    cases is with
    | true =>
      go_wp2_with fail
      go_ret
      have e1 : wantS s true e = s := want_in h0 rfl
      rw [e1]
      exact ⟨by rw [d0]; rfl, HR.out, HB.out, KeepT.refl _, fun _ _ => rfl⟩
    | false =>
      have e1 : wantS s false e = { s with er := e } := by unfold wantS; rw [if_pos ⟨h0, rfl⟩]
      have hcz2 : (w.setCell ⟨g, 5, none⟩ (.int .i64 e)).cell? ⟨g, 5, none⟩ = some (.int .i64 e) := (blk_cell (blk_put HG.out 5 (.int .i64 e) rfl) 5).trans rfl
      go_wp2_with fail
      go_ret
      rw [e1]
      exact ⟨rfl, ⟨A0, c0, _, blk_put HG.out 5 (.int .i64 e) rfl, hge, HC.out, hc, Rdr.put HG.out HO.out 5 _⟩, HB.out.setCell (p := ⟨g, 5, none⟩) hge _, KeepT.put HG.out 5 _, fun i hi => cell_other w g hi _⟩
  · have d0 : (s.er == 0) = false := beq_eq_false_iff_ne.2 h0
    go_wp2_with fail
    go_ret
    have e1 : wantS s is e = s := by unfold wantS; rw [if_neg (fun h => h0 h.1)]
    rw [e1]
    exact ⟨by rw [d0]; rfl, HR.out, HB.out, KeepT.refl _, fun _ _ => rfl⟩
theorem rdr_want (g : Nat) (b : List Int) (most : Int) (s : RSt) (is : Bool) (e : Int) (w0 w : World) (hR : Rdr w0 w g b most s) (hB : Below w0.heap.size w0 w) :
    Calls Try.prog 48 #[.pointer (some ⟨g, 0, none⟩), .bool is, .int .i64 e] w fun r w' => r = .returned (.bool ((wantS s is e).er == 0)) ∧ Rdr w0 w' g b most (wantS s is e) ∧ Below w0.heap.size w0 w' ∧ KeepT w w' :=
  (rdr_want2 g b most s is e w0 w hR hB).mono fun _ _ h => ⟨h.1, h.2.1, h.2.2.1, h.2.2.2.1⟩
theorem rdr_want' (g : Nat) (b : List Int) (most : Int) (s : RSt) (is : Bool) (e : Int) (s1 : RSt) (w0 w : World) (hs : wantS s is e = s1) (hR : Rdr w0 w g b most s) (hB : Below w0.heap.size w0 w) :
    Calls Try.prog 48 #[.pointer (some ⟨g, 0, none⟩), .bool is, .int .i64 e] w fun r w' => r = .returned (.bool (s1.er == 0)) ∧ Rdr w0 w' g b most s1 ∧ Below w0.heap.size w0 w' ∧ KeepT w w' ∧ (∀ i : Nat, i ≠ 5 → w'.cell? ⟨g, i, none⟩ = w.cell? ⟨g, i, none⟩) := by
  have := rdr_want2 g b most s is e w0 w hR hB
  rw [hs] at this
  exact this

-- PART
end Go.Proofs.Ytcjijhjdkgjgeaa.P
