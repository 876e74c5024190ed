-- Written by a program of this session out of the translation. Lean checks it.
import Derived.Test.YtcjijhjdkgjgeaaPx0
namespace Go.Proofs.Ytcjijhjdkgjgeaa.P
open Go.RowKit Go.Proofs.YtcjijhjdkgjgeaaW.PrintWords Go.Proofs.YtcjijhjdkgjgeaaW.PrintLast Go.Proofs.YtcjijhjdkgjgeaaW.PrintMore
attribute [local go_sem] max2_int min2_int max_two min_two max_three min_three max_four min_four   -- for this text's walks alone
set_option linter.unusedVariables false
set_option linter.unusedSimpArgs false

-- PART
/-! ### canon_Open: function 46 (by hand) -/
/-- What stands in a book's block: how many codes there are of each length, the first one, the symbols, each row in a block of its own. -/
def BookAt (W : World) (base g : Nat) (F : Nat → Int) (S : Nat → List Int) : Prop :=
  ∃ (cs : Array Value) (V : Nat → Value), W.heap[g]? = some (.cells cs 111 (0, 0)) ∧ base ≤ g ∧ cs.size = 51 ∧ (∀ n, n < 17 → cs[n]? = some (.int .i64 (S n).length)) ∧ (∀ n, n < 17 → cs[17 + n]? = some (.int .i64 (F n))) ∧
    (∀ n, n < 17 → cs[34 + n]? = some (V n) ∧ Kd.R (Kd.int .i64) 3 W base (fun _ => True) (V n) (S n)) ∧ (∀ n m, n < 17 → m < 17 → n ≠ m → ∀ k, (V n).ownBlock = some k → (V m).ownBlock ≠ some k)
theorem brow_stay {W w' : World} {base : Nat} {v : Value} {xs : List Int} (h : Kd.R (Kd.int .i64) 3 W base (fun _ => True) v xs) (hm : ∀ k, v.ownBlock = some k → w'.heap[k]? = W.heap[k]?) : Kd.R (Kd.int .i64) 3 w' base (fun _ => True) v xs :=
  Kd.R_of_own (own_move (Kd.own_of_R h) hm) (fun _ _ => trivial)
theorem brow_cells {W : World} {base : Nat} {v : Value} {xs : List Int} (h : Kd.R (Kd.int .i64) 3 W base (fun _ => True) v xs) {k : Nat} (hk : v.ownBlock = some k) : ∃ cells, W.heap[k]? = some (.cells cells 3 (0, 0)) := own_typed (Kd.own_of_R h) k hk
theorem BookAt.below {W w' : World} {base g : Nat} {F : Nat → Int} {S : Nat → List Int} (h : BookAt W base g F S) (hb : Below W.heap.size W w') : BookAt w' base g F S := by
  obtain ⟨cs, V, h1, h2, h3, h4, h5, h6, h7⟩ := h
  exact ⟨cs, V, blk_below h1 hb, h2, h3, h4, h5, fun n hn => ⟨(h6 n hn).1, Kd.R_below (h6 n hn).2 hb⟩, h7⟩
theorem BookAt.many {W : World} {base g : Nat} {F : Nat → Int} {S : Nat → List Int} (h : BookAt W base g F S) (n : Nat) (hn : n < 17) : W.cell? ⟨g, n, none⟩ = some (.int .i64 (S n).length) ∧ W.frozen? ⟨g, n, none⟩ = false := by
  obtain ⟨cs, V, h1, h2, h3, h4, h5, h6, h7⟩ := h
  exact ⟨(blk_cell h1 n).trans (h4 n hn), blk_frozen h1 n⟩
theorem BookAt.first {W : World} {base g : Nat} {F : Nat → Int} {S : Nat → List Int} (h : BookAt W base g F S) (n : Nat) (hn : n < 17) : W.cell? ⟨g, 17 + n, none⟩ = some (.int .i64 (F n)) ∧ W.frozen? ⟨g, 17 + n, none⟩ = false := by
  obtain ⟨cs, V, h1, h2, h3, h4, h5, h6, h7⟩ := h
  exact ⟨(blk_cell h1 _).trans (h5 n hn), blk_frozen h1 _⟩
theorem BookAt.syms {W : World} {base g : Nat} {F : Nat → Int} {S : Nat → List Int} (h : BookAt W base g F S) (n : Nat) (hn : n < 17) : ∃ A c, W.cell? ⟨g, 34 + n, none⟩ = some (.slice A (S n).length c) ∧ (S n).length ≤ c ∧ Kd.C (Kd.int .i64) W A (S n).length (S n) := by
  obtain ⟨cs, V, h1, h2, h3, h4, h5, h6, h7⟩ := h
  obtain ⟨A, c, e, hl, hc⟩ := Kd.R_reads (h6 n hn).2
  exact ⟨A, c, by rw [blk_cell h1 _, (h6 n hn).1, e], hl, hc⟩
theorem brow_far {W : World} {base g : Nat} {cs : Array Value} (h1 : W.heap[g]? = some (.cells cs 111 (0, 0))) {v : Value} {xs : List Int} (h : Kd.R (Kd.int .i64) 3 W base (fun _ => True) v xs) (i : Nat) (u : Value) : Kd.R (Kd.int .i64) 3 (W.setCell ⟨g, i, none⟩ u) base (fun _ => True) v xs := by
  refine brow_stay h (fun k hk => ?_)
  obtain ⟨cells, hc⟩ := brow_cells h hk
  exact Below.heap_setCell W ⟨g, i, none⟩ u k (by rintro rfl; rw [h1] at hc; cases hc)
/-- The half-step between: the count of one length is one more than its row is long. -/
def BookMid (W : World) (base g : Nat) (F : Nat → Int) (S : Nat → List Int) (x : Nat) : Prop :=
  ∃ (cs : Array Value) (V : Nat → Value), W.heap[g]? = some (.cells cs 111 (0, 0)) ∧ base ≤ g ∧ cs.size = 51 ∧ (∀ n, n < 17 → cs[n]? = some (.int .i64 (if n = x then ((S n).length + 1 : Nat) else (S n).length : Nat))) ∧ (∀ n, n < 17 → cs[17 + n]? = some (.int .i64 (F n))) ∧
    (∀ n, n < 17 → cs[34 + n]? = some (V n) ∧ Kd.R (Kd.int .i64) 3 W base (fun _ => True) (V n) (S n)) ∧ (∀ n m, n < 17 → m < 17 → n ≠ m → ∀ k, (V n).ownBlock = some k → (V m).ownBlock ≠ some k)
theorem BookAt.count {W : World} {base g : Nat} {F : Nat → Int} {S : Nat → List Int} (h : BookAt W base g F S) {x : Nat} (hx : x < 17) : BookMid (W.setCell ⟨g, x, none⟩ (.int .i64 ((S x).length + 1))) base g F S x := by
  rw [show ((S x).length : Int) + 1 = ((S x).length + 1 : Nat) from rfl]
  obtain ⟨cs, V, h1, h2, h3, h4, h5, h6, h7⟩ := h
  refine ⟨cs.setIfInBounds x (.int .i64 ((S x).length + 1 : Nat)), V, blk_set h1 x _, h2, by simpa using h3, fun n hn => ?_, fun n hn => ?_, fun n hn => ⟨?_, brow_far h1 (h6 n hn).2 x _⟩, h7⟩
  · rw [Array.getElem?_setIfInBounds]
    by_cases hnx : x = n
    · subst hnx; rw [if_pos rfl, if_pos (by omega), if_pos rfl]
    · rw [if_neg hnx, if_neg (fun h => hnx h.symm), h4 n hn]
  · rw [Array.getElem?_setIfInBounds, if_neg (by omega), h5 n hn]
  · rw [Array.getElem?_setIfInBounds, if_neg (by omega), (h6 n hn).1]
/-- The symbol is appended to its row, the row stored. -/
theorem BookMid.push {W w2 : World} {base g : Nat} {F : Nat → Int} {S : Nat → List Int} {x : Nat} (h : BookMid W base g F S x) (hx : x < 17) {v v' : Value} {a : Int} (hv : W.cell? ⟨g, 34 + x, none⟩ = some v)
    (hgr : ∀ k, k < W.heap.size → some k ≠ v.ownBlock → w2.heap[k]? = W.heap[k]?) (hr' : Kd.R (Kd.int .i64) 3 w2 base (fun _ => True) v' (S x ++ [a])) (hat : v'.ownBlock = v.ownBlock ∨ ∃ b, v'.ownBlock = some b ∧ W.heap.size ≤ b) :
    BookAt (w2.setCell ⟨g, 34 + x, none⟩ v') base g F (fun n => if n = x then S x ++ [a] else S n) := by
  obtain ⟨cs, V, h1, h2, h3, h4, h5, h6, h7⟩ := h
  have hvx : v = V x := by
    have := (blk_cell h1 (34 + x)).symm.trans hv
    rw [(h6 x hx).1] at this
    exact (Option.some.inj this).symm
  subst hvx
  have hg2 : w2.heap[g]? = some (.cells cs 111 (0, 0)) := by
    rw [hgr g (blk_lt h1) (fun e => by
      obtain ⟨cells, hc⟩ := brow_cells (h6 x hx).2 e.symm
      rw [h1] at hc; cases hc)]
    exact h1
  have hnew : ∀ n, n < 17 → n ≠ x → ∀ k, (V n).ownBlock = some k → v'.ownBlock ≠ some k := by
    intro n hn hne k hk hk'
    have hlt := Kd.R_lt (h6 n hn).2 k hk
    rcases hat with e | ⟨b, e, hb⟩
    · rw [e] at hk'; exact h7 n x hn hx hne k hk hk'
    · rw [e] at hk'; injection hk' with hk'; omega
  refine ⟨cs.setIfInBounds (34 + x) v', fun n => if n = x then v' else V n, blk_set hg2 _ _, h2, by simpa using h3, fun n hn => ?_, fun n hn => ?_, fun n hn => ⟨?_, ?_⟩, fun n m hn hm hne k hk => ?_⟩
  · dsimp only
    rw [Array.getElem?_setIfInBounds, if_neg (by omega), h4 n hn]
    by_cases hnx : n = x
    · rw [if_pos hnx, if_pos hnx, hnx]; simp
    · rw [if_neg hnx, if_neg hnx]
  · rw [Array.getElem?_setIfInBounds, if_neg (by omega), h5 n hn]
  · dsimp only
    rw [Array.getElem?_setIfInBounds]
    by_cases hnx : n = x
    · subst hnx; rw [if_pos rfl, if_pos (by omega), if_pos rfl]
    · rw [if_neg (by omega), if_neg hnx, (h6 n hn).1]
  · dsimp only
    by_cases hnx : n = x
    · rw [if_pos hnx, if_pos hnx]; exact brow_far hg2 hr' _ _
    · rw [if_neg hnx, if_neg hnx]
      refine brow_far hg2 (brow_stay (h6 n hn).2 (fun k hk => ?_)) _ _
      exact hgr k (Kd.R_lt (h6 n hn).2 k hk) (fun e => h7 n x hn hx hnx k hk e.symm)
  · dsimp only at hk ⊢
    by_cases hnx : n = x
    · have hmx : m ≠ x := fun e => hne (hnx.trans e.symm)
      rw [if_pos hnx] at hk
      rw [if_neg hmx]
      exact fun hk' => hnew m hm hmx k hk' hk
    · rw [if_neg hnx] at hk
      by_cases hmx : m = x
      · rw [if_pos hmx]; exact hnew n hn hnx k hk
      · rw [if_neg hmx]; exact h7 n m hn hm hne k hk
theorem BookMid.count {W : World} {base g : Nat} {F : Nat → Int} {S : Nat → List Int} {x : Nat} (h : BookMid W base g F S x) (hx : x < 17) : ∃ v, W.cell? ⟨g, 34 + x, none⟩ = some v ∧ W.frozen? ⟨g, 34 + x, none⟩ = false ∧ (∃ cs, W.heap[g]? = some (.cells cs 111 (0, 0))) ∧ base ≤ g ∧ some g ≠ v.ownBlock ∧ Kd.R (Kd.int .i64) 3 W base (fun _ => True) v (S x) := by
  obtain ⟨cs, V, h1, h2, h3, h4, h5, h6, h7⟩ := h
  exact ⟨V x, (blk_cell h1 _).trans (h6 x hx).1, blk_frozen h1 _, ⟨cs, h1⟩, h2, Kd.R_ne (h6 x hx).2 h1 (by decide), (h6 x hx).2⟩
theorem BookAt.put {W : World} {base g : Nat} {F : Nat → Int} {S : Nat → List Int} (h : BookAt W base g F S) {x : Nat} (hx : x < 17) (y : Int) : BookAt (W.setCell ⟨g, 17 + x, none⟩ (.int .i64 y)) base g (fun n => if n = x then y else F n) S := by
  obtain ⟨cs, V, h1, h2, h3, h4, h5, h6, h7⟩ := h
  refine ⟨cs.setIfInBounds (17 + x) (.int .i64 y), V, blk_set h1 _ _, h2, by simpa using h3, fun n hn => ?_, fun n hn => ?_, fun n hn => ⟨?_, brow_far h1 (h6 n hn).2 _ _⟩, h7⟩
  · rw [Array.getElem?_setIfInBounds, if_neg (by omega), h4 n hn]
  · dsimp only
    rw [Array.getElem?_setIfInBounds]
    by_cases hnx : n = x
    · subst hnx; rw [if_pos rfl, if_pos (by omega), if_pos rfl]
    · rw [if_neg (by omega), if_neg hnx, h5 n hn]
  · rw [Array.getElem?_setIfInBounds, if_neg (by omega), (h6 n hn).1]
theorem BookAt.made (W : World) (base : Nat) (hb : base ≤ W.heap.size) : BookAt (W.alloc (.cells (Array.replicate 34 (.int .i64 0) ++ Array.replicate 17 (.slice none 0 0)) 111 (0, 0))) base W.heap.size (fun _ => 0) (fun _ => []) := by
  refine ⟨_, fun _ => .slice none 0 0, blk_new W _, hb, by simp, fun n hn => ?_, fun n hn => ?_, fun n hn => ⟨?_, Kd.R_nil _ _ _ _ _⟩, fun n m _ _ _ k hk => by simp [Value.ownBlock] at hk⟩
  · rw [Array.getElem?_append_left (by simp; omega), Array.getElem?_replicate, if_pos (by omega)]; rfl
  · rw [Array.getElem?_append_left (by simp; omega), Array.getElem?_replicate, if_pos (by omega)]
  · rw [Array.getElem?_append_right (by simp), Array.getElem?_replicate, if_pos (by simp; omega)]
/-- The symbols of a length among the first i, in their order. -/
def symsTo (l : List Int) (i n : Nat) : List Int := ((List.range i).filter (fun j => l.getD j 0 == (n : Int) && decide (0 < n))).map (fun j : Nat => (j : Int))
theorem symsTo_len (l : List Int) (i n : Nat) : (symsTo l i n).length ≤ i := by
  unfold symsTo
  rw [List.length_map]
  exact Nat.le_trans (List.length_filter_le _ _) (by simp)
theorem symsTo_step (l : List Int) (i n : Nat) : symsTo l (i + 1) n = symsTo l i n ++ if l.getD i 0 = (n : Int) ∧ 0 < n then [(i : Int)] else [] := by
  unfold symsTo
  rw [List.range_succ, List.filter_append, List.map_append]
  congr 1
  by_cases h : l.getD i 0 = (n : Int) ∧ 0 < n
  · rw [if_pos h, List.filter_cons_of_pos (by rw [h.1]; simp [h.2])]; rfl
  · rw [if_neg h, List.filter_cons_of_neg (by simp only [Bool.and_eq_true, beq_iff_eq, decide_eq_true_eq]; exact h)]; rfl
theorem symsTo_succ (l : List Int) (i x : Nat) (hx : l.getD i 0 = (x : Int)) (h0 : 0 < x) : symsTo l (i + 1) = fun n => if n = x then symsTo l i x ++ [(i : Int)] else symsTo l i n := by
  funext n
  rw [symsTo_step, hx]
  by_cases hn : n = x
  · subst hn; rw [if_pos rfl, if_pos ⟨rfl, h0⟩]
  · rw [if_neg hn, if_neg (by omega), List.append_nil]
theorem symsTo_none (l : List Int) (i : Nat) (hx : l.getD i 0 = 0) : symsTo l (i + 1) = symsTo l i := by
  funext n
  rw [symsTo_step, hx, if_neg (by omega), List.append_nil]
/-- The first code of each length. -/
def firstOf (c : Nat → Nat) : Nat → Nat
  | 0 => 0
  | 1 => 0
  | n + 2 => 2 * (firstOf c (n + 1) + c (n + 1))
theorem firstOf_le (c : Nat → Nat) (T : Nat) (hc : ∀ n, c n ≤ T) : ∀ n, firstOf c (n + 1) + 2 * T ≤ 2 ^ (n + 1) * T
  | 0 => by simp [firstOf]
  | n + 1 => by
    have ih := firstOf_le c T hc n
    have h1 := hc (n + 1)
    simp only [firstOf]
    rw [show 2 ^ (n + 1 + 1) * T = 2 * (2 ^ (n + 1) * T) from by rw [Nat.pow_succ 2 (n + 1), Nat.mul_comm _ 2, Nat.mul_assoc]]
    omega
theorem BookMid.below {W w' : World} {base g : Nat} {F : Nat → Int} {S : Nat → List Int} {x : Nat} (h : BookMid W base g F S x) (hb : Below W.heap.size W w') : BookMid w' base g F S x := by
  obtain ⟨cs, V, h1, h2, h3, h4, h5, h6, h7⟩ := h
  exact ⟨cs, V, blk_below h1 hb, h2, h3, h4, h5, fun n hn => ⟨(h6 n hn).1, Kd.R_below (h6 n hn).2 hb⟩, h7⟩
/-- What Open makes of lengths. -/
def openF (l : List Int) (n : Nat) : Nat := firstOf (fun n => (symsTo l l.length n).length) n
set_option maxHeartbeats 8000000 in
set_option maxRecDepth 100000 in
theorem open_book (A0 : Option Addr) (c0 : Nat) (l0 : List Int) (w : World) (hr0 : Kd.C (Kd.int .i64) w A0 l0.length l0) (hc0 : l0.length ≤ c0) (hx : ∀ x ∈ l0, 0 ≤ x ∧ x ≤ 15) (hl : l0.length ≤ 1000000) :
    Calls Try.prog 46 #[.slice A0 l0.length c0] w fun e w' => ∃ g, e = .returned (.pointer (some ⟨g, 0, none⟩)) ∧ BookAt w' w.heap.size g (fun n => (openF l0 n : Int)) (symsTo l0 l0.length) ∧ Below w.heap.size w w' := by
  have HR := Aside0.mk hr0
  have HC := Aside0.mk hc0
  have HX := Aside0.mk hx
  have HM := Aside0.mk (BookAt.made w w.heap.size (Nat.le_refl _))
  have HB0 := Aside0.mk (below_alloc (Below.refl w.heap.size w) (.cells (Array.replicate 34 (.int .i64 0) ++ Array.replicate 17 (.slice none 0 0)) 111 (0, 0)))
  clear hr0 hc0 hx
  go_enter Try.func46, Try.ntmps46
  go_wp2_with fail
  go_loopg [4, 5, 11] l0.length (fun kq v4 v5 v11 w' => ∃ (i : Nat), v11 = .int .i64 i ∧ i ≤ l0.length ∧ Aside0 (kq + i = l0.length) ∧ Aside0 (BookAt w' w.heap.size w.heap.size (fun _ => 0) (symsTo l0 i)) ∧ Aside0 (Below w.heap.size w w'))
  case atStart => exact ⟨0, rfl, Nat.zero_le _, ⟨rfl⟩, HM, HB0⟩
  case round =>
    obtain ⟨i, rfl, hi, HG, HBk, HBl⟩ := hrel
    clear HM HB0
    by_cases hlt : i < l0.length
    · obtain ⟨ad, rfl, hcell⟩ := Kd.at_int (Kd.C_below HR.out HBl.out) (i : Int) (by omega) (by omega)
      rw [Int.toNat_natCast] at hcell
      have hxi : 0 ≤ rd l0 (i : Int) ∧ rd l0 (i : Int) ≤ 15 := by
        unfold rd
        rw [Int.toNat_natCast, List.getD_eq_getElem?_getD, List.getElem?_eq_getElem hlt]
        exact HX.out _ (List.getElem_mem _)
      obtain ⟨x, hxe⟩ := Int.eq_ofNat_of_zero_le hxi.1
      rw [hxe] at hcell hxi
      have hgd : l0.getD i 0 = (x : Int) := by rw [← hxe]; unfold rd; rw [Int.toNat_natCast]
      have HE := Aside0.mk hgd
      clear hxe hgd
      have hx15 : x ≤ 15 := by omega
      clear hxi
      by_cases h0 : x = 0
      · subst h0
        go_wp2_with fail
        go_roundg (gk - 1)
        case measure => have := HG.out; omega
        case rel => exact ⟨i + 1, by go_num, by omega, ⟨by have := HG.out; omega⟩, ⟨by rw [symsTo_none l0 i HE.out]; exact HBk.out⟩, HBl⟩
      · have h0' : 0 < x := by omega
        obtain ⟨g, hg⟩ : ∃ g, g = w.heap.size := ⟨_, rfl⟩
        obtain ⟨hm1, hm2⟩ := HBk.out.many x (by omega)
        rw [← hg] at HBk
        rw [← hg] at hm1 hm2
        rw [← hg]
        have hlen := symsTo_len l0 i x
        have f1 : IntKind.i64.wrap (((symsTo l0 i x).length : Int) + 1) = (((symsTo l0 i x).length + 1 : Nat) : Int) := by rw [IntWalk.i64_in _ (by omega)]; omega
        have HGg := Aside0.mk hg
        clear hg hlen
        go_wp2_with fail
        go_region
        go_wp2_with fail
        have HBm : Aside0 (BookMid (wr.setCell ⟨g, x, none⟩ (.int .i64 ((symsTo l0 i x).length + 1))).drew g g (fun _ => 0) (symsTo l0 i) x) := ⟨(HBk.out.count (x := x) (by omega)).below ((Below.refl _ _).drew)⟩
        have HBl1 : Aside0 (Below w.heap.size w (wr.setCell ⟨g, x, none⟩ (.int .i64 ((symsTo l0 i x).length + 1))).drew) := ⟨(HBl.out.setCell (p := ⟨g, x, none⟩) (by show w.heap.size ≤ g; have := HGg.out; omega) _).drew⟩
        clear hm1 hm2 f1 HBk HBl hcell
        generalize (wr.setCell ⟨g, x, none⟩ (.int .i64 ((symsTo l0 i x).length + 1))).drew = w1 at HBm HBl1 ⊢
        obtain ⟨v, hv1, hv2, ⟨cs, hv3⟩, hv4, hv5, hv6⟩ := HBm.out.count (by omega)
        have HK := Aside0.mk hv3
        have HV := Aside0.mk (And.intro hv4 (And.intro hv5 hv6))
        have HSz := Aside0.mk HBl1.out.size
        have hlen := symsTo_len l0 i x
        have hx17 : (x : Int) < 17 := by omega
        have hx0 : (0 : Int) ≤ (x : Int) := by omega
        clear hv3 hv4 hv5 hv6
        have hv1a : (w1.alloc (.cells #[.int .i64 (i : Int)] 3)).cell? ⟨g, 34 + x, none⟩ = some v := pw_cell_below (below_alloc (Below.refl _ _) _) hv1
        go_region_law
          ((refine Kd.R_append_step (Kd.int .i64) (w0 := w) g rfl (.tmp 35) (.tmp 37) 73 3 (.int .i64 0) 8 rfl Try.underlying73 info3 rfl (by decide) (by omega) v (symsTo l0 i x) (i : Int) [.int .i64 (i : Int)] (fun _ => True) (fun _ => False) rfl rfl rfl (fun _ hk => hk.elim) (fun _ _ => trivial) (Kd.R_drew HV.out.2.2) (HGg.out ▸ HBl1.out.drew) (by have := HSz.out; have := HGg.out; simp; omega) (by omega) ?_; intro v1 w2 ho hb hg hat; (obtain ⟨A1, c1, e1⟩ := Kd.R_slice ho); (subst e1); (have hcz := cell_grown hg (show w1.drew.cell? _ = some v from hv1) HV.out.2.1); (have hfz := blk_frozen (blk_grown (show w1.drew.heap[g]? = _ from HK.out) hg HV.out.2.1) (34 + x)); (have HN := Aside0.mk (And.intro ho (And.intro hb (And.intro hg hat)))); clear ho hb hg hat))
        all_goals
          go_wp2_with fail
          have hg := HGg.out
          subst hg
          go_roundg (gk - 1)
          case measure => have := HG.out; omega
          case rel =>
            have hP := (HBm.out.below ((Below.refl _ _).drew)).push (by omega) hv1 (fun k hk hne => HN.out.2.2.1.block k hk hne) HN.out.1 HN.out.2.2.2
            rw [List.length_append, List.length_singleton, ← symsTo_succ l0 i x HE.out h0'] at hP
            exact ⟨i + 1, by go_num, by omega, ⟨by have := HG.out; omega⟩, ⟨hP⟩, ⟨HN.out.2.1.setCell (p := ⟨w.heap.size, 34 + x, none⟩) (Nat.le_refl _) _⟩⟩
    · have hi2 : i = l0.length := by omega
      subst hi2
      obtain ⟨g, hg⟩ : ∃ g, g = w.heap.size := ⟨_, rfl⟩
      obtain ⟨S, hS⟩ : ∃ S, S = symsTo l0 l0.length := ⟨_, rfl⟩
      rw [← hg, ← hS] at HBk
      rw [← hg]
      have HGg := Aside0.mk hg
      have HSl : Aside0 (∀ n, (S n).length ≤ 1000000) := ⟨fun n => by rw [hS]; exact Nat.le_trans (symsTo_len _ _ _) hl⟩
      have HSe := Aside0.mk hS
      have HFl : Aside0 (∀ n, n ≤ 16 → firstOf (fun n => (S n).length) n ≤ 65536 * 1000000) := ⟨fun n hn => by
        cases n with
        | zero => simp [firstOf]
        | succ n =>
          have h1 := firstOf_le (fun n => (S n).length) 1000000 HSl.out n
          have h2 : 2 ^ (n + 1) ≤ 2 ^ 16 := Nat.pow_le_pow_right (by decide) hn
          have h3 := Nat.mul_le_mul_right 1000000 h2
          omega⟩
      have HBk0 : Aside0 (BookAt wr g g (fun m => if m ≤ 1 then (firstOf (fun n => (S n).length) m : Int) else 0) S) := ⟨by
        have e : (fun _ => 0 : Nat → Int) = (fun m => if m ≤ 1 then (firstOf (fun n => (S n).length) m : Int) else 0) := by
          funext m
          by_cases hm : m ≤ 1
          · rw [if_pos hm]
            have : m = 0 ∨ m = 1 := by omega
            rcases this with rfl | rfl <;> rfl
          · rw [if_neg hm]
        rw [← e]
        exact HBk.out⟩
      clear hg hlt hi hS HBk
      go_wp2_with fail
      go_loopg [6] 16 (fun kq v6 w' => ∃ (n : Nat), v6 = .int .i64 n ∧ 1 ≤ n ∧ n ≤ 16 ∧ Aside0 (kq + n = 17) ∧ Aside0 (BookAt w' g g (fun m => if m ≤ n then (firstOf (fun n => (S n).length) m : Int) else 0) S) ∧ Aside0 (Below w.heap.size w w'))
      case atStart => exact ⟨1, rfl, by omega, by omega, ⟨rfl⟩, HBk0, HBl⟩
      case round =>
        clear HBk0 HBl
        obtain ⟨n, rfl, hn1, hn2, HG2, HBk, HBl⟩ := hrel
        by_cases hlt : n < 16
        · obtain ⟨hm1, hm2⟩ := HBk.out.many n (by omega)
          obtain ⟨hf1, hf2⟩ := HBk.out.first n (by omega)
          obtain ⟨hs1, hs2⟩ := HBk.out.first (n + 1) (by omega)
          rw [if_pos (Nat.le_refl n)] at hf1
          have hSl := HSl.out n
          have hFl := HFl.out n (by omega)
          have hn16 : (n : Int) ≤ 15 := by omega
          obtain ⟨c, hc⟩ : ∃ c, c = (S n).length := ⟨_, rfl⟩
          obtain ⟨f, hf⟩ : ∃ f, f = firstOf (fun n => (S n).length) n := ⟨_, rfl⟩
          rw [← hc] at hm1 hSl
          rw [← hf] at hf1 hFl
          have HCF := Aside0.mk (And.intro hc hf)
          have f1 : IntKind.i64.wrap ((n : Int) + 1) = ((n + 1 : Nat) : Int) := by rw [IntWalk.i64_in _ (by omega)]; omega
          have f2 : IntKind.i64.wrap ((f : Int) + (c : Int)) = ((f + c : Nat) : Int) := by rw [IntWalk.i64_in _ (by omega)]; omega
          have f3 : IntKind.i64.wrap (2 * ((f + c : Nat) : Int)) = ((2 * (f + c) : Nat) : Int) := by rw [IntWalk.i64_in _ (by omega)]; omega
          have f4 : IntKind.i64.wrap (2 * ((f : Int) + (c : Int))) = ((2 * (f + c) : Nat) : Int) := by rw [IntWalk.i64_in _ (by omega)]; omega
          clear hc hf
          go_wp2_with fail
          go_region
          go_wp2_with fail
          go_roundg (gk - 1)
          case measure => have := HG2.out; omega
          case rel =>
            have hP := HBk.out.put (x := n + 1) (by omega) (2 * ((f : Int) + (c : Int)))
            have e : (fun m => if m = n + 1 then 2 * ((f : Int) + (c : Int)) else (fun m => if m ≤ n then (firstOf (fun n => (S n).length) m : Int) else 0) m) = (fun m => if m ≤ n + 1 then (firstOf (fun n => (S n).length) m : Int) else 0) := by
              funext m
              dsimp only
              by_cases hm : m = n + 1
              · subst hm
                rw [if_pos rfl, if_pos (Nat.le_refl _)]
                obtain ⟨k, rfl⟩ : ∃ k, n = k + 1 := ⟨n - 1, by omega⟩
                obtain ⟨hc, hf⟩ := HCF.out
                rw [show firstOf (fun n => (S n).length) (k + 1 + 1) = 2 * (firstOf (fun n => (S n).length) (k + 1) + (S (k + 1)).length) from rfl, ← hf, ← hc]
                omega
              · rw [if_neg hm]
                by_cases hm2 : m ≤ n
                · rw [if_pos hm2, if_pos (by omega)]
                · rw [if_neg hm2, if_neg (by omega)]
            rw [e] at hP
            exact ⟨n + 1, by go_num, by omega, by omega, ⟨by have := HG2.out; omega⟩, ⟨hP.below ((Below.refl _ _).drew)⟩, ⟨(HBl.out.setCell (p := ⟨g, 17 + (n + 1), none⟩) (by show w.heap.size ≤ g; have := HGg.out; omega) _).drew⟩⟩
        · have hn : n = 16 := by omega
          subst hn
          go_wp2_with fail
          go_ret
          have hg := HGg.out
          have hS := HSe.out
          subst hg hS
          obtain ⟨cs, V, h1, h2, h3, h4, h5, h6, h7⟩ := HBk.out
          refine ⟨_, rfl, ⟨cs, V, h1, h2, h3, h4, fun n hn => ?_, h6, h7⟩, HBl.out⟩
          rw [h5 n hn]
          dsimp only
          rw [if_pos (by omega)]
          rfl

-- PART
end Go.Proofs.Ytcjijhjdkgjgeaa.P
