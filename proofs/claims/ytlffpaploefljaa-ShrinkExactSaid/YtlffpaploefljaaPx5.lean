-- Written by a program of this session out of the translation. Lean checks it.
import Derived.Test.YtlffpaploefljaaPx0
namespace Go.Proofs.Ytlffpaploefljaa.P
open Go.RowKit Go.Proofs.YtlffpaploefljaaW.PrintWords Go.Proofs.YtlffpaploefljaaW.PrintLast Go.Proofs.YtlffpaploefljaaW.PrintMore
open List (setIfInBounds_toArray set_cons_zero set_cons_succ)
attribute [local go_sem] max2_int min2_int max_two min_two max_three min_three max_four min_four   -- for this text's walks alone
set_option linter.unusedVariables false
set_option linter.unusedSimpArgs false

/-! ### bits_Pen_Add: function 60 (by hand) -/
/-- One bit behind a row. -/
def pbit (v : Int) (i : Nat) : Int := Go.bits .and .i64 (v / 2 ^ i) 1 % 256
def pgrow (B : List Int) (N : Nat) : List Int := if N % 8 = 0 then B ++ [0] else B
def pset (B : List Int) (N : Nat) (b : Int) : List Int := B.set (B.length - 1) (Go.bits .or .u8 (B.getD (B.length - 1) 0) (b * 2 ^ (N % 8) % 256))
def padd (v : Int) : Nat → Nat → List Int → Nat → List Int
 | 0, _, B, _ => B
 | m + 1, i, B, N => padd v m (i + 1) (pset (pgrow B N) N (pbit v i)) (N + 1)

set_option maxHeartbeats 8000000 in
set_option maxRecDepth 100000 in
theorem pen_add (ty : TypeId) (hty : 5 ≠ ty) (g : Nat) (P_ : Nat → Prop) (v_ : Value) (B : List Int) (v : Int) (N n : Nat) (w0 w : World) (hB : Below w0.heap.size w0 w) (hg : w.heap[g]? = some (.cells #[v_, .int .i64 (N : Int)] ty (0, 0))) (hw : w0.heap.size ≤ g)
  (ho : Kd.R (Kd.int .u8) 5 w w0.heap.size P_ v_ B) (hn : n ≤ 64) (hN : N ≤ 1099511627776) (hb : N % 8 ≠ 0 → B ≠ []) (hl : B.length ≤ 1099511627776) :
  Calls Try.prog 60 #[.pointer (some ⟨g, 0, none⟩), .int .i64 v, .int .i64 n] w fun e w' => ∃ v1, e = .returned (.tuple #[]) ∧ w'.heap[g]? = some (.cells #[v1, .int .i64 ((N + n : Nat) : Int)] ty (0, 0)) ∧
   Kd.R (Kd.int .u8) 5 w' w0.heap.size (fun k => P_ k ∨ w.heap.size ≤ k) v1 (padd v n 0 B N) ∧ Below w0.heap.size w0 w' ∧ Kept w w' (fun k => P_ k ∨ k = g) := by
 have HT := Aside0.mk hty
 have HT2 : Aside0 (∀ q, q ∈ 5 :: (Kd.int .u8).E → q ≠ ty) := ⟨fun q hq => by rw [show q = 5 from by simpa [Kd.int, Kd.scalar] using hq]; exact hty⟩
 clear hty
 have HO := Aside0.mk (show Kd.R (Kd.int .u8) 5 w w0.heap.size (fun k => P_ k ∨ w.heap.size ≤ k) v_ B from Kd.R_mono ho (fun k hk => .inl hk))
 have HK := Aside0.mk (Kept.refl w (fun k => P_ k ∨ k = g))
 have HW0 := Aside0.mk hB.size
 have HB := Aside0.mk hB
 have BK := Aside0.mk hg
 have HL := Aside0.mk hl
 have Hb := Aside0.mk hb
 clear hB ho hg hl hb
 go_enter Try.func60, Try.ntmps60
 go_wp2_with fail
 go_loopg [9] n (fun kq v9 w' => ∃ (i M : Nat) (Bi : List Int) (vi : Value), v9 = .int .i64 i ∧ i ≤ n ∧ M ≤ 2199023255552 ∧ Aside0 (kq + i = n) ∧ Aside0 (M = N + i) ∧ Aside0 (w'.heap[g]? = some (.cells #[vi, .int .i64 (M : Int)] ty (0, 0))) ∧
  Aside0 (Kd.R (Kd.int .u8) 5 w' w0.heap.size (fun k => P_ k ∨ w.heap.size ≤ k) vi Bi) ∧ Aside0 (padd v (n - i) i Bi M = padd v n 0 B N) ∧ Aside0 ((M % 8 ≠ 0 → Bi ≠ []) ∧ Bi.length ≤ B.length + i) ∧ Aside0 (Kept w w' (fun k => P_ k ∨ k = g)) ∧ Aside0 (Below w0.heap.size w0 w'))
 case atStart => exact ⟨0, N, B, v_, rfl, Nat.zero_le _, by omega, ⟨rfl⟩, ⟨rfl⟩, BK, HO, ⟨rfl⟩, ⟨Hb.out, by omega⟩, HK, HB⟩
 case round =>
  clear HO HK HB BK Hb
  obtain ⟨i, M, Bi, vi, rfl, hi, hM, HG, HM, BK, HO, HP, Hb, HK, HB⟩ := hrel
  obtain ⟨Ai, ci, rfl⟩ := Kd.R_slice HO.out
  have hcz0 : wr.cell? ⟨g, 0, none⟩ = some (.slice Ai Bi.length ci) := (blk_cell BK.out 0).trans rfl
  have hcz1 : wr.cell? ⟨g, 1, none⟩ = some (.int .i64 (M : Int)) := (blk_cell BK.out 1).trans rfl
  have hfz0 := blk_frozen BK.out 0
  have hfz1 := blk_frozen BK.out 1
  by_cases hlt : i < n
  ·by_cases h8 : M % 8 = 0
   ·have hb8 : ((M : Int) % 8 == 0) = true := by rw [beq_iff_eq]; omega
    have H8 := Aside0.mk h8
    clear h8
    go_wp2_with ((with_reducible refine gate_builtin (b := .append) (xs := #[.tmp 26, .tmp 27]) rfl ?_); at_builtin; refine Kd.R_append (Kd.int .u8) (w0 := w0) w0.heap.size rfl (.tmp 26) (.tmp 27) 23 5 (.int .u8 0) 1 rfl Try.underlying23 info5 rfl (by decide) (by omega) (.slice Ai Bi.length ci) Bi 0 [.int .u8 0] (fun k => P_ k ∨ w.heap.size ≤ k) (fun _ => False) rfl rfl rfl (fun _ hk => hk.elim) (fun k hk => .inr (Nat.le_trans HK.out.1 hk)) HO.out HB.out (HB.out.size) (by have := HL.out; have := Hb.out.2; omega) ?_; intro v1 w1 ho hb hg hat; (have n0_ := Aside0.mk (blk_grown BK.out hg (Kd.R_ne HO.out BK.out HT.out))); (have n3_ := Aside0.mk (Kept.of_grown (S := (fun k => P_ k ∨ k = g)) hg HK.out (fun k e => Or.imp_left Or.inl (HO.out.1 k e)))); (have n2_ := Aside0.mk hb); (have n4_ := Aside0.mk ho); clear HO BK HK HB hcz0 hcz1 hfz0 hfz1 hb ho hat hg; (have HO := n4_); (have BK := n0_); (have HK := n3_); (have HB := n2_); clear n0_ n2_ n3_ n4_; (obtain ⟨A1, c1, e1⟩ := Kd.R_slice HO.out); (subst e1); (have hcz0 := (blk_cell BK.out 0).trans rfl);  (have hcz1 : w1.cell? ⟨g, 1, none⟩ = some (.int .i64 (M : Int)) := (blk_cell BK.out 1).trans rfl); (have hfz0 := blk_frozen BK.out 0); (have hfz1 := blk_frozen BK.out 1))
    have n0_ := Aside0.mk (blk_put BK.out 0 (.slice A1 (Bi.length + 1) c1) rfl)
    have n1_ := Aside0.mk (Kd.R_far (p := ⟨g, 0, none⟩) (Kd.R_types HO.out BK.out HT2.out) (fun _ hk => hk.2) (.slice A1 (Bi.length + 1) c1))
    have n2_ := Aside0.mk (Kept.setCell (S := (fun k => P_ k ∨ k = g)) (p := ⟨g, 0, none⟩) HK.out (.inl (.inr rfl)) (.slice A1 (Bi.length + 1) c1))
    have n3_ := Aside0.mk (HB.out.setCell (p := ⟨g, 0, none⟩) hw (.slice A1 (Bi.length + 1) c1))
    clear HO BK HK HB hcz0 hcz1 hfz0 hfz1
    generalize (w1.setCell { block := g, off := 0 } (Value.slice A1 (Bi.length + 1) c1)) = w6 at n0_ n1_ n2_ n3_ ⊢
    rw [List.length_append, List.length_singleton] at n1_
    obtain ⟨Bg, hBg⟩ : ∃ Bg, Bg = pgrow Bi M := ⟨_, rfl⟩
    have n4_ : Aside0 (Bg = pgrow Bi M ∧ Bg.length = Bi.length + 1) := ⟨hBg, by rw [hBg]; unfold pgrow; rw [if_pos H8.out]; simp⟩
    rw [show Bi ++ [0] = Bg from by rw [hBg]; unfold pgrow; rw [if_pos H8.out]] at n1_
    clear hBg
    obtain ⟨L, hL⟩ : ∃ L, L = Bi.length + 1 := ⟨_, rfl⟩
    rw [← hL] at n0_ n1_ n4_
    rw [← hL]
    have HL2 : Aside0 (0 < L ∧ L ≤ B.length + i + 1) := ⟨by omega, by have := Hb.out.2; omega⟩
    clear hL
    clear H8 hb8
    have n5_ : Aside0 (L = Bg.length) := ⟨n4_.out.2.symm⟩
    replace n4_ : Aside0 (Bg = pgrow Bi M) := ⟨n4_.out.1⟩
    replace n1_ := Aside0.mk (Kd.R_mono n1_.out (fun _ hk => hk.1))
    obtain ⟨r, c6, e6, hr0, hr1, hr2⟩ := Kd.R_form n1_.out (by rw [← n5_.out]; exact HL2.out.1)
    injection e6 with e6 e8 e7
    clear e8
    subst e6 e7
    obtain ⟨q0, q1⟩ := Kd.R_celln 0 n1_.out ((L : Int) - 1) (by have := HL2.out.1; omega) (by omega)
    have hcz0 : w6.cell? ⟨g, 0, none⟩ = some (.slice (some ⟨r, 0, none⟩) L c1) := (blk_cell n0_.out 0).trans rfl
    have hcz1 : w6.cell? ⟨g, 1, none⟩ = some (.int .i64 (M : Int)) := (blk_cell n0_.out 1).trans rfl
    have hfz0 := blk_frozen n0_.out 0
    have hfz1 := blk_frozen n0_.out 1
    obtain ⟨x6, hx6⟩ : ∃ x, x = rdOf (0 : Int) Bg ((L : Int) - 1) := ⟨_, rfl⟩
    rw [← hx6] at q0
    rw [show ((L : Int) - 1).toNat = L - 1 from by omega] at q0 q1
    have hL0 := HL2.out.1
    have hL1 : L ≤ 1099511627776 + 65 := by have := HL2.out.2; have := HL.out; omega
    have HX := Aside0.mk hx6
    have HR := Aside0.mk (And.intro hr0 (n1_.out.1 r rfl))
    clear hx6 hr0 hr1 hr2
    go_region
    obtain ⟨y6, hy6⟩ : ∃ y, y = Go.bits .or .u8 x6 (Go.bits .and .i64 (v / 2 ^ i) 1 % 256 * 2 ^ (M % 8) % 256) := ⟨_, rfl⟩
    rw [← hy6]
    have m1_ := Aside0.mk (Kd.R_putn n1_.out ((L : Int) - 1) y6)
    rw [show ((L : Int) - 1).toNat = L - 1 from by omega] at m1_
    have hne : g ≠ r := by have h_ := Kd.R_ne n1_.out n0_.out HT.out; intro e_; exact h_ (by rw [e_]; rfl)
    have m0_ := Aside0.mk (blk_far (p := ⟨r, L - 1, none⟩) n0_.out hne (.int .u8 y6))
    have m2_ := Aside0.mk (Kept.setCell (S := (fun k => P_ k ∨ k = g)) (p := ⟨r, L - 1, none⟩) n2_.out (Or.imp_left Or.inl HR.out.2) (.int .u8 y6))
    have m3_ := Aside0.mk (n3_.out.setCell (p := ⟨r, L - 1, none⟩) HR.out.1 (.int .u8 y6))
    have m5_ : Aside0 (Bg.set (L - 1) y6 = pset (pgrow Bi M) M (pbit v i)) := ⟨by rw [← n4_.out, hy6, HX.out]; unfold pset pbit rdOf; rw [← n5_.out, show ((L : Int) - 1).toNat = L - 1 from by omega]⟩
    have m6_ : Aside0 ((Bg.set (L - 1) y6).length = L) := ⟨by rw [List.length_set]; exact n5_.out.symm⟩
    clear n0_ n1_ n2_ n3_ n4_ n5_ hy6 HX q0 q1 hcz0 hcz1 hfz0 hfz1 HR
    have m7_ : Aside0 ((Kd.int .u8).R 5 (w6.setCell ⟨r, L - 1, none⟩ (.int .u8 y6)).drew w0.heap.size (fun k => P_ k ∨ w.heap.size ≤ k) (.slice (some ⟨r, 0, none⟩) L c1) (Bg.set (L - 1) y6)) := ⟨Kd.R_drew m1_.out⟩
    have m8_ : Aside0 ((w6.setCell ⟨r, L - 1, none⟩ (.int .u8 y6)).drew.heap[g]? = some (.cells #[.slice (some ⟨r, 0, none⟩) L c1, .int .i64 (M : Int)] ty (0, 0))) := ⟨m0_.out⟩
    have m9_ : Aside0 (Kept w (w6.setCell ⟨r, L - 1, none⟩ (.int .u8 y6)).drew (fun k => P_ k ∨ k = g)) := ⟨Kept.drew m2_.out⟩
    have ma_ : Aside0 (Below w0.heap.size w0 (w6.setCell ⟨r, L - 1, none⟩ (.int .u8 y6)).drew) := ⟨m3_.out.drew⟩
    clear m0_ m1_ m2_ m3_
    generalize (w6.setCell ⟨r, L - 1, none⟩ (.int .u8 y6)).drew = w7 at m7_ m8_ m9_ ma_ ⊢
    have hcz0 : w7.cell? ⟨g, 0, none⟩ = some (.slice (some ⟨r, 0, none⟩) L c1) := (blk_cell m8_.out 0).trans rfl
    have hcz1 : w7.cell? ⟨g, 1, none⟩ = some (.int .i64 (M : Int)) := (blk_cell m8_.out 1).trans rfl
    have hfz0 := blk_frozen m8_.out 0
    have hfz1 := blk_frozen m8_.out 1
    go_wp2_with fail
    go_roundg (gk - 1)
    case measure => have := HG.out; omega
    case rel =>
     refine ⟨i + 1, M + 1, Bg.set (L - 1) y6, .slice (some ⟨r, 0, none⟩) L c1, by go_num, by omega, ?_, ⟨by have := HG.out; omega⟩, ⟨by rw [HM.out]; omega⟩, ⟨?_⟩, ⟨?_⟩, ⟨?_⟩, ⟨?_⟩, ⟨?_⟩, ⟨?_⟩⟩
     ·have := HM.out; omega
     ·exact blk_put m8_.out 1 (.int .i64 ((M : Int) + 1)) rfl
     ·exact Kd.R_mono (Kd.R_far (p := ⟨g, 1, none⟩) (Kd.R_types m7_.out m8_.out HT2.out) (fun _ hk => hk.2) _) (fun _ hk => hk.1)
     ·rw [← HP.out, m5_.out, show n - i = (n - (i + 1)) + 1 from by omega]; rfl
     ·refine ⟨fun _ h => ?_, ?_⟩
      ·rw [h] at m6_; have := m6_.out; simp at this; omega
      ·rw [m6_.out]; exact Nat.le_trans HL2.out.2 (by omega)
     ·exact Kept.setCell m9_.out (.inl (.inr rfl)) _
     ·exact ma_.out.setCell hw _
   ·have hb8 : ((M : Int) % 8 == 0) = false := by rw [beq_eq_false_iff_ne]; omega
    have H8 := Aside0.mk h8
    clear h8
    go_wp2_with fail
    have n0_ := BK
    have n1_ := HO
    have n2_ := HK
    have n3_ := HB
    clear HO BK HK HB hcz0 hcz1 hfz0 hfz1
    have n4_ : Aside0 (Bi = pgrow Bi M) := ⟨by unfold pgrow; rw [if_neg H8.out]⟩
    obtain ⟨L, hL⟩ : ∃ L, L = Bi.length := ⟨_, rfl⟩
    rw [← hL] at n0_ n1_
    have HL2 : Aside0 (0 < L ∧ L ≤ B.length + i + 1) := ⟨by have := Hb.out.1 H8.out; have := List.length_pos_iff.2 this; omega, by have := Hb.out.2; omega⟩
    have n5_ := Aside0.mk hL
    clear hL H8 hb8
    obtain ⟨r, c6, e6, hr0, hr1, hr2⟩ := Kd.R_form n1_.out (by rw [← n5_.out]; exact HL2.out.1)
    injection e6 with e6 e8 e7
    clear e8
    subst e6 e7
    obtain ⟨q0, q1⟩ := Kd.R_celln 0 n1_.out ((L : Int) - 1) (by have := HL2.out.1; omega) (by omega)
    have hcz0 : wr.cell? ⟨g, 0, none⟩ = some (.slice (some ⟨r, 0, none⟩) L ci) := (blk_cell n0_.out 0).trans rfl
    have hcz1 : wr.cell? ⟨g, 1, none⟩ = some (.int .i64 (M : Int)) := (blk_cell n0_.out 1).trans rfl
    have hfz0 := blk_frozen n0_.out 0
    have hfz1 := blk_frozen n0_.out 1
    obtain ⟨x6, hx6⟩ : ∃ x, x = rdOf (0 : Int) Bi ((L : Int) - 1) := ⟨_, rfl⟩
    rw [← hx6] at q0
    rw [show ((L : Int) - 1).toNat = L - 1 from by omega] at q0 q1
    have hL0 := HL2.out.1
    have hL1 : L ≤ 1099511627776 + 65 := by have := HL2.out.2; have := HL.out; omega
    have HX := Aside0.mk hx6
    have HR := Aside0.mk (And.intro hr0 (n1_.out.1 r rfl))
    clear hx6 hr0 hr1 hr2
    go_region
    obtain ⟨y6, hy6⟩ : ∃ y, y = Go.bits .or .u8 x6 (Go.bits .and .i64 (v / 2 ^ i) 1 % 256 * 2 ^ (M % 8) % 256) := ⟨_, rfl⟩
    rw [← hy6]
    have m1_ := Aside0.mk (Kd.R_putn n1_.out ((L : Int) - 1) y6)
    rw [show ((L : Int) - 1).toNat = L - 1 from by omega] at m1_
    have hne : g ≠ r := by have h_ := Kd.R_ne n1_.out n0_.out HT.out; intro e_; exact h_ (by rw [e_]; rfl)
    have m0_ := Aside0.mk (blk_far (p := ⟨r, L - 1, none⟩) n0_.out hne (.int .u8 y6))
    have m2_ := Aside0.mk (Kept.setCell (S := (fun k => P_ k ∨ k = g)) (p := ⟨r, L - 1, none⟩) n2_.out (Or.imp_left Or.inl HR.out.2) (.int .u8 y6))
    have m3_ := Aside0.mk (n3_.out.setCell (p := ⟨r, L - 1, none⟩) HR.out.1 (.int .u8 y6))
    have m5_ : Aside0 (Bi.set (L - 1) y6 = pset (pgrow Bi M) M (pbit v i)) := ⟨by rw [← n4_.out, hy6, HX.out]; unfold pset pbit rdOf; rw [← n5_.out, show ((L : Int) - 1).toNat = L - 1 from by omega]⟩
    have m6_ : Aside0 ((Bi.set (L - 1) y6).length = L) := ⟨by rw [List.length_set]; exact n5_.out.symm⟩
    clear n0_ n1_ n2_ n3_ n4_ n5_ hy6 HX q0 q1 hcz0 hcz1 hfz0 hfz1 HR
    have m7_ : Aside0 ((Kd.int .u8).R 5 (wr.setCell ⟨r, L - 1, none⟩ (.int .u8 y6)).drew w0.heap.size (fun k => P_ k ∨ w.heap.size ≤ k) (.slice (some ⟨r, 0, none⟩) L ci) (Bi.set (L - 1) y6)) := ⟨Kd.R_drew m1_.out⟩
    have m8_ : Aside0 ((wr.setCell ⟨r, L - 1, none⟩ (.int .u8 y6)).drew.heap[g]? = some (.cells #[.slice (some ⟨r, 0, none⟩) L ci, .int .i64 (M : Int)] ty (0, 0))) := ⟨m0_.out⟩
    have m9_ : Aside0 (Kept w (wr.setCell ⟨r, L - 1, none⟩ (.int .u8 y6)).drew (fun k => P_ k ∨ k = g)) := ⟨Kept.drew m2_.out⟩
    have ma_ : Aside0 (Below w0.heap.size w0 (wr.setCell ⟨r, L - 1, none⟩ (.int .u8 y6)).drew) := ⟨m3_.out.drew⟩
    clear m0_ m1_ m2_ m3_
    generalize (wr.setCell ⟨r, L - 1, none⟩ (.int .u8 y6)).drew = w7 at m7_ m8_ m9_ ma_ ⊢
    have hcz0 : w7.cell? ⟨g, 0, none⟩ = some (.slice (some ⟨r, 0, none⟩) L ci) := (blk_cell m8_.out 0).trans rfl
    have hcz1 : w7.cell? ⟨g, 1, none⟩ = some (.int .i64 (M : Int)) := (blk_cell m8_.out 1).trans rfl
    have hfz0 := blk_frozen m8_.out 0
    have hfz1 := blk_frozen m8_.out 1
    go_wp2_with fail
    go_roundg (gk - 1)
    case measure => have := HG.out; omega
    case rel =>
     refine ⟨i + 1, M + 1, Bi.set (L - 1) y6, .slice (some ⟨r, 0, none⟩) L ci, by go_num, by omega, ?_, ⟨by have := HG.out; omega⟩, ⟨by rw [HM.out]; omega⟩, ⟨?_⟩, ⟨?_⟩, ⟨?_⟩, ⟨?_⟩, ⟨?_⟩, ⟨?_⟩⟩
     ·have := HM.out; omega
     ·exact blk_put m8_.out 1 (.int .i64 ((M : Int) + 1)) rfl
     ·exact Kd.R_mono (Kd.R_far (p := ⟨g, 1, none⟩) (Kd.R_types m7_.out m8_.out HT2.out) (fun _ hk => hk.2) _) (fun _ hk => hk.1)
     ·rw [← HP.out, m5_.out, show n - i = (n - (i + 1)) + 1 from by omega]; rfl
     ·refine ⟨fun _ h => ?_, ?_⟩
      ·rw [h] at m6_; have := m6_.out; simp at this; omega
      ·rw [m6_.out]; exact Nat.le_trans HL2.out.2 (by omega)
     ·exact Kept.setCell m9_.out (.inl (.inr rfl)) _
     ·exact ma_.out.setCell hw _
  ·go_wp2_with fail
   go_end0
   obtain rfl : i = n := by omega
   have hP := HP.out
   rw [Nat.sub_self] at hP
   have hM := HM.out
   subst hM
   exact ⟨_, rfl, BK.out, by rw [← hP]; exact HO.out, HB.out, HK.out⟩

/-! ### shrink_begin: function 59 (by hand) -/
/-- A pen's block. -/
def PenAt (w0 W : World) (g : Nat) (s : List Int × Nat) : Prop :=
 ∃ v, W.heap[g]? = some (.cells #[v, .int .i64 (s.2 : Int)] 65 (0, 0)) ∧ w0.heap.size ≤ g ∧ Kd.R (Kd.int .u8) 5 W w0.heap.size (fun _ => True) v s.1
/-- Blocks of other types than bytes and pens stay. -/
def KeepP (W W' : World) : Prop := W.heap.size ≤ W'.heap.size ∧ ∀ (k : Nat) (cells : Array Value) (ty : TypeId), W.heap[k]? = some (.cells cells ty (0, 0)) → ty ≠ 5 → ty ≠ 65 → W'.heap[k]? = some (.cells cells ty (0, 0))
theorem KeepP.refl (W : World) : KeepP W W := ⟨Nat.le_refl _, fun _ _ _ h _ _ => h⟩
theorem KeepP.trans {W W1 W2 : World} (h : KeepP W W1) (k : KeepP W1 W2) : KeepP W W2 := ⟨Nat.le_trans h.1 k.1, fun i c t hi h5 h9 => k.2 i c t (h.2 i c t hi h5 h9) h5 h9⟩
theorem heap_ltP {W : World} {k : Nat} {o : Obj} (h : W.heap[k]? = some o) : k < W.heap.size := (Array.getElem?_eq_some_iff.1 h).1
theorem KeepP.of_below {W W1 : World} (h : Below W.heap.size W W1) : KeepP W W1 := ⟨h.size, fun k c t hk _ _ => (h.block k (heap_ltP hk)).trans hk⟩
theorem KeepP.below {W W1 W2 : World} (h : KeepP W W1) (k : Below W1.heap.size W1 W2) : KeepP W W2 := h.trans (KeepP.of_below k)
theorem KeepP.of_kept {W W1 : World} {g : Nat} {cs : Array Value} (hg : W.heap[g]? = some (.cells cs 65 (0, 0))) (h : Kept W W1 (fun k => (∃ cells, W.heap[k]? = some (.cells cells 5 (0, 0))) ∨ k = g)) : KeepP W W1 := by
 refine ⟨h.1, fun k c t hk h5 h9 => (h.2 k (heap_ltP hk) ?_).trans hk⟩
 rintro (⟨cells, hc⟩ | rfl)
 ·rw [hc] at hk
  injection hk with hk
  injection hk with _ ht
  exact h5 ht.symm
 ·rw [hg] at hk
  injection hk with hk
  injection hk with _ ht
  exact h9 ht.symm
theorem introw_keepP {W W1 : World} {base : Nat} {ok : Nat → Prop} {v : Value} {l : List Int} (h : Kd.R (Kd.int .i64) 3 W base ok v l) (hk : KeepP W W1) : Kd.R (Kd.int .i64) 3 W1 base ok v l := by
 refine Kd.R_mono (Kd.R_move (Kd.R_bound h) (fun k hk' => ?_)) (fun _ hk' => hk'.1)
 obtain ⟨_, _, _, q, hq, cells, hc⟩ := hk'
 have hq' : q = 3 := by simpa [Kd.int, Kd.scalar] using hq
 subst hq'
 exact (hk.2 k cells _ hc (by decide) (by decide)).trans hc.symm
theorem PenAt.below {w0 W W1 : World} {g : Nat} {s : List Int × Nat} (h : PenAt w0 W g s) (hb : Below W.heap.size W W1) : PenAt w0 W1 g s := by
 obtain ⟨v, h1, h2, h3⟩ := h
 exact ⟨v, (hb.block g (heap_ltP h1)).trans h1, h2, Kd.R_below h3 hb⟩
theorem PenAt.cell {w0 W : World} {g : Nat} {s : List Int × Nat} (h : PenAt w0 W g s) : ∃ A c, W.heap[g]? = some (.cells #[.slice A s.1.length c, .int .i64 (s.2 : Int)] 65 (0, 0)) ∧ w0.heap.size ≤ g ∧ Kd.R (Kd.int .u8) 5 W w0.heap.size (fun _ => True) (.slice A s.1.length c) s.1 := by
 obtain ⟨v, h1, h2, h3⟩ := h
 obtain ⟨A, c, rfl⟩ := Kd.R_slice h3
 exact ⟨A, c, h1, h2, h3⟩
/-- Bits behind a pen's. -/
def addS (v n : Int) (s : List Int × Nat) : Option (List Int × Nat) :=
 if 0 ≤ n ∧ n ≤ 64 ∧ s.2 ≤ 1000000000 ∧ s.1.length ≤ 1000000000 ∧ (s.2 % 8 ≠ 0 → s.1 ≠ []) then some (padd v n.toNat 0 s.1 s.2, s.2 + n.toNat) else none
theorem pen_more (g : Nat) (v n : Int) (s s1 : List Int × Nat) (w0 w : World) (hP : PenAt w0 w g s) (hB : Below w0.heap.size w0 w) (h : addS v n s = some s1) :
  Calls Try.prog 60 #[.pointer (some ⟨g, 0, none⟩), .int .i64 v, .int .i64 n] w fun e w' => e = .returned (.tuple #[]) ∧ PenAt w0 w' g s1 ∧ Below w0.heap.size w0 w' ∧ KeepP w w' := by
 unfold addS at h
 split at h
 ·rename_i hc
  injection h with h
  obtain ⟨v_, h1, h2, h3⟩ := hP
  obtain ⟨m, rfl⟩ : ∃ m : Nat, n = (m : Int) := ⟨n.toNat, by omega⟩
  rw [Int.toNat_natCast] at h
  have hr : Kd.R (Kd.int .u8) 5 w w0.heap.size (fun k => ∃ cells, w.heap[k]? = some (.cells cells 5 (0, 0))) v_ s.1 := by
   refine Kd.R_mono (Kd.R_bound h3) (fun k hk => ?_)
   obtain ⟨_, _, _, q, hq, cells, hcc⟩ := hk
   have hq' : q = 5 := by simpa [Kd.int, Kd.scalar] using hq
   subst hq'
   exact ⟨cells, hcc⟩
  refine (pen_add 65 (by decide) g _ v_ s.1 v s.2 m w0 w hB h1 h2 hr (by omega) (by omega) hc.2.2.2.2 (by omega)).mono ?_
  rintro e w' ⟨v1, rfl, k1, k2, k3, k4⟩
  refine ⟨rfl, ?_, k3, KeepP.of_kept h1 k4⟩
  rw [← h]
  exact ⟨v1, k1, h2, Kd.R_mono k2 (fun _ _ => trivial)⟩
 ·cases h
def beginS (kind : Int) : Option (List Int × Nat) := (addS 1 1 ([], 0)).bind fun s => addS kind 2 s
set_option maxHeartbeats 8000000 in
set_option maxRecDepth 100000 in
theorem shr_begin (kind : Int) (s : List Int × Nat) (w : World) (h : beginS kind = some s) :
  Calls Try.prog 59 #[.int .i64 kind] w fun e w' => ∃ g, e = .returned (.pointer (some ⟨g, 0, none⟩)) ∧ PenAt w w' g s ∧ Below w.heap.size w w' := by
 obtain ⟨s1, h1, h⟩ := Option.bind_eq_some_iff.1 h
 have H1 := Aside0.mk h1
 have H2 := Aside0.mk h
 clear h1 h
 have HP := Aside0.mk (show PenAt w (w.alloc (.cells #[.slice none 0 0, .int .i64 0] 65)) w.heap.size ([], 0) from ⟨_, blk_new w _, Nat.le_refl _, Kd.R_nil _ _ _ _ _⟩)
 have HB := Aside0.mk (show Below w.heap.size w (w.alloc (.cells #[.slice none 0 0, .int .i64 0] 65)) from (Below.refl _ _).alloc (Nat.le_refl _) _)
 go_enter Try.func59, Try.ntmps59
 go_wp2_with fail
 refine (pen_more w.heap.size 1 1 ([], 0) s1 w _ HP.out HB.out H1.out).mono ?_
 rintro e w1 ⟨rfl, hP1, hB1, _⟩
 have HP1 := Aside0.mk hP1
 have HB1 := Aside0.mk hB1
 clear hP1 hB1 HP HB
 go_wp2_with fail
 refine (pen_more w.heap.size kind 2 s1 s w w1 HP1.out HB1.out H2.out).mono ?_
 rintro e w2 ⟨rfl, hP2, hB2, _⟩
 have HP2 := Aside0.mk hP2
 have HB2 := Aside0.mk hB2
 clear hP2 hB2 HP1 HB1
 go_wp2_with fail
 go_ret
 exact ⟨_, rfl, HP2.out, HB2.out⟩

/-! ### bits_may: function 109 -/
def bits_may.f (a0 : Int) (a1 : Int) : Option (Bool) := if a1 ≥ 0 then (if a1 ≤ 24 then (if a0 ≥ 0 then (if 0 ≤ (IntKind.u64.wrap (a1)) then (some ((shr .i64 a0 (IntKind.u64.wrap (a1))) == 0)) else (none)) else (some false)) else (some false)) else (some false)
set_option maxHeartbeats 8000000 in
set_option maxRecDepth 100000 in
theorem bits_may.calls (a0 : Int) (a1 : Int) (r : Bool) (w : World) (h : bits_may.f a0 a1 = some r) :
  Calls Try.prog 109 #[.int .i64 a0, .int .i64 a1] w fun e w' => e = .returned (.bool r) ∧ Drawn0 w w' := by
 have H : (if a1 ≥ 0 then (if a1 ≤ 24 then (if a0 ≥ 0 then (if 0 ≤ (IntKind.u64.wrap (a1)) then (some ((shr .i64 a0 (IntKind.u64.wrap (a1))) == 0)) else (none)) else (some false)) else (some false)) else (some false)) = some r := h
 clear h
 by_cases c3 : a1 ≥ 0
 ·rw [if_pos c3] at H
  have c3b0 : decide (0 ≤ a1) = true := decide_eq_true c3
  clear c3
  by_cases c4 : a1 ≤ 24
  ·rw [if_pos c4] at H
   have c4b0 : decide (a1 ≤ 24) = true := decide_eq_true c4
   clear c4
   by_cases c5 : a0 ≥ 0
   ·rw [if_pos c5] at H
    have c5b0 : decide (0 ≤ a0) = true := decide_eq_true c5
    clear c5
    obtain ⟨ji6, hji6⟩ : ∃ j_ : Int, (IntKind.u64.wrap (a1)) = j_ := ⟨_, rfl⟩
    replace H : (if 0 ≤ (ji6) then (some ((shr .i64 a0 (ji6)) == 0)) else (none)) = some r := by first | (rw [hji6] at H; exact H) | (simp only [hji6] at H ⊢; exact H)
    by_cases c7 : 0 ≤ (ji6)
    ·rw [if_pos c7] at H
     have c7b0 := eq_true c7
     have c7b1 : decide (0 ≤ (ji6)) = true := decide_eq_true c7
     clear c7
     obtain ⟨ji8, hji8⟩ : ∃ j_ : Int, (shr .i64 a0 (ji6)) = j_ := ⟨_, rfl⟩
     replace H : (some ((ji8) == 0)) = some r := by first | (rw [hji8] at H; exact H) | (simp only [hji8] at H ⊢; exact H)
     have hji8_ : (a0 / 2 ^ min (ji6).toNat 64) = ji8 := hji8
     have hji8z : (ji6) ≤ 64 → (a0 / 2 ^ (ji6).toNat) = ji8 := shr_small hji8
     obtain rfl := Option.some.inj H
     go_enter Try.func109, Try.ntmps109
     go_wp2
     go_ret
     exact ⟨by first | rfl | (simp; done) | (simp only [← hji6, ← hji8] <;> (first | rfl | simp)) | (simp [*]; done), by repeat (first | exact Drawn0.refl _ | apply Drawn0.step)⟩
    ·rw [if_neg c7] at H
     exact absurd H (by simp)
   ·rw [if_neg c5] at H
    have c5b0 : decide (0 ≤ a0) = false := decide_eq_false c5
    clear c5
    obtain rfl := Option.some.inj H
    go_enter Try.func109, Try.ntmps109
    go_wp2
    go_ret
    exact ⟨by first | rfl | (simp; done) | (simp [*]; done), by repeat (first | exact Drawn0.refl _ | apply Drawn0.step)⟩
  ·rw [if_neg c4] at H
   have c4b0 : decide (a1 ≤ 24) = false := decide_eq_false c4
   clear c4
   obtain rfl := Option.some.inj H
   go_enter Try.func109, Try.ntmps109
   go_wp2
   go_ret
   exact ⟨by first | rfl | (simp; done) | (simp [*]; done), by repeat (first | exact Drawn0.refl _ | apply Drawn0.step)⟩
 ·rw [if_neg c3] at H
  have c3b0 : decide (0 ≤ a1) = false := decide_eq_false c3
  clear c3
  obtain rfl := Option.some.inj H
  go_enter Try.func109, Try.ntmps109
  go_wp2
  go_ret
  exact ⟨by first | rfl | (simp; done) | (simp [*]; done), by repeat (first | exact Drawn0.refl _ | apply Drawn0.step)⟩

/-! ### bits_Turn: function 95 -/
def bits_Turn.l0 : Nat → Int → Int → Int → Int → Option (Int × Int)
 | 0, _, _, _, _ => none
 | k + 1, x0, x6, x12, x13 => if x13 < x12 then (if 0 ≤ (IntKind.u64.wrap (x13)) then (bits_Turn.l0 k x0 (Go.bits .or .i64 (wrap64 (x6 * 2)) (Go.bits .and .i64 (shr .i64 x0 (IntKind.u64.wrap (x13))) 1)) x12 (wrap64 (x13 + 1))) else (none)) else (some (x6, 0))
def bits_Turn.f (k : Nat) (a0 : Int) (a1 : Int) : Option (Int × Int) := (bits_may.f a0 a1).bind fun t104 => (if t104 = true then (bits_Turn.l0 k a0 0 a1 0) else (some (0, 1)))
set_option maxHeartbeats 8000000 in
set_option maxRecDepth 100000 in
theorem bits_Turn.calls (k : Nat) (a0 : Int) (a1 : Int) (r1 : Int) (r2 : Int) (w : World) (h : bits_Turn.f k a0 a1 = some (r1, r2)) :
  Calls Try.prog 95 #[.int .i64 a0, .int .i64 a1] w fun e w' => e = .returned (.tuple #[.int .i64 r1, .int .i64 r2]) ∧ Drawn0 w w' := by
 have H : ((bits_may.f a0 a1).bind fun t104 => (if t104 = true then (bits_Turn.l0 k a0 0 a1 0) else (some (0, 1)))) = some (r1, r2) := h
 clear h
 replace H := Option.bind_eq_some_iff.mp H
 obtain ⟨t104, A30, H⟩ := H
 replace H : (if t104 = true then (bits_Turn.l0 k a0 0 a1 0) else (some (0, 1))) = some (r1, r2) := H
 have A3 := Aside0.mk A30
 clear A30
 by_cases c4 : t104 = true
 ·subst c4
  have H1 : (bits_Turn.l0 k a0 0 a1 0) = some (r1, r2) := by rw [if_pos rfl] at H; exact H
  clear H
  have H := H1
  clear H1
  have H' := Aside0.mk H
  clear H
  go_enter Try.func95, Try.ntmps95
  go_wp2_with (first | ((with_reducible refine gate_callee (f := 109) rfl ?_); refine goesL_ (some 10) rfl rfl Try.func109 (by kernel_rfl) rfl #[.int .i64 a0, .int .i64 a1] rfl (by (try simp only [List.map_toArray, List.map_cons, List.map_nil]); first | done | rfl | (simp only [List.length_drop, List.length_take]; rfl)) ?_; (with_reducible refine (bits_may.calls a0 a1 true _ A3.out).mono ?_); rintro e w' ⟨rfl, ⟨nd, rfl⟩⟩; refine ⟨_, rfl, ?_⟩))
  go_loopg [6, 13] k (fun kq v6 v13 w' => ∃ (x6_1 : Int) (x13_1 : Int), v6 = .int .i64 x6_1 ∧ v13 = .int .i64 x13_1 ∧ Aside0 (bits_Turn.l0 kq a0 x6_1 a1 x13_1 = some (r1, r2)) ∧ Aside0 (kq ≤ k) ∧ Drawn0 w w')
  case atStart => exact ⟨(0), (0), (by first | rfl | (simp; done) | (simp [*]; done)), (by first | rfl | (simp; done) | (simp [*]; done)), H', ⟨Nat.le_refl _⟩, by repeat (first | exact Drawn0.refl _ | apply Drawn0.step)⟩
  case round =>
   clear H'
   try clear c1
   try clear p2
   try clear c4
   obtain ⟨x6_1, x13_1, rfl, rfl, HA, HK1, ⟨m1, rfl⟩⟩ := hrel
   cases gk with
   | zero => exact absurd HA.out (by simp [bits_Turn.l0])
   | succ k1 =>
    have H := HA.out
    clear HA
    simp only [bits_Turn.l0] at H
    by_cases c5 : x13_1 < a1
    ·rw [if_pos c5] at H
     have c5b0 : decide (x13_1 < a1) = true := decide_eq_true c5
     clear c5
     obtain ⟨ji6, hji6⟩ : ∃ j_ : Int, (IntKind.u64.wrap (x13_1)) = j_ := ⟨_, rfl⟩
     replace H : (if 0 ≤ (ji6) then (bits_Turn.l0 k1 a0 (Go.bits .or .i64 (wrap64 (x6_1 * 2)) (Go.bits .and .i64 (shr .i64 a0 (ji6)) 1)) a1 (wrap64 (x13_1 + 1))) else (none)) = some (r1, r2) := by first | (rw [hji6] at H; exact H) | (simp only [hji6] at H ⊢; exact H)
     by_cases c7 : 0 ≤ (ji6)
     ·rw [if_pos c7] at H
      have c7b0 := eq_true c7
      have c7b1 : decide (0 ≤ (ji6)) = true := decide_eq_true c7
      clear c7
      obtain ⟨ji8, hji8⟩ : ∃ j_ : Int, (shr .i64 a0 (ji6)) = j_ := ⟨_, rfl⟩
      replace H : (bits_Turn.l0 k1 a0 (Go.bits .or .i64 (wrap64 (x6_1 * 2)) (Go.bits .and .i64 (ji8) 1)) a1 (wrap64 (x13_1 + 1))) = some (r1, r2) := by first | (rw [hji8] at H; exact H) | (simp only [hji8] at H ⊢; exact H)
      have hji8_ : (a0 / 2 ^ min (ji6).toNat 64) = ji8 := hji8
      have hji8z : (ji6) ≤ 64 → (a0 / 2 ^ (ji6).toNat) = ji8 := shr_small hji8
      have H' := Aside0.mk H
      clear H
      go_wp2
      go_roundg k1
      case measure => have := HK1.out; omega
      case rel => exact ⟨(Go.bits .or .i64 (wrap64 (x6_1 * 2)) (Go.bits .and .i64 (ji8) 1)), (wrap64 (x13_1 + 1)), (by first | rfl | (simp; done) | (simp only [← hji8] <;> (first | rfl | simp)) | (simp [*]; done)), (by first | rfl | (simp; done) | (simp [*]; done)), H', ⟨by have := HK1.out; omega⟩, by repeat (first | exact Drawn0.refl _ | apply Drawn0.step)⟩
     ·rw [if_neg c7] at H
      exact absurd H (by simp)
    ·rw [if_neg c5] at H
     have c5b0 : decide (x13_1 < a1) = false := decide_eq_false c5
     clear c5
     simp only [Option.some.injEq, Prod.mk.injEq] at H
     obtain ⟨rfl, rfl⟩ := H
     go_wp2
     go_ret2
     exact ⟨by first | rfl | (simp; done) | (simp [*]; done), by repeat (first | exact Drawn0.refl _ | apply Drawn0.step)⟩
 ·replace c4 := Bool.eq_false_iff.mpr c4
  subst c4
  have H1 : (some (0, 1)) = some (r1, r2) := by rw [if_neg (show ¬ (false = true) by decide)] at H; exact H
  clear H
  have H := H1
  clear H1
  simp only [Option.some.injEq, Prod.mk.injEq] at H
  obtain ⟨rfl, rfl⟩ := H
  go_enter Try.func95, Try.ntmps95
  go_wp2_with (first | ((with_reducible refine gate_callee (f := 109) rfl ?_); refine goesL_ (some 10) rfl rfl Try.func109 (by kernel_rfl) rfl #[.int .i64 a0, .int .i64 a1] rfl (by (try simp only [List.map_toArray, List.map_cons, List.map_nil]); first | done | rfl | (simp only [List.length_drop, List.length_take]; rfl)) ?_; (with_reducible refine (bits_may.calls a0 a1 false _ A3.out).mono ?_); rintro e w' ⟨rfl, ⟨nd, rfl⟩⟩; refine ⟨_, rfl, ?_⟩))
  go_ret2
  exact ⟨by first | rfl | (simp; done) | (simp [*]; done), by repeat (first | exact Drawn0.refl _ | apply Drawn0.step)⟩

/-! ### wherrykeep_Bytes: function 16 -/
def wherrykeep_Bytes.l0 : Nat → List Int → List Int → Int → Option (Bool)
 | 0, _, _, _ => none
 | k + 1, x0, x1, x5 => if x5 < (x0.length : Int) then (if 0 ≤ x5 then (if x5 < (x1.length : Int) then (if (rd x0 x5) = (rd x1 x5) then (wherrykeep_Bytes.l0 k x0 x1 (wrap64 (x5 + 1))) else (some false)) else (none)) else (none)) else (some true)
def wherrykeep_Bytes.f (k : Nat) (l0 : List Int) (l1 : List Int) : Option (Bool) := if (l0.length : Int) = (l1.length : Int) then (wherrykeep_Bytes.l0 k l0 l1 0) else (some false)
set_option maxHeartbeats 8000000 in
set_option maxRecDepth 100000 in
theorem wherrykeep_Bytes.calls (k : Nat) (A0 : Option Addr) (c0 : Nat) (l0 : List Int) (A1 : Option Addr) (c1 : Nat) (l1 : List Int) (r : Bool) (w : World) (hr0 : Kd.C (Kd.int .u8) w A0 l0.length l0) (hc0 : l0.length ≤ c0) (hr1 : Kd.C (Kd.int .u8) w A1 l1.length l1) (hc1 : l1.length ≤ c1) (h : wherrykeep_Bytes.f k l0 l1 = some r) :
  Calls Try.prog 16 #[.slice A0 l0.length c0, .slice A1 l1.length c1] w fun e w' => e = .returned (.bool r) ∧ Drawn0 w w' := by
 have HR0 := Aside0.mk hr0
 have HC0 := Aside0.mk hc0
 clear hr0 hc0
 have HR1 := Aside0.mk hr1
 have HC1 := Aside0.mk hc1
 clear hr1 hc1
 have H : (if (l0.length : Int) = (l1.length : Int) then (wherrykeep_Bytes.l0 k l0 l1 0) else (some false)) = some r := h
 clear h
 by_cases c3 : (l0.length : Int) = (l1.length : Int)
 ·rw [if_pos c3] at H
  have c3b0 : ((l0.length : Int) == (l1.length : Int)) = true := beq_iff_eq.mpr c3
  have c3b1 : ((l0.length : Int) != (l1.length : Int)) = false := bne_eq_false_iff_eq.mpr c3
  have c3b2 : (l0.length == l1.length) = true := by first | simpa using c3 | (simp at c3 ⊢; omega)
  clear c3
  have H' := Aside0.mk H
  clear H
  go_enter Try.func16, Try.ntmps16
  go_wp2
  repeat (go_quiet (fail); try go_wp2)
  go_loopg [5] k (fun kq v5 w' => ∃ (x5_1 : Int), v5 = .int .i64 x5_1 ∧ Aside0 (wherrykeep_Bytes.l0 kq l0 l1 x5_1 = some r) ∧ Aside0 (kq ≤ k) ∧ Drawn0 w w')
  case atStart => exact ⟨(0), (by first | rfl | (simp; done) | (simp [*]; done)), H', ⟨Nat.le_refl _⟩, by repeat (first | exact Drawn0.refl _ | apply Drawn0.step)⟩
  case round =>
   clear H'
   try clear c1
   try clear p2
   try clear c3
   try clear c3b0
   try clear c3b1
   try clear c3b2
   obtain ⟨x5_1, rfl, HA, HK1, ⟨m1, rfl⟩⟩ := hrel
   cases gk with
   | zero => exact absurd HA.out (by simp [wherrykeep_Bytes.l0])
   | succ k1 =>
    have H := HA.out
    clear HA
    simp only [wherrykeep_Bytes.l0] at H
    by_cases c4 : x5_1 < (l0.length : Int)
    ·rw [if_pos c4] at H
     have c4b0 : decide (x5_1 < (l0.length : Int)) = true := decide_eq_true c4
     clear c4
     by_cases c5 : 0 ≤ x5_1
     ·rw [if_pos c5] at H
      have c5b0 : decide (0 ≤ x5_1) = true := decide_eq_true c5
      clear c5
      by_cases c6 : x5_1 < (l1.length : Int)
      ·rw [if_pos c6] at H
       have c6b0 : decide (x5_1 < (l1.length : Int)) = true := decide_eq_true c6
       clear c6
       by_cases c7 : (rd l0 x5_1) = (rd l1 x5_1)
       ·rw [if_pos c7] at H
        have c7b0 : ((rd l0 x5_1) == (rd l1 x5_1)) = true := beq_iff_eq.mpr c7
        have c7b1 : ((rd l0 x5_1) != (rd l1 x5_1)) = false := bne_eq_false_iff_eq.mpr c7
        clear c7
        have H' := Aside0.mk H
        clear H
        have p129 : 0 ≤ (x5_1 : Int) := of_decide_eq_true (by first | (with_reducible assumption) | assumption)
        have q129 : x5_1 < (l0.length : Int) := of_decide_eq_true (by first | (with_reducible assumption) | assumption)
        obtain ⟨ad129, e129, hx129_0⟩ := Kd.at_int HR0.out x5_1 p129 q129
        cases e129
        replace p129 := eq_true p129
        replace q129 := eq_true q129
        have p130 : 0 ≤ (x5_1 : Int) := of_decide_eq_true (by first | (with_reducible assumption) | assumption)
        have q130 : x5_1 < (l1.length : Int) := of_decide_eq_true (by first | (with_reducible assumption) | assumption)
        obtain ⟨ad130, e130, hx130_0⟩ := Kd.at_int HR1.out x5_1 p130 q130
        cases e130
        replace p130 := eq_true p130
        replace q130 := eq_true q130
        go_wp2
        repeat (go_quiet (fail); try go_wp2)
        go_roundg k1
        case measure => have := HK1.out; omega
        case rel => exact ⟨(wrap64 (x5_1 + 1)), (by first | rfl | (simp; done) | (simp [*]; done)), H', ⟨by have := HK1.out; omega⟩, by repeat (first | exact Drawn0.refl _ | apply Drawn0.step)⟩
       ·rw [if_neg c7] at H
        have c7b0 : ((rd l0 x5_1) == (rd l1 x5_1)) = false := beq_eq_false_iff_ne.mpr c7
        have c7b1 : ((rd l0 x5_1) != (rd l1 x5_1)) = true := bne_iff_ne.mpr c7
        obtain rfl := Option.some.inj H
        have p129 : 0 ≤ (x5_1 : Int) := of_decide_eq_true (by first | (with_reducible assumption) | assumption)
        have q129 : x5_1 < (l0.length : Int) := of_decide_eq_true (by first | (with_reducible assumption) | assumption)
        obtain ⟨ad129, e129, hx129_0⟩ := Kd.at_int HR0.out x5_1 p129 q129
        cases e129
        replace p129 := eq_true p129
        replace q129 := eq_true q129
        have p130 : 0 ≤ (x5_1 : Int) := of_decide_eq_true (by first | (with_reducible assumption) | assumption)
        have q130 : x5_1 < (l1.length : Int) := of_decide_eq_true (by first | (with_reducible assumption) | assumption)
        obtain ⟨ad130, e130, hx130_0⟩ := Kd.at_int HR1.out x5_1 p130 q130
        cases e130
        replace p130 := eq_true p130
        replace q130 := eq_true q130
        go_wp2
        repeat (go_quiet (fail); try go_wp2)
        go_ret
        exact ⟨by first | rfl | (simp; done) | (simp [*]; done), by repeat (first | exact Drawn0.refl _ | apply Drawn0.step)⟩
      ·rw [if_neg c6] at H
       exact absurd H (by simp)
     ·rw [if_neg c5] at H
      exact absurd H (by simp)
    ·rw [if_neg c4] at H
     have c4b0 : decide (x5_1 < (l0.length : Int)) = false := decide_eq_false c4
     clear c4
     obtain rfl := Option.some.inj H
     go_wp2
     repeat (go_quiet (fail); try go_wp2)
     go_ret
     exact ⟨by first | rfl | (simp; done) | (simp [*]; done), by repeat (first | exact Drawn0.refl _ | apply Drawn0.step)⟩
 ·rw [if_neg c3] at H
  have c3b0 : ((l0.length : Int) == (l1.length : Int)) = false := beq_eq_false_iff_ne.mpr c3
  have c3b1 : ((l0.length : Int) != (l1.length : Int)) = true := bne_iff_ne.mpr c3
  have c3b2 : (l0.length == l1.length) = false := by first | simpa using c3 | (simp at c3 ⊢; omega)
  obtain rfl := Option.some.inj H
  go_enter Try.func16, Try.ntmps16
  go_wp2
  repeat (go_quiet (fail); try go_wp2)
  go_ret
  exact ⟨by first | rfl | (simp; done) | (simp [*]; done), by repeat (first | exact Drawn0.refl _ | apply Drawn0.step)⟩

/-! ### canon_Open: function 94 (by hand) -/
/-- What stands in a book's block: how many codes there are of each length, the first one, the symbols, each row in a block of its own. -/
def BookAt (W : World) (base g : Nat) (F : Nat → Int) (S : Nat → List Int) : Prop :=
 ∃ (cs : Array Value) (V : Nat → Value), W.heap[g]? = some (.cells cs 120 (0, 0)) ∧ base ≤ g ∧ cs.size = 51 ∧ (∀ n, n < 17 → cs[n]? = some (.int .i64 (S n).length)) ∧ (∀ n, n < 17 → cs[17 + n]? = some (.int .i64 (F n))) ∧
  (∀ n, n < 17 → cs[34 + n]? = some (V n) ∧ Kd.R (Kd.int .i64) 3 W base (fun _ => True) (V n) (S n)) ∧ (∀ n m, n < 17 → m < 17 → n ≠ m → ∀ k, (V n).ownBlock = some k → (V m).ownBlock ≠ some k)
theorem brow_stay {W w' : World} {base : Nat} {v : Value} {xs : List Int} (h : Kd.R (Kd.int .i64) 3 W base (fun _ => True) v xs) (hm : ∀ k, v.ownBlock = some k → w'.heap[k]? = W.heap[k]?) : Kd.R (Kd.int .i64) 3 w' base (fun _ => True) v xs :=
 Kd.R_of_own (own_move (Kd.own_of_R h) hm) (fun _ _ => trivial)
theorem brow_cells {W : World} {base : Nat} {v : Value} {xs : List Int} (h : Kd.R (Kd.int .i64) 3 W base (fun _ => True) v xs) {k : Nat} (hk : v.ownBlock = some k) : ∃ cells, W.heap[k]? = some (.cells cells 3 (0, 0)) := own_typed (Kd.own_of_R h) k hk
theorem BookAt.below {W w' : World} {base g : Nat} {F : Nat → Int} {S : Nat → List Int} (h : BookAt W base g F S) (hb : Below W.heap.size W w') : BookAt w' base g F S := by
 obtain ⟨cs, V, h1, h2, h3, h4, h5, h6, h7⟩ := h
 exact ⟨cs, V, blk_below h1 hb, h2, h3, h4, h5, fun n hn => ⟨(h6 n hn).1, Kd.R_below (h6 n hn).2 hb⟩, h7⟩
theorem BookAt.many {W : World} {base g : Nat} {F : Nat → Int} {S : Nat → List Int} (h : BookAt W base g F S) (n : Nat) (hn : n < 17) : W.cell? ⟨g, n, none⟩ = some (.int .i64 (S n).length) ∧ W.frozen? ⟨g, n, none⟩ = false := by
 obtain ⟨cs, V, h1, h2, h3, h4, h5, h6, h7⟩ := h
 exact ⟨(blk_cell h1 n).trans (h4 n hn), blk_frozen h1 n⟩
theorem BookAt.first {W : World} {base g : Nat} {F : Nat → Int} {S : Nat → List Int} (h : BookAt W base g F S) (n : Nat) (hn : n < 17) : W.cell? ⟨g, 17 + n, none⟩ = some (.int .i64 (F n)) ∧ W.frozen? ⟨g, 17 + n, none⟩ = false := by
 obtain ⟨cs, V, h1, h2, h3, h4, h5, h6, h7⟩ := h
 exact ⟨(blk_cell h1 _).trans (h5 n hn), blk_frozen h1 _⟩
theorem BookAt.syms {W : World} {base g : Nat} {F : Nat → Int} {S : Nat → List Int} (h : BookAt W base g F S) (n : Nat) (hn : n < 17) : ∃ A c, W.cell? ⟨g, 34 + n, none⟩ = some (.slice A (S n).length c) ∧ (S n).length ≤ c ∧ Kd.C (Kd.int .i64) W A (S n).length (S n) := by
 obtain ⟨cs, V, h1, h2, h3, h4, h5, h6, h7⟩ := h
 obtain ⟨A, c, e, hl, hc⟩ := Kd.R_reads (h6 n hn).2
 exact ⟨A, c, by rw [blk_cell h1 _, (h6 n hn).1, e], hl, hc⟩
theorem brow_far {W : World} {base g : Nat} {cs : Array Value} (h1 : W.heap[g]? = some (.cells cs 120 (0, 0))) {v : Value} {xs : List Int} (h : Kd.R (Kd.int .i64) 3 W base (fun _ => True) v xs) (i : Nat) (u : Value) : Kd.R (Kd.int .i64) 3 (W.setCell ⟨g, i, none⟩ u) base (fun _ => True) v xs := by
 refine brow_stay h (fun k hk => ?_)
 obtain ⟨cells, hc⟩ := brow_cells h hk
 exact Below.heap_setCell W ⟨g, i, none⟩ u k (by rintro rfl; rw [h1] at hc; cases hc)
/-- The half-step between: the count of one length is one more than its row is long. -/
def BookMid (W : World) (base g : Nat) (F : Nat → Int) (S : Nat → List Int) (x : Nat) : Prop :=
 ∃ (cs : Array Value) (V : Nat → Value), W.heap[g]? = some (.cells cs 120 (0, 0)) ∧ base ≤ g ∧ cs.size = 51 ∧ (∀ n, n < 17 → cs[n]? = some (.int .i64 (if n = x then ((S n).length + 1 : Nat) else (S n).length : Nat))) ∧ (∀ n, n < 17 → cs[17 + n]? = some (.int .i64 (F n))) ∧
  (∀ n, n < 17 → cs[34 + n]? = some (V n) ∧ Kd.R (Kd.int .i64) 3 W base (fun _ => True) (V n) (S n)) ∧ (∀ n m, n < 17 → m < 17 → n ≠ m → ∀ k, (V n).ownBlock = some k → (V m).ownBlock ≠ some k)
theorem BookAt.count {W : World} {base g : Nat} {F : Nat → Int} {S : Nat → List Int} (h : BookAt W base g F S) {x : Nat} (hx : x < 17) : BookMid (W.setCell ⟨g, x, none⟩ (.int .i64 ((S x).length + 1))) base g F S x := by
 rw [show ((S x).length : Int) + 1 = ((S x).length + 1 : Nat) from rfl]
 obtain ⟨cs, V, h1, h2, h3, h4, h5, h6, h7⟩ := h
 refine ⟨cs.setIfInBounds x (.int .i64 ((S x).length + 1 : Nat)), V, blk_set h1 x _, h2, by simpa using h3, fun n hn => ?_, fun n hn => ?_, fun n hn => ⟨?_, brow_far h1 (h6 n hn).2 x _⟩, h7⟩
 ·rw [Array.getElem?_setIfInBounds]
  by_cases hnx : x = n
  ·subst hnx; rw [if_pos rfl, if_pos (by omega), if_pos rfl]
  ·rw [if_neg hnx, if_neg (fun h => hnx h.symm), h4 n hn]
 ·rw [Array.getElem?_setIfInBounds, if_neg (by omega), h5 n hn]
 ·rw [Array.getElem?_setIfInBounds, if_neg (by omega), (h6 n hn).1]
/-- The symbol is appended to its row, the row stored. -/
theorem BookMid.push {W w2 : World} {base g : Nat} {F : Nat → Int} {S : Nat → List Int} {x : Nat} (h : BookMid W base g F S x) (hx : x < 17) {v v' : Value} {a : Int} (hv : W.cell? ⟨g, 34 + x, none⟩ = some v)
  (hgr : ∀ k, k < W.heap.size → some k ≠ v.ownBlock → w2.heap[k]? = W.heap[k]?) (hr' : Kd.R (Kd.int .i64) 3 w2 base (fun _ => True) v' (S x ++ [a])) (hat : v'.ownBlock = v.ownBlock ∨ ∃ b, v'.ownBlock = some b ∧ W.heap.size ≤ b) :
  BookAt (w2.setCell ⟨g, 34 + x, none⟩ v') base g F (fun n => if n = x then S x ++ [a] else S n) := by
 obtain ⟨cs, V, h1, h2, h3, h4, h5, h6, h7⟩ := h
 have hvx : v = V x := by
  have := (blk_cell h1 (34 + x)).symm.trans hv
  rw [(h6 x hx).1] at this
  exact (Option.some.inj this).symm
 subst hvx
 have hg2 : w2.heap[g]? = some (.cells cs 120 (0, 0)) := by
  rw [hgr g (blk_lt h1) (fun e => by
   obtain ⟨cells, hc⟩ := brow_cells (h6 x hx).2 e.symm
   rw [h1] at hc; cases hc)]
  exact h1
 have hnew : ∀ n, n < 17 → n ≠ x → ∀ k, (V n).ownBlock = some k → v'.ownBlock ≠ some k := by
  intro n hn hne k hk hk'
  have hlt := Kd.R_lt (h6 n hn).2 k hk
  rcases hat with e | ⟨b, e, hb⟩
  ·rw [e] at hk'; exact h7 n x hn hx hne k hk hk'
  ·rw [e] at hk'; injection hk' with hk'; omega
 refine ⟨cs.setIfInBounds (34 + x) v', fun n => if n = x then v' else V n, blk_set hg2 _ _, h2, by simpa using h3, fun n hn => ?_, fun n hn => ?_, fun n hn => ⟨?_, ?_⟩, fun n m hn hm hne k hk => ?_⟩
 ·dsimp only
  rw [Array.getElem?_setIfInBounds, if_neg (by omega), h4 n hn]
  by_cases hnx : n = x
  ·rw [if_pos hnx, if_pos hnx, hnx]; simp
  ·rw [if_neg hnx, if_neg hnx]
 ·rw [Array.getElem?_setIfInBounds, if_neg (by omega), h5 n hn]
 ·dsimp only
  rw [Array.getElem?_setIfInBounds]
  by_cases hnx : n = x
  ·subst hnx; rw [if_pos rfl, if_pos (by omega), if_pos rfl]
  ·rw [if_neg (by omega), if_neg hnx, (h6 n hn).1]
 ·dsimp only
  by_cases hnx : n = x
  ·rw [if_pos hnx, if_pos hnx]; exact brow_far hg2 hr' _ _
  ·rw [if_neg hnx, if_neg hnx]
   refine brow_far hg2 (brow_stay (h6 n hn).2 (fun k hk => ?_)) _ _
   exact hgr k (Kd.R_lt (h6 n hn).2 k hk) (fun e => h7 n x hn hx hnx k hk e.symm)
 ·dsimp only at hk ⊢
  by_cases hnx : n = x
  ·have hmx : m ≠ x := fun e => hne (hnx.trans e.symm)
   rw [if_pos hnx] at hk
   rw [if_neg hmx]
   exact fun hk' => hnew m hm hmx k hk' hk
  ·rw [if_neg hnx] at hk
   by_cases hmx : m = x
   ·rw [if_pos hmx]; exact hnew n hn hnx k hk
   ·rw [if_neg hmx]; exact h7 n m hn hm hne k hk
theorem BookMid.count {W : World} {base g : Nat} {F : Nat → Int} {S : Nat → List Int} {x : Nat} (h : BookMid W base g F S x) (hx : x < 17) : ∃ v, W.cell? ⟨g, 34 + x, none⟩ = some v ∧ W.frozen? ⟨g, 34 + x, none⟩ = false ∧ (∃ cs, W.heap[g]? = some (.cells cs 120 (0, 0))) ∧ base ≤ g ∧ some g ≠ v.ownBlock ∧ Kd.R (Kd.int .i64) 3 W base (fun _ => True) v (S x) := by
 obtain ⟨cs, V, h1, h2, h3, h4, h5, h6, h7⟩ := h
 exact ⟨V x, (blk_cell h1 _).trans (h6 x hx).1, blk_frozen h1 _, ⟨cs, h1⟩, h2, Kd.R_ne (h6 x hx).2 h1 (by decide), (h6 x hx).2⟩
theorem BookAt.put {W : World} {base g : Nat} {F : Nat → Int} {S : Nat → List Int} (h : BookAt W base g F S) {x : Nat} (hx : x < 17) (y : Int) : BookAt (W.setCell ⟨g, 17 + x, none⟩ (.int .i64 y)) base g (fun n => if n = x then y else F n) S := by
 obtain ⟨cs, V, h1, h2, h3, h4, h5, h6, h7⟩ := h
 refine ⟨cs.setIfInBounds (17 + x) (.int .i64 y), V, blk_set h1 _ _, h2, by simpa using h3, fun n hn => ?_, fun n hn => ?_, fun n hn => ⟨?_, brow_far h1 (h6 n hn).2 _ _⟩, h7⟩
 ·rw [Array.getElem?_setIfInBounds, if_neg (by omega), h4 n hn]
 ·dsimp only
  rw [Array.getElem?_setIfInBounds]
  by_cases hnx : n = x
  ·subst hnx; rw [if_pos rfl, if_pos (by omega), if_pos rfl]
  ·rw [if_neg (by omega), if_neg hnx, h5 n hn]
 ·rw [Array.getElem?_setIfInBounds, if_neg (by omega), (h6 n hn).1]
theorem BookAt.made (W : World) (base : Nat) (hb : base ≤ W.heap.size) : BookAt (W.alloc (.cells (Array.replicate 34 (.int .i64 0) ++ Array.replicate 17 (.slice none 0 0)) 120 (0, 0))) base W.heap.size (fun _ => 0) (fun _ => []) := by
 refine ⟨_, fun _ => .slice none 0 0, blk_new W _, hb, by simp, fun n hn => ?_, fun n hn => ?_, fun n hn => ⟨?_, Kd.R_nil _ _ _ _ _⟩, fun n m _ _ _ k hk => by simp [Value.ownBlock] at hk⟩
 ·rw [Array.getElem?_append_left (by simp; omega), Array.getElem?_replicate, if_pos (by omega)]; rfl
 ·rw [Array.getElem?_append_left (by simp; omega), Array.getElem?_replicate, if_pos (by omega)]
 ·rw [Array.getElem?_append_right (by simp), Array.getElem?_replicate, if_pos (by simp; omega)]
/-- The symbols of a length among the first i, in their order. -/
def symsTo (l : List Int) (i n : Nat) : List Int := ((List.range i).filter (fun j => l.getD j 0 == (n : Int) && decide (0 < n))).map (fun j : Nat => (j : Int))
theorem symsTo_len (l : List Int) (i n : Nat) : (symsTo l i n).length ≤ i := by
 unfold symsTo
 rw [List.length_map]
 exact Nat.le_trans (List.length_filter_le _ _) (by simp)
theorem symsTo_step (l : List Int) (i n : Nat) : symsTo l (i + 1) n = symsTo l i n ++ if l.getD i 0 = (n : Int) ∧ 0 < n then [(i : Int)] else [] := by
 unfold symsTo
 rw [List.range_succ, List.filter_append, List.map_append]
 congr 1
 by_cases h : l.getD i 0 = (n : Int) ∧ 0 < n
 ·rw [if_pos h, List.filter_cons_of_pos (by rw [h.1]; simp [h.2])]; rfl
 ·rw [if_neg h, List.filter_cons_of_neg (by simp only [Bool.and_eq_true, beq_iff_eq, decide_eq_true_eq]; exact h)]; rfl
theorem symsTo_succ (l : List Int) (i x : Nat) (hx : l.getD i 0 = (x : Int)) (h0 : 0 < x) : symsTo l (i + 1) = fun n => if n = x then symsTo l i x ++ [(i : Int)] else symsTo l i n := by
 funext n
 rw [symsTo_step, hx]
 by_cases hn : n = x
 ·subst hn; rw [if_pos rfl, if_pos ⟨rfl, h0⟩]
 ·rw [if_neg hn, if_neg (by omega), List.append_nil]
theorem symsTo_none (l : List Int) (i : Nat) (hx : l.getD i 0 = 0) : symsTo l (i + 1) = symsTo l i := by
 funext n
 rw [symsTo_step, hx, if_neg (by omega), List.append_nil]
/-- The first code of each length. -/
def firstOf (c : Nat → Nat) : Nat → Nat
 | 0 => 0
 | 1 => 0
 | n + 2 => 2 * (firstOf c (n + 1) + c (n + 1))
theorem firstOf_le (c : Nat → Nat) (T : Nat) (hc : ∀ n, c n ≤ T) : ∀ n, firstOf c (n + 1) + 2 * T ≤ 2 ^ (n + 1) * T
 | 0 => by simp [firstOf]
 | n + 1 => by
  have ih := firstOf_le c T hc n
  have h1 := hc (n + 1)
  simp only [firstOf]
  rw [show 2 ^ (n + 1 + 1) * T = 2 * (2 ^ (n + 1) * T) from by rw [Nat.pow_succ 2 (n + 1), Nat.mul_comm _ 2, Nat.mul_assoc]]
  omega
theorem BookMid.below {W w' : World} {base g : Nat} {F : Nat → Int} {S : Nat → List Int} {x : Nat} (h : BookMid W base g F S x) (hb : Below W.heap.size W w') : BookMid w' base g F S x := by
 obtain ⟨cs, V, h1, h2, h3, h4, h5, h6, h7⟩ := h
 exact ⟨cs, V, blk_below h1 hb, h2, h3, h4, h5, fun n hn => ⟨(h6 n hn).1, Kd.R_below (h6 n hn).2 hb⟩, h7⟩
/-- What Open makes of lengths. -/
def openF (l : List Int) (n : Nat) : Nat := firstOf (fun n => (symsTo l l.length n).length) n
set_option maxHeartbeats 8000000 in
set_option maxRecDepth 100000 in
theorem open_book (A0 : Option Addr) (c0 : Nat) (l0 : List Int) (w : World) (hr0 : Kd.C (Kd.int .i64) w A0 l0.length l0) (hc0 : l0.length ≤ c0) (hx : ∀ x ∈ l0, 0 ≤ x ∧ x ≤ 15) (hl : l0.length ≤ 1000000) :
  Calls Try.prog 94 #[.slice A0 l0.length c0] w fun e w' => ∃ g, e = .returned (.pointer (some ⟨g, 0, none⟩)) ∧ BookAt w' w.heap.size g (fun n => (openF l0 n : Int)) (symsTo l0 l0.length) ∧ Below w.heap.size w w' := by
 have HR := Aside0.mk hr0
 have HC := Aside0.mk hc0
 have HX := Aside0.mk hx
 have HM := Aside0.mk (BookAt.made w w.heap.size (Nat.le_refl _))
 have HB0 := Aside0.mk (below_alloc (Below.refl w.heap.size w) (.cells (Array.replicate 34 (.int .i64 0) ++ Array.replicate 17 (.slice none 0 0)) 120 (0, 0)))
 clear hr0 hc0 hx
 go_enter Try.func94, Try.ntmps94
 go_wp2_with fail
 go_loopg [4, 5, 11] l0.length (fun kq v4 v5 v11 w' => ∃ (i : Nat), v11 = .int .i64 i ∧ i ≤ l0.length ∧ Aside0 (kq + i = l0.length) ∧ Aside0 (BookAt w' w.heap.size w.heap.size (fun _ => 0) (symsTo l0 i)) ∧ Aside0 (Below w.heap.size w w'))
 case atStart => exact ⟨0, rfl, Nat.zero_le _, ⟨rfl⟩, HM, HB0⟩
 case round =>
  obtain ⟨i, rfl, hi, HG, HBk, HBl⟩ := hrel
  clear HM HB0
  by_cases hlt : i < l0.length
  ·obtain ⟨ad, rfl, hcell⟩ := Kd.at_int (Kd.C_below HR.out HBl.out) (i : Int) (by omega) (by omega)
   rw [Int.toNat_natCast] at hcell
   have hxi : 0 ≤ rd l0 (i : Int) ∧ rd l0 (i : Int) ≤ 15 := by
    unfold rd
    rw [Int.toNat_natCast, List.getD_eq_getElem?_getD, List.getElem?_eq_getElem hlt]
    exact HX.out _ (List.getElem_mem _)
   obtain ⟨x, hxe⟩ := Int.eq_ofNat_of_zero_le hxi.1
   rw [hxe] at hcell hxi
   have hgd : l0.getD i 0 = (x : Int) := by rw [← hxe]; unfold rd; rw [Int.toNat_natCast]
   have HE := Aside0.mk hgd
   clear hxe hgd
   have hx15 : x ≤ 15 := by omega
   clear hxi
   by_cases h0 : x = 0
   ·subst h0
    go_wp2_with fail
    go_roundg (gk - 1)
    case measure => have := HG.out; omega
    case rel => exact ⟨i + 1, by go_num, by omega, ⟨by have := HG.out; omega⟩, ⟨by rw [symsTo_none l0 i HE.out]; exact HBk.out⟩, HBl⟩
   ·have h0' : 0 < x := by omega
    obtain ⟨g, hg⟩ : ∃ g, g = w.heap.size := ⟨_, rfl⟩
    obtain ⟨hm1, hm2⟩ := HBk.out.many x (by omega)
    rw [← hg] at HBk
    rw [← hg] at hm1 hm2
    rw [← hg]
    have hlen := symsTo_len l0 i x
    have f1 : IntKind.i64.wrap (((symsTo l0 i x).length : Int) + 1) = (((symsTo l0 i x).length + 1 : Nat) : Int) := by rw [IntWalk.i64_in _ (by omega)]; omega
    have HGg := Aside0.mk hg
    clear hg hlen
    go_wp2_with fail
    go_region
    go_wp2_with fail
    have HBm : Aside0 (BookMid (wr.setCell ⟨g, x, none⟩ (.int .i64 ((symsTo l0 i x).length + 1))).drew g g (fun _ => 0) (symsTo l0 i) x) := ⟨(HBk.out.count (x := x) (by omega)).below ((Below.refl _ _).drew)⟩
    have HBl1 : Aside0 (Below w.heap.size w (wr.setCell ⟨g, x, none⟩ (.int .i64 ((symsTo l0 i x).length + 1))).drew) := ⟨(HBl.out.setCell (p := ⟨g, x, none⟩) (by show w.heap.size ≤ g; have := HGg.out; omega) _).drew⟩
    clear hm1 hm2 f1 HBk HBl hcell
    generalize (wr.setCell ⟨g, x, none⟩ (.int .i64 ((symsTo l0 i x).length + 1))).drew = w1 at HBm HBl1 ⊢
    obtain ⟨v, hv1, hv2, ⟨cs, hv3⟩, hv4, hv5, hv6⟩ := HBm.out.count (by omega)
    have HK := Aside0.mk hv3
    have HV := Aside0.mk (And.intro hv4 (And.intro hv5 hv6))
    have HSz := Aside0.mk HBl1.out.size
    have hlen := symsTo_len l0 i x
    have hx17 : (x : Int) < 17 := by omega
    have hx0 : (0 : Int) ≤ (x : Int) := by omega
    clear hv3 hv4 hv5 hv6
    have hv1a : (w1.alloc (.cells #[.int .i64 (i : Int)] 3)).cell? ⟨g, 34 + x, none⟩ = some v := pw_cell_below (below_alloc (Below.refl _ _) _) hv1
    go_region_law
     ((refine Kd.R_append_step (Kd.int .i64) (w0 := w) g rfl (.tmp 35) (.tmp 37) 32 3 (.int .i64 0) 8 rfl Try.underlying32 info3 rfl (by decide) (by omega) v (symsTo l0 i x) (i : Int) [.int .i64 (i : Int)] (fun _ => True) (fun _ => False) rfl rfl rfl (fun _ hk => hk.elim) (fun _ _ => trivial) (Kd.R_drew HV.out.2.2) (HGg.out ▸ HBl1.out.drew) (by have := HSz.out; have := HGg.out; simp; omega) (by omega) ?_; intro v1 w2 ho hb hg hat; (obtain ⟨A1, c1, e1⟩ := Kd.R_slice ho); (subst e1); (have hcz := cell_grown hg (show w1.drew.cell? _ = some v from hv1) HV.out.2.1); (have hfz := blk_frozen (blk_grown (show w1.drew.heap[g]? = _ from HK.out) hg HV.out.2.1) (34 + x)); (have HN := Aside0.mk (And.intro ho (And.intro hb (And.intro hg hat)))); clear ho hb hg hat))
    all_goals
     go_wp2_with fail
     have hg := HGg.out
     subst hg
     go_roundg (gk - 1)
     case measure => have := HG.out; omega
     case rel =>
      have hP := (HBm.out.below ((Below.refl _ _).drew)).push (by omega) hv1 (fun k hk hne => HN.out.2.2.1.block k hk hne) HN.out.1 HN.out.2.2.2
      rw [List.length_append, List.length_singleton, ← symsTo_succ l0 i x HE.out h0'] at hP
      exact ⟨i + 1, by go_num, by omega, ⟨by have := HG.out; omega⟩, ⟨hP⟩, ⟨HN.out.2.1.setCell (p := ⟨w.heap.size, 34 + x, none⟩) (Nat.le_refl _) _⟩⟩
  ·have hi2 : i = l0.length := by omega
   subst hi2
   obtain ⟨g, hg⟩ : ∃ g, g = w.heap.size := ⟨_, rfl⟩
   obtain ⟨S, hS⟩ : ∃ S, S = symsTo l0 l0.length := ⟨_, rfl⟩
   rw [← hg, ← hS] at HBk
   rw [← hg]
   have HGg := Aside0.mk hg
   have HSl : Aside0 (∀ n, (S n).length ≤ 1000000) := ⟨fun n => by rw [hS]; exact Nat.le_trans (symsTo_len _ _ _) hl⟩
   have HSe := Aside0.mk hS
   have HFl : Aside0 (∀ n, n ≤ 16 → firstOf (fun n => (S n).length) n ≤ 65536 * 1000000) := ⟨fun n hn => by
    cases n with
    | zero => simp [firstOf]
    | succ n =>
     have h1 := firstOf_le (fun n => (S n).length) 1000000 HSl.out n
     have h2 : 2 ^ (n + 1) ≤ 2 ^ 16 := Nat.pow_le_pow_right (by decide) hn
     have h3 := Nat.mul_le_mul_right 1000000 h2
     omega⟩
   have HBk0 : Aside0 (BookAt wr g g (fun m => if m ≤ 1 then (firstOf (fun n => (S n).length) m : Int) else 0) S) := ⟨by
    have e : (fun _ => 0 : Nat → Int) = (fun m => if m ≤ 1 then (firstOf (fun n => (S n).length) m : Int) else 0) := by
     funext m
     by_cases hm : m ≤ 1
     ·rw [if_pos hm]
      have : m = 0 ∨ m = 1 := by omega
      rcases this with rfl | rfl <;> rfl
     ·rw [if_neg hm]
    rw [← e]
    exact HBk.out⟩
   clear hg hlt hi hS HBk
   go_wp2_with fail
   go_loopg [6] 16 (fun kq v6 w' => ∃ (n : Nat), v6 = .int .i64 n ∧ 1 ≤ n ∧ n ≤ 16 ∧ Aside0 (kq + n = 17) ∧ Aside0 (BookAt w' g g (fun m => if m ≤ n then (firstOf (fun n => (S n).length) m : Int) else 0) S) ∧ Aside0 (Below w.heap.size w w'))
   case atStart => exact ⟨1, rfl, by omega, by omega, ⟨rfl⟩, HBk0, HBl⟩
   case round =>
    clear HBk0 HBl
    obtain ⟨n, rfl, hn1, hn2, HG2, HBk, HBl⟩ := hrel
    by_cases hlt : n < 16
    ·obtain ⟨hm1, hm2⟩ := HBk.out.many n (by omega)
     obtain ⟨hf1, hf2⟩ := HBk.out.first n (by omega)
     obtain ⟨hs1, hs2⟩ := HBk.out.first (n + 1) (by omega)
     rw [if_pos (Nat.le_refl n)] at hf1
     have hSl := HSl.out n
     have hFl := HFl.out n (by omega)
     have hn16 : (n : Int) ≤ 15 := by omega
     obtain ⟨c, hc⟩ : ∃ c, c = (S n).length := ⟨_, rfl⟩
     obtain ⟨f, hf⟩ : ∃ f, f = firstOf (fun n => (S n).length) n := ⟨_, rfl⟩
     rw [← hc] at hm1 hSl
     rw [← hf] at hf1 hFl
     have HCF := Aside0.mk (And.intro hc hf)
     have f1 : IntKind.i64.wrap ((n : Int) + 1) = ((n + 1 : Nat) : Int) := by rw [IntWalk.i64_in _ (by omega)]; omega
     have f2 : IntKind.i64.wrap ((f : Int) + (c : Int)) = ((f + c : Nat) : Int) := by rw [IntWalk.i64_in _ (by omega)]; omega
     have f3 : IntKind.i64.wrap (2 * ((f + c : Nat) : Int)) = ((2 * (f + c) : Nat) : Int) := by rw [IntWalk.i64_in _ (by omega)]; omega
     have f4 : IntKind.i64.wrap (2 * ((f : Int) + (c : Int))) = ((2 * (f + c) : Nat) : Int) := by rw [IntWalk.i64_in _ (by omega)]; omega
     clear hc hf
     go_wp2_with fail
     go_region
     go_wp2_with fail
     go_roundg (gk - 1)
     case measure => have := HG2.out; omega
     case rel =>
      have hP := HBk.out.put (x := n + 1) (by omega) (2 * ((f : Int) + (c : Int)))
      have e : (fun m => if m = n + 1 then 2 * ((f : Int) + (c : Int)) else (fun m => if m ≤ n then (firstOf (fun n => (S n).length) m : Int) else 0) m) = (fun m => if m ≤ n + 1 then (firstOf (fun n => (S n).length) m : Int) else 0) := by
       funext m
       dsimp only
       by_cases hm : m = n + 1
       ·subst hm
        rw [if_pos rfl, if_pos (Nat.le_refl _)]
        obtain ⟨k, rfl⟩ : ∃ k, n = k + 1 := ⟨n - 1, by omega⟩
        obtain ⟨hc, hf⟩ := HCF.out
        rw [show firstOf (fun n => (S n).length) (k + 1 + 1) = 2 * (firstOf (fun n => (S n).length) (k + 1) + (S (k + 1)).length) from rfl, ← hf, ← hc]
        omega
       ·rw [if_neg hm]
        by_cases hm2 : m ≤ n
        ·rw [if_pos hm2, if_pos (by omega)]
        ·rw [if_neg hm2, if_neg (by omega)]
      rw [e] at hP
      exact ⟨n + 1, by go_num, by omega, by omega, ⟨by have := HG2.out; omega⟩, ⟨hP.below ((Below.refl _ _).drew)⟩, ⟨(HBl.out.setCell (p := ⟨g, 17 + (n + 1), none⟩) (by show w.heap.size ≤ g; have := HGg.out; omega) _).drew⟩⟩
    ·have hn : n = 16 := by omega
     subst hn
     go_wp2_with fail
     go_ret
     have hg := HGg.out
     have hS := HSe.out
     subst hg hS
     obtain ⟨cs, V, h1, h2, h3, h4, h5, h6, h7⟩ := HBk.out
     refine ⟨_, rfl, ⟨cs, V, h1, h2, h3, h4, fun n hn => ?_, h6, h7⟩, HBl.out⟩
     rw [h5 n hn]
     dsimp only
     rw [if_pos (by omega)]
     rfl

/-! ### canon_Book_weight: function 108 (by hand) -/
/-- What so many codes of each length weigh, up to a length; how many there are. -/
def weighTo (c : Nat → Nat) : Nat → Nat
 | 0 => 0
 | n + 1 => weighTo c n + c (n + 1) * 2 ^ (15 - (n + 1))
def allTo (c : Nat → Nat) : Nat → Nat
 | 0 => 0
 | n + 1 => allTo c n + c (n + 1)
theorem weighTo_le (c : Nat → Nat) (T : Nat) (hc : ∀ n, c n ≤ T) : ∀ n, weighTo c n ≤ n * (T * 32768)
 | 0 => by simp [weighTo]
 | n + 1 => by
  have ih := weighTo_le c T hc n
  have h1 : 2 ^ (15 - (n + 1)) ≤ 2 ^ 15 := Nat.pow_le_pow_right (by decide) (by omega)
  have h2 := Nat.mul_le_mul (hc (n + 1)) h1
  simp only [weighTo]
  rw [Nat.add_mul]
  omega
theorem allTo_le (c : Nat → Nat) (T : Nat) (hc : ∀ n, c n ≤ T) : ∀ n, allTo c n ≤ n * T
 | 0 => by simp [allTo]
 | n + 1 => by
  have ih := allTo_le c T hc n
  have := hc (n + 1)
  simp only [allTo]
  rw [Nat.add_mul]
  omega
set_option maxHeartbeats 8000000 in
set_option maxRecDepth 100000 in
theorem book_weight (base g : Nat) (F : Nat → Int) (S : Nat → List Int) (w : World) (hb : BookAt w base g F S) (hS : ∀ n, (S n).length ≤ 1000000) :
  Calls Try.prog 108 #[.pointer (some ⟨g, 0, none⟩)] w fun e w' => e = .returned (.tuple #[.int .i64 (weighTo (fun n => (S n).length) 15), .int .i64 (allTo (fun n => (S n).length) 15)]) ∧ w' = w := by
 have HB := Aside0.mk hb
 have HW := Aside0.mk (weighTo_le (fun n => (S n).length) 1000000 hS)
 have HA := Aside0.mk (allTo_le (fun n => (S n).length) 1000000 hS)
 have HS := Aside0.mk hS
 clear hb hS
 go_enter Try.func108, Try.ntmps108
 go_wp2_with fail
 go_loop [2, 3, 4] (fun v2 v3 v4 => ∃ n : Nat, n ≤ 15 ∧ v2 = .int .i64 (weighTo (fun n => (S n).length) n) ∧ v3 = .int .i64 (allTo (fun n => (S n).length) n) ∧ v4 = .int .i64 ((n : Int) + 1)) (fun _ _ v4 => (16 - intOf v4).toNat)
 case atStart => exact ⟨0, by omega, rfl, rfl, rfl⟩
 case round =>
  obtain ⟨n, hn, rfl, rfl, rfl⟩ := hrel
  by_cases hlt : n < 15
  ·obtain ⟨hm1, hm2⟩ := HB.out.many (n + 1) (by omega)
   have hw0 := HW.out n
   have hw1 := HW.out (n + 1)
   have ha0 := HA.out n
   have hc := HS.out (n + 1)
   have E1 := Aside0.mk (show weighTo (fun n => (S n).length) (n + 1) = weighTo (fun n => (S n).length) n + (S (n + 1)).length * 2 ^ (15 - (n + 1)) from rfl)
   have E2 := Aside0.mk (show allTo (fun n => (S n).length) (n + 1) = allTo (fun n => (S n).length) n + (S (n + 1)).length from rfl)
   go_wp2_with fail
   have e1 : ((S (n + 1)).length : Int) * 2 ^ (14 - n) = (((S (n + 1)).length * 2 ^ (15 - (n + 1)) : Nat) : Int) := by rw [show 15 - (n + 1) = 14 - n from by omega]; simp
   have e2 := E1.out
   have e3 := E2.out
   have hp : (S (n + 1)).length * 2 ^ (15 - (n + 1)) ≤ 1000000 * 32768 := Nat.mul_le_mul hc (by have := Nat.pow_le_pow_right (n := 2) (by decide) (show 15 - (n + 1) ≤ 15 by omega); simpa using this)
   refine ⟨⟨n + 1, by omega, ?_, by rw [e3]; go_num, by go_num⟩, by simp [intOf]; omega⟩
   rw [e1, e2]
   generalize (S (n + 1)).length * 2 ^ (15 - (n + 1)) = q at *
   have : wrap64 (q : Int) = q := by unfold wrap64; omega
   rw [this]
   have : wrap64 ((weighTo (fun n => (S n).length) n : Int) + q) = (weighTo (fun n => (S n).length) n : Int) + q := by unfold wrap64; omega
   rw [this]
   rfl
  ·have hn2 : n = 15 := by omega
   subst hn2
   go_wp2_with fail
   go_ret2
   exact ⟨rfl, rfl⟩

/-! ### canon_right: function 107 -/
def canon_right.l0 : Nat → List Int → Int → Int → Option (Bool)
 | 0, _, _, _ => none
 | k + 1, x8, x9, x10 => if x10 < x9 then (if 0 ≤ x10 then (if x10 < (x8.length : Int) then (if (rd x8 x10) < 0 then (some false) else (if (rd x8 x10) > 15 then (some false) else (canon_right.l0 k x8 x9 (wrap64 (x10 + 1))))) else (none)) else (none)) else (some true)
def canon_right.f (k : Nat) (l0 : List Int) : Option (Bool) := if (l0.length : Int) > 300 then (some false) else (canon_right.l0 k l0 (l0.length : Int) 0)
set_option maxHeartbeats 8000000 in
set_option maxRecDepth 100000 in
theorem canon_right.calls (k : Nat) (A0 : Option Addr) (c0 : Nat) (l0 : List Int) (r : Bool) (w : World) (hr0 : Kd.C (Kd.int .i64) w A0 l0.length l0) (hc0 : l0.length ≤ c0) (h : canon_right.f k l0 = some r) :
  Calls Try.prog 107 #[.slice A0 l0.length c0] w fun e w' => e = .returned (.bool r) ∧ Drawn0 w w' := by
 have HR0 := Aside0.mk hr0
 have HC0 := Aside0.mk hc0
 clear hr0 hc0
 have H : (if (l0.length : Int) > 300 then (some false) else (canon_right.l0 k l0 (l0.length : Int) 0)) = some r := h
 clear h
 by_cases c2 : (l0.length : Int) > 300
 ·rw [if_pos c2] at H
  have c2b0 : decide (300 < (l0.length : Int)) = true := decide_eq_true c2
  have c2b1 : decide (300 < l0.length) = true := decide_eq_true (by omega)
  clear c2
  obtain rfl := Option.some.inj H
  go_enter Try.func107, Try.ntmps107
  go_wp2
  go_ret
  exact ⟨by first | rfl | (simp; done) | (simp [*]; done), by repeat (first | exact Drawn0.refl _ | apply Drawn0.step)⟩
 ·rw [if_neg c2] at H
  have c2b0 : decide (300 < (l0.length : Int)) = false := decide_eq_false c2
  have c2b1 : decide (300 < l0.length) = false := decide_eq_false (by omega)
  clear c2
  have H' := Aside0.mk H
  clear H
  go_enter Try.func107, Try.ntmps107
  go_wp2
  go_loopg [10] k (fun kq v10 w' => ∃ (x10_1 : Int), v10 = .int .i64 x10_1 ∧ Aside0 (canon_right.l0 kq l0 (l0.length : Int) x10_1 = some r) ∧ Aside0 (kq ≤ k) ∧ Drawn0 w w')
  case atStart => exact ⟨(0), (by first | rfl | (simp; done) | (simp [*]; done)), H', ⟨Nat.le_refl _⟩, by repeat (first | exact Drawn0.refl _ | apply Drawn0.step)⟩
  case round =>
   clear H'
   try clear c1
   try clear c2
   try clear c2b0
   try clear c2b1
   try clear p2
   obtain ⟨x10_1, rfl, HA, HK1, ⟨m1, rfl⟩⟩ := hrel
   cases gk with
   | zero => exact absurd HA.out (by simp [canon_right.l0])
   | succ k1 =>
    have H := HA.out
    clear HA
    simp only [canon_right.l0] at H
    by_cases c3 : x10_1 < (l0.length : Int)
    ·rw [if_pos c3] at H
     have c3b0 : decide (x10_1 < (l0.length : Int)) = true := decide_eq_true c3
     clear c3
     by_cases c4 : 0 ≤ x10_1
     ·rw [if_pos c4] at H
      have c4b0 : decide (0 ≤ x10_1) = true := decide_eq_true c4
      clear c4
      by_cases c5 : x10_1 < (l0.length : Int)
      ·rw [if_pos c5] at H
       have c5b0 : decide (x10_1 < (l0.length : Int)) = true := decide_eq_true c5
       clear c5
       by_cases c6 : (rd l0 x10_1) < 0
       ·rw [if_pos c6] at H
        have c6b0 : decide ((rd l0 x10_1) < 0) = true := decide_eq_true c6
        clear c6
        obtain rfl := Option.some.inj H
        have p103 : 0 ≤ (x10_1 : Int) := of_decide_eq_true (by first | (with_reducible assumption) | assumption)
        have q103 : x10_1 < (l0.length : Int) := of_decide_eq_true (by first | (with_reducible assumption) | assumption)
        obtain ⟨ad103, e103, hx103_0⟩ := Kd.at_int HR0.out x10_1 p103 q103
        cases e103
        replace p103 := eq_true p103
        replace q103 := eq_true q103
        go_wp2
        go_ret
        exact ⟨by first | rfl | (simp; done) | (simp [*]; done), by repeat (first | exact Drawn0.refl _ | apply Drawn0.step)⟩
       ·rw [if_neg c6] at H
        have c6b0 : decide ((rd l0 x10_1) < 0) = false := decide_eq_false c6
        clear c6
        by_cases c7 : (rd l0 x10_1) > 15
        ·rw [if_pos c7] at H
         have c7b0 : decide (15 < (rd l0 x10_1)) = true := decide_eq_true c7
         clear c7
         obtain rfl := Option.some.inj H
         have p103 : 0 ≤ (x10_1 : Int) := of_decide_eq_true (by first | (with_reducible assumption) | assumption)
         have q103 : x10_1 < (l0.length : Int) := of_decide_eq_true (by first | (with_reducible assumption) | assumption)
         obtain ⟨ad103, e103, hx103_0⟩ := Kd.at_int HR0.out x10_1 p103 q103
         cases e103
         replace p103 := eq_true p103
         replace q103 := eq_true q103
         go_wp2
         go_ret
         exact ⟨by first | rfl | (simp; done) | (simp [*]; done), by repeat (first | exact Drawn0.refl _ | apply Drawn0.step)⟩
        ·rw [if_neg c7] at H
         have c7b0 : decide (15 < (rd l0 x10_1)) = false := decide_eq_false c7
         clear c7
         have H' := Aside0.mk H
         clear H
         have p103 : 0 ≤ (x10_1 : Int) := of_decide_eq_true (by first | (with_reducible assumption) | assumption)
         have q103 : x10_1 < (l0.length : Int) := of_decide_eq_true (by first | (with_reducible assumption) | assumption)
         obtain ⟨ad103, e103, hx103_0⟩ := Kd.at_int HR0.out x10_1 p103 q103
         cases e103
         replace p103 := eq_true p103
         replace q103 := eq_true q103
         go_wp2
         go_roundg k1
         case measure => have := HK1.out; omega
         case rel => exact ⟨(wrap64 (x10_1 + 1)), (by first | rfl | (simp; done) | (simp [*]; done)), H', ⟨by have := HK1.out; omega⟩, by repeat (first | exact Drawn0.refl _ | apply Drawn0.step)⟩
      ·rw [if_neg c5] at H
       exact absurd H (by simp)
     ·rw [if_neg c4] at H
      exact absurd H (by simp)
    ·rw [if_neg c3] at H
     have c3b0 : decide (x10_1 < (l0.length : Int)) = false := decide_eq_false c3
     clear c3
     obtain rfl := Option.some.inj H
     go_wp2
     go_ret
     exact ⟨by first | rfl | (simp; done) | (simp [*]; done), by repeat (first | exact Drawn0.refl _ | apply Drawn0.step)⟩

/-! ### canon_Check: function 93 (by hand) -/
/-- Are lengths right? -/
def rightB (l : List Int) : Bool := decide (l.length ≤ 300) && l.all (fun x => decide (0 ≤ x) && decide (x ≤ 15))
theorem rightB_iff (l : List Int) : rightB l = true ↔ l.length ≤ 300 ∧ ∀ x ∈ l, 0 ≤ x ∧ x ≤ 15 := by
 unfold rightB
 simp [List.all_eq_true]
theorem right_loop (l : List Int) (hl : l.length ≤ 300) : ∀ (d i k : Nat), i + d = l.length → d < k → canon_right.l0 k l (l.length : Int) (i : Int) = some ((l.drop i).all (fun x => decide (0 ≤ x) && decide (x ≤ 15))) := by
 intro d
 induction d with
 | zero =>
  intro i k hi hk
  obtain ⟨k, rfl⟩ : ∃ m, k = m + 1 := ⟨k - 1, by omega⟩
  simp only [canon_right.l0]
  rw [if_neg (by omega), List.drop_of_length_le (by omega)]
  rfl
 | succ d ih =>
  intro i k hi hk
  obtain ⟨k, rfl⟩ : ∃ m, k = m + 1 := ⟨k - 1, by omega⟩
  have hlt : i < l.length := by omega
  simp only [canon_right.l0]
  rw [if_pos (by omega), if_pos (by omega), if_pos (by omega), show wrap64 ((i : Int) + 1) = ((i + 1 : Nat) : Int) from by unfold wrap64; omega]
  have e : rd l (i : Int) = l[i] := by unfold rd; rw [Int.toNat_natCast, List.getD_eq_getElem?_getD, List.getElem?_eq_getElem hlt]; rfl
  rw [List.drop_eq_getElem_cons hlt, List.all_cons, e]
  by_cases h0 : l[i] < 0
  ·rw [if_pos h0, decide_eq_false (by omega)]; rfl
  ·rw [if_neg h0]
   by_cases h1 : l[i] > 15
   ·rw [if_pos h1, decide_eq_true (by omega), decide_eq_false (by omega)]; rfl
   ·rw [if_neg h1, ih (i + 1) k (by omega) (by omega), decide_eq_true (by omega), decide_eq_true (by omega)]; rfl
theorem right_is (l : List Int) : canon_right.f 400 l = some (rightB l) := by
 unfold canon_right.f rightB
 by_cases h : l.length ≤ 300
 ·rw [if_neg (by omega), decide_eq_true h]
  have := right_loop l h l.length 0 400 (by omega) (by omega)
  simpa using this
 ·rw [if_pos (by omega), decide_eq_false h]; rfl
/-- What lengths weigh; how many codes there are; how many of one bit. -/
def cW (l : List Int) : Nat := weighTo (fun n => (symsTo l l.length n).length) 15
def cA (l : List Int) : Nat := allTo (fun n => (symsTo l l.length n).length) 15
def makesB (l : List Int) : Bool := cW l == 32768 || (cA l == 0 || (cA l == 1 && (symsTo l l.length 1).length == 1))
def canon_Check.f (l0 : List Int) : Option (Int) := some (if rightB l0 then (if makesB l0 then 0 else 4) else 1)
theorem check_right0 {l : List Int} (h : canon_Check.f l = some 0) : l.length ≤ 300 ∧ ∀ x ∈ l, 0 ≤ x ∧ x ≤ 15 := by
 unfold canon_Check.f at h
 by_cases hr : rightB l = true
 ·exact (rightB_iff l).1 hr
 ·rw [if_neg hr] at h; simp at h
set_option maxHeartbeats 8000000 in
set_option maxRecDepth 100000 in
theorem canon_Check.calls (A0 : Option Addr) (c0 : Nat) (l0 : List Int) (r : Int) (w : World) (hr0 : Kd.C (Kd.int .i64) w A0 l0.length l0) (hc0 : l0.length ≤ c0) (h : canon_Check.f l0 = some r) :
  Calls Try.prog 93 #[.slice A0 l0.length c0] w fun e w' => e = .returned (.int .i64 r) ∧ Below w.heap.size w w' := by
 have HR := Aside0.mk hr0
 have HC := Aside0.mk hc0
 have H := Aside0.mk h
 clear hr0 hc0 h
 obtain ⟨q, hq⟩ : ∃ q, q = rightB l0 := ⟨_, rfl⟩
 have HQ := Aside0.mk hq
 clear hq
 go_enter Try.func93, Try.ntmps93
 go_wp2_with fail
 refine (canon_right.calls 400 _ _ l0 q w HR.out HC.out (by rw [HQ.out]; exact right_is l0)).mono ?_
 rintro e1 w1 ⟨rfl, hd⟩
 cases q with
 | false =>
  go_wp2_with fail
  go_ret
  have h := H.out
  unfold canon_Check.f at h
  rw [← HQ.out] at h
  simp at h
  subst h
  exact ⟨rfl, hd.below⟩
 | true =>
  obtain ⟨h1, h2⟩ := (rightB_iff l0).1 HQ.out.symm
  have HX := Aside0.mk h2
  clear h2
  go_wp2_with fail
  refine (open_book _ _ l0 w1 (Kd.C_below HR.out hd.below) HC.out HX.out (by omega)).mono ?_
  rintro e2 w2 ⟨g, rfl, hb, hbl⟩
  have HB := Aside0.mk hb
  have HL := Aside0.mk (And.intro hd hbl)
  clear hb hd hbl
  go_wp2_with fail
  refine (book_weight _ g _ _ w2 HB.out (fun n => Nat.le_trans (symsTo_len _ _ _) (by omega))).mono ?_
  rintro e3 w3 ⟨rfl, rfl⟩
  have h := H.out
  unfold canon_Check.f makesB cW cA at h
  rw [← HQ.out, if_pos rfl] at h
  injection h with h
  have H3 := Aside0.mk h
  clear h
  obtain ⟨hm1, hm2⟩ := HB.out.many 1 (by omega)
  generalize weighTo (fun n => (symsTo l0 l0.length n).length) 15 = W at *
  generalize allTo (fun n => (symsTo l0 l0.length n).length) 15 = A at *
  generalize (symsTo l0 l0.length 1).length = O at *
  by_cases b1 : W = 32768
  ·subst b1
   go_wp2_with fail
   go_ret
   exact ⟨by rw [← H3.out]; rfl, below_then HL.out.1.below HL.out.1.below.size HL.out.2⟩
  ·have d1 : ((W : Int) == 32768) = false := by rw [beq_eq_false_iff_ne]; omega
   by_cases b2 : A = 0
   ·subst b2
    go_wp2_with fail
    go_ret
    exact ⟨by rw [← H3.out, show (W == 32768) = false from beq_eq_false_iff_ne.2 b1]; rfl, below_then HL.out.1.below HL.out.1.below.size HL.out.2⟩
   ·have d2 : ((A : Int) == 0) = false := by rw [beq_eq_false_iff_ne]; omega
    by_cases b3 : A = 1
    ·subst b3
     by_cases b4 : O = 1
     ·subst b4
      go_wp2_with fail
      go_ret
      exact ⟨by rw [← H3.out, show (W == 32768) = false from beq_eq_false_iff_ne.2 b1]; rfl, below_then HL.out.1.below HL.out.1.below.size HL.out.2⟩
     ·have d4 : ((O : Int) == 1) = false := by rw [beq_eq_false_iff_ne]; omega
      go_wp2_with fail
      go_ret
      exact ⟨by rw [← H3.out, show (W == 32768) = false from beq_eq_false_iff_ne.2 b1, show (O == 1) = false from beq_eq_false_iff_ne.2 b4]; rfl, below_then HL.out.1.below HL.out.1.below.size HL.out.2⟩
    ·have d3 : ((A : Int) == 1) = false := by rw [beq_eq_false_iff_ne]; omega
     go_wp2_with fail
     go_ret
     exact ⟨by rw [← H3.out, show (W == 32768) = false from beq_eq_false_iff_ne.2 b1, show (A == 0) = false from beq_eq_false_iff_ne.2 b2, show (A == 1) = false from beq_eq_false_iff_ne.2 b3]; rfl, below_then HL.out.1.below HL.out.1.below.size HL.out.2⟩

/-! ### canon_Codes: function 68 (by hand) -/
/-- A symbol's code: the first one of its length, and one more for each symbol ahead of that length. -/
def codeOf (l : List Int) (j : Nat) : Int := if l.getD j 0 ≤ 0 then 0 else (openF l (l.getD j 0).toNat : Int) + (symsTo l j (l.getD j 0).toNat).length
def codesTo (l : List Int) (n i : Nat) : List Int := (List.range l.length).map (fun j => if (l.getD j 0).toNat < n ∨ (l.getD j 0 = (n : Int) ∧ (symsTo l j n).length < i) then codeOf l j else 0)
def codesL (l : List Int) : List Int := (List.range l.length).map (codeOf l)
theorem BookAt.lt {W : World} {base g : Nat} {F : Nat → Int} {S : Nat → List Int} (h : BookAt W base g F S) : g < W.heap.size := by
 obtain ⟨cs, V, h1, _⟩ := h
 exact blk_lt h1
def canon_Codes.f (l0 : List Int) : Option (List Int × Int) := (canon_Check.f l0).bind fun e => if e = 0 then some (codesL l0, 0) else some ([], e)
theorem symsTo_mono (l : List Int) (n : Nat) : ∀ (d j : Nat), (symsTo l j n).length ≤ (symsTo l (j + d) n).length
 | 0, j => Nat.le_refl _
 | d + 1, j => by
  refine Nat.le_trans (symsTo_mono l n d j) ?_
  rw [show j + (d + 1) = (j + d) + 1 from rfl, symsTo_step, List.length_append]
  omega
theorem symsTo_rank (l : List Int) {j L n : Nat} (hj : j < L) (hn : l.getD j 0 = (n : Int)) (h0 : 0 < n) : (symsTo l j n).length < (symsTo l L n).length := by
 have h := symsTo_mono l n (L - (j + 1)) (j + 1)
 rw [show j + 1 + (L - (j + 1)) = L from by omega, symsTo_step, if_pos ⟨hn, h0⟩, List.length_append] at h
 simp at h
 omega
theorem symsTo_uniq (l : List Int) {j j' n : Nat} (hn : l.getD j 0 = (n : Int)) (hn' : l.getD j' 0 = (n : Int)) (h0 : 0 < n) (h : (symsTo l j n).length = (symsTo l j' n).length) : j = j' := by
 rcases Nat.lt_trichotomy j j' with h1 | h1 | h1
 ·have := symsTo_rank l h1 hn h0; omega
 ·exact h1
 ·have := symsTo_rank l h1 hn' h0; omega
theorem symsTo_at (l : List Int) (n i : Nat) : ∀ L, i < (symsTo l L n).length → ∃ j, j < L ∧ (symsTo l L n).getD i 0 = (j : Int) ∧ l.getD j 0 = (n : Int) ∧ 0 < n ∧ (symsTo l j n).length = i
 | 0, h => by simp [symsTo] at h
 | L + 1, h => by
  rw [symsTo_step] at h ⊢
  by_cases hc : l.getD L 0 = (n : Int) ∧ 0 < n
  ·rw [if_pos hc] at h ⊢
   rw [List.length_append, List.length_singleton] at h
   by_cases hi : i < (symsTo l L n).length
   ·obtain ⟨j, hj, e, h1, h2, h3⟩ := symsTo_at l n i L hi
    refine ⟨j, by omega, ?_, h1, h2, h3⟩
    rw [List.getD_eq_getElem?_getD, List.getElem?_append_left hi, ← List.getD_eq_getElem?_getD]; exact e
   ·obtain rfl : i = (symsTo l L n).length := by omega
    exact ⟨L, by omega, by simp, hc.1, hc.2, rfl⟩
  ·rw [if_neg hc, List.append_nil] at h ⊢
   obtain ⟨j, hj, e, h1⟩ := symsTo_at l n i L h
   exact ⟨j, by omega, e, h1⟩
theorem codesTo_start (l : List Int) : codesTo l 0 0 = List.replicate l.length 0 := by
 unfold codesTo
 rw [List.map_congr_left (g := fun _ => (0 : Int)) (fun j _ => if_neg (by omega)), List.map_const', List.length_range]
theorem codesTo_next (l : List Int) (n : Nat) (hx : ∀ x ∈ l, 0 ≤ x ∧ x ≤ 15) : codesTo l n (symsTo l l.length n).length = codesTo l (n + 1) 0 := by
 unfold codesTo
 refine List.map_congr_left (fun j hj => ?_)
 have hj := List.mem_range.1 hj
 have hxj : 0 ≤ l.getD j 0 := by
  rw [List.getD_eq_getElem?_getD, List.getElem?_eq_getElem hj]
  exact (hx _ (List.getElem_mem hj)).1
 by_cases h1 : (l.getD j 0).toNat < n
 ·rw [if_pos (.inl h1), if_pos (.inl (by omega))]
 ·by_cases h2 : l.getD j 0 = (n : Int)
  ·by_cases h0 : 0 < n
   ·rw [if_pos (.inr ⟨h2, symsTo_rank l hj h2 h0⟩), if_pos (.inl (by omega))]
   ·have hz : l.getD j 0 = 0 := by omega
    rw [if_pos (.inl (by omega) : (l.getD j 0).toNat < n + 1 ∨ _)]
    have : codeOf l j = 0 := by unfold codeOf; rw [if_pos (by omega)]
    rw [this, ite_self]
  ·rw [if_neg (by omega), if_neg (by omega)]
theorem map_range_set (f : Nat → Int) (L j0 : Nat) (v : Int) : ((List.range L).map f).set j0 v = (List.range L).map (fun j => if j = j0 then v else f j) := by
 apply List.ext_getElem
 ·simp
 ·intro j h1 h2
  rw [List.getElem_set]
  simp only [List.getElem_map, List.getElem_range]
  by_cases h : j0 = j
  ·rw [if_pos h, if_pos h.symm]
  ·rw [if_neg h, if_neg (fun e => h e.symm)]
theorem codesTo_step (l : List Int) {n i j0 : Nat} (hj : l.getD j0 0 = (n : Int)) (h0 : 0 < n) (hr : (symsTo l j0 n).length = i) : (codesTo l n i).set j0 ((openF l n : Int) + i) = codesTo l n (i + 1) := by
 unfold codesTo
 rw [map_range_set]
 refine List.map_congr_left (fun j _ => ?_)
 by_cases h : j = j0
 ·subst h
  rw [if_pos rfl, if_pos (.inr ⟨hj, by omega⟩)]
  unfold codeOf
  rw [if_neg (by omega), hj, Int.toNat_natCast, hr]
 ·rw [if_neg h]
  by_cases h1 : (l.getD j 0).toNat < n
  ·rw [if_pos (.inl h1), if_pos (.inl h1)]
  ·by_cases h2 : l.getD j 0 = (n : Int)
   ·have hne : (symsTo l j n).length ≠ i := fun e => h (symsTo_uniq l h2 hj h0 (e.trans hr.symm))
    by_cases h3 : (symsTo l j n).length < i
    ·rw [if_pos (.inr ⟨h2, h3⟩), if_pos (.inr ⟨h2, by omega⟩)]
    ·rw [if_neg (by omega), if_neg (by omega)]
   ·rw [if_neg (by omega), if_neg (by omega)]
theorem codesTo_end (l : List Int) (hx : ∀ x ∈ l, 0 ≤ x ∧ x ≤ 15) : codesTo l 17 0 = codesL l := by
 unfold codesTo codesL
 refine List.map_congr_left (fun j hj => ?_)
 have hj := List.mem_range.1 hj
 have hxj : l.getD j 0 ≤ 15 := by
  rw [List.getD_eq_getElem?_getD, List.getElem?_eq_getElem hj]
  exact (hx _ (List.getElem_mem hj)).2
 rw [if_pos (.inl (by omega))]
theorem codesTo_length (l : List Int) (n i : Nat) : (codesTo l n i).length = l.length := by unfold codesTo; simp
theorem openF_le (l : List Int) (hl : l.length ≤ 1000000) : ∀ n, n ≤ 16 → openF l n ≤ 65536 * 1000000 := by
 intro n hn
 cases n with
 | zero => simp [openF, firstOf]
 | succ n =>
  have h1 := firstOf_le (fun n => (symsTo l l.length n).length) 1000000 (fun n => Nat.le_trans (symsTo_len _ _ _) hl) n
  have h2 : 2 ^ (n + 1) ≤ 2 ^ 16 := Nat.pow_le_pow_right (by decide) hn
  have h3 := Nat.mul_le_mul_right 1000000 h2
  unfold openF
  omega
set_option maxHeartbeats 8000000 in
set_option maxRecDepth 100000 in
theorem canon_Codes.calls (A0 : Option Addr) (c0 : Nat) (l0 : List Int) (r1 : List Int) (r2 : Int) (w : World) (hr0 : Kd.C (Kd.int .i64) w A0 l0.length l0) (hc0 : l0.length ≤ c0) (h : canon_Codes.f l0 = some (r1, r2)) :
  Calls Try.prog 68 #[.slice A0 l0.length c0] w fun e w' => ∃ v0_ : Value, e = .returned (.tuple #[v0_, .int .i64 r2]) ∧ Kd.R (Kd.int .i64) 3 w' w.heap.size (fun _ => True) v0_ r1 ∧ Below w.heap.size w w' := by
 have HR := Aside0.mk hr0
 have HC := Aside0.mk hc0
 unfold canon_Codes.f at h
 obtain ⟨q, hq, h⟩ := Option.bind_eq_some_iff.1 h
 have HQ := Aside0.mk hq
 have H := Aside0.mk h
 clear hr0 hc0 h hq
 go_enter Try.func68, Try.ntmps68
 go_wp2_with fail
 refine (canon_Check.calls _ _ l0 q w HR.out HC.out HQ.out).mono ?_
 rintro e1 w1 ⟨rfl, hd⟩
 have HD := Aside0.mk hd
 clear hd
 by_cases hq0 : q = 0
 ·subst hq0
  have h := H.out
  rw [if_pos rfl] at h
  simp only [Option.some.injEq, Prod.mk.injEq] at h
  obtain ⟨rfl, rfl⟩ := h
  obtain ⟨hx1, hx2⟩ := check_right0 HQ.out
  have HX := Aside0.mk hx2
  clear H hx2
  go_wp2_with fail
  refine (open_book _ _ l0 w1 (Kd.C_below HR.out HD.out) HC.out HX.out (by omega)).mono ?_
  rintro e2 w2 ⟨g, rfl, hb2, hbl⟩
  have HB := Aside0.mk hb2
  have HL := Aside0.mk (below_then HD.out HD.out.size hbl)
  have HSz := Aside0.mk HL.out.size
  have HG := Aside0.mk hb2.lt
  clear hb2 hbl
  go_wp2_with (refine Kd.R_make (Kd.int .i64) (w0 := w2) w2.heap.size 3 rfl rfl 32 (.tmp 18) (.tmp 18) rfl (l0.length : Int) rfl rfl Try.underlying32 (.int .i64 0) 8 info3 rfl (by decide) (by decide) (0 : Int) (ok := fun _ => True) (okp := fun _ => False) rfl (fun _ hk => hk.elim) trivial (by omega) (by omega) (Below.refl _ _) (Nat.le_refl _) ?_; intro v1 w3 ho hb hg hat; (have HO := Aside0.mk ho); (have HB3 := Aside0.mk hb); clear ho hb hg hat)
  rw [Int.toNat_natCast, ← codesTo_start] at HO
  go_loopg [20] 17 (fun kq v20 w' => ∃ n : Nat, v20 = .int .i64 n ∧ n ≤ 17 ∧ Aside0 (kq + n = 17) ∧ Aside0 (Kd.R (Kd.int .i64) 3 w' w2.heap.size (fun _ => True) v1 (codesTo l0 n 0)) ∧ Aside0 (Below w2.heap.size w2 w'))
  case atStart => exact ⟨0, rfl, by omega, ⟨rfl⟩, HO, HB3⟩
  case round =>
   clear HO HB3
   obtain ⟨n, rfl, hn, HN, HO, HB3⟩ := hrel
   obtain ⟨wo, rfl⟩ : ∃ wo : World, wo = wr := ⟨_, rfl⟩
   obtain ⟨ko, rfl⟩ : ∃ ko : Nat, ko = gk := ⟨_, rfl⟩
   by_cases hlt : n < 17
   ·obtain ⟨As, cs, hs1, hs2, hs3⟩ := HB.out.syms n hlt
    obtain ⟨hf1, hf2⟩ := HB.out.first n hlt
    have HF := Aside0.mk hf1
    have HS := Aside0.mk (And.intro hs2 hs3)
    have hSl : (symsTo l0 l0.length n).length ≤ 300 := Nat.le_trans (symsTo_len _ _ _) hx1
    obtain ⟨S, hS⟩ : ∃ S, S = symsTo l0 l0.length n := ⟨_, rfl⟩
    rw [← hS] at hs1 HS hSl
    have HSe := Aside0.mk hS
    replace hs1 := pw_cell_below HB3.out hs1
    clear hs2 hs3 hS hf1 hf2
    have hn17 : (n : Int) < 17 := by omega
    go_wp2_with fail
    go_loopg [30] S.length (fun kq v30 w' => ∃ i : Nat, v30 = .int .i64 i ∧ i ≤ S.length ∧ Aside0 (kq + i = S.length) ∧ Aside0 (Kd.R (Kd.int .i64) 3 w' w2.heap.size (fun _ => True) v1 (codesTo l0 n i)) ∧ Aside0 (Below w2.heap.size w2 w'))
    case atStart => exact ⟨0, rfl, by omega, ⟨rfl⟩, HO, HB3⟩
    case round =>
     clear HO hs1
     obtain ⟨i, rfl, hi, HI, HO, HB4⟩ := hrel
     by_cases hlt2 : i < S.length
     ·obtain ⟨j0, hj0, hje, hjn, hn0, hjr⟩ := symsTo_at l0 n i l0.length (by rw [← HSe.out]; exact hlt2)
      obtain ⟨ad, rfl, hcell⟩ := Kd.at_int (Kd.C_below HS.out.2 HB4.out) (i : Int) (by omega) (by omega)
      rw [Int.toNat_natCast, show rd S (i : Int) = (j0 : Int) from by unfold rd; rw [Int.toNat_natCast, HSe.out]; exact hje] at hcell
      have hff := pw_cell_below HB4.out HF.out
      have hF := openF_le l0 (by omega) n (by omega)
      have hlen := codesTo_length l0 n i
      obtain ⟨go, co, e1, ho1, ho2, _⟩ := Kd.R_form HO.out (by rw [hlen]; omega)
      rw [hlen] at e1
      subst e1
      obtain ⟨q1, q2⟩ := Kd.R_celln 0 HO.out (j0 : Int) (by omega) (by omega)
      have hP := Kd.R_putn HO.out (j0 : Int) ((openF l0 n : Int) + i)
      rw [Int.toNat_natCast] at q1 q2 hP
      rw [codesTo_step l0 hjn hn0 hjr] at hP
      have HP := Aside0.mk hP
      have HE := Aside0.mk (And.intro hje (And.intro hjn (And.intro hn0 (And.intro hjr (And.intro ho1 ho2)))))
      clear hje hjn hn0 hjr hP hlen ho1 ho2
      go_wp2_with fail
      go_roundg (gk - 1)
      case measure => have := HI.out; omega
      case rel => exact ⟨i + 1, by go_num, by omega, ⟨by have := HI.out; omega⟩, HP, ⟨HB4.out.setCell HE.out.2.2.2.2.1 _⟩⟩
     ·have hie : i = S.length := by omega
      subst hie
      have h2 := HO.out
      rw [HSe.out, codesTo_next l0 n HX.out] at h2
      have HO2 := Aside0.mk h2
      clear h2
      go_wp2_with fail
      go_roundg (ko - 1)
      case measure => have := HN.out; omega
      case rel => exact ⟨n + 1, by go_num, by omega, ⟨by have := HN.out; omega⟩, HO2, HB4⟩
   ·have hn2 : n = 17 := by omega
    subst hn2
    go_wp2_with fail
    go_ret2
    have h2 := HO.out
    rw [codesTo_end l0 HX.out] at h2
    exact ⟨_, rfl, Kd.R_lower h2 HSz.out, below_then HL.out HSz.out HB3.out⟩
 ·have h := H.out
  rw [if_neg hq0] at h
  simp only [Option.some.injEq, Prod.mk.injEq] at h
  obtain ⟨rfl, rfl⟩ := h
  have d0 : (q != 0) = true := bne_iff_ne.2 hq0
  go_wp2_with fail
  go_ret2
  exact ⟨_, rfl, Kd.R_nil _ _ _ _ _, HD.out⟩

/-! ### slices_IndexFunc_int_int: function 76 (by hand) -/
/-- The first place at which p holds; -1: none. -/
def firstBad (p : Int → Bool) : List Int → Nat → Int
 | [], _ => -1
 | x :: xs, i => if p x then (i : Int) else firstBad p xs (i + 1)
theorem firstBad_drop (p : Int → Bool) (l : List Int) (i : Nat) (h : i < l.length) : firstBad p (l.drop i) i = if p (l.getD i 0) then (i : Int) else firstBad p (l.drop (i + 1)) (i + 1) := by
 rw [List.drop_eq_getElem_cons h, show l.getD i 0 = l[i] from by rw [List.getD_eq_getElem?_getD, List.getElem?_eq_getElem h]; rfl]
 rfl
theorem firstBad_iff (p : Int → Bool) : ∀ (l : List Int) (i : Nat), 0 ≤ firstBad p l i ↔ l.any p = true
 | [], _ => by simp [firstBad]
 | x :: xs, i => by
  have e : firstBad p (x :: xs) i = if p x = true then (i : Int) else firstBad p xs (i + 1) := rfl
  rw [e, List.any_cons]
  by_cases h : p x = true
  ·rw [if_pos h, h]; simp
  ·rw [if_neg h, firstBad_iff p xs (i + 1)]
   simp [h]
theorem firstBad_any (p : Int → Bool) (l : List Int) (i : Nat) : decide (0 ≤ firstBad p l i) = l.any p := by
 rw [Bool.eq_iff_iff, decide_eq_true_iff, firstBad_iff]
set_option maxHeartbeats 8000000 in
set_option maxRecDepth 100000 in
theorem index_func (F : Nat) (p : Int → Bool) (hE : ∀ (args : Array Value) (W : World), (callFunc F args).run Try.prog W = .ok (.enter F args) W) (hF : ∀ (x : Int) (W : World), Calls Try.prog F #[.int .i64 x] W fun e W' => e = .returned (.bool (p x)) ∧ Drawn0 W W') (A0 : Option Addr) (c0 : Nat) (l0 : List Int) (w : World)
  (hr0 : Kd.C (Kd.int .i64) w A0 l0.length l0) (hc0 : l0.length ≤ c0) :
  Calls Try.prog 76 #[.slice A0 l0.length c0, .func (.func F) #[] #[]] w fun e w' => e = .returned (.int .i64 (firstBad p l0 0)) ∧ Drawn0 w w' := by
 have HR := Aside0.mk hr0
 have hLm : l0.length ≤ 9223372036854775807 := hr0.2.1
 have HF := Aside0.mk hF
 have HD := Aside0.mk (Drawn0.refl w)
 clear hr0 hF
 go_enter Try.func76, Try.ntmps76
 go_wp2_with fail
 go_loopg [8] l0.length (fun kq v8 w' => ∃ i : Nat, v8 = .int .i64 i ∧ i ≤ l0.length ∧ Aside0 (kq + i = l0.length) ∧ Aside0 (firstBad p (l0.drop i) i = firstBad p l0 0) ∧ Aside0 (Drawn0 w w'))
 case atStart => exact ⟨0, rfl, by omega, ⟨rfl⟩, ⟨rfl⟩, HD⟩
 case round =>
  clear HD
  obtain ⟨i, rfl, hi, HG, HP, HD⟩ := hrel
  by_cases hlt : i < l0.length
  ·obtain ⟨ad, rfl, hcell⟩ := Kd.at_int (Kd.C_below HR.out HD.out.below) (i : Int) (by omega) (by omega)
   have HS := Aside0.mk (firstBad_drop p l0 i hlt)
   have e : rd l0 (i : Int) = l0.getD i 0 := by unfold rd; rw [Int.toNat_natCast]
   rw [Int.toNat_natCast, e] at hcell
   generalize l0.getD i 0 = x at hcell HS
   clear e
   have hEx := hE #[.int .i64 x] wr
   go_wp2_with fail
   refine (HF.out x wr).mono ?_
   rintro e1 w1 ⟨rfl, hd⟩
   have HD1 := Aside0.mk (show Drawn0 w w1 from by
    obtain ⟨m1, e1⟩ := HD.out.out
    obtain ⟨m2, e2⟩ := hd.out
    rw [e1] at e2
    exact ⟨⟨m1 + m2, by rw [e2, World.drewN_drewN]⟩⟩)
   clear hEx hcell hd
   generalize p x = q at HS ⊢
   cases q with
   | true =>
    go_wp2_with fail
    go_ret
    have h := HS.out
    rw [if_pos trivial, HP.out] at h
    rw [h]
    exact ⟨rfl, HD1.out⟩
   | false =>
    go_wp2_with fail
    go_roundg (gk - 1)
    case measure => have := HG.out; omega
    case rel => exact ⟨i + 1, by go_num, by omega, ⟨by have := HG.out; omega⟩, ⟨by rw [← HP.out, HS.out]; rfl⟩, HD1⟩
  ·have hi2 : i = l0.length := by omega
   subst hi2
   go_wp2_with fail
   go_ret
   have h := HP.out
   rw [List.drop_of_length_le (Nat.le_refl _)] at h
   rw [← h]
   exact ⟨rfl, HD.out⟩

/-! ### slices_ContainsFunc_int_int: function 42 (by hand) -/
/-- A length that may not be. -/
def badLen (x : Int) : Bool := decide (x < 0) || decide (x > 15)
set_option maxHeartbeats 8000000 in
set_option maxRecDepth 100000 in
theorem contains_func (F : Nat) (p : Int → Bool) (hE : ∀ (args : Array Value) (W : World), (callFunc F args).run Try.prog W = .ok (.enter F args) W) (hF : ∀ (x : Int) (W : World), Calls Try.prog F #[.int .i64 x] W fun e W' => e = .returned (.bool (p x)) ∧ Drawn0 W W') (A0 : Option Addr) (c0 : Nat) (l0 : List Int) (w : World)
  (hr0 : Kd.C (Kd.int .i64) w A0 l0.length l0) (hc0 : l0.length ≤ c0) :
  Calls Try.prog 42 #[.slice A0 l0.length c0, .func (.func F) #[] #[]] w fun e w' => e = .returned (.bool (l0.any p)) ∧ Drawn0 w w' := by
 have HC := Aside0.mk (index_func F p hE hF A0 c0 l0 w hr0 hc0)
 have HA := Aside0.mk (firstBad_any p l0 0)
 clear hE hF hr0
 go_enter Try.func42, Try.ntmps42
 go_wp2_with fail
 refine HC.out.mono ?_
 rintro e1 w1 ⟨rfl, hd⟩
 have HD := Aside0.mk hd
 clear hd
 generalize firstBad p l0 0 = q at HA ⊢
 go_wp2_with fail
 go_ret
 rw [← HA.out]
 exact ⟨rfl, HD.out⟩

/-! ### tree_above: function 51 -/
mutual
def tree_above.l0 : Nat → Int → List Int → Int → Int → Option (Int × Bool)
 | 0, _, _, _, _ => none
 | k + 1, x4, x10, x11, x12 => if x12 < x11 then (if 0 ≤ x12 then (if x12 < (x10.length : Int) then (if (rd x10 x12) < 0 then (tree_above.j1 k x4 (rd x10 x12) x10 x11 x12 true) else (tree_above.j1 k x4 (rd x10 x12) x10 x11 x12 (decide ((rd x10 x12) > 1048576)))) else (none)) else (none)) else (some (x4, true))
def tree_above.j1 : Nat → Int → Int → List Int → Int → Int → Bool → Option (Int × Bool)
 | 0, _, _, _, _, _, _ => none
 | k + 1, x4, x6, x10, x11, x12, x21 => if x21 = true then (some (0, false)) else (if x6 > 0 then (tree_above.l0 k (wrap64 (x4 + 1)) x10 x11 (wrap64 (x12 + 1))) else (tree_above.l0 k x4 x10 x11 (wrap64 (x12 + 1))))
end
def tree_above.f (k : Nat) (l0 : List Int) : Option (Int × Bool) := if (l0.length : Int) > 300 then (some (0, false)) else (tree_above.l0 k 0 l0 (l0.length : Int) 0)
set_option maxHeartbeats 8000000 in
set_option maxRecDepth 100000 in
theorem tree_above.calls (k : Nat) (A0 : Option Addr) (c0 : Nat) (l0 : List Int) (r1 : Int) (r2 : Bool) (w : World) (hr0 : Kd.C (Kd.int .i64) w A0 l0.length l0) (hc0 : l0.length ≤ c0) (h : tree_above.f k l0 = some (r1, r2)) :
  Calls Try.prog 51 #[.slice A0 l0.length c0] w fun e w' => e = .returned (.tuple #[.int .i64 r1, .bool r2]) ∧ Drawn0 w w' := by
 have HR0 := Aside0.mk hr0
 have HC0 := Aside0.mk hc0
 clear hr0 hc0
 have H : (if (l0.length : Int) > 300 then (some (0, false)) else (tree_above.l0 k 0 l0 (l0.length : Int) 0)) = some (r1, r2) := h
 clear h
 by_cases c2 : (l0.length : Int) > 300
 ·rw [if_pos c2] at H
  have c2b0 : decide (300 < (l0.length : Int)) = true := decide_eq_true c2
  have c2b1 : decide (300 < l0.length) = true := decide_eq_true (by omega)
  clear c2
  simp only [Option.some.injEq, Prod.mk.injEq] at H
  obtain ⟨rfl, rfl⟩ := H
  go_enter Try.func51, Try.ntmps51
  go_wp2
  go_ret2
  exact ⟨by first | rfl | (simp; done) | (simp [*]; done), by repeat (first | exact Drawn0.refl _ | apply Drawn0.step)⟩
 ·rw [if_neg c2] at H
  have c2b0 : decide (300 < (l0.length : Int)) = false := decide_eq_false c2
  have c2b1 : decide (300 < l0.length) = false := decide_eq_false (by omega)
  clear c2
  have H' := Aside0.mk H
  clear H
  go_enter Try.func51, Try.ntmps51
  go_wp2
  go_loopg [4, 12] k (fun kq v4 v12 w' => ∃ (x4_1 : Int) (x12_1 : Int), v4 = .int .i64 x4_1 ∧ v12 = .int .i64 x12_1 ∧ Aside0 (tree_above.l0 kq x4_1 l0 (l0.length : Int) x12_1 = some (r1, r2)) ∧ Aside0 (kq ≤ k) ∧ Drawn0 w w')
  case atStart => exact ⟨(0), (0), (by first | rfl | (simp; done) | (simp [*]; done)), (by first | rfl | (simp; done) | (simp [*]; done)), H', ⟨Nat.le_refl _⟩, by repeat (first | exact Drawn0.refl _ | apply Drawn0.step)⟩
  case round =>
   clear H'
   try clear c2
   try clear c2b0
   try clear c2b1
   try clear p2
   obtain ⟨x4_1, x12_1, rfl, rfl, HA, HK1, ⟨m1, rfl⟩⟩ := hrel
   cases gk with
   | zero => exact absurd HA.out (by simp [tree_above.l0])
   | succ k1 =>
    have H := HA.out
    clear HA
    simp only [tree_above.l0] at H
    by_cases c3 : x12_1 < (l0.length : Int)
    ·rw [if_pos c3] at H
     have c3b0 : decide (x12_1 < (l0.length : Int)) = true := decide_eq_true c3
     clear c3
     by_cases c4 : 0 ≤ x12_1
     ·rw [if_pos c4] at H
      have c4b0 : decide (0 ≤ x12_1) = true := decide_eq_true c4
      clear c4
      by_cases c5 : x12_1 < (l0.length : Int)
      ·rw [if_pos c5] at H
       have c5b0 : decide (x12_1 < (l0.length : Int)) = true := decide_eq_true c5
       clear c5
       have HC6 := Aside0.mk H
       clear H
       have p125 : 0 ≤ (x12_1 : Int) := of_decide_eq_true (by first | (with_reducible assumption) | assumption)
       have q125 : x12_1 < (l0.length : Int) := of_decide_eq_true (by first | (with_reducible assumption) | assumption)
       obtain ⟨ad125, e125, hx125_0⟩ := Kd.at_int HR0.out x12_1 p125 q125
       cases e125
       replace p125 := eq_true p125
       replace q125 := eq_true q125
       go_upto_region 7 with (fail)
       go_cut [21] (fun v21 wc => ∃ (kq : Nat) (x21_5 : Bool), v21 = .bool x21_5 ∧ Aside0 (tree_above.j1 kq x4_1 (rd l0 x12_1) l0 (l0.length : Int) x12_1 x21_5 = some (r1, r2)) ∧ Aside0 (kq ≤ k1) ∧ Drawn0 w wc)
       case first =>
        have H := HC6.out
        clear HC6
        by_cases c7 : (rd l0 x12_1) < 0
        ·rw [if_pos c7] at H
         have c7b0 : decide ((rd l0 x12_1) < 0) = true := decide_eq_true c7
         clear c7
         (first | rw [c7b0] | (simp only [i64_w, i32_w]; rw [c7b0]) | skip)
         have H' := Aside0.mk H
         clear H
         go_wp2
         go_meet
         case rel => exact ⟨_, (true), (by first | rfl | (simp; done) | (simp [*]; done)), H', ⟨by have := HK1.out; first | omega | exact Nat.le_refl _⟩, by repeat (first | exact Drawn0.refl _ | apply Drawn0.step)⟩
        ·rw [if_neg c7] at H
         have c7b0 : decide ((rd l0 x12_1) < 0) = false := decide_eq_false c7
         clear c7
         (first | rw [c7b0] | (simp only [i64_w, i32_w]; rw [c7b0]) | skip)
         have H' := Aside0.mk H
         clear H
         go_wp2
         go_meet
         case rel => exact ⟨_, (decide ((rd l0 x12_1) > 1048576)), (by first | rfl | (simp; done) | (simp [*]; done)), H', ⟨by have := HK1.out; first | omega | exact Nat.le_refl _⟩, by repeat (first | exact Drawn0.refl _ | apply Drawn0.step)⟩
       case rest =>
        clear HC6
        try clear p1
        try clear q1
        try clear hx1
        try clear c2
        try clear c2b0
        try clear c2b1
        try clear p2
        try clear c3
        try clear c3b0
        try clear c4
        try clear c4b0
        try clear c5
        try clear c5b0
        try clear c7
        try clear c7b0
        try clear hx125_0
        try clear p125
        try clear p2
        try clear q125
        obtain ⟨kq, x21_5, rfl, HA, HJ5, ⟨mc5, rfl⟩⟩ := hcut
        cases kq with
        | zero => exact absurd HA.out (by simp [tree_above.j1])
        | succ kj5 =>
         have H := HA.out
         clear HA
         simp only [tree_above.j1] at H
         by_cases c8 : x21_5 = true
         ·subst c8
          have H1 : (some (0, false)) = some (r1, r2) := by rw [if_pos rfl] at H; exact H
          clear H
          have H := H1
          clear H1
          simp only [Option.some.injEq, Prod.mk.injEq] at H
          obtain ⟨rfl, rfl⟩ := H
          go_wp2
          go_ret2
          exact ⟨by first | rfl | (simp; done) | (simp [*]; done), by repeat (first | exact Drawn0.refl _ | apply Drawn0.step)⟩
         ·replace c8 := Bool.eq_false_iff.mpr c8
          subst c8
          have H1 : (if (rd l0 x12_1) > 0 then (tree_above.l0 kj5 (wrap64 (x4_1 + 1)) l0 (l0.length : Int) (wrap64 (x12_1 + 1))) else (tree_above.l0 kj5 x4_1 l0 (l0.length : Int) (wrap64 (x12_1 + 1)))) = some (r1, r2) := by rw [if_neg (show ¬ (false = true) by decide)] at H; exact H
          clear H
          have H := H1
          clear H1
          by_cases c9 : (rd l0 x12_1) > 0
          ·rw [if_pos c9] at H
           have c9b0 : decide (0 < (rd l0 x12_1)) = true := decide_eq_true c9
           clear c9
           have H' := Aside0.mk H
           clear H
           go_wp2
           go_roundg kj5
           case measure => have := HK1.out; have := HJ5.out; omega
           case rel => exact ⟨(wrap64 (x4_1 + 1)), (wrap64 (x12_1 + 1)), (by first | rfl | (simp; done) | (simp [*]; done)), (by first | rfl | (simp; done) | (simp [*]; done)), H', ⟨by have := HK1.out; have := HJ5.out; omega⟩, by repeat (first | exact Drawn0.refl _ | apply Drawn0.step)⟩
          ·rw [if_neg c9] at H
           have c9b0 : decide (0 < (rd l0 x12_1)) = false := decide_eq_false c9
           clear c9
           have H' := Aside0.mk H
           clear H
           go_wp2
           go_roundg kj5
           case measure => have := HK1.out; have := HJ5.out; omega
           case rel => exact ⟨(x4_1), (wrap64 (x12_1 + 1)), (by first | rfl | (simp; done) | (simp [*]; done)), (by first | rfl | (simp; done) | (simp [*]; done)), H', ⟨by have := HK1.out; have := HJ5.out; omega⟩, by repeat (first | exact Drawn0.refl _ | apply Drawn0.step)⟩
      ·rw [if_neg c5] at H
       exact absurd H (by simp)
     ·rw [if_neg c4] at H
      exact absurd H (by simp)
    ·rw [if_neg c3] at H
     have c3b0 : decide (x12_1 < (l0.length : Int)) = false := decide_eq_false c3
     clear c3
     simp only [Option.some.injEq, Prod.mk.injEq] at H
     obtain ⟨rfl, rfl⟩ := H
     go_wp2
     go_ret2
     exact ⟨by first | rfl | (simp; done) | (simp [*]; done), by repeat (first | exact Drawn0.refl _ | apply Drawn0.step)⟩

/-! ### tree_Cost: function 30 (by hand) -/
/-- May weights be such? How many are above 0? -/
def weighs (w : List Int) : Bool := decide (w.length ≤ 300) && w.all (fun x => decide (0 ≤ x) && decide (x ≤ 1048576))
def pos (w : List Int) : Nat := (w.filter (fun x => decide (0 < x))).length
theorem weighs_iff (w : List Int) : weighs w = true ↔ w.length ≤ 300 ∧ ∀ x ∈ w, 0 ≤ x ∧ x ≤ 1048576 := by
 unfold weighs
 simp [List.all_eq_true]
theorem pos_le (w : List Int) : pos w ≤ w.length := List.length_filter_le _ _
theorem above_loop (l : List Int) (hl : l.length ≤ 300) : ∀ (d i k : Nat), i + d = l.length → 2 * d < k → tree_above.l0 k (pos (l.take i) : Int) l (l.length : Int) (i : Int) = some (if (l.drop i).all (fun x => decide (0 ≤ x) && decide (x ≤ 1048576)) then ((pos l : Int), true) else (0, false)) := by
 intro d
 induction d with
 | zero =>
  intro i k hi hk
  obtain ⟨k, rfl⟩ : ∃ m, k = m + 1 := ⟨k - 1, by omega⟩
  simp only [tree_above.l0]
  rw [if_neg (by omega), List.drop_of_length_le (by omega), List.take_of_length_le (by omega)]
  rfl
 | succ d ih =>
  intro i k hi hk
  obtain ⟨k, rfl⟩ : ∃ m, k = m + 2 := ⟨k - 2, by omega⟩
  have hlt : i < l.length := by omega
  have hp : pos (l.take i) ≤ 300 := Nat.le_trans (pos_le _) (by rw [List.length_take]; omega)
  have hstep : pos (l.take (i + 1)) = pos (l.take i) + if 0 < l[i] then 1 else 0 := by
   unfold pos
   rw [List.take_succ_eq_append_getElem hlt, List.filter_append, List.length_append]
   by_cases h : 0 < l[i] <;> simp [List.filter_cons, h]
  have e : rd l (i : Int) = l[i] := by unfold rd; rw [Int.toNat_natCast, List.getD_eq_getElem?_getD, List.getElem?_eq_getElem hlt]; rfl
  simp only [tree_above.l0]
  rw [if_pos (by omega), if_pos (by omega), if_pos (by omega), e, List.drop_eq_getElem_cons hlt, List.all_cons]
  by_cases h0 : l[i] < 0
  ·rw [if_pos h0, decide_eq_false (by omega)]
   simp only [tree_above.j1]
   rw [if_pos trivial]
   rfl
  ·rw [if_neg h0]
   by_cases h1 : l[i] > 1048576
   ·rw [decide_eq_true h1, decide_eq_true (by omega), decide_eq_false (by omega)]
    simp only [tree_above.j1]
    rw [if_pos trivial]
    rfl
   ·rw [decide_eq_false h1, decide_eq_true (by omega), decide_eq_true (by omega), Bool.and_true, Bool.true_and]
    simp only [tree_above.j1]
    rw [if_neg (by decide), show wrap64 ((i : Int) + 1) = ((i + 1 : Nat) : Int) from by unfold wrap64; omega, show wrap64 ((pos (l.take i) : Int) + 1) = ((pos (l.take i) + 1 : Nat) : Int) from by unfold wrap64; omega]
    have := ih (i + 1) k (by omega) (by omega)
    rw [hstep] at this
    by_cases h2 : l[i] > 0
    ·rw [if_pos h2]
     rw [if_pos (by omega)] at this
     exact this
    ·rw [if_neg h2]
     rw [if_neg (by omega)] at this
     exact this
theorem above_is (l : List Int) : tree_above.f 700 l = some (if weighs l then ((pos l : Int), true) else (0, false)) := by
 unfold tree_above.f weighs
 by_cases h : l.length ≤ 300
 ·rw [if_neg (by omega), decide_eq_true h]
  have := above_loop l h l.length 0 700 (by omega) (by omega)
  rw [show ((pos (l.take 0) : Nat) : Int) = 0 from rfl, List.drop_zero] at this
  exact this
 ·rw [if_pos (by omega), decide_eq_false h]; rfl
/-! ### tree_node: function 113 (by hand) -/
/-- The cells of a node: what it weighs, its row of symbols. -/
def nodeCells (x : Int × Value) : List Value := [.int .i64 x.1, x.2]
def nodeRows (l : List (Int × Value)) : List (List Value) := l.map nodeCells
theorem nodeRows_length (l : List (Int × Value)) : (nodeRows l).length = l.length := by simp [nodeRows]
theorem nodeRows_at (l : List (Int × Value)) (i : Nat) (h : i < l.length) : (nodeRows l).getD i [] = nodeCells l[i] := by simp [nodeRows, h]
theorem nodeRows_erase (l : List (Int × Value)) (k : Nat) : (nodeRows l).eraseIdx k = nodeRows (l.eraseIdx k) := by
 rw [List.eraseIdx_eq_take_drop_succ, List.eraseIdx_eq_take_drop_succ, nodeRows, nodeRows, List.map_append, List.map_take, List.map_drop]
/-- A node list in memory of its own. -/
def Nodes (w : World) (base : Nat) (v : Value) (l : List (Int × Value)) : Prop := (Kd.raw 2).R 133 w base (fun _ => True) v (nodeRows l)
/-- Its block is known whole, its cells may be written. -/
theorem nodes_block {w : World} {base g m c : Nat} {rows : List (List Value)} (h : (Kd.raw 2).R 133 w base (fun _ => True) (.slice (some ⟨g, 0, none⟩) m c) rows) :
  ∃ cur, w.heap[g]? = some (.cells cur 133 (0, 0)) ∧ cur.size = c * 2 ∧ c ≤ maxLen ∧ base ≤ g := by
 obtain ⟨_, inner, hown, _⟩ := h
 rcases hown.2 with ⟨hv, _⟩ | ⟨g', cap', cur, hv, hb, hh, _, hcm, hcs, _⟩
 ·cases hv
 injection hv with ha _ hc
 injection ha with ha
 injection ha with hg
 subst hg; subst hc
 exact ⟨cur, hh, hcs, hcm, hb⟩
/-- What is written behind its end changes nothing of it. -/
theorem nodes_behind {w : World} {base g m c o : Nat} {rows : List (List Value)} (h : (Kd.raw 2).R 133 w base (fun _ => True) (.slice (some ⟨g, 0, none⟩) m c) rows) (seg : List Value) (ho : m * 2 ≤ o) (hs : o + seg.length ≤ c * 2) :
  (Kd.raw 2).R 133 (w.setCells g o seg) base (fun _ => True) (.slice (some ⟨g, 0, none⟩) m c) rows := by
 obtain ⟨h0, inner, hown, hr⟩ := h
 refine ⟨h0, inner, ⟨hown.1, ?_⟩, hr⟩
 rcases hown.2 with ⟨hv, _⟩ | ⟨g', cap', cur, hv, hb, hh, hmc, hcm, hcs, htake⟩
 ·cases hv
 injection hv with ha hn hc
 injection ha with ha
 injection ha with hg
 subst hg; subst hc
 have hz : (Kd.raw 2).sz = 2 := rfl
 obtain ⟨cur', h3, h4, h5⟩ := setCells_row seg o w cur hh (by rw [hcs, hz]; exact hs)
 refine .inr ⟨g, c, cur', by rw [hn], hb, h3, hmc, hcm, by rw [h4, hcs], ?_⟩
 have hl : (cur.toList.take o).length = o := by rw [List.length_take, Array.length_toList, hcs, hz]; omega
 rw [h5, List.append_assoc, ← htake, List.take_append_of_le_length (by rw [hl, ← hn, hz]; omega), List.take_take, Nat.min_eq_left (by rw [← hn, hz]; omega)]
theorem clear_node (w : World) (ty : TypeId) (b o c : Nat) (hc : ∀ j, j < 2 → (w.cell? ⟨b, o + j, none⟩).isSome = true) (hf : ∀ j, j < 2 → w.frozen? ⟨b, o + j, none⟩ = false) :
  (Builtin.clear_ #[131] ty #[.slice (some ⟨b, o, none⟩) 1 c]).run Try.prog w = .ok (.tuple #[]) (w.setCells b o [.int .i64 0, .slice none 0 0]) := by
 have ht := Try.underlying131
 have hv : ∀ w, (zeroValue 133).run Try.prog w = .ok (.agg #[.int .i64 0, .slice none 0 0]) w := fun w => by kernel_rfl
 have hst := run_storeCells_cells (P := Try.prog) b o [.int .i64 0, .slice none 0 0] 0 w (by simpa using hc) (by simpa using hf) (by intro v hv'; simp at hv'; rcases hv' with rfl | rfl <;> rfl)
 simp only [Nat.add_zero] at hst
 have hzc : (Builtin.zeroCells (Value.agg #[.int .i64 0, .slice none 0 0]).cells 1).toList = [.int .i64 0, .slice none 0 0] := by simp [Builtin.zeroCells, Value.cells]; rfl
 simp [Builtin.clear_, run_underlying ht, hv, hzc, hst]
set_option maxHeartbeats 8000000 in
set_option maxRecDepth 100000 in
theorem delete_node (g c at' : Nat) (l : List (Int × Value)) (w0 w : World) (hO : Nodes w w0.heap.size (.slice (some ⟨g, 0, none⟩) l.length c) l) (hat : at' < l.length) (hB : Below w0.heap.size w0 w) (hl : l.length ≤ 1000000) :
  Calls Try.prog 113 #[.slice (some ⟨g, 0, none⟩) l.length c, .int .i64 at', .int .i64 ((at' : Int) + 1)] w fun e w' => e = .returned (.slice (some ⟨g, 0, none⟩) (l.length - 1) c) ∧
   Nodes w' w0.heap.size (.slice (some ⟨g, 0, none⟩) (l.length - 1) c) (l.eraseIdx at') ∧ Below w0.heap.size w0 w' ∧ w.grownBy w' (some g) := by
 have HB := Aside0.mk hB
 obtain ⟨hn, hc, _⟩ := Kd.R_reads' hO
 have hcl : l.length ≤ c := by omega
 obtain ⟨L, hL⟩ : ∃ L, L = l.length := ⟨_, rfl⟩
 have HL := Aside0.mk hL
 rw [← hL] at hat hcl hl hO ⊢
 have HO := Aside0.mk hO
 have hmx : c ≤ 9223372036854775807 := by
  obtain ⟨_, _, _, h, _⟩ := nodes_block hO
  exact h
 clear hO hB hn hc hL
 have hne : ((at' : Int) == (at' : Int) + 1) = false := by rw [beq_eq_false_iff_ne]; omega
 have hic : at' ≤ c := by omega
 have hjc : at' + 1 ≤ c := by omega
 have hi2 : (0 : Int) ≤ (at' : Int) + 1 := by omega
 have hi0 : (0 : Int) ≤ (at' : Int) := by omega
 have hi1 : (at' : Int) + 1 ≤ (L : Int) := by omega
 go_enter Try.func113, Try.ntmps113
 go_wp2_with fail
 have hA : (if c = at' + 1 then some ({ block := g, off := 0 } : Addr) else some { block := g, off := (at' + 1) * 2 }) = if c = at' + 1 then some (⟨g, 0, none⟩ : Addr) else (some (⟨g, 0, none⟩ : Addr)).map (·.add ((at' + 1) * (Kd.raw 2).sz)) := by
  have hz : (Kd.raw 2).sz = 2 := rfl
  simp [hz, Addr.add]
 have HA := Aside0.mk hA
 clear hA
 have hinfo : (Try.prog.info? 133).map (·.size) = some (Kd.raw 2).sz := by kernel_rfl
 have HB1 := HB.out.drew
 have hO1 := Kd.R_drew HO.out
 go_region_law (refine Kd.R_delete_step (Kd.raw 2) (w0 := w0) w0.heap.size rfl (.tmp 22) (.tmp 25) 131 133 rfl Try.underlying131 hinfo rfl rfl HA.out rfl hO1 hat HB1 HB1.size ?_; intro w1 hO1 hB1 hg1)
 have HO1 := Aside0.mk hO1
 have HB2 := Aside0.mk hB1
 have HG := Aside0.mk hg1
 obtain ⟨cur1, hh1, hs1, _, _⟩ := nodes_block hO1
 have hcl : ∀ ty, (Builtin.clear_ #[131] ty #[.slice (some ⟨g, (L - 1) * 2, none⟩) (L - (L - 1)) (c - (L - 1))]).run Try.prog w1 = .ok (.tuple #[]) (w1.setCells g ((L - 1) * 2) [.int .i64 0, .slice none 0 0]) := fun ty => by
  rw [show L - (L - 1) = 1 by omega]
  exact clear_node w1 ty g ((L - 1) * 2) (c - (L - 1)) (fun j hj => by rw [cell_of_row w1 g _ cur1 133 (0, 0) hh1]; simp; omega) (fun j _ => blk_frozen hh1 _)
 have hc1 : ¬ (c = L - 1) := by omega
 have hc2 : L - 1 ≤ L := by omega
 have hc3 : L ≤ c := by omega
 have hc4 : (0 : Int) ≤ ((L - 1 : Nat) : Int) := by omega
 have hc5 : ((L - 1 : Nat) : Int) ≤ (L : Int) := by omega
 have HN := Aside0.mk (nodes_behind hO1 [.int .i64 0, .slice none 0 0] (Nat.le_refl _) (by simp; omega))
 obtain ⟨s1, s2, s3, s4⟩ := setCells_same g [.int .i64 0, .slice none 0 0] ((L - 1) * 2) w1
 have HS := Aside0.mk (show w1.grownBy (w1.setCells g ((L - 1) * 2) [.int .i64 0, .slice none 0 0]) (some g) from ⟨s1, s2, s3, by rw [s4]; exact Nat.le_refl _, fun k' _ hk' => setCells_far _ _ k' (fun he => hk' (by rw [he]))⟩)
 have HGG := Aside0.mk (show w.grownBy w.drew (some g) from ⟨rfl, rfl, rfl, Nat.le_refl _, fun _ _ _ => rfl⟩)
 clear hO1 hB1 hg1 hh1 hs1 s1 s2 s3 s4
 have HZ := Aside0.mk ‹w0.heap.size ≤ g›
 go_wp2_with fail
 all_goals
  go_ret
  refine ⟨rfl, ?_, ?_, ?_⟩
  ·rw [Nodes, ← nodeRows_erase]
   first
   | exact HN.out
   | (have hh := HN.out; rw [show c = at' + 1 by assumption] at hh; exact hh)
  ·exact HB2.out.grown HS.out HB2.out.size (fun k hk => by injection hk with hk; subst hk; exact HZ.out)
  ·exact (HGG.out.trans HG.out).trans HS.out

end Go.Proofs.Ytlffpaploefljaa.P
