-- Written by a program of this session out of the translation. Lean checks it.
import Derived.Test.YtnfagiofoicgoaaPx0
namespace Go.Proofs.Ytnfagiofoicgoaa.P
open Go.RowKit Go.Proofs.YtnfagiofoicgoaaW.PrintWords Go.Proofs.YtnfagiofoicgoaaW.PrintLast Go.Proofs.YtnfagiofoicgoaaW.PrintMore
attribute [local go_sem] max2_int min2_int max_two min_two max_three min_three max_four min_four   -- for this text's walks alone
set_option linter.unusedVariables false
set_option linter.unusedSimpArgs false

-- PART
/-! ### bits_Pen_Add: function 27 (by hand) -/
/-- One bit behind a row. -/
def pbit (v : Int) (i : Nat) : Int := Go.bits .and .i64 (v / 2 ^ i) 1 % 256
def pgrow (B : List Int) (N : Nat) : List Int := if N % 8 = 0 then B ++ [0] else B
def pset (B : List Int) (N : Nat) (b : Int) : List Int := B.set (B.length - 1) (Go.bits .or .u8 (B.getD (B.length - 1) 0) (b * 2 ^ (N % 8) % 256))
def padd (v : Int) : Nat → Nat → List Int → Nat → List Int
  | 0, _, B, _ => B
  | m + 1, i, B, N => padd v m (i + 1) (pset (pgrow B N) N (pbit v i)) (N + 1)

set_option maxHeartbeats 8000000 in
set_option maxRecDepth 100000 in
theorem pen_add (g : Nat) (P_ : Nat → Prop) (v_ : Value) (B : List Int) (v : Int) (N n : Nat) (w0 w : World) (hB : Below w0.heap.size w0 w) (hg : w.heap[g]? = some (.cells #[v_, .int .i64 (N : Int)] 51 (0, 0))) (hw : w0.heap.size ≤ g)
    (ho : Kd.R (Kd.int .u8) 5 w w0.heap.size P_ v_ B) (hn : n ≤ 64) (hN : N ≤ 1099511627776) (hb : N % 8 ≠ 0 → B ≠ []) (hl : B.length ≤ 1099511627776) :
    Calls Try.prog 27 #[.pointer (some ⟨g, 0, none⟩), .int .i64 v, .int .i64 n] w fun e w' => ∃ v1, e = .returned (.tuple #[]) ∧ w'.heap[g]? = some (.cells #[v1, .int .i64 ((N + n : Nat) : Int)] 51 (0, 0)) ∧
      Kd.R (Kd.int .u8) 5 w' w0.heap.size (fun k => P_ k ∨ w.heap.size ≤ k) v1 (padd v n 0 B N) ∧ Below w0.heap.size w0 w' ∧ Kept w w' (fun k => P_ k ∨ k = g) := by
  have HO := Aside0.mk (show Kd.R (Kd.int .u8) 5 w w0.heap.size (fun k => P_ k ∨ w.heap.size ≤ k) v_ B from Kd.R_mono ho (fun k hk => .inl hk))
  have HK := Aside0.mk (Kept.refl w (fun k => P_ k ∨ k = g))
  have HW0 := Aside0.mk hB.size
  have HB := Aside0.mk hB
  have BK := Aside0.mk hg
  have HL := Aside0.mk hl
  have Hb := Aside0.mk hb
  clear hB ho hg hl hb
  go_enter Try.func27, Try.ntmps27
  go_wp2_with fail
  go_loopg [9] n (fun kq v9 w' => ∃ (i M : Nat) (Bi : List Int) (vi : Value), v9 = .int .i64 i ∧ i ≤ n ∧ M ≤ 2199023255552 ∧ Aside0 (kq + i = n) ∧ Aside0 (M = N + i) ∧ Aside0 (w'.heap[g]? = some (.cells #[vi, .int .i64 (M : Int)] 51 (0, 0))) ∧
    Aside0 (Kd.R (Kd.int .u8) 5 w' w0.heap.size (fun k => P_ k ∨ w.heap.size ≤ k) vi Bi) ∧ Aside0 (padd v (n - i) i Bi M = padd v n 0 B N) ∧ Aside0 ((M % 8 ≠ 0 → Bi ≠ []) ∧ Bi.length ≤ B.length + i) ∧ Aside0 (Kept w w' (fun k => P_ k ∨ k = g)) ∧ Aside0 (Below w0.heap.size w0 w'))
  case atStart => exact ⟨0, N, B, v_, rfl, Nat.zero_le _, by omega, ⟨rfl⟩, ⟨rfl⟩, BK, HO, ⟨rfl⟩, ⟨Hb.out, by omega⟩, HK, HB⟩
  case round =>
    clear HO HK HB BK Hb
    obtain ⟨i, M, Bi, vi, rfl, hi, hM, HG, HM, BK, HO, HP, Hb, HK, HB⟩ := hrel
    obtain ⟨Ai, ci, rfl⟩ := Kd.R_slice HO.out
    have hcz0 : wr.cell? ⟨g, 0, none⟩ = some (.slice Ai Bi.length ci) := (blk_cell BK.out 0).trans rfl
    have hcz1 : wr.cell? ⟨g, 1, none⟩ = some (.int .i64 (M : Int)) := (blk_cell BK.out 1).trans rfl
    have hfz0 := blk_frozen BK.out 0
    have hfz1 := blk_frozen BK.out 1
    by_cases hlt : i < n
    · by_cases h8 : M % 8 = 0
      · have hb8 : ((M : Int) % 8 == 0) = true := by rw [beq_iff_eq]; omega
        have H8 := Aside0.mk h8
        clear h8
        go_wp2_with ((with_reducible refine gate_builtin (b := .append) (xs := #[.tmp 26, .tmp 27]) rfl ?_); at_builtin; refine Kd.R_append (Kd.int .u8) (w0 := w0) w0.heap.size rfl (.tmp 26) (.tmp 27) 23 5 (.int .u8 0) 1 rfl Try.underlying23 info5 rfl (by decide) (by omega) (.slice Ai Bi.length ci) Bi 0 [.int .u8 0] (fun k => P_ k ∨ w.heap.size ≤ k) (fun _ => False) rfl rfl rfl (fun _ hk => hk.elim) (fun k hk => .inr (Nat.le_trans HK.out.1 hk)) HO.out HB.out (HB.out.size) (by have := HL.out; have := Hb.out.2; omega) ?_; intro v1 w1 ho hb hg hat; (have n0_ := Aside0.mk (blk_grown BK.out hg (Kd.R_ne HO.out BK.out (by decide)))); (have n3_ := Aside0.mk (Kept.of_grown (S := (fun k => P_ k ∨ k = g)) hg HK.out (fun k e => Or.imp_left Or.inl (HO.out.1 k e)))); (have n2_ := Aside0.mk hb); (have n4_ := Aside0.mk ho); clear HO BK HK HB hcz0 hcz1 hfz0 hfz1 hb ho hat hg; (have HO := n4_); (have BK := n0_); (have HK := n3_); (have HB := n2_); clear n0_ n2_ n3_ n4_; (obtain ⟨A1, c1, e1⟩ := Kd.R_slice HO.out); (subst e1); (have hcz0 := (blk_cell BK.out 0).trans rfl);  (have hcz1 : w1.cell? ⟨g, 1, none⟩ = some (.int .i64 (M : Int)) := (blk_cell BK.out 1).trans rfl); (have hfz0 := blk_frozen BK.out 0); (have hfz1 := blk_frozen BK.out 1))
        have n0_ := Aside0.mk (blk_put BK.out 0 (.slice A1 (Bi.length + 1) c1) rfl)
        have n1_ := Aside0.mk (Kd.R_far (p := ⟨g, 0, none⟩) (Kd.R_types HO.out BK.out (by decide)) (fun _ hk => hk.2) (.slice A1 (Bi.length + 1) c1))
        have n2_ := Aside0.mk (Kept.setCell (S := (fun k => P_ k ∨ k = g)) (p := ⟨g, 0, none⟩) HK.out (.inl (.inr rfl)) (.slice A1 (Bi.length + 1) c1))
        have n3_ := Aside0.mk (HB.out.setCell (p := ⟨g, 0, none⟩) hw (.slice A1 (Bi.length + 1) c1))
        clear HO BK HK HB hcz0 hcz1 hfz0 hfz1
        generalize (w1.setCell { block := g, off := 0 } (Value.slice A1 (Bi.length + 1) c1)) = w6 at n0_ n1_ n2_ n3_ ⊢
        rw [List.length_append, List.length_singleton] at n1_
        obtain ⟨Bg, hBg⟩ : ∃ Bg, Bg = pgrow Bi M := ⟨_, rfl⟩
        have n4_ : Aside0 (Bg = pgrow Bi M ∧ Bg.length = Bi.length + 1) := ⟨hBg, by rw [hBg]; unfold pgrow; rw [if_pos H8.out]; simp⟩
        rw [show Bi ++ [0] = Bg from by rw [hBg]; unfold pgrow; rw [if_pos H8.out]] at n1_
        clear hBg
        obtain ⟨L, hL⟩ : ∃ L, L = Bi.length + 1 := ⟨_, rfl⟩
        rw [← hL] at n0_ n1_ n4_
        rw [← hL]
        have HL2 : Aside0 (0 < L ∧ L ≤ B.length + i + 1) := ⟨by omega, by have := Hb.out.2; omega⟩
        clear hL
        clear H8 hb8
        have n5_ : Aside0 (L = Bg.length) := ⟨n4_.out.2.symm⟩
        replace n4_ : Aside0 (Bg = pgrow Bi M) := ⟨n4_.out.1⟩
        replace n1_ := Aside0.mk (Kd.R_mono n1_.out (fun _ hk => hk.1))
        obtain ⟨r, c6, e6, hr0, hr1, hr2⟩ := Kd.R_form n1_.out (by rw [← n5_.out]; exact HL2.out.1)
        injection e6 with e6 e8 e7
        clear e8
        subst e6 e7
        obtain ⟨q0, q1⟩ := Kd.R_celln 0 n1_.out ((L : Int) - 1) (by have := HL2.out.1; omega) (by omega)
        have hcz0 : w6.cell? ⟨g, 0, none⟩ = some (.slice (some ⟨r, 0, none⟩) L c1) := (blk_cell n0_.out 0).trans rfl
        have hcz1 : w6.cell? ⟨g, 1, none⟩ = some (.int .i64 (M : Int)) := (blk_cell n0_.out 1).trans rfl
        have hfz0 := blk_frozen n0_.out 0
        have hfz1 := blk_frozen n0_.out 1
        obtain ⟨x6, hx6⟩ : ∃ x, x = rdOf (0 : Int) Bg ((L : Int) - 1) := ⟨_, rfl⟩
        rw [← hx6] at q0
        rw [show ((L : Int) - 1).toNat = L - 1 from by omega] at q0 q1
        have hL0 := HL2.out.1
        have hL1 : L ≤ 1099511627776 + 65 := by have := HL2.out.2; have := HL.out; omega
        have HX := Aside0.mk hx6
        have HR := Aside0.mk (And.intro hr0 (n1_.out.1 r rfl))
        clear hx6 hr0 hr1 hr2
        go_region
        obtain ⟨y6, hy6⟩ : ∃ y, y = Go.bits .or .u8 x6 (Go.bits .and .i64 (v / 2 ^ i) 1 % 256 * 2 ^ (M % 8) % 256) := ⟨_, rfl⟩
        rw [← hy6]
        have m1_ := Aside0.mk (Kd.R_putn n1_.out ((L : Int) - 1) y6)
        rw [show ((L : Int) - 1).toNat = L - 1 from by omega] at m1_
        have hne : g ≠ r := by have h_ := Kd.R_ne n1_.out n0_.out (by decide); intro e_; exact h_ (by rw [e_]; rfl)
        have m0_ := Aside0.mk (blk_far (p := ⟨r, L - 1, none⟩) n0_.out hne (.int .u8 y6))
        have m2_ := Aside0.mk (Kept.setCell (S := (fun k => P_ k ∨ k = g)) (p := ⟨r, L - 1, none⟩) n2_.out (Or.imp_left Or.inl HR.out.2) (.int .u8 y6))
        have m3_ := Aside0.mk (n3_.out.setCell (p := ⟨r, L - 1, none⟩) HR.out.1 (.int .u8 y6))
        have m5_ : Aside0 (Bg.set (L - 1) y6 = pset (pgrow Bi M) M (pbit v i)) := ⟨by rw [← n4_.out, hy6, HX.out]; unfold pset pbit rdOf; rw [← n5_.out, show ((L : Int) - 1).toNat = L - 1 from by omega]⟩
        have m6_ : Aside0 ((Bg.set (L - 1) y6).length = L) := ⟨by rw [List.length_set]; exact n5_.out.symm⟩
        clear n0_ n1_ n2_ n3_ n4_ n5_ hy6 HX q0 q1 hcz0 hcz1 hfz0 hfz1 HR
        have m7_ : Aside0 ((Kd.int .u8).R 5 (w6.setCell ⟨r, L - 1, none⟩ (.int .u8 y6)).drew w0.heap.size (fun k => P_ k ∨ w.heap.size ≤ k) (.slice (some ⟨r, 0, none⟩) L c1) (Bg.set (L - 1) y6)) := ⟨Kd.R_drew m1_.out⟩
        have m8_ : Aside0 ((w6.setCell ⟨r, L - 1, none⟩ (.int .u8 y6)).drew.heap[g]? = some (.cells #[.slice (some ⟨r, 0, none⟩) L c1, .int .i64 (M : Int)] 51 (0, 0))) := ⟨m0_.out⟩
        have m9_ : Aside0 (Kept w (w6.setCell ⟨r, L - 1, none⟩ (.int .u8 y6)).drew (fun k => P_ k ∨ k = g)) := ⟨Kept.drew m2_.out⟩
        have ma_ : Aside0 (Below w0.heap.size w0 (w6.setCell ⟨r, L - 1, none⟩ (.int .u8 y6)).drew) := ⟨m3_.out.drew⟩
        clear m0_ m1_ m2_ m3_
        generalize (w6.setCell ⟨r, L - 1, none⟩ (.int .u8 y6)).drew = w7 at m7_ m8_ m9_ ma_ ⊢
        have hcz0 : w7.cell? ⟨g, 0, none⟩ = some (.slice (some ⟨r, 0, none⟩) L c1) := (blk_cell m8_.out 0).trans rfl
        have hcz1 : w7.cell? ⟨g, 1, none⟩ = some (.int .i64 (M : Int)) := (blk_cell m8_.out 1).trans rfl
        have hfz0 := blk_frozen m8_.out 0
        have hfz1 := blk_frozen m8_.out 1
        go_wp2_with fail
        go_roundg (gk - 1)
        case measure => have := HG.out; omega
        case rel =>
          refine ⟨i + 1, M + 1, Bg.set (L - 1) y6, .slice (some ⟨r, 0, none⟩) L c1, by go_num, by omega, ?_, ⟨by have := HG.out; omega⟩, ⟨by rw [HM.out]; omega⟩, ⟨?_⟩, ⟨?_⟩, ⟨?_⟩, ⟨?_⟩, ⟨?_⟩, ⟨?_⟩⟩
          · have := HM.out; omega
          · exact blk_put m8_.out 1 (.int .i64 ((M : Int) + 1)) rfl
          · exact Kd.R_mono (Kd.R_far (p := ⟨g, 1, none⟩) (Kd.R_types m7_.out m8_.out (by decide)) (fun _ hk => hk.2) _) (fun _ hk => hk.1)
          · rw [← HP.out, m5_.out, show n - i = (n - (i + 1)) + 1 from by omega]; rfl
          · refine ⟨fun _ h => ?_, ?_⟩
            · rw [h] at m6_; have := m6_.out; simp at this; omega
            · rw [m6_.out]; exact Nat.le_trans HL2.out.2 (by omega)
          · exact Kept.setCell m9_.out (.inl (.inr rfl)) _
          · exact ma_.out.setCell hw _
      · have hb8 : ((M : Int) % 8 == 0) = false := by rw [beq_eq_false_iff_ne]; omega
        have H8 := Aside0.mk h8
        clear h8
        go_wp2_with fail
        have n0_ := BK
        have n1_ := HO
        have n2_ := HK
        have n3_ := HB
        clear HO BK HK HB hcz0 hcz1 hfz0 hfz1
        have n4_ : Aside0 (Bi = pgrow Bi M) := ⟨by unfold pgrow; rw [if_neg H8.out]⟩
        obtain ⟨L, hL⟩ : ∃ L, L = Bi.length := ⟨_, rfl⟩
        rw [← hL] at n0_ n1_
        have HL2 : Aside0 (0 < L ∧ L ≤ B.length + i + 1) := ⟨by have := Hb.out.1 H8.out; have := List.length_pos_iff.2 this; omega, by have := Hb.out.2; omega⟩
        have n5_ := Aside0.mk hL
        clear hL H8 hb8
        obtain ⟨r, c6, e6, hr0, hr1, hr2⟩ := Kd.R_form n1_.out (by rw [← n5_.out]; exact HL2.out.1)
        injection e6 with e6 e8 e7
        clear e8
        subst e6 e7
        obtain ⟨q0, q1⟩ := Kd.R_celln 0 n1_.out ((L : Int) - 1) (by have := HL2.out.1; omega) (by omega)
        have hcz0 : wr.cell? ⟨g, 0, none⟩ = some (.slice (some ⟨r, 0, none⟩) L ci) := (blk_cell n0_.out 0).trans rfl
        have hcz1 : wr.cell? ⟨g, 1, none⟩ = some (.int .i64 (M : Int)) := (blk_cell n0_.out 1).trans rfl
        have hfz0 := blk_frozen n0_.out 0
        have hfz1 := blk_frozen n0_.out 1
        obtain ⟨x6, hx6⟩ : ∃ x, x = rdOf (0 : Int) Bi ((L : Int) - 1) := ⟨_, rfl⟩
        rw [← hx6] at q0
        rw [show ((L : Int) - 1).toNat = L - 1 from by omega] at q0 q1
        have hL0 := HL2.out.1
        have hL1 : L ≤ 1099511627776 + 65 := by have := HL2.out.2; have := HL.out; omega
        have HX := Aside0.mk hx6
        have HR := Aside0.mk (And.intro hr0 (n1_.out.1 r rfl))
        clear hx6 hr0 hr1 hr2
        go_region
        obtain ⟨y6, hy6⟩ : ∃ y, y = Go.bits .or .u8 x6 (Go.bits .and .i64 (v / 2 ^ i) 1 % 256 * 2 ^ (M % 8) % 256) := ⟨_, rfl⟩
        rw [← hy6]
        have m1_ := Aside0.mk (Kd.R_putn n1_.out ((L : Int) - 1) y6)
        rw [show ((L : Int) - 1).toNat = L - 1 from by omega] at m1_
        have hne : g ≠ r := by have h_ := Kd.R_ne n1_.out n0_.out (by decide); intro e_; exact h_ (by rw [e_]; rfl)
        have m0_ := Aside0.mk (blk_far (p := ⟨r, L - 1, none⟩) n0_.out hne (.int .u8 y6))
        have m2_ := Aside0.mk (Kept.setCell (S := (fun k => P_ k ∨ k = g)) (p := ⟨r, L - 1, none⟩) n2_.out (Or.imp_left Or.inl HR.out.2) (.int .u8 y6))
        have m3_ := Aside0.mk (n3_.out.setCell (p := ⟨r, L - 1, none⟩) HR.out.1 (.int .u8 y6))
        have m5_ : Aside0 (Bi.set (L - 1) y6 = pset (pgrow Bi M) M (pbit v i)) := ⟨by rw [← n4_.out, hy6, HX.out]; unfold pset pbit rdOf; rw [← n5_.out, show ((L : Int) - 1).toNat = L - 1 from by omega]⟩
        have m6_ : Aside0 ((Bi.set (L - 1) y6).length = L) := ⟨by rw [List.length_set]; exact n5_.out.symm⟩
        clear n0_ n1_ n2_ n3_ n4_ n5_ hy6 HX q0 q1 hcz0 hcz1 hfz0 hfz1 HR
        have m7_ : Aside0 ((Kd.int .u8).R 5 (wr.setCell ⟨r, L - 1, none⟩ (.int .u8 y6)).drew w0.heap.size (fun k => P_ k ∨ w.heap.size ≤ k) (.slice (some ⟨r, 0, none⟩) L ci) (Bi.set (L - 1) y6)) := ⟨Kd.R_drew m1_.out⟩
        have m8_ : Aside0 ((wr.setCell ⟨r, L - 1, none⟩ (.int .u8 y6)).drew.heap[g]? = some (.cells #[.slice (some ⟨r, 0, none⟩) L ci, .int .i64 (M : Int)] 51 (0, 0))) := ⟨m0_.out⟩
        have m9_ : Aside0 (Kept w (wr.setCell ⟨r, L - 1, none⟩ (.int .u8 y6)).drew (fun k => P_ k ∨ k = g)) := ⟨Kept.drew m2_.out⟩
        have ma_ : Aside0 (Below w0.heap.size w0 (wr.setCell ⟨r, L - 1, none⟩ (.int .u8 y6)).drew) := ⟨m3_.out.drew⟩
        clear m0_ m1_ m2_ m3_
        generalize (wr.setCell ⟨r, L - 1, none⟩ (.int .u8 y6)).drew = w7 at m7_ m8_ m9_ ma_ ⊢
        have hcz0 : w7.cell? ⟨g, 0, none⟩ = some (.slice (some ⟨r, 0, none⟩) L ci) := (blk_cell m8_.out 0).trans rfl
        have hcz1 : w7.cell? ⟨g, 1, none⟩ = some (.int .i64 (M : Int)) := (blk_cell m8_.out 1).trans rfl
        have hfz0 := blk_frozen m8_.out 0
        have hfz1 := blk_frozen m8_.out 1
        go_wp2_with fail
        go_roundg (gk - 1)
        case measure => have := HG.out; omega
        case rel =>
          refine ⟨i + 1, M + 1, Bi.set (L - 1) y6, .slice (some ⟨r, 0, none⟩) L ci, by go_num, by omega, ?_, ⟨by have := HG.out; omega⟩, ⟨by rw [HM.out]; omega⟩, ⟨?_⟩, ⟨?_⟩, ⟨?_⟩, ⟨?_⟩, ⟨?_⟩, ⟨?_⟩⟩
          · have := HM.out; omega
          · exact blk_put m8_.out 1 (.int .i64 ((M : Int) + 1)) rfl
          · exact Kd.R_mono (Kd.R_far (p := ⟨g, 1, none⟩) (Kd.R_types m7_.out m8_.out (by decide)) (fun _ hk => hk.2) _) (fun _ hk => hk.1)
          · rw [← HP.out, m5_.out, show n - i = (n - (i + 1)) + 1 from by omega]; rfl
          · refine ⟨fun _ h => ?_, ?_⟩
            · rw [h] at m6_; have := m6_.out; simp at this; omega
            · rw [m6_.out]; exact Nat.le_trans HL2.out.2 (by omega)
          · exact Kept.setCell m9_.out (.inl (.inr rfl)) _
          · exact ma_.out.setCell hw _
    · go_wp2_with fail
      go_end0
      obtain rfl : i = n := by omega
      have hP := HP.out
      rw [Nat.sub_self] at hP
      have hM := HM.out
      subst hM
      exact ⟨_, rfl, BK.out, by rw [← hP]; exact HO.out, HB.out, HK.out⟩

-- PART
end Go.Proofs.Ytnfagiofoicgoaa.P
