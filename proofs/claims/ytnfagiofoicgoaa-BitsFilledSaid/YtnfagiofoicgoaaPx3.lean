-- Written by a program of this session out of the translation. Lean checks it.
import Derived.Test.YtnfagiofoicgoaaPx0
import Derived.Test.YtnfagiofoicgoaaPx1
import Derived.Test.YtnfagiofoicgoaaPx2
namespace Go.Proofs.Ytnfagiofoicgoaa.P
open Go.RowKit Go.Proofs.YtnfagiofoicgoaaW.PrintWords Go.Proofs.YtnfagiofoicgoaaW.PrintLast Go.Proofs.YtnfagiofoicgoaaW.PrintMore
attribute [local go_sem] max2_int min2_int max_two min_two max_three min_three max_four min_four   -- for this text's walks alone
set_option linter.unusedVariables false
set_option linter.unusedSimpArgs false

-- PART
/-! ### bits_Put: function 9 (by hand) -/
/-- One bit behind a row. -/
def pbit (v : Int) (i : Nat) : Int := Go.bits .and .i64 (v / 2 ^ i) 1 % 256
def pgrow (B : List Int) (N : Nat) : List Int := if N % 8 = 0 then B ++ [0] else B
def pset (B : List Int) (N : Nat) (b : Int) : List Int := B.set (B.length - 1) (Go.bits .or .u8 (B.getD (B.length - 1) 0) (b * 2 ^ (N % 8) % 256))
def padd (v : Int) : Nat → Nat → List Int → Nat → List Int
  | 0, _, B, _ => B
  | m + 1, i, B, N => padd v m (i + 1) (pset (pgrow B N) N (pbit v i)) (N + 1)

set_option maxHeartbeats 8000000 in
set_option maxRecDepth 100000 in
theorem pen_add (g : Nat) (P_ : Nat → Prop) (v_ : Value) (B : List Int) (v : Int) (N n : Nat) (w0 w : World) (hB : Below w0.heap.size w0 w) (hg : w.heap[g]? = some (.cells #[v_, .int .i64 (N : Int)] 51 (0, 0))) (hw : w0.heap.size ≤ g)
    (ho : Kd.R (Kd.int .u8) 5 w w0.heap.size P_ v_ B) (hn : n ≤ 64) (hN : N ≤ 1099511627776) (hb : N % 8 ≠ 0 → B ≠ []) (hl : B.length ≤ 1099511627776) :
    Calls Try.prog 27 #[.pointer (some ⟨g, 0, none⟩), .int .i64 v, .int .i64 n] w fun e w' => ∃ v1, e = .returned (.tuple #[]) ∧ w'.heap[g]? = some (.cells #[v1, .int .i64 ((N + n : Nat) : Int)] 51 (0, 0)) ∧
      Kd.R (Kd.int .u8) 5 w' w0.heap.size (fun k => P_ k ∨ w.heap.size ≤ k) v1 (padd v n 0 B N) ∧ Below w0.heap.size w0 w' ∧ Kept w w' (fun k => P_ k ∨ k = g) := by
  have HO := Aside0.mk (show Kd.R (Kd.int .u8) 5 w w0.heap.size (fun k => P_ k ∨ w.heap.size ≤ k) v_ B from Kd.R_mono ho (fun k hk => .inl hk))
  have HK := Aside0.mk (Kept.refl w (fun k => P_ k ∨ k = g))
  have HW0 := Aside0.mk hB.size
  have HB := Aside0.mk hB
  have BK := Aside0.mk hg
  have HL := Aside0.mk hl
  have Hb := Aside0.mk hb
  clear hB ho hg hl hb
  go_enter Try.func27, Try.ntmps27
  go_wp2_with fail
  go_loopg [9] n (fun kq v9 w' => ∃ (i M : Nat) (Bi : List Int) (vi : Value), v9 = .int .i64 i ∧ i ≤ n ∧ M ≤ 2199023255552 ∧ Aside0 (kq + i = n) ∧ Aside0 (M = N + i) ∧ Aside0 (w'.heap[g]? = some (.cells #[vi, .int .i64 (M : Int)] 51 (0, 0))) ∧
    Aside0 (Kd.R (Kd.int .u8) 5 w' w0.heap.size (fun k => P_ k ∨ w.heap.size ≤ k) vi Bi) ∧ Aside0 (padd v (n - i) i Bi M = padd v n 0 B N) ∧ Aside0 ((M % 8 ≠ 0 → Bi ≠ []) ∧ Bi.length ≤ B.length + i) ∧ Aside0 (Kept w w' (fun k => P_ k ∨ k = g)) ∧ Aside0 (Below w0.heap.size w0 w'))
  case atStart => exact ⟨0, N, B, v_, rfl, Nat.zero_le _, by omega, ⟨rfl⟩, ⟨rfl⟩, BK, HO, ⟨rfl⟩, ⟨Hb.out, by omega⟩, HK, HB⟩
  case round =>
    clear HO HK HB BK Hb
    obtain ⟨i, M, Bi, vi, rfl, hi, hM, HG, HM, BK, HO, HP, Hb, HK, HB⟩ := hrel
    obtain ⟨Ai, ci, rfl⟩ := Kd.R_slice HO.out
    have hcz0 : wr.cell? ⟨g, 0, none⟩ = some (.slice Ai Bi.length ci) := (blk_cell BK.out 0).trans rfl
    have hcz1 : wr.cell? ⟨g, 1, none⟩ = some (.int .i64 (M : Int)) := (blk_cell BK.out 1).trans rfl
    have hfz0 := blk_frozen BK.out 0
    have hfz1 := blk_frozen BK.out 1
    by_cases hlt : i < n
    · by_cases h8 : M % 8 = 0
      · have hb8 : ((M : Int) % 8 == 0) = true := by rw [beq_iff_eq]; omega
        have H8 := Aside0.mk h8
        clear h8
        go_wp2_with ((with_reducible refine gate_builtin (b := .append) (xs := #[.tmp 26, .tmp 27]) rfl ?_); at_builtin; refine Kd.R_append (Kd.int .u8) (w0 := w0) w0.heap.size rfl (.tmp 26) (.tmp 27) 23 5 (.int .u8 0) 1 rfl Try.underlying23 info5 rfl (by decide) (by omega) (.slice Ai Bi.length ci) Bi 0 [.int .u8 0] (fun k => P_ k ∨ w.heap.size ≤ k) (fun _ => False) rfl rfl rfl (fun _ hk => hk.elim) (fun k hk => .inr (Nat.le_trans HK.out.1 hk)) HO.out HB.out (HB.out.size) (by have := HL.out; have := Hb.out.2; omega) ?_; intro v1 w1 ho hb hg hat; (have n0_ := Aside0.mk (blk_grown BK.out hg (Kd.R_ne HO.out BK.out (by decide)))); (have n3_ := Aside0.mk (Kept.of_grown (S := (fun k => P_ k ∨ k = g)) hg HK.out (fun k e => Or.imp_left Or.inl (HO.out.1 k e)))); (have n2_ := Aside0.mk hb); (have n4_ := Aside0.mk ho); clear HO BK HK HB hcz0 hcz1 hfz0 hfz1 hb ho hat hg; (have HO := n4_); (have BK := n0_); (have HK := n3_); (have HB := n2_); clear n0_ n2_ n3_ n4_; (obtain ⟨A1, c1, e1⟩ := Kd.R_slice HO.out); (subst e1); (have hcz0 := (blk_cell BK.out 0).trans rfl);  (have hcz1 : w1.cell? ⟨g, 1, none⟩ = some (.int .i64 (M : Int)) := (blk_cell BK.out 1).trans rfl); (have hfz0 := blk_frozen BK.out 0); (have hfz1 := blk_frozen BK.out 1))
        have n0_ := Aside0.mk (blk_put BK.out 0 (.slice A1 (Bi.length + 1) c1) rfl)
        have n1_ := Aside0.mk (Kd.R_far (p := ⟨g, 0, none⟩) (Kd.R_types HO.out BK.out (by decide)) (fun _ hk => hk.2) (.slice A1 (Bi.length + 1) c1))
        have n2_ := Aside0.mk (Kept.setCell (S := (fun k => P_ k ∨ k = g)) (p := ⟨g, 0, none⟩) HK.out (.inl (.inr rfl)) (.slice A1 (Bi.length + 1) c1))
        have n3_ := Aside0.mk (HB.out.setCell (p := ⟨g, 0, none⟩) hw (.slice A1 (Bi.length + 1) c1))
        clear HO BK HK HB hcz0 hcz1 hfz0 hfz1
        generalize (w1.setCell { block := g, off := 0 } (Value.slice A1 (Bi.length + 1) c1)) = w6 at n0_ n1_ n2_ n3_ ⊢
        rw [List.length_append, List.length_singleton] at n1_
        obtain ⟨Bg, hBg⟩ : ∃ Bg, Bg = pgrow Bi M := ⟨_, rfl⟩
        have n4_ : Aside0 (Bg = pgrow Bi M ∧ Bg.length = Bi.length + 1) := ⟨hBg, by rw [hBg]; unfold pgrow; rw [if_pos H8.out]; simp⟩
        rw [show Bi ++ [0] = Bg from by rw [hBg]; unfold pgrow; rw [if_pos H8.out]] at n1_
        clear hBg
        obtain ⟨L, hL⟩ : ∃ L, L = Bi.length + 1 := ⟨_, rfl⟩
        rw [← hL] at n0_ n1_ n4_
        rw [← hL]
        have HL2 : Aside0 (0 < L ∧ L ≤ B.length + i + 1) := ⟨by omega, by have := Hb.out.2; omega⟩
        clear hL
        clear H8 hb8
        have n5_ : Aside0 (L = Bg.length) := ⟨n4_.out.2.symm⟩
        replace n4_ : Aside0 (Bg = pgrow Bi M) := ⟨n4_.out.1⟩
        replace n1_ := Aside0.mk (Kd.R_mono n1_.out (fun _ hk => hk.1))
        obtain ⟨r, c6, e6, hr0, hr1, hr2⟩ := Kd.R_form n1_.out (by rw [← n5_.out]; exact HL2.out.1)
        injection e6 with e6 e8 e7
        clear e8
        subst e6 e7
        obtain ⟨q0, q1⟩ := Kd.R_celln 0 n1_.out ((L : Int) - 1) (by have := HL2.out.1; omega) (by omega)
        have hcz0 : w6.cell? ⟨g, 0, none⟩ = some (.slice (some ⟨r, 0, none⟩) L c1) := (blk_cell n0_.out 0).trans rfl
        have hcz1 : w6.cell? ⟨g, 1, none⟩ = some (.int .i64 (M : Int)) := (blk_cell n0_.out 1).trans rfl
        have hfz0 := blk_frozen n0_.out 0
        have hfz1 := blk_frozen n0_.out 1
        obtain ⟨x6, hx6⟩ : ∃ x, x = rdOf (0 : Int) Bg ((L : Int) - 1) := ⟨_, rfl⟩
        rw [← hx6] at q0
        rw [show ((L : Int) - 1).toNat = L - 1 from by omega] at q0 q1
        have hL0 := HL2.out.1
        have hL1 : L ≤ 1099511627776 + 65 := by have := HL2.out.2; have := HL.out; omega
        have HX := Aside0.mk hx6
        have HR := Aside0.mk (And.intro hr0 (n1_.out.1 r rfl))
        clear hx6 hr0 hr1 hr2
        go_region
        obtain ⟨y6, hy6⟩ : ∃ y, y = Go.bits .or .u8 x6 (Go.bits .and .i64 (v / 2 ^ i) 1 % 256 * 2 ^ (M % 8) % 256) := ⟨_, rfl⟩
        rw [← hy6]
        have m1_ := Aside0.mk (Kd.R_putn n1_.out ((L : Int) - 1) y6)
        rw [show ((L : Int) - 1).toNat = L - 1 from by omega] at m1_
        have hne : g ≠ r := by have h_ := Kd.R_ne n1_.out n0_.out (by decide); intro e_; exact h_ (by rw [e_]; rfl)
        have m0_ := Aside0.mk (blk_far (p := ⟨r, L - 1, none⟩) n0_.out hne (.int .u8 y6))
        have m2_ := Aside0.mk (Kept.setCell (S := (fun k => P_ k ∨ k = g)) (p := ⟨r, L - 1, none⟩) n2_.out (Or.imp_left Or.inl HR.out.2) (.int .u8 y6))
        have m3_ := Aside0.mk (n3_.out.setCell (p := ⟨r, L - 1, none⟩) HR.out.1 (.int .u8 y6))
        have m5_ : Aside0 (Bg.set (L - 1) y6 = pset (pgrow Bi M) M (pbit v i)) := ⟨by rw [← n4_.out, hy6, HX.out]; unfold pset pbit rdOf; rw [← n5_.out, show ((L : Int) - 1).toNat = L - 1 from by omega]⟩
        have m6_ : Aside0 ((Bg.set (L - 1) y6).length = L) := ⟨by rw [List.length_set]; exact n5_.out.symm⟩
        clear n0_ n1_ n2_ n3_ n4_ n5_ hy6 HX q0 q1 hcz0 hcz1 hfz0 hfz1 HR
        have m7_ : Aside0 ((Kd.int .u8).R 5 (w6.setCell ⟨r, L - 1, none⟩ (.int .u8 y6)).drew w0.heap.size (fun k => P_ k ∨ w.heap.size ≤ k) (.slice (some ⟨r, 0, none⟩) L c1) (Bg.set (L - 1) y6)) := ⟨Kd.R_drew m1_.out⟩
        have m8_ : Aside0 ((w6.setCell ⟨r, L - 1, none⟩ (.int .u8 y6)).drew.heap[g]? = some (.cells #[.slice (some ⟨r, 0, none⟩) L c1, .int .i64 (M : Int)] 51 (0, 0))) := ⟨m0_.out⟩
        have m9_ : Aside0 (Kept w (w6.setCell ⟨r, L - 1, none⟩ (.int .u8 y6)).drew (fun k => P_ k ∨ k = g)) := ⟨Kept.drew m2_.out⟩
        have ma_ : Aside0 (Below w0.heap.size w0 (w6.setCell ⟨r, L - 1, none⟩ (.int .u8 y6)).drew) := ⟨m3_.out.drew⟩
        clear m0_ m1_ m2_ m3_
        generalize (w6.setCell ⟨r, L - 1, none⟩ (.int .u8 y6)).drew = w7 at m7_ m8_ m9_ ma_ ⊢
        have hcz0 : w7.cell? ⟨g, 0, none⟩ = some (.slice (some ⟨r, 0, none⟩) L c1) := (blk_cell m8_.out 0).trans rfl
        have hcz1 : w7.cell? ⟨g, 1, none⟩ = some (.int .i64 (M : Int)) := (blk_cell m8_.out 1).trans rfl
        have hfz0 := blk_frozen m8_.out 0
        have hfz1 := blk_frozen m8_.out 1
        go_wp2_with fail
        go_roundg (gk - 1)
        case measure => have := HG.out; omega
        case rel =>
          refine ⟨i + 1, M + 1, Bg.set (L - 1) y6, .slice (some ⟨r, 0, none⟩) L c1, by go_num, by omega, ?_, ⟨by have := HG.out; omega⟩, ⟨by rw [HM.out]; omega⟩, ⟨?_⟩, ⟨?_⟩, ⟨?_⟩, ⟨?_⟩, ⟨?_⟩, ⟨?_⟩⟩
          · have := HM.out; omega
          · exact blk_put m8_.out 1 (.int .i64 ((M : Int) + 1)) rfl
          · exact Kd.R_mono (Kd.R_far (p := ⟨g, 1, none⟩) (Kd.R_types m7_.out m8_.out (by decide)) (fun _ hk => hk.2) _) (fun _ hk => hk.1)
          · rw [← HP.out, m5_.out, show n - i = (n - (i + 1)) + 1 from by omega]; rfl
          · refine ⟨fun _ h => ?_, ?_⟩
            · rw [h] at m6_; have := m6_.out; simp at this; omega
            · rw [m6_.out]; exact Nat.le_trans HL2.out.2 (by omega)
          · exact Kept.setCell m9_.out (.inl (.inr rfl)) _
          · exact ma_.out.setCell hw _
      · have hb8 : ((M : Int) % 8 == 0) = false := by rw [beq_eq_false_iff_ne]; omega
        have H8 := Aside0.mk h8
        clear h8
        go_wp2_with fail
        have n0_ := BK
        have n1_ := HO
        have n2_ := HK
        have n3_ := HB
        clear HO BK HK HB hcz0 hcz1 hfz0 hfz1
        have n4_ : Aside0 (Bi = pgrow Bi M) := ⟨by unfold pgrow; rw [if_neg H8.out]⟩
        obtain ⟨L, hL⟩ : ∃ L, L = Bi.length := ⟨_, rfl⟩
        rw [← hL] at n0_ n1_
        have HL2 : Aside0 (0 < L ∧ L ≤ B.length + i + 1) := ⟨by have := Hb.out.1 H8.out; have := List.length_pos_iff.2 this; omega, by have := Hb.out.2; omega⟩
        have n5_ := Aside0.mk hL
        clear hL H8 hb8
        obtain ⟨r, c6, e6, hr0, hr1, hr2⟩ := Kd.R_form n1_.out (by rw [← n5_.out]; exact HL2.out.1)
        injection e6 with e6 e8 e7
        clear e8
        subst e6 e7
        obtain ⟨q0, q1⟩ := Kd.R_celln 0 n1_.out ((L : Int) - 1) (by have := HL2.out.1; omega) (by omega)
        have hcz0 : wr.cell? ⟨g, 0, none⟩ = some (.slice (some ⟨r, 0, none⟩) L ci) := (blk_cell n0_.out 0).trans rfl
        have hcz1 : wr.cell? ⟨g, 1, none⟩ = some (.int .i64 (M : Int)) := (blk_cell n0_.out 1).trans rfl
        have hfz0 := blk_frozen n0_.out 0
        have hfz1 := blk_frozen n0_.out 1
        obtain ⟨x6, hx6⟩ : ∃ x, x = rdOf (0 : Int) Bi ((L : Int) - 1) := ⟨_, rfl⟩
        rw [← hx6] at q0
        rw [show ((L : Int) - 1).toNat = L - 1 from by omega] at q0 q1
        have hL0 := HL2.out.1
        have hL1 : L ≤ 1099511627776 + 65 := by have := HL2.out.2; have := HL.out; omega
        have HX := Aside0.mk hx6
        have HR := Aside0.mk (And.intro hr0 (n1_.out.1 r rfl))
        clear hx6 hr0 hr1 hr2
        go_region
        obtain ⟨y6, hy6⟩ : ∃ y, y = Go.bits .or .u8 x6 (Go.bits .and .i64 (v / 2 ^ i) 1 % 256 * 2 ^ (M % 8) % 256) := ⟨_, rfl⟩
        rw [← hy6]
        have m1_ := Aside0.mk (Kd.R_putn n1_.out ((L : Int) - 1) y6)
        rw [show ((L : Int) - 1).toNat = L - 1 from by omega] at m1_
        have hne : g ≠ r := by have h_ := Kd.R_ne n1_.out n0_.out (by decide); intro e_; exact h_ (by rw [e_]; rfl)
        have m0_ := Aside0.mk (blk_far (p := ⟨r, L - 1, none⟩) n0_.out hne (.int .u8 y6))
        have m2_ := Aside0.mk (Kept.setCell (S := (fun k => P_ k ∨ k = g)) (p := ⟨r, L - 1, none⟩) n2_.out (Or.imp_left Or.inl HR.out.2) (.int .u8 y6))
        have m3_ := Aside0.mk (n3_.out.setCell (p := ⟨r, L - 1, none⟩) HR.out.1 (.int .u8 y6))
        have m5_ : Aside0 (Bi.set (L - 1) y6 = pset (pgrow Bi M) M (pbit v i)) := ⟨by rw [← n4_.out, hy6, HX.out]; unfold pset pbit rdOf; rw [← n5_.out, show ((L : Int) - 1).toNat = L - 1 from by omega]⟩
        have m6_ : Aside0 ((Bi.set (L - 1) y6).length = L) := ⟨by rw [List.length_set]; exact n5_.out.symm⟩
        clear n0_ n1_ n2_ n3_ n4_ n5_ hy6 HX q0 q1 hcz0 hcz1 hfz0 hfz1 HR
        have m7_ : Aside0 ((Kd.int .u8).R 5 (wr.setCell ⟨r, L - 1, none⟩ (.int .u8 y6)).drew w0.heap.size (fun k => P_ k ∨ w.heap.size ≤ k) (.slice (some ⟨r, 0, none⟩) L ci) (Bi.set (L - 1) y6)) := ⟨Kd.R_drew m1_.out⟩
        have m8_ : Aside0 ((wr.setCell ⟨r, L - 1, none⟩ (.int .u8 y6)).drew.heap[g]? = some (.cells #[.slice (some ⟨r, 0, none⟩) L ci, .int .i64 (M : Int)] 51 (0, 0))) := ⟨m0_.out⟩
        have m9_ : Aside0 (Kept w (wr.setCell ⟨r, L - 1, none⟩ (.int .u8 y6)).drew (fun k => P_ k ∨ k = g)) := ⟨Kept.drew m2_.out⟩
        have ma_ : Aside0 (Below w0.heap.size w0 (wr.setCell ⟨r, L - 1, none⟩ (.int .u8 y6)).drew) := ⟨m3_.out.drew⟩
        clear m0_ m1_ m2_ m3_
        generalize (wr.setCell ⟨r, L - 1, none⟩ (.int .u8 y6)).drew = w7 at m7_ m8_ m9_ ma_ ⊢
        have hcz0 : w7.cell? ⟨g, 0, none⟩ = some (.slice (some ⟨r, 0, none⟩) L ci) := (blk_cell m8_.out 0).trans rfl
        have hcz1 : w7.cell? ⟨g, 1, none⟩ = some (.int .i64 (M : Int)) := (blk_cell m8_.out 1).trans rfl
        have hfz0 := blk_frozen m8_.out 0
        have hfz1 := blk_frozen m8_.out 1
        go_wp2_with fail
        go_roundg (gk - 1)
        case measure => have := HG.out; omega
        case rel =>
          refine ⟨i + 1, M + 1, Bi.set (L - 1) y6, .slice (some ⟨r, 0, none⟩) L ci, by go_num, by omega, ?_, ⟨by have := HG.out; omega⟩, ⟨by rw [HM.out]; omega⟩, ⟨?_⟩, ⟨?_⟩, ⟨?_⟩, ⟨?_⟩, ⟨?_⟩, ⟨?_⟩⟩
          · have := HM.out; omega
          · exact blk_put m8_.out 1 (.int .i64 ((M : Int) + 1)) rfl
          · exact Kd.R_mono (Kd.R_far (p := ⟨g, 1, none⟩) (Kd.R_types m7_.out m8_.out (by decide)) (fun _ hk => hk.2) _) (fun _ hk => hk.1)
          · rw [← HP.out, m5_.out, show n - i = (n - (i + 1)) + 1 from by omega]; rfl
          · refine ⟨fun _ h => ?_, ?_⟩
            · rw [h] at m6_; have := m6_.out; simp at this; omega
            · rw [m6_.out]; exact Nat.le_trans HL2.out.2 (by omega)
          · exact Kept.setCell m9_.out (.inl (.inr rfl)) _
          · exact ma_.out.setCell hw _
    · go_wp2_with fail
      go_end0
      obtain rfl : i = n := by omega
      have hP := HP.out
      rw [Nat.sub_self] at hP
      have hM := HM.out
      subst hM
      exact ⟨_, rfl, BK.out, by rw [← hP]; exact HO.out, HB.out, HK.out⟩
/-- What Put tells: the first error that applies; else the row with the number's bits behind it. -/
def bits_Put.f (l0_0 : List Int) (a0_1 a1 a2 : Int) : Option (List Int × Int × Int) :=
  (bits_Check.f 2 l0_0 a0_1).bind fun e => if e = 0 then ((bits_may.f a1 a2).bind fun m => if m = true then (if a2 > 40000 - a0_1 then some ([], 0, 2) else some (padd a1 a2.toNat 0 l0_0 a0_1.toNat, a0_1 + a2, 0)) else some ([], 0, 1)) else some ([], 0, e)
theorem check_right {B : List Int} {N : Int} (h : bits_Check.f 2 B N = some 0) : 0 ≤ N ∧ N ≤ 40000 ∧ (B.length : Int) = (N + 7) / 8 := by
  unfold bits_Check.f at h
  by_cases h0 : N < 0
  · rw [if_pos h0] at h; simp [bits_Check.j0] at h
  · by_cases h1 : N > 40000
    · rw [if_neg h0, if_pos h1] at h; simp [bits_Check.j0] at h
    · rw [if_neg h0, if_neg h1] at h
      refine ⟨by omega, by omega, ?_⟩
      by_cases h2 : (B.length : Int) = (wrap64 (Int.tdiv (wrap64 ((wrap64 (N + 8)) - 1)) 8))
      · rw [h2, Int.tdiv_eq_ediv_of_nonneg (by unfold wrap64; omega)]
        unfold wrap64; omega
      · rw [bne_iff_ne.2 h2] at h; simp [bits_Check.j0] at h
theorem may_right {v n : Int} (h : bits_may.f v n = some true) : 0 ≤ n ∧ n ≤ 24 ∧ 0 ≤ v := by
  unfold bits_may.f at h
  by_cases h0 : n ≥ 0
  · by_cases h1 : n ≤ 24
    · by_cases h2 : v ≥ 0
      · exact ⟨h0, h1, h2⟩
      · rw [if_pos h0, if_pos h1, if_neg h2] at h; simp at h
    · rw [if_pos h0, if_neg h1] at h; simp at h
  · rw [if_neg h0] at h; simp at h
set_option maxHeartbeats 8000000 in
set_option maxRecDepth 100000 in
theorem bits_Put.calls (A0_0 : Option Addr) (c0_0 : Nat) (l0_0 : List Int) (a0_1 : Int) (a1 : Int) (a2 : Int) (r1 : List Int) (r2 : Int) (r3 : Int) (w : World) (hr0_0 : Kd.C (Kd.int .u8) w A0_0 l0_0.length l0_0) (hc0_0 : l0_0.length ≤ c0_0) (h : bits_Put.f l0_0 a0_1 a1 a2 = some (r1, r2, r3)) :
    Calls Try.prog 9 #[.agg #[.slice A0_0 l0_0.length c0_0, .int .i64 a0_1], .int .i64 a1, .int .i64 a2] w fun e w' => ∃ v0_ : Value, e = .returned (.tuple #[.agg #[v0_, .int .i64 r2], .int .i64 r3]) ∧ Kd.R (Kd.int .u8) 5 w' w.heap.size (fun _ => True) v0_ r1 ∧ Below w.heap.size w w' := by
  unfold bits_Put.f at h
  have HR := Aside0.mk hr0_0
  have HC := Aside0.mk hc0_0
  clear hr0_0 hc0_0
  obtain ⟨e, he, h⟩ := Option.bind_eq_some_iff.1 h
  have HE := Aside0.mk he
  clear he
  have hu := Try.underlying25
  have HB := Aside0.mk (Below.refl w.heap.size w)
  go_enter Try.func9, Try.ntmps9
  go_wp2_with (first
    | ((with_reducible refine gate_dst (N := 3) rfl ?_); refine box_event ?hg (N := 3) ?hd (cs := #[.slice A0_0 l0_0.length c0_0, .int .i64 a0_1]) (t := 25) ?hr ?_; (case hd => rfl); (case hg => rfl); (case hr => first | (go_simp; done) | (go_simp; rfl)); intro gS hg w1 hbox hb; (have BS := Aside0.mk hbox); (have GS := Aside0.mk (show w.heap.size ≤ gS from by omega)); (have HB1 := Aside0.mk (below_step HB.out hb)); (have HR1 := Aside0.mk (Kd.C_below HR.out hb)); clear HB hb hbox hg)
    | ((with_reducible refine gate_dst (N := 6) rfl ?_); refine box_event ?hg (N := 6) ?hd (cs := #[.slice none 0 0, .int .i64 0]) (t := 25) ?hr ?_; (case hd => rfl); (case hg => rfl); (case hr => first | (go_simp; done) | (go_simp; rfl)); intro gR hg w2 hbox hb; (have BR := Aside0.mk hbox); (have GR := Aside0.mk (show w.heap.size ≤ gR from by rw [hg]; exact below_size HB1.out)); (have NE := Aside0.mk (show gS ≠ gR from by have := blk_lt BS.out; omega)); (have BS2 := Aside0.mk (blk_below BS.out hb)); (have HB2 := Aside0.mk (below_step HB1.out hb)); (have HR2 := Aside0.mk (Kd.C_below HR1.out hb)); clear HB1 HR1 BS hb hbox hg; (have BS := BS2); (have HB := HB2); (have HR3 := HR2); clear BS2 HB2 HR2; (have hcs0 : w2.cell? ⟨gS, 0, none⟩ = some (.slice A0_0 l0_0.length c0_0) := (blk_cell BS.out 0).trans rfl); (have hcs1 : w2.cell? ⟨gS, 1, none⟩ = some (.int .i64 a0_1) := (blk_cell BS.out 1).trans rfl)))
  refine (bits_Check.calls 2 _ _ l0_0 a0_1 e w2 HR3.out HC.out HE.out).mono ?_
  rintro e1 w3 ⟨rfl, hb⟩
  have BS3 := Aside0.mk (blk_below BS.out hb)
  have BR3 := Aside0.mk (blk_below BR.out hb)
  have HB3 := Aside0.mk (below_step HB.out hb)
  have HR4 := Aside0.mk (Kd.C_below HR3.out hb)
  clear hcs0 hcs1 BS BR HB HR3 hb HR
  have hcr0 : w3.cell? ⟨gR, 0, none⟩ = some (.slice none 0 0) := (blk_cell BR3.out 0).trans rfl
  have hcr1 : w3.cell? ⟨gR, 1, none⟩ = some (.int .i64 0) := (blk_cell BR3.out 1).trans rfl
  have hfr0 := blk_frozen BR3.out 0
  have hfr1 := blk_frozen BR3.out 1
  by_cases h0 : e = 0
  · subst h0
    rw [if_pos rfl] at h
    obtain ⟨m, hm, h⟩ := Option.bind_eq_some_iff.1 h
    have HM := Aside0.mk hm
    clear hm
    go_wp2_with fail
    refine (bits_may.calls a1 a2 m _ HM.out).mono ?_
    rintro e1 w4 ⟨rfl, hd⟩
    have hb := hd.below
    have BS := Aside0.mk (blk_below BS3.out hb)
    have BR := Aside0.mk (blk_below BR3.out hb)
    have HB := Aside0.mk (below_step HB3.out hb)
    have HR := Aside0.mk (Kd.C_below HR4.out hb)
    clear hcr0 hcr1 hfr0 hfr1 BS3 BR3 HB3 HR4 hb hd
    have hcr0 : w4.cell? ⟨gR, 0, none⟩ = some (.slice none 0 0) := (blk_cell BR.out 0).trans rfl
    have hcr1 : w4.cell? ⟨gR, 1, none⟩ = some (.int .i64 0) := (blk_cell BR.out 1).trans rfl
    have hfr0 := blk_frozen BR.out 0
    have hfr1 := blk_frozen BR.out 1
    cases m with
    | false =>
      rw [if_neg (by decide)] at h
      simp only [Option.some.injEq, Prod.mk.injEq] at h
      obtain ⟨rfl, rfl, rfl⟩ := h
      go_wp2_with fail
      refine bodyPost_ret (results_ct rfl _ _ gR 25 #[.slice none 0 0, .int .i64 0] (0, 0) _ rfl (by (with_reducible repeat (first | refine blk_drewN ?_ _ | refine blk_drew ?_ | refine blk_alloc ?_ _)); refine blk_put (cs := #[.slice none 0 0, .int .i64 0]) ?_ 1 _ rfl; (with_reducible repeat (first | refine blk_drewN ?_ _ | refine blk_drew ?_ | refine blk_alloc ?_ _)); refine blk_put (cs := #[.slice none 0 0, .int .i64 0]) ?_ 0 _ rfl; (with_reducible repeat (first | refine blk_drewN ?_ _ | refine blk_drew ?_ | refine blk_alloc ?_ _)); exact BR.out) Try.underlying25 rfl (by kernel_rfl)) rfl ?_
      exact ⟨_, rfl, Kd.R_nil _ _ _ _ _, by repeat (first | (with_reducible first | exact HB.out | apply below_alloc | apply pw_below_drewN | apply below_drew1 | refine below_set ?_ GR.out | refine below_set ?_ GS.out) | exact HB.out)⟩
    | true =>
      rw [if_pos rfl] at h
      have hcs0 : w4.cell? ⟨gS, 0, none⟩ = some (.slice A0_0 l0_0.length c0_0) := (blk_cell BS.out 0).trans rfl
      have hcs1 : w4.cell? ⟨gS, 1, none⟩ = some (.int .i64 a0_1) := (blk_cell BS.out 1).trans rfl
      obtain ⟨ck0, ck1, ck2⟩ := check_right HE.out
      obtain ⟨mr0, mr1, mr2⟩ := may_right HM.out
      obtain ⟨N, rfl⟩ := Int.eq_ofNat_of_zero_le ck0
      obtain ⟨n2, rfl⟩ := Int.eq_ofNat_of_zero_le mr0
      rw [Int.toNat_natCast, Int.toNat_natCast] at h
      by_cases hl : (n2 : Int) > 40000 - (N : Int)
      · rw [if_pos hl] at h
        simp only [Option.some.injEq, Prod.mk.injEq] at h
        obtain ⟨rfl, rfl, rfl⟩ := h
        go_wp2_with fail
        refine bodyPost_ret (results_ct rfl _ _ gR 25 #[.slice none 0 0, .int .i64 0] (0, 0) _ rfl (by (with_reducible repeat (first | refine blk_drewN ?_ _ | refine blk_drew ?_ | refine blk_alloc ?_ _)); refine blk_put (cs := #[.slice none 0 0, .int .i64 0]) ?_ 1 _ rfl; (with_reducible repeat (first | refine blk_drewN ?_ _ | refine blk_drew ?_ | refine blk_alloc ?_ _)); refine blk_put (cs := #[.slice none 0 0, .int .i64 0]) ?_ 0 _ rfl; (with_reducible repeat (first | refine blk_drewN ?_ _ | refine blk_drew ?_ | refine blk_alloc ?_ _)); exact BR.out) Try.underlying25 rfl (by kernel_rfl)) rfl ?_
        exact ⟨_, rfl, Kd.R_nil _ _ _ _ _, by repeat (first | (with_reducible first | exact HB.out | apply below_alloc | apply pw_below_drewN | apply below_drew1 | refine below_set ?_ GR.out | refine below_set ?_ GS.out) | exact HB.out)⟩
      · rw [if_neg hl] at h
        simp only [Option.some.injEq, Prod.mk.injEq] at h
        have HH := Aside0.mk h
        clear h
        have CK := Aside0.mk ck2
        clear ck2
        go_wp2_with fail
        have HF := Aside0.mk (show slices_Clone_byte_byte.f l0_0 = some l0_0 from by unfold slices_Clone_byte_byte.f; rw [if_pos (by have := CK.out; omega)])
        go_region_held3 (fun w' => w'.cell? ⟨gS, 0, none⟩ = some (.slice A0_0 l0_0.length c0_0) ∧ w'.cell? ⟨gS, 1, none⟩ = some (.int .i64 (N : Int))) (go_keep)
          (first | (go_at_call 26; refine (slices_Clone_byte_byte.calls _ _ l0_0 l0_0 w4.drew (Kd.C_drew HR.out) HC.out HF.out).mono ?_; rintro e1 w5 ⟨v5, rfl, ho, hb⟩; (obtain ⟨A5, c5, e5⟩ := Kd.R_slice ho); (subst e5); (have hb2 : Below w4.heap.size w4 w5 := (below_drew (Below.refl _ _)).trans hb); (have hcs0' : w5.cell? ⟨gS, 0, none⟩ = some (.slice A0_0 l0_0.length c0_0) := (blk_cell (blk_below BS.out hb2) 0).trans rfl); (have hcs1' : w5.cell? ⟨gS, 1, none⟩ = some (.int .i64 (N : Int)) := (blk_cell (blk_below BS.out hb2) 1).trans rfl); (have HO5 := Aside0.mk ho); (have HB5 := Aside0.mk hb2); clear hb hb2 ho))
        have HB6 : Aside0 (Below w.heap.size w (w5.alloc (.cells #[.slice A5 l0_0.length c5, .int .i64 (N : Int)] 51 (0, 0)))) := ⟨below_alloc (below_step HB.out HB5.out) _⟩
        have hs4 : w.heap.size ≤ w4.heap.size := below_size HB.out
        have hs5 : w4.heap.size ≤ w5.heap.size := HB5.out.size
        have HN6 : Aside0 ((w5.alloc (.cells #[.slice A5 l0_0.length c5, .int .i64 (N : Int)] 51 (0, 0))).heap[w5.heap.size]? = some (.cells #[.slice A5 l0_0.length c5, .int .i64 (N : Int)] 51 (0, 0))) := ⟨blk_new w5 _⟩
        have HO6 : Aside0 (Kd.R (Kd.int .u8) 5 (w5.alloc (.cells #[.slice A5 l0_0.length c5, .int .i64 (N : Int)] 51 (0, 0))) w.heap.size (fun k => w4.heap.size ≤ k) (.slice A5 l0_0.length c5) l0_0) := ⟨Kd.R_alloc (Kd.R_lower (Kd.R_mono (Kd.R_bound HO5.out) (fun k hk => hk.2.1)) hs4) _⟩
        have BR6 : Aside0 ((w5.alloc (.cells #[.slice A5 l0_0.length c5, .int .i64 (N : Int)] 51 (0, 0))).heap[gR]? = some (.cells #[.slice none 0 0, .int .i64 0] 25 (0, 0))) := ⟨blk_alloc (blk_below BR.out HB5.out) _⟩
        have hlt6 := blk_lt BR.out
        have hs6 : (w5.alloc (.cells #[.slice A5 l0_0.length c5, .int .i64 (N : Int)] 51 (0, 0))).heap.size = w5.heap.size + 1 := by simp
        have HS6 := Aside0.mk hs6
        clear hcr0 hcr1 hfr0 hfr1 hcs0 hcs1 hs6 HB BR BS HB5 HO5 HR hcs0' hcs1'
        go_wp2_with fail
        generalize (w5.alloc (.cells #[.slice A5 l0_0.length c5, .int .i64 (N : Int)] 51 (0, 0))) = w6 at HB6 HN6 HO6 BR6 HS6 ⊢
        refine (pen_add w5.heap.size (fun k => w4.heap.size ≤ k) _ l0_0 a1 N n2 w w6 HB6.out HN6.out (by omega) HO6.out (by omega) (by omega) (fun h8 hn => by have := CK.out; rw [hn] at this; simp at this; omega) (by have := CK.out; omega)).mono ?_
        rintro e1 w7 ⟨v7, rfl, hn7, ho7, hb7, hk7⟩
        obtain ⟨A7, c7, e7⟩ := Kd.R_slice ho7
        subst e7
        have BR := Aside0.mk ((hk7.2 gR (by have := HS6.out; omega) (by omega)).trans BR6.out)
        have HB := Aside0.mk hb7
        have HO7 := Aside0.mk ho7
        have NE7 : gR ≠ w5.heap.size := by omega
        have hcn0 : w7.cell? ⟨w5.heap.size, 0, none⟩ = some (.slice A7 (padd a1 n2 0 l0_0 N).length c7) := (blk_cell hn7 0).trans rfl
        have hcn1 : w7.cell? ⟨w5.heap.size, 1, none⟩ = some (.int .i64 ((N + n2 : Nat) : Int)) := (blk_cell hn7 1).trans rfl
        have hcr0 : w7.cell? ⟨gR, 0, none⟩ = some (.slice none 0 0) := (blk_cell BR.out 0).trans rfl
        have hcr1 : w7.cell? ⟨gR, 1, none⟩ = some (.int .i64 0) := (blk_cell BR.out 1).trans rfl
        have hfr0 := blk_frozen BR.out 0
        have hfr1 := blk_frozen BR.out 1
        clear ho7 hn7 hb7 hk7 HB6 HN6 HO6 BR6 HS6
        generalize w5.heap.size = g7 at *
        go_wp2_with fail
        refine bodyPost_ret (results_ct rfl _ _ gR 25 #[.slice A7 (padd a1 n2 0 l0_0 N).length c7, .int .i64 ((N : Int) + (n2 : Int))] (0, 0) _ rfl (by (with_reducible repeat (first | refine blk_drewN ?_ _ | refine blk_drew ?_ | refine blk_alloc ?_ _)); refine blk_put (cs := #[.slice A7 (padd a1 n2 0 l0_0 N).length c7, .int .i64 0]) ?_ 1 _ rfl; (with_reducible repeat (first | refine blk_drewN ?_ _ | refine blk_drew ?_ | refine blk_alloc ?_ _)); refine blk_put (cs := #[.slice none 0 0, .int .i64 0]) ?_ 0 _ rfl; (with_reducible repeat (first | refine blk_drewN ?_ _ | refine blk_drew ?_ | refine blk_alloc ?_ _)); exact BR.out) Try.underlying25 rfl (by kernel_rfl)) rfl ?_
        obtain ⟨rfl, rfl, rfl⟩ := HH.out
        exact ⟨_, rfl, Kd.R_mono (Kd.R_far (p := ⟨gR, 1, none⟩) (Kd.R_far (p := ⟨gR, 0, none⟩) (Kd.R_types HO7.out BR.out (by decide)) (fun _ hk => hk.2) _) (fun _ hk => hk.2) _) (fun _ _ => trivial), by repeat (first | (with_reducible first | exact HB.out | apply below_alloc | apply pw_below_drewN | apply below_drew1 | refine below_set ?_ GR.out | refine below_set ?_ GS.out) | exact HB.out)⟩
  · rw [if_neg h0] at h
    simp only [Option.some.injEq, Prod.mk.injEq] at h
    obtain ⟨rfl, rfl, rfl⟩ := h
    have hb0 : (e != 0) = true := bne_iff_ne.2 h0
    have BR := BR3
    have HB := HB3
    clear BR3 HB3
    go_wp2_with fail
    refine bodyPost_ret (results_ct rfl _ _ gR 25 #[.slice none 0 0, .int .i64 0] (0, 0) _ rfl (by (with_reducible repeat (first | refine blk_drewN ?_ _ | refine blk_drew ?_ | refine blk_alloc ?_ _)); refine blk_put (cs := #[.slice none 0 0, .int .i64 0]) ?_ 1 _ rfl; (with_reducible repeat (first | refine blk_drewN ?_ _ | refine blk_drew ?_ | refine blk_alloc ?_ _)); refine blk_put (cs := #[.slice none 0 0, .int .i64 0]) ?_ 0 _ rfl; (with_reducible repeat (first | refine blk_drewN ?_ _ | refine blk_drew ?_ | refine blk_alloc ?_ _)); exact BR.out) Try.underlying25 rfl (by kernel_rfl)) rfl ?_
    exact ⟨_, rfl, Kd.R_nil _ _ _ _ _, by repeat (first | (with_reducible first | exact HB.out | apply below_alloc | apply pw_below_drewN | apply below_drew1 | refine below_set ?_ GR.out | refine below_set ?_ GS.out) | exact HB.out)⟩

-- PART
end Go.Proofs.Ytnfagiofoicgoaa.P
