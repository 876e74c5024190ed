/- The reference's writer is walked straight to what it writes: put, code, text, stored, fixed; used by the claims of this seat. -/
import Derived.Test.YtlffpaploefljaaShrinkW
import Derived.Test.YtlffpaploefljaaRefCanon
import Derived.Test.YtlffpaploefljaaRefTok
import Derived.Test.YtlffpaploefljaaPx0
import Derived.Test.YtlffpaploefljaaPx5
import Derived.Test.YtlffpaploefljaaPx23
import Derived.Test.YtlffpaploefljaaPx65
namespace Go.Proofs.Ytlffpaploefljaa.Wr
open Go.RowKit Go.Proofs.Ytlffpaploefljaa.P Go.Proofs.YtlffpaploefljaaW.PrintWords Go.Proofs.YtlffpaploefljaaW.PrintLast Go.Proofs.YtlffpaploefljaaW.PrintMore
open WP (Row Bytes at_ val wN wX Wrote)
open Go.Proofs.Ytlffpaploefljaa.Glue
attribute [local go_sem] max2_int min2_int max_two min_two max_three min_three max_four min_four
set_option linter.unusedVariables false
set_option linter.unusedSimpArgs false
/-- Blocks of other types than bytes stay. -/
def KeepW (W W' : World) : Prop := W.heap.size ≤ W'.heap.size ∧ ∀ (k : Nat) (cells : Array Value) (ty : TypeId), W.heap[k]? = some (.cells cells ty (0, 0)) → ty ≠ 5 → W'.heap[k]? = some (.cells cells ty (0, 0))
theorem KeepW.refl (W : World) : KeepW W W := ⟨Nat.le_refl _, fun _ _ _ h _ => h⟩
theorem KeepW.trans {W W1 W2 : World} (h : KeepW W W1) (k : KeepW W1 W2) : KeepW W W2 := ⟨Nat.le_trans h.1 k.1, fun i c t hi h5 => k.2 i c t (h.2 i c t hi h5) h5⟩
theorem KeepW.of_below {W W1 : World} (h : Below W.heap.size W W1) : KeepW W W1 := ⟨h.size, fun k c t hk _ => (h.block k (blk_lt hk)).trans hk⟩
theorem KeepW.below {W W1 W2 : World} (h : KeepW W W1) (k : Below W1.heap.size W1 W2) : KeepW W W2 := h.trans (KeepW.of_below k)
theorem KeepW.grown {W W1 W2 : World} {row : Option Nat} (k : KeepW W W1) (h : W1.grownBy W2 row) (hr : ∀ g, row = some g → ∃ cs, W1.heap[g]? = some (.cells cs 5 (0, 0))) : KeepW W W2 := by
 refine k.trans ⟨h.size, fun k c t hk h5 => (h.block k (blk_lt hk) fun hrow => ?_).trans hk⟩
 obtain ⟨cs, hc⟩ := hr k hrow.symm
 rw [hc] at hk
 injection hk with hk
 injection hk with _ ht
 exact h5 ht.symm
theorem KeepW.new {W W1 : World} (h : KeepW W W1) {g : Nat} (hg : W.heap.size ≤ g) (i : Nat) (v : Value) : KeepW W (W1.setCell ⟨g, i, none⟩ v) :=
 ⟨by have := h.1; simpa [World.setCell] using this, fun k c t hk h5 => blk_far (p := ⟨g, i, none⟩) (h.2 k c t hk h5) (fun e => by have := blk_lt hk; have e2 : k = g := e; omega) v⟩
theorem KeepW.byte {W W1 : World} (h : KeepW W W1) {g : Nat} {cs : Array Value} (hg : W1.heap[g]? = some (.cells cs 5 (0, 0))) (i : Nat) (v : Value) : KeepW W (W1.setCell ⟨g, i, none⟩ v) :=
 ⟨by have := h.1; simpa [World.setCell] using this, fun k c t hk h5 => blk_far (p := ⟨g, i, none⟩) (h.2 k c t hk h5) (fun e => by
  have e2 : k = g := e
  subst e2
  have hk2 := h.2 k c t hk h5
  rw [hg] at hk2
  injection hk2 with hk2
  injection hk2 with _ ht
  exact h5 ht.symm) v⟩
set_option maxHeartbeats 8000000 in
set_option maxRecDepth 100000 in
theorem wr_put (u : Value) (B : List Int) (v : Int) (N n : Nat) (w0 w : World) (hB : Below w0.heap.size w0 w) (ho : Kd.R (Kd.int .u8) 5 w w0.heap.size (fun _ => True) u B) (hn : n ≤ 64) (hN : N ≤ 1099511627776) (hb : B.length = (N + 7) / 8) :
  Calls Try.prog 78 #[.agg #[u, .int .i64 (N : Int)], .int .i64 v, .int .i64 n] w fun e w' => ∃ u', e = .returned (.agg #[u', .int .i64 ((N + n : Nat) : Int)]) ∧ Kd.R (Kd.int .u8) 5 w' w0.heap.size (fun _ => True) u' (padd v n 0 B N) ∧ Below w0.heap.size w0 w' ∧ KeepW w w' := by
 have HO := Aside0.mk ho
 have HB := Aside0.mk hB
 have Hb := Aside0.mk hb
 have hu := Try.underlying61
 clear hB ho hb
 obtain ⟨A0, c0, e0⟩ := Kd.R_slice HO.out
 subst e0
 go_enter Try.func78, Try.ntmps78
 go_wp2_with (first
  | ((with_reducible refine gate_dst (N := 3) rfl ?_); refine box_event ?hg (N := 3) ?hd (cs := #[.slice A0 B.length c0, .int .i64 (N : Int)]) (t := 61) ?hr ?_; (case hd => rfl); (case hg => rfl); (case hr => first | (go_simp; done) | (go_simp; rfl)); intro g hg w1 hbox hb; (have BK1 := Aside0.mk hbox); (have GE := Aside0.mk (show w0.heap.size ≤ g from by rw [hg]; exact below_size HB.out)); (have GW := Aside0.mk (show w.heap.size ≤ g by omega)); (have HK1 := Aside0.mk (KeepW.of_below (W := w) (below_step (Below.refl _ _) hb))); (have HB1 := Aside0.mk (below_step HB.out hb)); (have HO1 := Aside0.mk (Kd.R_below HO.out hb)); clear HB HO hb hbox hg)
  | ((with_reducible refine gate_dst (N := 6) rfl ?_); refine box_event ?hg (N := 6) ?hd (cs := #[.slice none 0 0, .int .i64 0]) (t := 61) ?hr ?_; (case hd => rfl); (case hg => rfl); (case hr => first | (go_simp; done) | (go_simp; rfl)); intro gR hg w2 hbox hb; (have BR := Aside0.mk hbox); (have GR := Aside0.mk (show w0.heap.size ≤ gR from by rw [hg]; exact below_size HB1.out)); (have NE := Aside0.mk (show g ≠ gR from by have := blk_lt BK1.out; omega)); (have BK := Aside0.mk (blk_below BK1.out hb)); (have HK := Aside0.mk (HK1.out.below hb)); (have GRW := Aside0.mk (show w.heap.size ≤ gR from by have := blk_lt BK1.out; have := GW.out; omega)); (have HB := Aside0.mk (below_step HB1.out hb)); (have HO := Aside0.mk (Kd.R_below HO1.out hb)); clear HB1 HO1 HK1 BK1 hb hbox hg))
 go_loopg [7] n (fun kq v7 w' => ∃ (i M : Nat) (Bi : List Int) (vi : Value), v7 = .int .i64 i ∧ i ≤ n ∧ M ≤ 2199023255552 ∧ Aside0 (kq + i = n) ∧ Aside0 (M = N + i) ∧ Aside0 (w'.heap[g]? = some (.cells #[vi, .int .i64 (M : Int)] 61 (0, 0))) ∧ Aside0 (w'.heap[gR]? = some (.cells #[.slice none 0 0, .int .i64 0] 61 (0, 0))) ∧
  Aside0 (Kd.R (Kd.int .u8) 5 w' w0.heap.size (fun _ => True) vi Bi) ∧ Aside0 (padd v (n - i) i Bi M = padd v n 0 B N) ∧ Aside0 (Bi.length = (M + 7) / 8) ∧ Aside0 (Below w0.heap.size w0 w') ∧ Aside0 (KeepW w w'))
 case atStart => exact ⟨0, N, B, _, rfl, Nat.zero_le _, by omega, ⟨rfl⟩, ⟨rfl⟩, BK, BR, HO, ⟨rfl⟩, Hb, HB, HK⟩
 case round =>
  clear HO HB BK BR Hb HK
  obtain ⟨i, M, Bi, vi, rfl, hi, hM, HG, HM, BK, BR, HO, HP, Hb, HB, HK⟩ := hrel
  obtain ⟨Ai, ci, rfl⟩ := Kd.R_slice HO.out
  have hcz0 : wr.cell? ⟨g, 0, none⟩ = some (.slice Ai Bi.length ci) := (blk_cell BK.out 0).trans rfl
  have hcz1 : wr.cell? ⟨g, 1, none⟩ = some (.int .i64 (M : Int)) := (blk_cell BK.out 1).trans rfl
  have hfz0 := blk_frozen BK.out 0
  have hfz1 := blk_frozen BK.out 1
  by_cases hlt : i < n
  rotate_left
  ·have hcr0 : wr.cell? ⟨gR, 0, none⟩ = some (.slice none 0 0) := (blk_cell BR.out 0).trans rfl
   have hcr1 : wr.cell? ⟨gR, 1, none⟩ = some (.int .i64 0) := (blk_cell BR.out 1).trans rfl
   have hfr0 := blk_frozen BR.out 0
   have hfr1 := blk_frozen BR.out 1
   obtain rfl : i = n := by omega
   go_wp2_with fail
   refine bodyPost_ret (results_cell_row rfl _ _ gR 61 #[.slice Ai Bi.length ci, .int .i64 (M : Int)] (0, 0) _ rfl (blk_put (cs := #[.slice Ai Bi.length ci, .int .i64 0]) (blk_put (cs := #[.slice none 0 0, .int .i64 0]) BR.out 0 _ rfl) 1 _ rfl) Try.underlying61 rfl (by kernel_rfl)) rfl ?_
   have hP := HP.out
   rw [Nat.sub_self] at hP
   exact ⟨_, by rw [← HM.out], by rw [← hP]; exact Kd.R_mono (Kd.R_far (p := ⟨gR, 1, none⟩) (Kd.R_far (p := ⟨gR, 0, none⟩) (Kd.R_types HO.out BR.out (by decide)) (fun _ hk => hk.2) _) (fun _ hk => hk.2) _) (fun _ _ => trivial), below_set (below_set HB.out GR.out) GR.out, (HK.out.new GRW.out 0 _).new GRW.out 1 _⟩
  obtain ⟨Bg, hBg⟩ : ∃ Bg, Bg = pgrow Bi M := ⟨_, rfl⟩
  by_cases h8 : M % 8 = 0
  case' pos =>
   have hb8 : ((M : Int) % 8 == 0) = true := by rw [beq_iff_eq]; omega
   have H8 := Aside0.mk h8
   clear h8
   go_wp2_with ((with_reducible refine gate_builtin (b := .append) (xs := #[.tmp 18, .tmp 19]) rfl ?_); at_builtin; refine Kd.R_append (Kd.int .u8) (w0 := w0) w0.heap.size rfl (.tmp 18) (.tmp 19) 23 5 (.int .u8 0) 1 rfl Try.underlying23 info5 rfl (by decide) (by omega) (.slice Ai Bi.length ci) Bi 0 [.int .u8 0] (fun _ => True) (fun _ => False) rfl rfl rfl (fun _ hk => hk.elim) (fun _ _ => trivial) HO.out HB.out HB.out.size (by have := Hb.out; omega) ?_; intro v1 w1 ho hb hg hat; (have n0_ := Aside0.mk (blk_grown BK.out hg (Kd.R_ne HO.out BK.out (by decide)))); (have n1_ := Aside0.mk (blk_grown BR.out hg (Kd.R_ne HO.out BR.out (by decide)))); (have n2_ := Aside0.mk hb); (have n3_ := Aside0.mk (HK.out.grown hg fun r hr => own_typed (Kd.own_of_R HO.out) r hr)); (have n4_ := Aside0.mk ho); clear HO BK BR HB HK hcz0 hcz1 hfz0 hfz1 hb ho hat hg; (have HO := n4_); (have BK := n0_); (have BR := n1_); (have HB := n2_); (have HK := n3_); clear n0_ n1_ n2_ n3_ n4_; (obtain ⟨A1, c1, e1⟩ := Kd.R_slice HO.out); (subst e1); (have hcz0 := (blk_cell BK.out 0).trans rfl);  (have hcz1 : w1.cell? ⟨g, 1, none⟩ = some (.int .i64 (M : Int)) := (blk_cell BK.out 1).trans rfl); (have hfz0 := blk_frozen BK.out 0); (have hfz1 := blk_frozen BK.out 1))
   have n0_ := Aside0.mk (show (w1.setCell ⟨g, 0, none⟩ (.slice A1 (Bi.length + 1) c1)).heap[g]? = some (.cells #[.slice A1 (Bi.length + 1) c1, .int .i64 (M : Int)] 61 (0, 0)) from blk_put BK.out 0 _ rfl)
   have n1_ := Aside0.mk (Kd.R_far (p := ⟨g, 0, none⟩) (Kd.R_types HO.out BK.out (by decide)) (fun _ hk => hk.2) (.slice A1 (Bi.length + 1) c1))
   have n2_ := Aside0.mk (blk_far (p := ⟨g, 0, none⟩) BR.out NE.out.symm (.slice A1 (Bi.length + 1) c1))
   have n3_ := Aside0.mk (below_set (j := 0) (v := .slice A1 (Bi.length + 1) c1) HB.out GE.out)
   have nk_ := Aside0.mk (HK.out.new GW.out 0 (.slice A1 (Bi.length + 1) c1))
   clear HO BK BR HB HK hcz0 hcz1 hfz0 hfz1
   generalize (w1.setCell { block := g, off := 0 } (Value.slice A1 (Bi.length + 1) c1)) = w6 at n0_ n1_ n2_ n3_ nk_ ⊢
   rw [List.length_append, List.length_singleton] at n1_
   have n4_ : Aside0 (Bg.length = Bi.length + 1) := ⟨by rw [hBg]; unfold pgrow; rw [if_pos H8.out]; simp⟩
   rw [show Bi ++ [0] = Bg from by rw [hBg]; unfold pgrow; rw [if_pos H8.out]] at n1_
   obtain ⟨L, hL⟩ : ∃ L, L = Bi.length + 1 := ⟨_, rfl⟩
   rw [← hL] at n0_ n1_ n4_
   rw [← hL]
   have HL2 : Aside0 (L = M / 8 + 1) := ⟨by have := Hb.out; have := H8.out; omega⟩
   replace n1_ := Aside0.mk (Kd.R_mono n1_.out (ok' := fun _ => True) (fun _ _ => trivial))
   clear hL H8 hb8
  case' neg =>
   have hb8 : ((M : Int) % 8 == 0) = false := by rw [beq_eq_false_iff_ne]; omega
   go_wp2_with fail
   have n0_ := BK
   have n1_ := HO
   have n2_ := BR
   have n3_ := HB
   have nk_ := HK
   clear HO BK BR HB HK hcz0 hcz1 hfz0 hfz1
   have n4_ : Aside0 (Bg.length = Bi.length) := ⟨by rw [hBg]; unfold pgrow; rw [if_neg h8]⟩
   rw [show Bi = Bg from by rw [hBg]; unfold pgrow; rw [if_neg h8]] at n0_ n1_
   have HL2 : Aside0 (Bi.length = M / 8 + 1) := ⟨by have := Hb.out; omega⟩
   generalize Bi.length = L at n4_ HL2 ⊢
   rw [n4_.out] at n0_ n1_
   generalize wr = w6 at n0_ n1_ n2_ n3_ nk_ ⊢
   obtain ⟨A1, rfl⟩ : ∃ A1, A1 = Ai := ⟨_, rfl⟩
   obtain ⟨c1, rfl⟩ : ∃ c1, c1 = ci := ⟨_, rfl⟩
   clear hb8 h8
  all_goals
   have n5_ : Aside0 (Bg = pgrow Bi M) := ⟨hBg⟩
   clear hBg
   obtain ⟨r, c6, e6, hr0, hr1, hr2⟩ := Kd.R_form n1_.out (by rw [n4_.out, HL2.out]; omega)
   injection e6 with e6 e8 e7
   clear e8
   subst e6 e7
   obtain ⟨q0, q1⟩ := Kd.R_celln 0 n1_.out ((M / 8 : Nat) : Int) (by omega) (by have := HL2.out; omega)
   obtain ⟨x6, hx6⟩ : ∃ x, x = rdOf (0 : Int) Bg ((M / 8 : Nat) : Int) := ⟨_, rfl⟩
   rw [← hx6] at q0
   rw [Int.toNat_natCast] at q0 q1
   have hcz0 : w6.cell? ⟨g, 0, none⟩ = some (.slice (some ⟨r, 0, none⟩) L c1) := (blk_cell n0_.out 0).trans rfl
   have hcz1 : w6.cell? ⟨g, 1, none⟩ = some (.int .i64 (M : Int)) := (blk_cell n0_.out 1).trans rfl
   have hfz0 := blk_frozen n0_.out 0
   have hfz1 := blk_frozen n0_.out 1
   have hL := HL2.out
   have HX := Aside0.mk hx6
   have HR := Aside0.mk (And.intro hr0 hr2)
   clear hx6 hr0 hr1 hr2
   go_region
   obtain ⟨y6, hy6⟩ : ∃ y, y = Go.bits .or .u8 x6 (Go.bits .and .i64 (v / 2 ^ i) 1 % 256 * 2 ^ (M % 8) % 256) := ⟨_, rfl⟩
   rw [← hy6]
   have m1_ := Aside0.mk (Kd.R_putn n1_.out ((M / 8 : Nat) : Int) y6)
   rw [Int.toNat_natCast] at m1_
   have m0_ := Aside0.mk (blk_far (p := ⟨r, M / 8, none⟩) n0_.out (by have h_ := Kd.R_ne n1_.out n0_.out (by decide); intro e_; exact h_ (by rw [e_]; rfl)) (.int .u8 y6))
   have m2_ := Aside0.mk (blk_far (p := ⟨r, M / 8, none⟩) n2_.out (by have h_ := Kd.R_ne n1_.out n2_.out (by decide); intro e_; exact h_ (by rw [e_]; rfl)) (.int .u8 y6))
   have m3_ := Aside0.mk (below_set (j := M / 8) (v := .int .u8 y6) n3_.out HR.out.1)
   have mk_ : Aside0 (KeepW w (w6.setCell ⟨r, M / 8, none⟩ (.int .u8 y6))) := ⟨by obtain ⟨_, hc⟩ := HR.out.2; exact nk_.out.byte hc _ _⟩
   have m5_ : Aside0 (Bg.set (M / 8) y6 = pset (pgrow Bi M) M (pbit v i)) := ⟨by rw [← n5_.out, hy6, HX.out]; unfold pset pbit rdOf; rw [show Bg.length - 1 = M / 8 from by rw [n4_.out]; omega, Int.toNat_natCast]⟩
   have m6_ : Aside0 ((Bg.set (M / 8) y6).length = (M + 1 + 7) / 8) := ⟨by rw [List.length_set, n4_.out]; omega⟩
   clear n0_ n1_ n2_ n3_ nk_ n4_ n5_ hy6 HX q0 q1 hcz0 hcz1 hfz0 hfz1 HR
   have m7_ : Aside0 ((Kd.int .u8).R 5 (w6.setCell ⟨r, M / 8, none⟩ (.int .u8 y6)).drew w0.heap.size (fun _ => True) (.slice (some ⟨r, 0, none⟩) L c1) (Bg.set (M / 8) y6)) := ⟨Kd.R_drew m1_.out⟩
   replace m0_ : Aside0 ((w6.setCell ⟨r, M / 8, none⟩ (.int .u8 y6)).drew.heap[g]? = some (.cells #[.slice (some ⟨r, 0, none⟩) L c1, .int .i64 (M : Int)] 61 (0, 0))) := ⟨m0_.out⟩
   replace m2_ : Aside0 ((w6.setCell ⟨r, M / 8, none⟩ (.int .u8 y6)).drew.heap[gR]? = some (.cells #[.slice none 0 0, .int .i64 0] 61 (0, 0))) := ⟨m2_.out⟩
   replace m3_ : Aside0 (Below w0.heap.size w0 (w6.setCell ⟨r, M / 8, none⟩ (.int .u8 y6)).drew) := ⟨m3_.out.drew⟩
   replace mk_ : Aside0 (KeepW w (w6.setCell ⟨r, M / 8, none⟩ (.int .u8 y6)).drew) := ⟨mk_.out.below (Below.refl _ _).drew⟩
   clear m1_
   generalize (w6.setCell ⟨r, M / 8, none⟩ (.int .u8 y6)).drew = w7 at m7_ m0_ m2_ m3_ mk_ ⊢
   have hcz0 : w7.cell? ⟨g, 0, none⟩ = some (.slice (some ⟨r, 0, none⟩) L c1) := (blk_cell m0_.out 0).trans rfl
   have hcz1 : w7.cell? ⟨g, 1, none⟩ = some (.int .i64 (M : Int)) := (blk_cell m0_.out 1).trans rfl
   have hfz0 := blk_frozen m0_.out 0
   have hfz1 := blk_frozen m0_.out 1
   go_wp2_with fail
   go_roundg (gk - 1)
   case measure => have := HG.out; omega
   case rel =>
    refine ⟨i + 1, M + 1, Bg.set (M / 8) y6, .slice (some ⟨r, 0, none⟩) L c1, by go_num, by omega, ?_, ⟨by have := HG.out; omega⟩, ⟨by rw [HM.out]; omega⟩, ⟨?_⟩, ⟨?_⟩, ⟨?_⟩, ⟨?_⟩, m6_, ⟨?_⟩, ⟨mk_.out.new GW.out 1 _⟩⟩
    ·have := HM.out; omega
    ·exact blk_put m0_.out 1 (.int .i64 ((M : Int) + 1)) rfl
    ·exact blk_far m2_.out NE.out.symm _
    ·exact Kd.R_mono (Kd.R_far (p := ⟨g, 1, none⟩) (Kd.R_types m7_.out m0_.out (by decide)) (fun _ hk => hk.2) _) (fun _ hk => hk.1)
    ·rw [← HP.out, m5_.out, show n - i = (n - (i + 1)) + 1 from by omega]; rfl
    ·exact below_set m3_.out GE.out
/-- Bits that are written one behind the other, as a value: a row of bytes that these make, and how many bits. -/
def BitsW (w0 W : World) (v : Value) (it : List (Nat × Nat)) : Prop := ∃ u B, v = .agg #[u, .int .i64 ((wN it : Nat) : Int)] ∧ Kd.R (Kd.int .u8) 5 W w0.heap.size (fun _ => True) u B ∧ Wrote B it
theorem bitsW_of {w0 W : World} {u : Value} {B : List Int} {it : List (Nat × Nat)} (ho : Kd.R (Kd.int .u8) 5 W w0.heap.size (fun _ => True) u B) (hw : Wrote B it) : BitsW w0 W (.agg #[u, .int .i64 ((wN it : Nat) : Int)]) it := ⟨u, B, rfl, ho, hw⟩
theorem BitsW.below {w0 W W1 : World} {v : Value} {it : List (Nat × Nat)} (h : BitsW w0 W v it) (hb : Below W.heap.size W W1) : BitsW w0 W1 v it := by
 obtain ⟨u, B, h1, h2, h3⟩ := h
 exact ⟨u, B, h1, Kd.R_below h2 hb, h3⟩
theorem BitsW.nil {w0 W : World} (h : w0.heap.size ≤ W.heap.size) : BitsW w0 W (.agg #[.slice none 0 0, .int .i64 0]) [] := ⟨_, [], rfl, Kd.R_nil _ _ _ _ _, Wrote.nil⟩
theorem wrote_bits {B : List Int} {a b : List (Nat × Nat)} (h : Wrote B a) (hN : wN a = wN b) (hX : wX a = wX b) : Wrote B b := by
 unfold Wrote at *
 rw [← hN, ← hX]
 exact h
theorem BitsW.bits {w0 W : World} {v : Value} {a b : List (Nat × Nat)} (h : BitsW w0 W v a) (hN : wN a = wN b) (hX : wX a = wX b) : BitsW w0 W v b := by
 obtain ⟨u, B, h1, h2, h3⟩ := h
 exact ⟨u, B, by rw [← hN]; exact h1, h2, wrote_bits h3 hN hX⟩
theorem BitsW.put {w0 w : World} {s : Value} {it : List (Nat × Nat)} (h : BitsW w0 w s it) (hB : Below w0.heap.size w0 w) (v n : Nat) (hv : v < 2 ^ 62) (hn : n ≤ 64) (hl : wN it ≤ 900000000) :
  Calls Try.prog 78 #[s, .int .i64 v, .int .i64 n] w fun e w' => ∃ s', e = .returned s' ∧ BitsW w0 w' s' (it ++ [(v, n)]) ∧ Below w0.heap.size w0 w' ∧ KeepW w w' := by
 obtain ⟨u, B, rfl, ho, hw⟩ := h
 refine (wr_put u B v (wN it) n w0 w hB ho hn (by omega) hw.len).mono ?_
 rintro e w1 ⟨u1, rfl, ho1, hb1, hk1⟩
 refine ⟨_, rfl, ⟨u1, _, by rw [WP.wN_snoc], ho1, ?_⟩, hb1, hk1⟩
 have hr := padd_row v hv n 0 _ _ _ hw
 rw [show at_ v 0 n = v % 2 ^ n from by unfold WP.at_; simp] at hr
 unfold Wrote
 rw [WP.wN_snoc, WP.wX_snoc]
 exact hr
theorem BitsW.putI {w0 w : World} {s : Value} {it : List (Nat × Nat)} (h : BitsW w0 w s it) (hB : Below w0.heap.size w0 w) (v n : Nat) (x y : Int) (hx : x = (v : Int)) (hy : y = (n : Int)) (hv : v < 2 ^ 62) (hn : n ≤ 64) (hl : wN it ≤ 900000000) :
  Calls Try.prog 78 #[s, .int .i64 x, .int .i64 y] w fun e w' => ∃ s', e = .returned s' ∧ BitsW w0 w' s' (it ++ [(v, n)]) ∧ Below w0.heap.size w0 w' ∧ KeepW w w' := by
 subst hx hy
 exact h.put hB v n hv hn hl
/-- A number's bits the other way about, by the reference. -/
theorem rturn_loop (v n : Nat) (hn : n ≤ 24) (hv : v < 2 ^ n) : ∀ (d i k : Nat), i + d = n → d < k → wherryref01_turn.l0 k (v : Int) (n : Int) (WP.rev i v : Int) (i : Int) = some (WP.rev n v : Int) := by
 have hn24 : 2 ^ n ≤ 2 ^ 24 := Nat.pow_le_pow_right (by decide) hn
 intro d
 induction d with
 | zero =>
  intro i k hi hk
  obtain ⟨k, rfl⟩ : ∃ m, k = m + 1 := ⟨k - 1, by omega⟩
  obtain rfl : i = n := by omega
  simp only [wherryref01_turn.l0]
  rw [if_neg (by omega)]
 | succ d ih =>
  intro i k hi hk
  obtain ⟨k, rfl⟩ : ∃ m, k = m + 1 := ⟨k - 1, by omega⟩
  have hr := WP.rev_lt i v
  have hi24 : 2 ^ i ≤ 2 ^ 24 := Nat.pow_le_pow_right (by decide) (by omega)
  have hb2 : v / 2 ^ i % 2 < 2 := Nat.mod_lt _ (by decide)
  simp only [wherryref01_turn.l0]
  rw [if_pos (by omega), u64_in (by omega) (by omega), if_pos (by omega), shr_nat (by simp [IntKind.bits]; omega), and_one _ (Nat.lt_of_le_of_lt (Nat.div_le_self _ _) (by omega)), wrap64_in (by omega) (by omega), show (WP.rev i v : Int) * 2 = ((WP.rev i v * 2 : Nat) : Int) from by omega, or_nat (by omega) (by omega), wrap64_in (by omega) (by omega), show (i : Int) + 1 = ((i + 1 : Nat) : Int) from by omega]
  have e : WP.rev i v * 2 ||| v / 2 ^ i % 2 = WP.rev (i + 1) v := by
   have := or_add (a := WP.rev i v) (i := 1) (b := v / 2 ^ i % 2) (by simpa using hb2)
   rw [Nat.or_comm, show WP.rev i v * 2 = WP.rev i v * 2 ^ 1 from rfl, this]
   simp only [WP.rev]
   omega
  rw [e]
  exact ih (i + 1) k (by omega) (by omega)
theorem rturn_is (v n : Nat) (hn : n ≤ 24) (hv : v < 2 ^ n) : wherryref01_turn.f 30 (v : Int) (n : Int) = some (WP.rev n v : Int) := rturn_loop v n hn hv n 0 30 (by omega) (by omega)
theorem bytes_at {W : World} {ad : Addr} {n j : Nat} {x : Int} {xs : List Int} (h : Kd.C (Kd.int .u8) W (some ad) n xs) (hj : j < n) (hx : rd xs (j : Int) = x) : W.cell? (ad.add j) = some (.int .u8 x) := by
 obtain ⟨ad', e, h1⟩ := Kd.at_int h (j : Int) (by omega) (by omega)
 injection e with e
 subst e
 rwa [hx, Int.toNat_natCast] at h1
/-- Blocks of other types than bytes and Bits stay. -/
def KeepV (W W' : World) : Prop := W.heap.size ≤ W'.heap.size ∧ ∀ (k : Nat) (cells : Array Value) (ty : TypeId), W.heap[k]? = some (.cells cells ty (0, 0)) → ty ≠ 5 → ty ≠ 61 → W'.heap[k]? = some (.cells cells ty (0, 0))
theorem KeepV.refl (W : World) : KeepV W W := ⟨Nat.le_refl _, fun _ _ _ h _ _ => h⟩
theorem KeepV.trans {W W1 W2 : World} (h : KeepV W W1) (k : KeepV W1 W2) : KeepV W W2 := ⟨Nat.le_trans h.1 k.1, fun i c t hi h5 h6 => k.2 i c t (h.2 i c t hi h5 h6) h5 h6⟩
theorem KeepW.v {W W1 : World} (h : KeepW W W1) : KeepV W W1 := ⟨h.1, fun i c t hi h5 _ => h.2 i c t hi h5⟩
theorem KeepV.bits {W W1 : World} (h : KeepV W W1) {g : Nat} {cs : Array Value} (hg : W1.heap[g]? = some (.cells cs 61 (0, 0))) (i : Nat) (v : Value) : KeepV W (W1.setCell ⟨g, i, none⟩ v) :=
 ⟨by have := h.1; simpa [World.setCell] using this, fun k c t hk h5 h6 => blk_far (p := ⟨g, i, none⟩) (h.2 k c t hk h5 h6) (fun e => by
  have e2 : k = g := e
  subst e2
  have hk2 := h.2 k c t hk h5 h6
  rw [hg] at hk2
  injection hk2 with hk2
  injection hk2 with _ ht
  exact h6 ht.symm) v⟩
/-- A row of whole numbers that writers leave. -/
def ReadsW (w : World) (A : Option Addr) (l : List Int) : Prop := ∀ W, KeepV w W → Kd.C (Kd.int .i64) W A l.length l
theorem ReadsW.keep {w w1 : World} {A : Option Addr} {l : List Int} (h : ReadsW w A l) (hk : KeepV w w1) : ReadsW w1 A l := fun W hW => h W (hk.trans hW)
theorem readsW_own {w : World} {base : Nat} {ok : Nat → Prop} {A : Option Addr} {n c : Nat} {l : List Int} (h : Kd.R (Kd.int .i64) 3 w base ok (.slice A n c) l) : ReadsW w A l ∧ n = l.length ∧ l.length ≤ c := by
 refine ⟨fun W hk => ?_, (Kd.R_reads' h).1, by have h1 := (Kd.R_reads' h).1; have h2 := (Kd.R_reads' h).2.1; omega⟩
 have h1 := Kd.R_move (w1 := W) (Kd.R_bound h) (fun k hkk => by
  obtain ⟨_, _, _, q, hq, cells, hc⟩ := hkk
  have hq3 : q = 3 := by simpa [Kd.int, Kd.scalar] using hq
  subst hq3
  rw [hc]
  exact hk.2 k cells _ hc (by decide) (by decide))
 exact (Kd.R_reads' h1).2.2
set_option maxHeartbeats 8000000 in
set_option maxRecDepth 100000 in
theorem wr_code {w0 w : World} {s : Value} {it : List (Nat × Nat)} {l : List Int} (hm : Makes l) {j : Nat} (hh : Has l j) (Al Ac : Option Addr) (cl cc : Nat) (hl : ReadsW w Al l) (hcl : l.length ≤ cl) (hc : ReadsW w Ac (codesL l)) (hcc : l.length ≤ cc)
  (x : Int) (hx : x = (j : Int)) (h : BitsW w0 w s it) (hB : Below w0.heap.size w0 w) (hN : wN it ≤ 800000000) :
  Calls Try.prog 82 #[s, .slice Al l.length cl, .slice Ac l.length cc, .int .i64 x] w fun e w' => ∃ s', e = .returned s' ∧ BitsW w0 w' s' (it ++ [codeI l j]) ∧ Below w0.heap.size w0 w' ∧ KeepW w w' := by
 subst hx
 have hle := codeI_le hm hh
 obtain ⟨u, B, rfl, ho, hw⟩ := h
 obtain ⟨A0, c0, e0⟩ := Kd.R_slice ho
 subst e0
 have HH := Aside0.mk hh
 have HO := Aside0.mk ho
 have HB := Aside0.mk hB
 have HW := Aside0.mk hw
 have hj := hh.1
 have HL := Aside0.mk hl
 have HC := Aside0.mk hc
 have hu := Try.underlying61
 clear ho hB hw hl hc
 go_enter Try.func82, Try.ntmps82
 go_wp2_with (first
  | ((with_reducible refine gate_dst (N := 4) rfl ?_); refine box_event ?hg (N := 4) ?hd (cs := #[.slice A0 B.length c0, .int .i64 (wN it : Nat)]) (t := 61) ?hr ?_; (case hd => rfl); (case hg => rfl); (case hr => first | (go_simp; done) | (go_simp; rfl)); intro g hg w1 hbox hb; (have BK1 := Aside0.mk hbox); (have GW := Aside0.mk (show w.heap.size ≤ g by omega)); (have HK1 := Aside0.mk (KeepW.of_below (W := w) (below_step (Below.refl _ _) hb))); (have HB1 := Aside0.mk (below_step HB.out hb)); (have HO1 := Aside0.mk (Kd.R_below HO.out hb)); clear HB HO hb hbox hg)
  | ((with_reducible refine gate_dst (N := 8) rfl ?_); refine box_event ?hg (N := 8) ?hd (cs := #[.slice none 0 0, .int .i64 0]) (t := 61) ?hr ?_; (case hd => rfl); (case hg => rfl); (case hr => first | (go_simp; done) | (go_simp; rfl)); intro gR hg w2 hbox hb; (have BR := Aside0.mk hbox); (have GR := Aside0.mk (show w0.heap.size ≤ gR from by rw [hg]; exact below_size HB1.out)); (have BK := Aside0.mk (blk_below BK1.out hb)); (have HK := Aside0.mk (HK1.out.below hb)); (have NE := Aside0.mk (show g ≠ gR from by have := blk_lt BK1.out; omega)); (have GRW := Aside0.mk (show w.heap.size ≤ gR from by have := blk_lt BK1.out; have := GW.out; omega)); (have HB := Aside0.mk (below_step HB1.out hb)); (have HO := Aside0.mk (Kd.R_below HO1.out hb)); clear HB1 HO1 HK1 BK1 hb hbox hg))
 obtain ⟨n, x, y, hx1, hx2, hx3, hx4, hx5, hy⟩ : ∃ n x y : Nat, rd l (j : Int) = (n : Int) ∧ rd (codesL l) (j : Int) = (x : Int) ∧ wherryref01_turn.f 30 (x : Int) (n : Int) = some (y : Int) ∧ y < 2 ^ 62 ∧ n ≤ 15 ∧ codeI l j = (y, n) := by
  obtain ⟨n, hn, h15⟩ := hm.at hh.1
  have h0 : 0 < n := by have := hh.2; omega
  have hp : 2 ^ n ≤ 2 ^ 15 := Nat.pow_le_pow_right (by decide) h15
  refine ⟨n, codeN l j n, WP.rev n (codeN l j n), by rw [rd_nat, hn], by rw [rd_nat, codesL_get hj, codeOf_is hn h0], rturn_is _ n (by omega) (codeN_small hm hj hn h0 h15), Nat.lt_of_lt_of_le (WP.rev_lt _ _) (Nat.le_trans hp (by decide)), h15, ?_⟩
  unfold codeI
  rw [hn, Int.toNat_natCast]
 have hlc := codesL_length l
 obtain ⟨al, el, _⟩ := Kd.at_int (HL.out w (KeepV.refl _)) (j : Int) (by omega) (by omega)
 obtain ⟨ac, ec, _⟩ := Kd.at_int (HC.out w (KeepV.refl _)) (j : Int) (by omega) (by omega)
 subst el ec
 have XL : Aside0 (∀ W, KeepW w W → W.cell? (al.add j) = some (.int .i64 n)) := ⟨fun W hW => reads_at (HL.out W hW.v) (by omega) hx1⟩
 have XC : Aside0 (∀ W, KeepW w W → W.cell? (ac.add j) = some (.int .i64 x)) := ⟨fun W hW => reads_at (HC.out W hW.v) (by omega) hx2⟩
 have xl := XL.out w2 HK.out
 have xc := XC.out w2 HK.out
 have hcz0 : w2.cell? ⟨g, 0, none⟩ = some (.slice A0 B.length c0) := (blk_cell BK.out 0).trans rfl
 have hcz1 : w2.cell? ⟨g, 1, none⟩ = some (.int .i64 (wN it : Nat)) := (blk_cell BK.out 1).trans rfl
 have HY := Aside0.mk hy
 have HT := Aside0.mk hx3
 clear hx1 hx2 hx3 hle hy hh HL HC
 go_region_held3 (fun w' => w'.cell? ⟨g, 0, none⟩ = some (.slice A0 B.length c0) ∧ w'.cell? ⟨g, 1, none⟩ = some (.int .i64 (wN it : Nat)) ∧ w'.cell? (al.add j) = some (.int .i64 n) ∧ w'.cell? (ac.add j) = some (.int .i64 x)) (first | exact ⟨hz0, hz1, xl4, xc4⟩ | exact ⟨(blk_cell (blk_far (blk_far BK4.out NE.out _) NE.out _) 0).trans rfl, (blk_cell (blk_far (blk_far BK4.out NE.out _) NE.out _) 1).trans rfl, XL.out _ ((HK4.out.new GRW.out 0 _).new GRW.out 1 _), XC.out _ ((HK4.out.new GRW.out 0 _).new GRW.out 1 _)⟩ | exact ⟨hy0, hy1, yl, yc⟩ | go_keep)
  (first
   | (go_at_call 101; refine (wherryref01_turn.calls 30 x n y w2.drew HT.out).mono ?_; rintro e w3 ⟨rfl, hd⟩; (have hb : Below w2.heap.size w2 w3 := below_then (Below.refl _ _).drew (Nat.le_refl _) hd.below); (have hy0 := (hb.cell (World.block_lt_of_cell? w2 _ hcz0)).trans hcz0); (have hy1 := (hb.cell (World.block_lt_of_cell? w2 _ hcz1)).trans hcz1); (have yl := XL.out w3 (HK.out.below hb)); (have yc := XC.out w3 (HK.out.below hb)); (have HB3 := Aside0.mk hb); clear hb hd)
   | (go_at_call 78; refine (BitsW.put (it := it) (w0 := w0) ⟨_, B, rfl, Kd.R_below HO.out HB3.out, HW.out⟩ (below_then HB.out HB.out.size HB3.out) y n hx4 (by omega) (by omega)).mono ?_; rintro e w4 ⟨s4, rfl, hs4, hb4, hk4⟩; (obtain ⟨u4, B4, e4, ho4, hw4⟩ := hs4); (obtain ⟨A4, c4, e5⟩ := Kd.R_slice ho4); (subst e5); (subst e4); (have hb24 := HK.out.below HB3.out); (have BK4 := Aside0.mk (hk4.2 _ _ _ (blk_below BK.out HB3.out) (by decide))); (have BR4 := Aside0.mk (hk4.2 _ _ _ (blk_below BR.out HB3.out) (by decide))); (have hz0 : w4.cell? ⟨g, 0, none⟩ = some (.slice A0 B.length c0) := (blk_cell BK4.out 0).trans rfl); (have hz1 : w4.cell? ⟨g, 1, none⟩ = some (.int .i64 (wN it : Nat)) := (blk_cell BK4.out 1).trans rfl); (have hr0 : w4.cell? ⟨gR, 0, none⟩ = some (.slice none 0 0) := (blk_cell BR4.out 0).trans rfl); (have hr1 : w4.cell? ⟨gR, 1, none⟩ = some (.int .i64 0) := (blk_cell BR4.out 1).trans rfl); (have hf0 := blk_frozen BR4.out 0); (have hf1 := blk_frozen BR4.out 1); (have xl4 := XL.out w4 (hb24.trans hk4)); (have xc4 := XC.out w4 (hb24.trans hk4)); (have HK4 := Aside0.mk (hb24.trans hk4)); (have HO4 := Aside0.mk ho4); (have HW4 := Aside0.mk hw4); (have HB4 := Aside0.mk hb4); clear hk4 hb24 ho4 hw4 hb4))
 clear hcz0 hcz1 xl xc hy0 hy1 yl yc xl4 xc4 hr0 hr1 hf0 hf1 hz0 hz1
 go_wp2_with fail
 refine bodyPost_ret (results_cell_row rfl _ _ gR 61 #[.slice A4 B4.length c4, .int .i64 (wN (it ++ [(y, n)]) : Nat)] (0, 0) _ rfl (blk_put (cs := #[.slice A4 B4.length c4, .int .i64 0]) (blk_put (cs := #[.slice none 0 0, .int .i64 0]) BR4.out 0 _ rfl) 1 _ rfl) Try.underlying61 rfl (by kernel_rfl)) rfl ?_
 rw [HY.out]
 exact ⟨_, rfl, ⟨_, B4, rfl, Kd.R_mono (Kd.R_far (p := ⟨gR, 1, none⟩) (Kd.R_far (p := ⟨gR, 0, none⟩) (Kd.R_types HO4.out BR4.out (by decide)) (fun _ hk => hk.2) _) (fun _ hk => hk.2) _) (fun _ _ => trivial), HW4.out⟩, below_set (below_set HB4.out GR.out) GR.out, (HK4.out.new GRW.out 0 _).new GRW.out 1 _⟩
theorem BitsW.cells {w0 W : World} {v : Value} {it : List (Nat × Nat)} (h : BitsW w0 W v it) : ∃ A c B, v = .agg #[.slice A (List.length B) c, .int .i64 ((wN it : Nat) : Int)] ∧ Kd.R (Kd.int .u8) 5 W w0.heap.size (fun _ => True) (.slice A (List.length B) c) B ∧ Wrote B it := by
 obtain ⟨u, B, rfl, h2, h3⟩ := h
 obtain ⟨A, c, rfl⟩ := Kd.R_slice h2
 exact ⟨A, c, B, rfl, h2, h3⟩
/-- Bits in a block of the reference's own. -/
def BitsAt (w0 W : World) (g : Nat) (it : List (Nat × Nat)) : Prop := ∃ A c B, W.heap[g]? = some (.cells #[.slice A (List.length B) c, .int .i64 ((wN it : Nat) : Int)] 61 (0, 0)) ∧ w0.heap.size ≤ g ∧ Kd.R (Kd.int .u8) 5 W w0.heap.size (fun _ => True) (.slice A (List.length B) c) B ∧ Wrote B it
theorem BitsAt.below {w0 W W1 : World} {g : Nat} {it : List (Nat × Nat)} (h : BitsAt w0 W g it) (hb : Below W.heap.size W W1) : BitsAt w0 W1 g it := by
 obtain ⟨A, c, B, h1, h2, h3, h4⟩ := h
 exact ⟨A, c, B, blk_below h1 hb, h2, Kd.R_below h3 hb, h4⟩
theorem BitsAt.store {w0 W : World} {g : Nat} {it : List (Nat × Nat)} {A : Option Addr} {c : Nat} {B : List Int} {x y : Value} (hg : W.heap[g]? = some (.cells #[x, y] 61 (0, 0))) (hge : w0.heap.size ≤ g) (ho : Kd.R (Kd.int .u8) 5 W w0.heap.size (fun _ => True) (.slice A (List.length B) c) B) (hw : Wrote B it) :
  BitsAt w0 ((W.setCell ⟨g, 0, none⟩ (.slice A (List.length B) c)).setCell ⟨g, 1, none⟩ (.int .i64 ((wN it : Nat) : Int))) g it :=
 ⟨A, c, B, blk_put (cs := #[.slice A (List.length B) c, y]) (blk_put (cs := #[x, y]) hg 0 _ rfl) 1 _ rfl, hge, Kd.R_mono (Kd.R_far (p := ⟨g, 1, none⟩) (Kd.R_far (p := ⟨g, 0, none⟩) (Kd.R_types ho hg (by decide)) (fun _ hk => hk.2) _) (fun _ hk => hk.2) _) (fun _ _ => trivial), hw⟩
/-- What a writer of the reference holds: its bits, the block that it answers in, what stays. -/
structure TxAt (w0 w w4 W : World) (g gR : Nat) (it : List (Nat × Nat)) : Prop where
 bits : BitsAt w0 W g it
 res : W.heap[gR]? = some (.cells #[.slice none 0 0, .int .i64 0] 61 (0, 0))
 bel : Below w0.heap.size w0 W
 kw : KeepW w W
 kv : KeepV w4 W
theorem TxAt.below {w0 w w4 W W2 : World} {g gR : Nat} {it : List (Nat × Nat)} (h : TxAt w0 w w4 W g gR it) (hb : Below W.heap.size W W2) : TxAt w0 w w4 W2 g gR it :=
 ⟨h.bits.below hb, blk_below h.res hb, below_then h.bel h.bel.size hb, h.kw.below hb, h.kv.trans (KeepW.of_below hb).v⟩
theorem TxAt.first {w0 w w4 W : World} {g gR : Nat} {it : List (Nat × Nat)} {A : Option Addr} {c : Nat} {B : List Int} {x y : Value} (hg2 : W.heap[g]? = some (.cells #[x, y] 61 (0, 0))) (hge : w0.heap.size ≤ g) (hr : W.heap[gR]? = some (.cells #[.slice none 0 0, .int .i64 0] 61 (0, 0))) (hb : Below w0.heap.size w0 W) (hk : KeepW w W) (hv : KeepV w4 W) (ho : Kd.R (Kd.int .u8) 5 W w0.heap.size (fun _ => True) (.slice A (List.length B) c) B) (hw : Wrote B it) (hne : g ≠ gR) (hg : w.heap.size ≤ g) :
  TxAt w0 w w4 ((W.setCell ⟨g, 0, none⟩ (.slice A (List.length B) c)).setCell ⟨g, 1, none⟩ (.int .i64 ((wN it : Nat) : Int))) g gR it :=
 ⟨BitsAt.store hg2 hge ho hw, blk_far (blk_far hr hne.symm _) hne.symm _, below_set (below_set hb hge) hge, (hk.new hg 0 _).new hg 1 _, (hv.bits hg2 0 _).bits (blk_put hg2 0 _ rfl) 1 _⟩
theorem TxAt.store {w0 w w4 W W2 : World} {g gR : Nat} {it it2 : List (Nat × Nat)} {A : Option Addr} {c : Nat} {B : List Int} (h : TxAt w0 w w4 W g gR it) (hk : KeepW W W2) (hb : Below w0.heap.size w0 W2) (ho : Kd.R (Kd.int .u8) 5 W2 w0.heap.size (fun _ => True) (.slice A (List.length B) c) B) (hw : Wrote B it2) (hne : g ≠ gR) (hg : w.heap.size ≤ g) :
  TxAt w0 w w4 ((W2.setCell ⟨g, 0, none⟩ (.slice A (List.length B) c)).setCell ⟨g, 1, none⟩ (.int .i64 ((wN it2 : Nat) : Int))) g gR it2 := by
 obtain ⟨A1, c1, B1, h1, hge, _, _⟩ := h.bits
 exact TxAt.first (hk.2 _ _ _ h1 (by decide)) hge (hk.2 _ _ _ h.res (by decide)) hb (h.kw.trans hk) (h.kv.trans hk.v) ho hw hne hg
/-- A row of tokens that writers leave. -/
def ReadsT (w : World) (A : Option Addr) (l : List S53) : Prop := ∀ W, KeepV w W → Kd.C k53 W A l.length l
theorem ReadsT.keep {w w1 : World} {A : Option Addr} {l : List S53} (h : ReadsT w A l) (hk : KeepV w w1) : ReadsT w1 A l := fun W hW => h W (hk.trans hW)
theorem rlen_is {n : Int} (h0 : 3 ≤ n) (h1 : n ≤ 258) : wherryref01_Len.f 400 n = some (((lenOf n).1 : Int), ((lenOf n).2.1 : Int), ((lenOf n).2.2 : Int), 0) := by
 obtain ⟨m, rfl⟩ := Int.eq_ofNat_of_zero_le (show 0 ≤ n by omega)
 obtain ⟨s, b, v, _, _, h⟩ := Go.Proofs.Ytlffpaploefljaa.Tok.len_in m (by omega) (by omega)
 obtain ⟨h2, h3⟩ := h 400 (by decide)
 rw [h3, ← h2]
 exact (lenOf_is h0 h1).2
theorem rdist_is {n : Int} (h0 : 1 ≤ n) (h1 : n ≤ 32768) : wherryref01_Dist.f 400 n = some (((distOf n).1 : Int), ((distOf n).2.1 : Int), ((distOf n).2.2 : Int), 0) := by
 obtain ⟨m, rfl⟩ := Int.eq_ofNat_of_zero_le (show 0 ≤ n by omega)
 obtain ⟨s, b, v, _, h⟩ := Go.Proofs.Ytlffpaploefljaa.Tok.dist_in m (by omega) (by omega)
 obtain ⟨h2, h3⟩ := h 400 (by decide)
 rw [h3, ← h2]
 exact (distOf_is h0 h1).2
theorem tokI_N {lits dists : List Int} (hm : Makes lits) (hd : Makes dists) {t : S53} (ht : Fine t) (hh : TokHas lits dists t) : wN (tokI lits dists t) ≤ 60 := by
 unfold tokI
 unfold TokHas at hh
 by_cases h0 : t.f1 = 0
 ·rw [if_pos h0] at hh ⊢
  have := codeI_le hm hh
  simp only [wN]
  omega
 ·rw [if_neg h0] at hh ⊢
  have hp : 3 ≤ t.f1 ∧ t.f1 ≤ 258 ∧ 1 ≤ t.f2 ∧ t.f2 ≤ 2048 := by
   rcases ht.2.2 with h | h
   ·exact absurd h.1 h0
   ·exact h
  have l3 := (lenOf_is hp.1 hp.2.1).1.le
  have d3 := (distOf_is hp.2.2.1 (show t.f2 ≤ 32768 by omega)).1.le
  have c1 := codeI_le hm hh.1
  have c2 := codeI_le hd hh.2
  simp only [wN]
  omega
theorem toksI_N {lits dists : List Int} (hm : Makes lits) (hd : Makes dists) : ∀ (l : List S53), (∀ t ∈ l, Fine t ∧ TokHas lits dists t) → wN (l.flatMap (tokI lits dists)) ≤ 60 * l.length
 | [], _ => by simp [wN]
 | t :: l, h => by
  have h0 := h t List.mem_cons_self
  have h1 := tokI_N hm hd h0.1 h0.2
  have h2 := toksI_N hm hd l fun u hu => h u (List.mem_cons_of_mem _ hu)
  rw [List.flatMap_cons, WP.wN_append, List.length_cons]
  omega
theorem take_flat (l : List S53) (f : S53 → List (Nat × Nat)) {i : Nat} (hi : i < l.length) : (l.take (i + 1)).flatMap f = (l.take i).flatMap f ++ f (rd_T53 l (i : Int)) := by
 rw [List.take_add_one, List.flatMap_append]
 unfold rd_T53
 rw [Int.toNat_natCast, List.getD_eq_getElem?_getD, List.getElem?_eq_getElem hi]
 simp
set_option maxHeartbeats 8000000 in
set_option maxRecDepth 100000 in
theorem wr_text {w0 w : World} {s : Value} {it : List (Nat × Nat)} {l d : List Int} (hm : Makes l) (hdm : Makes d) (he : Has l 256) (hl3 : l.length ≤ 300) (hd3 : d.length ≤ 300) {ts : List S53} (ht : ∀ t ∈ ts, Fine t ∧ TokHas l d t) (hts : ts.length ≤ 1000000) (At Al Ad : Option Addr) (ct cl cd : Nat)
  (hrt : ReadsT w At ts) (hct : ts.length ≤ ct) (hl : ReadsW w Al l) (hcl : l.length ≤ cl) (hd : ReadsW w Ad d) (hcd : d.length ≤ cd) (h : BitsW w0 w s it) (hB : Below w0.heap.size w0 w) (hN : wN it ≤ 1000000) :
  Calls Try.prog 79 #[s, .slice At ts.length ct, .slice Al l.length cl, .slice Ad d.length cd] w fun e w' => ∃ s', e = .returned s' ∧ BitsW w0 w' s' (it ++ bodyI ts l d) ∧ Below w0.heap.size w0 w' ∧ KeepW w w' := by
 obtain ⟨A0, c0, B, rfl, ho, hw⟩ := h.cells
 have HO := Aside0.mk ho
 have HB := Aside0.mk hB
 have HW := Aside0.mk hw
 have HRT := Aside0.mk hrt
 have HL := Aside0.mk hl
 have HD := Aside0.mk hd
 have hu := Try.underlying61
 clear ho hB hw hrt hl hd h
 go_enter Try.func79, Try.ntmps79
 go_wp2_with (first
  | ((with_reducible refine gate_dst (N := 4) rfl ?_); refine box_event ?hg (N := 4) ?hd (cs := #[.slice A0 B.length c0, .int .i64 (wN it : Nat)]) (t := 61) ?hr ?_; (case hd => rfl); (case hg => rfl); (case hr => first | (go_simp; done) | (go_simp; rfl)); intro g hg w1 hbox hb; (have BK1 := Aside0.mk hbox); (have GW := Aside0.mk (show w.heap.size ≤ g by omega)); (have GE := Aside0.mk (show w0.heap.size ≤ g by rw [hg]; exact below_size HB.out)); (have HK1 := Aside0.mk (KeepW.of_below (W := w) (below_step (Below.refl _ _) hb))); (have HB1 := Aside0.mk (below_step HB.out hb)); (have HO1 := Aside0.mk (Kd.R_below HO.out hb)); clear HB HO hb hbox hg)
  | ((with_reducible refine gate_dst (N := 8) rfl ?_); refine box_event ?hg (N := 8) ?hd (cs := #[.slice none 0 0, .int .i64 0]) (t := 61) ?hr ?_; (case hd => rfl); (case hg => rfl); (case hr => first | (go_simp; done) | (go_simp; rfl)); intro gR hg w2 hbox hb; (have BR := Aside0.mk hbox); (have GR := Aside0.mk (show w0.heap.size ≤ gR from by rw [hg]; exact below_size HB1.out)); (have NE := Aside0.mk (show g ≠ gR from by have := blk_lt BK1.out; omega)); (have BK := Aside0.mk (blk_below BK1.out hb)); (have HK := Aside0.mk (HK1.out.below hb)); (have GRW := Aside0.mk (show w.heap.size ≤ gR from by have := blk_lt BK1.out; have := GW.out; omega)); (have HB := Aside0.mk (below_step HB1.out hb)); (have HO := Aside0.mk (Kd.R_below HO1.out hb)); clear HB1 HO1 HK1 BK1 hb hbox hg))
 have HS : Aside0 (BitsAt w0 w2 g it) := ⟨⟨_, _, _, BK.out, GE.out, HO.out, HW.out⟩⟩
 clear BK HO HW
 refine (wherryref01_codes.calls 8000 _ _ l (codesL l) w2 (HL.out w2 HK.out.v) hcl (Go.Proofs.Ytlffpaploefljaa.Glue.refcodes_is hm 8000 (by decide))).mono ?_
 rintro e w3 ⟨va, rfl, ho3, hb3⟩
 obtain ⟨Aa, ca, e3⟩ := Kd.R_slice ho3
 subst e3
 obtain ⟨ra, _, hca⟩ := readsW_own ho3
 have RA := Aside0.mk ra
 have HS3 := Aside0.mk (HS.out.below hb3)
 have BR3 := Aside0.mk (blk_below BR.out hb3)
 have HK3 := Aside0.mk (HK.out.below hb3)
 have HB3 := Aside0.mk (below_then HB.out HB.out.size hb3)
 clear ho3 ra hb3 HS BR HK HB
 go_wp2_with fail
 refine (wherryref01_codes.calls 8000 _ _ d (codesL d) w3 (HD.out w3 HK3.out.v) hcd (Go.Proofs.Ytlffpaploefljaa.Glue.refcodes_is hdm 8000 (by decide))).mono ?_
 rintro e w4 ⟨vb, rfl, ho4, hb4⟩
 obtain ⟨Ab, cb, e4⟩ := Kd.R_slice ho4
 subst e4
 obtain ⟨rb, _, hcb⟩ := readsW_own ho4
 have RB := Aside0.mk rb
 have RA4 := Aside0.mk (RA.out.keep (KeepW.of_below hb4).v)
 have HS4 := Aside0.mk (HS3.out.below hb4)
 have BR4 := Aside0.mk (blk_below BR3.out hb4)
 have HK4 := Aside0.mk (HK3.out.below hb4)
 have HB4 := Aside0.mk (below_then HB3.out HB3.out.size hb4)
 have hla := codesL_length l
 have hlb := codesL_length d
 rw [hla] at hca
 rw [hlb] at hcb
 clear ho4 rb hb4 HS3 BR3 HK3 HB3 RA
 go_wp2_with fail
 have hla0 : Kd.C (Kd.int .i64) w4 Aa l.length (codesL l) → True := fun _ => trivial
 clear hla0
 have HIT : Aside0 (∀ i, i ≤ ts.length → wN (it ++ (ts.take i).flatMap (tokI l d)) ≤ 1000000 + 60 * ts.length) := ⟨fun i hi => by
  have h1 := toksI_N hm hdm (ts.take i) fun t h => ht t (List.mem_of_mem_take h)
  rw [List.length_take] at h1
  rw [WP.wN_append]
  omega⟩
 go_loopg [11] ts.length (fun kq v11 w' => ∃ (i : Nat), v11 = .int .i64 i ∧ i ≤ ts.length ∧ Aside0 (kq + i = ts.length) ∧ Aside0 (TxAt w0 w w4 w' g gR (it ++ (ts.take i).flatMap (tokI l d))))
 case atStart => exact ⟨0, rfl, Nat.zero_le _, ⟨by omega⟩, ⟨by rw [List.take_zero, List.flatMap_nil, List.append_nil]; exact ⟨HS4.out, BR4.out, HB4.out, HK4.out, KeepV.refl _⟩⟩⟩
 case round =>
  clear HS4 BR4 HB4
  obtain ⟨i, rfl, hi, HG, HX⟩ := hrel
  have hni := HIT.out i hi
  obtain ⟨J, hJ⟩ : ∃ J, J = it ++ (ts.take i).flatMap (tokI l d) := ⟨_, rfl⟩
  rw [← hJ] at HX hni
  have HJ := Aside0.mk hJ
  have HN := Aside0.mk hni
  clear hJ hni
  have HB := Aside0.mk HX.out.bel
  have HK := Aside0.mk HX.out.kw
  have HK5 := Aside0.mk HX.out.kv
  have BR := Aside0.mk HX.out.res
  obtain ⟨A5, c5, B5, bk, _, ho, hw⟩ := HX.out.bits
  have BK := Aside0.mk bk
  have HO := Aside0.mk ho
  have HW := Aside0.mk hw
  have hcz0 : wr.cell? ⟨g, 0, none⟩ = some (.slice A5 B5.length c5) := (blk_cell bk 0).trans rfl
  have hcz1 : wr.cell? ⟨g, 1, none⟩ = some (.int .i64 (wN J : Nat)) := (blk_cell bk 1).trans rfl
  clear bk ho hw
  by_cases hlt : i < ts.length
  rotate_left
  ·obtain rfl : i = ts.length := by omega
   go_wp2_with fail
   refine (wr_code (it := J) hm he Al Aa cl ca (HL.out.keep HK.out.v) hcl (RA4.out.keep HK5.out) hca 256 rfl (bitsW_of HO.out HW.out) HB.out (by have := HN.out; omega)).mono ?_
   rintro e w6 ⟨s6, rfl, hs6, hb6, hk6⟩
   obtain ⟨A6, c6, B6, rfl, ho6, hw6⟩ := hs6.cells
   have HO6 := Aside0.mk ho6
   have HW6 := Aside0.mk hw6
   have HB6 := Aside0.mk hb6
   have HK6 := Aside0.mk (HK.out.trans hk6)
   have BR6 := Aside0.mk (hk6.2 _ _ _ BR.out (by decide))
   have hcr0 : w6.cell? ⟨gR, 0, none⟩ = some (.slice none 0 0) := (blk_cell BR6.out 0).trans rfl
   have hcr1 : w6.cell? ⟨gR, 1, none⟩ = some (.int .i64 0) := (blk_cell BR6.out 1).trans rfl
   have hfr0 := blk_frozen BR6.out 0
   have hfr1 := blk_frozen BR6.out 1
   clear hcz0 hcz1 hs6 hb6 hk6 ho6 hw6
   go_wp2_with fail
   refine bodyPost_ret (results_cell_row rfl _ _ gR 61 #[.slice A6 B6.length c6, .int .i64 (wN (J ++ [codeI l 256]) : Nat)] (0, 0) _ rfl (blk_put (cs := #[.slice A6 B6.length c6, .int .i64 0]) (blk_put (cs := #[.slice none 0 0, .int .i64 0]) BR6.out 0 _ rfl) 1 _ rfl) Try.underlying61 rfl (by kernel_rfl)) rfl ?_
   refine ⟨_, rfl, ?_, below_set (below_set HB6.out GR.out) GR.out, (HK6.out.new GRW.out 0 _).new GRW.out 1 _⟩
   rw [show it ++ bodyI ts l d = J ++ [codeI l 256] from by rw [HJ.out]; unfold bodyI; rw [List.take_length, List.append_assoc]]
   exact ⟨_, B6, rfl, Kd.R_mono (Kd.R_far (p := ⟨gR, 1, none⟩) (Kd.R_far (p := ⟨gR, 0, none⟩) (Kd.R_types HO6.out BR6.out (by decide)) (fun _ hk => hk.2) _) (fun _ hk => hk.2) _) (fun _ _ => trivial), HW6.out⟩
  have hft := take_flat ts (tokI l d) hlt
  obtain ⟨t, et⟩ : ∃ t, t = rd_T53 ts (i : Int) := ⟨_, rfl⟩
  rw [← et] at hft
  have hmem : t ∈ ts := by
   rw [et]
   unfold rd_T53
   rw [Int.toNat_natCast, List.getD_eq_getElem?_getD, List.getElem?_eq_getElem hlt]
   exact List.getElem_mem hlt
  obtain ⟨hfi, hth⟩ := ht t hmem
  obtain ⟨ad, ead, k0, k1, k2⟩ := at_T53 (HRT.out wr HK.out.v) (i : Int) (by omega) (by omega)
  rw [← et, Int.toNat_natCast] at k0
  rw [← et, Int.toNat_natCast] at k1 k2
  subst ead
  have HFT := Aside0.mk hft
  have HTK : Aside0 (∀ W, KeepW w W → W.cell? (ad.add (i * 3)) = some (.int .u8 t.f0) ∧ W.cell? ⟨(ad.add (i * 3)).block, (ad.add (i * 3)).off + 1, none⟩ = some (.int .i64 t.f1) ∧ W.cell? ⟨(ad.add (i * 3)).block, (ad.add (i * 3)).off + 2, none⟩ = some (.int .i64 t.f2)) := ⟨fun W hW => by
   obtain ⟨ad', ead, k0, k1, k2⟩ := at_T53 (HRT.out W hW.v) (i : Int) (by omega) (by omega)
   injection ead with ead
   subst ead
   rw [← et, Int.toNat_natCast] at k0
   rw [← et, Int.toNat_natCast] at k1 k2
   exact ⟨k0, k1, k2⟩⟩
  clear hft et hmem
  unfold TokHas at hth
  by_cases h0 : t.f1 = 0
  ·have d0 : (t.f1 == 0) = true := beq_iff_eq.2 h0
   rw [if_pos h0] at hth
   have HTH := Aside0.mk hth
   have HFI := Aside0.mk hfi
   clear hth hfi
   go_wp2_with fail
   have kb := k0
   clear k0 k1 k2
   have dw : wrap64 t.f0 = ((t.f0.toNat : Nat) : Int) := by rw [wrap64_in (by have := HFI.out.1; omega) (by have := HFI.out.2.1; omega)]; have := HFI.out.1; omega
   have DW := Aside0.mk dw
   clear dw
   refine start_ (n := 11) (S := fun w' => w'.cell? ⟨g, 0, none⟩ = some (.slice A5 B5.length c5) ∧ w'.cell? ⟨g, 1, none⟩ = some (.int .i64 (wN J : Nat)) ∧ w'.cell? (ad.add (i * 3)) = some (.int .u8 t.f0)) (ds := [10]) #[false, false, false, false, false, false, false, false, false, false, false] (by kernel_rfl) rfl rfl ⟨hcz0, hcz1, kb⟩ (fun hHeld => ?_)
   refine pure_ (i := 1) (N := some 33) (v := ?_) (a' := ?_) #[false, true, false, false, false, false, false, false, false, false, false] rfl rfl (by kernel_rfl) (fun _ _ _ h => h) (Or.inl ⟨by rfl, ?_⟩) ?_ ?_
   rotate_left
   ·intro w'
    go_simp
    with_reducible rfl
   rotate_left
   ·simp only [Act.put, List.setIfInBounds_toArray, List.set_cons_zero, List.set_cons_succ, i64_w, i32_w]
    rfl
   refine pure_ (i := 2) (N := some 34) (v := ?_) (a' := ?_) #[false, true, true, false, false, false, false, false, false, false, false] rfl rfl (by kernel_rfl) (fun _ _ _ h => h) (Or.inl ⟨by rfl, ?_⟩) ?_ ?_
   rotate_left
   ·intro w'
    go_simp
    with_reducible rfl
   rotate_left
   ·simp only [Act.put, List.setIfInBounds_toArray, List.set_cons_zero, List.set_cons_succ, i64_w, i32_w]
    rfl
   refine pure_ (i := 3) (N := some 35) (v := ?_) (a' := ?_) #[false, true, true, true, false, false, false, false, false, false, false] rfl rfl (by kernel_rfl) (fun _ _ _ h => h) (Or.inl ⟨by rfl, ?_⟩) ?_ ?_
   rotate_left
   ·intro w'
    go_simp
    with_reducible rfl
   rotate_left
   ·simp only [Act.put, List.setIfInBounds_toArray, List.set_cons_zero, List.set_cons_succ, i64_w, i32_w]
    rfl
   refine pure_ (i := 4) (N := some 36) (v := ?_) (a' := ?_) #[false, true, true, true, true, false, false, false, false, false, false] rfl rfl (by kernel_rfl) (fun _ _ _ h => h) (Or.inl ⟨by rfl, ?_⟩) ?_ ?_
   rotate_left
   ·intro w'
    go_simp
    with_reducible rfl
   rotate_left
   ·simp only [Act.put, List.setIfInBounds_toArray, List.set_cons_zero, List.set_cons_succ, i64_w, i32_w]
    rfl
   refine pure_ (i := 5) (N := some 37) (v := ?_) (a' := ?_) #[false, true, true, true, true, true, false, false, false, false, false] rfl rfl (by kernel_rfl) (fun _ _ _ h => h) (Or.inl ⟨by rfl, ?_⟩) ?_ ?_
   rotate_left
   ·intro w'
    go_simp
    with_reducible rfl
   rotate_left
   ·simp only [Act.put, List.setIfInBounds_toArray, List.set_cons_zero, List.set_cons_succ, i64_w, i32_w]
    rfl
   refine pure_ (i := 6) (N := some 38) (v := ?_) (a' := ?_) #[false, true, true, true, true, true, true, false, false, false, false] rfl rfl (by kernel_rfl) (fun _ _ _ h => h) (Or.inl ⟨by rfl, ?_⟩) ?_ ?_
   rotate_left
   ·intro w'
    go_simp
    with_reducible rfl
   rotate_left
   ·simp only [Act.put, List.setIfInBounds_toArray, List.set_cons_zero, List.set_cons_succ, i64_w, i32_w]
    rfl
   refine take_ (i := 0) (N := some 32) (v := ?_) (a' := ?_) #[true, true, true, true, true, true, true, false, false, false, false] rfl rfl (by kernel_rfl) (fun _ _ _ h => h) (Or.inl ⟨by rfl, ?_⟩) hHeld ?_ ?_
   rotate_left
   ·rintro w' ⟨s0, s1, s2⟩
    go_simp
    with_reducible rfl
   rotate_left
   ·simp only [Act.put, List.setIfInBounds_toArray, List.set_cons_zero, List.set_cons_succ, i64_w, i32_w]
    rfl
   refine take_ (i := 7) (N := some 39) (v := ?_) (a' := ?_) #[true, true, true, true, true, true, true, true, false, false, false] rfl rfl (by kernel_rfl) (fun _ _ _ h => h) (Or.inl ⟨by rfl, ?_⟩) hHeld ?_ ?_
   rotate_left
   ·rintro w' ⟨s0, s1, s2⟩
    go_simp
    with_reducible rfl
   rotate_left
   ·simp only [Act.put, List.setIfInBounds_toArray, List.set_cons_zero, List.set_cons_succ, i64_w, i32_w]
    rfl
   refine pure_ (i := 8) (N := some 40) (v := ?_) (a' := ?_) #[true, true, true, true, true, true, true, true, true, false, false] rfl rfl (by kernel_rfl) (fun _ _ _ h => h) (Or.inl ⟨by rfl, ?_⟩) ?_ ?_
   rotate_left
   ·intro w'
    go_simp
    with_reducible rfl
   rotate_left
   ·simp only [Act.put, List.setIfInBounds_toArray, List.set_cons_zero, List.set_cons_succ, i64_w, i32_w]
    rfl
   refine one_ (i := 9) (N := some 41) #[true, true, true, true, true, true, true, true, true, true, false] rfl rfl (by kernel_rfl) (by decide) (fun K hK => ?_)
   refine goes_ Try.func82 (by kernel_rfl) rfl #[.agg #[.slice A5 B5.length c5, .int .i64 (wN J : Nat)], .slice Al l.length cl, .slice Aa l.length ca, .int .i64 (wrap64 t.f0)] (by rfl) rfl rfl (by simp only [List.map_toArray, List.map_cons, List.map_nil]; rfl) ?_
   with_reducible refine (wr_code (it := J) (w0 := w0) (w := wr.drew) hm HTH.out Al Aa cl ca (HL.out.keep (HK.out.below (Below.refl _ _).drew).v) hcl (RA4.out.keep (HK5.out.trans (KeepW.of_below (Below.refl _ _).drew).v)) hca _ DW.out (bitsW_of (Kd.R_drew HO.out) HW.out) HB.out.drew (by have := HN.out; omega)).mono ?_
   rintro e w3 ⟨s3, rfl, hs3, hB3, hK3⟩
   refine ⟨_, rfl, ?_⟩
   obtain ⟨A3, c3, B3, rfl, ho3, hw3⟩ := hs3.cells
   have hk3 := (KeepW.of_below (Below.refl _ wr).drew).trans hK3
   have HO3 := Aside0.mk ho3
   have HW3 := Aside0.mk hw3
   have HB3 := Aside0.mk hB3
   have HK3 := Aside0.mk (HK.out.trans hk3)
   have HKw3 := Aside0.mk hk3
   have BK3 := Aside0.mk (hk3.2 _ _ _ BK.out (by decide))
   have hc30 : w3.cell? ⟨g, 0, none⟩ = some (.slice A5 B5.length c5) := (blk_cell BK3.out 0).trans rfl
   have hc31 : w3.cell? ⟨g, 1, none⟩ = some (.int .i64 (wN J : Nat)) := (blk_cell BK3.out 1).trans rfl
   have hf30 := blk_frozen BK3.out 0
   have hf31 := blk_frozen BK3.out 1
   have kb3 := (HTK.out w3 HK3.out).1
   clear hs3 ho3 hw3 hK3 hk3 hB3
   refine hK.out _ _ ⟨hc30, hc31, kb3⟩ (fun hHeld => ?_)
   clear hK K
   refine norm_ (a' := ?_) ?_ ?_
   rotate_left
   ·show Act.put _ (some 41) _ = _
    simp only [Act.put, List.setIfInBounds_toArray, List.set_cons_zero, List.set_cons_succ, i64_w, i32_w]
    rfl
   refine last_ (i := 10) (N := none) #[true, true, true, true, true, true, true, true, true, true, true] rfl rfl (by kernel_rfl) (by decide) (fun K hK => ?_)
   refine skip_ (w1 := ?_) (by rfl) rfl ?_ ?_
   rotate_left
   ·go_simp
    rfl
   refine hK.out _ _ ?_
   clear hK K
   refine done_ (by kernel_rfl) ?_
   clear hHeld hc30 hc31 hf30 hf31 kb3 kb hcz0 hcz1
   go_wp2_with fail
   go_roundg (gk - 1)
   case measure => have := HG.out; omega
   case rel =>
    refine ⟨i + 1, by go_num, by omega, ⟨by have := HG.out; omega⟩, ⟨?_⟩⟩
    rw [HFT.out, ← List.append_assoc, ← HJ.out, show tokI l d t = [codeI l t.f0.toNat] from by unfold tokI; rw [if_pos h0]]
    exact HX.out.store HKw3.out HB3.out HO3.out HW3.out NE.out GW.out
  ·have d0 : (t.f1 == 0) = false := beq_eq_false_iff_ne.2 h0
   rw [if_neg h0] at hth
   have hp : 3 ≤ t.f1 ∧ t.f1 ≤ 258 ∧ 1 ≤ t.f2 ∧ t.f2 ≤ 2048 := by
    rcases hfi.2.2 with h | h
    ·exact absurd h.1 h0
    ·exact h
   have hti : tokI l d t = [codeI l (lenOf t.f1).1, ((lenOf t.f1).2.2, (lenOf t.f1).2.1), codeI d (distOf t.f2).1, ((distOf t.f2).2.2, (distOf t.f2).2.1)] := by unfold tokI; rw [if_neg h0]
   have hrl := rlen_is hp.1 hp.2.1
   have hrd := rdist_is hp.2.2.1 (show t.f2 ≤ 32768 by omega)
   have l3 := (lenOf_is hp.1 hp.2.1).1.le
   have d3 := (distOf_is hp.2.2.1 (show t.f2 ≤ 32768 by omega)).1.le
   have p5 : 2 ^ (lenOf t.f1).2.1 ≤ 2 ^ 5 := Nat.pow_le_pow_right (by decide) l3.2.2.2
   have p13 : 2 ^ (distOf t.f2).2.1 ≤ 2 ^ 13 := Nat.pow_le_pow_right (by decide) d3.2.2
   obtain ⟨q1, q2⟩ : (lenOf t.f1).2.2 < 2 ^ 62 ∧ (lenOf t.f1).2.1 ≤ 64 := by omega
   obtain ⟨q3, q4⟩ : (distOf t.f2).2.2 < 2 ^ 62 ∧ (distOf t.f2).2.1 ≤ 64 := by omega
   obtain ⟨hth1, hth2⟩ := hth
   have cl1 := (codeI_le hm hth1).2.1
   have cl2 := (codeI_le hdm hth2).2.1
   rw [hti] at HFT
   generalize (lenOf t.f1).1 = ls at hrl hth1 HFT cl1
   generalize (lenOf t.f1).2.1 = lk at hrl HFT q2
   generalize (lenOf t.f1).2.2 = lv at hrl HFT q1
   generalize (distOf t.f2).1 = ds at hrd hth2 HFT cl2
   generalize (distOf t.f2).2.1 = dk at hrd HFT q4
   generalize (distOf t.f2).2.2 = dv at hrd HFT q3
   have HRL := Aside0.mk hrl
   have HRD := Aside0.mk hrd
   have HT1 := Aside0.mk hth1
   have HT2 := Aside0.mk hth2
   clear hti l3 d3 p5 p13 hp hfi hrl hrd hth1 hth2 h0
   go_wp2_with fail
   refine (wherryref01_Len.calls 400 t.f1 _ _ _ _ wr HRL.out).mono ?_
   rintro e w5 ⟨rfl, hd5⟩
   have HX5 := Aside0.mk (HX.out.below hd5.below)
   clear hcz0 hcz1 k0 k1 k2 hd5 HX BR HB HK HK5 BK HO HW
   obtain ⟨A6, c6, B6, bk, _, ho, hw⟩ := HX5.out.bits
   have BK := Aside0.mk bk
   have HO := Aside0.mk ho
   have HW := Aside0.mk hw
   have hcz0 : w5.cell? ⟨g, 0, none⟩ = some (.slice A6 B6.length c6) := (blk_cell bk 0).trans rfl
   have hcz1 : w5.cell? ⟨g, 1, none⟩ = some (.int .i64 (wN J : Nat)) := (blk_cell bk 1).trans rfl
   clear bk ho hw
   go_wp2_with fail
   refine (wr_code (it := J) hm HT1.out Al Aa cl ca (HL.out.keep HX5.out.kw.v) hcl (RA4.out.keep HX5.out.kv) hca _ rfl (bitsW_of HO.out HW.out) HX5.out.bel (by have := HN.out; omega)).mono ?_
   rintro e w6 ⟨s6, rfl, hs6, hb6, hk6⟩
   obtain ⟨A6, c6, B6, rfl, ho6, hw6⟩ := hs6.cells
   have HO6 := Aside0.mk ho6
   have HW6 := Aside0.mk hw6
   have HB6 := Aside0.mk hb6
   have HK6 := Aside0.mk hk6
   have HN6 : Aside0 (wN (J ++ [codeI l ls]) ≤ 1000000 + 60 * ts.length + 15) := ⟨by rw [WP.wN_append]; simp only [wN]; have := HN.out; omega⟩
   clear hs6 hb6 hk6 ho6 hw6 hcz0 hcz1
   go_wp2_with fail
   refine (BitsW.put (it := J ++ [codeI l ls]) (bitsW_of HO6.out HW6.out) HB6.out lv lk q1 q2 (by have := HN6.out; omega)).mono ?_
   rintro e w7 ⟨s7, rfl, hs7, hb7, hk7⟩
   obtain ⟨A7, c7, B7, rfl, ho7, hw7⟩ := hs7.cells
   have BK7 := Aside0.mk ((HK6.out.trans hk7).2 _ _ _ BK.out (by decide))
   have hcz0 := (blk_cell BK7.out 0).trans rfl
   have hcz1 := (blk_cell BK7.out 1).trans rfl
   have hfz0 := blk_frozen BK7.out 0
   have hfz1 := blk_frozen BK7.out 1
   obtain ⟨J2, hJ2⟩ : ∃ J2, J2 = J ++ [codeI l ls] ++ [(lv, lk)] := ⟨_, rfl⟩
   rw [← hJ2] at hw7 ⊢
   have HX7 : Aside0 (TxAt w0 w w4 ((w7.setCell ⟨g, 0, none⟩ (.slice A7 (List.length B7) c7)).setCell ⟨g, 1, none⟩ (.int .i64 ((wN J2 : Nat) : Int))) g gR J2) := ⟨HX5.out.store (HK6.out.trans hk7) hb7 ho7 hw7 NE.out GW.out⟩
   have kz := (HTK.out _ HX7.out.kw).2.2
   have HJ2 := Aside0.mk hJ2
   have HN7 : Aside0 (wN J2 ≤ 1000000 + 60 * ts.length + 79) := ⟨by rw [hJ2, WP.wN_append]; simp only [wN]; have := HN6.out; omega⟩
   clear hs7 hb7 hk7 ho7 hw7 HO6 HW6 HB6 HK6 HN6 HX5 BK HO HW hJ2
   go_wp2_with fail
   generalize ((w7.setCell { block := g, off := 0 } (Value.slice A7 (List.length B7) c7)).setCell { block := g, off := 1 } (Value.int IntKind.i64 ((wN J2 : Nat) : Int))) = w8 at HX7 kz ⊢
   refine (wherryref01_Dist.calls 400 t.f2 _ _ _ _ w8 HRD.out).mono ?_
   rintro e w9 ⟨rfl, hd9⟩
   have HX9 := Aside0.mk (HX7.out.below hd9.below)
   clear hcz0 hcz1 hfz0 hfz1 kz hd9 HX7 BK7
   obtain ⟨A6, c6, B6, bk, _, ho, hw⟩ := HX9.out.bits
   have BK := Aside0.mk bk
   have HO := Aside0.mk ho
   have HW := Aside0.mk hw
   have hcz0 : w9.cell? ⟨g, 0, none⟩ = some (.slice A6 B6.length c6) := (blk_cell bk 0).trans rfl
   have hcz1 : w9.cell? ⟨g, 1, none⟩ = some (.int .i64 (wN J2 : Nat)) := (blk_cell bk 1).trans rfl
   clear bk ho hw
   go_wp2_with fail
   refine (wr_code (it := J2) hdm HT2.out Ad Ab cd cb (HD.out.keep HX9.out.kw.v) hcd (RB.out.keep HX9.out.kv) hcb _ rfl (bitsW_of HO.out HW.out) HX9.out.bel (by have := HN7.out; omega)).mono ?_
   rintro e w6 ⟨s6, rfl, hs6, hb6, hk6⟩
   obtain ⟨A6, c6, B6, rfl, ho6, hw6⟩ := hs6.cells
   have HO6 := Aside0.mk ho6
   have HW6 := Aside0.mk hw6
   have HB6 := Aside0.mk hb6
   have HK6 := Aside0.mk hk6
   have HN6 : Aside0 (wN (J2 ++ [codeI d ds]) ≤ 1000000 + 60 * ts.length + 94) := ⟨by rw [WP.wN_append]; simp only [wN]; have := HN7.out; omega⟩
   clear hs6 hb6 hk6 ho6 hw6 hcz0 hcz1
   go_wp2_with fail
   refine (BitsW.put (it := J2 ++ [codeI d ds]) (bitsW_of HO6.out HW6.out) HB6.out dv dk q3 q4 (by have := HN6.out; omega)).mono ?_
   rintro e w7 ⟨s7, rfl, hs7, hb7, hk7⟩
   obtain ⟨A7, c7, B7, rfl, ho7, hw7⟩ := hs7.cells
   have BK7 := Aside0.mk ((HK6.out.trans hk7).2 _ _ _ BK.out (by decide))
   have hcz0 := (blk_cell BK7.out 0).trans rfl
   have hcz1 := (blk_cell BK7.out 1).trans rfl
   have hfz0 := blk_frozen BK7.out 0
   have hfz1 := blk_frozen BK7.out 1
   obtain ⟨J3, hJ3⟩ : ∃ J3, J3 = J2 ++ [codeI d ds] ++ [(dv, dk)] := ⟨_, rfl⟩
   rw [← hJ3] at hw7 ⊢
   have HX := Aside0.mk (HX9.out.store (HK6.out.trans hk7) hb7 ho7 hw7 NE.out GW.out)
   have HE : Aside0 (it ++ (ts.take (i + 1)).flatMap (tokI l d) = J3) := ⟨by rw [HFT.out, ← List.append_assoc, ← HJ.out, hJ3, HJ2.out]; simp⟩
   clear hs7 hb7 hk7 ho7 hw7 HO6 HW6 HB6 HK6 HN6 HX9 BK HO HW hJ3
   go_wp2_with fail
   go_roundg (gk - 1)
   case measure => have := HG.out; omega
   case rel =>
    refine ⟨i + 1, by go_num, by omega, ⟨by have := HG.out; omega⟩, ?_⟩
    rw [HE.out]
    exact HX
/-- What a block of bytes as they are is written as, by the reference. -/
def rstoredI (b : List Int) : List (Nat × Nat) := [(1, 8), (b.length, 16), (65535 - b.length, 16)] ++ b.map (fun c => (c.toNat, 8))
theorem rstored_bits (b : List Int) : wN (rstoredI b) = wN (plainI b) ∧ wX (rstoredI b) = wX (plainI b) := by
 unfold rstoredI plainI
 constructor
 ·simp only [List.cons_append, List.nil_append, wN]
  omega
 ·simp only [List.cons_append, List.nil_append, wX]
  omega
set_option maxHeartbeats 8000000 in
set_option maxRecDepth 100000 in
theorem wr_stored {w : World} {b : List Int} (A : Option Addr) (c : Nat) (hb : Bytes b) (hl : b.length ≤ 4096) (hr : Kd.C (Kd.int .u8) w A b.length b) (hc : b.length ≤ c) :
  Calls Try.prog 45 #[.slice A b.length c] w fun e w' => ∃ s', e = .returned s' ∧ BitsW w w' s' (rstoredI b) ∧ Below w.heap.size w w' := by
 have HR := Aside0.mk hr
 have HBy := Aside0.mk hb
 have HB := Aside0.mk (Below.refl w.heap.size w)
 have hu := Try.underlying61
 clear hr hb
 go_enter Try.func45, Try.ntmps45
 go_wp2_with (first
  | ((with_reducible refine gate_dst (N := 2) rfl ?_); refine box_event ?hg (N := 2) ?hd (cs := #[.slice none 0 0, .int .i64 0]) (t := 61) ?hr ?_; (case hd => rfl); (case hg => rfl); (case hr => first | (go_simp; done) | (go_simp; rfl)); intro gR hg w1 hbox hb; (have BR := Aside0.mk hbox); (have GR := Aside0.mk (show w.heap.size ≤ gR from by omega)); (have HB1 := Aside0.mk (below_step HB.out hb)); clear HB hb hbox hg))
 refine (BitsW.put (w0 := w) (w := w1) (it := []) (BitsW.nil HB1.out.size) HB1.out 1 8 (by decide) (by decide) (by decide)).mono ?_
 rintro e w2 ⟨s2, rfl, hs2, hb2, hk2⟩
 obtain ⟨A2, c2, B2, rfl, ho2, hw2⟩ := hs2.cells
 have BR2 := Aside0.mk (hk2.2 _ _ _ BR.out (by decide))
 have HO2 := Aside0.mk ho2
 have HW2 := Aside0.mk hw2
 have HB2 := Aside0.mk hb2
 clear hs2 ho2 hw2 hb2 hk2 BR HB1
 go_wp2_with (first
  | ((with_reducible refine gate_dst (N := 3) rfl ?_); refine box_event ?hg (N := 3) ?hd (cs := #[.slice none 0 0, .int .i64 0]) (t := 61) ?hr ?_; (case hd => rfl); (case hg => rfl); (case hr => first | (go_simp; done) | (go_simp; rfl)); intro g hg w3 hbox hb; (have BK3 := Aside0.mk hbox); (have GE := Aside0.mk (show w.heap.size ≤ g from by rw [hg]; exact below_size HB2.out)); (have NE := Aside0.mk (show g ≠ gR from by have := blk_lt BR2.out; omega)); (have BR3 := Aside0.mk (blk_below BR2.out hb)); (have HO3 := Aside0.mk (Kd.R_below HO2.out hb)); (have HB3 := Aside0.mk (below_step HB2.out hb)); (have hcz0 := (blk_cell BK3.out 0).trans rfl); (have hcz1 := (blk_cell BK3.out 1).trans rfl); (have hfz0 := blk_frozen BK3.out 0); (have hfz1 := blk_frozen BK3.out 1); clear HB2 HO2 BR2 hb hbox hg))
 have HX : Aside0 (TxAt w w w ((w3.setCell ⟨g, 0, none⟩ (.slice A2 (List.length B2) c2)).setCell ⟨g, 1, none⟩ (.int .i64 ((wN [(1, 8)] : Nat) : Int))) g gR [(1, 8)]) := ⟨TxAt.first BK3.out GE.out BR3.out HB3.out (KeepW.of_below HB3.out) (KeepW.of_below HB3.out).v HO3.out HW2.out NE.out GE.out⟩
 have hA : ((w3.setCell ⟨g, 0, none⟩ (.slice A2 (List.length B2) c2)).setCell ⟨g, 1, none⟩ (.int .i64 ((wN [(1, 8)] : Nat) : Int))).cell? ⟨g, 0, none⟩ = some (.slice A2 B2.length c2) := (blk_cell (blk_put (cs := #[.slice A2 (List.length B2) c2, .int .i64 0]) (blk_put BK3.out 0 _ rfl) 1 _ rfl) 0).trans rfl
 clear HO3 HB3 BR3 BK3 hcz0 hcz1 hfz0 hfz1
 generalize ((w3.setCell { block := g, off := 0 } (Value.slice A2 (List.length B2) c2)).setCell { block := g, off := 1 } (Value.int IntKind.i64 ((wN [(1, 8)] : Nat) : Int))) = w4 at HX hA ⊢
 obtain ⟨A5, c5, B5, bk, _, ho, hw⟩ := HX.out.bits
 have e5 := Option.some.inj (((blk_cell bk 0).trans rfl : w4.cell? ⟨g, 0, none⟩ = some (.slice A5 B5.length c5)).symm.trans hA)
 rw [← e5]
 have BK := Aside0.mk bk
 have HO := Aside0.mk ho
 have HW := Aside0.mk hw
 clear hA bk ho hw e5
 refine (BitsW.put (it := [(1, 8)]) (bitsW_of HO.out HW.out) HX.out.bel b.length 16 (by omega) (by decide) (by decide)).mono ?_
 rintro e w6 ⟨s6, rfl, hs6, hb6, hk6⟩
 obtain ⟨A6, c6, B6, rfl, ho6, hw6⟩ := hs6.cells
 have HO6 := Aside0.mk ho6
 have HW6 := Aside0.mk hw6
 have HB6 := Aside0.mk hb6
 have HK6 := Aside0.mk hk6
 have dx : wrap64 (65535 - (b.length : Int)) = ((65535 - b.length : Nat) : Int) := by rw [wrap64_in (by omega) (by omega)]; omega
 clear hs6 hb6 hk6 ho6 hw6
 go_wp2_with fail
 rw [show (65535 - (b.length : Int)) = ((65535 - b.length : Nat) : Int) from by omega]
 refine (BitsW.put (it := [(1, 8), (b.length, 16)]) (bitsW_of HO6.out HW6.out) HB6.out (65535 - b.length) 16 (by omega) (by decide) (by simp only [wN]; omega)).mono ?_
 rintro e w7 ⟨s7, rfl, hs7, hb7, hk7⟩
 obtain ⟨A7, c7, B7, rfl, ho7, hw7⟩ := hs7.cells
 have BK7 := Aside0.mk ((HK6.out.trans hk7).2 _ _ _ BK.out (by decide))
 have hcz0 := (blk_cell BK7.out 0).trans rfl
 have hcz1 := (blk_cell BK7.out 1).trans rfl
 have hfz0 := blk_frozen BK7.out 0
 have hfz1 := blk_frozen BK7.out 1
 obtain ⟨J2, hJ2⟩ : ∃ J2, J2 = [(1, 8), (b.length, 16)] ++ [(65535 - b.length, 16)] := ⟨_, rfl⟩
 rw [← hJ2] at hw7 ⊢
 have HX7 := Aside0.mk (HX.out.store (HK6.out.trans hk7) hb7 ho7 hw7 NE.out GE.out)
 have HJ2 := Aside0.mk hJ2
 have HIT : Aside0 (∀ i, i ≤ b.length → wN (J2 ++ (b.take i).map (fun c => (c.toNat, 8))) ≤ 100000) := ⟨fun i hi => by rw [hJ2, WP.wN_append, bytes8, List.length_take]; simp only [wN, List.cons_append, List.nil_append]; omega⟩
 clear hs7 hb7 hk7 ho7 hw7 HO6 HW6 HB6 HK6 HX BK HO HW hJ2
 go_wp2_with fail
 go_loopg [4] b.length (fun kq v4 w' => ∃ (i : Nat), v4 = .int .i64 i ∧ i ≤ b.length ∧ Aside0 (kq + i = b.length) ∧ Aside0 (TxAt w w w w' g gR (J2 ++ (b.take i).map (fun c => (c.toNat, 8)))))
 case atStart => exact ⟨0, rfl, Nat.zero_le _, ⟨by omega⟩, ⟨by rw [List.take_zero, List.map_nil, List.append_nil]; exact HX7.out⟩⟩
 case round =>
  clear HX7 hcz0 hcz1 hfz0 hfz1 BK7
  obtain ⟨i, rfl, hi, HG, HX⟩ := hrel
  have hni := HIT.out i hi
  obtain ⟨J, hJ⟩ : ∃ J, J = J2 ++ (b.take i).map (fun c => (c.toNat, 8)) := ⟨_, rfl⟩
  rw [← hJ] at HX hni
  have HJ := Aside0.mk hJ
  have HN := Aside0.mk hni
  clear hJ hni
  obtain ⟨A5, c5, B5, bk, _, ho, hw⟩ := HX.out.bits
  have BK := Aside0.mk bk
  have HO := Aside0.mk ho
  have HW := Aside0.mk hw
  have hcz0 : wr.cell? ⟨g, 0, none⟩ = some (.slice A5 B5.length c5) := (blk_cell bk 0).trans rfl
  have hcz1 : wr.cell? ⟨g, 1, none⟩ = some (.int .i64 (wN J : Nat)) := (blk_cell bk 1).trans rfl
  clear bk ho hw
  by_cases hlt : i < b.length
  rotate_left
  ·obtain rfl : i = b.length := by omega
   have BR := Aside0.mk HX.out.res
   have hcr0 : wr.cell? ⟨gR, 0, none⟩ = some (.slice none 0 0) := (blk_cell BR.out 0).trans rfl
   have hcr1 : wr.cell? ⟨gR, 1, none⟩ = some (.int .i64 0) := (blk_cell BR.out 1).trans rfl
   have hfr0 := blk_frozen BR.out 0
   have hfr1 := blk_frozen BR.out 1
   go_wp2_with fail
   refine bodyPost_ret (results_cell_row rfl _ _ gR 61 #[.slice A5 B5.length c5, .int .i64 (wN J : Nat)] (0, 0) _ rfl (blk_put (cs := #[.slice A5 B5.length c5, .int .i64 0]) (blk_put (cs := #[.slice none 0 0, .int .i64 0]) BR.out 0 _ rfl) 1 _ rfl) Try.underlying61 rfl (by kernel_rfl)) rfl ?_
   refine ⟨_, rfl, ?_, below_set (below_set HX.out.bel GR.out) GR.out⟩
   rw [show rstoredI b = J from by rw [HJ.out, HJ2.out, List.take_length]; rfl]
   exact bitsW_of (Kd.R_mono (Kd.R_far (p := ⟨gR, 1, none⟩) (Kd.R_far (p := ⟨gR, 0, none⟩) (Kd.R_types HO.out BR.out (by decide)) (fun _ hk => hk.2) _) (fun _ hk => hk.2) _) (fun _ _ => trivial)) HW.out
  obtain ⟨x, hx⟩ : ∃ x, x = rd b (i : Int) := ⟨_, rfl⟩
  obtain ⟨xn, hxn, hx8⟩ : ∃ n : Nat, x = (n : Int) ∧ n < 256 := by
   have h1 := HBy.out.get i
   rw [hx, rd_nat]
   exact ⟨(b.getD i 0).toNat, by omega, by omega⟩
  obtain ⟨ad, ead, _⟩ := Kd.at_int HR.out (i : Int) (by omega) (by omega)
  subst ead
  have HXR := Aside0.mk (hx.symm.trans hxn)
  have kb := bytes_at (Kd.C_below HR.out HX.out.bel) hlt HXR.out
  have HXN : Aside0 ((b.take (i + 1)).map (fun c => (c.toNat, 8)) = (b.take i).map (fun c => (c.toNat, 8)) ++ [(xn, 8)]) := ⟨by
   rw [List.take_add_one, List.map_append, List.getElem?_eq_getElem hlt]
   have e : b[i] = (xn : Int) := by rw [← hxn, hx, rd_nat, List.getD_eq_getElem?_getD, List.getElem?_eq_getElem hlt]; rfl
   simp [e]⟩
  have dw : wrap64 (xn : Int) = (xn : Int) := wrap64_in (by omega) (by omega)
  clear hx hxn
  go_wp2_with fail
  refine start_ (n := 8) (S := fun w' => w'.cell? ⟨g, 0, none⟩ = some (.slice A5 B5.length c5) ∧ w'.cell? ⟨g, 1, none⟩ = some (.int .i64 (wN J : Nat)) ∧ w'.cell? (ad.add i) = some (.int .u8 xn)) (ds := [7]) #[false, false, false, false, false, false, false, false] (by kernel_rfl) rfl rfl ⟨hcz0, hcz1, kb⟩ (fun hHeld => ?_)
  refine pure_ (i := 1) (N := some 22) (v := ?_) (a' := ?_) #[false, true, false, false, false, false, false, false] rfl rfl (by kernel_rfl) (fun _ _ _ h => h) (Or.inl ⟨by rfl, ?_⟩) ?_ ?_
  rotate_left
  ·intro w'
   go_simp
   with_reducible rfl
  rotate_left
  ·simp only [Act.put, List.setIfInBounds_toArray, List.set_cons_zero, List.set_cons_succ, i64_w, i32_w]
   rfl
  refine pure_ (i := 2) (N := some 23) (v := ?_) (a' := ?_) #[false, true, true, false, false, false, false, false] rfl rfl (by kernel_rfl) (fun _ _ _ h => h) (Or.inl ⟨by rfl, ?_⟩) ?_ ?_
  rotate_left
  ·intro w'
   go_simp
   with_reducible rfl
  rotate_left
  ·simp only [Act.put, List.setIfInBounds_toArray, List.set_cons_zero, List.set_cons_succ, i64_w, i32_w]
   rfl
  refine pure_ (i := 3) (N := some 24) (v := ?_) (a' := ?_) #[false, true, true, true, false, false, false, false] rfl rfl (by kernel_rfl) (fun _ _ _ h => h) (Or.inl ⟨by rfl, ?_⟩) ?_ ?_
  rotate_left
  ·intro w'
   go_simp
   with_reducible rfl
  rotate_left
  ·simp only [Act.put, List.setIfInBounds_toArray, List.set_cons_zero, List.set_cons_succ, i64_w, i32_w]
   rfl
  refine take_ (i := 0) (N := some 21) (v := ?_) (a' := ?_) #[true, true, true, true, false, false, false, false] rfl rfl (by kernel_rfl) (fun _ _ _ h => h) (Or.inl ⟨by rfl, ?_⟩) hHeld ?_ ?_
  rotate_left
  ·rintro w' ⟨s0, s1, s2⟩
   go_simp
   with_reducible rfl
  rotate_left
  ·simp only [Act.put, List.setIfInBounds_toArray, List.set_cons_zero, List.set_cons_succ, i64_w, i32_w]
   rfl
  refine take_ (i := 4) (N := some 25) (v := ?_) (a' := ?_) #[true, true, true, true, true, false, false, false] rfl rfl (by kernel_rfl) (fun _ _ _ h => h) (Or.inl ⟨by rfl, ?_⟩) hHeld ?_ ?_
  rotate_left
  ·rintro w' ⟨s0, s1, s2⟩
   go_simp
   with_reducible rfl
  rotate_left
  ·simp only [Act.put, List.setIfInBounds_toArray, List.set_cons_zero, List.set_cons_succ, i64_w, i32_w]
   rfl
  refine pure_ (i := 5) (N := some 26) (v := ?_) (a' := ?_) #[true, true, true, true, true, true, false, false] rfl rfl (by kernel_rfl) (fun _ _ _ h => h) (Or.inl ⟨by rfl, ?_⟩) ?_ ?_
  rotate_left
  ·intro w'
   go_simp
   with_reducible rfl
  rotate_left
  ·simp only [Act.put, List.setIfInBounds_toArray, List.set_cons_zero, List.set_cons_succ, i64_w, i32_w]
   rfl
  refine one_ (i := 6) (N := some 27) #[true, true, true, true, true, true, true, false] rfl rfl (by kernel_rfl) (by decide) (fun K hK => ?_)
  refine goes_ Try.func78 (by kernel_rfl) rfl #[.agg #[.slice A5 B5.length c5, .int .i64 (wN J : Nat)], .int .i64 (wrap64 xn), .int .i64 8] (by rfl) rfl rfl (by simp only [List.map_toArray, List.map_cons, List.map_nil]; rfl) ?_
  with_reducible refine (BitsW.putI (it := J) (w0 := w) (w := wr.drew) (bitsW_of (Kd.R_drew HO.out) HW.out) HX.out.bel.drew xn 8 (wrap64 xn) 8 dw rfl (by omega) (by decide) (by have := HN.out; omega)).mono ?_
  rintro e w3 ⟨s3, rfl, hs3, hB3, hK3⟩
  refine ⟨_, rfl, ?_⟩
  obtain ⟨A3, c3, B3, rfl, ho3, hw3⟩ := hs3.cells
  have hk3 := (KeepW.of_below (Below.refl _ wr).drew).trans hK3
  have HO3 := Aside0.mk ho3
  have HW3 := Aside0.mk hw3
  have HB3 := Aside0.mk hB3
  have HK3 := Aside0.mk hk3
  have BK3 := Aside0.mk (hk3.2 _ _ _ BK.out (by decide))
  have hc30 : w3.cell? ⟨g, 0, none⟩ = some (.slice A5 B5.length c5) := (blk_cell BK3.out 0).trans rfl
  have hc31 : w3.cell? ⟨g, 1, none⟩ = some (.int .i64 (wN J : Nat)) := (blk_cell BK3.out 1).trans rfl
  have hf30 := blk_frozen BK3.out 0
  have hf31 := blk_frozen BK3.out 1
  have kb3 := bytes_at (Kd.C_below HR.out hB3) hlt HXR.out
  clear hs3 ho3 hw3 hK3 hk3 hB3
  refine hK.out _ _ ⟨hc30, hc31, kb3⟩ (fun hHeld => ?_)
  clear hK K
  refine norm_ (a' := ?_) ?_ ?_
  rotate_left
  ·show Act.put _ (some 27) _ = _
   simp only [Act.put, List.setIfInBounds_toArray, List.set_cons_zero, List.set_cons_succ, i64_w, i32_w]
   rfl
  refine last_ (i := 7) (N := none) #[true, true, true, true, true, true, true, true] rfl rfl (by kernel_rfl) (by decide) (fun K hK => ?_)
  refine skip_ (w1 := ?_) (by rfl) rfl ?_ ?_
  rotate_left
  ·go_simp
   rfl
  refine hK.out _ _ ?_
  clear hK K
  refine done_ (by kernel_rfl) ?_
  clear hHeld hc30 hc31 hf30 hf31 kb3 kb hcz0 hcz1
  go_wp2_with fail
  go_roundg (gk - 1)
  case measure => have := HG.out; omega
  case rel =>
   refine ⟨i + 1, by go_num, by omega, ⟨by have := HG.out; omega⟩, ⟨?_⟩⟩
   rw [HXN.out, ← List.append_assoc, ← HJ.out]
   exact HX.out.store HK3.out HB3.out HO3.out HW3.out NE.out GE.out
theorem readsT_own {w : World} {base : Nat} {ok : Nat → Prop} {A : Option Addr} {n c : Nat} {l : List S53} (h : Kd.R k53 53 w base ok (.slice A n c) l) : ReadsT w A l ∧ n = l.length ∧ l.length ≤ c := by
 refine ⟨fun W hk => ?_, (Kd.R_reads' h).1, by have h1 := (Kd.R_reads' h).1; have h2 := (Kd.R_reads' h).2.1; omega⟩
 have h1 := Kd.R_move (w1 := W) (Kd.R_bound h) (fun k hkk => by
  obtain ⟨_, _, _, q, hq, cells, hc⟩ := hkk
  have hq3 : q = 53 := by simpa [k53, Kd.iso, Kd.pair, Kd.int, Kd.scalar] using hq
  subst hq3
  rw [hc]
  exact hk.2 k cells _ hc (by decide) (by decide))
 exact (Kd.R_reads' h1).2.2
theorem rfix_is : wherryref01_Fixed.f = some (fixL, fixD) := by decide +kernel
theorem rtokens_is {b : List Int} (hl : b.length ≤ 4096) : wherryref01_tokens.f 700000 b = some (T b) := by
 unfold wherryref01_tokens.f
 have h := Go.Proofs.Ytlffpaploefljaa.Tok.refTokens_loop b hl b.length 0 700000 [] (by omega) (by omega) (by simp; omega) (by omega)
 exact h
/-- What a block by the fixed lengths is written as, by the reference. -/
def rfixedI (b : List Int) : List (Nat × Nat) := [(3, 3)] ++ bodyI (T b) fixL fixD
theorem rfixed_bits (b : List Int) : wN (rfixedI b) = wN (knownI (T b)) ∧ wX (rfixedI b) = wX (knownI (T b)) := by
 unfold rfixedI knownI
 constructor
 ·simp only [List.cons_append, List.nil_append, wN]
  omega
 ·simp only [List.cons_append, List.nil_append, wX]
  omega
set_option maxHeartbeats 8000000 in
set_option maxRecDepth 100000 in
theorem wr_fixed {w : World} {b : List Int} (A : Option Addr) (c : Nat) (hb : Bytes b) (hl : b.length ≤ 4096) (hr : Kd.C (Kd.int .u8) w A b.length b) (hc : b.length ≤ c) :
  Calls Try.prog 46 #[.slice A b.length c] w fun e w' => ∃ s', e = .returned s' ∧ BitsW w w' s' (rfixedI b) ∧ Below w.heap.size w w' := by
 obtain ⟨_, _, _, hT4, hTf⟩ := T_ok b hb hl
 have HT : Aside0 (∀ t ∈ T b, Fine t ∧ TokHas fixL fixD t) := ⟨fun t ht => ⟨hTf t ht, fix_toks (hTf t ht)⟩⟩
 have HR := Aside0.mk hr
 have HB := Aside0.mk (Below.refl w.heap.size w)
 have hu := Try.underlying61
 clear hr hb hTf
 go_enter Try.func46, Try.ntmps46
 go_wp2_with (first
  | ((with_reducible refine gate_dst (N := 2) rfl ?_); refine box_event ?hg (N := 2) ?hd (cs := #[.slice none 0 0, .int .i64 0]) (t := 61) ?hr ?_; (case hd => rfl); (case hg => rfl); (case hr => first | (go_simp; done) | (go_simp; rfl)); intro gR hg w1 hbox hb; (have BR := Aside0.mk hbox); (have GR := Aside0.mk (show w.heap.size ≤ gR from by omega)); (have HB1 := Aside0.mk (below_step HB.out hb)); clear HB hb hbox hg))
 refine (wherryref01_Fixed.calls fixL fixD w1 rfix_is).mono ?_
 rintro e w2 ⟨v0, v1, rfl, ho0, ho1, hb2⟩
 obtain ⟨Al, cl, el⟩ := Kd.R_slice ho0
 subst el
 obtain ⟨Ad, cd, ed⟩ := Kd.R_slice ho1
 subst ed
 obtain ⟨rl, _, hcl⟩ := readsW_own ho0
 obtain ⟨rd_, _, hcd⟩ := readsW_own ho1
 have RL := Aside0.mk rl
 have RD := Aside0.mk rd_
 have BR2 := Aside0.mk (blk_below BR.out hb2)
 have HB2 := Aside0.mk (below_then HB1.out HB1.out.size hb2)
 clear ho0 ho1 rl rd_ hb2 BR HB1
 go_wp2_with fail
 refine (BitsW.putI (w0 := w) (w := w2) (it := []) (BitsW.nil HB2.out.size) HB2.out 3 3 3 3 rfl rfl (by decide) (by decide) (by decide)).mono ?_
 rintro e w3 ⟨s3, rfl, hs3, hb3, hk3⟩
 have HS3 := Aside0.mk hs3
 have HB3 := Aside0.mk hb3
 have BR3 := Aside0.mk (hk3.2 _ _ _ BR2.out (by decide))
 have HK3 := Aside0.mk hk3.v
 clear hs3 hb3 hk3 BR2 HB2
 go_wp2_with fail
 refine (wherryref01_tokens.calls 700000 A c b (T b) w3 (Kd.C_below HR.out HB3.out) hc (rtokens_is hl)).mono ?_
 rintro e w4 ⟨vt, rfl, ho4, hb4⟩
 obtain ⟨At, ct, et⟩ := Kd.R_slice ho4
 subst et
 obtain ⟨rt, _, hct⟩ := readsT_own ho4
 have RT := Aside0.mk rt
 have HS4 := Aside0.mk (HS3.out.below hb4)
 have HB4 := Aside0.mk (below_then HB3.out HB3.out.size hb4)
 have BR4 := Aside0.mk (blk_below BR3.out hb4)
 have HK4 := Aside0.mk (HK3.out.trans (KeepW.of_below hb4).v)
 have hfl := fixL_len
 have hfd := fixD_len
 clear ho4 rt hb4 HS3 HB3 BR3 HK3
 go_wp2_with fail
 refine (wr_text (w0 := w) (it := [] ++ [(3, 3)]) (makes_of fixL_check) (makes_of fixD_check) (fixL_has (by decide)) (by omega) (by omega) HT.out (by omega) At Al Ad ct cl cd RT.out hct (RL.out.keep HK4.out) hcl (RD.out.keep HK4.out) hcd HS4.out HB4.out (by decide)).mono ?_
 rintro e w5 ⟨s5, rfl, hs5, hb5, hk5⟩
 obtain ⟨A5, c5, B5, rfl, ho5, hw5⟩ := hs5.cells
 have BR5 := Aside0.mk (hk5.2 _ _ _ BR4.out (by decide))
 have hcr0 : w5.cell? ⟨gR, 0, none⟩ = some (.slice none 0 0) := (blk_cell BR5.out 0).trans rfl
 have hcr1 : w5.cell? ⟨gR, 1, none⟩ = some (.int .i64 0) := (blk_cell BR5.out 1).trans rfl
 have hfr0 := blk_frozen BR5.out 0
 have hfr1 := blk_frozen BR5.out 1
 have HO5 := Aside0.mk ho5
 have HW5 := Aside0.mk hw5
 have HB5 := Aside0.mk hb5
 clear hs5 ho5 hw5 hb5 hk5
 go_wp2_with fail
 refine bodyPost_ret (results_cell_row rfl _ _ gR 61 #[.slice A5 B5.length c5, .int .i64 (wN ([] ++ [(3, 3)] ++ bodyI (T b) fixL fixD) : Nat)] (0, 0) _ rfl (blk_put (cs := #[.slice A5 B5.length c5, .int .i64 0]) (blk_put (cs := #[.slice none 0 0, .int .i64 0]) BR5.out 0 _ rfl) 1 _ rfl) Try.underlying61 rfl (by kernel_rfl)) rfl ?_
 exact ⟨_, rfl, bitsW_of (Kd.R_mono (Kd.R_far (p := ⟨gR, 1, none⟩) (Kd.R_far (p := ⟨gR, 0, none⟩) (Kd.R_types HO5.out BR5.out (by decide)) (fun _ hk => hk.2) _) (fun _ hk => hk.2) _) (fun _ _ => trivial)) HW5.out, below_set (below_set HB5.out GR.out) GR.out⟩
end Go.Proofs.Ytlffpaploefljaa.Wr
