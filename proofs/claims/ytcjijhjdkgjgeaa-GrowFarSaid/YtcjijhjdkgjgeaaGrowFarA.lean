/- A fixed block written by hand, two bytes and a piece: what is read of it; used by the claims of this seat. -/
import Derived.Test.YtcjijhjdkgjgeaaGrowRead3
import Derived.Test.YtcjijhjdkgjgeaaPx0
import Derived.Test.YtcjijhjdkgjgeaaPx1
import Derived.Test.YtcjijhjdkgjgeaaPx2
import Derived.Test.YtcjijhjdkgjgeaaPx16
import Derived.Test.YtcjijhjdkgjgeaaPx25
namespace Go.Proofs.Ytcjijhjdkgjgeaa.Glue
open Go.RowKit Go.Proofs.Ytcjijhjdkgjgeaa.P Go.Proofs.YtcjijhjdkgjgeaaW.PrintWords Go.Proofs.YtcjijhjdkgjgeaaW.PrintLast Go.Proofs.YtcjijhjdkgjgeaaW.PrintMore
open WP (Row Bytes at_ val wN wX Wrote)
open Go.Proofs.Ytcjijhjdkgjgeaa.Tok (LenSym DistSym OkT OkL sizeL sizeT sizeL_ge exT copyN copyN_len)
set_option linter.unusedVariables false
set_option linter.unusedSimpArgs false
/-! ### a fixed block written by hand: two bytes and a piece -/
theorem far_lit : ∀ x : Fin 128, codeI fixL x.val = (WP.rev 8 (48 + x.val), 8) := by decide +kernel
theorem far_len : ∀ k : Fin 8, codeI fixL (257 + k.val) = (WP.rev 7 (k.val + 1), 7) := by decide +kernel
theorem far_dist : ∀ d : Fin 4, codeI fixD d.val = (WP.rev 5 d.val, 5) := by decide +kernel
theorem far_end : codeI fixL 256 = (0, 7) := by decide +kernel
theorem len_far : ∀ k : Fin 8, lenOf (3 + (k.val : Int)) = (257 + k.val, 0, 0) := by decide +kernel
theorem dist_far : ∀ d : Fin 4, distOf (1 + (d.val : Int)) = (d.val, 0, 0) := by decide +kernel
def farI (x0 x1 k d : Nat) : List (Nat × Nat) := [(1, 1), (1, 2), (WP.rev 8 (48 + x0), 8), (WP.rev 8 (48 + x1), 8), (WP.rev 7 (k + 1), 7), (WP.rev 5 d, 5), (0, 7)]
def farT (x0 x1 k d : Nat) : List S70 := [⟨(x0 : Int), 0, 0⟩, ⟨(x1 : Int), 0, 0⟩, ⟨0, 3 + (k : Int), 1 + (d : Int)⟩]
theorem farI_lt (x0 x1 k d : Nat) : Lt (farI x0 x1 k d) := by
  intro p hp
  simp only [farI, List.mem_cons, List.not_mem_nil, or_false] at hp
  rcases hp with rfl | rfl | rfl | rfl | rfl | rfl | rfl
  · decide
  · decide
  · exact WP.rev_lt _ _
  · exact WP.rev_lt _ _
  · exact WP.rev_lt _ _
  · exact WP.rev_lt _ _
  · decide
theorem farI_N (x0 x1 k d : Nat) : wN (farI x0 x1 k d) = 38 := rfl
theorem stand_zero {X a : Nat} {r : List (Nat × Nat)} (h : Stand X a r) : Stand X a ((0, 0) :: r) := ⟨Nat.mod_one _, h⟩
theorem farB {x0 x1 k d : Nat} (h0 : x0 < 128) (h1 : x1 < 128) (hk : k < 8) (hd : d < 4) : bodyI (farT x0 x1 k d) fixL fixD = [(WP.rev 8 (48 + x0), 8), (WP.rev 8 (48 + x1), 8), (WP.rev 7 (k + 1), 7), (0, 0), (WP.rev 5 d, 5), (0, 0), (0, 7)] := by
  have a0 := far_lit ⟨x0, h0⟩
  have a1 := far_lit ⟨x1, h1⟩
  have a2 := far_len ⟨k, hk⟩
  have a3 := far_dist ⟨d, hd⟩
  have a4 := len_far ⟨k, hk⟩
  have a5 := dist_far ⟨d, hd⟩
  simp only at a0 a1 a2 a3 a4 a5
  unfold bodyI farT tokI
  simp only [List.flatMap_cons, List.flatMap_nil, List.append_nil, List.cons_append, List.nil_append, if_true, Int.toNat_natCast]
  rw [if_neg (by omega), a0, a1, a4, a5, far_end]
  simp only [a2, a3, List.cons_append, List.nil_append]
theorem far_stand {X x0 x1 k d : Nat} (h0 : x0 < 128) (h1 : x1 < 128) (hk : k < 8) (hd : d < 4) (h : Stand X 0 (farI x0 x1 k d)) : Stand X 3 (bodyI (farT x0 x1 k d) fixL fixD) := by
  rw [farB h0 h1 hk hd]
  obtain ⟨_, _, h2, h3, h4, h5, h6, _⟩ := h
  exact ⟨h2, h3, h4, stand_zero ⟨h5, stand_zero ⟨h6, trivial⟩⟩⟩
theorem farT_fine {x0 x1 k d : Nat} (h0 : x0 < 128) (h1 : x1 < 128) (hk : k < 8) (hd : d < 4) : ∀ t ∈ farT x0 x1 k d, Fine t := by
  intro t ht
  simp only [farT, List.mem_cons, List.not_mem_nil, or_false] at ht
  rcases ht with rfl | rfl | rfl
  · exact ⟨by simp only; omega, by simp only; omega, .inl ⟨rfl, rfl⟩⟩
  · exact ⟨by simp only; omega, by simp only; omega, .inl ⟨rfl, rfl⟩⟩
  · exact ⟨by simp only; omega, by simp only; omega, .inr ⟨by simp only; omega, by simp only; omega, by simp only; omega, by simp only; omega⟩⟩
section
variable {b : List Int} (hb : Bytes b) (hl : b.length < 2 ^ 40)
include hb hl
/-- A byte's symbol is read where it stands. -/
theorem lit_is {lits dists : List Int} (hm : Makes lits) {x : Nat} (hx : x < 256) (hh : Has lits x) {most : Int} {s : RSt} (h : s.er = 0) {p : Nat} (hp : s.pos = (p : Int)) (hr : (s.out.length : Int) < most) (hmost : most ≤ 100000) (hat : at_ (val b) p (codeI lits x).2 = (codeI lits x).1) (he : p + (codeI lits x).2 ≤ 8 * b.length) (k : Nat) :
    codedL (fun n => (openF lits n : Int)) (symsTo lits lits.length) (fun n => (openF dists n : Int)) (symsTo dists dists.length) b most (k + 1) s = codedL (fun n => (openF lits n : Int)) (symsTo lits lits.length) (fun n => (openF dists n : Int)) (symsTo dists dists.length) b most k { s with pos := ((p + (codeI lits x).2 : Nat) : Int), out := s.out ++ [(x : Int)] } := by
  rw [codedL, if_neg (by rw [h]; simp), sym_is hb hl hm hh h hp he hat, Option.bind_some]
  simp only
  rw [if_neg (by rw [h]; simp; omega), if_pos (by omega), if_pos (by omega), tell_is (s := { s with pos := ((p + (codeI lits x).2 : Nat) : Int) }) h hr, show ((x : Nat) : Int) % 256 = (x : Int) from by omega]
/-- A piece that reaches ahead of all that was told is none. -/
theorem piece_far {lits dists : List Int} (hd : Makes dists) {t : S70} (hf : Fine t) (h0 : t.f1 ≠ 0) (hD : Has dists (distOf t.f2).1) {most : Int} {s : RSt} (h : s.er = 0) {p : Nat} (hp : s.pos = (p : Int)) {r : List (Nat × Nat)}
    (hst : Stand (val b) p (((lenOf t.f1).2.2, (lenOf t.f1).2.1) :: codeI dists (distOf t.f2).1 :: ((distOf t.f2).2.2, (distOf t.f2).2.1) :: r)) (he : p + (lenOf t.f1).2.1 + (codeI dists (distOf t.f2).1).2 + (distOf t.f2).2.1 ≤ 8 * b.length)
    (hback : s.out.length < t.f2.toNat) :
    ∃ r, pieceS (fun n => (openF dists n : Int)) (symsTo dists dists.length) b most s ((lenOf t.f1).1 : Int) = some r ∧ r.er = 3 := by
  have hp3 := piece_in hf h0
  have l1 := (lenOf_is hp3.1 hp3.2.1).1
  have d1 := (distOf_is hp3.2.2.1 (show t.f2 ≤ 32768 by omega)).1
  obtain ⟨x, ex, exn⟩ := lenOf_back l1
  obtain ⟨y, ey, eyn⟩ := distOf_back d1
  have l2 := l1.le
  have d2 := d1.le
  obtain ⟨a1, a2, a3, _⟩ := hst
  simp only at a1 a3
  unfold pieceS
  rw [ex, Option.bind_some]
  simp only [beq_self_eq_true, want_yes]
  rw [if_neg (by rw [h]; simp), take_is hb hl h hp (by omega) (by omega) a1, Option.bind_some]
  simp only
  unfold pieceD
  rw [sym_is hb hl hd hD (s := { s with pos := ((p + (lenOf t.f1).2.1 : Nat) : Int) }) h rfl (by omega) a2, Option.bind_some, ey, Option.bind_some]
  simp only [beq_self_eq_true, want_yes]
  rw [if_neg (by rw [h]; simp), take_is hb hl (s := { s with pos := ((p + (lenOf t.f1).2.1 + (codeI dists (distOf t.f2).1).2 : Nat) : Int) }) h rfl (by omega) (by omega) a3, Option.bind_some]
  simp only
  rw [wrap64_in (a := (x : Int) + _) (by omega) (by omega), wrap64_in (a := (y : Int) + _) (by omega) (by omega)]
  have e2 : (y : Int) + ((distOf t.f2).2.2 : Int) = (t.f2.toNat : Int) := by omega
  rw [e2, decide_eq_false (by omega)]
  unfold wantS
  rw [if_pos ⟨h, rfl⟩]
  unfold pieceG
  rw [if_pos (by simp)]
  exact ⟨_, rfl, rfl⟩
end
section
variable {b : List Int} {x0 x1 k d : Nat} (hw : Wrote b (farI x0 x1 k d)) (h0 : x0 < 128) (h1 : x1 < 128) (hk : k < 8) (hd : d < 4)
include hw h0 h1 hk hd
theorem far_fixed (s : RSt) (h : s.er = 0) (hp : s.pos = ((0 + 3 : Nat) : Int)) (ho : s.out = []) : ∃ r, fixedS b 4096 50000 s = some r ∧ (if d ≤ 1 then r = { s with pos := ((38 : Nat) : Int), out := copyN (3 + k) (1 + d) [(x0 : Int), (x1 : Int)] } else r.er = 3) := by
  have hb := hw.bytes
  have hlen : b.length = 5 := hw.len.trans (by rw [farI_N])
  have hl : b.length < 2 ^ 40 := by omega
  have hst0 : Stand (val b) 0 (farI x0 x1 k d) := by
    have := at_wrote [] _ (farI_lt x0 x1 k d)
    rw [List.nil_append] at this
    rw [hw.val]
    exact this
  have hst := far_stand h0 h1 hk hd hst0
  have hB := farB h0 h1 hk hd
  have hf := farT_fine h0 h1 hk hd
  unfold fixedS
  rw [fix_is, Option.bind_some, if_pos ⟨((check_iff _).1 fixL_check).1, ((check_iff _).1 fixD_check).1⟩]
  simp only
  by_cases hd1 : d ≤ 1
  · have hok : OkL (farT x0 x1 k d) s.out.length := by
      rw [ho]
      unfold farT
      refine ⟨.inl ⟨rfl, rfl⟩, .inl ⟨rfl, rfl⟩, .inr ⟨rfl, ?_, ?_, ?_, ?_, ?_⟩, trivial⟩
      · simp only; omega
      · simp only; omega
      · simp only; omega
      · simp only [sizeT, if_true, List.length_nil]; omega
      · simp only; omega
    have hsz : sizeL (farT x0 x1 k d) ≤ 20 := by
      unfold farT
      simp only [sizeL, sizeT, if_true]
      rw [if_neg (by omega)]
      omega
    have hN : wN (bodyI (farT x0 x1 k d) fixL fixD) = 35 := by rw [hB]; rfl
    refine ⟨_, coded_is hb hl (makes_of fixL_check) (makes_of fixD_check) (fixL_has (by decide)) (by decide) (farT x0 x1 k d) 50000 s (0 + 3) (by unfold farT; simp) h hp (fun t ht => ⟨hf t ht, fix_toks (hf t ht)⟩) hok (by rw [ho]; simp only [List.length_nil]; omega) (by simpa using hst) (by omega), ?_⟩
    rw [if_pos hd1, hN, ho]
    unfold farT
    simp only [exT, if_true, List.nil_append, List.cons_append]
    rw [if_neg (by omega), show (3 + (k : Int)).toNat = 3 + k from by omega, show (1 + (d : Int)).toNat = 1 + d from by omega]
  · simp only [if_neg hd1]
    have c0 := far_lit ⟨x0, h0⟩
    have c1 := far_lit ⟨x1, h1⟩
    have c2 := far_len ⟨k, hk⟩
    have c3 := far_dist ⟨d, hd⟩
    have c4 := len_far ⟨k, hk⟩
    have c5 := dist_far ⟨d, hd⟩
    simp only at c0 c1 c2 c3 c4 c5
    rw [hB] at hst
    obtain ⟨s0, s1, s2, s3⟩ := hst
    simp only at s0 s1 s2
    rw [lit_is hb hl (makes_of fixL_check) (x := x0) (by omega) (fixL_has (by omega)) h hp (by rw [ho]; decide) (by decide) (by rw [c0]; exact s0) (by rw [c0]; simp only; omega) 49999]
    rw [lit_is hb hl (makes_of fixL_check) (x := x1) (by omega) (fixL_has (by omega)) (s := { s with pos := ((0 + 3 + (codeI fixL x0).2 : Nat) : Int), out := s.out ++ [(x0 : Int)] }) h (p := 0 + 3 + (codeI fixL x0).2) rfl (by rw [ho]; simp) (by decide) (by rw [c0, c1]; exact s1) (by rw [c0, c1]; simp only; omega) 49998]
    simp only [c0, c1, ho, List.nil_append, List.cons_append]
    have hpf := piece_far (lits := fixL) hb hl (makes_of fixD_check) (t := ⟨0, 3 + (k : Int), 1 + (d : Int)⟩) (hf _ (by unfold farT; simp)) (by simp only; omega) (by simp only [c5]; exact fixD_has (by omega)) (most := 4096) (s := { s with pos := ((0 + 3 + 8 + 8 + 7 : Nat) : Int), out := [(x0 : Int), (x1 : Int)] }) h (p := 0 + 3 + 8 + 8 + 7) rfl (r := [(0, 7)]) (by
      simp only [c4, c5, c3]
      exact s3) (by simp only [c4, c5, c3]; omega) (by simp only [List.length_cons, List.length_nil]; omega)
    obtain ⟨r, er, e3⟩ := hpf
    simp only [c4] at er
    refine ⟨r, ?_, e3⟩
    rw [codedL, if_neg (by simp only; rw [h]; simp), sym_is hb hl (makes_of fixL_check) (j := 257 + k) (fixL_has (by omega)) (s := { s with pos := ((0 + 3 + 8 + 8 : Nat) : Int), out := [(x0 : Int), (x1 : Int)] }) h (p := 0 + 3 + 8 + 8) rfl (by rw [c2]; simp only; omega) (by rw [c2]; exact s2), Option.bind_some]
    simp only [c2]
    rw [if_neg (by rw [h]; simp; omega), if_neg (by omega), er, Option.bind_some, codedL, if_pos (by rw [e3]; decide)]
/-- What Grow tells of it. -/
theorem far_grow : grow_Grow.f b 4096 = some (if d ≤ 1 then (copyN (3 + k) (1 + d) [(x0 : Int), (x1 : Int)], 0) else ([], 3)) := by
  have hb := hw.bytes
  have hlen : b.length = 5 := hw.len.trans (by rw [farI_N])
  have hl : b.length < 2 ^ 40 := by omega
  have hst0 : Stand (val b) 0 (farI x0 x1 k d) := by
    have := at_wrote [] _ (farI_lt x0 x1 k d)
    rw [List.nil_append] at this
    rw [hw.val]
    exact this
  obtain ⟨r, er, hr⟩ := far_fixed hw h0 h1 hk hd { startS with pos := ((0 + 3 : Nat) : Int) } rfl rfl rfl
  have hstep := stream_step hb hl (most := 4096) (s := startS) rfl (p := 0) rfl hst0 (by omega) (N := 400) (M := 50000) 49999 (s3 := r) (by
    unfold blockS
    rw [if_neg (by decide), if_pos (by decide)]
    exact er)
  replace hstep := hstep.trans (stream_stop 49998 (by decide) _)
  by_cases hd1 : d ≤ 1
  · rw [if_pos hd1] at hr ⊢
    have hstep2 : streamL b 4096 400 50000 50000 0 startS = some ⟨((38 : Nat) : Int), copyN (3 + k) (1 + d) [(x0 : Int), (x1 : Int)], wrap64 (0 + 1), 0⟩ := by
      rw [hr] at hstep
      exact hstep
    unfold grow_Grow.f runS
    rw [if_neg (by decide), if_neg (by omega)]
    unfold streamS
    rw [hstep2, Option.bind_some, if_neg (by simp), pad_is hb hl (s := ⟨((38 : Nat) : Int), copyN (3 + k) (1 + d) [(x0 : Int), (x1 : Int)], wrap64 (0 + 1), 0⟩) rfl (p := 38) rfl (by decide) (by omega) (by
      rw [hw.val]
      unfold at_
      rw [Nat.div_eq_of_lt (by have := WP.wX_lt (farI x0 x1 k d); rw [farI_N] at this; exact this), Nat.zero_mod]), Option.bind_some]
    simp only
    rw [hlen, show (((38 + (8 - 38 % 8) % 8 : Nat) : Int) == wrap64 (8 * ((5 : Nat) : Int))) = true from by decide +kernel, want_yes, Option.bind_some, if_neg (by simp)]
  · rw [if_neg hd1] at hr ⊢
    unfold grow_Grow.f runS
    rw [if_neg (by decide), if_neg (by omega)]
    unfold streamS
    rw [show (50000 : Nat) = 49999 + 1 from rfl, hstep, Option.bind_some]
    have h3 : r.er ≠ 0 := by rw [hr]; decide
    rw [if_pos h3, Option.bind_some]
    simp only
    rw [if_pos h3, hr]
end
end Go.Proofs.Ytcjijhjdkgjgeaa.Glue
