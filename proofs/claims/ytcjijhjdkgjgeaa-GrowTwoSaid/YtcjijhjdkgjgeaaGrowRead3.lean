/- What is written is read: whole blocks, one behind the other; used by the claims of this seat. -/
import Derived.Test.YtcjijhjdkgjgeaaGrowRead2
import Derived.Test.YtcjijhjdkgjgeaaPx1
import Derived.Test.YtcjijhjdkgjgeaaPx2
import Derived.Test.YtcjijhjdkgjgeaaPx25
namespace Go.Proofs.Ytcjijhjdkgjgeaa.Glue
open Go.RowKit Go.Proofs.Ytcjijhjdkgjgeaa.P Go.Proofs.YtcjijhjdkgjgeaaW.PrintWords Go.Proofs.YtcjijhjdkgjgeaaW.PrintLast Go.Proofs.YtcjijhjdkgjgeaaW.PrintMore
open WP (Row Bytes at_ val wN wX Wrote)
open Go.Proofs.Ytcjijhjdkgjgeaa.Tok (LenSym DistSym OkT OkL sizeL sizeT sizeL_ge exT)
open RowSteps
set_option linter.unusedVariables false
set_option linter.unusedSimpArgs false
/-! ### what stands behind other bytes -/
theorem at_shift (pre x : List Int) (hp : Bytes pre) (a n : Nat) : at_ (val (pre ++ x)) (8 * pre.length + a) n = at_ (val x) a n := by
  have h := WP.val_lt hp
  rw [WP.pow256] at h
  rw [WP.val_append, WP.pow256]
  unfold at_
  rw [Nat.pow_add, ← Nat.div_div_eq_div_mul, Nat.add_mul_div_left _ _ (Nat.two_pow_pos _), Nat.div_eq_of_lt h, Nat.zero_add]
theorem at_front (x post : List Int) (a n : Nat) (h : a + n ≤ 8 * x.length) : at_ (val (x ++ post)) a n = at_ (val x) a n := by
  rw [WP.val_append, WP.pow256, Nat.mul_comm]
  exact WP.at_low _ _ _ _ _ h
theorem stand_shift {pre x : List Int} (post : List Int) (hp : Bytes pre) : ∀ (it : List (Nat × Nat)) (a : Nat), Stand (val x) a it → a + wN it ≤ 8 * x.length → Stand (val (pre ++ (x ++ post))) (8 * pre.length + a) it
  | [], _, _, _ => trivial
  | p :: it, a, h, he => by
    simp only [wN] at he
    refine ⟨?_, ?_⟩
    · rw [at_shift pre _ hp, at_front x post a p.2 (by omega)]
      exact h.1
    · rw [Nat.add_assoc]
      exact stand_shift post hp it (a + p.2) h.2 (by omega)
theorem pen_room {s : List Int × Nat} {it : List (Nat × Nat)} (h : PenW s it) : wN it ≤ 8 * s.1.length ∧ 8 * s.1.length < wN it + 8 := by
  have := h.1.len
  omega
section
variable {b : List Int} (hb : Bytes b) (hl : b.length < 2 ^ 40)
include hb hl
/-- One block more. -/
theorem stream_step {most : Int} {s s3 : RSt} (h : s.er = 0) {p : Nat} (hp : s.pos = (p : Int)) {f k : Nat} {r : List (Nat × Nat)} (hst : Stand (val b) p ((f, 1) :: (k, 2) :: r)) (he : p + 3 ≤ 8 * b.length) {N M : Nat} (n : Nat)
    (hbk : blockS b most N M (k : Int) { s with pos := ((p + 3 : Nat) : Int) } = some s3) :
    streamL b most N M (n + 1) 0 s = streamL b most N M n (f : Int) { s3 with bl := wrap64 (s3.bl + 1) } := by
  obtain ⟨a1, a2, _⟩ := hst
  simp only at a1 a2
  rw [streamL, if_pos ⟨rfl, h⟩, show (1 : Int) = ((1 : Nat) : Int) from rfl, take_is hb hl h hp (by omega) (by omega) a1, Option.bind_some]
  simp only
  rw [show (2 : Int) = ((2 : Nat) : Int) from rfl, take_is hb hl (s := { s with pos := ((p + 1 : Nat) : Int) }) h rfl (by omega) (by omega) a2, Option.bind_some]
  simp only
  rw [if_neg (by rw [h]; simp), show p + 1 + 2 = p + 3 from rfl, hbk, Option.bind_some]
omit hb hl in
theorem stream_stop {most : Int} {N M : Nat} (n : Nat) {f : Int} (hf : f ≠ 0) (s : RSt) : streamL b most N M (n + 1) f s = some s := by
  rw [streamL, if_neg (fun h => hf h.1)]
end
/-- A block of the fixed lengths is read where it stands. -/
theorem known_read {t : List Int} (ht : Bytes t) (h4 : t.length ≤ 4096) {x : List Int × Nat} (hw : PenW x (knownI (T t))) {pre post : List Int} (hpre : Bytes pre) (hpost : Bytes post) (hl : (pre ++ (x.1 ++ post)).length < 2 ^ 40) (hp8 : 8 * pre.length ≤ 900000)
    {most : Int} (hmost : most ≤ 100000) {s : RSt} (h0 : s.er = 0) (hp : s.pos = ((8 * pre.length : Nat) : Int)) (hr : (s.out.length : Int) + t.length ≤ most) (n : Nat) :
    streamL (pre ++ (x.1 ++ post)) most 400 50000 (n + 2) 0 s = some { s with pos := ((8 * pre.length + wN (knownI (T t)) : Nat) : Int), out := s.out ++ t, bl := wrap64 (s.bl + 1) } := by
  have hlt := known_lt t ht h4
  have hroom := pen_room hw
  have hb : Bytes (pre ++ (x.1 ++ post)) := hpre.append (hw.1.bytes.append hpost)
  have hst := stand_shift (pre := pre) (x := x.1) post hpre _ 0 (at_pen hw hlt) (by omega)
  rw [Nat.add_zero] at hst
  have hlen : (pre ++ (x.1 ++ post)).length = pre.length + (x.1.length + post.length) := by rw [List.length_append, List.length_append]
  have hN : wN (knownI (T t)) = 3 + wN (bodyI (T t) fixL fixD) := by
    unfold knownI
    rw [WP.wN_append]
    rfl
  rw [hN] at hroom ⊢
  have hs2 := hst
  unfold knownI at hs2
  simp only [List.cons_append, List.nil_append] at hs2
  have hr2 := hs2.2.2
  simp only at hr2
  have hb2 := fixed_is hb hl ht h4 hmost (s := { s with pos := ((8 * pre.length + 3 : Nat) : Int) }) h0 (p := 8 * pre.length + 3) rfl hr hr2 (by omega)
  rw [stream_step hb hl h0 hp hs2 (by omega) (n + 1) (s3 := { s with pos := ((8 * pre.length + (3 + wN (bodyI (T t) fixL fixD)) : Nat) : Int), out := s.out ++ t }) (by
    unfold blockS
    rw [if_neg (by decide), if_pos (by decide), hb2]
    simp only
    congr 3
    omega), stream_stop _ (by decide)]
/-- What a block was written as. -/
def Kind {t : List Int} (m : Made t) (x : List Int × Nat) (it : List (Nat × Nat)) : Prop :=
  (x = m.st ∧ it = plainI t) ∨ (x = m.kn ∧ it = knownI (T t)) ∨ (x = m.dy ∧ it = madeI (T t) m.lits m.dists m.own m.turned)
theorem Kind.pen {t : List Int} {m : Made t} {x : List Int × Nat} {it : List (Nat × Nat)} (h : Kind m x it) : PenW x it := by
  rcases h with ⟨rfl, rfl⟩ | ⟨rfl, rfl⟩ | ⟨rfl, rfl⟩
  · exact m.wst
  · exact m.wkn
  · exact m.wdy
theorem Kind.lt {t : List Int} (ht : Bytes t) (h4 : t.length ≤ 4096) {m : Made t} {x : List Int × Nat} {it : List (Nat × Nat)} (h : Kind m x it) : Lt it := by
  rcases h with ⟨rfl, rfl⟩ | ⟨rfl, rfl⟩ | ⟨rfl, rfl⟩
  · exact plain_lt t ht h4
  · exact known_lt t ht h4
  · exact made_lt ht h4 m.ok
theorem least_kind {t : List Int} (m : Made t) : ∃ it, Kind m m.least it := by
  rcases (least_is m).1 with h | h | h
  · exact ⟨_, .inl ⟨h, rfl⟩⟩
  · exact ⟨_, .inr (.inl ⟨h, rfl⟩)⟩
  · exact ⟨_, .inr (.inr ⟨h, rfl⟩)⟩
/-- A block is read where it stands, whatever its kind. -/
theorem kind_read {t : List Int} (ht : Bytes t) (h4 : t.length ≤ 4096) {m : Made t} {x : List Int × Nat} {it : List (Nat × Nat)} (h : Kind m x it) {pre post : List Int} (hpre : Bytes pre) (hpost : Bytes post) (hl : (pre ++ (x.1 ++ post)).length < 2 ^ 40) (hp8 : 8 * pre.length ≤ 900000)
    {most : Int} (hmost : most ≤ 100000) {s : RSt} (h0 : s.er = 0) (hp : s.pos = ((8 * pre.length : Nat) : Int)) (hr : (s.out.length : Int) + t.length ≤ most) (n : Nat) :
    streamL (pre ++ (x.1 ++ post)) most 400 50000 (n + 2) 0 s = some { s with pos := ((8 * pre.length + wN it : Nat) : Int), out := s.out ++ t, bl := wrap64 (s.bl + 1) } := by
  have hw := h.pen
  have hlt := h.lt ht h4
  have hroom := pen_room hw
  have hb : Bytes (pre ++ (x.1 ++ post)) := hpre.append (hw.1.bytes.append hpost)
  have hst := stand_shift (pre := pre) (x := x.1) post hpre it 0 (at_pen hw hlt) (by omega)
  rw [Nat.add_zero] at hst
  have hlen : (pre ++ (x.1 ++ post)).length = pre.length + (x.1.length + post.length) := by rw [List.length_append, List.length_append]
  rcases h with ⟨rfl, rfl⟩ | ⟨rfl, rfl⟩ | ⟨rfl, rfl⟩
  · have hN := plainI_N t
    rw [hN] at hroom ⊢
    have hs2 := hst
    unfold plainI at hs2
    simp only [List.cons_append, List.nil_append] at hs2
    have hr2 := hs2.2.2
    simp only at hr2
    have hb2 := stored_is hb hl (most := most) ht h4 (s := { s with pos := ((8 * pre.length + 3 : Nat) : Int) }) h0 (p := 8 * pre.length + 3) rfl (by omega) (by omega) hr hmost (r := []) (by rw [List.append_nil]; exact hr2) (by omega)
    rw [stream_step hb hl h0 hp hs2 (by omega) (n + 1) (s3 := { s with pos := ((8 * pre.length + (40 + 8 * t.length) : Nat) : Int), out := s.out ++ t }) (by
      unfold blockS
      rw [if_pos (by decide), hb2, show 8 * pre.length + 3 + 37 + 8 * t.length = 8 * pre.length + (40 + 8 * t.length) from by omega]), stream_stop _ (by decide)]
  · exact known_read ht h4 hw hpre hpost hl hp8 hmost h0 hp hr n
  · obtain ⟨rest, hI⟩ := madeI_kind (T t) m.lits m.dists m.own m.turned
    have hN : wN (madeI (T t) m.lits m.dists m.own m.turned) = 3 + wN rest := by
      rw [hI]
      simp only [wN]
      omega
    rw [hN] at hroom ⊢
    have hs2 := hst
    rw [hI] at hs2
    have hr2 := hs2.2.2
    simp only at hr2
    have hb2 := dyn_is hb hl ht h4 m.ok hmost (s := { s with pos := ((8 * pre.length + 3 : Nat) : Int) }) h0 (p := 8 * pre.length + 3) rfl hr hI hr2 (by omega)
    rw [stream_step hb hl h0 hp hs2 (by omega) (n + 1) (s3 := { s with pos := ((8 * pre.length + (3 + wN rest) : Nat) : Int), out := s.out ++ t }) (by
      unfold blockS
      rw [if_neg (by decide), if_neg (by decide), if_pos (by decide), hb2]
      simp only
      congr 3
      omega), stream_stop _ (by decide)]
/-- What fills the last byte is 0. -/
theorem end_zero {x : List Int × Nat} {it : List (Nat × Nat)} (h : PenW x it) {pre : List Int} (hpre : Bytes pre) (post : List Int) : (8 - (8 * pre.length + wN it) % 8) % 8 = 8 * x.1.length - wN it ∧ at_ (val (pre ++ (x.1 ++ post))) (8 * pre.length + wN it) (8 * x.1.length - wN it) = 0 := by
  have hr := pen_room h
  refine ⟨by omega, ?_⟩
  rw [at_shift pre _ hpre, at_front _ _ _ _ (by omega), h.1.val]
  unfold at_
  rw [Nat.div_eq_of_lt (WP.wX_lt it), Nat.zero_mod]
/-- Bytes ahead of which blocks were read, and the last block: it is all. -/
theorem run_end {t : List Int} (ht : Bytes t) (h4 : t.length ≤ 4096) {m : Made t} {x : List Int × Nat} {it : List (Nat × Nat)} (h : Kind m x it) {pre : List Int} (hpre : Bytes pre) (hl : (pre ++ x.1).length ≤ 5000)
    {most : Int} (hmost0 : 0 ≤ most) (hmost : most ≤ 4096) {s : RSt} (h0 : s.er = 0) (hp : s.pos = ((8 * pre.length : Nat) : Int)) (hr : (s.out.length : Int) + t.length ≤ most) (n : Nat)
    (hs : streamL (pre ++ x.1) most 400 50000 50000 0 startS = streamL (pre ++ x.1) most 400 50000 (n + 2) 0 s) :
    runS (pre ++ x.1) most = some { s with pos := ((8 * (pre ++ x.1).length : Nat) : Int), out := s.out ++ t, bl := wrap64 (s.bl + 1) } := by
  have hw := h.pen
  have hroom := pen_room hw
  have e := List.append_nil x.1
  have hlen : (pre ++ x.1).length = pre.length + x.1.length := List.length_append
  have hk := kind_read ht h4 h hpre Bytes.nil (by rw [e]; omega) (by omega) (most := most) (by omega) h0 hp hr n
  obtain ⟨z1, z2⟩ := end_zero hw hpre []
  rw [e] at hk z2
  have hb : Bytes (pre ++ x.1) := hpre.append hw.1.bytes
  unfold runS
  rw [if_neg (by omega), if_neg (by omega)]
  unfold streamS
  rw [hs, hk, Option.bind_some, if_neg (by rw [h0]; simp)]
  rw [pad_is hb (by omega) (s := { s with pos := ((8 * pre.length + wN it : Nat) : Int), out := s.out ++ t, bl := wrap64 (s.bl + 1) }) h0 (p := 8 * pre.length + wN it) rfl (by omega) (by omega) (by rw [z1]; exact z2), Option.bind_some, z1]
  simp only
  rw [wrap64_in (a := 8 * ((pre ++ x.1).length : Int)) (by omega) (by omega), show ((8 * pre.length + wN it + (8 * x.1.length - wN it) : Nat) : Int) = 8 * ((pre ++ x.1).length : Int) from by omega, beq_self_eq_true, want_yes, show ((8 * (pre ++ x.1).length : Nat) : Int) = 8 * ((pre ++ x.1).length : Int) from by omega]
theorem least_len {t : List Int} (h4 : t.length ≤ 4096) (m : Made t) : m.least.1.length ≤ t.length + 5 := by
  obtain ⟨it, w⟩ := m.wleast
  have h1 := w.len
  have h2 := (least_is m).2.1
  have h3 := m.wst.2
  rw [plainI_N] at h3
  omega
end Go.Proofs.Ytcjijhjdkgjgeaa.Glue
