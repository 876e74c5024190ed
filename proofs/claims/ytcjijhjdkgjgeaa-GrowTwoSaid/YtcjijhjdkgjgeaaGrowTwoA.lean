/- A stored block that is not the last one, and a block behind it; used by the claims of this seat. -/
import Derived.Test.YtcjijhjdkgjgeaaGrowRead3
import Derived.Test.YtcjijhjdkgjgeaaPx1
import Derived.Test.YtcjijhjdkgjgeaaPx25
namespace Go.Proofs.Ytcjijhjdkgjgeaa.Glue
open Go.RowKit Go.Proofs.Ytcjijhjdkgjgeaa.P Go.Proofs.YtcjijhjdkgjgeaaW.PrintWords Go.Proofs.YtcjijhjdkgjgeaaW.PrintLast Go.Proofs.YtcjijhjdkgjgeaaW.PrintMore
open WP (Row Bytes at_ val wN wX Wrote)
set_option linter.unusedVariables false
set_option linter.unusedSimpArgs false
/-! ### a stored block that is not the last one -/
theorem at_even {X Y : Nat} (h : Y + 1 = X) (h1 : X % 256 = 1) (a n : Nat) (ha : 8 ≤ a) : at_ Y a n = at_ X a n := by
  unfold at_
  obtain ⟨c, rfl⟩ : ∃ c, a = 8 + c := ⟨a - 8, by omega⟩
  rw [Nat.pow_add, ← Nat.div_div_eq_div_mul, ← Nat.div_div_eq_div_mul, show Y / 2 ^ 8 = X / 2 ^ 8 from by show Y / 256 = X / 256; omega]
theorem stand_even {X Y : Nat} (h : Y + 1 = X) (h1 : X % 256 = 1) : ∀ (it : List (Nat × Nat)) (a : Nat), 8 ≤ a → Stand X a it → Stand Y a it
  | [], _, _, _ => trivial
  | p :: it, a, ha, hs => ⟨by rw [at_even h h1 a p.2 ha]; exact hs.1, stand_even h h1 it (a + p.2) (by omega) hs.2⟩
/-- A stored block's first byte, and the block with its last bit cleared. -/
theorem stored_even {t : List Int} (ht : Bytes t) (h4 : t.length ≤ 4096) (m : Made t) : rd m.st.1 0 = 1 ∧ m.st.1.length = 5 + t.length ∧ Bytes (m.st.1.set 0 0) ∧
    Stand (val (m.st.1.set 0 0)) 0 ((0, 1) :: (0, 2) :: (0, 5) :: (t.length, 16) :: (65535 - t.length, 16) :: t.map (fun c => (c.toNat, 8))) := by
  have hst := at_pen m.wst (plain_lt t ht h4)
  have hN := plainI_N t
  have hlen := m.wst.1.len
  rw [hN] at hlen
  have hb := m.wst.1.bytes
  have hl0 : 0 < m.st.1.length := by omega
  unfold plainI at hst
  simp only [List.cons_append, List.nil_append] at hst
  obtain ⟨a1, a2, a3, a4⟩ := hst
  simp only at a1 a2 a3 a4
  have h8 : val m.st.1 % 256 = 1 := by
    have e1 := WP.at_add (val m.st.1) 0 1 7
    have e2 := WP.at_add (val m.st.1) (0 + 1) 2 5
    rw [a2, a3] at e2
    rw [a1, e2] at e1
    have e3 : at_ (val m.st.1) 0 8 = val m.st.1 % 256 := by
      unfold at_
      rw [Nat.pow_zero, Nat.div_one]
    rw [← e3]
    exact e1
  have hg := WP.val_get hb 0
  rw [Nat.pow_zero, Nat.div_one, h8] at hg
  have h0 := hb.get 0
  have hrd : rd m.st.1 0 = 1 := by
    rw [show (0 : Int) = ((0 : Nat) : Int) from rfl, rd_nat]
    omega
  have hset := WP.val_set (B := m.st.1) hl0 0
  rw [Nat.pow_zero, hg] at hset
  have hv : val (m.st.1.set 0 0) + 1 = val m.st.1 := by simpa using hset
  refine ⟨hrd, by omega, fun y hy => ?_, ?_⟩
  · rcases List.mem_or_eq_of_mem_set hy with h | h
    · exact hb y h
    · rw [h]; decide
  · have e8 : val (m.st.1.set 0 0) % 256 = 0 := by omega
    have z : ∀ a n, a + n ≤ 8 → at_ (val (m.st.1.set 0 0)) a n = 0 := by
      intro a n h
      unfold at_
      have hd : (2 ^ (a + n)) ∣ val (m.st.1.set 0 0) := Nat.dvd_trans (Nat.pow_dvd_pow 2 h) (Nat.dvd_of_mod_eq_zero e8)
      obtain ⟨q, hq⟩ := hd
      rw [hq, Nat.pow_add, Nat.mul_assoc, Nat.mul_div_cancel_left _ (Nat.two_pow_pos a), Nat.mul_mod_right]
    exact ⟨z 0 1 (by omega), z 1 2 (by omega), z 3 5 (by omega), stand_even hv h8 _ 8 (by omega) a4⟩
/-- Two blocks, the first one stored and not the last one. -/
theorem run_two {a t : List Int} (ha : Bytes a) (a4 : a.length ≤ 1500) (ht : Bytes t) (t4 : t.length ≤ 1500) (n : Made a) {m : Made t} {x : List Int × Nat} {it : List (Nat × Nat)} (h : Kind m x it) (hx : x.1.length ≤ 1600) :
    ∃ p, runS (n.st.1.set 0 0 ++ x.1) 4096 = some ⟨p, a ++ t, 2, 0⟩ := by
  obtain ⟨_, hl, hb, hst⟩ := stored_even ha (by omega) n
  have hlx : (n.st.1.set 0 0).length = 5 + a.length := by rw [List.length_set, hl]
  have hxb : Bytes x.1 := h.pen.1.bytes
  have hall : Bytes (n.st.1.set 0 0 ++ x.1) := hb.append hxb
  have hlen : (n.st.1.set 0 0 ++ x.1).length = 5 + a.length + x.1.length := by rw [List.length_append, hlx]
  have hN : wN ((0, 1) :: (0, 2) :: (0, 5) :: (a.length, 16) :: (65535 - a.length, 16) :: a.map (fun c => (c.toNat, 8))) = 40 + 8 * a.length := by
    simp only [wN, bytes8]
    omega
  have hs2 := stand_shift (pre := []) (x := n.st.1.set 0 0) x.1 Bytes.nil _ 0 hst (by omega)
  simp only [List.nil_append, List.length_nil, Nat.mul_zero, Nat.zero_add] at hs2
  have hr2 := hs2.2.2
  simp only at hr2
  have hb2 := stored_is hall (by omega) (most := 4096) ha (by omega) (s := { startS with pos := ((0 + 3 : Nat) : Int) }) rfl (p := 0 + 3) rfl (by omega) (by omega) (by show ((([] : List Int).length : Nat) : Int) + _ ≤ 4096; simp; omega) (by decide) (r := []) (by rw [List.append_nil]; exact hr2) (by omega)
  have hstep := stream_step hall (by omega) (most := 4096) (s := startS) rfl (p := 0) rfl hs2 (by omega) (N := 400) (M := 50000) 49999 (s3 := ⟨((8 * (n.st.1.set 0 0).length : Nat) : Int), a, 0, 0⟩) (by
    unfold blockS
    rw [if_pos (by decide), hb2, hlx, show 0 + 3 + 37 + 8 * a.length = 8 * (5 + a.length) from by omega]
    simp only [startS, List.nil_append])
  have := run_end ht (by omega) h hb (by omega) (most := 4096) (by decide) (by decide) (s := ⟨((8 * (n.st.1.set 0 0).length : Nat) : Int), a, wrap64 (0 + 1), 0⟩) rfl rfl (by simp only; omega) 49997 hstep
  have e2 : wrap64 (wrap64 (0 + 1) + 1) = 2 := by decide +kernel
  simp only [e2] at this
  exact ⟨_, this⟩
end Go.Proofs.Ytcjijhjdkgjgeaa.Glue
