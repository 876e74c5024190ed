/- ShrinkKinds holds: the kinds of blocks begin with 1, 3, 5 in their three lowest bits, a stored one is the text behind five bytes; at every list of bytes. No condition. -/
import Derived.Test.YtlffpaploefljaaKindsW
import Derived.Test.YtlffpaploefljaaPx67
namespace Go.Proofs.Ytlffpaploefljaa.Pure
open Go.RowKit Go.Proofs.Ytlffpaploefljaa.P Go.Proofs.Ytlffpaploefljaa.Glue Go.Proofs.YtlffpaploefljaaW.PrintWords Go.Proofs.YtlffpaploefljaaW.PrintLast Go.Proofs.YtlffpaploefljaaW.PrintMore
open WP (Row Bytes at_ val wN wX Wrote)
set_option linter.unusedVariables false
set_option linter.unusedSimpArgs false

theorem xor255 : ∀ x : Fin 256, Go.bits .xor .u8 255 (x.val : Int) = ((255 - x.val : Nat) : Int) := by decide +kernel
theorem and255_all : ∀ n : Fin 1201, Go.bits .and .i64 (n.val : Int) 255 = ((n.val % 256 : Nat) : Int) := by decide +kernel
theorem kind_byte {x : List Int × Nat} {it r : List (Nat × Nat)} (h : PenW x it) (hl : Lt it) {k : Nat} (hk : k < 4) (e : it = (1, 1) :: (k, 2) :: r) : 0 < x.1.length ∧ Go.bits .and .u8 (rd x.1 0) 7 = ((1 + 2 * k : Nat) : Int) := by
  have hst := at_pen h hl
  rw [e] at hst
  have h8 := byte_low h.1.bytes rfl hk hst
  have hN : 3 ≤ wN it := by rw [e]; simp only [wN]; omega
  have hlen := h.1.len
  have hb := h.1.bytes.get 0
  refine ⟨by omega, ?_⟩
  rw [show (0 : Int) = ((0 : Nat) : Int) from rfl, rd_nat] at h8 ⊢
  obtain ⟨y, hy⟩ := Int.eq_ofNat_of_zero_le hb.1
  rw [hy] at h8 hb ⊢
  rw [Int.toNat_natCast] at h8
  have := and7 ⟨y, by omega⟩
  simp only at this
  rw [this, h8]
theorem ShrinkKinds : wherrylaw06_ShrinkKinds.Pure := by
  intro l0 h1 _ h3
  refine ⟨6000, ?_⟩
  unfold wherrylaw06_ShrinkKinds.f
  by_cases hlen : (l0.length : Int) > 1200
  · rw [if_pos hlen]
  rw [if_neg hlen]
  have hb : WP.Bytes l0 := bytes_of h3
  have h4 : l0.length ≤ 4096 := by omega
  obtain ⟨m⟩ := made_all l0 hb h4
  have hs := plain_list hb h4 m
  obtain ⟨rf, ef⟩ := knownI_kind (T l0)
  obtain ⟨rd', ed⟩ := madeI_kind (T l0) m.lits m.dists m.own m.turned
  obtain ⟨f1, f2⟩ := kind_byte m.wkn (known_lt l0 hb h4) (k := 1) (by decide) ef
  obtain ⟨d1, d2⟩ := kind_byte m.wdy (made_lt hb h4 m.ok) (k := 2) (by decide) ed
  rw [stored_f h4 m, Option.bind_some, fixed_f hb h4 m, Option.bind_some, dynamic_f hb h4 m, Option.bind_some]
  simp only
  have hsl : m.st.1.length = l0.length + 5 := by
    rw [hs, List.length_append]
    simp only [List.length_cons, List.length_nil]
    omega
  have e0 : rd m.st.1 0 = 1 := by rw [hs]; rfl
  have e1 : rd m.st.1 1 = ((l0.length % 256 : Nat) : Int) := by rw [hs]; rfl
  have e2 : rd m.st.1 2 = ((l0.length / 256 : Nat) : Int) := by rw [hs]; rfl
  have e3 : rd m.st.1 3 = ((255 - l0.length % 256 : Nat) : Int) := by rw [hs]; rfl
  have e4 : rd m.st.1 4 = ((255 - l0.length / 256 : Nat) : Int) := by rw [hs]; rfl
  have e5 : m.st.1.drop 5 = l0 := by rw [hs]; rfl
  have a1 := and255_all ⟨l0.length, by omega⟩
  have x1 := xor255 ⟨l0.length % 256, by omega⟩
  have x2 := xor255 ⟨l0.length / 256, by omega⟩
  simp only at a1 x1 x2
  have hf0 : ((m.dy.1.length : Int) == 0) = false := beq_eq_false_iff_ne.2 (by omega)
  rw [if_pos trivial, if_pos trivial, if_pos trivial, if_pos (by rw [hsl, wrap64_in (by omega) (by omega)]; omega), if_neg (by omega), hf0, show (6000 : Nat) = 5999 + 1 from rfl, wherrylaw06_ShrinkKinds.j0, if_neg Bool.false_ne_true]
  rw [if_pos (by omega), if_pos e0, if_pos (by omega), if_pos (by rw [e1, wrap64_in (by omega) (by omega), a1]), if_pos (by omega), if_pos (by rw [e2, wrap64_in (by omega) (by omega)]; omega), if_pos (by omega), if_pos (by rw [e3, e1, x1]), if_pos (by omega), if_pos (by rw [e4, e2, x2]), if_pos (by omega), e5, keepBytes_is l0 l0 (by omega) 5999 (by omega), Option.bind_some, if_pos (decide_eq_true rfl), if_pos (by omega), if_pos (show Go.bits .and .u8 (rd m.kn.1 0) 7 = 3 from f2), if_pos (by omega), if_pos (show Go.bits .and .u8 (rd m.dy.1 0) 7 = 5 from d2)]
  rfl
end Go.Proofs.Ytlffpaploefljaa.Pure
