/- What a text is made small to, on both sides; used by the claims of this seat. -/
import Derived.Test.YtlffpaploefljaaWrD
import Derived.Test.YtlffpaploefljaaCanon
import Derived.Test.YtlffpaploefljaaPx5
import Derived.Test.YtlffpaploefljaaPx65
import Derived.Test.YtlffpaploefljaaPx23
import Derived.Test.YtlffpaploefljaaPx54
import Derived.Test.YtlffpaploefljaaPx71
namespace Go.Proofs.Ytlffpaploefljaa.Glue
open Go.RowKit Go.Proofs.Ytlffpaploefljaa.P Go.Proofs.YtlffpaploefljaaW.PrintWords Go.Proofs.YtlffpaploefljaaW.PrintLast Go.Proofs.YtlffpaploefljaaW.PrintMore
set_option linter.unusedVariables false
set_option linter.unusedSimpArgs false
theorem over_is (d : Nat) : ∀ (l : List Int) (i k : Nat), i + d = l.length → l.length < 1000000 → d < k → ∃ r, wherrykeep_Over.l0 k l (i : Int) = some r := by
  induction d with
  | zero =>
    intro l i k h h2 hk
    obtain ⟨k, rfl⟩ : ∃ m, k = m + 1 := ⟨k - 1, by omega⟩
    exact ⟨l, by rw [wherrykeep_Over.l0, if_neg (by omega)]⟩
  | succ d ih =>
    intro l i k h h2 hk
    obtain ⟨k, rfl⟩ : ∃ m, k = m + 1 := ⟨k - 1, by omega⟩
    obtain ⟨r, hr⟩ := ih (l.set i ((rd l (i : Int) + 91) % 256)) (i + 1) k (by rw [List.length_set]; omega) (by rw [List.length_set]; omega) (by omega)
    refine ⟨r, ?_⟩
    rw [wherrykeep_Over.l0, if_pos (by omega), if_pos (by omega), Int.toNat_natCast, wrap64_in (by omega) (by omega)]
    exact hr
/-- What a text is made small to, on both sides. -/
structure Ex (b s f d x : List Int) : Prop where
  tw : wherrykeep_Twin.f b = some b
  fs : shrink_Stored.f b = some (s, 0)
  ff : shrink_Fixed.f b = some (f, 0)
  fd : shrink_Dynamic.f b = some (d, 0)
  fx : shrink_Shrink.f b = some (x, 0)
  b0 : wherryref01_Block.f b 0 = some s
  b1 : wherryref01_Block.f b 1 = some f
  b2 : wherryref01_Block.f b 2 = some d
  b3 : wherryref01_Shrink.f b = some x
  ks : wherrykeep_Bytes.f 1000000 s s = some true
  kf : wherrykeep_Bytes.f 1000000 f f = some true
  kd : wherrykeep_Bytes.f 1000000 d d = some true
  kx : wherrykeep_Bytes.f 1000000 x x = some true
  kb : wherrykeep_Bytes.f 1000000 b b = some true
  ox : ∃ r, wherrykeep_Over.f 1000000 x = some r
  os : ∃ r, wherrykeep_Over.f 1000000 s = some r
theorem ex_all (b : List Int) (hb : ∀ x ∈ b, 0 ≤ x ∧ x < 256) (hlen : b.length ≤ 1200) : ∃ s f d x, Ex b s f d x := by
  have h4 : b.length ≤ 4096 := by omega
  obtain ⟨m⟩ := made_all b hb h4
  have hok : rbOk b := ⟨hb, h4⟩
  obtain ⟨t1, t2, t3, t4, t5⟩ := T_ok b hb h4
  obtain ⟨s2, e2, w2, n2⟩ := known_is (T b) t4 t5
  obtain ⟨s3, _, _, _, _, _, _, e3, _, w3, n3, _⟩ := made_is (T b) t4 t1 t5 (by omega)
  have hkn : s2 = m.kn := Option.some.inj (e2.symm.trans m.hkn)
  have hdy : s3 = m.dy := Option.some.inj (e3.symm.trans m.hdy)
  have hsmall : m.st.1.length < 500000 ∧ m.kn.1.length < 500000 ∧ m.dy.1.length < 500000 ∧ m.least.1.length < 500000 := by
    have q1 := m.wst.len
    have q2 := w2.len
    have q3 := w3.len
    rw [m.wst.2, plainI_N] at q1
    rw [w2.2, hkn] at q2
    rw [w3.2, hdy] at q3
    refine ⟨by omega, by omega, by omega, ?_⟩
    rcases (least_is m).1 with h | h | h <;> rw [h] <;> omega
  have kb : ∀ l : List Int, l.length < 500000 → wherrykeep_Bytes.f 1000000 l l = some true := fun l hl => by
    rw [keepBytes_is l l (by omega) _ (by omega), decide_eq_true rfl]
  have ov : ∀ l : List Int, l.length < 500000 → ∃ r, wherrykeep_Over.f 1000000 l = some r := fun l hl => over_is l.length l 0 1000000 (by omega) (by omega) (by omega)
  exact ⟨m.st.1, m.kn.1, m.dy.1, m.least.1, (by unfold wherrykeep_Twin.f; rw [if_pos (by simp; omega)]; rfl), stored_f h4 m, fixed_f hb h4 m, dynamic_f hb h4 m, shrink_f hb h4 m,
    by unfold wherryref01_Block.f; rw [if_pos hok, if_pos rfl, stored_f h4 m]; rfl,
    by unfold wherryref01_Block.f; rw [if_pos hok, if_neg (by decide), if_pos rfl, fixed_f hb h4 m]; rfl,
    by unfold wherryref01_Block.f; rw [if_pos hok, if_neg (by decide), if_neg (by decide), dynamic_f hb h4 m]; rfl,
    by unfold wherryref01_Shrink.f; rw [if_pos hok, shrink_f hb h4 m]; rfl,
    kb _ hsmall.1, kb _ hsmall.2.1, kb _ hsmall.2.2.1, kb _ hsmall.2.2.2, kb _ (by omega), ov _ hsmall.2.2.2, ov _ hsmall.1⟩
end Go.Proofs.Ytlffpaploefljaa.Glue
