/- GrowTwo holds: blocks one behind the other, the first one not marked as the last, are both texts one behind the other; at every two lists of bytes. No condition. -/
import Derived.Test.YtcjijhjdkgjgeaaGrowTwoA
import Derived.Test.YtcjijhjdkgjgeaaPx25
import Derived.Test.YtcjijhjdkgjgeaaPx66
import Derived.Test.YtcjijhjdkgjgeaaPx69
namespace Go.Proofs.Ytcjijhjdkgjgeaa.Pure
open Go.RowKit Go.Proofs.Ytcjijhjdkgjgeaa.P Go.Proofs.Ytcjijhjdkgjgeaa.Glue Go.Proofs.YtcjijhjdkgjgeaaW.PrintWords Go.Proofs.YtcjijhjdkgjgeaaW.PrintLast Go.Proofs.YtcjijhjdkgjgeaaW.PrintMore
set_option linter.unusedVariables false
set_option linter.unusedSimpArgs false

theorem wakes07t_is : wherrylaw07_wakes.f = some true := rfl
theorem GrowTwo : wherrylaw07_GrowTwo.Pure := by
  intro l0 l1 h1 _ h3 h4 _ h6
  refine ⟨6000, ?_⟩
  unfold wherrylaw07_GrowTwo.f
  by_cases hlen : (l0.length : Int) > 1500
  · rw [if_pos hlen, show (6000 : Nat) = 5999 + 1 from rfl, wherrylaw07_GrowTwo.j0, if_pos rfl]
  rw [if_neg hlen]
  by_cases hlen2 : (l1.length : Int) > 1500
  · rw [show (6000 : Nat) = 5999 + 1 from rfl, wherrylaw07_GrowTwo.j0, if_pos (decide_eq_true hlen2)]
  rw [show (6000 : Nat) = 5999 + 1 from rfl, wherrylaw07_GrowTwo.j0, if_neg (by rw [decide_eq_false hlen2]; exact Bool.false_ne_true)]
  have ha : WP.Bytes l0 := bytes_of h3
  have ht : WP.Bytes l1 := bytes_of h6
  obtain ⟨n⟩ := made_all l0 ha (by omega)
  obtain ⟨m⟩ := made_all l1 ht (by omega)
  obtain ⟨it, hk⟩ := least_kind m
  have hl := least_len (by omega) m
  obtain ⟨e1, e2, e3, _⟩ := stored_even ha (by omega) n
  obtain ⟨p, hr⟩ := run_two ha (by omega) ht (by omega) n hk (by omega)
  have es : shrink_Stored.f l0 = some (n.st.1, 0) := by
    unfold shrink_Stored.f
    rw [if_neg (by omega), n.hst, Option.bind_some]
  have g1 : grow_Grow.f (n.st.1.set 0 0 ++ m.least.1) 4096 = some (l0 ++ l1, 0) := by
    unfold grow_Grow.f
    rw [hr, Option.bind_some, if_neg (by simp)]
  have g2 : grow_Blocks.f (n.st.1.set 0 0 ++ m.least.1) = some (2, 0) := by
    unfold grow_Blocks.f
    rw [hr, Option.bind_some, if_neg (by simp)]
  have hx : ((n.st.1.length : Int) == 0) = false := beq_eq_false_iff_ne.2 (by omega)
  rw [es, Option.bind_some]
  simp only
  rw [shrink_f ht (by omega) m, Option.bind_some]
  simp only
  rw [if_pos trivial, if_pos trivial, hx, show (5999 : Nat) = 5998 + 1 from rfl, wherrylaw07_GrowTwo.j1, if_neg Bool.false_ne_true, if_pos (by omega), e1, show (0 : Int).toNat = 0 from rfl, show Go.bits .andNot .u8 1 1 = 0 from by decide, Option.bind_some, if_pos (by rw [List.length_set]; omega), g1, Option.bind_some]
  simp only
  rw [g2, Option.bind_some]
  simp only
  rw [if_pos trivial, if_pos trivial, if_pos trivial]
  unfold wherrykeep_Twin.f
  rw [if_pos (by simp; omega), Option.bind_some, List.nil_append, if_pos (by omega), keepBytes_is (l0 ++ l1) (l0 ++ l1) (by rw [List.length_append]; omega) 5998 (by rw [List.length_append]; omega), Option.bind_some, if_pos (decide_eq_true rfl), wakes07t_is]
  rfl
end Go.Proofs.Ytcjijhjdkgjgeaa.Pure
