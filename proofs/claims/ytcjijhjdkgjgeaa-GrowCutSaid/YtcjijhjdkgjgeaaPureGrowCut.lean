/- GrowCut holds: a fixed block's bytes cut short are none, with a byte more they are none; at every list of bytes, every int and every byte. No condition. -/
import Derived.Test.YtcjijhjdkgjgeaaGrowCutA
import Derived.Test.YtcjijhjdkgjgeaaPx2
import Derived.Test.YtcjijhjdkgjgeaaPx25
import Derived.Test.YtcjijhjdkgjgeaaPx31
import Derived.Test.YtcjijhjdkgjgeaaPx66
import Derived.Test.YtcjijhjdkgjgeaaPx67
namespace Go.Proofs.Ytcjijhjdkgjgeaa.Pure
open Go.RowKit Go.Proofs.Ytcjijhjdkgjgeaa.P Go.Proofs.Ytcjijhjdkgjgeaa.Glue Go.Proofs.YtcjijhjdkgjgeaaW.PrintWords Go.Proofs.YtcjijhjdkgjgeaaW.PrintLast Go.Proofs.YtcjijhjdkgjgeaaW.PrintMore
set_option linter.unusedVariables false
set_option linter.unusedSimpArgs false

theorem wakes07c_is : wherrylaw07_wakes.f = some true := rfl
theorem bad_grow {b : List Int} {r : RSt} (h : runS b 4096 = some r) (he : r.er = 3) : grow_Grow.f b 4096 = some ([], 3) := by
  unfold grow_Grow.f
  rw [h, Option.bind_some, he, if_pos (by decide)]
theorem GrowCut : wherrylaw07_GrowCut.Pure := by
  intro l0 a1 a2 h1 _ h3 _ h5
  refine ⟨6000, ?_⟩
  unfold wherrylaw07_GrowCut.f
  by_cases hlen : (l0.length : Int) > 1500
  · rw [if_pos hlen]
  rw [if_neg hlen]
  have hb : WP.Bytes l0 := bytes_of h3
  have hc : 0 ≤ a2 ∧ a2 < 256 := by
    have := bytes_of (l := [a2]) (fun x hx => by rw [List.mem_singleton.1 hx]; exact h5)
    exact this a2 List.mem_cons_self
  have h4 : l0.length ≤ 3000 := by omega
  obtain ⟨_, _, _, o4, o5⟩ := T_ok l0 hb (by omega)
  obtain ⟨kn, ekn, wkn, _⟩ := known_is (T l0) o4 o5
  have hroom := pen_room wkn
  have hN := known_len hb (by omega)
  have hpos : 3 ≤ WP.wN (knownI (T l0)) := by
    unfold knownI
    rw [WP.wN_append]
    simp only [WP.wN]
    omega
  have ef : shrink_Fixed.f l0 = some (kn.1, 0) := by
    unfold shrink_Fixed.f
    rw [Tok.tokens_is (bytes_wf hb) (by omega), Option.bind_some, if_pos rfl, if_pos (by have : (toks l0 l0.length 0).length ≤ 4096 := o4; simp only; omega)]
    simp only
    rw [ekn, Option.bind_some]
  rw [ef, Option.bind_some]
  simp only
  have hk0 : 0 < kn.1.length := by omega
  have hxl : ((kn.1.length : Int) == 0) = false := beq_eq_false_iff_ne.2 (by omega)
  rw [if_pos trivial, hxl, show (6000 : Nat) = 5999 + 1 from rfl, wherrylaw07_GrowCut.j0, if_neg (by decide)]
  have hu : IntKind.u64.wrap ((kn.1.length : Int)) = (kn.1.length : Int) := u64_in (by omega) (by omega)
  obtain ⟨c, hcn, ec⟩ := tmod_u64 a1 kn.1.length (by omega) (by omega)
  rw [hu, if_neg (by omega), ec, if_pos (by omega), if_pos (by omega), Int.toNat_natCast]
  obtain ⟨r, hr, er⟩ := cut_short hb h4 wkn (c := c) (by omega)
  obtain ⟨q, hq, eq⟩ := cut_more hb h4 wkn hc
  rw [bad_grow hr er, Option.bind_some]
  unfold wherrykeep_Twin.f
  rw [if_pos (by simp; omega), Option.bind_some, List.nil_append, if_pos (by omega), bad_grow hq eq, Option.bind_some]
  simp only
  rw [if_pos trivial, if_pos trivial, if_pos (by decide +kernel), wakes07c_is]
  rfl
end Go.Proofs.Ytcjijhjdkgjgeaa.Pure
