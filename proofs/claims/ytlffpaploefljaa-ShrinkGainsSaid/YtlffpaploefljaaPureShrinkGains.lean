/- ShrinkGains holds: a text twice over is made small to a few bytes more than the text alone, and goes back to the text twice over; at every list of bytes. No condition. -/
import Derived.Test.YtlffpaploefljaaRefRead2
import Derived.Test.YtlffpaploefljaaTwiceW
import Derived.Test.YtlffpaploefljaaPx51
import Derived.Test.YtlffpaploefljaaPx74
namespace Go.Proofs.Ytlffpaploefljaa.Pure
open Go.RowKit Go.Proofs.Ytlffpaploefljaa.P Go.Proofs.Ytlffpaploefljaa.Glue Go.Proofs.YtlffpaploefljaaW.PrintWords Go.Proofs.YtlffpaploefljaaW.PrintLast Go.Proofs.YtlffpaploefljaaW.PrintMore
set_option linter.unusedVariables false
set_option linter.unusedSimpArgs false
theorem wakes06g_is : wherrylaw06_wakes.f = some true := rfl
theorem ShrinkGains : wherrylaw06_ShrinkGains.Pure := by
  intro l0 h1 _ h3
  refine ⟨6000, ?_⟩
  unfold wherrylaw06_ShrinkGains.f
  by_cases hlen : (l0.length : Int) > 600
  · rw [if_pos hlen]
  rw [if_neg hlen]
  have hb : WP.Bytes l0 := bytes_of h3
  have hb2 : WP.Bytes (l0 ++ l0) := hb.append hb
  have e2 : (l0 ++ l0).length = l0.length + l0.length := List.length_append
  have h4 : l0.length ≤ 4096 := by omega
  have h42 : (l0 ++ l0).length ≤ 4096 := by omega
  obtain ⟨m⟩ := made_all l0 hb h4
  obtain ⟨m2⟩ := made_all (l0 ++ l0) hb2 h42
  obtain ⟨it, hk⟩ := least_kind m2
  have hg := refgrow_is hb2 h42 hk (by have := least_len h42 m2; omega) (most := 4096) (by decide) (by omega)
  have htw : wherrykeep_Twin.f l0 = some l0 := by
    unfold wherrykeep_Twin.f
    rw [if_pos (by simp only [List.length_nil]; omega), List.nil_append]
  have hbits := twice_known l0 hb (by omega)
  have k1 := m.wkn.len
  have k2 := m2.wkn.len
  have n1 := m.wkn.2
  have n2 := m2.wkn.2
  have ly : m2.kn.1.length ≤ m.kn.1.length + 4 * (l0.length / 258 + 3) := by omega
  have lz : m2.least.1.length ≤ m2.kn.1.length := by
    obtain ⟨it', w⟩ := m2.wleast
    have h1 := w.len
    have h2 := (least_is m2).2.2.1
    omega
  have hbound : m.kn.1.length ≤ 40000 := by
    have := known_short hb h4
    omega
  rw [htw, Option.bind_some, if_pos (by omega), Option.bind_some, fixed_f hb h4 m, Option.bind_some, fixed_f hb2 h42 m2, Option.bind_some, shrink_f hb2 h42 m2, Option.bind_some]
  simp only
  rw [hg, Option.bind_some]
  simp only
  rw [if_pos trivial, if_pos trivial, if_pos trivial, if_pos trivial]
  have hd : (l0.length : Int) / 258 = ((l0.length / 258 : Nat) : Int) := by omega
  rw [hd, wrap64_in (a := ((l0.length / 258 : Nat) : Int)) (by omega) (by omega), wrap64_in (a := ((l0.length / 258 : Nat) : Int) + 3) (by omega) (by omega), wrap64_in (a := 4 * _) (by omega) (by omega), wrap64_in (by omega) (by omega), if_pos (by omega), if_pos (by omega), keepBytes_is _ _ (by omega) 6000 (by omega), Option.bind_some, decide_eq_true rfl, if_pos rfl, wakes06g_is]
  rfl
end Go.Proofs.Ytlffpaploefljaa.Pure
