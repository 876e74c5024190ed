/- ShrinkBack holds: what is made small, as each kind of block and as the least one, is made great to the text by the reference; at every list of bytes. No condition. -/
import Derived.Test.YtlffpaploefljaaRefRead2
import Derived.Test.YtlffpaploefljaaDynF
import Derived.Test.YtlffpaploefljaaPx51
import Derived.Test.YtlffpaploefljaaPx69
import Derived.Test.YtlffpaploefljaaPx70
namespace Go.Proofs.Ytlffpaploefljaa.Pure
open Go.RowKit Go.Proofs.Ytlffpaploefljaa.P Go.Proofs.Ytlffpaploefljaa.Glue Go.Proofs.YtlffpaploefljaaW.PrintWords Go.Proofs.YtlffpaploefljaaW.PrintLast Go.Proofs.YtlffpaploefljaaW.PrintMore
set_option linter.unusedVariables false
set_option linter.unusedSimpArgs false
theorem wakes06r_is : wherrylaw06_wakes.f = some true := rfl
theorem back_of {t x : List Int} (hg : wherryref01_Grow.f x 4096 = some (t, 1, 0)) (ht : t.length ≤ 1200) {k : Nat} (hk : 5000 ≤ k) (c : Int) :
    wherrylaw06_ShrinkBack.j1 (k + 1) t c x 0 = wherrylaw06_ShrinkBack.l0 k t (wrap64 (c + 1)) := by
  simp only [wherrylaw06_ShrinkBack.j1]
  rw [hg, Option.bind_some]
  simp only
  rw [if_pos trivial, if_pos trivial, if_pos trivial, keepBytes_is t t (by omega) k (by omega), Option.bind_some, decide_eq_true rfl, if_pos rfl]
theorem ShrinkBack : wherrylaw06_ShrinkBack.Pure := by
  intro l0 _ _ h3
  refine ⟨5991 + 9, ?_⟩
  unfold wherrylaw06_ShrinkBack.f
  by_cases hlen : (l0.length : Int) > 1200
  · rw [if_pos hlen]
  rw [if_neg hlen]
  have hb : WP.Bytes l0 := bytes_of h3
  have h4 : l0.length ≤ 4096 := by omega
  obtain ⟨m⟩ := made_all l0 hb h4
  have g : ∀ x it, Kind m x it → wherryref01_Grow.f x.1 4096 = some (l0, 1, 0) := fun x it hk => refgrow_is hb h4 hk (hk.short hb h4) (most := 4096) (by decide) (by omega)
  obtain ⟨it, hk⟩ := least_kind m
  have g0 := g _ _ (.inl ⟨rfl, rfl⟩)
  have g1 := g _ _ (.inr (.inl ⟨rfl, rfl⟩))
  have g2 := g _ _ (.inr (.inr ⟨rfl, rfl⟩))
  have g3 := g _ _ hk
  rw [show 5991 + 9 = (5991 + 7 + 1) + 1 from rfl, wherrylaw06_ShrinkBack.l0, if_pos (by decide), if_pos rfl, stored_f h4 m, Option.bind_some]
  simp only
  rw [back_of g0 (by omega) (by omega), show wrap64 (0 + 1) = 1 from by decide +kernel]
  rw [show 5991 + 7 = (5991 + 5 + 1) + 1 from rfl, wherrylaw06_ShrinkBack.l0, if_pos (by decide), if_neg (by decide), if_pos rfl, fixed_f hb h4 m, Option.bind_some]
  simp only
  rw [back_of g1 (by omega) (by omega), show wrap64 (1 + 1) = 2 from by decide +kernel]
  rw [show 5991 + 5 = (5991 + 3 + 1) + 1 from rfl, wherrylaw06_ShrinkBack.l0, if_pos (by decide), if_neg (by decide), if_neg (by decide), if_pos rfl, dynamic_f hb h4 m, Option.bind_some]
  simp only
  rw [back_of g2 (by omega) (by omega), show wrap64 (2 + 1) = 3 from by decide +kernel]
  rw [show 5991 + 3 = (5991 + 1 + 1) + 1 from rfl, wherrylaw06_ShrinkBack.l0, if_pos (by decide), if_neg (by decide), if_neg (by decide), if_neg (by decide), shrink_f hb h4 m, Option.bind_some]
  simp only
  rw [back_of g3 (by omega) (by omega), show wrap64 (3 + 1) = 4 from by decide +kernel, wherrylaw06_ShrinkBack.l0, if_neg (by decide), wakes06r_is]
  rfl
end Go.Proofs.Ytlffpaploefljaa.Pure
