/- ShrinkUnlike holds: unlike texts are made small to unlike bytes, by whatever kind of block; at every two lists of bytes. No condition. -/
import Derived.Test.YtlffpaploefljaaInjW
import Derived.Test.YtlffpaploefljaaPx76
namespace Go.Proofs.Ytlffpaploefljaa.Pure
open Go.RowKit Go.Proofs.Ytlffpaploefljaa.P Go.Proofs.Ytlffpaploefljaa.Glue Go.Proofs.YtlffpaploefljaaW.PrintWords Go.Proofs.YtlffpaploefljaaW.PrintLast Go.Proofs.YtlffpaploefljaaW.PrintMore
open WP (Row Bytes at_ val wN wX Wrote)
set_option linter.unusedVariables false
set_option linter.unusedSimpArgs false
theorem least_one {b c : List Int} (hb : Bytes b) (hc : Bytes c) (hl : b.length ≤ 4096) (hk : c.length ≤ 4096) (m : Made b) (n : Made c) (h : m.least.1 = n.least.1) : b = c := by
  have p1 := at_pen m.wst (plain_lt b hb hl)
  have p2 := at_pen m.wkn (known_lt b hb hl)
  have p3 := at_pen m.wdy (made_lt hb hl m.ok)
  have q1 := at_pen n.wst (plain_lt c hc hk)
  have q2 := at_pen n.wkn (known_lt c hc hk)
  have q3 := at_pen n.wdy (made_lt hc hk n.ok)
  have k1 : at_ (val m.st.1) 1 2 = 0 := by obtain ⟨r, e⟩ := plainI_kind b; rw [e] at p1; exact kind_at p1
  have k2 : at_ (val m.kn.1) 1 2 = 1 := by obtain ⟨r, e⟩ := knownI_kind (T b); rw [e] at p2; exact kind_at p2
  have k3 : at_ (val m.dy.1) 1 2 = 2 := by obtain ⟨r, e⟩ := madeI_kind (T b) m.lits m.dists m.own m.turned; rw [e] at p3; exact kind_at p3
  have j1 : at_ (val n.st.1) 1 2 = 0 := by obtain ⟨r, e⟩ := plainI_kind c; rw [e] at q1; exact kind_at q1
  have j2 : at_ (val n.kn.1) 1 2 = 1 := by obtain ⟨r, e⟩ := knownI_kind (T c); rw [e] at q2; exact kind_at q2
  have j3 : at_ (val n.dy.1) 1 2 = 2 := by obtain ⟨r, e⟩ := madeI_kind (T c) n.lits n.dists n.own n.turned; rw [e] at q3; exact kind_at q3
  rcases (least_is m).1 with e | e | e <;> rcases (least_is n).1 with e' | e' | e' <;> rw [e, e'] at h
  · rw [← h] at q1; exact plain_one hb hc hl hk p1 q1
  · rw [h] at k1; omega
  · rw [h] at k1; omega
  · rw [h] at k2; omega
  · rw [← h] at q2; exact known_one hb hc hl hk p2 q2
  · rw [h] at k2; omega
  · rw [h] at k3; omega
  · rw [h] at k3; omega
  · rw [← h] at q3; exact made_one hb hc hl hk m.ok n.ok p3 q3
theorem dyn_one {b c : List Int} (hb : Bytes b) (hc : Bytes c) (hl : b.length ≤ 4096) (hk : c.length ≤ 4096) (m : Made b) (n : Made c) (h : m.dy.1 = n.dy.1) : b = c := by
  have p3 := at_pen m.wdy (made_lt hb hl m.ok)
  have q3 := at_pen n.wdy (made_lt hc hk n.ok)
  rw [← h] at q3
  exact made_one hb hc hl hk m.ok n.ok p3 q3
theorem ShrinkUnlike : wherrylaw06_ShrinkUnlike.Pure := by
  intro b c hm h8 hw hm' h8' hw'
  by_cases hl : b.length ≤ 1200 ∧ c.length ≤ 1200
  rotate_left
  · refine ⟨1, ?_⟩
    unfold wherrylaw06_ShrinkUnlike.f
    by_cases h : b.length ≤ 1200
    · rw [if_neg (by omega), decide_eq_true (by omega)]
      simp only [wherrylaw06_ShrinkUnlike.j0, if_true]
    · rw [if_pos (by omega)]
      simp only [wherrylaw06_ShrinkUnlike.j0, if_true]
  have hb : Bytes b := bytes_of hw
  have hc : Bytes c := bytes_of hw'
  obtain ⟨m⟩ := made_all b hb (by omega)
  obtain ⟨n⟩ := made_all c hc (by omega)
  obtain ⟨it, wl⟩ := m.wleast
  obtain ⟨it', wl'⟩ := n.wleast
  obtain ⟨_, s1, _, _⟩ := least_is m
  obtain ⟨_, s1', _, _⟩ := least_is n
  have z1 := wl.len
  have z1' := wl'.len
  have z2 := m.wst.2
  have z2' := n.wst.2
  rw [plainI_N] at z2 z2'
  refine ⟨1 + (5000 + m.dy.1.length + n.dy.1.length), ?_⟩
  unfold wherrylaw06_ShrinkUnlike.f
  rw [if_neg (by omega), decide_eq_false (by omega), Nat.add_comm 1]
  have zm := m.wdy.len
  have big : m.dy.1.length < 2 ^ 60 := by
    obtain ⟨s, l, d, o, t, e1, _, w, e2⟩ := made_is (T b) (T_ok b hb (by omega)).2.2.2.1 (T_ok b hb (by omega)).1 (T_ok b hb (by omega)).2.2.2.2 (by have := (T_ok b hb (by omega)).2.2.1; omega)
    have : s = m.dy := by have := m.hdy; rw [e1] at this; exact Option.some.inj this
    subst this
    have := w.2
    omega
  simp only [wherrylaw06_ShrinkUnlike.j0, Bool.false_eq_true, if_false]
  rw [keepBytes_is b c (by omega) _ (by omega), Option.bind_some, shrink_f hb (by omega) m, Option.bind_some, shrink_f hc (by omega) n, Option.bind_some, dynamic_f hb (by omega) m, Option.bind_some, dynamic_f hc (by omega) n, Option.bind_some]
  simp only [if_true]
  rw [keepBytes_is m.least.1 n.least.1 (by omega) _ (by omega), Option.bind_some]
  have e1 : decide (m.least.1 = n.least.1) = decide (b = c) := by
    by_cases h : b = c
    · subst h
      have : m.least = n.least := by
        unfold Made.least
        have a1 := m.hst; have a2 := n.hst; have b1 := m.hkn; have b2 := n.hkn; have c1 := m.hdy; have c2 := n.hdy
        rw [a1] at a2; rw [b1] at b2; rw [c1] at c2
        rw [Option.some.inj a2, Option.some.inj b2, Option.some.inj c2]
      rw [this, decide_eq_true rfl, decide_eq_true rfl]
    · rw [decide_eq_false h, decide_eq_false (fun h' => h (least_one hb hc (by omega) (by omega) m n h'))]
  have e2 : decide (m.dy.1 = n.dy.1) = decide (b = c) := by
    by_cases h : b = c
    · subst h
      have c1 := m.hdy; have c2 := n.hdy
      rw [c1] at c2
      rw [Option.some.inj c2, decide_eq_true rfl, decide_eq_true rfl]
    · rw [decide_eq_false h, decide_eq_false (fun h' => h (dyn_one hb hc (by omega) (by omega) m n h'))]
  rw [e1, beq_self_eq_true, if_pos rfl, keepBytes_is m.dy.1 n.dy.1 big _ (by omega), Option.bind_some, e2, beq_self_eq_true, if_pos rfl]
  rfl
end Go.Proofs.Ytlffpaploefljaa.Pure
