/- MatchBent holds: a right row with a token that is bent is right no more; at all lists of bytes and all two ints. No condition. -/
import Derived.Test.YtagdlmlanjjecaaMatch
import Derived.Test.YtagdlmlanjjecaaMatchRef
import Derived.Test.YtagdlmlanjjecaaPx0
import Derived.Test.YtagdlmlanjjecaaPx1
import Derived.Test.YtagdlmlanjjecaaPx6
import Derived.Test.YtagdlmlanjjecaaPx18
namespace Go.Proofs.Ytagdlmlanjjecaa.Pure
open Go.RowKit Go.Proofs.Ytagdlmlanjjecaa.P Go.Proofs.YtagdlmlanjjecaaW.PrintWords Go.Proofs.YtagdlmlanjjecaaW.PrintLast Go.Proofs.YtagdlmlanjjecaaW.PrintMore
set_option linter.unusedVariables false
set_option linter.unusedSimpArgs false
theorem bent_loop (at_ : Nat) (x2 : Int) (l ws : List S40) (v : S40) (hl : l.length ≤ 2 ^ 30) (K : Nat) (r : Option Bool) : ∀ (us pre : List S40) (n k : Nat), l = pre ++ us ++ v :: ws → at_ = pre.length + us.length → OkL us n → n + sizeL us ≤ 2 ^ 40 → K + us.length ≤ k →
    (∀ k', K ≤ k' → wherrylaw04_MatchBent.l0 k' (at_ : Int) x2 l ((n + sizeL us : Nat) : Int) (at_ : Int) = r) →
    wherrylaw04_MatchBent.l0 k (at_ : Int) x2 l (n : Int) (pre.length : Int) = r
  | [], pre, n, k, e, ha, _, _, hk, H => by
    have := H k (by simpa using hk)
    rw [List.length_nil, Nat.add_zero] at ha
    simp only [sizeL, Nat.add_zero] at this
    rw [← ha]; exact this
  | u :: us, pre, n, k, e, ha, ⟨h1, h2⟩, hn, hk, H => by
    simp only [List.length_cons] at ha hk
    obtain ⟨k, rfl⟩ : ∃ m, k = m + 1 := ⟨k - 1, by omega⟩
    have hlen : pre.length < l.length := by rw [e]; simp
    have hrd : rd_T40 l (pre.length : Int) = u := by rw [e, List.append_assoc]; exact rdT_mid pre _ u
    have hs := sizeT_pos h1
    simp only [sizeL] at hn H
    rw [wherrylaw04_MatchBent.l0, if_pos (by omega), if_pos (by omega), if_pos (by omega), hrd, ← hs.2.2, wi (by omega) (by omega), wi (by omega) (by omega)]
    have := bent_loop at_ x2 l ws v hl K r us (pre ++ [u]) (n + sizeT u) k (by rw [e]; simp) (by simp; omega) h2 (by omega) (by omega) (by rw [Nat.add_assoc]; exact H)
    rw [List.length_append, List.length_singleton] at this
    rw [← this]
    congr 1
theorem bent_end (us ws : List S40) (v v' : S40) (h : OkL (us ++ v :: ws) 0) (hu : OkL us 0) (hs : sizeL (us ++ v :: ws) ≤ 4096) (hv : ¬ OkT v' (sizeL us)) (k : Nat) (hk : 20000 ≤ k) : wherrylaw04_MatchBent.j2 (k + 1) (us ++ v :: ws) (us ++ v' :: ws) = some true := by
  have hl := sizeL_ge h
  have hl' : (us ++ v' :: ws).length = (us ++ v :: ws).length := by simp
  have hsu : sizeL us ≤ 4096 := by rw [sizeL_append] at hs; omega
  have hlu : us.length ≤ 4096 := by rw [List.length_append] at hl; omega
  have hb := check_bad us ws v' (by omega) hu (by omega) hv k (by omega)
  rw [wherrylaw04_MatchBent.j2, expand_bad _ k 1 (by decide) hb, Option.bind_some]
  dsimp only
  rw [check_is _ (by omega) h hs k (by omega), Option.bind_some, if_pos rfl, hb, Option.bind_some, if_pos rfl, if_pos rfl, if_pos (by rfl)]
  rfl
theorem MatchBent : wherrylaw04_MatchBent.Pure := by
  intro l a1 a2 _ _ hw _ _
  have H : ∀ k, 800000 ≤ k → wherrylaw04_MatchBent.f (k + 1) l a1 a2 = some true := by
    intro k hk
    unfold wherrylaw04_MatchBent.f
    by_cases h : (l.length : Int) > 1200
    · rw [if_pos h, wherrylaw04_MatchBent.j0, if_pos rfl]
    rw [if_neg h]
    by_cases h0 : l.length = 0
    · rw [h0, wherrylaw04_MatchBent.j0, if_pos (by decide)]
    rw [beq_eq_false_iff_ne.2 (by omega), wherrylaw04_MatchBent.j0, if_neg (by decide), toksOf_is l (by omega) k (by omega), Option.bind_some]
    obtain ⟨t1, t2, t3⟩ := toks_right l l.length 0 (by omega) (by omega)
    have hne : toks l l.length 0 ≠ [] := by intro e; rw [e] at t3; simp only [sizeL] at t3; omega
    generalize toks l l.length 0 = ts at *
    have hlen := sizeL_ge t1
    have hpos : 0 < ts.length := List.length_pos_iff.2 hne
    rw [u64_in (a := (ts.length : Int)) (by omega) (by omega), if_neg (by omega)]
    obtain ⟨i, hi, ei⟩ := tmod_u64 a1 (ts.length : Int) (by omega) (by omega)
    rw [ei]
    have hi' : i < ts.length := by omega
    obtain ⟨us, v, ws, e, hui⟩ : ∃ us v ws, ts = us ++ v :: ws ∧ us.length = i := ⟨ts.take i, ts[i], ts.drop (i + 1), by rw [List.getElem_cons_drop, List.take_append_drop], by rw [List.length_take]; omega⟩
    subst e
    have hu : OkL us 0 := by
      clear ei hi hne t2 t3 hlen hpos hi' hui
      revert t1
      generalize 0 = n
      intro t1
      induction us generalizing n with
      | nil => trivial
      | cons u us ih => exact ⟨t1.1, ih _ t1.2⟩
    have hsz : sizeL (us ++ v :: ws) ≤ 1200 := by omega
    have hsu : sizeL us ≤ 1200 := by rw [sizeL_append] at hsz; omega
    have hb := bent_loop i a2 (us ++ v :: ws) ws v (by omega) 700000 (some true) us [] 0 k rfl (by simpa using hui.symm) hu (by omega) (by omega) (fun k' hk' => by
      obtain ⟨k', rfl⟩ : ∃ m, k' = m + 2 := ⟨k' - 2, by omega⟩
      have hset : ∀ v', (us ++ v :: ws).set (i : Int).toNat v' = us ++ v' :: ws := fun v' => by
        rw [Int.toNat_natCast, ← hui]; simp
      have hend := fun v' hv => bent_end us ws v v' t1 hu (by omega) hv k' (by omega)
      rw [Nat.zero_add, wherrylaw04_MatchBent.l0, if_neg (by omega), wherrykeep_TwinToks.f, if_pos (by simp only [List.length_nil]; omega), List.nil_append, Option.bind_some]
      by_cases c0 : Int.tmod (IntKind.u64.wrap a2) 4 = 0
      · rw [if_pos c0, if_pos (by omega), if_pos (by omega), hset, wi (by omega) (by omega)]
        exact hend _ (by unfold OkT; simp only; omega)
      rw [if_neg c0]
      by_cases c1 : Int.tmod (IntKind.u64.wrap a2) 4 = 1
      · rw [if_pos c1, if_pos (by omega), if_pos (by omega), hset]
        exact hend _ (by unfold OkT; simp only; omega)
      rw [if_neg c1]
      by_cases c2 : Int.tmod (IntKind.u64.wrap a2) 4 = 2
      · rw [if_pos c2, if_pos (by omega), if_pos (by omega), hset]
        exact hend _ (by unfold OkT; simp only; omega)
      rw [if_neg c2, if_pos (by omega), if_pos (by omega), hset]
      exact hend _ (by unfold OkT; simp only; omega))
    rw [show ((0 : Nat) : Int) = 0 from rfl, show ((([] : List S40).length : Nat) : Int) = 0 from rfl] at hb
    exact hb
  exact ⟨800000 + 1, H 800000 (Nat.le_refl _)⟩
end Go.Proofs.Ytagdlmlanjjecaa.Pure
