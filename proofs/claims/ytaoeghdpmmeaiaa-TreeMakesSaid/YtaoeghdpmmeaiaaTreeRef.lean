/- The reference's lengths, once, are the tree's; used by the claims of this seat. -/
import Derived.Test.YtaoeghdpmmeaiaaTreeAll
import Derived.Test.YtaoeghdpmmeaiaaPx0
import Derived.Test.YtaoeghdpmmeaiaaPx7
import Derived.Test.YtaoeghdpmmeaiaaPx10
import Derived.Test.YtaoeghdpmmeaiaaPx13
import Derived.Test.YtaoeghdpmmeaiaaPx14
namespace Go.Proofs.Ytaoeghdpmmeaiaa.Glue
open Go.RowKit Go.Proofs.Ytaoeghdpmmeaiaa.P Go.Proofs.YtaoeghdpmmeaiaaW.PrintWords Go.Proofs.YtaoeghdpmmeaiaaW.PrintLast Go.Proofs.YtaoeghdpmmeaiaaW.PrintMore
set_option linter.unusedVariables false
set_option linter.unusedSimpArgs false

def toP (x : S62) : Int × List Int := (x.f0, x.f1)
def wsOf (ns : List S62) : List Int := ns.map (·.f0)
theorem wsOf_p (ns : List S62) : (ns.map toP).map (·.1) = wsOf ns := by unfold wsOf toP; rw [List.map_map]; rfl
theorem rdT_at (ns : List S62) {i : Nat} (h : i < ns.length) : rd_T62 ns (i : Int) = ns[i] := by
  unfold rd_T62
  rw [Int.toNat_natCast, List.getD_eq_getElem?_getD, List.getElem?_eq_getElem h]
  rfl
theorem wsOf_at (ns : List S62) {i : Nat} (h : i < ns.length) : (wsOf ns).getD i 0 = (ns[i]).f0 := by
  unfold wsOf
  rw [List.getD_eq_getElem?_getD, List.getElem?_map, List.getElem?_eq_getElem h]
  rfl
/-- A place of a row without its a-th, in the row. -/
def emb (a c : Nat) : Nat := if c < a then c else c + 1
def cntTo (a i : Nat) : Nat := if i ≤ a then i else i - 1
/-- The least one's place of the first i, but the a-th. -/
def atTo (ws : List Int) (a i : Nat) : Int := if cntTo a i = 0 then -1 else ((emb a (leastTo (ws.eraseIdx a) (cntTo a i)) : Nat) : Int)
theorem erase_at (ws : List Int) (a c : Nat) : (ws.eraseIdx a).getD c 0 = ws.getD (emb a c) 0 := by
  rw [List.getD_eq_getElem?_getD, List.getD_eq_getElem?_getD, List.getElem?_eraseIdx]
  unfold emb
  split <;> rfl
theorem least_le (ws : List Int) : ∀ k, 0 < k → leastTo ws k < k
  | 1, _ => by rw [leastTo_succ]; split <;> simp [leastTo]
  | k + 2, _ => by
    have := least_le ws (k + 1) (by omega)
    rw [leastTo_succ]
    split <;> omega
theorem refleast_loop (ns : List S62) (but : Int) (a : Nat) (hb : ∀ i : Nat, i < ns.length → ((i : Int) = but ↔ i = a)) (hl : ns.length < 2 ^ 40) : ∀ (d i k : Nat), i + d = ns.length → d < k → wherryref01_least.l0 k ns but (atTo (wsOf ns) a i) (i : Int) = some (atTo (wsOf ns) a ns.length) := by
  intro d
  induction d with
  | zero =>
    intro i k hi hk
    obtain ⟨k, rfl⟩ : ∃ m, k = m + 1 := ⟨k - 1, by omega⟩
    have e : i = ns.length := by omega
    subst e
    simp only [wherryref01_least.l0]
    rw [if_neg (by omega)]
  | succ d ih =>
    intro i k hi hk
    obtain ⟨k, rfl⟩ : ∃ m, k = m + 1 := ⟨k - 1, by omega⟩
    have hlt : i < ns.length := by omega
    have hnext := ih (i + 1) k (by omega) (by omega)
    have ew : wrap64 ((i : Int) + 1) = ((i + 1 : Nat) : Int) := wrap64_in (by omega) (by omega)
    simp only [wherryref01_least.l0]
    rw [if_pos (by omega), ew]
    by_cases hia : i = a
    · rw [if_pos ((hb i hlt).2 hia)]
      have e : atTo (wsOf ns) a (i + 1) = atTo (wsOf ns) a i := by
        unfold atTo
        rw [show cntTo a (i + 1) = cntTo a i from by unfold cntTo; rw [if_neg (show ¬ i + 1 ≤ a by omega), if_pos (show i ≤ a by omega)]; omega]
      rw [← e]
      exact hnext
    · rw [if_neg (fun h => hia ((hb i hlt).1 h))]
      have hm1 : cntTo a (i + 1) = cntTo a i + 1 := by
        unfold cntTo
        by_cases h1 : i < a
        · rw [if_pos (show i + 1 ≤ a by omega), if_pos (show i ≤ a by omega)]
        · rw [if_neg (show ¬ i + 1 ≤ a by omega), if_neg (show ¬ i ≤ a by omega)]; omega
      have hem : emb a (cntTo a i) = i := by
        unfold cntTo emb
        by_cases h1 : i < a
        · rw [if_pos (show i ≤ a by omega), if_pos h1]
        · rw [if_neg (show ¬ i ≤ a by omega), if_neg (show ¬ i - 1 < a by omega)]; omega
      by_cases h0 : cntTo a i = 0
      · have e1 : atTo (wsOf ns) a i = -1 := by unfold atTo; rw [if_pos h0]
        have e2 : atTo (wsOf ns) a (i + 1) = (i : Int) := by
          unfold atTo
          rw [hm1, if_neg (by omega), h0]
          have : leastTo ((wsOf ns).eraseIdx a) (0 + 1) = 0 := by
            have := least_le ((wsOf ns).eraseIdx a) 1 (by omega)
            simpa using this
          rw [this]
          rw [h0] at hem
          rw [hem]
        rw [e1, if_pos (by omega)]
        rw [e2] at hnext
        exact hnext
      · obtain ⟨c, hc⟩ : ∃ c, c = leastTo ((wsOf ns).eraseIdx a) (cntTo a i) := ⟨_, rfl⟩
        have hcl : c < cntTo a i := by rw [hc]; exact least_le _ _ (by omega)
        have e1 : atTo (wsOf ns) a i = ((emb a c : Nat) : Int) := by unfold atTo; rw [if_neg h0, ← hc]
        have hel : emb a c < ns.length := by
          unfold emb
          unfold cntTo at hcl
          split <;> (split at hcl <;> omega)
        have e2 : atTo (wsOf ns) a (i + 1) = if (ns[i]).f0 < (ns[emb a c]).f0 then (i : Int) else ((emb a c : Nat) : Int) := by
          unfold atTo
          rw [hm1, if_neg (by omega), leastTo_succ, ← hc, erase_at, erase_at, hem, wsOf_at ns hlt, wsOf_at ns hel]
          by_cases h : (ns[i]).f0 < (ns[emb a c]).f0
          · rw [if_pos h, if_pos h, hem]
          · rw [if_neg h, if_neg h]
        rw [e1, if_neg (by omega), if_pos (by omega), if_pos (by omega), if_pos (by omega), rdT_at ns hlt, rdT_at ns hel]
        rw [e2] at hnext
        by_cases h : (ns[i]).f0 < (ns[emb a c]).f0
        · rw [if_pos h]
          rw [if_pos h] at hnext
          exact hnext
        · rw [if_neg h]
          rw [if_neg h] at hnext
          exact hnext
theorem refleast_first (ns : List S62) (h0 : 0 < ns.length) (hl : ns.length < 2 ^ 40) (k : Nat) (hk : ns.length < k) : wherryref01_least.f k ns (-1) = some ((leastAt (wsOf ns) : Nat) : Int) := by
  have hw : (wsOf ns).length = ns.length := by unfold wsOf; simp
  have := refleast_loop ns (-1) ns.length (fun i hi => ⟨fun h => by omega, fun h => by omega⟩) hl ns.length 0 k (by omega) hk
  unfold wherryref01_least.f
  have e0 : atTo (wsOf ns) ns.length 0 = -1 := by unfold atTo cntTo; rw [if_pos (by simp)]
  rw [e0] at this
  rw [show ((0 : Nat) : Int) = 0 from rfl] at this
  rw [this]
  unfold atTo cntTo
  rw [if_pos (Nat.le_refl _), if_neg (by omega), List.eraseIdx_of_length_le (by omega)]
  unfold leastAt
  rw [hw]
  unfold emb
  rw [if_pos (least_le _ _ h0)]
theorem refleast_second (ns : List S62) (a : Nat) (ha : a < ns.length) (h1 : 1 < ns.length) (hl : ns.length < 2 ^ 40) (k : Nat) (hk : ns.length < k) : wherryref01_least.f k ns (a : Int) = some ((emb a (leastAt ((wsOf ns).eraseIdx a)) : Nat) : Int) := by
  have hw : (wsOf ns).length = ns.length := by unfold wsOf; simp
  have := refleast_loop ns (a : Int) a (fun i hi => ⟨fun h => by omega, fun h => by omega⟩) hl ns.length 0 k (by omega) hk
  unfold wherryref01_least.f
  have e0 : atTo (wsOf ns) a 0 = -1 := by unfold atTo cntTo; rw [if_pos (by simp)]
  rw [e0] at this
  rw [show ((0 : Nat) : Int) = 0 from rfl] at this
  rw [this]
  unfold atTo cntTo
  rw [if_neg (show ¬ ns.length ≤ a by omega), if_neg (show ¬ ns.length - 1 = 0 by omega)]
  unfold leastAt
  rw [List.length_eraseIdx_of_lt (show a < (wsOf ns).length by omega), hw]
/-- The bits of both are counted. -/
theorem refbump_loop (out both : List Int) (ns : List S62) (a b w : Int) (hr : ∀ s ∈ both, 0 ≤ s ∧ s < out.length) (hl : both.length < 2 ^ 40) : ∀ (d i k : Nat), i + d = both.length →
    wherryref01_lengths.l2 (d + 1 + k) (bump out (both.take i)) ns a b (i : Int) w both = wherryref01_lengths.l3 k (bump out both) ns a b ([] : List S62) 0 w both := by
  intro d
  induction d with
  | zero =>
    intro i k hi
    rw [show 0 + 1 + k = k + 1 from by omega]
    simp only [wherryref01_lengths.l2]
    rw [if_neg (by omega), List.take_of_length_le (by omega)]
  | succ d ih =>
    intro i k hi
    have hlt : i < both.length := by omega
    have hm := hr both[i] (List.getElem_mem hlt)
    have e : rd both (i : Int) = both[i] := by rw [rd_nat]; simp [hlt]
    rw [show d + 1 + 1 + k = (d + 1 + k) + 1 from by omega]
    simp only [wherryref01_lengths.l2]
    rw [if_pos (by omega), if_pos (by omega), e, if_pos hm.1, if_pos (by rw [bump_length]; exact hm.2), wrap64_in (a := (i : Int) + 1) (by omega) (by omega)]
    have := ih (i + 1) k (by omega)
    rw [bump_take out both i hlt, e] at this
    exact this
/-- The others, as they stand. -/
def othersTo (ns : List S62) (a b i : Nat) : List S62 := (List.range i).filterMap (fun j => if j = a ∨ j = b then none else ns[j]?)
theorem othersTo_succ (ns : List S62) (a b i : Nat) : othersTo ns a b (i + 1) = othersTo ns a b i ++ if i = a ∨ i = b then [] else ns[i]?.toList := by
  unfold othersTo
  rw [List.range_succ, List.filterMap_append]
  congr 1
  by_cases h : i = a ∨ i = b
  · rw [if_pos h]; simp [h]
  · rw [if_neg h]
    simp only [List.filterMap_cons, List.filterMap_nil, if_neg h]
    cases ns[i]? <;> rfl
theorem othersTo_length (ns : List S62) (a b i : Nat) : (othersTo ns a b i).length ≤ i := by
  unfold othersTo
  exact Nat.le_trans (List.length_filterMap_le _ _) (by simp)
theorem refothers_loop (out : List Int) (ns : List S62) (a b : Nat) (w : Int) (both : List Int) (hl : ns.length < 2 ^ 40) : ∀ (d i k : Nat), i + d = ns.length →
    wherryref01_lengths.l3 (d + 1 + k) out ns (a : Int) (b : Int) (othersTo ns a b i) (i : Int) w both = wherryref01_lengths.l1 k out (othersTo ns a b ns.length ++ [⟨w, both⟩]) := by
  intro d
  induction d with
  | zero =>
    intro i k hi
    have e : i = ns.length := by omega
    subst e
    have := othersTo_length ns a b ns.length
    rw [show 0 + 1 + k = k + 1 from by omega]
    simp only [wherryref01_lengths.l3]
    rw [if_neg (by omega), if_pos (by omega)]
  | succ d ih =>
    intro i k hi
    have hlt : i < ns.length := by omega
    have hle := othersTo_length ns a b i
    have hs := othersTo_succ ns a b i
    have ew : wrap64 ((i : Int) + 1) = ((i + 1 : Nat) : Int) := wrap64_in (by omega) (by omega)
    have hi2 := ih (i + 1) k (by omega)
    rw [show d + 1 + 1 + k = (d + 1 + k) + 1 from by omega]
    simp only [wherryref01_lengths.l3]
    rw [if_pos (by omega), ew]
    by_cases ha : i = a
    · rw [if_pos (by omega)]
      rw [hs, if_pos (Or.inl ha), List.append_nil] at hi2
      exact hi2
    · rw [if_neg (by omega)]
      by_cases hb : i = b
      · rw [if_pos (by omega)]
        rw [hs, if_pos (Or.inr hb), List.append_nil] at hi2
        exact hi2
      · rw [if_neg (by omega), if_pos (by omega), if_pos (by omega), rdT_at ns hlt]
        rw [hs, if_neg (fun h => h.elim ha hb), List.getElem?_eq_getElem hlt] at hi2
        exact hi2
theorem erase_get {α : Type} (l : List α) (a j : Nat) : (l.eraseIdx a)[j]? = l[emb a j]? := by
  rw [List.getElem?_eraseIdx]
  unfold emb
  split <;> rfl
theorem others_take (ns : List S62) (a c : Nat) (ha : a < ns.length) (hc : c + 1 < ns.length) : ∀ i, i ≤ ns.length → othersTo ns a (emb a c) i = ((ns.eraseIdx a).eraseIdx c).take (i - (if a < i then 1 else 0) - (if emb a c < i then 1 else 0))
  | 0, _ => by simp [othersTo]
  | i + 1, h => by
    rw [othersTo_succ, others_take ns a c ha hc i (by omega)]
    have hne : emb a c ≠ a := by unfold emb; split <;> omega
    by_cases h1 : i = a
    · rw [if_pos (Or.inl h1), List.append_nil]
      congr 1
      rw [if_neg (show ¬ a < i by omega), if_pos (show a < i + 1 by omega)]
      by_cases h2 : emb a c < i
      · rw [if_pos h2, if_pos (by omega)]; omega
      · rw [if_neg h2, if_neg (by omega)]; omega
    · by_cases h2 : i = emb a c
      · rw [if_pos (Or.inr h2), List.append_nil]
        congr 1
        rw [if_neg (show ¬ emb a c < i by omega), if_pos (show emb a c < i + 1 by omega)]
        by_cases h3 : a < i
        · rw [if_pos h3, if_pos (by omega)]; omega
        · rw [if_neg h3, if_neg (by omega)]; omega
      · rw [if_neg (show ¬ (i = a ∨ i = emb a c) from fun hh => hh.elim h1 h2)]
        obtain ⟨m, hm⟩ : ∃ m, m = i - (if a < i then 1 else 0) - (if emb a c < i then 1 else 0) := ⟨_, rfl⟩
        have hm1 : (i + 1 - (if a < i + 1 then 1 else 0) - (if emb a c < i + 1 then 1 else 0)) = m + 1 := by
          have hx : emb a c = if c < a then c else c + 1 := rfl
          rw [hm]
          by_cases h3 : a < i
          · rw [if_pos h3, if_pos (by omega)]
            by_cases h4 : emb a c < i
            · rw [if_pos h4, if_pos (by omega)]
              have : 2 ≤ i := by omega
              omega
            · rw [if_neg h4, if_neg (by omega)]; omega
          · rw [if_neg h3, if_neg (by omega)]
            by_cases h4 : emb a c < i
            · rw [if_pos h4, if_pos (by omega)]; omega
            · rw [if_neg h4, if_neg (show ¬ emb a c < i + 1 by omega)]; omega
        have hget : ((ns.eraseIdx a).eraseIdx c)[m]? = ns[i]? := by
          rw [erase_get, erase_get]
          congr 1
          rw [hm]
          unfold emb at h2 ⊢
          by_cases h5 : c < a
          · simp only [h5, if_true] at h2 ⊢
            by_cases h3 : a < i
            · have h4 : c < i := by omega
              simp only [h3, h4, if_true]
              rw [if_neg (show ¬ i - 1 - 1 < c by omega), if_neg (by omega)]
              omega
            · by_cases h4 : c < i
              · simp only [h3, h4, if_true, if_false]
                rw [if_neg (show ¬ i - 0 - 1 < c by omega), if_pos (by omega)]
                omega
              · simp only [h3, h4, if_false]
                rw [if_pos (show i - 0 - 0 < c by omega), if_pos (by omega)]
                omega
          · simp only [h5, if_false] at h2 ⊢
            by_cases h3 : a < i
            · by_cases h4 : c + 1 < i
              · simp only [h3, h4, if_true]
                rw [if_neg (show ¬ i - 1 - 1 < c by omega), if_neg (by omega)]
                omega
              · simp only [h3, h4, if_true, if_false]
                rw [if_pos (show i - 1 - 0 < c by omega), if_neg (by omega)]
                omega
            · have h4 : ¬ c + 1 < i := by omega
              simp only [h3, h4, if_false]
              rw [if_pos (show i - 0 - 0 < c by omega), if_pos (by omega)]
              omega
        rw [hm1, List.take_add_one, hget, ← hm]
/-- A round of the reference's: the tree's. -/
theorem ref_merge (ns : List S62) (h1 : 1 < ns.length) : ∃ a c : Nat, a = leastAt (wsOf ns) ∧ a < ns.length ∧ c = leastAt ((wsOf ns).eraseIdx a) ∧ c + 1 < ns.length ∧ emb a c < ns.length ∧ emb a c ≠ a ∧
    pickOf (ns.map toP) = toP (rd_T62 ns (a : Int)) ∧ pickOf (restOf (ns.map toP)) = toP (rd_T62 ns ((emb a c : Nat) : Int)) ∧ restOf (restOf (ns.map toP)) = (othersTo ns a (emb a c) ns.length).map toP := by
  have hw : (wsOf ns).length = ns.length := by unfold wsOf; simp
  have ha : leastAt (wsOf ns) < ns.length := by rw [← hw]; exact leastAt_lt _ (by omega)
  have hle : ((wsOf ns).eraseIdx (leastAt (wsOf ns))).length = ns.length - 1 := by rw [List.length_eraseIdx_of_lt (by omega), hw]
  have hc := leastAt_lt ((wsOf ns).eraseIdx (leastAt (wsOf ns))) (by omega)
  obtain ⟨a, hae⟩ : ∃ a, a = leastAt (wsOf ns) := ⟨_, rfl⟩
  rw [← hae] at ha hle hc
  obtain ⟨c, hce⟩ : ∃ c, c = leastAt ((wsOf ns).eraseIdx a) := ⟨_, rfl⟩
  rw [← hce] at hc
  have hb : emb a c < ns.length := by unfold emb; split <;> omega
  have hrest : restOf (ns.map toP) = (ns.eraseIdx a).map toP := by
    unfold restOf
    rw [wsOf_p, ← hae, map_erase]
  have hwr : ((restOf (ns.map toP)).map (·.1)) = (wsOf ns).eraseIdx a := by
    rw [hrest, wsOf_p]
    unfold wsOf
    rw [map_erase]
  refine ⟨a, c, hae, ha, hce, by omega, hb, by unfold emb; split <;> omega, ?_, ?_, ?_⟩
  · unfold pickOf
    rw [wsOf_p, ← hae, rdT_at ns ha, List.getD_eq_getElem?_getD, List.getElem?_map, List.getElem?_eq_getElem ha]
    rfl
  · unfold pickOf
    rw [hwr, ← hce, hrest, rdT_at ns hb, List.getD_eq_getElem?_getD, List.getElem?_map, erase_get, List.getElem?_eq_getElem hb]
    rfl
  · unfold restOf
    have hlen : ((ns.eraseIdx a).eraseIdx c).length ≤ ns.length - 1 - 1 := by
      rw [List.length_eraseIdx_of_lt (show c < (ns.eraseIdx a).length by rw [List.length_eraseIdx_of_lt ha]; omega), List.length_eraseIdx_of_lt ha]
      exact Nat.le_refl _
    rw [show List.eraseIdx (ns.map toP) (leastAt ((ns.map toP).map (·.1))) = restOf (ns.map toP) from rfl, hwr, ← hce, hrest, others_take ns a c ha (by omega) ns.length (Nat.le_refl _), if_pos ha, if_pos hb, List.take_of_length_le hlen, map_erase, map_erase, map_erase]
theorem ref_rounds (n F : Nat) (hn : n ≤ 300) (hF : 700 ≤ F) : ∀ (m : Nat) (ns : List S62) (out : List Int) (k : Nat), ns.length ≤ m + 1 → Go.Proofs.Ytaoeghdpmmeaiaa.P.Good n (ns.map toP) → out.length = n → (m + 1) * F ≤ k → wherryref01_lengths.l1 k out ns = some (onceFrom m (ns.map toP) out) := by
  intro m
  induction m with
  | zero =>
    intro ns out k hl hg ho hk
    rw [Nat.zero_add, Nat.one_mul] at hk
    obtain ⟨k, rfl⟩ : ∃ j, k = j + 1 := ⟨k - 1, by omega⟩
    simp only [wherryref01_lengths.l1]
    rw [if_neg (by omega), onceFrom_end _ _ _ (by rw [List.length_map]; omega)]
  | succ m ih =>
    intro ns out k hl hg ho hk
    rw [Nat.succ_mul] at hk
    generalize hq : (m + 1) * F = Q at hk ih
    by_cases h1 : 1 < ns.length
    · obtain ⟨a, c, hae, ha, hce, hc, hb, hne, p1, p2, p3⟩ := ref_merge ns h1
      have hlen : ns.length ≤ 300 := by have := hg.1; rw [List.length_map] at this; omega
      obtain ⟨mg1, mg2, mg3, mg4⟩ := merge_good hg (by rw [List.length_map]; exact h1)
      have hboth : bothOf (ns.map toP) = (rd_T62 ns (a : Int)).f1 ++ (rd_T62 ns ((emb a c : Nat) : Int)).f1 := by unfold bothOf; rw [p1, p2]; rfl
      have hmerge : mergeOf (ns.map toP) = (othersTo ns a (emb a c) ns.length ++ [(⟨wrap64 ((rd_T62 ns (a : Int)).f0 + (rd_T62 ns ((emb a c : Nat) : Int)).f0), bothOf (ns.map toP)⟩ : S62)]).map toP := by
        unfold mergeOf
        rw [p3, List.map_append, p1, p2]
        rfl
      obtain ⟨k', hk'⟩ : ∃ k', k = ((bothOf (ns.map toP)).length + 1 + (ns.length + 1 + k')) + 1 := ⟨k - (bothOf (ns.map toP)).length - ns.length - 3, by omega⟩
      have hk2 : Q ≤ k' := by omega
      subst hk'
      simp only [wherryref01_lengths.l1]
      rw [if_pos (by omega), refleast_first ns (by omega) (by omega) _ (by omega), ← hae, Option.bind_some, refleast_second ns a ha h1 (by omega) _ (by omega), ← hce, Option.bind_some]
      rw [if_pos (by omega), if_pos (by omega), if_pos (by omega), if_pos (by omega)]
      have l1 : ((rd_T62 ns (a : Int)).f1).length ≤ (bothOf (ns.map toP)).length := by rw [hboth, List.length_append]; omega
      have l2 : ((rd_T62 ns ((emb a c : Nat) : Int)).f1).length ≤ (bothOf (ns.map toP)).length := by rw [hboth, List.length_append]; omega
      rw [if_pos (by simp only [List.length_nil]; omega), Option.bind_some, if_pos (by simp only [List.nil_append]; omega), List.nil_append, ← hboth]
      have e1 := refbump_loop out (bothOf (ns.map toP)) ns (a : Int) ((emb a c : Nat) : Int) (wrap64 ((rd_T62 ns (a : Int)).f0 + (rd_T62 ns ((emb a c : Nat) : Int)).f0)) (by rw [ho]; exact mg4) (by omega) (bothOf (ns.map toP)).length 0 (ns.length + 1 + k') (by omega)
      have e2 := refothers_loop (bump out (bothOf (ns.map toP))) ns a (emb a c) (wrap64 ((rd_T62 ns (a : Int)).f0 + (rd_T62 ns ((emb a c : Nat) : Int)).f0)) (bothOf (ns.map toP)) (by omega) ns.length 0 k' (by omega)
      rw [show bump out ((bothOf (ns.map toP)).take 0) = out from rfl, show ((0 : Nat) : Int) = 0 from rfl] at e1
      rw [show othersTo ns a (emb a c) 0 = [] from rfl, show ((0 : Nat) : Int) = 0 from rfl] at e2
      rw [e1, e2]
      unfold onceFrom
      rw [if_pos (by rw [List.length_map]; exact h1), hmerge]
      have hl2 : (mergeOf (ns.map toP)).length = ns.length - 1 := by rw [mg2, List.length_map]
      rw [hmerge, List.length_map] at hl2
      exact ih _ _ k' (by omega) (by rw [← hmerge]; exact mg1) (by rw [bump_length]; exact ho) hk2
    · obtain ⟨k, rfl⟩ : ∃ j, k = j + 1 := ⟨k - 1, by omega⟩
      simp only [wherryref01_lengths.l1]
      rw [if_neg (by omega), onceFrom_end _ _ _ (by rw [List.length_map]; exact h1)]
/-- The leaves, as the reference holds them. -/
def rleafs (ws : List Int) (i : Nat) : List S62 := (leafs ws i).map (fun x => ⟨x.1, x.2⟩)
theorem rleafs_p (ws : List Int) (i : Nat) : (rleafs ws i).map toP = leafs ws i := by
  unfold rleafs toP
  rw [List.map_map]
  exact List.map_id' _
theorem rleafs_length (ws : List Int) (i : Nat) : (rleafs ws i).length = (leafs ws i).length := by unfold rleafs; rw [List.length_map]
theorem ref_leafs (ws : List Int) (out : List Int) (hl : ws.length ≤ 300) (x : Option (List Int)) (k : Nat) (hx : wherryref01_lengths.l0 (k + 1) ws out (rleafs ws ws.length) (ws.length : Int) = x) : ∀ (d i : Nat), i + d = ws.length → wherryref01_lengths.l0 (d + (k + 1)) ws out (rleafs ws i) (i : Int) = x := by
  intro d
  induction d with
  | zero =>
    intro i hi
    have e : i = ws.length := by omega
    subst e
    rw [Nat.zero_add]
    exact hx
  | succ d ih =>
    intro i hi
    have hlt : i < ws.length := by omega
    have hle := (leafs_good ws i (by omega)).1
    rw [← rleafs_length] at hle
    rw [show d + 1 + (k + 1) = (d + (k + 1)) + 1 from by omega]
    unfold wherryref01_lengths.l0
    rw [if_pos (by omega), if_pos (by omega), rd_nat, wrap64_in (by omega) (by omega)]
    have hs := ih (i + 1) (by omega)
    unfold rleafs at hs hle ⊢
    rw [leafs_succ, List.map_append] at hs
    by_cases hp : ws.getD i 0 > 0
    · rw [if_pos hp, if_pos (by omega)]
      rw [if_pos hp] at hs
      exact hs
    · rw [if_neg hp]
      rw [if_neg hp] at hs
      simpa using hs
/-- The reference's lengths, once, are the tree's. -/
theorem reflens_is (ws : List Int) (hl : ws.length ≤ 300) (k : Nat) (hk : 300000 ≤ k) : wherryref01_lengths.f k ws = some (onceOf ws) := by
  have hg := leafs_good ws ws.length (Nat.le_refl _)
  have hgood : Go.Proofs.Ytaoeghdpmmeaiaa.P.Good ws.length ((rleafs ws ws.length).map toP) := by rw [rleafs_p]; exact hg
  have hrl := rleafs_length ws ws.length
  unfold wherryref01_lengths.f
  rw [if_pos (by omega), if_pos (by omega), Int.toNat_natCast]
  obtain ⟨j, rfl⟩ : ∃ j, k = ws.length + (j + 1 + 1) := ⟨k - ws.length - 2, by omega⟩
  refine ref_leafs ws _ hl _ (j + 1) ?_ ws.length 0 (by omega)
  have hj : ∀ out : List Int, out.length = ws.length → wherryref01_lengths.j1 (j + 1) out (rleafs ws ws.length) = some (onceFrom (leafs ws ws.length).length (leafs ws ws.length) out) := by
    intro out ho
    simp only [wherryref01_lengths.j1]
    have := ref_rounds ws.length 700 hl (Nat.le_refl _) (rleafs ws ws.length).length (rleafs ws ws.length) out j (by omega) hgood ho (by omega)
    rw [this, rleafs_p, hrl]
  unfold wherryref01_lengths.l0
  rw [if_neg (by omega)]
  unfold onceOf
  by_cases h1 : (leafs ws ws.length).length = 1
  · rw [if_pos (by omega), if_pos (by omega), if_pos h1]
    match hq : leafs ws ws.length, h1 with
    | [x], _ =>
      have hr : rleafs ws ws.length = [⟨x.1, x.2⟩] := by unfold rleafs; rw [hq]; rfl
      have hx := hg.2.2 x (by rw [hq]; simp)
      have hlx : 0 < x.2.length := List.length_pos_iff.2 hx.1
      have e1 : (rd_T62 (rleafs ws ws.length) 0).f1 = x.2 := by rw [hr]; rfl
      have hm : rd x.2 0 ∈ x.2 := by
        have := rd_lt_mem hlx
        exact this
      have hb := hx.2 _ hm
      rw [e1, if_pos (by omega), if_pos hb.1, if_pos (by rw [List.length_replicate]; exact hb.2), hj _ (by simp), hq, onceFrom_end _ _ _ (by simp)]
      rfl
  · rw [if_neg (by omega), if_neg h1, hj _ (by simp)]
end Go.Proofs.Ytaoeghdpmmeaiaa.Glue
