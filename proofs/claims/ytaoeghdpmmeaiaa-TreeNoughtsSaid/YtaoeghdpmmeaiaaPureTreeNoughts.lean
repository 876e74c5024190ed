/- TreeNoughts holds: weights of 0 among the others change no length, they have none; at all lists of ints and every int. No condition. -/
import Derived.Test.YtaoeghdpmmeaiaaTreeFuel
import Derived.Test.YtaoeghdpmmeaiaaPx4
import Derived.Test.YtaoeghdpmmeaiaaPx10
import Derived.Test.YtaoeghdpmmeaiaaPx12
import Derived.Test.YtaoeghdpmmeaiaaPx17
namespace Go.Proofs.Ytaoeghdpmmeaiaa.Pure
open Go.RowKit Go.Proofs.Ytaoeghdpmmeaiaa.P Go.Proofs.Ytaoeghdpmmeaiaa.Glue Go.Proofs.YtaoeghdpmmeaiaaW.PrintWords Go.Proofs.YtaoeghdpmmeaiaaW.PrintLast Go.Proofs.YtaoeghdpmmeaiaaW.PrintMore
set_option linter.unusedVariables false
set_option linter.unusedSimpArgs false

/-- A row with a nought laid in. -/
def withNought (l : List Int) (p : Nat) : List Int := l.take p ++ 0 :: l.drop p
/-- A place behind the nought is one more. -/
def renS (p : Nat) (s : Int) : Int := if s < p then s else s + 1
def renN (p : Nat) (x : Int × List Int) : Int × List Int := (x.1, x.2.map (renS p))
section
variable {l : List Int} {p : Nat}
theorem wn_length (hp : p ≤ l.length) : (withNought l p).length = l.length + 1 := by unfold withNought; simp; omega
theorem wn_before (hp : p ≤ l.length) {i : Nat} (hi : i < p) : (withNought l p).getD i 0 = l.getD i 0 := by
  unfold withNought
  rw [List.getD_eq_getElem?_getD, List.getD_eq_getElem?_getD, List.getElem?_append_left (by rw [List.length_take]; omega), List.getElem?_take_of_lt hi]
theorem wn_at (hp : p ≤ l.length) : (withNought l p).getD p 0 = 0 := by
  unfold withNought
  rw [List.getD_eq_getElem?_getD, List.getElem?_append_right (by rw [List.length_take]; omega), List.length_take, Nat.min_eq_left hp, Nat.sub_self]
  rfl
theorem wn_behind (hp : p ≤ l.length) {i : Nat} (hi : p ≤ i) : (withNought l p).getD (i + 1) 0 = l.getD i 0 := by
  unfold withNought
  rw [List.getD_eq_getElem?_getD, List.getD_eq_getElem?_getD, List.getElem?_append_right (by rw [List.length_take]; omega), List.length_take, Nat.min_eq_left hp, show i + 1 - p = (i - p) + 1 from by omega, List.getElem?_cons_succ, List.getElem?_drop, show p + (i - p) = i from by omega]
theorem wn_mem (hp : p ≤ l.length) (x : Int) : x ∈ withNought l p ↔ x = 0 ∨ x ∈ l := by
  unfold withNought
  have e : x ∈ l ↔ x ∈ l.take p ∨ x ∈ l.drop p := by rw [← List.mem_append, List.take_append_drop]
  rw [List.mem_append, List.mem_cons, e]
  constructor
  · rintro (h | h | h)
    · exact Or.inr (Or.inl h)
    · exact Or.inl h
    · exact Or.inr (Or.inr h)
  · rintro (h | h | h)
    · exact Or.inr (Or.inl h)
    · exact Or.inl h
    · exact Or.inr (Or.inr h)
theorem wn_set (hp : p ≤ l.length) {t : Int} (h0 : 0 ≤ t) (h1 : t < l.length) (v : Int) : (withNought l p).set (renS p t).toNat v = withNought (l.set t.toNat v) p := by
  unfold withNought renS
  by_cases h : t < (p : Int)
  · rw [if_pos h, List.set_append_left _ _ (by rw [List.length_take]; omega), List.take_set, List.drop_set_of_lt (by omega)]
  · rw [if_neg h, List.set_append_right _ _ (by rw [List.length_take]; omega), List.length_take, Nat.min_eq_left hp, show (t + 1).toNat - p = (t.toNat - p) + 1 from by omega, List.set_cons_succ, List.take_set_of_le (by omega), List.drop_set, if_neg (by omega)]
theorem wn_rd (hp : p ≤ l.length) {t : Int} (h0 : 0 ≤ t) : rd (withNought l p) (renS p t) = rd l t := by
  obtain ⟨j, rfl⟩ : ∃ j : Nat, t = (j : Int) := ⟨t.toNat, by omega⟩
  unfold renS
  by_cases h : (j : Int) < (p : Int)
  · rw [if_pos h, rd_nat, rd_nat, wn_before hp (by omega)]
  · rw [if_neg h, show (j : Int) + 1 = ((j + 1 : Nat) : Int) from by omega, rd_nat, rd_nat, wn_behind hp (by omega)]
end
theorem wn_bump {p : Nat} : ∀ (both out : List Int), p ≤ out.length → (∀ t ∈ both, 0 ≤ t ∧ t < out.length) → bump (withNought out p) (both.map (renS p)) = withNought (bump out both) p
  | [], _, _, _ => rfl
  | t :: r, out, hp, h => by
    have ht := h t List.mem_cons_self
    show bump ((withNought out p).set (renS p t).toNat (wrap64 (rd (withNought out p) (renS p t) + 1))) (r.map (renS p)) = withNought (bump (out.set t.toNat (wrap64 (rd out t + 1))) r) p
    rw [wn_rd hp ht.1, wn_set hp ht.1 ht.2]
    exact wn_bump r _ (by rw [List.length_set]; exact hp) (fun u hu => by rw [List.length_set]; exact h u (List.mem_cons_of_mem _ hu))
theorem ren_ins (p : Nat) (z : Int × List Int) : ∀ q, insQ (renN p z) (q.map (renN p)) = (insQ z q).map (renN p)
  | [] => rfl
  | y :: ys => by
    unfold insQ
    rw [List.map_cons]
    show (if z.1 < y.1 then _ else _) = _
    by_cases h : z.1 < y.1
    · rw [if_pos h, if_pos h]; rfl
    · rw [if_neg h, if_neg h, ren_ins p z ys]; rfl
theorem ren_sort (p : Nat) (ns : List (Int × List Int)) : sortQ (ns.map (renN p)) = (sortQ ns).map (renN p) := by
  induction ns using snoc_induct with
  | h0 => rfl
  | h1 ns z ih => rw [List.map_append, List.map_singleton, sortQ_snoc, sortQ_snoc, ih, ren_ins]
theorem ren_run {ws : List Int} (hn : ws.length ≤ 2 ^ 30) {p : Nat} (hp : p ≤ ws.length) : ∀ (k : Nat) (q : List (Int × List Int)) (out : List Int), QInv ws q out → qRun k (q.map (renN p)) (withNought out p) = withNought (qRun k q out) p
  | 0, _, _, _ => by unfold qRun; rfl
  | k + 1, [], _, _ => rfl
  | k + 1, [_], _, _ => rfl
  | k + 1, x :: y :: r, out, h => by
    show qRun k (insQ (x.1 + y.1, x.2.map (renS p) ++ y.2.map (renS p)) (r.map (renN p))) (bump (withNought out p) (x.2.map (renS p) ++ y.2.map (renS p))) = withNought (qRun k _ _) p
    rw [← List.map_append, show (x.1 + y.1, (x.2 ++ y.2).map (renS p)) = renN p (x.1 + y.1, x.2 ++ y.2) from rfl, ren_ins, wn_bump _ _ (by rw [h.len]; exact hp) (fun t ht => ?_)]
    · exact ren_run hn hp k _ _ (q_step hn x y r out h)
    · rw [h.len]
      rcases List.mem_append.1 ht with ht | ht
      · have := h.syms x (by simp) t ht
        exact ⟨this.1, this.2.1⟩
      · have := h.syms y (by simp) t ht
        exact ⟨this.1, this.2.1⟩
theorem wn_leafs_before {ws : List Int} {p : Nat} (hp : p ≤ ws.length) : ∀ i : Nat, i ≤ p → leafs (withNought ws p) i = (leafs ws i).map (renN p)
  | 0, _ => rfl
  | i + 1, h => by
    rw [leafs_succ, leafs_succ, wn_leafs_before hp i (by omega), List.map_append, wn_before hp (by omega)]
    congr 1
    by_cases h0 : 0 < ws.getD i 0
    · rw [if_pos h0]
      show [_] = [(_, [renS p (i : Int)])]
      unfold renS
      rw [if_pos (by omega)]
    · rw [if_neg h0]; rfl
theorem wn_leafs_behind {ws : List Int} {p : Nat} (hp : p ≤ ws.length) : ∀ d : Nat, leafs (withNought ws p) (p + d + 1) = (leafs ws (p + d)).map (renN p)
  | 0 => by rw [leafs_succ, Nat.add_zero, wn_at hp, if_neg (by omega), List.append_nil, wn_leafs_before hp p (Nat.le_refl _)]
  | d + 1 => by
    rw [leafs_succ, show p + (d + 1) = (p + d) + 1 from by omega, wn_leafs_behind hp d, leafs_succ ws, List.map_append, wn_behind hp (by omega)]
    congr 1
    by_cases h0 : 0 < ws.getD (p + d) 0
    · rw [if_pos h0, if_pos h0]
      show [_] = [(_, [renS p ((p + d : Nat) : Int)])]
      unfold renS
      rw [if_neg (by omega)]
      rfl
    · rw [if_neg h0, if_neg h0]; rfl
theorem wn_leafs {ws : List Int} {p : Nat} (hp : p ≤ ws.length) : leafs (withNought ws p) (withNought ws p).length = (leafs ws ws.length).map (renN p) := by
  have := wn_leafs_behind hp (ws.length - p)
  rw [show p + (ws.length - p) = ws.length from by omega] at this
  rw [wn_length hp]
  exact this
theorem wn_pos {ws : List Int} {p : Nat} (hp : p ≤ ws.length) : pos (withNought ws p) = pos ws := by
  rw [← leafs_count, ← leafs_count, wn_leafs hp, List.length_map]
theorem wn_weighs {ws : List Int} {p : Nat} (hp : p ≤ ws.length) (h : ws.length ≤ 290) : weighs (withNought ws p) = weighs ws := by
  rw [Bool.eq_iff_iff, weighs_iff, weighs_iff, wn_length hp]
  refine and_congr (by omega) ⟨fun hx x hm => hx x ((wn_mem hp x).2 (Or.inr hm)), fun hx x hm => ?_⟩
  rcases (wn_mem hp x).1 hm with rfl | hm
  · omega
  · exact hx x hm
theorem wn_zeros (n p : Nat) (h : p ≤ n) : withNought (List.replicate n 0) p = List.replicate (n + 1) 0 := by
  refine List.eq_replicate_iff.2 ⟨by rw [wn_length (by simpa using h), List.length_replicate], fun b hb => ?_⟩
  rcases (wn_mem (by simpa using h) b).1 hb with h | h
  · exact h
  · exact (List.mem_replicate.1 h).2
theorem wn_once {ws : List Int} {p : Nat} (hp : p ≤ ws.length) (hl : ws.length ≤ 290) (h : weighs ws = true) : onceOf (withNought ws p) = withNought (onceOf ws) p := by
  have hw : weighs (withNought ws p) = true := by rw [wn_weighs hp hl]; exact h
  by_cases hone : pos ws = 1
  · obtain ⟨j, a1, a2, a3, a4⟩ := once_single ws hone
    obtain ⟨i, b1, b2, b3, b4⟩ := once_single _ ((wn_pos hp).trans hone)
    have hi : (i : Int) = renS p (j : Int) := by
      unfold renS
      by_cases hj : (j : Int) < (p : Int)
      · rw [if_pos hj]
        have := b3 j (by rw [wn_length hp]; omega) (by rw [wn_before hp (by omega)]; exact a2)
        omega
      · rw [if_neg hj]
        have := b3 (j + 1) (by rw [wn_length hp]; omega) (by rw [wn_behind hp (by omega)]; exact a2)
        omega
    rw [a4, b4, wn_length hp, ← wn_zeros ws.length p hp, show i = (renS p (j : Int)).toNat from by omega, wn_set (by rw [List.length_replicate]; exact hp) (by omega) (by rw [List.length_replicate]; omega), Int.toNat_natCast]
  · rw [once_is _ hw (by rw [wn_pos hp]; exact hone), once_is ws h hone, wn_pos hp, wn_leafs hp, ren_sort, wn_length hp, ← wn_zeros ws.length p hp]
    exact ren_run (by omega) hp _ _ _ (q_start ws)
theorem wn_halved (ws : List Int) (p : Nat) : halved (withNought ws p) = withNought (halved ws) p := by
  unfold halved withNought
  rw [List.map_append, List.map_cons, List.map_take, List.map_drop]
  rfl
theorem halved_length (ws : List Int) : (halved ws).length = ws.length := by unfold halved; simp
theorem wn_lens : ∀ (k : Nat) (ws : List Int) (p : Nat), p ≤ ws.length → ws.length ≤ 290 → weighs ws = true → lensFrom k (withNought ws p) 15 = (lensFrom k ws 15).map (fun r => withNought r p)
  | 0, _, _, _, _, _ => rfl
  | k + 1, ws, p, hp, hl, h => by
    unfold lensFrom
    rw [wn_once hp hl h]
    have hpo : p ≤ (onceOf ws).length := by rw [once_length]; exact hp
    have ht : topOf (withNought (onceOf ws) p) ≤ 15 ↔ topOf (onceOf ws) ≤ 15 := by
      rw [top_le 15 (by omega), top_le 15 (by omega)]
      exact ⟨fun hx x hm => hx x ((wn_mem hpo x).2 (Or.inr hm)), fun hx x hm => by
        rcases (wn_mem hpo x).1 hm with rfl | hm
        · omega
        · exact hx x hm⟩
    by_cases hd : topOf (onceOf ws) ≤ 15
    · rw [if_pos (Or.inr (ht.2 hd)), if_pos (Or.inr hd)]
      rfl
    · have hne : (onceOf ws).length ≠ 0 := by
        intro h0
        have : onceOf ws = [] := List.length_eq_zero_iff.1 h0
        rw [this] at hd
        exact hd (by decide)
      rw [if_neg (fun hh => hh.elim (by rw [wn_length hpo]; omega) (fun h => hd (ht.1 h))), if_neg (fun hh => hh.elim hne hd), wn_halved]
      exact wn_lens k (halved ws) p (by rw [halved_length]; exact hp) (by rw [halved_length]; exact hl) (by rw [halved_is h]; exact half_weighs h)
theorem wn_cut {l : List Int} {p : Nat} (hp : p ≤ l.length) : (withNought l p).take p ++ (withNought l p).drop (p + 1) = l := by
  unfold withNought
  rw [List.take_append_of_le_length (by rw [List.length_take]; omega), List.take_take, Nat.min_self, List.drop_append, List.drop_of_length_le (by rw [List.length_take]; omega), List.length_take, Nat.min_eq_left hp, show p + 1 - p = 1 from by omega]
  simp
theorem noughts_end (a : List Int) (p : Nat) (hp : p ≤ a.length) (hl : a.length ≤ 300) (k : Nat) (hk : 400 ≤ k) : wherrylaw03_TreeNoughts.j0 k (p : Int) a (withNought a p) false = some true := by
  obtain ⟨k, rfl⟩ : ∃ m, k = m + 1 := ⟨k - 1, by omega⟩
  have hw := wn_length hp
  simp only [wherrylaw03_TreeNoughts.j0]
  rw [if_neg (by decide), if_pos (by omega), if_pos (by omega), Int.toNat_natCast, twinInts_is _ (by rw [List.length_take]; omega)]
  rw [Option.bind_some]
  rw [wrap64_in (by omega) (by omega), if_pos (by omega), if_pos (by omega), show ((p : Int) + 1).toNat = p + 1 from by omega, Option.bind_some, if_pos (by rw [List.length_take, List.length_drop]; omega), wn_cut hp, keepInts_is a a (by omega) k (by omega), decide_eq_true rfl]
  rw [Option.bind_some]
  rw [if_pos (by trivial), wakes03_is k (by omega)]
  rfl
theorem TreeNoughts : wherrylaw03_TreeNoughts.Pure := by
  intro l0 a1 m0 _ _ _
  refine ⟨1000, ?_⟩
  unfold wherrylaw03_TreeNoughts.f
  by_cases h : (l0.length : Int) > 290
  · rw [if_pos h]
  · obtain ⟨p, hp, e⟩ := place_of a1 (l0.length + 1) (by omega) (by omega)
    have e1 : wrap64 ((l0.length : Int) + 1) = ((l0.length + 1 : Nat) : Int) := wrap64_in (by omega) (by omega)
    rw [e1, e, if_neg h, if_neg (by rw [u64_in (by omega) (by omega)]; omega), if_pos (by omega), if_pos (by omega), Int.toNat_natCast, if_pos (by simp only [List.length_nil, List.length_take]; omega)]
    rw [Option.bind_some, Option.bind_some, List.nil_append]
    rw [if_pos (by simp only [List.length_take, List.length_singleton]; omega), Option.bind_some]
    rw [if_pos (by simp only [List.length_append, List.length_take, List.length_singleton, List.length_drop]; omega)]
    have ew : l0.take p ++ [0] ++ l0.drop p = withNought l0 p := by unfold withNought; simp
    rw [ew]
    have hp' : p ≤ l0.length := by omega
    by_cases hw : weighs l0 = true
    · obtain ⟨r, hr, b1, b2, _⟩ := lens_fuel 20 l0 15 32 hw (fun x hx => by have := (((weighs_iff l0).1 hw).2 x hx).2; omega) (Or.inl (by omega)) (by omega)
      have g1 : tree_Lengths.f l0 15 = some (onceOf r, 0) := by
        unfold tree_Lengths.f lensOf
        rw [if_neg (by rw [hw]; simp), hr]
        rfl
      have g2 : tree_Lengths.f (withNought l0 p) 15 = some (withNought (onceOf r) p, 0) := by
        unfold tree_Lengths.f lensOf
        rw [if_neg (by rw [wn_weighs hp' (by omega), hw]; simp), wn_lens 32 l0 p hp' (by omega) hw, hr]
        rfl
      have hlr : (onceOf r).length = l0.length := by rw [once_length]; exact b2
      have hw2 := wn_length (l := onceOf r) (p := p) (by omega)
      rw [g1, g2, Option.bind_some, Option.bind_some]
      dsimp only
      rw [if_pos (by trivial), if_pos (by trivial), wrap64_in (by omega) (by omega), if_pos (by omega), if_pos (by omega), rd_nat, wn_at (by omega), show ((0 : Int) != 0) = false from rfl]
      exact noughts_end (onceOf r) p (by omega) (by omega) 1000 (by omega)
    · have hf : weighs l0 = false := by simpa using hw
      rw [lens_bad (Or.inl hf), lens_bad (Or.inl (by rw [wn_weighs hp' (by omega)]; exact hf)), Option.bind_some, Option.bind_some]
      dsimp only
      rw [if_pos (by trivial), if_neg (by decide), wakes03_is 1000 (by omega)]
      rfl
end Go.Proofs.Ytaoeghdpmmeaiaa.Pure
