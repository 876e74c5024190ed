/- The reference's lengths of weights; used by the claims of this seat. -/
import Derived.Test.YtlffpaploefljaaWrB
import Derived.Test.YtlffpaploefljaaPx0
import Derived.Test.YtlffpaploefljaaPx23
import Derived.Test.YtlffpaploefljaaPx38
import Derived.Test.YtlffpaploefljaaPx5
import Derived.Test.YtlffpaploefljaaPx39
import Derived.Test.YtlffpaploefljaaPx65
namespace Go.Proofs.Ytlffpaploefljaa.Wr
open Go.RowKit Go.Proofs.Ytlffpaploefljaa.P Go.Proofs.YtlffpaploefljaaW.PrintWords Go.Proofs.YtlffpaploefljaaW.PrintLast Go.Proofs.YtlffpaploefljaaW.PrintMore
open WP (Row Bytes at_ val wN wX Wrote)
open Go.Proofs.Ytlffpaploefljaa.Glue
attribute [local go_sem] max2_int min2_int max_two min_two max_three min_three max_four min_four
set_option linter.unusedVariables false
set_option linter.unusedSimpArgs false
/-- A slice as it stands in a node. -/
abbrev Sl := Option Addr × Nat × Nat
def slV (x : Sl) : Value := .slice x.1 x.2.1 x.2.2
def kRaw : Kd (Int × Sl) := Kd.pair (Kd.int .i64) (Kd.scalar slV (fun _ => rfl))
def rawD : Int × Sl := (0, none, 0, 0)
theorem raw_at {W : World} {A : Option Addr} {n i : Nat} {raws : List (Int × Sl)} (h : Kd.C kRaw W A n raws) (hi : i < n) : ∃ ad, A = some ad ∧ W.cell? (ad.add (i * 2)) = some (.int .i64 (raws.getD i rawD).1) ∧ W.cell? ⟨(ad.add (i * 2)).block, (ad.add (i * 2)).off + 1, none⟩ = some (slV (raws.getD i rawD).2) := by
 obtain ⟨ad, c, e, _, hK, hc0⟩ := Kd.C_get h rawD (i : Int) (by omega) (by omega)
 rw [Int.toNat_natCast] at hK hc0
 have hc : ∀ j u, c[j]? = some u → W.cell? (ad.add (i * 2 + j)) = some u := hc0
 obtain ⟨_, _, rfl, rfl, rfl⟩ := hK
 exact ⟨ad, e, hc 0 _ rfl, by rw [← add_field _ _ 1 (by omega)]; exact hc 1 _ rfl⟩
/-- A place of a row without its a-th, in the row. -/
def emb (a c : Nat) : Nat := if c < a then c else c + 1
def cntTo (a i : Nat) : Nat := if i ≤ a then i else i - 1
/-- The least one's place of the first i, but the a-th. -/
def atTo (ws : List Int) (a i : Nat) : Int := if cntTo a i = 0 then -1 else ((emb a (leastTo (ws.eraseIdx a) (cntTo a i)) : Nat) : Int)
theorem erase_at (ws : List Int) (a c : Nat) : (ws.eraseIdx a).getD c 0 = ws.getD (emb a c) 0 := by
 rw [List.getD_eq_getElem?_getD, List.getD_eq_getElem?_getD, List.getElem?_eraseIdx]
 unfold emb
 split <;> rfl
theorem least_le (ws : List Int) : ∀ k, 0 < k → leastTo ws k < k
 | 1, _ => by rw [leastTo_succ]; split <;> simp [leastTo]
 | k + 2, _ => by
  have := least_le ws (k + 1) (by omega)
  rw [leastTo_succ]
  split <;> omega
theorem atTo_step (ws : List Int) (a i : Nat) : (i = a ∧ atTo ws a (i + 1) = atTo ws a i) ∨ (i ≠ a ∧ atTo ws a i = -1 ∧ atTo ws a (i + 1) = (i : Int)) ∨
  (i ≠ a ∧ ∃ j, j < i ∧ atTo ws a i = (j : Int) ∧ atTo ws a (i + 1) = if ws.getD i 0 < ws.getD j 0 then (i : Int) else (j : Int)) := by
 by_cases hia : i = a
 ·refine .inl ⟨hia, ?_⟩
  unfold atTo
  rw [show cntTo a (i + 1) = cntTo a i from by unfold cntTo; rw [if_neg (show ¬ i + 1 ≤ a by omega), if_pos (show i ≤ a by omega)]; omega]
 ·have hm1 : cntTo a (i + 1) = cntTo a i + 1 := by
   unfold cntTo
   by_cases h1 : i < a
   ·rw [if_pos (show i + 1 ≤ a by omega), if_pos (show i ≤ a by omega)]
   ·rw [if_neg (show ¬ i + 1 ≤ a by omega), if_neg (show ¬ i ≤ a by omega)]; omega
  have hem : emb a (cntTo a i) = i := by
   unfold cntTo emb
   by_cases h1 : i < a
   ·rw [if_pos (show i ≤ a by omega), if_pos h1]
   ·rw [if_neg (show ¬ i ≤ a by omega), if_neg (show ¬ i - 1 < a by omega)]; omega
  by_cases h0 : cntTo a i = 0
  ·refine .inr (.inl ⟨hia, by unfold atTo; rw [if_pos h0], ?_⟩)
   unfold atTo
   rw [hm1, if_neg (by omega), h0]
   have : leastTo (ws.eraseIdx a) (0 + 1) = 0 := by
    have := least_le (ws.eraseIdx a) 1 (by omega)
    simpa using this
   rw [this]
   rw [h0] at hem
   rw [hem]
  ·obtain ⟨c, hc⟩ : ∃ c, c = leastTo (ws.eraseIdx a) (cntTo a i) := ⟨_, rfl⟩
   have hcl : c < cntTo a i := by rw [hc]; exact least_le _ _ (by omega)
   refine .inr (.inr ⟨hia, emb a c, ?_, by unfold atTo; rw [if_neg h0, ← hc], ?_⟩)
   ·unfold emb
    unfold cntTo at hcl
    split <;> (split at hcl <;> omega)
   ·unfold atTo
    rw [hm1, if_neg (by omega), leastTo_succ, ← hc, erase_at, erase_at, hem]
    by_cases h : ws.getD i 0 < ws.getD (emb a c) 0
    ·rw [if_pos h, if_pos h, hem]
    ·rw [if_neg h, if_neg h]
set_option maxHeartbeats 8000000 in
set_option maxRecDepth 100000 in
theorem wr_least {w : World} {raws : List (Int × Sl)} (A : Option Addr) (c a : Nat) (but : Int) (hb : ∀ i : Nat, i < raws.length → ((i : Int) = but ↔ i = a)) (hl : raws.length ≤ 1000) (hr : Kd.C kRaw w A raws.length raws) (hc : raws.length ≤ c) :
  Calls Try.prog 111 #[.slice A raws.length c, .int .i64 but] w fun e w' => e = .returned (.int .i64 (atTo (raws.map (·.1)) a raws.length)) ∧ Below w.heap.size w w' := by
 have HR := Aside0.mk hr
 have HBT := Aside0.mk hb
 have hu := Try.underlying140
 obtain ⟨ws, hws⟩ : ∃ ws, ws = raws.map (·.1) := ⟨_, rfl⟩
 have HW : Aside0 (∀ j, j < raws.length → (raws.getD j rawD).1 = ws.getD j 0) := ⟨fun j hj => by rw [hws, List.getD_eq_getElem?_getD, List.getD_eq_getElem?_getD, List.getElem?_map, List.getElem?_eq_getElem hj]; rfl⟩
 rw [← hws]
 clear hr hb hws
 go_enter Try.func111, Try.ntmps111
 go_wp2_with fail
 go_loopg [5, 6] raws.length (fun kq v5 v6 w' => ∃ (i : Nat), v6 = .int .i64 i ∧ i ≤ raws.length ∧ v5 = .int .i64 (atTo ws a i) ∧ Aside0 (kq + i = raws.length) ∧ Aside0 (Below w.heap.size w w'))
 case atStart => exact ⟨0, rfl, Nat.zero_le _, by unfold atTo cntTo; simp, ⟨by omega⟩, ⟨Below.refl _ _⟩⟩
 case round =>
  obtain ⟨i, rfl, hi, rfl, HG, HB⟩ := hrel
  by_cases hlt : i < raws.length
  rotate_left
  ·obtain rfl : i = raws.length := by omega
   go_wp2_with fail
   go_ret
   exact ⟨rfl, HB.out⟩
  have hbi := HBT.out i hlt
  rcases atTo_step ws a i with ⟨h1, h2⟩ | ⟨h1, h2, h3⟩ | ⟨h1, j, h2, h3, h4⟩
  ·have d0 : ((i : Int) != but) = false := by rw [bne_eq_false_iff_eq]; exact hbi.2 h1
   rw [← h2]
   clear h1 h2 hbi
   go_wp2_with fail
   go_quiet (fail)
   go_wp2_with fail
   go_roundg (gk - 1)
   case measure => have := HG.out; omega
   case rel => exact ⟨i + 1, by go_num, by omega, rfl, ⟨by have := HG.out; omega⟩, ⟨pw_below_drewN HB.out _⟩⟩
  ·have d0 : ((i : Int) != but) = true := by rw [bne_iff_ne]; exact fun h => h1 (hbi.1 h)
   have H3 := Aside0.mk h3
   rw [h2]
   clear h1 h2 h3 hbi
   go_wp2_with fail
   go_quiet (fail)
   go_wp2_with fail
   go_roundg (gk - 1)
   case measure => have := HG.out; omega
   case rel => exact ⟨i + 1, by go_num, by omega, by rw [H3.out], ⟨by have := HG.out; omega⟩, ⟨pw_below_drewN HB.out _⟩⟩
  ·have d0 : ((i : Int) != but) = true := by rw [bne_iff_ne]; exact fun h => h1 (hbi.1 h)
   have H4 := Aside0.mk h4
   obtain ⟨ad, ead, x1, _⟩ := raw_at (Kd.C_below HR.out HB.out) hlt
   obtain ⟨ad2, ead2, x2, _⟩ := raw_at (Kd.C_below HR.out HB.out) (by omega : j < raws.length)
   subst ead
   injection ead2 with ead2
   subst ead2
   rw [HW.out i hlt] at x1
   rw [HW.out j (by omega)] at x2
   rw [h3]
   generalize ws.getD i 0 = y1 at x1 H4
   generalize ws.getD j 0 = y2 at x2 H4
   have hjl : j < raws.length := by omega
   clear h1 h2 h3 h4 hbi
   by_cases hy : y1 < y2
   ·have dy : decide (y1 < y2) = true := decide_eq_true hy
    go_wp2_with fail
    go_quiet (fail)
    go_wp2_with fail
    go_roundg (gk - 1)
    case measure => have := HG.out; omega
    case rel => exact ⟨i + 1, by go_num, by omega, by rw [H4.out, if_pos hy], ⟨by have := HG.out; omega⟩, ⟨pw_below_drewN HB.out _⟩⟩
   ·have dy : decide (y1 < y2) = false := decide_eq_false hy
    go_wp2_with fail
    go_quiet (fail)
    go_wp2_with fail
    go_roundg (gk - 1)
    case measure => have := HG.out; omega
    case rel => exact ⟨i + 1, by go_num, by omega, by rw [H4.out, if_neg (by omega)], ⟨by have := HG.out; omega⟩, ⟨pw_below_drewN HB.out _⟩⟩
theorem infoNode : (Try.prog.info? 140).map (fun i => (i.zero, i.size, i.bytes)) = some (some (.agg #[.int .i64 0, .slice none 0 0]), 2, 32) := by kernel_rfl
/-- Blocks of other types than nodes stay, but for one. -/
def KeepN (gO : Nat) (W W' : World) : Prop := W.heap.size ≤ W'.heap.size ∧ ∀ (k : Nat) (cells : Array Value) (ty : TypeId), W.heap[k]? = some (.cells cells ty (0, 0)) → ty ≠ 140 → k ≠ gO → W'.heap[k]? = some (.cells cells ty (0, 0))
theorem KeepN.refl (gO : Nat) (W : World) : KeepN gO W W := ⟨Nat.le_refl _, fun _ _ _ h _ _ => h⟩
theorem KeepN.trans {gO : Nat} {W W1 W2 : World} (h : KeepN gO W W1) (k : KeepN gO W1 W2) : KeepN gO W W2 := ⟨Nat.le_trans h.1 k.1, fun i c t hi h5 h6 => k.2 i c t (h.2 i c t hi h5 h6) h5 h6⟩
theorem KeepN.of_below {gO : Nat} {W W1 : World} (h : Below W.heap.size W W1) : KeepN gO W W1 := ⟨h.size, fun k c t hk _ _ => (h.block k (blk_lt hk)).trans hk⟩
theorem KeepN.out {gO : Nat} {W W1 : World} (h : KeepN gO W W1) (i : Nat) (v : Value) : KeepN gO W (W1.setCell ⟨gO, i, none⟩ v) :=
 ⟨by have := h.1; simpa [World.setCell] using this, fun k c t hk h5 h6 => blk_far (p := ⟨gO, i, none⟩) (h.2 k c t hk h5 h6) h6 v⟩
theorem KeepN.node {gO : Nat} {W W1 : World} (h : KeepN gO W W1) {g : Nat} {cs : Array Value} (hg : W1.heap[g]? = some (.cells cs 140 (0, 0))) (i : Nat) (v : Value) : KeepN gO W (W1.setCell ⟨g, i, none⟩ v) :=
 ⟨by have := h.1; simpa [World.setCell] using this, fun k c t hk h5 h6 => blk_far (p := ⟨g, i, none⟩) (h.2 k c t hk h5 h6) (fun e => by
  have e2 : k = g := e
  subst e2
  have hk2 := h.2 k c t hk h5 h6
  rw [hg] at hk2
  injection hk2 with hk2
  injection hk2 with _ ht
  exact h5 ht.symm) v⟩
theorem KeepN.grown {gO : Nat} {W W1 W2 : World} {row : Option Nat} (k : KeepN gO W W1) (h : W1.grownBy W2 row) (hr : ∀ g, row = some g → ∃ cs, W1.heap[g]? = some (.cells cs 140 (0, 0))) : KeepN gO W W2 := by
 refine k.trans ⟨h.size, fun k c t hk h5 _ => (h.block k (blk_lt hk) fun hrow => ?_).trans hk⟩
 obtain ⟨cs, hc⟩ := hr k hrow.symm
 rw [hc] at hk
 injection hk with hk
 injection hk with _ ht
 exact h5 ht.symm
/-- Whom a node stands for: a row that all leave but for one block. -/
def WhoAt (gO : Nat) (W : World) (x : Sl) (l : List Int) : Prop := x.2.1 = l.length ∧ l.length ≤ x.2.2 ∧ ∀ W', KeepN gO W W' → Kd.C (Kd.int .i64) W' x.1 l.length l
def NodesAt (gO : Nat) (W : World) (raws : List (Int × Sl)) (ns : List (Int × List Int)) : Prop := raws.length = ns.length ∧ ∀ i, i < ns.length → (raws.getD i rawD).1 = (ns.getD i (0, [])).1 ∧ WhoAt gO W (raws.getD i rawD).2 (ns.getD i (0, [])).2
theorem WhoAt.keep {gO : Nat} {W W1 : World} {x : Sl} {l : List Int} (h : WhoAt gO W x l) (hk : KeepN gO W W1) : WhoAt gO W1 x l := ⟨h.1, h.2.1, fun W' hW => h.2.2 W' (hk.trans hW)⟩
theorem NodesAt.keep {gO : Nat} {W W1 : World} {raws : List (Int × Sl)} {ns : List (Int × List Int)} (h : NodesAt gO W raws ns) (hk : KeepN gO W W1) : NodesAt gO W1 raws ns := ⟨h.1, fun i hi => ⟨(h.2 i hi).1, (h.2 i hi).2.keep hk⟩⟩
theorem NodesAt.nil {gO : Nat} {W : World} : NodesAt gO W [] [] := ⟨rfl, fun i hi => absurd hi (by simp)⟩
theorem NodesAt.snoc {gO : Nat} {W : World} {raws : List (Int × Sl)} {ns : List (Int × List Int)} {x : Int × Sl} {n : Int × List Int} (h : NodesAt gO W raws ns) (h1 : x.1 = n.1) (h2 : WhoAt gO W x.2 n.2) : NodesAt gO W (raws ++ [x]) (ns ++ [n]) := by
 refine ⟨by rw [List.length_append, List.length_append, h.1]; rfl, fun i hi => ?_⟩
 rw [List.length_append, List.length_singleton] at hi
 rw [List.getD_eq_getElem?_getD, List.getD_eq_getElem?_getD]
 by_cases hn : i < ns.length
 ·rw [List.getElem?_append_left (by rw [h.1]; exact hn), List.getElem?_append_left hn, ← List.getD_eq_getElem?_getD, ← List.getD_eq_getElem?_getD]
  exact h.2 i hn
 ·obtain rfl : i = ns.length := by omega
  have e : (raws ++ [x])[ns.length]? = some x := by rw [← h.1, List.getElem?_append_right (Nat.le_refl _), Nat.sub_self]; rfl
  rw [e, List.getElem?_append_right (Nat.le_refl _), Nat.sub_self]
  exact ⟨h1, h2⟩
/-- A row of whole numbers writes no block but its own. -/
theorem row_only {W : World} {base g n c : Nat} {ok : Nat → Prop} {xs : List Int} (h : Kd.R (Kd.int .i64) 3 W base ok (.slice (some ⟨g, 0, none⟩) n c) xs) : Kd.R (Kd.int .i64) 3 W base (fun k => k = g) (.slice (some ⟨g, 0, none⟩) n c) xs := by
 obtain ⟨_, inner, ho, hr⟩ := h
 exact ⟨fun k hk => by injection hk with hk; exact hk.symm, inner, ho, hr⟩
section
variable {P : Program} {ops : Array Oper} {o : Oper} {rest : List Oper} {a : Act} {Q : Exit → Act → World → Prop}
/-- One node more behind a row of nodes, the answer's row beside it. -/
theorem node_append {w0 W : World} {gO cO n : Nat} {t : TypeId} {v : Value} {raws : List (Int × Sl)} {out : List Int} {p : Int} {yA : Option Addr} {yn yc : Nat} {s x : Operand} (hgd : o.guard = none)
  (ho : o.op = .call { callee := .builtin .append, args := #[s, x], argTypes := #[t, t] }) (ht : P.underlying t = some (.slice 140)) (hinfo : (P.info? 140).map (fun i => (i.zero, i.size, i.bytes)) = some (some (.agg #[.int .i64 0, .slice none 0 0]), 2, 32))
  (hs : a.eval s = v) (hx : a.eval x = .slice (some ⟨W.heap.size, 0, none⟩) 1 1)
  (HO : Kd.R kRaw 140 W w0.heap.size (fun k => k ≠ gO) v raws) (HU : Kd.R (Kd.int .i64) 3 W w0.heap.size (fun k => k = gO) (.slice (some ⟨gO, 0, none⟩) n cO) out) (HB : Below w0.heap.size w0 W) (hl : raws.length ≤ 100000) (hO : gO < W.heap.size)
  (h : ∀ v1 w1, Kd.R kRaw 140 w1 w0.heap.size (fun k => k ≠ gO) v1 (raws ++ [(p, yA, yn, yc)]) → Kd.R (Kd.int .i64) 3 w1 w0.heap.size (fun k => k = gO) (.slice (some ⟨gO, 0, none⟩) n cO) out → Below w0.heap.size w0 w1 → KeepN gO W w1 → wpList P ops Q rest (a.put o.dst v1) w1) :
  wpList P ops Q (o :: rest) a (W.alloc (.cells #[.int .i64 p, .slice yA yn yc] 140)) := by
 refine Kd.R_append kRaw (w0 := w0) w0.heap.size hgd s x t 140 (.agg #[.int .i64 0, .slice none 0 0]) 32 ho ht hinfo rfl (by decide) (by omega) v raws (p, yA, yn, yc) [.int .i64 p, .slice yA yn yc] (fun k => k ≠ gO) (fun _ => False) hs hx ⟨_, _, rfl, rfl, rfl⟩ (fun _ hk => hk.elim) (fun k hk => by omega) HO HB HB.size (by omega) ?_
 intro v1 w1 ho1 hb1 hg1 hat1
 have hne : some gO ≠ v.ownBlock := fun e => HO.1 gO e.symm rfl
 refine h v1 w1 ho1 (Kd.R_step HU (fun k hk hlt => hg1.block k hlt (by rw [hk]; exact hne))) hb1 ((KeepN.refl gO W).grown hg1 fun g hg => ?_)
 obtain ⟨_, inner, hown, _⟩ := HO
 exact own_typed hown g hg
end
theorem atTo_all (ws : List Int) (h0 : 0 < ws.length) : atTo ws ws.length ws.length = ((leastAt ws : Nat) : Int) := by
 unfold atTo cntTo
 rw [if_pos (Nat.le_refl _), if_neg (by omega), List.eraseIdx_of_length_le (by omega)]
 unfold leastAt emb
 rw [if_pos (least_le _ _ h0)]
theorem atTo_but (ws : List Int) (a : Nat) (ha : a < ws.length) (h1 : 1 < ws.length) : atTo ws a ws.length = ((emb a (leastAt (ws.eraseIdx a)) : Nat) : Int) := by
 unfold atTo cntTo
 rw [if_neg (show ¬ ws.length ≤ a by omega), if_neg (show ¬ ws.length - 1 = 0 by omega)]
 unfold leastAt
 rw [List.length_eraseIdx_of_lt ha]
/-- The others, as they stand. -/
def othersTo {α : Type} (ns : List α) (a b i : Nat) : List α := (List.range i).filterMap (fun j => if j = a ∨ j = b then none else ns[j]?)
theorem othersTo_succ {α : Type} (ns : List α) (a b i : Nat) : othersTo ns a b (i + 1) = othersTo ns a b i ++ if i = a ∨ i = b then [] else ns[i]?.toList := by
 unfold othersTo
 rw [List.range_succ, List.filterMap_append]
 congr 1
 by_cases h : i = a ∨ i = b
 ·rw [if_pos h]; simp [h]
 ·rw [if_neg h]
  simp only [List.filterMap_cons, List.filterMap_nil, if_neg h]
  cases ns[i]? <;> rfl
theorem othersTo_length {α : Type} (ns : List α) (a b i : Nat) : (othersTo ns a b i).length ≤ i := by
 unfold othersTo
 exact Nat.le_trans (List.length_filterMap_le _ _) (by simp)
theorem erase_get {α : Type} (l : List α) (a j : Nat) : (l.eraseIdx a)[j]? = l[emb a j]? := by
 rw [List.getElem?_eraseIdx]
 unfold emb
 split <;> rfl
theorem others_take {α : Type} (ns : List α) (a c : Nat) (ha : a < ns.length) (hc : c + 1 < ns.length) : ∀ i, i ≤ ns.length → othersTo ns a (emb a c) i = ((ns.eraseIdx a).eraseIdx c).take (i - (if a < i then 1 else 0) - (if emb a c < i then 1 else 0))
 | 0, _ => by simp [othersTo]
 | i + 1, h => by
  rw [othersTo_succ, others_take ns a c ha hc i (by omega)]
  have hne : emb a c ≠ a := by unfold emb; split <;> omega
  by_cases h1 : i = a
  ·rw [if_pos (Or.inl h1), List.append_nil]
   congr 1
   rw [if_neg (show ¬ a < i by omega), if_pos (show a < i + 1 by omega)]
   by_cases h2 : emb a c < i
   ·rw [if_pos h2, if_pos (by omega)]; omega
   ·rw [if_neg h2, if_neg (by omega)]; omega
  ·by_cases h2 : i = emb a c
   ·rw [if_pos (Or.inr h2), List.append_nil]
    congr 1
    rw [if_neg (show ¬ emb a c < i by omega), if_pos (show emb a c < i + 1 by omega)]
    by_cases h3 : a < i
    ·rw [if_pos h3, if_pos (by omega)]; omega
    ·rw [if_neg h3, if_neg (by omega)]; omega
   ·rw [if_neg (show ¬ (i = a ∨ i = emb a c) from fun hh => hh.elim h1 h2)]
    obtain ⟨m, hm⟩ : ∃ m, m = i - (if a < i then 1 else 0) - (if emb a c < i then 1 else 0) := ⟨_, rfl⟩
    have hm1 : (i + 1 - (if a < i + 1 then 1 else 0) - (if emb a c < i + 1 then 1 else 0)) = m + 1 := by
     have hx : emb a c = if c < a then c else c + 1 := rfl
     rw [hm]
     by_cases h3 : a < i
     ·rw [if_pos h3, if_pos (by omega)]
      by_cases h4 : emb a c < i
      ·rw [if_pos h4, if_pos (by omega)]
       have : 2 ≤ i := by omega
       omega
      ·rw [if_neg h4, if_neg (by omega)]; omega
     ·rw [if_neg h3, if_neg (by omega)]
      by_cases h4 : emb a c < i
      ·rw [if_pos h4, if_pos (by omega)]; omega
      ·rw [if_neg h4, if_neg (show ¬ emb a c < i + 1 by omega)]; omega
    have hget : ((ns.eraseIdx a).eraseIdx c)[m]? = ns[i]? := by
     rw [erase_get, erase_get]
     congr 1
     rw [hm]
     unfold emb at h2 ⊢
     by_cases h5 : c < a
     ·simp only [h5, if_true] at h2 ⊢
      by_cases h3 : a < i
      ·have h4 : c < i := by omega
       simp only [h3, h4, if_true]
       rw [if_neg (show ¬ i - 1 - 1 < c by omega), if_neg (by omega)]
       omega
      ·by_cases h4 : c < i
       ·simp only [h3, h4, if_true, if_false]
        rw [if_neg (show ¬ i - 0 - 1 < c by omega), if_pos (by omega)]
        omega
       ·simp only [h3, h4, if_false]
        rw [if_pos (show i - 0 - 0 < c by omega), if_pos (by omega)]
        omega
     ·simp only [h5, if_false] at h2 ⊢
      by_cases h3 : a < i
      ·by_cases h4 : c + 1 < i
       ·simp only [h3, h4, if_true]
        rw [if_neg (show ¬ i - 1 - 1 < c by omega), if_neg (by omega)]
        omega
       ·simp only [h3, h4, if_true, if_false]
        rw [if_pos (show i - 1 - 0 < c by omega), if_neg (by omega)]
        omega
      ·have h4 : ¬ c + 1 < i := by omega
       simp only [h3, h4, if_false]
       rw [if_pos (show i - 0 - 0 < c by omega), if_pos (by omega)]
       omega
    rw [hm1, List.take_add_one, hget, ← hm]
theorem map_er {α β : Type} (f : α → β) : ∀ (l : List α) (a : Nat), (l.map f).eraseIdx a = (l.eraseIdx a).map f
 | [], _ => rfl
 | _ :: _, 0 => rfl
 | x :: l, a + 1 => congrArg (f x :: ·) (map_er f l a)
/-- A round of the reference's: the tree's. -/
theorem ref_merge (ns : List (Int × List Int)) (h1 : 1 < ns.length) : ∃ a c : Nat, a = leastAt (ns.map (·.1)) ∧ a < ns.length ∧ c = leastAt ((ns.map (·.1)).eraseIdx a) ∧ emb a c < ns.length ∧ emb a c ≠ a ∧
  pickOf ns = ns.getD a (0, []) ∧ pickOf (restOf ns) = ns.getD (emb a c) (0, []) ∧ restOf (restOf ns) = othersTo ns a (emb a c) ns.length := by
 have hw : (ns.map (·.1)).length = ns.length := List.length_map _
 have ha : leastAt (ns.map (·.1)) < ns.length := by rw [← hw]; exact leastAt_lt _ (by omega)
 have hle : ((ns.map (·.1)).eraseIdx (leastAt (ns.map (·.1)))).length = ns.length - 1 := by rw [List.length_eraseIdx_of_lt (by omega), hw]
 have hc := leastAt_lt ((ns.map (·.1)).eraseIdx (leastAt (ns.map (·.1)))) (by omega)
 obtain ⟨a, hae⟩ : ∃ a, a = leastAt (ns.map (·.1)) := ⟨_, rfl⟩
 rw [← hae] at ha hle hc
 obtain ⟨c, hce⟩ : ∃ c, c = leastAt ((ns.map (·.1)).eraseIdx a) := ⟨_, rfl⟩
 rw [← hce] at hc
 have hb : emb a c < ns.length := by unfold emb; split <;> omega
 have hrest : restOf ns = ns.eraseIdx a := by unfold restOf; rw [← hae]
 have hwr : (restOf ns).map (·.1) = (ns.map (·.1)).eraseIdx a := by rw [hrest, map_er]
 refine ⟨a, c, hae, ha, hce, hb, by unfold emb; split <;> omega, ?_, ?_, ?_⟩
 ·unfold pickOf
  rw [← hae]
 ·unfold pickOf
  rw [hwr, ← hce, hrest, List.getD_eq_getElem?_getD, List.getD_eq_getElem?_getD, erase_get]
 ·have hlen : ((ns.eraseIdx a).eraseIdx c).length ≤ ns.length - 1 - 1 := by
   rw [List.length_eraseIdx_of_lt (show c < (ns.eraseIdx a).length by rw [List.length_eraseIdx_of_lt ha]; omega), List.length_eraseIdx_of_lt ha]
   exact Nat.le_refl _
  rw [show restOf (restOf ns) = (restOf ns).eraseIdx (leastAt ((restOf ns).map (·.1))) from rfl, hwr, ← hce, hrest, others_take ns a c ha (by omega) ns.length (Nat.le_refl _), if_pos ha, if_pos hb, List.take_of_length_le hlen]
/-- A round: what the reference does with its nodes. -/
theorem ref_round (ns : List (Int × List Int)) (out : List Int) {n : Nat} (hg : Go.Proofs.Ytlffpaploefljaa.P.Good n ns) (h1 : 1 < ns.length) (kq : Nat) (hk : ns.length ≤ kq + 1) : ∃ (a b k : Nat) (both : List Int), kq = k + 1 ∧ atTo (ns.map (·.1)) ns.length ns.length = (a : Int) ∧ atTo (ns.map (·.1)) a ns.length = (b : Int) ∧ a < ns.length ∧ b < ns.length ∧ a ≠ b ∧ both = (ns.getD a (0, [])).2 ++ (ns.getD b (0, [])).2 ∧ both.length ≤ n ∧ (∀ s ∈ both, 0 ≤ s ∧ s < (n : Int)) ∧
  onceFrom kq ns out = onceFrom k (othersTo ns a b ns.length ++ [(wrap64 ((ns.getD a (0, [])).1 + (ns.getD b (0, [])).1), both)]) (bump out both) ∧ Go.Proofs.Ytlffpaploefljaa.P.Good n (othersTo ns a b ns.length ++ [(wrap64 ((ns.getD a (0, [])).1 + (ns.getD b (0, [])).1), both)]) ∧ (othersTo ns a b ns.length).length + 1 ≤ k + 1 := by
 obtain ⟨a, c, hae, ha, hce, hb, hne, p1, p2, p3⟩ := ref_merge ns h1
 obtain ⟨mg1, mg2, mg3, mg4⟩ := merge_good hg h1
 have hw : (ns.map (·.1)).length = ns.length := List.length_map _
 obtain ⟨k, rfl⟩ : ∃ k, kq = k + 1 := ⟨kq - 1, by omega⟩
 have hboth : bothOf ns = (ns.getD a (0, [])).2 ++ (ns.getD (emb a c) (0, [])).2 := by unfold bothOf; rw [p1, p2]
 have hm : mergeOf ns = othersTo ns a (emb a c) ns.length ++ [(wrap64 ((ns.getD a (0, [])).1 + (ns.getD (emb a c) (0, [])).1), bothOf ns)] := by unfold mergeOf; rw [p1, p2, p3]
 refine ⟨a, emb a c, k, bothOf ns, rfl, ?_, ?_, ha, hb, fun h => hne h.symm, hboth, mg3, mg4, ?_, by rw [← hm]; exact mg1, ?_⟩
 ·have := atTo_all (ns.map (·.1)) (by omega); rw [hw] at this; rw [this, hae]
 ·have := atTo_but (ns.map (·.1)) a (by omega) (by omega); rw [hw] at this; rw [this, hce]
 ·rw [← hm]
  show (if 1 < ns.length then _ else _) = _
  rw [if_pos h1]
 ·have h2 : (mergeOf ns).length = ns.length - 1 := mg2
  rw [hm, List.length_append, List.length_singleton] at h2
  omega
theorem nodes_ws {gO : Nat} {W : World} {raws : List (Int × Sl)} {ns : List (Int × List Int)} (h : NodesAt gO W raws ns) : raws.map (·.1) = ns.map (·.1) := by
 refine List.ext_getElem (by rw [List.length_map, List.length_map, h.1]) fun i h1 h2 => ?_
 rw [List.length_map] at h1 h2
 have := (h.2 i h2).1
 rw [List.getD_eq_getElem?_getD, List.getElem?_eq_getElem h1, List.getD_eq_getElem?_getD, List.getElem?_eq_getElem h2] at this
 simpa using this
theorem nodes_others {gO : Nat} {W : World} {raws : List (Int × Sl)} {ns : List (Int × List Int)} (h : NodesAt gO W raws ns) (a b : Nat) : ∀ i, i ≤ ns.length → NodesAt gO W (othersTo raws a b i) (othersTo ns a b i)
 | 0, _ => NodesAt.nil
 | i + 1, hi => by
  have ih := nodes_others h a b i (by omega)
  rw [othersTo_succ, othersTo_succ]
  by_cases hc : i = a ∨ i = b
  ·rw [if_pos hc, if_pos hc, List.append_nil, List.append_nil]; exact ih
  ·rw [if_neg hc, if_neg hc]
   have h1 : i < raws.length := by rw [h.1]; omega
   have h2 : i < ns.length := by omega
   have h3 := h.2 i h2
   rw [List.getD_eq_getElem?_getD, List.getElem?_eq_getElem h1, List.getD_eq_getElem?_getD, List.getElem?_eq_getElem h2] at h3
   rw [List.getElem?_eq_getElem h1, List.getElem?_eq_getElem h2]
   exact ih.snoc h3.1 h3.2
/-- All blocks stay but for one. -/
def FarO (gO : Nat) (W W' : World) : Prop := W.heap.size ≤ W'.heap.size ∧ ∀ k, k < W.heap.size → k ≠ gO → W'.heap[k]? = W.heap[k]?
theorem FarO.refl (gO : Nat) (W : World) : FarO gO W W := ⟨Nat.le_refl _, fun _ _ _ => rfl⟩
theorem FarO.out {gO : Nat} {W W1 : World} (h : FarO gO W W1) (i : Nat) (v : Value) : FarO gO W (W1.setCell ⟨gO, i, none⟩ v) :=
 ⟨by have := h.1; simpa [World.setCell] using this, fun k hk h6 => (Below.heap_setCell W1 ⟨gO, i, none⟩ v k h6).trans (h.2 k hk h6)⟩
theorem FarO.keep {gO : Nat} {W W1 : World} (h : FarO gO W W1) : KeepN gO W W1 := ⟨h.1, fun k _ _ hk _ h6 => (h.2 k (blk_lt hk) h6).trans hk⟩
theorem FarO.cell {gO : Nat} {W W1 : World} (h : FarO gO W W1) {a : Addr} {v : Value} (hc : W.cell? a = some v) (hn : a.block ≠ gO) : W1.cell? a = some v := by
 have := h.2 a.block (World.block_lt_of_cell? W a hc) hn
 simpa [World.cell?, this] using hc
/-- Whom a new row stands for. -/
theorem who_of {gO base c : Nat} {W : World} {A : Option Addr} {xs : List Int} (h0 : 0 < xs.length) (h : Kd.R (Kd.int .i64) 3 W base (fun _ => True) (.slice A xs.length c) xs) (hb : gO < base) : WhoAt gO W (A, xs.length, c) xs := by
 obtain ⟨g, c2, e, hge, _⟩ := Kd.R_form h h0
 injection e with e1 e2 e3
 subst e1 e3
 refine ⟨rfl, (Kd.R_reads' h).2.1, fun W' hk => ?_⟩
 obtain ⟨cs, hcs⟩ := own_typed (Kd.own_of_R h) g (by simp [Value.ownBlock])
 have hR := Kd.R_step (row_only h) (w1 := W') (fun k hk2 _ => by
  subst hk2
  rw [hk.2 _ _ _ hcs (by decide) (by omega), hcs])
 exact (Kd.R_reads' hR).2.2
section
variable {P : Program} {ops : Array Oper} {o : Oper} {rest : List Oper} {a : Act} {Q : Exit → Act → World → Prop}
/-- One node more behind a row of nodes that is new since W0. -/
theorem node_snoc {W0 W : World} {t : TypeId} {v : Value} {raws : List (Int × Sl)} {x0 : Int × Sl} {p : Int} {yA : Option Addr} {yn yc : Nat} {s x : Operand} (hgd : o.guard = none)
  (ho : o.op = .call { callee := .builtin .append, args := #[s, x], argTypes := #[t, t] }) (ht : P.underlying t = some (.slice 140)) (hinfo : (P.info? 140).map (fun i => (i.zero, i.size, i.bytes)) = some (some (.agg #[.int .i64 0, .slice none 0 0]), 2, 32))
  (hs : a.eval s = v) (hx : a.eval x = .slice (some ⟨W.heap.size, 0, none⟩) 1 1) (he : x0 = (p, yA, yn, yc))
  (HO : Kd.R kRaw 140 W W0.heap.size (fun k => W0.heap.size ≤ k) v raws) (HB : Below W0.heap.size W0 W) (hl : raws.length ≤ 100000)
  (h : ∀ v1 w1, Kd.R kRaw 140 w1 W0.heap.size (fun k => W0.heap.size ≤ k) v1 (raws ++ [x0]) → Below W0.heap.size W0 w1 → wpList P ops Q rest (a.put o.dst v1) w1) :
  wpList P ops Q (o :: rest) a (W.alloc (.cells #[.int .i64 p, .slice yA yn yc] 140)) := by
 subst he
 exact Kd.R_append kRaw (w0 := W0) W0.heap.size hgd s x t 140 (.agg #[.int .i64 0, .slice none 0 0]) 32 ho ht hinfo rfl (by decide) (by omega) v raws (p, yA, yn, yc) [.int .i64 p, .slice yA yn yc] (fun k => W0.heap.size ≤ k) (fun _ => False) hs hx ⟨_, _, rfl, rfl, rfl⟩ (fun _ hk => hk.elim) (fun k hk => by have := HB.size; omega) HO HB HB.size (by omega) (fun v1 w1 h1 h2 _ _ => h v1 w1 h1 h2)
end
set_option maxHeartbeats 8000000 in
set_option maxRecDepth 100000 in
theorem wr_lengths {w : World} {ws : List Int} (A : Option Addr) (c : Nat) (hn0 : 0 < ws.length) (hw : weighs ws = true) (hr : Kd.C (Kd.int .i64) w A ws.length ws) (hc : ws.length ≤ c) :
  Calls Try.prog 100 #[.slice A ws.length c] w fun e w' => ∃ v, e = .returned v ∧ Kd.R (Kd.int .i64) 3 w' w.heap.size (fun _ => True) v (onceOf ws) ∧ Below w.heap.size w w' := by
 obtain ⟨hw1, hw2⟩ := (weighs_iff ws).1 hw
 have HR := Aside0.mk hr
 have HB := Aside0.mk (Below.refl w.heap.size w)
 have hun := Try.underlying140
 clear hr hw
 go_enter Try.func100, Try.ntmps100
 go_wp2_with ((with_reducible refine gate_dst (N := 14) rfl ?_); refine row_make ws.length rfl (N := 14) rfl rfl rfl rfl Try.underlying32 info3 (by omega) ?_; rintro v3 w1 ⟨ho, hb⟩; (have HO1 := Aside0.mk ho); (have HB1 := Aside0.mk hb); clear ho hb)
 obtain ⟨gO, cO, e3, gOe, gOl, _⟩ := Kd.R_form HO1.out (by simpa using hn0)
 simp only [List.length_replicate] at e3
 subst e3
 obtain ⟨out0, hout0⟩ : ∃ out0 : List Int, out0 = List.replicate ws.length 0 := ⟨_, rfl⟩
 rw [← hout0] at HO1
 have HO0 := Aside0.mk (row_only HO1.out)
 have HOUT := Aside0.mk hout0
 have GOE := Aside0.mk gOe
 have GOL := Aside0.mk gOl
 clear hout0 HO1 gOe gOl
 go_loopg [4, 5] ws.length (fun kq v4 v5 w' => ∃ (i : Nat) (raws : List (Int × Sl)), v5 = .int .i64 i ∧ i ≤ ws.length ∧ Aside0 (kq + i = ws.length) ∧ Aside0 (Kd.R kRaw 140 w' w.heap.size (fun k => k ≠ gO) v4 raws) ∧ Aside0 (Kd.R (Kd.int .i64) 3 w' w.heap.size (fun k => k = gO) (.slice (some ⟨gO, 0, none⟩) ws.length cO) out0) ∧ Aside0 (Below w.heap.size w w') ∧ Aside0 (NodesAt gO w' raws (leafs ws i)) ∧ Aside0 (gO < w'.heap.size))
 case atStart => exact ⟨0, [], rfl, Nat.zero_le _, ⟨by omega⟩, ⟨Kd.R_nil _ _ _ _ _⟩, HO0, HB1, ⟨NodesAt.nil⟩, GOL⟩
 case round =>
  clear HO0 HB1 GOL
  obtain ⟨i, raws, rfl, hi, HG, HL, HO, HB, HN, GOL⟩ := hrel
  by_cases hlt : i < ws.length
  ·obtain ⟨v, hv⟩ : ∃ v, v = ws.getD i 0 := ⟨_, rfl⟩
   obtain ⟨ad, ead, _⟩ := Kd.at_int HR.out (i : Int) (by omega) (by omega)
   subst ead
   have k0 := reads_at (Kd.C_below HR.out HB.out) hlt ((rd_nat ws i).trans hv.symm)
   have hls := leafs_succ ws i
   rw [← hv] at hls
   have HLS := Aside0.mk hls
   have HLN : Aside0 (raws.length ≤ 300) := ⟨by rw [HN.out.1]; have := (leafs_good ws i hi).1; omega⟩
   clear hv hls
   by_cases h0 : 0 < v
   ·have d0 : decide (0 < v) = true := decide_eq_true h0
    rw [if_pos h0] at HLS
    have hal : Below wr.heap.size wr (wr.alloc (.cells #[.int .i64 i] 3)) := (Below.refl _ _).alloc (Nat.le_refl _) _
    have HL1 := Aside0.mk (Kd.R_below HL.out hal)
    have HO1 := Aside0.mk (Kd.R_below HO.out hal)
    have HBa := Aside0.mk (below_then HB.out HB.out.size hal)
    have HN1 := Aside0.mk (HN.out.keep (KeepN.of_below hal))
    have hsz : (wr.alloc (.cells #[.int .i64 i] 3)).heap.size = wr.heap.size + 1 := by simp
    have BT := Aside0.mk (blk_new wr (.cells #[.int .i64 i] 3))
    have HSZ := Aside0.mk hsz
    clear hal hsz
    obtain ⟨wa, hwa⟩ : ∃ wa, wa = wr.alloc (.cells #[.int .i64 i] 3) := ⟨_, rfl⟩
    have HWho : Aside0 (WhoAt gO wa (some ⟨wr.heap.size, 0, none⟩, 1, 1) [(i : Int)]) := ⟨⟨rfl, Nat.le_refl _, fun W' hk => by
     have hb : wa.heap[wr.heap.size]? = some (.cells #[.int .i64 (i : Int)] 3 (0, 0)) := by rw [hwa]; exact BT.out
     exact litk_row .i64 [(i : Int)] (hk.2 _ _ _ hb (by decide) (by have := GOL.out; omega)) rfl (by simp)⟩⟩
    rw [← hwa] at HL1 HO1 HBa HN1 HSZ
    have HWA := Aside0.mk hwa
    clear hwa BT
    go_wp2_with ((with_reducible refine gate_builtin (b := .append) rfl ?_); at_builtin; (rw [← HWA.out]); refine node_append rfl rfl Try.underlying138 infoNode rfl (by rw [HSZ.out]; rfl) HL1.out HO1.out HBa.out (by have := HLN.out; omega) (by have := GOL.out; have := HSZ.out; omega) ?_; intro v5 w5 h1 h2 h3 h4; (have HL5 := Aside0.mk h1); (have HO5 := Aside0.mk h2); (have HB5 := Aside0.mk h3); (have HK5 := Aside0.mk h4); clear h1 h2 h3 h4)
    go_roundg (gk - 1)
    case measure => have := HG.out; omega
    case rel =>
     refine ⟨i + 1, _, by go_num, by omega, ⟨by have := HG.out; omega⟩, HL5, HO5, HB5, ⟨?_⟩, ⟨by have := HK5.out.1; have := HSZ.out; have := GOL.out; omega⟩⟩
     rw [HLS.out]
     exact (HN1.out.keep HK5.out).snoc rfl (HWho.out.keep HK5.out)
   ·have d0 : decide (0 < v) = false := decide_eq_false h0
    rw [if_neg h0, List.append_nil] at HLS
    go_wp2_with fail
    go_roundg (gk - 1)
    case measure => have := HG.out; omega
    case rel => exact ⟨i + 1, raws, by go_num, by omega, ⟨by have := HG.out; omega⟩, HL, HO, HB, ⟨by rw [HLS.out]; exact HN.out⟩, GOL⟩
  obtain rfl : i = ws.length := by omega
  obtain ⟨ns, hns⟩ : ∃ ns, ns = leafs ws ws.length := ⟨_, rfl⟩
  rw [← hns] at HN
  have hgd := leafs_good ws ws.length (Nat.le_refl _)
  rw [← hns] at hgd
  have HGD : Aside0 (Go.Proofs.Ytlffpaploefljaa.P.Good ws.length ns) := ⟨hgd⟩
  have HNS := Aside0.mk hns
  clear hns hgd
  obtain ⟨A4, c4, e4⟩ := Kd.R_slice HL.out
  subst e4
  have hrl : raws.length = ns.length := HN.out.1
  have HRL := Aside0.mk hrl
  clear hrl
  have HE : Aside0 (onceOf ws = if ns.length = 1 then out0.set (rd (ns.getD 0 (0, [])).2 0).toNat 1 else onceFrom ns.length ns out0) := ⟨by unfold onceOf; rw [← HNS.out, HOUT.out]⟩
  by_cases h1 : ns.length = 1
  case' pos =>
   have d1 : ((raws.length : Int) == 1) = true := beq_iff_eq.2 (by rw [HRL.out, h1]; rfl)
   have d2 : (raws.length == 1) = true := beq_iff_eq.2 (by rw [HRL.out, h1])
   have d3 : decide ((1 : Int) < (raws.length : Int)) = false := decide_eq_false (by rw [HRL.out, h1]; decide)
   have d4 : decide (1 < raws.length) = false := decide_eq_false (by rw [HRL.out, h1]; decide)
   have hr0 : 0 < raws.length := by rw [HRL.out, h1]; decide
   rw [if_pos h1] at HE
   obtain ⟨n1, n2, n3, n4⟩ := HN.out.2 0 (by rw [h1]; decide)
   obtain ⟨ad, ead, x1, x2⟩ := raw_at (i := 0) (Kd.R_reads' HL.out).2.2 hr0
   have hmem : ns.getD 0 (0, []) ∈ ns := by rw [List.getD_eq_getElem?_getD, List.getElem?_eq_getElem (by omega)]; exact List.getElem_mem (by omega)
   obtain ⟨g1, g2⟩ := HGD.out.2.2 _ hmem
   obtain ⟨who, hwho⟩ : ∃ who, who = (ns.getD 0 (0, [])).2 := ⟨_, rfl⟩
   rw [← hwho] at n2 n3 n4 g1 g2
   have hwl : 0 < who.length := List.length_pos_iff.2 g1
   obtain ⟨q, hq⟩ : ∃ q, q = rd who 0 := ⟨_, rfl⟩
   have hqr : 0 ≤ q ∧ q < ws.length := by
    rw [hq]
    exact g2 _ (by rw [show (0 : Int) = ((0 : Nat) : Int) from rfl, rd_nat, List.getD_eq_getElem?_getD, List.getElem?_eq_getElem hwl]; exact List.getElem_mem hwl)
   obtain ⟨qn, rfl⟩ := Int.eq_ofNat_of_zero_le hqr.1
   generalize (raws.getD 0 rawD).2 = x0 at x2 n2 n3 n4
   obtain ⟨Aw, nw, cw⟩ := x0
   simp only at n2 n3 n4
   subst n2
   have x3 : wr.cell? ⟨ad.block, ad.off + 1, none⟩ = some (.slice Aw who.length cw) := by simpa [Addr.add, slV] using x2
   obtain ⟨aw, eaw, _⟩ := Kd.at_int (n4 wr (KeepN.refl _ _)) ((0 : Nat) : Int) (by omega) (by omega)
   subst eaw ead
   have x4 : wr.cell? aw = some (.int .i64 (qn : Int)) := by
    have h := reads_at (j := 0) (n4 wr (KeepN.refl _ _)) hwl hq.symm
    have e : aw.add 0 = aw := by cases aw; simp [Addr.add]
    rwa [e] at h
   have hcell := Kd.R_celln 0 HO.out (qn : Int) (by omega) (by omega)
   rw [Int.toNat_natCast] at hcell
   obtain ⟨y1, y2⟩ := hcell
   have HPT := Aside0.mk (Kd.R_putn HO.out (qn : Int) 1)
   rw [Int.toNat_natCast] at HPT
   have HBN := Aside0.mk (below_set (j := qn) (v := .int .i64 1) HB.out GOE.out)
   have HE2 : Aside0 (onceOf ws = out0.set qn 1) := ⟨by rw [HE.out, ← hwho, ← hq, Int.toNat_natCast]⟩
   clear n1 n3 n4 x1 x2 hmem g1 g2 hwho hq HNS HE
   have HL2 := Aside0.mk (Kd.R_far (p := ⟨gO, qn, none⟩) HL.out (fun _ hk => hk) (.int .i64 1))
   have HN2 := Aside0.mk (HN.out.keep ((KeepN.refl gO wr).out qn (.int .i64 1)))
   have HEQ : Aside0 (onceFrom ns.length ns (out0.set qn 1) = onceOf ws) := ⟨by rw [onceFrom_end _ _ _ (by omega), HE2.out]⟩
   have GOL2 : Aside0 (gO < (wr.setCell ⟨gO, qn, none⟩ (.int .i64 1)).heap.size) := ⟨by simpa [World.setCell] using GOL.out⟩
   clear HL HO HB HN HE2 GOL
   go_wp2_with fail
   obtain ⟨out1, ho1⟩ : ∃ out1, out1 = out0.set qn 1 := ⟨_, rfl⟩
   have HOLN : Aside0 (out1.length = ws.length) := ⟨by rw [ho1, List.length_set, HOUT.out, List.length_replicate]⟩
   rw [← ho1] at HEQ HPT
   clear ho1 y1 y2 x3 x4 d1 d2 d3 d4
   generalize wr.setCell { block := gO, off := qn } (Value.int IntKind.i64 1) = w5 at HL2 HN2 HPT HBN GOL2 ⊢
  case' neg =>
   have d1 : ((raws.length : Int) == 1) = false := beq_eq_false_iff_ne.2 (by rw [HRL.out]; omega)
   have d2 : (raws.length == 1) = false := beq_eq_false_iff_ne.2 (by rw [HRL.out]; exact h1)
   rw [if_neg h1] at HE
   have HEQ := Aside0.mk HE.out.symm
   have HL2 := HL
   have HN2 := HN
   have HPT := HO
   have HBN := HB
   have GOL2 := GOL
   clear HL HN HO HB HE GOL
   go_wp2_with fail
   clear d1 d2
   obtain ⟨out1, ho1⟩ : ∃ out1, out1 = out0 := ⟨_, rfl⟩
   have HOLN : Aside0 (out1.length = ws.length) := ⟨by rw [ho1, HOUT.out, List.length_replicate]⟩
   rw [← ho1] at HEQ HPT
   clear ho1
   generalize wr = w5 at HL2 HN2 HPT HBN GOL2 ⊢
  all_goals
   clear HOUT h1
   go_loopg [4] ns.length (fun kq v4 w' => ∃ (raws : List (Int × Sl)) (ns : List (Int × List Int)) (out : List Int) (A4 : Option Addr) (c4 : Nat), v4 = .slice A4 raws.length c4 ∧ Aside0 (onceFrom kq ns out = onceOf ws) ∧ Aside0 (ns.length ≤ kq + 1) ∧ Aside0 (Go.Proofs.Ytlffpaploefljaa.P.Good ws.length ns) ∧ Aside0 (out.length = ws.length) ∧ Aside0 (Kd.R kRaw 140 w' w.heap.size (fun k => k ≠ gO) (.slice A4 raws.length c4) raws) ∧ Aside0 (Kd.R (Kd.int .i64) 3 w' w.heap.size (fun k => k = gO) (.slice (some ⟨gO, 0, none⟩) ws.length cO) out) ∧ Aside0 (Below w.heap.size w w') ∧ Aside0 (NodesAt gO w' raws ns) ∧ Aside0 (gO < w'.heap.size))
   case atStart => exact ⟨raws, ns, out1, _, _, rfl, HEQ, ⟨by omega⟩, HGD, HOLN, HL2, HPT, HBN, HN2, GOL2⟩
   case round =>
    clear HEQ HGD HOLN HL2 HPT HBN HN2 GOL2 HRL
    obtain ⟨raws, ns, out, A4, c4, rfl, HEQ, HLE, HGD, HOL, HL, HO, HB, HN, GOL⟩ := hrel
    have HRL := Aside0.mk HN.out.1
    by_cases h1 : 1 < ns.length
    ·have d3 : decide ((1 : Int) < (raws.length : Int)) = true := decide_eq_true (by rw [HRL.out]; omega)
     have d4 : decide (1 < raws.length) = true := decide_eq_true (by rw [HRL.out]; omega)
     obtain ⟨a, b, k, both, hkq, hat, hbt, ha, hb, hab, hboth, hbl, hbr, hfrom, hgd2, hlen⟩ := ref_round ns out HGD.out h1 _ HLE.out
     subst hkq
     rw [← nodes_ws HN.out, ← HRL.out] at hat hbt
     have HAT := Aside0.mk hat
     have HBT := Aside0.mk hbt
     have HBO := Aside0.mk hboth
     have HBR := Aside0.mk (And.intro hbl hbr)
     have HFR := Aside0.mk (hfrom.symm.trans HEQ.out)
     have HG2 := Aside0.mk hgd2
     have HLN := Aside0.mk hlen
     have HLR : Aside0 (raws.length ≤ 300) := ⟨by rw [HRL.out]; have := HGD.out.1; omega⟩
     have HAB := Aside0.mk (show a < raws.length ∧ b < raws.length ∧ a ≠ b from ⟨by rw [HRL.out]; exact ha, by rw [HRL.out]; exact hb, hab⟩)
     have HCL := Aside0.mk (Kd.R_reads' HL.out)
     clear hat hbt hboth hbl hbr hfrom hgd2 hlen ha hb hab h1 HEQ HGD HLE
     go_wp2_with fail
     refine (wr_least (raws := raws) A4 c4 raws.length (-1) (fun i hi => ⟨fun h => by omega, fun h => by omega⟩) (by have := HLR.out; omega) HCL.out.2.2 HCL.out.2.1).mono ?_
     rintro e w1 ⟨rfl, hb1⟩
     have HL1 := Aside0.mk (Kd.R_below HL.out hb1)
     have HO1 := Aside0.mk (Kd.R_below HO.out hb1)
     have HB1 := Aside0.mk (below_then HB.out HB.out.size hb1)
     have HN1 := Aside0.mk (HN.out.keep (KeepN.of_below hb1))
     have GOL1 : Aside0 (gO < w1.heap.size) := ⟨Nat.lt_of_lt_of_le GOL.out hb1.size⟩
     have HCL1 := Aside0.mk (Kd.R_reads' HL1.out)
     rw [HAT.out]
     clear hb1 HL HO HB HN GOL HCL d3 d4 HAT
     go_wp2_with fail
     refine (wr_least (raws := raws) A4 c4 a (a : Int) (fun i hi => ⟨fun h => by omega, fun h => by omega⟩) (by have := HLR.out; omega) HCL1.out.2.2 HCL1.out.2.1).mono ?_
     rintro e w2 ⟨rfl, hb2⟩
     have HL2 := Aside0.mk (Kd.R_below HL1.out hb2)
     have HO2 := Aside0.mk (Kd.R_below HO1.out hb2)
     have HB2 := Aside0.mk (below_then HB1.out HB1.out.size hb2)
     have HN2 := Aside0.mk (HN1.out.keep (KeepN.of_below hb2))
     have GOL2 : Aside0 (gO < w2.heap.size) := ⟨Nat.lt_of_lt_of_le GOL1.out hb2.size⟩
     rw [HBT.out]
     clear hb2 HL1 HO1 HB1 HN1 GOL1 HCL1 HBT
     obtain ⟨ad, ead, xa1, xa2⟩ := raw_at (i := a) (Kd.R_reads' HL2.out).2.2 HAB.out.1
     obtain ⟨ad2, ead2, xb1, xb2⟩ := raw_at (i := b) (Kd.R_reads' HL2.out).2.2 HAB.out.2.1
     subst ead
     injection ead2 with ead2
     subst ead2
     have hia := HAB.out.1
     have hib := HAB.out.2.1
     obtain ⟨pa, hpa⟩ : ∃ pa, pa = (raws.getD a rawD).1 := ⟨_, rfl⟩
     obtain ⟨pb, hpb⟩ : ∃ pb, pb = (raws.getD b rawD).1 := ⟨_, rfl⟩
     obtain ⟨⟨Aa, na, ca⟩, hya⟩ : ∃ ya, ya = (raws.getD a rawD).2 := ⟨_, rfl⟩
     obtain ⟨⟨Ab, nb, cb⟩, hyb⟩ : ∃ yb, yb = (raws.getD b rawD).2 := ⟨_, rfl⟩
     obtain ⟨na1, na2⟩ := HN2.out.2 a (by rw [← HRL.out]; exact HAB.out.1)
     obtain ⟨nb1, nb2⟩ := HN2.out.2 b (by rw [← HRL.out]; exact HAB.out.2.1)
     rw [← hpa] at xa1 na1
     rw [← hpb] at xb1 nb1
     rw [← hya] at xa2 na2
     rw [← hyb] at xb2 nb2
     obtain ⟨la, hla⟩ : ∃ la, la = (ns.getD a (0, [])).2 := ⟨_, rfl⟩
     obtain ⟨lb, hlb⟩ : ∃ lb, lb = (ns.getD b (0, [])).2 := ⟨_, rfl⟩
     rw [← hla] at na2
     rw [← hlb] at nb2
     obtain ⟨na3, na4, na5⟩ := na2
     obtain ⟨nb3, nb4, nb5⟩ := nb2
     simp only at na3 na4 nb3 nb4
     subst na3 nb3
     have HBOTH : Aside0 (both = la ++ lb) := ⟨by rw [HBO.out, hla, hlb]⟩
     have HPP := Aside0.mk (And.intro na1 nb1)
     have HWA := Aside0.mk na5
     have HWB := Aside0.mk nb5
     have k1 : w2.drew.cell? (ad.add (a * 2)) = some (.int .i64 pa) := xa1
     have k2 : w2.drew.cell? (ad.add (b * 2)) = some (.int .i64 pb) := xb1
     clear xa1 xb1 hpa hpb hya hyb na1 nb1 hla hlb na5 nb5 HBO
     go_upto_region 13 with fail
     refine start_ (n := 14) (S := fun w' => w'.cell? (ad.add (a * 2)) = some (.int .i64 pa) ∧ w'.cell? (ad.add (b * 2)) = some (.int .i64 pb)) (ds := [13]) #[false, false, false, false, false, false, false, false, false, false, false, false, false, false] (by kernel_rfl) rfl rfl ⟨k1, k2⟩ (fun hHeld => ?_)
     refine pure_ (i := 0) (N := some 55) (v := ?_) (a' := ?_) #[true, false, false, false, false, false, false, false, false, false, false, false, false, false] rfl rfl (by kernel_rfl) (fun _ _ _ h => h) (Or.inl ⟨by rfl, ?_⟩) ?_ ?_
     rotate_left
     ·intro w'
      go_simp
      with_reducible rfl
     rotate_left
     ·simp only [Act.put, List.setIfInBounds_toArray, List.set_cons_zero, List.set_cons_succ, i64_w, i32_w]
      rfl
     refine pure_ (i := 1) (N := some 56) (v := ?_) (a' := ?_) #[true, true, false, false, false, false, false, false, false, false, false, false, false, false] rfl rfl (by kernel_rfl) (fun _ _ _ h => h) (Or.inl ⟨by rfl, ?_⟩) ?_ ?_
     rotate_left
     ·intro w'
      go_simp
      with_reducible rfl
     rotate_left
     ·simp only [Act.put, List.setIfInBounds_toArray, List.set_cons_zero, List.set_cons_succ, i64_w, i32_w]
      rfl
     refine pure_ (i := 2) (N := some 57) (v := ?_) (a' := ?_) #[true, true, true, false, false, false, false, false, false, false, false, false, false, false] rfl rfl (by kernel_rfl) (fun _ _ _ h => h) (Or.inl ⟨by rfl, ?_⟩) ?_ ?_
     rotate_left
     ·intro w'
      go_simp
      with_reducible rfl
     rotate_left
     ·simp only [Act.put, List.setIfInBounds_toArray, List.set_cons_zero, List.set_cons_succ, i64_w, i32_w]
      rfl
     refine pure_ (i := 3) (N := some 58) (v := ?_) (a' := ?_) #[true, true, true, true, false, false, false, false, false, false, false, false, false, false] rfl rfl (by kernel_rfl) (fun _ _ _ h => h) (Or.inl ⟨by rfl, ?_⟩) ?_ ?_
     rotate_left
     ·intro w'
      go_simp
      with_reducible rfl
     rotate_left
     ·simp only [Act.put, List.setIfInBounds_toArray, List.set_cons_zero, List.set_cons_succ, i64_w, i32_w]
      rfl
     refine pure_ (i := 5) (N := some 60) (v := ?_) (a' := ?_) #[true, true, true, true, false, true, false, false, false, false, false, false, false, false] rfl rfl (by kernel_rfl) (fun _ _ _ h => h) (Or.inl ⟨by rfl, ?_⟩) ?_ ?_
     rotate_left
     ·intro w'
      go_simp
      with_reducible rfl
     rotate_left
     ·simp only [Act.put, List.setIfInBounds_toArray, List.set_cons_zero, List.set_cons_succ, i64_w, i32_w]
      rfl
     refine pure_ (i := 6) (N := some 61) (v := ?_) (a' := ?_) #[true, true, true, true, false, true, true, false, false, false, false, false, false, false] rfl rfl (by kernel_rfl) (fun _ _ _ h => h) (Or.inl ⟨by rfl, ?_⟩) ?_ ?_
     rotate_left
     ·intro w'
      go_simp
      with_reducible rfl
     rotate_left
     ·simp only [Act.put, List.setIfInBounds_toArray, List.set_cons_zero, List.set_cons_succ, i64_w, i32_w]
      rfl
     refine pure_ (i := 7) (N := some 62) (v := ?_) (a' := ?_) #[true, true, true, true, false, true, true, true, false, false, false, false, false, false] rfl rfl (by kernel_rfl) (fun _ _ _ h => h) (Or.inl ⟨by rfl, ?_⟩) ?_ ?_
     rotate_left
     ·intro w'
      go_simp
      with_reducible rfl
     rotate_left
     ·simp only [Act.put, List.setIfInBounds_toArray, List.set_cons_zero, List.set_cons_succ, i64_w, i32_w]
      rfl
     refine pure_ (i := 8) (N := some 63) (v := ?_) (a' := ?_) #[true, true, true, true, false, true, true, true, true, false, false, false, false, false] rfl rfl (by kernel_rfl) (fun _ _ _ h => h) (Or.inl ⟨by rfl, ?_⟩) ?_ ?_
     rotate_left
     ·intro w'
      go_simp
      with_reducible rfl
     rotate_left
     ·simp only [Act.put, List.setIfInBounds_toArray, List.set_cons_zero, List.set_cons_succ, i64_w, i32_w]
      rfl
     refine take_ (i := 4) (N := some 59) (v := ?_) (a' := ?_) #[true, true, true, true, true, true, true, true, true, false, false, false, false, false] rfl rfl (by kernel_rfl) (fun _ _ _ h => h) (Or.inl ⟨by rfl, ?_⟩) hHeld ?_ ?_
     rotate_left
     ·rintro w' ⟨s0, s1⟩
      go_simp
      with_reducible rfl
     rotate_left
     ·simp only [Act.put, List.setIfInBounds_toArray, List.set_cons_zero, List.set_cons_succ, i64_w, i32_w]
      rfl
     refine take_ (i := 9) (N := some 64) (v := ?_) (a' := ?_) #[true, true, true, true, true, true, true, true, true, true, false, false, false, false] rfl rfl (by kernel_rfl) (fun _ _ _ h => h) (Or.inl ⟨by rfl, ?_⟩) hHeld ?_ ?_
     rotate_left
     ·rintro w' ⟨s0, s1⟩
      go_simp
      with_reducible rfl
     rotate_left
     ·simp only [Act.put, List.setIfInBounds_toArray, List.set_cons_zero, List.set_cons_succ, i64_w, i32_w]
      rfl
     refine pure_ (i := 10) (N := some 65) (v := ?_) (a' := ?_) #[true, true, true, true, true, true, true, true, true, true, true, false, false, false] rfl rfl (by kernel_rfl) (fun _ _ _ h => h) (Or.inl ⟨by rfl, ?_⟩) ?_ ?_
     rotate_left
     ·intro w'
      go_simp
      with_reducible rfl
     rotate_left
     ·simp only [Act.put, List.setIfInBounds_toArray, List.set_cons_zero, List.set_cons_succ, i64_w, i32_w]
      rfl
     refine pure_ (i := 11) (N := some 66) (v := ?_) (a' := ?_) #[true, true, true, true, true, true, true, true, true, true, true, true, false, false] rfl rfl (by kernel_rfl) (fun _ _ _ h => h) (Or.inl ⟨by rfl, ?_⟩) ?_ ?_
     rotate_left
     ·intro w'
      go_simp
      with_reducible rfl
     rotate_left
     ·simp only [Act.put, List.setIfInBounds_toArray, List.set_cons_zero, List.set_cons_succ, i64_w, i32_w]
      rfl
     refine one_ (i := 12) (N := some 8) #[true, true, true, true, true, true, true, true, true, true, true, true, true, false] rfl rfl (by kernel_rfl) (by decide) (fun K hK => ?_)
     refine value_ (w1 := ?_) (v := ?_) (by rfl) rfl ?_ ?_
     rotate_left 2
     ·go_simp
      constructor
      ·rfl
      ·rfl
     have k1a := pw_cell_below (below_alloc (Below.refl _ _) (.cells #[.int .i64 0, .slice none 0 0] 140)) k1
     have k2a := pw_cell_below (below_alloc (Below.refl _ _) (.cells #[.int .i64 0, .slice none 0 0] 140)) k2
     refine hK.out _ _ ⟨k1a, k2a⟩ (fun hHeld => ?_)
     clear hK K
     refine norm_ (a' := ?_) ?_ ?_
     rotate_left
     ·show Act.put _ (some 8) _ = _
      simp only [Act.put, List.setIfInBounds_toArray, List.set_cons_zero, List.set_cons_succ, i64_w, i32_w]
      rfl
     refine last_ (i := 13) (N := none) #[true, true, true, true, true, true, true, true, true, true, true, true, true, true] rfl rfl (by kernel_rfl) (by decide) (fun K hK => ?_)
     refine skip_ (w1 := ?_) (by rfl) rfl ?_ ?_
     rotate_left
     ·go_simp
      rfl
     refine hK.out _ _ ?_
     clear hK K
     refine done_ (by kernel_rfl) ?_
     clear k1 k2
     obtain ⟨pw, hpw⟩ : ∃ pw, pw = wrap64 (pa + pb) := ⟨_, rfl⟩
     rw [← hpw]
     have HPW := Aside0.mk hpw
     obtain ⟨w3, hw3⟩ : ∃ w3, w3 = (w2.alloc (.cells #[.int .i64 pw, .slice none 0 0] 140)).drew := ⟨_, rfl⟩
     have hb3 : Below w2.heap.size w2 w3 := by rw [hw3]; exact (below_alloc (Below.refl _ _) _).drew
     have hx3 : w3.heap[w2.heap.size]? = some (.cells #[.int .i64 pw, .slice none 0 0] 140 (0, 0)) := by rw [hw3]; exact blk_new w2 _
     have hsz3 : w2.heap.size < w3.heap.size := blk_lt hx3
     rw [← hw3]
     have HB3 := Aside0.mk hb3
     have HX3 := Aside0.mk hx3
     have HS3 := Aside0.mk hsz3
     have j0 : w3.drew.cell? ⟨w2.heap.size, 1, none⟩ = some (.slice none 0 0) := by rw [show w3.drew.cell? ⟨w2.heap.size, 1, none⟩ = w3.cell? ⟨w2.heap.size, 1, none⟩ from rfl, blk_cell hx3]; rfl
     have j1 : w3.drew.cell? ⟨(ad.add (a * 2)).block, (ad.add (a * 2)).off + 1, none⟩ = some (.slice Aa la.length ca) := pw_cell_below hb3 xa2
     have j2 : w3.drew.cell? ⟨(ad.add (b * 2)).block, (ad.add (b * 2)).off + 1, none⟩ = some (.slice Ab lb.length cb) := pw_cell_below hb3 xb2
     have HRA : Aside0 (Kd.C (Kd.int .i64) w3.drew Aa la.length la) := ⟨Kd.C_drew (HWA.out w3 (KeepN.of_below hb3))⟩
     have HLL : Aside0 (la.length ≤ 300 ∧ lb.length ≤ 300) := ⟨by have := HBR.out.1; rw [HBOTH.out, List.length_append] at this; omega⟩
     clear xa2 xb2 hw3 hpw hb3 hx3 hsz3 HWA
     go_upto_region 14 with fail
     refine start_ (n := 16) (S := fun w' => w'.cell? ⟨w2.heap.size, 1, none⟩ = some (.slice none 0 0) ∧ w'.cell? ⟨(ad.add (a * 2)).block, (ad.add (a * 2)).off + 1, none⟩ = some (.slice Aa la.length ca) ∧ w'.cell? ⟨(ad.add (b * 2)).block, (ad.add (b * 2)).off + 1, none⟩ = some (.slice Ab lb.length cb)) (ds := [13, 15]) #[false, false, false, false, false, false, false, false, false, false, false, false, false, false, false, false] (by kernel_rfl) rfl rfl ⟨j0, j1, j2⟩ (fun hHeld => ?_)
     refine pure_ (i := 0) (N := some 67) (v := ?_) (a' := ?_) #[true, false, false, false, false, false, false, false, false, false, false, false, false, false, false, false] rfl rfl (by kernel_rfl) (fun _ _ _ h => h) (Or.inl ⟨by rfl, ?_⟩) ?_ ?_
     rotate_left
     ·intro w'
      go_simp
      with_reducible rfl
     rotate_left
     ·simp only [Act.put, List.setIfInBounds_toArray, List.set_cons_zero, List.set_cons_succ, i64_w, i32_w]
      rfl
     refine pure_ (i := 2) (N := some 69) (v := ?_) (a' := ?_) #[true, false, true, false, false, false, false, false, false, false, false, false, false, false, false, false] rfl rfl (by kernel_rfl) (fun _ _ _ h => h) (Or.inl ⟨by rfl, ?_⟩) ?_ ?_
     rotate_left
     ·intro w'
      go_simp
      with_reducible rfl
     rotate_left
     ·simp only [Act.put, List.setIfInBounds_toArray, List.set_cons_zero, List.set_cons_succ, i64_w, i32_w]
      rfl
     refine pure_ (i := 3) (N := some 70) (v := ?_) (a' := ?_) #[true, false, true, true, false, false, false, false, false, false, false, false, false, false, false, false] rfl rfl (by kernel_rfl) (fun _ _ _ h => h) (Or.inl ⟨by rfl, ?_⟩) ?_ ?_
     rotate_left
     ·intro w'
      go_simp
      with_reducible rfl
     rotate_left
     ·simp only [Act.put, List.setIfInBounds_toArray, List.set_cons_zero, List.set_cons_succ, i64_w, i32_w]
      rfl
     refine pure_ (i := 4) (N := some 71) (v := ?_) (a' := ?_) #[true, false, true, true, true, false, false, false, false, false, false, false, false, false, false, false] rfl rfl (by kernel_rfl) (fun _ _ _ h => h) (Or.inl ⟨by rfl, ?_⟩) ?_ ?_
     rotate_left
     ·intro w'
      go_simp
      with_reducible rfl
     rotate_left
     ·simp only [Act.put, List.setIfInBounds_toArray, List.set_cons_zero, List.set_cons_succ, i64_w, i32_w]
      rfl
     refine pure_ (i := 5) (N := some 72) (v := ?_) (a' := ?_) #[true, false, true, true, true, true, false, false, false, false, false, false, false, false, false, false] rfl rfl (by kernel_rfl) (fun _ _ _ h => h) (Or.inl ⟨by rfl, ?_⟩) ?_ ?_
     rotate_left
     ·intro w'
      go_simp
      with_reducible rfl
     rotate_left
     ·simp only [Act.put, List.setIfInBounds_toArray, List.set_cons_zero, List.set_cons_succ, i64_w, i32_w]
      rfl
     refine pure_ (i := 8) (N := some 75) (v := ?_) (a' := ?_) #[true, false, true, true, true, true, false, false, true, false, false, false, false, false, false, false] rfl rfl (by kernel_rfl) (fun _ _ _ h => h) (Or.inl ⟨by rfl, ?_⟩) ?_ ?_
     rotate_left
     ·intro w'
      go_simp
      with_reducible rfl
     rotate_left
     ·simp only [Act.put, List.setIfInBounds_toArray, List.set_cons_zero, List.set_cons_succ, i64_w, i32_w]
      rfl
     refine pure_ (i := 9) (N := some 76) (v := ?_) (a' := ?_) #[true, false, true, true, true, true, false, false, true, true, false, false, false, false, false, false] rfl rfl (by kernel_rfl) (fun _ _ _ h => h) (Or.inl ⟨by rfl, ?_⟩) ?_ ?_
     rotate_left
     ·intro w'
      go_simp
      with_reducible rfl
     rotate_left
     ·simp only [Act.put, List.setIfInBounds_toArray, List.set_cons_zero, List.set_cons_succ, i64_w, i32_w]
      rfl
     refine pure_ (i := 10) (N := some 77) (v := ?_) (a' := ?_) #[true, false, true, true, true, true, false, false, true, true, true, false, false, false, false, false] rfl rfl (by kernel_rfl) (fun _ _ _ h => h) (Or.inl ⟨by rfl, ?_⟩) ?_ ?_
     rotate_left
     ·intro w'
      go_simp
      with_reducible rfl
     rotate_left
     ·simp only [Act.put, List.setIfInBounds_toArray, List.set_cons_zero, List.set_cons_succ, i64_w, i32_w]
      rfl
     refine pure_ (i := 11) (N := some 78) (v := ?_) (a' := ?_) #[true, false, true, true, true, true, false, false, true, true, true, true, false, false, false, false] rfl rfl (by kernel_rfl) (fun _ _ _ h => h) (Or.inl ⟨by rfl, ?_⟩) ?_ ?_
     rotate_left
     ·intro w'
      go_simp
      with_reducible rfl
     rotate_left
     ·simp only [Act.put, List.setIfInBounds_toArray, List.set_cons_zero, List.set_cons_succ, i64_w, i32_w]
      rfl
     refine take_ (i := 1) (N := some 68) (v := ?_) (a' := ?_) #[true, true, true, true, true, true, false, false, true, true, true, true, false, false, false, false] rfl rfl (by kernel_rfl) (fun _ _ _ h => h) (Or.inl ⟨by rfl, ?_⟩) hHeld ?_ ?_
     rotate_left
     ·rintro w' ⟨s0, s1, s2⟩
      go_simp
      with_reducible rfl
     rotate_left
     ·simp only [Act.put, List.setIfInBounds_toArray, List.set_cons_zero, List.set_cons_succ, i64_w, i32_w]
      rfl
     refine take_ (i := 6) (N := some 73) (v := ?_) (a' := ?_) #[true, true, true, true, true, true, true, false, true, true, true, true, false, false, false, false] rfl rfl (by kernel_rfl) (fun _ _ _ h => h) (Or.inl ⟨by rfl, ?_⟩) hHeld ?_ ?_
     rotate_left
     ·rintro w' ⟨s0, s1, s2⟩
      go_simp
      with_reducible rfl
     rotate_left
     ·simp only [Act.put, List.setIfInBounds_toArray, List.set_cons_zero, List.set_cons_succ, i64_w, i32_w]
      rfl
     refine take_ (i := 12) (N := some 79) (v := ?_) (a' := ?_) #[true, true, true, true, true, true, true, false, true, true, true, true, true, false, false, false] rfl rfl (by kernel_rfl) (fun _ _ _ h => h) (Or.inl ⟨by rfl, ?_⟩) hHeld ?_ ?_
     rotate_left
     ·rintro w' ⟨s0, s1, s2⟩
      go_simp
      with_reducible rfl
     rotate_left
     ·simp only [Act.put, List.setIfInBounds_toArray, List.set_cons_zero, List.set_cons_succ, i64_w, i32_w]
      rfl
     refine one_ (i := 7) (N := some 74) #[true, true, true, true, true, true, true, true, true, true, true, true, true, false, false, false] rfl rfl (by kernel_rfl) (by decide) (fun K hK => ?_)
     refine Kd.R_append_rows_step (Kd.int .i64) (w0 := w3) w3.heap.size (by rfl) (.tmp 68) (.tmp 73) 32 3 (.int .i64 0) 8 rfl Try.underlying32 info3 rfl (by decide) (by omega) (.slice none 0 0) [] la Aa la.length ca (fun _ => True) (fun _ => False) rfl rfl (Kd.R_nil _ _ _ _ _) HRA.out (fun _ _ h => h) (fun _ h => h.elim) (fun _ _ => trivial) (Below.refl _ _).drew (Nat.le_refl _) (by have := HLL.out; simp only [List.length_nil]; omega) ?_
     intro v5 w5 ho hb hg hat
     rw [List.nil_append] at ho
     have HO5 := Aside0.mk ho
     have HB5 := Aside0.mk hb
     have j0a := pw_cell_below hb j0
     have j1a := pw_cell_below hb j1
     have j2a := pw_cell_below hb j2
     have HRB : Aside0 (Kd.C (Kd.int .i64) w5 Ab lb.length lb) := ⟨HWB.out w5 (KeepN.of_below (below_then HB3.out HB3.out.size hb))⟩
     clear ho hb hg hat
     refine hK.out _ _ ⟨j0a, j1a, j2a⟩ (fun hHeld => ?_)
     clear hK K
     refine norm_ (a' := ?_) ?_ ?_
     rotate_left
     ·show Act.put _ (some 74) _ = _
      simp only [Act.put, List.setIfInBounds_toArray, List.set_cons_zero, List.set_cons_succ, i64_w, i32_w]
      rfl
     refine last_ (i := 13) (N := some 80) #[true, true, true, true, true, true, true, true, true, true, true, true, true, true, false, false] rfl rfl (by kernel_rfl) (by decide) (fun K hK => ?_)
     refine Kd.R_append_rows_step (Kd.int .i64) (w0 := w3) w3.heap.size (by rfl) (.tmp 74) (.tmp 79) 32 3 (.int .i64 0) 8 rfl Try.underlying32 info3 rfl (by decide) (by omega) v5 la lb Ab lb.length cb (fun _ => True) (fun _ => False) rfl rfl HO5.out HRB.out (fun _ _ h => h) (fun _ h => h.elim) (fun _ _ => trivial) HB5.out HB5.out.size (by have := HLL.out; omega) ?_
     intro v6 w6 ho hb hg hat
     obtain ⟨A6, c6, e6⟩ := Kd.R_slice ho
     subst e6
     rw [← HBOTH.out] at ho ⊢
     have HO6 := Aside0.mk ho
     have HB6 := Aside0.mk hb
     have hx6 := (hb.block _ HS3.out).trans HX3.out
     have HX6 := Aside0.mk hx6
     have j0b : w6.cell? ⟨w2.heap.size, 1, none⟩ = some (.slice none 0 0) := (blk_cell hx6 1).trans rfl
     have hfz6 := blk_frozen hx6 1
     clear ho hb hg hat hx6
     refine hK.out _ _ ?_
     clear hK K
     refine norm_ (a' := ?_) ?_ ?_
     rotate_left
     ·show Act.put _ (some 80) _ = _
      simp only [Act.put, List.setIfInBounds_toArray, List.set_cons_zero, List.set_cons_succ, i64_w, i32_w]
      rfl
     refine pure_ (i := 14) (N := some 81) (v := ?_) (a' := ?_) #[true, true, true, true, true, true, true, true, true, true, true, true, true, true, true, false] rfl rfl (by kernel_rfl) (fun _ _ _ h => h) (Or.inl ⟨by rfl, ?_⟩) ?_ ?_
     rotate_left
     ·intro w'
      go_simp
      with_reducible rfl
     rotate_left
     ·simp only [Act.put, List.setIfInBounds_toArray, List.set_cons_zero, List.set_cons_succ, i64_w, i32_w]
      rfl
     refine last_ (i := 15) (N := none) #[true, true, true, true, true, true, true, true, true, true, true, true, true, true, true, true] rfl rfl (by kernel_rfl) (by decide) (fun K hK => ?_)
     refine skip_ (w1 := ?_) (by rfl) rfl ?_ ?_
     rotate_left
     ·go_simp
      rfl
     refine hK.out _ _ ?_
     clear hK K
     refine done_ (by kernel_rfl) ?_
     obtain ⟨gX, hgX⟩ : ∃ gX, gX = w2.heap.size := ⟨_, rfl⟩
     have hb7 : Below w2.heap.size w2 (w6.setCell ⟨w2.heap.size, 1, none⟩ (.slice A6 both.length c6)) := below_set (j := 1) (v := .slice A6 both.length c6) (below_then HB3.out HB3.out.size HB6.out) (Nat.le_refl _)
     have hx7 := blk_put HX6.out 1 (.slice A6 both.length c6) rfl
     have hne : both ≠ [] := (HG2.out.2.2 _ (List.mem_append_right _ (List.mem_singleton.2 rfl))).1
     have HW7 : Aside0 (WhoAt gO (w6.setCell ⟨w2.heap.size, 1, none⟩ (.slice A6 both.length c6)) (A6, both.length, c6) both) := ⟨(who_of (List.length_pos_iff.2 hne) HO6.out (Nat.lt_trans GOL2.out HS3.out)).keep ((KeepN.refl gO w6).node HX6.out 1 _)⟩
     have GX : Aside0 (gX ≠ gO ∧ w.heap.size ≤ gX) := ⟨by have := GOL2.out; omega, by rw [hgX]; exact HB2.out.size⟩
     have HL7 := Aside0.mk (Kd.R_below HL2.out hb7)
     have HO7 := Aside0.mk (Kd.R_below HO2.out hb7)
     have HB7 := Aside0.mk (below_then HB2.out HB2.out.size hb7)
     have HN7 := Aside0.mk (HN2.out.keep (KeepN.of_below hb7))
     have GOL7 : Aside0 (gO < (w6.setCell ⟨w2.heap.size, 1, none⟩ (.slice A6 both.length c6)).heap.size) := ⟨Nat.lt_of_lt_of_le GOL2.out hb7.size⟩
     rw [← hgX] at hx7 HW7 HL7 HO7 HB7 HN7 GOL7 ⊢
     obtain ⟨w7, hw7⟩ : ∃ w7, w7 = w6.setCell ⟨gX, 1, none⟩ (.slice A6 both.length c6) := ⟨_, rfl⟩
     rw [← hw7] at hx7 HW7 HL7 HO7 HB7 HN7 GOL7 ⊢
     have HX7 := Aside0.mk hx7
     clear hgX hb7 hx7 hne hw7 HX6 HB6 HO6 HB3 HX3 HS3 HL2 HO2 HB2 HN2 GOL2 HRA HRB HWB HB5 HO5 j0 j0a j0b j1 j1a j2 j2a hfz6 HLL HBOTH na4 nb4
     go_wp2_with fail
     go_loopg [9] both.length (fun kq v9 w' => ∃ (i : Nat), v9 = .int .i64 i ∧ i ≤ both.length ∧ Aside0 (kq + i = both.length) ∧ Aside0 (FarO gO w7 w') ∧ Aside0 (Kd.R (Kd.int .i64) 3 w' w.heap.size (fun k => k = gO) (.slice (some ⟨gO, 0, none⟩) ws.length cO) (bump out (both.take i))) ∧ Aside0 (Below w.heap.size w w'))
     case atStart => exact ⟨0, rfl, Nat.zero_le _, ⟨by omega⟩, ⟨FarO.refl _ _⟩, HO7, HB7⟩
     case round =>
      clear HO7 HB7
      obtain ⟨i, rfl, hi, HG, HF, HO, HB⟩ := hrel
      have hbl : both.length ≤ 300 := by have := HBR.out.1; omega
      have k0 : wr.cell? ⟨gX, 1, none⟩ = some (.slice A6 both.length c6) := HF.out.cell ((blk_cell HX7.out 1).trans rfl) GX.out.1
      by_cases hlt : i < both.length
      ·have hwc := HW7.out.2.2 wr HF.out.keep
       obtain ⟨q, hq⟩ : ∃ q, q = both.getD i 0 := ⟨_, rfl⟩
       have hqr : 0 ≤ q ∧ q < ws.length := HBR.out.2 q (by rw [hq, List.getD_eq_getElem?_getD, List.getElem?_eq_getElem hlt]; exact List.getElem_mem hlt)
       obtain ⟨qn, rfl⟩ := Int.eq_ofNat_of_zero_le hqr.1
       obtain ⟨aw, eaw, _⟩ := Kd.at_int hwc (i : Int) (by omega) (by omega)
       subst eaw
       have k1 := reads_at hwc hlt ((rd_nat both i).trans hq.symm)
       have hcell := Kd.R_celln 0 HO.out (qn : Int) (by omega) (by omega)
       rw [Int.toNat_natCast] at hcell
       obtain ⟨y1, y2⟩ := hcell
       have hbt := bump_take out both i hlt
       rw [rd_nat, ← hq, Int.toNat_natCast] at hbt
       obtain ⟨y, hy⟩ : ∃ y, y = rdOf 0 (bump out (both.take i)) (qn : Int) := ⟨_, rfl⟩
       rw [← hy] at y1
       rw [show rd (bump out (both.take i)) (qn : Int) = y from hy.symm] at hbt
       have HPT := Aside0.mk (Kd.R_putn HO.out (qn : Int) (wrap64 (y + 1)))
       rw [Int.toNat_natCast, ← hbt] at HPT
       have HBN := Aside0.mk (below_set (j := qn) (v := .int .i64 (wrap64 (y + 1))) HB.out GOE.out)
       have HFN := Aside0.mk (HF.out.out qn (.int .i64 (wrap64 (y + 1))))
       clear hwc hq hbt hy HO HB HF
       go_wp2_with fail
       go_roundg (gk - 1)
       case measure => have := HG.out; omega
       case rel => exact ⟨i + 1, by go_num, by omega, ⟨by have := HG.out; omega⟩, HFN, HPT, HBN⟩
      obtain rfl : i = both.length := by omega
      rw [List.take_length] at HO
      obtain ⟨w8, rfl⟩ : ∃ x, x = wr := ⟨_, rfl⟩
      have HL8 := Aside0.mk (Kd.R_step HL7.out (fun k hk hlt => HF.out.2 k hlt hk))
      have HN8 := Aside0.mk (HN7.out.keep HF.out.keep)
      have HW8 := Aside0.mk (HW7.out.keep HF.out.keep)
      have HX8 := Aside0.mk ((HF.out.2 gX (blk_lt HX7.out) GX.out.1).trans HX7.out)
      have GOL8 : Aside0 (gO < w8.heap.size) := ⟨Nat.lt_of_lt_of_le GOL7.out HF.out.1⟩
      have HO8 := HO
      have HB8 := HB
      clear HL7 HN7 HW7 HX7 GOL7 HF HG HO HB
      go_wp2_with fail
      clear k0
      go_loopg [10, 11] raws.length (fun kq v10 v11 w' => ∃ (i : Nat), v11 = .int .i64 i ∧ i ≤ raws.length ∧ Aside0 (kq + i = raws.length) ∧ Aside0 (Kd.R kRaw 140 w' w8.heap.size (fun k => w8.heap.size ≤ k) v10 (othersTo raws a b i)) ∧ Aside0 (Below w8.heap.size w8 w'))
      case atStart => exact ⟨0, rfl, Nat.zero_le _, ⟨by omega⟩, ⟨Kd.R_nil _ _ _ _ _⟩, ⟨Below.refl _ _⟩⟩
      case round =>
       obtain ⟨i, rfl, hi, HG, HO, HB⟩ := hrel
       have hrl3 := HLR.out
       have HST := Aside0.mk (othersTo_succ raws a b i)
       by_cases hlt : i < raws.length
       ·by_cases h1 : i = a
        ·have d1 : ((i : Int) != (a : Int)) = false := by rw [bne_eq_false_iff_eq]; omega
         rw [if_pos (Or.inl h1), List.append_nil] at HST
         clear h1
         go_wp2_with fail
         go_roundg (gk - 1)
         case measure => have := HG.out; omega
         case rel => exact ⟨i + 1, by go_num, by omega, ⟨by have := HG.out; omega⟩, ⟨by rw [HST.out]; exact HO.out⟩, HB⟩
        have d1 : ((i : Int) != (a : Int)) = true := by rw [bne_iff_ne]; omega
        by_cases h2 : i = b
        ·have d2 : ((i : Int) != (b : Int)) = false := by rw [bne_eq_false_iff_eq]; omega
         rw [if_pos (Or.inr h2), List.append_nil] at HST
         clear h1 h2
         go_wp2_with fail
         go_roundg (gk - 1)
         case measure => have := HG.out; omega
         case rel => exact ⟨i + 1, by go_num, by omega, ⟨by have := HG.out; omega⟩, ⟨by rw [HST.out]; exact HO.out⟩, HB⟩
        have d2 : ((i : Int) != (b : Int)) = true := by rw [bne_iff_ne]; omega
        rw [if_neg (fun h => h.elim h1 h2), List.getElem?_eq_getElem hlt] at HST
        clear h1 h2
        obtain ⟨ad3, ead3, xc1, xc2⟩ := raw_at (i := i) (Kd.C_below (Kd.R_reads' HL8.out).2.2 HB.out) hlt
        injection ead3 with ead3
        subst ead3
        have e0 : raws[i] = raws.getD i rawD := by rw [List.getD_eq_getElem?_getD, List.getElem?_eq_getElem hlt]; rfl
        rw [e0] at HST
        generalize raws.getD i rawD = x0 at xc1 xc2 HST
        obtain ⟨p0, yA, yn, yc⟩ := x0
        clear e0
        go_wp2_with ((with_reducible refine gate_builtin (b := .append) rfl ?_); at_builtin; refine node_snoc (x0 := (p0, yA, yn, yc)) rfl rfl Try.underlying138 infoNode rfl rfl rfl HO.out HB.out (by have := othersTo_length raws a b i; omega) ?_; intro v9 w9 h3 h4; (have HO9 := Aside0.mk h3); (have HB9 := Aside0.mk h4); clear h3 h4)
        go_roundg (gk - 1)
        case measure => have := HG.out; omega
        case rel => exact ⟨i + 1, by go_num, by omega, ⟨by have := HG.out; omega⟩, ⟨by rw [HST.out]; exact HO9.out⟩, HB9⟩
       obtain rfl : i = raws.length := by omega
       have hx9 := (HB.out.block gX (blk_lt HX8.out)).trans HX8.out
       have HX9 := Aside0.mk hx9
       have j0 : wr.cell? ⟨gX, 0, none⟩ = some (.int .i64 pw) := (blk_cell hx9 0).trans rfl
       have j1 : wr.cell? ⟨gX, 1, none⟩ = some (.slice A6 both.length c6) := (blk_cell hx9 1).trans rfl
       clear hx9 HST HG
       go_wp2_with ((with_reducible refine gate_builtin (b := .append) rfl ?_); at_builtin; refine node_snoc (x0 := (pw, A6, both.length, c6)) rfl rfl Try.underlying138 infoNode rfl rfl rfl HO.out HB.out (by have := othersTo_length raws a b raws.length; omega) ?_; intro v9 w9 h3 h4; (have HO9 := Aside0.mk h3); (have HB9 := Aside0.mk h4); clear h3 h4)
       obtain ⟨A9, c9, e9⟩ := Kd.R_slice HO9.out
       subst e9
       go_roundg k
       case measure => omega
       case rel =>
        have hgl : ∀ j, w8.heap.size ≤ j → j ≠ gO := fun j hj e => by have := GOL8.out; omega
        refine ⟨_, othersTo ns a b ns.length ++ [(wrap64 ((ns.getD a (0, [])).1 + (ns.getD b (0, [])).1), both)], bump out both, A9, c9, rfl, HFR, ⟨by rw [List.length_append, List.length_singleton]; exact HLN.out⟩, HG2, ⟨by rw [bump_length]; exact HOL.out⟩, ⟨Kd.R_mono (Kd.R_lower HO9.out HB8.out.size) hgl⟩, ⟨Kd.R_below HO8.out HB9.out⟩, ⟨below_then HB8.out HB8.out.size HB9.out⟩, ⟨?_⟩, ⟨Nat.lt_of_lt_of_le GOL8.out HB9.out.size⟩⟩
        have hk := KeepN.of_below (gO := gO) HB9.out
        have hn := nodes_others (HN8.out.keep hk) a b ns.length (Nat.le_refl _)
        rw [← HRL.out] at hn ⊢
        exact hn.snoc (by rw [HPW.out, HPP.out.1, HPP.out.2]) (HW8.out.keep hk)
    ·have d3 : decide ((1 : Int) < (raws.length : Int)) = false := decide_eq_false (by rw [HRL.out]; omega)
     have d4 : decide (1 < raws.length) = false := decide_eq_false (by rw [HRL.out]; omega)
     have HE : Aside0 (out = onceOf ws) := ⟨by rw [← HEQ.out, onceFrom_end _ _ _ (by omega)]⟩
     clear h1 HEQ HGD HLE
     go_wp2_with fail
     go_ret
     refine ⟨_, rfl, ?_, HB.out⟩
     rw [← HE.out]
     exact Kd.R_mono HO.out (fun _ _ => trivial)
theorem refweights_loop (l : List Int) (hl : l.length ≤ 300) : ∀ (d i k : Nat), i + d = l.length → d < k → wherryref01_rightWeights.l0 k l (i : Int) = some ((l.drop i).all (fun x => decide (0 ≤ x) && decide (x ≤ 1048576))) := by
 intro d
 induction d with
 | zero =>
  intro i k hi hk
  obtain ⟨k, rfl⟩ : ∃ m, k = m + 1 := ⟨k - 1, by omega⟩
  simp only [wherryref01_rightWeights.l0]
  rw [if_neg (by omega), List.drop_of_length_le (by omega)]
  rfl
 | succ d ih =>
  intro i k hi hk
  obtain ⟨k, rfl⟩ : ∃ m, k = m + 1 := ⟨k - 1, by omega⟩
  have hlt : i < l.length := by omega
  have e : rd l (i : Int) = l[i] := by rw [rd_nat]; simp [hlt]
  simp only [wherryref01_rightWeights.l0]
  rw [if_pos (by omega), if_pos (by omega), refin_is, Option.bind_some, e, wrap64_in (by omega) (by omega), show (i : Int) + 1 = ((i + 1 : Nat) : Int) from by omega, ih (i + 1) k (by omega) (by omega), List.drop_eq_getElem_cons hlt, List.all_cons]
  by_cases h : 0 ≤ l[i] ∧ l[i] ≤ 1048576
  ·rw [decide_eq_true h, decide_eq_true h.1, decide_eq_true h.2]
   simp
  ·rw [decide_eq_false h, if_neg (by decide)]
   have : (decide (0 ≤ l[i]) && decide (l[i] ≤ 1048576)) = false := by
    rw [Bool.and_eq_false_iff, decide_eq_false_iff_not, decide_eq_false_iff_not]
    omega
   rw [this]
   rfl
theorem refweights_is (l : List Int) (k : Nat) (hk : 302 ≤ k) : wherryref01_rightWeights.f k l = some (weighs l) := by
 unfold wherryref01_rightWeights.f weighs
 by_cases h : l.length ≤ 300
 ·rw [if_neg (by omega), decide_eq_true h]
  have := refweights_loop l h l.length 0 k (by omega) (by omega)
  rw [List.drop_zero] at this
  rw [Bool.true_and]
  exact this
 ·rw [if_pos (by omega), decide_eq_false h]; rfl
/-- The greatest of a row and 0. -/
def topR (l : List Int) : Int := l.foldl mx 0
theorem topR_snoc (l : List Int) (v : Int) : topR (l ++ [v]) = mx (topR l) v := by unfold topR; rw [List.foldl_append]; rfl
theorem topR_le (B : Int) (h0 : 0 ≤ B) (l : List Int) : topR l ≤ B ↔ ∀ v ∈ l, v ≤ B := by
 induction l using snoc_induct with
 | h0 => simp [topR, h0]
 | h1 l v ih =>
  rw [topR_snoc]
  have e : mx (topR l) v ≤ B ↔ topR l ≤ B ∧ v ≤ B := by
   unfold mx
   split <;> omega
  rw [e, ih]
  constructor
  ·rintro ⟨h1, h2⟩ x hx
   rcases List.mem_append.1 hx with hx | hx
   ·exact h1 x hx
   ·rw [List.mem_singleton.1 hx]; exact h2
  ·intro h
   exact ⟨fun x hx => h x (List.mem_append_left _ hx), h v (by simp)⟩
theorem half_all {v : Int} (h : 0 ≤ v ∧ v ≤ 1048576) : (if 0 < v then wrap64 ((wrap64 (v + 1)).tdiv 2) else v) = (v + 1) / 2 := by
 split
 ·rw [wrap64_in (a := v + 1) (by omega) (by omega), Int.tdiv_eq_ediv_of_nonneg (by omega), wrap64_in (by omega) (by omega)]
 ·omega
theorem lens_step {m : Nat} {xs la : List Int} {lim : Int} (h0 : 0 ≤ lim) (h : lensFrom (m + 1) xs lim = some la) : (topR (onceOf xs) ≤ lim ∧ onceOf xs = la) ∨ (¬ topR (onceOf xs) ≤ lim ∧ lensFrom m (halved xs) lim = some la) := by
 unfold lensFrom at h
 by_cases hc : topR (onceOf xs) ≤ lim
 ·rw [if_pos (Or.inr ((top_le lim h0 _).2 ((topR_le lim h0 _).1 hc)))] at h
  injection h with h
  exact .inl ⟨hc, h⟩
 ·rw [if_neg] at h
  ·exact .inr ⟨hc, h⟩
  ·rintro (he | he)
   ·have : onceOf xs = [] := List.length_eq_zero_iff.1 he
    rw [this] at hc
    exact hc h0
   ·exact hc ((topR_le lim h0 _).2 ((top_le lim h0 _).1 he))
set_option maxHeartbeats 8000000 in
set_option maxRecDepth 100000 in
theorem wr_Lengths {w : World} {ws la : List Int} (A : Option Addr) (c : Nat) (lim : Int) (hlim : lim = 15 ∨ (lim = 7 ∧ pos ws ≤ 19)) (hn0 : 0 < ws.length) (hw : weighs ws = true) (h : lensFrom 32 ws lim = some la) (hr : Kd.C (Kd.int .i64) w A ws.length ws) (hc : ws.length ≤ c) :
  Calls Try.prog 80 #[.slice A ws.length c, .int .i64 lim] w fun e w' => ∃ v, e = .returned (.tuple #[v, .int .i64 0]) ∧ Kd.R (Kd.int .i64) 3 w' w.heap.size (fun _ => True) v la ∧ Below w.heap.size w w' := by
 obtain ⟨hw1, hw2⟩ := (weighs_iff ws).1 hw
 have HR := Aside0.mk hr
 have HH := Aside0.mk h
 have HW2 := Aside0.mk hw2
 have HWW := Aside0.mk hw
 have HLIM := Aside0.mk hlim
 clear hr h hw2 hw hlim
 go_enter Try.func80, Try.ntmps80
 go_wp2_with fail
 refine (wherryref01_rightWeights.calls 302 A c ws true w HR.out hc (by rw [refweights_is ws 302 (by decide), HWW.out])).mono ?_
 rintro e w1 ⟨rfl, hd1⟩
 have HB := Aside0.mk hd1.below
 clear hd1
 go_wp2_with fail
 go_loopg [6, 7] ws.length (fun kq v6 v7 w' => ∃ (i : Nat), v7 = .int .i64 i ∧ i ≤ ws.length ∧ v6 = .int .i64 (pos (ws.take i) : Nat) ∧ Aside0 (kq + i = ws.length) ∧ Aside0 (Below w.heap.size w w'))
 case atStart => exact ⟨0, rfl, Nat.zero_le _, rfl, ⟨by omega⟩, HB⟩
 case round =>
  clear HB
  obtain ⟨i, rfl, hi, rfl, HG, HB⟩ := hrel
  by_cases hlt : i < ws.length
  ·obtain ⟨v, hv⟩ : ∃ v, v = ws.getD i 0 := ⟨_, rfl⟩
   obtain ⟨ad, ead, _⟩ := Kd.at_int HR.out (i : Int) (by omega) (by omega)
   subst ead
   have k0 := reads_at (Kd.C_below HR.out HB.out) hlt ((rd_nat ws i).trans hv.symm)
   have hp : pos (ws.take i) ≤ i := by have := pos_le (ws.take i); rw [List.length_take] at this; omega
   have hstep : pos (ws.take (i + 1)) = pos (ws.take i) + if 0 < v then 1 else 0 := by
    have e : ws.getD i 0 = ws[i] := by simp [hlt]
    rw [hv, e]
    unfold pos
    rw [List.take_succ_eq_append_getElem hlt, List.filter_append, List.length_append]
    by_cases h : 0 < ws[i] <;> simp [List.filter_cons, h]
   have HST := Aside0.mk hstep
   generalize pos (ws.take i) = p at hp HST ⊢
   clear hv hstep
   by_cases h0 : 0 < v
   ·have d0 : decide (0 < v) = true := decide_eq_true h0
    go_wp2_with fail
    go_roundg (gk - 1)
    case measure => have := HG.out; omega
    case rel => exact ⟨i + 1, by go_num, by omega, by rw [HST.out, if_pos h0]; go_num, ⟨by have := HG.out; omega⟩, HB⟩
   ·have d0 : decide (0 < v) = false := decide_eq_false h0
    go_wp2_with fail
    go_roundg (gk - 1)
    case measure => have := HG.out; omega
    case rel => exact ⟨i + 1, by go_num, by omega, by rw [HST.out, if_neg (by omega)]; rfl, ⟨by have := HG.out; omega⟩, HB⟩
  obtain rfl : i = ws.length := by omega
  have hp := pos_le ws
  have HP : Aside0 (pos (ws.take ws.length) = pos ws) := ⟨by rw [List.take_length]⟩
  go_wp2_with fail
  rcases HLIM.out with e | ⟨e, hp19⟩
  case' inl =>
   subst e
   refine (wherryref01_in.calls 15 9 15 true wr (by decide +kernel)).mono ?_
   rintro e w2 ⟨rfl, hd2⟩
   replace HB := Aside0.mk (below_then HB.out HB.out.size hd2.below)
   clear hd2
   go_wp2_with fail
  case' inr =>
   subst e
   refine (wherryref01_in.calls 7 9 15 false wr (by decide +kernel)).mono ?_
   rintro e w3 ⟨rfl, hd3⟩
   replace HB := Aside0.mk (below_then HB.out HB.out.size hd3.below)
   clear hd3
   go_wp2_with fail
   refine (wherryref01_in.calls 7 5 15 true w3 (by decide +kernel)).mono ?_
   rintro e w2 ⟨rfl, hd2⟩
   replace HB := Aside0.mk (below_then HB.out HB.out.size hd2.below)
   have dp : decide (((pos ws : Nat) : Int) ≤ 19) = true := decide_eq_true (by omega)
   have dp2 : decide (pos ws ≤ 19) = true := decide_eq_true hp19
   clear hd2 hp19
   go_wp2_with fail
  all_goals
   refine (wherrykeep_TwinInts.calls A c ws ws w2 (Kd.C_below HR.out HB.out) hc (by unfold wherrykeep_TwinInts.f; rw [if_pos (by simp; omega)]; rfl)).mono ?_
   rintro e w4 ⟨vx, rfl, ho4, hb4⟩
   have HX := Aside0.mk (Kd.R_lower ho4 HB.out.size)
   replace HB := Aside0.mk (below_then HB.out HB.out.size hb4)
   clear ho4 hb4
   obtain ⟨Ax, cx, ex⟩ := Kd.R_slice HX.out
   subst ex
   go_wp2_with fail
   go_loopg [] 32 (fun kq w' => ∃ (xs : List Int), xs.length = ws.length ∧ Aside0 (weighs xs = true) ∧ Aside0 (lensFrom kq xs _ = some la) ∧ Aside0 (Kd.R (Kd.int .i64) 3 w' w.heap.size (fun _ => True) (.slice Ax ws.length cx) xs) ∧ Aside0 (Below w.heap.size w w'))
   case atStart => exact ⟨ws, rfl, HWW, HH, HX, HB⟩
   case round =>
    clear HX HB
    obtain ⟨xs, hxl, HXW, HL, HX, HB⟩ := hrel
    cases gk with
    | zero => have := HL.out; simp [lensFrom] at this
    | succ m =>
     have hol := once_length xs
     have hxc := (Kd.R_reads' HX.out).2.1
     have hxr := (Kd.R_reads' HX.out).2.2
     have hcall := wr_lengths (w := wr) (ws := xs) Ax cx (by rw [hxl]; exact hn0) HXW.out hxr (by rw [hxl]; exact hxc)
     rw [hxl] at hcall
     have HC := Aside0.mk hcall
     have HXL := Aside0.mk hxl
     have HOL := Aside0.mk (hol.trans hxl)
     clear hcall hxr hxc hxl hol
     go_wp2_with fail
     refine HC.out.mono ?_
     rintro e w5 ⟨vo, rfl, ho5, hb5⟩
     obtain ⟨Ao, co, eo⟩ := Kd.R_slice ho5
     subst eo
     have hoc := (Kd.R_reads' ho5).2.1
     have hor := (Kd.R_reads' ho5).2.2
     have HL2 := Aside0.mk HL.out
     replace HX := Aside0.mk (Kd.R_below HX.out hb5)
     have HO := Aside0.mk (Kd.R_lower ho5 HB.out.size)
     replace HB := Aside0.mk (below_then HB.out HB.out.size hb5)
     rw [HOL.out] at hor hoc HO ⊢
     obtain ⟨out, hout⟩ : ∃ out, out = onceOf xs := ⟨_, rfl⟩
     rw [← hout] at hor HO HOL
     have HOUT := Aside0.mk hout
     have HOR := Aside0.mk hor
     clear hb5 ho5 hor HL hout HC
     go_wp2_with fail
     go_loopg [10, 11] ws.length (fun kq v10 v11 w' => ∃ (i : Nat), v11 = .int .i64 i ∧ i ≤ ws.length ∧ v10 = .int .i64 (topR (out.take i)) ∧ Aside0 (kq + i = ws.length) ∧ Aside0 (Below w5.heap.size w5 w'))
     case atStart => exact ⟨0, rfl, Nat.zero_le _, rfl, ⟨by omega⟩, ⟨Below.refl _ _⟩⟩
     case round =>
      obtain ⟨i, rfl, hi, rfl, HG, HB5⟩ := hrel
      by_cases hlt : i < ws.length
      ·have hli : i < out.length := by rw [HOL.out]; exact hlt
       obtain ⟨v, hv⟩ : ∃ v, v = out.getD i 0 := ⟨_, rfl⟩
       obtain ⟨ad, ead, _⟩ := Kd.at_int HOR.out (i : Int) (by omega) (by omega)
       subst ead
       have k0 := reads_at (Kd.C_below HOR.out HB5.out) hlt ((rd_nat out i).trans hv.symm)
       have hts : topR (out.take (i + 1)) = (if topR (out.take i) < v then v else topR (out.take i)) := by
        have e : out.getD i 0 = out[i] := by simp [hli]
        rw [List.take_succ_eq_append_getElem hli, topR_snoc, hv, e]
        rfl
       obtain ⟨T2, hT2⟩ : ∃ T2, T2 = topR (out.take (i + 1)) := ⟨_, rfl⟩
       rw [← hT2] at hts
       have HT2 := Aside0.mk hT2
       have hts2 := hts.symm
       generalize topR (out.take i) = T at hts2 ⊢
       clear hv hT2 hts hli
       go_wp2_with fail
       go_roundg (gk - 1)
       case measure => have := HG.out; omega
       case rel => exact ⟨i + 1, by go_num, by omega, by rw [← HT2.out], ⟨by have := HG.out; omega⟩, HB5⟩
      obtain rfl : i = ws.length := by omega
      have HTO : Aside0 (topR (out.take ws.length) = topR out) := ⟨by rw [← HOL.out, List.take_length]⟩
      rw [HTO.out]
      obtain ⟨T, hT⟩ : ∃ T, T = topR out := ⟨_, rfl⟩
      rw [← hT]
      have HTT := Aside0.mk hT
      clear hT
      have HBB := Aside0.mk (below_then HB.out HB.out.size HB5.out)
      rcases lens_step (by decide) HL2.out with ⟨hc, hla⟩ | ⟨hc, hn⟩
      ·rw [← HOUT.out, ← HTT.out] at hc
       have dT := decide_eq_true hc
       have HLA := Aside0.mk hla
       clear hla
       go_wp2_with fail
       go_ret2
       refine ⟨_, rfl, ?_, HBB.out⟩
       rw [← HLA.out, ← HOUT.out]
       exact Kd.R_below HO.out HB5.out
      ·rw [← HOUT.out, ← HTT.out] at hc
       have dT := decide_eq_false hc
       have HN := Aside0.mk hn
       have HX5 := Aside0.mk (Kd.R_below HX.out HB5.out)
       clear hn
       go_wp2_with fail
       go_loopg [12] ws.length (fun kq v12 w' => ∃ (j : Nat), v12 = .int .i64 j ∧ j ≤ ws.length ∧ Aside0 (kq + j = ws.length) ∧ Aside0 (Kd.R (Kd.int .i64) 3 w' w.heap.size (fun _ => True) (.slice Ax ws.length cx) (halfTo xs j)) ∧ Aside0 (Below w.heap.size w w'))
       case atStart => exact ⟨0, rfl, Nat.zero_le _, ⟨by omega⟩, ⟨by rw [(by unfold halfTo halved; simp : halfTo xs 0 = xs)]; exact HX5.out⟩, HBB⟩
       case round =>
        clear HX5 HBB HB5 HX HB HO
        obtain ⟨j, rfl, hj, HG3, HX, HB⟩ := hrel
        by_cases hjl : j < ws.length
        ·have hjx : j < xs.length := by rw [HXL.out]; exact hjl
         have hly := (Kd.R_reads' HX.out).1
         obtain ⟨gx, cy, ey, gge, _, _⟩ := Kd.R_form HX.out (by rw [← hly]; omega)
         injection ey with ey _ ec
         subst ey ec
         obtain ⟨y1, y2⟩ := Kd.R_celln 0 HX.out (j : Int) (by omega) (by omega)
         obtain ⟨y, hy⟩ : ∃ y, y = xs[j] := ⟨_, rfl⟩
         have hyr : rdOf (0 : Int) (halfTo xs j) (j : Int) = y := (halfTo_at xs j hjx).trans hy.symm
         rw [hyr, Int.toNat_natCast] at y1
         rw [Int.toNat_natCast] at y2
         have hyb := ((weighs_iff xs).1 HXW.out).2 xs[j] (List.getElem_mem hjx)
         rw [← hy] at hyb
         have HPT := Aside0.mk (Kd.R_putn HX.out (j : Int) ((y + 1) / 2))
         rw [Int.toNat_natCast] at HPT
         have HE : Aside0 (halfTo xs (j + 1) = (halfTo xs j).set j ((y + 1) / 2)) := ⟨by rw [halfTo_succ xs j hjx, ← hy, half_all hyb]⟩
         have HBN := Aside0.mk (below_set (j := j) (v := .int .i64 ((y + 1) / 2)) HB.out gge)
         clear hyr hy hjx hly
         go_wp2_with fail
         go_roundg (gk - 1)
         case measure => have := HG3.out; omega
         case rel => exact ⟨j + 1, by go_num, by omega, ⟨by have := HG3.out; omega⟩, ⟨by rw [HE.out]; exact HPT.out⟩, HBN⟩
        obtain rfl : j = ws.length := by omega
        go_wp2_with fail
        go_roundg m
        case measure => omega
        case rel => exact ⟨halved xs, by unfold halved; rw [List.length_map]; exact HXL.out, ⟨by rw [halved_is HXW.out]; exact half_weighs HXW.out⟩, HN, ⟨by have h := HX.out; rwa [← HXL.out, halfTo_all, HXL.out] at h⟩, HB⟩
end Go.Proofs.Ytlffpaploefljaa.Wr
