-- Written by a program of this session out of the translation. Lean checks it.
import Derived.Test.YtlffpaploefljaaPx0
namespace Go.Proofs.Ytlffpaploefljaa.P
open Go.RowKit Go.Proofs.YtlffpaploefljaaW.PrintWords Go.Proofs.YtlffpaploefljaaW.PrintLast Go.Proofs.YtlffpaploefljaaW.PrintMore
open List (setIfInBounds_toArray set_cons_zero set_cons_succ)
attribute [local go_sem] max2_int min2_int max_two min_two max_three min_three max_four min_four   -- for this text's walks alone
set_option linter.unusedVariables false
set_option linter.unusedSimpArgs false

/-! ### match_seen_add: function 58 (by hand) -/
open Go.WideMaps (ArrKey KeyLaw keyOf_pair)
open Go.ChangeMaps (setBlock heap_setBlock_same heap_setBlock_other)
open Go.MapKept (Stamped)

def key3 (x y z : Int) : Value := .agg #[.int .u8 x, .int .u8 y, .int .u8 z]
theorem laidOut3 : laidOutB Try.prog = true := by kernel_rfl
theorem arr3 : ArrKey Try.prog 109 5 3 := ⟨by kernel_rfl, by kernel_rfl, by kernel_rfl, by kernel_rfl⟩
theorem wide3 : (match Try.prog.underlying 109 with | some (.array _ _) | some (.struct _) => true | _ => false) = true := by kernel_rfl
set_option maxRecDepth 100000 in
theorem law3 : KeyLaw Try.prog 109 := deep_law_laid laidOut3 (m := 2) (by omega) (of_decide_eq_true (by kernel_rfl)) (by kernel_rfl) wide3
theorem keyOf3 {x y z : Int} (wx : (Lit.int .u8 x).wf = true) (wy : (Lit.int .u8 y).wf = true) (wz : (Lit.int .u8 z).wf = true) : keyOf Try.prog 109 (key3 x y z) = some (.string (keyBytes [.int .u8 x, .int .u8 y, .int .u8 z])) := by
 have he : Try.prog.underlying 5 = some (.int .u8) := Try.underlying5
 have hsz : ∃ m, Try.prog.types.size = m + 1 := by
  have h : 0 < Try.prog.types.size := of_decide_eq_true (by kernel_rfl)
  exact ⟨Try.prog.types.size - 1, by omega⟩
 have hkt := arr3.keyType hsz
 obtain ⟨m, hm⟩ := hsz
 unfold keyOf key3
 simp only [arr3.hu]
 rw [if_pos (by simp [hkt, Value.formed, arr3.hu, arr3.size]), hm]
 unfold Program.keyLits
 simp only [arr3.hu, Value.cells]
 rw [if_pos (by rw [arr3.size]; rfl), show List.range 3 = [0, 1, 2] from rfl, List.mapM_cons, List.mapM_cons, List.mapM_cons, List.mapM_nil]
 simp [arr3.one, Program.keyLits, he, wx, wy, wz]
theorem zero55 (u : World) : (zeroValue 32).run Try.prog u = .ok (.slice none 0 0) u := by kernel_rfl

/-- Three bytes as a key. -/
def WF3 (x y z : Int) : Prop := (Lit.int .u8 x).wf = true ∧ (Lit.int .u8 y).wf = true ∧ (Lit.int .u8 z).wf = true
theorem key3_inj {x y z x' y' z' : Int} (h : key3 x y z = key3 x' y' z') : x = x' ∧ y = y' ∧ z = z' := by
 unfold key3 at h
 simp at h
 exact h
/-- Block g is a map of at most n entries from three bytes to rows of places, each in a row of its own from base on; G tells them. -/
def Seen (W : World) (base g n : Nat) (G : Int → Int → Int → List Int) : Prop :=
 ∃ es clock, W.heap[g]? = some (.map es clock) ∧ base ≤ g ∧ Stamped es clock ∧ es.size ≤ n ∧
  (∀ e ∈ es.toList, ∃ x y z, WF3 x y z ∧ e.key = key3 x y z ∧ G x y z ≠ [] ∧ Kd.R (Kd.int .i64) 3 W base (fun _ => True) e.val (G x y z)) ∧
  (∀ e1 ∈ es.toList, ∀ e2 ∈ es.toList, e1.key ≠ e2.key → ∀ k, e1.val.ownBlock = some k → e2.val.ownBlock ≠ some k) ∧
  (∀ x y z, WF3 x y z → G x y z ≠ [] → ∃ e ∈ es.toList, e.key = key3 x y z) ∧ (∀ x y z, (G x y z).length ≤ n)
theorem row_stay {W w' : World} {base : Nat} {v : Value} {xs : List Int} (h : Kd.R (Kd.int .i64) 3 W base (fun _ => True) v xs) (hm : ∀ k, v.ownBlock = some k → w'.heap[k]? = W.heap[k]?) : Kd.R (Kd.int .i64) 3 w' base (fun _ => True) v xs :=
 Kd.R_of_own (own_move (Kd.own_of_R h) hm) (fun _ _ => trivial)
theorem row_cells {W : World} {base : Nat} {v : Value} {xs : List Int} (h : Kd.R (Kd.int .i64) 3 W base (fun _ => True) v xs) {k : Nat} (hk : v.ownBlock = some k) : ∃ cells, W.heap[k]? = some (.cells cells 3 (0, 0)) := own_typed (Kd.own_of_R h) k hk
theorem seen_made (W : World) (base : Nat) (hb : base ≤ W.heap.size) : Seen (W.alloc (.map #[] 0)) base W.heap.size 0 (fun _ _ _ => []) :=
 ⟨#[], 0, (MapKept.heap_alloc W _).1, hb, MapKept.stamped_empty 0, Nat.le_refl _, fun e he => by simp at he, fun e he => by simp at he, fun x y z _ h => absurd rfl h, fun _ _ _ => Nat.le_refl _⟩
/-- What is not of the map, nor of its rows, may turn. -/
theorem Seen.stay {W w' : World} {base g n : Nat} {G : Int → Int → Int → List Int} (h : Seen W base g n G) (hm : ∀ k, base ≤ k → k < W.heap.size → k = g ∨ (∃ cells, W.heap[k]? = some (.cells cells 3 (0, 0))) → w'.heap[k]? = W.heap[k]?) : Seen w' base g n G := by
 obtain ⟨es, clock, hg, hb, hs, hn, he, ha, hall, hlen⟩ := h
 refine ⟨es, clock, ?_, hb, hs, hn, fun e hm' => ?_, ha, hall, hlen⟩
 ·rw [hm g hb (blk_lt hg) (.inl rfl)]; exact hg
 ·obtain ⟨x, y, z, hw, hk, hne, hr⟩ := he e hm'
  exact ⟨x, y, z, hw, hk, hne, row_stay hr (fun k hk => hm k (Kd.R_base hr k hk) (Kd.R_lt hr k hk) (.inr (row_cells hr hk)))⟩
theorem Seen.below {W w' : World} {base g n : Nat} {G : Int → Int → Int → List Int} (h : Seen W base g n G) (hb : Below W.heap.size W w') : Seen w' base g n G := h.stay (fun k _ hk _ => hb.block k hk)
theorem Seen.fit {W : World} {base : Nat} {G : Int → Int → Int → List Int} {es : Array MapEntry} {clock : Nat} (hs : Stamped es clock) (hn : es.size ≤ maxLen)
  (he : ∀ e ∈ es.toList, ∃ x y z, WF3 x y z ∧ e.key = key3 x y z ∧ G x y z ≠ [] ∧ Kd.R (Kd.int .i64) 3 W base (fun _ => True) e.val (G x y z)) : Go.WideElems.Fit (H := Unit) Try.prog 109 (fun _ => some (.nil, [])) es clock :=
 ⟨hn, hs, fun e hm => by
  obtain ⟨x, y, z, hw, hk, _, _⟩ := he e hm
  exact ⟨_, by simp [Go.WideElems.rd, hk, keyOf3 hw.1 hw.2.1 hw.2.2]; rfl⟩⟩
theorem key_unique {es : Array MapEntry} {clock : Nat} (hs : Stamped es clock) {e1 e2 : MapEntry} (h1 : e1 ∈ es.toList) (h2 : e2 ∈ es.toList) (hk : e1.key = e2.key) : e1 = e2 := by
 obtain ⟨i, hi, rfl⟩ := List.mem_iff_getElem.1 h1
 obtain ⟨j, hj, rfl⟩ := List.mem_iff_getElem.1 h2
 have hkeys : (es.toList.map (·.key))[i]'(by simpa using hi) = (es.toList.map (·.key))[j]'(by simpa using hj) := by simpa using hk
 have := (List.getElem_inj hs.2.2).1 hkeys
 subst this
 rfl
theorem seen_look {W : World} {base g n : Nat} {G : Int → Int → Int → List Int} (h : Seen W base g n G) (hn : n ≤ maxLen) {x y z : Int} (hw : WF3 x y z) :
  ∃ A c, (∀ W', Below W.heap.size W W' → (Instr.lookup 87 (.map (some g)) (key3 x y z) false).run Try.prog W' = .ok (.slice A (G x y z).length c) W') ∧ (G x y z).length ≤ c ∧ Kd.C (Kd.int .i64) W A (G x y z).length (G x y z) := by
 obtain ⟨es, clock, hg, hb, hs, hsz, he, ha, hall, hlen⟩ := h
 have F := Seen.fit hs (Nat.le_trans hsz hn) he
 by_cases hx : ∃ e ∈ es.toList, e.key = key3 x y z
 ·obtain ⟨e, hm, hke⟩ := hx
  obtain ⟨x', y', z', hw', hk, hne, hr⟩ := he e hm
  rw [hke] at hk
  obtain ⟨rfl, rfl, rfl⟩ := key3_inj hk
  obtain ⟨A, c, e1, hl, hc⟩ := Kd.R_reads hr
  refine ⟨A, c, fun W' hW' => ?_, hl, hc⟩
  have hg' : W'.heap[g]? = some (.map es clock) := (hW'.block g (blk_lt hg)).trans hg
  rcases Maps.fit_look false (Maps.Keyed.of_law law3) Try.underlying87 (zero55 W') hg' F (keyOf3 hw.1 hw.2.1 hw.2.2) with ⟨hrun, hno, _⟩ | ⟨e0, y0, hm0, h3, hrun, _⟩
  ·exact absurd hke (hno e hm)
  ·obtain rfl := key_unique hs hm0 hm (h3.trans hke.symm)
   rw [e1] at hrun
   exact hrun
 ·have hG : G x y z = [] := by
   apply Classical.byContradiction
   intro hne
   exact hx (hall x y z hw hne)
  rw [hG]
  refine ⟨none, 0, fun W' hW' => ?_, Nat.le_refl _, Kd.C_nil _ _⟩
  have hg' : W'.heap[g]? = some (.map es clock) := (hW'.block g (blk_lt hg)).trans hg
  rcases Maps.fit_look false (Maps.Keyed.of_law law3) Try.underlying87 (zero55 W') hg' F (keyOf3 hw.1 hw.2.1 hw.2.2) with ⟨hrun, _⟩ | ⟨e0, y0, hm0, h3, _⟩
  ·exact hrun
  ·exact absurd ⟨e0, hm0, h3⟩ hx

def upd3 (G : Int → Int → Int → List Int) (x y z a : Int) : Int → Int → Int → List Int := fun x' y' z' => if x' = x ∧ y' = y ∧ z' = z then G x y z ++ [a] else G x' y' z'
theorem upd3_same (G : Int → Int → Int → List Int) (x y z a : Int) : upd3 G x y z a x y z = G x y z ++ [a] := by unfold upd3; rw [if_pos ⟨rfl, rfl, rfl⟩]
theorem upd3_other (G : Int → Int → Int → List Int) {x y z a x' y' z' : Int} (h : key3 x' y' z' ≠ key3 x y z) : upd3 G x y z a x' y' z' = G x' y' z' := by
 unfold upd3
 rw [if_neg]
 rintro ⟨rfl, rfl, rfl⟩
 exact h rfl
/-- 's[k] = append(s[k], a)': the entry, and the store behind the append. -/
theorem seen_entry {W Wb : World} {base g n : Nat} {G : Int → Int → Int → List Int} (h : Seen W base g n G) (hWb : Below W.heap.size W Wb) (hn : n + 1 ≤ maxLen) {x y z : Int} (hw : WF3 x y z) :
  ∃ v0 st es1 clock1, (Instr.mapEntry 87 (.map (some g)) (key3 x y z)).run Try.prog Wb = .ok (.tuple #[v0, goInt st]) (setBlock Wb g (.map es1 clock1)) ∧ Kd.R (Kd.int .i64) 3 W base (fun _ => True) v0 (G x y z) ∧
   ∀ (w2 : World) (v' : Value) (a : Int), w2.heap[g]? = some (.map es1 clock1) → (∀ k, k < W.heap.size → k ≠ g → some k ≠ v0.ownBlock → w2.heap[k]? = W.heap[k]?) → Kd.R (Kd.int .i64) 3 w2 base (fun _ => True) v' (G x y z ++ [a]) → (v'.ownBlock = v0.ownBlock ∨ ∃ b, v'.ownBlock = some b ∧ W.heap.size ≤ b) →
    ∃ es' clock', (Instr.entryStore 87 (.map (some g)) (goInt st) v').run Try.prog w2 = .ok () (setBlock w2 g (.map es' clock')) ∧ Seen (setBlock w2 g (.map es' clock')) base g (n + 1) (upd3 G x y z a) := by
 obtain ⟨es, clock, hg, hb, hs, hsz, he, ha, hall, hlen⟩ := h
 have F := Seen.fit hs (Nat.le_trans hsz (Nat.le_of_succ_le hn)) he
 have hkey := keyOf3 hw.1 hw.2.1 hw.2.2
 have hlen' : ∀ (a x' y' z' : Int), (upd3 G x y z a x' y' z').length ≤ n + 1 := by
  intro a x' y' z'
  unfold upd3
  split
  ·have := hlen x y z; simp; omega
  ·exact Nat.le_succ_of_le (hlen x' y' z')
 have hs1 := hs.1
 have hs2 := hs.2.1
 have hs3 := hs.2.2
 have hg' : Wb.heap[g]? = some (.map es clock) := (hWb.block g (blk_lt hg)).trans hg
 -- an elder row stands behind all that is done
 have stays : ∀ (w2 : World) (es' : Array MapEntry) (clock' : Nat) (es1 : Array MapEntry) (clock1 : Nat) (v0 : Value), w2.heap[g]? = some (.map es1 clock1) → (∀ k, k < W.heap.size → k ≠ g → some k ≠ v0.ownBlock → w2.heap[k]? = W.heap[k]?) → ∀ (v : Value) (xs : List Int), Kd.R (Kd.int .i64) 3 W base (fun _ => True) v xs →
   (∀ k, v.ownBlock = some k → v0.ownBlock ≠ some k) → Kd.R (Kd.int .i64) 3 (setBlock w2 g (.map es' clock')) base (fun _ => True) v xs := by
  intro w2 es' clock' es1 clock1 v0 hw2 hgr v xs hr hap
  refine row_stay hr (fun k hk => ?_)
  obtain ⟨cells, hc⟩ := row_cells hr hk
  have hkg : k ≠ g := by rintro rfl; rw [hg] at hc; cases hc
  have hlt := Kd.R_lt hr k hk
  rw [heap_setBlock_other hw2 _ hkg]
  exact hgr k hlt hkg (fun e => hap k hk e.symm)
 have newrow : ∀ (w2 : World) (es' : Array MapEntry) (clock' : Nat) (es1 : Array MapEntry) (clock1 : Nat) (v' : Value) (xs : List Int), w2.heap[g]? = some (.map es1 clock1) → Kd.R (Kd.int .i64) 3 w2 base (fun _ => True) v' xs → Kd.R (Kd.int .i64) 3 (setBlock w2 g (.map es' clock')) base (fun _ => True) v' xs := by
  intro w2 es' clock' es1 clock1 v' xs hw2 hr
  refine row_stay hr (fun k hk => ?_)
  obtain ⟨cells, hc⟩ := row_cells hr hk
  have hkg : k ≠ g := by rintro rfl; rw [hw2] at hc; cases hc
  exact heap_setBlock_other hw2 _ hkg
 rcases law3.find Wb hkey es.toList F.keys with ⟨h1, h2⟩ | ⟨j, e0, h1, h2, h3⟩
 ·have hG : G x y z = [] := by
   apply Classical.byContradiction
   intro hne
   obtain ⟨e, hm, hk⟩ := hall x y z hw hne
   exact h2 e hm hk
  refine ⟨.slice none 0 0, clock, es.push ⟨key3 x y z, .slice none 0 0, clock⟩, clock + 1, ?_, by rw [hG]; exact Kd.R_nil _ _ _ _ _, ?_⟩
  ·simp [Instr.mapEntry, run_underlying Try.underlying87, MapKept.run_getObj_map hg', law3.check Wb false hkey, h1, zero55, MapKept.run_setObj_map _ hg', Result.andThen, setBlock]
  ·intro w2 v' a hw2 hgr hr' hloc
   rw [hG, List.nil_append] at hr'
   refine ⟨es.push ⟨key3 x y z, v', clock⟩, clock + 1, ?_, ?_⟩
   ·have hidx : (es.push ⟨key3 x y z, .slice none 0 0, clock⟩).findIdx? (fun e => ((e.born : Nat) : Int) == ((clock : Nat) : Int)) = some es.size := by
     rw [Go.WideElems.findIdx_arr]
     exact Go.WideElems.findIdx_born (l := (es.push ⟨key3 x y z, .slice none 0 0, clock⟩).toList) (j := es.size) (e0 := ⟨key3 x y z, .slice none 0 0, clock⟩) (by
      simp only [Array.toList_push, List.map_append, List.map_cons, List.map_nil]
      refine List.nodup_append.2 ⟨hs2, by simp, fun a ha c hc e1 => ?_⟩
      simp only [List.mem_singleton] at hc
      obtain ⟨x, hx, rfl⟩ := List.mem_map.1 ha
      have := hs1 x hx
      omega) (by simp)
    have hmod : (es.push ⟨key3 x y z, .slice none 0 0, clock⟩).modify es.size (fun e => { e with val := v' }) = es.push ⟨key3 x y z, v', clock⟩ := by
     apply Array.ext'
     rw [Array.toList_modify, Array.toList_push, Array.toList_push, ← Array.length_toList, Go.WideElems.modify_last]
    simp [Instr.entryStore, MapKept.run_getObj_map hw2, asInt, asIntOf, goInt, hidx, hmod, MapKept.run_setObj_map _ hw2, Result.andThen, setBlock]
   ·have fresh : ∀ e ∈ es.toList, ∀ k, e.val.ownBlock = some k → v'.ownBlock ≠ some k := by
     intro e hm k hk hk'
     obtain ⟨x', y', z', _, _, _, hr⟩ := he e hm
     have := Kd.R_lt hr k hk
     rcases hloc with hl | ⟨b, hl, hle⟩
     ·rw [hl] at hk'; simp [Value.ownBlock] at hk'
     ·rw [hl] at hk'; injection hk' with hk'; omega
    refine ⟨es.push ⟨key3 x y z, v', clock⟩, clock + 1, heap_setBlock_same hw2 _, hb, MapKept.stamped_push hs h2, by simp; omega, ?_, ?_, ?_, hlen' a⟩
    ·intro e hm
     simp only [Array.toList_push, List.mem_append, List.mem_singleton] at hm
     rcases hm with hm | rfl
     ·obtain ⟨x', y', z', hw', hk, hne, hr⟩ := he e hm
      have hkn : key3 x' y' z' ≠ key3 x y z := by rw [← hk]; exact h2 e hm
      refine ⟨x', y', z', hw', hk, by rw [upd3_other G hkn]; exact hne, ?_⟩
      rw [upd3_other G hkn]
      exact stays w2 _ _ _ _ _ hw2 hgr _ _ hr (fun k _ => by simp [Value.ownBlock])
     ·exact ⟨x, y, z, hw, rfl, by rw [upd3_same]; simp, by rw [upd3_same, hG, List.nil_append]; exact newrow w2 _ _ _ _ _ _ hw2 hr'⟩
    ·intro e1 hm1 e2 hm2 hne k hk
     simp only [Array.toList_push, List.mem_append, List.mem_singleton] at hm1 hm2
     rcases hm1 with hm1 | rfl <;> rcases hm2 with hm2 | rfl
     ·exact ha e1 hm1 e2 hm2 hne k hk
     ·exact fresh e1 hm1 k hk
     ·exact fun hk2 => fresh e2 hm2 k hk2 hk
     ·exact absurd rfl hne
    ·intro x' y' z' hw' hne
     by_cases hk : key3 x' y' z' = key3 x y z
     ·exact ⟨⟨key3 x y z, v', clock⟩, by simp, hk.symm⟩
     ·rw [upd3_other G hk] at hne
      obtain ⟨e, hm, hk2⟩ := hall x' y' z' hw' hne
      exact ⟨e, by simp [Array.mem_toList_iff.1 hm], hk2⟩
 ·have hj : es[j]? = some e0 := by simpa using h2
  have hm0 : e0 ∈ es.toList := List.mem_of_getElem? h2
  obtain ⟨x', y', z', hw', hk0, hne0, hr0⟩ := he e0 hm0
  rw [h3] at hk0
  obtain ⟨rfl, rfl, rfl⟩ := key3_inj hk0
  have hsame : es.modify j (fun e => { e with key := key3 x y z }) = es := by
   apply Array.ext'
   rw [Array.toList_modify, Go.ChangeMaps.modify_eq_set _ _ _ _ h2]
   have : ({ e0 with key := key3 x y z } : MapEntry) = e0 := by rw [← h3]
   rw [this]
   exact Go.WideElems.set_self _ _ _ h2
  refine ⟨e0.val, e0.born, es, clock, ?_, hr0, ?_⟩
  ·simp [Instr.mapEntry, run_underlying Try.underlying87, MapKept.run_getObj_map hg', law3.check Wb false hkey, h1, hj, h3, law3.stays Wb hkey, hsame, MapKept.run_setObj_map _ hg', Result.andThen, setBlock]
  ·intro w2 v' a hw2 hgr hr' hloc
   have hidx : es.findIdx? (fun e => ((e.born : Nat) : Int) == ((e0.born : Nat) : Int)) = some j := by
    rw [Go.WideElems.findIdx_arr]
    exact Go.WideElems.findIdx_born hs2 h2
   have hset : (es.modify j (fun e => { e with val := v' })).toList = es.toList.set j { e0 with val := v' } := by
    rw [Array.toList_modify, Go.ChangeMaps.modify_eq_set _ _ _ _ h2]
   refine ⟨es.modify j (fun e => { e with val := v' }), clock, ?_, ?_⟩
   ·simp [Instr.entryStore, MapKept.run_getObj_map hw2, asInt, asIntOf, goInt, hidx, MapKept.run_setObj_map _ hw2, Result.andThen, setBlock]
   ·have hjl : j < es.toList.length := (List.getElem?_eq_some_iff.1 h2).1
    have hej : es.toList[j] = e0 := (List.getElem?_eq_some_iff.1 h2).2
    -- who is in the row of entries now
    have who : ∀ e ∈ es.toList.set j { e0 with val := v' }, (e ∈ es.toList ∧ e.key ≠ key3 x y z) ∨ e = { e0 with val := v' } := by
     intro e hm
     obtain ⟨i, hi, rfl⟩ := List.mem_iff_getElem.1 hm
     rw [List.length_set] at hi
     rw [List.getElem_set]
     by_cases hij : j = i
     ·rw [if_pos hij]; exact .inr rfl
     ·rw [if_neg hij]
      refine .inl ⟨List.getElem_mem hi, fun hk => hij ?_⟩
      have hkeys : (es.toList.map (·.key))[i]'(by simpa using hi) = (es.toList.map (·.key))[j]'(by simpa using hjl) := by simpa [hej, h3] using hk
      exact ((List.getElem_inj hs3).1 hkeys).symm
    have fresh : ∀ e ∈ es.toList, e.key ≠ key3 x y z → ∀ k, e.val.ownBlock = some k → v'.ownBlock ≠ some k := by
     intro e hm hk0 k hk hk'
     obtain ⟨x', y', z', _, _, _, hr⟩ := he e hm
     have := Kd.R_lt hr k hk
     rcases hloc with hl | ⟨b, hl, hle⟩
     ·rw [hl] at hk'; exact ha e hm e0 hm0 (by rw [h3]; exact hk0) k hk hk'
     ·rw [hl] at hk'; injection hk' with hk'; omega
    refine ⟨es.modify j (fun e => { e with val := v' }), clock, heap_setBlock_same hw2 _, hb, ?_, by simp; omega, ?_, ?_, ?_, hlen' a⟩
    ·refine ⟨fun e hm => ?_, ?_, ?_⟩
     ·rw [hset] at hm
      rcases who e hm with ⟨hm, _⟩ | rfl
      ·exact hs1 e hm
      ·exact hs1 e0 hm0
     ·rw [hset, List.map_set, show ({ e0 with val := v' } : MapEntry).born = (es.toList.map (·.born))[j]'(by simpa using hjl) from by simp [hej], List.set_getElem_self]; exact hs2
     ·rw [hset, List.map_set, show ({ e0 with val := v' } : MapEntry).key = (es.toList.map (·.key))[j]'(by simpa using hjl) from by simp [hej], List.set_getElem_self]; exact hs3
    ·intro e hm
     rw [hset] at hm
     rcases who e hm with ⟨hm, hkn⟩ | rfl
     ·obtain ⟨x', y', z', hw', hk, hne, hr⟩ := he e hm
      rw [hk] at hkn
      refine ⟨x', y', z', hw', hk, by rw [upd3_other G hkn]; exact hne, ?_⟩
      rw [upd3_other G hkn]
      exact stays w2 _ _ _ _ _ hw2 hgr _ _ hr (fun k hk' hk2 => ha e hm e0 hm0 (by rw [hk, h3]; exact hkn) k hk' hk2)
     ·exact ⟨x, y, z, hw, h3, by rw [upd3_same]; simp, by rw [upd3_same]; exact newrow w2 _ _ _ _ _ _ hw2 hr'⟩
    ·intro e1 hm1 e2 hm2 hne k hk
     rw [hset] at hm1 hm2
     rcases who e1 hm1 with ⟨hm1, hk1⟩ | rfl <;> rcases who e2 hm2 with ⟨hm2, hk2⟩ | rfl
     ·exact ha e1 hm1 e2 hm2 hne k hk
     ·exact fresh e1 hm1 hk1 k hk
     ·exact fun hk' => fresh e2 hm2 hk2 k hk' hk
     ·exact absurd rfl hne
    ·intro x' y' z' hw' hne
     rw [hset]
     by_cases hk : key3 x' y' z' = key3 x y z
     ·exact ⟨{ e0 with val := v' }, List.mem_iff_getElem.2 ⟨j, by simpa using hjl, by simp⟩, by rw [hk]; exact h3⟩
     ·rw [upd3_other G hk] at hne
      obtain ⟨e, hm, hk2⟩ := hall x' y' z' hw' hne
      obtain ⟨i, hi, rfl⟩ := List.mem_iff_getElem.1 hm
      refine ⟨es.toList[i], List.mem_iff_getElem.2 ⟨i, by simpa using hi, ?_⟩, hk2⟩
      rw [List.getElem_set, if_neg]
      rintro rfl
      exact hk (by rw [← hk2, hej, h3])
open Go.ChangeMaps (setBlock heap_setBlock_same heap_setBlock_other)

theorem setBlock_alloc (w : World) (g : Nat) (m o : Obj) (h : g < w.heap.size) : setBlock (w.alloc o) g m = (setBlock w g m).alloc o := by
 show ({ w with heap := (w.heap.push o).setIfInBounds g m } : World) = { w with heap := (w.heap.setIfInBounds g m).push o }
 congr 1
 apply Array.ext'
 simp [List.set_append_left, h]
theorem setBlock_size (w : World) (g : Nat) (m : Obj) : (setBlock w g m).heap.size = w.heap.size := by
 show (w.heap.setIfInBounds g m).size = _
 simp
theorem below_setBlock {B : Nat} {w0 w : World} (h : Below B w0 w) {g : Nat} (hg : B ≤ g) {m : Obj} : Below B w0 (setBlock w g m) :=
 h.trans ⟨rfl, rfl, rfl, by rw [setBlock_size]; exact Nat.le_refl _, fun k hk => by
  show (w.heap.setIfInBounds g m)[k]? = _
  rw [Array.getElem?_setIfInBounds, if_neg (by omega)]⟩
theorem row_setBlock {W : World} {base g : Nat} {es : Array MapEntry} {clock : Nat} {m : Obj} {v : Value} {xs : List Int} (hg : W.heap[g]? = some (.map es clock)) (h : Kd.R (Kd.int .i64) 3 W base (fun _ => True) v xs) : Kd.R (Kd.int .i64) 3 (setBlock W g m) base (fun _ => True) v xs := by
 refine row_stay h (fun k hk => ?_)
 obtain ⟨cells, hc⟩ := row_cells h hk
 exact heap_setBlock_other hg _ (by rintro rfl; rw [hg] at hc; cases hc)
/-- The three bytes of a place, written down. -/
def addAt (G : Int → Int → Int → List Int) (l : List Int) (i : Nat) : Int → Int → Int → List Int := if l.length < i + 3 then G else upd3 G (l.getD i 0) (l.getD (i + 1) 0) (l.getD (i + 2) 0) (i : Int)
/-- What is neither the map nor a row of whole numbers stays. -/
def KeptT (w w' : World) (g : Nat) : Prop := w.heap.size ≤ w'.heap.size ∧ ∀ k, k < w.heap.size → k ≠ g → (∀ cs, w.heap[k]? ≠ some (.cells cs 3 (0, 0))) → w'.heap[k]? = w.heap[k]?
set_option maxHeartbeats 8000000 in
set_option maxRecDepth 100000 in
theorem seen_add (g n : Nat) (G : Int → Int → Int → List Int) (A0 : Option Addr) (c0 : Nat) (l0 : List Int) (i : Nat) (w0 w : World) (hB : Below w0.heap.size w0 w) (hS : Seen w w0.heap.size g n G)
  (hr0 : Kd.C (Kd.int .u8) w A0 l0.length l0) (hc0 : l0.length ≤ c0) (hw : ∀ x ∈ l0, (Lit.int .u8 x).wf = true) (hn : n + 1 ≤ 1000000) (hi : i < l0.length) (hl : l0.length ≤ 1000000) :
  Calls Try.prog 58 #[.map (some g), .slice A0 l0.length c0, .int .i64 i] w fun e w' => e = .returned (.tuple #[]) ∧ Seen w' w0.heap.size g (n + 1) (addAt G l0 i) ∧ Below w0.heap.size w0 w' ∧ KeptT w w' g := by
 have HS := Aside0.mk hS
 have HR := Aside0.mk hr0
 have HW := Aside0.mk hw
 have HB := Aside0.mk hB
 clear hS hr0 hw hB
 by_cases h3 : l0.length < i + 3
 ·go_enter Try.func58, Try.ntmps58
  go_wp2_with fail
  refine bodyPost_ret (results_none rfl _ _ _) rfl ?_
  refine ⟨rfl, ?_, HB.out, Nat.le_refl _, fun _ _ _ _ => rfl⟩
  unfold addAt
  rw [if_pos h3]
  obtain ⟨es, clock, hg, hb, hs, hsz, he, ha, hall, hlen⟩ := HS.out
  exact ⟨es, clock, hg, hb, hs, Nat.le_succ_of_le hsz, he, ha, hall, fun x y z => Nat.le_succ_of_le (hlen x y z)⟩
 ·obtain ⟨ad, e0, hx0⟩ := Kd.at_int HR.out (i : Int) (by omega) (by omega)
  obtain ⟨ad1, e1, hx1⟩ := Kd.at_int HR.out ((i : Int) + 1) (by omega) (by omega)
  obtain ⟨ad2, e2, hx2⟩ := Kd.at_int HR.out ((i : Int) + 2) (by omega) (by omega)
  subst e0
  injection e1 with e1
  injection e2 with e2
  subst e1 e2
  obtain ⟨j1, hj1⟩ : ∃ j : Nat, j = i + 1 := ⟨_, rfl⟩
  obtain ⟨j2, hj2⟩ : ∃ j : Nat, j = i + 2 := ⟨_, rfl⟩
  rw [Int.toNat_natCast] at hx0
  rw [show (i : Int) + 1 = (j1 : Int) from by omega, Int.toNat_natCast] at hx1
  rw [show (i : Int) + 2 = (j2 : Int) from by omega, Int.toNat_natCast] at hx2
  obtain ⟨x, ex⟩ : ∃ x, x = rd l0 (i : Int) := ⟨_, rfl⟩
  obtain ⟨y, ey⟩ : ∃ x, x = rd l0 (j1 : Int) := ⟨_, rfl⟩
  obtain ⟨z, ez⟩ : ∃ x, x = rd l0 (j2 : Int) := ⟨_, rfl⟩
  rw [← ex] at hx0
  rw [← ey] at hx1
  rw [← ez] at hx2
  have EX := Aside0.mk (And.intro ex (And.intro ey (And.intro ez (And.intro hj1 hj2))))
  clear ex ey ez
  have hb := below_alloc (Below.refl w.heap.size w) (.cells #[.int .u8 0, .int .u8 0, .int .u8 0] 109 (0, 0))
  have hxa0 := pw_cell_below hb hx0
  have hxa1 := pw_cell_below hb hx1
  have hxa2 := pw_cell_below hb hx2
  clear hb
  have f1 : IntKind.i64.wrap ((i : Int) + 1) = (j1 : Int) := by rw [IntWalk.i64_in _ (by omega)]; omega
  have f2 : IntKind.i64.wrap ((i : Int) + 2) = (j2 : Int) := by rw [IntWalk.i64_in _ (by omega)]; omega
  have f7 : (j1 : Int) < (l0.length : Int) := by omega
  have f8 : (j2 : Int) < (l0.length : Int) := by omega
  clear hj1 hj2
  go_enter Try.func58, Try.ntmps58
  go_wp2_with fail
  go_region_held3 (fun w' => w'.cell? (ad.add i) = some (.int .u8 x) ∧ w'.cell? (ad.add j1) = some (.int .u8 y) ∧ w'.cell? (ad.add j2) = some (.int .u8 z)) (first | exact ⟨hx0, hx1, hx2⟩ | exact ⟨hxa0, hxa1, hxa2⟩ | go_keep) (first | fail)
  obtain ⟨w1, hw1⟩ : ∃ w1, w1 = (w.alloc (.cells #[.int .u8 x, .int .u8 y, .int .u8 z] 109 (0, 0))).drew := ⟨_, rfl⟩
  have hb1 : Below w.heap.size w w1 := by rw [hw1]; exact (below_alloc (Below.refl _ _) _).drew
  have hk0 : w1.heap[w.heap.size]? = some (.cells #[.int .u8 x, .int .u8 y, .int .u8 z] 109 (0, 0)) := by rw [hw1]; exact blk_new w _
  have hsz1 : w1.heap.size = w.heap.size + 1 := by rw [hw1]; simp
  have hS1 := HS.out.below hb1
  have hwf := HW.out
  obtain ⟨ex, ey, ez, ej1, ej2⟩ := EX.out
  have hWF : WF3 x y z := by
   rw [ex, ey, ez]
   unfold rd
   rw [Int.toNat_natCast, Int.toNat_natCast, Int.toNat_natCast]
   refine ⟨hwf _ ?_, hwf _ ?_, hwf _ ?_⟩ <;> (rw [List.getD_eq_getElem?_getD, List.getElem?_eq_getElem (by omega)]; exact List.getElem_mem _)
  obtain ⟨v0, st, es1, clock1, hrunE, hr0, hback⟩ := seen_entry hS1 (Wb := w1.alloc (.cells #[.int .i64 (i : Int)] 3 (0, 0))) (below_alloc (Below.refl _ _) _) (by unfold maxLen; omega) hWF
  obtain ⟨es0, clock0, hg1, hbg, _, _, _, _, _, hlen⟩ := hS1
  have hglt := blk_lt hg1
  have hsw : setBlock (w1.alloc (.cells #[.int .i64 (i : Int)] 3 (0, 0))) g (.map es1 clock1) = (setBlock w1 g (.map es1 clock1)).alloc (.cells #[.int .i64 (i : Int)] 3 (0, 0)) := setBlock_alloc w1 g _ _ hglt
  have HX := Aside0.mk (And.intro hb1 (And.intro hr0 (And.intro hback (And.intro hg1 (And.intro hbg (And.intro (hlen x y z) (And.intro hglt (And.intro hsz1 hsw))))))))
  have hcx0 : w1.cell? ⟨w.heap.size, 0, none⟩ = some (.int .u8 x) := (blk_cell hk0 0).trans rfl
  have hcx1 : w1.cell? ⟨w.heap.size, 1, none⟩ = some (.int .u8 y) := (blk_cell hk0 1).trans rfl
  have hcx2 : w1.cell? ⟨w.heap.size, 2, none⟩ = some (.int .u8 z) := (blk_cell hk0 2).trans rfl
  rw [← hw1]
  unfold key3 at hrunE
  have hu57 := Try.underlying109
  clear hb1 hk0 hr0 hback hg1 hbg hlen hsz1 hsw hwf ex ey ez ej1 ej2 hWF hw1 f1 f2 f7 f8 hx0 hx1 hx2 hxa0 hxa1 hxa2
  go_wp2_with (at_builtin; go_must (rw [HX.out.2.2.2.2.2.2.2.2]; refine Kd.R_append (Kd.int .i64) (w0 := w0) w0.heap.size rfl (.tmp 29) (.tmp 31) 32 3 (.int .i64 0) 8 rfl Try.underlying32 info3 rfl (by decide) (by omega) v0 (G x y z) (i : Int) [.int .i64 (i : Int)] (fun _ => True) (fun _ => False) rfl (by rw [setBlock_size]; rfl) rfl (fun _ hk => hk.elim) (fun _ _ => trivial) (row_setBlock HX.out.2.2.2.1 HX.out.2.1) (below_setBlock (HB.out.trans (HX.out.1.mono HB.out.size)) HX.out.2.2.2.2.1) (by rw [setBlock_size]; exact Nat.le_trans HB.out.size HX.out.1.size) (by have := HX.out.2.2.2.2.2.1; omega) ?_; intro v1 w2 ho hb2 hg hat; (have hgr : ∀ k, k < w1.heap.size → k ≠ g → some k ≠ v0.ownBlock → w2.heap[k]? = w1.heap[k]? := fun k hk hkg hkv => (hg.block k (by rw [setBlock_size]; exact hk) hkv).trans (heap_setBlock_other HX.out.2.2.2.1 _ hkg)); (have hw2 : w2.heap[g]? = some (.map es1 clock1) := (hg.block g (by rw [setBlock_size]; exact HX.out.2.2.2.2.2.2.1) (fun e => by obtain ⟨cs, hc⟩ := row_cells HX.out.2.1 e.symm; rw [HX.out.2.2.2.1] at hc; cases hc)).trans (heap_setBlock_same HX.out.2.2.2.1 _)); (obtain ⟨es', clock', hrunS, hSeen⟩ := HX.out.2.2.1 w2 v1 (i : Int) hw2 hgr ho (by rw [setBlock_size] at hat; exact hat)); (have HY := Aside0.mk (And.intro hb2 (And.intro hgr (And.intro hw2 (And.intro hSeen (by have h_ := hg.size; rw [setBlock_size] at h_; exact h_ : w1.heap.size ≤ w2.heap.size))))));  (unfold goInt at hrunS); clear ho hb2 hg hat hgr hw2 hSeen hrunE))
  go_end0
  obtain ⟨hb1, hr0, _, hg1, hbg, _, hglt, hsz1, _⟩ := HX.out
  obtain ⟨hb2, hgr, hw2, hSeen, hsz2⟩ := HY.out
  have hlt2 : g < w2.heap.size := blk_lt hw2
  refine ⟨rfl, ?_, below_setBlock hb2 hbg, ?_, fun k hk hkg hkt => ?_⟩
  ·unfold addAt
   rw [if_neg h3]
   obtain ⟨ex, ey, ez, ej1, ej2⟩ := EX.out
   rw [ex, ey, ez] at hSeen
   unfold rd at hSeen
   rw [Int.toNat_natCast, Int.toNat_natCast, Int.toNat_natCast, ej1, ej2] at hSeen
   exact hSeen
  ·rw [setBlock_size]; omega
  ·have e1 : w1.heap[k]? = w.heap[k]? := hb1.block k hk
   rw [heap_setBlock_other hw2 _ hkg, hgr k (by omega) hkg ?_, e1]
   intro e
   obtain ⟨cs, hc⟩ := row_cells hr0 e.symm
   exact hkt cs (e1 ▸ hc)

/-! ### match_common: function 85 -/
def match_common.l0 : Nat → List Int → Int → Int → Int → Option (Int)
 | 0, _, _, _, _ => none
 | k + 1, x0, x1, x2, x7 => if x7 < 258 then (if (wrap64 (x2 + x7)) < (x0.length : Int) then (if 0 ≤ (wrap64 (x1 + x7)) then (if (wrap64 (x1 + x7)) < (x0.length : Int) then (if 0 ≤ (wrap64 (x2 + x7)) then (if (rd x0 (wrap64 (x1 + x7))) = (rd x0 (wrap64 (x2 + x7))) then (match_common.l0 k x0 x1 x2 (wrap64 (x7 + 1))) else (some x7)) else (none)) else (none)) else (none)) else (some x7)) else (some x7)
def match_common.f (k : Nat) (l0 : List Int) (a1 : Int) (a2 : Int) : Option (Int) := match_common.l0 k l0 a1 a2 0
set_option maxHeartbeats 8000000 in
set_option maxRecDepth 100000 in
theorem match_common.calls (k : Nat) (A0 : Option Addr) (c0 : Nat) (l0 : List Int) (a1 : Int) (a2 : Int) (r : Int) (w : World) (hr0 : Kd.C (Kd.int .u8) w A0 l0.length l0) (hc0 : l0.length ≤ c0) (h : match_common.f k l0 a1 a2 = some r) :
  Calls Try.prog 85 #[.slice A0 l0.length c0, .int .i64 a1, .int .i64 a2] w fun e w' => e = .returned (.int .i64 r) ∧ Drawn0 w w' := by
 have HR0 := Aside0.mk hr0
 have HC0 := Aside0.mk hc0
 clear hr0 hc0
 have H : (match_common.l0 k l0 a1 a2 0) = some r := h
 clear h
 have H' := Aside0.mk H
 clear H
 go_enter Try.func85, Try.ntmps85
 go_wp2
 repeat (go_quiet (fail); try go_wp2)
 go_loopg [7] k (fun kq v7 w' => ∃ (x7_1 : Int), v7 = .int .i64 x7_1 ∧ Aside0 (match_common.l0 kq l0 a1 a2 x7_1 = some r) ∧ Aside0 (kq ≤ k) ∧ Drawn0 w w')
 case atStart => exact ⟨(0), (by first | rfl | (simp; done) | (simp [*]; done)), H', ⟨Nat.le_refl _⟩, by repeat (first | exact Drawn0.refl _ | apply Drawn0.step)⟩
 case round =>
  clear H'
  try clear p2
  obtain ⟨x7_1, rfl, HA, HK1, ⟨m1, rfl⟩⟩ := hrel
  cases gk with
  | zero => exact absurd HA.out (by simp [match_common.l0])
  | succ k1 =>
   have H := HA.out
   clear HA
   simp only [match_common.l0] at H
   by_cases c4 : x7_1 < 258
   ·rw [if_pos c4] at H
    have c4b0 : decide (x7_1 < 258) = true := decide_eq_true c4
    clear c4
    by_cases c5 : (wrap64 (a2 + x7_1)) < (l0.length : Int)
    ·rw [if_pos c5] at H
     have c5b0 : decide ((wrap64 (a2 + x7_1)) < (l0.length : Int)) = true := decide_eq_true c5
     clear c5
     obtain ⟨ji6, hji6⟩ : ∃ j_ : Int, (wrap64 (a1 + x7_1)) = j_ := ⟨_, rfl⟩
     replace H : (if 0 ≤ (ji6) then (if (ji6) < (l0.length : Int) then (if 0 ≤ (wrap64 (a2 + x7_1)) then (if (rd l0 (ji6)) = (rd l0 (wrap64 (a2 + x7_1))) then (match_common.l0 k1 l0 a1 a2 (wrap64 (x7_1 + 1))) else (some x7_1)) else (none)) else (none)) else (none)) = some r := by first | (rw [hji6] at H; exact H) | (simp only [hji6] at H ⊢; exact H)
     have hji6w : (IntKind.i64.wrap (a1 + x7_1)) = ji6 := (i64_w _).trans hji6
     by_cases c7 : 0 ≤ (ji6)
     ·rw [if_pos c7] at H
      have c7b0 : decide (0 ≤ (ji6)) = true := decide_eq_true c7
      clear c7
      by_cases c8 : (ji6) < (l0.length : Int)
      ·rw [if_pos c8] at H
       have c8b0 : decide ((ji6) < (l0.length : Int)) = true := decide_eq_true c8
       clear c8
       obtain ⟨ji9, hji9⟩ : ∃ j_ : Int, (wrap64 (a2 + x7_1)) = j_ := ⟨_, rfl⟩
       replace H : (if 0 ≤ (ji9) then (if (rd l0 (ji6)) = (rd l0 (ji9)) then (match_common.l0 k1 l0 a1 a2 (wrap64 (x7_1 + 1))) else (some x7_1)) else (none)) = some r := by first | (rw [hji9] at H; exact H) | (simp only [hji9] at H ⊢; exact H)
       (try rw [hji9] at c5b0)
       have hji9w : (IntKind.i64.wrap (a2 + x7_1)) = ji9 := (i64_w _).trans hji9
       by_cases c10 : 0 ≤ (ji9)
       ·rw [if_pos c10] at H
        have c10b0 : decide (0 ≤ (ji9)) = true := decide_eq_true c10
        clear c10
        by_cases c11 : (rd l0 (ji6)) = (rd l0 (ji9))
        ·rw [if_pos c11] at H
         have c11b0 : ((rd l0 (ji6)) == (rd l0 (ji9))) = true := beq_iff_eq.mpr c11
         have c11b1 : ((rd l0 (ji6)) != (rd l0 (ji9))) = false := bne_eq_false_iff_eq.mpr c11
         clear c11
         have H' := Aside0.mk H
         clear H
         have p101 : 0 ≤ ((ji6) : Int) := of_decide_eq_true (by first | (with_reducible assumption) | assumption)
         have q101 : (ji6) < (l0.length : Int) := of_decide_eq_true (by first | (with_reducible assumption) | assumption)
         obtain ⟨ad101, e101, hx101_0⟩ := Kd.at_int HR0.out (ji6) p101 q101
         cases e101
         replace p101 := eq_true p101
         replace q101 := eq_true q101
         have p102 : 0 ≤ ((ji9) : Int) := of_decide_eq_true (by first | (with_reducible assumption) | assumption)
         have q102 : (ji9) < (l0.length : Int) := of_decide_eq_true (by first | (with_reducible assumption) | assumption)
         obtain ⟨ad102, e102, hx102_0⟩ := Kd.at_int HR0.out (ji9) p102 q102
         obtain rfl : ad101 = ad102 := (by injection e102)
         replace p102 := eq_true p102
         replace q102 := eq_true q102
         go_wp2
         repeat (go_quiet (fail); try go_wp2)
         go_roundg k1
         case measure => have := HK1.out; omega
         case rel => exact ⟨(wrap64 (x7_1 + 1)), (by first | rfl | (simp; done) | (simp [*]; done)), H', ⟨by have := HK1.out; omega⟩, by repeat (first | exact Drawn0.refl _ | apply Drawn0.step)⟩
        ·rw [if_neg c11] at H
         have c11b0 : ((rd l0 (ji6)) == (rd l0 (ji9))) = false := beq_eq_false_iff_ne.mpr c11
         have c11b1 : ((rd l0 (ji6)) != (rd l0 (ji9))) = true := bne_iff_ne.mpr c11
         obtain rfl := Option.some.inj H
         have p101 : 0 ≤ ((ji6) : Int) := of_decide_eq_true (by first | (with_reducible assumption) | assumption)
         have q101 : (ji6) < (l0.length : Int) := of_decide_eq_true (by first | (with_reducible assumption) | assumption)
         obtain ⟨ad101, e101, hx101_0⟩ := Kd.at_int HR0.out (ji6) p101 q101
         cases e101
         replace p101 := eq_true p101
         replace q101 := eq_true q101
         have p102 : 0 ≤ ((ji9) : Int) := of_decide_eq_true (by first | (with_reducible assumption) | assumption)
         have q102 : (ji9) < (l0.length : Int) := of_decide_eq_true (by first | (with_reducible assumption) | assumption)
         obtain ⟨ad102, e102, hx102_0⟩ := Kd.at_int HR0.out (ji9) p102 q102
         obtain rfl : ad101 = ad102 := (by injection e102)
         replace p102 := eq_true p102
         replace q102 := eq_true q102
         go_wp2
         repeat (go_quiet (fail); try go_wp2)
         go_ret
         exact ⟨by first | rfl | (simp; done) | (simp only [← hji6, ← hji9] <;> (first | rfl | simp)) | (simp [*]; done), by repeat (first | exact Drawn0.refl _ | apply Drawn0.step)⟩
       ·rw [if_neg c10] at H
        exact absurd H (by simp)
      ·rw [if_neg c8] at H
       exact absurd H (by simp)
     ·rw [if_neg c7] at H
      exact absurd H (by simp)
    ·rw [if_neg c5] at H
     have c5b0 : decide ((wrap64 (a2 + x7_1)) < (l0.length : Int)) = false := decide_eq_false c5
     clear c5
     obtain rfl := Option.some.inj H
     go_wp2
     repeat (go_quiet (fail); try go_wp2)
     go_ret
     exact ⟨by first | rfl | (simp; done) | (simp [*]; done), by repeat (first | exact Drawn0.refl _ | apply Drawn0.step)⟩
   ·rw [if_neg c4] at H
    have c4b0 : decide (x7_1 < 258) = false := decide_eq_false c4
    clear c4
    obtain rfl := Option.some.inj H
    go_wp2
    repeat (go_quiet (fail); try go_wp2)
    go_ret
    exact ⟨by first | rfl | (simp; done) | (simp [*]; done), by repeat (first | exact Drawn0.refl _ | apply Drawn0.step)⟩

/-! ### match_seen_best: function 57 (by hand) -/
/-- For how many bytes, at most so many more, two places go alike. -/
def comF (l : List Int) (p i : Nat) : Nat → Nat → Nat
 | 0, n => n
 | f + 1, n => if i + n < l.length ∧ l.getD (p + n) 0 = l.getD (i + n) 0 then comF l p i f (n + 1) else n
def com (l : List Int) (p i : Nat) : Nat := comF l p i 258 0
theorem comF_le (l : List Int) (p i : Nat) : ∀ f n, comF l p i f n ≤ n + f
 | 0, n => by simp [comF]
 | f + 1, n => by
  simp only [comF]
  split
  ·have := comF_le l p i f (n + 1); omega
  ·omega
theorem com_le (l : List Int) (p i : Nat) : com l p i ≤ 258 := by have := comF_le l p i 258 0; unfold com; omega
theorem common_loop (l : List Int) (p i : Nat) (hp : p ≤ i) (hl : l.length ≤ 1000000) (hi : i ≤ 1000000) : ∀ (f n k : Nat), n + f = 258 → f < k → match_common.l0 k l (p : Int) (i : Int) (n : Int) = some ((comF l p i f n : Nat) : Int) := by
 have wi : ∀ a : Int, 0 ≤ a → a ≤ 3000000 → wrap64 a = a := fun a h0 h1 => by unfold wrap64; omega
 intro f
 induction f with
 | zero =>
  intro n k hn hk
  obtain ⟨k, rfl⟩ : ∃ m, k = m + 1 := ⟨k - 1, by omega⟩
  simp only [match_common.l0, comF]
  rw [if_neg (by omega)]
 | succ f ih =>
  intro n k hn hk
  obtain ⟨k, rfl⟩ : ∃ m, k = m + 1 := ⟨k - 1, by omega⟩
  simp only [match_common.l0, comF]
  rw [if_pos (by omega), wi _ (by omega) (by omega)]
  by_cases h1 : i + n < l.length
  ·rw [if_pos (by omega), wi _ (by omega) (by omega), if_pos (by omega), if_pos (by omega), if_pos (by omega), show (p : Int) + (n : Int) = ((p + n : Nat) : Int) from by omega, show (i : Int) + (n : Int) = ((i + n : Nat) : Int) from by omega]
   unfold rd
   rw [Int.toNat_natCast, Int.toNat_natCast, wi _ (by omega) (by omega), show (n : Int) + 1 = ((n + 1 : Nat) : Int) from by omega]
   by_cases h2 : l.getD (p + n) 0 = l.getD (i + n) 0
   ·rw [if_pos h2, if_pos ⟨h1, h2⟩]
    exact ih (n + 1) k (by omega) (by omega)
   ·rw [if_neg h2, if_neg (fun h => h2 h.2)]
  ·rw [if_neg (by omega), if_neg (fun h => h1 h.1)]
theorem common_is (l : List Int) (p i : Nat) (hp : p ≤ i) (hl : l.length ≤ 1000000) (hi : i ≤ 1000000) : match_common.f 300 l (p : Int) (i : Int) = some ((com l p i : Nat) : Int) := common_loop l p i hp hl hi 258 0 300 rfl (by omega)
/-- The longest piece among these places, the nearest first. -/
def pick (l : List Int) (i : Nat) : List Int → Nat × Nat → Nat × Nat
 | [], a => a
 | p :: ps, a => if (i : Int) - p ≤ 2048 then (if com l p.toNat i > a.1 then pick l i ps (com l p.toNat i, i - p.toNat) else pick l i ps a) else a
def bestL (G : Int → Int → Int → List Int) (l : List Int) (i : Nat) : Nat × Nat := if l.length < i + 3 then (0, 0) else pick l i (G (l.getD i 0) (l.getD (i + 1) 0) (l.getD (i + 2) 0)).reverse (0, 0)
set_option maxHeartbeats 8000000 in
set_option maxRecDepth 100000 in
theorem seen_best (g n base : Nat) (G : Int → Int → Int → List Int) (A0 : Option Addr) (c0 : Nat) (l0 : List Int) (i : Nat) (w : World) (hS : Seen w base g n G)
  (hr0 : Kd.C (Kd.int .u8) w A0 l0.length l0) (hc0 : l0.length ≤ c0) (hw : ∀ x ∈ l0, (Lit.int .u8 x).wf = true) (hn : n + 1 ≤ 1000000) (hi : i < l0.length) (hl : l0.length ≤ 1000000)
  (hG : ∀ x y z p, p ∈ G x y z → 0 ≤ p ∧ p < i) :
  Calls Try.prog 57 #[.map (some g), .slice A0 l0.length c0, .int .i64 i] w fun e w' => e = .returned (.tuple #[.int .i64 ((bestL G l0 i).1 : Int), .int .i64 ((bestL G l0 i).2 : Int)]) ∧ Below w.heap.size w w' := by
 have HS := Aside0.mk hS
 have HR := Aside0.mk hr0
 have HW := Aside0.mk hw
 have HG := Aside0.mk hG
 have HC := Aside0.mk hc0
 clear hS hr0 hw hG hc0
 by_cases h3 : l0.length < i + 3
 ·go_enter Try.func57, Try.ntmps57
  go_wp2_with fail
  go_ret2
  unfold bestL
  rw [if_pos h3]
  exact ⟨rfl, Below.refl _ _⟩
 ·obtain ⟨ad, e0, hx0⟩ := Kd.at_int HR.out (i : Int) (by omega) (by omega)
  obtain ⟨ad1, e1, hx1⟩ := Kd.at_int HR.out ((i : Int) + 1) (by omega) (by omega)
  obtain ⟨ad2, e2, hx2⟩ := Kd.at_int HR.out ((i : Int) + 2) (by omega) (by omega)
  subst e0
  injection e1 with e1
  injection e2 with e2
  subst e1 e2
  obtain ⟨j1, hj1⟩ : ∃ j : Nat, j = i + 1 := ⟨_, rfl⟩
  obtain ⟨j2, hj2⟩ : ∃ j : Nat, j = i + 2 := ⟨_, rfl⟩
  rw [Int.toNat_natCast] at hx0
  rw [show (i : Int) + 1 = (j1 : Int) from by omega, Int.toNat_natCast] at hx1
  rw [show (i : Int) + 2 = (j2 : Int) from by omega, Int.toNat_natCast] at hx2
  obtain ⟨x, ex⟩ : ∃ x, x = rd l0 (i : Int) := ⟨_, rfl⟩
  obtain ⟨y, ey⟩ : ∃ x, x = rd l0 (j1 : Int) := ⟨_, rfl⟩
  obtain ⟨z, ez⟩ : ∃ x, x = rd l0 (j2 : Int) := ⟨_, rfl⟩
  rw [← ex] at hx0
  rw [← ey] at hx1
  rw [← ez] at hx2
  have hwf := HW.out
  have hWF : WF3 x y z := by
   rw [ex, ey, ez]
   unfold rd
   rw [Int.toNat_natCast, Int.toNat_natCast, Int.toNat_natCast]
   refine ⟨hwf _ ?_, hwf _ ?_, hwf _ ?_⟩ <;> (rw [List.getD_eq_getElem?_getD, List.getElem?_eq_getElem (by omega)]; exact List.getElem_mem _)
  have hd1 : Below w.heap.size w w.drew := (Below.refl _ _).drew
  obtain ⟨Ap, cp, hrunL, hcp, hCp⟩ := seen_look HS.out (by unfold maxLen; omega) hWF
  have hrunL0 := hrunL w (Below.refl _ _)
  have hrunL1 := hrunL w.drew hd1
  unfold key3 at hrunL0 hrunL1
  have HX := Aside0.mk (And.intro ex (And.intro ey (And.intro ez (And.intro hj1 (And.intro hj2 (And.intro hCp hcp))))))
  have hu57 := Try.underlying109
  have hP := HG.out x y z
  have hPn : (G x y z).length ≤ 1000000 := by
   obtain ⟨es, clock, hg, hb, hs, hsz, he, ha, hall, hlen⟩ := HS.out
   exact Nat.le_trans (hlen x y z) (by omega)
  generalize hPP : G x y z = P at *
  have HPP := Aside0.mk hPP
  have HP := Aside0.mk hP
  have f1 : IntKind.i64.wrap ((i : Int) + 1) = (j1 : Int) := by rw [IntWalk.i64_in _ (by omega)]; omega
  have f2 : IntKind.i64.wrap ((i : Int) + 2) = (j2 : Int) := by rw [IntWalk.i64_in _ (by omega)]; omega
  have f7 : (j1 : Int) < (l0.length : Int) := by omega
  have f8 : (j2 : Int) < (l0.length : Int) := by omega
  clear ex ey ez hj1 hj2 hwf hWF hd1 hrunL hCp hcp hP hPP
  go_enter Try.func57, Try.ntmps57
  go_wp2_with fail
  go_region_held3 (fun w' => w'.cell? (ad.add i) = some (.int .u8 x) ∧ w'.cell? (ad.add j1) = some (.int .u8 y) ∧ w'.cell? (ad.add j2) = some (.int .u8 z)) (first | exact ⟨hx0, hx1, hx2⟩ | go_keep) (first | fail)
  have hb0 := Aside0.mk ((Below.refl w.heap.size w).drew)
  have hF : Aside0 (pick l0 i (P.take P.length).reverse (0, 0) = bestL G l0 i) := ⟨by
   obtain ⟨ex, ey, ez, ej1, ej2, _⟩ := HX.out
   unfold rd at ex ey ez
   rw [Int.toNat_natCast] at ex ey ez
   unfold bestL
   rw [if_neg h3, List.take_length, ← HPP.out, ex, ey, ez, ej1, ej2]⟩
  clear hrunL0 hrunL1 hx0 hx1 hx2 f1 f2 f7 f8 hu57
  go_wp2_with fail
  go_loopg [6, 7, 9] P.length (fun kq v6 v7 v9 w' => ∃ (n1 d1 m : Nat), v6 = .int .i64 n1 ∧ v7 = .int .i64 d1 ∧ v9 = .int .i64 ((m : Int) - 1) ∧ n1 ≤ 258 ∧ m ≤ P.length ∧ Aside0 (kq = m) ∧ Aside0 (pick l0 i (P.take m).reverse (n1, d1) = bestL G l0 i) ∧ Aside0 (Below w.heap.size w w'))
  case atStart => exact ⟨0, 0, P.length, rfl, rfl, by go_num, by omega, Nat.le_refl _, ⟨rfl⟩, hF, hb0⟩
  case round =>
   clear hb0 hF
   obtain ⟨n1, d1, m, rfl, rfl, rfl, hn1, hm, HK, HF, HB⟩ := hrel
   cases m with
   | zero =>
    go_wp2_with fail
    go_ret2
    have := HF.out
    simp only [List.take_zero, List.reverse_nil, pick] at this
    rw [← this]
    exact ⟨rfl, HB.out⟩
   | succ m =>
    rw [show (((m + 1 : Nat) : Int) - 1) = (m : Int) from by omega]
    obtain ⟨ap, ea, hxp⟩ := Kd.at_int (Kd.C_below HX.out.2.2.2.2.2.1 HB.out) (m : Int) (by omega) (by omega)
    subst ea
    rw [Int.toNat_natCast] at hxp
    obtain ⟨p, ep⟩ : ∃ p, p = rd P (m : Int) := ⟨_, rfl⟩
    rw [← ep] at hxp
    have hpm : p ∈ P := by
     rw [ep]; unfold rd
     rw [Int.toNat_natCast, List.getD_eq_getElem?_getD, List.getElem?_eq_getElem (by omega)]
     exact List.getElem_mem _
    obtain ⟨hp0, hp1⟩ := HP.out p hpm
    obtain ⟨p, rfl⟩ := Int.eq_ofNat_of_zero_le hp0
    have htake : Aside0 ((P.take (m + 1)).reverse = (p : Int) :: (P.take m).reverse) := ⟨by
     rw [List.take_succ_eq_append_getElem (by omega), List.reverse_append, List.reverse_singleton, ep]
     unfold rd
     rw [Int.toNat_natCast, List.getD_eq_getElem?_getD, List.getElem?_eq_getElem (by omega)]
     rfl⟩
    have EP := Aside0.mk ep
    clear ep hpm
    by_cases hd : (i : Int) - (p : Int) ≤ 2048
    ·have hcc := com_le l0 p i
     have hcom := Aside0.mk (common_is l0 p i (by omega) hl (by omega))
     obtain ⟨c, ec⟩ : ∃ c, c = com l0 p i := ⟨_, rfl⟩
     rw [← ec] at hcc hcom
     have EC := Aside0.mk ec
     clear ec
     go_wp2_with fail
     refine (match_common.calls 300 _ _ l0 (p : Int) (i : Int) (c : Int) wr (Kd.C_below HR.out HB.out) HC.out hcom.out).mono ?_
     rintro e1 w2 ⟨rfl, hdr⟩
     have HB2 := Aside0.mk (HB.out.trans (hdr.below.mono HB.out.size))
     obtain ⟨ap2, ea2, hxp2⟩ := Kd.at_int (Kd.C_below HX.out.2.2.2.2.2.1 HB2.out) (m : Int) (by omega) (by omega)
     injection ea2 with ea2
     subst ea2
     rw [Int.toNat_natCast] at hxp2
     rw [show rd P (m : Int) = (p : Int) from EP.out.symm] at hxp2
     by_cases hgt : n1 < c
     ·go_wp2_with fail
      go_region
      go_wp2_with fail
      go_roundg m
      case measure => have := HK.out; omega
      case rel =>
       refine ⟨c, i - p, m, rfl, ?_, rfl, hcc, by omega, ⟨rfl⟩, ⟨?_⟩, ⟨HB2.out.drew⟩⟩
       ·go_num
       ·rw [← HF.out, htake.out]
        simp only [pick]
        rw [if_pos hd, Int.toNat_natCast, ← EC.out, if_pos hgt]
     ·go_wp2_with fail
      go_roundg m
      case measure => have := HK.out; omega
      case rel =>
       refine ⟨n1, d1, m, rfl, rfl, rfl, hn1, by omega, ⟨rfl⟩, ⟨?_⟩, HB2⟩
       rw [← HF.out, htake.out]
       simp only [pick]
       rw [if_pos hd, Int.toNat_natCast, ← EC.out, if_neg hgt]
    ·go_wp2_with fail
     go_ret2
     have := HF.out
     rw [htake.out] at this
     simp only [pick] at this
     rw [if_neg (by omega)] at this
     rw [← this]
     exact ⟨rfl, HB.out⟩
/-- The places that were noted, of the first so many. -/
def noted (l : List Int) : Nat → (Int → Int → Int → List Int)
 | 0 => fun _ _ _ => []
 | i + 1 => addAt (noted l i) l i
theorem noted_lt (l : List Int) : ∀ i x y z p, p ∈ noted l i x y z → 0 ≤ p ∧ p < (i : Int)
 | 0, x, y, z, p, h => by simp [noted] at h
 | i + 1, x, y, z, p, h => by
  simp only [noted, addAt] at h
  split at h
  ·have := noted_lt l i x y z p h; omega
  ·unfold upd3 at h
   split at h
   ·rcases List.mem_append.1 h with h | h
    ·have := noted_lt l i _ _ _ p h; omega
    ·have := List.mem_singleton.1 h; omega
   ·have := noted_lt l i x y z p h; omega

/-! ### match_Tokens: function 33 (by hand) -/
theorem comF_len (l : List Int) (p i : Nat) : ∀ f n, i + n ≤ l.length → i + comF l p i f n ≤ l.length
 | 0, n, h => by simpa [comF] using h
 | f + 1, n, h => by
  simp only [comF]
  split
  ·rename_i h1
   exact comF_len l p i f (n + 1) (by omega)
  ·exact h
theorem pick_len (l : List Int) (i : Nat) (hi : i ≤ l.length) : ∀ ps a, a.1 ≤ 258 ∧ i + a.1 ≤ l.length → (pick l i ps a).1 ≤ 258 ∧ i + (pick l i ps a).1 ≤ l.length
 | [], a, h => h
 | p :: ps, a, h => by
  simp only [pick]
  split
  ·split
   ·exact pick_len l i hi ps _ ⟨com_le l _ i, comF_len l _ i 258 0 (by omega)⟩
   ·exact pick_len l i hi ps _ h
  ·exact h
theorem bestL_len (G : Int → Int → Int → List Int) (l : List Int) (i : Nat) (hi : i ≤ l.length) : (bestL G l i).1 ≤ 258 ∧ i + (bestL G l i).1 ≤ l.length := by
 unfold bestL
 split
 ·exact ⟨by simp, by simpa using hi⟩
 ·exact pick_len l i hi _ _ ⟨by simp, by simpa using hi⟩
/-- The tokens from a place on. -/
def toks (l : List Int) : Nat → Nat → List S53
 | 0, _ => []
 | f + 1, i => if i < l.length then (if (bestL (noted l i) l i).1 = 0 then ⟨l.getD i 0, 0, 0⟩ :: toks l f (i + 1) else ⟨0, ((bestL (noted l i) l i).1 : Int), ((bestL (noted l i) l i).2 : Int)⟩ :: toks l f (i + (bestL (noted l i) l i).1)) else []
theorem toks_fuel (l : List Int) : ∀ f f' i, l.length ≤ i + f → l.length ≤ i + f' → toks l f i = toks l f' i := by
 intro f
 induction f with
 | zero =>
  intro f' i h h'
  cases f' with
  | zero => rfl
  | succ f' => simp only [toks]; rw [if_neg (by omega)]
 | succ f ih =>
  intro f' i h h'
  cases f' with
  | zero => simp only [toks]; rw [if_neg (by omega)]
  | succ f' =>
   simp only [toks]
   split
   ·split
    ·rw [ih f' (i + 1) (by omega) (by omega)]
    ·rw [ih f' _ (by omega) (by omega)]
   ·rfl
def match_Tokens.f (l0 : List Int) : Option (List S53 × Int) :=
 if l0.all (fun x => (Lit.int .u8 x).wf) = true then (if (l0.length : Int) > 4096 then some ([], 2) else some (toks l0 l0.length 0, 0)) else none
theorem out_stay {w w' : World} {base g : Nat} {es : Array MapEntry} {clock : Nat} {v : Value} {xs : List S53} (h : Kd.R k53 53 w base (fun _ => True) v xs) (hg : w.heap[g]? = some (.map es clock)) (hk : KeptT w w' g) : Kd.R k53 53 w' base (fun _ => True) v xs := by
 refine Kd.R_mono (Kd.R_move (Kd.R_bound h) (fun k hk' => ?_)) (fun _ _ => trivial)
 obtain ⟨_, _, hlt, q, hq, cs, hc⟩ := hk'
 have hq40 : q = 53 := by simpa [k53, Kd.iso, Kd.pair, Kd.int, Kd.scalar] using hq
 subst hq40
 exact hk.2 k hlt (by rintro rfl; rw [hg] at hc; cases hc) (fun cs' hc' => by rw [hc] at hc'; injection hc' with hc'; injection hc' with _ hc'; cases hc')
theorem seen_grown {W w' : World} {base g n : Nat} {G : Int → Int → Int → List Int} {v : Value} {xs : List S53} (h : Seen W base g n G) (ho : Kd.R k53 53 W base (fun _ => True) v xs) (hg : W.grownBy w' v.ownBlock) : Seen w' base g n G := by
 obtain ⟨es, clock, hgm, _⟩ := id h
 refine h.stay (fun k hb hlt hk => hg.block k hlt (fun e => ?_))
 obtain ⟨inner, how⟩ := Kd.R_own ho
 obtain ⟨cs, hc⟩ := own_typed how k e.symm
 rcases hk with rfl | ⟨cs', hc'⟩
 ·rw [hgm] at hc; cases hc
 ·rw [hc] at hc'; injection hc' with hc'; injection hc' with _ hc'; cases hc'
set_option maxHeartbeats 8000000 in
set_option maxRecDepth 100000 in
theorem match_Tokens.calls (A0 : Option Addr) (c0 : Nat) (l0 : List Int) (r1 : List (S53)) (r2 : Int) (w : World) (hr0 : Kd.C (Kd.int .u8) w A0 l0.length l0) (hc0 : l0.length ≤ c0) (h : match_Tokens.f l0 = some (r1, r2)) :
  Calls Try.prog 33 #[.slice A0 l0.length c0] w fun e w' => ∃ v0_ : Value, e = .returned (.tuple #[v0_, .int .i64 r2]) ∧ Kd.R k53 53 w' w.heap.size (fun _ => True) v0_ r1 ∧ Below w.heap.size w w' := by
 unfold match_Tokens.f at h
 by_cases hwf : l0.all (fun x => (Lit.int .u8 x).wf) = true
 ·rw [if_pos hwf] at h
  have hw : ∀ x ∈ l0, (Lit.int .u8 x).wf = true := fun x hx => List.all_eq_true.1 hwf x hx
  have HW := Aside0.mk hw
  have HR := Aside0.mk hr0
  have HC := Aside0.mk hc0
  clear hwf hw hr0 hc0
  have hmm := @run_makeMap Try.prog
  have hu40 := Try.underlying53
  by_cases h2 : (l0.length : Int) > 4096
  ·rw [if_pos h2] at h
   simp only [Option.some.injEq, Prod.mk.injEq] at h
   obtain ⟨rfl, rfl⟩ := h
   go_enter Try.func33, Try.ntmps33
   go_wp2_with fail
   go_ret2
   exact ⟨_, rfl, Kd.R_nil _ _ _ _ _, Below.refl _ _⟩
  ·rw [if_neg h2] at h
   simp only [Option.some.injEq, Prod.mk.injEq] at h
   obtain ⟨rfl, rfl⟩ := h
   have hl : l0.length ≤ 4096 := by omega
   have HS := Aside0.mk (seen_made w w.heap.size (Nat.le_refl _))
   have HB := Aside0.mk (below_alloc (Below.refl w.heap.size w) (.map #[] 0))
   have HO := Aside0.mk (Kd.R_nil k53 53 (w.alloc (.map #[] 0)) w.heap.size (fun _ => True))
   go_enter Try.func33, Try.ntmps33
   go_wp2_with fail
   go_loopg [4, 6] l0.length (fun kq v4 v6 w' => ∃ (i : Nat) (out : List S53), v6 = .int .i64 i ∧ i ≤ l0.length ∧ Aside0 (kq + i = l0.length) ∧ Aside0 (out ++ toks l0 l0.length i = toks l0 l0.length 0) ∧ Aside0 (out.length ≤ i) ∧ Aside0 (Seen w' w.heap.size w.heap.size i (noted l0 i)) ∧ Aside0 (Kd.R k53 53 w' w.heap.size (fun _ => True) v4 out) ∧ Aside0 (Below w.heap.size w w'))
   case atStart => exact ⟨0, [], rfl, Nat.zero_le _, ⟨rfl⟩, ⟨rfl⟩, ⟨Nat.le_refl _⟩, HS, HO, HB⟩
   case round =>
    clear HS HB HO
    obtain ⟨i, out, rfl, hi, HK, HT, HN, HS, HO, HB⟩ := hrel
    obtain ⟨Ao, co, rfl⟩ := Kd.R_slice HO.out
    by_cases hlt : i < l0.length
    ·go_wp2_with fail
     refine (seen_best w.heap.size i w.heap.size (noted l0 i) _ _ l0 i wr HS.out (Kd.C_below HR.out HB.out) HC.out HW.out (by omega) (by omega) (by omega) (fun x y z p => noted_lt l0 i x y z p)).mono ?_
     rintro e1 w2 ⟨rfl, hb2⟩
     obtain ⟨n, en⟩ : ∃ n, n = (bestL (noted l0 i) l0 i).1 := ⟨_, rfl⟩
     obtain ⟨d, ed⟩ : ∃ d, d = (bestL (noted l0 i) l0 i).2 := ⟨_, rfl⟩
     have hbl := bestL_len (noted l0 i) l0 i (by omega)
     rw [← en] at hbl
     rw [← en, ← ed]
     have EN := Aside0.mk (And.intro en ed)
     have HS2 := Aside0.mk (HS.out.below hb2)
     have HO2 := Aside0.mk (Kd.R_below HO.out hb2)
     have HB2 := Aside0.mk (HB.out.trans (hb2.mono HB.out.size))
     clear en ed hb2 HS HO HB
     by_cases hn0 : n = 0
     ·have hb0 : ((n : Int) == 0) = true := by rw [beq_iff_eq]; omega
      obtain ⟨ad, e0, hx0⟩ := Kd.at_int (Kd.C_below HR.out HB2.out) (i : Int) (by omega) (by omega)
      subst e0
      rw [Int.toNat_natCast] at hx0
      obtain ⟨x, ex⟩ : ∃ x, x = l0.getD i 0 := ⟨_, rfl⟩
      rw [show rd l0 (i : Int) = x from by rw [ex]; unfold rd; rw [Int.toNat_natCast]] at hx0
      have EX := Aside0.mk ex
      clear ex
      have EN0 := Aside0.mk hn0
      have hxa := pw_cell_below (below_alloc (Below.refl w2.heap.size w2) (.cells #[.int .u8 0, .int .i64 (n : Int), .int .i64 (d : Int)] 53 (0, 0))) hx0
      clear hn0
      go_wp2_with (at_builtin; go_must (refine Kd.R_append k53 (w0 := w) w.heap.size rfl (.tmp 35) (.tmp 37) 45 53 (.agg #[.int .u8 0, .int .i64 0, .int .i64 0]) 24 rfl Try.underlying45 info53 rfl (by decide) (by omega) (.slice Ao out.length co) out ⟨x, 0, 0⟩ [.int .u8 x, .int .i64 0, .int .i64 0] (fun _ => True) (fun _ => False) (by first | rfl | (simp; done) | (simp; rfl) | done) (by first | rfl | (simp [alloc_heap_size]; done) | (simp; rfl) | done) (k53_mkM _ _ _ ⟨x, 0, 0⟩) (fun _ hk => hk.elim) (fun _ _ => trivial) (Kd.R_alloc HO2.out _) (below_alloc HB2.out _) (below_size (below_alloc HB2.out _)) (by have := HN.out; omega) ?_; intro v1 w3 ho3 hb3 hg3 hat3; (have HS3 := Aside0.mk (seen_grown (HS2.out.below (below_alloc (Below.refl _ _) _)) (Kd.R_alloc HO2.out _) hg3)); (have HO3 := Aside0.mk ho3); (have HB3 := Aside0.mk hb3); clear ho3 hb3 hg3 hat3 HS2 HO2 HB2))
      go_loopg [6, 40] 1 (fun kq v6 v40 w' => ∃ j : Nat, v6 = .int .i64 ((i + j : Nat) : Int) ∧ v40 = .int .i64 j ∧ j ≤ 1 ∧ Aside0 (kq + j = 1) ∧ Aside0 (Seen w' w.heap.size w.heap.size (i + j) (noted l0 (i + j))) ∧ Aside0 (Kd.R k53 53 w' w.heap.size (fun _ => True) v1 (out ++ [⟨x, 0, 0⟩])) ∧ Aside0 (Below w.heap.size w w'))
      case atStart => exact ⟨0, by go_num, by go_num, by omega, ⟨rfl⟩, HS3, HO3, HB3⟩
      case round =>
       clear HS3 HO3 HB3
       obtain ⟨j, rfl, rfl, hj, HK2, HS, HO, HB⟩ := hrel
       by_cases hlt2 : j < 1
       ·go_wp2_with fail
        refine (seen_add w.heap.size (i + j) (noted l0 (i + j)) _ _ l0 (i + j) w _ HB.out HS.out (Kd.C_below HR.out HB.out) HC.out HW.out (by omega) (by omega) (by omega)).mono ?_
        rintro e1 w4 ⟨rfl, hs4, hb4, hk4⟩
        have HS4 := Aside0.mk hs4
        have HB4 := Aside0.mk hb4
        have HO4 : Aside0 (Kd.R k53 53 w4 w.heap.size (fun _ => True) v1 (out ++ [⟨x, 0, 0⟩])) := ⟨by
         obtain ⟨es, clock, hgm, _⟩ := HS.out
         exact out_stay HO.out hgm hk4⟩
        clear hs4 hb4 hk4 HS HB HO
        go_wp2_with fail
        go_roundg (1 - (j + 1))
        case measure => have := HK2.out; omega
        case rel => exact ⟨j + 1, by go_num, by go_num, by omega, ⟨by omega⟩, HS4, HO4, HB4⟩
       ·obtain rfl : j = 1 := by omega
        go_wp2_with fail
        go_roundg (l0.length - (i + 1))
        case measure => have := HK.out; omega
        case rel =>
         refine ⟨i + 1, (out ++ [⟨x, 0, 0⟩]), rfl, by omega, ⟨by omega⟩, ⟨?_⟩, ⟨by have := HN.out; simp; omega⟩, HS, HO, HB⟩
         rw [← HT.out, List.append_assoc]
         congr 1
         rw [toks_fuel l0 l0.length (l0.length + 1) i (by omega) (by omega)]
         simp only [toks]
         rw [if_pos hlt, if_pos (EN.out.1 ▸ EN0.out), EX.out]; rfl
     ·have hb0 : ((n : Int) == 0) = false := by rw [beq_eq_false_iff_ne]; omega
      go_wp2_with (at_builtin; go_must (refine Kd.R_append k53 (w0 := w) w.heap.size rfl (.tmp 35) (.tmp 37) 45 53 (.agg #[.int .u8 0, .int .i64 0, .int .i64 0]) 24 rfl Try.underlying45 info53 rfl (by decide) (by omega) (.slice Ao out.length co) out ⟨0, (n : Int), (d : Int)⟩ [.int .u8 0, .int .i64 (n : Int), .int .i64 (d : Int)] (fun _ => True) (fun _ => False) (by first | rfl | (simp; done) | (simp; rfl) | done) (by first | rfl | (simp [alloc_heap_size]; done) | (simp; rfl) | done) (k53_mkM _ _ _ ⟨0, (n : Int), (d : Int)⟩) (fun _ hk => hk.elim) (fun _ _ => trivial) (Kd.R_alloc HO2.out _) (below_alloc HB2.out _) (below_size (below_alloc HB2.out _)) (by have := HN.out; omega) ?_; intro v1 w3 ho3 hb3 hg3 hat3; (have HS3 := Aside0.mk (seen_grown (HS2.out.below (below_alloc (Below.refl _ _) _)) (Kd.R_alloc HO2.out _) hg3)); (have HO3 := Aside0.mk ho3); (have HB3 := Aside0.mk hb3); clear ho3 hb3 hg3 hat3 HS2 HO2 HB2))
      go_loopg [6, 40] n (fun kq v6 v40 w' => ∃ j : Nat, v6 = .int .i64 ((i + j : Nat) : Int) ∧ v40 = .int .i64 j ∧ j ≤ n ∧ Aside0 (kq + j = n) ∧ Aside0 (Seen w' w.heap.size w.heap.size (i + j) (noted l0 (i + j))) ∧ Aside0 (Kd.R k53 53 w' w.heap.size (fun _ => True) v1 (out ++ [⟨0, (n : Int), (d : Int)⟩])) ∧ Aside0 (Below w.heap.size w w'))
      case atStart => exact ⟨0, by go_num, by go_num, by omega, ⟨rfl⟩, HS3, HO3, HB3⟩
      case round =>
       clear HS3 HO3 HB3
       obtain ⟨j, rfl, rfl, hj, HK2, HS, HO, HB⟩ := hrel
       by_cases hlt2 : j < n
       ·go_wp2_with fail
        refine (seen_add w.heap.size (i + j) (noted l0 (i + j)) _ _ l0 (i + j) w _ HB.out HS.out (Kd.C_below HR.out HB.out) HC.out HW.out (by omega) (by omega) (by omega)).mono ?_
        rintro e1 w4 ⟨rfl, hs4, hb4, hk4⟩
        have HS4 := Aside0.mk hs4
        have HB4 := Aside0.mk hb4
        have HO4 : Aside0 (Kd.R k53 53 w4 w.heap.size (fun _ => True) v1 (out ++ [⟨0, (n : Int), (d : Int)⟩])) := ⟨by
         obtain ⟨es, clock, hgm, _⟩ := HS.out
         exact out_stay HO.out hgm hk4⟩
        clear hs4 hb4 hk4 HS HB HO
        go_wp2_with fail
        go_roundg (n - (j + 1))
        case measure => have := HK2.out; omega
        case rel => exact ⟨j + 1, by go_num, by go_num, by omega, ⟨by omega⟩, HS4, HO4, HB4⟩
       ·obtain rfl : n = j := by omega
        go_wp2_with fail
        go_roundg (l0.length - (i + n))
        case measure => have := HK.out; omega
        case rel =>
         refine ⟨i + n, (out ++ [⟨0, (n : Int), (d : Int)⟩]), rfl, by omega, ⟨by omega⟩, ⟨?_⟩, ⟨by have := HN.out; simp; omega⟩, HS, HO, HB⟩
         rw [← HT.out, List.append_assoc]
         congr 1
         rw [toks_fuel l0 l0.length (l0.length + 1) i (by omega) (by omega)]
         simp only [toks]
         rw [if_pos hlt, if_neg (fun h => hn0 (EN.out.1.trans h)), ← EN.out.1, ← EN.out.2]; rfl
    ·go_wp2_with fail
     go_ret2
     have hT := HT.out
     rw [toks_fuel l0 l0.length 0 i (by omega) (by omega)] at hT
     simp only [toks, List.append_nil] at hT
     exact ⟨_, rfl, by rw [← hT]; exact HO.out, HB.out⟩
 ·rw [if_neg hwf] at h
  cases h

/-! ### bits_Pen_Add: function 60 (by hand) -/
/-- One bit behind a row. -/
def pbit (v : Int) (i : Nat) : Int := Go.bits .and .i64 (v / 2 ^ i) 1 % 256
def pgrow (B : List Int) (N : Nat) : List Int := if N % 8 = 0 then B ++ [0] else B
def pset (B : List Int) (N : Nat) (b : Int) : List Int := B.set (B.length - 1) (Go.bits .or .u8 (B.getD (B.length - 1) 0) (b * 2 ^ (N % 8) % 256))
def padd (v : Int) : Nat → Nat → List Int → Nat → List Int
 | 0, _, B, _ => B
 | m + 1, i, B, N => padd v m (i + 1) (pset (pgrow B N) N (pbit v i)) (N + 1)

set_option maxHeartbeats 8000000 in
set_option maxRecDepth 100000 in
theorem pen_add (ty : TypeId) (hty : 5 ≠ ty) (g : Nat) (P_ : Nat → Prop) (v_ : Value) (B : List Int) (v : Int) (N n : Nat) (w0 w : World) (hB : Below w0.heap.size w0 w) (hg : w.heap[g]? = some (.cells #[v_, .int .i64 (N : Int)] ty (0, 0))) (hw : w0.heap.size ≤ g)
  (ho : Kd.R (Kd.int .u8) 5 w w0.heap.size P_ v_ B) (hn : n ≤ 64) (hN : N ≤ 1099511627776) (hb : N % 8 ≠ 0 → B ≠ []) (hl : B.length ≤ 1099511627776) :
  Calls Try.prog 60 #[.pointer (some ⟨g, 0, none⟩), .int .i64 v, .int .i64 n] w fun e w' => ∃ v1, e = .returned (.tuple #[]) ∧ w'.heap[g]? = some (.cells #[v1, .int .i64 ((N + n : Nat) : Int)] ty (0, 0)) ∧
   Kd.R (Kd.int .u8) 5 w' w0.heap.size (fun k => P_ k ∨ w.heap.size ≤ k) v1 (padd v n 0 B N) ∧ Below w0.heap.size w0 w' ∧ Kept w w' (fun k => P_ k ∨ k = g) := by
 have HT := Aside0.mk hty
 have HT2 : Aside0 (∀ q, q ∈ 5 :: (Kd.int .u8).E → q ≠ ty) := ⟨fun q hq => by rw [show q = 5 from by simpa [Kd.int, Kd.scalar] using hq]; exact hty⟩
 clear hty
 have HO := Aside0.mk (show Kd.R (Kd.int .u8) 5 w w0.heap.size (fun k => P_ k ∨ w.heap.size ≤ k) v_ B from Kd.R_mono ho (fun k hk => .inl hk))
 have HK := Aside0.mk (Kept.refl w (fun k => P_ k ∨ k = g))
 have HW0 := Aside0.mk hB.size
 have HB := Aside0.mk hB
 have BK := Aside0.mk hg
 have HL := Aside0.mk hl
 have Hb := Aside0.mk hb
 clear hB ho hg hl hb
 go_enter Try.func60, Try.ntmps60
 go_wp2_with fail
 go_loopg [9] n (fun kq v9 w' => ∃ (i M : Nat) (Bi : List Int) (vi : Value), v9 = .int .i64 i ∧ i ≤ n ∧ M ≤ 2199023255552 ∧ Aside0 (kq + i = n) ∧ Aside0 (M = N + i) ∧ Aside0 (w'.heap[g]? = some (.cells #[vi, .int .i64 (M : Int)] ty (0, 0))) ∧
  Aside0 (Kd.R (Kd.int .u8) 5 w' w0.heap.size (fun k => P_ k ∨ w.heap.size ≤ k) vi Bi) ∧ Aside0 (padd v (n - i) i Bi M = padd v n 0 B N) ∧ Aside0 ((M % 8 ≠ 0 → Bi ≠ []) ∧ Bi.length ≤ B.length + i) ∧ Aside0 (Kept w w' (fun k => P_ k ∨ k = g)) ∧ Aside0 (Below w0.heap.size w0 w'))
 case atStart => exact ⟨0, N, B, v_, rfl, Nat.zero_le _, by omega, ⟨rfl⟩, ⟨rfl⟩, BK, HO, ⟨rfl⟩, ⟨Hb.out, by omega⟩, HK, HB⟩
 case round =>
  clear HO HK HB BK Hb
  obtain ⟨i, M, Bi, vi, rfl, hi, hM, HG, HM, BK, HO, HP, Hb, HK, HB⟩ := hrel
  obtain ⟨Ai, ci, rfl⟩ := Kd.R_slice HO.out
  have hcz0 : wr.cell? ⟨g, 0, none⟩ = some (.slice Ai Bi.length ci) := (blk_cell BK.out 0).trans rfl
  have hcz1 : wr.cell? ⟨g, 1, none⟩ = some (.int .i64 (M : Int)) := (blk_cell BK.out 1).trans rfl
  have hfz0 := blk_frozen BK.out 0
  have hfz1 := blk_frozen BK.out 1
  by_cases hlt : i < n
  ·by_cases h8 : M % 8 = 0
   ·have hb8 : ((M : Int) % 8 == 0) = true := by rw [beq_iff_eq]; omega
    have H8 := Aside0.mk h8
    clear h8
    go_wp2_with ((with_reducible refine gate_builtin (b := .append) (xs := #[.tmp 26, .tmp 27]) rfl ?_); at_builtin; refine Kd.R_append (Kd.int .u8) (w0 := w0) w0.heap.size rfl (.tmp 26) (.tmp 27) 23 5 (.int .u8 0) 1 rfl Try.underlying23 info5 rfl (by decide) (by omega) (.slice Ai Bi.length ci) Bi 0 [.int .u8 0] (fun k => P_ k ∨ w.heap.size ≤ k) (fun _ => False) rfl rfl rfl (fun _ hk => hk.elim) (fun k hk => .inr (Nat.le_trans HK.out.1 hk)) HO.out HB.out (HB.out.size) (by have := HL.out; have := Hb.out.2; omega) ?_; intro v1 w1 ho hb hg hat; (have n0_ := Aside0.mk (blk_grown BK.out hg (Kd.R_ne HO.out BK.out HT.out))); (have n3_ := Aside0.mk (Kept.of_grown (S := (fun k => P_ k ∨ k = g)) hg HK.out (fun k e => Or.imp_left Or.inl (HO.out.1 k e)))); (have n2_ := Aside0.mk hb); (have n4_ := Aside0.mk ho); clear HO BK HK HB hcz0 hcz1 hfz0 hfz1 hb ho hat hg; (have HO := n4_); (have BK := n0_); (have HK := n3_); (have HB := n2_); clear n0_ n2_ n3_ n4_; (obtain ⟨A1, c1, e1⟩ := Kd.R_slice HO.out); (subst e1); (have hcz0 := (blk_cell BK.out 0).trans rfl);  (have hcz1 : w1.cell? ⟨g, 1, none⟩ = some (.int .i64 (M : Int)) := (blk_cell BK.out 1).trans rfl); (have hfz0 := blk_frozen BK.out 0); (have hfz1 := blk_frozen BK.out 1))
    have n0_ := Aside0.mk (blk_put BK.out 0 (.slice A1 (Bi.length + 1) c1) rfl)
    have n1_ := Aside0.mk (Kd.R_far (p := ⟨g, 0, none⟩) (Kd.R_types HO.out BK.out HT2.out) (fun _ hk => hk.2) (.slice A1 (Bi.length + 1) c1))
    have n2_ := Aside0.mk (Kept.setCell (S := (fun k => P_ k ∨ k = g)) (p := ⟨g, 0, none⟩) HK.out (.inl (.inr rfl)) (.slice A1 (Bi.length + 1) c1))
    have n3_ := Aside0.mk (HB.out.setCell (p := ⟨g, 0, none⟩) hw (.slice A1 (Bi.length + 1) c1))
    clear HO BK HK HB hcz0 hcz1 hfz0 hfz1
    generalize (w1.setCell { block := g, off := 0 } (Value.slice A1 (Bi.length + 1) c1)) = w6 at n0_ n1_ n2_ n3_ ⊢
    rw [List.length_append, List.length_singleton] at n1_
    obtain ⟨Bg, hBg⟩ : ∃ Bg, Bg = pgrow Bi M := ⟨_, rfl⟩
    have n4_ : Aside0 (Bg = pgrow Bi M ∧ Bg.length = Bi.length + 1) := ⟨hBg, by rw [hBg]; unfold pgrow; rw [if_pos H8.out]; simp⟩
    rw [show Bi ++ [0] = Bg from by rw [hBg]; unfold pgrow; rw [if_pos H8.out]] at n1_
    clear hBg
    obtain ⟨L, hL⟩ : ∃ L, L = Bi.length + 1 := ⟨_, rfl⟩
    rw [← hL] at n0_ n1_ n4_
    rw [← hL]
    have HL2 : Aside0 (0 < L ∧ L ≤ B.length + i + 1) := ⟨by omega, by have := Hb.out.2; omega⟩
    clear hL
    clear H8 hb8
    have n5_ : Aside0 (L = Bg.length) := ⟨n4_.out.2.symm⟩
    replace n4_ : Aside0 (Bg = pgrow Bi M) := ⟨n4_.out.1⟩
    replace n1_ := Aside0.mk (Kd.R_mono n1_.out (fun _ hk => hk.1))
    obtain ⟨r, c6, e6, hr0, hr1, hr2⟩ := Kd.R_form n1_.out (by rw [← n5_.out]; exact HL2.out.1)
    injection e6 with e6 e8 e7
    clear e8
    subst e6 e7
    obtain ⟨q0, q1⟩ := Kd.R_celln 0 n1_.out ((L : Int) - 1) (by have := HL2.out.1; omega) (by omega)
    have hcz0 : w6.cell? ⟨g, 0, none⟩ = some (.slice (some ⟨r, 0, none⟩) L c1) := (blk_cell n0_.out 0).trans rfl
    have hcz1 : w6.cell? ⟨g, 1, none⟩ = some (.int .i64 (M : Int)) := (blk_cell n0_.out 1).trans rfl
    have hfz0 := blk_frozen n0_.out 0
    have hfz1 := blk_frozen n0_.out 1
    obtain ⟨x6, hx6⟩ : ∃ x, x = rdOf (0 : Int) Bg ((L : Int) - 1) := ⟨_, rfl⟩
    rw [← hx6] at q0
    rw [show ((L : Int) - 1).toNat = L - 1 from by omega] at q0 q1
    have hL0 := HL2.out.1
    have hL1 : L ≤ 1099511627776 + 65 := by have := HL2.out.2; have := HL.out; omega
    have HX := Aside0.mk hx6
    have HR := Aside0.mk (And.intro hr0 (n1_.out.1 r rfl))
    clear hx6 hr0 hr1 hr2
    go_region
    obtain ⟨y6, hy6⟩ : ∃ y, y = Go.bits .or .u8 x6 (Go.bits .and .i64 (v / 2 ^ i) 1 % 256 * 2 ^ (M % 8) % 256) := ⟨_, rfl⟩
    rw [← hy6]
    have m1_ := Aside0.mk (Kd.R_putn n1_.out ((L : Int) - 1) y6)
    rw [show ((L : Int) - 1).toNat = L - 1 from by omega] at m1_
    have hne : g ≠ r := by have h_ := Kd.R_ne n1_.out n0_.out HT.out; intro e_; exact h_ (by rw [e_]; rfl)
    have m0_ := Aside0.mk (blk_far (p := ⟨r, L - 1, none⟩) n0_.out hne (.int .u8 y6))
    have m2_ := Aside0.mk (Kept.setCell (S := (fun k => P_ k ∨ k = g)) (p := ⟨r, L - 1, none⟩) n2_.out (Or.imp_left Or.inl HR.out.2) (.int .u8 y6))
    have m3_ := Aside0.mk (n3_.out.setCell (p := ⟨r, L - 1, none⟩) HR.out.1 (.int .u8 y6))
    have m5_ : Aside0 (Bg.set (L - 1) y6 = pset (pgrow Bi M) M (pbit v i)) := ⟨by rw [← n4_.out, hy6, HX.out]; unfold pset pbit rdOf; rw [← n5_.out, show ((L : Int) - 1).toNat = L - 1 from by omega]⟩
    have m6_ : Aside0 ((Bg.set (L - 1) y6).length = L) := ⟨by rw [List.length_set]; exact n5_.out.symm⟩
    clear n0_ n1_ n2_ n3_ n4_ n5_ hy6 HX q0 q1 hcz0 hcz1 hfz0 hfz1 HR
    have m7_ : Aside0 ((Kd.int .u8).R 5 (w6.setCell ⟨r, L - 1, none⟩ (.int .u8 y6)).drew w0.heap.size (fun k => P_ k ∨ w.heap.size ≤ k) (.slice (some ⟨r, 0, none⟩) L c1) (Bg.set (L - 1) y6)) := ⟨Kd.R_drew m1_.out⟩
    have m8_ : Aside0 ((w6.setCell ⟨r, L - 1, none⟩ (.int .u8 y6)).drew.heap[g]? = some (.cells #[.slice (some ⟨r, 0, none⟩) L c1, .int .i64 (M : Int)] ty (0, 0))) := ⟨m0_.out⟩
    have m9_ : Aside0 (Kept w (w6.setCell ⟨r, L - 1, none⟩ (.int .u8 y6)).drew (fun k => P_ k ∨ k = g)) := ⟨Kept.drew m2_.out⟩
    have ma_ : Aside0 (Below w0.heap.size w0 (w6.setCell ⟨r, L - 1, none⟩ (.int .u8 y6)).drew) := ⟨m3_.out.drew⟩
    clear m0_ m1_ m2_ m3_
    generalize (w6.setCell ⟨r, L - 1, none⟩ (.int .u8 y6)).drew = w7 at m7_ m8_ m9_ ma_ ⊢
    have hcz0 : w7.cell? ⟨g, 0, none⟩ = some (.slice (some ⟨r, 0, none⟩) L c1) := (blk_cell m8_.out 0).trans rfl
    have hcz1 : w7.cell? ⟨g, 1, none⟩ = some (.int .i64 (M : Int)) := (blk_cell m8_.out 1).trans rfl
    have hfz0 := blk_frozen m8_.out 0
    have hfz1 := blk_frozen m8_.out 1
    go_wp2_with fail
    go_roundg (gk - 1)
    case measure => have := HG.out; omega
    case rel =>
     refine ⟨i + 1, M + 1, Bg.set (L - 1) y6, .slice (some ⟨r, 0, none⟩) L c1, by go_num, by omega, ?_, ⟨by have := HG.out; omega⟩, ⟨by rw [HM.out]; omega⟩, ⟨?_⟩, ⟨?_⟩, ⟨?_⟩, ⟨?_⟩, ⟨?_⟩, ⟨?_⟩⟩
     ·have := HM.out; omega
     ·exact blk_put m8_.out 1 (.int .i64 ((M : Int) + 1)) rfl
     ·exact Kd.R_mono (Kd.R_far (p := ⟨g, 1, none⟩) (Kd.R_types m7_.out m8_.out HT2.out) (fun _ hk => hk.2) _) (fun _ hk => hk.1)
     ·rw [← HP.out, m5_.out, show n - i = (n - (i + 1)) + 1 from by omega]; rfl
     ·refine ⟨fun _ h => ?_, ?_⟩
      ·rw [h] at m6_; have := m6_.out; simp at this; omega
      ·rw [m6_.out]; exact Nat.le_trans HL2.out.2 (by omega)
     ·exact Kept.setCell m9_.out (.inl (.inr rfl)) _
     ·exact ma_.out.setCell hw _
   ·have hb8 : ((M : Int) % 8 == 0) = false := by rw [beq_eq_false_iff_ne]; omega
    have H8 := Aside0.mk h8
    clear h8
    go_wp2_with fail
    have n0_ := BK
    have n1_ := HO
    have n2_ := HK
    have n3_ := HB
    clear HO BK HK HB hcz0 hcz1 hfz0 hfz1
    have n4_ : Aside0 (Bi = pgrow Bi M) := ⟨by unfold pgrow; rw [if_neg H8.out]⟩
    obtain ⟨L, hL⟩ : ∃ L, L = Bi.length := ⟨_, rfl⟩
    rw [← hL] at n0_ n1_
    have HL2 : Aside0 (0 < L ∧ L ≤ B.length + i + 1) := ⟨by have := Hb.out.1 H8.out; have := List.length_pos_iff.2 this; omega, by have := Hb.out.2; omega⟩
    have n5_ := Aside0.mk hL
    clear hL H8 hb8
    obtain ⟨r, c6, e6, hr0, hr1, hr2⟩ := Kd.R_form n1_.out (by rw [← n5_.out]; exact HL2.out.1)
    injection e6 with e6 e8 e7
    clear e8
    subst e6 e7
    obtain ⟨q0, q1⟩ := Kd.R_celln 0 n1_.out ((L : Int) - 1) (by have := HL2.out.1; omega) (by omega)
    have hcz0 : wr.cell? ⟨g, 0, none⟩ = some (.slice (some ⟨r, 0, none⟩) L ci) := (blk_cell n0_.out 0).trans rfl
    have hcz1 : wr.cell? ⟨g, 1, none⟩ = some (.int .i64 (M : Int)) := (blk_cell n0_.out 1).trans rfl
    have hfz0 := blk_frozen n0_.out 0
    have hfz1 := blk_frozen n0_.out 1
    obtain ⟨x6, hx6⟩ : ∃ x, x = rdOf (0 : Int) Bi ((L : Int) - 1) := ⟨_, rfl⟩
    rw [← hx6] at q0
    rw [show ((L : Int) - 1).toNat = L - 1 from by omega] at q0 q1
    have hL0 := HL2.out.1
    have hL1 : L ≤ 1099511627776 + 65 := by have := HL2.out.2; have := HL.out; omega
    have HX := Aside0.mk hx6
    have HR := Aside0.mk (And.intro hr0 (n1_.out.1 r rfl))
    clear hx6 hr0 hr1 hr2
    go_region
    obtain ⟨y6, hy6⟩ : ∃ y, y = Go.bits .or .u8 x6 (Go.bits .and .i64 (v / 2 ^ i) 1 % 256 * 2 ^ (M % 8) % 256) := ⟨_, rfl⟩
    rw [← hy6]
    have m1_ := Aside0.mk (Kd.R_putn n1_.out ((L : Int) - 1) y6)
    rw [show ((L : Int) - 1).toNat = L - 1 from by omega] at m1_
    have hne : g ≠ r := by have h_ := Kd.R_ne n1_.out n0_.out HT.out; intro e_; exact h_ (by rw [e_]; rfl)
    have m0_ := Aside0.mk (blk_far (p := ⟨r, L - 1, none⟩) n0_.out hne (.int .u8 y6))
    have m2_ := Aside0.mk (Kept.setCell (S := (fun k => P_ k ∨ k = g)) (p := ⟨r, L - 1, none⟩) n2_.out (Or.imp_left Or.inl HR.out.2) (.int .u8 y6))
    have m3_ := Aside0.mk (n3_.out.setCell (p := ⟨r, L - 1, none⟩) HR.out.1 (.int .u8 y6))
    have m5_ : Aside0 (Bi.set (L - 1) y6 = pset (pgrow Bi M) M (pbit v i)) := ⟨by rw [← n4_.out, hy6, HX.out]; unfold pset pbit rdOf; rw [← n5_.out, show ((L : Int) - 1).toNat = L - 1 from by omega]⟩
    have m6_ : Aside0 ((Bi.set (L - 1) y6).length = L) := ⟨by rw [List.length_set]; exact n5_.out.symm⟩
    clear n0_ n1_ n2_ n3_ n4_ n5_ hy6 HX q0 q1 hcz0 hcz1 hfz0 hfz1 HR
    have m7_ : Aside0 ((Kd.int .u8).R 5 (wr.setCell ⟨r, L - 1, none⟩ (.int .u8 y6)).drew w0.heap.size (fun k => P_ k ∨ w.heap.size ≤ k) (.slice (some ⟨r, 0, none⟩) L ci) (Bi.set (L - 1) y6)) := ⟨Kd.R_drew m1_.out⟩
    have m8_ : Aside0 ((wr.setCell ⟨r, L - 1, none⟩ (.int .u8 y6)).drew.heap[g]? = some (.cells #[.slice (some ⟨r, 0, none⟩) L ci, .int .i64 (M : Int)] ty (0, 0))) := ⟨m0_.out⟩
    have m9_ : Aside0 (Kept w (wr.setCell ⟨r, L - 1, none⟩ (.int .u8 y6)).drew (fun k => P_ k ∨ k = g)) := ⟨Kept.drew m2_.out⟩
    have ma_ : Aside0 (Below w0.heap.size w0 (wr.setCell ⟨r, L - 1, none⟩ (.int .u8 y6)).drew) := ⟨m3_.out.drew⟩
    clear m0_ m1_ m2_ m3_
    generalize (wr.setCell ⟨r, L - 1, none⟩ (.int .u8 y6)).drew = w7 at m7_ m8_ m9_ ma_ ⊢
    have hcz0 : w7.cell? ⟨g, 0, none⟩ = some (.slice (some ⟨r, 0, none⟩) L ci) := (blk_cell m8_.out 0).trans rfl
    have hcz1 : w7.cell? ⟨g, 1, none⟩ = some (.int .i64 (M : Int)) := (blk_cell m8_.out 1).trans rfl
    have hfz0 := blk_frozen m8_.out 0
    have hfz1 := blk_frozen m8_.out 1
    go_wp2_with fail
    go_roundg (gk - 1)
    case measure => have := HG.out; omega
    case rel =>
     refine ⟨i + 1, M + 1, Bi.set (L - 1) y6, .slice (some ⟨r, 0, none⟩) L ci, by go_num, by omega, ?_, ⟨by have := HG.out; omega⟩, ⟨by rw [HM.out]; omega⟩, ⟨?_⟩, ⟨?_⟩, ⟨?_⟩, ⟨?_⟩, ⟨?_⟩, ⟨?_⟩⟩
     ·have := HM.out; omega
     ·exact blk_put m8_.out 1 (.int .i64 ((M : Int) + 1)) rfl
     ·exact Kd.R_mono (Kd.R_far (p := ⟨g, 1, none⟩) (Kd.R_types m7_.out m8_.out HT2.out) (fun _ hk => hk.2) _) (fun _ hk => hk.1)
     ·rw [← HP.out, m5_.out, show n - i = (n - (i + 1)) + 1 from by omega]; rfl
     ·refine ⟨fun _ h => ?_, ?_⟩
      ·rw [h] at m6_; have := m6_.out; simp at this; omega
      ·rw [m6_.out]; exact Nat.le_trans HL2.out.2 (by omega)
     ·exact Kept.setCell m9_.out (.inl (.inr rfl)) _
     ·exact ma_.out.setCell hw _
  ·go_wp2_with fail
   go_end0
   obtain rfl : i = n := by omega
   have hP := HP.out
   rw [Nat.sub_self] at hP
   have hM := HM.out
   subst hM
   exact ⟨_, rfl, BK.out, by rw [← hP]; exact HO.out, HB.out, HK.out⟩

/-! ### shrink_begin: function 59 (by hand) -/
/-- A pen's block. -/
def PenAt (w0 W : World) (g : Nat) (s : List Int × Nat) : Prop :=
 ∃ v, W.heap[g]? = some (.cells #[v, .int .i64 (s.2 : Int)] 65 (0, 0)) ∧ w0.heap.size ≤ g ∧ Kd.R (Kd.int .u8) 5 W w0.heap.size (fun _ => True) v s.1
/-- Blocks of other types than bytes and pens stay. -/
def KeepP (W W' : World) : Prop := W.heap.size ≤ W'.heap.size ∧ ∀ (k : Nat) (cells : Array Value) (ty : TypeId), W.heap[k]? = some (.cells cells ty (0, 0)) → ty ≠ 5 → ty ≠ 65 → W'.heap[k]? = some (.cells cells ty (0, 0))
theorem KeepP.refl (W : World) : KeepP W W := ⟨Nat.le_refl _, fun _ _ _ h _ _ => h⟩
theorem KeepP.trans {W W1 W2 : World} (h : KeepP W W1) (k : KeepP W1 W2) : KeepP W W2 := ⟨Nat.le_trans h.1 k.1, fun i c t hi h5 h9 => k.2 i c t (h.2 i c t hi h5 h9) h5 h9⟩
theorem heap_ltP {W : World} {k : Nat} {o : Obj} (h : W.heap[k]? = some o) : k < W.heap.size := (Array.getElem?_eq_some_iff.1 h).1
theorem KeepP.of_below {W W1 : World} (h : Below W.heap.size W W1) : KeepP W W1 := ⟨h.size, fun k c t hk _ _ => (h.block k (heap_ltP hk)).trans hk⟩
theorem KeepP.below {W W1 W2 : World} (h : KeepP W W1) (k : Below W1.heap.size W1 W2) : KeepP W W2 := h.trans (KeepP.of_below k)
theorem KeepP.of_kept {W W1 : World} {g : Nat} {cs : Array Value} (hg : W.heap[g]? = some (.cells cs 65 (0, 0))) (h : Kept W W1 (fun k => (∃ cells, W.heap[k]? = some (.cells cells 5 (0, 0))) ∨ k = g)) : KeepP W W1 := by
 refine ⟨h.1, fun k c t hk h5 h9 => (h.2 k (heap_ltP hk) ?_).trans hk⟩
 rintro (⟨cells, hc⟩ | rfl)
 ·rw [hc] at hk
  injection hk with hk
  injection hk with _ ht
  exact h5 ht.symm
 ·rw [hg] at hk
  injection hk with hk
  injection hk with _ ht
  exact h9 ht.symm
theorem introw_keepP {W W1 : World} {base : Nat} {ok : Nat → Prop} {v : Value} {l : List Int} (h : Kd.R (Kd.int .i64) 3 W base ok v l) (hk : KeepP W W1) : Kd.R (Kd.int .i64) 3 W1 base ok v l := by
 refine Kd.R_mono (Kd.R_move (Kd.R_bound h) (fun k hk' => ?_)) (fun _ hk' => hk'.1)
 obtain ⟨_, _, _, q, hq, cells, hc⟩ := hk'
 have hq' : q = 3 := by simpa [Kd.int, Kd.scalar] using hq
 subst hq'
 exact (hk.2 k cells _ hc (by decide) (by decide)).trans hc.symm
theorem PenAt.below {w0 W W1 : World} {g : Nat} {s : List Int × Nat} (h : PenAt w0 W g s) (hb : Below W.heap.size W W1) : PenAt w0 W1 g s := by
 obtain ⟨v, h1, h2, h3⟩ := h
 exact ⟨v, (hb.block g (heap_ltP h1)).trans h1, h2, Kd.R_below h3 hb⟩
theorem PenAt.cell {w0 W : World} {g : Nat} {s : List Int × Nat} (h : PenAt w0 W g s) : ∃ A c, W.heap[g]? = some (.cells #[.slice A s.1.length c, .int .i64 (s.2 : Int)] 65 (0, 0)) ∧ w0.heap.size ≤ g ∧ Kd.R (Kd.int .u8) 5 W w0.heap.size (fun _ => True) (.slice A s.1.length c) s.1 := by
 obtain ⟨v, h1, h2, h3⟩ := h
 obtain ⟨A, c, rfl⟩ := Kd.R_slice h3
 exact ⟨A, c, h1, h2, h3⟩
/-- Bits behind a pen's. -/
def addS (v n : Int) (s : List Int × Nat) : Option (List Int × Nat) :=
 if 0 ≤ n ∧ n ≤ 64 ∧ s.2 ≤ 1000000000 ∧ s.1.length ≤ 1000000000 ∧ (s.2 % 8 ≠ 0 → s.1 ≠ []) then some (padd v n.toNat 0 s.1 s.2, s.2 + n.toNat) else none
theorem pen_more (g : Nat) (v n : Int) (s s1 : List Int × Nat) (w0 w : World) (hP : PenAt w0 w g s) (hB : Below w0.heap.size w0 w) (h : addS v n s = some s1) :
  Calls Try.prog 60 #[.pointer (some ⟨g, 0, none⟩), .int .i64 v, .int .i64 n] w fun e w' => e = .returned (.tuple #[]) ∧ PenAt w0 w' g s1 ∧ Below w0.heap.size w0 w' ∧ KeepP w w' := by
 unfold addS at h
 split at h
 ·rename_i hc
  injection h with h
  obtain ⟨v_, h1, h2, h3⟩ := hP
  obtain ⟨m, rfl⟩ : ∃ m : Nat, n = (m : Int) := ⟨n.toNat, by omega⟩
  rw [Int.toNat_natCast] at h
  have hr : Kd.R (Kd.int .u8) 5 w w0.heap.size (fun k => ∃ cells, w.heap[k]? = some (.cells cells 5 (0, 0))) v_ s.1 := by
   refine Kd.R_mono (Kd.R_bound h3) (fun k hk => ?_)
   obtain ⟨_, _, _, q, hq, cells, hcc⟩ := hk
   have hq' : q = 5 := by simpa [Kd.int, Kd.scalar] using hq
   subst hq'
   exact ⟨cells, hcc⟩
  refine (pen_add 65 (by decide) g _ v_ s.1 v s.2 m w0 w hB h1 h2 hr (by omega) (by omega) hc.2.2.2.2 (by omega)).mono ?_
  rintro e w' ⟨v1, rfl, k1, k2, k3, k4⟩
  refine ⟨rfl, ?_, k3, KeepP.of_kept h1 k4⟩
  rw [← h]
  exact ⟨v1, k1, h2, Kd.R_mono k2 (fun _ _ => trivial)⟩
 ·cases h
def beginS (kind : Int) : Option (List Int × Nat) := (addS 1 1 ([], 0)).bind fun s => addS kind 2 s
set_option maxHeartbeats 8000000 in
set_option maxRecDepth 100000 in
theorem shr_begin (kind : Int) (s : List Int × Nat) (w : World) (h : beginS kind = some s) :
  Calls Try.prog 59 #[.int .i64 kind] w fun e w' => ∃ g, e = .returned (.pointer (some ⟨g, 0, none⟩)) ∧ PenAt w w' g s ∧ Below w.heap.size w w' := by
 obtain ⟨s1, h1, h⟩ := Option.bind_eq_some_iff.1 h
 have H1 := Aside0.mk h1
 have H2 := Aside0.mk h
 clear h1 h
 have HP := Aside0.mk (show PenAt w (w.alloc (.cells #[.slice none 0 0, .int .i64 0] 65)) w.heap.size ([], 0) from ⟨_, blk_new w _, Nat.le_refl _, Kd.R_nil _ _ _ _ _⟩)
 have HB := Aside0.mk (show Below w.heap.size w (w.alloc (.cells #[.slice none 0 0, .int .i64 0] 65)) from (Below.refl _ _).alloc (Nat.le_refl _) _)
 go_enter Try.func59, Try.ntmps59
 go_wp2_with fail
 refine (pen_more w.heap.size 1 1 ([], 0) s1 w _ HP.out HB.out H1.out).mono ?_
 rintro e w1 ⟨rfl, hP1, hB1, _⟩
 have HP1 := Aside0.mk hP1
 have HB1 := Aside0.mk hB1
 clear hP1 hB1 HP HB
 go_wp2_with fail
 refine (pen_more w.heap.size kind 2 s1 s w w1 HP1.out HB1.out H2.out).mono ?_
 rintro e w2 ⟨rfl, hP2, hB2, _⟩
 have HP2 := Aside0.mk hP2
 have HB2 := Aside0.mk hB2
 clear hP2 hB2 HP1 HB1
 go_wp2_with fail
 go_ret
 exact ⟨_, rfl, HP2.out, HB2.out⟩

/-! ### shrink_plain: function 34 (by hand) -/
theorem begin_n {kind : Int} {s : List Int × Nat} (h : beginS kind = some s) : s.2 = 3 := by
 obtain ⟨s1, h1, h2⟩ := Option.bind_eq_some_iff.1 h
 unfold addS at h1 h2
 split at h1
 ·injection h1 with h1
  subst h1
  split at h2
  ·injection h2 with h2
   subst h2
   rfl
  ·cases h2
 ·cases h1
/-- Bytes behind a pen's bits. -/
def bytesL : List Int → List Int × Nat → Option (List Int × Nat)
 | [], s => some s
 | c :: l, s => (addS (wrap64 c) 8 s).bind (bytesL l)
/-- A text as it is. -/
def plainS (b : List Int) : Option (List Int × Nat) :=
 (beginS 0).bind fun s => (addS 0 5 s).bind fun s => (addS b.length 16 s).bind fun s => (addS (Go.bits .xor .i64 (b.length : Int) 65535) 16 s).bind (bytesL b)
set_option maxHeartbeats 8000000 in
set_option maxRecDepth 100000 in
theorem shr_plain (A0 : Option Addr) (c0 : Nat) (l0 : List Int) (sr : List Int × Nat) (w : World) (hr0 : Kd.C (Kd.int .u8) w A0 l0.length l0) (hc0 : l0.length ≤ c0) (hl : l0.length ≤ 1000000) (h : plainS l0 = some sr) :
  Calls Try.prog 34 #[.slice A0 l0.length c0] w fun e w' => ∃ g, e = .returned (.pointer (some ⟨g, 0, none⟩)) ∧ PenAt w w' g sr ∧ Below w.heap.size w w' := by
 unfold plainS at h
 obtain ⟨s1, h1, h⟩ := Option.bind_eq_some_iff.1 h
 obtain ⟨s2, h2, h⟩ := Option.bind_eq_some_iff.1 h
 obtain ⟨s3, h3, h⟩ := Option.bind_eq_some_iff.1 h
 obtain ⟨s4, h4, h⟩ := Option.bind_eq_some_iff.1 h
 have HN := Aside0.mk (begin_n h1)
 have H1 := Aside0.mk h1
 have H2 := Aside0.mk h2
 have H3 := Aside0.mk h3
 have H4 := Aside0.mk h4
 have HL := Aside0.mk h
 have HR := Aside0.mk hr0
 clear h1 h2 h3 h4 h hr0
 go_enter Try.func34, Try.ntmps34
 go_wp2_with fail
 refine (shr_begin 0 s1 w H1.out).mono ?_
 rintro e w1 ⟨g, rfl, hP1, hB1⟩
 have HP1 := Aside0.mk hP1
 have HB1 := Aside0.mk hB1
 obtain ⟨A, c, hg, hge, ho⟩ := hP1.cell
 have hcz : w1.cell? ⟨g, 1, none⟩ = some (.int .i64 3) := by
  have := blk_cell hg 1
  rw [HN.out] at this
  exact this.trans rfl
 have hfz := blk_frozen hg 1
 clear hP1 hB1 H1 hg ho
 go_upto_region 2 with fail
 go_region_with (go_at_call 60; refine (pen_more g 0 5 s1 s2 w w1.drew (HP1.out.below (Below.refl _ _).drew) HB1.out.drew H2.out).mono ?_; rintro e w2 ⟨rfl, hP2, hB2, _⟩; have HP2 := Aside0.mk hP2; have HB2 := Aside0.mk hB2; clear hP2 hB2)
 all_goals
  clear HP1 HB1 hcz hfz
  go_wp2_with fail
  refine (pen_more g l0.length 16 s2 s3 w _ HP2.out HB2.out H3.out).mono ?_
  rintro e w3 ⟨rfl, hP3, hB3, _⟩
  have HP3 := Aside0.mk hP3
  have HB3 := Aside0.mk hB3
  clear hP3 hB3 HP2 HB2
  go_wp2_with fail
  refine (pen_more g _ 16 s3 s4 w _ HP3.out HB3.out H4.out).mono ?_
  rintro e w4 ⟨rfl, hP4, hB4, _⟩
  have HP4 := Aside0.mk hP4
  have HB4 := Aside0.mk hB4
  clear hP4 hB4 HP3 HB3
  go_wp2_with fail
  go_loopg [35] l0.length (fun kq v35 w' => ∃ (i : Nat) (si : List Int × Nat), v35 = .int .i64 i ∧ i ≤ l0.length ∧ Aside0 (kq + i = l0.length) ∧ Aside0 (bytesL (l0.drop i) si = some sr) ∧ Aside0 (PenAt w w' g si) ∧ Aside0 (Below w.heap.size w w'))
 case atStart => exact ⟨0, s4, rfl, Nat.zero_le _, ⟨by omega⟩, HL, HP4, HB4⟩
 case round =>
  clear HL HP4 HB4
  obtain ⟨i, si, rfl, hi, HG, HL, HP, HB⟩ := hrel
  by_cases hlt : i < l0.length
  rotate_left
  ·obtain rfl : i = l0.length := by omega
   have h := HL.out
   rw [List.drop_length] at h
   simp only [bytesL] at h
   injection h with h
   subst h
   go_wp2_with fail
   go_ret
   exact ⟨g, rfl, HP.out, HB.out⟩
  have h := HL.out
  obtain ⟨ad, ead, k0⟩ := Kd.at_int (Kd.C_below HR.out HB.out) (i : Int) (by omega) (by omega)
  obtain ⟨t, ht⟩ : ∃ t, t = rd l0 (i : Int) := ⟨_, rfl⟩
  rw [← ht, Int.toNat_natCast] at k0
  have hd : l0.drop i = t :: l0.drop (i + 1) := by
   rw [ht]
   unfold rd
   rw [Int.toNat_natCast, List.getD_eq_getElem?_getD, List.getElem?_eq_getElem hlt]
   exact List.drop_eq_getElem_cons hlt
  rw [hd] at h
  simp only [bytesL] at h
  obtain ⟨s5, h5, h⟩ := Option.bind_eq_some_iff.1 h
  have H5 := Aside0.mk h5
  have HL1 := Aside0.mk h
  clear h h5 HL hd ht
  subst ead
  go_wp2_with fail
  refine (pen_more g (wrap64 t) 8 si s5 w _ HP.out HB.out H5.out).mono ?_
  rintro e w5 ⟨rfl, hP5, hB5, _⟩
  have HP5 := Aside0.mk hP5
  have HB5 := Aside0.mk hB5
  clear hP5 hB5 HP HB
  go_wp2_with fail
  go_roundg (gk - 1)
  case measure => have := HG.out; omega
  case rel => exact ⟨i + 1, s5, by go_num, by omega, ⟨by have := HG.out; omega⟩, HL1, HP5, HB5⟩

/-! ### sym_Fixed: function 61 -/
mutual
def sym_Fixed.l0 : Nat → List Int → Int → Option (List Int × List Int)
 | 0, _, _ => none
 | k + 1, x0, x4 => if x4 < 288 then (if x4 ≥ 144 then (sym_Fixed.j1 k x0 x4 8 x4 (decide (x4 ≤ 255))) else (sym_Fixed.j1 k x0 x4 8 x4 false)) else (sym_Fixed.l1 k x0 ([] : List Int) 0)
def sym_Fixed.j1 : Nat → List Int → Int → Int → Int → Bool → Option (List Int × List Int)
 | 0, _, _, _, _, _ => none
 | k + 1, x0, x2, x3, x4, x7 => if x7 = true then (if x0.length < 17592186044416 then (sym_Fixed.l0 k (x0 ++ [9]) (wrap64 (x4 + 1))) else (none)) else (if x2 ≥ 256 then (if x2 ≤ 279 then (if x0.length < 17592186044416 then (sym_Fixed.l0 k (x0 ++ [7]) (wrap64 (x4 + 1))) else (none)) else (if x0.length < 17592186044416 then (sym_Fixed.l0 k (x0 ++ [x3]) (wrap64 (x4 + 1))) else (none))) else (if x0.length < 17592186044416 then (sym_Fixed.l0 k (x0 ++ [x3]) (wrap64 (x4 + 1))) else (none)))
def sym_Fixed.l1 : Nat → List Int → List Int → Int → Option (List Int × List Int)
 | 0, _, _, _ => none
 | k + 1, x0, x1, x26 => if x26 < 32 then (if x1.length < 17592186044416 then (sym_Fixed.l1 k x0 (x1 ++ [5]) (wrap64 (x26 + 1))) else (none)) else (some (x0, x1))
end
def sym_Fixed.f (k : Nat)  : Option (List Int × List Int) := sym_Fixed.l0 k ([] : List Int) 0
set_option maxHeartbeats 8000000 in
set_option maxRecDepth 100000 in
theorem sym_Fixed.calls (k : Nat)  (r1 : List Int) (r2 : List Int) (w : World) (h : sym_Fixed.f k  = some (r1, r2)) :
  Calls Try.prog 61 #[] w fun e w' => ∃ v0_ v1_ : Value, e = .returned (.tuple #[v0_, v1_]) ∧ Kd.R (Kd.int .i64) 3 w' w.heap.size (fun k_ => some k_ ≠ (v1_ : Value).ownBlock) v0_ r1 ∧ Kd.R (Kd.int .i64) 3 w' w.heap.size (fun k_ => some k_ ≠ (v0_ : Value).ownBlock) v1_ r2 ∧ Below w.heap.size w w' := by
 have HB := Aside0.mk (Below.refl w.heap.size w)
 have H : (sym_Fixed.l0 k ([] : List Int) 0) = some (r1, r2) := h
 clear h
 have H' := Aside0.mk H
 clear H
 go_enter Try.func61, Try.ntmps61
 go_wp2
 go_loopg [0, 4] k (fun kq v0 v4 w' => ∃ (x0_1 : List Int) (x4_1 : Int), v4 = .int .i64 x4_1 ∧ Aside0 (sym_Fixed.l0 kq x0_1 x4_1 = some (r1, r2)) ∧ Aside0 (kq ≤ k) ∧ Aside0 (Kd.R (Kd.int .i64) 3 w' w.heap.size (fun _ => True) v0 x0_1) ∧ Aside0 (Below w.heap.size w w'))
 case atStart => exact ⟨(([] : List Int)), (0), (by first | rfl | (simp; done) | (simp [*]; done)), H', ⟨Nat.le_refl _⟩, ⟨by first | exact Kd.R_nil _ _ _ _ _ | exact Kd.N_nil _ _ _ _ _ | exact Kd.V_nil _ _ _ _ _ | exact Kd.Q_nil _ _ _ _ _ | exact Kd.S_nil _ _ _ _ _⟩, ⟨by repeat (first | (with_reducible first | exact HB.out | apply below_alloc | apply pw_below_drewN | apply below_drew1) | exact HB.out)⟩⟩
 case round =>
  clear H'
  obtain ⟨x0_1, x4_1, rfl, HA, HK1, HO_0, HB⟩ := hrel
  cases gk with
  | zero => exact absurd HA.out (by simp [sym_Fixed.l0])
  | succ k1 =>
   have H := HA.out
   clear HA
   simp only [sym_Fixed.l0] at H
   by_cases c1 : x4_1 < 288
   ·rw [if_pos c1] at H
    have c1b0 : decide (x4_1 < 288) = true := decide_eq_true c1
    clear c1
    have HC2 := Aside0.mk H
    clear H
    go_upto_region 5 with (fail)
    go_cut [7] (fun v7 wc => ∃ (kq : Nat) (x7_1 : Bool), v7 = .bool x7_1 ∧ Aside0 (sym_Fixed.j1 kq x0_1 x4_1 8 x4_1 x7_1 = some (r1, r2)) ∧ Aside0 (kq ≤ k1) ∧ Aside0 (Kd.R (Kd.int .i64) 3 wc w.heap.size (fun _ => True) u0 x0_1) ∧ Aside0 (Below w.heap.size w wc))
    case first =>
     have H := HC2.out
     clear HC2
     by_cases c3 : x4_1 ≥ 144
     ·rw [if_pos c3] at H
      have c3b0 : decide (144 ≤ x4_1) = true := decide_eq_true c3
      clear c3
      (first | rw [c3b0] | (simp only [i64_w, i32_w]; rw [c3b0]) | skip)
      have H' := Aside0.mk H
      clear H
      go_wp2
      go_meet
      case rel => exact ⟨_, (decide (x4_1 ≤ 255)), (by first | rfl | (simp; done) | (simp [*]; done)), H', ⟨by have := HK1.out; first | omega | exact Nat.le_refl _⟩, ⟨by (with_reducible repeat (first | apply Kd.R_alloc | apply Kd.R_drewN | apply Kd.R_drew)); exact HO_0.out⟩, ⟨by repeat (first | (with_reducible first | exact HB.out | apply below_alloc | apply pw_below_drewN | apply below_drew1) | exact HB.out)⟩⟩
     ·rw [if_neg c3] at H
      have c3b0 : decide (144 ≤ x4_1) = false := decide_eq_false c3
      clear c3
      (first | rw [c3b0] | (simp only [i64_w, i32_w]; rw [c3b0]) | skip)
      have H' := Aside0.mk H
      clear H
      go_wp2
      go_meet
      case rel => exact ⟨_, (false), (by first | rfl | (simp; done) | (simp [*]; done)), H', ⟨by have := HK1.out; first | omega | exact Nat.le_refl _⟩, ⟨by (with_reducible repeat (first | apply Kd.R_alloc | apply Kd.R_drewN | apply Kd.R_drew)); exact HO_0.out⟩, ⟨by repeat (first | (with_reducible first | exact HB.out | apply below_alloc | apply pw_below_drewN | apply below_drew1) | exact HB.out)⟩⟩
    case rest =>
     clear HC2
     try clear c1
     try clear c1b0
     try clear p2
     try clear c3
     try clear c3b0
     obtain ⟨kq, x7_1, rfl, HA, HJ1, HO_0, HB⟩ := hcut
     cases kq with
     | zero => exact absurd HA.out (by simp [sym_Fixed.j1])
     | succ kj1 =>
      have H := HA.out
      clear HA
      simp only [sym_Fixed.j1] at H
      by_cases c4 : x7_1 = true
      ·subst c4
       have H1 : (if x0_1.length < 17592186044416 then (sym_Fixed.l0 kj1 (x0_1 ++ [9]) (wrap64 (x4_1 + 1))) else (none)) = some (r1, r2) := by rw [if_pos rfl] at H; exact H
       clear H
       have H := H1
       clear H1
       by_cases c5 : x0_1.length < 17592186044416
       ·rw [if_pos c5] at H
        have LMc5 := Aside0.mk c5
        clear c5
        obtain ⟨y103, hy103⟩ : ∃ y_ : List Int, y_ = (x0_1 ++ [9]) := ⟨_, rfl⟩
        replace H : (sym_Fixed.l0 kj1 y103 (wrap64 (x4_1 + 1))) = some (r1, r2) := by first | (rw [hy103]; with_reducible exact H) | (have H2_ := (Option.bind_some _ _).symm.trans H; rw [hy103]; with_reducible exact H2_) | (have H2_ := (Option.bind_some _ _).symm.trans H; with_reducible exact H2_) | with_reducible exact H | (rw [hy103]; exact H) | exact H
        have Ny103 := Aside0.mk hy103
        clear hy103
        have H' := Aside0.mk H
        clear H
        go_wp2_with (first | ((with_reducible refine gate_builtin (b := .append) (xs := #[.tmp 21, .tmp 23]) rfl ?_); at_builtin; refine Kd.R_append (Kd.int .i64) (w0 := w) w.heap.size rfl (.tmp 21) (.tmp 23) 32 3 (.int .i64 0) 8 rfl Try.underlying32 info3 rfl (by decide) (by omega) u0 x0_1 9 [.int .i64 9] (fun _ => True) (fun _ => False) rfl rfl ?aP (fun _ hk => hk.elim) ?aF ?aO ?aB ?aS ?aL ?_; (case aP => exact rfl); (case aB => exact (by repeat (first | (with_reducible first | exact HB.out | apply below_alloc | apply pw_below_drewN | apply below_drew1) | exact HB.out))); (case aF => exact (fun _ _ => trivial)); (case aO => exact (by (with_reducible repeat (first | apply Kd.R_alloc | apply Kd.R_drewN | apply Kd.R_drew)); exact HO_0.out)); (case aS => exact (below_size (by repeat (first | (with_reducible first | exact HB.out | apply below_alloc | apply pw_below_drewN | apply below_drew1) | exact HB.out)))); (case aL => have := LMc5.out; omega); intro v104 w6 ho hb hg hat; rw [← Ny103.out] at ho; have n0_ := Aside0.mk (hb); have n1_ := Aside0.mk (ho); clear HB; clear HO_0; have HB := n0_; have HO105 := n1_; clear n0_ n1_; clear ho hb hg hat))
        go_roundg kj1
        case measure => have := HK1.out; have := HJ1.out; omega
        case rel => exact ⟨(y103), (wrap64 (x4_1 + 1)), (by first | rfl | (simp; done) | (simp [*]; done)), H', ⟨by have := HK1.out; have := HJ1.out; omega⟩, ⟨by (with_reducible repeat (first | apply Kd.R_alloc | apply Kd.R_drewN | apply Kd.R_drew)); exact HO105.out⟩, ⟨by repeat (first | (with_reducible first | exact HB.out | apply below_alloc | apply pw_below_drewN | apply below_drew1) | exact HB.out)⟩⟩
       ·rw [if_neg c5] at H
        exact absurd H (by simp)
      ·replace c4 := Bool.eq_false_iff.mpr c4
       subst c4
       have H1 : (if x4_1 ≥ 256 then (if x4_1 ≤ 279 then (if x0_1.length < 17592186044416 then (sym_Fixed.l0 kj1 (x0_1 ++ [7]) (wrap64 (x4_1 + 1))) else (none)) else (if x0_1.length < 17592186044416 then (sym_Fixed.l0 kj1 (x0_1 ++ [8]) (wrap64 (x4_1 + 1))) else (none))) else (if x0_1.length < 17592186044416 then (sym_Fixed.l0 kj1 (x0_1 ++ [8]) (wrap64 (x4_1 + 1))) else (none))) = some (r1, r2) := by rw [if_neg (show ¬ (false = true) by decide)] at H; exact H
       clear H
       have H := H1
       clear H1
       by_cases c7 : x4_1 ≥ 256
       ·rw [if_pos c7] at H
        have c7b0 : decide (256 ≤ x4_1) = true := decide_eq_true c7
        clear c7
        by_cases c8 : x4_1 ≤ 279
        ·rw [if_pos c8] at H
         have c8b0 : decide (x4_1 ≤ 279) = true := decide_eq_true c8
         clear c8
         by_cases c9 : x0_1.length < 17592186044416
         ·rw [if_pos c9] at H
          have LMc9 := Aside0.mk c9
          clear c9
          obtain ⟨y106, hy106⟩ : ∃ y_ : List Int, y_ = (x0_1 ++ [7]) := ⟨_, rfl⟩
          replace H : (sym_Fixed.l0 kj1 y106 (wrap64 (x4_1 + 1))) = some (r1, r2) := by first | (rw [hy106]; with_reducible exact H) | (have H2_ := (Option.bind_some _ _).symm.trans H; rw [hy106]; with_reducible exact H2_) | (have H2_ := (Option.bind_some _ _).symm.trans H; with_reducible exact H2_) | with_reducible exact H | (rw [hy106]; exact H) | exact H
          have Ny106 := Aside0.mk hy106
          clear hy106
          have H' := Aside0.mk H
          clear H
          go_wp2_with (first | ((with_reducible refine gate_builtin (b := .append) (xs := #[.tmp 21, .tmp 23]) rfl ?_); at_builtin; refine Kd.R_append (Kd.int .i64) (w0 := w) w.heap.size rfl (.tmp 21) (.tmp 23) 32 3 (.int .i64 0) 8 rfl Try.underlying32 info3 rfl (by decide) (by omega) u0 x0_1 7 [.int .i64 7] (fun _ => True) (fun _ => False) rfl rfl ?aP (fun _ hk => hk.elim) ?aF ?aO ?aB ?aS ?aL ?_; (case aP => exact rfl); (case aB => exact (by repeat (first | (with_reducible first | exact HB.out | apply below_alloc | apply pw_below_drewN | apply below_drew1) | exact HB.out))); (case aF => exact (fun _ _ => trivial)); (case aO => exact (by (with_reducible repeat (first | apply Kd.R_alloc | apply Kd.R_drewN | apply Kd.R_drew)); exact HO_0.out)); (case aS => exact (below_size (by repeat (first | (with_reducible first | exact HB.out | apply below_alloc | apply pw_below_drewN | apply below_drew1) | exact HB.out)))); (case aL => have := LMc9.out; omega); intro v107 w10 ho hb hg hat; rw [← Ny106.out] at ho; have n0_ := Aside0.mk (hb); have n1_ := Aside0.mk (ho); clear HB; clear HO_0; have HB := n0_; have HO108 := n1_; clear n0_ n1_; clear ho hb hg hat))
          go_roundg kj1
          case measure => have := HK1.out; have := HJ1.out; omega
          case rel => exact ⟨(y106), (wrap64 (x4_1 + 1)), (by first | rfl | (simp; done) | (simp [*]; done)), H', ⟨by have := HK1.out; have := HJ1.out; omega⟩, ⟨by (with_reducible repeat (first | apply Kd.R_alloc | apply Kd.R_drewN | apply Kd.R_drew)); exact HO108.out⟩, ⟨by repeat (first | (with_reducible first | exact HB.out | apply below_alloc | apply pw_below_drewN | apply below_drew1) | exact HB.out)⟩⟩
         ·rw [if_neg c9] at H
          exact absurd H (by simp)
        ·rw [if_neg c8] at H
         have c8b0 : decide (x4_1 ≤ 279) = false := decide_eq_false c8
         clear c8
         by_cases c11 : x0_1.length < 17592186044416
         ·rw [if_pos c11] at H
          have LMc11 := Aside0.mk c11
          clear c11
          obtain ⟨y109, hy109⟩ : ∃ y_ : List Int, y_ = (x0_1 ++ [8]) := ⟨_, rfl⟩
          replace H : (sym_Fixed.l0 kj1 y109 (wrap64 (x4_1 + 1))) = some (r1, r2) := by first | (rw [hy109]; with_reducible exact H) | (have H2_ := (Option.bind_some _ _).symm.trans H; rw [hy109]; with_reducible exact H2_) | (have H2_ := (Option.bind_some _ _).symm.trans H; with_reducible exact H2_) | with_reducible exact H | (rw [hy109]; exact H) | exact H
          have Ny109 := Aside0.mk hy109
          clear hy109
          have H' := Aside0.mk H
          clear H
          go_wp2_with (first | ((with_reducible refine gate_builtin (b := .append) (xs := #[.tmp 21, .tmp 23]) rfl ?_); at_builtin; refine Kd.R_append (Kd.int .i64) (w0 := w) w.heap.size rfl (.tmp 21) (.tmp 23) 32 3 (.int .i64 0) 8 rfl Try.underlying32 info3 rfl (by decide) (by omega) u0 x0_1 8 [.int .i64 8] (fun _ => True) (fun _ => False) rfl rfl ?aP (fun _ hk => hk.elim) ?aF ?aO ?aB ?aS ?aL ?_; (case aP => exact rfl); (case aB => exact (by repeat (first | (with_reducible first | exact HB.out | apply below_alloc | apply pw_below_drewN | apply below_drew1) | exact HB.out))); (case aF => exact (fun _ _ => trivial)); (case aO => exact (by (with_reducible repeat (first | apply Kd.R_alloc | apply Kd.R_drewN | apply Kd.R_drew)); exact HO_0.out)); (case aS => exact (below_size (by repeat (first | (with_reducible first | exact HB.out | apply below_alloc | apply pw_below_drewN | apply below_drew1) | exact HB.out)))); (case aL => have := LMc11.out; omega); intro v110 w12 ho hb hg hat; rw [← Ny109.out] at ho; have n0_ := Aside0.mk (hb); have n1_ := Aside0.mk (ho); clear HB; clear HO_0; have HB := n0_; have HO111 := n1_; clear n0_ n1_; clear ho hb hg hat))
          go_roundg kj1
          case measure => have := HK1.out; have := HJ1.out; omega
          case rel => exact ⟨(y109), (wrap64 (x4_1 + 1)), (by first | rfl | (simp; done) | (simp [*]; done)), H', ⟨by have := HK1.out; have := HJ1.out; omega⟩, ⟨by (with_reducible repeat (first | apply Kd.R_alloc | apply Kd.R_drewN | apply Kd.R_drew)); exact HO111.out⟩, ⟨by repeat (first | (with_reducible first | exact HB.out | apply below_alloc | apply pw_below_drewN | apply below_drew1) | exact HB.out)⟩⟩
         ·rw [if_neg c11] at H
          exact absurd H (by simp)
       ·rw [if_neg c7] at H
        have c7b0 : decide (256 ≤ x4_1) = false := decide_eq_false c7
        clear c7
        by_cases c13 : x0_1.length < 17592186044416
        ·rw [if_pos c13] at H
         have LMc13 := Aside0.mk c13
         clear c13
         obtain ⟨y112, hy112⟩ : ∃ y_ : List Int, y_ = (x0_1 ++ [8]) := ⟨_, rfl⟩
         replace H : (sym_Fixed.l0 kj1 y112 (wrap64 (x4_1 + 1))) = some (r1, r2) := by first | (rw [hy112]; with_reducible exact H) | (have H2_ := (Option.bind_some _ _).symm.trans H; rw [hy112]; with_reducible exact H2_) | (have H2_ := (Option.bind_some _ _).symm.trans H; with_reducible exact H2_) | with_reducible exact H | (rw [hy112]; exact H) | exact H
         have Ny112 := Aside0.mk hy112
         clear hy112
         have H' := Aside0.mk H
         clear H
         go_wp2_with (first | ((with_reducible refine gate_builtin (b := .append) (xs := #[.tmp 21, .tmp 23]) rfl ?_); at_builtin; refine Kd.R_append (Kd.int .i64) (w0 := w) w.heap.size rfl (.tmp 21) (.tmp 23) 32 3 (.int .i64 0) 8 rfl Try.underlying32 info3 rfl (by decide) (by omega) u0 x0_1 8 [.int .i64 8] (fun _ => True) (fun _ => False) rfl rfl ?aP (fun _ hk => hk.elim) ?aF ?aO ?aB ?aS ?aL ?_; (case aP => exact rfl); (case aB => exact (by repeat (first | (with_reducible first | exact HB.out | apply below_alloc | apply pw_below_drewN | apply below_drew1) | exact HB.out))); (case aF => exact (fun _ _ => trivial)); (case aO => exact (by (with_reducible repeat (first | apply Kd.R_alloc | apply Kd.R_drewN | apply Kd.R_drew)); exact HO_0.out)); (case aS => exact (below_size (by repeat (first | (with_reducible first | exact HB.out | apply below_alloc | apply pw_below_drewN | apply below_drew1) | exact HB.out)))); (case aL => have := LMc13.out; omega); intro v113 w14 ho hb hg hat; rw [← Ny112.out] at ho; have n0_ := Aside0.mk (hb); have n1_ := Aside0.mk (ho); clear HB; clear HO_0; have HB := n0_; have HO114 := n1_; clear n0_ n1_; clear ho hb hg hat))
         go_roundg kj1
         case measure => have := HK1.out; have := HJ1.out; omega
         case rel => exact ⟨(y112), (wrap64 (x4_1 + 1)), (by first | rfl | (simp; done) | (simp [*]; done)), H', ⟨by have := HK1.out; have := HJ1.out; omega⟩, ⟨by (with_reducible repeat (first | apply Kd.R_alloc | apply Kd.R_drewN | apply Kd.R_drew)); exact HO114.out⟩, ⟨by repeat (first | (with_reducible first | exact HB.out | apply below_alloc | apply pw_below_drewN | apply below_drew1) | exact HB.out)⟩⟩
        ·rw [if_neg c13] at H
         exact absurd H (by simp)
   ·rw [if_neg c1] at H
    have c1b0 : decide (x4_1 < 288) = false := decide_eq_false c1
    clear c1
    have H' := Aside0.mk H
    clear H
    go_wp2
    go_loopg [1, 26] k1 (fun kq v1 v26 w' => ∃ (x1_2 : List Int) (x26_2 : Int), v26 = .int .i64 x26_2 ∧ Aside0 (sym_Fixed.l1 kq x0_1 x1_2 x26_2 = some (r1, r2)) ∧ Aside0 (kq ≤ k1) ∧ Aside0 (Kd.R (Kd.int .i64) 3 w' w.heap.size (fun k_ => some k_ ≠ (v1 : Value).ownBlock) u0 x0_1) ∧ Aside0 (Kd.R (Kd.int .i64) 3 w' w.heap.size (fun k_ => some k_ ≠ (u0 : Value).ownBlock) v1 x1_2) ∧ Aside0 (Below w.heap.size w w'))
    case atStart => exact ⟨(([] : List Int)), (0), (by first | rfl | (simp; done) | (simp [*]; done)), H', ⟨Nat.le_refl _⟩, ⟨by (with_reducible repeat (first | apply Kd.R_alloc | apply Kd.R_drewN | apply Kd.R_drew)); exact Kd.R_mono HO_0.out (fun _ hk => (by simp [Value.ownBlock]))⟩, ⟨by first | exact Kd.R_nil _ _ _ _ _ | exact Kd.N_nil _ _ _ _ _ | exact Kd.V_nil _ _ _ _ _ | exact Kd.Q_nil _ _ _ _ _ | exact Kd.S_nil _ _ _ _ _⟩, ⟨by repeat (first | (with_reducible first | exact HB.out | apply below_alloc | apply pw_below_drewN | apply below_drew1) | exact HB.out)⟩⟩
    case round =>
     clear H'
     try clear c1
     try clear c1b0
     try clear p2
     try clear c3
     try clear c3b0
     try clear c4
     try clear c5
     try clear c6
     try clear p6
     try clear c7
     try clear c7b0
     try clear c8
     try clear c8b0
     try clear c9
     try clear c11
     try clear c13
     try clear p2
     obtain ⟨x1_2, x26_2, rfl, HA, HK2, HO_0, HO_1, HB⟩ := hrel
     cases gk with
     | zero => exact absurd HA.out (by simp [sym_Fixed.l1])
     | succ k2 =>
      have H := HA.out
      clear HA
      simp only [sym_Fixed.l1] at H
      by_cases c15 : x26_2 < 32
      ·rw [if_pos c15] at H
       have c15b0 : decide (x26_2 < 32) = true := decide_eq_true c15
       clear c15
       by_cases c16 : x1_2.length < 17592186044416
       ·rw [if_pos c16] at H
        have LMc16 := Aside0.mk c16
        clear c16
        obtain ⟨y115, hy115⟩ : ∃ y_ : List Int, y_ = (x1_2 ++ [5]) := ⟨_, rfl⟩
        replace H : (sym_Fixed.l1 k2 x0_1 y115 (wrap64 (x26_2 + 1))) = some (r1, r2) := by first | (rw [hy115]; with_reducible exact H) | (have H2_ := (Option.bind_some _ _).symm.trans H; rw [hy115]; with_reducible exact H2_) | (have H2_ := (Option.bind_some _ _).symm.trans H; with_reducible exact H2_) | with_reducible exact H | (rw [hy115]; exact H) | exact H
        have Ny115 := Aside0.mk hy115
        clear hy115
        have H' := Aside0.mk H
        clear H
        go_wp2_with (first | ((with_reducible refine gate_builtin (b := .append) (xs := #[.tmp 28, .tmp 29]) rfl ?_); at_builtin; refine Kd.R_append (Kd.int .i64) (w0 := w) w.heap.size rfl (.tmp 28) (.tmp 29) 32 3 (.int .i64 0) 8 rfl Try.underlying32 info3 rfl (by decide) (by omega) u1 x1_2 5 [.int .i64 5] (fun k_ => some k_ ≠ (u0 : Value).ownBlock) (fun _ => False) rfl rfl ?aP (fun _ hk => hk.elim) ?aF ?aO ?aB ?aS ?aL ?_; (case aP => exact rfl); (case aB => exact (by repeat (first | (with_reducible first | exact HB.out | apply below_alloc | apply pw_below_drewN | apply below_drew1) | exact HB.out))); (case aF => exact (fun k_ hk => Kd.fresh' (Kd.R_lt (by (with_reducible repeat (first | apply Kd.R_alloc | apply Kd.R_drewN | apply Kd.R_drew)); exact HO_0.out)) k_ hk)); (case aO => exact (by (with_reducible repeat (first | apply Kd.R_alloc | apply Kd.R_drewN | apply Kd.R_drew)); exact HO_1.out)); (case aS => exact (below_size (by repeat (first | (with_reducible first | exact HB.out | apply below_alloc | apply pw_below_drewN | apply below_drew1) | exact HB.out)))); (case aL => have := LMc16.out; omega); intro v116 w17 ho hb hg hat; rw [← Ny115.out] at ho; have n0_ := Aside0.mk (Kd.R_after (ok := (fun _ => True)) (by (with_reducible repeat (first | apply Kd.R_alloc | apply Kd.R_drewN | apply Kd.R_drew)); exact Kd.R_mono HO_0.out (fun _ hk => ⟨trivial, hk⟩)) hg hat); have n1_ := Aside0.mk (hb); have n2_ := Aside0.mk (ho); clear HO_0; clear HB; clear HO_1; have HO_0 := n0_; have HB := n1_; have HO117 := n2_; clear n0_ n1_ n2_; clear ho hb hg hat))
        go_roundg k2
        case measure => have := HK1.out; have := HK2.out; omega
        case rel => exact ⟨(y115), (wrap64 (x26_2 + 1)), (by first | rfl | (simp; done) | (simp [*]; done)), H', ⟨by have := HK1.out; have := HK2.out; omega⟩, ⟨by (with_reducible repeat (first | apply Kd.R_alloc | apply Kd.R_drewN | apply Kd.R_drew)); exact Kd.R_mono HO_0.out (fun _ hk => hk.2)⟩, ⟨by (with_reducible repeat (first | apply Kd.R_alloc | apply Kd.R_drewN | apply Kd.R_drew)); exact HO117.out⟩, ⟨by repeat (first | (with_reducible first | exact HB.out | apply below_alloc | apply pw_below_drewN | apply below_drew1) | exact HB.out)⟩⟩
       ·rw [if_neg c16] at H
        exact absurd H (by simp)
      ·rw [if_neg c15] at H
       have c15b0 : decide (x26_2 < 32) = false := decide_eq_false c15
       clear c15
       simp only [Option.some.injEq, Prod.mk.injEq] at H
       obtain ⟨rfl, rfl⟩ := H
       go_wp2
       go_ret2
       exact ⟨_, _, by first | rfl | (simp [errW_none, errW_some] <;> rfl) | (simp [*, errW_none, errW_some] <;> rfl), by (with_reducible repeat (first | apply Kd.R_alloc | apply Kd.R_drewN | apply Kd.R_drew)); exact HO_0.out, by (with_reducible repeat (first | apply Kd.R_alloc | apply Kd.R_drewN | apply Kd.R_drew)); exact HO_1.out, by repeat (first | (with_reducible first | exact HB.out | apply below_alloc | apply pw_below_drewN | apply below_drew1) | exact HB.out)⟩

/-! ### canon_Open: function 94 (by hand) -/
/-- What stands in a book's block: how many codes there are of each length, the first one, the symbols, each row in a block of its own. -/
def BookAt (W : World) (base g : Nat) (F : Nat → Int) (S : Nat → List Int) : Prop :=
 ∃ (cs : Array Value) (V : Nat → Value), W.heap[g]? = some (.cells cs 120 (0, 0)) ∧ base ≤ g ∧ cs.size = 51 ∧ (∀ n, n < 17 → cs[n]? = some (.int .i64 (S n).length)) ∧ (∀ n, n < 17 → cs[17 + n]? = some (.int .i64 (F n))) ∧
  (∀ n, n < 17 → cs[34 + n]? = some (V n) ∧ Kd.R (Kd.int .i64) 3 W base (fun _ => True) (V n) (S n)) ∧ (∀ n m, n < 17 → m < 17 → n ≠ m → ∀ k, (V n).ownBlock = some k → (V m).ownBlock ≠ some k)
theorem brow_stay {W w' : World} {base : Nat} {v : Value} {xs : List Int} (h : Kd.R (Kd.int .i64) 3 W base (fun _ => True) v xs) (hm : ∀ k, v.ownBlock = some k → w'.heap[k]? = W.heap[k]?) : Kd.R (Kd.int .i64) 3 w' base (fun _ => True) v xs :=
 Kd.R_of_own (own_move (Kd.own_of_R h) hm) (fun _ _ => trivial)
theorem brow_cells {W : World} {base : Nat} {v : Value} {xs : List Int} (h : Kd.R (Kd.int .i64) 3 W base (fun _ => True) v xs) {k : Nat} (hk : v.ownBlock = some k) : ∃ cells, W.heap[k]? = some (.cells cells 3 (0, 0)) := own_typed (Kd.own_of_R h) k hk
theorem BookAt.below {W w' : World} {base g : Nat} {F : Nat → Int} {S : Nat → List Int} (h : BookAt W base g F S) (hb : Below W.heap.size W w') : BookAt w' base g F S := by
 obtain ⟨cs, V, h1, h2, h3, h4, h5, h6, h7⟩ := h
 exact ⟨cs, V, blk_below h1 hb, h2, h3, h4, h5, fun n hn => ⟨(h6 n hn).1, Kd.R_below (h6 n hn).2 hb⟩, h7⟩
theorem BookAt.many {W : World} {base g : Nat} {F : Nat → Int} {S : Nat → List Int} (h : BookAt W base g F S) (n : Nat) (hn : n < 17) : W.cell? ⟨g, n, none⟩ = some (.int .i64 (S n).length) ∧ W.frozen? ⟨g, n, none⟩ = false := by
 obtain ⟨cs, V, h1, h2, h3, h4, h5, h6, h7⟩ := h
 exact ⟨(blk_cell h1 n).trans (h4 n hn), blk_frozen h1 n⟩
theorem BookAt.first {W : World} {base g : Nat} {F : Nat → Int} {S : Nat → List Int} (h : BookAt W base g F S) (n : Nat) (hn : n < 17) : W.cell? ⟨g, 17 + n, none⟩ = some (.int .i64 (F n)) ∧ W.frozen? ⟨g, 17 + n, none⟩ = false := by
 obtain ⟨cs, V, h1, h2, h3, h4, h5, h6, h7⟩ := h
 exact ⟨(blk_cell h1 _).trans (h5 n hn), blk_frozen h1 _⟩
theorem BookAt.syms {W : World} {base g : Nat} {F : Nat → Int} {S : Nat → List Int} (h : BookAt W base g F S) (n : Nat) (hn : n < 17) : ∃ A c, W.cell? ⟨g, 34 + n, none⟩ = some (.slice A (S n).length c) ∧ (S n).length ≤ c ∧ Kd.C (Kd.int .i64) W A (S n).length (S n) := by
 obtain ⟨cs, V, h1, h2, h3, h4, h5, h6, h7⟩ := h
 obtain ⟨A, c, e, hl, hc⟩ := Kd.R_reads (h6 n hn).2
 exact ⟨A, c, by rw [blk_cell h1 _, (h6 n hn).1, e], hl, hc⟩
theorem brow_far {W : World} {base g : Nat} {cs : Array Value} (h1 : W.heap[g]? = some (.cells cs 120 (0, 0))) {v : Value} {xs : List Int} (h : Kd.R (Kd.int .i64) 3 W base (fun _ => True) v xs) (i : Nat) (u : Value) : Kd.R (Kd.int .i64) 3 (W.setCell ⟨g, i, none⟩ u) base (fun _ => True) v xs := by
 refine brow_stay h (fun k hk => ?_)
 obtain ⟨cells, hc⟩ := brow_cells h hk
 exact Below.heap_setCell W ⟨g, i, none⟩ u k (by rintro rfl; rw [h1] at hc; cases hc)
/-- The half-step between: the count of one length is one more than its row is long. -/
def BookMid (W : World) (base g : Nat) (F : Nat → Int) (S : Nat → List Int) (x : Nat) : Prop :=
 ∃ (cs : Array Value) (V : Nat → Value), W.heap[g]? = some (.cells cs 120 (0, 0)) ∧ base ≤ g ∧ cs.size = 51 ∧ (∀ n, n < 17 → cs[n]? = some (.int .i64 (if n = x then ((S n).length + 1 : Nat) else (S n).length : Nat))) ∧ (∀ n, n < 17 → cs[17 + n]? = some (.int .i64 (F n))) ∧
  (∀ n, n < 17 → cs[34 + n]? = some (V n) ∧ Kd.R (Kd.int .i64) 3 W base (fun _ => True) (V n) (S n)) ∧ (∀ n m, n < 17 → m < 17 → n ≠ m → ∀ k, (V n).ownBlock = some k → (V m).ownBlock ≠ some k)
theorem BookAt.count {W : World} {base g : Nat} {F : Nat → Int} {S : Nat → List Int} (h : BookAt W base g F S) {x : Nat} (hx : x < 17) : BookMid (W.setCell ⟨g, x, none⟩ (.int .i64 ((S x).length + 1))) base g F S x := by
 rw [show ((S x).length : Int) + 1 = ((S x).length + 1 : Nat) from rfl]
 obtain ⟨cs, V, h1, h2, h3, h4, h5, h6, h7⟩ := h
 refine ⟨cs.setIfInBounds x (.int .i64 ((S x).length + 1 : Nat)), V, blk_set h1 x _, h2, by simpa using h3, fun n hn => ?_, fun n hn => ?_, fun n hn => ⟨?_, brow_far h1 (h6 n hn).2 x _⟩, h7⟩
 ·rw [Array.getElem?_setIfInBounds]
  by_cases hnx : x = n
  ·subst hnx; rw [if_pos rfl, if_pos (by omega), if_pos rfl]
  ·rw [if_neg hnx, if_neg (fun h => hnx h.symm), h4 n hn]
 ·rw [Array.getElem?_setIfInBounds, if_neg (by omega), h5 n hn]
 ·rw [Array.getElem?_setIfInBounds, if_neg (by omega), (h6 n hn).1]
/-- The symbol is appended to its row, the row stored. -/
theorem BookMid.push {W w2 : World} {base g : Nat} {F : Nat → Int} {S : Nat → List Int} {x : Nat} (h : BookMid W base g F S x) (hx : x < 17) {v v' : Value} {a : Int} (hv : W.cell? ⟨g, 34 + x, none⟩ = some v)
  (hgr : ∀ k, k < W.heap.size → some k ≠ v.ownBlock → w2.heap[k]? = W.heap[k]?) (hr' : Kd.R (Kd.int .i64) 3 w2 base (fun _ => True) v' (S x ++ [a])) (hat : v'.ownBlock = v.ownBlock ∨ ∃ b, v'.ownBlock = some b ∧ W.heap.size ≤ b) :
  BookAt (w2.setCell ⟨g, 34 + x, none⟩ v') base g F (fun n => if n = x then S x ++ [a] else S n) := by
 obtain ⟨cs, V, h1, h2, h3, h4, h5, h6, h7⟩ := h
 have hvx : v = V x := by
  have := (blk_cell h1 (34 + x)).symm.trans hv
  rw [(h6 x hx).1] at this
  exact (Option.some.inj this).symm
 subst hvx
 have hg2 : w2.heap[g]? = some (.cells cs 120 (0, 0)) := by
  rw [hgr g (blk_lt h1) (fun e => by
   obtain ⟨cells, hc⟩ := brow_cells (h6 x hx).2 e.symm
   rw [h1] at hc; cases hc)]
  exact h1
 have hnew : ∀ n, n < 17 → n ≠ x → ∀ k, (V n).ownBlock = some k → v'.ownBlock ≠ some k := by
  intro n hn hne k hk hk'
  have hlt := Kd.R_lt (h6 n hn).2 k hk
  rcases hat with e | ⟨b, e, hb⟩
  ·rw [e] at hk'; exact h7 n x hn hx hne k hk hk'
  ·rw [e] at hk'; injection hk' with hk'; omega
 refine ⟨cs.setIfInBounds (34 + x) v', fun n => if n = x then v' else V n, blk_set hg2 _ _, h2, by simpa using h3, fun n hn => ?_, fun n hn => ?_, fun n hn => ⟨?_, ?_⟩, fun n m hn hm hne k hk => ?_⟩
 ·dsimp only
  rw [Array.getElem?_setIfInBounds, if_neg (by omega), h4 n hn]
  by_cases hnx : n = x
  ·rw [if_pos hnx, if_pos hnx, hnx]; simp
  ·rw [if_neg hnx, if_neg hnx]
 ·rw [Array.getElem?_setIfInBounds, if_neg (by omega), h5 n hn]
 ·dsimp only
  rw [Array.getElem?_setIfInBounds]
  by_cases hnx : n = x
  ·subst hnx; rw [if_pos rfl, if_pos (by omega), if_pos rfl]
  ·rw [if_neg (by omega), if_neg hnx, (h6 n hn).1]
 ·dsimp only
  by_cases hnx : n = x
  ·rw [if_pos hnx, if_pos hnx]; exact brow_far hg2 hr' _ _
  ·rw [if_neg hnx, if_neg hnx]
   refine brow_far hg2 (brow_stay (h6 n hn).2 (fun k hk => ?_)) _ _
   exact hgr k (Kd.R_lt (h6 n hn).2 k hk) (fun e => h7 n x hn hx hnx k hk e.symm)
 ·dsimp only at hk ⊢
  by_cases hnx : n = x
  ·have hmx : m ≠ x := fun e => hne (hnx.trans e.symm)
   rw [if_pos hnx] at hk
   rw [if_neg hmx]
   exact fun hk' => hnew m hm hmx k hk' hk
  ·rw [if_neg hnx] at hk
   by_cases hmx : m = x
   ·rw [if_pos hmx]; exact hnew n hn hnx k hk
   ·rw [if_neg hmx]; exact h7 n m hn hm hne k hk
theorem BookMid.count {W : World} {base g : Nat} {F : Nat → Int} {S : Nat → List Int} {x : Nat} (h : BookMid W base g F S x) (hx : x < 17) : ∃ v, W.cell? ⟨g, 34 + x, none⟩ = some v ∧ W.frozen? ⟨g, 34 + x, none⟩ = false ∧ (∃ cs, W.heap[g]? = some (.cells cs 120 (0, 0))) ∧ base ≤ g ∧ some g ≠ v.ownBlock ∧ Kd.R (Kd.int .i64) 3 W base (fun _ => True) v (S x) := by
 obtain ⟨cs, V, h1, h2, h3, h4, h5, h6, h7⟩ := h
 exact ⟨V x, (blk_cell h1 _).trans (h6 x hx).1, blk_frozen h1 _, ⟨cs, h1⟩, h2, Kd.R_ne (h6 x hx).2 h1 (by decide), (h6 x hx).2⟩
theorem BookAt.put {W : World} {base g : Nat} {F : Nat → Int} {S : Nat → List Int} (h : BookAt W base g F S) {x : Nat} (hx : x < 17) (y : Int) : BookAt (W.setCell ⟨g, 17 + x, none⟩ (.int .i64 y)) base g (fun n => if n = x then y else F n) S := by
 obtain ⟨cs, V, h1, h2, h3, h4, h5, h6, h7⟩ := h
 refine ⟨cs.setIfInBounds (17 + x) (.int .i64 y), V, blk_set h1 _ _, h2, by simpa using h3, fun n hn => ?_, fun n hn => ?_, fun n hn => ⟨?_, brow_far h1 (h6 n hn).2 _ _⟩, h7⟩
 ·rw [Array.getElem?_setIfInBounds, if_neg (by omega), h4 n hn]
 ·dsimp only
  rw [Array.getElem?_setIfInBounds]
  by_cases hnx : n = x
  ·subst hnx; rw [if_pos rfl, if_pos (by omega), if_pos rfl]
  ·rw [if_neg (by omega), if_neg hnx, h5 n hn]
 ·rw [Array.getElem?_setIfInBounds, if_neg (by omega), (h6 n hn).1]
theorem BookAt.made (W : World) (base : Nat) (hb : base ≤ W.heap.size) : BookAt (W.alloc (.cells (Array.replicate 34 (.int .i64 0) ++ Array.replicate 17 (.slice none 0 0)) 120 (0, 0))) base W.heap.size (fun _ => 0) (fun _ => []) := by
 refine ⟨_, fun _ => .slice none 0 0, blk_new W _, hb, by simp, fun n hn => ?_, fun n hn => ?_, fun n hn => ⟨?_, Kd.R_nil _ _ _ _ _⟩, fun n m _ _ _ k hk => by simp [Value.ownBlock] at hk⟩
 ·rw [Array.getElem?_append_left (by simp; omega), Array.getElem?_replicate, if_pos (by omega)]; rfl
 ·rw [Array.getElem?_append_left (by simp; omega), Array.getElem?_replicate, if_pos (by omega)]
 ·rw [Array.getElem?_append_right (by simp), Array.getElem?_replicate, if_pos (by simp; omega)]
/-- The symbols of a length among the first i, in their order. -/
def symsTo (l : List Int) (i n : Nat) : List Int := ((List.range i).filter (fun j => l.getD j 0 == (n : Int) && decide (0 < n))).map (fun j : Nat => (j : Int))
theorem symsTo_len (l : List Int) (i n : Nat) : (symsTo l i n).length ≤ i := by
 unfold symsTo
 rw [List.length_map]
 exact Nat.le_trans (List.length_filter_le _ _) (by simp)
theorem symsTo_step (l : List Int) (i n : Nat) : symsTo l (i + 1) n = symsTo l i n ++ if l.getD i 0 = (n : Int) ∧ 0 < n then [(i : Int)] else [] := by
 unfold symsTo
 rw [List.range_succ, List.filter_append, List.map_append]
 congr 1
 by_cases h : l.getD i 0 = (n : Int) ∧ 0 < n
 ·rw [if_pos h, List.filter_cons_of_pos (by rw [h.1]; simp [h.2])]; rfl
 ·rw [if_neg h, List.filter_cons_of_neg (by simp only [Bool.and_eq_true, beq_iff_eq, decide_eq_true_eq]; exact h)]; rfl
theorem symsTo_succ (l : List Int) (i x : Nat) (hx : l.getD i 0 = (x : Int)) (h0 : 0 < x) : symsTo l (i + 1) = fun n => if n = x then symsTo l i x ++ [(i : Int)] else symsTo l i n := by
 funext n
 rw [symsTo_step, hx]
 by_cases hn : n = x
 ·subst hn; rw [if_pos rfl, if_pos ⟨rfl, h0⟩]
 ·rw [if_neg hn, if_neg (by omega), List.append_nil]
theorem symsTo_none (l : List Int) (i : Nat) (hx : l.getD i 0 = 0) : symsTo l (i + 1) = symsTo l i := by
 funext n
 rw [symsTo_step, hx, if_neg (by omega), List.append_nil]
/-- The first code of each length. -/
def firstOf (c : Nat → Nat) : Nat → Nat
 | 0 => 0
 | 1 => 0
 | n + 2 => 2 * (firstOf c (n + 1) + c (n + 1))
theorem firstOf_le (c : Nat → Nat) (T : Nat) (hc : ∀ n, c n ≤ T) : ∀ n, firstOf c (n + 1) + 2 * T ≤ 2 ^ (n + 1) * T
 | 0 => by simp [firstOf]
 | n + 1 => by
  have ih := firstOf_le c T hc n
  have h1 := hc (n + 1)
  simp only [firstOf]
  rw [show 2 ^ (n + 1 + 1) * T = 2 * (2 ^ (n + 1) * T) from by rw [Nat.pow_succ 2 (n + 1), Nat.mul_comm _ 2, Nat.mul_assoc]]
  omega
theorem BookMid.below {W w' : World} {base g : Nat} {F : Nat → Int} {S : Nat → List Int} {x : Nat} (h : BookMid W base g F S x) (hb : Below W.heap.size W w') : BookMid w' base g F S x := by
 obtain ⟨cs, V, h1, h2, h3, h4, h5, h6, h7⟩ := h
 exact ⟨cs, V, blk_below h1 hb, h2, h3, h4, h5, fun n hn => ⟨(h6 n hn).1, Kd.R_below (h6 n hn).2 hb⟩, h7⟩
/-- What Open makes of lengths. -/
def openF (l : List Int) (n : Nat) : Nat := firstOf (fun n => (symsTo l l.length n).length) n
set_option maxHeartbeats 8000000 in
set_option maxRecDepth 100000 in
theorem open_book (A0 : Option Addr) (c0 : Nat) (l0 : List Int) (w : World) (hr0 : Kd.C (Kd.int .i64) w A0 l0.length l0) (hc0 : l0.length ≤ c0) (hx : ∀ x ∈ l0, 0 ≤ x ∧ x ≤ 15) (hl : l0.length ≤ 1000000) :
  Calls Try.prog 94 #[.slice A0 l0.length c0] w fun e w' => ∃ g, e = .returned (.pointer (some ⟨g, 0, none⟩)) ∧ BookAt w' w.heap.size g (fun n => (openF l0 n : Int)) (symsTo l0 l0.length) ∧ Below w.heap.size w w' := by
 have HR := Aside0.mk hr0
 have HC := Aside0.mk hc0
 have HX := Aside0.mk hx
 have HM := Aside0.mk (BookAt.made w w.heap.size (Nat.le_refl _))
 have HB0 := Aside0.mk (below_alloc (Below.refl w.heap.size w) (.cells (Array.replicate 34 (.int .i64 0) ++ Array.replicate 17 (.slice none 0 0)) 120 (0, 0)))
 clear hr0 hc0 hx
 go_enter Try.func94, Try.ntmps94
 go_wp2_with fail
 go_loopg [4, 5, 11] l0.length (fun kq v4 v5 v11 w' => ∃ (i : Nat), v11 = .int .i64 i ∧ i ≤ l0.length ∧ Aside0 (kq + i = l0.length) ∧ Aside0 (BookAt w' w.heap.size w.heap.size (fun _ => 0) (symsTo l0 i)) ∧ Aside0 (Below w.heap.size w w'))
 case atStart => exact ⟨0, rfl, Nat.zero_le _, ⟨rfl⟩, HM, HB0⟩
 case round =>
  obtain ⟨i, rfl, hi, HG, HBk, HBl⟩ := hrel
  clear HM HB0
  by_cases hlt : i < l0.length
  ·obtain ⟨ad, rfl, hcell⟩ := Kd.at_int (Kd.C_below HR.out HBl.out) (i : Int) (by omega) (by omega)
   rw [Int.toNat_natCast] at hcell
   have hxi : 0 ≤ rd l0 (i : Int) ∧ rd l0 (i : Int) ≤ 15 := by
    unfold rd
    rw [Int.toNat_natCast, List.getD_eq_getElem?_getD, List.getElem?_eq_getElem hlt]
    exact HX.out _ (List.getElem_mem _)
   obtain ⟨x, hxe⟩ := Int.eq_ofNat_of_zero_le hxi.1
   rw [hxe] at hcell hxi
   have hgd : l0.getD i 0 = (x : Int) := by rw [← hxe]; unfold rd; rw [Int.toNat_natCast]
   have HE := Aside0.mk hgd
   clear hxe hgd
   have hx15 : x ≤ 15 := by omega
   clear hxi
   by_cases h0 : x = 0
   ·subst h0
    go_wp2_with fail
    go_roundg (gk - 1)
    case measure => have := HG.out; omega
    case rel => exact ⟨i + 1, by go_num, by omega, ⟨by have := HG.out; omega⟩, ⟨by rw [symsTo_none l0 i HE.out]; exact HBk.out⟩, HBl⟩
   ·have h0' : 0 < x := by omega
    obtain ⟨g, hg⟩ : ∃ g, g = w.heap.size := ⟨_, rfl⟩
    obtain ⟨hm1, hm2⟩ := HBk.out.many x (by omega)
    rw [← hg] at HBk
    rw [← hg] at hm1 hm2
    rw [← hg]
    have hlen := symsTo_len l0 i x
    have f1 : IntKind.i64.wrap (((symsTo l0 i x).length : Int) + 1) = (((symsTo l0 i x).length + 1 : Nat) : Int) := by rw [IntWalk.i64_in _ (by omega)]; omega
    have HGg := Aside0.mk hg
    clear hg hlen
    go_wp2_with fail
    go_region
    go_wp2_with fail
    have HBm : Aside0 (BookMid (wr.setCell ⟨g, x, none⟩ (.int .i64 ((symsTo l0 i x).length + 1))).drew g g (fun _ => 0) (symsTo l0 i) x) := ⟨(HBk.out.count (x := x) (by omega)).below ((Below.refl _ _).drew)⟩
    have HBl1 : Aside0 (Below w.heap.size w (wr.setCell ⟨g, x, none⟩ (.int .i64 ((symsTo l0 i x).length + 1))).drew) := ⟨(HBl.out.setCell (p := ⟨g, x, none⟩) (by show w.heap.size ≤ g; have := HGg.out; omega) _).drew⟩
    clear hm1 hm2 f1 HBk HBl hcell
    generalize (wr.setCell ⟨g, x, none⟩ (.int .i64 ((symsTo l0 i x).length + 1))).drew = w1 at HBm HBl1 ⊢
    obtain ⟨v, hv1, hv2, ⟨cs, hv3⟩, hv4, hv5, hv6⟩ := HBm.out.count (by omega)
    have HK := Aside0.mk hv3
    have HV := Aside0.mk (And.intro hv4 (And.intro hv5 hv6))
    have HSz := Aside0.mk HBl1.out.size
    have hlen := symsTo_len l0 i x
    have hx17 : (x : Int) < 17 := by omega
    have hx0 : (0 : Int) ≤ (x : Int) := by omega
    clear hv3 hv4 hv5 hv6
    have hv1a : (w1.alloc (.cells #[.int .i64 (i : Int)] 3)).cell? ⟨g, 34 + x, none⟩ = some v := pw_cell_below (below_alloc (Below.refl _ _) _) hv1
    go_region_law
     ((refine Kd.R_append_step (Kd.int .i64) (w0 := w) g rfl (.tmp 35) (.tmp 37) 32 3 (.int .i64 0) 8 rfl Try.underlying32 info3 rfl (by decide) (by omega) v (symsTo l0 i x) (i : Int) [.int .i64 (i : Int)] (fun _ => True) (fun _ => False) rfl rfl rfl (fun _ hk => hk.elim) (fun _ _ => trivial) (Kd.R_drew HV.out.2.2) (HGg.out ▸ HBl1.out.drew) (by have := HSz.out; have := HGg.out; simp; omega) (by omega) ?_; intro v1 w2 ho hb hg hat; (obtain ⟨A1, c1, e1⟩ := Kd.R_slice ho); (subst e1); (have hcz := cell_grown hg (show w1.drew.cell? _ = some v from hv1) HV.out.2.1); (have hfz := blk_frozen (blk_grown (show w1.drew.heap[g]? = _ from HK.out) hg HV.out.2.1) (34 + x)); (have HN := Aside0.mk (And.intro ho (And.intro hb (And.intro hg hat)))); clear ho hb hg hat))
    all_goals
     go_wp2_with fail
     have hg := HGg.out
     subst hg
     go_roundg (gk - 1)
     case measure => have := HG.out; omega
     case rel =>
      have hP := (HBm.out.below ((Below.refl _ _).drew)).push (by omega) hv1 (fun k hk hne => HN.out.2.2.1.block k hk hne) HN.out.1 HN.out.2.2.2
      rw [List.length_append, List.length_singleton, ← symsTo_succ l0 i x HE.out h0'] at hP
      exact ⟨i + 1, by go_num, by omega, ⟨by have := HG.out; omega⟩, ⟨hP⟩, ⟨HN.out.2.1.setCell (p := ⟨w.heap.size, 34 + x, none⟩) (Nat.le_refl _) _⟩⟩
  ·have hi2 : i = l0.length := by omega
   subst hi2
   obtain ⟨g, hg⟩ : ∃ g, g = w.heap.size := ⟨_, rfl⟩
   obtain ⟨S, hS⟩ : ∃ S, S = symsTo l0 l0.length := ⟨_, rfl⟩
   rw [← hg, ← hS] at HBk
   rw [← hg]
   have HGg := Aside0.mk hg
   have HSl : Aside0 (∀ n, (S n).length ≤ 1000000) := ⟨fun n => by rw [hS]; exact Nat.le_trans (symsTo_len _ _ _) hl⟩
   have HSe := Aside0.mk hS
   have HFl : Aside0 (∀ n, n ≤ 16 → firstOf (fun n => (S n).length) n ≤ 65536 * 1000000) := ⟨fun n hn => by
    cases n with
    | zero => simp [firstOf]
    | succ n =>
     have h1 := firstOf_le (fun n => (S n).length) 1000000 HSl.out n
     have h2 : 2 ^ (n + 1) ≤ 2 ^ 16 := Nat.pow_le_pow_right (by decide) hn
     have h3 := Nat.mul_le_mul_right 1000000 h2
     omega⟩
   have HBk0 : Aside0 (BookAt wr g g (fun m => if m ≤ 1 then (firstOf (fun n => (S n).length) m : Int) else 0) S) := ⟨by
    have e : (fun _ => 0 : Nat → Int) = (fun m => if m ≤ 1 then (firstOf (fun n => (S n).length) m : Int) else 0) := by
     funext m
     by_cases hm : m ≤ 1
     ·rw [if_pos hm]
      have : m = 0 ∨ m = 1 := by omega
      rcases this with rfl | rfl <;> rfl
     ·rw [if_neg hm]
    rw [← e]
    exact HBk.out⟩
   clear hg hlt hi hS HBk
   go_wp2_with fail
   go_loopg [6] 16 (fun kq v6 w' => ∃ (n : Nat), v6 = .int .i64 n ∧ 1 ≤ n ∧ n ≤ 16 ∧ Aside0 (kq + n = 17) ∧ Aside0 (BookAt w' g g (fun m => if m ≤ n then (firstOf (fun n => (S n).length) m : Int) else 0) S) ∧ Aside0 (Below w.heap.size w w'))
   case atStart => exact ⟨1, rfl, by omega, by omega, ⟨rfl⟩, HBk0, HBl⟩
   case round =>
    clear HBk0 HBl
    obtain ⟨n, rfl, hn1, hn2, HG2, HBk, HBl⟩ := hrel
    by_cases hlt : n < 16
    ·obtain ⟨hm1, hm2⟩ := HBk.out.many n (by omega)
     obtain ⟨hf1, hf2⟩ := HBk.out.first n (by omega)
     obtain ⟨hs1, hs2⟩ := HBk.out.first (n + 1) (by omega)
     rw [if_pos (Nat.le_refl n)] at hf1
     have hSl := HSl.out n
     have hFl := HFl.out n (by omega)
     have hn16 : (n : Int) ≤ 15 := by omega
     obtain ⟨c, hc⟩ : ∃ c, c = (S n).length := ⟨_, rfl⟩
     obtain ⟨f, hf⟩ : ∃ f, f = firstOf (fun n => (S n).length) n := ⟨_, rfl⟩
     rw [← hc] at hm1 hSl
     rw [← hf] at hf1 hFl
     have HCF := Aside0.mk (And.intro hc hf)
     have f1 : IntKind.i64.wrap ((n : Int) + 1) = ((n + 1 : Nat) : Int) := by rw [IntWalk.i64_in _ (by omega)]; omega
     have f2 : IntKind.i64.wrap ((f : Int) + (c : Int)) = ((f + c : Nat) : Int) := by rw [IntWalk.i64_in _ (by omega)]; omega
     have f3 : IntKind.i64.wrap (2 * ((f + c : Nat) : Int)) = ((2 * (f + c) : Nat) : Int) := by rw [IntWalk.i64_in _ (by omega)]; omega
     have f4 : IntKind.i64.wrap (2 * ((f : Int) + (c : Int))) = ((2 * (f + c) : Nat) : Int) := by rw [IntWalk.i64_in _ (by omega)]; omega
     clear hc hf
     go_wp2_with fail
     go_region
     go_wp2_with fail
     go_roundg (gk - 1)
     case measure => have := HG2.out; omega
     case rel =>
      have hP := HBk.out.put (x := n + 1) (by omega) (2 * ((f : Int) + (c : Int)))
      have e : (fun m => if m = n + 1 then 2 * ((f : Int) + (c : Int)) else (fun m => if m ≤ n then (firstOf (fun n => (S n).length) m : Int) else 0) m) = (fun m => if m ≤ n + 1 then (firstOf (fun n => (S n).length) m : Int) else 0) := by
       funext m
       dsimp only
       by_cases hm : m = n + 1
       ·subst hm
        rw [if_pos rfl, if_pos (Nat.le_refl _)]
        obtain ⟨k, rfl⟩ : ∃ k, n = k + 1 := ⟨n - 1, by omega⟩
        obtain ⟨hc, hf⟩ := HCF.out
        rw [show firstOf (fun n => (S n).length) (k + 1 + 1) = 2 * (firstOf (fun n => (S n).length) (k + 1) + (S (k + 1)).length) from rfl, ← hf, ← hc]
        omega
       ·rw [if_neg hm]
        by_cases hm2 : m ≤ n
        ·rw [if_pos hm2, if_pos (by omega)]
        ·rw [if_neg hm2, if_neg (by omega)]
      rw [e] at hP
      exact ⟨n + 1, by go_num, by omega, by omega, ⟨by have := HG2.out; omega⟩, ⟨hP.below ((Below.refl _ _).drew)⟩, ⟨(HBl.out.setCell (p := ⟨g, 17 + (n + 1), none⟩) (by show w.heap.size ≤ g; have := HGg.out; omega) _).drew⟩⟩
    ·have hn : n = 16 := by omega
     subst hn
     go_wp2_with fail
     go_ret
     have hg := HGg.out
     have hS := HSe.out
     subst hg hS
     obtain ⟨cs, V, h1, h2, h3, h4, h5, h6, h7⟩ := HBk.out
     refine ⟨_, rfl, ⟨cs, V, h1, h2, h3, h4, fun n hn => ?_, h6, h7⟩, HBl.out⟩
     rw [h5 n hn]
     dsimp only
     rw [if_pos (by omega)]
     rfl

end Go.Proofs.Ytlffpaploefljaa.P
