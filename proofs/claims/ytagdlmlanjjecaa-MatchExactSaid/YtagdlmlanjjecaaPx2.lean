-- Written by a program of this session out of the translation. Lean checks it.
import Derived.Test.YtagdlmlanjjecaaPx0
namespace Go.Proofs.Ytagdlmlanjjecaa.P
open Go.RowKit Go.Proofs.YtagdlmlanjjecaaW.PrintWords Go.Proofs.YtagdlmlanjjecaaW.PrintLast Go.Proofs.YtagdlmlanjjecaaW.PrintMore
attribute [local go_sem] max2_int min2_int max_two min_two max_three min_three max_four min_four   -- for this text's walks alone
set_option linter.unusedVariables false
set_option linter.unusedSimpArgs false

-- PART
/-! ### match_seen_add: function 29 (by hand) -/
open Go.WideMaps (ArrKey KeyLaw keyOf_pair)
open Go.ChangeMaps (setBlock heap_setBlock_same heap_setBlock_other)
open Go.MapKept (Stamped)

def key3 (x y z : Int) : Value := .agg #[.int .u8 x, .int .u8 y, .int .u8 z]
theorem laidOut3 : laidOutB Try.prog = true := by kernel_rfl
theorem arr3 : ArrKey Try.prog 57 5 3 := ⟨by kernel_rfl, by kernel_rfl, by kernel_rfl, by kernel_rfl⟩
theorem wide3 : (match Try.prog.underlying 57 with | some (.array _ _) | some (.struct _) => true | _ => false) = true := by kernel_rfl
theorem law3 : KeyLaw Try.prog 57 := deep_law_laid laidOut3 (m := 2) (by omega) (of_decide_eq_true (by kernel_rfl)) (by kernel_rfl) wide3
theorem keyOf3 {x y z : Int} (wx : (Lit.int .u8 x).wf = true) (wy : (Lit.int .u8 y).wf = true) (wz : (Lit.int .u8 z).wf = true) : keyOf Try.prog 57 (key3 x y z) = some (.string (keyBytes [.int .u8 x, .int .u8 y, .int .u8 z])) := by
  have he : Try.prog.underlying 5 = some (.int .u8) := Try.underlying5
  have hsz : ∃ m, Try.prog.types.size = m + 1 := by
    have h : 0 < Try.prog.types.size := of_decide_eq_true (by kernel_rfl)
    exact ⟨Try.prog.types.size - 1, by omega⟩
  have hkt := arr3.keyType hsz
  obtain ⟨m, hm⟩ := hsz
  unfold keyOf key3
  simp only [arr3.hu]
  rw [if_pos (by simp [hkt, Value.formed, arr3.hu, arr3.size]), hm]
  unfold Program.keyLits
  simp only [arr3.hu, Value.cells]
  rw [if_pos (by rw [arr3.size]; rfl), show List.range 3 = [0, 1, 2] from rfl, List.mapM_cons, List.mapM_cons, List.mapM_cons, List.mapM_nil]
  simp [arr3.one, Program.keyLits, he, wx, wy, wz]
theorem zero55 (u : World) : (zeroValue 55).run Try.prog u = .ok (.slice none 0 0) u := by kernel_rfl

/-- Three bytes as a key. -/
def WF3 (x y z : Int) : Prop := (Lit.int .u8 x).wf = true ∧ (Lit.int .u8 y).wf = true ∧ (Lit.int .u8 z).wf = true
theorem key3_inj {x y z x' y' z' : Int} (h : key3 x y z = key3 x' y' z') : x = x' ∧ y = y' ∧ z = z' := by
  unfold key3 at h
  simp at h
  exact h
/-- Block g is a map of at most n entries from three bytes to rows of places, each in a row of its own from base on; G tells them. -/
def Seen (W : World) (base g n : Nat) (G : Int → Int → Int → List Int) : Prop :=
  ∃ es clock, W.heap[g]? = some (.map es clock) ∧ base ≤ g ∧ Stamped es clock ∧ es.size ≤ n ∧
    (∀ e ∈ es.toList, ∃ x y z, WF3 x y z ∧ e.key = key3 x y z ∧ G x y z ≠ [] ∧ Kd.R (Kd.int .i64) 3 W base (fun _ => True) e.val (G x y z)) ∧
    (∀ e1 ∈ es.toList, ∀ e2 ∈ es.toList, e1.key ≠ e2.key → ∀ k, e1.val.ownBlock = some k → e2.val.ownBlock ≠ some k) ∧
    (∀ x y z, WF3 x y z → G x y z ≠ [] → ∃ e ∈ es.toList, e.key = key3 x y z) ∧ (∀ x y z, (G x y z).length ≤ n)
theorem row_stay {W w' : World} {base : Nat} {v : Value} {xs : List Int} (h : Kd.R (Kd.int .i64) 3 W base (fun _ => True) v xs) (hm : ∀ k, v.ownBlock = some k → w'.heap[k]? = W.heap[k]?) : Kd.R (Kd.int .i64) 3 w' base (fun _ => True) v xs :=
  Kd.R_of_own (own_move (Kd.own_of_R h) hm) (fun _ _ => trivial)
theorem row_cells {W : World} {base : Nat} {v : Value} {xs : List Int} (h : Kd.R (Kd.int .i64) 3 W base (fun _ => True) v xs) {k : Nat} (hk : v.ownBlock = some k) : ∃ cells, W.heap[k]? = some (.cells cells 3 (0, 0)) := own_typed (Kd.own_of_R h) k hk
theorem seen_made (W : World) (base : Nat) (hb : base ≤ W.heap.size) : Seen (W.alloc (.map #[] 0)) base W.heap.size 0 (fun _ _ _ => []) :=
  ⟨#[], 0, (MapKept.heap_alloc W _).1, hb, MapKept.stamped_empty 0, Nat.le_refl _, fun e he => by simp at he, fun e he => by simp at he, fun x y z _ h => absurd rfl h, fun _ _ _ => Nat.le_refl _⟩
/-- What is not of the map, nor of its rows, may turn. -/
theorem Seen.stay {W w' : World} {base g n : Nat} {G : Int → Int → Int → List Int} (h : Seen W base g n G) (hm : ∀ k, base ≤ k → k < W.heap.size → k = g ∨ (∃ cells, W.heap[k]? = some (.cells cells 3 (0, 0))) → w'.heap[k]? = W.heap[k]?) : Seen w' base g n G := by
  obtain ⟨es, clock, hg, hb, hs, hn, he, ha, hall, hlen⟩ := h
  refine ⟨es, clock, ?_, hb, hs, hn, fun e hm' => ?_, ha, hall, hlen⟩
  · rw [hm g hb (blk_lt hg) (.inl rfl)]; exact hg
  · obtain ⟨x, y, z, hw, hk, hne, hr⟩ := he e hm'
    exact ⟨x, y, z, hw, hk, hne, row_stay hr (fun k hk => hm k (Kd.R_base hr k hk) (Kd.R_lt hr k hk) (.inr (row_cells hr hk)))⟩
theorem Seen.below {W w' : World} {base g n : Nat} {G : Int → Int → Int → List Int} (h : Seen W base g n G) (hb : Below W.heap.size W w') : Seen w' base g n G := h.stay (fun k _ hk _ => hb.block k hk)
theorem Seen.fit {W : World} {base : Nat} {G : Int → Int → Int → List Int} {es : Array MapEntry} {clock : Nat} (hs : Stamped es clock) (hn : es.size ≤ maxLen)
    (he : ∀ e ∈ es.toList, ∃ x y z, WF3 x y z ∧ e.key = key3 x y z ∧ G x y z ≠ [] ∧ Kd.R (Kd.int .i64) 3 W base (fun _ => True) e.val (G x y z)) : Go.WideElems.Fit (H := Unit) Try.prog 57 (fun _ => some (.nil, [])) es clock :=
  ⟨hn, hs, fun e hm => by
    obtain ⟨x, y, z, hw, hk, _, _⟩ := he e hm
    exact ⟨_, by simp [Go.WideElems.rd, hk, keyOf3 hw.1 hw.2.1 hw.2.2]; rfl⟩⟩
theorem key_unique {es : Array MapEntry} {clock : Nat} (hs : Stamped es clock) {e1 e2 : MapEntry} (h1 : e1 ∈ es.toList) (h2 : e2 ∈ es.toList) (hk : e1.key = e2.key) : e1 = e2 := by
  obtain ⟨i, hi, rfl⟩ := List.mem_iff_getElem.1 h1
  obtain ⟨j, hj, rfl⟩ := List.mem_iff_getElem.1 h2
  have hkeys : (es.toList.map (·.key))[i]'(by simpa using hi) = (es.toList.map (·.key))[j]'(by simpa using hj) := by simpa using hk
  have := (List.getElem_inj hs.2.2).1 hkeys
  subst this
  rfl
theorem seen_look {W : World} {base g n : Nat} {G : Int → Int → Int → List Int} (h : Seen W base g n G) (hn : n ≤ maxLen) {x y z : Int} (hw : WF3 x y z) :
    ∃ A c, (∀ W', Below W.heap.size W W' → (Instr.lookup 50 (.map (some g)) (key3 x y z) false).run Try.prog W' = .ok (.slice A (G x y z).length c) W') ∧ (G x y z).length ≤ c ∧ Kd.C (Kd.int .i64) W A (G x y z).length (G x y z) := by
  obtain ⟨es, clock, hg, hb, hs, hsz, he, ha, hall, hlen⟩ := h
  have F := Seen.fit hs (Nat.le_trans hsz hn) he
  by_cases hx : ∃ e ∈ es.toList, e.key = key3 x y z
  · obtain ⟨e, hm, hke⟩ := hx
    obtain ⟨x', y', z', hw', hk, hne, hr⟩ := he e hm
    rw [hke] at hk
    obtain ⟨rfl, rfl, rfl⟩ := key3_inj hk
    obtain ⟨A, c, e1, hl, hc⟩ := Kd.R_reads hr
    refine ⟨A, c, fun W' hW' => ?_, hl, hc⟩
    have hg' : W'.heap[g]? = some (.map es clock) := (hW'.block g (blk_lt hg)).trans hg
    rcases Maps.fit_look false (Maps.Keyed.of_law law3) Try.underlying50 (zero55 W') hg' F (keyOf3 hw.1 hw.2.1 hw.2.2) with ⟨hrun, hno, _⟩ | ⟨e0, y0, hm0, h3, hrun, _⟩
    · exact absurd hke (hno e hm)
    · obtain rfl := key_unique hs hm0 hm (h3.trans hke.symm)
      rw [e1] at hrun
      exact hrun
  · have hG : G x y z = [] := by
      apply Classical.byContradiction
      intro hne
      exact hx (hall x y z hw hne)
    rw [hG]
    refine ⟨none, 0, fun W' hW' => ?_, Nat.le_refl _, Kd.C_nil _ _⟩
    have hg' : W'.heap[g]? = some (.map es clock) := (hW'.block g (blk_lt hg)).trans hg
    rcases Maps.fit_look false (Maps.Keyed.of_law law3) Try.underlying50 (zero55 W') hg' F (keyOf3 hw.1 hw.2.1 hw.2.2) with ⟨hrun, _⟩ | ⟨e0, y0, hm0, h3, _⟩
    · exact hrun
    · exact absurd ⟨e0, hm0, h3⟩ hx

def upd3 (G : Int → Int → Int → List Int) (x y z a : Int) : Int → Int → Int → List Int := fun x' y' z' => if x' = x ∧ y' = y ∧ z' = z then G x y z ++ [a] else G x' y' z'
theorem upd3_same (G : Int → Int → Int → List Int) (x y z a : Int) : upd3 G x y z a x y z = G x y z ++ [a] := by unfold upd3; rw [if_pos ⟨rfl, rfl, rfl⟩]
theorem upd3_other (G : Int → Int → Int → List Int) {x y z a x' y' z' : Int} (h : key3 x' y' z' ≠ key3 x y z) : upd3 G x y z a x' y' z' = G x' y' z' := by
  unfold upd3
  rw [if_neg]
  rintro ⟨rfl, rfl, rfl⟩
  exact h rfl
/-- 's[k] = append(s[k], a)': the entry, and the store behind the append. -/
theorem seen_entry {W Wb : World} {base g n : Nat} {G : Int → Int → Int → List Int} (h : Seen W base g n G) (hWb : Below W.heap.size W Wb) (hn : n + 1 ≤ maxLen) {x y z : Int} (hw : WF3 x y z) :
    ∃ v0 st es1 clock1, (Instr.mapEntry 50 (.map (some g)) (key3 x y z)).run Try.prog Wb = .ok (.tuple #[v0, goInt st]) (setBlock Wb g (.map es1 clock1)) ∧ Kd.R (Kd.int .i64) 3 W base (fun _ => True) v0 (G x y z) ∧
      ∀ (w2 : World) (v' : Value) (a : Int), w2.heap[g]? = some (.map es1 clock1) → (∀ k, k < W.heap.size → k ≠ g → some k ≠ v0.ownBlock → w2.heap[k]? = W.heap[k]?) → Kd.R (Kd.int .i64) 3 w2 base (fun _ => True) v' (G x y z ++ [a]) → (v'.ownBlock = v0.ownBlock ∨ ∃ b, v'.ownBlock = some b ∧ W.heap.size ≤ b) →
        ∃ es' clock', (Instr.entryStore 50 (.map (some g)) (goInt st) v').run Try.prog w2 = .ok () (setBlock w2 g (.map es' clock')) ∧ Seen (setBlock w2 g (.map es' clock')) base g (n + 1) (upd3 G x y z a) := by
  obtain ⟨es, clock, hg, hb, hs, hsz, he, ha, hall, hlen⟩ := h
  have F := Seen.fit hs (Nat.le_trans hsz (Nat.le_of_succ_le hn)) he
  have hkey := keyOf3 hw.1 hw.2.1 hw.2.2
  have hlen' : ∀ (a x' y' z' : Int), (upd3 G x y z a x' y' z').length ≤ n + 1 := by
    intro a x' y' z'
    unfold upd3
    split
    · have := hlen x y z; simp; omega
    · exact Nat.le_succ_of_le (hlen x' y' z')
  have hs1 := hs.1
  have hs2 := hs.2.1
  have hs3 := hs.2.2
  have hg' : Wb.heap[g]? = some (.map es clock) := (hWb.block g (blk_lt hg)).trans hg
  -- an elder row stands behind all that is done
  have stays : ∀ (w2 : World) (es' : Array MapEntry) (clock' : Nat) (es1 : Array MapEntry) (clock1 : Nat) (v0 : Value), w2.heap[g]? = some (.map es1 clock1) → (∀ k, k < W.heap.size → k ≠ g → some k ≠ v0.ownBlock → w2.heap[k]? = W.heap[k]?) → ∀ (v : Value) (xs : List Int), Kd.R (Kd.int .i64) 3 W base (fun _ => True) v xs →
      (∀ k, v.ownBlock = some k → v0.ownBlock ≠ some k) → Kd.R (Kd.int .i64) 3 (setBlock w2 g (.map es' clock')) base (fun _ => True) v xs := by
    intro w2 es' clock' es1 clock1 v0 hw2 hgr v xs hr hap
    refine row_stay hr (fun k hk => ?_)
    obtain ⟨cells, hc⟩ := row_cells hr hk
    have hkg : k ≠ g := by rintro rfl; rw [hg] at hc; cases hc
    have hlt := Kd.R_lt hr k hk
    rw [heap_setBlock_other hw2 _ hkg]
    exact hgr k hlt hkg (fun e => hap k hk e.symm)
  have newrow : ∀ (w2 : World) (es' : Array MapEntry) (clock' : Nat) (es1 : Array MapEntry) (clock1 : Nat) (v' : Value) (xs : List Int), w2.heap[g]? = some (.map es1 clock1) → Kd.R (Kd.int .i64) 3 w2 base (fun _ => True) v' xs → Kd.R (Kd.int .i64) 3 (setBlock w2 g (.map es' clock')) base (fun _ => True) v' xs := by
    intro w2 es' clock' es1 clock1 v' xs hw2 hr
    refine row_stay hr (fun k hk => ?_)
    obtain ⟨cells, hc⟩ := row_cells hr hk
    have hkg : k ≠ g := by rintro rfl; rw [hw2] at hc; cases hc
    exact heap_setBlock_other hw2 _ hkg
  rcases law3.find Wb hkey es.toList F.keys with ⟨h1, h2⟩ | ⟨j, e0, h1, h2, h3⟩
  · have hG : G x y z = [] := by
      apply Classical.byContradiction
      intro hne
      obtain ⟨e, hm, hk⟩ := hall x y z hw hne
      exact h2 e hm hk
    refine ⟨.slice none 0 0, clock, es.push ⟨key3 x y z, .slice none 0 0, clock⟩, clock + 1, ?_, by rw [hG]; exact Kd.R_nil _ _ _ _ _, ?_⟩
    · simp [Instr.mapEntry, run_underlying Try.underlying50, MapKept.run_getObj_map hg', law3.check Wb false hkey, h1, zero55, MapKept.run_setObj_map _ hg', Result.andThen, setBlock]
    · intro w2 v' a hw2 hgr hr' hloc
      rw [hG, List.nil_append] at hr'
      refine ⟨es.push ⟨key3 x y z, v', clock⟩, clock + 1, ?_, ?_⟩
      · have hidx : (es.push ⟨key3 x y z, .slice none 0 0, clock⟩).findIdx? (fun e => ((e.born : Nat) : Int) == ((clock : Nat) : Int)) = some es.size := by
          rw [Go.WideElems.findIdx_arr]
          exact Go.WideElems.findIdx_born (l := (es.push ⟨key3 x y z, .slice none 0 0, clock⟩).toList) (j := es.size) (e0 := ⟨key3 x y z, .slice none 0 0, clock⟩) (by
            simp only [Array.toList_push, List.map_append, List.map_cons, List.map_nil]
            refine List.nodup_append.2 ⟨hs2, by simp, fun a ha c hc e1 => ?_⟩
            simp only [List.mem_singleton] at hc
            obtain ⟨x, hx, rfl⟩ := List.mem_map.1 ha
            have := hs1 x hx
            omega) (by simp)
        have hmod : (es.push ⟨key3 x y z, .slice none 0 0, clock⟩).modify es.size (fun e => { e with val := v' }) = es.push ⟨key3 x y z, v', clock⟩ := by
          apply Array.ext'
          rw [Array.toList_modify, Array.toList_push, Array.toList_push, ← Array.length_toList, Go.WideElems.modify_last]
        simp [Instr.entryStore, MapKept.run_getObj_map hw2, asInt, asIntOf, goInt, hidx, hmod, MapKept.run_setObj_map _ hw2, Result.andThen, setBlock]
      · have fresh : ∀ e ∈ es.toList, ∀ k, e.val.ownBlock = some k → v'.ownBlock ≠ some k := by
          intro e hm k hk hk'
          obtain ⟨x', y', z', _, _, _, hr⟩ := he e hm
          have := Kd.R_lt hr k hk
          rcases hloc with hl | ⟨b, hl, hle⟩
          · rw [hl] at hk'; simp [Value.ownBlock] at hk'
          · rw [hl] at hk'; injection hk' with hk'; omega
        refine ⟨es.push ⟨key3 x y z, v', clock⟩, clock + 1, heap_setBlock_same hw2 _, hb, MapKept.stamped_push hs h2, by simp; omega, ?_, ?_, ?_, hlen' a⟩
        · intro e hm
          simp only [Array.toList_push, List.mem_append, List.mem_singleton] at hm
          rcases hm with hm | rfl
          · obtain ⟨x', y', z', hw', hk, hne, hr⟩ := he e hm
            have hkn : key3 x' y' z' ≠ key3 x y z := by rw [← hk]; exact h2 e hm
            refine ⟨x', y', z', hw', hk, by rw [upd3_other G hkn]; exact hne, ?_⟩
            rw [upd3_other G hkn]
            exact stays w2 _ _ _ _ _ hw2 hgr _ _ hr (fun k _ => by simp [Value.ownBlock])
          · exact ⟨x, y, z, hw, rfl, by rw [upd3_same]; simp, by rw [upd3_same, hG, List.nil_append]; exact newrow w2 _ _ _ _ _ _ hw2 hr'⟩
        · intro e1 hm1 e2 hm2 hne k hk
          simp only [Array.toList_push, List.mem_append, List.mem_singleton] at hm1 hm2
          rcases hm1 with hm1 | rfl <;> rcases hm2 with hm2 | rfl
          · exact ha e1 hm1 e2 hm2 hne k hk
          · exact fresh e1 hm1 k hk
          · exact fun hk2 => fresh e2 hm2 k hk2 hk
          · exact absurd rfl hne
        · intro x' y' z' hw' hne
          by_cases hk : key3 x' y' z' = key3 x y z
          · exact ⟨⟨key3 x y z, v', clock⟩, by simp, hk.symm⟩
          · rw [upd3_other G hk] at hne
            obtain ⟨e, hm, hk2⟩ := hall x' y' z' hw' hne
            exact ⟨e, by simp [Array.mem_toList_iff.1 hm], hk2⟩
  · have hj : es[j]? = some e0 := by simpa using h2
    have hm0 : e0 ∈ es.toList := List.mem_of_getElem? h2
    obtain ⟨x', y', z', hw', hk0, hne0, hr0⟩ := he e0 hm0
    rw [h3] at hk0
    obtain ⟨rfl, rfl, rfl⟩ := key3_inj hk0
    have hsame : es.modify j (fun e => { e with key := key3 x y z }) = es := by
      apply Array.ext'
      rw [Array.toList_modify, Go.ChangeMaps.modify_eq_set _ _ _ _ h2]
      have : ({ e0 with key := key3 x y z } : MapEntry) = e0 := by rw [← h3]
      rw [this]
      exact Go.WideElems.set_self _ _ _ h2
    refine ⟨e0.val, e0.born, es, clock, ?_, hr0, ?_⟩
    · simp [Instr.mapEntry, run_underlying Try.underlying50, MapKept.run_getObj_map hg', law3.check Wb false hkey, h1, hj, h3, law3.stays Wb hkey, hsame, MapKept.run_setObj_map _ hg', Result.andThen, setBlock]
    · intro w2 v' a hw2 hgr hr' hloc
      have hidx : es.findIdx? (fun e => ((e.born : Nat) : Int) == ((e0.born : Nat) : Int)) = some j := by
        rw [Go.WideElems.findIdx_arr]
        exact Go.WideElems.findIdx_born hs2 h2
      have hset : (es.modify j (fun e => { e with val := v' })).toList = es.toList.set j { e0 with val := v' } := by
        rw [Array.toList_modify, Go.ChangeMaps.modify_eq_set _ _ _ _ h2]
      refine ⟨es.modify j (fun e => { e with val := v' }), clock, ?_, ?_⟩
      · simp [Instr.entryStore, MapKept.run_getObj_map hw2, asInt, asIntOf, goInt, hidx, MapKept.run_setObj_map _ hw2, Result.andThen, setBlock]
      · have hjl : j < es.toList.length := (List.getElem?_eq_some_iff.1 h2).1
        have hej : es.toList[j] = e0 := (List.getElem?_eq_some_iff.1 h2).2
        -- who is in the row of entries now
        have who : ∀ e ∈ es.toList.set j { e0 with val := v' }, (e ∈ es.toList ∧ e.key ≠ key3 x y z) ∨ e = { e0 with val := v' } := by
          intro e hm
          obtain ⟨i, hi, rfl⟩ := List.mem_iff_getElem.1 hm
          rw [List.length_set] at hi
          rw [List.getElem_set]
          by_cases hij : j = i
          · rw [if_pos hij]; exact .inr rfl
          · rw [if_neg hij]
            refine .inl ⟨List.getElem_mem hi, fun hk => hij ?_⟩
            have hkeys : (es.toList.map (·.key))[i]'(by simpa using hi) = (es.toList.map (·.key))[j]'(by simpa using hjl) := by simpa [hej, h3] using hk
            exact ((List.getElem_inj hs3).1 hkeys).symm
        have fresh : ∀ e ∈ es.toList, e.key ≠ key3 x y z → ∀ k, e.val.ownBlock = some k → v'.ownBlock ≠ some k := by
          intro e hm hk0 k hk hk'
          obtain ⟨x', y', z', _, _, _, hr⟩ := he e hm
          have := Kd.R_lt hr k hk
          rcases hloc with hl | ⟨b, hl, hle⟩
          · rw [hl] at hk'; exact ha e hm e0 hm0 (by rw [h3]; exact hk0) k hk hk'
          · rw [hl] at hk'; injection hk' with hk'; omega
        refine ⟨es.modify j (fun e => { e with val := v' }), clock, heap_setBlock_same hw2 _, hb, ?_, by simp; omega, ?_, ?_, ?_, hlen' a⟩
        · refine ⟨fun e hm => ?_, ?_, ?_⟩
          · rw [hset] at hm
            rcases who e hm with ⟨hm, _⟩ | rfl
            · exact hs1 e hm
            · exact hs1 e0 hm0
          · rw [hset, List.map_set, show ({ e0 with val := v' } : MapEntry).born = (es.toList.map (·.born))[j]'(by simpa using hjl) from by simp [hej], List.set_getElem_self]; exact hs2
          · rw [hset, List.map_set, show ({ e0 with val := v' } : MapEntry).key = (es.toList.map (·.key))[j]'(by simpa using hjl) from by simp [hej], List.set_getElem_self]; exact hs3
        · intro e hm
          rw [hset] at hm
          rcases who e hm with ⟨hm, hkn⟩ | rfl
          · obtain ⟨x', y', z', hw', hk, hne, hr⟩ := he e hm
            rw [hk] at hkn
            refine ⟨x', y', z', hw', hk, by rw [upd3_other G hkn]; exact hne, ?_⟩
            rw [upd3_other G hkn]
            exact stays w2 _ _ _ _ _ hw2 hgr _ _ hr (fun k hk' hk2 => ha e hm e0 hm0 (by rw [hk, h3]; exact hkn) k hk' hk2)
          · exact ⟨x, y, z, hw, h3, by rw [upd3_same]; simp, by rw [upd3_same]; exact newrow w2 _ _ _ _ _ _ hw2 hr'⟩
        · intro e1 hm1 e2 hm2 hne k hk
          rw [hset] at hm1 hm2
          rcases who e1 hm1 with ⟨hm1, hk1⟩ | rfl <;> rcases who e2 hm2 with ⟨hm2, hk2⟩ | rfl
          · exact ha e1 hm1 e2 hm2 hne k hk
          · exact fresh e1 hm1 hk1 k hk
          · exact fun hk' => fresh e2 hm2 hk2 k hk' hk
          · exact absurd rfl hne
        · intro x' y' z' hw' hne
          rw [hset]
          by_cases hk : key3 x' y' z' = key3 x y z
          · exact ⟨{ e0 with val := v' }, List.mem_iff_getElem.2 ⟨j, by simpa using hjl, by simp⟩, by rw [hk]; exact h3⟩
          · rw [upd3_other G hk] at hne
            obtain ⟨e, hm, hk2⟩ := hall x' y' z' hw' hne
            obtain ⟨i, hi, rfl⟩ := List.mem_iff_getElem.1 hm
            refine ⟨es.toList[i], List.mem_iff_getElem.2 ⟨i, by simpa using hi, ?_⟩, hk2⟩
            rw [List.getElem_set, if_neg]
            rintro rfl
            exact hk (by rw [← hk2, hej, h3])
open Go.ChangeMaps (setBlock heap_setBlock_same heap_setBlock_other)

theorem setBlock_alloc (w : World) (g : Nat) (m o : Obj) (h : g < w.heap.size) : setBlock (w.alloc o) g m = (setBlock w g m).alloc o := by
  show ({ w with heap := (w.heap.push o).setIfInBounds g m } : World) = { w with heap := (w.heap.setIfInBounds g m).push o }
  congr 1
  apply Array.ext'
  simp [List.set_append_left, h]
theorem setBlock_size (w : World) (g : Nat) (m : Obj) : (setBlock w g m).heap.size = w.heap.size := by
  show (w.heap.setIfInBounds g m).size = _
  simp
theorem below_setBlock {B : Nat} {w0 w : World} (h : Below B w0 w) {g : Nat} (hg : B ≤ g) {m : Obj} : Below B w0 (setBlock w g m) :=
  h.trans ⟨rfl, rfl, rfl, by rw [setBlock_size]; exact Nat.le_refl _, fun k hk => by
    show (w.heap.setIfInBounds g m)[k]? = _
    rw [Array.getElem?_setIfInBounds, if_neg (by omega)]⟩
theorem row_setBlock {W : World} {base g : Nat} {es : Array MapEntry} {clock : Nat} {m : Obj} {v : Value} {xs : List Int} (hg : W.heap[g]? = some (.map es clock)) (h : Kd.R (Kd.int .i64) 3 W base (fun _ => True) v xs) : Kd.R (Kd.int .i64) 3 (setBlock W g m) base (fun _ => True) v xs := by
  refine row_stay h (fun k hk => ?_)
  obtain ⟨cells, hc⟩ := row_cells h hk
  exact heap_setBlock_other hg _ (by rintro rfl; rw [hg] at hc; cases hc)
/-- The three bytes of a place, written down. -/
def addAt (G : Int → Int → Int → List Int) (l : List Int) (i : Nat) : Int → Int → Int → List Int := if l.length < i + 3 then G else upd3 G (l.getD i 0) (l.getD (i + 1) 0) (l.getD (i + 2) 0) (i : Int)
/-- What is neither the map nor a row of whole numbers stays. -/
def KeptT (w w' : World) (g : Nat) : Prop := w.heap.size ≤ w'.heap.size ∧ ∀ k, k < w.heap.size → k ≠ g → (∀ cs, w.heap[k]? ≠ some (.cells cs 3 (0, 0))) → w'.heap[k]? = w.heap[k]?
set_option maxHeartbeats 8000000 in
set_option maxRecDepth 100000 in
theorem seen_add (g n : Nat) (G : Int → Int → Int → List Int) (A0 : Option Addr) (c0 : Nat) (l0 : List Int) (i : Nat) (w0 w : World) (hB : Below w0.heap.size w0 w) (hS : Seen w w0.heap.size g n G)
    (hr0 : Kd.C (Kd.int .u8) w A0 l0.length l0) (hc0 : l0.length ≤ c0) (hw : ∀ x ∈ l0, (Lit.int .u8 x).wf = true) (hn : n + 1 ≤ 1000000) (hi : i < l0.length) (hl : l0.length ≤ 1000000) :
    Calls Try.prog 29 #[.map (some g), .slice A0 l0.length c0, .int .i64 i] w fun e w' => e = .returned (.tuple #[]) ∧ Seen w' w0.heap.size g (n + 1) (addAt G l0 i) ∧ Below w0.heap.size w0 w' ∧ KeptT w w' g := by
  have HS := Aside0.mk hS
  have HR := Aside0.mk hr0
  have HW := Aside0.mk hw
  have HB := Aside0.mk hB
  clear hS hr0 hw hB
  by_cases h3 : l0.length < i + 3
  · go_enter Try.func29, Try.ntmps29
    go_wp2_with fail
    refine bodyPost_ret (results_none rfl _ _ _) rfl ?_
    refine ⟨rfl, ?_, HB.out, Nat.le_refl _, fun _ _ _ _ => rfl⟩
    unfold addAt
    rw [if_pos h3]
    obtain ⟨es, clock, hg, hb, hs, hsz, he, ha, hall, hlen⟩ := HS.out
    exact ⟨es, clock, hg, hb, hs, Nat.le_succ_of_le hsz, he, ha, hall, fun x y z => Nat.le_succ_of_le (hlen x y z)⟩
  · obtain ⟨ad, e0, hx0⟩ := Kd.at_int HR.out (i : Int) (by omega) (by omega)
    obtain ⟨ad1, e1, hx1⟩ := Kd.at_int HR.out ((i : Int) + 1) (by omega) (by omega)
    obtain ⟨ad2, e2, hx2⟩ := Kd.at_int HR.out ((i : Int) + 2) (by omega) (by omega)
    subst e0
    injection e1 with e1
    injection e2 with e2
    subst e1 e2
    obtain ⟨j1, hj1⟩ : ∃ j : Nat, j = i + 1 := ⟨_, rfl⟩
    obtain ⟨j2, hj2⟩ : ∃ j : Nat, j = i + 2 := ⟨_, rfl⟩
    rw [Int.toNat_natCast] at hx0
    rw [show (i : Int) + 1 = (j1 : Int) from by omega, Int.toNat_natCast] at hx1
    rw [show (i : Int) + 2 = (j2 : Int) from by omega, Int.toNat_natCast] at hx2
    obtain ⟨x, ex⟩ : ∃ x, x = rd l0 (i : Int) := ⟨_, rfl⟩
    obtain ⟨y, ey⟩ : ∃ x, x = rd l0 (j1 : Int) := ⟨_, rfl⟩
    obtain ⟨z, ez⟩ : ∃ x, x = rd l0 (j2 : Int) := ⟨_, rfl⟩
    rw [← ex] at hx0
    rw [← ey] at hx1
    rw [← ez] at hx2
    have EX := Aside0.mk (And.intro ex (And.intro ey (And.intro ez (And.intro hj1 hj2))))
    clear ex ey ez
    have hb := below_alloc (Below.refl w.heap.size w) (.cells #[.int .u8 0, .int .u8 0, .int .u8 0] 57 (0, 0))
    have hxa0 := pw_cell_below hb hx0
    have hxa1 := pw_cell_below hb hx1
    have hxa2 := pw_cell_below hb hx2
    clear hb
    have f1 : IntKind.i64.wrap ((i : Int) + 1) = (j1 : Int) := by rw [IntWalk.i64_in _ (by omega)]; omega
    have f2 : IntKind.i64.wrap ((i : Int) + 2) = (j2 : Int) := by rw [IntWalk.i64_in _ (by omega)]; omega
    have f7 : (j1 : Int) < (l0.length : Int) := by omega
    have f8 : (j2 : Int) < (l0.length : Int) := by omega
    clear hj1 hj2
    go_enter Try.func29, Try.ntmps29
    go_wp2_with fail
    go_region_held3 (fun w' => w'.cell? (ad.add i) = some (.int .u8 x) ∧ w'.cell? (ad.add j1) = some (.int .u8 y) ∧ w'.cell? (ad.add j2) = some (.int .u8 z)) (first | exact ⟨hx0, hx1, hx2⟩ | exact ⟨hxa0, hxa1, hxa2⟩ | go_keep) (first | fail)
    obtain ⟨w1, hw1⟩ : ∃ w1, w1 = (w.alloc (.cells #[.int .u8 x, .int .u8 y, .int .u8 z] 57 (0, 0))).drew := ⟨_, rfl⟩
    have hb1 : Below w.heap.size w w1 := by rw [hw1]; exact (below_alloc (Below.refl _ _) _).drew
    have hk0 : w1.heap[w.heap.size]? = some (.cells #[.int .u8 x, .int .u8 y, .int .u8 z] 57 (0, 0)) := by rw [hw1]; exact blk_new w _
    have hsz1 : w1.heap.size = w.heap.size + 1 := by rw [hw1]; simp
    have hS1 := HS.out.below hb1
    have hwf := HW.out
    obtain ⟨ex, ey, ez, ej1, ej2⟩ := EX.out
    have hWF : WF3 x y z := by
      rw [ex, ey, ez]
      unfold rd
      rw [Int.toNat_natCast, Int.toNat_natCast, Int.toNat_natCast]
      refine ⟨hwf _ ?_, hwf _ ?_, hwf _ ?_⟩ <;> (rw [List.getD_eq_getElem?_getD, List.getElem?_eq_getElem (by omega)]; exact List.getElem_mem _)
    obtain ⟨v0, st, es1, clock1, hrunE, hr0, hback⟩ := seen_entry hS1 (Wb := w1.alloc (.cells #[.int .i64 (i : Int)] 3 (0, 0))) (below_alloc (Below.refl _ _) _) (by unfold maxLen; omega) hWF
    obtain ⟨es0, clock0, hg1, hbg, _, _, _, _, _, hlen⟩ := hS1
    have hglt := blk_lt hg1
    have hsw : setBlock (w1.alloc (.cells #[.int .i64 (i : Int)] 3 (0, 0))) g (.map es1 clock1) = (setBlock w1 g (.map es1 clock1)).alloc (.cells #[.int .i64 (i : Int)] 3 (0, 0)) := setBlock_alloc w1 g _ _ hglt
    have HX := Aside0.mk (And.intro hb1 (And.intro hr0 (And.intro hback (And.intro hg1 (And.intro hbg (And.intro (hlen x y z) (And.intro hglt (And.intro hsz1 hsw))))))))
    have hcx0 : w1.cell? ⟨w.heap.size, 0, none⟩ = some (.int .u8 x) := (blk_cell hk0 0).trans rfl
    have hcx1 : w1.cell? ⟨w.heap.size, 1, none⟩ = some (.int .u8 y) := (blk_cell hk0 1).trans rfl
    have hcx2 : w1.cell? ⟨w.heap.size, 2, none⟩ = some (.int .u8 z) := (blk_cell hk0 2).trans rfl
    rw [← hw1]
    unfold key3 at hrunE
    have hu57 := Try.underlying57
    clear hb1 hk0 hr0 hback hg1 hbg hlen hsz1 hsw hwf ex ey ez ej1 ej2 hWF hw1 f1 f2 f7 f8 hx0 hx1 hx2 hxa0 hxa1 hxa2
    go_wp2_with (at_builtin; go_must (rw [HX.out.2.2.2.2.2.2.2.2]; refine Kd.R_append (Kd.int .i64) (w0 := w0) w0.heap.size rfl (.tmp 29) (.tmp 31) 55 3 (.int .i64 0) 8 rfl Try.underlying55 info3 rfl (by decide) (by omega) v0 (G x y z) (i : Int) [.int .i64 (i : Int)] (fun _ => True) (fun _ => False) rfl (by rw [setBlock_size]; rfl) rfl (fun _ hk => hk.elim) (fun _ _ => trivial) (row_setBlock HX.out.2.2.2.1 HX.out.2.1) (below_setBlock (HB.out.trans (HX.out.1.mono HB.out.size)) HX.out.2.2.2.2.1) (by rw [setBlock_size]; exact Nat.le_trans HB.out.size HX.out.1.size) (by have := HX.out.2.2.2.2.2.1; omega) ?_; intro v1 w2 ho hb2 hg hat; (have hgr : ∀ k, k < w1.heap.size → k ≠ g → some k ≠ v0.ownBlock → w2.heap[k]? = w1.heap[k]? := fun k hk hkg hkv => (hg.block k (by rw [setBlock_size]; exact hk) hkv).trans (heap_setBlock_other HX.out.2.2.2.1 _ hkg)); (have hw2 : w2.heap[g]? = some (.map es1 clock1) := (hg.block g (by rw [setBlock_size]; exact HX.out.2.2.2.2.2.2.1) (fun e => by obtain ⟨cs, hc⟩ := row_cells HX.out.2.1 e.symm; rw [HX.out.2.2.2.1] at hc; cases hc)).trans (heap_setBlock_same HX.out.2.2.2.1 _)); (obtain ⟨es', clock', hrunS, hSeen⟩ := HX.out.2.2.1 w2 v1 (i : Int) hw2 hgr ho (by rw [setBlock_size] at hat; exact hat)); (have HY := Aside0.mk (And.intro hb2 (And.intro hgr (And.intro hw2 (And.intro hSeen (by have h_ := hg.size; rw [setBlock_size] at h_; exact h_ : w1.heap.size ≤ w2.heap.size))))));  (unfold goInt at hrunS); clear ho hb2 hg hat hgr hw2 hSeen hrunE))
    go_end0
    obtain ⟨hb1, hr0, _, hg1, hbg, _, hglt, hsz1, _⟩ := HX.out
    obtain ⟨hb2, hgr, hw2, hSeen, hsz2⟩ := HY.out
    have hlt2 : g < w2.heap.size := blk_lt hw2
    refine ⟨rfl, ?_, below_setBlock hb2 hbg, ?_, fun k hk hkg hkt => ?_⟩
    · unfold addAt
      rw [if_neg h3]
      obtain ⟨ex, ey, ez, ej1, ej2⟩ := EX.out
      rw [ex, ey, ez] at hSeen
      unfold rd at hSeen
      rw [Int.toNat_natCast, Int.toNat_natCast, Int.toNat_natCast, ej1, ej2] at hSeen
      exact hSeen
    · rw [setBlock_size]; omega
    · have e1 : w1.heap[k]? = w.heap[k]? := hb1.block k hk
      rw [heap_setBlock_other hw2 _ hkg, hgr k (by omega) hkg ?_, e1]
      intro e
      obtain ⟨cs, hc⟩ := row_cells hr0 e.symm
      exact hkt cs (e1 ▸ hc)

-- PART
end Go.Proofs.Ytagdlmlanjjecaa.P
