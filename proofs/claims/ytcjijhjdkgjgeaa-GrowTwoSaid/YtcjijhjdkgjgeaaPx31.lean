-- Written by a program of this session out of the translation. Lean checks it.
import Derived.Test.YtcjijhjdkgjgeaaPx0
import Derived.Test.YtcjijhjdkgjgeaaPx25
import Derived.Test.YtcjijhjdkgjgeaaPx2
import Derived.Test.YtcjijhjdkgjgeaaPx16
import Derived.Test.YtcjijhjdkgjgeaaPx1
namespace Go.Proofs.Ytcjijhjdkgjgeaa.P
open Go.RowKit Go.Proofs.YtcjijhjdkgjgeaaW.PrintWords Go.Proofs.YtcjijhjdkgjgeaaW.PrintLast Go.Proofs.YtcjijhjdkgjgeaaW.PrintMore
attribute [local go_sem] max2_int min2_int max_two min_two max_three min_three max_four min_four   -- for this text's walks alone
set_option linter.unusedVariables false
set_option linter.unusedSimpArgs false

-- PART
/-! ### match_seen_add: function 31 (by hand) -/
open Go.WideMaps (ArrKey KeyLaw keyOf_pair)
open Go.ChangeMaps (setBlock heap_setBlock_same heap_setBlock_other)
open Go.MapKept (Stamped)

def key3 (x y z : Int) : Value := .agg #[.int .u8 x, .int .u8 y, .int .u8 z]
theorem laidOut3 : laidOutB Try.prog = true := by kernel_rfl
theorem arr3 : ArrKey Try.prog 96 5 3 := ⟨by kernel_rfl, by kernel_rfl, by kernel_rfl, by kernel_rfl⟩
theorem wide3 : (match Try.prog.underlying 96 with | some (.array _ _) | some (.struct _) => true | _ => false) = true := by kernel_rfl
set_option maxRecDepth 100000 in
theorem law3 : KeyLaw Try.prog 96 := deep_law_laid laidOut3 (m := 2) (by omega) (of_decide_eq_true (by kernel_rfl)) (by kernel_rfl) wide3
theorem keyOf3 {x y z : Int} (wx : (Lit.int .u8 x).wf = true) (wy : (Lit.int .u8 y).wf = true) (wz : (Lit.int .u8 z).wf = true) : keyOf Try.prog 96 (key3 x y z) = some (.string (keyBytes [.int .u8 x, .int .u8 y, .int .u8 z])) := by
  have he : Try.prog.underlying 5 = some (.int .u8) := Try.underlying5
  have hsz : ∃ m, Try.prog.types.size = m + 1 := by
    have h : 0 < Try.prog.types.size := of_decide_eq_true (by kernel_rfl)
    exact ⟨Try.prog.types.size - 1, by omega⟩
  have hkt := arr3.keyType hsz
  obtain ⟨m, hm⟩ := hsz
  unfold keyOf key3
  simp only [arr3.hu]
  rw [if_pos (by simp [hkt, Value.formed, arr3.hu, arr3.size]), hm]
  unfold Program.keyLits
  simp only [arr3.hu, Value.cells]
  rw [if_pos (by rw [arr3.size]; rfl), show List.range 3 = [0, 1, 2] from rfl, List.mapM_cons, List.mapM_cons, List.mapM_cons, List.mapM_nil]
  simp [arr3.one, Program.keyLits, he, wx, wy, wz]
theorem zero55 (u : World) : (zeroValue 73).run Try.prog u = .ok (.slice none 0 0) u := by kernel_rfl

/-- Three bytes as a key. -/
def WF3 (x y z : Int) : Prop := (Lit.int .u8 x).wf = true ∧ (Lit.int .u8 y).wf = true ∧ (Lit.int .u8 z).wf = true
theorem key3_inj {x y z x' y' z' : Int} (h : key3 x y z = key3 x' y' z') : x = x' ∧ y = y' ∧ z = z' := by
  unfold key3 at h
  simp at h
  exact h
/-- Block g is a map of at most n entries from three bytes to rows of places, each in a row of its own from base on; G tells them. -/
def Seen (W : World) (base g n : Nat) (G : Int → Int → Int → List Int) : Prop :=
  ∃ es clock, W.heap[g]? = some (.map es clock) ∧ base ≤ g ∧ Stamped es clock ∧ es.size ≤ n ∧
    (∀ e ∈ es.toList, ∃ x y z, WF3 x y z ∧ e.key = key3 x y z ∧ G x y z ≠ [] ∧ Kd.R (Kd.int .i64) 3 W base (fun _ => True) e.val (G x y z)) ∧
    (∀ e1 ∈ es.toList, ∀ e2 ∈ es.toList, e1.key ≠ e2.key → ∀ k, e1.val.ownBlock = some k → e2.val.ownBlock ≠ some k) ∧
    (∀ x y z, WF3 x y z → G x y z ≠ [] → ∃ e ∈ es.toList, e.key = key3 x y z) ∧ (∀ x y z, (G x y z).length ≤ n)
theorem row_stay {W w' : World} {base : Nat} {v : Value} {xs : List Int} (h : Kd.R (Kd.int .i64) 3 W base (fun _ => True) v xs) (hm : ∀ k, v.ownBlock = some k → w'.heap[k]? = W.heap[k]?) : Kd.R (Kd.int .i64) 3 w' base (fun _ => True) v xs :=
  Kd.R_of_own (own_move (Kd.own_of_R h) hm) (fun _ _ => trivial)
theorem row_cells {W : World} {base : Nat} {v : Value} {xs : List Int} (h : Kd.R (Kd.int .i64) 3 W base (fun _ => True) v xs) {k : Nat} (hk : v.ownBlock = some k) : ∃ cells, W.heap[k]? = some (.cells cells 3 (0, 0)) := own_typed (Kd.own_of_R h) k hk
theorem seen_made (W : World) (base : Nat) (hb : base ≤ W.heap.size) : Seen (W.alloc (.map #[] 0)) base W.heap.size 0 (fun _ _ _ => []) :=
  ⟨#[], 0, (MapKept.heap_alloc W _).1, hb, MapKept.stamped_empty 0, Nat.le_refl _, fun e he => by simp at he, fun e he => by simp at he, fun x y z _ h => absurd rfl h, fun _ _ _ => Nat.le_refl _⟩
/-- What is not of the map, nor of its rows, may turn. -/
theorem Seen.stay {W w' : World} {base g n : Nat} {G : Int → Int → Int → List Int} (h : Seen W base g n G) (hm : ∀ k, base ≤ k → k < W.heap.size → k = g ∨ (∃ cells, W.heap[k]? = some (.cells cells 3 (0, 0))) → w'.heap[k]? = W.heap[k]?) : Seen w' base g n G := by
  obtain ⟨es, clock, hg, hb, hs, hn, he, ha, hall, hlen⟩ := h
  refine ⟨es, clock, ?_, hb, hs, hn, fun e hm' => ?_, ha, hall, hlen⟩
  · rw [hm g hb (blk_lt hg) (.inl rfl)]; exact hg
  · obtain ⟨x, y, z, hw, hk, hne, hr⟩ := he e hm'
    exact ⟨x, y, z, hw, hk, hne, row_stay hr (fun k hk => hm k (Kd.R_base hr k hk) (Kd.R_lt hr k hk) (.inr (row_cells hr hk)))⟩
theorem Seen.below {W w' : World} {base g n : Nat} {G : Int → Int → Int → List Int} (h : Seen W base g n G) (hb : Below W.heap.size W w') : Seen w' base g n G := h.stay (fun k _ hk _ => hb.block k hk)
theorem Seen.fit {W : World} {base : Nat} {G : Int → Int → Int → List Int} {es : Array MapEntry} {clock : Nat} (hs : Stamped es clock) (hn : es.size ≤ maxLen)
    (he : ∀ e ∈ es.toList, ∃ x y z, WF3 x y z ∧ e.key = key3 x y z ∧ G x y z ≠ [] ∧ Kd.R (Kd.int .i64) 3 W base (fun _ => True) e.val (G x y z)) : Go.WideElems.Fit (H := Unit) Try.prog 96 (fun _ => some (.nil, [])) es clock :=
  ⟨hn, hs, fun e hm => by
    obtain ⟨x, y, z, hw, hk, _, _⟩ := he e hm
    exact ⟨_, by simp [Go.WideElems.rd, hk, keyOf3 hw.1 hw.2.1 hw.2.2]; rfl⟩⟩
theorem key_unique {es : Array MapEntry} {clock : Nat} (hs : Stamped es clock) {e1 e2 : MapEntry} (h1 : e1 ∈ es.toList) (h2 : e2 ∈ es.toList) (hk : e1.key = e2.key) : e1 = e2 := by
  obtain ⟨i, hi, rfl⟩ := List.mem_iff_getElem.1 h1
  obtain ⟨j, hj, rfl⟩ := List.mem_iff_getElem.1 h2
  have hkeys : (es.toList.map (·.key))[i]'(by simpa using hi) = (es.toList.map (·.key))[j]'(by simpa using hj) := by simpa using hk
  have := (List.getElem_inj hs.2.2).1 hkeys
  subst this
  rfl
theorem seen_look {W : World} {base g n : Nat} {G : Int → Int → Int → List Int} (h : Seen W base g n G) (hn : n ≤ maxLen) {x y z : Int} (hw : WF3 x y z) :
    ∃ A c, (∀ W', Below W.heap.size W W' → (Instr.lookup 66 (.map (some g)) (key3 x y z) false).run Try.prog W' = .ok (.slice A (G x y z).length c) W') ∧ (G x y z).length ≤ c ∧ Kd.C (Kd.int .i64) W A (G x y z).length (G x y z) := by
  obtain ⟨es, clock, hg, hb, hs, hsz, he, ha, hall, hlen⟩ := h
  have F := Seen.fit hs (Nat.le_trans hsz hn) he
  by_cases hx : ∃ e ∈ es.toList, e.key = key3 x y z
  · obtain ⟨e, hm, hke⟩ := hx
    obtain ⟨x', y', z', hw', hk, hne, hr⟩ := he e hm
    rw [hke] at hk
    obtain ⟨rfl, rfl, rfl⟩ := key3_inj hk
    obtain ⟨A, c, e1, hl, hc⟩ := Kd.R_reads hr
    refine ⟨A, c, fun W' hW' => ?_, hl, hc⟩
    have hg' : W'.heap[g]? = some (.map es clock) := (hW'.block g (blk_lt hg)).trans hg
    rcases Maps.fit_look false (Maps.Keyed.of_law law3) Try.underlying66 (zero55 W') hg' F (keyOf3 hw.1 hw.2.1 hw.2.2) with ⟨hrun, hno, _⟩ | ⟨e0, y0, hm0, h3, hrun, _⟩
    · exact absurd hke (hno e hm)
    · obtain rfl := key_unique hs hm0 hm (h3.trans hke.symm)
      rw [e1] at hrun
      exact hrun
  · have hG : G x y z = [] := by
      apply Classical.byContradiction
      intro hne
      exact hx (hall x y z hw hne)
    rw [hG]
    refine ⟨none, 0, fun W' hW' => ?_, Nat.le_refl _, Kd.C_nil _ _⟩
    have hg' : W'.heap[g]? = some (.map es clock) := (hW'.block g (blk_lt hg)).trans hg
    rcases Maps.fit_look false (Maps.Keyed.of_law law3) Try.underlying66 (zero55 W') hg' F (keyOf3 hw.1 hw.2.1 hw.2.2) with ⟨hrun, _⟩ | ⟨e0, y0, hm0, h3, _⟩
    · exact hrun
    · exact absurd ⟨e0, hm0, h3⟩ hx

def upd3 (G : Int → Int → Int → List Int) (x y z a : Int) : Int → Int → Int → List Int := fun x' y' z' => if x' = x ∧ y' = y ∧ z' = z then G x y z ++ [a] else G x' y' z'
theorem upd3_same (G : Int → Int → Int → List Int) (x y z a : Int) : upd3 G x y z a x y z = G x y z ++ [a] := by unfold upd3; rw [if_pos ⟨rfl, rfl, rfl⟩]
theorem upd3_other (G : Int → Int → Int → List Int) {x y z a x' y' z' : Int} (h : key3 x' y' z' ≠ key3 x y z) : upd3 G x y z a x' y' z' = G x' y' z' := by
  unfold upd3
  rw [if_neg]
  rintro ⟨rfl, rfl, rfl⟩
  exact h rfl
/-- 's[k] = append(s[k], a)': the entry, and the store behind the append. -/
theorem seen_entry {W Wb : World} {base g n : Nat} {G : Int → Int → Int → List Int} (h : Seen W base g n G) (hWb : Below W.heap.size W Wb) (hn : n + 1 ≤ maxLen) {x y z : Int} (hw : WF3 x y z) :
    ∃ v0 st es1 clock1, (Instr.mapEntry 66 (.map (some g)) (key3 x y z)).run Try.prog Wb = .ok (.tuple #[v0, goInt st]) (setBlock Wb g (.map es1 clock1)) ∧ Kd.R (Kd.int .i64) 3 W base (fun _ => True) v0 (G x y z) ∧
      ∀ (w2 : World) (v' : Value) (a : Int), w2.heap[g]? = some (.map es1 clock1) → (∀ k, k < W.heap.size → k ≠ g → some k ≠ v0.ownBlock → w2.heap[k]? = W.heap[k]?) → Kd.R (Kd.int .i64) 3 w2 base (fun _ => True) v' (G x y z ++ [a]) → (v'.ownBlock = v0.ownBlock ∨ ∃ b, v'.ownBlock = some b ∧ W.heap.size ≤ b) →
        ∃ es' clock', (Instr.entryStore 66 (.map (some g)) (goInt st) v').run Try.prog w2 = .ok () (setBlock w2 g (.map es' clock')) ∧ Seen (setBlock w2 g (.map es' clock')) base g (n + 1) (upd3 G x y z a) := by
  obtain ⟨es, clock, hg, hb, hs, hsz, he, ha, hall, hlen⟩ := h
  have F := Seen.fit hs (Nat.le_trans hsz (Nat.le_of_succ_le hn)) he
  have hkey := keyOf3 hw.1 hw.2.1 hw.2.2
  have hlen' : ∀ (a x' y' z' : Int), (upd3 G x y z a x' y' z').length ≤ n + 1 := by
    intro a x' y' z'
    unfold upd3
    split
    · have := hlen x y z; simp; omega
    · exact Nat.le_succ_of_le (hlen x' y' z')
  have hs1 := hs.1
  have hs2 := hs.2.1
  have hs3 := hs.2.2
  have hg' : Wb.heap[g]? = some (.map es clock) := (hWb.block g (blk_lt hg)).trans hg
  -- an elder row stands behind all that is done
  have stays : ∀ (w2 : World) (es' : Array MapEntry) (clock' : Nat) (es1 : Array MapEntry) (clock1 : Nat) (v0 : Value), w2.heap[g]? = some (.map es1 clock1) → (∀ k, k < W.heap.size → k ≠ g → some k ≠ v0.ownBlock → w2.heap[k]? = W.heap[k]?) → ∀ (v : Value) (xs : List Int), Kd.R (Kd.int .i64) 3 W base (fun _ => True) v xs →
      (∀ k, v.ownBlock = some k → v0.ownBlock ≠ some k) → Kd.R (Kd.int .i64) 3 (setBlock w2 g (.map es' clock')) base (fun _ => True) v xs := by
    intro w2 es' clock' es1 clock1 v0 hw2 hgr v xs hr hap
    refine row_stay hr (fun k hk => ?_)
    obtain ⟨cells, hc⟩ := row_cells hr hk
    have hkg : k ≠ g := by rintro rfl; rw [hg] at hc; cases hc
    have hlt := Kd.R_lt hr k hk
    rw [heap_setBlock_other hw2 _ hkg]
    exact hgr k hlt hkg (fun e => hap k hk e.symm)
  have newrow : ∀ (w2 : World) (es' : Array MapEntry) (clock' : Nat) (es1 : Array MapEntry) (clock1 : Nat) (v' : Value) (xs : List Int), w2.heap[g]? = some (.map es1 clock1) → Kd.R (Kd.int .i64) 3 w2 base (fun _ => True) v' xs → Kd.R (Kd.int .i64) 3 (setBlock w2 g (.map es' clock')) base (fun _ => True) v' xs := by
    intro w2 es' clock' es1 clock1 v' xs hw2 hr
    refine row_stay hr (fun k hk => ?_)
    obtain ⟨cells, hc⟩ := row_cells hr hk
    have hkg : k ≠ g := by rintro rfl; rw [hw2] at hc; cases hc
    exact heap_setBlock_other hw2 _ hkg
  rcases law3.find Wb hkey es.toList F.keys with ⟨h1, h2⟩ | ⟨j, e0, h1, h2, h3⟩
  · have hG : G x y z = [] := by
      apply Classical.byContradiction
      intro hne
      obtain ⟨e, hm, hk⟩ := hall x y z hw hne
      exact h2 e hm hk
    refine ⟨.slice none 0 0, clock, es.push ⟨key3 x y z, .slice none 0 0, clock⟩, clock + 1, ?_, by rw [hG]; exact Kd.R_nil _ _ _ _ _, ?_⟩
    · simp [Instr.mapEntry, run_underlying Try.underlying66, MapKept.run_getObj_map hg', law3.check Wb false hkey, h1, zero55, MapKept.run_setObj_map _ hg', Result.andThen, setBlock]
    · intro w2 v' a hw2 hgr hr' hloc
      rw [hG, List.nil_append] at hr'
      refine ⟨es.push ⟨key3 x y z, v', clock⟩, clock + 1, ?_, ?_⟩
      · have hidx : (es.push ⟨key3 x y z, .slice none 0 0, clock⟩).findIdx? (fun e => ((e.born : Nat) : Int) == ((clock : Nat) : Int)) = some es.size := by
          rw [Go.WideElems.findIdx_arr]
          exact Go.WideElems.findIdx_born (l := (es.push ⟨key3 x y z, .slice none 0 0, clock⟩).toList) (j := es.size) (e0 := ⟨key3 x y z, .slice none 0 0, clock⟩) (by
            simp only [Array.toList_push, List.map_append, List.map_cons, List.map_nil]
            refine List.nodup_append.2 ⟨hs2, by simp, fun a ha c hc e1 => ?_⟩
            simp only [List.mem_singleton] at hc
            obtain ⟨x, hx, rfl⟩ := List.mem_map.1 ha
            have := hs1 x hx
            omega) (by simp)
        have hmod : (es.push ⟨key3 x y z, .slice none 0 0, clock⟩).modify es.size (fun e => { e with val := v' }) = es.push ⟨key3 x y z, v', clock⟩ := by
          apply Array.ext'
          rw [Array.toList_modify, Array.toList_push, Array.toList_push, ← Array.length_toList, Go.WideElems.modify_last]
        simp [Instr.entryStore, MapKept.run_getObj_map hw2, asInt, asIntOf, goInt, hidx, hmod, MapKept.run_setObj_map _ hw2, Result.andThen, setBlock]
      · have fresh : ∀ e ∈ es.toList, ∀ k, e.val.ownBlock = some k → v'.ownBlock ≠ some k := by
          intro e hm k hk hk'
          obtain ⟨x', y', z', _, _, _, hr⟩ := he e hm
          have := Kd.R_lt hr k hk
          rcases hloc with hl | ⟨b, hl, hle⟩
          · rw [hl] at hk'; simp [Value.ownBlock] at hk'
          · rw [hl] at hk'; injection hk' with hk'; omega
        refine ⟨es.push ⟨key3 x y z, v', clock⟩, clock + 1, heap_setBlock_same hw2 _, hb, MapKept.stamped_push hs h2, by simp; omega, ?_, ?_, ?_, hlen' a⟩
        · intro e hm
          simp only [Array.toList_push, List.mem_append, List.mem_singleton] at hm
          rcases hm with hm | rfl
          · obtain ⟨x', y', z', hw', hk, hne, hr⟩ := he e hm
            have hkn : key3 x' y' z' ≠ key3 x y z := by rw [← hk]; exact h2 e hm
            refine ⟨x', y', z', hw', hk, by rw [upd3_other G hkn]; exact hne, ?_⟩
            rw [upd3_other G hkn]
            exact stays w2 _ _ _ _ _ hw2 hgr _ _ hr (fun k _ => by simp [Value.ownBlock])
          · exact ⟨x, y, z, hw, rfl, by rw [upd3_same]; simp, by rw [upd3_same, hG, List.nil_append]; exact newrow w2 _ _ _ _ _ _ hw2 hr'⟩
        · intro e1 hm1 e2 hm2 hne k hk
          simp only [Array.toList_push, List.mem_append, List.mem_singleton] at hm1 hm2
          rcases hm1 with hm1 | rfl <;> rcases hm2 with hm2 | rfl
          · exact ha e1 hm1 e2 hm2 hne k hk
          · exact fresh e1 hm1 k hk
          · exact fun hk2 => fresh e2 hm2 k hk2 hk
          · exact absurd rfl hne
        · intro x' y' z' hw' hne
          by_cases hk : key3 x' y' z' = key3 x y z
          · exact ⟨⟨key3 x y z, v', clock⟩, by simp, hk.symm⟩
          · rw [upd3_other G hk] at hne
            obtain ⟨e, hm, hk2⟩ := hall x' y' z' hw' hne
            exact ⟨e, by simp [Array.mem_toList_iff.1 hm], hk2⟩
  · have hj : es[j]? = some e0 := by simpa using h2
    have hm0 : e0 ∈ es.toList := List.mem_of_getElem? h2
    obtain ⟨x', y', z', hw', hk0, hne0, hr0⟩ := he e0 hm0
    rw [h3] at hk0
    obtain ⟨rfl, rfl, rfl⟩ := key3_inj hk0
    have hsame : es.modify j (fun e => { e with key := key3 x y z }) = es := by
      apply Array.ext'
      rw [Array.toList_modify, Go.ChangeMaps.modify_eq_set _ _ _ _ h2]
      have : ({ e0 with key := key3 x y z } : MapEntry) = e0 := by rw [← h3]
      rw [this]
      exact Go.WideElems.set_self _ _ _ h2
    refine ⟨e0.val, e0.born, es, clock, ?_, hr0, ?_⟩
    · simp [Instr.mapEntry, run_underlying Try.underlying66, MapKept.run_getObj_map hg', law3.check Wb false hkey, h1, hj, h3, law3.stays Wb hkey, hsame, MapKept.run_setObj_map _ hg', Result.andThen, setBlock]
    · intro w2 v' a hw2 hgr hr' hloc
      have hidx : es.findIdx? (fun e => ((e.born : Nat) : Int) == ((e0.born : Nat) : Int)) = some j := by
        rw [Go.WideElems.findIdx_arr]
        exact Go.WideElems.findIdx_born hs2 h2
      have hset : (es.modify j (fun e => { e with val := v' })).toList = es.toList.set j { e0 with val := v' } := by
        rw [Array.toList_modify, Go.ChangeMaps.modify_eq_set _ _ _ _ h2]
      refine ⟨es.modify j (fun e => { e with val := v' }), clock, ?_, ?_⟩
      · simp [Instr.entryStore, MapKept.run_getObj_map hw2, asInt, asIntOf, goInt, hidx, MapKept.run_setObj_map _ hw2, Result.andThen, setBlock]
      · have hjl : j < es.toList.length := (List.getElem?_eq_some_iff.1 h2).1
        have hej : es.toList[j] = e0 := (List.getElem?_eq_some_iff.1 h2).2
        -- who is in the row of entries now
        have who : ∀ e ∈ es.toList.set j { e0 with val := v' }, (e ∈ es.toList ∧ e.key ≠ key3 x y z) ∨ e = { e0 with val := v' } := by
          intro e hm
          obtain ⟨i, hi, rfl⟩ := List.mem_iff_getElem.1 hm
          rw [List.length_set] at hi
          rw [List.getElem_set]
          by_cases hij : j = i
          · rw [if_pos hij]; exact .inr rfl
          · rw [if_neg hij]
            refine .inl ⟨List.getElem_mem hi, fun hk => hij ?_⟩
            have hkeys : (es.toList.map (·.key))[i]'(by simpa using hi) = (es.toList.map (·.key))[j]'(by simpa using hjl) := by simpa [hej, h3] using hk
            exact ((List.getElem_inj hs3).1 hkeys).symm
        have fresh : ∀ e ∈ es.toList, e.key ≠ key3 x y z → ∀ k, e.val.ownBlock = some k → v'.ownBlock ≠ some k := by
          intro e hm hk0 k hk hk'
          obtain ⟨x', y', z', _, _, _, hr⟩ := he e hm
          have := Kd.R_lt hr k hk
          rcases hloc with hl | ⟨b, hl, hle⟩
          · rw [hl] at hk'; exact ha e hm e0 hm0 (by rw [h3]; exact hk0) k hk hk'
          · rw [hl] at hk'; injection hk' with hk'; omega
        refine ⟨es.modify j (fun e => { e with val := v' }), clock, heap_setBlock_same hw2 _, hb, ?_, by simp; omega, ?_, ?_, ?_, hlen' a⟩
        · refine ⟨fun e hm => ?_, ?_, ?_⟩
          · rw [hset] at hm
            rcases who e hm with ⟨hm, _⟩ | rfl
            · exact hs1 e hm
            · exact hs1 e0 hm0
          · rw [hset, List.map_set, show ({ e0 with val := v' } : MapEntry).born = (es.toList.map (·.born))[j]'(by simpa using hjl) from by simp [hej], List.set_getElem_self]; exact hs2
          · rw [hset, List.map_set, show ({ e0 with val := v' } : MapEntry).key = (es.toList.map (·.key))[j]'(by simpa using hjl) from by simp [hej], List.set_getElem_self]; exact hs3
        · intro e hm
          rw [hset] at hm
          rcases who e hm with ⟨hm, hkn⟩ | rfl
          · obtain ⟨x', y', z', hw', hk, hne, hr⟩ := he e hm
            rw [hk] at hkn
            refine ⟨x', y', z', hw', hk, by rw [upd3_other G hkn]; exact hne, ?_⟩
            rw [upd3_other G hkn]
            exact stays w2 _ _ _ _ _ hw2 hgr _ _ hr (fun k hk' hk2 => ha e hm e0 hm0 (by rw [hk, h3]; exact hkn) k hk' hk2)
          · exact ⟨x, y, z, hw, h3, by rw [upd3_same]; simp, by rw [upd3_same]; exact newrow w2 _ _ _ _ _ _ hw2 hr'⟩
        · intro e1 hm1 e2 hm2 hne k hk
          rw [hset] at hm1 hm2
          rcases who e1 hm1 with ⟨hm1, hk1⟩ | rfl <;> rcases who e2 hm2 with ⟨hm2, hk2⟩ | rfl
          · exact ha e1 hm1 e2 hm2 hne k hk
          · exact fresh e1 hm1 hk1 k hk
          · exact fun hk' => fresh e2 hm2 hk2 k hk' hk
          · exact absurd rfl hne
        · intro x' y' z' hw' hne
          rw [hset]
          by_cases hk : key3 x' y' z' = key3 x y z
          · exact ⟨{ e0 with val := v' }, List.mem_iff_getElem.2 ⟨j, by simpa using hjl, by simp⟩, by rw [hk]; exact h3⟩
          · rw [upd3_other G hk] at hne
            obtain ⟨e, hm, hk2⟩ := hall x' y' z' hw' hne
            obtain ⟨i, hi, rfl⟩ := List.mem_iff_getElem.1 hm
            refine ⟨es.toList[i], List.mem_iff_getElem.2 ⟨i, by simpa using hi, ?_⟩, hk2⟩
            rw [List.getElem_set, if_neg]
            rintro rfl
            exact hk (by rw [← hk2, hej, h3])
open Go.ChangeMaps (setBlock heap_setBlock_same heap_setBlock_other)

theorem setBlock_alloc (w : World) (g : Nat) (m o : Obj) (h : g < w.heap.size) : setBlock (w.alloc o) g m = (setBlock w g m).alloc o := by
  show ({ w with heap := (w.heap.push o).setIfInBounds g m } : World) = { w with heap := (w.heap.setIfInBounds g m).push o }
  congr 1
  apply Array.ext'
  simp [List.set_append_left, h]
theorem setBlock_size (w : World) (g : Nat) (m : Obj) : (setBlock w g m).heap.size = w.heap.size := by
  show (w.heap.setIfInBounds g m).size = _
  simp
theorem below_setBlock {B : Nat} {w0 w : World} (h : Below B w0 w) {g : Nat} (hg : B ≤ g) {m : Obj} : Below B w0 (setBlock w g m) :=
  h.trans ⟨rfl, rfl, rfl, by rw [setBlock_size]; exact Nat.le_refl _, fun k hk => by
    show (w.heap.setIfInBounds g m)[k]? = _
    rw [Array.getElem?_setIfInBounds, if_neg (by omega)]⟩
theorem row_setBlock {W : World} {base g : Nat} {es : Array MapEntry} {clock : Nat} {m : Obj} {v : Value} {xs : List Int} (hg : W.heap[g]? = some (.map es clock)) (h : Kd.R (Kd.int .i64) 3 W base (fun _ => True) v xs) : Kd.R (Kd.int .i64) 3 (setBlock W g m) base (fun _ => True) v xs := by
  refine row_stay h (fun k hk => ?_)
  obtain ⟨cells, hc⟩ := row_cells h hk
  exact heap_setBlock_other hg _ (by rintro rfl; rw [hg] at hc; cases hc)
/-- The three bytes of a place, written down. -/
def addAt (G : Int → Int → Int → List Int) (l : List Int) (i : Nat) : Int → Int → Int → List Int := if l.length < i + 3 then G else upd3 G (l.getD i 0) (l.getD (i + 1) 0) (l.getD (i + 2) 0) (i : Int)
/-- What is neither the map nor a row of whole numbers stays. -/
def KeptT (w w' : World) (g : Nat) : Prop := w.heap.size ≤ w'.heap.size ∧ ∀ k, k < w.heap.size → k ≠ g → (∀ cs, w.heap[k]? ≠ some (.cells cs 3 (0, 0))) → w'.heap[k]? = w.heap[k]?
set_option maxHeartbeats 8000000 in
set_option maxRecDepth 100000 in
theorem seen_add (g n : Nat) (G : Int → Int → Int → List Int) (A0 : Option Addr) (c0 : Nat) (l0 : List Int) (i : Nat) (w0 w : World) (hB : Below w0.heap.size w0 w) (hS : Seen w w0.heap.size g n G)
    (hr0 : Kd.C (Kd.int .u8) w A0 l0.length l0) (hc0 : l0.length ≤ c0) (hw : ∀ x ∈ l0, (Lit.int .u8 x).wf = true) (hn : n + 1 ≤ 1000000) (hi : i < l0.length) (hl : l0.length ≤ 1000000) :
    Calls Try.prog 31 #[.map (some g), .slice A0 l0.length c0, .int .i64 i] w fun e w' => e = .returned (.tuple #[]) ∧ Seen w' w0.heap.size g (n + 1) (addAt G l0 i) ∧ Below w0.heap.size w0 w' ∧ KeptT w w' g := by
  have HS := Aside0.mk hS
  have HR := Aside0.mk hr0
  have HW := Aside0.mk hw
  have HB := Aside0.mk hB
  clear hS hr0 hw hB
  by_cases h3 : l0.length < i + 3
  · go_enter Try.func31, Try.ntmps31
    go_wp2_with fail
    refine bodyPost_ret (results_none rfl _ _ _) rfl ?_
    refine ⟨rfl, ?_, HB.out, Nat.le_refl _, fun _ _ _ _ => rfl⟩
    unfold addAt
    rw [if_pos h3]
    obtain ⟨es, clock, hg, hb, hs, hsz, he, ha, hall, hlen⟩ := HS.out
    exact ⟨es, clock, hg, hb, hs, Nat.le_succ_of_le hsz, he, ha, hall, fun x y z => Nat.le_succ_of_le (hlen x y z)⟩
  · obtain ⟨ad, e0, hx0⟩ := Kd.at_int HR.out (i : Int) (by omega) (by omega)
    obtain ⟨ad1, e1, hx1⟩ := Kd.at_int HR.out ((i : Int) + 1) (by omega) (by omega)
    obtain ⟨ad2, e2, hx2⟩ := Kd.at_int HR.out ((i : Int) + 2) (by omega) (by omega)
    subst e0
    injection e1 with e1
    injection e2 with e2
    subst e1 e2
    obtain ⟨j1, hj1⟩ : ∃ j : Nat, j = i + 1 := ⟨_, rfl⟩
    obtain ⟨j2, hj2⟩ : ∃ j : Nat, j = i + 2 := ⟨_, rfl⟩
    rw [Int.toNat_natCast] at hx0
    rw [show (i : Int) + 1 = (j1 : Int) from by omega, Int.toNat_natCast] at hx1
    rw [show (i : Int) + 2 = (j2 : Int) from by omega, Int.toNat_natCast] at hx2
    obtain ⟨x, ex⟩ : ∃ x, x = rd l0 (i : Int) := ⟨_, rfl⟩
    obtain ⟨y, ey⟩ : ∃ x, x = rd l0 (j1 : Int) := ⟨_, rfl⟩
    obtain ⟨z, ez⟩ : ∃ x, x = rd l0 (j2 : Int) := ⟨_, rfl⟩
    rw [← ex] at hx0
    rw [← ey] at hx1
    rw [← ez] at hx2
    have EX := Aside0.mk (And.intro ex (And.intro ey (And.intro ez (And.intro hj1 hj2))))
    clear ex ey ez
    have hb := below_alloc (Below.refl w.heap.size w) (.cells #[.int .u8 0, .int .u8 0, .int .u8 0] 96 (0, 0))
    have hxa0 := pw_cell_below hb hx0
    have hxa1 := pw_cell_below hb hx1
    have hxa2 := pw_cell_below hb hx2
    clear hb
    have f1 : IntKind.i64.wrap ((i : Int) + 1) = (j1 : Int) := by rw [IntWalk.i64_in _ (by omega)]; omega
    have f2 : IntKind.i64.wrap ((i : Int) + 2) = (j2 : Int) := by rw [IntWalk.i64_in _ (by omega)]; omega
    have f7 : (j1 : Int) < (l0.length : Int) := by omega
    have f8 : (j2 : Int) < (l0.length : Int) := by omega
    clear hj1 hj2
    go_enter Try.func31, Try.ntmps31
    go_wp2_with fail
    go_region_held3 (fun w' => w'.cell? (ad.add i) = some (.int .u8 x) ∧ w'.cell? (ad.add j1) = some (.int .u8 y) ∧ w'.cell? (ad.add j2) = some (.int .u8 z)) (first | exact ⟨hx0, hx1, hx2⟩ | exact ⟨hxa0, hxa1, hxa2⟩ | go_keep) (first | fail)
    obtain ⟨w1, hw1⟩ : ∃ w1, w1 = (w.alloc (.cells #[.int .u8 x, .int .u8 y, .int .u8 z] 96 (0, 0))).drew := ⟨_, rfl⟩
    have hb1 : Below w.heap.size w w1 := by rw [hw1]; exact (below_alloc (Below.refl _ _) _).drew
    have hk0 : w1.heap[w.heap.size]? = some (.cells #[.int .u8 x, .int .u8 y, .int .u8 z] 96 (0, 0)) := by rw [hw1]; exact blk_new w _
    have hsz1 : w1.heap.size = w.heap.size + 1 := by rw [hw1]; simp
    have hS1 := HS.out.below hb1
    have hwf := HW.out
    obtain ⟨ex, ey, ez, ej1, ej2⟩ := EX.out
    have hWF : WF3 x y z := by
      rw [ex, ey, ez]
      unfold rd
      rw [Int.toNat_natCast, Int.toNat_natCast, Int.toNat_natCast]
      refine ⟨hwf _ ?_, hwf _ ?_, hwf _ ?_⟩ <;> (rw [List.getD_eq_getElem?_getD, List.getElem?_eq_getElem (by omega)]; exact List.getElem_mem _)
    obtain ⟨v0, st, es1, clock1, hrunE, hr0, hback⟩ := seen_entry hS1 (Wb := w1.alloc (.cells #[.int .i64 (i : Int)] 3 (0, 0))) (below_alloc (Below.refl _ _) _) (by unfold maxLen; omega) hWF
    obtain ⟨es0, clock0, hg1, hbg, _, _, _, _, _, hlen⟩ := hS1
    have hglt := blk_lt hg1
    have hsw : setBlock (w1.alloc (.cells #[.int .i64 (i : Int)] 3 (0, 0))) g (.map es1 clock1) = (setBlock w1 g (.map es1 clock1)).alloc (.cells #[.int .i64 (i : Int)] 3 (0, 0)) := setBlock_alloc w1 g _ _ hglt
    have HX := Aside0.mk (And.intro hb1 (And.intro hr0 (And.intro hback (And.intro hg1 (And.intro hbg (And.intro (hlen x y z) (And.intro hglt (And.intro hsz1 hsw))))))))
    have hcx0 : w1.cell? ⟨w.heap.size, 0, none⟩ = some (.int .u8 x) := (blk_cell hk0 0).trans rfl
    have hcx1 : w1.cell? ⟨w.heap.size, 1, none⟩ = some (.int .u8 y) := (blk_cell hk0 1).trans rfl
    have hcx2 : w1.cell? ⟨w.heap.size, 2, none⟩ = some (.int .u8 z) := (blk_cell hk0 2).trans rfl
    rw [← hw1]
    unfold key3 at hrunE
    have hu57 := Try.underlying96
    clear hb1 hk0 hr0 hback hg1 hbg hlen hsz1 hsw hwf ex ey ez ej1 ej2 hWF hw1 f1 f2 f7 f8 hx0 hx1 hx2 hxa0 hxa1 hxa2
    go_wp2_with (at_builtin; go_must (rw [HX.out.2.2.2.2.2.2.2.2]; refine Kd.R_append (Kd.int .i64) (w0 := w0) w0.heap.size rfl (.tmp 29) (.tmp 31) 73 3 (.int .i64 0) 8 rfl Try.underlying73 info3 rfl (by decide) (by omega) v0 (G x y z) (i : Int) [.int .i64 (i : Int)] (fun _ => True) (fun _ => False) rfl (by rw [setBlock_size]; rfl) rfl (fun _ hk => hk.elim) (fun _ _ => trivial) (row_setBlock HX.out.2.2.2.1 HX.out.2.1) (below_setBlock (HB.out.trans (HX.out.1.mono HB.out.size)) HX.out.2.2.2.2.1) (by rw [setBlock_size]; exact Nat.le_trans HB.out.size HX.out.1.size) (by have := HX.out.2.2.2.2.2.1; omega) ?_; intro v1 w2 ho hb2 hg hat; (have hgr : ∀ k, k < w1.heap.size → k ≠ g → some k ≠ v0.ownBlock → w2.heap[k]? = w1.heap[k]? := fun k hk hkg hkv => (hg.block k (by rw [setBlock_size]; exact hk) hkv).trans (heap_setBlock_other HX.out.2.2.2.1 _ hkg)); (have hw2 : w2.heap[g]? = some (.map es1 clock1) := (hg.block g (by rw [setBlock_size]; exact HX.out.2.2.2.2.2.2.1) (fun e => by obtain ⟨cs, hc⟩ := row_cells HX.out.2.1 e.symm; rw [HX.out.2.2.2.1] at hc; cases hc)).trans (heap_setBlock_same HX.out.2.2.2.1 _)); (obtain ⟨es', clock', hrunS, hSeen⟩ := HX.out.2.2.1 w2 v1 (i : Int) hw2 hgr ho (by rw [setBlock_size] at hat; exact hat)); (have HY := Aside0.mk (And.intro hb2 (And.intro hgr (And.intro hw2 (And.intro hSeen (by have h_ := hg.size; rw [setBlock_size] at h_; exact h_ : w1.heap.size ≤ w2.heap.size))))));  (unfold goInt at hrunS); clear ho hb2 hg hat hgr hw2 hSeen hrunE))
    go_end0
    obtain ⟨hb1, hr0, _, hg1, hbg, _, hglt, hsz1, _⟩ := HX.out
    obtain ⟨hb2, hgr, hw2, hSeen, hsz2⟩ := HY.out
    have hlt2 : g < w2.heap.size := blk_lt hw2
    refine ⟨rfl, ?_, below_setBlock hb2 hbg, ?_, fun k hk hkg hkt => ?_⟩
    · unfold addAt
      rw [if_neg h3]
      obtain ⟨ex, ey, ez, ej1, ej2⟩ := EX.out
      rw [ex, ey, ez] at hSeen
      unfold rd at hSeen
      rw [Int.toNat_natCast, Int.toNat_natCast, Int.toNat_natCast, ej1, ej2] at hSeen
      exact hSeen
    · rw [setBlock_size]; omega
    · have e1 : w1.heap[k]? = w.heap[k]? := hb1.block k hk
      rw [heap_setBlock_other hw2 _ hkg, hgr k (by omega) hkg ?_, e1]
      intro e
      obtain ⟨cs, hc⟩ := row_cells hr0 e.symm
      exact hkt cs (e1 ▸ hc)

-- PART
end Go.Proofs.Ytcjijhjdkgjgeaa.P
namespace Go.Proofs.Ytcjijhjdkgjgeaa.P
open Go.RowKit Go.Proofs.YtcjijhjdkgjgeaaW.PrintWords Go.Proofs.YtcjijhjdkgjgeaaW.PrintLast Go.Proofs.YtcjijhjdkgjgeaaW.PrintMore
attribute [local go_sem] max2_int min2_int max_two min_two max_three min_three max_four min_four   -- for this text's walks alone
set_option linter.unusedVariables false
set_option linter.unusedSimpArgs false

/-! ### match_common: function 50 -/
def match_common.l0 : Nat → List Int → Int → Int → Int → Option (Int)
  | 0, _, _, _, _ => none
  | k + 1, x0, x1, x2, x7 => if x7 < 258 then (if (wrap64 (x2 + x7)) < (x0.length : Int) then (if 0 ≤ (wrap64 (x1 + x7)) then (if (wrap64 (x1 + x7)) < (x0.length : Int) then (if 0 ≤ (wrap64 (x2 + x7)) then (if (rd x0 (wrap64 (x1 + x7))) = (rd x0 (wrap64 (x2 + x7))) then (match_common.l0 k x0 x1 x2 (wrap64 (x7 + 1))) else (some x7)) else (none)) else (none)) else (none)) else (some x7)) else (some x7)
def match_common.f (k : Nat) (l0 : List Int) (a1 : Int) (a2 : Int) : Option (Int) := match_common.l0 k l0 a1 a2 0
theorem match_common.mono_l : ∀ k, (∀ y0 y1 y2 y3, LeO (match_common.l0 k y0 y1 y2 y3) (match_common.l0 (k + 1) y0 y1 y2 y3))
  | 0 => fun _ _ _ _ r h => by simp [match_common.l0] at h
  | k + 1 => by
    have ih0 := match_common.mono_l k
    · intro y0 y1 y2 y3
      unfold match_common.l0
      repeat' first
      | (with_reducible exact ih0 _ _ _ _)
      | (with_reducible exact LeO.refl _)
      | (with_reducible exact LeO.none _)
      | (with_reducible refine LeO.ite ?_ ?_)
      | (with_reducible refine LeO.bind ?_ (fun _ => ?_))
      | exact ih0 _ _ _ _
      | exact LeO.none _
      | refine LeO.ite ?_ ?_
      | refine LeO.bind ?_ (fun _ => ?_)
theorem match_common.mono : ∀ a0 a1 a2 k, LeO (match_common.f k a0 a1 a2) (match_common.f (k + 1) a0 a1 a2) := by
  intro a0 a1 a2 k
  have ih0 := match_common.mono_l k
  unfold match_common.f
  repeat' first
      | (with_reducible exact ih0 _ _ _ _)
      | (with_reducible exact LeO.refl _)
      | (with_reducible exact LeO.none _)
      | (with_reducible refine LeO.ite ?_ ?_)
      | (with_reducible refine LeO.bind ?_ (fun _ => ?_))
      | exact ih0 _ _ _ _
      | exact LeO.none _
      | refine LeO.ite ?_ ?_
      | refine LeO.bind ?_ (fun _ => ?_)
set_option maxHeartbeats 8000000 in
set_option maxRecDepth 100000 in
theorem match_common.calls (k : Nat) (A0 : Option Addr) (c0 : Nat) (l0 : List Int) (a1 : Int) (a2 : Int) (r : Int) (w : World) (hr0 : Kd.C (Kd.int .u8) w A0 l0.length l0) (hc0 : l0.length ≤ c0) (h : match_common.f k l0 a1 a2 = some r) :
    Calls Try.prog 50 #[.slice A0 l0.length c0, .int .i64 a1, .int .i64 a2] w fun e w' => e = .returned (.int .i64 r) ∧ Drawn0 w w' := by
  have HR0 := Aside0.mk hr0
  have HC0 := Aside0.mk hc0
  clear hr0 hc0
  have H : (match_common.l0 k l0 a1 a2 0) = some r := h
  clear h
  have H' := Aside0.mk H
  clear H
  go_enter Try.func50, Try.ntmps50
  go_wp2
  repeat (go_quiet (fail); try go_wp2)
  go_loopg [7] k (fun kq v7 w' => ∃ (x7_1 : Int), v7 = .int .i64 x7_1 ∧ Aside0 (match_common.l0 kq l0 a1 a2 x7_1 = some r) ∧ Aside0 (kq ≤ k) ∧ Drawn0 w w')
  case atStart => exact ⟨(0), (by first | rfl | (simp; done) | (simp [*]; done)), H', ⟨Nat.le_refl _⟩, by repeat (first | exact Drawn0.refl _ | apply Drawn0.step)⟩
  case round =>
    clear H'
    try clear p2
    obtain ⟨x7_1, rfl, HA, HK1, ⟨m1, rfl⟩⟩ := hrel
    cases gk with
    | zero => exact absurd HA.out (by simp [match_common.l0])
    | succ k1 =>
      have H := HA.out
      clear HA
      simp only [match_common.l0] at H
      by_cases c4 : x7_1 < 258
      · rw [if_pos c4] at H
        have c4b0 : decide (x7_1 < 258) = true := decide_eq_true c4
        clear c4
        by_cases c5 : (wrap64 (a2 + x7_1)) < (l0.length : Int)
        · rw [if_pos c5] at H
          have c5b0 : decide ((wrap64 (a2 + x7_1)) < (l0.length : Int)) = true := decide_eq_true c5
          clear c5
          obtain ⟨ji6, hji6⟩ : ∃ j_ : Int, (wrap64 (a1 + x7_1)) = j_ := ⟨_, rfl⟩
          replace H : (if 0 ≤ (ji6) then (if (ji6) < (l0.length : Int) then (if 0 ≤ (wrap64 (a2 + x7_1)) then (if (rd l0 (ji6)) = (rd l0 (wrap64 (a2 + x7_1))) then (match_common.l0 k1 l0 a1 a2 (wrap64 (x7_1 + 1))) else (some x7_1)) else (none)) else (none)) else (none)) = some r := by first | (rw [hji6] at H; exact H) | (simp only [hji6] at H ⊢; exact H)
          have hji6w : (IntKind.i64.wrap (a1 + x7_1)) = ji6 := (i64_w _).trans hji6
          by_cases c7 : 0 ≤ (ji6)
          · rw [if_pos c7] at H
            have c7b0 : decide (0 ≤ (ji6)) = true := decide_eq_true c7
            clear c7
            by_cases c8 : (ji6) < (l0.length : Int)
            · rw [if_pos c8] at H
              have c8b0 : decide ((ji6) < (l0.length : Int)) = true := decide_eq_true c8
              clear c8
              obtain ⟨ji9, hji9⟩ : ∃ j_ : Int, (wrap64 (a2 + x7_1)) = j_ := ⟨_, rfl⟩
              replace H : (if 0 ≤ (ji9) then (if (rd l0 (ji6)) = (rd l0 (ji9)) then (match_common.l0 k1 l0 a1 a2 (wrap64 (x7_1 + 1))) else (some x7_1)) else (none)) = some r := by first | (rw [hji9] at H; exact H) | (simp only [hji9] at H ⊢; exact H)
              (try rw [hji9] at c5b0)
              have hji9w : (IntKind.i64.wrap (a2 + x7_1)) = ji9 := (i64_w _).trans hji9
              by_cases c10 : 0 ≤ (ji9)
              · rw [if_pos c10] at H
                have c10b0 : decide (0 ≤ (ji9)) = true := decide_eq_true c10
                clear c10
                by_cases c11 : (rd l0 (ji6)) = (rd l0 (ji9))
                · rw [if_pos c11] at H
                  have c11b0 : ((rd l0 (ji6)) == (rd l0 (ji9))) = true := beq_iff_eq.mpr c11
                  have c11b1 : ((rd l0 (ji6)) != (rd l0 (ji9))) = false := bne_eq_false_iff_eq.mpr c11
                  clear c11
                  have H' := Aside0.mk H
                  clear H
                  have p134 : 0 ≤ ((ji6) : Int) := of_decide_eq_true (by first | (with_reducible assumption) | assumption)
                  have q134 : (ji6) < (l0.length : Int) := of_decide_eq_true (by first | (with_reducible assumption) | assumption)
                  obtain ⟨ad134, e134, hx134_0⟩ := Kd.at_int HR0.out (ji6) p134 q134
                  cases e134
                  replace p134 := eq_true p134
                  replace q134 := eq_true q134
                  have p135 : 0 ≤ ((ji9) : Int) := of_decide_eq_true (by first | (with_reducible assumption) | assumption)
                  have q135 : (ji9) < (l0.length : Int) := of_decide_eq_true (by first | (with_reducible assumption) | assumption)
                  obtain ⟨ad135, e135, hx135_0⟩ := Kd.at_int HR0.out (ji9) p135 q135
                  obtain rfl : ad134 = ad135 := (by injection e135)
                  replace p135 := eq_true p135
                  replace q135 := eq_true q135
                  go_wp2
                  repeat (go_quiet (fail); try go_wp2)
                  go_roundg k1
                  case measure => have := HK1.out; omega
                  case rel => exact ⟨(wrap64 (x7_1 + 1)), (by first | rfl | (simp; done) | (simp [*]; done)), H', ⟨by have := HK1.out; omega⟩, by repeat (first | exact Drawn0.refl _ | apply Drawn0.step)⟩
                · rw [if_neg c11] at H
                  have c11b0 : ((rd l0 (ji6)) == (rd l0 (ji9))) = false := beq_eq_false_iff_ne.mpr c11
                  have c11b1 : ((rd l0 (ji6)) != (rd l0 (ji9))) = true := bne_iff_ne.mpr c11
                  obtain rfl := Option.some.inj H
                  have p134 : 0 ≤ ((ji6) : Int) := of_decide_eq_true (by first | (with_reducible assumption) | assumption)
                  have q134 : (ji6) < (l0.length : Int) := of_decide_eq_true (by first | (with_reducible assumption) | assumption)
                  obtain ⟨ad134, e134, hx134_0⟩ := Kd.at_int HR0.out (ji6) p134 q134
                  cases e134
                  replace p134 := eq_true p134
                  replace q134 := eq_true q134
                  have p135 : 0 ≤ ((ji9) : Int) := of_decide_eq_true (by first | (with_reducible assumption) | assumption)
                  have q135 : (ji9) < (l0.length : Int) := of_decide_eq_true (by first | (with_reducible assumption) | assumption)
                  obtain ⟨ad135, e135, hx135_0⟩ := Kd.at_int HR0.out (ji9) p135 q135
                  obtain rfl : ad134 = ad135 := (by injection e135)
                  replace p135 := eq_true p135
                  replace q135 := eq_true q135
                  go_wp2
                  repeat (go_quiet (fail); try go_wp2)
                  go_ret
                  exact ⟨by first | rfl | (simp; done) | (simp only [← hji6, ← hji9] <;> (first | rfl | simp)) | (simp [*]; done), by repeat (first | exact Drawn0.refl _ | apply Drawn0.step)⟩
              · rw [if_neg c10] at H
                exact absurd H (by simp)
            · rw [if_neg c8] at H
              exact absurd H (by simp)
          · rw [if_neg c7] at H
            exact absurd H (by simp)
        · rw [if_neg c5] at H
          have c5b0 : decide ((wrap64 (a2 + x7_1)) < (l0.length : Int)) = false := decide_eq_false c5
          clear c5
          obtain rfl := Option.some.inj H
          go_wp2
          repeat (go_quiet (fail); try go_wp2)
          go_ret
          exact ⟨by first | rfl | (simp; done) | (simp [*]; done), by repeat (first | exact Drawn0.refl _ | apply Drawn0.step)⟩
      · rw [if_neg c4] at H
        have c4b0 : decide (x7_1 < 258) = false := decide_eq_false c4
        clear c4
        obtain rfl := Option.some.inj H
        go_wp2
        repeat (go_quiet (fail); try go_wp2)
        go_ret
        exact ⟨by first | rfl | (simp; done) | (simp [*]; done), by repeat (first | exact Drawn0.refl _ | apply Drawn0.step)⟩

end Go.Proofs.Ytcjijhjdkgjgeaa.P
namespace Go.Proofs.Ytcjijhjdkgjgeaa.P
open Go.RowKit Go.Proofs.YtcjijhjdkgjgeaaW.PrintWords Go.Proofs.YtcjijhjdkgjgeaaW.PrintLast Go.Proofs.YtcjijhjdkgjgeaaW.PrintMore
attribute [local go_sem] max2_int min2_int max_two min_two max_three min_three max_four min_four   -- for this text's walks alone
set_option linter.unusedVariables false
set_option linter.unusedSimpArgs false

-- PART
/-! ### match_seen_best: function 30 (by hand) -/
/-- For how many bytes, at most so many more, two places go alike. -/
def comF (l : List Int) (p i : Nat) : Nat → Nat → Nat
  | 0, n => n
  | f + 1, n => if i + n < l.length ∧ l.getD (p + n) 0 = l.getD (i + n) 0 then comF l p i f (n + 1) else n
def com (l : List Int) (p i : Nat) : Nat := comF l p i 258 0
theorem comF_le (l : List Int) (p i : Nat) : ∀ f n, comF l p i f n ≤ n + f
  | 0, n => by simp [comF]
  | f + 1, n => by
    simp only [comF]
    split
    · have := comF_le l p i f (n + 1); omega
    · omega
theorem com_le (l : List Int) (p i : Nat) : com l p i ≤ 258 := by have := comF_le l p i 258 0; unfold com; omega
theorem common_loop (l : List Int) (p i : Nat) (hp : p ≤ i) (hl : l.length ≤ 1000000) (hi : i ≤ 1000000) : ∀ (f n k : Nat), n + f = 258 → f < k → match_common.l0 k l (p : Int) (i : Int) (n : Int) = some ((comF l p i f n : Nat) : Int) := by
  have wi : ∀ a : Int, 0 ≤ a → a ≤ 3000000 → wrap64 a = a := fun a h0 h1 => by unfold wrap64; omega
  intro f
  induction f with
  | zero =>
    intro n k hn hk
    obtain ⟨k, rfl⟩ : ∃ m, k = m + 1 := ⟨k - 1, by omega⟩
    simp only [match_common.l0, comF]
    rw [if_neg (by omega)]
  | succ f ih =>
    intro n k hn hk
    obtain ⟨k, rfl⟩ : ∃ m, k = m + 1 := ⟨k - 1, by omega⟩
    simp only [match_common.l0, comF]
    rw [if_pos (by omega), wi _ (by omega) (by omega)]
    by_cases h1 : i + n < l.length
    · rw [if_pos (by omega), wi _ (by omega) (by omega), if_pos (by omega), if_pos (by omega), if_pos (by omega), show (p : Int) + (n : Int) = ((p + n : Nat) : Int) from by omega, show (i : Int) + (n : Int) = ((i + n : Nat) : Int) from by omega]
      unfold rd
      rw [Int.toNat_natCast, Int.toNat_natCast, wi _ (by omega) (by omega), show (n : Int) + 1 = ((n + 1 : Nat) : Int) from by omega]
      by_cases h2 : l.getD (p + n) 0 = l.getD (i + n) 0
      · rw [if_pos h2, if_pos ⟨h1, h2⟩]
        exact ih (n + 1) k (by omega) (by omega)
      · rw [if_neg h2, if_neg (fun h => h2 h.2)]
    · rw [if_neg (by omega), if_neg (fun h => h1 h.1)]
theorem common_is (l : List Int) (p i : Nat) (hp : p ≤ i) (hl : l.length ≤ 1000000) (hi : i ≤ 1000000) : match_common.f 300 l (p : Int) (i : Int) = some ((com l p i : Nat) : Int) := common_loop l p i hp hl hi 258 0 300 rfl (by omega)
/-- The longest piece among these places, the nearest first. -/
def pick (l : List Int) (i : Nat) : List Int → Nat × Nat → Nat × Nat
  | [], a => a
  | p :: ps, a => if (i : Int) - p ≤ 2048 then (if com l p.toNat i > a.1 then pick l i ps (com l p.toNat i, i - p.toNat) else pick l i ps a) else a
def bestL (G : Int → Int → Int → List Int) (l : List Int) (i : Nat) : Nat × Nat := if l.length < i + 3 then (0, 0) else pick l i (G (l.getD i 0) (l.getD (i + 1) 0) (l.getD (i + 2) 0)).reverse (0, 0)
set_option maxHeartbeats 8000000 in
set_option maxRecDepth 100000 in
theorem seen_best (g n base : Nat) (G : Int → Int → Int → List Int) (A0 : Option Addr) (c0 : Nat) (l0 : List Int) (i : Nat) (w : World) (hS : Seen w base g n G)
    (hr0 : Kd.C (Kd.int .u8) w A0 l0.length l0) (hc0 : l0.length ≤ c0) (hw : ∀ x ∈ l0, (Lit.int .u8 x).wf = true) (hn : n + 1 ≤ 1000000) (hi : i < l0.length) (hl : l0.length ≤ 1000000)
    (hG : ∀ x y z p, p ∈ G x y z → 0 ≤ p ∧ p < i) :
    Calls Try.prog 30 #[.map (some g), .slice A0 l0.length c0, .int .i64 i] w fun e w' => e = .returned (.tuple #[.int .i64 ((bestL G l0 i).1 : Int), .int .i64 ((bestL G l0 i).2 : Int)]) ∧ Below w.heap.size w w' := by
  have HS := Aside0.mk hS
  have HR := Aside0.mk hr0
  have HW := Aside0.mk hw
  have HG := Aside0.mk hG
  have HC := Aside0.mk hc0
  clear hS hr0 hw hG hc0
  by_cases h3 : l0.length < i + 3
  · go_enter Try.func30, Try.ntmps30
    go_wp2_with fail
    go_ret2
    unfold bestL
    rw [if_pos h3]
    exact ⟨rfl, Below.refl _ _⟩
  · obtain ⟨ad, e0, hx0⟩ := Kd.at_int HR.out (i : Int) (by omega) (by omega)
    obtain ⟨ad1, e1, hx1⟩ := Kd.at_int HR.out ((i : Int) + 1) (by omega) (by omega)
    obtain ⟨ad2, e2, hx2⟩ := Kd.at_int HR.out ((i : Int) + 2) (by omega) (by omega)
    subst e0
    injection e1 with e1
    injection e2 with e2
    subst e1 e2
    obtain ⟨j1, hj1⟩ : ∃ j : Nat, j = i + 1 := ⟨_, rfl⟩
    obtain ⟨j2, hj2⟩ : ∃ j : Nat, j = i + 2 := ⟨_, rfl⟩
    rw [Int.toNat_natCast] at hx0
    rw [show (i : Int) + 1 = (j1 : Int) from by omega, Int.toNat_natCast] at hx1
    rw [show (i : Int) + 2 = (j2 : Int) from by omega, Int.toNat_natCast] at hx2
    obtain ⟨x, ex⟩ : ∃ x, x = rd l0 (i : Int) := ⟨_, rfl⟩
    obtain ⟨y, ey⟩ : ∃ x, x = rd l0 (j1 : Int) := ⟨_, rfl⟩
    obtain ⟨z, ez⟩ : ∃ x, x = rd l0 (j2 : Int) := ⟨_, rfl⟩
    rw [← ex] at hx0
    rw [← ey] at hx1
    rw [← ez] at hx2
    have hwf := HW.out
    have hWF : WF3 x y z := by
      rw [ex, ey, ez]
      unfold rd
      rw [Int.toNat_natCast, Int.toNat_natCast, Int.toNat_natCast]
      refine ⟨hwf _ ?_, hwf _ ?_, hwf _ ?_⟩ <;> (rw [List.getD_eq_getElem?_getD, List.getElem?_eq_getElem (by omega)]; exact List.getElem_mem _)
    have hd1 : Below w.heap.size w w.drew := (Below.refl _ _).drew
    obtain ⟨Ap, cp, hrunL, hcp, hCp⟩ := seen_look HS.out (by unfold maxLen; omega) hWF
    have hrunL0 := hrunL w (Below.refl _ _)
    have hrunL1 := hrunL w.drew hd1
    unfold key3 at hrunL0 hrunL1
    have HX := Aside0.mk (And.intro ex (And.intro ey (And.intro ez (And.intro hj1 (And.intro hj2 (And.intro hCp hcp))))))
    have hu57 := Try.underlying96
    have hP := HG.out x y z
    have hPn : (G x y z).length ≤ 1000000 := by
      obtain ⟨es, clock, hg, hb, hs, hsz, he, ha, hall, hlen⟩ := HS.out
      exact Nat.le_trans (hlen x y z) (by omega)
    generalize hPP : G x y z = P at *
    have HPP := Aside0.mk hPP
    have HP := Aside0.mk hP
    have f1 : IntKind.i64.wrap ((i : Int) + 1) = (j1 : Int) := by rw [IntWalk.i64_in _ (by omega)]; omega
    have f2 : IntKind.i64.wrap ((i : Int) + 2) = (j2 : Int) := by rw [IntWalk.i64_in _ (by omega)]; omega
    have f7 : (j1 : Int) < (l0.length : Int) := by omega
    have f8 : (j2 : Int) < (l0.length : Int) := by omega
    clear ex ey ez hj1 hj2 hwf hWF hd1 hrunL hCp hcp hP hPP
    go_enter Try.func30, Try.ntmps30
    go_wp2_with fail
    go_region_held3 (fun w' => w'.cell? (ad.add i) = some (.int .u8 x) ∧ w'.cell? (ad.add j1) = some (.int .u8 y) ∧ w'.cell? (ad.add j2) = some (.int .u8 z)) (first | exact ⟨hx0, hx1, hx2⟩ | go_keep) (first | fail)
    have hb0 := Aside0.mk ((Below.refl w.heap.size w).drew)
    have hF : Aside0 (pick l0 i (P.take P.length).reverse (0, 0) = bestL G l0 i) := ⟨by
      obtain ⟨ex, ey, ez, ej1, ej2, _⟩ := HX.out
      unfold rd at ex ey ez
      rw [Int.toNat_natCast] at ex ey ez
      unfold bestL
      rw [if_neg h3, List.take_length, ← HPP.out, ex, ey, ez, ej1, ej2]⟩
    clear hrunL0 hrunL1 hx0 hx1 hx2 f1 f2 f7 f8 hu57
    go_wp2_with fail
    go_loopg [6, 7, 9] P.length (fun kq v6 v7 v9 w' => ∃ (n1 d1 m : Nat), v6 = .int .i64 n1 ∧ v7 = .int .i64 d1 ∧ v9 = .int .i64 ((m : Int) - 1) ∧ n1 ≤ 258 ∧ m ≤ P.length ∧ Aside0 (kq = m) ∧ Aside0 (pick l0 i (P.take m).reverse (n1, d1) = bestL G l0 i) ∧ Aside0 (Below w.heap.size w w'))
    case atStart => exact ⟨0, 0, P.length, rfl, rfl, by go_num, by omega, Nat.le_refl _, ⟨rfl⟩, hF, hb0⟩
    case round =>
      clear hb0 hF
      obtain ⟨n1, d1, m, rfl, rfl, rfl, hn1, hm, HK, HF, HB⟩ := hrel
      cases m with
      | zero =>
        go_wp2_with fail
        go_ret2
        have := HF.out
        simp only [List.take_zero, List.reverse_nil, pick] at this
        rw [← this]
        exact ⟨rfl, HB.out⟩
      | succ m =>
        rw [show (((m + 1 : Nat) : Int) - 1) = (m : Int) from by omega]
        obtain ⟨ap, ea, hxp⟩ := Kd.at_int (Kd.C_below HX.out.2.2.2.2.2.1 HB.out) (m : Int) (by omega) (by omega)
        subst ea
        rw [Int.toNat_natCast] at hxp
        obtain ⟨p, ep⟩ : ∃ p, p = rd P (m : Int) := ⟨_, rfl⟩
        rw [← ep] at hxp
        have hpm : p ∈ P := by
          rw [ep]; unfold rd
          rw [Int.toNat_natCast, List.getD_eq_getElem?_getD, List.getElem?_eq_getElem (by omega)]
          exact List.getElem_mem _
        obtain ⟨hp0, hp1⟩ := HP.out p hpm
        obtain ⟨p, rfl⟩ := Int.eq_ofNat_of_zero_le hp0
        have htake : Aside0 ((P.take (m + 1)).reverse = (p : Int) :: (P.take m).reverse) := ⟨by
          rw [List.take_succ_eq_append_getElem (by omega), List.reverse_append, List.reverse_singleton, ep]
          unfold rd
          rw [Int.toNat_natCast, List.getD_eq_getElem?_getD, List.getElem?_eq_getElem (by omega)]
          rfl⟩
        have EP := Aside0.mk ep
        clear ep hpm
        by_cases hd : (i : Int) - (p : Int) ≤ 2048
        · have hcc := com_le l0 p i
          have hcom := Aside0.mk (common_is l0 p i (by omega) hl (by omega))
          obtain ⟨c, ec⟩ : ∃ c, c = com l0 p i := ⟨_, rfl⟩
          rw [← ec] at hcc hcom
          have EC := Aside0.mk ec
          clear ec
          go_wp2_with fail
          refine (match_common.calls 300 _ _ l0 (p : Int) (i : Int) (c : Int) wr (Kd.C_below HR.out HB.out) HC.out hcom.out).mono ?_
          rintro e1 w2 ⟨rfl, hdr⟩
          have HB2 := Aside0.mk (HB.out.trans (hdr.below.mono HB.out.size))
          obtain ⟨ap2, ea2, hxp2⟩ := Kd.at_int (Kd.C_below HX.out.2.2.2.2.2.1 HB2.out) (m : Int) (by omega) (by omega)
          injection ea2 with ea2
          subst ea2
          rw [Int.toNat_natCast] at hxp2
          rw [show rd P (m : Int) = (p : Int) from EP.out.symm] at hxp2
          by_cases hgt : n1 < c
          · go_wp2_with fail
            go_region
            go_wp2_with fail
            go_roundg m
            case measure => have := HK.out; omega
            case rel =>
              refine ⟨c, i - p, m, rfl, ?_, rfl, hcc, by omega, ⟨rfl⟩, ⟨?_⟩, ⟨HB2.out.drew⟩⟩
              · go_num
              · rw [← HF.out, htake.out]
                simp only [pick]
                rw [if_pos hd, Int.toNat_natCast, ← EC.out, if_pos hgt]
          · go_wp2_with fail
            go_roundg m
            case measure => have := HK.out; omega
            case rel =>
              refine ⟨n1, d1, m, rfl, rfl, rfl, hn1, by omega, ⟨rfl⟩, ⟨?_⟩, HB2⟩
              rw [← HF.out, htake.out]
              simp only [pick]
              rw [if_pos hd, Int.toNat_natCast, ← EC.out, if_neg hgt]
        · go_wp2_with fail
          go_ret2
          have := HF.out
          rw [htake.out] at this
          simp only [pick] at this
          rw [if_neg (by omega)] at this
          rw [← this]
          exact ⟨rfl, HB.out⟩
/-- The places that were noted, of the first so many. -/
def noted (l : List Int) : Nat → (Int → Int → Int → List Int)
  | 0 => fun _ _ _ => []
  | i + 1 => addAt (noted l i) l i
theorem noted_lt (l : List Int) : ∀ i x y z p, p ∈ noted l i x y z → 0 ≤ p ∧ p < (i : Int)
  | 0, x, y, z, p, h => by simp [noted] at h
  | i + 1, x, y, z, p, h => by
    simp only [noted, addAt] at h
    split at h
    · have := noted_lt l i x y z p h; omega
    · unfold upd3 at h
      split at h
      · rcases List.mem_append.1 h with h | h
        · have := noted_lt l i _ _ _ p h; omega
        · have := List.mem_singleton.1 h; omega
      · have := noted_lt l i x y z p h; omega

-- PART
end Go.Proofs.Ytcjijhjdkgjgeaa.P
namespace Go.Proofs.Ytcjijhjdkgjgeaa.P
open Go.RowKit Go.Proofs.YtcjijhjdkgjgeaaW.PrintWords Go.Proofs.YtcjijhjdkgjgeaaW.PrintLast Go.Proofs.YtcjijhjdkgjgeaaW.PrintMore
attribute [local go_sem] max2_int min2_int max_two min_two max_three min_three max_four min_four   -- for this text's walks alone
set_option linter.unusedVariables false
set_option linter.unusedSimpArgs false

-- PART
/-! ### match_Tokens: function 25 (by hand) -/
theorem comF_len (l : List Int) (p i : Nat) : ∀ f n, i + n ≤ l.length → i + comF l p i f n ≤ l.length
  | 0, n, h => by simpa [comF] using h
  | f + 1, n, h => by
    simp only [comF]
    split
    · rename_i h1
      exact comF_len l p i f (n + 1) (by omega)
    · exact h
theorem pick_len (l : List Int) (i : Nat) (hi : i ≤ l.length) : ∀ ps a, a.1 ≤ 258 ∧ i + a.1 ≤ l.length → (pick l i ps a).1 ≤ 258 ∧ i + (pick l i ps a).1 ≤ l.length
  | [], a, h => h
  | p :: ps, a, h => by
    simp only [pick]
    split
    · split
      · exact pick_len l i hi ps _ ⟨com_le l _ i, comF_len l _ i 258 0 (by omega)⟩
      · exact pick_len l i hi ps _ h
    · exact h
theorem bestL_len (G : Int → Int → Int → List Int) (l : List Int) (i : Nat) (hi : i ≤ l.length) : (bestL G l i).1 ≤ 258 ∧ i + (bestL G l i).1 ≤ l.length := by
  unfold bestL
  split
  · exact ⟨by simp, by simpa using hi⟩
  · exact pick_len l i hi _ _ ⟨by simp, by simpa using hi⟩
/-- The tokens from a place on. -/
def toks (l : List Int) : Nat → Nat → List S70
  | 0, _ => []
  | f + 1, i => if i < l.length then (if (bestL (noted l i) l i).1 = 0 then ⟨l.getD i 0, 0, 0⟩ :: toks l f (i + 1) else ⟨0, ((bestL (noted l i) l i).1 : Int), ((bestL (noted l i) l i).2 : Int)⟩ :: toks l f (i + (bestL (noted l i) l i).1)) else []
theorem toks_fuel (l : List Int) : ∀ f f' i, l.length ≤ i + f → l.length ≤ i + f' → toks l f i = toks l f' i := by
  intro f
  induction f with
  | zero =>
    intro f' i h h'
    cases f' with
    | zero => rfl
    | succ f' => simp only [toks]; rw [if_neg (by omega)]
  | succ f ih =>
    intro f' i h h'
    cases f' with
    | zero => simp only [toks]; rw [if_neg (by omega)]
    | succ f' =>
      simp only [toks]
      split
      · split
        · rw [ih f' (i + 1) (by omega) (by omega)]
        · rw [ih f' _ (by omega) (by omega)]
      · rfl
def match_Tokens.f (l0 : List Int) : Option (List S70 × Int) :=
  if l0.all (fun x => (Lit.int .u8 x).wf) = true then (if (l0.length : Int) > 4096 then some ([], 2) else some (toks l0 l0.length 0, 0)) else none
theorem out_stay {w w' : World} {base g : Nat} {es : Array MapEntry} {clock : Nat} {v : Value} {xs : List S70} (h : Kd.R k70 70 w base (fun _ => True) v xs) (hg : w.heap[g]? = some (.map es clock)) (hk : KeptT w w' g) : Kd.R k70 70 w' base (fun _ => True) v xs := by
  refine Kd.R_mono (Kd.R_move (Kd.R_bound h) (fun k hk' => ?_)) (fun _ _ => trivial)
  obtain ⟨_, _, hlt, q, hq, cs, hc⟩ := hk'
  have hq40 : q = 70 := by simpa [k70, Kd.iso, Kd.pair, Kd.int, Kd.scalar] using hq
  subst hq40
  exact hk.2 k hlt (by rintro rfl; rw [hg] at hc; cases hc) (fun cs' hc' => by rw [hc] at hc'; injection hc' with hc'; injection hc' with _ hc'; cases hc')
theorem seen_grown {W w' : World} {base g n : Nat} {G : Int → Int → Int → List Int} {v : Value} {xs : List S70} (h : Seen W base g n G) (ho : Kd.R k70 70 W base (fun _ => True) v xs) (hg : W.grownBy w' v.ownBlock) : Seen w' base g n G := by
  obtain ⟨es, clock, hgm, _⟩ := id h
  refine h.stay (fun k hb hlt hk => hg.block k hlt (fun e => ?_))
  obtain ⟨inner, how⟩ := Kd.R_own ho
  obtain ⟨cs, hc⟩ := own_typed how k e.symm
  rcases hk with rfl | ⟨cs', hc'⟩
  · rw [hgm] at hc; cases hc
  · rw [hc] at hc'; injection hc' with hc'; injection hc' with _ hc'; cases hc'
set_option maxHeartbeats 8000000 in
set_option maxRecDepth 100000 in
theorem match_Tokens.calls (A0 : Option Addr) (c0 : Nat) (l0 : List Int) (r1 : List (S70)) (r2 : Int) (w : World) (hr0 : Kd.C (Kd.int .u8) w A0 l0.length l0) (hc0 : l0.length ≤ c0) (h : match_Tokens.f l0 = some (r1, r2)) :
    Calls Try.prog 25 #[.slice A0 l0.length c0] w fun e w' => ∃ v0_ : Value, e = .returned (.tuple #[v0_, .int .i64 r2]) ∧ Kd.R k70 70 w' w.heap.size (fun _ => True) v0_ r1 ∧ Below w.heap.size w w' := by
  unfold match_Tokens.f at h
  by_cases hwf : l0.all (fun x => (Lit.int .u8 x).wf) = true
  · rw [if_pos hwf] at h
    have hw : ∀ x ∈ l0, (Lit.int .u8 x).wf = true := fun x hx => List.all_eq_true.1 hwf x hx
    have HW := Aside0.mk hw
    have HR := Aside0.mk hr0
    have HC := Aside0.mk hc0
    clear hwf hw hr0 hc0
    have hmm := @run_makeMap Try.prog
    have hu40 := Try.underlying70
    by_cases h2 : (l0.length : Int) > 4096
    · rw [if_pos h2] at h
      simp only [Option.some.injEq, Prod.mk.injEq] at h
      obtain ⟨rfl, rfl⟩ := h
      go_enter Try.func25, Try.ntmps25
      go_wp2_with fail
      go_ret2
      exact ⟨_, rfl, Kd.R_nil _ _ _ _ _, Below.refl _ _⟩
    · rw [if_neg h2] at h
      simp only [Option.some.injEq, Prod.mk.injEq] at h
      obtain ⟨rfl, rfl⟩ := h
      have hl : l0.length ≤ 4096 := by omega
      have HS := Aside0.mk (seen_made w w.heap.size (Nat.le_refl _))
      have HB := Aside0.mk (below_alloc (Below.refl w.heap.size w) (.map #[] 0))
      have HO := Aside0.mk (Kd.R_nil k70 70 (w.alloc (.map #[] 0)) w.heap.size (fun _ => True))
      go_enter Try.func25, Try.ntmps25
      go_wp2_with fail
      go_loopg [4, 6] l0.length (fun kq v4 v6 w' => ∃ (i : Nat) (out : List S70), v6 = .int .i64 i ∧ i ≤ l0.length ∧ Aside0 (kq + i = l0.length) ∧ Aside0 (out ++ toks l0 l0.length i = toks l0 l0.length 0) ∧ Aside0 (out.length ≤ i) ∧ Aside0 (Seen w' w.heap.size w.heap.size i (noted l0 i)) ∧ Aside0 (Kd.R k70 70 w' w.heap.size (fun _ => True) v4 out) ∧ Aside0 (Below w.heap.size w w'))
      case atStart => exact ⟨0, [], rfl, Nat.zero_le _, ⟨rfl⟩, ⟨rfl⟩, ⟨Nat.le_refl _⟩, HS, HO, HB⟩
      case round =>
        clear HS HB HO
        obtain ⟨i, out, rfl, hi, HK, HT, HN, HS, HO, HB⟩ := hrel
        obtain ⟨Ao, co, rfl⟩ := Kd.R_slice HO.out
        by_cases hlt : i < l0.length
        · go_wp2_with fail
          refine (seen_best w.heap.size i w.heap.size (noted l0 i) _ _ l0 i wr HS.out (Kd.C_below HR.out HB.out) HC.out HW.out (by omega) (by omega) (by omega) (fun x y z p => noted_lt l0 i x y z p)).mono ?_
          rintro e1 w2 ⟨rfl, hb2⟩
          obtain ⟨n, en⟩ : ∃ n, n = (bestL (noted l0 i) l0 i).1 := ⟨_, rfl⟩
          obtain ⟨d, ed⟩ : ∃ d, d = (bestL (noted l0 i) l0 i).2 := ⟨_, rfl⟩
          have hbl := bestL_len (noted l0 i) l0 i (by omega)
          rw [← en] at hbl
          rw [← en, ← ed]
          have EN := Aside0.mk (And.intro en ed)
          have HS2 := Aside0.mk (HS.out.below hb2)
          have HO2 := Aside0.mk (Kd.R_below HO.out hb2)
          have HB2 := Aside0.mk (HB.out.trans (hb2.mono HB.out.size))
          clear en ed hb2 HS HO HB
          by_cases hn0 : n = 0
          · have hb0 : ((n : Int) == 0) = true := by rw [beq_iff_eq]; omega
            obtain ⟨ad, e0, hx0⟩ := Kd.at_int (Kd.C_below HR.out HB2.out) (i : Int) (by omega) (by omega)
            subst e0
            rw [Int.toNat_natCast] at hx0
            obtain ⟨x, ex⟩ : ∃ x, x = l0.getD i 0 := ⟨_, rfl⟩
            rw [show rd l0 (i : Int) = x from by rw [ex]; unfold rd; rw [Int.toNat_natCast]] at hx0
            have EX := Aside0.mk ex
            clear ex
            have EN0 := Aside0.mk hn0
            have hxa := pw_cell_below (below_alloc (Below.refl w2.heap.size w2) (.cells #[.int .u8 0, .int .i64 (n : Int), .int .i64 (d : Int)] 70 (0, 0))) hx0
            clear hn0
            go_wp2_with (at_builtin; go_must (refine Kd.R_append k70 (w0 := w) w.heap.size rfl (.tmp 35) (.tmp 37) 56 70 (.agg #[.int .u8 0, .int .i64 0, .int .i64 0]) 24 rfl Try.underlying56 info70 rfl (by decide) (by omega) (.slice Ao out.length co) out ⟨x, 0, 0⟩ [.int .u8 x, .int .i64 0, .int .i64 0] (fun _ => True) (fun _ => False) (by first | rfl | (simp; done) | (simp; rfl) | done) (by first | rfl | (simp [alloc_heap_size]; done) | (simp; rfl) | done) (k70_mkM _ _ _ ⟨x, 0, 0⟩) (fun _ hk => hk.elim) (fun _ _ => trivial) (Kd.R_alloc HO2.out _) (below_alloc HB2.out _) (below_size (below_alloc HB2.out _)) (by have := HN.out; omega) ?_; intro v1 w3 ho3 hb3 hg3 hat3; (have HS3 := Aside0.mk (seen_grown (HS2.out.below (below_alloc (Below.refl _ _) _)) (Kd.R_alloc HO2.out _) hg3)); (have HO3 := Aside0.mk ho3); (have HB3 := Aside0.mk hb3); clear ho3 hb3 hg3 hat3 HS2 HO2 HB2))
            go_loopg [6, 40] 1 (fun kq v6 v40 w' => ∃ j : Nat, v6 = .int .i64 ((i + j : Nat) : Int) ∧ v40 = .int .i64 j ∧ j ≤ 1 ∧ Aside0 (kq + j = 1) ∧ Aside0 (Seen w' w.heap.size w.heap.size (i + j) (noted l0 (i + j))) ∧ Aside0 (Kd.R k70 70 w' w.heap.size (fun _ => True) v1 (out ++ [⟨x, 0, 0⟩])) ∧ Aside0 (Below w.heap.size w w'))
            case atStart => exact ⟨0, by go_num, by go_num, by omega, ⟨rfl⟩, HS3, HO3, HB3⟩
            case round =>
              clear HS3 HO3 HB3
              obtain ⟨j, rfl, rfl, hj, HK2, HS, HO, HB⟩ := hrel
              by_cases hlt2 : j < 1
              · go_wp2_with fail
                refine (seen_add w.heap.size (i + j) (noted l0 (i + j)) _ _ l0 (i + j) w _ HB.out HS.out (Kd.C_below HR.out HB.out) HC.out HW.out (by omega) (by omega) (by omega)).mono ?_
                rintro e1 w4 ⟨rfl, hs4, hb4, hk4⟩
                have HS4 := Aside0.mk hs4
                have HB4 := Aside0.mk hb4
                have HO4 : Aside0 (Kd.R k70 70 w4 w.heap.size (fun _ => True) v1 (out ++ [⟨x, 0, 0⟩])) := ⟨by
                  obtain ⟨es, clock, hgm, _⟩ := HS.out
                  exact out_stay HO.out hgm hk4⟩
                clear hs4 hb4 hk4 HS HB HO
                go_wp2_with fail
                go_roundg (1 - (j + 1))
                case measure => have := HK2.out; omega
                case rel => exact ⟨j + 1, by go_num, by go_num, by omega, ⟨by omega⟩, HS4, HO4, HB4⟩
              · obtain rfl : j = 1 := by omega
                go_wp2_with fail
                go_roundg (l0.length - (i + 1))
                case measure => have := HK.out; omega
                case rel =>
                  refine ⟨i + 1, (out ++ [⟨x, 0, 0⟩]), rfl, by omega, ⟨by omega⟩, ⟨?_⟩, ⟨by have := HN.out; simp; omega⟩, HS, HO, HB⟩
                  rw [← HT.out, List.append_assoc]
                  congr 1
                  rw [toks_fuel l0 l0.length (l0.length + 1) i (by omega) (by omega)]
                  simp only [toks]
                  rw [if_pos hlt, if_pos (EN.out.1 ▸ EN0.out), EX.out]; rfl
          · have hb0 : ((n : Int) == 0) = false := by rw [beq_eq_false_iff_ne]; omega
            go_wp2_with (at_builtin; go_must (refine Kd.R_append k70 (w0 := w) w.heap.size rfl (.tmp 35) (.tmp 37) 56 70 (.agg #[.int .u8 0, .int .i64 0, .int .i64 0]) 24 rfl Try.underlying56 info70 rfl (by decide) (by omega) (.slice Ao out.length co) out ⟨0, (n : Int), (d : Int)⟩ [.int .u8 0, .int .i64 (n : Int), .int .i64 (d : Int)] (fun _ => True) (fun _ => False) (by first | rfl | (simp; done) | (simp; rfl) | done) (by first | rfl | (simp [alloc_heap_size]; done) | (simp; rfl) | done) (k70_mkM _ _ _ ⟨0, (n : Int), (d : Int)⟩) (fun _ hk => hk.elim) (fun _ _ => trivial) (Kd.R_alloc HO2.out _) (below_alloc HB2.out _) (below_size (below_alloc HB2.out _)) (by have := HN.out; omega) ?_; intro v1 w3 ho3 hb3 hg3 hat3; (have HS3 := Aside0.mk (seen_grown (HS2.out.below (below_alloc (Below.refl _ _) _)) (Kd.R_alloc HO2.out _) hg3)); (have HO3 := Aside0.mk ho3); (have HB3 := Aside0.mk hb3); clear ho3 hb3 hg3 hat3 HS2 HO2 HB2))
            go_loopg [6, 40] n (fun kq v6 v40 w' => ∃ j : Nat, v6 = .int .i64 ((i + j : Nat) : Int) ∧ v40 = .int .i64 j ∧ j ≤ n ∧ Aside0 (kq + j = n) ∧ Aside0 (Seen w' w.heap.size w.heap.size (i + j) (noted l0 (i + j))) ∧ Aside0 (Kd.R k70 70 w' w.heap.size (fun _ => True) v1 (out ++ [⟨0, (n : Int), (d : Int)⟩])) ∧ Aside0 (Below w.heap.size w w'))
            case atStart => exact ⟨0, by go_num, by go_num, by omega, ⟨rfl⟩, HS3, HO3, HB3⟩
            case round =>
              clear HS3 HO3 HB3
              obtain ⟨j, rfl, rfl, hj, HK2, HS, HO, HB⟩ := hrel
              by_cases hlt2 : j < n
              · go_wp2_with fail
                refine (seen_add w.heap.size (i + j) (noted l0 (i + j)) _ _ l0 (i + j) w _ HB.out HS.out (Kd.C_below HR.out HB.out) HC.out HW.out (by omega) (by omega) (by omega)).mono ?_
                rintro e1 w4 ⟨rfl, hs4, hb4, hk4⟩
                have HS4 := Aside0.mk hs4
                have HB4 := Aside0.mk hb4
                have HO4 : Aside0 (Kd.R k70 70 w4 w.heap.size (fun _ => True) v1 (out ++ [⟨0, (n : Int), (d : Int)⟩])) := ⟨by
                  obtain ⟨es, clock, hgm, _⟩ := HS.out
                  exact out_stay HO.out hgm hk4⟩
                clear hs4 hb4 hk4 HS HB HO
                go_wp2_with fail
                go_roundg (n - (j + 1))
                case measure => have := HK2.out; omega
                case rel => exact ⟨j + 1, by go_num, by go_num, by omega, ⟨by omega⟩, HS4, HO4, HB4⟩
              · obtain rfl : n = j := by omega
                go_wp2_with fail
                go_roundg (l0.length - (i + n))
                case measure => have := HK.out; omega
                case rel =>
                  refine ⟨i + n, (out ++ [⟨0, (n : Int), (d : Int)⟩]), rfl, by omega, ⟨by omega⟩, ⟨?_⟩, ⟨by have := HN.out; simp; omega⟩, HS, HO, HB⟩
                  rw [← HT.out, List.append_assoc]
                  congr 1
                  rw [toks_fuel l0 l0.length (l0.length + 1) i (by omega) (by omega)]
                  simp only [toks]
                  rw [if_pos hlt, if_neg (fun h => hn0 (EN.out.1.trans h)), ← EN.out.1, ← EN.out.2]; rfl
        · go_wp2_with fail
          go_ret2
          have hT := HT.out
          rw [toks_fuel l0 l0.length 0 i (by omega) (by omega)] at hT
          simp only [toks, List.append_nil] at hT
          exact ⟨_, rfl, by rw [← hT]; exact HO.out, HB.out⟩
  · rw [if_neg hwf] at h
    cases h

-- PART
end Go.Proofs.Ytcjijhjdkgjgeaa.P
namespace Go.Proofs.Ytcjijhjdkgjgeaa.P
open Go.RowKit Go.Proofs.YtcjijhjdkgjgeaaW.PrintWords Go.Proofs.YtcjijhjdkgjgeaaW.PrintLast Go.Proofs.YtcjijhjdkgjgeaaW.PrintMore
attribute [local go_sem] max2_int min2_int max_two min_two max_three min_three max_four min_four   -- for this text's walks alone
set_option linter.unusedVariables false
set_option linter.unusedSimpArgs false

-- PART
/-! ### shrink_begin: function 32 (by hand) -/
/-- A pen's block. -/
def PenAt (w0 W : World) (g : Nat) (s : List Int × Nat) : Prop :=
  ∃ v, W.heap[g]? = some (.cells #[v, .int .i64 (s.2 : Int)] 60 (0, 0)) ∧ w0.heap.size ≤ g ∧ Kd.R (Kd.int .u8) 5 W w0.heap.size (fun _ => True) v s.1
/-- Blocks of other types than bytes and pens stay. -/
def KeepP (W W' : World) : Prop := W.heap.size ≤ W'.heap.size ∧ ∀ (k : Nat) (cells : Array Value) (ty : TypeId), W.heap[k]? = some (.cells cells ty (0, 0)) → ty ≠ 5 → ty ≠ 60 → W'.heap[k]? = some (.cells cells ty (0, 0))
theorem KeepP.refl (W : World) : KeepP W W := ⟨Nat.le_refl _, fun _ _ _ h _ _ => h⟩
theorem KeepP.trans {W W1 W2 : World} (h : KeepP W W1) (k : KeepP W1 W2) : KeepP W W2 := ⟨Nat.le_trans h.1 k.1, fun i c t hi h5 h9 => k.2 i c t (h.2 i c t hi h5 h9) h5 h9⟩
theorem heap_ltP {W : World} {k : Nat} {o : Obj} (h : W.heap[k]? = some o) : k < W.heap.size := (Array.getElem?_eq_some_iff.1 h).1
theorem KeepP.of_below {W W1 : World} (h : Below W.heap.size W W1) : KeepP W W1 := ⟨h.size, fun k c t hk _ _ => (h.block k (heap_ltP hk)).trans hk⟩
theorem KeepP.below {W W1 W2 : World} (h : KeepP W W1) (k : Below W1.heap.size W1 W2) : KeepP W W2 := h.trans (KeepP.of_below k)
theorem KeepP.of_kept {W W1 : World} {g : Nat} {cs : Array Value} (hg : W.heap[g]? = some (.cells cs 60 (0, 0))) (h : Kept W W1 (fun k => (∃ cells, W.heap[k]? = some (.cells cells 5 (0, 0))) ∨ k = g)) : KeepP W W1 := by
  refine ⟨h.1, fun k c t hk h5 h9 => (h.2 k (heap_ltP hk) ?_).trans hk⟩
  rintro (⟨cells, hc⟩ | rfl)
  · rw [hc] at hk
    injection hk with hk
    injection hk with _ ht
    exact h5 ht.symm
  · rw [hg] at hk
    injection hk with hk
    injection hk with _ ht
    exact h9 ht.symm
theorem introw_keepP {W W1 : World} {base : Nat} {ok : Nat → Prop} {v : Value} {l : List Int} (h : Kd.R (Kd.int .i64) 3 W base ok v l) (hk : KeepP W W1) : Kd.R (Kd.int .i64) 3 W1 base ok v l := by
  refine Kd.R_mono (Kd.R_move (Kd.R_bound h) (fun k hk' => ?_)) (fun _ hk' => hk'.1)
  obtain ⟨_, _, _, q, hq, cells, hc⟩ := hk'
  have hq' : q = 3 := by simpa [Kd.int, Kd.scalar] using hq
  subst hq'
  exact (hk.2 k cells _ hc (by decide) (by decide)).trans hc.symm
theorem PenAt.below {w0 W W1 : World} {g : Nat} {s : List Int × Nat} (h : PenAt w0 W g s) (hb : Below W.heap.size W W1) : PenAt w0 W1 g s := by
  obtain ⟨v, h1, h2, h3⟩ := h
  exact ⟨v, (hb.block g (heap_ltP h1)).trans h1, h2, Kd.R_below h3 hb⟩
theorem PenAt.cell {w0 W : World} {g : Nat} {s : List Int × Nat} (h : PenAt w0 W g s) : ∃ A c, W.heap[g]? = some (.cells #[.slice A s.1.length c, .int .i64 (s.2 : Int)] 60 (0, 0)) ∧ w0.heap.size ≤ g ∧ Kd.R (Kd.int .u8) 5 W w0.heap.size (fun _ => True) (.slice A s.1.length c) s.1 := by
  obtain ⟨v, h1, h2, h3⟩ := h
  obtain ⟨A, c, rfl⟩ := Kd.R_slice h3
  exact ⟨A, c, h1, h2, h3⟩
/-- Bits behind a pen's. -/
def addS (v n : Int) (s : List Int × Nat) : Option (List Int × Nat) :=
  if 0 ≤ n ∧ n ≤ 64 ∧ s.2 ≤ 1000000000 ∧ s.1.length ≤ 1000000000 ∧ (s.2 % 8 ≠ 0 → s.1 ≠ []) then some (padd v n.toNat 0 s.1 s.2, s.2 + n.toNat) else none
theorem pen_more (g : Nat) (v n : Int) (s s1 : List Int × Nat) (w0 w : World) (hP : PenAt w0 w g s) (hB : Below w0.heap.size w0 w) (h : addS v n s = some s1) :
    Calls Try.prog 24 #[.pointer (some ⟨g, 0, none⟩), .int .i64 v, .int .i64 n] w fun e w' => e = .returned (.tuple #[]) ∧ PenAt w0 w' g s1 ∧ Below w0.heap.size w0 w' ∧ KeepP w w' := by
  unfold addS at h
  split at h
  · rename_i hc
    injection h with h
    obtain ⟨v_, h1, h2, h3⟩ := hP
    obtain ⟨m, rfl⟩ : ∃ m : Nat, n = (m : Int) := ⟨n.toNat, by omega⟩
    rw [Int.toNat_natCast] at h
    have hr : Kd.R (Kd.int .u8) 5 w w0.heap.size (fun k => ∃ cells, w.heap[k]? = some (.cells cells 5 (0, 0))) v_ s.1 := by
      refine Kd.R_mono (Kd.R_bound h3) (fun k hk => ?_)
      obtain ⟨_, _, _, q, hq, cells, hcc⟩ := hk
      have hq' : q = 5 := by simpa [Kd.int, Kd.scalar] using hq
      subst hq'
      exact ⟨cells, hcc⟩
    refine (pen_add 60 (by decide) g _ v_ s.1 v s.2 m w0 w hB h1 h2 hr (by omega) (by omega) hc.2.2.2.2 (by omega)).mono ?_
    rintro e w' ⟨v1, rfl, k1, k2, k3, k4⟩
    refine ⟨rfl, ?_, k3, KeepP.of_kept h1 k4⟩
    rw [← h]
    exact ⟨v1, k1, h2, Kd.R_mono k2 (fun _ _ => trivial)⟩
  · cases h
def beginS (kind : Int) : Option (List Int × Nat) := (addS 1 1 ([], 0)).bind fun s => addS kind 2 s
set_option maxHeartbeats 8000000 in
set_option maxRecDepth 100000 in
theorem shr_begin (kind : Int) (s : List Int × Nat) (w : World) (h : beginS kind = some s) :
    Calls Try.prog 32 #[.int .i64 kind] w fun e w' => ∃ g, e = .returned (.pointer (some ⟨g, 0, none⟩)) ∧ PenAt w w' g s ∧ Below w.heap.size w w' := by
  obtain ⟨s1, h1, h⟩ := Option.bind_eq_some_iff.1 h
  have H1 := Aside0.mk h1
  have H2 := Aside0.mk h
  clear h1 h
  have HP := Aside0.mk (show PenAt w (w.alloc (.cells #[.slice none 0 0, .int .i64 0] 60)) w.heap.size ([], 0) from ⟨_, blk_new w _, Nat.le_refl _, Kd.R_nil _ _ _ _ _⟩)
  have HB := Aside0.mk (show Below w.heap.size w (w.alloc (.cells #[.slice none 0 0, .int .i64 0] 60)) from (Below.refl _ _).alloc (Nat.le_refl _) _)
  go_enter Try.func32, Try.ntmps32
  go_wp2_with fail
  refine (pen_more w.heap.size 1 1 ([], 0) s1 w _ HP.out HB.out H1.out).mono ?_
  rintro e w1 ⟨rfl, hP1, hB1, _⟩
  have HP1 := Aside0.mk hP1
  have HB1 := Aside0.mk hB1
  clear hP1 hB1 HP HB
  go_wp2_with fail
  refine (pen_more w.heap.size kind 2 s1 s w w1 HP1.out HB1.out H2.out).mono ?_
  rintro e w2 ⟨rfl, hP2, hB2, _⟩
  have HP2 := Aside0.mk hP2
  have HB2 := Aside0.mk hB2
  clear hP2 hB2 HP1 HB1
  go_wp2_with fail
  go_ret
  exact ⟨_, rfl, HP2.out, HB2.out⟩

-- PART
end Go.Proofs.Ytcjijhjdkgjgeaa.P
namespace Go.Proofs.Ytcjijhjdkgjgeaa.P
open Go.RowKit Go.Proofs.YtcjijhjdkgjgeaaW.PrintWords Go.Proofs.YtcjijhjdkgjgeaaW.PrintLast Go.Proofs.YtcjijhjdkgjgeaaW.PrintMore
attribute [local go_sem] max2_int min2_int max_two min_two max_three min_three max_four min_four   -- for this text's walks alone
set_option linter.unusedVariables false
set_option linter.unusedSimpArgs false

-- PART
/-! ### canon_Codes: function 41 (by hand) -/
/-- A symbol's code: the first one of its length, and one more for each symbol ahead of that length. -/
def codeOf (l : List Int) (j : Nat) : Int := if l.getD j 0 ≤ 0 then 0 else (openF l (l.getD j 0).toNat : Int) + (symsTo l j (l.getD j 0).toNat).length
def codesTo (l : List Int) (n i : Nat) : List Int := (List.range l.length).map (fun j => if (l.getD j 0).toNat < n ∨ (l.getD j 0 = (n : Int) ∧ (symsTo l j n).length < i) then codeOf l j else 0)
def codesL (l : List Int) : List Int := (List.range l.length).map (codeOf l)
theorem BookAt.lt {W : World} {base g : Nat} {F : Nat → Int} {S : Nat → List Int} (h : BookAt W base g F S) : g < W.heap.size := by
  obtain ⟨cs, V, h1, _⟩ := h
  exact blk_lt h1
def canon_Codes.f (l0 : List Int) : Option (List Int × Int) := (canon_Check.f l0).bind fun e => if e = 0 then some (codesL l0, 0) else some ([], e)
theorem symsTo_mono (l : List Int) (n : Nat) : ∀ (d j : Nat), (symsTo l j n).length ≤ (symsTo l (j + d) n).length
  | 0, j => Nat.le_refl _
  | d + 1, j => by
    refine Nat.le_trans (symsTo_mono l n d j) ?_
    rw [show j + (d + 1) = (j + d) + 1 from rfl, symsTo_step, List.length_append]
    omega
theorem symsTo_rank (l : List Int) {j L n : Nat} (hj : j < L) (hn : l.getD j 0 = (n : Int)) (h0 : 0 < n) : (symsTo l j n).length < (symsTo l L n).length := by
  have h := symsTo_mono l n (L - (j + 1)) (j + 1)
  rw [show j + 1 + (L - (j + 1)) = L from by omega, symsTo_step, if_pos ⟨hn, h0⟩, List.length_append] at h
  simp at h
  omega
theorem symsTo_uniq (l : List Int) {j j' n : Nat} (hn : l.getD j 0 = (n : Int)) (hn' : l.getD j' 0 = (n : Int)) (h0 : 0 < n) (h : (symsTo l j n).length = (symsTo l j' n).length) : j = j' := by
  rcases Nat.lt_trichotomy j j' with h1 | h1 | h1
  · have := symsTo_rank l h1 hn h0; omega
  · exact h1
  · have := symsTo_rank l h1 hn' h0; omega
theorem symsTo_at (l : List Int) (n i : Nat) : ∀ L, i < (symsTo l L n).length → ∃ j, j < L ∧ (symsTo l L n).getD i 0 = (j : Int) ∧ l.getD j 0 = (n : Int) ∧ 0 < n ∧ (symsTo l j n).length = i
  | 0, h => by simp [symsTo] at h
  | L + 1, h => by
    rw [symsTo_step] at h ⊢
    by_cases hc : l.getD L 0 = (n : Int) ∧ 0 < n
    · rw [if_pos hc] at h ⊢
      rw [List.length_append, List.length_singleton] at h
      by_cases hi : i < (symsTo l L n).length
      · obtain ⟨j, hj, e, h1, h2, h3⟩ := symsTo_at l n i L hi
        refine ⟨j, by omega, ?_, h1, h2, h3⟩
        rw [List.getD_eq_getElem?_getD, List.getElem?_append_left hi, ← List.getD_eq_getElem?_getD]; exact e
      · obtain rfl : i = (symsTo l L n).length := by omega
        exact ⟨L, by omega, by simp, hc.1, hc.2, rfl⟩
    · rw [if_neg hc, List.append_nil] at h ⊢
      obtain ⟨j, hj, e, h1⟩ := symsTo_at l n i L h
      exact ⟨j, by omega, e, h1⟩
theorem codesTo_start (l : List Int) : codesTo l 0 0 = List.replicate l.length 0 := by
  unfold codesTo
  rw [List.map_congr_left (g := fun _ => (0 : Int)) (fun j _ => if_neg (by omega)), List.map_const', List.length_range]
theorem codesTo_next (l : List Int) (n : Nat) (hx : ∀ x ∈ l, 0 ≤ x ∧ x ≤ 15) : codesTo l n (symsTo l l.length n).length = codesTo l (n + 1) 0 := by
  unfold codesTo
  refine List.map_congr_left (fun j hj => ?_)
  have hj := List.mem_range.1 hj
  have hxj : 0 ≤ l.getD j 0 := by
    rw [List.getD_eq_getElem?_getD, List.getElem?_eq_getElem hj]
    exact (hx _ (List.getElem_mem hj)).1
  by_cases h1 : (l.getD j 0).toNat < n
  · rw [if_pos (.inl h1), if_pos (.inl (by omega))]
  · by_cases h2 : l.getD j 0 = (n : Int)
    · by_cases h0 : 0 < n
      · rw [if_pos (.inr ⟨h2, symsTo_rank l hj h2 h0⟩), if_pos (.inl (by omega))]
      · have hz : l.getD j 0 = 0 := by omega
        rw [if_pos (.inl (by omega) : (l.getD j 0).toNat < n + 1 ∨ _)]
        have : codeOf l j = 0 := by unfold codeOf; rw [if_pos (by omega)]
        rw [this, ite_self]
    · rw [if_neg (by omega), if_neg (by omega)]
theorem map_range_set (f : Nat → Int) (L j0 : Nat) (v : Int) : ((List.range L).map f).set j0 v = (List.range L).map (fun j => if j = j0 then v else f j) := by
  apply List.ext_getElem
  · simp
  · intro j h1 h2
    rw [List.getElem_set]
    simp only [List.getElem_map, List.getElem_range]
    by_cases h : j0 = j
    · rw [if_pos h, if_pos h.symm]
    · rw [if_neg h, if_neg (fun e => h e.symm)]
theorem codesTo_step (l : List Int) {n i j0 : Nat} (hj : l.getD j0 0 = (n : Int)) (h0 : 0 < n) (hr : (symsTo l j0 n).length = i) : (codesTo l n i).set j0 ((openF l n : Int) + i) = codesTo l n (i + 1) := by
  unfold codesTo
  rw [map_range_set]
  refine List.map_congr_left (fun j _ => ?_)
  by_cases h : j = j0
  · subst h
    rw [if_pos rfl, if_pos (.inr ⟨hj, by omega⟩)]
    unfold codeOf
    rw [if_neg (by omega), hj, Int.toNat_natCast, hr]
  · rw [if_neg h]
    by_cases h1 : (l.getD j 0).toNat < n
    · rw [if_pos (.inl h1), if_pos (.inl h1)]
    · by_cases h2 : l.getD j 0 = (n : Int)
      · have hne : (symsTo l j n).length ≠ i := fun e => h (symsTo_uniq l h2 hj h0 (e.trans hr.symm))
        by_cases h3 : (symsTo l j n).length < i
        · rw [if_pos (.inr ⟨h2, h3⟩), if_pos (.inr ⟨h2, by omega⟩)]
        · rw [if_neg (by omega), if_neg (by omega)]
      · rw [if_neg (by omega), if_neg (by omega)]
theorem codesTo_end (l : List Int) (hx : ∀ x ∈ l, 0 ≤ x ∧ x ≤ 15) : codesTo l 17 0 = codesL l := by
  unfold codesTo codesL
  refine List.map_congr_left (fun j hj => ?_)
  have hj := List.mem_range.1 hj
  have hxj : l.getD j 0 ≤ 15 := by
    rw [List.getD_eq_getElem?_getD, List.getElem?_eq_getElem hj]
    exact (hx _ (List.getElem_mem hj)).2
  rw [if_pos (.inl (by omega))]
theorem codesTo_length (l : List Int) (n i : Nat) : (codesTo l n i).length = l.length := by unfold codesTo; simp
theorem openF_le (l : List Int) (hl : l.length ≤ 1000000) : ∀ n, n ≤ 16 → openF l n ≤ 65536 * 1000000 := by
  intro n hn
  cases n with
  | zero => simp [openF, firstOf]
  | succ n =>
    have h1 := firstOf_le (fun n => (symsTo l l.length n).length) 1000000 (fun n => Nat.le_trans (symsTo_len _ _ _) hl) n
    have h2 : 2 ^ (n + 1) ≤ 2 ^ 16 := Nat.pow_le_pow_right (by decide) hn
    have h3 := Nat.mul_le_mul_right 1000000 h2
    unfold openF
    omega
set_option maxHeartbeats 8000000 in
set_option maxRecDepth 100000 in
theorem canon_Codes.calls (A0 : Option Addr) (c0 : Nat) (l0 : List Int) (r1 : List Int) (r2 : Int) (w : World) (hr0 : Kd.C (Kd.int .i64) w A0 l0.length l0) (hc0 : l0.length ≤ c0) (h : canon_Codes.f l0 = some (r1, r2)) :
    Calls Try.prog 41 #[.slice A0 l0.length c0] w fun e w' => ∃ v0_ : Value, e = .returned (.tuple #[v0_, .int .i64 r2]) ∧ Kd.R (Kd.int .i64) 3 w' w.heap.size (fun _ => True) v0_ r1 ∧ Below w.heap.size w w' := by
  have HR := Aside0.mk hr0
  have HC := Aside0.mk hc0
  unfold canon_Codes.f at h
  obtain ⟨q, hq, h⟩ := Option.bind_eq_some_iff.1 h
  have HQ := Aside0.mk hq
  have H := Aside0.mk h
  clear hr0 hc0 h hq
  go_enter Try.func41, Try.ntmps41
  go_wp2_with fail
  refine (canon_Check.calls _ _ l0 q w HR.out HC.out HQ.out).mono ?_
  rintro e1 w1 ⟨rfl, hd⟩
  have HD := Aside0.mk hd
  clear hd
  by_cases hq0 : q = 0
  · subst hq0
    have h := H.out
    rw [if_pos rfl] at h
    simp only [Option.some.injEq, Prod.mk.injEq] at h
    obtain ⟨rfl, rfl⟩ := h
    obtain ⟨hx1, hx2⟩ := check_right0 HQ.out
    have HX := Aside0.mk hx2
    clear H hx2
    go_wp2_with fail
    refine (open_book _ _ l0 w1 (Kd.C_below HR.out HD.out) HC.out HX.out (by omega)).mono ?_
    rintro e2 w2 ⟨g, rfl, hb2, hbl⟩
    have HB := Aside0.mk hb2
    have HL := Aside0.mk (below_then HD.out HD.out.size hbl)
    have HSz := Aside0.mk HL.out.size
    have HG := Aside0.mk hb2.lt
    clear hb2 hbl
    go_wp2_with (refine Kd.R_make (Kd.int .i64) (w0 := w2) w2.heap.size 3 rfl rfl 73 (.tmp 18) (.tmp 18) rfl (l0.length : Int) rfl rfl Try.underlying73 (.int .i64 0) 8 info3 rfl (by decide) (by decide) (0 : Int) (ok := fun _ => True) (okp := fun _ => False) rfl (fun _ hk => hk.elim) trivial (by omega) (by omega) (Below.refl _ _) (Nat.le_refl _) ?_; intro v1 w3 ho hb hg hat; (have HO := Aside0.mk ho); (have HB3 := Aside0.mk hb); clear ho hb hg hat)
    rw [Int.toNat_natCast, ← codesTo_start] at HO
    go_loopg [20] 17 (fun kq v20 w' => ∃ n : Nat, v20 = .int .i64 n ∧ n ≤ 17 ∧ Aside0 (kq + n = 17) ∧ Aside0 (Kd.R (Kd.int .i64) 3 w' w2.heap.size (fun _ => True) v1 (codesTo l0 n 0)) ∧ Aside0 (Below w2.heap.size w2 w'))
    case atStart => exact ⟨0, rfl, by omega, ⟨rfl⟩, HO, HB3⟩
    case round =>
      clear HO HB3
      obtain ⟨n, rfl, hn, HN, HO, HB3⟩ := hrel
      obtain ⟨wo, rfl⟩ : ∃ wo : World, wo = wr := ⟨_, rfl⟩
      obtain ⟨ko, rfl⟩ : ∃ ko : Nat, ko = gk := ⟨_, rfl⟩
      by_cases hlt : n < 17
      · obtain ⟨As, cs, hs1, hs2, hs3⟩ := HB.out.syms n hlt
        obtain ⟨hf1, hf2⟩ := HB.out.first n hlt
        have HF := Aside0.mk hf1
        have HS := Aside0.mk (And.intro hs2 hs3)
        have hSl : (symsTo l0 l0.length n).length ≤ 300 := Nat.le_trans (symsTo_len _ _ _) hx1
        obtain ⟨S, hS⟩ : ∃ S, S = symsTo l0 l0.length n := ⟨_, rfl⟩
        rw [← hS] at hs1 HS hSl
        have HSe := Aside0.mk hS
        replace hs1 := pw_cell_below HB3.out hs1
        clear hs2 hs3 hS hf1 hf2
        have hn17 : (n : Int) < 17 := by omega
        go_wp2_with fail
        go_loopg [30] S.length (fun kq v30 w' => ∃ i : Nat, v30 = .int .i64 i ∧ i ≤ S.length ∧ Aside0 (kq + i = S.length) ∧ Aside0 (Kd.R (Kd.int .i64) 3 w' w2.heap.size (fun _ => True) v1 (codesTo l0 n i)) ∧ Aside0 (Below w2.heap.size w2 w'))
        case atStart => exact ⟨0, rfl, by omega, ⟨rfl⟩, HO, HB3⟩
        case round =>
          clear HO hs1
          obtain ⟨i, rfl, hi, HI, HO, HB4⟩ := hrel
          by_cases hlt2 : i < S.length
          · obtain ⟨j0, hj0, hje, hjn, hn0, hjr⟩ := symsTo_at l0 n i l0.length (by rw [← HSe.out]; exact hlt2)
            obtain ⟨ad, rfl, hcell⟩ := Kd.at_int (Kd.C_below HS.out.2 HB4.out) (i : Int) (by omega) (by omega)
            rw [Int.toNat_natCast, show rd S (i : Int) = (j0 : Int) from by unfold rd; rw [Int.toNat_natCast, HSe.out]; exact hje] at hcell
            have hff := pw_cell_below HB4.out HF.out
            have hF := openF_le l0 (by omega) n (by omega)
            have hlen := codesTo_length l0 n i
            obtain ⟨go, co, e1, ho1, ho2, _⟩ := Kd.R_form HO.out (by rw [hlen]; omega)
            rw [hlen] at e1
            subst e1
            obtain ⟨q1, q2⟩ := Kd.R_celln 0 HO.out (j0 : Int) (by omega) (by omega)
            have hP := Kd.R_putn HO.out (j0 : Int) ((openF l0 n : Int) + i)
            rw [Int.toNat_natCast] at q1 q2 hP
            rw [codesTo_step l0 hjn hn0 hjr] at hP
            have HP := Aside0.mk hP
            have HE := Aside0.mk (And.intro hje (And.intro hjn (And.intro hn0 (And.intro hjr (And.intro ho1 ho2)))))
            clear hje hjn hn0 hjr hP hlen ho1 ho2
            go_wp2_with fail
            go_roundg (gk - 1)
            case measure => have := HI.out; omega
            case rel => exact ⟨i + 1, by go_num, by omega, ⟨by have := HI.out; omega⟩, HP, ⟨HB4.out.setCell HE.out.2.2.2.2.1 _⟩⟩
          · have hie : i = S.length := by omega
            subst hie
            have h2 := HO.out
            rw [HSe.out, codesTo_next l0 n HX.out] at h2
            have HO2 := Aside0.mk h2
            clear h2
            go_wp2_with fail
            go_roundg (ko - 1)
            case measure => have := HN.out; omega
            case rel => exact ⟨n + 1, by go_num, by omega, ⟨by have := HN.out; omega⟩, HO2, HB4⟩
      · have hn2 : n = 17 := by omega
        subst hn2
        go_wp2_with fail
        go_ret2
        have h2 := HO.out
        rw [codesTo_end l0 HX.out] at h2
        exact ⟨_, rfl, Kd.R_lower h2 HSz.out, below_then HL.out HSz.out HB3.out⟩
  · have h := H.out
    rw [if_neg hq0] at h
    simp only [Option.some.injEq, Prod.mk.injEq] at h
    obtain ⟨rfl, rfl⟩ := h
    have d0 : (q != 0) = true := bne_iff_ne.2 hq0
    go_wp2_with fail
    go_ret2
    exact ⟨_, rfl, Kd.R_nil _ _ _ _ _, HD.out⟩

-- PART
end Go.Proofs.Ytcjijhjdkgjgeaa.P
namespace Go.Proofs.Ytcjijhjdkgjgeaa.P
open Go.RowKit Go.Proofs.YtcjijhjdkgjgeaaW.PrintWords Go.Proofs.YtcjijhjdkgjgeaaW.PrintLast Go.Proofs.YtcjijhjdkgjgeaaW.PrintMore
attribute [local go_sem] max2_int min2_int max_two min_two max_three min_three max_four min_four   -- for this text's walks alone
set_option linter.unusedVariables false
set_option linter.unusedSimpArgs false

-- PART
/-! ### shrink_pen_code: function 42 (by hand) -/
/-- A code behind a pen's bits. -/
def codeS (codes lens : List Int) (sym : Int) (s : List Int × Nat) : Option (List Int × Nat) :=
  if 0 ≤ sym ∧ sym < codes.length ∧ sym < lens.length then (bits_Turn.f 40 (rd codes sym) (rd lens sym)).bind fun t => addS t.1 (rd lens sym) s else none
set_option maxHeartbeats 8000000 in
set_option maxRecDepth 100000 in
theorem pen_code (g : Nat) (A1 A2 : Option Addr) (c1 c2 : Nat) (codes lens : List Int) (sym : Int) (s s1 : List Int × Nat) (w0 w : World) (hP : PenAt w0 w g s) (hB : Below w0.heap.size w0 w)
    (hr1 : Kd.C (Kd.int .i64) w A1 codes.length codes) (hc1 : codes.length ≤ c1) (hr2 : Kd.C (Kd.int .i64) w A2 lens.length lens) (hc2 : lens.length ≤ c2) (h : codeS codes lens sym s = some s1) :
    Calls Try.prog 42 #[.pointer (some ⟨g, 0, none⟩), .slice A1 codes.length c1, .slice A2 lens.length c2, .int .i64 sym] w fun e w' => e = .returned (.tuple #[]) ∧ PenAt w0 w' g s1 ∧ Below w0.heap.size w0 w' ∧ KeepP w w' := by
  unfold codeS at h
  split at h
  rotate_left
  · cases h
  rename_i hc
  obtain ⟨⟨v, e⟩, ht, h⟩ := Option.bind_eq_some_iff.1 h
  obtain ⟨ad1, rfl, k1⟩ := Kd.at_int hr1 sym hc.1 hc.2.1
  obtain ⟨ad2, rfl, k2⟩ := Kd.at_int hr2 sym hc.1 hc.2.2
  obtain ⟨hs0, hs1, hs2⟩ := hc
  have HR2 := Aside0.mk hr2
  have HT := Aside0.mk ht
  have HA := Aside0.mk h
  have HP := Aside0.mk hP
  have HB := Aside0.mk hB
  clear hP hB hr1 hr2 ht h
  generalize rd codes sym = x1 at k1 HT
  obtain ⟨x2, hx2⟩ : ∃ x2, x2 = rd lens sym := ⟨_, rfl⟩
  rw [← hx2] at k2 HT HA
  have HX := Aside0.mk hx2
  clear hx2
  go_enter Try.func42, Try.ntmps42
  go_upto_region 0 with fail
  go_region_with (go_at_call 14; refine (bits_Turn.calls 40 x1 x2 v e w.drew HT.out).mono ?_; rintro e w1 ⟨rfl, hb1⟩; have HB1 := Aside0.mk hb1; clear hb1)
  all_goals
    have hb : Below w.heap.size w w1 := ((Below.refl _ w).drew).trans (HB1.out.below)
    have HP1 := Aside0.mk (HP.out.below hb)
    have HB2 := Aside0.mk (below_then HB.out HB.out.size hb)
    have HK1 := Aside0.mk (KeepP.of_below hb)
    obtain ⟨ad3, e3, k3⟩ := Kd.at_int (Kd.C_below HR2.out hb) sym hs0 hs2
    injection e3 with e3
    subst e3
    rw [← HX.out] at k3
    clear HP HB HB1 hb k1 k2 HR2 HX
    go_upto_region 1 with fail
    go_region_with (go_at_call 24; refine (pen_more g v x2 s s1 w0 w1.drew (HP1.out.below (Below.refl _ _).drew) HB2.out.drew HA.out).mono ?_; rintro e w2 ⟨rfl, hP2, hB2, hK2⟩; have HP2 := Aside0.mk hP2; have HB3 := Aside0.mk hB2; have HK2 := Aside0.mk hK2; clear hP2 hB2 hK2)
  all_goals
    go_end0
    exact ⟨rfl, HP2.out, HB3.out, (HK1.out.below (Below.refl _ w1).drew).trans HK2.out⟩

-- PART
end Go.Proofs.Ytcjijhjdkgjgeaa.P
namespace Go.Proofs.Ytcjijhjdkgjgeaa.P
open Go.RowKit Go.Proofs.YtcjijhjdkgjgeaaW.PrintWords Go.Proofs.YtcjijhjdkgjgeaaW.PrintLast Go.Proofs.YtcjijhjdkgjgeaaW.PrintMore
attribute [local go_sem] max2_int min2_int max_two min_two max_three min_three max_four min_four   -- for this text's walks alone
set_option linter.unusedVariables false
set_option linter.unusedSimpArgs false

/-! ### sym_scale_at: function 68 -/
def sym_scale_at.l0 : Nat → Int → Int → Int → Int → Option (Int × Int × Int)
  | 0, _, _, _, _ => none
  | k + 1, x1, x4, x138000, x138001 => (sym_scale_of.f k x138000 x138001 x4).bind fun bt138 => (if 0 ≤ (IntKind.u64.wrap (bt138.2)) then (if (wrap64 (x1 - bt138.1)) < (shl .i64 1 (IntKind.u64.wrap (bt138.2))) then (some (x4, bt138.2, wrap64 (x1 - bt138.1))) else (sym_scale_at.l0 k x1 (wrap64 (x4 + 1)) x138000 x138001)) else (none))
def sym_scale_at.f (k : Nat) (a0_0 : Int) (a0_1 : Int) (a1 : Int) : Option (Int × Int × Int) := sym_scale_at.l0 k a1 0 a0_0 a0_1
theorem sym_scale_at.mono_l : ∀ k, (∀ y0 y1 y2 y3, LeO (sym_scale_at.l0 k y0 y1 y2 y3) (sym_scale_at.l0 (k + 1) y0 y1 y2 y3))
  | 0 => fun _ _ _ _ r h => by simp [sym_scale_at.l0] at h
  | k + 1 => by
    have ih0 := sym_scale_at.mono_l k
    · intro y0 y1 y2 y3
      unfold sym_scale_at.l0
      repeat' first
      | (with_reducible exact ih0 _ _ _ _)
      | (with_reducible exact sym_scale_of.mono _ _ _ _)
      | (with_reducible exact LeO.refl _)
      | (with_reducible exact LeO.none _)
      | (with_reducible refine LeO.ite ?_ ?_)
      | (with_reducible refine LeO.bind ?_ (fun _ => ?_))
      | exact ih0 _ _ _ _
      | exact sym_scale_of.mono _ _ _ _
      | exact LeO.none _
      | refine LeO.ite ?_ ?_
      | refine LeO.bind ?_ (fun _ => ?_)
theorem sym_scale_at.mono : ∀ a0 a1 a2 k, LeO (sym_scale_at.f k a0 a1 a2) (sym_scale_at.f (k + 1) a0 a1 a2) := by
  intro a0 a1 a2 k
  have ih0 := sym_scale_at.mono_l k
  unfold sym_scale_at.f
  repeat' first
      | (with_reducible exact ih0 _ _ _ _)
      | (with_reducible exact sym_scale_of.mono _ _ _ _)
      | (with_reducible exact LeO.refl _)
      | (with_reducible exact LeO.none _)
      | (with_reducible refine LeO.ite ?_ ?_)
      | (with_reducible refine LeO.bind ?_ (fun _ => ?_))
      | exact ih0 _ _ _ _
      | exact sym_scale_of.mono _ _ _ _
      | exact LeO.none _
      | refine LeO.ite ?_ ?_
      | refine LeO.bind ?_ (fun _ => ?_)
set_option maxHeartbeats 8000000 in
set_option maxRecDepth 100000 in
theorem sym_scale_at.calls (k : Nat) (a0_0 : Int) (a0_1 : Int) (a1 : Int) (r1 : Int) (r2 : Int) (r3 : Int) (w : World) (h : sym_scale_at.f k a0_0 a0_1 a1 = some (r1, r2, r3)) :
    Calls Try.prog 68 #[.agg #[.int .i64 a0_0, .int .i64 a0_1], .int .i64 a1] w fun e w' => e = .returned (.tuple #[.int .i64 r1, .int .i64 r2, .int .i64 r3]) ∧ Below w.heap.size w w' := by
  have hu120 := Try.underlying120
  have HB := Aside0.mk (Below.refl w.heap.size w)
  have H : (sym_scale_at.l0 k a1 0 a0_0 a0_1) = some (r1, r2, r3) := h
  clear h
  have H' := Aside0.mk H
  clear H
  go_enter Try.func68, Try.ntmps68
  go_wp2_with (first | ((with_reducible refine gate_dst (N := 2) rfl ?_); refine box_event ?hg (N := 2) ?hd (cs := #[.int .i64 a0_0, .int .i64 a0_1]) (t := 120) ?hr ?_; (case hd => rfl); (case hg => rfl); (case hr => first | (go_simp; done) | (go_simp; rfl)); intro gb137 hg w3 hbox hb; have n0_ := Aside0.mk (below_step (by repeat (first | (with_reducible first | exact HB.out | apply below_alloc | apply pw_below_drewN | apply below_drew1) | exact HB.out)) hb); have n1_ := Aside0.mk (hbox); have n2_ := Aside0.mk ((by rw [hg]; exact (below_size (by repeat (first | (with_reducible first | exact HB.out | apply below_alloc | apply pw_below_drewN | apply below_drew1) | exact HB.out))) : w.heap.size ≤ gb137)); have n3_ := Aside0.mk ((by rw [hg]; exact (below_size (by repeat (first | (with_reducible first | exact HB.out | apply below_alloc | apply pw_below_drewN | apply below_drew1) | exact HB.out))) : w.heap.size ≤ gb137)); clear HB; have HB := n0_; have BK137 := n1_; have GW137 := n2_; have GE137 := n3_; clear n0_ n1_ n2_ n3_; clear hb hbox hg))
  go_loopg [4] k (fun kq v4 w' => ∃ (x4_1 : Int), v4 = .int .i64 x4_1 ∧ Aside0 (sym_scale_at.l0 kq a1 x4_1 a0_0 a0_1 = some (r1, r2, r3)) ∧ Aside0 (kq ≤ k) ∧ Aside0 (w'.heap[gb137]? = some (.cells #[.int .i64 a0_0, .int .i64 a0_1] 120 (0, 0))) ∧ Aside0 (Below w.heap.size w w'))
  case atStart => exact ⟨(0), (by first | rfl | (simp; done) | (simp [*]; done)), H', ⟨Nat.le_refl _⟩, ⟨by (with_reducible repeat (first | refine blk_drewN ?_ _ | refine blk_drew ?_ | refine blk_alloc ?_ _)); exact BK137.out⟩, ⟨by repeat (first | (with_reducible first | exact HB.out | apply below_alloc | apply pw_below_drewN | apply below_drew1 | refine below_set ?_ GE137.out) | exact HB.out)⟩⟩
  case round =>
    clear H'
    try clear p2
    obtain ⟨x4_1, rfl, HA, HK1, BK137, HB⟩ := hrel
    cases gk with
    | zero => exact absurd HA.out (by simp [sym_scale_at.l0])
    | succ k1 =>
      have H := HA.out
      clear HA
      simp only [sym_scale_at.l0] at H
      replace H := Option.bind_eq_some_iff.mp H
      obtain ⟨⟨t138, t139⟩, A40, H⟩ := H
      replace H : (if 0 ≤ (IntKind.u64.wrap (t139)) then (if (wrap64 (a1 - t138)) < (shl .i64 1 (IntKind.u64.wrap (t139))) then (some (x4_1, t139, wrap64 (a1 - t138))) else (sym_scale_at.l0 k1 a1 (wrap64 (x4_1 + 1)) a0_0 a0_1)) else (none)) = some (r1, r2, r3) := H
      have A4 := Aside0.mk A40
      clear A40
      obtain ⟨ji5, hji5⟩ : ∃ j_ : Int, (IntKind.u64.wrap (t139)) = j_ := ⟨_, rfl⟩
      replace H : (if 0 ≤ (ji5) then (if (wrap64 (a1 - t138)) < (shl .i64 1 (ji5)) then (some (x4_1, t139, wrap64 (a1 - t138))) else (sym_scale_at.l0 k1 a1 (wrap64 (x4_1 + 1)) a0_0 a0_1)) else (none)) = some (r1, r2, r3) := by first | (rw [hji5] at H; exact H) | (simp only [hji5] at H ⊢; exact H)
      (try rw [hji5] at A4)
      by_cases c6 : 0 ≤ (ji5)
      · rw [if_pos c6] at H
        have c6b0 := eq_true c6
        have c6b1 : decide (0 ≤ (ji5)) = true := decide_eq_true c6
        clear c6
        obtain ⟨ji7, hji7⟩ : ∃ j_ : Int, (shl .i64 1 (ji5)) = j_ := ⟨_, rfl⟩
        replace H : (if (wrap64 (a1 - t138)) < (ji7) then (some (x4_1, t139, wrap64 (a1 - t138))) else (sym_scale_at.l0 k1 a1 (wrap64 (x4_1 + 1)) a0_0 a0_1)) = some (r1, r2, r3) := by first | (rw [hji7] at H; exact H) | (simp only [hji7] at H ⊢; exact H)
        (try rw [hji7] at A4)
        have hji7_ : (IntKind.i64.wrap (1 * 2 ^ min (ji5).toNat 64)) = ji7 := hji7
        have hji7z : (ji5) ≤ 64 → (IntKind.i64.wrap (1 * 2 ^ (ji5).toNat)) = ji7 := shl_small hji7
        have hji7u : (IntKind.i64.wrap (2 ^ min (ji5).toNat 64)) = ji7 := by have h_ := hji7_; rw [Int.one_mul] at h_; exact h_
        have hji7v : (ji5) ≤ 64 → (IntKind.i64.wrap (2 ^ (ji5).toNat)) = ji7 := fun hle_ => by have h_ := hji7z hle_; rw [Int.one_mul] at h_; exact h_
        have hji7y : (wrap64 (1 * 2 ^ min (ji5).toNat 64)) = ji7 := (i64_w _).symm.trans hji7_
        have hji7x : (ji5) ≤ 64 → (wrap64 (1 * 2 ^ (ji5).toNat)) = ji7 := fun h_ => (i64_w _).symm.trans (hji7z h_)
        by_cases c8 : (wrap64 (a1 - t138)) < (ji7)
        · rw [if_pos c8] at H
          have c8b0 : decide ((wrap64 (a1 - t138)) < (ji7)) = true := decide_eq_true c8
          clear c8
          simp only [Option.some.injEq, Prod.mk.injEq] at H
          obtain ⟨rfl, rfl, rfl⟩ := H
          have hcz9_0 : wr.cell? ⟨gb137, 0, none⟩ = some (.int .i64 a0_0) := (blk_cell BK137.out 0).trans rfl
          have hcz9_1 : wr.cell? ⟨gb137, 1, none⟩ = some (.int .i64 a0_1) := (blk_cell BK137.out 1).trans rfl
          have hfz9_0 := blk_frozen BK137.out 0
          have hfz9_1 := blk_frozen BK137.out 1
          go_wp2_with (first | ((with_reducible refine gate_callee (f := 77) rfl ?_); refine goesL_ (some 12) rfl rfl Try.func77 (by kernel_rfl) rfl #[.agg #[.int .i64 a0_0, .int .i64 a0_1], .int .i64 x4_1] rfl (by (try simp only [List.map_toArray, List.map_cons, List.map_nil]); first | done | rfl | (simp only [List.length_drop, List.length_take]; rfl)) ?_; (with_reducible refine (sym_scale_of.calls k1 a0_0 a0_1 x4_1 t138 t139 _ A4.out).mono ?_); rintro e w10 ⟨rfl, hb⟩; refine ⟨_, rfl, ?_⟩; have n0_ := Aside0.mk (blk_below (g := gb137) (o := .cells #[.int .i64 a0_0, .int .i64 a0_1] 120 (0, 0)) (by (with_reducible repeat (first | refine blk_drewN ?_ _ | refine blk_drew ?_ | refine blk_alloc ?_ _)); exact BK137.out) hb); have n1_ := Aside0.mk (below_step (by repeat (first | (with_reducible first | exact HB.out | apply below_alloc | apply pw_below_drewN | apply below_drew1 | refine below_set ?_ GE137.out) | exact HB.out)) hb); clear BK137; clear HB; have BK137 := n0_; have HB := n1_; clear n0_ n1_; (try clear hb); (try clear hb2); (try clear hk); (try clear hi)))
          go_ret3
          exact ⟨by first | rfl | (simp [errW_none, errW_some] <;> rfl) | (simp only [← hji5, ← hji7]; first | rfl | (simp [errW_none, errW_some] <;> rfl)) | (simp [*, errW_none, errW_some] <;> rfl), by repeat (first | (with_reducible first | exact HB.out | apply below_alloc | apply pw_below_drewN | apply below_drew1 | refine below_set ?_ GE137.out) | exact HB.out)⟩
        · rw [if_neg c8] at H
          have c8b0 : decide ((wrap64 (a1 - t138)) < (ji7)) = false := decide_eq_false c8
          clear c8
          have H' := Aside0.mk H
          clear H
          have hcz11_0 : wr.cell? ⟨gb137, 0, none⟩ = some (.int .i64 a0_0) := (blk_cell BK137.out 0).trans rfl
          have hcz11_1 : wr.cell? ⟨gb137, 1, none⟩ = some (.int .i64 a0_1) := (blk_cell BK137.out 1).trans rfl
          have hfz11_0 := blk_frozen BK137.out 0
          have hfz11_1 := blk_frozen BK137.out 1
          go_wp2_with (first | ((with_reducible refine gate_callee (f := 77) rfl ?_); refine goesL_ (some 12) rfl rfl Try.func77 (by kernel_rfl) rfl #[.agg #[.int .i64 a0_0, .int .i64 a0_1], .int .i64 x4_1] rfl (by (try simp only [List.map_toArray, List.map_cons, List.map_nil]); first | done | rfl | (simp only [List.length_drop, List.length_take]; rfl)) ?_; (with_reducible refine (sym_scale_of.calls k1 a0_0 a0_1 x4_1 t138 t139 _ A4.out).mono ?_); rintro e w12 ⟨rfl, hb⟩; refine ⟨_, rfl, ?_⟩; have n0_ := Aside0.mk (blk_below (g := gb137) (o := .cells #[.int .i64 a0_0, .int .i64 a0_1] 120 (0, 0)) (by (with_reducible repeat (first | refine blk_drewN ?_ _ | refine blk_drew ?_ | refine blk_alloc ?_ _)); exact BK137.out) hb); have n1_ := Aside0.mk (below_step (by repeat (first | (with_reducible first | exact HB.out | apply below_alloc | apply pw_below_drewN | apply below_drew1 | refine below_set ?_ GE137.out) | exact HB.out)) hb); clear BK137; clear HB; have BK137 := n0_; have HB := n1_; clear n0_ n1_; (try clear hb); (try clear hb2); (try clear hk); (try clear hi)))
          go_roundg k1
          case measure => have := HK1.out; omega
          case rel => exact ⟨(wrap64 (x4_1 + 1)), (by first | rfl | (simp; done) | (simp [*]; done)), H', ⟨by have := HK1.out; omega⟩, ⟨by (with_reducible repeat (first | refine blk_drewN ?_ _ | refine blk_drew ?_ | refine blk_alloc ?_ _)); exact BK137.out⟩, ⟨by repeat (first | (with_reducible first | exact HB.out | apply below_alloc | apply pw_below_drewN | apply below_drew1 | refine below_set ?_ GE137.out) | exact HB.out)⟩⟩
      · rw [if_neg c6] at H
        exact absurd H (by simp)

end Go.Proofs.Ytcjijhjdkgjgeaa.P
namespace Go.Proofs.Ytcjijhjdkgjgeaa.P
open Go.RowKit Go.Proofs.YtcjijhjdkgjgeaaW.PrintWords Go.Proofs.YtcjijhjdkgjgeaaW.PrintLast Go.Proofs.YtcjijhjdkgjgeaaW.PrintMore
attribute [local go_sem] max2_int min2_int max_two min_two max_three min_three max_four min_four   -- for this text's walks alone
set_option linter.unusedVariables false
set_option linter.unusedSimpArgs false

/-! ### sym_Len: function 51 -/
def sym_Len.j0 : Nat → Int → Bool → Option (Int × Int × Int × Int)
  | 0, _, _ => none
  | k + 1, x0, x6 => if x6 = true then (some (0, 0, 0, 1)) else (if x0 = 258 then (some (285, 0, 0, 0)) else ((sym_lens.f).bind fun bt140 => ((sym_scale_at.f k bt140.1 bt140.2 (wrap64 (x0 - 3))).bind fun bt142 => (some (wrap64 (257 + bt142.1), bt142.2.1, bt142.2.2, 0)))))
def sym_Len.f (k : Nat) (a0 : Int) : Option (Int × Int × Int × Int) := if a0 < 3 then (sym_Len.j0 k a0 true) else (sym_Len.j0 k a0 (decide (a0 > 258)))
theorem sym_Len.mono_l : ∀ k, (∀ y0 y1, LeO (sym_Len.j0 k y0 y1) (sym_Len.j0 (k + 1) y0 y1))
  | 0 => fun _ _ r h => by simp [sym_Len.j0] at h
  | k + 1 => by
    have ih0 := sym_Len.mono_l k
    · intro y0 y1
      unfold sym_Len.j0
      repeat' first
      | (with_reducible exact ih0 _ _)
      | (with_reducible exact sym_scale_at.mono _ _ _ _)
      | (with_reducible exact LeO.refl _)
      | (with_reducible exact LeO.none _)
      | (with_reducible refine LeO.ite ?_ ?_)
      | (with_reducible refine LeO.bind ?_ (fun _ => ?_))
      | exact ih0 _ _
      | exact sym_scale_at.mono _ _ _ _
      | exact LeO.none _
      | refine LeO.ite ?_ ?_
      | refine LeO.bind ?_ (fun _ => ?_)
theorem sym_Len.mono : ∀ a0 k, LeO (sym_Len.f k a0) (sym_Len.f (k + 1) a0) := by
  intro a0 k
  have ih0 := sym_Len.mono_l k
  unfold sym_Len.f
  repeat' first
      | (with_reducible exact ih0 _ _)
      | (with_reducible exact sym_scale_at.mono _ _ _ _)
      | (with_reducible exact LeO.refl _)
      | (with_reducible exact LeO.none _)
      | (with_reducible refine LeO.ite ?_ ?_)
      | (with_reducible refine LeO.bind ?_ (fun _ => ?_))
      | exact ih0 _ _
      | exact sym_scale_at.mono _ _ _ _
      | exact LeO.none _
      | refine LeO.ite ?_ ?_
      | refine LeO.bind ?_ (fun _ => ?_)
set_option maxHeartbeats 8000000 in
set_option maxRecDepth 100000 in
theorem sym_Len.calls (k : Nat) (a0 : Int) (r1 : Int) (r2 : Int) (r3 : Int) (r4 : Int) (w : World) (h : sym_Len.f k a0 = some (r1, r2, r3, r4)) :
    Calls Try.prog 51 #[.int .i64 a0] w fun e w' => e = .returned (.tuple #[.int .i64 r1, .int .i64 r2, .int .i64 r3, .int .i64 r4]) ∧ Below w.heap.size w w' := by
  have HB := Aside0.mk (Below.refl w.heap.size w)
  have H : (if a0 < 3 then (sym_Len.j0 k a0 true) else (sym_Len.j0 k a0 (decide (a0 > 258)))) = some (r1, r2, r3, r4) := h
  clear h
  have HC2 := Aside0.mk H
  clear H
  go_enter Try.func51, Try.ntmps51
  go_upto_region 1 with (fail)
  go_cut [6] (fun v6 wc => ∃ (kq : Nat) (x6_1 : Bool), v6 = .bool x6_1 ∧ Aside0 (sym_Len.j0 kq a0 x6_1 = some (r1, r2, r3, r4)) ∧ Aside0 (kq ≤ k) ∧ Aside0 (Below w.heap.size w wc))
  case first =>
    have H := HC2.out
    clear HC2
    by_cases c3 : a0 < 3
    · rw [if_pos c3] at H
      have c3b0 : decide (a0 < 3) = true := decide_eq_true c3
      clear c3
      (first | rw [c3b0] | (simp only [i64_w, i32_w]; rw [c3b0]) | skip)
      have H' := Aside0.mk H
      clear H
      go_wp2
      go_meet
      case rel => exact ⟨_, (true), (by first | rfl | (simp; done) | (simp [*]; done)), H', ⟨by first | omega | exact Nat.le_refl _⟩, ⟨by repeat (first | (with_reducible first | exact HB.out | apply below_alloc | apply pw_below_drewN | apply below_drew1) | exact HB.out)⟩⟩
    · rw [if_neg c3] at H
      have c3b0 : decide (a0 < 3) = false := decide_eq_false c3
      clear c3
      (first | rw [c3b0] | (simp only [i64_w, i32_w]; rw [c3b0]) | skip)
      have H' := Aside0.mk H
      clear H
      go_wp2
      go_meet
      case rel => exact ⟨_, (decide (a0 > 258)), (by first | rfl | (simp; done) | (simp [*]; done)), H', ⟨by first | omega | exact Nat.le_refl _⟩, ⟨by repeat (first | (with_reducible first | exact HB.out | apply below_alloc | apply pw_below_drewN | apply below_drew1) | exact HB.out)⟩⟩
  case rest =>
    clear HC2
    try clear p2
    try clear c3
    try clear c3b0
    obtain ⟨kq, x6_1, rfl, HA, HJ1, HB⟩ := hcut
    cases kq with
    | zero => exact absurd HA.out (by simp [sym_Len.j0])
    | succ kj1 =>
      have H := HA.out
      clear HA
      simp only [sym_Len.j0] at H
      by_cases c4 : x6_1 = true
      · subst c4
        have H1 : (some (0, 0, 0, 1)) = some (r1, r2, r3, r4) := by rw [if_pos rfl] at H; exact H
        clear H
        have H := H1
        clear H1
        simp only [Option.some.injEq, Prod.mk.injEq] at H
        obtain ⟨rfl, rfl, rfl, rfl⟩ := H
        go_wp2
        refine bodyPost_ret (results_list (rs := [.tmp 2, .tmp 3, .tmp 4, .tmp 5]) rfl (by simp) (.tmp (.tmp (.tmp (.tmp .nil))))) rfl ?_
        exact ⟨by first | rfl | (simp [errW_none, errW_some] <;> rfl) | (simp [*, errW_none, errW_some] <;> rfl), by repeat (first | (with_reducible first | exact HB.out | apply below_alloc | apply pw_below_drewN | apply below_drew1) | exact HB.out)⟩
      · replace c4 := Bool.eq_false_iff.mpr c4
        subst c4
        have H1 : (if a0 = 258 then (some (285, 0, 0, 0)) else ((sym_lens.f).bind fun bt140 => ((sym_scale_at.f kj1 bt140.1 bt140.2 (wrap64 (a0 - 3))).bind fun bt142 => (some (wrap64 (257 + bt142.1), bt142.2.1, bt142.2.2, 0))))) = some (r1, r2, r3, r4) := by rw [if_neg (show ¬ (false = true) by decide)] at H; exact H
        clear H
        have H := H1
        clear H1
        by_cases c5 : a0 = 258
        · rw [if_pos c5] at H
          have c5b0 : (a0 == 258) = true := beq_iff_eq.mpr c5
          have c5b1 : (a0 != 258) = false := bne_eq_false_iff_eq.mpr c5
          clear c5
          simp only [Option.some.injEq, Prod.mk.injEq] at H
          obtain ⟨rfl, rfl, rfl, rfl⟩ := H
          go_wp2
          refine bodyPost_ret (results_list (rs := [.tmp 2, .tmp 3, .tmp 4, .tmp 5]) rfl (by simp) (.tmp (.tmp (.tmp (.tmp .nil))))) rfl ?_
          exact ⟨by first | rfl | (simp [errW_none, errW_some] <;> rfl) | (simp [*, errW_none, errW_some] <;> rfl), by repeat (first | (with_reducible first | exact HB.out | apply below_alloc | apply pw_below_drewN | apply below_drew1) | exact HB.out)⟩
        · rw [if_neg c5] at H
          have c5b0 : (a0 == 258) = false := beq_eq_false_iff_ne.mpr c5
          have c5b1 : (a0 != 258) = true := bne_iff_ne.mpr c5
          replace H := Option.bind_eq_some_iff.mp H
          obtain ⟨⟨t140, t141⟩, A60, H⟩ := H
          replace H : ((sym_scale_at.f kj1 t140 t141 (wrap64 (a0 - 3))).bind fun bt142 => (some (wrap64 (257 + bt142.1), bt142.2.1, bt142.2.2, 0))) = some (r1, r2, r3, r4) := H
          have A6 := Aside0.mk A60
          clear A60
          replace H := Option.bind_eq_some_iff.mp H
          obtain ⟨⟨t142, t143, t144⟩, A70, H⟩ := H
          replace H : (some (wrap64 (257 + t142), t143, t144, 0)) = some (r1, r2, r3, r4) := H
          have A7 := Aside0.mk A70
          clear A70
          simp only [Option.some.injEq, Prod.mk.injEq] at H
          obtain ⟨rfl, rfl, rfl, rfl⟩ := H
          go_wp2_with (first | ((with_reducible refine gate_callee (f := 67) rfl ?_); refine goesL_ (some 17) rfl rfl Try.func67 (by kernel_rfl) rfl #[] rfl (by (try simp only [List.map_toArray, List.map_cons, List.map_nil]); first | done | rfl | (simp only [List.length_drop, List.length_take]; rfl)) ?_; (with_reducible refine (sym_lens.calls  t140 t141 _ A6.out).mono ?_); rintro e w8 ⟨rfl, hb⟩; refine ⟨_, rfl, ?_⟩; have n0_ := Aside0.mk (below_step (by repeat (first | (with_reducible first | exact HB.out | apply below_alloc | apply pw_below_drewN | apply below_drew1) | exact HB.out)) hb); clear HB; have HB := n0_; clear n0_; (try clear hb); (try clear hb2); (try clear hk); (try clear hi)) | ((with_reducible refine gate_callee (f := 68) rfl ?_); refine goesL_ (some 20) rfl rfl Try.func68 (by kernel_rfl) rfl #[.agg #[.int .i64 t140, .int .i64 t141], .int .i64 (wrap64 (a0 - 3))] rfl (by (try simp only [List.map_toArray, List.map_cons, List.map_nil]); first | done | rfl | (simp only [List.length_drop, List.length_take]; rfl)) ?_; (with_reducible refine (sym_scale_at.calls kj1 t140 t141 (wrap64 (a0 - 3)) t142 t143 t144 _ A7.out).mono ?_); rintro e w9 ⟨rfl, hb⟩; refine ⟨_, rfl, ?_⟩; have n0_ := Aside0.mk (below_step (by repeat (first | (with_reducible first | exact HB.out | apply below_alloc | apply pw_below_drewN | apply below_drew1) | exact HB.out)) hb); clear HB; have HB := n0_; clear n0_; (try clear hb); (try clear hb2); (try clear hk); (try clear hi)))
          refine bodyPost_ret (results_list (rs := [.tmp 2, .tmp 3, .tmp 4, .tmp 5]) rfl (by simp) (.tmp (.tmp (.tmp (.tmp .nil))))) rfl ?_
          exact ⟨by first | rfl | (simp [errW_none, errW_some] <;> rfl) | (simp [*, errW_none, errW_some] <;> rfl), by repeat (first | (with_reducible first | exact HB.out | apply below_alloc | apply pw_below_drewN | apply below_drew1) | exact HB.out)⟩

end Go.Proofs.Ytcjijhjdkgjgeaa.P
namespace Go.Proofs.Ytcjijhjdkgjgeaa.P
open Go.RowKit Go.Proofs.YtcjijhjdkgjgeaaW.PrintWords Go.Proofs.YtcjijhjdkgjgeaaW.PrintLast Go.Proofs.YtcjijhjdkgjgeaaW.PrintMore
attribute [local go_sem] max2_int min2_int max_two min_two max_three min_three max_four min_four   -- for this text's walks alone
set_option linter.unusedVariables false
set_option linter.unusedSimpArgs false

/-! ### sym_Dist: function 52 -/
def sym_Dist.j0 : Nat → Int → Bool → Option (Int × Int × Int × Int)
  | 0, _, _ => none
  | k + 1, x0, x11 => if x11 = true then (some (0, 0, 0, 1)) else ((sym_dists.f).bind fun bt145 => ((sym_scale_at.f k bt145.1 bt145.2 (wrap64 (x0 - 1))).bind fun bt147 => (some (bt147.1, bt147.2.1, bt147.2.2, 0))))
def sym_Dist.f (k : Nat) (a0 : Int) : Option (Int × Int × Int × Int) := if a0 < 1 then (sym_Dist.j0 k a0 true) else (sym_Dist.j0 k a0 (decide (a0 > 32768)))
theorem sym_Dist.mono_l : ∀ k, (∀ y0 y1, LeO (sym_Dist.j0 k y0 y1) (sym_Dist.j0 (k + 1) y0 y1))
  | 0 => fun _ _ r h => by simp [sym_Dist.j0] at h
  | k + 1 => by
    have ih0 := sym_Dist.mono_l k
    · intro y0 y1
      unfold sym_Dist.j0
      repeat' first
      | (with_reducible exact ih0 _ _)
      | (with_reducible exact sym_scale_at.mono _ _ _ _)
      | (with_reducible exact LeO.refl _)
      | (with_reducible exact LeO.none _)
      | (with_reducible refine LeO.ite ?_ ?_)
      | (with_reducible refine LeO.bind ?_ (fun _ => ?_))
      | exact ih0 _ _
      | exact sym_scale_at.mono _ _ _ _
      | exact LeO.none _
      | refine LeO.ite ?_ ?_
      | refine LeO.bind ?_ (fun _ => ?_)
theorem sym_Dist.mono : ∀ a0 k, LeO (sym_Dist.f k a0) (sym_Dist.f (k + 1) a0) := by
  intro a0 k
  have ih0 := sym_Dist.mono_l k
  unfold sym_Dist.f
  repeat' first
      | (with_reducible exact ih0 _ _)
      | (with_reducible exact sym_scale_at.mono _ _ _ _)
      | (with_reducible exact LeO.refl _)
      | (with_reducible exact LeO.none _)
      | (with_reducible refine LeO.ite ?_ ?_)
      | (with_reducible refine LeO.bind ?_ (fun _ => ?_))
      | exact ih0 _ _
      | exact sym_scale_at.mono _ _ _ _
      | exact LeO.none _
      | refine LeO.ite ?_ ?_
      | refine LeO.bind ?_ (fun _ => ?_)
set_option maxHeartbeats 8000000 in
set_option maxRecDepth 100000 in
theorem sym_Dist.calls (k : Nat) (a0 : Int) (r1 : Int) (r2 : Int) (r3 : Int) (r4 : Int) (w : World) (h : sym_Dist.f k a0 = some (r1, r2, r3, r4)) :
    Calls Try.prog 52 #[.int .i64 a0] w fun e w' => e = .returned (.tuple #[.int .i64 r1, .int .i64 r2, .int .i64 r3, .int .i64 r4]) ∧ Below w.heap.size w w' := by
  have HB := Aside0.mk (Below.refl w.heap.size w)
  have H : (if a0 < 1 then (sym_Dist.j0 k a0 true) else (sym_Dist.j0 k a0 (decide (a0 > 32768)))) = some (r1, r2, r3, r4) := h
  clear h
  have HC2 := Aside0.mk H
  clear H
  go_enter Try.func52, Try.ntmps52
  go_upto_region 1 with (fail)
  go_cut [11] (fun v11 wc => ∃ (kq : Nat) (x11_1 : Bool), v11 = .bool x11_1 ∧ Aside0 (sym_Dist.j0 kq a0 x11_1 = some (r1, r2, r3, r4)) ∧ Aside0 (kq ≤ k) ∧ Aside0 (Below w.heap.size w wc))
  case first =>
    have H := HC2.out
    clear HC2
    by_cases c3 : a0 < 1
    · rw [if_pos c3] at H
      have c3b0 : decide (a0 < 1) = true := decide_eq_true c3
      clear c3
      (first | rw [c3b0] | (simp only [i64_w, i32_w]; rw [c3b0]) | skip)
      have H' := Aside0.mk H
      clear H
      go_wp2
      go_meet
      case rel => exact ⟨_, (true), (by first | rfl | (simp; done) | (simp [*]; done)), H', ⟨by first | omega | exact Nat.le_refl _⟩, ⟨by repeat (first | (with_reducible first | exact HB.out | apply below_alloc | apply pw_below_drewN | apply below_drew1) | exact HB.out)⟩⟩
    · rw [if_neg c3] at H
      have c3b0 : decide (a0 < 1) = false := decide_eq_false c3
      clear c3
      (first | rw [c3b0] | (simp only [i64_w, i32_w]; rw [c3b0]) | skip)
      have H' := Aside0.mk H
      clear H
      go_wp2
      go_meet
      case rel => exact ⟨_, (decide (a0 > 32768)), (by first | rfl | (simp; done) | (simp [*]; done)), H', ⟨by first | omega | exact Nat.le_refl _⟩, ⟨by repeat (first | (with_reducible first | exact HB.out | apply below_alloc | apply pw_below_drewN | apply below_drew1) | exact HB.out)⟩⟩
  case rest =>
    clear HC2
    try clear p2
    try clear c3
    try clear c3b0
    obtain ⟨kq, x11_1, rfl, HA, HJ1, HB⟩ := hcut
    cases kq with
    | zero => exact absurd HA.out (by simp [sym_Dist.j0])
    | succ kj1 =>
      have H := HA.out
      clear HA
      simp only [sym_Dist.j0] at H
      by_cases c4 : x11_1 = true
      · subst c4
        have H1 : (some (0, 0, 0, 1)) = some (r1, r2, r3, r4) := by rw [if_pos rfl] at H; exact H
        clear H
        have H := H1
        clear H1
        simp only [Option.some.injEq, Prod.mk.injEq] at H
        obtain ⟨rfl, rfl, rfl, rfl⟩ := H
        go_wp2
        refine bodyPost_ret (results_list (rs := [.tmp 2, .tmp 3, .tmp 4, .tmp 5]) rfl (by simp) (.tmp (.tmp (.tmp (.tmp .nil))))) rfl ?_
        exact ⟨by first | rfl | (simp [errW_none, errW_some] <;> rfl) | (simp [*, errW_none, errW_some] <;> rfl), by repeat (first | (with_reducible first | exact HB.out | apply below_alloc | apply pw_below_drewN | apply below_drew1) | exact HB.out)⟩
      · replace c4 := Bool.eq_false_iff.mpr c4
        subst c4
        have H1 : ((sym_dists.f).bind fun bt145 => ((sym_scale_at.f kj1 bt145.1 bt145.2 (wrap64 (a0 - 1))).bind fun bt147 => (some (bt147.1, bt147.2.1, bt147.2.2, 0)))) = some (r1, r2, r3, r4) := by rw [if_neg (show ¬ (false = true) by decide)] at H; exact H
        clear H
        have H := H1
        clear H1
        replace H := Option.bind_eq_some_iff.mp H
        obtain ⟨⟨t145, t146⟩, A50, H⟩ := H
        replace H : ((sym_scale_at.f kj1 t145 t146 (wrap64 (a0 - 1))).bind fun bt147 => (some (bt147.1, bt147.2.1, bt147.2.2, 0))) = some (r1, r2, r3, r4) := H
        have A5 := Aside0.mk A50
        clear A50
        replace H := Option.bind_eq_some_iff.mp H
        obtain ⟨⟨t147, t148, t149⟩, A60, H⟩ := H
        replace H : (some (t147, t148, t149, 0)) = some (r1, r2, r3, r4) := H
        have A6 := Aside0.mk A60
        clear A60
        simp only [Option.some.injEq, Prod.mk.injEq] at H
        obtain ⟨rfl, rfl, rfl, rfl⟩ := H
        go_wp2_with (first | ((with_reducible refine gate_callee (f := 69) rfl ?_); refine goesL_ (some 13) rfl rfl Try.func69 (by kernel_rfl) rfl #[] rfl (by (try simp only [List.map_toArray, List.map_cons, List.map_nil]); first | done | rfl | (simp only [List.length_drop, List.length_take]; rfl)) ?_; (with_reducible refine (sym_dists.calls  t145 t146 _ A5.out).mono ?_); rintro e w7 ⟨rfl, hb⟩; refine ⟨_, rfl, ?_⟩; have n0_ := Aside0.mk (below_step (by repeat (first | (with_reducible first | exact HB.out | apply below_alloc | apply pw_below_drewN | apply below_drew1) | exact HB.out)) hb); clear HB; have HB := n0_; clear n0_; (try clear hb); (try clear hb2); (try clear hk); (try clear hi)) | ((with_reducible refine gate_callee (f := 68) rfl ?_); refine goesL_ (some 16) rfl rfl Try.func68 (by kernel_rfl) rfl #[.agg #[.int .i64 t145, .int .i64 t146], .int .i64 (wrap64 (a0 - 1))] rfl (by (try simp only [List.map_toArray, List.map_cons, List.map_nil]); first | done | rfl | (simp only [List.length_drop, List.length_take]; rfl)) ?_; (with_reducible refine (sym_scale_at.calls kj1 t145 t146 (wrap64 (a0 - 1)) t147 t148 t149 _ A6.out).mono ?_); rintro e w8 ⟨rfl, hb⟩; refine ⟨_, rfl, ?_⟩; have n0_ := Aside0.mk (below_step (by repeat (first | (with_reducible first | exact HB.out | apply below_alloc | apply pw_below_drewN | apply below_drew1) | exact HB.out)) hb); clear HB; have HB := n0_; clear n0_; (try clear hb); (try clear hb2); (try clear hk); (try clear hi)))
        refine bodyPost_ret (results_list (rs := [.tmp 2, .tmp 3, .tmp 4, .tmp 5]) rfl (by simp) (.tmp (.tmp (.tmp (.tmp .nil))))) rfl ?_
        exact ⟨by first | rfl | (simp [errW_none, errW_some] <;> rfl) | (simp [*, errW_none, errW_some] <;> rfl), by repeat (first | (with_reducible first | exact HB.out | apply below_alloc | apply pw_below_drewN | apply below_drew1) | exact HB.out)⟩

end Go.Proofs.Ytcjijhjdkgjgeaa.P
namespace Go.Proofs.Ytcjijhjdkgjgeaa.P
open Go.RowKit Go.Proofs.YtcjijhjdkgjgeaaW.PrintWords Go.Proofs.YtcjijhjdkgjgeaaW.PrintLast Go.Proofs.YtcjijhjdkgjgeaaW.PrintMore
attribute [local go_sem] max2_int min2_int max_two min_two max_three min_three max_four min_four   -- for this text's walks alone
set_option linter.unusedVariables false
set_option linter.unusedSimpArgs false

-- PART
/-! ### shrink_pen_body: function 34 (by hand) -/
/-- A token behind a pen's bits. -/
def tokS (a lits b dists : List Int) (t : S70) (s : List Int × Nat) : Option (List Int × Nat) :=
  if t.f1 = 0 then codeS a lits (wrap64 t.f0) s else
    (sym_Len.f 400 t.f1).bind fun r => (codeS a lits r.1 s).bind fun s1 => (addS r.2.2.1 r.2.1 s1).bind fun s2 =>
    (sym_Dist.f 400 t.f2).bind fun q => (codeS b dists q.1 s2).bind fun s3 => addS q.2.2.1 q.2.1 s3
def bodyL (a lits b dists : List Int) : List S70 → List Int × Nat → Option (List Int × Nat)
  | [], s => some s
  | t :: l, s => (tokS a lits b dists t s).bind (bodyL a lits b dists l)
/-- Tokens and the end behind a pen's bits. -/
def bodyS (l : List S70) (lits dists : List Int) (s : List Int × Nat) : Option (List Int × Nat) :=
  (canon_Codes.f lits).bind fun a => (canon_Codes.f dists).bind fun b => (bodyL a.1 lits b.1 dists l s).bind fun s1 => codeS a.1 lits 256 s1
/-- A row that is read and that pens leave. -/
def ReadsP (w : World) (A : Option Addr) (l : List Int) : Prop := ∀ W, KeepP w W → Kd.C (Kd.int .i64) W A l.length l
theorem ReadsP.keep {w w1 : World} {A : Option Addr} {l : List Int} (h : ReadsP w A l) (hk : KeepP w w1) : ReadsP w1 A l := fun W hW => h W (hk.trans hW)
theorem ReadsP.now {w : World} {A : Option Addr} {l : List Int} (h : ReadsP w A l) : Kd.C (Kd.int .i64) w A l.length l := h w (KeepP.refl w)
theorem readsP_own {w : World} {base : Nat} {ok : Nat → Prop} {A : Option Addr} {n c : Nat} {l : List Int} (h : Kd.R (Kd.int .i64) 3 w base ok (.slice A n c) l) : ReadsP w A l ∧ n = l.length ∧ l.length ≤ c :=
  ⟨fun W hW => (Kd.R_reads' (introw_keepP h hW)).2.2, (Kd.R_reads' h).1, by have h1 := (Kd.R_reads' h).1; have h2 := (Kd.R_reads' h).2.1; omega⟩
/-- A row of tokens that pens leave. -/
def ReadsT (w : World) (A : Option Addr) (l : List S70) : Prop := ∀ W, KeepP w W → Kd.C k70 W A l.length l
set_option maxHeartbeats 8000000 in
set_option maxRecDepth 100000 in
theorem pen_body (g : Nat) (A1 A2 A3 : Option Addr) (c1 c2 c3 : Nat) (l : List S70) (lits dists : List Int) (s sr : List Int × Nat) (w0 w : World) (hP : PenAt w0 w g s) (hB : Below w0.heap.size w0 w)
    (hr1 : ReadsT w A1 l) (hc1 : l.length ≤ c1) (hl : l.length ≤ 1000000) (hr2 : ReadsP w A2 lits) (hc2 : lits.length ≤ c2) (hr3 : ReadsP w A3 dists) (hc3 : dists.length ≤ c3) (h : bodyS l lits dists s = some sr) :
    Calls Try.prog 34 #[.pointer (some ⟨g, 0, none⟩), .slice A1 l.length c1, .slice A2 lits.length c2, .slice A3 dists.length c3] w fun e w' => e = .returned (.tuple #[]) ∧ PenAt w0 w' g sr ∧ Below w0.heap.size w0 w' ∧ KeepP w w' := by
  unfold bodyS at h
  obtain ⟨⟨a, ea⟩, ha, h⟩ := Option.bind_eq_some_iff.1 h
  obtain ⟨⟨b, eb⟩, hb, h⟩ := Option.bind_eq_some_iff.1 h
  obtain ⟨s2, hs2, h⟩ := Option.bind_eq_some_iff.1 h
  simp only at hs2 h
  have HA := Aside0.mk ha
  have HBc := Aside0.mk hb
  have HL := Aside0.mk hs2
  have HE := Aside0.mk h
  have HP := Aside0.mk hP
  have HB := Aside0.mk hB
  have HR1 := Aside0.mk hr1
  have HR2 := Aside0.mk hr2
  have HR3 := Aside0.mk hr3
  clear ha hb hs2 h hP hB hr1 hr2 hr3
  go_enter Try.func34, Try.ntmps34
  go_wp2_with fail
  refine (canon_Codes.calls A2 c2 lits a ea w HR2.out.now hc2 HA.out).mono ?_
  rintro e w1 ⟨va, rfl, ho1, hb1⟩
  obtain ⟨Aa, ca, ea1⟩ := Kd.R_slice ho1
  subst ea1
  obtain ⟨ra, _, hca⟩ := readsP_own ho1
  have RA := Aside0.mk ra
  have HB1 := Aside0.mk (below_then HB.out HB.out.size hb1)
  have HK1 := Aside0.mk (KeepP.of_below hb1)
  have HP1 := Aside0.mk (HP.out.below hb1)
  clear ho1 hb1 ra HP HB HA
  go_wp2_with fail
  refine (canon_Codes.calls A3 c3 dists b eb w1 (HR3.out.keep HK1.out).now hc3 HBc.out).mono ?_
  rintro e w2 ⟨vb, rfl, ho2, hb2⟩
  obtain ⟨Ab, cb, eb1⟩ := Kd.R_slice ho2
  subst eb1
  obtain ⟨rb, _, hcb⟩ := readsP_own ho2
  have RB := Aside0.mk rb
  have RA2 := Aside0.mk (RA.out.keep (KeepP.of_below hb2))
  have HB2 := Aside0.mk (below_then HB1.out HB1.out.size hb2)
  have HK2 := Aside0.mk (HK1.out.below hb2)
  have HP2 := Aside0.mk (HP1.out.below hb2)
  have HRl := Aside0.mk (HR2.out.keep HK2.out)
  have HRd := Aside0.mk (HR3.out.keep HK2.out)
  have HRt : Aside0 (ReadsT w2 A1 l) := ⟨fun W hW => HR1.out W (HK2.out.trans hW)⟩
  clear ho2 hb2 rb HP1 HB1 HK1 HBc RA HR2 HR3 HR1
  go_wp2_with fail
  go_loopg [30] l.length (fun kq v30 w' => ∃ (i : Nat) (si : List Int × Nat), v30 = .int .i64 i ∧ i ≤ l.length ∧ Aside0 (kq + i = l.length) ∧ Aside0 (bodyL a lits b dists (l.drop i) si = some s2) ∧ Aside0 (PenAt w0 w' g si) ∧ Aside0 (Below w0.heap.size w0 w') ∧ Aside0 (KeepP w2 w'))
  case atStart => exact ⟨0, s, rfl, Nat.zero_le _, ⟨by omega⟩, HL, HP2, HB2, ⟨KeepP.refl _⟩⟩
  case round =>
    clear HL HP2 HB2
    obtain ⟨i, si, rfl, hi, HG, HL, HP, HB, HK⟩ := hrel
    by_cases hlt : i < l.length
    rotate_left
    · obtain rfl : i = l.length := by omega
      have h := HL.out
      rw [List.drop_length] at h
      simp only [bodyL] at h
      injection h with h
      subst h
      go_wp2_with fail
      refine (pen_code g Aa A2 ca c2 a lits 256 si sr w0 wr HP.out HB.out (RA2.out.keep HK.out).now hca (HRl.out.keep HK.out).now hc2 HE.out).mono ?_
      rintro e w3 ⟨rfl, hP3, hB3, hK3⟩
      go_wp2_with fail
      go_end0
      exact ⟨rfl, hP3, hB3, HK2.out.trans (HK.out.trans hK3)⟩
    have h := HL.out
    obtain ⟨t, ht⟩ : ∃ t, t = rd_T70 l (i : Int) := ⟨_, rfl⟩
    have hd : l.drop i = t :: l.drop (i + 1) := by
      rw [ht]
      unfold rd_T70
      rw [Int.toNat_natCast, List.getD_eq_getElem?_getD, List.getElem?_eq_getElem hlt]
      exact List.drop_eq_getElem_cons hlt
    rw [hd] at h
    simp only [bodyL] at h
    obtain ⟨s3, hs3, h⟩ := Option.bind_eq_some_iff.1 h
    have HT := Aside0.mk hs3
    have HL1 := Aside0.mk h
    clear h hs3 HL hd
    obtain ⟨ad, ead, k0, k1, k2⟩ := at_T70 (HRt.out wr HK.out) (i : Int) (by omega) (by omega)
    rw [← ht, Int.toNat_natCast] at k0
    rw [← ht, Int.toNat_natCast] at k1 k2
    subst ead
    clear ht
    by_cases h0 : t.f1 = 0
    · have d0 : (t.f1 == 0) = true := beq_iff_eq.2 h0
      have hT := HT.out
      unfold tokS at hT
      rw [if_pos h0] at hT
      have HT1 := Aside0.mk hT
      clear hT HT h0
      go_wp2_with fail
      have hal : Below wr.heap.size wr (wr.alloc (.cells #[.int .u8 t.f0, .int .i64 t.f1, .int .i64 t.f2] 70)) := (Below.refl _ _).alloc (Nat.le_refl _) _
      have hk0 := KeepP.of_below hal
      refine (pen_code g Aa A2 ca c2 a lits (wrap64 t.f0) si s3 w0 _ (HP.out.below hal) (HB.out.alloc HB.out.size _) ((RA2.out.keep HK.out).keep hk0).now hca ((HRl.out.keep HK.out).keep hk0).now hc2 HT1.out).mono ?_
      rintro e w3 ⟨rfl, hP3, hB3, hK3⟩
      have HP3 := Aside0.mk hP3
      have HB3 := Aside0.mk hB3
      have HK3 := Aside0.mk (HK.out.trans (hk0.trans hK3))
      clear hP3 hB3 hK3 hal hk0 HP HB HK
      go_wp2_with fail
      go_roundg (gk - 1)
      case measure => have := HG.out; omega
      case rel => exact ⟨i + 1, s3, by go_num, by omega, ⟨by have := HG.out; omega⟩, HL1, HP3, HB3, HK3⟩
    · have d0 : (t.f1 == 0) = false := beq_eq_false_iff_ne.2 h0
      have hT := HT.out
      unfold tokS at hT
      rw [if_neg h0] at hT
      obtain ⟨⟨y1, y2, y3, y4⟩, hs, hT⟩ := Option.bind_eq_some_iff.1 hT
      obtain ⟨s4, h4, hT⟩ := Option.bind_eq_some_iff.1 hT
      obtain ⟨s5, h5, hT⟩ := Option.bind_eq_some_iff.1 hT
      obtain ⟨⟨z1, z2, z3, z4⟩, hz, hT⟩ := Option.bind_eq_some_iff.1 hT
      obtain ⟨s6, h6, hT⟩ := Option.bind_eq_some_iff.1 hT
      have HS := Aside0.mk hs
      have H4 := Aside0.mk h4
      have H5 := Aside0.mk h5
      have HZ := Aside0.mk hz
      have H6 := Aside0.mk h6
      have H7 := Aside0.mk hT
      clear hs h4 h5 hz h6 hT HT h0
      have hal : Below wr.heap.size wr (wr.alloc (.cells #[.int .u8 t.f0, .int .i64 t.f1, .int .i64 t.f2] 70)) := (Below.refl _ _).alloc (Nat.le_refl _) _
      have HAL := Aside0.mk hal
      have BT := Aside0.mk (blk_new wr (.cells #[.int .u8 t.f0, .int .i64 t.f1, .int .i64 t.f2] 70))
      clear hal
      go_wp2_with fail
      refine (sym_Len.calls 400 t.f1 y1 y2 y3 y4 _ HS.out).mono ?_
      rintro e w3 ⟨rfl, hb3⟩
      have hk3 := (KeepP.of_below HAL.out).below hb3
      have HP3 := Aside0.mk ((HP.out.below HAL.out).below hb3)
      have HB3 := Aside0.mk (below_then (HB.out.alloc HB.out.size _) (HB.out.alloc HB.out.size _).size hb3)
      have HK3 := Aside0.mk (HK.out.trans hk3)
      have BT3 : Aside0 (w3.heap[wr.heap.size]? = some (.cells #[.int .u8 t.f0, .int .i64 t.f1, .int .i64 t.f2] 70 (0, 0))) := ⟨(KeepP.of_below hb3).2 _ _ _ BT.out (by decide) (by decide)⟩
      clear hb3 hk3 HP HB HK BT HAL HS
      go_wp2_with fail
      refine (pen_code g Aa A2 ca c2 a lits y1 si s4 w0 w3 HP3.out HB3.out (RA2.out.keep HK3.out).now hca (HRl.out.keep HK3.out).now hc2 H4.out).mono ?_
      rintro e w4 ⟨rfl, hP4, hB4, hK4⟩
      have HP4 := Aside0.mk hP4
      have HB4 := Aside0.mk hB4
      have HK4 := Aside0.mk (HK3.out.trans hK4)
      have BT4 := Aside0.mk (hK4.2 _ _ _ BT3.out (by decide) (by decide))
      clear hP4 hB4 hK4 HP3 HB3 HK3 BT3 H4
      go_wp2_with fail
      refine (pen_more g y3 y2 s4 s5 w0 w4 HP4.out HB4.out H5.out).mono ?_
      rintro e w5 ⟨rfl, hP5, hB5, hK5⟩
      have HP5 := Aside0.mk hP5
      have HB5 := Aside0.mk hB5
      have HK5 := Aside0.mk (HK4.out.trans hK5)
      have BT5 := Aside0.mk (hK5.2 _ _ _ BT4.out (by decide) (by decide))
      clear hP5 hB5 hK5 HP4 HB4 HK4 BT4 H5
      have hcz2 : w5.cell? ⟨wr.heap.size, 2, none⟩ = some (.int .i64 t.f2) := (blk_cell BT5.out 2).trans rfl
      go_wp2_with fail
      refine (sym_Dist.calls 400 t.f2 z1 z2 z3 z4 w5 HZ.out).mono ?_
      rintro e w6 ⟨rfl, hb6⟩
      have HP6 := Aside0.mk (HP5.out.below hb6)
      have HB6 := Aside0.mk (below_then HB5.out HB5.out.size hb6)
      have HK6 := Aside0.mk (HK5.out.below hb6)
      clear hb6 HP5 HB5 HK5 BT5 HZ hcz2
      go_wp2_with fail
      refine (pen_code g Ab A3 cb c3 b dists z1 s5 s6 w0 w6 HP6.out HB6.out (RB.out.keep HK6.out).now hcb (HRd.out.keep HK6.out).now hc3 H6.out).mono ?_
      rintro e w7 ⟨rfl, hP7, hB7, hK7⟩
      have HP7 := Aside0.mk hP7
      have HB7 := Aside0.mk hB7
      have HK7 := Aside0.mk (HK6.out.trans hK7)
      clear hP7 hB7 hK7 HP6 HB6 HK6 H6
      go_wp2_with fail
      refine (pen_more g z3 z2 s6 s3 w0 w7 HP7.out HB7.out H7.out).mono ?_
      rintro e w8 ⟨rfl, hP8, hB8, hK8⟩
      have HP8 := Aside0.mk hP8
      have HB8 := Aside0.mk hB8
      have HK8 := Aside0.mk (HK7.out.trans hK8)
      clear hP8 hB8 hK8 HP7 HB7 HK7 H7
      go_wp2_with fail
      go_roundg (gk - 1)
      case measure => have := HG.out; omega
      case rel => exact ⟨i + 1, s3, by go_num, by omega, ⟨by have := HG.out; omega⟩, HL1, HP8, HB8, HK8⟩

-- PART
end Go.Proofs.Ytcjijhjdkgjgeaa.P
namespace Go.Proofs.Ytcjijhjdkgjgeaa.P
open Go.RowKit Go.Proofs.YtcjijhjdkgjgeaaW.PrintWords Go.Proofs.YtcjijhjdkgjgeaaW.PrintLast Go.Proofs.YtcjijhjdkgjgeaaW.PrintMore
attribute [local go_sem] max2_int min2_int max_two min_two max_three min_three max_four min_four   -- for this text's walks alone
set_option linter.unusedVariables false
set_option linter.unusedSimpArgs false

-- PART
/-! ### shrink_known: function 26 (by hand) -/
theorem tokrow_keepP {W W1 : World} {base : Nat} {ok : Nat → Prop} {v : Value} {l : List S70} (h : Kd.R k70 70 W base ok v l) (hk : KeepP W W1) : Kd.R k70 70 W1 base ok v l := by
  refine Kd.R_mono (Kd.R_move (Kd.R_bound h) (fun k hk' => ?_)) (fun _ hk' => hk'.1)
  obtain ⟨_, _, _, q, hq, cells, hc⟩ := hk'
  have hq' : q = 70 := by simpa [k70, Kd.iso, Kd.pair, Kd.int, Kd.scalar] using hq
  subst hq'
  exact (hk.2 k cells _ hc (by decide) (by decide)).trans hc.symm
theorem readsT_own {w : World} {base : Nat} {ok : Nat → Prop} {A : Option Addr} {n c : Nat} {l : List S70} (h : Kd.R k70 70 w base ok (.slice A n c) l) : ReadsT w A l ∧ n = l.length ∧ l.length ≤ c :=
  ⟨fun W hW => (Kd.R_reads' (tokrow_keepP h hW)).2.2, (Kd.R_reads' h).1, by have h1 := (Kd.R_reads' h).1; have h2 := (Kd.R_reads' h).2.1; omega⟩
theorem ReadsT.keep {w w1 : World} {A : Option Addr} {l : List S70} (h : ReadsT w A l) (hk : KeepP w w1) : ReadsT w1 A l := fun W hW => h W (hk.trans hW)
/-- Tokens by the fixed lengths. -/
def knownS (l : List S70) : Option (List Int × Nat) := (beginS 1).bind fun s => (sym_Fixed.f 1000).bind fun f => bodyS l f.1 f.2 s
set_option maxHeartbeats 8000000 in
set_option maxRecDepth 100000 in
theorem shr_known (A0 : Option Addr) (c0 : Nat) (l : List S70) (sr : List Int × Nat) (w : World) (hr0 : ReadsT w A0 l) (hc0 : l.length ≤ c0) (hl : l.length ≤ 1000000) (h : knownS l = some sr) :
    Calls Try.prog 26 #[.slice A0 l.length c0] w fun e w' => ∃ g, e = .returned (.pointer (some ⟨g, 0, none⟩)) ∧ PenAt w w' g sr ∧ Below w.heap.size w w' := by
  unfold knownS at h
  obtain ⟨s1, h1, h⟩ := Option.bind_eq_some_iff.1 h
  obtain ⟨⟨r1, r2⟩, h2, h⟩ := Option.bind_eq_some_iff.1 h
  have H1 := Aside0.mk h1
  have H2 := Aside0.mk h2
  have HL := Aside0.mk h
  have HR := Aside0.mk hr0
  clear h1 h2 h hr0
  go_enter Try.func26, Try.ntmps26
  go_wp2_with fail
  refine (shr_begin 1 s1 w H1.out).mono ?_
  rintro e w1 ⟨g, rfl, hP1, hB1⟩
  have HP1 := Aside0.mk hP1
  have HB1 := Aside0.mk hB1
  clear hP1 hB1 H1
  go_wp2_with fail
  refine (sym_Fixed.calls 1000 r1 r2 w1 H2.out).mono ?_
  rintro e w2 ⟨v1, v2, rfl, ho1, ho2, hb2⟩
  obtain ⟨A1, c1, e1⟩ := Kd.R_slice ho1
  subst e1
  obtain ⟨A2, c2, e2⟩ := Kd.R_slice ho2
  subst e2
  obtain ⟨ra, _, hca⟩ := readsP_own ho1
  obtain ⟨rb, _, hcb⟩ := readsP_own ho2
  have RA := Aside0.mk ra
  have RB := Aside0.mk rb
  have HP2 := Aside0.mk (HP1.out.below hb2)
  have HB2 := Aside0.mk (below_then HB1.out HB1.out.size hb2)
  clear ra rb hb2 ho1 ho2 HP1 HB1 H2
  go_wp2_with fail
  refine (pen_body g A0 A1 A2 c0 c1 c2 l r1 r2 s1 sr w w2 HP2.out HB2.out (HR.out.keep (KeepP.of_below HB2.out)) hc0 hl RA.out hca RB.out hcb HL.out).mono ?_
  rintro e w3 ⟨rfl, hP3, hB3, _⟩
  go_wp2_with fail
  go_ret
  exact ⟨g, rfl, hP3, hB3⟩

-- PART
end Go.Proofs.Ytcjijhjdkgjgeaa.P
