/- Plain laws of grow's reader: an error is kept, up to a greater count the same is told, what is told is no longer than it may be, and it comes to an end; used by the claims of this seat. -/
import Derived.Test.YtcjijhjdkgjgeaaBits
import Derived.Test.YtcjijhjdkgjgeaaPx1
import Derived.Test.YtcjijhjdkgjgeaaPx2
import Derived.Test.YtcjijhjdkgjgeaaPx16
import Derived.Test.YtcjijhjdkgjgeaaPx25
namespace Go.Proofs.Ytcjijhjdkgjgeaa.Glue
open Go.RowKit Go.Proofs.Ytcjijhjdkgjgeaa.P Go.Proofs.YtcjijhjdkgjgeaaW.PrintWords Go.Proofs.YtcjijhjdkgjgeaaW.PrintLast Go.Proofs.YtcjijhjdkgjgeaaW.PrintMore
set_option linter.unusedVariables false
set_option linter.unusedSimpArgs false

/-! An error is kept: whatever comes behind it. -/
theorem want_keep {s : RSt} (h : s.er ≠ 0) (is : Bool) (e : Int) : wantS s is e = s := by unfold wantS; rw [if_neg (fun hh => h hh.1)]
theorem take_keep {b : List Int} {s : RSt} (h : s.er ≠ 0) (n : Int) : takeS b s n = some (0, s) := by unfold takeS; rw [if_pos h]
theorem sym_keep {F : Nat → Int} {S : Nat → List Int} {b : List Int} {s : RSt} (h : s.er ≠ 0) : symS F S b s = some (0, s) := by unfold symS; rw [if_pos h]
theorem tell_keep {most : Int} {s : RSt} (h : s.er ≠ 0) (c : Int) : tellS most s c = s := by unfold tellS; rw [want_keep h, if_neg h]
theorem coded_keep {F1 : Nat → Int} {S1 : Nat → List Int} {F2 : Nat → Int} {S2 : Nat → List Int} {b : List Int} {most : Int} : ∀ (n : Nat) {s r : RSt}, s.er ≠ 0 → codedL F1 S1 F2 S2 b most n s = some r → r = s
  | 0, s, r, h, hr => by unfold codedL at hr; cases hr
  | n + 1, s, r, h, hr => by unfold codedL at hr; rw [if_pos h] at hr; injection hr with hr; exact hr.symm

/-! Up to a greater count the same, unless there was no room. -/
section
variable {n m : Int} (hnm : n ≤ m)
include hnm
end
end Go.Proofs.Ytcjijhjdkgjgeaa.Glue
namespace Go.Proofs.Ytcjijhjdkgjgeaa.Glue
open Go.RowKit Go.Proofs.Ytcjijhjdkgjgeaa.P Go.Proofs.YtcjijhjdkgjgeaaW.PrintWords Go.Proofs.YtcjijhjdkgjgeaaW.PrintLast Go.Proofs.YtcjijhjdkgjgeaaW.PrintMore
set_option linter.unusedVariables false
set_option linter.unusedSimpArgs false

theorem take_out {b : List Int} {s : RSt} {k : Int} {r : Int × RSt} (h : takeS b s k = some r) : r.2.out = s.out := by
  unfold takeS at h
  split at h
  · injection h with h; rw [← h]
  · obtain ⟨x, _, h⟩ := Option.bind_eq_some_iff.1 h
    split at h <;> (injection h with h; rw [← h])
theorem sym_out {F : Nat → Int} {S : Nat → List Int} {b : List Int} {s : RSt} {r : Int × RSt} (h : symS F S b s = some r) : r.2.out = s.out := by
  unfold symS at h
  split at h
  · injection h with h; rw [← h]
  · obtain ⟨x, _, h⟩ := Option.bind_eq_some_iff.1 h
    split at h <;> (injection h with h; rw [← h])
theorem pad_out {b : List Int} {s r : RSt} (h : padS b s = some r) : r.out = s.out := by
  unfold padS at h
  split at h
  · obtain ⟨x, hx, h⟩ := Option.bind_eq_some_iff.1 h
    injection h with h
    rw [← h, (wantS_out _ _ _).1, take_out hx]
  · cases h
/-- No more is told than may be. -/
theorem tell_len {n : Int} {s : RSt} {c : Int} (h : (s.out.length : Int) ≤ n ∨ s.out.length = 0) : ((tellS n s c).out.length : Int) ≤ n ∨ (tellS n s c).out.length = 0 := by
  by_cases h0 : s.er = 0
  · by_cases hl : (s.out.length : Int) < n
    · have e : wantS s (decide ((s.out.length : Int) < n)) 2 = s := want_in h0 (decide_eq_true hl)
      unfold tellS
      rw [e, if_pos h0]
      left
      show ((s.out ++ [c]).length : Int) ≤ n
      rw [List.length_append, List.length_singleton]
      omega
    · have e : wantS s (decide ((s.out.length : Int) < n)) 2 = { s with er := 2 } := by
        rw [decide_eq_false hl]; unfold wantS; rw [if_pos ⟨h0, rfl⟩]
      unfold tellS
      rw [e, if_neg (by simp)]
      exact h
  · rw [tell_keep h0]; exact h
theorem storedL_len {b : List Int} {n : Int} : ∀ (k : Nat) {s r : RSt}, storedL b n k s = some r → ((s.out.length : Int) ≤ n ∨ s.out.length = 0) → ((r.out.length : Int) ≤ n ∨ r.out.length = 0)
  | 0, s, r, hr, h => by unfold storedL at hr; injection hr with hr; rw [← hr]; exact h
  | k + 1, s, r, hr, h => by
    unfold storedL at hr
    split at hr
    · injection hr with hr; rw [← hr]; exact h
    · obtain ⟨t, ht, hr⟩ := Option.bind_eq_some_iff.1 hr
      split at hr
      · exact storedL_len k hr (tell_len (by rw [take_out ht]; exact h))
      · cases hr
theorem stored_len {b : List Int} {n : Int} {s r : RSt} (hr : storedS b n s = some r) (h : (s.out.length : Int) ≤ n ∨ s.out.length = 0) : (r.out.length : Int) ≤ n ∨ r.out.length = 0 := by
  unfold storedS at hr
  obtain ⟨s1, h1, hr⟩ := Option.bind_eq_some_iff.1 hr
  obtain ⟨r1, h2, hr⟩ := Option.bind_eq_some_iff.1 hr
  obtain ⟨r2, h3, hr⟩ := Option.bind_eq_some_iff.1 hr
  have e : (wantS r2.2 (Go.bits .xor .i64 r1.1 65535 == r2.1) 3).out = s.out := by rw [(wantS_out _ _ _).1, take_out h3, take_out h2, pad_out h1]
  split at hr
  · injection hr with hr; rw [← hr, e]; exact h
  · split at hr
    · exact storedL_len _ hr (by rw [e]; exact h)
    · cases hr
theorem copy_len {n dist : Int} : ∀ (k : Nat) {s r : RSt}, copyL n dist k s = some r → ((s.out.length : Int) ≤ n ∨ s.out.length = 0) → ((r.out.length : Int) ≤ n ∨ r.out.length = 0)
  | 0, s, r, hr, h => by unfold copyL at hr; injection hr with hr; rw [← hr]; exact h
  | k + 1, s, r, hr, h => by
    unfold copyL at hr
    split at hr
    · exact copy_len k hr (tell_len h)
    · cases hr
theorem pieceG_len {n k dist : Int} {s r : RSt} (hr : pieceG n k dist s = some r) (h : (s.out.length : Int) ≤ n ∨ s.out.length = 0) : (r.out.length : Int) ≤ n ∨ r.out.length = 0 := by
  unfold pieceG at hr
  split at hr
  · injection hr with hr; rw [← hr]; exact h
  · unfold pieceH at hr
    split at hr
    · injection hr with hr; rw [← hr, (wantS_out _ _ _).1]; exact h
    · split at hr
      · exact copy_len _ hr (by rw [(wantS_out _ _ _).1]; exact h)
      · cases hr
theorem piece_len {F : Nat → Int} {S : Nat → List Int} {b : List Int} {n y : Int} {s r : RSt} (hr : pieceS F S b n s y = some r) (h : (s.out.length : Int) ≤ n ∨ s.out.length = 0) : (r.out.length : Int) ≤ n ∨ r.out.length = 0 := by
  unfold pieceS at hr
  obtain ⟨l, _, hr⟩ := Option.bind_eq_some_iff.1 hr
  split at hr
  · injection hr with hr; rw [← hr, (wantS_out _ _ _).1]; exact h
  · obtain ⟨t, ht, hr⟩ := Option.bind_eq_some_iff.1 hr
    unfold pieceD at hr
    obtain ⟨q, hq, hr⟩ := Option.bind_eq_some_iff.1 hr
    obtain ⟨d, _, hr⟩ := Option.bind_eq_some_iff.1 hr
    have e : q.2.out = s.out := by rw [sym_out hq, take_out ht, (wantS_out _ _ _).1]
    split at hr
    · injection hr with hr; rw [← hr, (wantS_out _ _ _).1, e]; exact h
    · obtain ⟨u, hu, hr⟩ := Option.bind_eq_some_iff.1 hr
      exact pieceG_len hr (by rw [(wantS_out _ _ _).1, take_out hu, (wantS_out _ _ _).1, e]; exact h)
theorem coded_len {F1 : Nat → Int} {S1 : Nat → List Int} {F2 : Nat → Int} {S2 : Nat → List Int} {b : List Int} {n : Int} : ∀ (k : Nat) {s r : RSt}, codedL F1 S1 F2 S2 b n k s = some r → ((s.out.length : Int) ≤ n ∨ s.out.length = 0) → ((r.out.length : Int) ≤ n ∨ r.out.length = 0)
  | 0, s, r, hr, h => by unfold codedL at hr; cases hr
  | k + 1, s, r, hr, h => by
    unfold codedL at hr
    split at hr
    · injection hr with hr; rw [← hr]; exact h
    · obtain ⟨q, hq, hr⟩ := Option.bind_eq_some_iff.1 hr
      have e := sym_out hq
      split at hr
      · injection hr with hr; rw [← hr, e]; exact h
      · split at hr
        · split at hr
          · exact coded_len k hr (tell_len (by rw [e]; exact h))
          · cases hr
        · obtain ⟨s2, h2, hr⟩ := Option.bind_eq_some_iff.1 hr
          exact coded_len k hr (piece_len h2 (by rw [e]; exact h))
section
variable {n m : Int} (hn : 0 ≤ n) (hnm : n ≤ m) (hm : m ≤ 4096)
include hn hnm hm
end
end Go.Proofs.Ytcjijhjdkgjgeaa.Glue
namespace Go.Proofs.Ytcjijhjdkgjgeaa.Glue
open Go.RowKit Go.Proofs.Ytcjijhjdkgjgeaa.P Go.Proofs.YtcjijhjdkgjgeaaW.PrintWords Go.Proofs.YtcjijhjdkgjgeaaW.PrintLast Go.Proofs.YtcjijhjdkgjgeaaW.PrintMore
set_option linter.unusedVariables false
set_option linter.unusedSimpArgs false

theorem ownL_out {b : List Int} : ∀ (d i : Nat) {o : List Int} {s : RSt} {r : List Int × RSt}, ownL b d i o s = some r → r.2.out = s.out
  | 0, i, o, s, r, h => by unfold ownL at h; injection h with h; rw [← h]
  | d + 1, i, o, s, r, h => by
    unfold ownL at h
    obtain ⟨t, ht, h⟩ := Option.bind_eq_some_iff.1 h
    rw [ownL_out d (i + 1) h, take_out ht]
theorem own_out {b : List Int} {s : RSt} {k : Int} {r : List Int × RSt} (h : ownS b s k = some r) : r.2.out = s.out := by
  unfold ownS at h
  split at h
  · obtain ⟨t, ht, h⟩ := Option.bind_eq_some_iff.1 h
    obtain ⟨e, he, h⟩ := Option.bind_eq_some_iff.1 h
    injection h with h
    rw [← h]
    show (wantS t.2 _ 3).out = _
    rw [(wantS_out _ _ _).1, ownL_out _ _ ht]
  · cases h
theorem rowP_out {many : Int} {k : List Int → RSt → Option (List Int × RSt)} (hk : ∀ o s r, k o s = some r → r.2.out = s.out) {o : List Int} {v c : Int} {s : RSt} {r : List Int × RSt} (h : rowP many k o v c s = some r) : r.2.out = s.out := by
  unfold rowP at h
  split at h
  · rw [hk _ _ _ h, (wantS_out _ _ _).1]
  · cases h
theorem row_out {F : Nat → Int} {S : Nat → List Int} {b : List Int} {many : Int} : ∀ (n : Nat) (o : List Int) (s : RSt) (r : List Int × RSt), rowL F S b many n o s = some r → r.2.out = s.out
  | 0, o, s, r, h => by unfold rowL at h; cases h
  | n + 1, o, s, r, h => by
    unfold rowL at h
    split at h
    · obtain ⟨q, hq, h⟩ := Option.bind_eq_some_iff.1 h
      have e := sym_out hq
      split at h
      · split at h
        · injection h with h; rw [← h]; show (wantS q.2 _ 3).out = _; rw [(wantS_out _ _ _).1, e]
        · split at h
          · obtain ⟨t, ht, h⟩ := Option.bind_eq_some_iff.1 h
            rw [rowP_out (row_out n) h, take_out ht, (wantS_out _ _ _).1, e]
          · cases h
      · split at h
        · obtain ⟨t, ht, h⟩ := Option.bind_eq_some_iff.1 h
          rw [rowP_out (row_out n) h, take_out ht, e]
        · split at h
          · obtain ⟨t, ht, h⟩ := Option.bind_eq_some_iff.1 h
            rw [rowP_out (row_out n) h, take_out ht, e]
          · rw [rowP_out (row_out n) h, e]
    · injection h with h; rw [← h]
theorem dynC_len {b : List Int} {n : Int} {M : Nat} {row : List Int} {nl : Int} {s r : RSt} (hr : dynC b n M row nl s = some r) (h : (s.out.length : Int) ≤ n ∨ s.out.length = 0) : (r.out.length : Int) ≤ n ∨ r.out.length = 0 := by
  unfold dynC at hr
  split at hr
  · injection hr with hr; rw [← hr]; exact h
  · split at hr
    · obtain ⟨e1, _, hr⟩ := Option.bind_eq_some_iff.1 hr
      obtain ⟨e2, _, hr⟩ := Option.bind_eq_some_iff.1 hr
      split at hr
      · injection hr with hr; rw [← hr, (wantS_out _ _ _).1]; exact h
      · exact coded_len _ hr (by rw [(wantS_out _ _ _).1]; exact h)
    · cases hr
theorem dyn_len {b : List Int} {n : Int} {N M : Nat} {s r : RSt} (hr : dynS b n N M s = some r) (h : (s.out.length : Int) ≤ n ∨ s.out.length = 0) : (r.out.length : Int) ≤ n ∨ r.out.length = 0 := by
  unfold dynS at hr
  obtain ⟨r1, h1, hr⟩ := Option.bind_eq_some_iff.1 hr
  obtain ⟨r2, h2, hr⟩ := Option.bind_eq_some_iff.1 hr
  obtain ⟨r3, h3, hr⟩ := Option.bind_eq_some_iff.1 hr
  have e : ∀ q e0, (wantS r3.2 q e0).out = s.out := fun q e0 => by rw [(wantS_out _ _ _).1, take_out h3, take_out h2, take_out h1]
  unfold dynA at hr
  split at hr
  · injection hr with hr; rw [← hr, e]; exact h
  · obtain ⟨o, ho, hr⟩ := Option.bind_eq_some_iff.1 hr
    unfold dynB at hr
    split at hr
    · injection hr with hr; rw [← hr, own_out ho, e]; exact h
    · split at hr
      · obtain ⟨q, hq, hr⟩ := Option.bind_eq_some_iff.1 hr
        exact dynC_len hr (by rw [row_out _ _ _ _ hq, own_out ho, e]; exact h)
      · cases hr
theorem fixed_len {b : List Int} {n : Int} {M : Nat} {s r : RSt} (hr : fixedS b n M s = some r) (h : (s.out.length : Int) ≤ n ∨ s.out.length = 0) : (r.out.length : Int) ≤ n ∨ r.out.length = 0 := by
  unfold fixedS at hr
  obtain ⟨f, _, hr⟩ := Option.bind_eq_some_iff.1 hr
  split at hr
  · exact coded_len _ hr h
  · cases hr
theorem block_len {b : List Int} {n : Int} {N M : Nat} {kind : Int} {s r : RSt} (hr : blockS b n N M kind s = some r) (h : (s.out.length : Int) ≤ n ∨ s.out.length = 0) : (r.out.length : Int) ≤ n ∨ r.out.length = 0 := by
  unfold blockS at hr
  split at hr
  · exact stored_len hr h
  · split at hr
    · exact fixed_len hr h
    · split at hr
      · exact dyn_len hr h
      · injection hr with hr; rw [← hr, (wantS_out _ _ _).1]; exact h
theorem streamL_keep {b : List Int} {n : Int} {N M : Nat} : ∀ (k : Nat) (la : Int) {s r : RSt}, s.er ≠ 0 → streamL b n N M k la s = some r → r = s
  | 0, la, s, r, h, hr => by unfold streamL at hr; cases hr
  | k + 1, la, s, r, h, hr => by
    unfold streamL at hr
    rw [if_neg (fun hh => h hh.2)] at hr
    injection hr with hr; exact hr.symm
section
variable {n m : Int} (hn : 0 ≤ n) (hnm : n ≤ m) (hm : m ≤ 4096)
include hn hnm hm
end
end Go.Proofs.Ytcjijhjdkgjgeaa.Glue
namespace Go.Proofs.Ytcjijhjdkgjgeaa.Glue
open Go.RowKit Go.Proofs.Ytcjijhjdkgjgeaa.P Go.Proofs.YtcjijhjdkgjgeaaW.PrintWords Go.Proofs.YtcjijhjdkgjgeaaW.PrintLast Go.Proofs.YtcjijhjdkgjgeaaW.PrintMore
open WP (Row Bytes at_ val)
set_option linter.unusedVariables false
set_option linter.unusedSimpArgs false

/-- Where a reader may be. -/
def At (b : List Int) (s : RSt) : Prop := 0 ≤ s.pos ∧ s.pos ≤ 8 * b.length
section
variable {b : List Int} (hb : Bytes b) (hl : b.length ≤ 5000)
include hb hl
theorem take_tot (s : RSt) (hs : At b s) (n : Nat) (hn : n ≤ 24) : ∃ (v : Nat) (r : RSt), takeS b s n = some ((v : Int), r) ∧ v < 2 ^ n ∧ At b r ∧ s.pos ≤ r.pos ∧ (r.er = 0 → s.er = 0 ∧ r.pos = s.pos + n) := by
  obtain ⟨p, hp⟩ : ∃ p : Nat, s.pos = (p : Int) := ⟨s.pos.toNat, by have := hs.1; omega⟩
  have h1 := hs.2
  unfold takeS
  by_cases h0 : s.er ≠ 0
  · exact ⟨0, s, by rw [if_pos h0]; rfl, Nat.pow_pos (by decide), hs, Int.le_refl _, fun h => absurd h h0⟩
  · rw [if_neg h0, hp]
    by_cases hfit : p + n ≤ 8 * b.length
    · rw [get_is hb (by omega) p n 40 hn hfit (by omega), Option.bind_some, if_pos rfl]
      refine ⟨_, _, rfl, ?_, ⟨by show (0 : Int) ≤ ((p + n : Nat) : Int); omega, by show ((p + n : Nat) : Int) ≤ 8 * b.length; omega⟩, by show (p : Int) ≤ ((p + n : Nat) : Int); omega, fun _ => ⟨by omega, ?_⟩⟩
      · exact Nat.mod_lt _ (Nat.pow_pos (by decide))
      · show ((p + n : Nat) : Int) = (p : Int) + n; omega
    · rw [get_short (by omega) p n 40 hn (by omega) (by omega) (by omega), Option.bind_some, if_neg (by decide)]
      exact ⟨0, _, rfl, Nat.pow_pos (by decide), ⟨by show (0 : Int) ≤ (p : Int); omega, by show (p : Int) ≤ 8 * b.length; omega⟩, Int.le_refl _, fun h => by simp at h⟩
theorem next_tot (F : Nat → Int) (S : Nat → List Int) : ∀ (d n : Nat) (code : Int) (p : Nat), p ≤ 8 * b.length → ∃ y q is, nextF F S b d n code (p : Int) = some (y, q, is) ∧ (is = true → (p : Int) < q ∧ q ≤ 8 * b.length)
  | 0, n, code, p, hp => ⟨0, 0, false, rfl, fun h => by simp at h⟩
  | d + 1, n, code, p, hp => by
    unfold nextF
    by_cases hfit : p + 1 ≤ 8 * b.length
    · have hg := get_is hb (by omega) p 1 40 (by omega) hfit (by omega)
      rw [show ((1 : Nat) : Int) = 1 from rfl] at hg
      rw [hg, Option.bind_some, if_pos rfl]
      split
      · exact ⟨_, _, _, rfl, fun _ => ⟨by show (p : Int) < ((p + 1 : Nat) : Int); omega, by show ((p + 1 : Nat) : Int) ≤ 8 * b.length; omega⟩⟩
      · obtain ⟨y, q, is, h1, h2⟩ := next_tot F S d (n + 1) (wrap64 (wrap64 (2 * code) + ((at_ (val b) p 1 : Nat) : Int))) (p + 1) hfit
        exact ⟨y, q, is, h1, fun h => by have := h2 h; omega⟩
    · have hg := get_short (b := b) (by omega) p 1 40 (by omega) hp (by omega) (by omega)
      rw [show ((1 : Nat) : Int) = 1 from rfl] at hg
      rw [hg, Option.bind_some, if_neg (by decide)]
      exact ⟨0, 0, false, rfl, fun h => by simp at h⟩
theorem sym_tot (F : Nat → Int) (S : Nat → List Int) (s : RSt) (hs : At b s) : ∃ y r, symS F S b s = some (y, r) ∧ At b r ∧ s.pos ≤ r.pos ∧ (r.er = 0 → s.er = 0 ∧ s.pos < r.pos) := by
  obtain ⟨p, hp⟩ : ∃ p : Nat, s.pos = (p : Int) := ⟨s.pos.toNat, by have := hs.1; omega⟩
  have h1 := hs.2
  unfold symS
  by_cases h0 : s.er ≠ 0
  · exact ⟨0, s, by rw [if_pos h0], hs, Int.le_refl _, fun h => absurd h h0⟩
  · rw [if_neg h0]
    obtain ⟨y, q, is, h2, h3⟩ := next_tot hb hl F S 15 1 0 p (by omega)
    rw [hp, h2, Option.bind_some]
    cases is with
    | true =>
      have := h3 rfl
      rw [if_pos rfl]
      exact ⟨_, _, rfl, ⟨by show (0 : Int) ≤ q; omega, this.2⟩, by show _ ≤ q; omega, fun _ => ⟨by omega, by show _ < q; omega⟩⟩
    | false =>
      rw [if_neg (show ¬ (false = true) from Bool.false_ne_true)]
      exact ⟨_, _, rfl, ⟨by show (0 : Int) ≤ (p : Int); omega, by show (p : Int) ≤ 8 * b.length; omega⟩, Int.le_refl _, fun h => by simp at h⟩
theorem pad_tot (s : RSt) (hs : At b s) : ∃ r, padS b s = some r ∧ At b r ∧ s.pos ≤ r.pos := by
  have h1 := hs.2
  unfold padS
  rw [if_pos ⟨hs.1, by omega⟩]
  obtain ⟨v, r, h2, _, h3, h4, _⟩ := take_tot hb hl s hs ((8 - s.pos.toNat % 8) % 8) (by omega)
  rw [h2, Option.bind_some]
  refine ⟨_, rfl, ?_, ?_⟩
  · unfold At; rw [(wantS_out _ _ _).2.1]; exact h3
  · rw [(wantS_out _ _ _).2.1]; exact h4
end
end Go.Proofs.Ytcjijhjdkgjgeaa.Glue
namespace Go.Proofs.Ytcjijhjdkgjgeaa.Glue
open Go.RowKit Go.Proofs.Ytcjijhjdkgjgeaa.P Go.Proofs.YtcjijhjdkgjgeaaW.PrintWords Go.Proofs.YtcjijhjdkgjgeaaW.PrintLast Go.Proofs.YtcjijhjdkgjgeaaW.PrintMore
open WP (Row Bytes at_ val)
set_option linter.unusedVariables false
set_option linter.unusedSimpArgs false

theorem tell_pos (n : Int) (s : RSt) (c : Int) : (tellS n s c).pos = s.pos := by
  unfold tellS
  split <;> exact (wantS_out _ _ _).2.1
def lenB (y : Int) : Bool := match sym_LenOf.f 400 y with | some (a, b, c) => c == 0 && decide (3 ≤ a) && decide (a ≤ 258) && decide (0 ≤ b) && decide (b ≤ 5) | none => false
def distB (y : Int) : Bool := match sym_DistOf.f 400 y with | some (a, b, c) => c == 0 && decide (1 ≤ a) && decide (a ≤ 24577) && decide (0 ≤ b) && decide (b ≤ 13) | none => false
theorem lenB_all : ∀ i : Fin 29, lenB (257 + (i.val : Int)) = true := by decide +kernel
theorem distB_all : ∀ i : Fin 30, distB (i.val : Int) = true := by decide +kernel
theorem lenOf_tot (y : Int) : ∃ a b c, sym_LenOf.f 400 y = some (a, b, c) ∧ (c = 0 → 3 ≤ a ∧ a ≤ 258 ∧ 0 ≤ b ∧ b ≤ 5) := by
  by_cases h : 257 ≤ y ∧ y ≤ 285
  · have := lenB_all ⟨(y - 257).toNat, by omega⟩
    rw [show 257 + (((y - 257).toNat : Nat) : Int) = y from by omega] at this
    unfold lenB at this
    match hf : sym_LenOf.f 400 y with
    | none => rw [hf] at this; simp at this
    | some (a, b, c) =>
      rw [hf] at this
      simp only [Bool.and_eq_true, beq_iff_eq, decide_eq_true_iff] at this
      exact ⟨a, b, c, rfl, fun _ => ⟨this.1.1.1.2, this.1.1.2, this.1.2, this.2⟩⟩
  · refine ⟨0, 0, 1, ?_, fun h => by simp at h⟩
    unfold sym_LenOf.f
    by_cases h1 : y < 257
    · rw [if_pos h1]; rfl
    · rw [if_neg h1, decide_eq_true (show y > 285 by omega)]; rfl
theorem distOf_tot (y : Int) : ∃ a b c, sym_DistOf.f 400 y = some (a, b, c) ∧ (c = 0 → 1 ≤ a ∧ a ≤ 24577 ∧ 0 ≤ b ∧ b ≤ 13) := by
  by_cases h : 0 ≤ y ∧ y < 30
  · have := distB_all ⟨y.toNat, by omega⟩
    rw [show ((y.toNat : Nat) : Int) = y from by omega] at this
    unfold distB at this
    match hf : sym_DistOf.f 400 y with
    | none => rw [hf] at this; simp at this
    | some (a, b, c) =>
      rw [hf] at this
      simp only [Bool.and_eq_true, beq_iff_eq, decide_eq_true_iff] at this
      exact ⟨a, b, c, rfl, fun _ => ⟨this.1.1.1.2, this.1.1.2, this.1.2, this.2⟩⟩
  · refine ⟨0, 0, 1, ?_, fun h => by simp at h⟩
    unfold sym_DistOf.f
    by_cases h1 : y < 0
    · rw [if_pos h1]; rfl
    · rw [if_neg h1, decide_eq_true (show y ≥ 30 by omega)]; rfl
/-- How much was told. -/
def Told (n : Int) (s : RSt) : Prop := (s.out.length : Int) ≤ n ∨ s.out.length = 0
theorem copy_tot {n : Int} (hn : n ≤ 4096) {dist : Int} (h1 : 1 ≤ dist) : ∀ (k : Nat) (s : RSt), dist ≤ s.out.length → Told n s → ∃ r, copyL n dist k s = some r ∧ r.pos = s.pos
  | 0, s, _, _ => ⟨s, rfl, rfl⟩
  | k + 1, s, hd, ht => by
    unfold copyL
    have ht' := ht
    unfold Told at ht'
    rw [if_pos ⟨h1, hd, by omega⟩]
    have hlen : s.out.length ≤ (tellS n s (rd s.out ((s.out.length : Int) - dist))).out.length := by
      unfold tellS
      split
      · simp
      · rw [(wantS_out _ _ _).1]; exact Nat.le_refl _
    obtain ⟨r, hr, hp⟩ := copy_tot hn h1 k (tellS n s (rd s.out ((s.out.length : Int) - dist))) (by omega) (tell_len ht)
    exact ⟨r, hr, by rw [hp, tell_pos]⟩
section
variable {b : List Int} (hb : Bytes b) (hl : b.length ≤ 5000) {n : Int} (hn : n ≤ 4096)
include hb hl hn
theorem storedL_tot : ∀ (k : Nat) (s : RSt), At b s → Told n s → ∃ r, storedL b n k s = some r ∧ At b r ∧ s.pos ≤ r.pos
  | 0, s, hs, ht => ⟨s, rfl, hs, Int.le_refl _⟩
  | k + 1, s, hs, ht => by
    unfold storedL
    by_cases h0 : s.er ≠ 0
    · exact ⟨s, by rw [if_pos h0], hs, Int.le_refl _⟩
    · rw [if_neg h0]
      obtain ⟨v, t, h1, h2, h3, h4, _⟩ := take_tot hb hl s hs 8 (by omega)
      rw [show ((8 : Nat) : Int) = 8 from rfl] at h1
      have ho : t.out = s.out := take_out h1
      have ht2 : Told n t := by unfold Told; rw [ho]; exact ht
      have ht3 := ht2
      unfold Told at ht3
      rw [h1, Option.bind_some, if_pos (by show t.out.length ≤ _; omega)]
      obtain ⟨r, hr, h5, h6⟩ := storedL_tot k (tellS n t ((v : Int) % 256)) (by unfold At; rw [tell_pos]; exact h3) (tell_len ht2)
      rw [tell_pos] at h6
      exact ⟨r, hr, h5, by omega⟩
theorem stored_tot (s : RSt) (hs : At b s) (ht : Told n s) : ∃ r, storedS b n s = some r ∧ At b r ∧ s.pos ≤ r.pos := by
  unfold storedS
  obtain ⟨s1, a1, a2, a3⟩ := pad_tot hb hl s hs
  obtain ⟨v1, s2, b1, b2, b3, b4, _⟩ := take_tot hb hl s1 a2 16 (by omega)
  obtain ⟨v2, s3, c1, c2, c3, c4, _⟩ := take_tot hb hl s2 b3 16 (by omega)
  rw [show ((16 : Nat) : Int) = 16 from rfl] at b1 c1
  have ho : s3.out = s.out := by rw [take_out c1, take_out b1, pad_out a1]
  rw [a1, Option.bind_some, b1, Option.bind_some, c1, Option.bind_some]
  dsimp only
  have hat : ∀ q e, At b (wantS s3 q e) := fun q e => by unfold At; rw [(wantS_out _ _ _).2.1]; exact c3
  have hpo : ∀ q e, (wantS s3 q e).pos = s3.pos := fun q e => (wantS_out _ _ _).2.1
  split
  · exact ⟨_, rfl, hat _ _, by rw [hpo]; omega⟩
  · rw [if_pos (by omega)]
    obtain ⟨r, hr, h5, h6⟩ := storedL_tot hb hl hn (v1 : Int).toNat (wantS s3 (Go.bits .xor .i64 (v1 : Int) 65535 == (v2 : Int)) 3) (hat _ _) (by unfold Told; rw [(wantS_out _ _ _).1, ho]; exact ht)
    rw [hpo] at h6
    exact ⟨r, hr, h5, by omega⟩
end
end Go.Proofs.Ytcjijhjdkgjgeaa.Glue
namespace Go.Proofs.Ytcjijhjdkgjgeaa.Glue
open Go.RowKit Go.Proofs.Ytcjijhjdkgjgeaa.P Go.Proofs.YtcjijhjdkgjgeaaW.PrintWords Go.Proofs.YtcjijhjdkgjgeaaW.PrintLast Go.Proofs.YtcjijhjdkgjgeaaW.PrintMore
open WP (Row Bytes at_ val)
set_option linter.unusedVariables false
set_option linter.unusedSimpArgs false

theorem want_er {s : RSt} {is : Bool} {e : Int} (he : e ≠ 0) (h : (wantS s is e).er = 0) : s.er = 0 ∧ is = true := by
  unfold wantS at h
  split at h
  · exact absurd h he
  · rename_i hc
    refine ⟨h, ?_⟩
    cases is with
    | true => rfl
    | false => exact absurd ⟨h, rfl⟩ hc
theorem want_told {n : Int} {s : RSt} {is : Bool} {e : Int} (h : Told n s) : Told n (wantS s is e) := by unfold Told; rw [(wantS_out _ _ _).1]; exact h
theorem want_at {b : List Int} {s : RSt} {is : Bool} {e : Int} (h : At b s) : At b (wantS s is e) := by unfold At; rw [(wantS_out _ _ _).2.1]; exact h
theorem want_pos {s : RSt} {is : Bool} {e : Int} : (wantS s is e).pos = s.pos := (wantS_out _ _ _).2.1
theorem told_of {n : Int} {s r : RSt} (h : Told n s) (ho : r.out = s.out) : Told n r := by unfold Told; rw [ho]; exact h
section
variable {b : List Int} (hb : Bytes b) (hl : b.length ≤ 5000) {n : Int} (hn : n ≤ 4096)
include hb hl hn
theorem pieceD_tot (F : Nat → Int) (S : Nat → List Int) {k : Int} (h0 : 0 ≤ k) (h1 : k ≤ 1000) (s : RSt) (hs : At b s) (ht : Told n s) : ∃ r, pieceD F S b n k s = some r ∧ At b r ∧ s.pos ≤ r.pos := by
  unfold pieceD
  obtain ⟨y, r, a1, a2, a3, _⟩ := sym_tot hb hl F S s hs
  rw [a1, Option.bind_some]
  obtain ⟨d, e, c, b1, b2⟩ := distOf_tot y
  dsimp only
  rw [b1, Option.bind_some]
  dsimp only
  split
  · exact ⟨_, rfl, want_at a2, by rw [want_pos]; exact a3⟩
  · rename_i hc
    have hc' : (wantS r (c == 0) 3).er = 0 := by omega
    have h2 := b2 (by simpa using (want_er (by decide) hc').2)
    obtain ⟨v, t, c1, c2, c3, c4, _⟩ := take_tot hb hl (wantS r (c == 0) 3) (want_at a2) e.toNat (by omega)
    rw [show ((e.toNat : Nat) : Int) = e from by omega] at c1
    have hv : v < 8192 := Nat.lt_of_lt_of_le c2 (by exact Nat.pow_le_pow_right (by decide) (show e.toNat ≤ 13 by omega))
    rw [want_pos] at c4
    rw [c1, Option.bind_some]
    dsimp only
    rw [wrap64_in (by omega) (by omega)]
    have hto : Told n t := told_of ht (by rw [take_out c1, (wantS_out _ _ _).1, sym_out a1])
    unfold pieceG
    split
    · exact ⟨_, rfl, want_at c3, by rw [want_pos]; omega⟩
    · rename_i hg
      have hg' := want_er (by decide) (show (wantS t (decide (d + (v : Int) ≤ t.out.length)) 3).er = 0 by omega)
      unfold pieceH
      split
      · exact ⟨_, rfl, want_at (want_at c3), by rw [want_pos, want_pos]; omega⟩
      · rw [if_pos (by omega)]
        have hdo := of_decide_eq_true hg'.2
        obtain ⟨z, z1, z2⟩ := copy_tot hn (show 1 ≤ d + (v : Int) by omega) k.toNat (wantS (wantS t (decide (d + (v : Int) ≤ t.out.length)) 3) (decide (k ≤ wrap64 (n - (wantS t (decide (d + (v : Int) ≤ t.out.length)) 3).out.length))) 2) (by rw [(wantS_out _ _ _).1, (wantS_out _ _ _).1]; exact hdo) (want_told (want_told hto))
        rw [want_pos, want_pos] at z2
        refine ⟨z, z1, ?_, by omega⟩
        unfold At; rw [z2]; exact c3
theorem piece_tot (F : Nat → Int) (S : Nat → List Int) (s : RSt) (y : Int) (hs : At b s) (ht : Told n s) : ∃ r, pieceS F S b n s y = some r ∧ At b r ∧ s.pos ≤ r.pos := by
  unfold pieceS
  obtain ⟨a, e, c, b1, b2⟩ := lenOf_tot y
  rw [b1, Option.bind_some]
  dsimp only
  split
  · exact ⟨_, rfl, want_at hs, by rw [want_pos]; exact Int.le_refl _⟩
  · rename_i hc
    have hc' : (wantS s (c == 0) 3).er = 0 := by omega
    have h2 := b2 (by simpa using (want_er (by decide) hc').2)
    obtain ⟨v, t, c1, c2, c3, c4, _⟩ := take_tot hb hl (wantS s (c == 0) 3) (want_at hs) e.toNat (by omega)
    rw [show ((e.toNat : Nat) : Int) = e from by omega] at c1
    have hv : v < 32 := Nat.lt_of_lt_of_le c2 (by exact Nat.pow_le_pow_right (by decide) (show e.toNat ≤ 5 by omega))
    rw [want_pos] at c4
    rw [c1, Option.bind_some]
    dsimp only
    rw [wrap64_in (by omega) (by omega)]
    obtain ⟨r, r1, r2, r3⟩ := pieceD_tot hb hl hn F S (k := a + (v : Int)) (by omega) (by omega) t c3 (told_of ht (by rw [take_out c1, (wantS_out _ _ _).1]))
    exact ⟨r, r1, r2, by omega⟩
theorem coded_tot (F1 : Nat → Int) (S1 : Nat → List Int) (F2 : Nat → Int) (S2 : Nat → List Int) : ∀ (k : Nat) (s : RSt), At b s → Told n s → 8 * (b.length : Int) - s.pos < k → ∃ r, codedL F1 S1 F2 S2 b n k s = some r ∧ At b r ∧ s.pos ≤ r.pos
  | 0, s, hs, ht, hk => by have := hs.2; omega
  | k + 1, s, hs, ht, hk => by
    unfold codedL
    by_cases h0 : s.er ≠ 0
    · exact ⟨s, by rw [if_pos h0], hs, Int.le_refl _⟩
    · rw [if_neg h0]
      obtain ⟨y, r, a1, a2, a3, a4⟩ := sym_tot hb hl F1 S1 s hs
      have hr : Told n r := told_of ht (sym_out a1)
      rw [a1, Option.bind_some]
      dsimp only
      split
      · exact ⟨r, rfl, a2, a3⟩
      · rename_i hc
        have h5 := a4 (by omega)
        split
        · have hr' := hr
          unfold Told at hr'
          rw [if_pos (by omega)]
          obtain ⟨z, z1, z2, z3⟩ := coded_tot F1 S1 F2 S2 k (tellS n r (y % 256)) (by unfold At; rw [tell_pos]; exact a2) (tell_len hr) (by rw [tell_pos]; omega)
          rw [tell_pos] at z3
          exact ⟨z, z1, z2, by omega⟩
        · obtain ⟨q, q1, q2, q3⟩ := piece_tot hb hl hn F2 S2 r y a2 hr
          rw [q1, Option.bind_some]
          obtain ⟨z, z1, z2, z3⟩ := coded_tot F1 S1 F2 S2 k q q2 (piece_len q1 hr) (by omega)
          exact ⟨z, z1, z2, by omega⟩
omit hn in
theorem ownL_tot : ∀ (d i : Nat) (o : List Int) (s : RSt), At b s → ∃ q r, ownL b d i o s = some (q, r) ∧ At b r ∧ s.pos ≤ r.pos
  | 0, i, o, s, hs => ⟨o, s, rfl, hs, Int.le_refl _⟩
  | d + 1, i, o, s, hs => by
    unfold ownL
    obtain ⟨v, t, h1, h2, h3, h4, _⟩ := take_tot hb hl s hs 3 (by omega)
    rw [show ((3 : Nat) : Int) = 3 from rfl] at h1
    rw [h1, Option.bind_some]
    dsimp only
    obtain ⟨q, r, r1, r2, r3⟩ := ownL_tot d (i + 1) (o.set (ordL.getD i 0).toNat (v : Int)) t h3
    exact ⟨q, r, r1, r2, by omega⟩
omit hb hl hn in
theorem check_ok {l : List Int} {e : Int} (h : canon_Check.f l = some e) (he : e = 0) : rightB l = true := by
  unfold canon_Check.f at h
  cases hr : rightB l with
  | true => rfl
  | false => rw [hr] at h; injection h with h; simp at h; omega
omit hb hl hn in
theorem check_tot (l : List Int) : ∃ e, canon_Check.f l = some e := ⟨_, rfl⟩
omit hn in
theorem own_tot (s : RSt) (hs : At b s) {m : Int} (h0 : 0 ≤ m) (h1 : m ≤ 19) : ∃ q r, ownS b s m = some (q, r) ∧ At b r ∧ s.pos ≤ r.pos ∧ (r.er = 0 → rightB q = true) := by
  unfold ownS
  rw [if_pos ⟨h0, h1⟩]
  obtain ⟨q, r, r1, r2, r3⟩ := ownL_tot hb hl m.toNat 0 (List.replicate 19 0) s hs
  obtain ⟨e, he⟩ := check_tot q
  rw [r1, Option.bind_some]
  dsimp only
  rw [he, Option.bind_some]
  refine ⟨_, _, rfl, want_at r2, by rw [want_pos]; exact r3, fun h => ?_⟩
  exact check_ok he (by simpa using (want_er (by decide) h).2)
omit hn in
theorem rowL_tot (F : Nat → Int) (S : Nat → List Int) {many : Int} (hm0 : 0 ≤ many) (hm : many ≤ 400) : ∀ (k : Nat) (out : List Int) (s : RSt), At b s → (out.length : Int) ≤ many + 200 → (s.er = 0 → (out.length : Int) ≤ many) → many.toNat - out.length < k → ∃ q r, rowL F S b many k out s = some (q, r) ∧ At b r ∧ s.pos ≤ r.pos ∧ (r.er = 0 → (q.length : Int) = many)
  | 0, out, s, hs, _, _, hk => absurd hk (Nat.not_lt_zero _)
  | k + 1, out, s, hs, h1, h2, hk => by
    have part : ∀ (v c : Int) (t : RSt), At b t → 1 ≤ c → c ≤ 200 → (out.length : Int) < many → ∃ q r, rowP many (rowL F S b many k) out v c t = some (q, r) ∧ At b r ∧ t.pos ≤ r.pos ∧ (r.er = 0 → (q.length : Int) = many) := by
      intro v c t ht hc hc2 hlt
      unfold rowP
      rw [if_pos ⟨by omega, by omega, by omega⟩, wrap64_in (by omega) (by omega)]
      have hlen : (out ++ List.replicate c.toNat v).length = out.length + c.toNat := by rw [List.length_append, List.length_replicate]
      obtain ⟨q, r, r1, r2, r3, r4⟩ := rowL_tot F S hm0 hm k (out ++ List.replicate c.toNat v) (wantS t (decide (c ≤ many - out.length)) 3) (want_at ht) (by rw [hlen]; omega) (fun h => by
        have := of_decide_eq_true (want_er (by decide) h).2
        rw [hlen]; omega) (by rw [hlen]; omega)
      rw [want_pos] at r3
      exact ⟨q, r, r1, r2, r3, r4⟩
    unfold rowL
    by_cases hc : (out.length : Int) < many ∧ s.er = 0
    · rw [if_pos hc]
      obtain ⟨y, r, a1, a2, a3, a4⟩ := sym_tot hb hl F S s hs
      rw [a1, Option.bind_some]
      dsimp only
      split
      · split
        · rename_i hw
          exact ⟨_, _, rfl, want_at a2, by rw [want_pos]; exact a3, fun h => absurd h hw⟩
        · rename_i hw
          have hw' := of_decide_eq_true (want_er (by decide) (show (wantS r (decide (0 < out.length)) 3).er = 0 by omega)).2
          rw [if_pos ⟨hw', by omega⟩]
          obtain ⟨v, t, c1, c2, c3, c4, _⟩ := take_tot hb hl (wantS r (decide (0 < out.length)) 3) (want_at a2) 2 (by omega)
          rw [show ((2 : Nat) : Int) = 2 from rfl] at c1
          rw [c1, Option.bind_some]
          dsimp only
          rw [want_pos] at c4
          rw [wrap64_in (a := 3 + (v : Int)) (by omega) (by omega)]
          obtain ⟨q, z, z1, z2, z3, z4⟩ := part (rd out ((out.length : Int) - 1)) (3 + (v : Int)) t c3 (by omega) (by omega) hc.1
          exact ⟨q, z, z1, z2, by omega, z4⟩
      · split
        · obtain ⟨v, t, c1, c2, c3, c4, _⟩ := take_tot hb hl r a2 3 (by omega)
          rw [show ((3 : Nat) : Int) = 3 from rfl] at c1
          rw [c1, Option.bind_some]
          dsimp only
          rw [wrap64_in (a := 3 + (v : Int)) (by omega) (by omega)]
          obtain ⟨q, z, z1, z2, z3, z4⟩ := part 0 (3 + (v : Int)) t c3 (by omega) (by omega) hc.1
          exact ⟨q, z, z1, z2, by omega, z4⟩
        · split
          · obtain ⟨v, t, c1, c2, c3, c4, _⟩ := take_tot hb hl r a2 7 (by omega)
            rw [show ((7 : Nat) : Int) = 7 from rfl] at c1
            rw [c1, Option.bind_some]
            dsimp only
            rw [wrap64_in (a := 11 + (v : Int)) (by omega) (by omega)]
            obtain ⟨q, z, z1, z2, z3, z4⟩ := part 0 (11 + (v : Int)) t c3 (by omega) (by omega) hc.1
            exact ⟨q, z, z1, z2, by omega, z4⟩
          · obtain ⟨q, z, z1, z2, z3, z4⟩ := part y 1 r a2 (by omega) (by omega) hc.1
            exact ⟨q, z, z1, z2, by omega, z4⟩
    · rw [if_neg hc]
      exact ⟨_, _, rfl, hs, Int.le_refl _, fun h => by have := h2 h; omega⟩
theorem dynC_tot {M : Nat} (hM : 40000 < M) (row : List Int) {nl : Int} (s : RSt) (hs : At b s) (ht : Told n s) (hg : s.er = 0 → 257 ≤ nl ∧ nl ≤ row.length ∧ row.length ≤ 1000) : ∃ r, dynC b n M row nl s = some r ∧ At b r ∧ s.pos ≤ r.pos := by
  unfold dynC
  split
  · exact ⟨_, rfl, hs, Int.le_refl _⟩
  · rw [if_pos (hg (by omega))]
    obtain ⟨e1, h1⟩ := check_tot (row.take nl.toNat)
    obtain ⟨e2, h2⟩ := check_tot (row.drop nl.toNat)
    rw [h1, Option.bind_some, h2, Option.bind_some]
    split
    · exact ⟨_, rfl, want_at hs, by rw [want_pos]; exact Int.le_refl _⟩
    · have := hs.1
      obtain ⟨r, r1, r2, r3⟩ := coded_tot hb hl hn _ _ _ _ M (wantS s ((e1 == 0) && (e2 == 0) && decide (0 < rd (row.take nl.toNat) 256)) 3) (want_at hs) (want_told ht) (by rw [want_pos]; omega)
      rw [want_pos] at r3
      exact ⟨r, r1, r2, r3⟩
theorem dyn_tot {N M : Nat} (hN : 400 ≤ N) (hM : 40000 < M) (s : RSt) (hs : At b s) (ht : Told n s) : ∃ r, dynS b n N M s = some r ∧ At b r ∧ s.pos ≤ r.pos := by
  unfold dynS
  obtain ⟨v1, s1, a1, a2, a3, a4, _⟩ := take_tot hb hl s hs 5 (by omega)
  rw [show ((5 : Nat) : Int) = 5 from rfl] at a1
  rw [a1, Option.bind_some]
  dsimp only
  obtain ⟨v2, s2, b1, b2, b3, b4, _⟩ := take_tot hb hl s1 a3 5 (by omega)
  rw [show ((5 : Nat) : Int) = 5 from rfl] at b1
  rw [b1, Option.bind_some]
  dsimp only
  obtain ⟨v3, s3, c1, c2, c3, c4, _⟩ := take_tot hb hl s2 b3 4 (by omega)
  rw [show ((4 : Nat) : Int) = 4 from rfl] at c1
  rw [c1, Option.bind_some]
  dsimp only
  rw [wrap64_in (a := 257 + (v1 : Int)) (by omega) (by omega), wrap64_in (a := 1 + (v2 : Int)) (by omega) (by omega), wrap64_in (a := 4 + (v3 : Int)) (by omega) (by omega)]
  have hto : Told n s3 := told_of ht (by rw [take_out c1, take_out b1, take_out a1])
  unfold dynA
  split
  · exact ⟨_, rfl, want_at c3, by rw [want_pos]; omega⟩
  · rename_i h0
    have h0' := (want_er (by decide) (show (wantS s3 (decide (257 + (v1 : Int) ≤ 286) && decide (1 + (v2 : Int) ≤ 30)) 3).er = 0 by omega)).2
    simp only [Bool.and_eq_true, decide_eq_true_iff] at h0'
    obtain ⟨q, r, d1, d2, d3, d4⟩ := own_tot hb hl (wantS s3 (decide (257 + (v1 : Int) ≤ 286) && decide (1 + (v2 : Int) ≤ 30)) 3) (want_at c3) (m := 4 + (v3 : Int)) (by omega) (by omega)
    rw [want_pos] at d3
    rw [d1, Option.bind_some]
    dsimp only
    unfold dynB
    split
    · exact ⟨_, rfl, d2, by omega⟩
    · rw [if_pos (d4 (by omega)), wrap64_in (by omega) (by omega)]
      obtain ⟨o, z, e1, e2, e3, e4⟩ := rowL_tot hb hl (fun n => (openF q n : Int)) (symsTo q q.length) (many := 257 + (v1 : Int) + (1 + (v2 : Int))) (by omega) (by omega) N [] r d2 (by rw [List.length_nil]; omega) (fun _ => by rw [List.length_nil]; omega) (by rw [List.length_nil]; omega)
      rw [e1, Option.bind_some]
      dsimp only
      obtain ⟨w, w1, w2, w3⟩ := dynC_tot hb hl hn hM o (nl := 257 + (v1 : Int)) z e2 (told_of hto (by have h9 := row_out _ _ _ _ e1; have h8 := own_out d1; dsimp only at h8 h9; rw [h9, h8, (wantS_out _ _ _).1])) (fun h => by have := e4 h; omega)
      exact ⟨w, w1, w2, by omega⟩
omit hb hl hn in
theorem fixed_right : (sym_Fixed.f 1000).map (fun f => rightB f.1 && rightB f.2) = some true := by kernel_rfl
theorem fixed_tot {M : Nat} (hM : 40000 < M) (s : RSt) (hs : At b s) (ht : Told n s) : ∃ r, fixedS b n M s = some r ∧ At b r ∧ s.pos ≤ r.pos := by
  unfold fixedS
  obtain ⟨f, h1, h2⟩ := Option.map_eq_some_iff.1 fixed_right
  rw [Bool.and_eq_true] at h2
  rw [h1, Option.bind_some, if_pos h2]
  have := hs.1
  exact coded_tot hb hl hn _ _ _ _ M s hs ht (by omega)
theorem block_tot {N M : Nat} (hN : 400 ≤ N) (hM : 40000 < M) (kind : Int) (s : RSt) (hs : At b s) (ht : Told n s) : ∃ r, blockS b n N M kind s = some r ∧ At b r ∧ s.pos ≤ r.pos := by
  unfold blockS
  split
  · exact stored_tot hb hl hn s hs ht
  · split
    · exact fixed_tot hb hl hn hM s hs ht
    · split
      · exact dyn_tot hb hl hn hN hM s hs ht
      · exact ⟨_, rfl, want_at hs, by rw [want_pos]; exact Int.le_refl _⟩
theorem stream_tot {N M : Nat} (hN : 400 ≤ N) (hM : 40000 < M) : ∀ (k : Nat) (last : Int) (s : RSt), At b s → Told n s → 8 * (b.length : Int) - s.pos < k → ∃ r, streamL b n N M k last s = some r ∧ At b r
  | 0, last, s, hs, ht, hk => by have := hs.2; omega
  | k + 1, last, s, hs, ht, hk => by
    unfold streamL
    split
    · obtain ⟨v1, s1, a1, a2, a3, a4, a5⟩ := take_tot hb hl s hs 1 (by omega)
      rw [show ((1 : Nat) : Int) = 1 from rfl] at a1
      rw [a1, Option.bind_some]
      dsimp only
      obtain ⟨v2, s2, b1, b2, b3, b4, b5⟩ := take_tot hb hl s1 a3 2 (by omega)
      rw [show ((2 : Nat) : Int) = 2 from rfl] at b1
      rw [b1, Option.bind_some]
      dsimp only
      have hto : Told n s2 := told_of ht (by rw [take_out b1, take_out a1])
      split
      · exact ⟨_, rfl, b3⟩
      · have h5 := b5 (by omega)
        obtain ⟨r, r1, r2, r3⟩ := block_tot hb hl hn hN hM (v2 : Int) s2 b3 hto
        rw [r1, Option.bind_some]
        exact stream_tot hN hM k _ { r with bl := wrap64 (r.bl + 1) } r2 (by unfold Told; exact block_len (s := s2) (r := r) r1 hto) (by show 8 * (b.length : Int) - r.pos < k; omega)
    · exact ⟨_, rfl, hs⟩
end
theorem run_tot {b : List Int} (hb : Bytes b) (n : Int) : ∃ r, runS b n = some r := by
  unfold runS
  split
  · exact ⟨_, rfl⟩
  · split
    · exact ⟨_, rfl⟩
    · have hl : b.length ≤ 5000 := by omega
      have h0 : At b startS := ⟨Int.le_refl _, by show (0 : Int) ≤ _; omega⟩
      unfold streamS
      obtain ⟨r, r1, r2⟩ := stream_tot hb hl (n := n) (by omega) (N := 400) (M := 50000) (by omega) (by omega) 50000 0 startS h0 (Or.inr rfl) (by show 8 * (b.length : Int) - 0 < _; omega)
      rw [r1, Option.bind_some]
      split
      · exact ⟨_, rfl⟩
      · obtain ⟨t, t1, _⟩ := pad_tot hb hl r r2
        rw [t1, Option.bind_some]
        exact ⟨_, rfl⟩
end Go.Proofs.Ytcjijhjdkgjgeaa.Glue
