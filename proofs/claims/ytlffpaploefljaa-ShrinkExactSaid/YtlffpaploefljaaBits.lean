/- Plain laws on rows of bits, told as numbers, on what is written one behind the other, and what pens answer by them; used by the claims of this seat. -/
import Derived.Test.YtlffpaploefljaaWMore
import Derived.Test.YtlffpaploefljaaPx0
import Derived.Laws.BitsLemmas
import Derived.Test.YtlffpaploefljaaPx5
/- Plain laws on rows of bits, told as numbers: no program in sight. -/
namespace WP

/-- The number whose digits, the lowest first, are these bytes. -/
def val : List Int → Nat
  | [] => 0
  | x :: xs => x.toNat + 256 * val xs
def Bytes (B : List Int) : Prop := ∀ x ∈ B, 0 ≤ x ∧ x < 256
theorem Bytes.nil : Bytes [] := fun _ h => by cases h
theorem Bytes.cons {x : Int} {xs : List Int} (h : Bytes (x :: xs)) : (0 ≤ x ∧ x < 256) ∧ Bytes xs := ⟨h x List.mem_cons_self, fun y hy => h y (List.mem_cons_of_mem _ hy)⟩
theorem Bytes.append {a b : List Int} (ha : Bytes a) (hb : Bytes b) : Bytes (a ++ b) := fun x hx => (List.mem_append.1 hx).elim (ha x) (hb x)
theorem Bytes.left {a b : List Int} (h : Bytes (a ++ b)) : Bytes a := fun x hx => h x (List.mem_append_left _ hx)
theorem Bytes.right {a b : List Int} (h : Bytes (a ++ b)) : Bytes b := fun x hx => h x (List.mem_append_right _ hx)
theorem Bytes.get {B : List Int} (h : Bytes B) (i : Nat) : 0 ≤ B.getD i 0 ∧ B.getD i 0 < 256 := by
  rw [List.getD_eq_getElem?_getD]
  rcases Nat.lt_or_ge i B.length with hi | hi
  · rw [List.getElem?_eq_getElem hi]; exact h _ (List.getElem_mem hi)
  · rw [List.getElem?_eq_none hi]; decide
theorem val_append (a b : List Int) : val (a ++ b) = val a + 256 ^ a.length * val b := by
  induction a with
  | nil => simp [val]
  | cons x xs ih => simp only [List.cons_append, val, ih, List.length_cons, Nat.pow_succ, Nat.mul_add]; rw [show 256 * (256 ^ xs.length * val b) = 256 ^ xs.length * 256 * val b from by rw [Nat.mul_comm (256 ^ xs.length) 256, Nat.mul_assoc]]; omega
theorem val_inj {a b : List Int} (ha : Bytes a) (hb : Bytes b) (hl : a.length = b.length) (h : val a = val b) : a = b := by
  induction a generalizing b with
  | nil => cases b with
    | nil => rfl
    | cons y ys => simp at hl
  | cons x xs ih =>
    cases b with
    | nil => simp at hl
    | cons y ys =>
      obtain ⟨x0, hx⟩ := ha.cons
      obtain ⟨y0, hy⟩ := hb.cons
      simp only [val] at h
      have e1 : x.toNat = y.toNat := by omega
      have e2 : val xs = val ys := by omega
      rw [ih hx hy (by simpa using hl) e2, show x = y from by omega]
theorem val_get {B : List Int} (h : Bytes B) (j : Nat) : (B.getD j 0).toNat = val B / 256 ^ j % 256 := by
  induction B generalizing j with
  | nil => simp [val]
  | cons x xs ih =>
    obtain ⟨x0, hx⟩ := h.cons
    cases j with
    | zero => simp only [List.getD_cons_zero, val, Nat.pow_zero, Nat.div_one]; omega
    | succ j =>
      rw [List.getD_cons_succ, ih hx j]
      simp only [val]
      rw [Nat.pow_succ, Nat.mul_comm (256 ^ j) 256, ← Nat.div_div_eq_div_mul]
      congr 2
      omega
theorem pow256 (j : Nat) : 256 ^ j = 2 ^ (8 * j) := by rw [show 256 = 2 ^ 8 from rfl, ← Nat.pow_mul]
theorem val_set {B : List Int} {j : Nat} (hj : j < B.length) (x : Int) : val (B.set j x) + 256 ^ j * (B.getD j 0).toNat = val B + 256 ^ j * x.toNat := by
  induction B generalizing j with
  | nil => simp at hj
  | cons y ys ih =>
    cases j with
    | zero => simp only [List.set_cons_zero, val, List.getD_cons_zero, Nat.pow_zero]; omega
    | succ j =>
      have := ih (j := j) (by simpa using hj)
      simp only [List.set_cons_succ, val, List.getD_cons_succ, Nat.pow_succ]
      rw [Nat.mul_comm (256 ^ j) 256, Nat.mul_assoc, Nat.mul_assoc]
      omega

/-- A right row of N bits: X is the number that they make, the lowest first. -/
structure Row (B : List Int) (N X : Nat) : Prop where
  bytes : Bytes B
  len : B.length = (N + 7) / 8
  val : val B = X
  lt : X < 2 ^ N
theorem Row.empty : Row [] 0 0 := ⟨Bytes.nil, rfl, rfl, by decide⟩
theorem Row.inj {B B' : List Int} {N X : Nat} (h : Row B N X) (h' : Row B' N X) : B = B' := val_inj h.bytes h'.bytes (h.len.trans h'.len.symm) (h.val.trans h'.val.symm)
theorem two_pow_split (N : Nat) : 2 ^ N = 256 ^ (N / 8) * 2 ^ (N % 8) := by rw [pow256, ← Nat.pow_add]; congr 1; omega
/-- One bit behind a right row. B' is B, or B and a 0 where a byte begins. -/
theorem Row.bit {B B' : List Int} {N X : Nat} (h : Row B N X) (b : Nat) (hb : b < 2) (y : Int) (hB : B' = if N % 8 = 0 then B ++ [0] else B) (hy : y = ((B'.getD (B'.length - 1) 0).toNat + b * 2 ^ (N % 8) : Nat)) :
    B'.length - 1 = N / 8 ∧ 0 < B'.length ∧ (B'.getD (B'.length - 1) 0).toNat < 2 ^ (N % 8) ∧ (B'.length = (N + 8) / 8) ∧ Row (B'.set (B'.length - 1) y) (N + 1) (X + b * 2 ^ N) := by
  have hlen : B'.length = (N + 8) / 8 := by
    rw [hB]
    have := h.len
    split <;> simp <;> omega
  have hbytes : Bytes B' := by
    rw [hB]
    split
    · exact h.bytes.append (fun x hx => by rw [List.mem_singleton.1 hx]; decide)
    · exact h.bytes
  have hval : WP.val B' = X := by
    rw [hB, ← h.val]
    split
    · rw [val_append]; simp [WP.val]
    · rfl
  have hj : B'.length - 1 = N / 8 := by omega
  have hlt : (B'.getD (N / 8) 0).toNat < 2 ^ (N % 8) := by
    rw [val_get hbytes, hval]
    have h1 : X / 256 ^ (N / 8) < 2 ^ (N % 8) := by
      rw [Nat.div_lt_iff_lt_mul (Nat.pow_pos (by decide)), Nat.mul_comm, ← two_pow_split]; exact h.lt
    exact Nat.lt_of_le_of_lt (Nat.mod_le _ _) h1
  have hp8 : 2 ^ (N % 8) ≤ 128 := by
    have hr : N % 8 < 8 := Nat.mod_lt _ (by decide)
    have := Nat.pow_le_pow_right (n := 2) (by decide) (show N % 8 ≤ 7 by omega)
    simpa using this
  have hbm : b * 2 ^ (N % 8) ≤ 2 ^ (N % 8) := by
    have := Nat.mul_le_mul_right (2 ^ (N % 8)) (show b ≤ 1 by omega)
    simpa using this
  rw [hj] at hy ⊢
  refine ⟨rfl, by omega, hlt, hlen, ⟨?_, ?_, ?_, ?_⟩⟩
  · intro x hx
    rcases List.mem_or_eq_of_mem_set hx with hx | rfl
    · exact hbytes x hx
    · rw [hy]; omega
  · rw [List.length_set]; omega
  · have e := val_set (B := B') (j := N / 8) (by omega) y
    rw [hval] at e
    have hy' : y.toNat = (B'.getD (N / 8) 0).toNat + b * 2 ^ (N % 8) := by rw [hy]; rfl
    rw [hy', Nat.mul_add] at e
    have e2 : b * 2 ^ N = 256 ^ (N / 8) * (b * 2 ^ (N % 8)) := by rw [two_pow_split N]; rw [Nat.mul_left_comm]
    rw [e2]
    omega
  · have hX := h.lt
    have : b * 2 ^ N ≤ 2 ^ N := by
      have := Nat.mul_le_mul_right (2 ^ N) (show b ≤ 1 by omega)
      simpa using this
    rw [Nat.pow_succ]; omega
/-- What stands at a place. -/
def at_ (X at' n : Nat) : Nat := X / 2 ^ at' % 2 ^ n
theorem at_add (X a n k : Nat) : at_ X a (n + k) = at_ X a n + at_ X (a + n) k * 2 ^ n := by
  unfold at_
  rw [Nat.pow_add 2 n k, Nat.mod_mul, Nat.div_div_eq_div_mul, ← Nat.pow_add, Nat.mul_comm (2 ^ n) (X / _ % _)]
theorem at_high (X V N n : Nat) (h : X < 2 ^ N) : at_ (X + V * 2 ^ N) N n = V % 2 ^ n := by
  unfold at_
  rw [Nat.add_mul_div_right _ _ (Nat.two_pow_pos N), Nat.div_eq_of_lt h, Nat.zero_add]
/-- The n lowest bits the other way round. -/
def rev : Nat → Nat → Nat
  | 0, _ => 0
  | n + 1, v => rev n v * 2 + v / 2 ^ n % 2
theorem rev_lt (n v : Nat) : rev n v < 2 ^ n := by
  induction n with
  | zero => exact Nat.one_pos
  | succ n ih => simp only [rev, Nat.pow_succ]; have := Nat.mod_lt (v / 2 ^ n) (show 0 < 2 by decide); omega
theorem Row.fill {B : List Int} {N X : Nat} (h : Row B N X) : Row B (8 * B.length) X :=
  ⟨h.bytes, by omega, h.val, Nat.lt_of_lt_of_le h.lt (Nat.pow_le_pow_right (by decide) (by have := h.len; omega))⟩
theorem Row.byte {B : List Int} {X : Nat} {x : Int} (h : Row B (8 * B.length) X) (h0 : 0 ≤ x) (h1 : x < 256) : Row (B ++ [x]) (8 * B.length + 8) (X + x.toNat * 2 ^ (8 * B.length)) := by
  refine ⟨h.bytes.append (fun y hy => by rw [List.mem_singleton.1 hy]; exact ⟨h0, h1⟩), ?_, ?_, ?_⟩
  · simp; omega
  · rw [val_append, h.val, pow256]; simp [WP.val, Nat.mul_comm]
  · have := h.lt
    rw [Nat.pow_add]
    have hx : x.toNat + 1 ≤ 2 ^ 8 := by omega
    have := Nat.mul_le_mul_right (2 ^ (8 * B.length)) hx
    rw [Nat.add_mul, Nat.mul_comm (2 ^ 8)] at this
    omega
end WP
/- Plain laws on numbers that are written one behind the other, each in its own count of bits: no program in sight. -/
namespace WP
/-- How many bits these are. -/
def wN : List (Nat × Nat) → Nat
  | [] => 0
  | p :: l => p.2 + wN l
/-- The number that they make, the first one lowest. -/
def wX : List (Nat × Nat) → Nat
  | [] => 0
  | p :: l => p.1 % 2 ^ p.2 + 2 ^ p.2 * wX l
theorem wN_append (a b : List (Nat × Nat)) : wN (a ++ b) = wN a + wN b := by
  induction a with
  | nil => simp [wN]
  | cons p a ih => simp only [List.cons_append, wN, ih]; omega
theorem wX_append (a b : List (Nat × Nat)) : wX (a ++ b) = wX a + 2 ^ wN a * wX b := by
  induction a with
  | nil => simp [wN, wX]
  | cons p a ih => simp only [List.cons_append, wN, wX, ih, Nat.mul_add, Nat.pow_add]; rw [Nat.mul_assoc]; omega
theorem wX_lt (a : List (Nat × Nat)) : wX a < 2 ^ wN a := by
  induction a with
  | nil => simp [wN, wX]
  | cons p a ih =>
    simp only [wN, wX, Nat.pow_add]
    have h1 : p.1 % 2 ^ p.2 < 2 ^ p.2 := Nat.mod_lt _ (Nat.two_pow_pos _)
    have h2 : 2 ^ p.2 * (wX a + 1) ≤ 2 ^ p.2 * 2 ^ wN a := Nat.mul_le_mul_left _ ih
    rw [Nat.mul_add, Nat.mul_one] at h2
    omega
theorem wX_snoc (a : List (Nat × Nat)) (v n : Nat) : wX (a ++ [(v, n)]) = wX a + v % 2 ^ n * 2 ^ wN a := by
  rw [wX_append]; simp only [wX, Nat.mul_zero, Nat.add_zero]; rw [Nat.mul_comm]
theorem wN_snoc (a : List (Nat × Nat)) (v n : Nat) : wN (a ++ [(v, n)]) = wN a + n := by
  rw [wN_append]; simp [wN]
/-- What stands behind the ones ahead. -/
theorem wX_at (a : List (Nat × Nat)) (v n : Nat) (b : List (Nat × Nat)) : at_ (wX (a ++ (v, n) :: b)) (wN a) n = v % 2 ^ n := by
  rw [wX_append, Nat.mul_comm, at_high _ _ _ _ (wX_lt a)]
  simp only [wX]
  rw [Nat.add_mul_mod_self_left, Nat.mod_mod]
theorem wX_at_lt (a : List (Nat × Nat)) (v n : Nat) (b : List (Nat × Nat)) (h : v < 2 ^ n) : at_ (wX (a ++ (v, n) :: b)) (wN a) n = v := by
  rw [wX_at, Nat.mod_eq_of_lt h]
/-- A row of bytes that just these make. -/
def Wrote (B : List Int) (l : List (Nat × Nat)) : Prop := Row B (wN l) (wX l)
theorem Wrote.nil : Wrote [] [] := Row.empty
theorem Wrote.inj {B B' : List Int} {l : List (Nat × Nat)} (h : Wrote B l) (h' : Wrote B' l) : B = B' := Row.inj h h'
theorem Wrote.bytes {B : List Int} {l : List (Nat × Nat)} (h : Wrote B l) : Bytes B := Row.bytes h
theorem Wrote.len {B : List Int} {l : List (Nat × Nat)} (h : Wrote B l) : B.length = (wN l + 7) / 8 := Row.len h
theorem Wrote.at {B : List Int} {a b : List (Nat × Nat)} {v n : Nat} (h : Wrote B (a ++ (v, n) :: b)) (hv : v < 2 ^ n) : at_ (val B) (wN a) n = v := by
  rw [Row.val h]; exact wX_at_lt a v n b hv
end WP
namespace Go.Proofs.Ytlffpaploefljaa.Glue
open Go.RowKit Go.Proofs.YtlffpaploefljaaW.PrintWords Go.Proofs.YtlffpaploefljaaW.PrintLast Go.Proofs.YtlffpaploefljaaW.PrintMore

theorem wrap64_in {a : Int} (h0 : -9223372036854775808 ≤ a) (h1 : a < 9223372036854775808) : wrap64 a = a := by unfold wrap64; omega
theorem wrap_u64 (a : Int) : IntKind.u64.wrap a = a % 18446744073709551616 := by simp [IntKind.wrap, IntKind.signed, IntKind.bits]
theorem u64_in {a : Int} (h0 : 0 ≤ a) (h1 : a < 9223372036854775808) : IntKind.u64.wrap a = a := by rw [wrap_u64]; omega
theorem wrap_i64 (a : Int) : IntKind.i64.wrap a = wrap64 a := by
  rw [IntKind.wrap_i64]; unfold wrap64; rfl
theorem i64_wraps (n : Int) (h0 : 0 ≤ n) (h1 : n < 2 ^ 63) : IntKind.i64.wrap n = n := by rw [IntKind.wrap_i64]; omega
theorem and_nat {a b : Nat} (ha : a < 2 ^ 63) (hb : b < 2 ^ 63) : Go.bits .and .i64 (a : Int) (b : Int) = ((a &&& b : Nat) : Int) := (bits_nat .i64 63 (by decide) i64_wraps a b ha hb).1
theorem or_nat {a b : Nat} (ha : a < 2 ^ 63) (hb : b < 2 ^ 63) : Go.bits .or .i64 (a : Int) (b : Int) = ((a ||| b : Nat) : Int) := (bits_nat .i64 63 (by decide) i64_wraps a b ha hb).2
theorem or_u8 {a b : Nat} (ha : a < 2 ^ 8) (hb : b < 2 ^ 8) : Go.bits .or .u8 (a : Int) (b : Int) = ((a ||| b : Nat) : Int) := (bits_nat .u8 8 (by decide) wraps_u8 a b ha hb).2
theorem or_add {a b i : Nat} (hb : b < 2 ^ i) : b ||| a * 2 ^ i = b + a * 2 ^ i := by
  rw [Nat.or_comm, Nat.mul_comm a, ← Nat.two_pow_add_eq_or_of_lt hb a, Nat.add_comm]
theorem shr_nat {K : IntKind} {x k : Nat} (hk : k ≤ K.bits) : shr K (x : Int) (k : Int) = ((x / 2 ^ k : Nat) : Int) := by
  unfold shr
  rw [Int.toNat_natCast, Nat.min_eq_left hk]
  simp
theorem and_one (a : Nat) (ha : a < 2 ^ 63) : Go.bits .and .i64 (a : Int) 1 = ((a % 2 : Nat) : Int) := by
  have := and_nat ha (b := 1) (by decide)
  rw [show ((1 : Nat) : Int) = 1 from rfl] at this
  rw [this, Nat.and_one_is_mod]
theorem wf_u8 {x : Int} (h : (Lit.int .u8 x).wf = true) : 0 ≤ x ∧ x < 256 := by
  simp [Lit.wf, IntKind.min, IntKind.max, IntKind.signed, IntKind.bits] at h; omega
theorem bytes_of {l : List Int} (h : ∀ x ∈ l, (Lit.int .u8 x).wf = true) : WP.Bytes l := fun x hx => wf_u8 (h x hx)
theorem rd_nat (l : List Int) (i : Nat) : rd l (i : Int) = l.getD i 0 := by unfold rd; rw [Int.toNat_natCast]
end Go.Proofs.Ytlffpaploefljaa.Glue
namespace Go.Proofs.Ytlffpaploefljaa.Glue
open Go.RowKit Go.Proofs.Ytlffpaploefljaa.P Go.Proofs.YtlffpaploefljaaW.PrintWords Go.Proofs.YtlffpaploefljaaW.PrintLast Go.Proofs.YtlffpaploefljaaW.PrintMore
open WP (Row Bytes at_ val)

theorem toNat_pow (v i : Nat) : ((v : Int) / 2 ^ i) = ((v / 2 ^ i : Nat) : Int) := by simp
theorem pbit_is (v i : Nat) (hv : v < 2 ^ 62) : pbit (v : Int) i = ((v / 2 ^ i % 2 : Nat) : Int) := by
  unfold pbit
  rw [toNat_pow, and_one _ (Nat.lt_of_le_of_lt (Nat.div_le_self _ _) (Nat.lt_of_lt_of_le hv (by decide)))]
  omega
theorem step_row {B : List Int} {N X b : Nat} (h : Row B N X) (hb : b < 2) : Row (pset (pgrow B N) N (b : Int)) (N + 1) (X + b * 2 ^ N) := by
  obtain ⟨h0, h1, h2, h3, h4⟩ := h.bit (B' := pgrow B N) b hb (((pgrow B N).getD ((pgrow B N).length - 1) 0).toNat + b * 2 ^ (N % 8) : Nat) rfl rfl
  have hp8 : 2 ^ (N % 8) ≤ 128 := by
    have hr : N % 8 < 8 := Nat.mod_lt _ (by decide)
    have := Nat.pow_le_pow_right (n := 2) (by decide) (show N % 8 ≤ 7 by omega)
    simpa using this
  have hbm : b * 2 ^ (N % 8) ≤ 2 ^ (N % 8) := by
    have := Nat.mul_le_mul_right (2 ^ (N % 8)) (show b ≤ 1 by omega)
    simpa using this
  unfold pset
  have hbytes : Bytes (pgrow B N) := by
    unfold pgrow
    split
    · exact h.bytes.append (fun x hx => by rw [List.mem_singleton.1 hx]; decide)
    · exact h.bytes
  have hg := (hbytes.get ((pgrow B N).length - 1)).1
  generalize hx : (pgrow B N).getD ((pgrow B N).length - 1) 0 = x at *
  have e : Go.bits .or .u8 x ((b : Int) * 2 ^ (N % 8) % 256) = ((x.toNat + b * 2 ^ (N % 8) : Nat) : Int) := by
    obtain ⟨y, rfl⟩ := Int.eq_ofNat_of_zero_le hg
    rw [show (b : Int) * 2 ^ (N % 8) % 256 = ((b * 2 ^ (N % 8) : Nat) : Int) from by
      have e1 : (b : Int) * 2 ^ (N % 8) = ((b * 2 ^ (N % 8) : Nat) : Int) := by simp
      rw [e1]; omega]
    rw [Int.toNat_natCast] at h2 ⊢
    rw [or_u8 (by omega) (by omega), or_add h2]
  rw [e]
  exact h4
theorem padd_row (v : Nat) (hv : v < 2 ^ 62) : ∀ (n i N X : Nat) (B : List Int), Row B N X → Row (padd (v : Int) n i B N) (N + n) (X + at_ v i n * 2 ^ N) := by
  intro n
  induction n with
  | zero => intro i N X B h; simpa [padd, at_, Nat.mod_one] using h
  | succ n ih =>
    intro i N X B h
    have h1 := step_row h (Nat.mod_lt (v / 2 ^ i) (by decide) : v / 2 ^ i % 2 < 2)
    rw [← pbit_is v i hv] at h1
    have h2 := ih (i + 1) _ _ _ h1
    simp only [padd]
    have e : X + v / 2 ^ i % 2 * 2 ^ N + at_ v (i + 1) n * 2 ^ (N + 1) = X + at_ v i (n + 1) * 2 ^ N := by
      have := WP.at_add v i 1 n
      rw [Nat.add_comm 1 n] at this
      rw [this, show at_ v i 1 = v / 2 ^ i % 2 from rfl, Nat.add_mul, Nat.pow_succ]
      rw [show at_ v (i + 1) n * 2 ^ 1 * 2 ^ N = at_ v (i + 1) n * (2 ^ N * 2) from by rw [Nat.mul_assoc, Nat.mul_comm (2 ^ 1)]]
      omega
    rw [e, show N + 1 + n = N + (n + 1) from by omega] at h2
    exact h2
theorem may_is {v n : Nat} (hn : n ≤ 24) : bits_may.f (v : Int) (n : Int) = some (decide (v < 2 ^ n)) := by
  unfold bits_may.f
  rw [if_pos (by omega), if_pos (by omega), if_pos (by omega), u64_in (by omega) (by omega), if_pos (by omega), shr_nat (by simp [IntKind.bits]; omega)]
  congr 1
  rw [Bool.eq_iff_iff, beq_iff_eq, decide_eq_true_iff]
  constructor
  · intro h; have h' : v / 2 ^ n = 0 := by exact_mod_cast h
    rw [Nat.div_eq_zero_iff] at h'
    have := Nat.two_pow_pos n
    omega
  · intro h; rw [Nat.div_eq_of_lt h]; rfl
theorem turn_loop (v n : Nat) (hn : n ≤ 24) (hv : v < 2 ^ n) : ∀ (d i k : Nat), i + d = n → d < k → bits_Turn.l0 k (v : Int) (WP.rev i v : Int) (n : Int) (i : Int) = some ((WP.rev n v : Int), 0) := by
  have hn24 : 2 ^ n ≤ 2 ^ 24 := Nat.pow_le_pow_right (by decide) hn
  intro d
  induction d with
  | zero =>
    intro i k hi hk
    obtain ⟨k, rfl⟩ : ∃ m, k = m + 1 := ⟨k - 1, by omega⟩
    obtain rfl : i = n := by omega
    simp only [bits_Turn.l0]
    rw [if_neg (by omega)]
  | succ d ih =>
    intro i k hi hk
    obtain ⟨k, rfl⟩ : ∃ m, k = m + 1 := ⟨k - 1, by omega⟩
    have hr := WP.rev_lt i v
    have hi24 : 2 ^ i ≤ 2 ^ 24 := Nat.pow_le_pow_right (by decide) (by omega)
    have hb2 : v / 2 ^ i % 2 < 2 := Nat.mod_lt _ (by decide)
    simp only [bits_Turn.l0]
    rw [if_pos (by omega), u64_in (by omega) (by omega), if_pos (by omega), shr_nat (by simp [IntKind.bits]; omega), and_one _ (Nat.lt_of_le_of_lt (Nat.div_le_self _ _) (by omega)), wrap64_in (by omega) (by omega), show (WP.rev i v : Int) * 2 = ((WP.rev i v * 2 : Nat) : Int) from by omega, or_nat (by omega) (by omega), wrap64_in (by omega) (by omega), show (i : Int) + 1 = ((i + 1 : Nat) : Int) from by omega]
    have e : WP.rev i v * 2 ||| v / 2 ^ i % 2 = WP.rev (i + 1) v := by
      have := or_add (a := WP.rev i v) (i := 1) (b := v / 2 ^ i % 2) (by simpa using hb2)
      rw [Nat.or_comm, show WP.rev i v * 2 = WP.rev i v * 2 ^ 1 from rfl, this]
      simp only [WP.rev]
      omega
    rw [e]
    exact ih (i + 1) k (by omega) (by omega)
theorem turn_is (v n k : Nat) (hn : n ≤ 24) (hv : v < 2 ^ n) (hk : 30 ≤ k) : bits_Turn.f k (v : Int) (n : Int) = some ((WP.rev n v : Int), 0) := by
  unfold bits_Turn.f
  rw [may_is hn, decide_eq_true hv]
  simp only [Option.bind_some, if_true]
  exact turn_loop v n hn hv n 0 k (by omega) (by omega)
theorem keepBytes_loop (a b : List Int) (hl : a.length = b.length) (hm : a.length < 2 ^ 60) : ∀ (d i k : Nat), i + d = a.length → d < k → a.take i = b.take i → wherrykeep_Bytes.l0 k a b (i : Int) = some (decide (a = b)) := by
  intro d
  induction d with
  | zero =>
    intro i k hi hk h
    obtain ⟨k, rfl⟩ : ∃ m, k = m + 1 := ⟨k - 1, by omega⟩
    simp only [wherrykeep_Bytes.l0]
    rw [if_neg (by omega)]
    rw [List.take_of_length_le (by omega), List.take_of_length_le (by omega)] at h
    rw [decide_eq_true h]
  | succ d ih =>
    intro i k hi hk h
    obtain ⟨k, rfl⟩ : ∃ m, k = m + 1 := ⟨k - 1, by omega⟩
    simp only [wherrykeep_Bytes.l0]
    rw [if_pos (by omega), if_pos (by omega), if_pos (by omega), rd_nat, rd_nat]
    have ha : i < a.length := by omega
    have hb : i < b.length := by omega
    have e1 : a.getD i 0 = a[i] := by simp [ha]
    have e2 : b.getD i 0 = b[i] := by simp [hb]
    by_cases hx : a.getD i 0 = b.getD i 0
    · rw [if_pos hx, wrap64_in (by omega) (by omega), show (i : Int) + 1 = ((i + 1 : Nat) : Int) from by omega]
      refine ih (i + 1) k (by omega) (by omega) ?_
      rw [List.take_succ_eq_append_getElem ha, List.take_succ_eq_append_getElem hb, h, ← e1, ← e2, hx]
    · rw [if_neg hx, decide_eq_false]
      rintro rfl
      exact hx rfl
theorem keepBytes_is (a b : List Int) (hm : a.length < 2 ^ 60) (k : Nat) (hk : a.length < k) : wherrykeep_Bytes.f k a b = some (decide (a = b)) := by
  unfold wherrykeep_Bytes.f
  by_cases hl : a.length = b.length
  · rw [if_pos (by omega)]
    exact keepBytes_loop a b hl hm a.length 0 k (by omega) hk rfl
  · rw [if_neg (by omega), decide_eq_false]
    rintro rfl
    exact hl rfl
end Go.Proofs.Ytlffpaploefljaa.Glue
namespace Go.Proofs.Ytlffpaploefljaa.Glue
open Go.RowKit Go.Proofs.Ytlffpaploefljaa.P Go.Proofs.YtlffpaploefljaaW.PrintWords Go.Proofs.YtlffpaploefljaaW.PrintLast Go.Proofs.YtlffpaploefljaaW.PrintMore
open WP (Row Bytes at_ val wN wX Wrote)
/-- What a pen adds. -/
theorem add_is {s : List Int × Nat} {l : List (Nat × Nat)} (h : Wrote s.1 l) (hN : s.2 = wN l) {v n : Nat} (hv : v < 2 ^ 62) (hn : n ≤ 64) (hl : wN l ≤ 1000000000) :
    ∃ s', addS (v : Int) (n : Int) s = some s' ∧ Wrote s'.1 (l ++ [(v, n)]) ∧ s'.2 = wN (l ++ [(v, n)]) := by
  obtain ⟨B, N⟩ := s
  subst hN
  have hlen := h.len
  simp only at h hlen
  have hr := padd_row v hv n 0 _ _ _ h
  refine ⟨(padd (v : Int) n 0 B (wN l), wN l + n), ?_, ?_, ?_⟩
  · unfold addS
    rw [if_pos ⟨by omega, by omega, hl, by simp only; omega, fun h8 e => by simp only at e h8; rw [e] at hlen; simp at hlen; omega⟩]
    simp
  · unfold WP.Wrote
    rw [WP.wN_snoc, WP.wX_snoc]
    have e : at_ v 0 n = v % 2 ^ n := by unfold WP.at_; simp
    rw [e] at hr
    exact hr
  · rw [WP.wN_snoc]
end Go.Proofs.Ytlffpaploefljaa.Glue
