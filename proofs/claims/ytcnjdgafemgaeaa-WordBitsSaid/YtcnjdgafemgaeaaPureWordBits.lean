/- The statement WordBits over numbers alone: the bits that both, one or just one of two integers have, and shifts, as the program's package word answers them, are what the reference kilnref1 answers bit by bit, errors too.
Conditions: none. -/
import Derived.Test.YtcnjdgafemgaeaaPWordBitsx2
namespace Go.Proofs.Ytcnjdgafemgaeaa.Pure
open Go.RowKit Go.Proofs.Ytcnjdgafemgaeaa.PWordBits Go.Proofs.YtcnjdgafemgaeaaW.PrintWords Go.Proofs.YtcnjdgafemgaeaaW.PrintLast Go.Proofs.YtcnjdgafemgaeaaW.PrintMore

/-- a number brought into 31 bits, with its sign -/
def w31 (n : Int) : Int := (n + 1073741824) % 2147483648 - 1073741824
theorem wrapIs (n : Int) : word_Wrap.f n = some (w31 n) := by
  unfold word_Wrap.f w31 wrap64; congr 1; omega
theorem tmodIs (n : Int) : Int.tmod n 2147483648 = if n < 0 then -((-n) % 2147483648) else n % 2147483648 := by
  split
  · rename_i h
    have e : n.tmod 2147483648 = -((-n).tmod 2147483648) := by rw [Int.neg_tmod]; simp
    rw [e, Int.tmod_eq_emod_of_nonneg (by omega)]
  · rw [Int.tmod_eq_emod_of_nonneg (by omega)]
theorem lowIs (n : Int) : kilnref1_low.f n = some (n % 2147483648) := by
  unfold kilnref1_low.f
  rw [tmodIs]
  split <;> split <;> (try simp only [wrap64]) <;> (congr 1; omega)
theorem refWrapIs (n : Int) : kilnref1_Wrap.f n = some (w31 n) := by
  unfold kilnref1_Wrap.f w31
  rw [lowIs]
  simp only [Option.bind_some]
  split <;> (try simp only [wrap64]) <;> (congr 1; omega)

def inR (n : Int) : Prop := -1073741824 ≤ n ∧ n ≤ 1073741823
instance (n : Int) : Decidable (inR n) := by unfold inR; infer_instance
theorem inIs (n : Int) : word_in.f n = some (decide (inR n)) := by
  unfold word_in.f inR; by_cases h : n ≥ -1073741824 <;> simp [h] <;> omega
theorem refInIs (n : Int) : kilnref1_In.f n = some (decide (inR n)) := by
  unfold kilnref1_In.f inR; by_cases h : n ≥ -1073741824 <;> simp [h] <;> omega
theorem doneIs (a b n : Int) : word_done.f a b n = some (if inR a ∧ inR b then (w31 n, 0) else (0, 1)) := by
  unfold word_done.f; simp only [inIs, wrapIs, Option.bind_some, decide_eq_true_eq]
  by_cases h : inR a <;> by_cases g : inR b <;> simp [h, g]

/-- the lowest bit of the outcome, by how many of two have it -/
def bit (one both : Bool) (x y : Nat) : Nat := if (x % 2 + y % 2 = 1 ∧ one = true) ∨ (x % 2 + y % 2 = 2 ∧ both = true) then 1 else 0
/-- an operation on bits goes bit by bit -/
structure ByBits (one both : Bool) (op : Nat → Nat → Nat) : Prop where
  low : ∀ x y, op x y % 2 = bit one both x y
  high : ∀ x y, op x y / 2 = op (x / 2) (y / 2)
  nought : op 0 0 = 0
theorem and_by : ByBits false true (· &&& ·) where
  low x y := by
    have h := @Nat.and_mod_two_eq_one x y
    unfold bit; split <;> rename_i g <;> simp at g <;> omega
  high x y := Nat.and_div_two
  nought := rfl
theorem or_by : ByBits true true (· ||| ·) where
  low x y := by
    have h := @Nat.or_mod_two_eq_one x y
    unfold bit; split <;> rename_i g <;> simp at g <;> omega
  high x y := Nat.or_div_two
  nought := rfl
theorem xor_by : ByBits true false (· ^^^ ·) where
  low x y := by
    have h := @Nat.xor_mod_two_eq_one x y
    unfold bit; split <;> rename_i g <;> simp at g <;> omega
  high x y := Nat.xor_div_two
  nought := rfl

theorem tmod2 (x : Nat) : Int.tmod (x : Int) 2 = ((x % 2 : Nat) : Int) := by
  rw [Int.tmod_eq_emod_of_nonneg (by omega)]; omega
theorem tdiv2 (x : Nat) : wrap64 (Int.tdiv (x : Int) 2) = wrap64 ((x / 2 : Nat) : Int) := by
  rw [Int.tdiv_eq_ediv_of_nonneg (by omega)]; congr 1
theorem wrap64_is {n : Int} (h0 : -9223372036854775808 ≤ n) (h1 : n ≤ 9223372036854775807) : wrap64 n = n := by unfold wrap64; omega
theorem eachIs {one both : Bool} {op : Nat → Nat → Nat} (H : ByBits one both op) (d : Nat) : ∀ (k x y r p : Nat), d ≤ 31 → x < 2 ^ d → y < 2 ^ d → r < p → p * 2 ^ d = 2147483648 →
    kilnref1_each.l0 (d + 1 + k) one both (x : Int) (y : Int) (r : Int) (p : Int) ((31 - d : Nat) : Int) = some (w31 ((r + p * op x y : Nat) : Int)) := by
  induction d with
  | zero =>
    intro k x y r p _ hx hy _ _
    obtain rfl : x = 0 := by omega
    obtain rfl : y = 0 := by omega
    rw [show 0 + 1 + k = k + 1 by omega]
    simp only [kilnref1_each.l0]
    rw [if_neg (by omega), refWrapIs]
    simp [H.nought]
  | succ d ih =>
    intro k x y r p hd hx hy hr hp
    have hp' : 2 * p * 2 ^ d = 2147483648 := by rw [← hp, Nat.pow_succ]; rw [Nat.mul_comm 2 p, Nat.mul_assoc, Nat.mul_comm 2]
    have hle : 2 * p ≤ 2147483648 := Nat.le_of_dvd (by omega) ⟨2 ^ d, hp'.symm⟩
    have hx' : x / 2 < 2 ^ d := by rw [Nat.pow_succ] at hx; omega
    have hy' : y / 2 < 2 ^ d := by rw [Nat.pow_succ] at hy; omega
    have hxs : x < 2147483648 := Nat.lt_of_lt_of_le hx (Nat.pow_le_pow_right (n := 2) (by omega) (j := 31) (by omega))
    have hys : y < 2147483648 := Nat.lt_of_lt_of_le hy (Nat.pow_le_pow_right (n := 2) (by omega) (j := 31) (by omega))
    have e1 := ih k (x / 2) (y / 2) (r + p) (2 * p) (by omega) hx' hy' (by omega) hp'
    have e0 := ih k (x / 2) (y / 2) r (2 * p) (by omega) hx' hy' (by omega) hp'
    have hl := H.low x y
    have hh := H.high x y
    have hval : op x y = 2 * op (x / 2) (y / 2) + bit one both x y := by rw [← hh, ← hl]; omega
    have s1 : bit one both x y = 1 → r + p + 2 * p * op (x / 2) (y / 2) = r + p * op x y := by
      intro h; rw [hval, h, Nat.mul_add, ← Nat.mul_assoc, Nat.mul_comm p 2]; omega
    have s0 : bit one both x y = 0 → r + 2 * p * op (x / 2) (y / 2) = r + p * op x y := by
      intro h; rw [hval, h, Nat.mul_add, ← Nat.mul_assoc, Nat.mul_comm p 2]; omega
    rw [show d + 1 + 1 + k = (d + 1 + k) + 1 by omega]
    simp only [kilnref1_each.l0]
    rw [if_pos (by omega), tmod2, tmod2, tdiv2, tdiv2, wrap64_is (n := ((x / 2 : Nat) : Int)) (by omega) (by omega), wrap64_is (n := ((y / 2 : Nat) : Int)) (by omega) (by omega),
      wrap64_is (n := (r : Int) + p) (by omega) (by omega), wrap64_is (n := 2 * (p : Int)) (by omega) (by omega), wrap64_is (n := ((31 - (d + 1) : Nat) : Int) + 1) (by omega) (by omega),
      wrap64_is (n := ((x % 2 : Nat) : Int) + ((y % 2 : Nat) : Int)) (by omega) (by omega)]
    have ei : ((31 - (d + 1) : Nat) : Int) + 1 = ((31 - d : Nat) : Int) := by omega
    have er : (r : Int) + p = ((r + p : Nat) : Int) := by omega
    have ep : 2 * (p : Int) = ((2 * p : Nat) : Int) := by omega
    rw [ei, er, ep, e1, e0]
    unfold bit at s1 s0
    by_cases c1 : ((x % 2 : Nat) : Int) + ((y % 2 : Nat) : Int) = 1
    · rw [if_pos c1]
      by_cases o : one = true
      · rw [if_pos o, s1 (if_pos (.inl ⟨by omega, o⟩))]
      · rw [if_neg o, if_neg (by omega), s0 (if_neg (by rintro (⟨_, h⟩ | ⟨h, _⟩); exact o h; omega))]
    · rw [if_neg c1]
      by_cases c2 : ((x % 2 : Nat) : Int) + ((y % 2 : Nat) : Int) = 2
      · rw [if_pos c2]
        by_cases o : both = true
        · rw [if_pos o, s1 (if_pos (.inr ⟨by omega, o⟩))]
        · rw [if_neg o, s0 (if_neg (by rintro (⟨h, _⟩ | ⟨_, h⟩); omega; exact o h))]
      · rw [if_neg c2, s0 (if_neg (by rintro (⟨h, _⟩ | ⟨h, _⟩) <;> omega))]

theorem refEachIs {one both : Bool} {op : Nat → Nat → Nat} (H : ByBits one both op) (k : Nat) (a b : Int) :
    kilnref1_each.f (32 + k) a b one both = some (w31 ((op (a % 2147483648).toNat (b % 2147483648).toNat : Nat) : Int)) := by
  unfold kilnref1_each.f
  rw [lowIs, lowIs]
  simp only [Option.bind_some]
  have h := eachIs H 31 k (a % 2147483648).toNat (b % 2147483648).toNat 0 1 (by omega) (by omega) (by omega) (by omega) (by omega)
  rw [show 31 + 1 + k = 32 + k by omega] at h
  rw [show (((a % 2147483648).toNat : Nat) : Int) = a % 2147483648 by omega, show (((b % 2147483648).toNat : Nat) : Int) = b % 2147483648 by omega] at h
  simpa using h

theorem lowest (a : Int) : (a % ((2 ^ 64 : Nat) : Int)).toNat % 2 ^ 31 = (a % 2147483648).toNat := by
  rw [show ((2 ^ 64 : Nat) : Int) = 18446744073709551616 from rfl, show (2 : Nat) ^ 31 = 2147483648 from rfl]; omega
theorem w31_wrap (n : Nat) : w31 (IntKind.i64.wrap n) = w31 ((n % 2 ^ 31 : Nat) : Int) := by
  rw [IntKind.wrap_i64, show (2 : Nat) ^ 31 = 2147483648 from rfl]
  unfold w31
  omega
/-- the program's word of bits, in 31 bits, is that of the lowest 31 bits -/
theorem bits31 {bop : BinOp} {op : Nat → Nat → Nat} (hmod : ∀ x y n : Nat, op x y % 2 ^ n = op (x % 2 ^ n) (y % 2 ^ n))
    (hb : ∀ a b : Int, ∃ n : Nat, Go.bits bop .i64 a b = IntKind.i64.wrap n ∧ n = op (BitVec.ofInt 64 a).toNat (BitVec.ofInt 64 b).toNat) (a b : Int) :
    w31 (Go.bits bop .i64 a b) = w31 ((op (a % 2147483648).toNat (b % 2147483648).toNat : Nat) : Int) := by
  obtain ⟨n, h1, h2⟩ := hb a b
  have h := hmod (BitVec.ofInt 64 a).toNat (BitVec.ofInt 64 b).toNat 31
  rw [← h2, BitVec.toNat_ofInt, BitVec.toNat_ofInt] at h
  rw [lowest a, lowest b] at h
  rw [h1, ← h]
  exact w31_wrap n
theorem and31 (a b : Int) : w31 (Go.bits .and .i64 a b) = w31 (((a % 2147483648).toNat &&& (b % 2147483648).toNat : Nat) : Int) :=
  bits31 (op := (· &&& ·)) (fun _ _ _ => Nat.and_mod_two_pow) (fun _ _ => ⟨_, rfl, BitVec.toNat_and _ _⟩) a b
theorem or31 (a b : Int) : w31 (Go.bits .or .i64 a b) = w31 (((a % 2147483648).toNat ||| (b % 2147483648).toNat : Nat) : Int) :=
  bits31 (op := (· ||| ·)) (fun _ _ _ => Nat.or_mod_two_pow) (fun _ _ => ⟨_, rfl, BitVec.toNat_or _ _⟩) a b
theorem xor31 (a b : Int) : w31 (Go.bits .xor .i64 a b) = w31 (((a % 2147483648).toNat ^^^ (b % 2147483648).toNat : Nat) : Int) :=
  bits31 (op := (· ^^^ ·)) (fun _ _ _ => Nat.xor_mod_two_pow) (fun _ _ => ⟨_, rfl, BitVec.toNat_xor _ _⟩) a b

theorem refAndIs (k : Nat) (a b : Int) : kilnref1_And.f (32 + k) a b = word_And.f a b := by
  unfold kilnref1_And.f word_And.f; simp only [doneIs, refInIs, refEachIs and_by, and31, Option.bind_some, decide_eq_true_eq]
  by_cases h : inR a <;> by_cases g : inR b <;> simp [h, g]
theorem refOrIs (k : Nat) (a b : Int) : kilnref1_Or.f (32 + k) a b = word_Or.f a b := by
  unfold kilnref1_Or.f word_Or.f; simp only [doneIs, refInIs, refEachIs or_by, or31, Option.bind_some, decide_eq_true_eq]
  by_cases h : inR a <;> by_cases g : inR b <;> simp [h, g]
theorem refXorIs (k : Nat) (a b : Int) : kilnref1_Xor.f (32 + k) a b = word_Xor.f a b := by
  unfold kilnref1_Xor.f word_Xor.f; simp only [doneIs, refInIs, refEachIs xor_by, xor31, Option.bind_some, decide_eq_true_eq]
  by_cases h : inR a <;> by_cases g : inR b <;> simp [h, g]

theorem halfIs (a : Int) (h : -1073741824 ≤ a ∧ a ≤ 1073741823) : kilnref1_floored.f a 2 = some (a / 2) := by
  have hq : a.tdiv 2 * 2 + a.tmod 2 = a := by have := Int.mul_tdiv_add_tmod a 2; omega
  have hl := Int.lt_tmod_of_pos a (b := 2) (by omega)
  have hu := Int.tmod_lt_of_pos a (b := 2) (by omega)
  have hs : 0 ≤ a → 0 ≤ a.tmod 2 := Int.tmod_nonneg 2
  have hn : a ≤ 0 → a.tmod 2 ≤ 0 := by
    intro h
    have := Int.tmod_nonneg (a := -a) 2 (by omega)
    rw [Int.neg_tmod] at this; omega
  unfold kilnref1_floored.f
  rw [if_neg (by omega), wrap64_is (n := a.tdiv 2) (by omega) (by omega), wrap64_is (n := a.tdiv 2 - 1) (by omega) (by omega)]
  by_cases c : a.tmod 2 = 0
  · rw [if_pos c]; congr 1; omega
  · rw [if_neg c]
    by_cases n : a < 0
    · simp [n]; omega
    · simp [n]; omega

/-- a number halved, rounded down, so many times -/
def halved : Nat → Int → Int
  | 0, a => a
  | n + 1, a => halved n (a / 2)
theorem halved_is (n : Nat) : ∀ a, halved n a = a / 2 ^ n := by
  induction n with
  | zero => intro a; simp [halved]
  | succ n ih =>
    intro a
    rw [halved, ih, Int.pow_succ, Int.mul_comm, Int.ediv_ediv_of_nonneg (by omega)]
/-- a number doubled so many times -/
theorem w31_double (x : Int) : w31 (2 * w31 x) = w31 (2 * x) := by unfold w31; omega
theorem w31_in (x : Int) : -1073741824 ≤ w31 x ∧ w31 x ≤ 1073741823 := by unfold w31; omega
theorem w31_self {x : Int} (h : -1073741824 ≤ x ∧ x ≤ 1073741823) : w31 x = x := by unfold w31; omega
theorem half_in {x : Int} (h : -1073741824 ≤ x ∧ x ≤ 1073741823) : -1073741824 ≤ x / 2 ∧ x / 2 ≤ 1073741823 := by omega
theorem halved_in (n : Nat) : ∀ {x : Int}, (-1073741824 ≤ x ∧ x ≤ 1073741823) → -1073741824 ≤ halved n x ∧ halved n x ≤ 1073741823 := by
  induction n with
  | zero => intro x h; exact h
  | succ n ih => intro x h; exact ih (half_in h)

theorem downIs (d : Nat) : ∀ (k : Nat) (a by_ i : Int), (-1073741824 ≤ a ∧ a ≤ 1073741823) → -31 ≤ i → i ≤ 0 → -1073741824 ≤ by_ → i - mx by_ (-31) = d →
    kilnref1_Shift.l1 (d + 1 + k) a by_ i = some (halved d a, 0) := by
  induction d with
  | zero =>
    intro k a b i h h0 h1 h2 h3
    rw [show 0 + 1 + k = k + 1 by omega]
    simp only [kilnref1_Shift.l1, halved]
    unfold mx at h3
    by_cases c : i > b
    · rw [if_pos c, if_neg (by split at h3 <;> omega)]
    · rw [if_neg c]
  | succ d ih =>
    intro k a b i h h0 h1 h2 h3
    rw [show d + 1 + 1 + k = (d + 1 + k) + 1 by omega]
    simp only [kilnref1_Shift.l1, halved]
    have hm : i > b ∧ i > -31 := by unfold mx at h3; split at h3 <;> omega
    rw [if_pos hm.1, if_pos hm.2, halfIs a h]
    simp only [Option.bind_some]
    rw [wrap64_is (n := i - 1) (by omega) (by omega)]
    exact ih k _ b (i - 1) (half_in h) (by omega) (by omega) h2 (by omega)
theorem upIs (d : Nat) : ∀ (k : Nat) (a by_ i x : Int), a = w31 x → 0 ≤ i → i ≤ 31 → 0 ≤ by_ → by_ ≤ 1073741823 → mn by_ 31 - i = d →
    kilnref1_Shift.l0 (d + 3 + k) a by_ i = some (w31 (x * 2 ^ d), 0) := by
  induction d with
  | zero =>
    intro k a b i x h h0 h1 h2 h2' h3
    rw [show 0 + 3 + k = k + 1 + 1 + 1 by omega]
    have ha := w31_in x
    have e : kilnref1_Shift.j2 (k + 1 + 1) a b = some (w31 (x * 2 ^ 0), 0) := by
      simp only [kilnref1_Shift.j2, kilnref1_Shift.l1]
      rw [if_neg (by omega), h, Int.pow_zero, Int.mul_one]
    simp only [kilnref1_Shift.l0]
    unfold mn at h3
    by_cases c : i < b
    · rw [if_pos c, if_neg (by split at h3 <;> omega), e]
    · rw [if_neg c, e]
  | succ d ih =>
    intro k a b i x h h0 h1 h2 h2' h3
    rw [show d + 1 + 3 + k = (d + 3 + k) + 1 by omega]
    simp only [kilnref1_Shift.l0]
    have ha := w31_in x
    have hm : i < b ∧ i < 31 := by unfold mn at h3; split at h3 <;> omega
    rw [if_pos hm.1, if_pos hm.2, refWrapIs]
    simp only [Option.bind_some]
    rw [wrap64_is (n := i + 1) (by omega) (by omega), wrap64_is (n := 2 * a) (by omega) (by omega), h, w31_double]
    have := ih k (w31 (2 * x)) b (i + 1) (2 * x) rfl (by omega) (by omega) h2 h2' (by omega)
    rw [this, Int.pow_succ, Int.mul_comm 2 x, Int.mul_assoc, Int.mul_comm 2]

theorem two_pow_halved (n : Nat) (h : n ≤ 64) (a : Int) : shr .i64 a (n : Int) = halved n a := by
  unfold shr; rw [halved_is, Int.toNat_natCast, show IntKind.i64.bits = 64 from rfl, Nat.min_eq_left h]
/-- what the program's shift comes to, both in range or not -/
theorem shiftIs (a b : Int) : word_Shift.f a b = some (if inR a ∧ inR b then (if b < 0 then w31 (shr .i64 a (-(mx b (-31)))) else w31 (wrap64 (a * 2 ^ (mn b 31).toNat)), 0) else (0, 1)) := by
  unfold word_Shift.f
  simp only [doneIs, Option.bind_some]
  by_cases hb : b < 0
  · have e : wrap64 (-(mx b (-31))) = -(mx b (-31)) := by apply wrap64_is <;> (unfold mx; split <;> omega)
    have e0 : 0 ≤ -(mx b (-31)) := by unfold mx; split <;> omega
    rw [if_pos hb, e, if_pos e0]
    simp only [hb, if_true]
  · have e0 : 0 ≤ mn b 31 := by unfold mn; split <;> omega
    rw [if_neg hb, if_pos e0]
    simp only [hb, if_false]
theorem refShiftIs (k : Nat) (a b : Int) : kilnref1_Shift.f (40 + k) a b = word_Shift.f a b := by
  rw [shiftIs]
  unfold kilnref1_Shift.f
  simp only [refInIs, Option.bind_some, decide_eq_true_eq]
  rw [show 40 + k = (39 + k) + 1 by omega]
  by_cases h : inR a
  · by_cases g : inR b
    · simp only [h, g, if_true, decide_true, Bool.not_true, and_self]
      simp only [kilnref1_Shift.j0, Bool.false_eq_true, if_false]
      unfold inR at h g
      by_cases hn : b < 0
      · rw [if_pos hn]
        have e0 : 0 ≤ -(mx b (-31)) ∧ -(mx b (-31)) ≤ 31 := by unfold mx; split <;> omega
        obtain ⟨d, hd⟩ : ∃ d : Nat, -(mx b (-31)) = (d : Int) := ⟨(-(mx b (-31))).toNat, by omega⟩
        rw [hd, two_pow_halved d (by omega), w31_self (halved_in d h)]
        rw [show 39 + k = (d + 1 + (36 + k - d)) + 1 + 1 by omega]
        simp only [kilnref1_Shift.l0]
        rw [if_neg (by omega)]
        simp only [kilnref1_Shift.j2]
        exact downIs d _ a b 0 h (by omega) (by omega) (by omega) (by omega)
      · rw [if_neg hn]
        have e0 : 0 ≤ mn b 31 ∧ mn b 31 ≤ 31 := by unfold mn; split <;> omega
        obtain ⟨d, hd⟩ : ∃ d : Nat, mn b 31 = (d : Int) := ⟨(mn b 31).toNat, by omega⟩
        rw [hd, Int.toNat_natCast, show 39 + k = d + 3 + (36 + k - d) by omega]
        rw [upIs d _ a b 0 a (w31_self h).symm (by omega) (by omega) (by omega) (by omega) (by omega)]
        congr 2
        unfold w31 wrap64; omega
    · simp [h, g, kilnref1_Shift.j0]
  · simp [h, kilnref1_Shift.j0]

theorem WordBits : kilnlaw1_WordBits.Pure := by
  intro a b _ _
  refine ⟨41, ?_⟩
  obtain ⟨⟨s, e1⟩, h1⟩ : ∃ p, word_And.f a b = some p := by unfold word_And.f; rw [doneIs]; exact ⟨_, rfl⟩
  obtain ⟨⟨d, e2⟩, h2⟩ : ∃ p, word_Or.f a b = some p := by unfold word_Or.f; rw [doneIs]; exact ⟨_, rfl⟩
  obtain ⟨⟨m, e3⟩, h3⟩ : ∃ p, word_Xor.f a b = some p := by unfold word_Xor.f; rw [doneIs]; exact ⟨_, rfl⟩
  obtain ⟨⟨q, e4⟩, h4⟩ : ∃ p, word_Shift.f a b = some p := ⟨_, shiftIs a b⟩
  unfold kilnlaw1_WordBits.f
  rw [refAndIs 9, refOrIs 9, refXorIs 9, h1, h2, h3]
  simp only [Option.bind_some, if_true, kilnlaw1_num.f, bne_self_eq_false, kilnlaw1_WordBits.j0, Bool.false_eq_true, if_false, refShiftIs 0, h4, beq_self_eq_true]
end Go.Proofs.Ytcnjdgafemgaeaa.Pure
