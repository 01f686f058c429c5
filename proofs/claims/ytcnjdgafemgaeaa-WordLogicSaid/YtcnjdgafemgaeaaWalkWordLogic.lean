/- The law WordLogic, walked: the bits of any two integers and a shift by any count (each brought into range) are as the law asks, so the call returns true. Conditions: none. -/
import Derived.Test.YtcnjdgafemgaeaaPWordLogicx1
namespace Go.Proofs.Ytcnjdgafemgaeaa.Logic
open Go.RowKit Go.Proofs.Ytcnjdgafemgaeaa.PWordLogic Go.Proofs.YtcnjdgafemgaeaaW.PrintWords Go.Proofs.YtcnjdgafemgaeaaW.PrintLast Go.Proofs.YtcnjdgafemgaeaaW.PrintMore
attribute [local go_sem] max2_int min2_int max_two min_two max_three min_three max_four min_four
set_option linter.unusedVariables false
set_option linter.unusedSimpArgs false
/-- a number brought into 31 bits, with its sign -/
def w31 (n : Int) : Int := (n + 1073741824) % 2147483648 - 1073741824
theorem wrapIs (n : Int) : word_Wrap.f n = some (w31 n) := by
  unfold word_Wrap.f w31 wrap64; congr 1; omega
def inR (n : Int) : Prop := -1073741824 ≤ n ∧ n ≤ 1073741823
instance (n : Int) : Decidable (inR n) := by unfold inR; infer_instance
theorem inIs (n : Int) : word_in.f n = some (decide (inR n)) := by
  unfold word_in.f inR; by_cases h : n ≥ -1073741824 <;> simp [h] <;> omega
theorem wrap64_is {n : Int} (h0 : -9223372036854775808 ≤ n) (h1 : n ≤ 9223372036854775807) : wrap64 n = n := by unfold wrap64; omega
theorem w31_in (x : Int) : inR (w31 x) := by unfold inR w31; omega
theorem w31_self {x : Int} (h : inR x) : w31 x = x := by unfold inR at h; unfold w31; omega
theorem w31_wrap (x : Int) : w31 (wrap64 x) = w31 x := by unfold w31 wrap64; omega
theorem w31_less (x y : Int) : w31 (x - 2147483648 * y) = w31 x := by unfold w31; omega
theorem doneIs (a b n : Int) (h : inR a) (g : inR b) : word_done.f a b n = some (w31 n, 0) := by
  unfold word_done.f; simp [inIs, wrapIs, h, g]
theorem tmodFacts (n : Int) : (0 ≤ n → 0 ≤ n.tmod 2147483648) ∧ (n ≤ 0 → n.tmod 2147483648 ≤ 0) ∧ -2147483648 < n.tmod 2147483648 ∧ n.tmod 2147483648 < 2147483648 := by
  refine ⟨Int.tmod_nonneg _, fun h => ?_, Int.lt_tmod_of_pos n (by omega), Int.tmod_lt_of_pos n (by omega)⟩
  have := Int.tmod_nonneg (a := -n) 2147483648 (by omega)
  rw [Int.neg_tmod] at this; omega
theorem rangedIs (k : Nat) (n : Int) : ∃ r, kilnlaw1_ranged.f (k + 1) n = some r ∧ inR r := by
  unfold kilnlaw1_ranged.f kilnlaw1_clipped.f
  have e : wrap64 (wrap64 (1073741823 - -1073741824) + 1) = 2147483648 := by unfold wrap64; omega
  obtain ⟨f2, f3, f4, f5⟩ := tmodFacts n
  generalize hm : n.tmod 2147483648 = m at *
  by_cases h : n ≥ -1073741824
  · by_cases g : n ≤ 1073741823
    · exact ⟨n, by simp [h, g, kilnlaw1_clipped.j0], h, g⟩
    · simp only [h, g, if_true, decide_false, kilnlaw1_clipped.j0, Bool.false_eq_true, if_false, e, hm]
      rw [if_neg (by omega), if_neg (by omega)]
      exact ⟨_, rfl, by unfold inR wrap64; omega⟩
  · simp only [h, if_false, kilnlaw1_clipped.j0, Bool.false_eq_true, e, hm]
    rw [if_neg (by omega)]
    by_cases c : m < 0
    · rw [if_pos c]; exact ⟨_, rfl, by unfold inR wrap64; omega⟩
    · rw [if_neg c]; exact ⟨_, rfl, by unfold inR wrap64; omega⟩
theorem countIs (k : Nat) (n : Int) : ∃ r : Nat, kilnlaw1_clipped.f (k + 1) n 0 40 = some (r : Int) ∧ r ≤ 40 := by
  unfold kilnlaw1_clipped.f
  have e : wrap64 (wrap64 (40 - 0) + 1) = 41 := by unfold wrap64; omega
  have f2 : 0 ≤ n → 0 ≤ n.tmod 41 := Int.tmod_nonneg _
  have f3 : n ≤ 0 → n.tmod 41 ≤ 0 := fun h => by
    have := Int.tmod_nonneg (a := -n) 41 (by omega)
    rw [Int.neg_tmod] at this; omega
  have f4 := Int.lt_tmod_of_pos n (b := 41) (by omega)
  have f5 := Int.tmod_lt_of_pos n (b := 41) (by omega)
  generalize hm : n.tmod 41 = m at *
  suffices h : ∃ r : Int, (if n ≥ 0 then kilnlaw1_clipped.j0 (k + 1) n 0 40 (decide (n ≤ 40)) else kilnlaw1_clipped.j0 (k + 1) n 0 40 false) = some r ∧ 0 ≤ r ∧ r ≤ 40 by
    obtain ⟨r, h1, h2, h3⟩ := h
    exact ⟨r.toNat, by rw [h1]; congr 1; omega, by omega⟩
  by_cases h : n ≥ 0
  · by_cases g : n ≤ 40
    · exact ⟨n, by simp [h, g, kilnlaw1_clipped.j0], h, g⟩
    · simp only [h, g, if_true, decide_false, kilnlaw1_clipped.j0, Bool.false_eq_true, if_false, e, hm]
      rw [if_neg (by omega), if_neg (by omega)]
      exact ⟨_, rfl, by unfold wrap64; omega⟩
  · simp only [h, if_false, kilnlaw1_clipped.j0, Bool.false_eq_true, e, hm]
    rw [if_neg (by omega)]
    by_cases c : m < 0
    · rw [if_pos c]; exact ⟨_, rfl, by unfold wrap64; omega⟩
    · rw [if_neg c]; exact ⟨_, rfl, by unfold wrap64; omega⟩

/-! bits -/
theorem lowest (a : Int) : (a % ((2 ^ 64 : Nat) : Int)).toNat % 2 ^ 31 = (a % 2147483648).toNat := by
  rw [show ((2 ^ 64 : Nat) : Int) = 18446744073709551616 from rfl, show (2 : Nat) ^ 31 = 2147483648 from rfl]; omega
theorem w31_wrapN (n : Nat) : w31 (IntKind.i64.wrap n) = w31 ((n % 2 ^ 31 : Nat) : Int) := by
  rw [IntKind.wrap_i64, show (2 : Nat) ^ 31 = 2147483648 from rfl]
  unfold w31
  omega
theorem bits31 {bop : BinOp} {op : Nat → Nat → Nat} (hmod : ∀ x y n : Nat, op x y % 2 ^ n = op (x % 2 ^ n) (y % 2 ^ n))
    (hb : ∀ a b : Int, ∃ n : Nat, Go.bits bop .i64 a b = IntKind.i64.wrap n ∧ n = op (BitVec.ofInt 64 a).toNat (BitVec.ofInt 64 b).toNat) (a b : Int) :
    w31 (Go.bits bop .i64 a b) = w31 ((op (a % 2147483648).toNat (b % 2147483648).toNat : Nat) : Int) := by
  obtain ⟨n, h1, h2⟩ := hb a b
  have h := hmod (BitVec.ofInt 64 a).toNat (BitVec.ofInt 64 b).toNat 31
  rw [← h2, BitVec.toNat_ofInt, BitVec.toNat_ofInt] at h
  rw [lowest a, lowest b] at h
  rw [h1, ← h]
  exact w31_wrapN n
theorem and31 (a b : Int) : w31 (Go.bits .and .i64 a b) = w31 (((a % 2147483648).toNat &&& (b % 2147483648).toNat : Nat) : Int) :=
  bits31 (op := (· &&& ·)) (fun _ _ _ => Nat.and_mod_two_pow) (fun _ _ => ⟨_, rfl, BitVec.toNat_and _ _⟩) a b
theorem or31 (a b : Int) : w31 (Go.bits .or .i64 a b) = w31 (((a % 2147483648).toNat ||| (b % 2147483648).toNat : Nat) : Int) :=
  bits31 (op := (· ||| ·)) (fun _ _ _ => Nat.or_mod_two_pow) (fun _ _ => ⟨_, rfl, BitVec.toNat_or _ _⟩) a b
theorem xor31 (a b : Int) : w31 (Go.bits .xor .i64 a b) = w31 (((a % 2147483648).toNat ^^^ (b % 2147483648).toNat : Nat) : Int) :=
  bits31 (op := (· ^^^ ·)) (fun _ _ _ => Nat.xor_mod_two_pow) (fun _ _ => ⟨_, rfl, BitVec.toNat_xor _ _⟩) a b

/-- sums by bits: what both have twice and what just one has; what both have and what just one has -/
theorem sums (n : Nat) : ∀ x y : Nat, x < n → 2 * (x &&& y) + (x ^^^ y) = x + y ∧ (x &&& y) + (x ^^^ y) = (x ||| y) := by
  induction n with
  | zero => intro x y h; omega
  | succ n ih =>
    intro x y h
    have a1 := @Nat.and_mod_two_eq_one x y
    have o1 := @Nat.or_mod_two_eq_one x y
    have x1 := @Nat.xor_mod_two_eq_one x y
    have a2 : (x &&& y) / 2 = x / 2 &&& y / 2 := Nat.and_div_two
    have o2 : (x ||| y) / 2 = x / 2 ||| y / 2 := Nat.or_div_two
    have x2 : (x ^^^ y) / 2 = x / 2 ^^^ y / 2 := Nat.xor_div_two
    by_cases hx : x = 0
    · subst hx; simp
    · obtain ⟨i1, i2⟩ := ih (x / 2) (y / 2) (by omega)
      generalize x &&& y = A at *
      generalize x ||| y = O at *
      generalize x ^^^ y = X at *
      rw [← a2, ← x2] at i1
      rw [← a2, ← x2, ← o2] at i2
      have hA : A % 2 = 1 ∨ A % 2 = 0 := by omega
      have hO : O % 2 = 1 ∨ O % 2 = 0 := by omega
      have hX : X % 2 = 1 ∨ X % 2 = 0 := by omega
      by_cases p : x % 2 = 1 <;> by_cases q : y % 2 = 1 <;> simp [p, q] at a1 o1 x1 <;> omega

theorem tops (x y : Nat) (hx : x < 2147483648) (hy : y < 2147483648) : (x &&& y) / 1073741824 + (x ^^^ y) / 1073741824 = (x ||| y) / 1073741824 := by
  have a2 : (x &&& y) / 2 ^ 30 = x / 2 ^ 30 &&& y / 2 ^ 30 := Nat.and_div_two_pow
  have o2 : (x ||| y) / 2 ^ 30 = x / 2 ^ 30 ||| y / 2 ^ 30 := Nat.or_div_two_pow
  have x2 : (x ^^^ y) / 2 ^ 30 = x / 2 ^ 30 ^^^ y / 2 ^ 30 := Nat.xor_div_two_pow
  rw [show (2 : Nat) ^ 30 = 1073741824 from rfl] at a2 o2 x2
  rw [a2, o2, x2]
  have h1 : x / 1073741824 = 0 ∨ x / 1073741824 = 1 := by omega
  have h2 : y / 1073741824 = 0 ∨ y / 1073741824 = 1 := by omega
  rcases h1 with h1 | h1 <;> rcases h2 with h2 | h2 <;> rw [h1, h2] <;> rfl

theorem p31 : (2 : Nat) ^ 31 = 2147483648 := rfl
theorem lt31 (x y : Nat) (hx : x < 2147483648) (hy : y < 2147483648) : (x &&& y) < 2147483648 ∧ (x ^^^ y) < 2147483648 ∧ (x ||| y) < 2147483648 := by
  rw [← p31] at *
  exact ⟨Nat.and_lt_two_pow _ hy, Nat.xor_lt_two_pow hx hy, Nat.or_lt_two_pow hx hy⟩
theorem w31_back (X : Nat) (h : X < 2147483648) : (w31 (X : Int) % 2147483648).toNat = X := by unfold w31; omega
theorem w31_low (a : Int) (ha : inR a) (x : Nat) (h : (x : Int) = a % 2147483648) : w31 (x : Int) = a := by unfold inR at ha; unfold w31; omega
theorem w31_more (x : Int) : ∃ c, w31 x = x - 2147483648 * c := ⟨(x + 1073741824) / 2147483648, by unfold w31; omega⟩
theorem w31_sum (a b : Int) (x y A X : Nat) (h : (x : Int) = a % 2147483648) (k : (y : Int) = b % 2147483648) (s : 2 * A + X = x + y) : w31 (2 * w31 (A : Int) + w31 (X : Int)) = w31 (a + b) := by
  obtain ⟨c, hc⟩ := w31_more (A : Int)
  obtain ⟨d, hd⟩ := w31_more (X : Int)
  rw [hc, hd, show 2 * ((A : Int) - 2147483648 * c) + ((X : Int) - 2147483648 * d) = (2 * A + X) - 2147483648 * (2 * c + d) by omega, w31_less,
    show 2 * (A : Int) + X = (a + b) - 2147483648 * (a / 2147483648 + b / 2147483648) by omega, w31_less]
theorem w31_parts (A X O : Nat) (ha : A < 2147483648) (hx : X < 2147483648) (ho : O < 2147483648) (s : A + X = O) (t : A / 1073741824 + X / 1073741824 = O / 1073741824) : w31 (A : Int) + w31 (X : Int) = w31 (O : Int) := by unfold w31; omega
/-- what the law asks of the three words of bits -/
theorem bitFacts (a b : Int) (ha : inR a) (hb : inR b) :
    w31 (Go.bits .xor .i64 (w31 (Go.bits .xor .i64 a b)) b) = a ∧ w31 (2 * w31 (Go.bits .and .i64 a b) + w31 (Go.bits .xor .i64 a b)) = w31 (a + b) ∧ w31 (Go.bits .and .i64 a b) + w31 (Go.bits .xor .i64 a b) = w31 (Go.bits .or .i64 a b) := by
  rw [xor31 _ b, and31 a b, xor31 a b, or31 a b]
  have hx : (a % 2147483648).toNat < 2147483648 := by omega
  have hy : (b % 2147483648).toNat < 2147483648 := by omega
  have ex : ((a % 2147483648).toNat : Int) = a % 2147483648 := by omega
  have ey : ((b % 2147483648).toNat : Int) = b % 2147483648 := by omega
  generalize (a % 2147483648).toNat = x at *
  generalize (b % 2147483648).toNat = y at *
  have ht := tops x y hx hy
  obtain ⟨s1, s2⟩ := sums _ x y (Nat.lt_succ_self _)
  obtain ⟨la, lx, lo⟩ := lt31 x y hx hy
  refine ⟨?_, w31_sum a b x y _ _ ex ey s1, w31_parts _ _ _ la lx lo s2 ht⟩
  rw [w31_back _ lx, Nat.xor_assoc, Nat.xor_self, Nat.xor_zero]
  exact w31_low a ha x ex

/-! shifts -/
theorem upIs (a : Int) (n : Nat) (ha : inR a) (hn : n ≤ 40) : word_Shift.f a (n : Int) = some (w31 (a * 2 ^ min n 31), 0) := by
  unfold word_Shift.f
  rw [if_neg (by omega)]
  have e : mn (n : Int) 31 = ((min n 31 : Nat) : Int) := by unfold mn; split <;> omega
  rw [e, if_pos (by omega), Int.toNat_natCast, doneIs _ _ _ ha (by unfold inR; omega), w31_wrap]; rfl
theorem downIs (a : Int) (n : Nat) (ha : inR a) (hn : n ≤ 40) : word_Shift.f a (-(n : Int)) = some (w31 (a / 2 ^ min n 31), 0) := by
  by_cases h0 : n = 0
  · subst h0
    have := upIs a 0 ha (by omega)
    simpa using this
  · unfold word_Shift.f
    rw [if_pos (by omega)]
    have e : wrap64 (-(mx (-(n : Int)) (-31))) = ((min n 31 : Nat) : Int) := by rw [wrap64_is] <;> (unfold mx; split <;> omega)
    rw [e, if_pos (by omega), doneIs _ _ _ ha (by unfold inR; omega)]
    unfold shr
    rw [Int.toNat_natCast, show IntKind.i64.bits = 64 from rfl, Nat.min_eq_left (show min n 31 ≤ 64 by omega)]; rfl

/-- a number cut by a power of two, its two parts put together again -/
theorem cutFacts (a : Int) (n : Nat) (ha : inR a) (hn : n ≤ 30) : w31 (wrap64 (w31 (w31 (a / 2 ^ n) * 2 ^ n) + w31 (Go.bits .and .i64 a (w31 (wrap64 (w31 (2 ^ n) - 1)))))) = a ∧ w31 (wrap64 (a * w31 (2 ^ n))) = w31 (a * 2 ^ n) := by
  obtain ⟨p, hpn, hp, h1, h2, h3⟩ : ∃ p : Nat, 2 ^ n = p ∧ (2 : Int) ^ n = p ∧ 1 ≤ p ∧ p ≤ 1073741824 ∧ ∃ q, p * q = 2147483648 := by
    refine ⟨2 ^ n, rfl, by rw [Int.natCast_pow]; rfl, Nat.one_le_two_pow, ?_, 2 ^ (31 - n), ?_⟩
    · exact Nat.le_trans (Nat.pow_le_pow_right (by omega) hn) (by decide)
    · rw [← Nat.pow_add, show n + (31 - n) = 31 by omega]
  obtain ⟨q, hq⟩ := h3
  have hm : w31 (Go.bits .and .i64 a (w31 (wrap64 (w31 (2 ^ n) - 1)))) = a % (p : Int) := by
    rw [and31]
    have e : (w31 (wrap64 (w31 (2 ^ n) - 1)) % 2147483648).toNat = 2 ^ n - 1 := by
      rw [hp, hpn, w31_wrap]; unfold w31; omega
    rw [e, Nat.and_two_pow_sub_one_eq_mod]
    have e2 : ((((a % 2147483648).toNat % 2 ^ n : Nat)) : Int) = a % (p : Int) := by
      rw [hpn]
      have hd : (p : Int) ∣ 2147483648 := ⟨(q : Int), by rw [← Int.natCast_mul, hq]; rfl⟩
      rw [Int.natCast_emod, Int.toNat_of_nonneg (by omega), Int.emod_emod_of_dvd _ hd]
    rw [e2]
    have := Int.emod_nonneg a (b := (p : Int)) (by omega)
    have := Int.emod_lt_of_pos a (b := (p : Int)) (by omega)
    exact w31_self (by unfold inR; omega)
  have hdiv : inR (a / 2 ^ n) := by
    rw [hp]; unfold inR at *
    exact ⟨Int.le_ediv_of_mul_le (by omega) (by omega), Int.ediv_le_of_le_mul (by omega) (by omega)⟩
  constructor
  · rw [hm, w31_self hdiv, w31_wrap, hp]
    have hd := Int.mul_ediv_add_emod a p
    rw [Int.mul_comm] at hd
    have : w31 (w31 (a / ↑p * ↑p) + a % ↑p) = w31 (a / ↑p * ↑p + a % ↑p) := by unfold w31; omega
    rw [this, hd, w31_self ha]
  · rw [w31_wrap]
    obtain ⟨c, hc⟩ : ∃ c, w31 (2 ^ n) = 2 ^ n - 2147483648 * c := ⟨(2 ^ n + 1073741824) / 2147483648, by unfold w31; omega⟩
    rw [hc, Int.mul_sub, show a * (2147483648 * c) = 2147483648 * (a * c) by rw [← Int.mul_assoc, Int.mul_comm a, Int.mul_assoc], w31_less]

/-- a number shifted by all of its bits -/
theorem farFacts (a : Int) (ha : inR a) : w31 (a / 2 ^ 31) = (if a < 0 then -1 else 0) ∧ w31 ((if a < 0 then -1 else 0) * 2 ^ 31) = 0 ∧ w31 (1 * 2 ^ 31) = 0 := by
  rw [show (2 : Int) ^ 31 = 2147483648 from rfl]; unfold inR at ha; unfold w31
  split <;> omega

set_option maxHeartbeats 4000000 in
set_option maxRecDepth 100000 in
/-- shifted by more than its bits, below 0 -/
theorem far_neg (x y by_ a b both one some_ n t1  : Int) (w : World) (hx : Aside0 (kilnlaw1_ranged.f 1 x = some a)) (hy : Aside0 (kilnlaw1_ranged.f 1 y = some b))
    (h1 : Aside0 (word_And.f a b = some (both, 0))) (h2 : Aside0 (word_Xor.f a b = some (one, 0))) (h3 : Aside0 (word_Or.f a b = some (some_, 0))) (h4 : Aside0 (word_Xor.f one b = some (a, 0)))
    (h5 : Aside0 (word_Wrap.f (wrap64 (wrap64 (2 * both) + one)) = some t1)) (h6 : Aside0 (word_Wrap.f (wrap64 (a + b)) = some t1)) (s1 : (wrap64 (both + one) == some_) = true) (s2 : (wrap64 (both + one) != some_) = false)
    (h7 : Aside0 (kilnlaw1_clipped.f 1 by_ 0 40 = some n)) (h8 : Aside0 (word_Shift.f a (wrap64 (-n)) = some (-1, 0))) (h9 : Aside0 (word_Shift.f (-1) n = some (0, 0))) (h10 : Aside0 (word_Shift.f 1 n = some (0, 0)))
    (aa : (a == a) = true) (ab : (a != a) = false) (ta : (t1 == t1) = true) (tb : (t1 != t1) = false) (n0 : decide (30 < n) = true) (a0 : decide (a < 0) = true) (dm : ((-1 : Int) == -1) = true) :
    Calls Try.prog 5 #[.int .i64 x, .int .i64 y, .int .i64 by_] w fun e w' => e = .returned (.bool true) ∧ Below w.heap.size w w' := by
  go_enter Try.func5, Try.ntmps5
  go_wp2_with fail
  refine (kilnlaw1_ranged.calls 1 x a _ hx.out).mono ?_; rintro e w' ⟨rfl, ⟨nd, rfl⟩⟩
  go_wp2_with fail
  refine (kilnlaw1_ranged.calls 1 y b _ hy.out).mono ?_; rintro e w' ⟨rfl, ⟨nd, rfl⟩⟩
  go_wp2_with fail
  refine (word_And.calls a b both 0 _ h1.out).mono ?_; rintro e w' ⟨rfl, ⟨nd, rfl⟩⟩
  go_wp2_with fail
  refine (word_Xor.calls a b one 0 _ h2.out).mono ?_; rintro e w' ⟨rfl, ⟨nd, rfl⟩⟩
  go_wp2_with fail
  refine (word_Or.calls a b some_ 0 _ h3.out).mono ?_; rintro e w' ⟨rfl, ⟨nd, rfl⟩⟩
  go_wp2_with fail
  refine (word_Xor.calls one b a 0 _ h4.out).mono ?_; rintro e w' ⟨rfl, ⟨nd, rfl⟩⟩
  go_wp2_with (go_at_call 17; (with_reducible refine (kilnlaw1_num.calls _ _ _ rfl).mono ?_); rintro e w' ⟨rfl, ⟨nd, rfl⟩⟩)
  refine (word_Wrap.calls _ t1 _ h5.out).mono ?_; rintro e w' ⟨rfl, ⟨nd, rfl⟩⟩
  go_wp2_with fail
  refine (word_Wrap.calls _ t1 _ h6.out).mono ?_; rintro e w' ⟨rfl, ⟨nd, rfl⟩⟩
  go_wp2_with fail
  refine (kilnlaw1_clipped.calls 1 by_ 0 40 n _ h7.out).mono ?_; rintro e w' ⟨rfl, ⟨nd, rfl⟩⟩
  go_wp2_with fail
  refine (word_Shift.calls a _ (-1) 0 _ h8.out).mono ?_; rintro e w1 ⟨rfl, b1⟩
  go_wp2_with fail
  refine (word_Shift.calls (-1) n (0) 0 _ h9.out).mono ?_; rintro e w2 ⟨rfl, b2⟩
  go_wp2_with fail
  refine (word_Shift.calls 1 n (0) 0 _ h10.out).mono ?_; rintro e w3 ⟨rfl, b3⟩
  have B1 : Below w.heap.size w w1 := below_step (pw_below_drewN (Below.refl _ _) _) b1
  have B2 : Below w.heap.size w w2 := below_step B1 b2
  have B3 : Below w.heap.size w w3 := below_step B2 b3
  clear b1 b2 b3 B1 B2
  go_wp2_with (go_at_call 17; (with_reducible refine (kilnlaw1_num.calls _ _ _ rfl).mono ?_); rintro e w' ⟨rfl, ⟨nd, rfl⟩⟩)
  go_ret
  exact ⟨by first | rfl | (simp; done) | (simp [*]; done), by repeat (first | assumption | apply pw_below_drewN)⟩

set_option maxHeartbeats 4000000 in
set_option maxRecDepth 100000 in
/-- shifted by more than its bits, from 0 on -/
theorem far_pos (x y by_ a b both one some_ n t1  : Int) (w : World) (hx : Aside0 (kilnlaw1_ranged.f 1 x = some a)) (hy : Aside0 (kilnlaw1_ranged.f 1 y = some b))
    (h1 : Aside0 (word_And.f a b = some (both, 0))) (h2 : Aside0 (word_Xor.f a b = some (one, 0))) (h3 : Aside0 (word_Or.f a b = some (some_, 0))) (h4 : Aside0 (word_Xor.f one b = some (a, 0)))
    (h5 : Aside0 (word_Wrap.f (wrap64 (wrap64 (2 * both) + one)) = some t1)) (h6 : Aside0 (word_Wrap.f (wrap64 (a + b)) = some t1)) (s1 : (wrap64 (both + one) == some_) = true) (s2 : (wrap64 (both + one) != some_) = false)
    (h7 : Aside0 (kilnlaw1_clipped.f 1 by_ 0 40 = some n)) (h8 : Aside0 (word_Shift.f a (wrap64 (-n)) = some (0, 0))) (h9 : Aside0 (word_Shift.f (0) n = some (0, 0))) (h10 : Aside0 (word_Shift.f 1 n = some (0, 0)))
    (aa : (a == a) = true) (ab : (a != a) = false) (ta : (t1 == t1) = true) (tb : (t1 != t1) = false) (n0 : decide (30 < n) = true) (a0 : decide (a < 0) = false) :
    Calls Try.prog 5 #[.int .i64 x, .int .i64 y, .int .i64 by_] w fun e w' => e = .returned (.bool true) ∧ Below w.heap.size w w' := by
  go_enter Try.func5, Try.ntmps5
  go_wp2_with fail
  refine (kilnlaw1_ranged.calls 1 x a _ hx.out).mono ?_; rintro e w' ⟨rfl, ⟨nd, rfl⟩⟩
  go_wp2_with fail
  refine (kilnlaw1_ranged.calls 1 y b _ hy.out).mono ?_; rintro e w' ⟨rfl, ⟨nd, rfl⟩⟩
  go_wp2_with fail
  refine (word_And.calls a b both 0 _ h1.out).mono ?_; rintro e w' ⟨rfl, ⟨nd, rfl⟩⟩
  go_wp2_with fail
  refine (word_Xor.calls a b one 0 _ h2.out).mono ?_; rintro e w' ⟨rfl, ⟨nd, rfl⟩⟩
  go_wp2_with fail
  refine (word_Or.calls a b some_ 0 _ h3.out).mono ?_; rintro e w' ⟨rfl, ⟨nd, rfl⟩⟩
  go_wp2_with fail
  refine (word_Xor.calls one b a 0 _ h4.out).mono ?_; rintro e w' ⟨rfl, ⟨nd, rfl⟩⟩
  go_wp2_with (go_at_call 17; (with_reducible refine (kilnlaw1_num.calls _ _ _ rfl).mono ?_); rintro e w' ⟨rfl, ⟨nd, rfl⟩⟩)
  refine (word_Wrap.calls _ t1 _ h5.out).mono ?_; rintro e w' ⟨rfl, ⟨nd, rfl⟩⟩
  go_wp2_with fail
  refine (word_Wrap.calls _ t1 _ h6.out).mono ?_; rintro e w' ⟨rfl, ⟨nd, rfl⟩⟩
  go_wp2_with fail
  refine (kilnlaw1_clipped.calls 1 by_ 0 40 n _ h7.out).mono ?_; rintro e w' ⟨rfl, ⟨nd, rfl⟩⟩
  go_wp2_with fail
  refine (word_Shift.calls a _ (0) 0 _ h8.out).mono ?_; rintro e w1 ⟨rfl, b1⟩
  go_wp2_with fail
  refine (word_Shift.calls (0) n (0) 0 _ h9.out).mono ?_; rintro e w2 ⟨rfl, b2⟩
  go_wp2_with fail
  refine (word_Shift.calls 1 n (0) 0 _ h10.out).mono ?_; rintro e w3 ⟨rfl, b3⟩
  have B1 : Below w.heap.size w w1 := below_step (pw_below_drewN (Below.refl _ _) _) b1
  have B2 : Below w.heap.size w w2 := below_step B1 b2
  have B3 : Below w.heap.size w w3 := below_step B2 b3
  clear b1 b2 b3 B1 B2
  go_wp2_with (go_at_call 17; (with_reducible refine (kilnlaw1_num.calls _ _ _ rfl).mono ?_); rintro e w' ⟨rfl, ⟨nd, rfl⟩⟩)
  go_ret
  exact ⟨by first | rfl | (simp; done) | (simp [*]; done), by repeat (first | assumption | apply pw_below_drewN)⟩

set_option maxHeartbeats 4000000 in
set_option maxRecDepth 100000 in
/-- shifted by some of its bits -/
theorem near (x y by_ a b both one some_ n t1 down up power pm m tm : Int) (w : World) (hx : Aside0 (kilnlaw1_ranged.f 1 x = some a)) (hy : Aside0 (kilnlaw1_ranged.f 1 y = some b))
    (h1 : Aside0 (word_And.f a b = some (both, 0))) (h2 : Aside0 (word_Xor.f a b = some (one, 0))) (h3 : Aside0 (word_Or.f a b = some (some_, 0))) (h4 : Aside0 (word_Xor.f one b = some (a, 0)))
    (h5 : Aside0 (word_Wrap.f (wrap64 (wrap64 (2 * both) + one)) = some t1)) (h6 : Aside0 (word_Wrap.f (wrap64 (a + b)) = some t1)) (s1 : (wrap64 (both + one) == some_) = true) (s2 : (wrap64 (both + one) != some_) = false)
    (h7 : Aside0 (kilnlaw1_clipped.f 1 by_ 0 40 = some n)) (h8 : Aside0 (word_Shift.f a (wrap64 (-n)) = some (down, 0))) (h9 : Aside0 (word_Shift.f (down) n = some (up, 0))) (h10 : Aside0 (word_Shift.f 1 n = some (power, 0)))
    (aa : (a == a) = true) (ab : (a != a) = false) (ta : (t1 == t1) = true) (tb : (t1 != t1) = false) (n0 : decide (30 < n) = false) (h11 : Aside0 (word_Wrap.f (wrap64 (power - 1)) = some pm)) (h12 : Aside0 (word_And.f a pm = some (m, 0))) (h13 : Aside0 (word_Mul.f a power = some (tm, 0))) (h14 : Aside0 (word_Shift.f a n = some (tm, 0))) (h15 : Aside0 (word_Wrap.f (wrap64 (up + m)) = some a)) (tt : (tm == tm) = true) :
    Calls Try.prog 5 #[.int .i64 x, .int .i64 y, .int .i64 by_] w fun e w' => e = .returned (.bool true) ∧ Below w.heap.size w w' := by
  go_enter Try.func5, Try.ntmps5
  go_wp2_with fail
  refine (kilnlaw1_ranged.calls 1 x a _ hx.out).mono ?_; rintro e w' ⟨rfl, ⟨nd, rfl⟩⟩
  go_wp2_with fail
  refine (kilnlaw1_ranged.calls 1 y b _ hy.out).mono ?_; rintro e w' ⟨rfl, ⟨nd, rfl⟩⟩
  go_wp2_with fail
  refine (word_And.calls a b both 0 _ h1.out).mono ?_; rintro e w' ⟨rfl, ⟨nd, rfl⟩⟩
  go_wp2_with fail
  refine (word_Xor.calls a b one 0 _ h2.out).mono ?_; rintro e w' ⟨rfl, ⟨nd, rfl⟩⟩
  go_wp2_with fail
  refine (word_Or.calls a b some_ 0 _ h3.out).mono ?_; rintro e w' ⟨rfl, ⟨nd, rfl⟩⟩
  go_wp2_with fail
  refine (word_Xor.calls one b a 0 _ h4.out).mono ?_; rintro e w' ⟨rfl, ⟨nd, rfl⟩⟩
  go_wp2_with (go_at_call 17; (with_reducible refine (kilnlaw1_num.calls _ _ _ rfl).mono ?_); rintro e w' ⟨rfl, ⟨nd, rfl⟩⟩)
  refine (word_Wrap.calls _ t1 _ h5.out).mono ?_; rintro e w' ⟨rfl, ⟨nd, rfl⟩⟩
  go_wp2_with fail
  refine (word_Wrap.calls _ t1 _ h6.out).mono ?_; rintro e w' ⟨rfl, ⟨nd, rfl⟩⟩
  go_wp2_with fail
  refine (kilnlaw1_clipped.calls 1 by_ 0 40 n _ h7.out).mono ?_; rintro e w' ⟨rfl, ⟨nd, rfl⟩⟩
  go_wp2_with fail
  refine (word_Shift.calls a _ (down) 0 _ h8.out).mono ?_; rintro e w1 ⟨rfl, b1⟩
  go_wp2_with fail
  refine (word_Shift.calls (down) n (up) 0 _ h9.out).mono ?_; rintro e w2 ⟨rfl, b2⟩
  go_wp2_with fail
  refine (word_Shift.calls 1 n (power) 0 _ h10.out).mono ?_; rintro e w3 ⟨rfl, b3⟩
  have B1 : Below w.heap.size w w1 := below_step (pw_below_drewN (Below.refl _ _) _) b1
  have B2 : Below w.heap.size w w2 := below_step B1 b2
  have B3 : Below w.heap.size w w3 := below_step B2 b3
  clear b1 b2 b3 B1 B2
  go_wp2_with (go_at_call 17; (with_reducible refine (kilnlaw1_num.calls _ _ _ rfl).mono ?_); rintro e w' ⟨rfl, ⟨nd, rfl⟩⟩)
  refine (word_Wrap.calls _ pm _ h11.out).mono ?_; rintro e w' ⟨rfl, ⟨nd, rfl⟩⟩
  go_wp2_with fail
  refine (word_And.calls a pm m 0 _ h12.out).mono ?_; rintro e w' ⟨rfl, ⟨nd, rfl⟩⟩
  go_wp2_with fail
  refine (word_Mul.calls a power tm 0 _ h13.out).mono ?_; rintro e w' ⟨rfl, ⟨nd, rfl⟩⟩
  go_wp2_with fail
  refine (word_Shift.calls a n tm 0 _ h14.out).mono ?_; rintro e w4 ⟨rfl, b4⟩
  have B4 : Below w.heap.size w w4 := below_step (pw_below_drewN B3 _) b4
  clear b4 B3
  go_wp2_with (first | (go_at_call 17; (with_reducible refine (kilnlaw1_num.calls _ _ _ rfl).mono ?_); rintro e w' ⟨rfl, ⟨nd, rfl⟩⟩) | (go_at_call 18; (with_reducible refine (word_Wrap.calls _ a _ h15.out).mono ?_); rintro e w' ⟨rfl, ⟨nd, rfl⟩⟩))
  go_ret
  exact ⟨by first | rfl | (simp; done) | (simp [*]; done), by repeat (first | assumption | apply pw_below_drewN)⟩

theorem logic_walk (x y by_ : Int) (w : World) : Calls Try.prog 5 #[.int .i64 x, .int .i64 y, .int .i64 by_] w fun e w' => e = .returned (.bool true) ∧ Below w.heap.size w w' := by
  obtain ⟨a, hx, ha⟩ := rangedIs 0 x
  obtain ⟨b, hy, hb⟩ := rangedIs 0 y
  obtain ⟨n, hn, hn40⟩ := countIs 0 by_
  obtain ⟨g1, g2, g3⟩ := bitFacts a b ha hb
  have h1 : word_And.f a b = some (w31 (Go.bits .and .i64 a b), 0) := by unfold word_And.f; rw [doneIs _ _ _ ha hb]; rfl
  have h2 : word_Xor.f a b = some (w31 (Go.bits .xor .i64 a b), 0) := by unfold word_Xor.f; rw [doneIs _ _ _ ha hb]; rfl
  have h3 : word_Or.f a b = some (w31 (Go.bits .or .i64 a b), 0) := by unfold word_Or.f; rw [doneIs _ _ _ ha hb]; rfl
  have h4 : word_Xor.f (w31 (Go.bits .xor .i64 a b)) b = some (a, 0) := by unfold word_Xor.f; rw [doneIs _ _ _ (w31_in _) hb, g1]; rfl
  have i1 := w31_in (Go.bits .and .i64 a b)
  have i2 := w31_in (Go.bits .xor .i64 a b)
  generalize w31 (Go.bits .and .i64 a b) = both at *
  generalize w31 (Go.bits .xor .i64 a b) = one at *
  generalize w31 (Go.bits .or .i64 a b) = some_ at *
  have e0 : wrap64 (2 * both) = 2 * both := wrap64_is (by unfold inR at i1; omega) (by unfold inR at i1; omega)
  have h5 : word_Wrap.f (wrap64 (wrap64 (2 * both) + one)) = some (w31 (a + b)) := by rw [wrapIs, w31_wrap, e0, g2]
  have h6 : word_Wrap.f (wrap64 (a + b)) = some (w31 (a + b)) := by rw [wrapIs, w31_wrap]
  have s0 : wrap64 (both + one) = some_ := by rw [wrap64_is (by unfold inR at i1 i2; omega) (by unfold inR at i1 i2; omega), g3]
  have s1 : (wrap64 (both + one) == some_) = true := beq_iff_eq.mpr s0
  have s2 : (wrap64 (both + one) != some_) = false := bne_eq_false_iff_eq.mpr s0
  have aa : (a == a) = true := beq_self_eq_true a
  have ab : (a != a) = false := bne_self_eq_false a
  have ta : (w31 (a + b) == w31 (a + b)) = true := beq_self_eq_true _
  have tb : (w31 (a + b) != w31 (a + b)) = false := bne_self_eq_false _
  have en : wrap64 (-(n : Int)) = -(n : Int) := wrap64_is (by omega) (by omega)
  have h8 : word_Shift.f a (wrap64 (-(n : Int))) = some (w31 (a / 2 ^ min n 31), 0) := by rw [en]; exact downIs a n ha hn40
  have h10 : word_Shift.f 1 (n : Int) = some (w31 (1 * 2 ^ min n 31), 0) := upIs 1 n (by unfold inR; omega) hn40
  generalize w31 (a + b) = t1 at *
  by_cases hf : 30 < n
  · rw [Nat.min_eq_right (show 31 ≤ n by omega)] at h8 h10
    obtain ⟨f1, f2, f3⟩ := farFacts a ha
    rw [f1] at h8
    rw [f3] at h10
    have n0 : decide (30 < (n : Int)) = true := decide_eq_true (by omega)
    by_cases hn : a < 0
    · rw [if_pos hn] at h8 f2
      have h9 : word_Shift.f (-1) (n : Int) = some (0, 0) := by rw [upIs (-1) n (by unfold inR; omega) hn40, Nat.min_eq_right (show 31 ≤ n by omega), f2]
      exact far_neg x y by_ a b both one some_ n t1 w ⟨hx⟩ ⟨hy⟩ ⟨h1⟩ ⟨h2⟩ ⟨h3⟩ ⟨h4⟩ ⟨h5⟩ ⟨h6⟩ s1 s2 ⟨‹_›⟩ ⟨h8⟩ ⟨h9⟩ ⟨h10⟩ aa ab ta tb n0 (decide_eq_true hn) rfl
    · rw [if_neg hn] at h8 f2
      have h9 : word_Shift.f 0 (n : Int) = some (0, 0) := by rw [upIs 0 n (by unfold inR; omega) hn40, Nat.min_eq_right (show 31 ≤ n by omega), f2]
      exact far_pos x y by_ a b both one some_ n t1 w ⟨hx⟩ ⟨hy⟩ ⟨h1⟩ ⟨h2⟩ ⟨h3⟩ ⟨h4⟩ ⟨h5⟩ ⟨h6⟩ s1 s2 ⟨‹_›⟩ ⟨h8⟩ ⟨h9⟩ ⟨h10⟩ aa ab ta tb n0 (decide_eq_false hn)
  · rw [Nat.min_eq_left (show n ≤ 31 by omega)] at h8 h10
    rw [Int.one_mul] at h10
    obtain ⟨c1, c2⟩ := cutFacts a n ha (by omega)
    have h9 : word_Shift.f (w31 (a / 2 ^ n)) (n : Int) = some (w31 (w31 (a / 2 ^ n) * 2 ^ n), 0) := by rw [upIs _ n (w31_in _) hn40, Nat.min_eq_left (show n ≤ 31 by omega)]
    have h14 : word_Shift.f a (n : Int) = some (w31 (a * 2 ^ n), 0) := by rw [upIs _ n ha hn40, Nat.min_eq_left (show n ≤ 31 by omega)]
    have h13 : word_Mul.f a (w31 (2 ^ n)) = some (w31 (a * 2 ^ n), 0) := by unfold word_Mul.f; rw [doneIs _ _ _ ha (w31_in _), c2]; rfl
    have h11 : word_Wrap.f (wrap64 (w31 (2 ^ n) - 1)) = some (w31 (wrap64 (w31 (2 ^ n) - 1))) := wrapIs _
    have h12 : word_And.f a (w31 (wrap64 (w31 (2 ^ n) - 1))) = some (w31 (Go.bits .and .i64 a (w31 (wrap64 (w31 (2 ^ n) - 1)))), 0) := by unfold word_And.f; rw [doneIs _ _ _ ha (w31_in _)]; rfl
    have h15 : word_Wrap.f (wrap64 (w31 (w31 (a / 2 ^ n) * 2 ^ n) + w31 (Go.bits .and .i64 a (w31 (wrap64 (w31 (2 ^ n) - 1)))))) = some a := by rw [wrapIs, c1]
    exact near x y by_ a b both one some_ n t1 _ _ _ _ _ _ w ⟨hx⟩ ⟨hy⟩ ⟨h1⟩ ⟨h2⟩ ⟨h3⟩ ⟨h4⟩ ⟨h5⟩ ⟨h6⟩ s1 s2 ⟨hn⟩ ⟨h8⟩ ⟨h9⟩ ⟨h10⟩ aa ab ta tb (decide_eq_false (by omega)) ⟨h11⟩ ⟨h12⟩ ⟨h13⟩ ⟨h14⟩ ⟨h15⟩ (beq_self_eq_true _)
end Go.Proofs.Ytcnjdgafemgaeaa.Logic
