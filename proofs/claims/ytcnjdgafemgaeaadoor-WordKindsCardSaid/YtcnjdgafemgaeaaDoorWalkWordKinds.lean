/- The law WordKinds, walked: of any number its words, its kind, wrapped, in digits, as the program's package word and the reference kilnref1 answer, so the call returns true. Conditions: the tables word.kinds and strconv's powers of ten are laid. -/
import Derived.Test.YtcnjdgafemgaeaaDoorWalkWordOnce
import Derived.Lib.AppendIntMem
import Derived.Test.YtcnjdgafemgaeaaDoorShelf
import Derived.Lib.ItoaNum
import Derived.Stop.LaidErr
namespace Go.Proofs.YtcnjdgafemgaeaaDoor.Refs
open Go.RowKit Go.Proofs.YtcnjdgafemgaeaaDoor.PWordOnce Go.Proofs.YtcnjdgafemgaeaaDoorW.PrintWords Go.Proofs.YtcnjdgafemgaeaaDoorW.PrintLast Go.Proofs.YtcnjdgafemgaeaaDoorW.PrintMore Go.Proofs.YtcnjdgafemgaeaaDoor.Kinds
attribute [local go_sem] max2_int min2_int max_two min_two max_three min_three max_four min_four
set_option linter.unusedVariables false
set_option linter.unusedSimpArgs false

/-- is a number in range? -/
def inB (n : Int) : Bool := decide (-1073741824 ≤ n ∧ n ≤ 1073741823)
theorem refIn_calls (n : Int) (w : World) (r : Bool) (h : Aside0 (inB n = r)) : Calls Tryd.prog 27 #[.int .i64 n] w fun e w' => e = .returned (.bool r) ∧ Drawn0 w w' := by
  have h' := h.out
  unfold inB at h'
  by_cases c : -1073741824 ≤ n
  · have c1 : decide (-1073741824 ≤ n) = true := decide_eq_true c
    by_cases d : n ≤ 1073741823
    · have d1 : decide (n ≤ 1073741823) = true := decide_eq_true d
      obtain rfl : r = true := by rw [← h']; simp [c, d]
      clear h h'
      go_enter Tryd.func27, Tryd.ntmps27
      go_wp2
      go_ret
      exact ⟨by first | rfl | (simp; done) | (simp [*]; done), by repeat (first | exact Drawn0.refl _ | apply Drawn0.step)⟩
    · have d1 : decide (n ≤ 1073741823) = false := decide_eq_false d
      obtain rfl : r = false := by rw [← h']; simp [c, d]
      clear h h'
      go_enter Tryd.func27, Tryd.ntmps27
      go_wp2
      go_ret
      exact ⟨by first | rfl | (simp; done) | (simp [*]; done), by repeat (first | exact Drawn0.refl _ | apply Drawn0.step)⟩
  · have c1 : decide (-1073741824 ≤ n) = false := decide_eq_false c
    obtain rfl : r = false := by rw [← h']; simp [c]
    clear h h'
    go_enter Tryd.func27, Tryd.ntmps27
    go_wp2
    go_ret
    exact ⟨by first | rfl | (simp; done) | (simp [*]; done), by repeat (first | exact Drawn0.refl _ | apply Drawn0.step)⟩

/-- the word of a number -/
theorem refInt_yes (n : Int) (w : World) (h : Aside0 (inB n = true)) (h0 : -1073741824 ≤ n) (h1 : n ≤ 1073741823) : Calls Tryd.prog 15 #[.int .i64 n] w fun e w' => e = .returned (.tuple #[.int .i64 (2 * n + 1), .int .i64 0]) ∧ Drawn0 w w' := by
  go_enter Tryd.func15, Tryd.ntmps15
  go_wp2_with (go_at_call 27; (with_reducible refine (refIn_calls n _ true h).mono ?_); rintro e w' ⟨rfl, ⟨nd, rfl⟩⟩)
  go_ret2
  exact ⟨by first | rfl | (simp; done) | (simp [*]; done), by repeat (first | exact Drawn0.refl _ | apply Drawn0.step)⟩
theorem refInt_no (n : Int) (w : World) (h : Aside0 (inB n = false)) : Calls Tryd.prog 15 #[.int .i64 n] w fun e w' => e = .returned (.tuple #[.int .i64 0, .int .i64 1]) ∧ Drawn0 w w' := by
  go_enter Tryd.func15, Tryd.ntmps15
  go_wp2_with (go_at_call 27; (with_reducible refine (refIn_calls n _ false h).mono ?_); rintro e w' ⟨rfl, ⟨nd, rfl⟩⟩)
  go_ret2
  exact ⟨by first | rfl | (simp; done) | (simp [*]; done), by repeat (first | exact Drawn0.refl _ | apply Drawn0.step)⟩
/-- one of a symbol, of an object -/
theorem refSymbol_calls (n : Int) (w : World) (a e0 : Int) (h : Aside0 (word_Symbol.f n = some (a, e0))) : Calls Tryd.prog 16 #[.int .i64 n] w fun e w' => e = .returned (.tuple #[.int .i64 a, .int .i64 e0]) ∧ Drawn0 w w' := by
  have h' := h.out
  clear h
  by_cases c : n < 0
  · have c1 : decide (n < 0) = true := decide_eq_true c
    unfold word_Symbol.f at h'; rw [if_pos c] at h'; cases h'
    go_enter Tryd.func16, Tryd.ntmps16
    go_wp2
    go_ret2
    exact ⟨by first | rfl | (simp; done) | (simp [*]; done), by repeat (first | exact Drawn0.refl _ | apply Drawn0.step)⟩
  · have c1 : decide (n < 0) = false := decide_eq_false c
    by_cases d : 4096 ≤ n
    · have d1 : decide (4096 ≤ n) = true := decide_eq_true d
      unfold word_Symbol.f at h'; rw [if_neg c, if_pos d] at h'; cases h'
      go_enter Tryd.func16, Tryd.ntmps16
      go_wp2
      go_ret2
      exact ⟨by first | rfl | (simp; done) | (simp [*]; done), by repeat (first | exact Drawn0.refl _ | apply Drawn0.step)⟩
    · have d1 : decide (4096 ≤ n) = false := decide_eq_false d
      rw [orTwo n (by omega) (by omega)] at h'; cases h'
      go_enter Tryd.func16, Tryd.ntmps16
      go_wp2
      go_ret2
      exact ⟨by first | rfl | (simp; done) | (simp [*]; done), by repeat (first | exact Drawn0.refl _ | apply Drawn0.step)⟩
theorem refObject_calls (n : Int) (w : World) (a e0 : Int) (h : Aside0 (word_Object.f n = some (a, e0))) : Calls Tryd.prog 17 #[.int .i64 n] w fun e w' => e = .returned (.tuple #[.int .i64 a, .int .i64 e0]) ∧ Drawn0 w w' := by
  have h' := h.out
  clear h
  by_cases c : n < 1
  · have c1 : decide (n < 1) = true := decide_eq_true c
    unfold word_Object.f at h'; rw [if_pos c] at h'; cases h'
    go_enter Tryd.func17, Tryd.ntmps17
    go_wp2
    go_ret2
    exact ⟨by first | rfl | (simp; done) | (simp [*]; done), by repeat (first | exact Drawn0.refl _ | apply Drawn0.step)⟩
  · have c1 : decide (n < 1) = false := decide_eq_false c
    by_cases d : 65536 < n
    · have d1 : decide (65536 < n) = true := decide_eq_true d
      unfold word_Object.f at h'; rw [if_neg c, if_pos d] at h'; cases h'
      go_enter Tryd.func17, Tryd.ntmps17
      go_wp2
      go_ret2
      exact ⟨by first | rfl | (simp; done) | (simp [*]; done), by repeat (first | exact Drawn0.refl _ | apply Drawn0.step)⟩
    · have d1 : decide (65536 < n) = false := decide_eq_false d
      rw [upTwo n (by omega) (by omega)] at h'; cases h'
      go_enter Tryd.func17, Tryd.ntmps17
      go_wp2
      go_ret2
      exact ⟨by first | rfl | (simp; done) | (simp [*]; done), by repeat (first | exact Drawn0.refl _ | apply Drawn0.step)⟩
/-- which kind of word it is -/
theorem refKind_calls (x : Int) (w : World) (k : Int) (h : Aside0 (kindOf x = k)) : Calls Tryd.prog 22 #[.int .i64 x] w fun e w' => e = .returned (.int .i64 k) ∧ Drawn0 w w' := by
  have M : Aside0 ((x.tmod 2 = 0 ↔ x % 2 = 0) ∧ (x.tmod 4 = 2 ↔ x % 4 = 2 ∧ 0 ≤ x) ∧ (x.tmod 4 = 0 ↔ x % 4 = 0)) :=
    ⟨by rw [Int.tmod_eq_emod]; split <;> omega, by rw [Int.tmod_eq_emod]; split <;> omega, by rw [Int.tmod_eq_emod]; split <;> omega⟩
  by_cases c : x.tmod 2 = 0
  · have c1 : (x.tmod 2 != 0) = false := bne_eq_false_iff_eq.mpr c
    have C := Aside0.mk c; clear c
    go_enter Tryd.func22, Tryd.ntmps22
    go_wp2
    all_goals
      go_ret
      refine ⟨?_, by repeat (first | exact Drawn0.refl _ | apply Drawn0.step)⟩
      obtain ⟨m2, m4, m5⟩ := M.out
      have c := C.out; clear C c1
      have h' := h.out
      clear M h
      generalize x.tmod 2 = p at *
      generalize x.tmod 4 = q at *
      have : ∀ a : Int, a = k → Ending.returned (.int .i64 a) = .returned (.int .i64 k) := fun a e => by rw [e]
      refine this _ ?_
      rw [← h']; unfold kindOf
      split <;> split <;> (try split) <;> first | rfl | (exfalso; omega)
  · have c1 : (x.tmod 2 != 0) = true := bne_iff_ne.mpr c
    have C := Aside0.mk c; clear c
    go_enter Tryd.func22, Tryd.ntmps22
    go_wp2
    all_goals
      go_ret
      refine ⟨?_, by repeat (first | exact Drawn0.refl _ | apply Drawn0.step)⟩
      obtain ⟨m2, m4, m5⟩ := M.out
      have c := C.out; clear C c1
      have h' := h.out
      clear M h
      generalize x.tmod 2 = p at *
      generalize x.tmod 4 = q at *
      have : ∀ a : Int, a = k → Ending.returned (.int .i64 a) = .returned (.int .i64 k) := fun a e => by rw [e]
      refine this _ ?_
      rw [← h']; unfold kindOf
      split <;> split <;> (try split) <;> first | rfl | (exfalso; omega)
theorem refNum_calls (x : Int) (w : World) (i e0 : Int) (h : Aside0 ((if kindOf x = 1 then x / 2 else 0) = i ∧ (if kindOf x = 1 then 0 else 10) = e0)) :
    Calls Tryd.prog 23 #[.int .i64 x] w fun e w' => e = .returned (.tuple #[.int .i64 i, .int .i64 e0]) ∧ Drawn0 w w' := by
  obtain ⟨h1, h2⟩ := h.out
  clear h
  by_cases c : kindOf x = 1
  · rw [if_pos c] at h1 h2
    subst h1 h2
    have hv : -1073741824 ≤ x / 2 ∧ x / 2 ≤ 1073741823 ∧ x % 2 = 1 := by
      unfold kindOf at c; split at c <;> split at c <;> (try split at c) <;> first | omega | (exfalso; omega)
    have b0 : -2147483648 ≤ x := by omega
    have b1 : x ≤ 2147483647 := by omega
    have ev : Aside0 ((x - 1).tdiv 2 = x / 2) := ⟨by rw [Int.tdiv_eq_ediv]; split <;> omega⟩
    have K : Aside0 (kindOf x = 1) := ⟨c⟩
    clear c hv
    go_enter Tryd.func23, Tryd.ntmps23
    go_wp2_with (go_at_call 22; (with_reducible refine (refKind_calls x _ 1 K).mono ?_); rintro e w' ⟨rfl, ⟨nd, rfl⟩⟩)
    go_ret2
    exact ⟨by have := ev.out; simp [this], by repeat (first | exact Drawn0.refl _ | apply Drawn0.step)⟩
  · rw [if_neg c] at h1 h2
    subst h1 h2
    have c1 : (kindOf x == 1) = false := beq_eq_false_iff_ne.mpr c
    have c2 : (kindOf x != 1) = true := bne_iff_ne.mpr c
    clear c
    go_enter Tryd.func23, Tryd.ntmps23
    go_wp2_with (go_at_call 22; (with_reducible refine (refKind_calls x _ _ ⟨rfl⟩).mono ?_); rintro e w' ⟨rfl, ⟨nd, rfl⟩⟩)
    go_ret2
    exact ⟨by first | rfl | (simp; done) | (simp [*]; done), by repeat (first | exact Drawn0.refl _ | apply Drawn0.step)⟩
theorem refSym_calls (x : Int) (w : World) (i e0 : Int) (h : Aside0 ((if kindOf x = 2 then x / 4 else 0) = i ∧ (if kindOf x = 2 then 0 else 10) = e0)) :
    Calls Tryd.prog 24 #[.int .i64 x] w fun e w' => e = .returned (.tuple #[.int .i64 i, .int .i64 e0]) ∧ Drawn0 w w' := by
  obtain ⟨h1, h2⟩ := h.out
  clear h
  by_cases c : kindOf x = 2
  · rw [if_pos c] at h1 h2
    subst h1 h2
    have hv : 0 ≤ x / 4 ∧ x / 4 ≤ 4095 ∧ x % 4 = 2 := by
      unfold kindOf at c; split at c <;> split at c <;> (try split at c) <;> first | omega | (exfalso; omega)
    have b0 : 2 ≤ x := by omega
    have b1 : x ≤ 16383 := by omega
    have ev : Aside0 ((x - 2) / 4 = x / 4) := ⟨by omega⟩
    have K : Aside0 (kindOf x = 2) := ⟨c⟩
    clear c hv
    go_enter Tryd.func24, Tryd.ntmps24
    go_wp2_with (go_at_call 22; (with_reducible refine (refKind_calls x _ 2 K).mono ?_); rintro e w' ⟨rfl, ⟨nd, rfl⟩⟩)
    go_ret2
    exact ⟨by have := ev.out; simp [this], by repeat (first | exact Drawn0.refl _ | apply Drawn0.step)⟩
  · rw [if_neg c] at h1 h2
    subst h1 h2
    have c1 : (kindOf x == 2) = false := beq_eq_false_iff_ne.mpr c
    have c2 : (kindOf x != 2) = true := bne_iff_ne.mpr c
    clear c
    go_enter Tryd.func24, Tryd.ntmps24
    go_wp2_with (go_at_call 22; (with_reducible refine (refKind_calls x _ _ ⟨rfl⟩).mono ?_); rintro e w' ⟨rfl, ⟨nd, rfl⟩⟩)
    go_ret2
    exact ⟨by first | rfl | (simp; done) | (simp [*]; done), by repeat (first | exact Drawn0.refl _ | apply Drawn0.step)⟩
theorem refOop_calls (x : Int) (w : World) (i e0 : Int) (h : Aside0 ((if kindOf x = 3 then x / 4 else 0) = i ∧ (if kindOf x = 3 then 0 else 10) = e0)) :
    Calls Tryd.prog 25 #[.int .i64 x] w fun e w' => e = .returned (.tuple #[.int .i64 i, .int .i64 e0]) ∧ Drawn0 w w' := by
  obtain ⟨h1, h2⟩ := h.out
  clear h
  by_cases c : kindOf x = 3
  · rw [if_pos c] at h1 h2
    subst h1 h2
    have hv : 1 ≤ x / 4 ∧ x / 4 ≤ 65536 ∧ x % 4 = 0 := by
      unfold kindOf at c; split at c <;> split at c <;> (try split at c) <;> first | omega | (exfalso; omega)
    have b0 : 4 ≤ x := by omega
    have b1 : x ≤ 262144 := by omega
    have K : Aside0 (kindOf x = 3) := ⟨c⟩
    clear c hv
    go_enter Tryd.func25, Tryd.ntmps25
    go_wp2_with (go_at_call 22; (with_reducible refine (refKind_calls x _ 3 K).mono ?_); rintro e w' ⟨rfl, ⟨nd, rfl⟩⟩)
    go_ret2
    exact ⟨by first | rfl | (simp; done) | (simp [*]; done), by repeat (first | exact Drawn0.refl _ | apply Drawn0.step)⟩
  · rw [if_neg c] at h1 h2
    subst h1 h2
    have c1 : (kindOf x == 3) = false := beq_eq_false_iff_ne.mpr c
    have c2 : (kindOf x != 3) = true := bne_iff_ne.mpr c
    clear c
    go_enter Tryd.func25, Tryd.ntmps25
    go_wp2_with (go_at_call 22; (with_reducible refine (refKind_calls x _ _ ⟨rfl⟩).mono ?_); rintro e w' ⟨rfl, ⟨nd, rfl⟩⟩)
    go_ret2
    exact ⟨by first | rfl | (simp; done) | (simp [*]; done), by repeat (first | exact Drawn0.refl _ | apply Drawn0.step)⟩
def w31 (n : Int) : Int := (n + 1073741824) % 2147483648 - 1073741824
theorem wrap_calls (n : Int) (w : World) : Calls Tryd.prog 20 #[.int .i64 n] w fun e w' => e = .returned (.int .i64 (w31 n)) ∧ Drawn0 w w' := by
  have e : Aside0 (wrap64 (n * 8589934592) / 8589934592 = w31 n) := ⟨by unfold w31 wrap64; omega⟩
  go_enter Tryd.func20, Tryd.ntmps20
  go_wp2
  go_ret
  exact ⟨by rw [← e.out]; rfl, by repeat (first | exact Drawn0.refl _ | apply Drawn0.step)⟩
theorem low_calls (n : Int) (w : World) : Calls Tryd.prog 30 #[.int .i64 n] w fun e w' => e = .returned (.int .i64 (n % 2147483648)) ∧ Drawn0 w w' := by
  have F : Aside0 (if n.tmod 2147483648 < 0 then wrap64 (n.tmod 2147483648 + 2147483648) = n % 2147483648 else n.tmod 2147483648 = n % 2147483648) := ⟨by
    have t : n.tmod 2147483648 = if 0 ≤ n ∨ (2147483648 : Int) ∣ n then n % 2147483648 else n % 2147483648 - 2147483648 := by rw [Int.tmod_eq_emod]; split <;> omega
    rw [t]; unfold wrap64; split <;> split <;> omega⟩
  by_cases c : n.tmod 2147483648 < 0
  · have c1 : decide (n.tmod 2147483648 < 0) = true := decide_eq_true c
    rw [if_pos c] at F
    clear c
    go_enter Tryd.func30, Tryd.ntmps30
    go_wp2
    go_ret
    exact ⟨by rw [← F.out]; rfl, by repeat (first | exact Drawn0.refl _ | apply Drawn0.step)⟩
  · have c1 : decide (n.tmod 2147483648 < 0) = false := decide_eq_false c
    rw [if_neg c] at F
    clear c
    go_enter Tryd.func30, Tryd.ntmps30
    go_wp2
    go_ret
    exact ⟨by rw [← F.out]; rfl, by repeat (first | exact Drawn0.refl _ | apply Drawn0.step)⟩
theorem refWrap_calls (n : Int) (w : World) : Calls Tryd.prog 21 #[.int .i64 n] w fun e w' => e = .returned (.int .i64 (w31 n)) ∧ Drawn0 w w' := by
  have L := low_calls n
  have b0 : 0 ≤ n % 2147483648 := by omega
  have b1 : n % 2147483648 < 2147483648 := by omega
  have F : Aside0 (if 1073741823 < n % 2147483648 then n % 2147483648 - 2147483648 = w31 n else n % 2147483648 = w31 n) := ⟨by unfold w31; split <;> omega⟩
  generalize n % 2147483648 = r at *
  have L' := Aside0.mk L
  clear L
  by_cases c : 1073741823 < r
  · have c1 : decide (1073741823 < r) = true := decide_eq_true c
    rw [if_pos c] at F
    go_enter Tryd.func21, Tryd.ntmps21
    go_wp2_with (go_at_call 30; (with_reducible refine (L'.out _).mono ?_); rintro e w' ⟨rfl, ⟨nd, rfl⟩⟩)
    go_ret
    exact ⟨by rw [← F.out]; rfl, by repeat (first | exact Drawn0.refl _ | apply Drawn0.step)⟩
  · have c1 : decide (1073741823 < r) = false := decide_eq_false c
    rw [if_neg c] at F
    go_enter Tryd.func21, Tryd.ntmps21
    go_wp2_with (go_at_call 30; (with_reducible refine (L'.out _).mono ?_); rintro e w' ⟨rfl, ⟨nd, rfl⟩⟩)
    go_ret
    exact ⟨by rw [← F.out]; rfl, by repeat (first | exact Drawn0.refl _ | apply Drawn0.step)⟩
/-- the digits that stand behind a number's leading ones -/
def Parts (N m : Nat) (S : ByteArray) : Prop := Lib.decDigits N = (if m < 10 then [] else Lib.decDigits (m / 10)) ++ S.data.toList ∧ S.size + m ≤ N + 1
def ten : ByteArray := ⟨#[48, 49, 50, 51, 52, 53, 54, 55, 56, 57]⟩
theorem digit_of (d : Nat) (h : d < 10) : ((⟨#[48, 49, 50, 51, 52, 53, 54, 55, 56, 57]⟩ : ByteArray).extract d (d + 1)) = ⟨#[UInt8.ofNat (48 + d)]⟩ := by
  match d, h with
  | 0, _ => rfl
  | 1, _ => rfl
  | 2, _ => rfl
  | 3, _ => rfl
  | 4, _ => rfl
  | 5, _ => rfl
  | 6, _ => rfl
  | 7, _ => rfl
  | 8, _ => rfl
  | 9, _ => rfl
theorem parts_start (N : Nat) : Parts N N (((⟨#[48, 49, 50, 51, 52, 53, 54, 55, 56, 57]⟩ : ByteArray)).extract (N % 10) (N % 10 + 1)) := by
  rw [digit_of _ (by omega)]
  refine ⟨?_, by show 1 + N ≤ N + 1; omega⟩
  by_cases h : N < 10
  · rw [if_pos h, Lib.decDigits, dif_pos h, show N % 10 = N by omega]; rfl
  · rw [if_neg h, Lib.decDigits, dif_neg h]
theorem parts_step (N m : Nat) (S : ByteArray) (h : Parts N m S) (h9 : ¬ m < 10) : Parts N (m / 10) (((⟨#[48, 49, 50, 51, 52, 53, 54, 55, 56, 57]⟩ : ByteArray)).extract (m / 10 % 10) (m / 10 % 10 + 1) ++ S) := by
  rw [digit_of _ (by omega)]
  have hs : ((⟨#[UInt8.ofNat (48 + m / 10 % 10)]⟩ : ByteArray) ++ S).data.toList = UInt8.ofNat (48 + m / 10 % 10) :: S.data.toList := by simp [ByteArray.data_append]
  refine ⟨?_, ?_⟩
  · rw [hs, h.1, if_neg h9]
    by_cases h2 : m / 10 < 10
    · rw [if_pos h2, Lib.decDigits, dif_pos h2, show m / 10 % 10 = m / 10 by omega]; rfl
    · rw [if_neg h2, Lib.decDigits, dif_neg h2]; simp
  · have := h.2; rw [ByteArray.size_append]; show 1 + S.size + m / 10 ≤ N + 1; omega
theorem parts_end (N m : Nat) (S : ByteArray) (h : Parts N m S) (h9 : m < 10) : S = ⟨(Lib.decDigits N).toArray⟩ := by
  have := h.1; rw [if_pos h9] at this
  simp at this
  rw [this]
set_option maxRecDepth 100000 in
theorem plain_calls (n : Nat) (hn : n ≤ 1073741824) (w : World) :
    Calls Tryd.prog 29 #[.int .i64 (n : Int)] w fun e w' => e = .returned (.tuple #[.string ⟨(Lib.decDigits n).toArray⟩, .int .i64 0]) ∧ Drawn0 w w' := by
  have h0 : 0 ≤ (n : Int) % 10 := by omega
  have h1 : (n : Int) % 10 ≤ (n : Int) % 10 + 1 := by omega
  have h2 : (n : Int) % 10 + 1 ≤ 10 := by omega
  go_enter Tryd.func29, Tryd.ntmps29
  go_wp2_with fail
  go_loop [0, 4] (fun v s => ∃ (m : Nat) (S : ByteArray), m ≤ n ∧ v = .int .i64 (m : Int) ∧ s = .string S ∧ Parts n m S) (fun v _ => (intOf v).toNat)
  case atStart => exact ⟨n, _, Nat.le_refl _, rfl, rfl, parts_start n⟩
  case round =>
    obtain ⟨m, S, hm, rfl, rfl, hp⟩ := hrel
    have hp' := Aside0.mk hp
    have hsz : S.size ≤ 1073741825 := by have := hp.2; omega
    clear hp
    by_cases c : m < 10
    · have c1 : decide (9 < (m : Int)) = false := decide_eq_false (by omega)
      go_wp2
      go_ret2
      exact ⟨by rw [← parts_end n m S hp'.out c]; rfl, by repeat (first | exact Drawn0.refl _ | apply Drawn0.step)⟩
    · have c1 : decide (9 < (m : Int)) = true := decide_eq_true (by omega)
      have h0 : 0 ≤ (m : Int) / 10 % 10 := by omega
      have h1 : (m : Int) / 10 % 10 ≤ (m : Int) / 10 % 10 + 1 := by omega
      have h2 : (m : Int) / 10 % 10 + 1 ≤ 10 := by omega
      go_wp2
      go_round
      case rel => exact ⟨m / 10, _, by omega, by go_num, rfl, parts_step n m S hp'.out c⟩
      case measure => simp [intOf]; omega
theorem digits_le (u : Nat) : (Lib.decDigits u).length ≤ u + 1 := by
  induction u using Nat.strongRecOn with
  | _ u ih =>
    rw [Lib.decDigits]; split
    · simp
    · have := ih (u / 10) (by omega); simp; omega
theorem cat45 (l : List UInt8) : ((⟨#[45]⟩ : ByteArray) ++ (⟨l.toArray⟩ : ByteArray)) = ⟨(45 :: l).toArray⟩ := by
  apply ByteArray.ext; simp [ByteArray.data_append]
theorem itoa_neg (m : Nat) (h : 0 < m) : Lib.itoa (-(m : Int)) = 45 :: Lib.decDigits m := by
  unfold Lib.itoa; rw [if_pos (by omega)]; congr 2; omega
theorem itoa_pos (m : Nat) : Lib.itoa (m : Int) = Lib.decDigits m := by
  unfold Lib.itoa; rw [if_neg (by omega)]; congr 1
theorem refText_yes (n : Int) (w : World) (h : Aside0 (inB n = true)) (h0 : -1073741824 ≤ n) (h1 : n ≤ 1073741823) :
    Calls Tryd.prog 19 #[.int .i64 n] w fun e w' => e = .returned (.tuple #[.string ⟨(Lib.itoa n).toArray⟩, .int .i64 0]) ∧ Drawn0 w w' := by
  by_cases c : n < 0
  · obtain ⟨m, rfl⟩ : ∃ m : Nat, n = -(m : Int) := ⟨n.natAbs, by omega⟩
    have c1 : decide (-(m : Int) < 0) = true := decide_eq_true c
    have hm : 0 < m := by omega
    have hm1 : m ≤ 1073741824 := by omega
    have en : wrap64 (-(-(m : Int))) = (m : Int) := by unfold wrap64; omega
    have e2 : -(-(m : Int)) = (m : Int) := by omega
    have hl : (Lib.decDigits m).length ≤ 1073741825 := by have := digits_le m; omega
    go_enter Tryd.func19, Tryd.ntmps19
    go_wp2_with fail
    refine (refIn_calls _ _ true h).mono ?_; rintro e w' ⟨rfl, ⟨nd, rfl⟩⟩
    go_wp2_with fail
    refine (plain_calls m hm1 _).mono ?_; rintro e w' ⟨rfl, ⟨nd, rfl⟩⟩
    go_wp2
    go_ret2
    exact ⟨by rw [itoa_neg m hm, ← cat45]; rfl, by repeat (first | exact Drawn0.refl _ | apply Drawn0.step)⟩
  · obtain ⟨m, rfl⟩ : ∃ m : Nat, n = (m : Int) := ⟨n.natAbs, by omega⟩
    have c1 : decide ((m : Int) < 0) = false := decide_eq_false c
    have hm1 : m ≤ 1073741824 := by omega
    go_enter Tryd.func19, Tryd.ntmps19
    go_wp2_with fail
    refine (refIn_calls _ _ true h).mono ?_; rintro e w' ⟨rfl, ⟨nd, rfl⟩⟩
    go_wp2_with fail
    refine (plain_calls m hm1 _).mono ?_; rintro e w' ⟨rfl, ⟨nd, rfl⟩⟩
    go_wp2
    go_ret2
    exact ⟨by rw [itoa_pos m]; rfl, by repeat (first | exact Drawn0.refl _ | apply Drawn0.step)⟩
theorem refText_no (n : Int) (w : World) (h : Aside0 (inB n = false)) : Calls Tryd.prog 19 #[.int .i64 n] w fun e w' => e = .returned (.tuple #[.string ByteArray.empty, .int .i64 1]) ∧ Drawn0 w w' := by
  go_enter Tryd.func19, Tryd.ntmps19
  go_wp2_with (go_at_call 27; (with_reducible refine (refIn_calls n _ false h).mono ?_); rintro e w' ⟨rfl, ⟨nd, rfl⟩⟩)
  go_ret2
  exact ⟨by first | rfl | (simp; done) | (simp [*]; done), by repeat (first | exact Drawn0.refl _ | apply Drawn0.step)⟩
theorem text_no (n : Int) (w : World) (h : Aside0 (word_in.f n = some false)) : Calls Tryd.prog 18 #[.int .i64 n] w fun e w' => e = .returned (.tuple #[.string ByteArray.empty, .int .i64 1]) ∧ Drawn0 w w' := by
  go_enter Tryd.func18, Tryd.ntmps18
  go_wp2_with (go_at_call 26; (with_reducible refine (word_in.calls _ _ _ h.out).mono ?_); rintro e w' ⟨rfl, ⟨nd, rfl⟩⟩)
  go_ret2
  exact ⟨by first | rfl | (simp; done) | (simp [*]; done), by repeat (first | exact Drawn0.refl _ | apply Drawn0.step)⟩
theorem text_yes (n : Int) (w : World) (h : Aside0 (word_in.f n = some true)) (h0 : -1073741824 ≤ n) (h1 : n ≤ 1073741823) (htab : Lib.TabIs Tryd.prog w "internal/strconv.uint64pow10" .u64 Lib.pow10Tab) :
    Calls Tryd.prog 18 #[.int .i64 n] w fun e w' => e = .returned (.tuple #[.string ⟨(Lib.itoa n).toArray⟩, .int .i64 0]) ∧ Below w.heap.size w w' := by
  have b0 : -9223372036854775808 ≤ n := by omega
  have b1 : n ≤ 9223372036854775807 := by omega
  have HT := Aside0.mk htab
  clear htab
  go_enter Tryd.func18, Tryd.ntmps18
  go_wp2_with fail
  refine (word_in.calls _ _ _ h.out).mono ?_; rintro e w' ⟨rfl, ⟨nd, rfl⟩⟩
  go_wp2_with fail
  refine (Tryd.strconv_Itoa n b0 b1 _ (by exact HT.out)).mono ?_; rintro e w' ⟨rfl, ⟨k, os, rfl⟩⟩
  go_wp2
  go_ret2
  exact ⟨rfl, by first | exact Lib.below_grow _ _ (Nat.le_refl _) _ _ | exact below_grow _ _ (Nat.le_refl _) _ _⟩
/-! the law -/
theorem Table.below {w w' : World} (T : Table w) (h : Below w.heap.size w w') : Table w' :=
  ⟨pw_cell_below h T.c0, pw_cell_below h T.c1, pw_cell_below h T.c2, pw_cell_below h T.c3⟩

set_option maxHeartbeats 4000000 in
set_option maxRecDepth 100000 in
theorem kinds_yes (n c d e2 o e3 k x e5 u e6 i e7 g : Int) (w : World) (T : Table w) (h0 : -1073741824 ≤ n) (h1 : n ≤ 1073741823) (B : Aside0 (inB n = true)) (IN : Aside0 (word_in.f n = some true)) (HI : Aside0 (word_Int.f n = some (2 * n + 1, 0))) (htab : Aside0 (Lib.TabIs Tryd.prog w "internal/strconv.uint64pow10" .u64 Lib.pow10Tab)) (aa : (2 * n + 1 == 2 * n + 1) = true) (ab : (2 * n + 1 != 2 * n + 1) = false)
    (HS : Aside0 (word_Symbol.f n = some (c, e2))) (HO : Aside0 (word_Object.f n = some (o, e3))) (HK : Aside0 (kindOf n = k)) (HW : Aside0 (w31 n = g))
    (HN : Aside0 ((if kindOf n = 1 then n / 2 else 0) = x ∧ (if kindOf n = 1 then 0 else 10) = e5)) (HY : Aside0 ((if kindOf n = 2 then n / 4 else 0) = u ∧ (if kindOf n = 2 then 0 else 10) = e6)) (HP : Aside0 ((if kindOf n = 3 then n / 4 else 0) = i ∧ (if kindOf n = 3 then 0 else 10) = e7))
    (cc : (c == c) = true) (cd : (c != c) = false) (q2 : (e2 == e2) = true) (q2' : (e2 != e2) = false) (oo : (o == o) = true) (od : (o != o) = false) (q3 : (e3 == e3) = true) (q3' : (e3 != e3) = false)
    (gg : (g == g) = true) (gd : (g != g) = false) (kk : (k == k) = true) (kd : (k != k) = false) (xx : (x == x) = true) (q5 : (e5 == e5) = true) (uu : (u == u) = true) (q6 : (e6 == e6) = true) (ii : (i == i) = true) (q7 : (e7 == e7) = true) :
    Calls Tryd.prog 4 #[.int .i64 n] w fun e w' => e = .returned (.bool true) ∧ Below w.heap.size w w' := by
  go_enter Tryd.func4, Tryd.ntmps4
  go_wp2_with fail
  refine (word_Int.calls n (2 * n + 1) 0 _ HI.out).mono ?_; rintro e w' ⟨rfl, ⟨nd, rfl⟩⟩
  go_wp2_with fail
  refine (refInt_yes n _ B h0 h1).mono ?_; rintro e w' ⟨rfl, ⟨nd, rfl⟩⟩
  go_wp2_with fail
  refine (word_Symbol.calls n c e2 _ HS.out).mono ?_; rintro e w' ⟨rfl, ⟨nd, rfl⟩⟩
  go_wp2_with fail
  refine (refSymbol_calls n _ c e2 HS).mono ?_; rintro e w' ⟨rfl, ⟨nd, rfl⟩⟩
  go_wp2_with fail
  refine (word_Object.calls n o e3 _ HO.out).mono ?_; rintro e w' ⟨rfl, ⟨nd, rfl⟩⟩
  go_wp2_with fail
  refine (refObject_calls n _ o e3 HO).mono ?_; rintro e w' ⟨rfl, ⟨nd, rfl⟩⟩
  go_wp2_with (go_at_call 10; (with_reducible refine (kilnlaw1_num.calls _ _ _ rfl).mono ?_); rintro e w' ⟨rfl, ⟨nd, rfl⟩⟩)
  refine (text_yes n _ IN h0 h1 (by exact htab.out)).mono ?_; rintro e w1 ⟨rfl, b1⟩
  have B1 : Below w.heap.size w w1 := below_step (pw_below_drewN (Below.refl _ _) _) b1
  clear b1
  replace T := Table.below T B1
  go_wp2_with fail
  refine (refText_yes n _ B h0 h1).mono ?_; rintro e w' ⟨rfl, ⟨nd, rfl⟩⟩
  go_wp2_with (first | (go_at_call 10; (with_reducible refine (kilnlaw1_num.calls _ _ _ rfl).mono ?_); rintro e w' ⟨rfl, ⟨nd, rfl⟩⟩) | (go_at_call 20; (with_reducible refine (wrap_calls n _).mono ?_); rw [HW.out]; rintro e w' ⟨rfl, ⟨nd, rfl⟩⟩) | (go_at_call 21; (with_reducible refine (refWrap_calls n _).mono ?_); rw [HW.out]; rintro e w' ⟨rfl, ⟨nd, rfl⟩⟩) | (go_at_call 14; (refine (kind_calls n _ (by first | exact T | exact ⟨T.c0, T.c1, T.c2, T.c3⟩)).mono ?_); rw [HK.out]; rintro e w' ⟨rfl, ⟨nd, rfl⟩⟩) | (go_at_call 22; (with_reducible refine (refKind_calls n _ k HK).mono ?_); rintro e w' ⟨rfl, ⟨nd, rfl⟩⟩))
  refine (num_calls n _ (by first | exact T | exact ⟨T.c0, T.c1, T.c2, T.c3⟩) x e5 HN).mono ?_; rintro e w' ⟨rfl, ⟨nd, rfl⟩⟩
  go_wp2_with fail
  refine (refNum_calls n _ x e5 HN).mono ?_; rintro e w' ⟨rfl, ⟨nd, rfl⟩⟩
  go_wp2_with fail
  refine (sym_calls n _ (by first | exact T | exact ⟨T.c0, T.c1, T.c2, T.c3⟩) u e6 HY).mono ?_; rintro e w' ⟨rfl, ⟨nd, rfl⟩⟩
  go_wp2_with fail
  refine (refSym_calls n _ u e6 HY).mono ?_; rintro e w' ⟨rfl, ⟨nd, rfl⟩⟩
  go_wp2_with fail
  refine (oop_calls n _ (by first | exact T | exact ⟨T.c0, T.c1, T.c2, T.c3⟩) i e7 HP).mono ?_; rintro e w' ⟨rfl, ⟨nd, rfl⟩⟩
  go_wp2_with fail
  refine (refOop_calls n _ i e7 HP).mono ?_; rintro e w' ⟨rfl, ⟨nd, rfl⟩⟩
  go_wp2_with (go_at_call 10; (with_reducible refine (kilnlaw1_num.calls _ _ _ rfl).mono ?_); rintro e w' ⟨rfl, ⟨nd, rfl⟩⟩)
  go_ret
  exact ⟨by first | rfl | (simp; done) | (simp [*]; done), by repeat (first | assumption | exact Below.refl _ _ | apply pw_below_drewN)⟩

set_option maxHeartbeats 4000000 in
set_option maxRecDepth 100000 in
theorem kinds_no (n c d e2 o e3 k x e5 u e6 i e7 g : Int) (w : World) (T : Table w) (B : Aside0 (inB n = false)) (IN : Aside0 (word_in.f n = some false)) (HI : Aside0 (word_Int.f n = some (0, 1)))
    (HS : Aside0 (word_Symbol.f n = some (c, e2))) (HO : Aside0 (word_Object.f n = some (o, e3))) (HK : Aside0 (kindOf n = k)) (HW : Aside0 (w31 n = g))
    (HN : Aside0 ((if kindOf n = 1 then n / 2 else 0) = x ∧ (if kindOf n = 1 then 0 else 10) = e5)) (HY : Aside0 ((if kindOf n = 2 then n / 4 else 0) = u ∧ (if kindOf n = 2 then 0 else 10) = e6)) (HP : Aside0 ((if kindOf n = 3 then n / 4 else 0) = i ∧ (if kindOf n = 3 then 0 else 10) = e7))
    (cc : (c == c) = true) (cd : (c != c) = false) (q2 : (e2 == e2) = true) (q2' : (e2 != e2) = false) (oo : (o == o) = true) (od : (o != o) = false) (q3 : (e3 == e3) = true) (q3' : (e3 != e3) = false)
    (gg : (g == g) = true) (gd : (g != g) = false) (kk : (k == k) = true) (kd : (k != k) = false) (xx : (x == x) = true) (q5 : (e5 == e5) = true) (uu : (u == u) = true) (q6 : (e6 == e6) = true) (ii : (i == i) = true) (q7 : (e7 == e7) = true) :
    Calls Tryd.prog 4 #[.int .i64 n] w fun e w' => e = .returned (.bool true) ∧ Below w.heap.size w w' := by
  go_enter Tryd.func4, Tryd.ntmps4
  go_wp2_with fail
  refine (word_Int.calls n 0 1 _ HI.out).mono ?_; rintro e w' ⟨rfl, ⟨nd, rfl⟩⟩
  go_wp2_with fail
  refine (refInt_no n _ B).mono ?_; rintro e w' ⟨rfl, ⟨nd, rfl⟩⟩
  go_wp2_with fail
  refine (word_Symbol.calls n c e2 _ HS.out).mono ?_; rintro e w' ⟨rfl, ⟨nd, rfl⟩⟩
  go_wp2_with fail
  refine (refSymbol_calls n _ c e2 HS).mono ?_; rintro e w' ⟨rfl, ⟨nd, rfl⟩⟩
  go_wp2_with fail
  refine (word_Object.calls n o e3 _ HO.out).mono ?_; rintro e w' ⟨rfl, ⟨nd, rfl⟩⟩
  go_wp2_with fail
  refine (refObject_calls n _ o e3 HO).mono ?_; rintro e w' ⟨rfl, ⟨nd, rfl⟩⟩
  go_wp2_with (go_at_call 10; (with_reducible refine (kilnlaw1_num.calls _ _ _ rfl).mono ?_); rintro e w' ⟨rfl, ⟨nd, rfl⟩⟩)
  refine (text_no n _ IN).mono ?_; rintro e w' ⟨rfl, ⟨nd, rfl⟩⟩
  go_wp2_with fail
  refine (refText_no n _ B).mono ?_; rintro e w' ⟨rfl, ⟨nd, rfl⟩⟩
  go_wp2_with (first | (go_at_call 10; (with_reducible refine (kilnlaw1_num.calls _ _ _ rfl).mono ?_); rintro e w' ⟨rfl, ⟨nd, rfl⟩⟩) | (go_at_call 20; (with_reducible refine (wrap_calls n _).mono ?_); rw [HW.out]; rintro e w' ⟨rfl, ⟨nd, rfl⟩⟩) | (go_at_call 21; (with_reducible refine (refWrap_calls n _).mono ?_); rw [HW.out]; rintro e w' ⟨rfl, ⟨nd, rfl⟩⟩) | (go_at_call 14; (refine (kind_calls n _ (by first | exact T | exact ⟨T.c0, T.c1, T.c2, T.c3⟩)).mono ?_); rw [HK.out]; rintro e w' ⟨rfl, ⟨nd, rfl⟩⟩) | (go_at_call 22; (with_reducible refine (refKind_calls n _ k HK).mono ?_); rintro e w' ⟨rfl, ⟨nd, rfl⟩⟩))
  refine (num_calls n _ (by first | exact T | exact ⟨T.c0, T.c1, T.c2, T.c3⟩) x e5 HN).mono ?_; rintro e w' ⟨rfl, ⟨nd, rfl⟩⟩
  go_wp2_with fail
  refine (refNum_calls n _ x e5 HN).mono ?_; rintro e w' ⟨rfl, ⟨nd, rfl⟩⟩
  go_wp2_with fail
  refine (sym_calls n _ (by first | exact T | exact ⟨T.c0, T.c1, T.c2, T.c3⟩) u e6 HY).mono ?_; rintro e w' ⟨rfl, ⟨nd, rfl⟩⟩
  go_wp2_with fail
  refine (refSym_calls n _ u e6 HY).mono ?_; rintro e w' ⟨rfl, ⟨nd, rfl⟩⟩
  go_wp2_with fail
  refine (oop_calls n _ (by first | exact T | exact ⟨T.c0, T.c1, T.c2, T.c3⟩) i e7 HP).mono ?_; rintro e w' ⟨rfl, ⟨nd, rfl⟩⟩
  go_wp2_with fail
  refine (refOop_calls n _ i e7 HP).mono ?_; rintro e w' ⟨rfl, ⟨nd, rfl⟩⟩
  go_wp2_with (go_at_call 10; (with_reducible refine (kilnlaw1_num.calls _ _ _ rfl).mono ?_); rintro e w' ⟨rfl, ⟨nd, rfl⟩⟩)
  go_ret
  exact ⟨by first | rfl | (simp; done) | (simp [*]; done), by repeat (first | assumption | exact Below.refl _ _ | apply pw_below_drewN)⟩
theorem inB_is (n : Int) : word_in.f n = some (inB n) := inIs n
theorem kinds_walk (n : Int) (w : World) (T : Table w) (htab : Lib.TabIs Tryd.prog w "internal/strconv.uint64pow10" .u64 Lib.pow10Tab) :
    Calls Tryd.prog 4 #[.int .i64 n] w fun e w' => e = .returned (.bool true) ∧ Below w.heap.size w w' := by
  obtain ⟨⟨c, e2⟩, HS⟩ : ∃ p, word_Symbol.f n = some p := by
    unfold word_Symbol.f
    split
    · exact ⟨_, rfl⟩
    · split <;> exact ⟨_, rfl⟩
  obtain ⟨⟨o, e3⟩, HO⟩ : ∃ p, word_Object.f n = some p := by
    unfold word_Object.f
    split
    · exact ⟨_, rfl⟩
    · split <;> exact ⟨_, rfl⟩
  by_cases b : inB n = true
  · have b' := b
    unfold inB at b'
    have hb := of_decide_eq_true b'
    exact kinds_yes n c 0 e2 o e3 _ _ _ _ _ _ _ _ w T hb.1 hb.2 ⟨b⟩ ⟨by rw [inB_is, b]⟩ ⟨orOne n hb.1 hb.2⟩ ⟨htab⟩ (beq_self_eq_true _) (bne_self_eq_false _) ⟨HS⟩ ⟨HO⟩ ⟨rfl⟩ ⟨rfl⟩ ⟨rfl, rfl⟩ ⟨rfl, rfl⟩ ⟨rfl, rfl⟩
      (beq_self_eq_true _) (bne_self_eq_false _) (beq_self_eq_true _) (bne_self_eq_false _) (beq_self_eq_true _) (bne_self_eq_false _) (beq_self_eq_true _) (bne_self_eq_false _) (beq_self_eq_true _) (bne_self_eq_false _) (beq_self_eq_true _) (bne_self_eq_false _) (beq_self_eq_true _) (beq_self_eq_true _) (beq_self_eq_true _) (beq_self_eq_true _) (beq_self_eq_true _) (beq_self_eq_true _)
  · have b' : inB n = false := by simpa using b
    have hi : word_Int.f n = some (0, 1) := by unfold word_Int.f; rw [inB_is, b']; rfl
    exact kinds_no n c 0 e2 o e3 _ _ _ _ _ _ _ _ w T ⟨b'⟩ ⟨by rw [inB_is, b']⟩ ⟨hi⟩ ⟨HS⟩ ⟨HO⟩ ⟨rfl⟩ ⟨rfl⟩ ⟨rfl, rfl⟩ ⟨rfl, rfl⟩ ⟨rfl, rfl⟩
      (beq_self_eq_true _) (bne_self_eq_false _) (beq_self_eq_true _) (bne_self_eq_false _) (beq_self_eq_true _) (bne_self_eq_false _) (beq_self_eq_true _) (bne_self_eq_false _) (beq_self_eq_true _) (bne_self_eq_false _) (beq_self_eq_true _) (bne_self_eq_false _) (beq_self_eq_true _) (beq_self_eq_true _) (beq_self_eq_true _) (beq_self_eq_true _) (beq_self_eq_true _) (beq_self_eq_true _)
theorem gKinds : Tryd.prog.globalNamed "kiln/word.kinds" = some 0 := by kernel_rfl
theorem gPow : Tryd.prog.globalNamed "internal/strconv.uint64pow10" = some 1 := by kernel_rfl
theorem facts_of_laid {W : World} (h : laidMetH Tryd.prog Rows.wordKindsRow.laid W) : Table W ∧ Lib.TabIs Tryd.prog W "internal/strconv.uint64pow10" .u64 Lib.pow10Tab := by
  rw [MakeChecks.laidMetH_plain _ _ _ (by kernel_rfl)] at h
  have h2 := laidMet.tail (laidMet.tail h)
  have hP := Lib.tabIs_of_head (k := .u64) (zs := Lib.pow10Tab) gPow (t := 52) (e := 45) (n := 20) (by kernel_rfl) (by kernel_rfl) (by kernel_rfl) (by kernel_rfl) (by kernel_rfl) h2
  have h3 := laidMet.tail h2
  have hT := Lib.tabIs_of_head (k := .i64) (zs := [3, 1, 2, 1]) (rest := []) gKinds (t := 41) (e := 3) (n := 4) (by kernel_rfl) (by kernel_rfl) (by kernel_rfl) (by kernel_rfl) (by kernel_rfl) h3
  exact ⟨⟨hT.cell gKinds 0 (by decide), hT.cell gKinds 1 (by decide), hT.cell gKinds 2 (by decide), hT.cell gKinds 3 (by decide)⟩, hP⟩
end Go.Proofs.YtcnjdgafemgaeaaDoor.Refs
