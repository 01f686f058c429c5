/- kilnref7.s Print, walked: what it refuses at its last token. Conditions: those that each theorem states. -/
import Derived.Test.YtjibdaigclgmhaaGreatDoorLexII
import Derived.Test.YtjibdaigclgmhaaGreatDoorLexK
namespace Go.Proofs.YtjibdaigclgmhaaGreatDoor.LexW
open Go.RowKit Go.Proofs.YtjibdaigclgmhaaGreatDoor.Lex Go.Proofs.YtjibdaigclgmhaaGreatDoor.Facts Go.Proofs.YtjibdaigclgmhaaGreatDoor.PLexPrints Go.Proofs.YtjibdaigclgmhaaGreatDoorW.PrintWords Go.Proofs.YtjibdaigclgmhaaGreatDoorW.PrintLast Go.Proofs.YtjibdaigclgmhaaGreatDoorW.PrintMore
attribute [local go_sem] max2_int min2_int max_two min_two max_three min_three max_four min_four
set_option linter.unusedVariables false
set_option linter.unusedSimpArgs false
set_option maxHeartbeats 4000000 in
set_option maxRecDepth 100000 in
theorem refPrint_none (A : Option Addr) (c : Nat) (w : World) : Calls Tryz.prog 10 #[.slice A 0 c] w fun e w' => e = .returned (.tuple #[.string ⟨#[]⟩, .int .i64 1]) ∧ Below w.heap.size w w' := by
  have HW : Aside0 (Below w.heap.size w w) := ⟨Below.refl _ _⟩
  go_enter Tryz.func10, Tryz.ntmps10
  go_wp2_with fail
  go_ret2
  exact ⟨rfl, HW.out⟩
set_option maxHeartbeats 4000000 in
set_option maxRecDepth 100000 in
theorem refPrint_nostop (X : List S28) (m : Nat) (hX : X.length = m + 1) (hb : m ≤ 1073741824) (z : S28) (hz : X[m]? = some z) (A : Option Addr) (c : Nat) (w : World) (hC : Kd.C k28 w A X.length X) (hc : X.length ≤ c) (hns : ¬ (z.f0 = 18 ∧ bl z.f1 = [] ∧ z.f2 = 0)) : Calls Tryz.prog 10 #[.slice A X.length c] w fun e w' => e = .returned (.tuple #[.string ⟨#[]⟩, .int .i64 1]) ∧ Below w.heap.size w w' := by
  obtain ⟨ad, rfl, e0, e1, e2, _⟩ := at_T28 hC (m : Int) (by omega) (by omega)
  have hr : rd_T28 X (m : Int) = z := by
    rw [rd_at _ m (by omega)]; exact (List.getElem?_eq_some_iff.1 hz).2
  rw [hr, Int.toNat_natCast] at e0 e1 e2
  have HW : Aside0 (Below w.heap.size w w) := ⟨Below.refl _ _⟩
  obtain ⟨N, hN⟩ : ∃ N, X.length = N := ⟨_, rfl⟩
  have hw1 : wrap64 ((N : Int) - 1) = (m : Int) := by unfold wrap64; omega
  have hmN : (m : Int) < (N : Int) := by omega
  have hm0 : decide ((m : Int) < 0) = false := decide_eq_false (by omega)
  rw [hN] at hc ⊢
  clear hC hX
  by_cases c0 : z.f0 = 18
  rotate_left
  · have q0 : (z.f0 != 18) = true := by simpa using c0
    go_enter Tryz.func10, Tryz.ntmps10
    go_wp2_with fail
    go_ret2
    exact ⟨rfl, HW.out⟩
  have q0 : (z.f0 != 18) = false := by simpa using c0
  by_cases c1 : bl z.f1 = []
  rotate_left
  · have q1 : z.f1.toList.isEmpty = false := by rw [ByteArray.toList_eq]; simpa using c1
    go_enter Tryz.func10, Tryz.ntmps10
    go_wp2_with fail
    go_ret2
    exact ⟨rfl, HW.out⟩
  have q1 : z.f1.toList.isEmpty = true := by rw [ByteArray.toList_eq]; simpa using c1
  by_cases c2 : z.f2 = 0
  rotate_left
  · have q2 : (z.f2 != 0) = true := by simpa using c2
    go_enter Tryz.func10, Tryz.ntmps10
    go_wp2_with fail
    go_ret2
    exact ⟨rfl, HW.out⟩
  have q2 : (z.f2 != 0) = false := by simpa using c2
  exact (hns ⟨c0, c1, c2⟩).elim
theorem join_snoc (l : List (List UInt8)) (x : List UInt8) (h : l ≠ []) : Lib.join (l ++ [x]) [32] = Lib.join l [32] ++ 32 :: x := by
  induction l with
  | nil => exact absurd rfl h
  | cons a r ih =>
    cases r with
    | nil =>
      show Lib.join [a, x] [32] = Lib.join [a] [32] ++ 32 :: x
      rw [Lib.join_one]
      unfold Lib.join; simp [List.intercalate]
    | cons b r =>
      have := ih (by simp)
      have e : ∀ (a : List UInt8) (b : List UInt8) (r : List (List UInt8)), Lib.join (a :: b :: r) [32] = a ++ 32 :: Lib.join (b :: r) [32] := fun a b r => by unfold Lib.join; simp [List.intercalate]
      show Lib.join (a :: b :: (r ++ [x])) [32] = _
      rw [e, e]
      rw [show b :: (r ++ [x]) = (b :: r) ++ [x] from rfl, this, List.append_assoc]
      rfl
/-- the bytes written when i tokens have been -/
def sofar (X : List S28) (i : Nat) : List UInt8 := joinW ((X.take i).map tk)
theorem sofar_zero (X : List S28) : sofar X 0 = [] := by unfold sofar joinW; simp [Lib.join_nil]
theorem sofar_one (X : List S28) (x : S28) (h : X[0]? = some x) : sofar X 1 = bl (spB x) := by
  cases X with
  | nil => cases h
  | cons y r => cases h; unfold sofar joinW; simp [Lib.join_one]; rfl
theorem sofar_next (X : List S28) (i : Nat) (x : S28) (h : X[i]? = some x) (hi : 0 < i) : sofar X (i + 1) = sofar X i ++ 32 :: bl (spB x) := by
  unfold sofar joinW
  rw [List.take_add_one, h, List.map_append, List.map_append]
  have hl := (List.getElem?_eq_some_iff.1 h).1
  exact join_snoc _ _ (by
    intro e
    have := congrArg List.length e
    rw [List.length_map, List.length_map, List.length_take, List.length_nil] at this
    omega)
end Go.Proofs.YtjibdaigclgmhaaGreatDoor.LexW
