/- LexPrints' helpers in plain words: twin, longer, two Prints of one list, printed. Conditions: those that each theorem states. -/
import Derived.Test.YtjibdaigclgmhaaGreatDoorLexKK
namespace Go.Proofs.YtjibdaigclgmhaaGreatDoor.LexW
open Go.RowKit Go.Proofs.YtjibdaigclgmhaaGreatDoor.Lex Go.Proofs.YtjibdaigclgmhaaGreatDoor.Facts Go.Proofs.YtjibdaigclgmhaaGreatDoor.PLexPrints Go.Proofs.YtjibdaigclgmhaaGreatDoorW.PrintWords Go.Proofs.YtjibdaigclgmhaaGreatDoorW.PrintLast Go.Proofs.YtjibdaigclgmhaaGreatDoorW.PrintMore
attribute [local go_sem] max2_int min2_int max_two min_two max_three min_three max_four min_four
set_option linter.unusedVariables false
set_option linter.unusedSimpArgs false
theorem twin_l0 (X : List S28) (hb : X.length ≤ 1073741824) : ∀ (k i : Nat), i ≤ X.length → X.length - i < k → kilnlaw7_twin.l0 k X (X.take i) (i : Int) = some X
  | 0, i, hi, hk => by omega
  | k + 1, i, hi, hk => by
    rw [kilnlaw7_twin.l0]
    by_cases h : i < X.length
    · have hr : rd_T28 X (i : Int) = X[i] := rd_at X i h
      have w4 : wrap64 ((i : Int) + 1) = ((i + 1 : Nat) : Int) := by unfold wrap64; omega
      have e : X.take i ++ [(⟨X[i].f0, X[i].f1, X[i].f2, X[i].f3⟩ : S28)] = X.take (i + 1) := by rw [List.take_add_one, List.getElem?_eq_getElem h]; rfl
      rw [if_pos (by omega), if_pos (by omega), if_pos (by rw [List.length_take]; omega), hr, w4, e]
      exact twin_l0 X hb k (i + 1) (by omega) (by omega)
    · rw [if_neg (by omega), show X.take i = X from List.take_of_length_le (by omega)]
theorem twin_calls (X : List S28) (hb : X.length ≤ 1073741824) (A : Option Addr) (c : Nat) (w : World) (hC : Kd.C k28 w A X.length X) (hc : X.length ≤ c) : Calls Tryz.prog 6 #[.slice A X.length c] w fun e w' => ∃ v, e = .returned v ∧ Kd.R k28 28 w' w.heap.size (fun _ => True) v X ∧ Below w.heap.size w w' :=
  kilnlaw7_twin.calls (X.length + 1) A c X X w hC hc (by
    have := twin_l0 X hb (X.length + 1) 0 (Nat.zero_le _) (by omega)
    rw [List.take_zero] at this
    exact this)
theorem longer_l0 (X : List S28) (a : Int) (hb : X.length ≤ 1073741824) : ∀ (k i : Nat), i ≤ 64 → 64 - i < k → kilnlaw7_longer.l0 k (X ++ List.replicate i (mk0 a)) a (i : Int) = some (X ++ List.replicate 64 (mk0 a))
  | 0, i, hi, hk => by omega
  | k + 1, i, hi, hk => by
    rw [kilnlaw7_longer.l0]
    by_cases h : i < 64
    · have w4 : wrap64 ((i : Int) + 1) = ((i + 1 : Nat) : Int) := by unfold wrap64; omega
      have e : (X ++ List.replicate i (mk0 a)) ++ [(⟨a, (⟨#[]⟩ : ByteArray), 0, 0⟩ : S28)] = X ++ List.replicate (i + 1) (mk0 a) := by rw [List.append_assoc, List.replicate_succ']; rfl
      rw [if_pos (by omega), if_pos (by rw [List.length_append, List.length_replicate]; omega), w4, e]
      exact longer_l0 X a hb k (i + 1) (by omega) (by omega)
    · obtain rfl : i = 64 := by omega
      rw [if_neg (by omega)]
theorem longer_calls (X : List S28) (a : Int) (hb : X.length ≤ 1073741824) (v : Value) (w0 w : World) (hB : Below w0.heap.size w0 w) (hR : Kd.R k28 28 w w0.heap.size (fun _ => True) v X) : Calls Tryz.prog 5 #[v, .int .i64 a] w fun e w' => ∃ v', e = .returned v' ∧ Kd.R k28 28 w' w0.heap.size (fun _ => True) v' (X ++ List.replicate 64 (mk0 a)) ∧ Below w0.heap.size w0 w' := by
  refine (kilnlaw7_longer.calls 65 (fun _ => True) v X a (X ++ List.replicate 64 (mk0 a)) w0 w hB hR ?_).mono ?_
  · have := longer_l0 X a hb 65 0 (by omega) (by omega)
    rw [List.replicate_zero, List.append_nil] at this
    exact this
  · rintro e w' ⟨v', rfl, hR', hB', _⟩
    exact ⟨v', rfl, Kd.R_mono hR' (fun _ _ => trivial), hB'⟩
/-- both Prints say one and the same of a list -/
theorem two_prints (X : List S28) (hB : Bd X) : ∃ (s : ByteArray) (k : Int), (∀ (A : Option Addr) (c : Nat) (w : World), PEnv w → Kd.C k28 w A X.length X → X.length ≤ c → Calls Tryz.prog 9 #[.slice A X.length c] w fun e w' => e = .returned (.tuple #[.string s, .int .i64 k]) ∧ Below w.heap.size w w') ∧
    (∀ (A : Option Addr) (c : Nat) (w : World), PEnv w → Kd.C k28 w A X.length X → X.length ≤ c → Calls Tryz.prog 10 #[.slice A X.length c] w fun e w' => e = .returned (.tuple #[.string s, .int .i64 k]) ∧ Below w.heap.size w w') := by
  have inj : ∀ {Y Y2 z z2}, PrintOk X Y z → PrintOk X Y2 z2 → Y2 = Y := fun {Y Y2 z z2} h h2 => (List.append_inj' (h.1.symm.trans h2.1) rfl).1.symm
  by_cases hok : ∃ Y z, PrintOk X Y z
  · obtain ⟨Y, z, hok⟩ := hok
    refine ⟨sB (joinW (Y.map tk)), 0, fun A c w E hC hc => (print_calls X hB A c w E hC hc).mono ?_, fun A c w E hC hc => (refPrint_calls X hB A c w E hC hc).mono ?_⟩
    all_goals
      rintro e w' ⟨⟨v, he, hp⟩, hb⟩
      refine ⟨?_, hb⟩
      rcases hp with ⟨Y2, z2, h2, rfl⟩ | ⟨h2, _⟩
      · rw [he, inj hok h2]
      · exact (h2 _ _ hok).elim
  · refine ⟨⟨#[]⟩, 1, fun A c w E hC hc => (print_calls X hB A c w E hC hc).mono ?_, fun A c w E hC hc => (refPrint_calls X hB A c w E hC hc).mono ?_⟩
    all_goals
      rintro e w' ⟨⟨v, he, hp⟩, hb⟩
      refine ⟨?_, hb⟩
      rcases hp with ⟨Y2, z2, h2, rfl⟩ | ⟨_, rfl⟩
      · exact (hok ⟨_, _, h2⟩).elim
      · exact he
theorem C_pre {w : World} {A : Option Addr} {N n : Nat} {xs X : List S28} (h : Kd.C k28 w A N xs) (hX : xs.take n = X ∧ n ≤ xs.length) : Kd.C k28 w A X.length X := by
  have e : xs.length = N := h.1
  subst e
  rw [← hX.1]
  exact Kd.C_take h hX.2
theorem sameB_refl (b : Bool) : ∀ X : List S28, sameB b X X = true
  | [] => rfl
  | x :: xs => by rw [sameB, sameB_refl b xs]; simp [eqS]
def tail64 : List S28 := List.replicate 64 (mk0 (-4))
theorem tail64_at (X : List S28) (i : Nat) (hi : i < 64) : (X ++ tail64)[X.length + i]? = some (mk0 (-4)) := by
  rw [List.getElem?_append_right (by omega), Nat.add_sub_cancel_left]
  unfold tail64
  rw [List.getElem?_replicate, if_pos hi]
set_option maxHeartbeats 4000000 in
set_option maxRecDepth 100000 in
theorem printed_calls (X : List S28) (hB : Bd X) (ad : Addr) (c : Nat) (w : World) (E : PEnv w) (hC : Kd.C k28 w (some ad) (X.length + 64) (X ++ tail64)) (hc : X.length + 64 ≤ c) : Calls Tryz.prog 7 #[.slice (some ad) (X.length + 64) c, .int .i64 (X.length : Int)] w fun e w' => e = .returned (.bool true) ∧ Below w.heap.size w w' := by
  obtain ⟨s, k, h9, h10⟩ := two_prints X hB
  have hlen := wt_len X
  have hs := hB.sum
  have hn : X.length ≤ 11184810 := by omega
  have hX : Kd.C k28 w (some ad) X.length X := C_pre hC ⟨List.take_left' rfl, by simp⟩
  have HE := Aside0.mk E
  have H9 := Aside0.mk h9
  have H10 := Aside0.mk h10
  have HW : Aside0 (Below w.heap.size w w ∧ Kd.C k28 w (some ad) X.length X ∧ Kd.C k28 w (some ad) (X.length + 64) (X ++ tail64)) := ⟨Below.refl _ _, hX, hC⟩
  have HLN : Aside0 (X.length ≤ 1073741824 ∧ X.length ≤ c) := ⟨by omega, by omega⟩
  clear h9 h10 hX hC hB hlen hs E
  go_enter Tryz.func7, Tryz.ntmps7
  go_wp2_with (first
    | (go_at_call 6; refine (twin_calls X HLN.out.1 _ c _ HW.out.2.1 HLN.out.2).mono ?_; rintro e w1 ⟨v, rfl, hR, hb⟩; obtain ⟨A1, c1, hv, hc1, hC1⟩ := Kd.R_reads hR; subst hv; replace HW := Aside0.mk (And.intro (below_then HW.out.1 HW.out.1.size hb) (And.intro (Kd.C_below HW.out.2.1 hb) (And.intro (Kd.C_below HW.out.2.2 hb) (And.intro hC1 hc1)))); clear hb hR hC1 hc1)
    | (go_at_call 9; refine (H9.out _ c _ (HE.out.below HW.out.1) HW.out.2.1 HLN.out.2).mono ?_; rintro e w2 ⟨rfl, hb⟩; replace HW := Aside0.mk (And.intro (below_then HW.out.1 HW.out.1.size hb) (And.intro (Kd.C_below HW.out.2.1 hb) (And.intro (Kd.C_below HW.out.2.2.1 hb) (And.intro (Kd.C_below HW.out.2.2.2.1 hb) HW.out.2.2.2.2)))); clear hb)
    | (go_at_call 10; refine (H10.out _ _ _ (HE.out.below HW.out.1) HW.out.2.2.2.1 HW.out.2.2.2.2).mono ?_; rintro e w3 ⟨rfl, hb⟩; replace HW := Aside0.mk (And.intro (below_then HW.out.1 HW.out.1.size hb) (And.intro (Kd.C_below HW.out.2.1 hb) (And.intro (Kd.C_below HW.out.2.2.1 hb) (And.intro (Kd.C_below HW.out.2.2.2.1 hb) HW.out.2.2.2.2)))); clear hb)
    | (go_at_call 11; refine (num_calls k _).mono ?_; rintro e w4 ⟨rfl, hb⟩; replace HW := Aside0.mk (And.intro (below_then HW.out.1 HW.out.1.size hb) (And.intro (Kd.C_below HW.out.2.1 hb) (And.intro (Kd.C_below HW.out.2.2.1 hb) (And.intro (Kd.C_below HW.out.2.2.2.1 hb) HW.out.2.2.2.2)))); clear hb)
    | (go_at_call 12; refine (same_calls X X _ _ c _ true _ HW.out.2.1 HLN.out.2 HW.out.2.2.2.1 HW.out.2.2.2.2 (Nat.le_trans HLN.out.1 (by decide))).mono ?_; rintro e w5 ⟨rfl, hd⟩; rw [sameB_refl]; replace HW := Aside0.mk (And.intro (below_then HW.out.1 HW.out.1.size (below_drawn hd)) (And.intro (Kd.C_below HW.out.2.1 (below_drawn hd)) (And.intro (Kd.C_below HW.out.2.2.1 (below_drawn hd)) (And.intro (Kd.C_below HW.out.2.2.2.1 (below_drawn hd)) HW.out.2.2.2.2)))); clear hd))
  have HW5 : Aside0 (Below w.heap.size w w5 ∧ Kd.C k28 w5 (some ad) (X.length + 64) (X ++ tail64)) := ⟨HW.out.1, HW.out.2.2.1⟩
  clear HW
  go_loopw [10] (fun v10 wr => ∃ i : Nat, v10 = .int .i64 (i : Int) ∧ i ≤ 64 ∧ Aside0 (Below w.heap.size w wr ∧ Kd.C k28 wr (some ad) (X.length + 64) (X ++ tail64))) (fun v10 _ => 64 - (intOf v10).toNat)
  case atStart => exact ⟨0, rfl, by omega, HW5⟩
  case round =>
    obtain ⟨i, rfl, hi, HR⟩ := hrel
    clear HW5
    by_cases hlt : i < 64
    · have hd : decide ((i : Int) < 64) = true := decide_eq_true (by omega)
      have hw2 : wrap64 ((i : Int) + 1) = (i : Int) + 1 := by unfold wrap64; omega
      have hlt2 : X.length + i < X.length + 64 := by omega
      have HMS : Aside0 (64 - (intOf (Value.int IntKind.i64 ((i : Int) + 1))).toNat < 64 - (intOf (Value.int IntKind.i64 (i : Int))).toNat) := ⟨by simp only [intOf]; omega⟩
      obtain ⟨ad', ead, x0, _⟩ := at_T28 HR.out.2 ((X.length + i : Nat) : Int) (by omega) (by omega)
      cases ead
      have hr : rd_T28 (X ++ tail64) ((X.length + i : Nat) : Int) = mk0 (-4) := by
        have ht := tail64_at X i hlt
        have hl := (List.getElem?_eq_some_iff.1 ht).1
        rw [rd_at _ _ hl]; exact (List.getElem?_eq_some_iff.1 ht).2
      rw [hr, Int.toNat_natCast] at x0
      replace x0 : _ = some (Value.int .i64 (-4)) := x0
      clear hr
      go_wp2_with fail
      go_roundw
      case rel => exact ⟨i + 1, rfl, hlt, HR⟩
      case measure => exact HMS.out
    · obtain rfl : i = 64 := by omega
      have hd : decide (((64 : Nat) : Int) < 64) = false := by decide
      go_wp2_with fail
      go_ret
      exact ⟨rfl, HR.out.1⟩
end Go.Proofs.YtjibdaigclgmhaaGreatDoor.LexW
