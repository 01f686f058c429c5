-- PRINTED BY print.sh 35421559b90ae4d0a3588c463048766b98c2df88dd9212a6774a882060cdf62d: not written by this session
import Derived.Test.YtcnjdgafemgaeaaPWordBitsx0
import Derived.Test.YtcnjdgafemgaeaaPWordBitsx1
namespace Go.Proofs.Ytcnjdgafemgaeaa.PWordBits
open Go.RowKit Go.Proofs.YtcnjdgafemgaeaaW.PrintWords Go.Proofs.YtcnjdgafemgaeaaW.PrintLast Go.Proofs.YtcnjdgafemgaeaaW.PrintMore
attribute [local go_sem] max2_int min2_int max_two min_two max_three min_three max_four min_four   -- for this text's walks alone
set_option linter.unusedVariables false
set_option linter.unusedSimpArgs false

/-! ### kilnref1_Shift: function 26 -/
mutual
def kilnref1_Shift.j0 : Nat → Int → Int → Bool → Option (Int × Int)
  | 0, _, _, _ => none
  | k + 1, x0, x1, x15 => if x15 = true then (some (0, 1)) else (kilnref1_Shift.l0 k x0 x1 0)
def kilnref1_Shift.j2 : Nat → Int → Int → Option (Int × Int)
  | 0, _, _ => none
  | k + 1, x0, x1 => kilnref1_Shift.l1 k x0 x1 0
def kilnref1_Shift.l1 : Nat → Int → Int → Int → Option (Int × Int)
  | 0, _, _, _ => none
  | k + 1, x0, x1, x7 => if x7 > x1 then (if x7 > (-31) then ((kilnref1_floored.f x0 2).bind fun t130 => (kilnref1_Shift.l1 k t130 x1 (wrap64 (x7 - 1)))) else (some (x0, 0))) else (some (x0, 0))
def kilnref1_Shift.l0 : Nat → Int → Int → Int → Option (Int × Int)
  | 0, _, _, _ => none
  | k + 1, x0, x1, x6 => if x6 < x1 then (if x6 < 31 then ((kilnref1_Wrap.f (wrap64 (2 * x0))).bind fun t129 => (kilnref1_Shift.l0 k t129 x1 (wrap64 (x6 + 1)))) else (kilnref1_Shift.j2 k x0 x1)) else (kilnref1_Shift.j2 k x0 x1)
end
def kilnref1_Shift.f (k : Nat) (a0 : Int) (a1 : Int) : Option (Int × Int) := (kilnref1_In.f a0).bind fun t127 => (if t127 = true then ((kilnref1_In.f a1).bind fun t128 => (kilnref1_Shift.j0 k a0 a1 (!t128))) else (kilnref1_Shift.j0 k a0 a1 true))
theorem kilnref1_Shift.mono_l : ∀ k, (∀ y0 y1 y2, LeO (kilnref1_Shift.j0 k y0 y1 y2) (kilnref1_Shift.j0 (k + 1) y0 y1 y2)) ∧ (∀ y0 y1, LeO (kilnref1_Shift.j2 k y0 y1) (kilnref1_Shift.j2 (k + 1) y0 y1)) ∧ (∀ y0 y1 y2, LeO (kilnref1_Shift.l1 k y0 y1 y2) (kilnref1_Shift.l1 (k + 1) y0 y1 y2)) ∧ (∀ y0 y1 y2, LeO (kilnref1_Shift.l0 k y0 y1 y2) (kilnref1_Shift.l0 (k + 1) y0 y1 y2))
  | 0 => ⟨fun _ _ _ r h => by simp [kilnref1_Shift.j0] at h, fun _ _ r h => by simp [kilnref1_Shift.j2] at h, fun _ _ _ r h => by simp [kilnref1_Shift.l1] at h, fun _ _ _ r h => by simp [kilnref1_Shift.l0] at h⟩
  | k + 1 => by
    obtain ⟨ih0, ih1, ih2, ih3⟩ := kilnref1_Shift.mono_l k
    refine ⟨?_, ?_, ?_, ?_⟩
    · intro y0 y1 y2
      unfold kilnref1_Shift.j0
      repeat' first
      | (with_reducible exact ih0 _ _ _)
      | (with_reducible exact ih1 _ _)
      | (with_reducible exact ih2 _ _ _)
      | (with_reducible exact ih3 _ _ _)
      | (with_reducible exact LeO.refl _)
      | (with_reducible exact LeO.none _)
      | (with_reducible refine LeO.ite ?_ ?_)
      | (with_reducible refine LeO.bind ?_ (fun _ => ?_))
      | exact ih0 _ _ _
      | exact ih1 _ _
      | exact ih2 _ _ _
      | exact ih3 _ _ _
      | exact LeO.none _
      | refine LeO.ite ?_ ?_
      | refine LeO.bind ?_ (fun _ => ?_)
    · intro y0 y1
      unfold kilnref1_Shift.j2
      repeat' first
      | (with_reducible exact ih0 _ _ _)
      | (with_reducible exact ih1 _ _)
      | (with_reducible exact ih2 _ _ _)
      | (with_reducible exact ih3 _ _ _)
      | (with_reducible exact LeO.refl _)
      | (with_reducible exact LeO.none _)
      | (with_reducible refine LeO.ite ?_ ?_)
      | (with_reducible refine LeO.bind ?_ (fun _ => ?_))
      | exact ih0 _ _ _
      | exact ih1 _ _
      | exact ih2 _ _ _
      | exact ih3 _ _ _
      | exact LeO.none _
      | refine LeO.ite ?_ ?_
      | refine LeO.bind ?_ (fun _ => ?_)
    · intro y0 y1 y2
      unfold kilnref1_Shift.l1
      repeat' first
      | (with_reducible exact ih0 _ _ _)
      | (with_reducible exact ih1 _ _)
      | (with_reducible exact ih2 _ _ _)
      | (with_reducible exact ih3 _ _ _)
      | (with_reducible exact LeO.refl _)
      | (with_reducible exact LeO.none _)
      | (with_reducible refine LeO.ite ?_ ?_)
      | (with_reducible refine LeO.bind ?_ (fun _ => ?_))
      | exact ih0 _ _ _
      | exact ih1 _ _
      | exact ih2 _ _ _
      | exact ih3 _ _ _
      | exact LeO.none _
      | refine LeO.ite ?_ ?_
      | refine LeO.bind ?_ (fun _ => ?_)
    · intro y0 y1 y2
      unfold kilnref1_Shift.l0
      repeat' first
      | (with_reducible exact ih0 _ _ _)
      | (with_reducible exact ih1 _ _)
      | (with_reducible exact ih2 _ _ _)
      | (with_reducible exact ih3 _ _ _)
      | (with_reducible exact LeO.refl _)
      | (with_reducible exact LeO.none _)
      | (with_reducible refine LeO.ite ?_ ?_)
      | (with_reducible refine LeO.bind ?_ (fun _ => ?_))
      | exact ih0 _ _ _
      | exact ih1 _ _
      | exact ih2 _ _ _
      | exact ih3 _ _ _
      | exact LeO.none _
      | refine LeO.ite ?_ ?_
      | refine LeO.bind ?_ (fun _ => ?_)
theorem kilnref1_Shift.mono : ∀ a0 a1 k, LeO (kilnref1_Shift.f k a0 a1) (kilnref1_Shift.f (k + 1) a0 a1) := by
  intro a0 a1 k
  obtain ⟨ih0, ih1, ih2, ih3⟩ := kilnref1_Shift.mono_l k
  unfold kilnref1_Shift.f
  repeat' first
      | (with_reducible exact ih0 _ _ _)
      | (with_reducible exact ih1 _ _)
      | (with_reducible exact ih2 _ _ _)
      | (with_reducible exact ih3 _ _ _)
      | (with_reducible exact LeO.refl _)
      | (with_reducible exact LeO.none _)
      | (with_reducible refine LeO.ite ?_ ?_)
      | (with_reducible refine LeO.bind ?_ (fun _ => ?_))
      | exact ih0 _ _ _
      | exact ih1 _ _
      | exact ih2 _ _ _
      | exact ih3 _ _ _
      | exact LeO.none _
      | refine LeO.ite ?_ ?_
      | refine LeO.bind ?_ (fun _ => ?_)
set_option maxHeartbeats 8000000 in
set_option maxRecDepth 100000 in
theorem kilnref1_Shift.calls (k : Nat) (a0 : Int) (a1 : Int) (r1 : Int) (r2 : Int) (w : World) (h : kilnref1_Shift.f k a0 a1 = some (r1, r2)) :
    Calls Try.prog 26 #[.int .i64 a0, .int .i64 a1] w fun e w' => e = .returned (.tuple #[.int .i64 r1, .int .i64 r2]) ∧ Drawn0 w w' := by
  have H : ((kilnref1_In.f a0).bind fun t127 => (if t127 = true then ((kilnref1_In.f a1).bind fun t128 => (kilnref1_Shift.j0 k a0 a1 (!t128))) else (kilnref1_Shift.j0 k a0 a1 true))) = some (r1, r2) := h
  clear h
  have HC3 := Aside0.mk H
  clear H
  go_enter Try.func26, Try.ntmps26
  go_upto_region 1 with (fail)
  go_cut [15] (fun v15 wc => ∃ (kq : Nat) (x15_2 : Bool), v15 = .bool x15_2 ∧ Aside0 (kilnref1_Shift.j0 kq a0 a1 x15_2 = some (r1, r2)) ∧ Aside0 (kq ≤ k) ∧ Drawn0 w wc)
  case first =>
    have H := HC3.out
    clear HC3
    replace H := Option.bind_eq_some_iff.mp H
    obtain ⟨t127, A40, H⟩ := H
    replace H : (if t127 = true then ((kilnref1_In.f a1).bind fun t128 => (kilnref1_Shift.j0 k a0 a1 (!t128))) else (kilnref1_Shift.j0 k a0 a1 true)) = some (r1, r2) := H
    have A4 := Aside0.mk A40
    clear A40
    by_cases c5 : t127 = true
    · subst c5
      have H1 : ((kilnref1_In.f a1).bind fun t128 => (kilnref1_Shift.j0 k a0 a1 (!t128))) = some (r1, r2) := by rw [if_pos rfl] at H; exact H
      clear H
      have H := H1
      clear H1
      replace H := Option.bind_eq_some_iff.mp H
      obtain ⟨t128, A60, H⟩ := H
      replace H : (kilnref1_Shift.j0 k a0 a1 (!t128)) = some (r1, r2) := H
      have A6 := Aside0.mk A60
      clear A60
      have H' := Aside0.mk H
      clear H
      go_wp2_with (first | ((with_reducible refine gate_callee (f := 59) rfl ?_); refine goesL_ (some 9) rfl rfl Try.func59 (by kernel_rfl) rfl #[.int .i64 a0] rfl (by (try simp only [List.map_toArray, List.map_cons, List.map_nil]); first | done | rfl | (simp only [List.length_drop, List.length_take]; rfl)) ?_; (with_reducible refine (kilnref1_In.calls a0 true _ A4.out).mono ?_); rintro e w' ⟨rfl, ⟨nd, rfl⟩⟩; refine ⟨_, rfl, ?_⟩) | (go_at_call 59; (with_reducible refine (kilnref1_In.calls a1 t128 _ A6.out).mono ?_); rintro e w' ⟨rfl, ⟨nd, rfl⟩⟩))
      go_meet
      case rel => exact ⟨_, (!t128), (by first | rfl | (simp; done) | (simp [*]; done)), H', ⟨by first | omega | exact Nat.le_refl _⟩, by repeat (first | exact Drawn0.refl _ | apply Drawn0.step)⟩
    · replace c5 := Bool.eq_false_iff.mpr c5
      subst c5
      have H1 : (kilnref1_Shift.j0 k a0 a1 true) = some (r1, r2) := by rw [if_neg (show ¬ (false = true) by decide)] at H; exact H
      clear H
      have H := H1
      clear H1
      have H' := Aside0.mk H
      clear H
      go_wp2_with (first | ((with_reducible refine gate_callee (f := 59) rfl ?_); refine goesL_ (some 9) rfl rfl Try.func59 (by kernel_rfl) rfl #[.int .i64 a0] rfl (by (try simp only [List.map_toArray, List.map_cons, List.map_nil]); first | done | rfl | (simp only [List.length_drop, List.length_take]; rfl)) ?_; (with_reducible refine (kilnref1_In.calls a0 false _ A4.out).mono ?_); rintro e w' ⟨rfl, ⟨nd, rfl⟩⟩; refine ⟨_, rfl, ?_⟩))
      go_meet
      case rel => exact ⟨_, (true), (by first | rfl | (simp; done) | (simp [*]; done)), H', ⟨by first | omega | exact Nat.le_refl _⟩, by repeat (first | exact Drawn0.refl _ | apply Drawn0.step)⟩
  case rest =>
    clear HC3
    try clear c2
    try clear p2
    try clear c5
    obtain ⟨kq, x15_2, rfl, HA, HJ2, ⟨mc2, rfl⟩⟩ := hcut
    cases kq with
    | zero => exact absurd HA.out (by simp [kilnref1_Shift.j0])
    | succ kj2 =>
      have H := HA.out
      clear HA
      simp only [kilnref1_Shift.j0] at H
      by_cases c7 : x15_2 = true
      · subst c7
        have H1 : (some (0, 1)) = some (r1, r2) := by rw [if_pos rfl] at H; exact H
        clear H
        have H := H1
        clear H1
        simp only [Option.some.injEq, Prod.mk.injEq] at H
        obtain ⟨rfl, rfl⟩ := H
        go_wp2
        go_ret2
        exact ⟨by first | rfl | (simp; done) | (simp [*]; done), by repeat (first | exact Drawn0.refl _ | apply Drawn0.step)⟩
      · replace c7 := Bool.eq_false_iff.mpr c7
        subst c7
        have H1 : (kilnref1_Shift.l0 kj2 a0 a1 0) = some (r1, r2) := by rw [if_neg (show ¬ (false = true) by decide)] at H; exact H
        clear H
        have H := H1
        clear H1
        have HC8 := Aside0.mk H
        clear H
        go_upto_block 0 with (fail)
        go_cut [0] (fun v0 wc => ∃ (kq : Nat) (x0_7 : Int), v0 = .int .i64 x0_7 ∧ Aside0 (kilnref1_Shift.j2 kq x0_7 a1 = some (r1, r2)) ∧ Aside0 (kq ≤ kj2) ∧ Drawn0 w wc)
        case first =>
          have H := HC8.out
          clear HC8
          have H' := Aside0.mk H
          clear H
          go_wp2
          go_loopg [0, 6] kj2 (fun kq v0 v6 w' => ∃ (x0_2 : Int) (x6_2 : Int), v0 = .int .i64 x0_2 ∧ v6 = .int .i64 x6_2 ∧ Aside0 (kilnref1_Shift.l0 kq x0_2 a1 x6_2 = some (r1, r2)) ∧ Aside0 (kq ≤ kj2) ∧ Drawn0 w w')
          case atStart => exact ⟨(a0), (0), (by first | rfl | (simp; done) | (simp [*]; done)), (by first | rfl | (simp; done) | (simp [*]; done)), H', ⟨Nat.le_refl _⟩, by repeat (first | exact Drawn0.refl _ | apply Drawn0.step)⟩
          case round =>
            clear H'
            try clear c2
            try clear p2
            try clear c5
            try clear c7
            try clear p2
            obtain ⟨x0_2, x6_2, rfl, rfl, HA, HK2, ⟨m2, rfl⟩⟩ := hrel
            cases gk with
            | zero => exact absurd HA.out (by simp [kilnref1_Shift.l0])
            | succ k2 =>
              have H := HA.out
              clear HA
              simp only [kilnref1_Shift.l0] at H
              by_cases c9 : x6_2 < a1
              · rw [if_pos c9] at H
                have c9b0 : decide (x6_2 < a1) = true := decide_eq_true c9
                clear c9
                (first | rw [c9b0] | (simp only [i64_w, i32_w]; rw [c9b0]) | skip)
                by_cases c10 : x6_2 < 31
                · rw [if_pos c10] at H
                  have c10b0 : decide (x6_2 < 31) = true := decide_eq_true c10
                  clear c10
                  replace H := Option.bind_eq_some_iff.mp H
                  obtain ⟨t129, A110, H⟩ := H
                  replace H : (kilnref1_Shift.l0 k2 t129 a1 (wrap64 (x6_2 + 1))) = some (r1, r2) := H
                  have A11 := Aside0.mk A110
                  clear A110
                  have H' := Aside0.mk H
                  clear H
                  go_wp2_with (first | ((with_reducible refine gate_callee (f := 61) rfl ?_); refine goesL_ (some 27) rfl rfl Try.func61 (by kernel_rfl) rfl #[.int .i64 (wrap64 (2 * x0_2))] rfl (by (try simp only [List.map_toArray, List.map_cons, List.map_nil]); first | done | rfl | (simp only [List.length_drop, List.length_take]; rfl)) ?_; (with_reducible refine (kilnref1_Wrap.calls (wrap64 (2 * x0_2)) t129 _ A11.out).mono ?_); rintro e w' ⟨rfl, ⟨nd, rfl⟩⟩; refine ⟨_, rfl, ?_⟩))
                  go_roundg k2
                  case measure => have := HJ2.out; have := HK2.out; omega
                  case rel => exact ⟨(t129), (wrap64 (x6_2 + 1)), (by first | rfl | (simp; done) | (simp [*]; done)), (by first | rfl | (simp; done) | (simp [*]; done)), H', ⟨by have := HJ2.out; have := HK2.out; omega⟩, by repeat (first | exact Drawn0.refl _ | apply Drawn0.step)⟩
                · rw [if_neg c10] at H
                  have c10b0 : decide (x6_2 < 31) = false := decide_eq_false c10
                  clear c10
                  have H' := Aside0.mk H
                  clear H
                  go_wp2
                  go_meet
                  case rel => exact ⟨_, (x0_2), (by first | rfl | (simp; done) | (simp [*]; done)), H', ⟨by have := HJ2.out; have := HK2.out; first | omega | exact Nat.le_refl _⟩, by repeat (first | exact Drawn0.refl _ | apply Drawn0.step)⟩
              · rw [if_neg c9] at H
                have c9b0 : decide (x6_2 < a1) = false := decide_eq_false c9
                clear c9
                (first | rw [c9b0] | (simp only [i64_w, i32_w]; rw [c9b0]) | skip)
                have H' := Aside0.mk H
                clear H
                go_wp2
                go_meet
                case rel => exact ⟨_, (x0_2), (by first | rfl | (simp; done) | (simp [*]; done)), H', ⟨by have := HJ2.out; have := HK2.out; first | omega | exact Nat.le_refl _⟩, by repeat (first | exact Drawn0.refl _ | apply Drawn0.step)⟩
        case rest =>
          clear HC8
          try clear c1
          try clear c2
          try clear p2
          try clear c5
          try clear c6
          try clear p6
          try clear c7
          try clear c9
          try clear c9b0
          try clear c10
          try clear c10b0
          try clear p2
          obtain ⟨kq, x0_7, rfl, HA, HJ7, ⟨mc7, rfl⟩⟩ := hcut
          cases kq with
          | zero => exact absurd HA.out (by simp [kilnref1_Shift.j2])
          | succ kj7 =>
            have H := HA.out
            clear HA
            simp only [kilnref1_Shift.j2] at H
            have H' := Aside0.mk H
            clear H
            go_wp2
            go_loopg [0, 7] kj7 (fun kq v0 v7 w' => ∃ (x0_3 : Int) (x7_3 : Int), v0 = .int .i64 x0_3 ∧ v7 = .int .i64 x7_3 ∧ Aside0 (kilnref1_Shift.l1 kq x0_3 a1 x7_3 = some (r1, r2)) ∧ Aside0 (kq ≤ kj7) ∧ Drawn0 w w')
            case atStart => exact ⟨(x0_7), (0), (by first | rfl | (simp; done) | (simp [*]; done)), (by first | rfl | (simp; done) | (simp [*]; done)), H', ⟨Nat.le_refl _⟩, by repeat (first | exact Drawn0.refl _ | apply Drawn0.step)⟩
            case round =>
              clear H'
              try clear c1
              try clear c2
              try clear p2
              try clear c5
              try clear c6
              try clear p6
              try clear c7
              try clear c9
              try clear c9b0
              try clear c10
              try clear c10b0
              try clear p2
              try clear p6
              obtain ⟨x0_3, x7_3, rfl, rfl, HA, HK3, ⟨m3, rfl⟩⟩ := hrel
              cases gk with
              | zero => exact absurd HA.out (by simp [kilnref1_Shift.l1])
              | succ k3 =>
                have H := HA.out
                clear HA
                simp only [kilnref1_Shift.l1] at H
                by_cases c12 : x7_3 > a1
                · rw [if_pos c12] at H
                  have c12b0 : decide (a1 < x7_3) = true := decide_eq_true c12
                  clear c12
                  by_cases c13 : x7_3 > (-31)
                  · rw [if_pos c13] at H
                    have c13b0 : decide ((-31) < x7_3) = true := decide_eq_true c13
                    clear c13
                    replace H := Option.bind_eq_some_iff.mp H
                    obtain ⟨t130, A140, H⟩ := H
                    replace H : (kilnref1_Shift.l1 k3 t130 a1 (wrap64 (x7_3 - 1))) = some (r1, r2) := H
                    have A14 := Aside0.mk A140
                    clear A140
                    have H' := Aside0.mk H
                    clear H
                    go_wp2_with (first | ((with_reducible refine gate_callee (f := 62) rfl ?_); refine goesL_ (some 38) rfl rfl Try.func62 (by kernel_rfl) rfl #[.int .i64 x0_3, .int .i64 2] rfl (by (try simp only [List.map_toArray, List.map_cons, List.map_nil]); first | done | rfl | (simp only [List.length_drop, List.length_take]; rfl)) ?_; (with_reducible refine (kilnref1_floored.calls x0_3 2 t130 _ A14.out).mono ?_); rintro e w' ⟨rfl, ⟨nd, rfl⟩⟩; refine ⟨_, rfl, ?_⟩))
                    go_roundg k3
                    case measure => have := HJ2.out; have := HJ7.out; have := HK3.out; omega
                    case rel => exact ⟨(t130), (wrap64 (x7_3 - 1)), (by first | rfl | (simp; done) | (simp [*]; done)), (by first | rfl | (simp; done) | (simp [*]; done)), H', ⟨by have := HJ2.out; have := HJ7.out; have := HK3.out; omega⟩, by repeat (first | exact Drawn0.refl _ | apply Drawn0.step)⟩
                  · rw [if_neg c13] at H
                    have c13b0 : decide ((-31) < x7_3) = false := decide_eq_false c13
                    clear c13
                    simp only [Option.some.injEq, Prod.mk.injEq] at H
                    obtain ⟨rfl, rfl⟩ := H
                    go_wp2
                    go_ret2
                    exact ⟨by first | rfl | (simp; done) | (simp [*]; done), by repeat (first | exact Drawn0.refl _ | apply Drawn0.step)⟩
                · rw [if_neg c12] at H
                  have c12b0 : decide (a1 < x7_3) = false := decide_eq_false c12
                  clear c12
                  simp only [Option.some.injEq, Prod.mk.injEq] at H
                  obtain ⟨rfl, rfl⟩ := H
                  go_wp2
                  go_ret2
                  exact ⟨by first | rfl | (simp; done) | (simp [*]; done), by repeat (first | exact Drawn0.refl _ | apply Drawn0.step)⟩

/-! ### kilnlaw1_WordBits: function 4 -/
def kilnlaw1_WordBits.j0 : Nat → Int → Int → Bool → Option (Bool)
  | 0, _, _, _ => none
  | k + 1, x0, x1, x87 => if x87 = true then (some false) else ((word_Shift.f x0 x1).bind fun bt146 => ((kilnref1_Shift.f k x0 x1).bind fun bt148 => (if bt146.1 = bt148.1 then ((kilnlaw1_num.f bt146.2).bind fun t150 => (some (t150 == bt148.2))) else (some false))))
def kilnlaw1_WordBits.f (k : Nat) (a0 : Int) (a1 : Int) : Option (Bool) := (word_And.f a0 a1).bind fun bt131 => ((kilnref1_And.f k a0 a1).bind fun bt133 => ((word_Or.f a0 a1).bind fun bt135 => ((kilnref1_Or.f k a0 a1).bind fun bt137 => ((word_Xor.f a0 a1).bind fun bt139 => ((kilnref1_Xor.f k a0 a1).bind fun bt141 => (if bt131.1 = bt133.1 then ((kilnlaw1_num.f bt131.2).bind fun t143 => (if t143 = bt133.2 then (if bt135.1 = bt137.1 then ((kilnlaw1_num.f bt135.2).bind fun t144 => (if t144 = bt137.2 then (if bt139.1 = bt141.1 then ((kilnlaw1_num.f bt139.2).bind fun t145 => (kilnlaw1_WordBits.j0 k a0 a1 (t145 != bt141.2))) else (kilnlaw1_WordBits.j0 k a0 a1 true)) else (kilnlaw1_WordBits.j0 k a0 a1 true))) else (kilnlaw1_WordBits.j0 k a0 a1 true)) else (kilnlaw1_WordBits.j0 k a0 a1 true))) else (kilnlaw1_WordBits.j0 k a0 a1 true)))))))
theorem kilnlaw1_WordBits.mono_l : ∀ k, (∀ y0 y1 y2, LeO (kilnlaw1_WordBits.j0 k y0 y1 y2) (kilnlaw1_WordBits.j0 (k + 1) y0 y1 y2))
  | 0 => fun _ _ _ r h => by simp [kilnlaw1_WordBits.j0] at h
  | k + 1 => by
    have ih0 := kilnlaw1_WordBits.mono_l k
    · intro y0 y1 y2
      unfold kilnlaw1_WordBits.j0
      repeat' first
      | (with_reducible exact ih0 _ _ _)
      | (with_reducible exact kilnref1_And.mono _ _ _)
      | (with_reducible exact kilnref1_Or.mono _ _ _)
      | (with_reducible exact kilnref1_Shift.mono _ _ _)
      | (with_reducible exact kilnref1_Xor.mono _ _ _)
      | (with_reducible exact LeO.refl _)
      | (with_reducible exact LeO.none _)
      | (with_reducible refine LeO.ite ?_ ?_)
      | (with_reducible refine LeO.bind ?_ (fun _ => ?_))
      | exact ih0 _ _ _
      | exact kilnref1_And.mono _ _ _
      | exact kilnref1_Or.mono _ _ _
      | exact kilnref1_Shift.mono _ _ _
      | exact kilnref1_Xor.mono _ _ _
      | exact LeO.none _
      | refine LeO.ite ?_ ?_
      | refine LeO.bind ?_ (fun _ => ?_)
theorem kilnlaw1_WordBits.mono : ∀ a0 a1 k, LeO (kilnlaw1_WordBits.f k a0 a1) (kilnlaw1_WordBits.f (k + 1) a0 a1) := by
  intro a0 a1 k
  have ih0 := kilnlaw1_WordBits.mono_l k
  unfold kilnlaw1_WordBits.f
  repeat' first
      | (with_reducible exact ih0 _ _ _)
      | (with_reducible exact kilnref1_And.mono _ _ _)
      | (with_reducible exact kilnref1_Or.mono _ _ _)
      | (with_reducible exact kilnref1_Shift.mono _ _ _)
      | (with_reducible exact kilnref1_Xor.mono _ _ _)
      | (with_reducible exact LeO.refl _)
      | (with_reducible exact LeO.none _)
      | (with_reducible refine LeO.ite ?_ ?_)
      | (with_reducible refine LeO.bind ?_ (fun _ => ?_))
      | exact ih0 _ _ _
      | exact kilnref1_And.mono _ _ _
      | exact kilnref1_Or.mono _ _ _
      | exact kilnref1_Shift.mono _ _ _
      | exact kilnref1_Xor.mono _ _ _
      | exact LeO.none _
      | refine LeO.ite ?_ ?_
      | refine LeO.bind ?_ (fun _ => ?_)
set_option maxHeartbeats 8000000 in
set_option maxRecDepth 100000 in
theorem kilnlaw1_WordBits.calls (k : Nat) (a0 : Int) (a1 : Int) (r : Bool) (w : World) (h : kilnlaw1_WordBits.f k a0 a1 = some r) :
    Calls Try.prog 4 #[.int .i64 a0, .int .i64 a1] w fun e w' => e = .returned (.bool r) ∧ Below w.heap.size w w' := by
  have HB := Aside0.mk (Below.refl w.heap.size w)
  have H : ((word_And.f a0 a1).bind fun bt131 => ((kilnref1_And.f k a0 a1).bind fun bt133 => ((word_Or.f a0 a1).bind fun bt135 => ((kilnref1_Or.f k a0 a1).bind fun bt137 => ((word_Xor.f a0 a1).bind fun bt139 => ((kilnref1_Xor.f k a0 a1).bind fun bt141 => (if bt131.1 = bt133.1 then ((kilnlaw1_num.f bt131.2).bind fun t143 => (if t143 = bt133.2 then (if bt135.1 = bt137.1 then ((kilnlaw1_num.f bt135.2).bind fun t144 => (if t144 = bt137.2 then (if bt139.1 = bt141.1 then ((kilnlaw1_num.f bt139.2).bind fun t145 => (kilnlaw1_WordBits.j0 k a0 a1 (t145 != bt141.2))) else (kilnlaw1_WordBits.j0 k a0 a1 true)) else (kilnlaw1_WordBits.j0 k a0 a1 true))) else (kilnlaw1_WordBits.j0 k a0 a1 true)) else (kilnlaw1_WordBits.j0 k a0 a1 true))) else (kilnlaw1_WordBits.j0 k a0 a1 true)))))))) = some r := h
  clear h
  replace H := Option.bind_eq_some_iff.mp H
  obtain ⟨⟨t131, t132⟩, A30, H⟩ := H
  replace H : ((kilnref1_And.f k a0 a1).bind fun bt133 => ((word_Or.f a0 a1).bind fun bt135 => ((kilnref1_Or.f k a0 a1).bind fun bt137 => ((word_Xor.f a0 a1).bind fun bt139 => ((kilnref1_Xor.f k a0 a1).bind fun bt141 => (if t131 = bt133.1 then ((kilnlaw1_num.f t132).bind fun t143 => (if t143 = bt133.2 then (if bt135.1 = bt137.1 then ((kilnlaw1_num.f bt135.2).bind fun t144 => (if t144 = bt137.2 then (if bt139.1 = bt141.1 then ((kilnlaw1_num.f bt139.2).bind fun t145 => (kilnlaw1_WordBits.j0 k a0 a1 (t145 != bt141.2))) else (kilnlaw1_WordBits.j0 k a0 a1 true)) else (kilnlaw1_WordBits.j0 k a0 a1 true))) else (kilnlaw1_WordBits.j0 k a0 a1 true)) else (kilnlaw1_WordBits.j0 k a0 a1 true))) else (kilnlaw1_WordBits.j0 k a0 a1 true))))))) = some r := H
  have A3 := Aside0.mk A30
  clear A30
  replace H := Option.bind_eq_some_iff.mp H
  obtain ⟨⟨t133, t134⟩, A40, H⟩ := H
  replace H : ((word_Or.f a0 a1).bind fun bt135 => ((kilnref1_Or.f k a0 a1).bind fun bt137 => ((word_Xor.f a0 a1).bind fun bt139 => ((kilnref1_Xor.f k a0 a1).bind fun bt141 => (if t131 = t133 then ((kilnlaw1_num.f t132).bind fun t143 => (if t143 = t134 then (if bt135.1 = bt137.1 then ((kilnlaw1_num.f bt135.2).bind fun t144 => (if t144 = bt137.2 then (if bt139.1 = bt141.1 then ((kilnlaw1_num.f bt139.2).bind fun t145 => (kilnlaw1_WordBits.j0 k a0 a1 (t145 != bt141.2))) else (kilnlaw1_WordBits.j0 k a0 a1 true)) else (kilnlaw1_WordBits.j0 k a0 a1 true))) else (kilnlaw1_WordBits.j0 k a0 a1 true)) else (kilnlaw1_WordBits.j0 k a0 a1 true))) else (kilnlaw1_WordBits.j0 k a0 a1 true)))))) = some r := H
  have A4 := Aside0.mk A40
  clear A40
  replace H := Option.bind_eq_some_iff.mp H
  obtain ⟨⟨t135, t136⟩, A50, H⟩ := H
  replace H : ((kilnref1_Or.f k a0 a1).bind fun bt137 => ((word_Xor.f a0 a1).bind fun bt139 => ((kilnref1_Xor.f k a0 a1).bind fun bt141 => (if t131 = t133 then ((kilnlaw1_num.f t132).bind fun t143 => (if t143 = t134 then (if t135 = bt137.1 then ((kilnlaw1_num.f t136).bind fun t144 => (if t144 = bt137.2 then (if bt139.1 = bt141.1 then ((kilnlaw1_num.f bt139.2).bind fun t145 => (kilnlaw1_WordBits.j0 k a0 a1 (t145 != bt141.2))) else (kilnlaw1_WordBits.j0 k a0 a1 true)) else (kilnlaw1_WordBits.j0 k a0 a1 true))) else (kilnlaw1_WordBits.j0 k a0 a1 true)) else (kilnlaw1_WordBits.j0 k a0 a1 true))) else (kilnlaw1_WordBits.j0 k a0 a1 true))))) = some r := H
  have A5 := Aside0.mk A50
  clear A50
  replace H := Option.bind_eq_some_iff.mp H
  obtain ⟨⟨t137, t138⟩, A60, H⟩ := H
  replace H : ((word_Xor.f a0 a1).bind fun bt139 => ((kilnref1_Xor.f k a0 a1).bind fun bt141 => (if t131 = t133 then ((kilnlaw1_num.f t132).bind fun t143 => (if t143 = t134 then (if t135 = t137 then ((kilnlaw1_num.f t136).bind fun t144 => (if t144 = t138 then (if bt139.1 = bt141.1 then ((kilnlaw1_num.f bt139.2).bind fun t145 => (kilnlaw1_WordBits.j0 k a0 a1 (t145 != bt141.2))) else (kilnlaw1_WordBits.j0 k a0 a1 true)) else (kilnlaw1_WordBits.j0 k a0 a1 true))) else (kilnlaw1_WordBits.j0 k a0 a1 true)) else (kilnlaw1_WordBits.j0 k a0 a1 true))) else (kilnlaw1_WordBits.j0 k a0 a1 true)))) = some r := H
  have A6 := Aside0.mk A60
  clear A60
  replace H := Option.bind_eq_some_iff.mp H
  obtain ⟨⟨t139, t140⟩, A70, H⟩ := H
  replace H : ((kilnref1_Xor.f k a0 a1).bind fun bt141 => (if t131 = t133 then ((kilnlaw1_num.f t132).bind fun t143 => (if t143 = t134 then (if t135 = t137 then ((kilnlaw1_num.f t136).bind fun t144 => (if t144 = t138 then (if t139 = bt141.1 then ((kilnlaw1_num.f t140).bind fun t145 => (kilnlaw1_WordBits.j0 k a0 a1 (t145 != bt141.2))) else (kilnlaw1_WordBits.j0 k a0 a1 true)) else (kilnlaw1_WordBits.j0 k a0 a1 true))) else (kilnlaw1_WordBits.j0 k a0 a1 true)) else (kilnlaw1_WordBits.j0 k a0 a1 true))) else (kilnlaw1_WordBits.j0 k a0 a1 true))) = some r := H
  have A7 := Aside0.mk A70
  clear A70
  replace H := Option.bind_eq_some_iff.mp H
  obtain ⟨⟨t141, t142⟩, A80, H⟩ := H
  replace H : (if t131 = t133 then ((kilnlaw1_num.f t132).bind fun t143 => (if t143 = t134 then (if t135 = t137 then ((kilnlaw1_num.f t136).bind fun t144 => (if t144 = t138 then (if t139 = t141 then ((kilnlaw1_num.f t140).bind fun t145 => (kilnlaw1_WordBits.j0 k a0 a1 (t145 != t142))) else (kilnlaw1_WordBits.j0 k a0 a1 true)) else (kilnlaw1_WordBits.j0 k a0 a1 true))) else (kilnlaw1_WordBits.j0 k a0 a1 true)) else (kilnlaw1_WordBits.j0 k a0 a1 true))) else (kilnlaw1_WordBits.j0 k a0 a1 true)) = some r := H
  have A8 := Aside0.mk A80
  clear A80
  have HC9 := Aside0.mk H
  clear H
  go_enter Try.func4, Try.ntmps4
  go_upto_region 7 with (first | ((with_reducible refine gate_callee (f := 19) rfl ?_); refine goesL_ (some 24) rfl rfl Try.func19 (by kernel_rfl) rfl #[.int .i64 a0, .int .i64 a1] rfl (by (try simp only [List.map_toArray, List.map_cons, List.map_nil]); first | done | rfl | (simp only [List.length_drop, List.length_take]; rfl)) ?_; (with_reducible refine (word_And.calls a0 a1 t131 t132 _ A3.out).mono ?_); rintro e w' ⟨rfl, ⟨nd, rfl⟩⟩; refine ⟨_, rfl, ?_⟩) | ((with_reducible refine gate_callee (f := 20) rfl ?_); refine goesL_ (some 30) rfl rfl Try.func20 (by kernel_rfl) rfl #[.int .i64 a0, .int .i64 a1] rfl (by (try simp only [List.map_toArray, List.map_cons, List.map_nil]); first | done | rfl | (simp only [List.length_drop, List.length_take]; rfl)) ?_; (with_reducible refine (kilnref1_And.calls k a0 a1 t133 t134 _ A4.out).mono ?_); rintro e w' ⟨rfl, ⟨nd, rfl⟩⟩; refine ⟨_, rfl, ?_⟩) | ((with_reducible refine gate_callee (f := 21) rfl ?_); refine goesL_ (some 36) rfl rfl Try.func21 (by kernel_rfl) rfl #[.int .i64 a0, .int .i64 a1] rfl (by (try simp only [List.map_toArray, List.map_cons, List.map_nil]); first | done | rfl | (simp only [List.length_drop, List.length_take]; rfl)) ?_; (with_reducible refine (word_Or.calls a0 a1 t135 t136 _ A5.out).mono ?_); rintro e w' ⟨rfl, ⟨nd, rfl⟩⟩; refine ⟨_, rfl, ?_⟩) | ((with_reducible refine gate_callee (f := 22) rfl ?_); refine goesL_ (some 42) rfl rfl Try.func22 (by kernel_rfl) rfl #[.int .i64 a0, .int .i64 a1] rfl (by (try simp only [List.map_toArray, List.map_cons, List.map_nil]); first | done | rfl | (simp only [List.length_drop, List.length_take]; rfl)) ?_; (with_reducible refine (kilnref1_Or.calls k a0 a1 t137 t138 _ A6.out).mono ?_); rintro e w' ⟨rfl, ⟨nd, rfl⟩⟩; refine ⟨_, rfl, ?_⟩) | ((with_reducible refine gate_callee (f := 23) rfl ?_); refine goesL_ (some 48) rfl rfl Try.func23 (by kernel_rfl) rfl #[.int .i64 a0, .int .i64 a1] rfl (by (try simp only [List.map_toArray, List.map_cons, List.map_nil]); first | done | rfl | (simp only [List.length_drop, List.length_take]; rfl)) ?_; (with_reducible refine (word_Xor.calls a0 a1 t139 t140 _ A7.out).mono ?_); rintro e w' ⟨rfl, ⟨nd, rfl⟩⟩; refine ⟨_, rfl, ?_⟩) | ((with_reducible refine gate_callee (f := 24) rfl ?_); refine goesL_ (some 54) rfl rfl Try.func24 (by kernel_rfl) rfl #[.int .i64 a0, .int .i64 a1] rfl (by (try simp only [List.map_toArray, List.map_cons, List.map_nil]); first | done | rfl | (simp only [List.length_drop, List.length_take]; rfl)) ?_; (with_reducible refine (kilnref1_Xor.calls k a0 a1 t141 t142 _ A8.out).mono ?_); rintro e w' ⟨rfl, ⟨nd, rfl⟩⟩; refine ⟨_, rfl, ?_⟩))
  (try simp only [Act.put, List.setIfInBounds_toArray, List.set_cons_zero, List.set_cons_succ])
  go_cut [87] (fun v87 wc => ∃ (kq : Nat) (x87_8 : Bool), v87 = .bool x87_8 ∧ Aside0 (kilnlaw1_WordBits.j0 kq a0 a1 x87_8 = some r) ∧ Aside0 (kq ≤ k) ∧ Aside0 (Below w.heap.size w wc))
  case first =>
    have H := HC9.out
    clear HC9
    by_cases c10 : t131 = t133
    · rw [if_pos c10] at H
      have c10b0 : (t131 == t133) = true := beq_iff_eq.mpr c10
      have c10b1 : (t131 != t133) = false := bne_eq_false_iff_eq.mpr c10
      clear c10
      (first | rw [c10b0] | (simp only [i64_w, i32_w]; rw [c10b0]) | skip)
      replace H := Option.bind_eq_some_iff.mp H
      obtain ⟨t143, A110, H⟩ := H
      replace H : (if t143 = t134 then (if t135 = t137 then ((kilnlaw1_num.f t136).bind fun t144 => (if t144 = t138 then (if t139 = t141 then ((kilnlaw1_num.f t140).bind fun t145 => (kilnlaw1_WordBits.j0 k a0 a1 (t145 != t142))) else (kilnlaw1_WordBits.j0 k a0 a1 true)) else (kilnlaw1_WordBits.j0 k a0 a1 true))) else (kilnlaw1_WordBits.j0 k a0 a1 true)) else (kilnlaw1_WordBits.j0 k a0 a1 true)) = some r := H
      have A11 := Aside0.mk A110
      clear A110
      by_cases c12 : t143 = t134
      · rw [if_pos c12] at H
        have c12b0 : (t143 == t134) = true := beq_iff_eq.mpr c12
        have c12b1 : (t143 != t134) = false := bne_eq_false_iff_eq.mpr c12
        clear c12
        by_cases c13 : t135 = t137
        · rw [if_pos c13] at H
          have c13b0 : (t135 == t137) = true := beq_iff_eq.mpr c13
          have c13b1 : (t135 != t137) = false := bne_eq_false_iff_eq.mpr c13
          clear c13
          replace H := Option.bind_eq_some_iff.mp H
          obtain ⟨t144, A140, H⟩ := H
          replace H : (if t144 = t138 then (if t139 = t141 then ((kilnlaw1_num.f t140).bind fun t145 => (kilnlaw1_WordBits.j0 k a0 a1 (t145 != t142))) else (kilnlaw1_WordBits.j0 k a0 a1 true)) else (kilnlaw1_WordBits.j0 k a0 a1 true)) = some r := H
          have A14 := Aside0.mk A140
          clear A140
          by_cases c15 : t144 = t138
          · rw [if_pos c15] at H
            have c15b0 : (t144 == t138) = true := beq_iff_eq.mpr c15
            have c15b1 : (t144 != t138) = false := bne_eq_false_iff_eq.mpr c15
            clear c15
            by_cases c16 : t139 = t141
            · rw [if_pos c16] at H
              have c16b0 : (t139 == t141) = true := beq_iff_eq.mpr c16
              have c16b1 : (t139 != t141) = false := bne_eq_false_iff_eq.mpr c16
              clear c16
              replace H := Option.bind_eq_some_iff.mp H
              obtain ⟨t145, A170, H⟩ := H
              replace H : (kilnlaw1_WordBits.j0 k a0 a1 (t145 != t142)) = some r := H
              have A17 := Aside0.mk A170
              clear A170
              have H' := Aside0.mk H
              clear H
              go_wp2_with (first | (go_at_call 17; (with_reducible refine (kilnlaw1_num.calls t132 t143 _ A11.out).mono ?_); rintro e w' ⟨rfl, ⟨nd, rfl⟩⟩) | (go_at_call 17; (with_reducible refine (kilnlaw1_num.calls t136 t144 _ A14.out).mono ?_); rintro e w' ⟨rfl, ⟨nd, rfl⟩⟩) | (go_at_call 17; (with_reducible refine (kilnlaw1_num.calls t140 t145 _ A17.out).mono ?_); rintro e w' ⟨rfl, ⟨nd, rfl⟩⟩))
              go_meet
              case rel => exact ⟨_, ((t145 != t142)), (by first | rfl | (simp; done) | (simp [*]; done)), H', ⟨by first | omega | exact Nat.le_refl _⟩, ⟨by repeat (first | (with_reducible first | exact HB.out | apply below_alloc | apply pw_below_drewN | apply below_drew1) | exact HB.out)⟩⟩
            · rw [if_neg c16] at H
              have c16b0 : (t139 == t141) = false := beq_eq_false_iff_ne.mpr c16
              have c16b1 : (t139 != t141) = true := bne_iff_ne.mpr c16
              have H' := Aside0.mk H
              clear H
              go_wp2_with (first | (go_at_call 17; (with_reducible refine (kilnlaw1_num.calls t132 t143 _ A11.out).mono ?_); rintro e w' ⟨rfl, ⟨nd, rfl⟩⟩) | (go_at_call 17; (with_reducible refine (kilnlaw1_num.calls t136 t144 _ A14.out).mono ?_); rintro e w' ⟨rfl, ⟨nd, rfl⟩⟩))
              go_meet
              case rel => exact ⟨_, (true), (by first | rfl | (simp; done) | (simp [*]; done)), H', ⟨by first | omega | exact Nat.le_refl _⟩, ⟨by repeat (first | (with_reducible first | exact HB.out | apply below_alloc | apply pw_below_drewN | apply below_drew1) | exact HB.out)⟩⟩
          · rw [if_neg c15] at H
            have c15b0 : (t144 == t138) = false := beq_eq_false_iff_ne.mpr c15
            have c15b1 : (t144 != t138) = true := bne_iff_ne.mpr c15
            have H' := Aside0.mk H
            clear H
            go_wp2_with (first | (go_at_call 17; (with_reducible refine (kilnlaw1_num.calls t132 t143 _ A11.out).mono ?_); rintro e w' ⟨rfl, ⟨nd, rfl⟩⟩) | (go_at_call 17; (with_reducible refine (kilnlaw1_num.calls t136 t144 _ A14.out).mono ?_); rintro e w' ⟨rfl, ⟨nd, rfl⟩⟩))
            go_meet
            case rel => exact ⟨_, (true), (by first | rfl | (simp; done) | (simp [*]; done)), H', ⟨by first | omega | exact Nat.le_refl _⟩, ⟨by repeat (first | (with_reducible first | exact HB.out | apply below_alloc | apply pw_below_drewN | apply below_drew1) | exact HB.out)⟩⟩
        · rw [if_neg c13] at H
          have c13b0 : (t135 == t137) = false := beq_eq_false_iff_ne.mpr c13
          have c13b1 : (t135 != t137) = true := bne_iff_ne.mpr c13
          have H' := Aside0.mk H
          clear H
          go_wp2_with (first | (go_at_call 17; (with_reducible refine (kilnlaw1_num.calls t132 t143 _ A11.out).mono ?_); rintro e w' ⟨rfl, ⟨nd, rfl⟩⟩))
          go_meet
          case rel => exact ⟨_, (true), (by first | rfl | (simp; done) | (simp [*]; done)), H', ⟨by first | omega | exact Nat.le_refl _⟩, ⟨by repeat (first | (with_reducible first | exact HB.out | apply below_alloc | apply pw_below_drewN | apply below_drew1) | exact HB.out)⟩⟩
      · rw [if_neg c12] at H
        have c12b0 : (t143 == t134) = false := beq_eq_false_iff_ne.mpr c12
        have c12b1 : (t143 != t134) = true := bne_iff_ne.mpr c12
        have H' := Aside0.mk H
        clear H
        go_wp2_with (first | (go_at_call 17; (with_reducible refine (kilnlaw1_num.calls t132 t143 _ A11.out).mono ?_); rintro e w' ⟨rfl, ⟨nd, rfl⟩⟩))
        go_meet
        case rel => exact ⟨_, (true), (by first | rfl | (simp; done) | (simp [*]; done)), H', ⟨by first | omega | exact Nat.le_refl _⟩, ⟨by repeat (first | (with_reducible first | exact HB.out | apply below_alloc | apply pw_below_drewN | apply below_drew1) | exact HB.out)⟩⟩
    · rw [if_neg c10] at H
      have c10b0 : (t131 == t133) = false := beq_eq_false_iff_ne.mpr c10
      have c10b1 : (t131 != t133) = true := bne_iff_ne.mpr c10
      (first | rw [c10b0] | (simp only [i64_w, i32_w]; rw [c10b0]) | skip)
      have H' := Aside0.mk H
      clear H
      go_wp2
      go_meet
      case rel => exact ⟨_, (true), (by first | rfl | (simp; done) | (simp [*]; done)), H', ⟨by first | omega | exact Nat.le_refl _⟩, ⟨by repeat (first | (with_reducible first | exact HB.out | apply below_alloc | apply pw_below_drewN | apply below_drew1) | exact HB.out)⟩⟩
  case rest =>
    clear HC9
    try clear c1
    try clear c2
    try clear p2
    try clear c4
    try clear c10
    try clear c10b0
    try clear c10b1
    try clear c12
    try clear c12b0
    try clear c12b1
    try clear c13
    try clear c13b0
    try clear c13b1
    try clear c15
    try clear c15b0
    try clear c15b1
    try clear c16
    try clear c16b0
    try clear c16b1
    obtain ⟨kq, x87_8, rfl, HA, HJ8, HB⟩ := hcut
    cases kq with
    | zero => exact absurd HA.out (by simp [kilnlaw1_WordBits.j0])
    | succ kj8 =>
      have H := HA.out
      clear HA
      simp only [kilnlaw1_WordBits.j0] at H
      by_cases c18 : x87_8 = true
      · subst c18
        have H1 : (some false) = some r := by rw [if_pos rfl] at H; exact H
        clear H
        have H := H1
        clear H1
        obtain rfl := Option.some.inj H
        go_wp2
        go_ret
        exact ⟨by first | rfl | (simp [errW_none, errW_some] <;> rfl) | (simp [*, errW_none, errW_some] <;> rfl), by repeat (first | (with_reducible first | exact HB.out | apply below_alloc | apply pw_below_drewN | apply below_drew1) | exact HB.out)⟩
      · replace c18 := Bool.eq_false_iff.mpr c18
        subst c18
        have H1 : ((word_Shift.f a0 a1).bind fun bt146 => ((kilnref1_Shift.f kj8 a0 a1).bind fun bt148 => (if bt146.1 = bt148.1 then ((kilnlaw1_num.f bt146.2).bind fun t150 => (some (t150 == bt148.2))) else (some false)))) = some r := by rw [if_neg (show ¬ (false = true) by decide)] at H; exact H
        clear H
        have H := H1
        clear H1
        replace H := Option.bind_eq_some_iff.mp H
        obtain ⟨⟨t146, t147⟩, A190, H⟩ := H
        replace H : ((kilnref1_Shift.f kj8 a0 a1).bind fun bt148 => (if t146 = bt148.1 then ((kilnlaw1_num.f t147).bind fun t150 => (some (t150 == bt148.2))) else (some false))) = some r := H
        have A19 := Aside0.mk A190
        clear A190
        replace H := Option.bind_eq_some_iff.mp H
        obtain ⟨⟨t148, t149⟩, A200, H⟩ := H
        replace H : (if t146 = t148 then ((kilnlaw1_num.f t147).bind fun t150 => (some (t150 == t149))) else (some false)) = some r := H
        have A20 := Aside0.mk A200
        clear A200
        by_cases c21 : t146 = t148
        · rw [if_pos c21] at H
          have c21b0 : (t146 == t148) = true := beq_iff_eq.mpr c21
          have c21b1 : (t146 != t148) = false := bne_eq_false_iff_eq.mpr c21
          clear c21
          replace H := Option.bind_eq_some_iff.mp H
          obtain ⟨t150, A220, H⟩ := H
          replace H : (some (t150 == t149)) = some r := H
          have A22 := Aside0.mk A220
          clear A220
          obtain rfl := Option.some.inj H
          go_wp2_with (first | ((with_reducible refine gate_callee (f := 25) rfl ?_); refine goesL_ (some 91) rfl rfl Try.func25 (by kernel_rfl) rfl #[.int .i64 a0, .int .i64 a1] rfl (by (try simp only [List.map_toArray, List.map_cons, List.map_nil]); first | done | rfl | (simp only [List.length_drop, List.length_take]; rfl)) ?_; (with_reducible refine (word_Shift.calls a0 a1 t146 t147 _ A19.out).mono ?_); rintro e w23 ⟨rfl, hb⟩; refine ⟨_, rfl, ?_⟩; have n0_ := Aside0.mk (below_step (by repeat (first | (with_reducible first | exact HB.out | apply below_alloc | apply pw_below_drewN | apply below_drew1) | exact HB.out)) hb); clear HB; have HB := n0_; clear n0_; (try clear hb); (try clear hb2); (try clear hk); (try clear hi)) | ((with_reducible refine gate_callee (f := 26) rfl ?_); refine goesL_ (some 97) rfl rfl Try.func26 (by kernel_rfl) rfl #[.int .i64 a0, .int .i64 a1] rfl (by (try simp only [List.map_toArray, List.map_cons, List.map_nil]); first | done | rfl | (simp only [List.length_drop, List.length_take]; rfl)) ?_; (with_reducible refine (kilnref1_Shift.calls kj8 a0 a1 t148 t149 _ A20.out).mono ?_); rintro e w' ⟨rfl, ⟨nd, rfl⟩⟩; refine ⟨_, rfl, ?_⟩) | (go_at_call 17; (with_reducible refine (kilnlaw1_num.calls t147 t150 _ A22.out).mono ?_); rintro e w' ⟨rfl, ⟨nd, rfl⟩⟩))
          go_ret
          exact ⟨by first | rfl | (simp [errW_none, errW_some] <;> rfl) | (simp [*, errW_none, errW_some] <;> rfl), by repeat (first | (with_reducible first | exact HB.out | apply below_alloc | apply pw_below_drewN | apply below_drew1) | exact HB.out)⟩
        · rw [if_neg c21] at H
          have c21b0 : (t146 == t148) = false := beq_eq_false_iff_ne.mpr c21
          have c21b1 : (t146 != t148) = true := bne_iff_ne.mpr c21
          obtain rfl := Option.some.inj H
          go_wp2_with (first | ((with_reducible refine gate_callee (f := 25) rfl ?_); refine goesL_ (some 91) rfl rfl Try.func25 (by kernel_rfl) rfl #[.int .i64 a0, .int .i64 a1] rfl (by (try simp only [List.map_toArray, List.map_cons, List.map_nil]); first | done | rfl | (simp only [List.length_drop, List.length_take]; rfl)) ?_; (with_reducible refine (word_Shift.calls a0 a1 t146 t147 _ A19.out).mono ?_); rintro e w24 ⟨rfl, hb⟩; refine ⟨_, rfl, ?_⟩; have n0_ := Aside0.mk (below_step (by repeat (first | (with_reducible first | exact HB.out | apply below_alloc | apply pw_below_drewN | apply below_drew1) | exact HB.out)) hb); clear HB; have HB := n0_; clear n0_; (try clear hb); (try clear hb2); (try clear hk); (try clear hi)) | ((with_reducible refine gate_callee (f := 26) rfl ?_); refine goesL_ (some 97) rfl rfl Try.func26 (by kernel_rfl) rfl #[.int .i64 a0, .int .i64 a1] rfl (by (try simp only [List.map_toArray, List.map_cons, List.map_nil]); first | done | rfl | (simp only [List.length_drop, List.length_take]; rfl)) ?_; (with_reducible refine (kilnref1_Shift.calls kj8 a0 a1 t148 t149 _ A20.out).mono ?_); rintro e w' ⟨rfl, ⟨nd, rfl⟩⟩; refine ⟨_, rfl, ?_⟩))
          go_ret
          exact ⟨by first | rfl | (simp [errW_none, errW_some] <;> rfl) | (simp [*, errW_none, errW_some] <;> rfl), by repeat (first | (with_reducible first | exact HB.out | apply below_alloc | apply pw_below_drewN | apply below_drew1) | exact HB.out)⟩

/-- THE ONE PURE STATEMENT of kilnlaw1_WordBits: yours. -/
def kilnlaw1_WordBits.Pure : Prop := ∀ (a0 : Int) (a1 : Int), (Lit.int .i64 a0).wf = true → (Lit.int .i64 a1).wf = true → ∃ k, kilnlaw1_WordBits.f k a0 a1 = some true
theorem kilnlaw1_WordBits.walk (P : kilnlaw1_WordBits.Pure) (a0 : Int) (a1 : Int) (w : World) (w0 : (Lit.int .i64 a0).wf = true) (w1 : (Lit.int .i64 a1).wf = true) :
    Calls Try.prog 4 #[.int .i64 a0, .int .i64 a1] w fun e w' => e = .returned (.bool true) ∧ Below w.heap.size w w' := by
  obtain ⟨k, h⟩ := P a0 a1 w0 w1
  refine (kilnlaw1_WordBits.calls k a0 a1 true w h).mono ?_
  rintro e w' ⟨rfl, hd⟩
  exact ⟨rfl, hd⟩

end Go.Proofs.Ytcnjdgafemgaeaa.PWordBits
