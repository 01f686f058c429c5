-- PRINTED BY print.sh 35421559b90ae4d0a3588c463048766b98c2df88dd9212a6774a882060cdf62d: not written by this session
import Derived.Test.YtcnjdgafemgaeaaPWordSumsx0
import Derived.Test.YtcnjdgafemgaeaaPWordSumsx1
namespace Go.Proofs.Ytcnjdgafemgaeaa.PWordSums
open Go.RowKit Go.Proofs.YtcnjdgafemgaeaaW.PrintWords Go.Proofs.YtcnjdgafemgaeaaW.PrintLast Go.Proofs.YtcnjdgafemgaeaaW.PrintMore
attribute [local go_sem] max2_int min2_int max_two min_two max_three min_three max_four min_four   -- for this text's walks alone
set_option linter.unusedVariables false
set_option linter.unusedSimpArgs false

/-! ### kilnref1_Mod: function 34 -/
def kilnref1_Mod.j0 : Nat → Int → Int → Bool → Option (Int × Int)
  | 0, _, _, _ => none
  | k + 1, x0, x1, x13 => if x13 = true then (some (0, 1)) else (if x1 = 0 then (some (0, 11)) else ((kilnref1_floored.f x0 x1).bind fun t137 => (some (wrap64 (x0 - (wrap64 (t137 * x1))), 0))))
def kilnref1_Mod.f (k : Nat) (a0 : Int) (a1 : Int) : Option (Int × Int) := (kilnref1_In.f a0).bind fun t135 => (if t135 = true then ((kilnref1_In.f a1).bind fun t136 => (kilnref1_Mod.j0 k a0 a1 (!t136))) else (kilnref1_Mod.j0 k a0 a1 true))
theorem kilnref1_Mod.mono_l : ∀ k, (∀ y0 y1 y2, LeO (kilnref1_Mod.j0 k y0 y1 y2) (kilnref1_Mod.j0 (k + 1) y0 y1 y2))
  | 0 => fun _ _ _ r h => by simp [kilnref1_Mod.j0] at h
  | k + 1 => by
    have ih0 := kilnref1_Mod.mono_l k
    · intro y0 y1 y2
      unfold kilnref1_Mod.j0
      repeat' first
      | (with_reducible exact ih0 _ _ _)
      | (with_reducible exact LeO.refl _)
      | (with_reducible exact LeO.none _)
      | (with_reducible refine LeO.ite ?_ ?_)
      | (with_reducible refine LeO.bind ?_ (fun _ => ?_))
      | exact ih0 _ _ _
      | exact LeO.none _
      | refine LeO.ite ?_ ?_
      | refine LeO.bind ?_ (fun _ => ?_)
theorem kilnref1_Mod.mono : ∀ a0 a1 k, LeO (kilnref1_Mod.f k a0 a1) (kilnref1_Mod.f (k + 1) a0 a1) := by
  intro a0 a1 k
  have ih0 := kilnref1_Mod.mono_l k
  unfold kilnref1_Mod.f
  repeat' first
      | (with_reducible exact ih0 _ _ _)
      | (with_reducible exact LeO.refl _)
      | (with_reducible exact LeO.none _)
      | (with_reducible refine LeO.ite ?_ ?_)
      | (with_reducible refine LeO.bind ?_ (fun _ => ?_))
      | exact ih0 _ _ _
      | exact LeO.none _
      | refine LeO.ite ?_ ?_
      | refine LeO.bind ?_ (fun _ => ?_)
set_option maxHeartbeats 8000000 in
set_option maxRecDepth 100000 in
theorem kilnref1_Mod.calls (k : Nat) (a0 : Int) (a1 : Int) (r1 : Int) (r2 : Int) (w : World) (h : kilnref1_Mod.f k a0 a1 = some (r1, r2)) :
    Calls Try.prog 34 #[.int .i64 a0, .int .i64 a1] w fun e w' => e = .returned (.tuple #[.int .i64 r1, .int .i64 r2]) ∧ Drawn0 w w' := by
  have H : ((kilnref1_In.f a0).bind fun t135 => (if t135 = true then ((kilnref1_In.f a1).bind fun t136 => (kilnref1_Mod.j0 k a0 a1 (!t136))) else (kilnref1_Mod.j0 k a0 a1 true))) = some (r1, r2) := h
  clear h
  have HC3 := Aside0.mk H
  clear H
  go_enter Try.func34, Try.ntmps34
  go_upto_region 1 with (fail)
  go_cut [13] (fun v13 wc => ∃ (kq : Nat) (x13_2 : Bool), v13 = .bool x13_2 ∧ Aside0 (kilnref1_Mod.j0 kq a0 a1 x13_2 = some (r1, r2)) ∧ Aside0 (kq ≤ k) ∧ Drawn0 w wc)
  case first =>
    have H := HC3.out
    clear HC3
    replace H := Option.bind_eq_some_iff.mp H
    obtain ⟨t135, A40, H⟩ := H
    replace H : (if t135 = true then ((kilnref1_In.f a1).bind fun t136 => (kilnref1_Mod.j0 k a0 a1 (!t136))) else (kilnref1_Mod.j0 k a0 a1 true)) = some (r1, r2) := H
    have A4 := Aside0.mk A40
    clear A40
    by_cases c5 : t135 = true
    · subst c5
      have H1 : ((kilnref1_In.f a1).bind fun t136 => (kilnref1_Mod.j0 k a0 a1 (!t136))) = some (r1, r2) := by rw [if_pos rfl] at H; exact H
      clear H
      have H := H1
      clear H1
      replace H := Option.bind_eq_some_iff.mp H
      obtain ⟨t136, A60, H⟩ := H
      replace H : (kilnref1_Mod.j0 k a0 a1 (!t136)) = some (r1, r2) := H
      have A6 := Aside0.mk A60
      clear A60
      have H' := Aside0.mk H
      clear H
      go_wp2_with (first | ((with_reducible refine gate_callee (f := 59) rfl ?_); refine goesL_ (some 7) rfl rfl Try.func59 (by kernel_rfl) rfl #[.int .i64 a0] rfl (by (try simp only [List.map_toArray, List.map_cons, List.map_nil]); first | done | rfl | (simp only [List.length_drop, List.length_take]; rfl)) ?_; (with_reducible refine (kilnref1_In.calls a0 true _ A4.out).mono ?_); rintro e w' ⟨rfl, ⟨nd, rfl⟩⟩; refine ⟨_, rfl, ?_⟩) | (go_at_call 59; (with_reducible refine (kilnref1_In.calls a1 t136 _ A6.out).mono ?_); rintro e w' ⟨rfl, ⟨nd, rfl⟩⟩))
      go_meet
      case rel => exact ⟨_, (!t136), (by first | rfl | (simp; done) | (simp [*]; done)), H', ⟨by first | omega | exact Nat.le_refl _⟩, by repeat (first | exact Drawn0.refl _ | apply Drawn0.step)⟩
    · replace c5 := Bool.eq_false_iff.mpr c5
      subst c5
      have H1 : (kilnref1_Mod.j0 k a0 a1 true) = some (r1, r2) := by rw [if_neg (show ¬ (false = true) by decide)] at H; exact H
      clear H
      have H := H1
      clear H1
      have H' := Aside0.mk H
      clear H
      go_wp2_with (first | ((with_reducible refine gate_callee (f := 59) rfl ?_); refine goesL_ (some 7) rfl rfl Try.func59 (by kernel_rfl) rfl #[.int .i64 a0] rfl (by (try simp only [List.map_toArray, List.map_cons, List.map_nil]); first | done | rfl | (simp only [List.length_drop, List.length_take]; rfl)) ?_; (with_reducible refine (kilnref1_In.calls a0 false _ A4.out).mono ?_); rintro e w' ⟨rfl, ⟨nd, rfl⟩⟩; refine ⟨_, rfl, ?_⟩))
      go_meet
      case rel => exact ⟨_, (true), (by first | rfl | (simp; done) | (simp [*]; done)), H', ⟨by first | omega | exact Nat.le_refl _⟩, by repeat (first | exact Drawn0.refl _ | apply Drawn0.step)⟩
  case rest =>
    clear HC3
    try clear p2
    try clear c3
    try clear c5
    obtain ⟨kq, x13_2, rfl, HA, HJ2, ⟨mc2, rfl⟩⟩ := hcut
    cases kq with
    | zero => exact absurd HA.out (by simp [kilnref1_Mod.j0])
    | succ kj2 =>
      have H := HA.out
      clear HA
      simp only [kilnref1_Mod.j0] at H
      by_cases c7 : x13_2 = true
      · subst c7
        have H1 : (some (0, 1)) = some (r1, r2) := by rw [if_pos rfl] at H; exact H
        clear H
        have H := H1
        clear H1
        simp only [Option.some.injEq, Prod.mk.injEq] at H
        obtain ⟨rfl, rfl⟩ := H
        go_wp2
        go_ret2
        exact ⟨by first | rfl | (simp; done) | (simp [*]; done), by repeat (first | exact Drawn0.refl _ | apply Drawn0.step)⟩
      · replace c7 := Bool.eq_false_iff.mpr c7
        subst c7
        have H1 : (if a1 = 0 then (some (0, 11)) else ((kilnref1_floored.f a0 a1).bind fun t137 => (some (wrap64 (a0 - (wrap64 (t137 * a1))), 0)))) = some (r1, r2) := by rw [if_neg (show ¬ (false = true) by decide)] at H; exact H
        clear H
        have H := H1
        clear H1
        by_cases c8 : a1 = 0
        · rw [if_pos c8] at H
          have c8b0 : (a1 == 0) = true := beq_iff_eq.mpr c8
          have c8b1 : (a1 != 0) = false := bne_eq_false_iff_eq.mpr c8
          clear c8
          simp only [Option.some.injEq, Prod.mk.injEq] at H
          obtain ⟨rfl, rfl⟩ := H
          go_wp2
          go_ret2
          exact ⟨by first | rfl | (simp; done) | (simp [*]; done), by repeat (first | exact Drawn0.refl _ | apply Drawn0.step)⟩
        · rw [if_neg c8] at H
          have c8b0 : (a1 == 0) = false := beq_eq_false_iff_ne.mpr c8
          have c8b1 : (a1 != 0) = true := bne_iff_ne.mpr c8
          replace H := Option.bind_eq_some_iff.mp H
          obtain ⟨t137, A90, H⟩ := H
          replace H : (some (wrap64 (a0 - (wrap64 (t137 * a1))), 0)) = some (r1, r2) := H
          have A9 := Aside0.mk A90
          clear A90
          simp only [Option.some.injEq, Prod.mk.injEq] at H
          obtain ⟨rfl, rfl⟩ := H
          go_wp2_with (first | ((with_reducible refine gate_callee (f := 62) rfl ?_); refine goesL_ (some 19) rfl rfl Try.func62 (by kernel_rfl) rfl #[.int .i64 a0, .int .i64 a1] rfl (by (try simp only [List.map_toArray, List.map_cons, List.map_nil]); first | done | rfl | (simp only [List.length_drop, List.length_take]; rfl)) ?_; (with_reducible refine (kilnref1_floored.calls a0 a1 t137 _ A9.out).mono ?_); rintro e w' ⟨rfl, ⟨nd, rfl⟩⟩; refine ⟨_, rfl, ?_⟩))
          go_ret2
          exact ⟨by first | rfl | (simp; done) | (simp [*]; done), by repeat (first | exact Drawn0.refl _ | apply Drawn0.step)⟩

/-! ### kilnlaw1_WordSums: function 7 -/
def kilnlaw1_WordSums.j0 : Nat → Int → Int → Bool → Option (Bool)
  | 0, _, _, _ => none
  | k + 1, x0, x1, x91 => if x91 = true then (some false) else ((word_Div.f k x0 x1).bind fun bt153 => ((kilnref1_Div.f k x0 x1).bind fun bt155 => ((word_Mod.f k x0 x1).bind fun bt157 => ((kilnref1_Mod.f k x0 x1).bind fun bt159 => (if bt153.1 = bt155.1 then ((kilnlaw1_num.f bt153.2).bind fun t161 => (if t161 = bt155.2 then (if bt157.1 = bt159.1 then ((kilnlaw1_num.f bt157.2).bind fun t162 => (some (t162 == bt159.2))) else (some false)) else (some false))) else (some false))))))
def kilnlaw1_WordSums.f (k : Nat) (a0 : Int) (a1 : Int) : Option (Bool) := (word_Add.f a0 a1).bind fun bt138 => ((kilnref1_Add.f a0 a1).bind fun bt140 => ((word_Sub.f a0 a1).bind fun bt142 => ((kilnref1_Sub.f a0 a1).bind fun bt144 => ((word_Mul.f a0 a1).bind fun bt146 => ((kilnref1_Mul.f a0 a1).bind fun bt148 => (if bt138.1 = bt140.1 then ((kilnlaw1_num.f bt138.2).bind fun t150 => (if t150 = bt140.2 then (if bt142.1 = bt144.1 then ((kilnlaw1_num.f bt142.2).bind fun t151 => (if t151 = bt144.2 then (if bt146.1 = bt148.1 then ((kilnlaw1_num.f bt146.2).bind fun t152 => (kilnlaw1_WordSums.j0 k a0 a1 (t152 != bt148.2))) else (kilnlaw1_WordSums.j0 k a0 a1 true)) else (kilnlaw1_WordSums.j0 k a0 a1 true))) else (kilnlaw1_WordSums.j0 k a0 a1 true)) else (kilnlaw1_WordSums.j0 k a0 a1 true))) else (kilnlaw1_WordSums.j0 k a0 a1 true)))))))
theorem kilnlaw1_WordSums.mono_l : ∀ k, (∀ y0 y1 y2, LeO (kilnlaw1_WordSums.j0 k y0 y1 y2) (kilnlaw1_WordSums.j0 (k + 1) y0 y1 y2))
  | 0 => fun _ _ _ r h => by simp [kilnlaw1_WordSums.j0] at h
  | k + 1 => by
    have ih0 := kilnlaw1_WordSums.mono_l k
    · intro y0 y1 y2
      unfold kilnlaw1_WordSums.j0
      repeat' first
      | (with_reducible exact ih0 _ _ _)
      | (with_reducible exact kilnref1_Div.mono _ _ _)
      | (with_reducible exact kilnref1_Mod.mono _ _ _)
      | (with_reducible exact word_Div.mono _ _ _)
      | (with_reducible exact word_Mod.mono _ _ _)
      | (with_reducible exact LeO.refl _)
      | (with_reducible exact LeO.none _)
      | (with_reducible refine LeO.ite ?_ ?_)
      | (with_reducible refine LeO.bind ?_ (fun _ => ?_))
      | exact ih0 _ _ _
      | exact kilnref1_Div.mono _ _ _
      | exact kilnref1_Mod.mono _ _ _
      | exact word_Div.mono _ _ _
      | exact word_Mod.mono _ _ _
      | exact LeO.none _
      | refine LeO.ite ?_ ?_
      | refine LeO.bind ?_ (fun _ => ?_)
theorem kilnlaw1_WordSums.mono : ∀ a0 a1 k, LeO (kilnlaw1_WordSums.f k a0 a1) (kilnlaw1_WordSums.f (k + 1) a0 a1) := by
  intro a0 a1 k
  have ih0 := kilnlaw1_WordSums.mono_l k
  unfold kilnlaw1_WordSums.f
  repeat' first
      | (with_reducible exact ih0 _ _ _)
      | (with_reducible exact kilnref1_Div.mono _ _ _)
      | (with_reducible exact kilnref1_Mod.mono _ _ _)
      | (with_reducible exact word_Div.mono _ _ _)
      | (with_reducible exact word_Mod.mono _ _ _)
      | (with_reducible exact LeO.refl _)
      | (with_reducible exact LeO.none _)
      | (with_reducible refine LeO.ite ?_ ?_)
      | (with_reducible refine LeO.bind ?_ (fun _ => ?_))
      | exact ih0 _ _ _
      | exact kilnref1_Div.mono _ _ _
      | exact kilnref1_Mod.mono _ _ _
      | exact word_Div.mono _ _ _
      | exact word_Mod.mono _ _ _
      | exact LeO.none _
      | refine LeO.ite ?_ ?_
      | refine LeO.bind ?_ (fun _ => ?_)
set_option maxHeartbeats 8000000 in
set_option maxRecDepth 100000 in
theorem kilnlaw1_WordSums.calls (k : Nat) (a0 : Int) (a1 : Int) (r : Bool) (w : World) (h : kilnlaw1_WordSums.f k a0 a1 = some r) :
    Calls Try.prog 7 #[.int .i64 a0, .int .i64 a1] w fun e w' => e = .returned (.bool r) ∧ Drawn0 w w' := by
  have H : ((word_Add.f a0 a1).bind fun bt138 => ((kilnref1_Add.f a0 a1).bind fun bt140 => ((word_Sub.f a0 a1).bind fun bt142 => ((kilnref1_Sub.f a0 a1).bind fun bt144 => ((word_Mul.f a0 a1).bind fun bt146 => ((kilnref1_Mul.f a0 a1).bind fun bt148 => (if bt138.1 = bt140.1 then ((kilnlaw1_num.f bt138.2).bind fun t150 => (if t150 = bt140.2 then (if bt142.1 = bt144.1 then ((kilnlaw1_num.f bt142.2).bind fun t151 => (if t151 = bt144.2 then (if bt146.1 = bt148.1 then ((kilnlaw1_num.f bt146.2).bind fun t152 => (kilnlaw1_WordSums.j0 k a0 a1 (t152 != bt148.2))) else (kilnlaw1_WordSums.j0 k a0 a1 true)) else (kilnlaw1_WordSums.j0 k a0 a1 true))) else (kilnlaw1_WordSums.j0 k a0 a1 true)) else (kilnlaw1_WordSums.j0 k a0 a1 true))) else (kilnlaw1_WordSums.j0 k a0 a1 true)))))))) = some r := h
  clear h
  replace H := Option.bind_eq_some_iff.mp H
  obtain ⟨⟨t138, t139⟩, A30, H⟩ := H
  replace H : ((kilnref1_Add.f a0 a1).bind fun bt140 => ((word_Sub.f a0 a1).bind fun bt142 => ((kilnref1_Sub.f a0 a1).bind fun bt144 => ((word_Mul.f a0 a1).bind fun bt146 => ((kilnref1_Mul.f a0 a1).bind fun bt148 => (if t138 = bt140.1 then ((kilnlaw1_num.f t139).bind fun t150 => (if t150 = bt140.2 then (if bt142.1 = bt144.1 then ((kilnlaw1_num.f bt142.2).bind fun t151 => (if t151 = bt144.2 then (if bt146.1 = bt148.1 then ((kilnlaw1_num.f bt146.2).bind fun t152 => (kilnlaw1_WordSums.j0 k a0 a1 (t152 != bt148.2))) else (kilnlaw1_WordSums.j0 k a0 a1 true)) else (kilnlaw1_WordSums.j0 k a0 a1 true))) else (kilnlaw1_WordSums.j0 k a0 a1 true)) else (kilnlaw1_WordSums.j0 k a0 a1 true))) else (kilnlaw1_WordSums.j0 k a0 a1 true))))))) = some r := H
  have A3 := Aside0.mk A30
  clear A30
  replace H := Option.bind_eq_some_iff.mp H
  obtain ⟨⟨t140, t141⟩, A40, H⟩ := H
  replace H : ((word_Sub.f a0 a1).bind fun bt142 => ((kilnref1_Sub.f a0 a1).bind fun bt144 => ((word_Mul.f a0 a1).bind fun bt146 => ((kilnref1_Mul.f a0 a1).bind fun bt148 => (if t138 = t140 then ((kilnlaw1_num.f t139).bind fun t150 => (if t150 = t141 then (if bt142.1 = bt144.1 then ((kilnlaw1_num.f bt142.2).bind fun t151 => (if t151 = bt144.2 then (if bt146.1 = bt148.1 then ((kilnlaw1_num.f bt146.2).bind fun t152 => (kilnlaw1_WordSums.j0 k a0 a1 (t152 != bt148.2))) else (kilnlaw1_WordSums.j0 k a0 a1 true)) else (kilnlaw1_WordSums.j0 k a0 a1 true))) else (kilnlaw1_WordSums.j0 k a0 a1 true)) else (kilnlaw1_WordSums.j0 k a0 a1 true))) else (kilnlaw1_WordSums.j0 k a0 a1 true)))))) = some r := H
  have A4 := Aside0.mk A40
  clear A40
  replace H := Option.bind_eq_some_iff.mp H
  obtain ⟨⟨t142, t143⟩, A50, H⟩ := H
  replace H : ((kilnref1_Sub.f a0 a1).bind fun bt144 => ((word_Mul.f a0 a1).bind fun bt146 => ((kilnref1_Mul.f a0 a1).bind fun bt148 => (if t138 = t140 then ((kilnlaw1_num.f t139).bind fun t150 => (if t150 = t141 then (if t142 = bt144.1 then ((kilnlaw1_num.f t143).bind fun t151 => (if t151 = bt144.2 then (if bt146.1 = bt148.1 then ((kilnlaw1_num.f bt146.2).bind fun t152 => (kilnlaw1_WordSums.j0 k a0 a1 (t152 != bt148.2))) else (kilnlaw1_WordSums.j0 k a0 a1 true)) else (kilnlaw1_WordSums.j0 k a0 a1 true))) else (kilnlaw1_WordSums.j0 k a0 a1 true)) else (kilnlaw1_WordSums.j0 k a0 a1 true))) else (kilnlaw1_WordSums.j0 k a0 a1 true))))) = some r := H
  have A5 := Aside0.mk A50
  clear A50
  replace H := Option.bind_eq_some_iff.mp H
  obtain ⟨⟨t144, t145⟩, A60, H⟩ := H
  replace H : ((word_Mul.f a0 a1).bind fun bt146 => ((kilnref1_Mul.f a0 a1).bind fun bt148 => (if t138 = t140 then ((kilnlaw1_num.f t139).bind fun t150 => (if t150 = t141 then (if t142 = t144 then ((kilnlaw1_num.f t143).bind fun t151 => (if t151 = t145 then (if bt146.1 = bt148.1 then ((kilnlaw1_num.f bt146.2).bind fun t152 => (kilnlaw1_WordSums.j0 k a0 a1 (t152 != bt148.2))) else (kilnlaw1_WordSums.j0 k a0 a1 true)) else (kilnlaw1_WordSums.j0 k a0 a1 true))) else (kilnlaw1_WordSums.j0 k a0 a1 true)) else (kilnlaw1_WordSums.j0 k a0 a1 true))) else (kilnlaw1_WordSums.j0 k a0 a1 true)))) = some r := H
  have A6 := Aside0.mk A60
  clear A60
  replace H := Option.bind_eq_some_iff.mp H
  obtain ⟨⟨t146, t147⟩, A70, H⟩ := H
  replace H : ((kilnref1_Mul.f a0 a1).bind fun bt148 => (if t138 = t140 then ((kilnlaw1_num.f t139).bind fun t150 => (if t150 = t141 then (if t142 = t144 then ((kilnlaw1_num.f t143).bind fun t151 => (if t151 = t145 then (if t146 = bt148.1 then ((kilnlaw1_num.f t147).bind fun t152 => (kilnlaw1_WordSums.j0 k a0 a1 (t152 != bt148.2))) else (kilnlaw1_WordSums.j0 k a0 a1 true)) else (kilnlaw1_WordSums.j0 k a0 a1 true))) else (kilnlaw1_WordSums.j0 k a0 a1 true)) else (kilnlaw1_WordSums.j0 k a0 a1 true))) else (kilnlaw1_WordSums.j0 k a0 a1 true))) = some r := H
  have A7 := Aside0.mk A70
  clear A70
  replace H := Option.bind_eq_some_iff.mp H
  obtain ⟨⟨t148, t149⟩, A80, H⟩ := H
  replace H : (if t138 = t140 then ((kilnlaw1_num.f t139).bind fun t150 => (if t150 = t141 then (if t142 = t144 then ((kilnlaw1_num.f t143).bind fun t151 => (if t151 = t145 then (if t146 = t148 then ((kilnlaw1_num.f t147).bind fun t152 => (kilnlaw1_WordSums.j0 k a0 a1 (t152 != t149))) else (kilnlaw1_WordSums.j0 k a0 a1 true)) else (kilnlaw1_WordSums.j0 k a0 a1 true))) else (kilnlaw1_WordSums.j0 k a0 a1 true)) else (kilnlaw1_WordSums.j0 k a0 a1 true))) else (kilnlaw1_WordSums.j0 k a0 a1 true)) = some r := H
  have A8 := Aside0.mk A80
  clear A80
  have HC9 := Aside0.mk H
  clear H
  go_enter Try.func7, Try.ntmps7
  go_upto_region 7 with (first | ((with_reducible refine gate_callee (f := 14) rfl ?_); refine goesL_ (some 28) rfl rfl Try.func14 (by kernel_rfl) rfl #[.int .i64 a0, .int .i64 a1] rfl (by (try simp only [List.map_toArray, List.map_cons, List.map_nil]); first | done | rfl | (simp only [List.length_drop, List.length_take]; rfl)) ?_; (with_reducible refine (word_Add.calls a0 a1 t138 t139 _ A3.out).mono ?_); rintro e w' ⟨rfl, ⟨nd, rfl⟩⟩; refine ⟨_, rfl, ?_⟩) | ((with_reducible refine gate_callee (f := 30) rfl ?_); refine goesL_ (some 34) rfl rfl Try.func30 (by kernel_rfl) rfl #[.int .i64 a0, .int .i64 a1] rfl (by (try simp only [List.map_toArray, List.map_cons, List.map_nil]); first | done | rfl | (simp only [List.length_drop, List.length_take]; rfl)) ?_; (with_reducible refine (kilnref1_Add.calls a0 a1 t140 t141 _ A4.out).mono ?_); rintro e w' ⟨rfl, ⟨nd, rfl⟩⟩; refine ⟨_, rfl, ?_⟩) | ((with_reducible refine gate_callee (f := 15) rfl ?_); refine goesL_ (some 40) rfl rfl Try.func15 (by kernel_rfl) rfl #[.int .i64 a0, .int .i64 a1] rfl (by (try simp only [List.map_toArray, List.map_cons, List.map_nil]); first | done | rfl | (simp only [List.length_drop, List.length_take]; rfl)) ?_; (with_reducible refine (word_Sub.calls a0 a1 t142 t143 _ A5.out).mono ?_); rintro e w' ⟨rfl, ⟨nd, rfl⟩⟩; refine ⟨_, rfl, ?_⟩) | ((with_reducible refine gate_callee (f := 31) rfl ?_); refine goesL_ (some 46) rfl rfl Try.func31 (by kernel_rfl) rfl #[.int .i64 a0, .int .i64 a1] rfl (by (try simp only [List.map_toArray, List.map_cons, List.map_nil]); first | done | rfl | (simp only [List.length_drop, List.length_take]; rfl)) ?_; (with_reducible refine (kilnref1_Sub.calls a0 a1 t144 t145 _ A6.out).mono ?_); rintro e w' ⟨rfl, ⟨nd, rfl⟩⟩; refine ⟨_, rfl, ?_⟩) | ((with_reducible refine gate_callee (f := 16) rfl ?_); refine goesL_ (some 52) rfl rfl Try.func16 (by kernel_rfl) rfl #[.int .i64 a0, .int .i64 a1] rfl (by (try simp only [List.map_toArray, List.map_cons, List.map_nil]); first | done | rfl | (simp only [List.length_drop, List.length_take]; rfl)) ?_; (with_reducible refine (word_Mul.calls a0 a1 t146 t147 _ A7.out).mono ?_); rintro e w' ⟨rfl, ⟨nd, rfl⟩⟩; refine ⟨_, rfl, ?_⟩) | ((with_reducible refine gate_callee (f := 32) rfl ?_); refine goesL_ (some 58) rfl rfl Try.func32 (by kernel_rfl) rfl #[.int .i64 a0, .int .i64 a1] rfl (by (try simp only [List.map_toArray, List.map_cons, List.map_nil]); first | done | rfl | (simp only [List.length_drop, List.length_take]; rfl)) ?_; (with_reducible refine (kilnref1_Mul.calls a0 a1 t148 t149 _ A8.out).mono ?_); rintro e w' ⟨rfl, ⟨nd, rfl⟩⟩; refine ⟨_, rfl, ?_⟩))
  (try simp only [Act.put, List.setIfInBounds_toArray, List.set_cons_zero, List.set_cons_succ])
  go_cut [91] (fun v91 wc => ∃ (kq : Nat) (x91_8 : Bool), v91 = .bool x91_8 ∧ Aside0 (kilnlaw1_WordSums.j0 kq a0 a1 x91_8 = some r) ∧ Aside0 (kq ≤ k) ∧ Drawn0 w wc)
  case first =>
    have H := HC9.out
    clear HC9
    by_cases c10 : t138 = t140
    · rw [if_pos c10] at H
      have c10b0 : (t138 == t140) = true := beq_iff_eq.mpr c10
      have c10b1 : (t138 != t140) = false := bne_eq_false_iff_eq.mpr c10
      clear c10
      (first | rw [c10b0] | (simp only [i64_w, i32_w]; rw [c10b0]) | skip)
      replace H := Option.bind_eq_some_iff.mp H
      obtain ⟨t150, A110, H⟩ := H
      replace H : (if t150 = t141 then (if t142 = t144 then ((kilnlaw1_num.f t143).bind fun t151 => (if t151 = t145 then (if t146 = t148 then ((kilnlaw1_num.f t147).bind fun t152 => (kilnlaw1_WordSums.j0 k a0 a1 (t152 != t149))) else (kilnlaw1_WordSums.j0 k a0 a1 true)) else (kilnlaw1_WordSums.j0 k a0 a1 true))) else (kilnlaw1_WordSums.j0 k a0 a1 true)) else (kilnlaw1_WordSums.j0 k a0 a1 true)) = some r := H
      have A11 := Aside0.mk A110
      clear A110
      by_cases c12 : t150 = t141
      · rw [if_pos c12] at H
        have c12b0 : (t150 == t141) = true := beq_iff_eq.mpr c12
        have c12b1 : (t150 != t141) = false := bne_eq_false_iff_eq.mpr c12
        clear c12
        by_cases c13 : t142 = t144
        · rw [if_pos c13] at H
          have c13b0 : (t142 == t144) = true := beq_iff_eq.mpr c13
          have c13b1 : (t142 != t144) = false := bne_eq_false_iff_eq.mpr c13
          clear c13
          replace H := Option.bind_eq_some_iff.mp H
          obtain ⟨t151, A140, H⟩ := H
          replace H : (if t151 = t145 then (if t146 = t148 then ((kilnlaw1_num.f t147).bind fun t152 => (kilnlaw1_WordSums.j0 k a0 a1 (t152 != t149))) else (kilnlaw1_WordSums.j0 k a0 a1 true)) else (kilnlaw1_WordSums.j0 k a0 a1 true)) = some r := H
          have A14 := Aside0.mk A140
          clear A140
          by_cases c15 : t151 = t145
          · rw [if_pos c15] at H
            have c15b0 : (t151 == t145) = true := beq_iff_eq.mpr c15
            have c15b1 : (t151 != t145) = false := bne_eq_false_iff_eq.mpr c15
            clear c15
            by_cases c16 : t146 = t148
            · rw [if_pos c16] at H
              have c16b0 : (t146 == t148) = true := beq_iff_eq.mpr c16
              have c16b1 : (t146 != t148) = false := bne_eq_false_iff_eq.mpr c16
              clear c16
              replace H := Option.bind_eq_some_iff.mp H
              obtain ⟨t152, A170, H⟩ := H
              replace H : (kilnlaw1_WordSums.j0 k a0 a1 (t152 != t149)) = some r := H
              have A17 := Aside0.mk A170
              clear A170
              have H' := Aside0.mk H
              clear H
              go_wp2_with (first | (go_at_call 17; (with_reducible refine (kilnlaw1_num.calls t139 t150 _ A11.out).mono ?_); rintro e w' ⟨rfl, ⟨nd, rfl⟩⟩) | (go_at_call 17; (with_reducible refine (kilnlaw1_num.calls t143 t151 _ A14.out).mono ?_); rintro e w' ⟨rfl, ⟨nd, rfl⟩⟩) | (go_at_call 17; (with_reducible refine (kilnlaw1_num.calls t147 t152 _ A17.out).mono ?_); rintro e w' ⟨rfl, ⟨nd, rfl⟩⟩))
              go_meet
              case rel => exact ⟨_, ((t152 != t149)), (by first | rfl | (simp; done) | (simp [*]; done)), H', ⟨by first | omega | exact Nat.le_refl _⟩, by repeat (first | exact Drawn0.refl _ | apply Drawn0.step)⟩
            · rw [if_neg c16] at H
              have c16b0 : (t146 == t148) = false := beq_eq_false_iff_ne.mpr c16
              have c16b1 : (t146 != t148) = true := bne_iff_ne.mpr c16
              have H' := Aside0.mk H
              clear H
              go_wp2_with (first | (go_at_call 17; (with_reducible refine (kilnlaw1_num.calls t139 t150 _ A11.out).mono ?_); rintro e w' ⟨rfl, ⟨nd, rfl⟩⟩) | (go_at_call 17; (with_reducible refine (kilnlaw1_num.calls t143 t151 _ A14.out).mono ?_); rintro e w' ⟨rfl, ⟨nd, rfl⟩⟩))
              go_meet
              case rel => exact ⟨_, (true), (by first | rfl | (simp; done) | (simp [*]; done)), H', ⟨by first | omega | exact Nat.le_refl _⟩, by repeat (first | exact Drawn0.refl _ | apply Drawn0.step)⟩
          · rw [if_neg c15] at H
            have c15b0 : (t151 == t145) = false := beq_eq_false_iff_ne.mpr c15
            have c15b1 : (t151 != t145) = true := bne_iff_ne.mpr c15
            have H' := Aside0.mk H
            clear H
            go_wp2_with (first | (go_at_call 17; (with_reducible refine (kilnlaw1_num.calls t139 t150 _ A11.out).mono ?_); rintro e w' ⟨rfl, ⟨nd, rfl⟩⟩) | (go_at_call 17; (with_reducible refine (kilnlaw1_num.calls t143 t151 _ A14.out).mono ?_); rintro e w' ⟨rfl, ⟨nd, rfl⟩⟩))
            go_meet
            case rel => exact ⟨_, (true), (by first | rfl | (simp; done) | (simp [*]; done)), H', ⟨by first | omega | exact Nat.le_refl _⟩, by repeat (first | exact Drawn0.refl _ | apply Drawn0.step)⟩
        · rw [if_neg c13] at H
          have c13b0 : (t142 == t144) = false := beq_eq_false_iff_ne.mpr c13
          have c13b1 : (t142 != t144) = true := bne_iff_ne.mpr c13
          have H' := Aside0.mk H
          clear H
          go_wp2_with (first | (go_at_call 17; (with_reducible refine (kilnlaw1_num.calls t139 t150 _ A11.out).mono ?_); rintro e w' ⟨rfl, ⟨nd, rfl⟩⟩))
          go_meet
          case rel => exact ⟨_, (true), (by first | rfl | (simp; done) | (simp [*]; done)), H', ⟨by first | omega | exact Nat.le_refl _⟩, by repeat (first | exact Drawn0.refl _ | apply Drawn0.step)⟩
      · rw [if_neg c12] at H
        have c12b0 : (t150 == t141) = false := beq_eq_false_iff_ne.mpr c12
        have c12b1 : (t150 != t141) = true := bne_iff_ne.mpr c12
        have H' := Aside0.mk H
        clear H
        go_wp2_with (first | (go_at_call 17; (with_reducible refine (kilnlaw1_num.calls t139 t150 _ A11.out).mono ?_); rintro e w' ⟨rfl, ⟨nd, rfl⟩⟩))
        go_meet
        case rel => exact ⟨_, (true), (by first | rfl | (simp; done) | (simp [*]; done)), H', ⟨by first | omega | exact Nat.le_refl _⟩, by repeat (first | exact Drawn0.refl _ | apply Drawn0.step)⟩
    · rw [if_neg c10] at H
      have c10b0 : (t138 == t140) = false := beq_eq_false_iff_ne.mpr c10
      have c10b1 : (t138 != t140) = true := bne_iff_ne.mpr c10
      (first | rw [c10b0] | (simp only [i64_w, i32_w]; rw [c10b0]) | skip)
      have H' := Aside0.mk H
      clear H
      go_wp2
      go_meet
      case rel => exact ⟨_, (true), (by first | rfl | (simp; done) | (simp [*]; done)), H', ⟨by first | omega | exact Nat.le_refl _⟩, by repeat (first | exact Drawn0.refl _ | apply Drawn0.step)⟩
  case rest =>
    clear HC9
    try clear c1
    try clear p2
    try clear c3
    try clear c7
    try clear c10
    try clear c10b0
    try clear c10b1
    try clear c12
    try clear c12b0
    try clear c12b1
    try clear c13
    try clear c13b0
    try clear c13b1
    try clear c14
    try clear c15
    try clear c15b0
    try clear c15b1
    try clear c16
    try clear c16b0
    try clear c16b1
    obtain ⟨kq, x91_8, rfl, HA, HJ8, ⟨mc8, rfl⟩⟩ := hcut
    cases kq with
    | zero => exact absurd HA.out (by simp [kilnlaw1_WordSums.j0])
    | succ kj8 =>
      have H := HA.out
      clear HA
      simp only [kilnlaw1_WordSums.j0] at H
      by_cases c18 : x91_8 = true
      · subst c18
        have H1 : (some false) = some r := by rw [if_pos rfl] at H; exact H
        clear H
        have H := H1
        clear H1
        obtain rfl := Option.some.inj H
        go_wp2
        go_ret
        exact ⟨by first | rfl | (simp; done) | (simp [*]; done), by repeat (first | exact Drawn0.refl _ | apply Drawn0.step)⟩
      · replace c18 := Bool.eq_false_iff.mpr c18
        subst c18
        have H1 : ((word_Div.f kj8 a0 a1).bind fun bt153 => ((kilnref1_Div.f kj8 a0 a1).bind fun bt155 => ((word_Mod.f kj8 a0 a1).bind fun bt157 => ((kilnref1_Mod.f kj8 a0 a1).bind fun bt159 => (if bt153.1 = bt155.1 then ((kilnlaw1_num.f bt153.2).bind fun t161 => (if t161 = bt155.2 then (if bt157.1 = bt159.1 then ((kilnlaw1_num.f bt157.2).bind fun t162 => (some (t162 == bt159.2))) else (some false)) else (some false))) else (some false)))))) = some r := by rw [if_neg (show ¬ (false = true) by decide)] at H; exact H
        clear H
        have H := H1
        clear H1
        replace H := Option.bind_eq_some_iff.mp H
        obtain ⟨⟨t153, t154⟩, A190, H⟩ := H
        replace H : ((kilnref1_Div.f kj8 a0 a1).bind fun bt155 => ((word_Mod.f kj8 a0 a1).bind fun bt157 => ((kilnref1_Mod.f kj8 a0 a1).bind fun bt159 => (if t153 = bt155.1 then ((kilnlaw1_num.f t154).bind fun t161 => (if t161 = bt155.2 then (if bt157.1 = bt159.1 then ((kilnlaw1_num.f bt157.2).bind fun t162 => (some (t162 == bt159.2))) else (some false)) else (some false))) else (some false))))) = some r := H
        have A19 := Aside0.mk A190
        clear A190
        replace H := Option.bind_eq_some_iff.mp H
        obtain ⟨⟨t155, t156⟩, A200, H⟩ := H
        replace H : ((word_Mod.f kj8 a0 a1).bind fun bt157 => ((kilnref1_Mod.f kj8 a0 a1).bind fun bt159 => (if t153 = t155 then ((kilnlaw1_num.f t154).bind fun t161 => (if t161 = t156 then (if bt157.1 = bt159.1 then ((kilnlaw1_num.f bt157.2).bind fun t162 => (some (t162 == bt159.2))) else (some false)) else (some false))) else (some false)))) = some r := H
        have A20 := Aside0.mk A200
        clear A200
        replace H := Option.bind_eq_some_iff.mp H
        obtain ⟨⟨t157, t158⟩, A210, H⟩ := H
        replace H : ((kilnref1_Mod.f kj8 a0 a1).bind fun bt159 => (if t153 = t155 then ((kilnlaw1_num.f t154).bind fun t161 => (if t161 = t156 then (if t157 = bt159.1 then ((kilnlaw1_num.f t158).bind fun t162 => (some (t162 == bt159.2))) else (some false)) else (some false))) else (some false))) = some r := H
        have A21 := Aside0.mk A210
        clear A210
        replace H := Option.bind_eq_some_iff.mp H
        obtain ⟨⟨t159, t160⟩, A220, H⟩ := H
        replace H : (if t153 = t155 then ((kilnlaw1_num.f t154).bind fun t161 => (if t161 = t156 then (if t157 = t159 then ((kilnlaw1_num.f t158).bind fun t162 => (some (t162 == t160))) else (some false)) else (some false))) else (some false)) = some r := H
        have A22 := Aside0.mk A220
        clear A220
        by_cases c23 : t153 = t155
        · rw [if_pos c23] at H
          have c23b0 : (t153 == t155) = true := beq_iff_eq.mpr c23
          have c23b1 : (t153 != t155) = false := bne_eq_false_iff_eq.mpr c23
          clear c23
          replace H := Option.bind_eq_some_iff.mp H
          obtain ⟨t161, A240, H⟩ := H
          replace H : (if t161 = t156 then (if t157 = t159 then ((kilnlaw1_num.f t158).bind fun t162 => (some (t162 == t160))) else (some false)) else (some false)) = some r := H
          have A24 := Aside0.mk A240
          clear A240
          by_cases c25 : t161 = t156
          · rw [if_pos c25] at H
            have c25b0 : (t161 == t156) = true := beq_iff_eq.mpr c25
            have c25b1 : (t161 != t156) = false := bne_eq_false_iff_eq.mpr c25
            clear c25
            by_cases c26 : t157 = t159
            · rw [if_pos c26] at H
              have c26b0 : (t157 == t159) = true := beq_iff_eq.mpr c26
              have c26b1 : (t157 != t159) = false := bne_eq_false_iff_eq.mpr c26
              clear c26
              replace H := Option.bind_eq_some_iff.mp H
              obtain ⟨t162, A270, H⟩ := H
              replace H : (some (t162 == t160)) = some r := H
              have A27 := Aside0.mk A270
              clear A270
              obtain rfl := Option.some.inj H
              go_wp2_with (first | ((with_reducible refine gate_callee (f := 28) rfl ?_); refine goesL_ (some 95) rfl rfl Try.func28 (by kernel_rfl) rfl #[.int .i64 a0, .int .i64 a1] rfl (by (try simp only [List.map_toArray, List.map_cons, List.map_nil]); first | done | rfl | (simp only [List.length_drop, List.length_take]; rfl)) ?_; (with_reducible refine (word_Div.calls kj8 a0 a1 t153 t154 _ A19.out).mono ?_); rintro e w' ⟨rfl, ⟨nd, rfl⟩⟩; refine ⟨_, rfl, ?_⟩) | ((with_reducible refine gate_callee (f := 33) rfl ?_); refine goesL_ (some 101) rfl rfl Try.func33 (by kernel_rfl) rfl #[.int .i64 a0, .int .i64 a1] rfl (by (try simp only [List.map_toArray, List.map_cons, List.map_nil]); first | done | rfl | (simp only [List.length_drop, List.length_take]; rfl)) ?_; (with_reducible refine (kilnref1_Div.calls kj8 a0 a1 t155 t156 _ A20.out).mono ?_); rintro e w' ⟨rfl, ⟨nd, rfl⟩⟩; refine ⟨_, rfl, ?_⟩) | ((with_reducible refine gate_callee (f := 29) rfl ?_); refine goesL_ (some 107) rfl rfl Try.func29 (by kernel_rfl) rfl #[.int .i64 a0, .int .i64 a1] rfl (by (try simp only [List.map_toArray, List.map_cons, List.map_nil]); first | done | rfl | (simp only [List.length_drop, List.length_take]; rfl)) ?_; (with_reducible refine (word_Mod.calls kj8 a0 a1 t157 t158 _ A21.out).mono ?_); rintro e w' ⟨rfl, ⟨nd, rfl⟩⟩; refine ⟨_, rfl, ?_⟩) | ((with_reducible refine gate_callee (f := 34) rfl ?_); refine goesL_ (some 113) rfl rfl Try.func34 (by kernel_rfl) rfl #[.int .i64 a0, .int .i64 a1] rfl (by (try simp only [List.map_toArray, List.map_cons, List.map_nil]); first | done | rfl | (simp only [List.length_drop, List.length_take]; rfl)) ?_; (with_reducible refine (kilnref1_Mod.calls kj8 a0 a1 t159 t160 _ A22.out).mono ?_); rintro e w' ⟨rfl, ⟨nd, rfl⟩⟩; refine ⟨_, rfl, ?_⟩) | (go_at_call 17; (with_reducible refine (kilnlaw1_num.calls t154 t161 _ A24.out).mono ?_); rintro e w' ⟨rfl, ⟨nd, rfl⟩⟩) | (go_at_call 17; (with_reducible refine (kilnlaw1_num.calls t158 t162 _ A27.out).mono ?_); rintro e w' ⟨rfl, ⟨nd, rfl⟩⟩))
              go_ret
              exact ⟨by first | rfl | (simp; done) | (simp [*]; done), by repeat (first | exact Drawn0.refl _ | apply Drawn0.step)⟩
            · rw [if_neg c26] at H
              have c26b0 : (t157 == t159) = false := beq_eq_false_iff_ne.mpr c26
              have c26b1 : (t157 != t159) = true := bne_iff_ne.mpr c26
              obtain rfl := Option.some.inj H
              go_wp2_with (first | ((with_reducible refine gate_callee (f := 28) rfl ?_); refine goesL_ (some 95) rfl rfl Try.func28 (by kernel_rfl) rfl #[.int .i64 a0, .int .i64 a1] rfl (by (try simp only [List.map_toArray, List.map_cons, List.map_nil]); first | done | rfl | (simp only [List.length_drop, List.length_take]; rfl)) ?_; (with_reducible refine (word_Div.calls kj8 a0 a1 t153 t154 _ A19.out).mono ?_); rintro e w' ⟨rfl, ⟨nd, rfl⟩⟩; refine ⟨_, rfl, ?_⟩) | ((with_reducible refine gate_callee (f := 33) rfl ?_); refine goesL_ (some 101) rfl rfl Try.func33 (by kernel_rfl) rfl #[.int .i64 a0, .int .i64 a1] rfl (by (try simp only [List.map_toArray, List.map_cons, List.map_nil]); first | done | rfl | (simp only [List.length_drop, List.length_take]; rfl)) ?_; (with_reducible refine (kilnref1_Div.calls kj8 a0 a1 t155 t156 _ A20.out).mono ?_); rintro e w' ⟨rfl, ⟨nd, rfl⟩⟩; refine ⟨_, rfl, ?_⟩) | ((with_reducible refine gate_callee (f := 29) rfl ?_); refine goesL_ (some 107) rfl rfl Try.func29 (by kernel_rfl) rfl #[.int .i64 a0, .int .i64 a1] rfl (by (try simp only [List.map_toArray, List.map_cons, List.map_nil]); first | done | rfl | (simp only [List.length_drop, List.length_take]; rfl)) ?_; (with_reducible refine (word_Mod.calls kj8 a0 a1 t157 t158 _ A21.out).mono ?_); rintro e w' ⟨rfl, ⟨nd, rfl⟩⟩; refine ⟨_, rfl, ?_⟩) | ((with_reducible refine gate_callee (f := 34) rfl ?_); refine goesL_ (some 113) rfl rfl Try.func34 (by kernel_rfl) rfl #[.int .i64 a0, .int .i64 a1] rfl (by (try simp only [List.map_toArray, List.map_cons, List.map_nil]); first | done | rfl | (simp only [List.length_drop, List.length_take]; rfl)) ?_; (with_reducible refine (kilnref1_Mod.calls kj8 a0 a1 t159 t160 _ A22.out).mono ?_); rintro e w' ⟨rfl, ⟨nd, rfl⟩⟩; refine ⟨_, rfl, ?_⟩) | (go_at_call 17; (with_reducible refine (kilnlaw1_num.calls t154 t161 _ A24.out).mono ?_); rintro e w' ⟨rfl, ⟨nd, rfl⟩⟩))
              go_ret
              exact ⟨by first | rfl | (simp; done) | (simp [*]; done), by repeat (first | exact Drawn0.refl _ | apply Drawn0.step)⟩
          · rw [if_neg c25] at H
            have c25b0 : (t161 == t156) = false := beq_eq_false_iff_ne.mpr c25
            have c25b1 : (t161 != t156) = true := bne_iff_ne.mpr c25
            obtain rfl := Option.some.inj H
            go_wp2_with (first | ((with_reducible refine gate_callee (f := 28) rfl ?_); refine goesL_ (some 95) rfl rfl Try.func28 (by kernel_rfl) rfl #[.int .i64 a0, .int .i64 a1] rfl (by (try simp only [List.map_toArray, List.map_cons, List.map_nil]); first | done | rfl | (simp only [List.length_drop, List.length_take]; rfl)) ?_; (with_reducible refine (word_Div.calls kj8 a0 a1 t153 t154 _ A19.out).mono ?_); rintro e w' ⟨rfl, ⟨nd, rfl⟩⟩; refine ⟨_, rfl, ?_⟩) | ((with_reducible refine gate_callee (f := 33) rfl ?_); refine goesL_ (some 101) rfl rfl Try.func33 (by kernel_rfl) rfl #[.int .i64 a0, .int .i64 a1] rfl (by (try simp only [List.map_toArray, List.map_cons, List.map_nil]); first | done | rfl | (simp only [List.length_drop, List.length_take]; rfl)) ?_; (with_reducible refine (kilnref1_Div.calls kj8 a0 a1 t155 t156 _ A20.out).mono ?_); rintro e w' ⟨rfl, ⟨nd, rfl⟩⟩; refine ⟨_, rfl, ?_⟩) | ((with_reducible refine gate_callee (f := 29) rfl ?_); refine goesL_ (some 107) rfl rfl Try.func29 (by kernel_rfl) rfl #[.int .i64 a0, .int .i64 a1] rfl (by (try simp only [List.map_toArray, List.map_cons, List.map_nil]); first | done | rfl | (simp only [List.length_drop, List.length_take]; rfl)) ?_; (with_reducible refine (word_Mod.calls kj8 a0 a1 t157 t158 _ A21.out).mono ?_); rintro e w' ⟨rfl, ⟨nd, rfl⟩⟩; refine ⟨_, rfl, ?_⟩) | ((with_reducible refine gate_callee (f := 34) rfl ?_); refine goesL_ (some 113) rfl rfl Try.func34 (by kernel_rfl) rfl #[.int .i64 a0, .int .i64 a1] rfl (by (try simp only [List.map_toArray, List.map_cons, List.map_nil]); first | done | rfl | (simp only [List.length_drop, List.length_take]; rfl)) ?_; (with_reducible refine (kilnref1_Mod.calls kj8 a0 a1 t159 t160 _ A22.out).mono ?_); rintro e w' ⟨rfl, ⟨nd, rfl⟩⟩; refine ⟨_, rfl, ?_⟩) | (go_at_call 17; (with_reducible refine (kilnlaw1_num.calls t154 t161 _ A24.out).mono ?_); rintro e w' ⟨rfl, ⟨nd, rfl⟩⟩))
            go_ret
            exact ⟨by first | rfl | (simp; done) | (simp [*]; done), by repeat (first | exact Drawn0.refl _ | apply Drawn0.step)⟩
        · rw [if_neg c23] at H
          have c23b0 : (t153 == t155) = false := beq_eq_false_iff_ne.mpr c23
          have c23b1 : (t153 != t155) = true := bne_iff_ne.mpr c23
          obtain rfl := Option.some.inj H
          go_wp2_with (first | ((with_reducible refine gate_callee (f := 28) rfl ?_); refine goesL_ (some 95) rfl rfl Try.func28 (by kernel_rfl) rfl #[.int .i64 a0, .int .i64 a1] rfl (by (try simp only [List.map_toArray, List.map_cons, List.map_nil]); first | done | rfl | (simp only [List.length_drop, List.length_take]; rfl)) ?_; (with_reducible refine (word_Div.calls kj8 a0 a1 t153 t154 _ A19.out).mono ?_); rintro e w' ⟨rfl, ⟨nd, rfl⟩⟩; refine ⟨_, rfl, ?_⟩) | ((with_reducible refine gate_callee (f := 33) rfl ?_); refine goesL_ (some 101) rfl rfl Try.func33 (by kernel_rfl) rfl #[.int .i64 a0, .int .i64 a1] rfl (by (try simp only [List.map_toArray, List.map_cons, List.map_nil]); first | done | rfl | (simp only [List.length_drop, List.length_take]; rfl)) ?_; (with_reducible refine (kilnref1_Div.calls kj8 a0 a1 t155 t156 _ A20.out).mono ?_); rintro e w' ⟨rfl, ⟨nd, rfl⟩⟩; refine ⟨_, rfl, ?_⟩) | ((with_reducible refine gate_callee (f := 29) rfl ?_); refine goesL_ (some 107) rfl rfl Try.func29 (by kernel_rfl) rfl #[.int .i64 a0, .int .i64 a1] rfl (by (try simp only [List.map_toArray, List.map_cons, List.map_nil]); first | done | rfl | (simp only [List.length_drop, List.length_take]; rfl)) ?_; (with_reducible refine (word_Mod.calls kj8 a0 a1 t157 t158 _ A21.out).mono ?_); rintro e w' ⟨rfl, ⟨nd, rfl⟩⟩; refine ⟨_, rfl, ?_⟩) | ((with_reducible refine gate_callee (f := 34) rfl ?_); refine goesL_ (some 113) rfl rfl Try.func34 (by kernel_rfl) rfl #[.int .i64 a0, .int .i64 a1] rfl (by (try simp only [List.map_toArray, List.map_cons, List.map_nil]); first | done | rfl | (simp only [List.length_drop, List.length_take]; rfl)) ?_; (with_reducible refine (kilnref1_Mod.calls kj8 a0 a1 t159 t160 _ A22.out).mono ?_); rintro e w' ⟨rfl, ⟨nd, rfl⟩⟩; refine ⟨_, rfl, ?_⟩))
          go_ret
          exact ⟨by first | rfl | (simp; done) | (simp [*]; done), by repeat (first | exact Drawn0.refl _ | apply Drawn0.step)⟩

/-- THE ONE PURE STATEMENT of kilnlaw1_WordSums: yours. -/
def kilnlaw1_WordSums.Pure : Prop := ∀ (a0 : Int) (a1 : Int), (Lit.int .i64 a0).wf = true → (Lit.int .i64 a1).wf = true → ∃ k, kilnlaw1_WordSums.f k a0 a1 = some true
theorem kilnlaw1_WordSums.walk (P : kilnlaw1_WordSums.Pure) (a0 : Int) (a1 : Int) (w : World) (w0 : (Lit.int .i64 a0).wf = true) (w1 : (Lit.int .i64 a1).wf = true) :
    Calls Try.prog 7 #[.int .i64 a0, .int .i64 a1] w fun e w' => e = .returned (.bool true) ∧ Below w.heap.size w w' := by
  obtain ⟨k, h⟩ := P a0 a1 w0 w1
  refine (kilnlaw1_WordSums.calls k a0 a1 true w h).mono ?_
  rintro e w' ⟨rfl, hd⟩
  exact ⟨rfl, hd.below⟩

end Go.Proofs.Ytcnjdgafemgaeaa.PWordSums
