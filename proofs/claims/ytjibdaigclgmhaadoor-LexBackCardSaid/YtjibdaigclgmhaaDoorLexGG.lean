/- LexBack, walked: the law answers true. Conditions: those that each theorem states. -/
import Derived.Test.YtjibdaigclgmhaaDoorLexFF
namespace Go.Proofs.YtjibdaigclgmhaaDoor.LexW
open Go.RowKit Go.Proofs.YtjibdaigclgmhaaDoor.Lex Go.Proofs.YtjibdaigclgmhaaDoor.Facts Go.Proofs.YtjibdaigclgmhaaDoor.PLexTokens Go.Proofs.YtjibdaigclgmhaaDoorW.PrintWords Go.Proofs.YtjibdaigclgmhaaDoorW.PrintLast Go.Proofs.YtjibdaigclgmhaaDoorW.PrintMore
attribute [local go_sem] max2_int min2_int max_two min_two max_three min_three max_four min_four
set_option linter.unusedVariables false
set_option linter.unusedSimpArgs false
theorem cutsTo_toks (m : List TokA) {Y : List S42} {z : S42} (hok : PrintOk (m.map tokS) Y z) (hB : Bd (m.map tokS)) (A : Option Addr) (s : ByteArray) (hsj : bl s = joinW (Y.map tk)) (w : World) (E : PEnv w) (hC : Kd.C k42 w A m.length (m.map tokS)) : Calls Tryd.prog 25 #[.string s, .slice A m.length m.length] w fun e w' => e = .returned (.bool true) ∧ Below w.heap.size w w' := by
  have hl : (m.map tokS).length = m.length := List.length_map _
  have := cutsTo_calls hok hB A m.length s hsj w E (by rw [hl]; exact hC) (by omega)
  rw [hl] at this
  exact this
set_option maxHeartbeats 4000000 in
set_option maxRecDepth 1000000 in
theorem back_law (s : ByteArray) (X : List S42) (A : Option Addr) (c : Nat) (w : World) (E : PEnv w) (hC : Kd.C k42 w A X.length X) (hc : X.length ≤ c) (hl : X.length ≤ 9223372036854775807) (hnum : ∀ x ∈ X, -9223372036854775808 ≤ x.f2 ∧ x.f2 ≤ 9223372036854775807) : Calls Tryd.prog 9 #[.string s, .slice A X.length c] w fun e w' => e = .returned (.bool true) ∧ Below w.heap.size w w' := by
  have hby := beyond_calls X A c w hC hc hl
  by_cases hbd : 268435456 < wt X
  · rw [decide_eq_true hbd] at hby
    go_enter Tryd.func9, Tryd.ntmps9
    go_wp2_with (go_at_call 23; refine hby.mono ?_; rintro e w1 ⟨rfl, hb⟩; have HB := Aside0.mk (below_drawn hb); clear hb)
    go_ret
    exact ⟨rfl, HB.out⟩
  · rw [decide_eq_false hbd] at hby
    have hB : Bd X := ⟨by omega, hnum⟩
    have HBY := Aside0.mk hby
    have HE := Aside0.mk E
    have HX : Aside0 (Below w.heap.size w w ∧ Kd.C k42 w A X.length X) := ⟨Below.refl _ _, hC⟩
    clear hby hC E hbd hnum
    cases hq : tokensS (bl s) with
    | inr a =>
      have hne : (a.1 == 0) = false := by rcases tokensS_inr hq with h | h <;> rw [h] <;> rfl
      have HT := Aside0.mk (fun W E => tokens_fault hq W E)
      clear hq
      go_enter Tryd.func9, Tryd.ntmps9
      go_wp2_with (first
        | (go_at_call 23; refine HBY.out.mono ?_; rintro e w1 ⟨rfl, hb⟩; replace hb := below_drawn hb; replace HX := Aside0.mk (And.intro (below_then HX.out.1 HX.out.1.size hb) (Kd.C_below HX.out.2 hb)); clear hb)
        | (go_at_call 16; refine (known_calls _ (HE.out.below HX.out.1).E).mono ?_; rintro e w2 ⟨rfl, hb⟩; replace HX := Aside0.mk (And.intro (below_then HX.out.1 HX.out.1.size hb) (Kd.C_below HX.out.2 hb)); clear hb)
        | (go_at_call 11; refine (HT.out _ (HE.out.below HX.out.1).E).mono ?_; rintro e w3 ⟨rfl, hb⟩; replace HX := Aside0.mk (And.intro (below_then HX.out.1 HX.out.1.size hb) (Kd.C_below HX.out.2 hb)); have k1 := blk_new w3 (.cells #[.int .i64 a.1, .int .i64 (a.2 : Int)] 25 (0, 0)); have d0 := blk_cell k1 0; clear hb k1))
      obtain ⟨W2, hW2⟩ : ∃ W2, W2 = w3.alloc (Obj.cells #[Value.int IntKind.i64 a.1, Value.int IntKind.i64 (a.2 : Int)] 25) := ⟨_, rfl⟩
      have hWW : Below w3.heap.size w3 W2 := by rw [hW2]; exact (Below.refl _ _).alloc (Nat.le_refl _) _
      replace HX : Aside0 (Below w.heap.size w W2 ∧ Kd.C k42 W2 A X.length X) := ⟨⟨below_then HX.out.1 HX.out.1.size hWW, Kd.C_below HX.out.2 hWW⟩⟩
      rw [← hW2]
      clear hW2 hWW d0
      by_cases hok : ∃ Y z, PrintOk X Y z
      · obtain ⟨Y, z, hok⟩ := hok
        obtain ⟨s2, hs2⟩ : ∃ s2, s2 = sB (joinW (Y.map tk)) := ⟨_, rfl⟩
        have hb2 : bl s2 = joinW (Y.map tk) := by rw [hs2]; rfl
        have HC2 := Aside0.mk (fun W hE hC => cutsTo_calls hok hB A c s2 hb2 W hE hC hc)
        have h24 := print_ok hok hB A c _ (HE.out.below HX.out.1) HX.out.2 hc
        rw [← hs2] at h24
        clear hb2 hs2 hok
        refine h24.mono ?_
        rintro e w7 ⟨rfl, hb⟩
        clear h24
        replace HX := Aside0.mk (And.intro (below_then HX.out.1 HX.out.1.size hb) (Kd.C_below HX.out.2 hb)); clear hb
        go_wp2_with (first
          | (go_at_call 20; refine (num_calls 0 _).mono ?_; rintro e w8 ⟨rfl, hb⟩; replace HX := Aside0.mk (And.intro (below_then HX.out.1 HX.out.1.size hb) (Kd.C_below HX.out.2 hb)); clear hb)
          | (go_at_call 25; refine (HC2.out _ (HE.out.below HX.out.1) HX.out.2).mono ?_; rintro e w9 ⟨rfl, hb⟩; replace HX := Aside0.mk (And.intro (below_then HX.out.1 HX.out.1.size hb) (Kd.C_below HX.out.2 hb)); clear hb))
        go_ret
        exact ⟨rfl, HX.out.1⟩
      · have h24 := print_no (fun Y z h => hok ⟨Y, z, h⟩) hB A c _ (HE.out.below HX.out.1) HX.out.2 hc
        refine h24.mono ?_
        rintro e w7 ⟨rfl, hb⟩
        clear h24 hok
        replace HX := Aside0.mk (And.intro (below_then HX.out.1 HX.out.1.size hb) (Kd.C_below HX.out.2 hb)); clear hb
        go_wp2_with (first
          | (go_at_call 20; refine (num_calls 1 _).mono ?_; rintro e w8 ⟨rfl, hb⟩; replace HX := Aside0.mk (And.intro (below_then HX.out.1 HX.out.1.size hb) (Kd.C_below HX.out.2 hb)); clear hb))
        go_ret
        exact ⟨rfl, HX.out.1⟩
    | inl l =>
      have hLx := (tokensS_inl hq).1
      have hL4 := (tokensS_inl hq).2
      have hBl := bd_toks hLx hL4
      obtain ⟨l0, he, hm⟩ := Lexes.may hLx
      obtain ⟨Y1, z1, hok1, hY1⟩ := toks_ok he hm
      obtain ⟨s1, hs1⟩ : ∃ s1, s1 = sB (joinW (Y1.map tk)) := ⟨_, rfl⟩
      have hb1 : bl s1 = joinW (Y1.map tk) := by rw [hs1]; rfl
      have HP1 := Aside0.mk (fun A1 W hE hC => print_toks l hok1 hBl s1 hs1.symm A1 W hE hC)
      have HC1 := Aside0.mk (fun A1 W hE hC => cutsTo_toks l hok1 hBl A1 s1 hb1 W hE hC)
      have HT := Aside0.mk (fun W E => tokens_list hq 0 W E)
      clear hLx hL4 hBl he hm hok1 hY1 hs1 hb1
      clear hq
      go_enter Tryd.func9, Tryd.ntmps9
      go_wp2_with (first
        | (go_at_call 23; refine HBY.out.mono ?_; rintro e w1 ⟨rfl, hb⟩; replace hb := below_drawn hb; replace HX := Aside0.mk (And.intro (below_then HX.out.1 HX.out.1.size hb) (Kd.C_below HX.out.2 hb)); clear hb)
        | (go_at_call 16; refine (known_calls _ (HE.out.below HX.out.1).E).mono ?_; rintro e w2 ⟨rfl, hb⟩; replace HX := Aside0.mk (And.intro (below_then HX.out.1 HX.out.1.size hb) (Kd.C_below HX.out.2 hb)); clear hb)
        | (go_at_call 11; refine (HT.out _ (HE.out.below HX.out.1).E).mono ?_; rintro e w3 ⟨v, rfl, ⟨A1, rfl, hC1⟩, hb⟩; replace HX := Aside0.mk (And.intro (below_then HX.out.1 HX.out.1.size hb) (And.intro (Kd.C_below HX.out.2 hb) hC1)); have k1 := blk_new w3 (.cells #[.int .i64 0, .int .i64 0] 25 (0, 0)); have d0 := blk_cell k1 0; clear hb k1 hC1))
      obtain ⟨W2, hW2⟩ : ∃ W2, W2 = w3.alloc (Obj.cells #[Value.int IntKind.i64 0, Value.int IntKind.i64 0] 25) := ⟨_, rfl⟩
      have hWW : Below w3.heap.size w3 W2 := by rw [hW2]; exact (Below.refl _ _).alloc (Nat.le_refl _) _
      replace HX : Aside0 (Below w.heap.size w W2 ∧ Kd.C k42 W2 A X.length X ∧ Kd.C k42 W2 A1 l.length (l.map tokS)) := ⟨⟨below_then HX.out.1 HX.out.1.size hWW, Kd.C_below HX.out.2.1 hWW, Kd.C_below HX.out.2.2 hWW⟩⟩
      rw [← hW2]
      clear hW2 hWW d0
      refine (HP1.out A1 W2 (HE.out.below HX.out.1) HX.out.2.2).mono ?_
      rintro e w4 ⟨rfl, hb⟩
      replace HX := Aside0.mk (And.intro (below_then HX.out.1 HX.out.1.size hb) (And.intro (Kd.C_below HX.out.2.1 hb) (Kd.C_below HX.out.2.2 hb))); clear hb
      go_wp2_with (first
        | (go_at_call 20; refine (num_calls 0 _).mono ?_; rintro e w5 ⟨rfl, hb⟩; replace HX := Aside0.mk (And.intro (below_then HX.out.1 HX.out.1.size hb) (And.intro (Kd.C_below HX.out.2.1 hb) (Kd.C_below HX.out.2.2 hb))); clear hb)
        | (go_at_call 25; refine (HC1.out A1 _ (HE.out.below HX.out.1) HX.out.2.2).mono ?_; rintro e w6 ⟨rfl, hb⟩; replace HX := Aside0.mk (And.intro (below_then HX.out.1 HX.out.1.size hb) (And.intro (Kd.C_below HX.out.2.1 hb) (Kd.C_below HX.out.2.2 hb))); clear hb))
      by_cases hok : ∃ Y z, PrintOk X Y z
      · obtain ⟨Y, z, hok⟩ := hok
        obtain ⟨s2, hs2⟩ : ∃ s2, s2 = sB (joinW (Y.map tk)) := ⟨_, rfl⟩
        have hb2 : bl s2 = joinW (Y.map tk) := by rw [hs2]; rfl
        have HC2 := Aside0.mk (fun W hE hC => cutsTo_calls hok hB A c s2 hb2 W hE hC hc)
        have h24 := print_ok hok hB A c _ (HE.out.below HX.out.1) HX.out.2.1 hc
        rw [← hs2] at h24
        clear hb2 hs2 hok
        refine h24.mono ?_
        rintro e w7 ⟨rfl, hb⟩
        clear h24
        replace HX := Aside0.mk (And.intro (below_then HX.out.1 HX.out.1.size hb) (And.intro (Kd.C_below HX.out.2.1 hb) (Kd.C_below HX.out.2.2 hb))); clear hb
        go_wp2_with (first
          | (go_at_call 20; refine (num_calls 0 _).mono ?_; rintro e w8 ⟨rfl, hb⟩; replace HX := Aside0.mk (And.intro (below_then HX.out.1 HX.out.1.size hb) (And.intro (Kd.C_below HX.out.2.1 hb) (Kd.C_below HX.out.2.2 hb))); clear hb)
          | (go_at_call 25; refine (HC2.out _ (HE.out.below HX.out.1) HX.out.2.1).mono ?_; rintro e w9 ⟨rfl, hb⟩; replace HX := Aside0.mk (And.intro (below_then HX.out.1 HX.out.1.size hb) (And.intro (Kd.C_below HX.out.2.1 hb) (Kd.C_below HX.out.2.2 hb))); clear hb))
        go_ret
        exact ⟨rfl, HX.out.1⟩
      · have h24 := print_no (fun Y z h => hok ⟨Y, z, h⟩) hB A c _ (HE.out.below HX.out.1) HX.out.2.1 hc
        refine h24.mono ?_
        rintro e w7 ⟨rfl, hb⟩
        clear h24 hok
        replace HX := Aside0.mk (And.intro (below_then HX.out.1 HX.out.1.size hb) (And.intro (Kd.C_below HX.out.2.1 hb) (Kd.C_below HX.out.2.2 hb))); clear hb
        go_wp2_with (first
          | (go_at_call 20; refine (num_calls 1 _).mono ?_; rintro e w8 ⟨rfl, hb⟩; replace HX := Aside0.mk (And.intro (below_then HX.out.1 HX.out.1.size hb) (And.intro (Kd.C_below HX.out.2.1 hb) (Kd.C_below HX.out.2.2 hb))); clear hb))
        go_ret
        exact ⟨rfl, HX.out.1⟩
end Go.Proofs.YtjibdaigclgmhaaDoor.LexW
