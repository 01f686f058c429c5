/- LexWords, walked: the law answers true for every text. Conditions: strconv.ErrRange holds an error; the text is no longer than the form can reach. -/
import Derived.Test.YtjibdaigclgmhaaDoorLexM
namespace Go.Proofs.YtjibdaigclgmhaaDoor.LexW
open Go.RowKit Go.Maps Go.Proofs.YtjibdaigclgmhaaDoor.Lex Go.Proofs.YtjibdaigclgmhaaDoor.PLexTokens Go.Proofs.YtjibdaigclgmhaaDoorW.PrintWords Go.Proofs.YtjibdaigclgmhaaDoorW.PrintLast Go.Proofs.YtjibdaigclgmhaaDoorW.PrintMore
attribute [local go_sem] max2_int min2_int max_two min_two max_three min_three max_four min_four
set_option linter.unusedVariables false
set_option linter.unusedSimpArgs false
set_option maxHeartbeats 4000000 in
set_option maxRecDepth 1000000 in
theorem words_law (s : ByteArray) (hs : s.size ≤ 140737488351232) (w : World) (E : Erg w) : Calls Tryd.prog 4 #[.string s] w fun e w' => e = .returned (.bool true) ∧ Below w.heap.size w w' := by
  have hsl := selector_calls s (by omega)
  have hrs := refSelector_calls s (by omega)
  have hvc := variable_calls s
  have hrv := refVariable_calls s (by omega)
  obtain ⟨vc, hvcq⟩ : ∃ v, varCode (bl s) = v := ⟨_, rfl⟩
  rw [hvcq] at hvc hrv
  have HE := Aside0.mk E
  have HVC := Aside0.mk hvc
  have HRV := Aside0.mk hrv
  have HW := Aside0.mk (Below.refl w.heap.size w)
  clear E hvc hrv hvcq
  cases hsel : selector (bl s) with
  | some n =>
    rw [hsel] at hsl hrs
    have hsl' : ∀ W, Calls Tryd.prog 17 #[.string s] W fun e w' => e = .returned (.tuple #[.int .i64 (n : Int), .int .i64 0]) ∧ Below W.heap.size W w' := fun W => hsl W
    have hrs' : ∀ W, Calls Tryd.prog 18 #[.string s] W fun e w' => e = .returned (.tuple #[.int .i64 (n : Int), .int .i64 0]) ∧ Below W.heap.size W w' := fun W => hrs W
    have HSL := Aside0.mk hsl'
    have HRS := Aside0.mk hrs'
    clear hsl hrs hsl' hrs' hsel
    go_enter Tryd.func4, Tryd.ntmps4
    go_wp2_with (first
      | (go_at_call 17; refine (HSL.out _).mono ?_; rintro e w1 ⟨rfl, hb⟩; replace HW := Aside0.mk (below_then HW.out HW.out.size hb); clear hb)
      | (go_at_call 18; refine (HRS.out _).mono ?_; rintro e w1 ⟨rfl, hb⟩; replace HW := Aside0.mk (below_then HW.out HW.out.size hb); clear hb)
      | (go_at_call 19; refine (HVC.out _).mono ?_; rintro e w1 ⟨rfl, hb⟩; replace HW := Aside0.mk (below_then HW.out HW.out.size hb); clear hb)
      | (go_at_call 20; refine (num_calls _ _).mono ?_; rintro e w1 ⟨rfl, hb⟩; replace HW := Aside0.mk (below_then HW.out HW.out.size hb); clear hb)
      | (go_at_call 21; refine (HRV.out _).mono ?_; rintro e w1 ⟨rfl, hb⟩; replace HW := Aside0.mk (below_then HW.out HW.out.size hb); clear hb)
      | (go_at_call 16; refine (known_calls _ (HE.out.below HW.out)).mono ?_; rintro e w1 ⟨rfl, hb⟩; replace HW := Aside0.mk (below_then HW.out HW.out.size hb); clear hb))
    go_ret
    exact ⟨by first | rfl | simp, HW.out⟩
  | none =>
    rw [hsel] at hsl hrs
    have hsl' : ∀ W, Calls Tryd.prog 17 #[.string s] W fun e w' => e = .returned (.tuple #[.int .i64 0, .int .i64 1]) ∧ Below W.heap.size W w' := fun W => hsl W
    have hrs' : ∀ W, Calls Tryd.prog 18 #[.string s] W fun e w' => e = .returned (.tuple #[.int .i64 0, .int .i64 1]) ∧ Below W.heap.size W w' := fun W => hrs W
    have HSL := Aside0.mk hsl'
    have HRS := Aside0.mk hrs'
    clear hsl hrs hsl' hrs' hsel
    go_enter Tryd.func4, Tryd.ntmps4
    go_wp2_with (first
      | (go_at_call 17; refine (HSL.out _).mono ?_; rintro e w1 ⟨rfl, hb⟩; replace HW := Aside0.mk (below_then HW.out HW.out.size hb); clear hb)
      | (go_at_call 18; refine (HRS.out _).mono ?_; rintro e w1 ⟨rfl, hb⟩; replace HW := Aside0.mk (below_then HW.out HW.out.size hb); clear hb)
      | (go_at_call 19; refine (HVC.out _).mono ?_; rintro e w1 ⟨rfl, hb⟩; replace HW := Aside0.mk (below_then HW.out HW.out.size hb); clear hb)
      | (go_at_call 20; refine (num_calls _ _).mono ?_; rintro e w1 ⟨rfl, hb⟩; replace HW := Aside0.mk (below_then HW.out HW.out.size hb); clear hb)
      | (go_at_call 21; refine (HRV.out _).mono ?_; rintro e w1 ⟨rfl, hb⟩; replace HW := Aside0.mk (below_then HW.out HW.out.size hb); clear hb)
      | (go_at_call 16; refine (known_calls _ (HE.out.below HW.out)).mono ?_; rintro e w1 ⟨rfl, hb⟩; replace HW := Aside0.mk (below_then HW.out HW.out.size hb); clear hb))
    go_ret
    exact ⟨by first | rfl | simp, HW.out⟩
end Go.Proofs.YtjibdaigclgmhaaDoor.LexW
