/- The table of acts: its rows, and what each row's writer and reader do. Conditions: those that each theorem states. -/
import Derived.Test.YtkfjjmmpbfjhaaaGreatDoorScrK1
import Derived.Test.YtkfjjmmpbfjhaaaGreatDoorFacts2
namespace Go.Proofs.YtkfjjmmpbfjhaaaGreatDoor.Tells
open Go.RowKit Go.Proofs.YtkfjjmmpbfjhaaaGreatDoor.Facts Go.Proofs.YtkfjjmmpbfjhaaaGreatDoor.PScriptActs Go.Proofs.YtkfjjmmpbfjhaaaGreatDoorW.PrintWords Go.Proofs.YtkfjjmmpbfjhaaaGreatDoorW.PrintLast Go.Proofs.YtkfjjmmpbfjhaaaGreatDoorW.PrintMore
attribute [local go_sem] max2_int min2_int max_two min_two max_three min_three max_four min_four
set_option linter.unusedVariables false
set_option linter.unusedSimpArgs false
def tabCells : Array Value := #[.string ⟨#[99, 108, 97, 115, 115]⟩, .int .i64 1, .func (.func 49) #[] #[], .func (.func 50) #[] #[], .string ⟨#[109, 101, 116, 104, 111, 100]⟩, .int .i64 2, .func (.func 52) #[] #[], .func (.func 55) #[] #[], .string ⟨#[114, 101, 109, 111, 118, 101]⟩, .int .i64 3, .func (.func 56) #[] #[], .func (.func 57) #[] #[], .string ⟨#[103, 108, 111, 98, 97, 108]⟩, .int .i64 4, .func (.func 58) #[] #[], .func (.func 59) #[] #[], .string ⟨#[115, 112, 97, 119, 110]⟩, .int .i64 5, .func (.func 60) #[] #[], .func (.func 61) #[] #[], .string ⟨#[114, 117, 110]⟩, .int .i64 6, .func (.func 62) #[] #[], .func (.func 64) #[] #[], .string ⟨#[114, 101, 115, 104, 97, 112, 101]⟩, .int .i64 7, .func (.func 65) #[] #[], .func (.func 66) #[] #[], .string ⟨#[99, 111, 108, 108, 101, 99, 116]⟩, .int .i64 8, .func (.func 67) #[] #[], .func (.func 68) #[] #[], .string ⟨#[105, 110, 115, 112, 101, 99, 116]⟩, .int .i64 9, .func (.func 67) #[] #[], .func (.func 68) #[] #[], .string ⟨#[109, 97, 114, 107]⟩, .int .i64 10, .func (.func 69) #[] #[], .func (.func 70) #[] #[], .string ⟨#[115, 97, 118, 101]⟩, .int .i64 11, .func (.func 67) #[] #[], .func (.func 68) #[] #[], .string ⟨#[108, 111, 97, 100]⟩, .int .i64 12, .func (.func 71) #[] #[], .func (.func 72) #[] #[]]
def nameL : List ByteArray := [⟨#[99, 108, 97, 115, 115]⟩, ⟨#[109, 101, 116, 104, 111, 100]⟩, ⟨#[114, 101, 109, 111, 118, 101]⟩, ⟨#[103, 108, 111, 98, 97, 108]⟩, ⟨#[115, 112, 97, 119, 110]⟩, ⟨#[114, 117, 110]⟩, ⟨#[114, 101, 115, 104, 97, 112, 101]⟩, ⟨#[99, 111, 108, 108, 101, 99, 116]⟩, ⟨#[105, 110, 115, 112, 101, 99, 116]⟩, ⟨#[109, 97, 114, 107]⟩, ⟨#[115, 97, 118, 101]⟩, ⟨#[108, 111, 97, 100]⟩]
def nameOf (k : Int) : ByteArray := nameL.getD (k.toNat - 1) ⟨#[]⟩
set_option maxHeartbeats 4000000 in
set_option maxRecDepth 100000 in
theorem shapes_calls (w : World) : Calls Tryz.prog 29 #[] w fun e w' => e = .returned (.slice (some ⟨w.heap.size, 0, none⟩) 12 12) ∧ w' = w.alloc (.cells tabCells 68 (0, 0)) := by
  go_enter Tryz.func29, Tryz.ntmps29
  go_wp2_with fail
  go_ret
  exact ⟨rfl, rfl⟩
/-- what a row's writer does -/
structure Writes (a : S31) (f : FuncId) (fn : Func) : Prop where
  here : Tryz.prog.funcs[f]? = some fn
  name : (fn.name == "runtime.NumGoroutine") = false
  body : fn.body.isSome = true
  does : ∀ A c W, Env W → Kd.C Kd.string W A a.f3.length a.f3 → a.f3.length ≤ c → Calls Tryz.prog f #[actV a A c] W fun e w' => ∃ v, e = .returned v ∧ Kd.R Kd.string 9 w' W.heap.size (fun _ => True) v (behind a) ∧ Below W.heap.size W w'
/-- an act's cells -/
def ActIs (W : World) (cs : Array Value) (b : S31) : Prop := ∃ A c, cs = #[.int .i64 b.f0, .string b.f1, .string b.f2, .slice A b.f3.length c, .string b.f4, .int .i64 b.f5, .int .i64 b.f6] ∧ Kd.C Kd.string W A b.f3.length b.f3 ∧ b.f3.length ≤ c
def cs0 (k : Int) : Array Value := #[.int .i64 k, .string ⟨#[]⟩, .string ⟨#[]⟩, .slice none 0 0, .string ⟨#[]⟩, .int .i64 0, .int .i64 0]
/-- what a row's reader does with the words that its writer wrote -/
structure Back (a : S31) (f : FuncId) (fn : Func) : Prop where
  here : Tryz.prog.funcs[f]? = some fn
  name : (fn.name == "runtime.NumGoroutine") = false
  body : fn.body.isSome = true
  does : ∀ A c W g, Reads W g 31 (cs0 a.f0) A (behind a) → (behind a).length ≤ c → Calls Tryz.prog f #[.pointer (some ⟨g, 0, none⟩), .slice A (behind a).length c] W fun e w' => e = .returned (.int .i64 0) ∧ ∃ cs', Wrote W g (.cells cs' 31 (0, 0)) w' ∧ ActIs w' cs' (only a)
theorem actCells0 (k : Int) : ActCells (cs0 k) := ⟨⟨_, rfl⟩, ⟨_, rfl⟩, ⟨_, rfl⟩, ⟨_, rfl⟩, ⟨_, rfl⟩⟩
theorem writes (i : Nat) (hi : i < 12) (a : S31) (hk : a.f0 = (i : Int) + 1) (ha : Aok a) : ∃ f fn, tabCells[i * 4 + 3]? = some (.func (.func f) #[] #[]) ∧ Writes a f fn := by
  rcases (show i = 0 ∨ i = 1 ∨ i = 2 ∨ i = 3 ∨ i = 4 ∨ i = 5 ∨ i = 6 ∨ i = 7 ∨ i = 8 ∨ i = 9 ∨ i = 10 ∨ i = 11 by omega) with rfl | rfl | rfl | rfl | rfl | rfl | rfl | rfl | rfl | rfl | rfl | rfl
  · refine ⟨50, Tryz.f50, rfl, ⟨Tryz.func50, by kernel_rfl, rfl, fun A c W E hC hc => ?_⟩⟩
    have eb : behind a = [wordB a.f1, wordB a.f2] ++ a.f3.map wordB := by unfold behind; rw [hk]; rfl
    rw [eb]
    exact write50 a.f0 a.f5 a.f6 a.f1 a.f2 a.f4 A a.f3 c ha.name ha.other W hC hc ha.names ha.count E.nib
  · refine ⟨55, Tryz.f55, rfl, ⟨Tryz.func55, by kernel_rfl, rfl, fun A c W E hC hc => ?_⟩⟩
    have eb : behind a = [wordB a.f1, wordB a.f4] := by unfold behind; rw [hk]; rfl
    rw [eb]
    exact write55 a.f0 a.f5 a.f6 a.f1 a.f2 a.f4 A a.f3.length c ha.name ha.text W E.nib
  · refine ⟨57, Tryz.f57, rfl, ⟨Tryz.func57, by kernel_rfl, rfl, fun A c W E hC hc => ?_⟩⟩
    have eb : behind a = [wordB a.f1, wordB a.f2] := by unfold behind; rw [hk]; rfl
    rw [eb]
    exact write57 a.f0 a.f5 a.f6 a.f1 a.f2 a.f4 A a.f3.length c ha.name ha.other W E.nib
  · refine ⟨59, Tryz.f59, rfl, ⟨Tryz.func59, by kernel_rfl, rfl, fun A c W E hC hc => ?_⟩⟩
    have eb : behind a = [wordB a.f1] := by unfold behind; rw [hk]; rfl
    rw [eb]
    exact write59 a.f0 a.f5 a.f6 a.f1 a.f2 a.f4 A a.f3.length c ha.name W E.nib
  · refine ⟨61, Tryz.f61, rfl, ⟨Tryz.func61, by kernel_rfl, rfl, fun A c W E hC hc => ?_⟩⟩
    have eb : behind a = [wordB a.f4] := by unfold behind; rw [hk]; rfl
    rw [eb]
    exact write61 a.f0 a.f5 a.f6 a.f1 a.f2 a.f4 A a.f3.length c ha.text W E.nib
  · refine ⟨64, Tryz.f64, rfl, ⟨Tryz.func64, by kernel_rfl, rfl, fun A c W E hC hc => ?_⟩⟩
    have eb : behind a = [itoaB a.f5, itoaB a.f6] := by unfold behind; rw [hk]; rfl
    rw [eb]
    exact write64 a.f0 a.f5 a.f6 a.f1 a.f2 a.f4 A a.f3.length c ha.number ha.fuel W E.pow
  · refine ⟨66, Tryz.f66, rfl, ⟨Tryz.func66, by kernel_rfl, rfl, fun A c W E hC hc => ?_⟩⟩
    have eb : behind a = [wordB a.f1] ++ a.f3.map wordB := by unfold behind; rw [hk]; rfl
    rw [eb]
    exact write66 a.f0 a.f5 a.f6 a.f1 a.f2 a.f4 A a.f3 c ha.name W hC hc ha.names ha.count E.nib
  · refine ⟨68, Tryz.f68, rfl, ⟨Tryz.func68, by kernel_rfl, rfl, fun A c W E hC hc => ?_⟩⟩
    have eb : behind a = [] := by unfold behind; rw [hk]; rfl
    rw [eb]
    refine (write68 a.f0 a.f5 a.f6 a.f1 a.f2 a.f4 A a.f3.length c W).mono ?_
    rintro e w' ⟨rfl, hb⟩
    exact ⟨_, rfl, Kd.R_nil _ _ _ _ _, hb⟩
  · refine ⟨68, Tryz.f68, rfl, ⟨Tryz.func68, by kernel_rfl, rfl, fun A c W E hC hc => ?_⟩⟩
    have eb : behind a = [] := by unfold behind; rw [hk]; rfl
    rw [eb]
    refine (write68 a.f0 a.f5 a.f6 a.f1 a.f2 a.f4 A a.f3.length c W).mono ?_
    rintro e w' ⟨rfl, hb⟩
    exact ⟨_, rfl, Kd.R_nil _ _ _ _ _, hb⟩
  · refine ⟨70, Tryz.f70, rfl, ⟨Tryz.func70, by kernel_rfl, rfl, fun A c W E hC hc => ?_⟩⟩
    have eb : behind a = [itoaB a.f5] := by unfold behind; rw [hk]; rfl
    rw [eb]
    exact write70 a.f0 a.f5 a.f6 a.f1 a.f2 a.f4 A a.f3.length c ha.number W E.pow
  · refine ⟨68, Tryz.f68, rfl, ⟨Tryz.func68, by kernel_rfl, rfl, fun A c W E hC hc => ?_⟩⟩
    have eb : behind a = [] := by unfold behind; rw [hk]; rfl
    rw [eb]
    refine (write68 a.f0 a.f5 a.f6 a.f1 a.f2 a.f4 A a.f3.length c W).mono ?_
    rintro e w' ⟨rfl, hb⟩
    exact ⟨_, rfl, Kd.R_nil _ _ _ _ _, hb⟩
  · refine ⟨72, Tryz.f72, rfl, ⟨Tryz.func72, by kernel_rfl, rfl, fun A c W E hC hc => ?_⟩⟩
    have eb : behind a = [wordB a.f4] := by unfold behind; rw [hk]; rfl
    rw [eb]
    exact write72 a.f0 a.f5 a.f6 a.f1 a.f2 a.f4 A a.f3.length c ha.text W E.nib
theorem backs (i : Nat) (hi : i < 12) (a : S31) (hk : a.f0 = (i : Int) + 1) (ha : Aok a) : ∃ f fn, tabCells[i * 4 + 2]? = some (.func (.func f) #[] #[]) ∧ Back a f fn := by
  rcases (show i = 0 ∨ i = 1 ∨ i = 2 ∨ i = 3 ∨ i = 4 ∨ i = 5 ∨ i = 6 ∨ i = 7 ∨ i = 8 ∨ i = 9 ∨ i = 10 ∨ i = 11 by omega) with rfl | rfl | rfl | rfl | rfl | rfl | rfl | rfl | rfl | rfl | rfl | rfl
  · refine ⟨49, Tryz.f49, rfl, ⟨Tryz.func49, by kernel_rfl, rfl, fun A c W g hR hc => ?_⟩⟩
    have eb : behind a = [wordB a.f1, wordB a.f2] ++ a.f3.map wordB := by unfold behind; rw [hk]; rfl
    have eo : only a = ⟨1, a.f1, a.f2, a.f3, nil_, 0, 0⟩ := by unfold only; rw [hk]; rfl
    have ok1 : oksP [(true, 1), (true, 2)] [wordB a.f1, wordB a.f2] = true := by simp [oksP, okP, unwS_word]
    have pt : putsP [(true, 1), (true, 2)] [wordB a.f1, wordB a.f2] (cs0 a.f0) = #[.int .i64 a.f0, .string a.f1, .string a.f2, .slice none 0 0, .string ⟨#[]⟩, .int .i64 0, .int .i64 0] := by simp [putsP, putP, cs0, unwT_word]
    have et : (behind a).take 2 = [wordB a.f1, wordB a.f2] := by rw [eb]; rfl
    have ed : (behind a).drop 2 = a.f3.map wordB := by rw [eb]; rfl
    have hbl : (behind a).length ≤ 1073741824 := by rw [eb]; simp; have := ha.count; omega
    have hml : 2 ≤ (behind a).length := by rw [eb]; simp
    refine (read49 W g (cs0 a.f0) A (behind a) c hR (actCells0 _) rfl hc hbl 0 ⟨fun h => (by have h2 : (behind a).length < 2 := h; omega), fun _ h => (by rw [show ([(true, 1), (true, 2)] : List Place).length = 2 from rfl, et, ok1] at h; cases h), fun _ _ h => (by rw [show ([(true, 1), (true, 2)] : List Place).length = 2 from rfl, ed, okL_words] at h; cases h), fun _ _ _ => rfl⟩).mono ?_
    rintro e w' ⟨rfl, cs', v, h1, h2⟩
    obtain ⟨_, _, _, h3, h4⟩ := h2 rfl
    rw [show ([(true, 1), (true, 2)] : List Place).length = 2 from rfl, et, pt] at h3
    rw [show ([(true, 1), (true, 2)] : List Place).length = 2 from rfl, ed, unwL_words] at h4
    obtain ⟨A3, c3, rfl, hc3, hC3⟩ := Kd.R_reads h4
    exact ⟨rfl, cs', h1, A3, c3, by rw [h3, eo, hk]; rfl, by rw [eo]; exact hC3, by rw [eo]; exact hc3⟩
  · refine ⟨52, Tryz.f52, rfl, ⟨Tryz.func52, by kernel_rfl, rfl, fun A c W g hR hc => ?_⟩⟩
    have eb : behind a = [wordB a.f1, wordB a.f4] := by unfold behind; rw [hk]; rfl
    have eo : only a = ⟨2, a.f1, nil_, [], a.f4, 0, 0⟩ := by unfold only; rw [hk]; rfl
    have ok1 : oksP [(true, 1), (true, 4)] [wordB a.f1, wordB a.f4] = true := by simp [oksP, okP, unwS_word]
    have pt : putsP [(true, 1), (true, 4)] [wordB a.f1, wordB a.f4] (cs0 a.f0) = #[.int .i64 a.f0, .string a.f1, .string ⟨#[]⟩, .slice none 0 0, .string a.f4, .int .i64 0, .int .i64 0] := by simp [putsP, putP, cs0, unwT_word]
    rw [eb] at hR hc ⊢
    refine (read52 W g (cs0 a.f0) A _ c hR (actCells0 _) hc 0 ⟨fun h => absurd rfl h, fun _ _ => rfl, fun _ h => by rw [ok1] at h; cases h⟩).mono ?_
    rintro e w' ⟨rfl, cs', h1, h2⟩
    obtain ⟨_, _, h3⟩ := h2 rfl
    rw [pt] at h3
    exact ⟨rfl, cs', h1, none, 0, by rw [h3, eo, hk]; rfl, by rw [eo]; exact Kd.C_nil _ _, by rw [eo]; exact Nat.le_refl _⟩
  · refine ⟨56, Tryz.f56, rfl, ⟨Tryz.func56, by kernel_rfl, rfl, fun A c W g hR hc => ?_⟩⟩
    have eb : behind a = [wordB a.f1, wordB a.f2] := by unfold behind; rw [hk]; rfl
    have eo : only a = ⟨3, a.f1, a.f2, [], nil_, 0, 0⟩ := by unfold only; rw [hk]; rfl
    have ok1 : oksP [(true, 1), (true, 2)] [wordB a.f1, wordB a.f2] = true := by simp [oksP, okP, unwS_word]
    have pt : putsP [(true, 1), (true, 2)] [wordB a.f1, wordB a.f2] (cs0 a.f0) = #[.int .i64 a.f0, .string a.f1, .string a.f2, .slice none 0 0, .string ⟨#[]⟩, .int .i64 0, .int .i64 0] := by simp [putsP, putP, cs0, unwT_word]
    rw [eb] at hR hc ⊢
    refine (read56 W g (cs0 a.f0) A _ c hR (actCells0 _) hc 0 ⟨fun h => absurd rfl h, fun _ _ => rfl, fun _ h => by rw [ok1] at h; cases h⟩).mono ?_
    rintro e w' ⟨rfl, cs', h1, h2⟩
    obtain ⟨_, _, h3⟩ := h2 rfl
    rw [pt] at h3
    exact ⟨rfl, cs', h1, none, 0, by rw [h3, eo, hk]; rfl, by rw [eo]; exact Kd.C_nil _ _, by rw [eo]; exact Nat.le_refl _⟩
  · refine ⟨58, Tryz.f58, rfl, ⟨Tryz.func58, by kernel_rfl, rfl, fun A c W g hR hc => ?_⟩⟩
    have eb : behind a = [wordB a.f1] := by unfold behind; rw [hk]; rfl
    have eo : only a = ⟨4, a.f1, nil_, [], nil_, 0, 0⟩ := by unfold only; rw [hk]; rfl
    have ok1 : oksP [(true, 1)] [wordB a.f1] = true := by simp [oksP, okP, unwS_word]
    have pt : putsP [(true, 1)] [wordB a.f1] (cs0 a.f0) = #[.int .i64 a.f0, .string a.f1, .string ⟨#[]⟩, .slice none 0 0, .string ⟨#[]⟩, .int .i64 0, .int .i64 0] := by simp [putsP, putP, cs0, unwT_word]
    rw [eb] at hR hc ⊢
    refine (read58 W g (cs0 a.f0) A _ c hR (actCells0 _) hc 0 ⟨fun h => absurd rfl h, fun _ _ => rfl, fun _ h => by rw [ok1] at h; cases h⟩).mono ?_
    rintro e w' ⟨rfl, cs', h1, h2⟩
    obtain ⟨_, _, h3⟩ := h2 rfl
    rw [pt] at h3
    exact ⟨rfl, cs', h1, none, 0, by rw [h3, eo, hk]; rfl, by rw [eo]; exact Kd.C_nil _ _, by rw [eo]; exact Nat.le_refl _⟩
  · refine ⟨60, Tryz.f60, rfl, ⟨Tryz.func60, by kernel_rfl, rfl, fun A c W g hR hc => ?_⟩⟩
    have eb : behind a = [wordB a.f4] := by unfold behind; rw [hk]; rfl
    have eo : only a = ⟨5, nil_, nil_, [], a.f4, 0, 0⟩ := by unfold only; rw [hk]; rfl
    have ok1 : oksP [(true, 4)] [wordB a.f4] = true := by simp [oksP, okP, unwS_word]
    have pt : putsP [(true, 4)] [wordB a.f4] (cs0 a.f0) = #[.int .i64 a.f0, .string ⟨#[]⟩, .string ⟨#[]⟩, .slice none 0 0, .string a.f4, .int .i64 0, .int .i64 0] := by simp [putsP, putP, cs0, unwT_word]
    rw [eb] at hR hc ⊢
    refine (read60 W g (cs0 a.f0) A _ c hR (actCells0 _) hc 0 ⟨fun h => absurd rfl h, fun _ _ => rfl, fun _ h => by rw [ok1] at h; cases h⟩).mono ?_
    rintro e w' ⟨rfl, cs', h1, h2⟩
    obtain ⟨_, _, h3⟩ := h2 rfl
    rw [pt] at h3
    exact ⟨rfl, cs', h1, none, 0, by rw [h3, eo, hk]; rfl, by rw [eo]; exact Kd.C_nil _ _, by rw [eo]; exact Nat.le_refl _⟩
  · refine ⟨62, Tryz.f62, rfl, ⟨Tryz.func62, by kernel_rfl, rfl, fun A c W g hR hc => ?_⟩⟩
    have eb : behind a = [itoaB a.f5, itoaB a.f6] := by unfold behind; rw [hk]; rfl
    have eo : only a = ⟨6, nil_, nil_, [], nil_, a.f5, a.f6⟩ := by unfold only; rw [hk]; rfl
    have ok1 : oksP [(false, 5), (false, 6)] [itoaB a.f5, itoaB a.f6] = true := by simp [oksP, okP, numW_itoa _ ha.number, numW_itoa _ ha.fuel]
    have pt : putsP [(false, 5), (false, 6)] [itoaB a.f5, itoaB a.f6] (cs0 a.f0) = #[.int .i64 a.f0, .string ⟨#[]⟩, .string ⟨#[]⟩, .slice none 0 0, .string ⟨#[]⟩, .int .i64 a.f5, .int .i64 a.f6] := by simp [putsP, putP, cs0, numN_of (numW_itoa _ ha.number), numN_of (numW_itoa _ ha.fuel)]
    rw [eb] at hR hc ⊢
    refine (read62 W g (cs0 a.f0) A _ c hR (actCells0 _) hc 0 ⟨fun h => absurd rfl h, fun _ _ => rfl, fun _ h => by rw [ok1] at h; cases h⟩).mono ?_
    rintro e w' ⟨rfl, cs', h1, h2⟩
    obtain ⟨_, _, h3⟩ := h2 rfl
    rw [pt] at h3
    exact ⟨rfl, cs', h1, none, 0, by rw [h3, eo, hk]; rfl, by rw [eo]; exact Kd.C_nil _ _, by rw [eo]; exact Nat.le_refl _⟩
  · refine ⟨65, Tryz.f65, rfl, ⟨Tryz.func65, by kernel_rfl, rfl, fun A c W g hR hc => ?_⟩⟩
    have eb : behind a = [wordB a.f1] ++ a.f3.map wordB := by unfold behind; rw [hk]; rfl
    have eo : only a = ⟨7, a.f1, nil_, a.f3, nil_, 0, 0⟩ := by unfold only; rw [hk]; rfl
    have ok1 : oksP [(true, 1)] [wordB a.f1] = true := by simp [oksP, okP, unwS_word]
    have pt : putsP [(true, 1)] [wordB a.f1] (cs0 a.f0) = #[.int .i64 a.f0, .string a.f1, .string ⟨#[]⟩, .slice none 0 0, .string ⟨#[]⟩, .int .i64 0, .int .i64 0] := by simp [putsP, putP, cs0, unwT_word]
    have et : (behind a).take 1 = [wordB a.f1] := by rw [eb]; rfl
    have ed : (behind a).drop 1 = a.f3.map wordB := by rw [eb]; rfl
    have hbl : (behind a).length ≤ 1073741824 := by rw [eb]; simp; have := ha.count; omega
    have hml : 1 ≤ (behind a).length := by rw [eb]; simp
    refine (read65 W g (cs0 a.f0) A (behind a) c hR (actCells0 _) rfl hc hbl 0 ⟨fun h => (by have h2 : (behind a).length < 1 := h; omega), fun _ h => (by rw [show ([(true, 1)] : List Place).length = 1 from rfl, et, ok1] at h; cases h), fun _ _ h => (by rw [show ([(true, 1)] : List Place).length = 1 from rfl, ed, okL_words] at h; cases h), fun _ _ _ => rfl⟩).mono ?_
    rintro e w' ⟨rfl, cs', v, h1, h2⟩
    obtain ⟨_, _, _, h3, h4⟩ := h2 rfl
    rw [show ([(true, 1)] : List Place).length = 1 from rfl, et, pt] at h3
    rw [show ([(true, 1)] : List Place).length = 1 from rfl, ed, unwL_words] at h4
    obtain ⟨A3, c3, rfl, hc3, hC3⟩ := Kd.R_reads h4
    exact ⟨rfl, cs', h1, A3, c3, by rw [h3, eo, hk]; rfl, by rw [eo]; exact hC3, by rw [eo]; exact hc3⟩
  · refine ⟨67, Tryz.f67, rfl, ⟨Tryz.func67, by kernel_rfl, rfl, fun A c W g hR hc => ?_⟩⟩
    have eb : behind a = [] := by unfold behind; rw [hk]; rfl
    have eo : only a = ⟨8, nil_, nil_, [], nil_, 0, 0⟩ := by unfold only; rw [hk]; rfl
    have ok1 : oksP [] [] = true := by simp [oksP, okP]
    have pt : putsP [] [] (cs0 a.f0) = #[.int .i64 a.f0, .string ⟨#[]⟩, .string ⟨#[]⟩, .slice none 0 0, .string ⟨#[]⟩, .int .i64 0, .int .i64 0] := by simp [putsP, putP, cs0]
    rw [eb] at hR hc ⊢
    refine (read67 W g (cs0 a.f0) A _ c hR (actCells0 _) hc 0 ⟨fun h => absurd rfl h, fun _ _ => rfl, fun _ h => by rw [ok1] at h; cases h⟩).mono ?_
    rintro e w' ⟨rfl, cs', h1, h2⟩
    obtain ⟨_, _, h3⟩ := h2 rfl
    rw [pt] at h3
    exact ⟨rfl, cs', h1, none, 0, by rw [h3, eo, hk]; rfl, by rw [eo]; exact Kd.C_nil _ _, by rw [eo]; exact Nat.le_refl _⟩
  · refine ⟨67, Tryz.f67, rfl, ⟨Tryz.func67, by kernel_rfl, rfl, fun A c W g hR hc => ?_⟩⟩
    have eb : behind a = [] := by unfold behind; rw [hk]; rfl
    have eo : only a = ⟨9, nil_, nil_, [], nil_, 0, 0⟩ := by unfold only; rw [hk]; rfl
    have ok1 : oksP [] [] = true := by simp [oksP, okP]
    have pt : putsP [] [] (cs0 a.f0) = #[.int .i64 a.f0, .string ⟨#[]⟩, .string ⟨#[]⟩, .slice none 0 0, .string ⟨#[]⟩, .int .i64 0, .int .i64 0] := by simp [putsP, putP, cs0]
    rw [eb] at hR hc ⊢
    refine (read67 W g (cs0 a.f0) A _ c hR (actCells0 _) hc 0 ⟨fun h => absurd rfl h, fun _ _ => rfl, fun _ h => by rw [ok1] at h; cases h⟩).mono ?_
    rintro e w' ⟨rfl, cs', h1, h2⟩
    obtain ⟨_, _, h3⟩ := h2 rfl
    rw [pt] at h3
    exact ⟨rfl, cs', h1, none, 0, by rw [h3, eo, hk]; rfl, by rw [eo]; exact Kd.C_nil _ _, by rw [eo]; exact Nat.le_refl _⟩
  · refine ⟨69, Tryz.f69, rfl, ⟨Tryz.func69, by kernel_rfl, rfl, fun A c W g hR hc => ?_⟩⟩
    have eb : behind a = [itoaB a.f5] := by unfold behind; rw [hk]; rfl
    have eo : only a = ⟨10, nil_, nil_, [], nil_, a.f5, 0⟩ := by unfold only; rw [hk]; rfl
    have ok1 : oksP [(false, 5)] [itoaB a.f5] = true := by simp [oksP, okP, numW_itoa _ ha.number]
    have pt : putsP [(false, 5)] [itoaB a.f5] (cs0 a.f0) = #[.int .i64 a.f0, .string ⟨#[]⟩, .string ⟨#[]⟩, .slice none 0 0, .string ⟨#[]⟩, .int .i64 a.f5, .int .i64 0] := by simp [putsP, putP, cs0, numN_of (numW_itoa _ ha.number)]
    rw [eb] at hR hc ⊢
    refine (read69 W g (cs0 a.f0) A _ c hR (actCells0 _) hc 0 ⟨fun h => absurd rfl h, fun _ _ => rfl, fun _ h => by rw [ok1] at h; cases h⟩).mono ?_
    rintro e w' ⟨rfl, cs', h1, h2⟩
    obtain ⟨_, _, h3⟩ := h2 rfl
    rw [pt] at h3
    exact ⟨rfl, cs', h1, none, 0, by rw [h3, eo, hk]; rfl, by rw [eo]; exact Kd.C_nil _ _, by rw [eo]; exact Nat.le_refl _⟩
  · refine ⟨67, Tryz.f67, rfl, ⟨Tryz.func67, by kernel_rfl, rfl, fun A c W g hR hc => ?_⟩⟩
    have eb : behind a = [] := by unfold behind; rw [hk]; rfl
    have eo : only a = ⟨11, nil_, nil_, [], nil_, 0, 0⟩ := by unfold only; rw [hk]; rfl
    have ok1 : oksP [] [] = true := by simp [oksP, okP]
    have pt : putsP [] [] (cs0 a.f0) = #[.int .i64 a.f0, .string ⟨#[]⟩, .string ⟨#[]⟩, .slice none 0 0, .string ⟨#[]⟩, .int .i64 0, .int .i64 0] := by simp [putsP, putP, cs0]
    rw [eb] at hR hc ⊢
    refine (read67 W g (cs0 a.f0) A _ c hR (actCells0 _) hc 0 ⟨fun h => absurd rfl h, fun _ _ => rfl, fun _ h => by rw [ok1] at h; cases h⟩).mono ?_
    rintro e w' ⟨rfl, cs', h1, h2⟩
    obtain ⟨_, _, h3⟩ := h2 rfl
    rw [pt] at h3
    exact ⟨rfl, cs', h1, none, 0, by rw [h3, eo, hk]; rfl, by rw [eo]; exact Kd.C_nil _ _, by rw [eo]; exact Nat.le_refl _⟩
  · refine ⟨71, Tryz.f71, rfl, ⟨Tryz.func71, by kernel_rfl, rfl, fun A c W g hR hc => ?_⟩⟩
    have eb : behind a = [wordB a.f4] := by unfold behind; rw [hk]; rfl
    have eo : only a = ⟨12, nil_, nil_, [], a.f4, 0, 0⟩ := by unfold only; rw [hk]; rfl
    have ok1 : oksP [(true, 4)] [wordB a.f4] = true := by simp [oksP, okP, unwS_word]
    have pt : putsP [(true, 4)] [wordB a.f4] (cs0 a.f0) = #[.int .i64 a.f0, .string ⟨#[]⟩, .string ⟨#[]⟩, .slice none 0 0, .string a.f4, .int .i64 0, .int .i64 0] := by simp [putsP, putP, cs0, unwT_word]
    rw [eb] at hR hc ⊢
    refine (read71 W g (cs0 a.f0) A _ c hR (actCells0 _) hc 0 ⟨fun h => absurd rfl h, fun _ _ => rfl, fun _ h => by rw [ok1] at h; cases h⟩).mono ?_
    rintro e w' ⟨rfl, cs', h1, h2⟩
    obtain ⟨_, _, h3⟩ := h2 rfl
    rw [pt] at h3
    exact ⟨rfl, cs', h1, none, 0, by rw [h3, eo, hk]; rfl, by rw [eo]; exact Kd.C_nil _ _, by rw [eo]; exact Nat.le_refl _⟩
end Go.Proofs.YtkfjjmmpbfjhaaaGreatDoor.Tells
