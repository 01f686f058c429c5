/- The table of acts: its rows, and what each row's writer and reader do. Lines and words, kinds and rooms in plain words: what strings.Split and the reference's Words, Lines, kind, room answer. What a text says, in plain words: the play, or the line and the code of the first error. An act's line and what PrintAct answers, in plain words; same, walked. Conditions: those that each theorem states. -/
import Derived.Test.YtkfjjmmpbfjhaaaGreatDoorScrV3
import Derived.Test.YtkfjjmmpbfjhaaaGreatDoorFacts2
import Derived.Lib.Split
namespace Go.Proofs.YtkfjjmmpbfjhaaaGreatDoor.Tells
open Go.RowKit Go.Proofs.YtkfjjmmpbfjhaaaGreatDoor.Facts Go.Proofs.YtkfjjmmpbfjhaaaGreatDoor.PScriptActs Go.Proofs.YtkfjjmmpbfjhaaaGreatDoorW.PrintWords Go.Proofs.YtkfjjmmpbfjhaaaGreatDoorW.PrintLast Go.Proofs.YtkfjjmmpbfjhaaaGreatDoorW.PrintMore
attribute [local go_sem] max2_int min2_int max_two min_two max_three min_three max_four min_four
set_option linter.unusedVariables false
set_option linter.unusedSimpArgs false
def tabCells : Array Value := #[.string ⟨#[99, 108, 97, 115, 115]⟩, .int .i64 1, .func (.func 49) #[] #[], .func (.func 50) #[] #[], .string ⟨#[109, 101, 116, 104, 111, 100]⟩, .int .i64 2, .func (.func 52) #[] #[], .func (.func 55) #[] #[], .string ⟨#[114, 101, 109, 111, 118, 101]⟩, .int .i64 3, .func (.func 56) #[] #[], .func (.func 57) #[] #[], .string ⟨#[103, 108, 111, 98, 97, 108]⟩, .int .i64 4, .func (.func 58) #[] #[], .func (.func 59) #[] #[], .string ⟨#[115, 112, 97, 119, 110]⟩, .int .i64 5, .func (.func 60) #[] #[], .func (.func 61) #[] #[], .string ⟨#[114, 117, 110]⟩, .int .i64 6, .func (.func 62) #[] #[], .func (.func 64) #[] #[], .string ⟨#[114, 101, 115, 104, 97, 112, 101]⟩, .int .i64 7, .func (.func 65) #[] #[], .func (.func 66) #[] #[], .string ⟨#[99, 111, 108, 108, 101, 99, 116]⟩, .int .i64 8, .func (.func 67) #[] #[], .func (.func 68) #[] #[], .string ⟨#[105, 110, 115, 112, 101, 99, 116]⟩, .int .i64 9, .func (.func 67) #[] #[], .func (.func 68) #[] #[], .string ⟨#[109, 97, 114, 107]⟩, .int .i64 10, .func (.func 69) #[] #[], .func (.func 70) #[] #[], .string ⟨#[115, 97, 118, 101]⟩, .int .i64 11, .func (.func 67) #[] #[], .func (.func 68) #[] #[], .string ⟨#[108, 111, 97, 100]⟩, .int .i64 12, .func (.func 71) #[] #[], .func (.func 72) #[] #[]]
def nameL : List ByteArray := [⟨#[99, 108, 97, 115, 115]⟩, ⟨#[109, 101, 116, 104, 111, 100]⟩, ⟨#[114, 101, 109, 111, 118, 101]⟩, ⟨#[103, 108, 111, 98, 97, 108]⟩, ⟨#[115, 112, 97, 119, 110]⟩, ⟨#[114, 117, 110]⟩, ⟨#[114, 101, 115, 104, 97, 112, 101]⟩, ⟨#[99, 111, 108, 108, 101, 99, 116]⟩, ⟨#[105, 110, 115, 112, 101, 99, 116]⟩, ⟨#[109, 97, 114, 107]⟩, ⟨#[115, 97, 118, 101]⟩, ⟨#[108, 111, 97, 100]⟩]
def nameOf (k : Int) : ByteArray := nameL.getD (k.toNat - 1) ⟨#[]⟩
set_option maxHeartbeats 4000000 in
set_option maxRecDepth 100000 in
theorem shapes_calls (w : World) : Calls Tryz.prog 29 #[] w fun e w' => e = .returned (.slice (some ⟨w.heap.size, 0, none⟩) 12 12) ∧ w' = w.alloc (.cells tabCells 68 (0, 0)) := by
  go_enter Tryz.func29, Tryz.ntmps29
  go_wp2_with fail
  go_ret
  exact ⟨rfl, rfl⟩
/-- what a row's writer does -/
structure Writes (a : S31) (f : FuncId) (fn : Func) : Prop where
  here : Tryz.prog.funcs[f]? = some fn
  name : (fn.name == "runtime.NumGoroutine") = false
  body : fn.body.isSome = true
  does : ∀ A c W, Env W → Kd.C Kd.string W A a.f3.length a.f3 → a.f3.length ≤ c → Calls Tryz.prog f #[actV a A c] W fun e w' => ∃ v, e = .returned v ∧ Kd.R Kd.string 9 w' W.heap.size (fun _ => True) v (behind a) ∧ Below W.heap.size W w'
/-- an act's cells -/
def ActIs (W : World) (cs : Array Value) (b : S31) : Prop := ∃ A c, cs = #[.int .i64 b.f0, .string b.f1, .string b.f2, .slice A b.f3.length c, .string b.f4, .int .i64 b.f5, .int .i64 b.f6] ∧ Kd.C Kd.string W A b.f3.length b.f3 ∧ b.f3.length ≤ c
def cs0 (k : Int) : Array Value := #[.int .i64 k, .string ⟨#[]⟩, .string ⟨#[]⟩, .slice none 0 0, .string ⟨#[]⟩, .int .i64 0, .int .i64 0]
/-- what a row's reader does with the words that its writer wrote -/
structure Back (a : S31) (f : FuncId) (fn : Func) : Prop where
  here : Tryz.prog.funcs[f]? = some fn
  name : (fn.name == "runtime.NumGoroutine") = false
  body : fn.body.isSome = true
  does : ∀ A c W g, Reads W g 31 (cs0 a.f0) A (behind a) → (behind a).length ≤ c → Calls Tryz.prog f #[.pointer (some ⟨g, 0, none⟩), .slice A (behind a).length c] W fun e w' => e = .returned (.int .i64 0) ∧ ∃ cs', Wrote W g (.cells cs' 31 (0, 0)) w' ∧ ActIs w' cs' (only a)
theorem actCells0 (k : Int) : ActCells (cs0 k) := ⟨⟨_, rfl⟩, ⟨_, rfl⟩, ⟨_, rfl⟩, ⟨_, rfl⟩, ⟨_, rfl⟩⟩
theorem writes (i : Nat) (hi : i < 12) (a : S31) (hk : a.f0 = (i : Int) + 1) (ha : Aok a) : ∃ f fn, tabCells[i * 4 + 3]? = some (.func (.func f) #[] #[]) ∧ Writes a f fn := by
  rcases (show i = 0 ∨ i = 1 ∨ i = 2 ∨ i = 3 ∨ i = 4 ∨ i = 5 ∨ i = 6 ∨ i = 7 ∨ i = 8 ∨ i = 9 ∨ i = 10 ∨ i = 11 by omega) with rfl | rfl | rfl | rfl | rfl | rfl | rfl | rfl | rfl | rfl | rfl | rfl
  · refine ⟨50, Tryz.f50, rfl, ⟨Tryz.func50, by kernel_rfl, rfl, fun A c W E hC hc => ?_⟩⟩
    have eb : behind a = [wordB a.f1, wordB a.f2] ++ a.f3.map wordB := by unfold behind; rw [hk]; rfl
    rw [eb]
    exact write50 a.f0 a.f5 a.f6 a.f1 a.f2 a.f4 A a.f3 c ha.name ha.other W hC hc ha.names ha.count E.nib
  · refine ⟨55, Tryz.f55, rfl, ⟨Tryz.func55, by kernel_rfl, rfl, fun A c W E hC hc => ?_⟩⟩
    have eb : behind a = [wordB a.f1, wordB a.f4] := by unfold behind; rw [hk]; rfl
    rw [eb]
    exact write55 a.f0 a.f5 a.f6 a.f1 a.f2 a.f4 A a.f3.length c ha.name ha.text W E.nib
  · refine ⟨57, Tryz.f57, rfl, ⟨Tryz.func57, by kernel_rfl, rfl, fun A c W E hC hc => ?_⟩⟩
    have eb : behind a = [wordB a.f1, wordB a.f2] := by unfold behind; rw [hk]; rfl
    rw [eb]
    exact write57 a.f0 a.f5 a.f6 a.f1 a.f2 a.f4 A a.f3.length c ha.name ha.other W E.nib
  · refine ⟨59, Tryz.f59, rfl, ⟨Tryz.func59, by kernel_rfl, rfl, fun A c W E hC hc => ?_⟩⟩
    have eb : behind a = [wordB a.f1] := by unfold behind; rw [hk]; rfl
    rw [eb]
    exact write59 a.f0 a.f5 a.f6 a.f1 a.f2 a.f4 A a.f3.length c ha.name W E.nib
  · refine ⟨61, Tryz.f61, rfl, ⟨Tryz.func61, by kernel_rfl, rfl, fun A c W E hC hc => ?_⟩⟩
    have eb : behind a = [wordB a.f4] := by unfold behind; rw [hk]; rfl
    rw [eb]
    exact write61 a.f0 a.f5 a.f6 a.f1 a.f2 a.f4 A a.f3.length c ha.text W E.nib
  · refine ⟨64, Tryz.f64, rfl, ⟨Tryz.func64, by kernel_rfl, rfl, fun A c W E hC hc => ?_⟩⟩
    have eb : behind a = [itoaB a.f5, itoaB a.f6] := by unfold behind; rw [hk]; rfl
    rw [eb]
    exact write64 a.f0 a.f5 a.f6 a.f1 a.f2 a.f4 A a.f3.length c ha.number ha.fuel W E.pow
  · refine ⟨66, Tryz.f66, rfl, ⟨Tryz.func66, by kernel_rfl, rfl, fun A c W E hC hc => ?_⟩⟩
    have eb : behind a = [wordB a.f1] ++ a.f3.map wordB := by unfold behind; rw [hk]; rfl
    rw [eb]
    exact write66 a.f0 a.f5 a.f6 a.f1 a.f2 a.f4 A a.f3 c ha.name W hC hc ha.names ha.count E.nib
  · refine ⟨68, Tryz.f68, rfl, ⟨Tryz.func68, by kernel_rfl, rfl, fun A c W E hC hc => ?_⟩⟩
    have eb : behind a = [] := by unfold behind; rw [hk]; rfl
    rw [eb]
    refine (write68 a.f0 a.f5 a.f6 a.f1 a.f2 a.f4 A a.f3.length c W).mono ?_
    rintro e w' ⟨rfl, hb⟩
    exact ⟨_, rfl, Kd.R_nil _ _ _ _ _, hb⟩
  · refine ⟨68, Tryz.f68, rfl, ⟨Tryz.func68, by kernel_rfl, rfl, fun A c W E hC hc => ?_⟩⟩
    have eb : behind a = [] := by unfold behind; rw [hk]; rfl
    rw [eb]
    refine (write68 a.f0 a.f5 a.f6 a.f1 a.f2 a.f4 A a.f3.length c W).mono ?_
    rintro e w' ⟨rfl, hb⟩
    exact ⟨_, rfl, Kd.R_nil _ _ _ _ _, hb⟩
  · refine ⟨70, Tryz.f70, rfl, ⟨Tryz.func70, by kernel_rfl, rfl, fun A c W E hC hc => ?_⟩⟩
    have eb : behind a = [itoaB a.f5] := by unfold behind; rw [hk]; rfl
    rw [eb]
    exact write70 a.f0 a.f5 a.f6 a.f1 a.f2 a.f4 A a.f3.length c ha.number W E.pow
  · refine ⟨68, Tryz.f68, rfl, ⟨Tryz.func68, by kernel_rfl, rfl, fun A c W E hC hc => ?_⟩⟩
    have eb : behind a = [] := by unfold behind; rw [hk]; rfl
    rw [eb]
    refine (write68 a.f0 a.f5 a.f6 a.f1 a.f2 a.f4 A a.f3.length c W).mono ?_
    rintro e w' ⟨rfl, hb⟩
    exact ⟨_, rfl, Kd.R_nil _ _ _ _ _, hb⟩
  · refine ⟨72, Tryz.f72, rfl, ⟨Tryz.func72, by kernel_rfl, rfl, fun A c W E hC hc => ?_⟩⟩
    have eb : behind a = [wordB a.f4] := by unfold behind; rw [hk]; rfl
    rw [eb]
    exact write72 a.f0 a.f5 a.f6 a.f1 a.f2 a.f4 A a.f3.length c ha.text W E.nib
theorem backs (i : Nat) (hi : i < 12) (a : S31) (hk : a.f0 = (i : Int) + 1) (ha : Aok a) : ∃ f fn, tabCells[i * 4 + 2]? = some (.func (.func f) #[] #[]) ∧ Back a f fn := by
  rcases (show i = 0 ∨ i = 1 ∨ i = 2 ∨ i = 3 ∨ i = 4 ∨ i = 5 ∨ i = 6 ∨ i = 7 ∨ i = 8 ∨ i = 9 ∨ i = 10 ∨ i = 11 by omega) with rfl | rfl | rfl | rfl | rfl | rfl | rfl | rfl | rfl | rfl | rfl | rfl
  · refine ⟨49, Tryz.f49, rfl, ⟨Tryz.func49, by kernel_rfl, rfl, fun A c W g hR hc => ?_⟩⟩
    have eb : behind a = [wordB a.f1, wordB a.f2] ++ a.f3.map wordB := by unfold behind; rw [hk]; rfl
    have eo : only a = ⟨1, a.f1, a.f2, a.f3, nil_, 0, 0⟩ := by unfold only; rw [hk]; rfl
    have ok1 : oksP [(true, 1), (true, 2)] [wordB a.f1, wordB a.f2] = true := by simp [oksP, okP, unwS_word]
    have pt : putsP [(true, 1), (true, 2)] [wordB a.f1, wordB a.f2] (cs0 a.f0) = #[.int .i64 a.f0, .string a.f1, .string a.f2, .slice none 0 0, .string ⟨#[]⟩, .int .i64 0, .int .i64 0] := by simp [putsP, putP, cs0, unwT_word]
    have et : (behind a).take 2 = [wordB a.f1, wordB a.f2] := by rw [eb]; rfl
    have ed : (behind a).drop 2 = a.f3.map wordB := by rw [eb]; rfl
    have hbl : (behind a).length ≤ 1073741824 := by rw [eb]; simp; have := ha.count; omega
    have hml : 2 ≤ (behind a).length := by rw [eb]; simp
    refine (read49 W g (cs0 a.f0) A (behind a) c hR (actCells0 _) rfl hc hbl 0 ⟨fun h => (by have h2 : (behind a).length < 2 := h; omega), fun _ h => (by rw [show ([(true, 1), (true, 2)] : List Place).length = 2 from rfl, et, ok1] at h; cases h), fun _ _ h => (by rw [show ([(true, 1), (true, 2)] : List Place).length = 2 from rfl, ed, okL_words] at h; cases h), fun _ _ _ => rfl⟩).mono ?_
    rintro e w' ⟨rfl, cs', v, h1, h2, _⟩
    obtain ⟨_, _, _, h3, h4⟩ := h2 rfl
    rw [show ([(true, 1), (true, 2)] : List Place).length = 2 from rfl, et, pt] at h3
    rw [show ([(true, 1), (true, 2)] : List Place).length = 2 from rfl, ed, unwL_words] at h4
    obtain ⟨A3, c3, rfl, hc3, hC3⟩ := Kd.R_reads h4
    exact ⟨rfl, cs', h1, A3, c3, by rw [h3, eo, hk]; rfl, by rw [eo]; exact hC3, by rw [eo]; exact hc3⟩
  · refine ⟨52, Tryz.f52, rfl, ⟨Tryz.func52, by kernel_rfl, rfl, fun A c W g hR hc => ?_⟩⟩
    have eb : behind a = [wordB a.f1, wordB a.f4] := by unfold behind; rw [hk]; rfl
    have eo : only a = ⟨2, a.f1, nil_, [], a.f4, 0, 0⟩ := by unfold only; rw [hk]; rfl
    have ok1 : oksP [(true, 1), (true, 4)] [wordB a.f1, wordB a.f4] = true := by simp [oksP, okP, unwS_word]
    have pt : putsP [(true, 1), (true, 4)] [wordB a.f1, wordB a.f4] (cs0 a.f0) = #[.int .i64 a.f0, .string a.f1, .string ⟨#[]⟩, .slice none 0 0, .string a.f4, .int .i64 0, .int .i64 0] := by simp [putsP, putP, cs0, unwT_word]
    rw [eb] at hR hc ⊢
    refine (read52 W g (cs0 a.f0) A _ c hR (actCells0 _) hc 0 ⟨fun h => absurd rfl h, fun _ _ => rfl, fun _ h => by rw [ok1] at h; cases h⟩).mono ?_
    rintro e w' ⟨rfl, cs', h1, h2, _⟩
    obtain ⟨_, _, h3⟩ := h2 rfl
    rw [pt] at h3
    exact ⟨rfl, cs', h1, none, 0, by rw [h3, eo, hk]; rfl, by rw [eo]; exact Kd.C_nil _ _, by rw [eo]; exact Nat.le_refl _⟩
  · refine ⟨56, Tryz.f56, rfl, ⟨Tryz.func56, by kernel_rfl, rfl, fun A c W g hR hc => ?_⟩⟩
    have eb : behind a = [wordB a.f1, wordB a.f2] := by unfold behind; rw [hk]; rfl
    have eo : only a = ⟨3, a.f1, a.f2, [], nil_, 0, 0⟩ := by unfold only; rw [hk]; rfl
    have ok1 : oksP [(true, 1), (true, 2)] [wordB a.f1, wordB a.f2] = true := by simp [oksP, okP, unwS_word]
    have pt : putsP [(true, 1), (true, 2)] [wordB a.f1, wordB a.f2] (cs0 a.f0) = #[.int .i64 a.f0, .string a.f1, .string a.f2, .slice none 0 0, .string ⟨#[]⟩, .int .i64 0, .int .i64 0] := by simp [putsP, putP, cs0, unwT_word]
    rw [eb] at hR hc ⊢
    refine (read56 W g (cs0 a.f0) A _ c hR (actCells0 _) hc 0 ⟨fun h => absurd rfl h, fun _ _ => rfl, fun _ h => by rw [ok1] at h; cases h⟩).mono ?_
    rintro e w' ⟨rfl, cs', h1, h2, _⟩
    obtain ⟨_, _, h3⟩ := h2 rfl
    rw [pt] at h3
    exact ⟨rfl, cs', h1, none, 0, by rw [h3, eo, hk]; rfl, by rw [eo]; exact Kd.C_nil _ _, by rw [eo]; exact Nat.le_refl _⟩
  · refine ⟨58, Tryz.f58, rfl, ⟨Tryz.func58, by kernel_rfl, rfl, fun A c W g hR hc => ?_⟩⟩
    have eb : behind a = [wordB a.f1] := by unfold behind; rw [hk]; rfl
    have eo : only a = ⟨4, a.f1, nil_, [], nil_, 0, 0⟩ := by unfold only; rw [hk]; rfl
    have ok1 : oksP [(true, 1)] [wordB a.f1] = true := by simp [oksP, okP, unwS_word]
    have pt : putsP [(true, 1)] [wordB a.f1] (cs0 a.f0) = #[.int .i64 a.f0, .string a.f1, .string ⟨#[]⟩, .slice none 0 0, .string ⟨#[]⟩, .int .i64 0, .int .i64 0] := by simp [putsP, putP, cs0, unwT_word]
    rw [eb] at hR hc ⊢
    refine (read58 W g (cs0 a.f0) A _ c hR (actCells0 _) hc 0 ⟨fun h => absurd rfl h, fun _ _ => rfl, fun _ h => by rw [ok1] at h; cases h⟩).mono ?_
    rintro e w' ⟨rfl, cs', h1, h2, _⟩
    obtain ⟨_, _, h3⟩ := h2 rfl
    rw [pt] at h3
    exact ⟨rfl, cs', h1, none, 0, by rw [h3, eo, hk]; rfl, by rw [eo]; exact Kd.C_nil _ _, by rw [eo]; exact Nat.le_refl _⟩
  · refine ⟨60, Tryz.f60, rfl, ⟨Tryz.func60, by kernel_rfl, rfl, fun A c W g hR hc => ?_⟩⟩
    have eb : behind a = [wordB a.f4] := by unfold behind; rw [hk]; rfl
    have eo : only a = ⟨5, nil_, nil_, [], a.f4, 0, 0⟩ := by unfold only; rw [hk]; rfl
    have ok1 : oksP [(true, 4)] [wordB a.f4] = true := by simp [oksP, okP, unwS_word]
    have pt : putsP [(true, 4)] [wordB a.f4] (cs0 a.f0) = #[.int .i64 a.f0, .string ⟨#[]⟩, .string ⟨#[]⟩, .slice none 0 0, .string a.f4, .int .i64 0, .int .i64 0] := by simp [putsP, putP, cs0, unwT_word]
    rw [eb] at hR hc ⊢
    refine (read60 W g (cs0 a.f0) A _ c hR (actCells0 _) hc 0 ⟨fun h => absurd rfl h, fun _ _ => rfl, fun _ h => by rw [ok1] at h; cases h⟩).mono ?_
    rintro e w' ⟨rfl, cs', h1, h2, _⟩
    obtain ⟨_, _, h3⟩ := h2 rfl
    rw [pt] at h3
    exact ⟨rfl, cs', h1, none, 0, by rw [h3, eo, hk]; rfl, by rw [eo]; exact Kd.C_nil _ _, by rw [eo]; exact Nat.le_refl _⟩
  · refine ⟨62, Tryz.f62, rfl, ⟨Tryz.func62, by kernel_rfl, rfl, fun A c W g hR hc => ?_⟩⟩
    have eb : behind a = [itoaB a.f5, itoaB a.f6] := by unfold behind; rw [hk]; rfl
    have eo : only a = ⟨6, nil_, nil_, [], nil_, a.f5, a.f6⟩ := by unfold only; rw [hk]; rfl
    have ok1 : oksP [(false, 5), (false, 6)] [itoaB a.f5, itoaB a.f6] = true := by simp [oksP, okP, numW_itoa _ ha.number, numW_itoa _ ha.fuel]
    have pt : putsP [(false, 5), (false, 6)] [itoaB a.f5, itoaB a.f6] (cs0 a.f0) = #[.int .i64 a.f0, .string ⟨#[]⟩, .string ⟨#[]⟩, .slice none 0 0, .string ⟨#[]⟩, .int .i64 a.f5, .int .i64 a.f6] := by simp [putsP, putP, cs0, numN_of (numW_itoa _ ha.number), numN_of (numW_itoa _ ha.fuel)]
    rw [eb] at hR hc ⊢
    refine (read62 W g (cs0 a.f0) A _ c hR (actCells0 _) hc 0 ⟨fun h => absurd rfl h, fun _ _ => rfl, fun _ h => by rw [ok1] at h; cases h⟩).mono ?_
    rintro e w' ⟨rfl, cs', h1, h2, _⟩
    obtain ⟨_, _, h3⟩ := h2 rfl
    rw [pt] at h3
    exact ⟨rfl, cs', h1, none, 0, by rw [h3, eo, hk]; rfl, by rw [eo]; exact Kd.C_nil _ _, by rw [eo]; exact Nat.le_refl _⟩
  · refine ⟨65, Tryz.f65, rfl, ⟨Tryz.func65, by kernel_rfl, rfl, fun A c W g hR hc => ?_⟩⟩
    have eb : behind a = [wordB a.f1] ++ a.f3.map wordB := by unfold behind; rw [hk]; rfl
    have eo : only a = ⟨7, a.f1, nil_, a.f3, nil_, 0, 0⟩ := by unfold only; rw [hk]; rfl
    have ok1 : oksP [(true, 1)] [wordB a.f1] = true := by simp [oksP, okP, unwS_word]
    have pt : putsP [(true, 1)] [wordB a.f1] (cs0 a.f0) = #[.int .i64 a.f0, .string a.f1, .string ⟨#[]⟩, .slice none 0 0, .string ⟨#[]⟩, .int .i64 0, .int .i64 0] := by simp [putsP, putP, cs0, unwT_word]
    have et : (behind a).take 1 = [wordB a.f1] := by rw [eb]; rfl
    have ed : (behind a).drop 1 = a.f3.map wordB := by rw [eb]; rfl
    have hbl : (behind a).length ≤ 1073741824 := by rw [eb]; simp; have := ha.count; omega
    have hml : 1 ≤ (behind a).length := by rw [eb]; simp
    refine (read65 W g (cs0 a.f0) A (behind a) c hR (actCells0 _) rfl hc hbl 0 ⟨fun h => (by have h2 : (behind a).length < 1 := h; omega), fun _ h => (by rw [show ([(true, 1)] : List Place).length = 1 from rfl, et, ok1] at h; cases h), fun _ _ h => (by rw [show ([(true, 1)] : List Place).length = 1 from rfl, ed, okL_words] at h; cases h), fun _ _ _ => rfl⟩).mono ?_
    rintro e w' ⟨rfl, cs', v, h1, h2, _⟩
    obtain ⟨_, _, _, h3, h4⟩ := h2 rfl
    rw [show ([(true, 1)] : List Place).length = 1 from rfl, et, pt] at h3
    rw [show ([(true, 1)] : List Place).length = 1 from rfl, ed, unwL_words] at h4
    obtain ⟨A3, c3, rfl, hc3, hC3⟩ := Kd.R_reads h4
    exact ⟨rfl, cs', h1, A3, c3, by rw [h3, eo, hk]; rfl, by rw [eo]; exact hC3, by rw [eo]; exact hc3⟩
  · refine ⟨67, Tryz.f67, rfl, ⟨Tryz.func67, by kernel_rfl, rfl, fun A c W g hR hc => ?_⟩⟩
    have eb : behind a = [] := by unfold behind; rw [hk]; rfl
    have eo : only a = ⟨8, nil_, nil_, [], nil_, 0, 0⟩ := by unfold only; rw [hk]; rfl
    have ok1 : oksP [] [] = true := by simp [oksP, okP]
    have pt : putsP [] [] (cs0 a.f0) = #[.int .i64 a.f0, .string ⟨#[]⟩, .string ⟨#[]⟩, .slice none 0 0, .string ⟨#[]⟩, .int .i64 0, .int .i64 0] := by simp [putsP, putP, cs0]
    rw [eb] at hR hc ⊢
    refine (read67 W g (cs0 a.f0) A _ c hR (actCells0 _) hc 0 ⟨fun h => absurd rfl h, fun _ _ => rfl, fun _ h => by rw [ok1] at h; cases h⟩).mono ?_
    rintro e w' ⟨rfl, cs', h1, h2, _⟩
    obtain ⟨_, _, h3⟩ := h2 rfl
    rw [pt] at h3
    exact ⟨rfl, cs', h1, none, 0, by rw [h3, eo, hk]; rfl, by rw [eo]; exact Kd.C_nil _ _, by rw [eo]; exact Nat.le_refl _⟩
  · refine ⟨67, Tryz.f67, rfl, ⟨Tryz.func67, by kernel_rfl, rfl, fun A c W g hR hc => ?_⟩⟩
    have eb : behind a = [] := by unfold behind; rw [hk]; rfl
    have eo : only a = ⟨9, nil_, nil_, [], nil_, 0, 0⟩ := by unfold only; rw [hk]; rfl
    have ok1 : oksP [] [] = true := by simp [oksP, okP]
    have pt : putsP [] [] (cs0 a.f0) = #[.int .i64 a.f0, .string ⟨#[]⟩, .string ⟨#[]⟩, .slice none 0 0, .string ⟨#[]⟩, .int .i64 0, .int .i64 0] := by simp [putsP, putP, cs0]
    rw [eb] at hR hc ⊢
    refine (read67 W g (cs0 a.f0) A _ c hR (actCells0 _) hc 0 ⟨fun h => absurd rfl h, fun _ _ => rfl, fun _ h => by rw [ok1] at h; cases h⟩).mono ?_
    rintro e w' ⟨rfl, cs', h1, h2, _⟩
    obtain ⟨_, _, h3⟩ := h2 rfl
    rw [pt] at h3
    exact ⟨rfl, cs', h1, none, 0, by rw [h3, eo, hk]; rfl, by rw [eo]; exact Kd.C_nil _ _, by rw [eo]; exact Nat.le_refl _⟩
  · refine ⟨69, Tryz.f69, rfl, ⟨Tryz.func69, by kernel_rfl, rfl, fun A c W g hR hc => ?_⟩⟩
    have eb : behind a = [itoaB a.f5] := by unfold behind; rw [hk]; rfl
    have eo : only a = ⟨10, nil_, nil_, [], nil_, a.f5, 0⟩ := by unfold only; rw [hk]; rfl
    have ok1 : oksP [(false, 5)] [itoaB a.f5] = true := by simp [oksP, okP, numW_itoa _ ha.number]
    have pt : putsP [(false, 5)] [itoaB a.f5] (cs0 a.f0) = #[.int .i64 a.f0, .string ⟨#[]⟩, .string ⟨#[]⟩, .slice none 0 0, .string ⟨#[]⟩, .int .i64 a.f5, .int .i64 0] := by simp [putsP, putP, cs0, numN_of (numW_itoa _ ha.number)]
    rw [eb] at hR hc ⊢
    refine (read69 W g (cs0 a.f0) A _ c hR (actCells0 _) hc 0 ⟨fun h => absurd rfl h, fun _ _ => rfl, fun _ h => by rw [ok1] at h; cases h⟩).mono ?_
    rintro e w' ⟨rfl, cs', h1, h2, _⟩
    obtain ⟨_, _, h3⟩ := h2 rfl
    rw [pt] at h3
    exact ⟨rfl, cs', h1, none, 0, by rw [h3, eo, hk]; rfl, by rw [eo]; exact Kd.C_nil _ _, by rw [eo]; exact Nat.le_refl _⟩
  · refine ⟨67, Tryz.f67, rfl, ⟨Tryz.func67, by kernel_rfl, rfl, fun A c W g hR hc => ?_⟩⟩
    have eb : behind a = [] := by unfold behind; rw [hk]; rfl
    have eo : only a = ⟨11, nil_, nil_, [], nil_, 0, 0⟩ := by unfold only; rw [hk]; rfl
    have ok1 : oksP [] [] = true := by simp [oksP, okP]
    have pt : putsP [] [] (cs0 a.f0) = #[.int .i64 a.f0, .string ⟨#[]⟩, .string ⟨#[]⟩, .slice none 0 0, .string ⟨#[]⟩, .int .i64 0, .int .i64 0] := by simp [putsP, putP, cs0]
    rw [eb] at hR hc ⊢
    refine (read67 W g (cs0 a.f0) A _ c hR (actCells0 _) hc 0 ⟨fun h => absurd rfl h, fun _ _ => rfl, fun _ h => by rw [ok1] at h; cases h⟩).mono ?_
    rintro e w' ⟨rfl, cs', h1, h2, _⟩
    obtain ⟨_, _, h3⟩ := h2 rfl
    rw [pt] at h3
    exact ⟨rfl, cs', h1, none, 0, by rw [h3, eo, hk]; rfl, by rw [eo]; exact Kd.C_nil _ _, by rw [eo]; exact Nat.le_refl _⟩
  · refine ⟨71, Tryz.f71, rfl, ⟨Tryz.func71, by kernel_rfl, rfl, fun A c W g hR hc => ?_⟩⟩
    have eb : behind a = [wordB a.f4] := by unfold behind; rw [hk]; rfl
    have eo : only a = ⟨12, nil_, nil_, [], a.f4, 0, 0⟩ := by unfold only; rw [hk]; rfl
    have ok1 : oksP [(true, 4)] [wordB a.f4] = true := by simp [oksP, okP, unwS_word]
    have pt : putsP [(true, 4)] [wordB a.f4] (cs0 a.f0) = #[.int .i64 a.f0, .string ⟨#[]⟩, .string ⟨#[]⟩, .slice none 0 0, .string a.f4, .int .i64 0, .int .i64 0] := by simp [putsP, putP, cs0, unwT_word]
    rw [eb] at hR hc ⊢
    refine (read71 W g (cs0 a.f0) A _ c hR (actCells0 _) hc 0 ⟨fun h => absurd rfl h, fun _ _ => rfl, fun _ h => by rw [ok1] at h; cases h⟩).mono ?_
    rintro e w' ⟨rfl, cs', h1, h2, _⟩
    obtain ⟨_, _, h3⟩ := h2 rfl
    rw [pt] at h3
    exact ⟨rfl, cs', h1, none, 0, by rw [h3, eo, hk]; rfl, by rw [eo]; exact Kd.C_nil _ _, by rw [eo]; exact Nat.le_refl _⟩
end Go.Proofs.YtkfjjmmpbfjhaaaGreatDoor.Tells
namespace Go.Proofs.YtkfjjmmpbfjhaaaGreatDoor.Tells
open Go.RowKit Go.Proofs.YtkfjjmmpbfjhaaaGreatDoor.PScriptActs Go.Proofs.YtkfjjmmpbfjhaaaGreatDoorW.PrintWords
set_option linter.unusedVariables false
set_option linter.unusedSimpArgs false
/-- a text, cut at a byte -/
def cuts (b : UInt8) : List UInt8 → List UInt8 → List (List UInt8)
  | [], acc => [acc]
  | c :: r, acc => if c = b then acc :: cuts b r [] else cuts b r (acc ++ [c])
theorem cuts_ne (b : UInt8) : ∀ l acc, cuts b l acc ≠ []
  | [], acc => by simp [cuts]
  | c :: r, acc => by
    unfold cuts
    split
    · simp
    · exact cuts_ne b r _
theorem lines_cuts : ∀ l acc, linesOf l acc = if (cuts 10 l acc).getLast (cuts_ne 10 l acc) = [] then (cuts 10 l acc).dropLast else cuts 10 l acc
  | [], acc => by simp [linesOf, cuts]
  | c :: r, acc => by
    by_cases h : c = 10
    · have e1 : linesOf (c :: r) acc = acc :: linesOf r [] := by rw [linesOf, if_pos h]
      have e2 : cuts 10 (c :: r) acc = acc :: cuts 10 r [] := by rw [cuts, if_pos h]
      simp only [e1, e2, lines_cuts r [], List.getLast_cons (cuts_ne 10 r []), List.dropLast_cons_of_ne_nil (cuts_ne 10 r [])]
      split <;> rfl
    · have e1 : linesOf (c :: r) acc = linesOf r (acc ++ [c]) := by rw [linesOf, if_neg h]
      have e2 : cuts 10 (c :: r) acc = cuts 10 r (acc ++ [c]) := by rw [cuts, if_neg h]
      simp only [e1, e2]
      exact lines_cuts r (acc ++ [c])
theorem cuts_idx (c : UInt8) : ∀ l acc, (Lib.indexByte l c = -1 ∧ cuts c l acc = [acc ++ l]) ∨ ∃ i : Nat, i < l.length ∧ Lib.indexByte l c = i ∧ cuts c l acc = (acc ++ l.take i) :: cuts c (l.drop (i + 1)) []
  | [], acc => .inl ⟨rfl, by simp [cuts]⟩
  | b :: r, acc => by
    by_cases h : b = c
    · refine .inr ⟨0, by simp, ?_, ?_⟩
      · rw [Lib.indexByte, if_pos (by rw [h]; simp)]; rfl
      · rw [cuts, if_pos h]; simp
    · have hb : ¬ (b == c) = true := by simpa using h
      rcases cuts_idx c r (acc ++ [b]) with ⟨h1, h2⟩ | ⟨i, h1, h2, h3⟩
      · refine .inl ⟨?_, ?_⟩
        · rw [Lib.indexByte, if_neg hb, if_pos (by rw [h1]; rfl)]
        · rw [cuts, if_neg h, h2]; simp
      · refine .inr ⟨i + 1, by simp; omega, ?_, ?_⟩
        · rw [Lib.indexByte, if_neg hb, if_neg (by rw [h2]; simp), h2]; rfl
        · rw [cuts, if_neg h, h3]; simp
theorem split_cuts (c : UInt8) : ∀ n l, l.length < n → Lib.splitK [c] 0 (Lib.count l [c]) l = cuts c l [] ∧ (cuts c l []).length = Lib.count l [c] + 1 := by
  intro n
  induction n with
  | zero => intro l h; omega
  | succ n ih =>
    intro l hl
    rcases cuts_idx c l [] with ⟨h1, h2⟩ | ⟨i, h1, h2, h3⟩
    · have h1' : Lib.index l [c] = -1 := (Lib.index_one l c).trans h1
      rw [Lib.count_miss h1', h2]
      exact ⟨rfl, rfl⟩
    · have h2' : Lib.index l [c] = i := (Lib.index_one l c).trans h2
      have hc := Lib.count_hit (s := l) (sub := [c]) (by simp) h2'
      have hlen : ([c] : List UInt8).length = 1 := rfl
      rw [hlen] at hc
      obtain ⟨g1, g2⟩ := ih (l.drop (i + 1)) (by rw [List.length_drop]; omega)
      rw [hc, h3, Nat.add_comm 1]
      constructor
      · rw [Lib.splitK, if_neg (by rw [h2']; simp), h2']
        have : ((i : Int)).toNat = i := by omega
        rw [this, hlen, g1]; simp
      · rw [List.length_cons, g2]
theorem splitB_cuts (s : ByteArray) (c : UInt8) : (Lib.splitB ⟨#[c]⟩ 0 (Lib.countB s ⟨#[c]⟩) s).map bl = cuts c (bl s) [] ∧ (cuts c (bl s) []).length = Lib.countB s ⟨#[c]⟩ + 1 := by
  obtain ⟨g1, g2⟩ := split_cuts c (s.data.toList.length + 1) s.data.toList (Nat.lt_succ_self _)
  exact ⟨(Lib.splitB_data ⟨#[c]⟩ 0 _ s).trans g1, g2⟩
/-- an act's kind by its name: 0 is none -/
def kindAt (w : ByteArray) : Nat → Nat → Nat
  | 0, _ => 0
  | n + 1, i => if nameL.getD i ⟨#[]⟩ = w then i + 1 else kindAt w n (i + 1)
def kindR (w : ByteArray) : Nat := kindAt w 12 0
theorem kindAt_le (w : ByteArray) : ∀ n i, kindAt w n i ≤ n + i
  | 0, i => by simp [kindAt]
  | n + 1, i => by
    unfold kindAt
    split
    · omega
    · have := kindAt_le w n (i + 1); omega
theorem kindR_le (w : ByteArray) : kindR w ≤ 12 := kindAt_le w 12 0
/-- the first line's code -/
def roomB : ByteArray := ⟨#[114, 111, 111, 109]⟩
def codeRoom (ws : List ByteArray) : Int :=
  if ws.getD 0 ByteArray.empty = roomB then
    if ws.length = 3 then (if (numW (bl (ws.getD 1 ByteArray.empty))).isSome = true ∧ (numW (bl (ws.getD 2 ByteArray.empty))).isSome = true then 0 else 244)
    else 243
  else 240
end Go.Proofs.YtkfjjmmpbfjhaaaGreatDoor.Tells
namespace Go.Proofs.YtkfjjmmpbfjhaaaGreatDoor.Tells
open Go.RowKit Go.Proofs.YtkfjjmmpbfjhaaaGreatDoor.PScriptActs
set_option linter.unusedVariables false
set_option linter.unusedSimpArgs false
/-- a byte list as a text -/
def mkB (l : List UInt8) : ByteArray := ⟨l.toArray⟩
theorem mk_bl (s : ByteArray) : mkB (bl s) = s := by unfold mkB bl; simp
theorem bl_mk (l : List UInt8) : bl (mkB l) = l := by unfold mkB bl; simp
theorem of_bl {E : List ByteArray} {L : List (List UInt8)} (h : E.map bl = L) : E = L.map mkB := by
  subst h
  rw [List.map_map]
  exact ((List.map_congr_left (g := id) (fun s _ => mk_bl s)).trans (List.map_id _)).symm
/-- a line's words -/
def wordsOf (l : List UInt8) : List ByteArray := (cuts 32 l []).map mkB
theorem wordsOf_pos (l : List UInt8) : 0 < (wordsOf l).length := by
  unfold wordsOf
  rw [List.length_map]
  exact List.length_pos_iff.2 (cuts_ne 32 l [])
theorem cuts_len (b : UInt8) : ∀ l acc, (cuts b l acc).length ≤ l.length + 1 ∧ ∀ x ∈ cuts b l acc, x.length ≤ acc.length + l.length
  | [], acc => ⟨by simp [cuts], fun x hx => by simp [cuts] at hx; subst hx; simp⟩
  | c :: r, acc => by
    unfold cuts
    split
    · obtain ⟨h1, h2⟩ := cuts_len b r []
      refine ⟨by simp; omega, fun x hx => ?_⟩
      rcases List.mem_cons.1 hx with rfl | hx
      · omega
      · have := h2 x hx; simp at this ⊢; omega
    · obtain ⟨h1, h2⟩ := cuts_len b r (acc ++ [c])
      refine ⟨by simp; omega, fun x hx => ?_⟩
      have := h2 x hx; simp at this ⊢; omega
theorem wordsOf_len (l : List UInt8) : (wordsOf l).length ≤ l.length + 1 ∧ ∀ w ∈ wordsOf l, w.size ≤ l.length := by
  unfold wordsOf
  obtain ⟨h1, h2⟩ := cuts_len 32 l []
  refine ⟨by rw [List.length_map]; exact h1, fun w hw => ?_⟩
  obtain ⟨x, hx, rfl⟩ := List.mem_map.1 hw
  have := h2 x hx
  show x.toArray.size ≤ _
  simp at this ⊢; exact this
/-- what was read so far -/
structure StP where
  said : Nat
  p0 : Int
  p1 : Int
  acts : List S31
/-- one line read: its code, and what is known behind it -/
def stepP (l : List UInt8) (s : StP) : Int × StP :=
  if 262144 < l.length then (241, s)
  else if l = [] ∨ l.head? = some 35 then (0, s)
  else if s.said = 20000 then (246, s)
  else if s.said = 0 then (codeRoom (wordsOf l), ⟨1, numN (bl ((wordsOf l).getD 1 ByteArray.empty)), numN (bl ((wordsOf l).getD 2 ByteArray.empty)), s.acts⟩)
  else if kindR ((wordsOf l).getD 0 ByteArray.empty) = 0 then (242, s)
  else (codeR (kindR ((wordsOf l).getD 0 ByteArray.empty)) (wordsOf l).tail, ⟨s.said + 1, s.p0, s.p1, s.acts ++ [actR (kindR ((wordsOf l).getD 0 ByteArray.empty)) (wordsOf l).tail]⟩)
/-- the play (room, acts), the line of the error, its code -/
def goP : List (List UInt8) → Nat → StP → (Int × Int × List S31) × Int × Int
  | [], _, s => if s.said = 0 then ((0, 0, []), 0, 240) else ((s.p0, s.p1, s.acts), 0, 0)
  | l :: ls, i, s => if (stepP l s).1 = 0 then goP ls (i + 1) (stepP l s).2 else ((0, 0, []), (i + 1 : Int), (stepP l s).1)
def parseP (t : List UInt8) : (Int × Int × List S31) × Int × Int := goP (linesOf t []) 0 ⟨0, 0, 0, []⟩
end Go.Proofs.YtkfjjmmpbfjhaaaGreatDoor.Tells
namespace Go.Proofs.YtkfjjmmpbfjhaaaGreatDoor.Tells
open Go.RowKit Go.Proofs.YtkfjjmmpbfjhaaaGreatDoor.Facts Go.Proofs.YtkfjjmmpbfjhaaaGreatDoor.PScriptActs Go.Proofs.YtkfjjmmpbfjhaaaGreatDoorW.PrintWords Go.Proofs.YtkfjjmmpbfjhaaaGreatDoorW.PrintLast Go.Proofs.YtkfjjmmpbfjhaaaGreatDoorW.PrintMore
attribute [local go_sem] max2_int min2_int max_two min_two max_three min_three max_four min_four
set_option linter.unusedVariables false
set_option linter.unusedSimpArgs false
theorem equal_l0 (X Y : List ByteArray) (hl : X.length = Y.length) (hb : X.length ≤ 1073741824) : ∀ (k i : Nat), i ≤ X.length → X.length - i < k → slices_Equal_string_string.l0 k X Y (X.length : Int) (i : Int) = some (decide (X.drop i = Y.drop i))
  | 0, i, hi, hk => by omega
  | k + 1, i, hi, hk => by
    rw [slices_Equal_string_string.l0]
    by_cases h : i < X.length
    · have hx : X.drop i = X[i] :: X.drop (i + 1) := List.drop_eq_getElem_cons h
      have hy : Y.drop i = Y[i]'(by omega) :: Y.drop (i + 1) := List.drop_eq_getElem_cons (by omega)
      have rx : rdOf ByteArray.empty X (i : Int) = X[i] := by unfold rdOf; rw [Int.toNat_natCast, List.getD_eq_getElem?_getD, List.getElem?_eq_getElem h]; rfl
      have ry : rdOf ByteArray.empty Y (i : Int) = Y[i]'(by omega) := by unfold rdOf; rw [Int.toNat_natCast, List.getD_eq_getElem?_getD, List.getElem?_eq_getElem (by omega)]; rfl
      have w4 : wrap64 ((i : Int) + 1) = ((i + 1 : Nat) : Int) := by unfold wrap64; omega
      rw [if_pos (by omega), if_pos (by omega), if_pos (by omega), if_pos (by omega), rx, ry, w4, hx, hy]
      by_cases he : X[i] = Y[i]'(by omega)
      · rw [if_pos (by rw [he]), equal_l0 X Y hl hb k (i + 1) (by omega) (by omega)]
        congr 1
        apply decide_eq_decide.2
        constructor
        · intro h2; rw [he, h2]
        · intro h2; exact (List.cons.inj h2).2
      · rw [if_neg (by rw [ByteArray.toList_eq, ByteArray.toList_eq]; intro h2; exact he (by apply ByteArray.ext; exact Array.toList_inj.1 h2))]
        rw [decide_eq_false (fun h2 => he (List.cons.inj h2).1)]
    · rw [if_neg (by omega), List.drop_of_length_le (by omega), List.drop_of_length_le (by omega)]
      rfl
theorem equal_f (X Y : List ByteArray) (hb : X.length ≤ 1073741824) : slices_Equal_string_string.f (X.length + 1) X Y = some (decide (X = Y)) := by
  unfold slices_Equal_string_string.f
  by_cases h : X.length = Y.length
  · rw [if_pos (by omega)]
    have := equal_l0 X Y h hb (X.length + 1) 0 (Nat.zero_le _) (by omega)
    rw [List.drop_zero, List.drop_zero] at this
    exact this
  · rw [if_neg (by omega), decide_eq_false (fun e => h (by rw [e]))]
theorem ba_toList {s t : ByteArray} : s.toList = t.toList ↔ s = t := by
  rw [ByteArray.toList_eq, ByteArray.toList_eq]
  constructor
  · intro h; apply ByteArray.ext; exact Array.toList_inj.1 h
  · intro h; rw [h]
def sameA (a b : S31) : Bool := decide (a.f0 = b.f0) && (decide (a.f1 = b.f1) && (decide (a.f2 = b.f2) && (decide (a.f4 = b.f4) && (decide (a.f5 = b.f5) && (decide (a.f6 = b.f6) && decide (a.f3 = b.f3))))))
theorem same_f (a b : S31) (hb : a.f3.length ≤ 1073741824) : script_same.f (a.f3.length + 1) a.f0 a.f1 a.f2 a.f3 a.f4 a.f5 a.f6 b.f0 b.f1 b.f2 b.f3 b.f4 b.f5 b.f6 = some (sameA a b) := by
  unfold script_same.f sameA
  by_cases h0 : a.f0 = b.f0
  · rw [if_pos h0, decide_eq_true h0, Bool.true_and]
    by_cases h1 : a.f1 = b.f1
    · rw [if_pos (ba_toList.2 h1), decide_eq_true h1, Bool.true_and]
      by_cases h2 : a.f2 = b.f2
      · rw [if_pos (ba_toList.2 h2), decide_eq_true h2, Bool.true_and]
        by_cases h4 : a.f4 = b.f4
        · rw [if_pos (ba_toList.2 h4), decide_eq_true h4, Bool.true_and]
          by_cases h5 : a.f5 = b.f5
          · rw [if_pos h5, decide_eq_true h5, Bool.true_and]
            by_cases h6 : a.f6 = b.f6
            · rw [if_pos h6, decide_eq_true h6, Bool.true_and, equal_f _ _ hb]; rfl
            · rw [if_neg h6, decide_eq_false h6]; rfl
          · rw [if_neg h5, decide_eq_false h5]; rfl
        · rw [if_neg (fun h => h4 (ba_toList.1 h)), decide_eq_false h4]; rfl
      · rw [if_neg (fun h => h2 (ba_toList.1 h)), decide_eq_false h2]; rfl
    · rw [if_neg (fun h => h1 (ba_toList.1 h)), decide_eq_false h1]; rfl
  · rw [if_neg h0, decide_eq_false h0]; rfl
theorem same_calls (a b : S31) (A B : Option Addr) (c d : Nat) (w : World) (hA : Kd.C Kd.string w A a.f3.length a.f3) (hc : a.f3.length ≤ c) (hB : Kd.C Kd.string w B b.f3.length b.f3) (hd : b.f3.length ≤ d) (hb : a.f3.length ≤ 1073741824) : Calls Tryz.prog 30 #[actV a A c, actV b B d] w fun e w' => e = .returned (.bool (sameA a b)) ∧ Below w.heap.size w w' :=
  script_same.calls (a.f3.length + 1) a.f0 a.f1 a.f2 A c a.f3 a.f4 a.f5 a.f6 b.f0 b.f1 b.f2 B d b.f3 b.f4 b.f5 b.f6 (sameA a b) w hA hc hB hd (same_f a b hb)
/-- an act's line -/
def lineL (a : S31) : List UInt8 := Lib.join ((nameOf a.f0 :: behind a).map (·.data.toList)) [32]
/-- what PrintAct answers -/
def printA (a : S31) : ByteArray × Int :=
  if 1 ≤ a.f0 ∧ a.f0 ≤ 12 then
    if sameA a (only a) = true then (if 262144 < (lineL a).length then (⟨#[]⟩, 241) else (⟨(lineL a).toArray⟩, 0)) else (⟨#[]⟩, 245)
  else (⟨#[]⟩, 242)
theorem join_len2 : ∀ ls : List (List UInt8), (Lib.join ls [32]).length ≤ (ls.map (fun l => l.length + 1)).sum
  | [] => by simp [Lib.join_nil]
  | [a] => by rw [Lib.join_one]; simp
  | a :: b :: r => by
    have := join_len2 (b :: r)
    have e : Lib.join (a :: b :: r) [32] = a ++ 32 :: Lib.join (b :: r) [32] := by
      unfold Lib.join; simp [List.intercalate]
    rw [e, List.map_cons, List.sum_cons, List.length_append, List.length_cons]
    omega
theorem word_len (s : ByteArray) : (wordB s).data.toList.length ≤ 3 * s.size + 1 := by
  have h1 := encw_len s.data.toList
  have h2 : s.data.toList.length = s.size := bl_len s
  have e : (wordB s).data.toList = 61 :: encw s.data.toList := bl_word s
  rw [e, List.length_cons]; omega
theorem words_len : ∀ l : List ByteArray, ((l.map wordB).map (·.data.toList) |>.map (fun x => x.length + 1)).sum ≤ 3 * (l.map (·.size)).sum + 2 * l.length
  | [] => by simp
  | s :: l => by
    have h1 := word_len s
    have h2 := words_len l
    simp only [List.map_cons, List.sum_cons, List.length_cons]
    omega
theorem num_len (n : Int) (h : inI n) : (itoaB n).data.toList.length ≤ 21 := by
  have e : (itoaB n).data.toList = Lib.itoa n := by unfold itoaB; simp
  rw [e]
  exact Lib.itoa_length_le n h.1 h.2
theorem name_len (k : Int) : (nameOf k).data.toList.length ≤ 7 := by
  have key : ∀ j, j < 13 → (nameL.getD j ⟨#[]⟩).data.toList.length ≤ 7 := by decide +kernel
  unfold nameOf
  by_cases h : k.toNat - 1 < 12
  · exact key _ (by omega)
  · have : nameL.getD (k.toNat - 1) ⟨#[]⟩ = ⟨#[]⟩ := by rw [List.getD_eq_getElem?_getD, List.getElem?_eq_none (by show 12 ≤ _; omega)]; rfl
    rw [this]; simp
theorem line_len (a : S31) (ha : Aok a) : (lineL a).length ≤ 16777216 := by
  have h := join_len2 ((nameOf a.f0 :: behind a).map (·.data.toList))
  have hn := name_len a.f0
  have k1 := word_len a.f1
  have k2 := word_len a.f2
  have k4 := word_len a.f4
  have k3 := words_len a.f3
  have k5 := num_len a.f5 ha.number
  have k6 := num_len a.f6 ha.fuel
  have s1 := ha.name; have s2 := ha.other; have s4 := ha.text; have s3 := ha.sum; have sc := ha.count
  refine Nat.le_trans h ?_
  rw [List.map_cons, List.map_cons, List.sum_cons]
  unfold behind
  repeat' split
  all_goals simp only [List.map_cons, List.map_nil, List.sum_cons, List.sum_nil] at k3 ⊢
  all_goals omega
end Go.Proofs.YtkfjjmmpbfjhaaaGreatDoor.Tells
