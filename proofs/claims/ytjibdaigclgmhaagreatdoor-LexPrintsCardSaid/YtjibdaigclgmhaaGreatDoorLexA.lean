/- The program's reading of tokens, walked: each function's answer in plain words. The program's reading of tokens, walked: each function's answer in plain words. The program's reading of tokens, walked: each function's answer in plain words. The program's reading of tokens, walked: each function's answer in plain words. The program's reading of tokens, walked: each function's answer in plain words. The program's reading of tokens, walked: each function's answer in plain words. The program's reading of tokens, walked: each function's answer in plain words. The program's reading of tokens, walked: each function's answer in plain words. The program's reading of tokens, walked: each function's answer in plain words. Conditions: those that each theorem states. -/
import Derived.Test.YtjibdaigclgmhaaGreatDoorLexPure
import Derived.Test.YtjibdaigclgmhaaGreatDoorLexPPA
import Derived.Outline
import Derived.IntWalk
import Derived.WalkSpells
import Derived.LoopTactic
import Derived.Laws.RangeString
import Derived.Laws.RangeAny
import Derived.Lib.OthersKept
import Derived.Deep.QuietTactic
import Derived.BigQuiet
import Derived.Deep.MidRow
import Derived.ArgAppend
import Derived.Lib.AppendStr
import Derived.Maps.OwnSet
import Derived.Maps.OwnOps
import Derived.Maps.Keyed
import Derived.Test.YtjibdaigclgmhaaGreatDoorBuild
namespace Go.Proofs.YtjibdaigclgmhaaGreatDoor.LexW
open Go.RowKit Go.Proofs.YtjibdaigclgmhaaGreatDoor.Lex Go.Proofs.YtjibdaigclgmhaaGreatDoor.PLexPrints Go.Proofs.YtjibdaigclgmhaaGreatDoorW.PrintWords Go.Proofs.YtjibdaigclgmhaaGreatDoorW.PrintLast Go.Proofs.YtjibdaigclgmhaaGreatDoorW.PrintMore
attribute [local go_sem] max2_int min2_int max_two min_two max_three min_three max_four min_four
set_option linter.unusedVariables false
set_option linter.unusedSimpArgs false
abbrev bl (s : ByteArray) : List UInt8 := s.data.toList
theorem bl_len (s : ByteArray) : (bl s).length = s.size := by rw [Array.length_toList]; rfl
theorem bl_get (s : ByteArray) (i : Nat) (h : i < s.size) : (bl s)[i]? = some (s[i]'h) := by
  rw [List.getElem?_eq_getElem (by rw [bl_len]; exact h)]
  rfl
def isLI (a : Int) : Bool := (decide (97 ≤ a) && decide (a ≤ 122)) || (decide (65 ≤ a) && decide (a ≤ 90))
def isDI (a : Int) : Bool := decide (48 ≤ a) && decide (a ≤ 57)
theorem isLI_byte (c : UInt8) : isLI (c.toNat : Int) = isL c := by
  have key : ∀ c : Fin 256, isLI ((c.val : Nat) : Int) = isL (UInt8.ofNat c.val) := by decide +kernel
  have := key ⟨c.toNat, c.toNat_lt⟩
  rw [this]; simp
theorem isDI_byte (c : UInt8) : isDI (c.toNat : Int) = isD c := by
  have key : ∀ c : Fin 256, isDI ((c.val : Nat) : Int) = isD (UInt8.ofNat c.val) := by decide +kernel
  have := key ⟨c.toNat, c.toNat_lt⟩
  rw [this]; simp
theorem isLI_big (a : Int) (h : 128 ≤ a) : isLI a = false := by
  unfold isLI
  rw [decide_eq_false (show ¬ a ≤ 122 by omega), decide_eq_false (show ¬ a ≤ 90 by omega)]; simp
theorem isDI_big (a : Int) (h : 128 ≤ a) : isDI a = false := by
  unfold isDI
  rw [decide_eq_false (show ¬ a ≤ 57 by omega)]; simp
theorem high_not : ∀ c : UInt8, 128 ≤ c.toNat → isL c = false ∧ isD c = false := by
  have key : ∀ c : Fin 256, 128 ≤ c.val → isL (UInt8.ofNat c.val) = false ∧ isD (UInt8.ofNat c.val) = false := by decide +kernel
  intro c h
  have := key ⟨c.toNat, c.toNat_lt⟩ h
  simpa using this
theorem isLetter_calls (a : Int) (w : World) : Calls Tryz.prog 40 #[.int .i32 a] w fun e w' => e = .returned (.bool (isLI a)) ∧ Drawn0 w w' := by
  refine lex_isLetter.calls a _ w ?_
  simp only [lex_isLetter.f, lex_isSmall.f, isLI]
  by_cases h1 : 97 ≤ a <;> by_cases h2 : a ≤ 122 <;> by_cases h3 : 65 ≤ a <;> by_cases h4 : a ≤ 90 <;> simp [h1, h2, h3, h4] <;> omega
theorem isDigit_calls (a : Int) (w : World) : Calls Tryz.prog 41 #[.int .i32 a] w fun e w' => e = .returned (.bool (isDI a)) ∧ Drawn0 w w' := by
  refine lex_isDigit.calls a _ w ?_
  simp only [lex_isDigit.f, isDI]
  by_cases h1 : 48 ≤ a <;> simp [h1]
theorem isSmall_calls (a : Int) (w : World) : Calls Tryz.prog 23 #[.int .i32 a] w fun e w' => e = .returned (.bool (decide (97 ≤ a) && decide (a ≤ 122))) ∧ Drawn0 w w' := by
  refine lex_isSmall.calls a _ w ?_
  simp only [lex_isSmall.f]
  by_cases h1 : 97 ≤ a <;> simp [h1]
/-- the name goes on, or ends here -/
theorem name_step (l : List UInt8) (p : Nat) (c : UInt8) (hp : p ≤ nameLen l) (hc : l[p]? = some c) : ((isL c || (decide (p ≠ 0) && isD c)) = true → p + 1 ≤ nameLen l) ∧ ((isL c || (decide (p ≠ 0) && isD c)) = false → nameLen l = p) := by
  cases l with
  | nil => simp at hc
  | cons d r =>
    rw [nameLen_cons] at hp ⊢
    cases p with
    | zero =>
      simp at hc
      subst hc
      constructor
      · intro h; simp at h; rw [if_pos h]; omega
      · intro h; simp at h; rw [if_neg (by simp [h])]
    | succ p =>
      simp only [List.getElem?_cons_succ] at hc
      split at hp
      · rename_i hd
        rw [if_pos hd]
        have hp : p ≤ (r.takeWhile alnum).length := by omega
        have e : (isL c || (decide (p + 1 ≠ 0) && isD c)) = alnum c := by simp [alnum]
        rw [e]
        clear e hd
        induction r generalizing p with
        | nil => simp at hc
        | cons x r ih =>
          cases hx : alnum x with
          | false =>
            simp only [List.takeWhile_cons, hx] at hp ⊢
            simp at hp
            subst hp
            simp at hc
            subst hc
            simp [hx]
          | true =>
            simp only [List.takeWhile_cons, hx, if_true, List.length_cons] at hp ⊢
            cases p with
            | zero =>
              simp at hc
              subst hc
              simp [hx]
            | succ p =>
              simp only [List.getElem?_cons_succ] at hc
              have := ih p hc (by omega) (by omega)
              constructor
              · intro h; have := this.1 h; omega
              · intro h; have := this.2 h; omega
      · omega
theorem digits_step (l : List UInt8) (p : Nat) (c : UInt8) (hp : p ≤ digitsLen l) (hc : l[p]? = some c) : (isD c = true → p + 1 ≤ digitsLen l) ∧ (isD c = false → digitsLen l = p) := by
  unfold digitsLen at *
  induction l generalizing p with
  | nil => simp at hc
  | cons x r ih =>
    cases hx : isD x with
    | false =>
      simp only [List.takeWhile_cons, hx] at hp ⊢
      simp at hp
      subst hp
      simp at hc
      subst hc
      simp [hx]
    | true =>
      simp only [List.takeWhile_cons, hx, if_true, List.length_cons] at hp ⊢
      cases p with
      | zero =>
        simp at hc
        subst hc
        simp [hx]
      | succ p =>
        simp only [List.getElem?_cons_succ] at hc
        have := ih p (by omega) hc
        constructor
        · intro h; have := this.1 h; omega
        · intro h; have := this.2 h; omega
theorem iterPos_of {w : World} {k : Nat} {s : ByteArray} {p : Nat} (h : w.heap[k]? = some (.stringIter s p)) : w.iterPos k = p := by simp [World.iterPos, h]
/-- what a rune says of the byte at which it begins -/
theorem rune_at (s : ByteArray) (pos : Nat) (hp : pos < s.size) : isLI (Utf8.decode s pos).1 = isL (s[pos]'hp) ∧ isDI (Utf8.decode s pos).1 = isD (s[pos]'hp) ∧ ((isL (s[pos]'hp) = true ∨ isD (s[pos]'hp) = true) → (Utf8.decode s pos).2 = 1) := by
  by_cases ha : (s[pos]'hp).toNat < 128
  · rw [decode_ascii s pos hp ha]
    exact ⟨isLI_byte _, isDI_byte _, fun _ => rfl⟩
  · obtain ⟨h1, _⟩ := decode_high s pos hp (by omega)
    obtain ⟨h3, h4⟩ := high_not (s[pos]'hp) (by omega)
    rw [h3, h4]
    exact ⟨isLI_big _ (by omega), isDI_big _ (by omega), fun h => by simp at h⟩
set_option maxHeartbeats 4000000 in
set_option maxRecDepth 100000 in
theorem nameLen_calls (s : ByteArray) (w : World) : Calls Tryz.prog 24 #[.string s] w fun e w' => e = .returned (.int .i64 (nameLen (bl s) : Int)) ∧ Below w.heap.size w w' := by
  go_enter Tryz.func24, Tryz.ntmps24
  go_wp2
  go_loopw [] (fun wr => ∃ pos : Nat, wr.heap[w.heap.size]? = some (.stringIter s pos) ∧ Below w.heap.size w wr ∧ pos ≤ nameLen (bl s)) (fun wr => s.size - wr.iterPos w.heap.size)
  case atStart => exact ⟨0, World.iter_heap w s 0, (Below.refl _ _).alloc (Nat.le_refl _) _, by omega⟩
  case round =>
    obtain ⟨pos, hit, hbw, hle⟩ := hrel
    have hpos0 := iterPos_of hit
    by_cases hp : pos < s.size
    · have hnx : ∀ ty, (Instr.next (.pointer (some ⟨w.heap.size, 0, none⟩)) true ty).run Tryz.prog wr = _ := fun ty => Lib.run_next_any_at wr w.heap.size s pos ty hit hp
      obtain ⟨hl, hd, hwd⟩ := rune_at s pos hp
      have hst := name_step (bl s) pos (s[pos]'hp) hle (bl_get s pos hp)
      have hit2 := Lib.iterAt_heap wr w.heap.size s pos (pos + (Utf8.decode s pos).2) hit
      have hbw2 := Lib.below_iterAt hbw (k := w.heap.size) (Nat.le_refl _) s (pos + (Utf8.decode s pos).2)
      obtain ⟨W1, hW1⟩ : ∃ W1, W1 = wr.iterAt w.heap.size s (pos + (Utf8.decode s pos).2) := ⟨_, rfl⟩
      rw [← hW1] at hnx hit2 hbw2
      have hpz : ((pos : Int) == 0) = decide (pos = 0) := by
        by_cases h : pos = 0
        · simp [h]
        · have h2 : ((pos : Int) == 0) = false := by simpa using h
          rw [h2]; simp [h]
      obtain ⟨a, hA⟩ : ∃ a, isL (s[pos]'hp) = a := ⟨_, rfl⟩
      obtain ⟨b, hB⟩ : ∃ b, isD (s[pos]'hp) = b := ⟨_, rfl⟩
      obtain ⟨z, hZ⟩ : ∃ z, decide (pos = 0) = z := ⟨_, rfl⟩
      rw [hA] at hl hst hwd
      rw [hB] at hd hst hwd
      have hz2 : decide (pos ≠ 0) = !z := by rw [← hZ]; simp
      rw [hz2] at hst
      rw [hZ] at hpz
      have HST := Aside0.mk hst
      have HWD := Aside0.mk hwd
      have HL := Aside0.mk hl
      have HD := Aside0.mk hd
      have HP := Aside0.mk hpos0
      clear hst hwd hW1 hit hbw hl hd hpos0 hA hB hz2 hZ
      cases a <;> cases b <;> cases z
      all_goals go_wp2_with (first
        | (go_at_call 40; refine (isLetter_calls _ _).mono ?_; rintro e w' ⟨rfl, ⟨nd, rfl⟩⟩; rw [HL.out])
        | (go_at_call 41; refine (isDigit_calls _ _).mono ?_; rintro e w' ⟨rfl, ⟨nd2, rfl⟩⟩; rw [HD.out]))
      all_goals first
        | (go_roundw
           case rel => exact ⟨pos + 1, by have h1 := HWD.out (by simp); rw [h1] at hit2; exact hit2, hbw2.trans ⟨rfl, rfl, rfl, Nat.le_refl _, fun _ _ => rfl⟩, by exact HST.out.1 rfl⟩
           case measure =>
             have h1 := HWD.out (by simp)
             rw [h1] at hit2
             have h2 := iterPos_of hit2
             show s.size - W1.iterPos w.heap.size < _
             rw [h2, HP.out]; omega)
        | (go_ret
           refine ⟨?_, hbw2.trans ⟨rfl, rfl, rfl, Nat.le_refl _, fun _ _ => rfl⟩⟩
           have h1 := HST.out.2 rfl
           rw [h1]; rfl)
    · have hnx : ∀ ty, (Instr.next (.pointer (some ⟨w.heap.size, 0, none⟩)) true ty).run Tryz.prog wr = _ := fun ty => Lib.run_next_end_at wr w.heap.size s pos ty hit hp
      go_wp2
      go_ret
      have h1 := nameLen_le (bl s)
      rw [bl_len] at h1
      have h2 : nameLen (bl s) = s.size := by omega
      exact ⟨by rw [h2]; rfl, hbw⟩
set_option maxHeartbeats 4000000 in
set_option maxRecDepth 100000 in
theorem digitsLen_calls (s : ByteArray) (w : World) : Calls Tryz.prog 64 #[.string s] w fun e w' => e = .returned (.int .i64 (digitsLen (bl s) : Int)) ∧ Below w.heap.size w w' := by
  go_enter Tryz.func64, Tryz.ntmps64
  go_wp2
  go_loopw [] (fun wr => ∃ pos : Nat, wr.heap[w.heap.size]? = some (.stringIter s pos) ∧ Below w.heap.size w wr ∧ pos ≤ digitsLen (bl s)) (fun wr => s.size - wr.iterPos w.heap.size)
  case atStart => exact ⟨0, World.iter_heap w s 0, (Below.refl _ _).alloc (Nat.le_refl _) _, by omega⟩
  case round =>
    obtain ⟨pos, hit, hbw, hle⟩ := hrel
    have hpos0 := iterPos_of hit
    by_cases hp : pos < s.size
    · have hnx : ∀ ty, (Instr.next (.pointer (some ⟨w.heap.size, 0, none⟩)) true ty).run Tryz.prog wr = _ := fun ty => Lib.run_next_any_at wr w.heap.size s pos ty hit hp
      obtain ⟨hl, hd, hwd⟩ := rune_at s pos hp
      have hst := digits_step (bl s) pos (s[pos]'hp) hle (bl_get s pos hp)
      have hit2 := Lib.iterAt_heap wr w.heap.size s pos (pos + (Utf8.decode s pos).2) hit
      have hbw2 := Lib.below_iterAt hbw (k := w.heap.size) (Nat.le_refl _) s (pos + (Utf8.decode s pos).2)
      obtain ⟨W1, hW1⟩ : ∃ W1, W1 = wr.iterAt w.heap.size s (pos + (Utf8.decode s pos).2) := ⟨_, rfl⟩
      rw [← hW1] at hnx hit2 hbw2
      obtain ⟨b, hB⟩ : ∃ b, isD (s[pos]'hp) = b := ⟨_, rfl⟩
      rw [hB] at hd hst hwd
      have HST := Aside0.mk hst
      have HWD := Aside0.mk hwd
      have HD := Aside0.mk hd
      have HP := Aside0.mk hpos0
      clear hst hwd hW1 hit hbw hl hd hpos0 hB
      cases b
      all_goals go_wp2_with (go_at_call 41; refine (isDigit_calls _ _).mono ?_; rintro e w' ⟨rfl, ⟨nd2, rfl⟩⟩; rw [HD.out])
      · go_ret
        refine ⟨?_, hbw2.trans ⟨rfl, rfl, rfl, Nat.le_refl _, fun _ _ => rfl⟩⟩
        have h1 := HST.out.2 (by trivial)
        rw [h1]; rfl
      · go_roundw
        case rel => exact ⟨pos + 1, by have h1 := HWD.out (.inr (by trivial)); rw [h1] at hit2; exact hit2, hbw2.trans ⟨rfl, rfl, rfl, Nat.le_refl _, fun _ _ => rfl⟩, by exact HST.out.1 (by trivial)⟩
        case measure =>
             have h1 := HWD.out (.inr (by trivial))
             rw [h1] at hit2
             have h2 := iterPos_of hit2
             show s.size - W1.iterPos w.heap.size < _
             rw [h2, HP.out]; omega
    · have hnx : ∀ ty, (Instr.next (.pointer (some ⟨w.heap.size, 0, none⟩)) true ty).run Tryz.prog wr = _ := fun ty => Lib.run_next_end_at wr w.heap.size s pos ty hit hp
      go_wp2
      go_ret
      have h1 := takeWhile_len_le isD (bl s)
      rw [bl_len] at h1
      have h2 : digitsLen (bl s) = s.size := by unfold digitsLen at hle ⊢; omega
      exact ⟨by rw [h2]; rfl, hbw⟩
end Go.Proofs.YtjibdaigclgmhaaGreatDoor.LexW
namespace Go.Proofs.YtjibdaigclgmhaaGreatDoor.LexW
open Go.RowKit Go.Maps Go.Proofs.YtjibdaigclgmhaaGreatDoor.Lex Go.Proofs.YtjibdaigclgmhaaGreatDoor.PLexPrints Go.Proofs.YtjibdaigclgmhaaGreatDoorW.PrintWords Go.Proofs.YtjibdaigclgmhaaGreatDoorW.PrintLast Go.Proofs.YtjibdaigclgmhaaGreatDoorW.PrintMore
attribute [local go_sem] max2_int min2_int max_two min_two max_three min_three max_four min_four
set_option linter.unusedVariables false
set_option linter.unusedSimpArgs false
theorem law5 : Keyed Tryz.prog 5 := int_keyed Tryz.underlying5
theorem zero3 (w : World) : (zeroValue 3).run Tryz.prog w = .ok (.int .i64 0) w := by kernel_rfl
def marksD {H : Type} : DataW H := ((((((((((DataW.map []).put (.int .u8 40) (.lit (.int .i64 8))).put (.int .u8 41) (.lit (.int .i64 9))).put (.int .u8 91) (.lit (.int .i64 10))).put (.int .u8 93) (.lit (.int .i64 11))).put (.int .u8 124) (.lit (.int .i64 12))).put (.int .u8 58) (.lit (.int .i64 13))).put (.int .u8 94) (.lit (.int .i64 15))).put (.int .u8 46) (.lit (.int .i64 16))).put (.int .u8 59) (.lit (.int .i64 17)))
set_option maxHeartbeats 4000000 in
set_option maxRecDepth 100000 in
theorem marks_calls {H : Type} (w : World) : Calls Tryz.prog 28 #[] w fun e w' => e = .returned (.map (some w.heap.size)) ∧ w'.ownsMap Tryz.prog 5 (plainElem (H := H) Tryz.prog 3) w.heap.size 9 marksD ∧ Below w.heap.size w w' := by
  have hmm := @run_makeMap Tryz.prog
  have o0 := World.ownsMap_made (H := H) w Tryz.prog 5 (plainElem Tryz.prog 3)
  have n0 : Below w.heap.size w (w.alloc (.map #[] 0)) := (Below.refl _ _).alloc (Nat.le_refl _) _
  obtain ⟨w1, r1, o1, g1⟩ := o0.update law5 Tryz.underlying54 (by unfold maxLen; omega) (key := .int .u8 40) (val := .int .i64 8) (kl := .int .u8 40) (d := .lit (.int .i64 8)) (ps := []) (keyOf_int_mk Tryz.underlying5 rfl) (plainElem_int Tryz.underlying3 rfl)
  have n1 := n0.grown g1 n0.size (fun j hj => by cases hj; exact Nat.le_refl _)
  obtain ⟨w2, r2, o2, g2⟩ := o1.update law5 Tryz.underlying54 (by unfold maxLen; omega) (key := .int .u8 41) (val := .int .i64 9) (kl := .int .u8 41) (d := .lit (.int .i64 9)) (ps := []) (keyOf_int_mk Tryz.underlying5 rfl) (plainElem_int Tryz.underlying3 rfl)
  have n2 := n1.grown g2 n1.size (fun j hj => by cases hj; exact Nat.le_refl _)
  obtain ⟨w3, r3, o3, g3⟩ := o2.update law5 Tryz.underlying54 (by unfold maxLen; omega) (key := .int .u8 91) (val := .int .i64 10) (kl := .int .u8 91) (d := .lit (.int .i64 10)) (ps := []) (keyOf_int_mk Tryz.underlying5 rfl) (plainElem_int Tryz.underlying3 rfl)
  have n3 := n2.grown g3 n2.size (fun j hj => by cases hj; exact Nat.le_refl _)
  obtain ⟨w4, r4, o4, g4⟩ := o3.update law5 Tryz.underlying54 (by unfold maxLen; omega) (key := .int .u8 93) (val := .int .i64 11) (kl := .int .u8 93) (d := .lit (.int .i64 11)) (ps := []) (keyOf_int_mk Tryz.underlying5 rfl) (plainElem_int Tryz.underlying3 rfl)
  have n4 := n3.grown g4 n3.size (fun j hj => by cases hj; exact Nat.le_refl _)
  obtain ⟨w5, r5, o5, g5⟩ := o4.update law5 Tryz.underlying54 (by unfold maxLen; omega) (key := .int .u8 124) (val := .int .i64 12) (kl := .int .u8 124) (d := .lit (.int .i64 12)) (ps := []) (keyOf_int_mk Tryz.underlying5 rfl) (plainElem_int Tryz.underlying3 rfl)
  have n5 := n4.grown g5 n4.size (fun j hj => by cases hj; exact Nat.le_refl _)
  obtain ⟨w6, r6, o6, g6⟩ := o5.update law5 Tryz.underlying54 (by unfold maxLen; omega) (key := .int .u8 58) (val := .int .i64 13) (kl := .int .u8 58) (d := .lit (.int .i64 13)) (ps := []) (keyOf_int_mk Tryz.underlying5 rfl) (plainElem_int Tryz.underlying3 rfl)
  have n6 := n5.grown g6 n5.size (fun j hj => by cases hj; exact Nat.le_refl _)
  obtain ⟨w7, r7, o7, g7⟩ := o6.update law5 Tryz.underlying54 (by unfold maxLen; omega) (key := .int .u8 94) (val := .int .i64 15) (kl := .int .u8 94) (d := .lit (.int .i64 15)) (ps := []) (keyOf_int_mk Tryz.underlying5 rfl) (plainElem_int Tryz.underlying3 rfl)
  have n7 := n6.grown g7 n6.size (fun j hj => by cases hj; exact Nat.le_refl _)
  obtain ⟨w8, r8, o8, g8⟩ := o7.update law5 Tryz.underlying54 (by unfold maxLen; omega) (key := .int .u8 46) (val := .int .i64 16) (kl := .int .u8 46) (d := .lit (.int .i64 16)) (ps := []) (keyOf_int_mk Tryz.underlying5 rfl) (plainElem_int Tryz.underlying3 rfl)
  have n8 := n7.grown g8 n7.size (fun j hj => by cases hj; exact Nat.le_refl _)
  obtain ⟨w9, r9, o9, g9⟩ := o8.update law5 Tryz.underlying54 (by unfold maxLen; omega) (key := .int .u8 59) (val := .int .i64 17) (kl := .int .u8 59) (d := .lit (.int .i64 17)) (ps := []) (keyOf_int_mk Tryz.underlying5 rfl) (plainElem_int Tryz.underlying3 rfl)
  have n9 := n8.grown g9 n8.size (fun j hj => by cases hj; exact Nat.le_refl _)
  have HO := Aside0.mk o9
  have HN := Aside0.mk n9
  clear g1 g2 g3 g4 g5 g6 g7 g8 g9 o9 n9 o8 n8 o7 n7 o6 n6 o5 n5 o4 n4 o3 n3 o2 n2 o1 n1 o0 n0
  go_enter Tryz.func28, Tryz.ntmps28
  go_wp2
  go_ret
  exact ⟨rfl, HO.out, HN.out⟩
theorem at_put {H : Type} (D : DataW H) (hD : IsMap D) (k v c : Int) (z : DataW H) (hk : WideAt.IsKeyLit (.int .u8 k)) : (D.put (.int .u8 k) (.lit (.int .i64 v))).atKey (.int .u8 c) z = if c = k then .lit (.int .i64 v) else D.atKey (.int .u8 c) z := by
  split
  · rename_i h; rw [h]; exact atKey_put_same hD hk _ _
  · rename_i h; exact atKey_put_other (by intro e; injection e with _ e; exact h e) _ _
theorem has_put {H : Type} (D : DataW H) (hD : IsMap D) (k v c : Int) (hk : WideAt.IsKeyLit (.int .u8 k)) : Maps.has (D.put (.int .u8 k) (.lit (.int .i64 v))) (.int .u8 c) = (decide (c = k) || Maps.has D (.int .u8 c)) := by
  by_cases h : c = k
  · rw [h, has_put_same hD hk]; simp
  · rw [has_put_other (by intro e; injection e with _ e; exact h e)]; simp [h]
theorem isMap_p {H : Type} {D : DataW H} (hD : IsMap D) (k : Lit) (d : DataW H) : IsMap (D.put k d) := by
  obtain ⟨es, rfl⟩ := hD
  exact ⟨_, rfl⟩
theorem key_lit (k : Int) : WideAt.IsKeyLit (.int .u8 k) := trivial
def marksL : List (Int × Int) := [(40, 8), (41, 9), (91, 10), (93, 11), (124, 12), (58, 13), (94, 15), (46, 16), (59, 17)]
def putAll {H : Type} : List (Int × Int) → DataW H → DataW H
  | [], D => D
  | p :: r, D => putAll r (D.put (.int .u8 p.1) (.lit (.int .i64 p.2)))
def lookI : List (Int × Int) → Int → Int → Int
  | [], _, z => z
  | p :: r, c, z => lookI r c (if c = p.1 then p.2 else z)
theorem put_all {H : Type} (c : Int) : ∀ (l : List (Int × Int)) (D : DataW H) (z : Int), IsMap D → D.atKey (.int .u8 c) (.lit (.int .i64 0)) = .lit (.int .i64 z) → Maps.has D (.int .u8 c) = (z != 0) → (∀ p ∈ l, p.2 ≠ 0) → (putAll l D).atKey (.int .u8 c) (.lit (.int .i64 0)) = .lit (.int .i64 (lookI l c z)) ∧ Maps.has (putAll l D) (.int .u8 c) = (lookI l c z != 0)
  | [], D, z, hD, h1, h2, _ => ⟨h1, h2⟩
  | p :: r, D, z, hD, h1, h2, h3 => by
    have hp := h3 p (by simp)
    refine put_all c r (D.put (.int .u8 p.1) (.lit (.int .i64 p.2))) (if c = p.1 then p.2 else z) (isMap_p hD _ _) ?_ ?_ (fun q hq => h3 q (by simp [hq]))
    · rw [at_put D hD p.1 p.2 c _ (key_lit _), h1]
      split <;> rfl
    · rw [has_put D hD p.1 p.2 c (key_lit _), h2]
      by_cases hc : c = p.1
      · simp [hc, hp]
      · simp [hc]
def markI (c : Int) : Int := lookI marksL c 0
theorem marks_all {H : Type} (c : Int) : (marksD (H := H)).atKey (.int .u8 c) (.lit (.int .i64 0)) = .lit (.int .i64 (markI c)) ∧ Maps.has (marksD (H := H)) (.int .u8 c) = (markI c != 0) :=
  put_all c marksL (DataW.map []) 0 ⟨[], rfl⟩ rfl rfl (by decide)
theorem markI_byte (c : UInt8) : markI (c.toNat : Int) = markKind c := by
  have key : ∀ c : Fin 256, markI ((c.val : Nat) : Int) = markKind (UInt8.ofNat c.val) := by decide +kernel
  have := key ⟨c.toNat, c.toNat_lt⟩
  rw [this]; simp
theorem wf_u8 (c : UInt8) : (Lit.int .u8 (c.toNat : Int)).wf = true := by
  have key : ∀ c : Fin 256, (Lit.int .u8 ((c.val : Nat) : Int)).wf = true := by decide +kernel
  exact key ⟨c.toNat, c.toNat_lt⟩
def cls (c : UInt8) : Int := if isL c then 1 else if isD c then 2 else if c = 35 then 3 else if c = 39 then 5 else if isG c then 4 else if markKind c = 0 then 0 else 6
theorem sign_byte (c : UInt8) : decide ((0 : Int) ≤ Lib.indexByte signL c) = isG c := by
  have key : ∀ c : Fin 256, decide ((0 : Int) ≤ Lib.indexByte signL (UInt8.ofNat c.val)) = isG (UInt8.ofNat c.val) := by decide +kernel
  have := key ⟨c.toNat, c.toNat_lt⟩
  simpa using this
set_option maxHeartbeats 4000000 in
set_option maxRecDepth 100000 in
theorem classOf_calls (c : UInt8) (w : World) : Calls Tryz.prog 31 #[.int .u8 (c.toNat : Int)] w fun e w' => e = .returned (.int .i64 (cls c)) ∧ Below w.heap.size w w' := by
  go_enter Tryz.func31, Tryz.ntmps31
  have hmod : c.toNat < 256 := c.toNat_lt
  have hw32 : wrap32 (c.toNat : Int) = c.toNat := by unfold wrap32; omega
  have hL := isLI_byte c
  have hD := isDI_byte c
  have hS := sign_byte c
  have hc : ((c.toNat : Nat) : Int).toNat.toUInt8 = c := by rw [Int.toNat_natCast]; simp
  have HC := Aside0.mk hc
  have h35 : ((c.toNat : Int) == 35) = decide (c = 35) := by
    by_cases h : c = 35
    · subst h; rfl
    · have h2 : c.toNat ≠ 35 := fun e => h (UInt8.toNat_inj.1 e)
      have h3 : ((c.toNat : Int) == 35) = false := by simp; omega
      rw [h3]; simp [h]
  have h39 : ((c.toNat : Int) == 39) = decide (c = 39) := by
    by_cases h : c = 39
    · subst h; rfl
    · have h2 : c.toNat ≠ 39 := fun e => h (UInt8.toNat_inj.1 e)
      have h3 : ((c.toNat : Int) == 39) = false := by simp; omega
      rw [h3]; simp [h]
  obtain ⟨a1, e1⟩ : ∃ a, isL c = a := ⟨_, rfl⟩
  obtain ⟨a2, e2⟩ : ∃ a, isD c = a := ⟨_, rfl⟩
  obtain ⟨a3, e3⟩ : ∃ a, decide (c = 35) = a := ⟨_, rfl⟩
  obtain ⟨a4, e4⟩ : ∃ a, decide (c = 39) = a := ⟨_, rfl⟩
  obtain ⟨a5, e5⟩ : ∃ a, isG c = a := ⟨_, rfl⟩
  have hM : markI (c.toNat : Int) = markKind c := markI_byte c
  obtain ⟨a6, e6⟩ : ∃ a, (markKind c != 0) = a := ⟨_, rfl⟩
  have hcls : cls c = if a1 then 1 else if a2 then 2 else if a3 then 3 else if a4 then 5 else if a5 then 4 else if a6 then 6 else 0 := by
    rw [← e1, ← e2, ← e3, ← e4, ← e5, ← e6]
    unfold cls
    by_cases g1 : isL c = true
    · simp [g1]
    · by_cases g2 : isD c = true
      · simp [g1, g2]
      · by_cases g3 : c = 35
        · simp [g3]
        · by_cases g4 : c = 39
          · simp [g4]
          · by_cases g5 : isG c = true
            · simp [g1, g2, g3, g4, g5]
            · by_cases g6 : markKind c = 0 <;> simp [g1, g2, g3, g4, g5, g6]
  rw [e1] at hL
  rw [e2] at hD
  rw [e3] at h35
  rw [e4] at h39
  rw [e5] at hS
  have HL := Aside0.mk hL
  have HD := Aside0.mk hD
  have hS2 : decide ((0 : Int) ≤ Lib.indexByte [43, 45, 42, 47, 92, 60, 62, 61, 126, 44, 37, 38, 63, 64] c) = a5 := hS
  have HCL := Aside0.mk hcls
  have HM := Aside0.mk ((marks_all (H := Unit) (c.toNat : Int)).2.trans (by rw [hM, e6]))
  have HKY := Aside0.mk (keyOf_int_mk Tryz.underlying5 (a := (c.toNat : Int)) (wf_u8 c))
  clear hL hD hS hc e1 e2 e3 e4 e5 e6 hM hcls
  rcases a1 with _ | _
  · rcases a2 with _ | _
    · rcases a3 with _ | _
      · rcases a4 with _ | _
        · rcases a5 with _ | _
          · rcases a6 with _ | _
            all_goals
              go_wp2_with (first
                | (go_at_call 40; refine (isLetter_calls _ _).mono ?_; rintro e w' ⟨rfl, ⟨nd, rfl⟩⟩; rw [HL.out])
                | (go_at_call 41; refine (isDigit_calls _ _).mono ?_; rintro e w' ⟨rfl, ⟨nd2, rfl⟩⟩; rw [HD.out])
                | (go_at_call 45; refine (Tryz.strings_IndexByte _ _ _).mono ?_; rintro e w' ⟨rfl, rfl⟩; rw [HC.out])
                | (go_at_call 28; refine (marks_calls (H := Unit) _).mono ?_; rintro e w1 ⟨rfl, hown, hb⟩; have HB := Aside0.mk hb; clear hb)
                | (at_lookup; refine wpList_lookup_own_ok_int _ rfl _ _ 54 rfl 5 3 .i64 law5 Tryz.underlying54 Tryz.underlying3 (zero3 _) _ 9 _ rfl hown _ _ rfl (by exact HKY.out) ?_; intro c2 hat hwc; rw [HM.out]))
              go_ret
              exact ⟨by rw [HCL.out]; rfl, Below.trans (⟨rfl, rfl, rfl, Nat.le_refl _, fun _ _ => rfl⟩ : Below w.heap.size w (w.drewN _)) HB.out⟩
          · go_wp2_with (first
                | (go_at_call 40; refine (isLetter_calls _ _).mono ?_; rintro e w' ⟨rfl, ⟨nd, rfl⟩⟩; rw [HL.out])
                | (go_at_call 41; refine (isDigit_calls _ _).mono ?_; rintro e w' ⟨rfl, ⟨nd2, rfl⟩⟩; rw [HD.out])
                | (go_at_call 45; refine (Tryz.strings_IndexByte _ _ _).mono ?_; rintro e w' ⟨rfl, rfl⟩; rw [HC.out]))
            go_ret
            exact ⟨by rw [HCL.out]; rfl, ⟨rfl, rfl, rfl, Nat.le_refl _, fun _ _ => rfl⟩⟩
        · go_wp2_with (first
                | (go_at_call 40; refine (isLetter_calls _ _).mono ?_; rintro e w' ⟨rfl, ⟨nd, rfl⟩⟩; rw [HL.out])
                | (go_at_call 41; refine (isDigit_calls _ _).mono ?_; rintro e w' ⟨rfl, ⟨nd2, rfl⟩⟩; rw [HD.out]))
          go_ret
          exact ⟨by rw [HCL.out]; rfl, ⟨rfl, rfl, rfl, Nat.le_refl _, fun _ _ => rfl⟩⟩
      · go_wp2_with (first
                | (go_at_call 40; refine (isLetter_calls _ _).mono ?_; rintro e w' ⟨rfl, ⟨nd, rfl⟩⟩; rw [HL.out])
                | (go_at_call 41; refine (isDigit_calls _ _).mono ?_; rintro e w' ⟨rfl, ⟨nd2, rfl⟩⟩; rw [HD.out]))
        go_ret
        exact ⟨by rw [HCL.out]; rfl, ⟨rfl, rfl, rfl, Nat.le_refl _, fun _ _ => rfl⟩⟩
    · go_wp2_with (first
                | (go_at_call 40; refine (isLetter_calls _ _).mono ?_; rintro e w' ⟨rfl, ⟨nd, rfl⟩⟩; rw [HL.out])
                | (go_at_call 41; refine (isDigit_calls _ _).mono ?_; rintro e w' ⟨rfl, ⟨nd2, rfl⟩⟩; rw [HD.out]))
      go_ret
      exact ⟨by rw [HCL.out]; rfl, ⟨rfl, rfl, rfl, Nat.le_refl _, fun _ _ => rfl⟩⟩
  · go_wp2_with (first
                | (go_at_call 40; refine (isLetter_calls _ _).mono ?_; rintro e w' ⟨rfl, ⟨nd, rfl⟩⟩; rw [HL.out]))
    go_ret
    exact ⟨by rw [HCL.out]; rfl, ⟨rfl, rfl, rfl, Nat.le_refl _, fun _ _ => rfl⟩⟩
end Go.Proofs.YtjibdaigclgmhaaGreatDoor.LexW
namespace Go.Proofs.YtjibdaigclgmhaaGreatDoor.LexW
open Go.RowKit Go.Maps Go.Proofs.YtjibdaigclgmhaaGreatDoor.Lex Go.Proofs.YtjibdaigclgmhaaGreatDoor.PLexPrints Go.Proofs.YtjibdaigclgmhaaGreatDoorW.PrintWords Go.Proofs.YtjibdaigclgmhaaGreatDoorW.PrintLast Go.Proofs.YtjibdaigclgmhaaGreatDoorW.PrintMore
attribute [local go_sem] max2_int min2_int max_two min_two max_three min_three max_four min_four
set_option linter.unusedVariables false
set_option linter.unusedSimpArgs false
theorem cls_sign (c : UInt8) : (cls c != 4) = !isG c := by
  have key : ∀ c : Fin 256, (cls (UInt8.ofNat c.val) != 4) = !isG (UInt8.ofNat c.val) := by decide +kernel
  have := key ⟨c.toNat, c.toNat_lt⟩
  simpa using this
theorem byte_eq (c : UInt8) (k : Nat) (hk : k < 256) : ((c.toNat : Int) == (k : Int)) = (c == UInt8.ofNat k) := by
  by_cases h : c = UInt8.ofNat k
  · subst h
    have : (UInt8.ofNat k).toNat = k := by simp [UInt8.toNat_ofNat']; omega
    rw [this]; simp
  · have h2 : c.toNat ≠ k := fun e => h (by rw [← e]; simp)
    have h3 : ((c.toNat : Int) == (k : Int)) = false := by simp; omega
    rw [h3]; simp [h]
theorem isEmpty_bl (s : ByteArray) : s.toList.isEmpty = (bl s).isEmpty := by rw [ByteArray.toList_eq]
theorem bl_cons (s : ByteArray) (h : 0 < s.size) : bl s = s[0]'h :: (bl s).drop 1 := by
  have h1 : 0 < (bl s).length := by rw [bl_len]; exact h
  have := List.drop_eq_getElem_cons h1
  rw [List.drop_zero] at this
  exact this
theorem bl_cons2 (s : ByteArray) (h : 1 < s.size) : bl s = s[0]'(by omega) :: s[1]'h :: (bl s).drop 2 := by
  have h1 : 1 < (bl s).length := by rw [bl_len]; exact h
  rw [bl_cons s (by omega), List.drop_eq_getElem_cons h1]
  rfl
set_option maxHeartbeats 4000000 in
set_option maxRecDepth 100000 in
theorem signsLen_calls (s : ByteArray) (w : World) : Calls Tryz.prog 21 #[.string s] w fun e w' => e = .returned (.int .i64 (signsLen (bl s) : Int)) ∧ Below w.heap.size w w' := by
  by_cases h0 : 0 < s.size
  · have hne : s.toList.isEmpty = false := by rw [isEmpty_bl, bl_cons s h0]; rfl
    have hc0 := cls_sign (s[0]'h0)
    obtain ⟨g0, e0⟩ : ∃ g, isG (s[0]'h0) = g := ⟨_, rfl⟩
    rw [e0] at hc0
    by_cases h1 : 1 < s.size
    · have hsz : ((s.size : Int) == 1) = false := by simp; omega
      have hc1 := cls_sign (s[1]'h1)
      obtain ⟨g1, e1⟩ : ∃ g, isG (s[1]'h1) = g := ⟨_, rfl⟩
      rw [e1] at hc1
      have hm0 := byte_eq (s[0]'h0) 45 (by omega)
      have hm1 := byte_eq (s[1]'h1) 45 (by omega)
      obtain ⟨m0, f0⟩ : ∃ g, (s[0]'h0 == (45 : UInt8)) = g := ⟨_, rfl⟩
      obtain ⟨m1, f1⟩ : ∃ g, (s[1]'h1 == (45 : UInt8)) = g := ⟨_, rfl⟩
      have hres : signsLen (bl s) = if g0 then (if g1 && !m0 && !m1 then 2 else 1) else 0 := by
        rw [bl_cons2 s h1]
        simp only [signsLen, e0, e1, bne, f0, f1]
      have hm0 : (((s[0]'h0).toNat : Int) == 45) = m0 := hm0.trans f0
      have hm1 : (((s[1]'h1).toNat : Int) == 45) = m1 := hm1.trans f1
      have HR := Aside0.mk hres
      have HC0 := Aside0.mk hc0
      have HC1 := Aside0.mk hc1
      clear hres e0 e1 f0 f1 hc0 hc1
      cases g0 <;> cases g1 <;> cases m0 <;> cases m1
      all_goals
        have hc0 := HC0.out
        have hc1 := HC1.out
        simp only [Bool.not_true, Bool.not_false] at hc0 hc1
        have HW := Aside0.mk (Below.refl w.heap.size w)
        go_enter Tryz.func21, Tryz.ntmps21
        go_wp2_with (go_at_call 31; refine (classOf_calls _ _).mono ?_; rintro e w1 ⟨rfl, hb⟩; replace HW := Aside0.mk (below_then HW.out HW.out.size hb); clear hb)
        go_ret
        exact ⟨by rw [HR.out]; rfl, HW.out⟩
    · have hsz : ((s.size : Int) == 1) = true := by simp; omega
      have hres : signsLen (bl s) = if g0 then 1 else 0 := by
        have h2 : (bl s).drop 1 = [] := List.drop_eq_nil_of_le (by rw [bl_len]; omega)
        rw [bl_cons s h0, h2]
        simp only [signsLen, e0]
      have HR := Aside0.mk hres
      have HC0 := Aside0.mk hc0
      clear hres e0 hc0
      cases g0
      all_goals
        have hc0 := HC0.out
        simp only [Bool.not_true, Bool.not_false] at hc0
        have HW := Aside0.mk (Below.refl w.heap.size w)
        go_enter Tryz.func21, Tryz.ntmps21
        go_wp2_with (go_at_call 31; refine (classOf_calls _ _).mono ?_; rintro e w1 ⟨rfl, hb⟩; replace HW := Aside0.mk (below_then HW.out HW.out.size hb); clear hb)
        go_ret
        exact ⟨by rw [HR.out]; rfl, HW.out⟩
  · have hne : s.toList.isEmpty = true := by
      rw [isEmpty_bl, List.isEmpty_iff]; exact List.eq_nil_of_length_eq_zero (by rw [bl_len]; omega)
    have hres : signsLen (bl s) = 0 := by
      have h2 : bl s = [] := List.eq_nil_of_length_eq_zero (by rw [bl_len]; omega)
      rw [h2]; rfl
    have HR := Aside0.mk hres
    clear hres
    have HW := Aside0.mk (Below.refl w.heap.size w)
    go_enter Tryz.func21, Tryz.ntmps21
    go_wp2_with (go_at_call 31; refine (classOf_calls _ _).mono ?_; rintro e w1 ⟨rfl, hb⟩; replace HW := Aside0.mk (below_then HW.out HW.out.size hb); clear hb)
    go_ret
    exact ⟨by rw [HR.out]; rfl, HW.out⟩
theorem hasP1 (l : List UInt8) (c : UInt8) : Lib.hasPrefix l [c] = (l[0]? == some c) := by
  cases l with
  | nil => rfl
  | cons d l => simp [Lib.hasPrefix, List.isPrefixOf]; exact Bool.beq_comm
theorem hasP2 (l : List UInt8) (c d : UInt8) : Lib.hasPrefix l [c, d] = (l[0]? == some c && l[1]? == some d) := by
  match l with
  | [] => rfl
  | [a] => simp [Lib.hasPrefix, List.isPrefixOf]
  | a :: b :: l =>
    simp only [Lib.hasPrefix, List.isPrefixOf, List.getElem?_cons_zero, List.getElem?_cons_succ, Bool.and_true]
    congr 1
    · exact Bool.beq_comm
    · exact Bool.beq_comm
theorem colon_pre (l : List UInt8) : colon l = (Lib.hasPrefix l [58] && !Lib.hasPrefix l [58, 61]) := by
  rw [hasP1, hasP2, colon]
  cases (l[0]? == some 58) <;> cases h : (l[1]? == some 61) <;> simp [bne, h]
set_option maxHeartbeats 4000000 in
set_option maxRecDepth 100000 in
theorem colon_calls (s : ByteArray) (w : World) : Calls Tryz.prog 63 #[.string s] w fun e w' => e = .returned (.bool (colon (bl s))) ∧ Below w.heap.size w w' := by
  have hc := colon_pre (bl s)
  obtain ⟨p, hp⟩ : ∃ p, Lib.hasPrefix (bl s) [58] = p := ⟨_, rfl⟩
  obtain ⟨q, hq⟩ : ∃ p, Lib.hasPrefix (bl s) [58, 61] = p := ⟨_, rfl⟩
  rw [hp, hq] at hc
  have HP := Aside0.mk hp
  have HQ := Aside0.mk hq
  have HC := Aside0.mk hc
  clear hp hq hc
  cases p <;> cases q
  all_goals
    go_enter Tryz.func63, Tryz.ntmps63
    go_wp2_with (go_at_call 25; refine (Tryz.strings_HasPrefix _ _ _).mono ?_; rintro e w' ⟨rfl, rfl⟩; first | rw [show Lib.hasPrefix s.data.toList _ = _ from HP.out] | rw [show Lib.hasPrefix s.data.toList _ = _ from HQ.out])
    go_ret
    exact ⟨by rw [HC.out]; rfl, ⟨rfl, rfl, rfl, Nat.le_refl _, fun _ _ => rfl⟩⟩
theorem bl_extract (s : ByteArray) (a b : Nat) : bl (s.extract a b) = ((bl s).drop a).take (b - a) := by
  show (s.extract a b).data.toList = _
  rw [ByteArray.data_extract, Array.toList_extract, List.extract_eq_take_drop]
theorem ext_eq (s : ByteArray) (a b : Nat) : s.extract a b = ⟨(((bl s).drop a).take (b - a)).toArray⟩ := by
  rw [← bl_extract]
def tokV (t : Tok) (p : Int) : Value := .agg #[.int .i64 t.kind, .string ⟨t.text.toArray⟩, .int .i64 t.num, .int .i64 p]
/-- what a reader answers -/
def Ans (o : Option (Tok × Nat)) (e : Ending) : Prop :=
  match o with
  | some (t, n) => e = .returned (.tuple #[tokV t 0, .int .i64 (n : Int), .bool true])
  | none => ∃ t n, e = .returned (.tuple #[tokV t 0, .int .i64 n, .bool false])
theorem tok_ret {fn : Func} {p u v : Tmp} (hres : fn.results = #[.cell p 28, .tmp u, .tmp v]) (w W : World) (tmps : Array Value) (a b c d x0 x1 x2 x3 : Value) (o : Option (Tok × Nat))
    (HW : Below w.heap.size w W) (HK : W.heap[w.heap.size]? = some (.cells #[a, b, c, d] 28 (0, 0))) (hp : tmps.getD p undef = .pointer (some ⟨w.heap.size, 0, none⟩))
    (hA : Ans o (.returned (.tuple #[.agg #[x0, x1, x2, x3], tmps.getD u undef, tmps.getD v undef]))) :
    bodyPost Tryz.prog fn (fun e w' => Ans o e ∧ Below w.heap.size w w') Exit.ret { tmps := tmps, defers := [] } ((((W.setCell ⟨w.heap.size, 0, none⟩ x0).setCell ⟨w.heap.size, 1, none⟩ x1).setCell ⟨w.heap.size, 2, none⟩ x2).setCell ⟨w.heap.size, 3, none⟩ x3) := by
  have h0 := blk_put HK 0 x0 rfl
  have h1 := blk_put h0 1 x1 rfl
  have h2 := blk_put h1 2 x2 rfl
  have h3 := blk_put h2 3 x3 rfl
  refine bodyPost_ret (results_ctt hres tmps _ w.heap.size 28 _ (0, 0) _ hp h3 Tryz.underlying28 rfl (by kernel_rfl)) rfl ⟨hA, ?_⟩
  exact (((HW.setCell (Nat.le_refl _) _).setCell (Nat.le_refl _) _).setCell (Nat.le_refl _) _).setCell (Nat.le_refl _) _
theorem tok_ret0 {fn : Func} {p u v : Tmp} (hres : fn.results = #[.cell p 28, .tmp u, .tmp v]) (w W : World) (tmps : Array Value) (x0 x1 x2 x3 : Value) (o : Option (Tok × Nat))
    (HW : Below w.heap.size w W) (HK : W.heap[w.heap.size]? = some (.cells #[x0, x1, x2, x3] 28 (0, 0))) (hp : tmps.getD p undef = .pointer (some ⟨w.heap.size, 0, none⟩))
    (hA : Ans o (.returned (.tuple #[.agg #[x0, x1, x2, x3], tmps.getD u undef, tmps.getD v undef]))) :
    bodyPost Tryz.prog fn (fun e w' => Ans o e ∧ Below w.heap.size w w') Exit.ret { tmps := tmps, defers := [] } W :=
  bodyPost_ret (results_ctt hres tmps _ w.heap.size 28 _ (0, 0) _ hp HK Tryz.underlying28 rfl (by kernel_rfl)) rfl ⟨hA, HW⟩
set_option maxHeartbeats 4000000 in
set_option maxRecDepth 100000 in
theorem readWord_calls (s : ByteArray) (hs : s.size ≤ 281474976710656) (h0 : 0 < s.size) (hk : isL (s[0]'h0) = true) (w : World) : Calls Tryz.prog 47 #[.string s] w fun e w' => Ans (tok (bl s)) e ∧ Below w.heap.size w w' := by
  have ht : tok (bl s) = if colon ((bl s).drop (nameLen (bl s))) then some (⟨2, (bl s).take (nameLen (bl s)), 0⟩, nameLen (bl s) + 1) else some (⟨1, (bl s).take (nameLen (bl s)), 0⟩, nameLen (bl s)) := by
    rw [bl_cons s h0, tok, if_pos hk]
  have hle := nameLen_le (bl s)
  rw [bl_len] at hle
  have hb : bl (s.extract (nameLen (bl s)) s.size) = (bl s).drop (nameLen (bl s)) := by
    rw [bl_extract, List.take_of_length_le (by rw [List.length_drop, bl_len]; omega)]
  have hcc := colon_calls (s.extract (nameLen (bl s)) s.size)
  rw [hb] at hcc
  obtain ⟨c, hc⟩ : ∃ c, colon ((bl s).drop (nameLen (bl s))) = c := ⟨_, rfl⟩
  rw [hc] at ht hcc
  have hx : s.extract 0 (nameLen (bl s)) = ⟨((bl s).take (nameLen (bl s))).toArray⟩ := by rw [ext_eq]; simp
  have HX := Aside0.mk hx
  have HT := Aside0.mk ht
  have HC := Aside0.mk hcc
  have hnc := nameLen_calls s
  obtain ⟨n, hn⟩ : ∃ n, nameLen (bl s) = n := ⟨_, rfl⟩
  rw [hn] at hle hnc HX HT HC
  have HN := Aside0.mk hnc
  have hw1 : wrap64 ((n : Int) + 1) = (n : Int) + 1 := by unfold wrap64; omega
  clear hx ht hcc hb hc hnc hn
  have hW : Below w.heap.size w (w.alloc (.cells #[.int .i64 0, .string ⟨#[]⟩, .int .i64 0, .int .i64 0] 28)) := (Below.refl _ _).alloc (Nat.le_refl _) _
  have hK := blk_new w (.cells #[.int .i64 0, .string ⟨#[]⟩, .int .i64 0, .int .i64 0] 28 (0, 0))
  have HW := Aside0.mk hW
  have HK := Aside0.mk hK
  clear hW hK
  cases c
  all_goals
    go_enter Tryz.func47, Tryz.ntmps47
    go_wp2_with (first
      | (go_at_call 24; refine (HN.out _).mono ?_; rintro e w1 ⟨rfl, hb⟩; replace HW := Aside0.mk (below_then HW.out HW.out.size hb); replace HK := Aside0.mk (blk_below HK.out hb); clear hb)
      | (go_at_call 63; refine (HC.out _).mono ?_; rintro e w2 ⟨rfl, hb⟩; replace HW := Aside0.mk (below_then HW.out HW.out.size hb); replace HK := Aside0.mk (blk_below HK.out hb); clear hb; have d0 := blk_cell HK.out 0; have d1 := blk_cell HK.out 1; have d2 := blk_cell HK.out 2; have d3 := blk_cell HK.out 3; have f0 := fun i => blk_frozen HK.out i))
    refine tok_ret rfl w _ _ _ _ _ _ _ _ _ _ _ HW.out HK.out rfl ?_
    rw [HT.out]
    show _ = _
    rw [HX.out]
    rfl
theorem cls_cases (c : UInt8) (k : Int) (h : cls c = k) (h1 : 1 ≤ k) :
    (k = 1 ∧ isL c = true) ∨ (k = 2 ∧ isL c = false ∧ isD c = true) ∨ (k = 3 ∧ isL c = false ∧ isD c = false ∧ c = 35) ∨ (k = 5 ∧ isL c = false ∧ isD c = false ∧ c ≠ 35 ∧ c = 39) ∨ (k = 4 ∧ isL c = false ∧ isD c = false ∧ c ≠ 35 ∧ c ≠ 39 ∧ isG c = true) ∨ (k = 6 ∧ isL c = false ∧ isD c = false ∧ c ≠ 35 ∧ c ≠ 39 ∧ isG c = false ∧ markKind c ≠ 0) := by
  unfold cls at h
  cases a1 : isL c with
  | true => rw [a1] at h; simp at h; exact .inl ⟨h.symm, rfl⟩
  | false =>
    rw [a1] at h
    simp only [Bool.false_eq_true, if_false] at h
    cases a2 : isD c with
    | true => rw [a2] at h; simp at h; exact .inr (.inl ⟨h.symm, rfl, rfl⟩)
    | false =>
      rw [a2] at h
      simp only [Bool.false_eq_true, if_false] at h
      by_cases a3 : c = 35
      · rw [if_pos a3] at h; exact .inr (.inr (.inl ⟨h.symm, rfl, rfl, a3⟩))
      · rw [if_neg a3] at h
        by_cases a4 : c = 39
        · rw [if_pos a4] at h; exact .inr (.inr (.inr (.inl ⟨h.symm, rfl, rfl, a3, a4⟩)))
        · rw [if_neg a4] at h
          cases a5 : isG c with
          | true => rw [a5] at h; simp at h; exact .inr (.inr (.inr (.inr (.inl ⟨h.symm, rfl, rfl, a3, a4, rfl⟩))))
          | false =>
            rw [a5] at h
            simp only [Bool.false_eq_true, if_false] at h
            by_cases a6 : markKind c = 0
            · rw [if_pos a6] at h; omega
            · rw [if_neg a6] at h; exact .inr (.inr (.inr (.inr (.inr ⟨h.symm, rfl, rfl, a3, a4, rfl, a6⟩))))
theorem cls_zero (c : UInt8) (h : cls c = 0) (r : List UInt8) : tok (c :: r) = none := by
  unfold cls at h
  rw [tok]
  split at h
  · omega
  · rename_i a1
    rw [if_neg a1]
    split at h
    · omega
    · rename_i a2
      rw [if_neg a2]
      split at h
      · omega
      · rename_i a3
        rw [if_neg a3]
        split at h
        · omega
        · rename_i a4
          rw [if_neg a4]
          split at h
          · omega
          · rename_i a5
            rw [if_neg a5]
            split at h
            · rename_i a6
              rw [if_neg, if_pos a6]
              rintro ⟨rfl, _⟩
              exact absurd a6 (by decide)
            · omega
set_option maxHeartbeats 4000000 in
set_option maxRecDepth 100000 in
theorem readSign_calls (s : ByteArray) (hs : s.size ≤ 281474976710656) (h0 : 0 < s.size) (hk : cls (s[0]'h0) = 4) (w : World) : Calls Tryz.prog 50 #[.string s] w fun e w' => Ans (tok (bl s)) e ∧ Below w.heap.size w w' := by
  have ht : tok (bl s) = some (⟨3, (bl s).take (signsLen (bl s)), 0⟩, signsLen (bl s)) := by
    have := cls_cases _ _ hk (by omega)
    simp at this
    obtain ⟨a1, a2, a3, a4, a5⟩ := this
    rw [bl_cons s h0, tok, if_neg (by simp [a1]), if_neg (by simp [a2]), if_neg a3, if_neg a4, if_pos a5]
  have hle := (signsLen_le (bl s)).1
  rw [bl_len] at hle
  have hx : s.extract 0 (signsLen (bl s)) = ⟨((bl s).take (signsLen (bl s))).toArray⟩ := by rw [ext_eq]; simp
  have HX := Aside0.mk hx
  have HT := Aside0.mk ht
  have hnc := signsLen_calls s
  obtain ⟨n, hn⟩ : ∃ n, signsLen (bl s) = n := ⟨_, rfl⟩
  rw [hn] at hle hnc HX HT
  have HN := Aside0.mk hnc
  clear hx ht hnc hn hk
  have hW : Below w.heap.size w (w.alloc (.cells #[.int .i64 0, .string ⟨#[]⟩, .int .i64 0, .int .i64 0] 28)) := (Below.refl _ _).alloc (Nat.le_refl _) _
  have hK := blk_new w (.cells #[.int .i64 0, .string ⟨#[]⟩, .int .i64 0, .int .i64 0] 28 (0, 0))
  have HW := Aside0.mk hW
  have HK := Aside0.mk hK
  clear hW hK
  go_enter Tryz.func50, Tryz.ntmps50
  go_wp2_with (go_at_call 21; refine (HN.out _).mono ?_; rintro e w1 ⟨rfl, hb⟩; replace HW := Aside0.mk (below_then HW.out HW.out.size hb); replace HK := Aside0.mk (blk_below HK.out hb); clear hb; have d0 := blk_cell HK.out 0; have d1 := blk_cell HK.out 1; have d2 := blk_cell HK.out 2; have d3 := blk_cell HK.out 3; have f0 := fun i => blk_frozen HK.out i)
  refine tok_ret rfl w _ _ _ _ _ _ _ _ _ _ _ HW.out HK.out rfl ?_
  rw [HT.out]
  show _ = _
  rw [HX.out]
  rfl
set_option maxHeartbeats 4000000 in
set_option maxRecDepth 100000 in
theorem readMark_calls (s : ByteArray) (hs : s.size ≤ 281474976710656) (h0 : 0 < s.size) (hk : cls (s[0]'h0) = 6) (w : World) : Calls Tryz.prog 52 #[.string s] w fun e w' => Ans (tok (bl s)) e ∧ Below w.heap.size w w' := by
  have ht : tok (bl s) = if Lib.hasPrefix (bl s) [58, 61] then some (⟨14, [], 0⟩, 2) else some (⟨markKind (s[0]'h0), [], 0⟩, 1) := by
    have := cls_cases _ _ hk (by omega)
    simp at this
    obtain ⟨a1, a2, a3, a4, a5, a6⟩ := this
    rw [hasP2, bl_cons s h0, tok, if_neg (by simp [a1]), if_neg (by simp [a2]), if_neg a3, if_neg a4, if_neg (by simp [a5])]
    by_cases hh : s[0]'h0 = 58 ∧ ((bl s).drop 1)[0]? = some 61
    · rw [if_pos hh, if_pos]
      simp only [List.getElem?_cons_zero, List.getElem?_cons_succ, hh.2, hh.1]
      decide
    · rw [if_neg hh, if_neg a6, if_neg]
      intro h2
      simp only [List.getElem?_cons_zero, List.getElem?_cons_succ, Bool.and_eq_true, beq_iff_eq] at h2
      exact hh ⟨Option.some.inj h2.1, h2.2⟩
  have hM : markI ((s[0]'h0).toNat : Int) = markKind (s[0]'h0) := markI_byte _
  obtain ⟨p, hp⟩ : ∃ p, Lib.hasPrefix (bl s) [58, 61] = p := ⟨_, rfl⟩
  rw [hp] at ht
  have HP := Aside0.mk hp
  have HT := Aside0.mk ht
  have HMK := Aside0.mk hM
  have HKY := Aside0.mk (keyOf_int_mk Tryz.underlying5 (wf_u8 (s[0]'h0)))
  clear ht hM hp hk
  have hW : Below w.heap.size w (w.alloc (.cells #[.int .i64 0, .string ⟨#[]⟩, .int .i64 0, .int .i64 0] 28)) := (Below.refl _ _).alloc (Nat.le_refl _) _
  have hK := blk_new w (.cells #[.int .i64 0, .string ⟨#[]⟩, .int .i64 0, .int .i64 0] 28 (0, 0))
  have HW := Aside0.mk hW
  have HK := Aside0.mk hK
  clear hW hK
  cases p
  · go_enter Tryz.func52, Tryz.ntmps52
    go_wp2_with (go_at_call 25; refine (Tryz.strings_HasPrefix _ _ _).mono ?_; rintro e w' ⟨rfl, rfl⟩; rw [show Lib.hasPrefix s.data.toList _ = _ from HP.out])
    refine start_ (n := 8) (S := fun w' => True) (ds := []) #[false, false, false, false, false, false, false, false] (by kernel_rfl) rfl rfl trivial (fun hHeld => ?_)
    refine pure_ (i := 1) (N := some 9) (v := ?_) (a' := ?_) #[false, true, false, false, false, false, false, false] rfl rfl (by kernel_rfl) (fun _ _ _ h => h) (Or.inl ⟨by rfl, ?_⟩) ?_ ?_
    rotate_left
    · intro w'
      go_simp
      with_reducible rfl
    rotate_left
    · simp only [Act.put, List.setIfInBounds_toArray, List.set_cons_zero, List.set_cons_succ, i64_w, i32_w]
      rfl
    refine take_ (i := 2) (N := some 10) (v := ?_) (a' := ?_) #[false, true, true, false, false, false, false, false] rfl rfl (by kernel_rfl) (fun _ _ _ h => h) (Or.inl ⟨by rfl, ?_⟩) hHeld ?_ ?_
    rotate_left
    · intro w' _
      go_simp
      with_reducible rfl
    rotate_left
    · simp only [Act.put, List.setIfInBounds_toArray, List.set_cons_zero, List.set_cons_succ, i64_w, i32_w]
      rfl
    refine one_ (i := 0) (N := some 8) #[true, true, true, false, false, false, false, false] rfl rfl (by kernel_rfl) (by decide) (fun K hK => ?_)
    refine goes_ Tryz.func28 (by kernel_rfl) rfl #[] (by rfl) rfl rfl (by simp only [List.map_toArray, List.map_cons, List.map_nil]) ?_
    with_reducible refine (marks_calls (H := Unit) _).mono ?_
    rintro e w3 ⟨rfl, hown, hb⟩
    have hW3 : Below w.heap.size w w3 := below_then (below_drew HW.out) (by have := HW.out.size; exact this) hb
    have hK3 := blk_below (blk_drew HK.out) hb
    have d0 := blk_cell hK3 0
    have d1 := blk_cell hK3 1
    have d2 := blk_cell hK3 2
    have d3 := blk_cell hK3 3
    have f0 := fun i => blk_frozen hK3 i
    obtain ⟨c2, hlk, hat, hwc⟩ := hown.lookup_int law5 Tryz.underlying54 Tryz.underlying3 (zero3 _) HKY.out
    have hc2 : c2 = markKind (s[0]'h0) := by { rw [(marks_all (H := Unit) _).1, HMK.out] at hat; simpa using hat.symm }
    subst hc2
    rw [show ∀ o, ((w.alloc o).drew).heap.size = w.heap.size + 1 from fun o => by simp] at hlk
    clear hat hwc hb hown
    refine ⟨_, rfl, ?_⟩
    refine hK.out _ _ trivial (fun hHeld => ?_)
    clear hK K
    refine norm_ (a' := ?_) ?_ ?_
    rotate_left
    · show Act.put _ (some 8) _ = _
      simp only [Act.put, List.setIfInBounds_toArray, List.set_cons_zero, List.set_cons_succ, i64_w, i32_w]
      rfl
    refine one_ (i := 3) (N := some 11) #[true, true, true, true, false, false, false, false] rfl rfl (by kernel_rfl) (by decide) (fun K hK => ?_)
    refine value_ (w1 := ?_) (v := ?_) (by rfl) rfl ?_ ?_
    rotate_left 2
    · go_simp
      constructor
      · rfl
      · rfl
    refine hK.out _ _ trivial (fun hHeld => ?_)
    clear hK K
    refine norm_ (a' := ?_) ?_ ?_
    rotate_left
    · show Act.put _ (some 11) _ = _
      simp only [Act.put, List.setIfInBounds_toArray, List.set_cons_zero, List.set_cons_succ, i64_w, i32_w]
      rfl
    refine pure_ (i := 4) (N := some 12) (v := ?_) (a' := ?_) #[true, true, true, true, true, false, false, false] rfl rfl (by kernel_rfl) (fun _ _ _ h => h) (Or.inl ⟨by rfl, ?_⟩) ?_ ?_
    rotate_left
    · intro w'
      go_simp
      with_reducible rfl
    rotate_left
    · simp only [Act.put, List.setIfInBounds_toArray, List.set_cons_zero, List.set_cons_succ, i64_w, i32_w]
      rfl
    refine one_ (i := 5) (N := none) #[true, true, true, true, true, true, false, false] rfl rfl (by kernel_rfl) (by decide) (fun K hK => ?_)
    refine skip_ (w1 := ?_) (by rfl) rfl ?_ ?_
    rotate_left
    · go_simp
      rfl
    refine hK.out _ _ trivial (fun hHeld => ?_)
    clear hK K
    refine pure_ (i := 6) (N := some 3) (v := ?_) (a' := ?_) #[true, true, true, true, true, true, true, false] rfl rfl (by kernel_rfl) (fun _ _ _ h => h) (Or.inl ⟨by rfl, ?_⟩) ?_ ?_
    rotate_left
    · intro w'
      go_simp
      with_reducible rfl
    rotate_left
    · simp only [Act.put, List.setIfInBounds_toArray, List.set_cons_zero, List.set_cons_succ, i64_w, i32_w]
      rfl
    refine pure_ (i := 7) (N := some 4) (v := ?_) (a' := ?_) #[true, true, true, true, true, true, true, true] rfl rfl (by kernel_rfl) (fun _ _ _ h => h) (Or.inl ⟨by rfl, ?_⟩) ?_ ?_
    rotate_left
    · intro w'
      go_simp
      with_reducible rfl
    rotate_left
    · simp only [Act.put, List.setIfInBounds_toArray, List.set_cons_zero, List.set_cons_succ, i64_w, i32_w]
      rfl
    refine done_ (by kernel_rfl) ?_

    go_wp2
    refine tok_ret rfl w w3 _ _ _ _ _ _ _ _ _ _ hW3 hK3 rfl ?_
    rw [HT.out]
    rfl
  · go_enter Tryz.func52, Tryz.ntmps52
    go_wp2_with (go_at_call 25; refine (Tryz.strings_HasPrefix _ _ _).mono ?_; rintro e w' ⟨rfl, rfl⟩; rw [show Lib.hasPrefix s.data.toList _ = _ from HP.out])
    refine tok_ret0 rfl w _ _ _ _ _ _ _ ((Below.refl _ _).alloc (Nat.le_refl _) _) (blk_new w (.cells #[.int .i64 14, .string ⟨#[]⟩, .int .i64 0, .int .i64 0] 28 (0, 0))) rfl ?_
    rw [HT.out]
    rfl
theorem fold_ge (l : List UInt8) : ∀ acc : Nat, acc ≤ l.foldl (fun n c => 10 * n + (c.toNat - 48)) acc := by
  induction l with
  | nil => intro acc; exact Nat.le_refl _
  | cons c r ih => intro acc; rw [List.foldl_cons]; have := ih (10 * acc + (c.toNat - 48)); omega
theorem parse_fold (l : List UInt8) : ∀ acc : Nat, (∀ c ∈ l, isD c = true) → acc ≤ 18446744073709551615 →
    (Lib.parseUintM 18446744073709551615 acc l = .ok (l.foldl (fun n c => 10 * n + (c.toNat - 48)) acc) ∧ l.foldl (fun n c => 10 * n + (c.toNat - 48)) acc ≤ 18446744073709551615) ∨ (Lib.parseUintM 18446744073709551615 acc l = .range ∧ 1073741824 < l.foldl (fun n c => 10 * n + (c.toNat - 48)) acc) := by
  induction l with
  | nil => intro acc _ h; exact .inl ⟨rfl, h⟩
  | cons c r ih =>
    intro acc hd h
    have hc := hd c (by simp)
    simp only [isD, Bool.and_eq_true, decide_eq_true_eq, UInt8.le_iff_toNat_le] at hc
    have h48 : (48 : UInt8).toNat = 48 := rfl
    have h57 : (57 : UInt8).toNat = 57 := rfl
    rw [h48, h57] at hc
    rw [Lib.parseUintM, if_pos hc, List.foldl_cons]
    have hf := fold_ge r (10 * acc + (c.toNat - 48))
    split
    · refine .inr ⟨rfl, ?_⟩; omega
    · split
      · refine .inr ⟨rfl, ?_⟩; omega
      · rw [show acc * 10 + (c.toNat - 48) = 10 * acc + (c.toNat - 48) by omega]
        exact ih _ (fun x hx => hd x (by simp [hx])) (by omega)
theorem takeWhile_all (p : UInt8 → Bool) (l : List UInt8) : ∀ c ∈ l.takeWhile p, p c = true := by
  induction l with
  | nil => intro c hc; simp at hc
  | cons d r ih =>
    intro c hc
    rw [List.takeWhile_cons] at hc
    split at hc
    · rename_i hd
      simp only [List.mem_cons] at hc
      rcases hc with rfl | hc
      · exact hd
      · exact ih c hc
    · simp at hc
theorem takeWhile_take (p : UInt8 → Bool) (l : List UInt8) : l.take (l.takeWhile p).length = l.takeWhile p := by
  have h := List.takeWhile_prefix (l := l) p
  exact (List.prefix_iff_eq_take.1 h).symm
/-- what strconv.ParseUint says of digits -/
theorem parse_digits (l : List UInt8) (h0 : 0 < digitsLen l) : (Lib.parseUintB 64 (l.take (digitsLen l)) = .ok (digVal (l.take (digitsLen l))) ∧ digVal (l.take (digitsLen l)) ≤ 18446744073709551615) ∨ (Lib.parseUintB 64 (l.take (digitsLen l)) = .range ∧ 1073741824 < digVal (l.take (digitsLen l))) := by
  unfold digitsLen at *
  rw [takeWhile_take]
  have hne : l.takeWhile isD ≠ [] := by intro e; rw [e] at h0; simp at h0
  unfold Lib.parseUintB
  rw [if_neg hne]
  exact parse_fold _ 0 (takeWhile_all isD l) (by omega)
/-- the variable strconv.ErrRange holds an error -/
def Erg (w : World) : Prop := ∃ te pe, w.cell? ⟨5, 0, none⟩ = some (.iface te pe)
theorem Erg.below {w w' : World} (h : Erg w) (hb : Below w.heap.size w w') : Erg w' := by
  obtain ⟨te, pe, h⟩ := h
  exact ⟨te, pe, pw_cell_below hb h⟩
theorem below_bytes (w : World) (s : ByteArray) : Below w.heap.size w (Lib.bytesWorld w 5 s) := by
  exact Lib.bytesWorld_below w 5 s
set_option maxHeartbeats 4000000 in
set_option maxRecDepth 100000 in
theorem readNumber_calls (s : ByteArray) (hs : s.size ≤ 281474976710656) (h0 : 0 < s.size) (hk : cls (s[0]'h0) = 2) (w : World) (E : Erg w) : Calls Tryz.prog 48 #[.string s] w fun e w' => Ans (tok (bl s)) e ∧ Below w.heap.size w w' := by
  have hcc := cls_cases _ _ hk (by omega)
  simp at hcc
  obtain ⟨a1, a2⟩ := hcc
  have ht : tok (bl s) = if digVal ((bl s).take (digitsLen (bl s))) ≤ 1073741824 then some (⟨4, [], digVal ((bl s).take (digitsLen (bl s)))⟩, digitsLen (bl s)) else none := by
    rw [bl_cons s h0, tok, if_neg (by simp [a1]), if_pos a2]
  have hle : digitsLen (bl s) ≤ s.size := by
    have := takeWhile_len_le isD (bl s)
    rw [bl_len] at this
    exact this
  have hpos : 0 < digitsLen (bl s) := by rw [bl_cons s h0]; simp [digitsLen, a2]
  have hx : bl (s.extract 0 (digitsLen (bl s))) = (bl s).take (digitsLen (bl s)) := by rw [bl_extract]; simp
  have hpd := parse_digits (bl s) hpos
  have hxs : (s.extract 0 (digitsLen (bl s))).size = digitsLen (bl s) := by
    rw [← bl_len, hx, List.length_take, bl_len]; omega
  rw [← hx] at hpd ht
  have hnc := digitsLen_calls s
  obtain ⟨n, hn⟩ : ∃ n, digitsLen (bl s) = n := ⟨_, rfl⟩
  obtain ⟨v, hv⟩ : ∃ v, digVal (bl (s.extract 0 (digitsLen (bl s)))) = v := ⟨_, rfl⟩
  rw [hv] at hpd ht
  rw [hn] at hle hnc hpd ht hxs
  have HX := Aside0.mk hxs
  have HT := Aside0.mk ht
  have HN := Aside0.mk hnc
  have HE := Aside0.mk E
  clear hx ht hnc hn hv hk E hxs a1 a2 hpos
  have hW : Below w.heap.size w (w.alloc (.cells #[.int .i64 0, .string ⟨#[]⟩, .int .i64 0, .int .i64 0] 28)) := (Below.refl _ _).alloc (Nat.le_refl _) _
  have hK := blk_new w (.cells #[.int .i64 0, .string ⟨#[]⟩, .int .i64 0, .int .i64 0] 28 (0, 0))
  have HW := Aside0.mk hW
  have HK := Aside0.mk hK
  clear hW hK
  rcases hpd with ⟨hp, hp2⟩ | ⟨hp, hp2⟩
  · have HP := Aside0.mk hp
    clear hp
    by_cases hv : v ≤ 1073741824
    · have hd : decide ((1073741824 : Int) < (v : Int)) = false := by simp; omega
      have hw : IntKind.i64.wrap (v : Int) = (v : Int) := by rw [IntKind.wrap_i64]; omega
      go_enter Tryz.func48, Tryz.ntmps48
      go_wp2_with (first
        | (go_at_call 64; refine (HN.out _).mono ?_; rintro e w1 ⟨rfl, hb⟩; replace HW := Aside0.mk (below_then HW.out HW.out.size hb); replace HK := Aside0.mk (blk_below HK.out hb); clear hb)
        | (go_at_call 65; refine (Tryz.strconv_ParseUint_10_at64_ok _ (by rw [HX.out]; omega) v HP.out _).mono ?_; rintro e w2 ⟨rfl, hb⟩; have hb2 : Below w1.heap.size w1 w2 := by { rcases hb with h | h <;> rw [h] <;> first | exact Below.refl _ _ | exact below_bytes _ _ }; clear hb; replace HW := Aside0.mk (below_then HW.out HW.out.size hb2); replace HK := Aside0.mk (blk_below HK.out hb2); clear hb2; have d0 := blk_cell HK.out 0; have d1 := blk_cell HK.out 1; have d2 := blk_cell HK.out 2; have d3 := blk_cell HK.out 3; have f0 := fun i => blk_frozen HK.out i))
      refine tok_ret rfl w _ _ _ _ _ _ _ _ _ _ _ HW.out HK.out rfl ?_
      rw [HT.out, if_pos hv]
      rfl
    · have hd : decide ((1073741824 : Int) < (v : Int)) = true := by simp; omega
      go_enter Tryz.func48, Tryz.ntmps48
      go_wp2_with (first
        | (go_at_call 64; refine (HN.out _).mono ?_; rintro e w1 ⟨rfl, hb⟩; replace HW := Aside0.mk (below_then HW.out HW.out.size hb); replace HK := Aside0.mk (blk_below HK.out hb); clear hb)
        | (go_at_call 65; refine (Tryz.strconv_ParseUint_10_at64_ok _ (by rw [HX.out]; omega) v HP.out _).mono ?_; rintro e w2 ⟨rfl, hb⟩; have hb2 : Below w1.heap.size w1 w2 := by { rcases hb with h | h <;> rw [h] <;> first | exact Below.refl _ _ | exact below_bytes _ _ }; clear hb; replace HW := Aside0.mk (below_then HW.out HW.out.size hb2); replace HK := Aside0.mk (blk_below HK.out hb2); clear hb2; have d0 := blk_cell HK.out 0; have d1 := blk_cell HK.out 1; have d2 := blk_cell HK.out 2; have d3 := blk_cell HK.out 3; have f0 := fun i => blk_frozen HK.out i))
      refine tok_ret rfl w _ _ _ _ _ _ _ _ _ _ _ HW.out HK.out rfl ?_
      rw [HT.out, if_neg hv]
      exact ⟨⟨0, [], 0⟩, 0, rfl⟩
  · have HP := Aside0.mk hp
    clear hp
    go_enter Tryz.func48, Tryz.ntmps48
    go_wp2_with (first
        | (go_at_call 64; refine (HN.out _).mono ?_; rintro e w1 ⟨rfl, hb⟩; replace HW := Aside0.mk (below_then HW.out HW.out.size hb); replace HK := Aside0.mk (blk_below HK.out hb); clear hb)
        | (go_at_call 65; obtain ⟨te, pe, hE⟩ := HE.out.below HW.out; refine (Tryz.strconv_ParseUint_10_at64_range _ (by rw [HX.out]; omega) HP.out _ _ hE (.inr ⟨_, _, rfl⟩)).mono ?_; rintro e w2 ⟨N, rfl, _, _, hb2⟩; replace HW := Aside0.mk (below_then HW.out HW.out.size hb2); replace HK := Aside0.mk (blk_below HK.out hb2); clear hb2 hE; have d0 := blk_cell HK.out 0; have d1 := blk_cell HK.out 1; have d2 := blk_cell HK.out 2; have d3 := blk_cell HK.out 3; have f0 := fun i => blk_frozen HK.out i))
    refine tok_ret rfl w _ _ _ _ _ _ _ _ _ _ _ HW.out HK.out rfl ?_
    rw [HT.out, if_neg (by omega)]
    exact ⟨⟨0, [], 0⟩, 0, rfl⟩
end Go.Proofs.YtjibdaigclgmhaaGreatDoor.LexW
namespace Go.Proofs.YtjibdaigclgmhaaGreatDoor.LexW
open Go.RowKit Go.Maps Go.Proofs.YtjibdaigclgmhaaGreatDoor.Lex Go.Proofs.YtjibdaigclgmhaaGreatDoor.PLexPrints Go.Proofs.YtjibdaigclgmhaaGreatDoorW.PrintWords Go.Proofs.YtjibdaigclgmhaaGreatDoorW.PrintLast Go.Proofs.YtjibdaigclgmhaaGreatDoorW.PrintMore
attribute [local go_sem] max2_int min2_int max_two min_two max_three min_three max_four min_four
set_option linter.unusedVariables false
set_option linter.unusedSimpArgs false
set_option maxHeartbeats 4000000 in
set_option maxRecDepth 100000 in
theorem readOther_calls (s : ByteArray) (w : World) : Calls Tryz.prog 46 #[.string s] w fun e w' => Ans none e ∧ Below w.heap.size w w' := by
  go_enter Tryz.func46, Tryz.ntmps46
  go_wp2
  exact tok_ret0 rfl w _ _ _ _ _ _ _ ((Below.refl _ _).alloc (Nat.le_refl _) _) (blk_new w (.cells #[.int .i64 0, .string ⟨#[]⟩, .int .i64 0, .int .i64 0] 28 (0, 0))) rfl ⟨⟨0, [], 0⟩, 0, rfl⟩
def more (x : List UInt8) : Nat := symMore x.length x
theorem symMore_fuel (x : List UInt8) (f : Nat) (h : x.length ≤ f) : symMore f x = more x := by
  have := symMore_cut x.length x x.length [] f brk_nil (fun j hj h58 h61 => by
    rw [List.getElem?_eq_none (by omega)] at h61; cases h61) (symMore_le _ _) (Nat.le_refl _) (Nat.le_refl _) h
  simpa [more] using this
theorem more_step (x : List UInt8) : more x = if 0 < nameLen x && colon (x.drop (nameLen x)) then nameLen x + 1 + more (x.drop (nameLen x + 1)) else 0 := by
  cases x with
  | nil => rfl
  | cons c r =>
    rw [more, List.length_cons, symMore]
    split
    · rw [symMore_fuel _ _ (by rw [List.length_drop, List.length_cons]; omega)]
    · rfl
theorem symLen_more (x : List UInt8) : symLen x = if 0 < signsLen x then signsLen x else if 0 < nameLen x && colon (x.drop (nameLen x)) then nameLen x + 1 + more (x.drop (nameLen x + 1)) else nameLen x := by
  unfold symLen
  rw [symMore_fuel _ _ (by rw [List.length_drop]; omega)]
theorem bl_from (R : ByteArray) (m : Nat) : bl (R.extract m R.size) = (bl R).drop m := by
  rw [bl_extract, List.take_of_length_le (by rw [List.length_drop, bl_len]; omega)]
theorem colon_at (R : ByteArray) (m : Nat) (w : World) : Calls Tryz.prog 63 #[.string (R.extract m R.size)] w fun e w' => e = .returned (.bool (colon ((bl R).drop m))) ∧ Below w.heap.size w w' := by
  have := colon_calls (R.extract m R.size) w
  rwa [bl_from] at this
theorem nameLen_at (R : ByteArray) (m : Nat) (w : World) : Calls Tryz.prog 24 #[.string (R.extract m R.size)] w fun e w' => e = .returned (.int .i64 (nameLen ((bl R).drop m) : Int)) ∧ Below w.heap.size w w' := by
  have := nameLen_calls (R.extract m R.size) w
  rwa [bl_from] at this
structure HashC (s R : ByteArray) : Prop where
  one : 1 ≤ s.size
  rest : s.extract 1 s.size = R
  room : R.size ≤ 281474976710656
  pre : Lib.hasPrefix (bl s) [35, 40] = false
  tok : tok (bl s) = if 0 < symLen (bl R) then some (⟨5, (bl R).take (symLen (bl R)), 0⟩, symLen (bl R) + 1) else none
set_option maxHeartbeats 4000000 in
set_option maxRecDepth 100000 in
theorem readHash_b (s R : ByteArray) (C : HashC s R) (g : Nat) (eg : signsLen (bl R) = g) (hg0 : 0 < g) (w : World) : Calls Tryz.prog 49 #[.string s] w fun e w' => Ans (tok (bl s)) e ∧ Below w.heap.size w w' := by
  have hs1 := C.one
  have hR := C.rest
  have hRs := C.room
  have HP := Aside0.mk C.pre
  have HT := Aside0.mk C.tok
  have HSY := Aside0.mk (symLen_more (bl R))
  have hW : Below w.heap.size w (w.alloc (.cells #[.int .i64 0, .string ⟨#[]⟩, .int .i64 0, .int .i64 0] 28)) := (Below.refl _ _).alloc (Nat.le_refl _) _
  have hK := blk_new w (.cells #[.int .i64 0, .string ⟨#[]⟩, .int .i64 0, .int .i64 0] 28 (0, 0))
  have HW := Aside0.mk hW
  have HK := Aside0.mk hK
  clear hW hK C
  have hg := signsLen_calls R
  have hgl := (signsLen_le (bl R)).1
  rw [bl_len, eg] at hgl
  rw [eg] at hg
  have HG := Aside0.mk hg
  have HEG := Aside0.mk eg
  clear hg eg
  have hz : ((g : Int) == 0) = false := by simp; omega
  go_enter Tryz.func49, Tryz.ntmps49
  go_wp2_with (first
    | (go_at_call 25; refine (Tryz.strings_HasPrefix _ _ _).mono ?_; rintro e w' ⟨rfl, rfl⟩; rw [show Lib.hasPrefix s.data.toList _ = _ from HP.out])
    | (go_at_call 21; refine (HG.out _).mono ?_; rintro e w1 ⟨rfl, hb⟩; replace HW := Aside0.mk (below_then HW.out HW.out.size hb); replace HK := Aside0.mk (blk_below HK.out hb); clear hb; have d0 := blk_cell HK.out 0; have d1 := blk_cell HK.out 1; have d2 := blk_cell HK.out 2; have d3 := blk_cell HK.out 3; have f0 := fun i => blk_frozen HK.out i))
  refine tok_ret rfl w _ _ _ _ _ _ _ _ _ _ _ HW.out HK.out rfl ?_
  have hsy := HSY.out
  rw [HEG.out, if_pos hg0] at hsy
  rw [HT.out, hsy, if_pos hg0]
  have hx : R.extract 0 g = ⟨((bl R).take g).toArray⟩ := by rw [ext_eq]; simp
  show _ = _
  rw [hx]
  have e1 : (1 : Int) + (g : Int) = ((g + 1 : Nat) : Int) := by omega
  simp [tokV, e1]
set_option maxHeartbeats 4000000 in
set_option maxRecDepth 100000 in
theorem readHash_c (s R : ByteArray) (C : HashC s R) (eg : signsLen (bl R) = 0) (en : nameLen (bl R) = 0) (w : World) : Calls Tryz.prog 49 #[.string s] w fun e w' => Ans (tok (bl s)) e ∧ Below w.heap.size w w' := by
  have hs1 := C.one
  have hR := C.rest
  have hRs := C.room
  have HP := Aside0.mk C.pre
  have HT := Aside0.mk C.tok
  have HSY := Aside0.mk (symLen_more (bl R))
  have hW : Below w.heap.size w (w.alloc (.cells #[.int .i64 0, .string ⟨#[]⟩, .int .i64 0, .int .i64 0] 28)) := (Below.refl _ _).alloc (Nat.le_refl _) _
  have hK := blk_new w (.cells #[.int .i64 0, .string ⟨#[]⟩, .int .i64 0, .int .i64 0] 28 (0, 0))
  have HW := Aside0.mk hW
  have HK := Aside0.mk hK
  clear hW hK C
  have hg := signsLen_calls R
  have hn := nameLen_calls R
  have hnl := nameLen_le (bl R)
  rw [bl_len, en] at hnl
  rw [eg] at hg
  rw [en] at hn
  have HG := Aside0.mk hg
  have HN := Aside0.mk hn
  have HEG := Aside0.mk eg
  have HEN := Aside0.mk en
  clear hg hn eg en
  go_enter Tryz.func49, Tryz.ntmps49
  go_wp2_with (first
    | (go_at_call 25; refine (Tryz.strings_HasPrefix _ _ _).mono ?_; rintro e w' ⟨rfl, rfl⟩; rw [show Lib.hasPrefix s.data.toList _ = _ from HP.out])
    | (go_at_call 21; refine (HG.out _).mono ?_; rintro e w1 ⟨rfl, hb⟩; replace HW := Aside0.mk (below_then HW.out HW.out.size hb); replace HK := Aside0.mk (blk_below HK.out hb); clear hb)
    | (go_at_call 24; with_reducible refine (HN.out _).mono ?_; rintro e w2 ⟨rfl, hb⟩; replace HW := Aside0.mk (below_then HW.out HW.out.size hb); replace HK := Aside0.mk (blk_below HK.out hb); clear hb; have d0 := blk_cell HK.out 0; have d1 := blk_cell HK.out 1; have d2 := blk_cell HK.out 2; have d3 := blk_cell HK.out 3; have f0 := fun i => blk_frozen HK.out i))
  refine tok_ret rfl w _ _ _ _ _ _ _ _ _ _ _ HW.out HK.out rfl ?_
  have hsy := HSY.out
  rw [HEG.out, HEN.out, if_neg (by omega), if_neg (by simp)] at hsy
  rw [HT.out, hsy, if_neg (by omega)]
  refine ⟨⟨5, [], 0⟩, 1, ?_⟩
  rfl
set_option maxHeartbeats 4000000 in
set_option maxRecDepth 100000 in
theorem readHash_d (s R : ByteArray) (C : HashC s R) (n : Nat) (eg : signsLen (bl R) = 0) (en : nameLen (bl R) = n) (hn0 : 0 < n) (hc : colon ((bl R).drop n) = false) (w : World) : Calls Tryz.prog 49 #[.string s] w fun e w' => Ans (tok (bl s)) e ∧ Below w.heap.size w w' := by
  have hs1 := C.one
  have hR := C.rest
  have hRs := C.room
  have HP := Aside0.mk C.pre
  have HT := Aside0.mk C.tok
  have HSY := Aside0.mk (symLen_more (bl R))
  have hW : Below w.heap.size w (w.alloc (.cells #[.int .i64 0, .string ⟨#[]⟩, .int .i64 0, .int .i64 0] 28)) := (Below.refl _ _).alloc (Nat.le_refl _) _
  have hK := blk_new w (.cells #[.int .i64 0, .string ⟨#[]⟩, .int .i64 0, .int .i64 0] 28 (0, 0))
  have HW := Aside0.mk hW
  have HK := Aside0.mk hK
  clear hW hK C
  have hg := signsLen_calls R
  have hn := nameLen_calls R
  have hnl := nameLen_le (bl R)
  rw [bl_len, en] at hnl
  rw [eg] at hg
  rw [en] at hn
  have HG := Aside0.mk hg
  have HN := Aside0.mk hn
  have HEG := Aside0.mk eg
  have HEN := Aside0.mk en
  clear hg hn eg en
  have HCA := Aside0.mk (colon_at R n)
  have HC := Aside0.mk hc
  clear hc
  have hn1 : decide ((0 : Int) < (n : Int)) = true := by simp; omega
  go_enter Tryz.func49, Tryz.ntmps49
  go_wp2_with (first
    | (go_at_call 25; refine (Tryz.strings_HasPrefix _ _ _).mono ?_; rintro e w' ⟨rfl, rfl⟩; rw [show Lib.hasPrefix s.data.toList _ = _ from HP.out])
    | (go_at_call 21; refine (HG.out _).mono ?_; rintro e w1 ⟨rfl, hb⟩; replace HW := Aside0.mk (below_then HW.out HW.out.size hb); replace HK := Aside0.mk (blk_below HK.out hb); clear hb)
    | (go_at_call 24; with_reducible refine (HN.out _).mono ?_; rintro e w2 ⟨rfl, hb⟩; replace HW := Aside0.mk (below_then HW.out HW.out.size hb); replace HK := Aside0.mk (blk_below HK.out hb); clear hb)
    | (go_at_call 63; with_reducible refine (HCA.out _).mono ?_; rintro e w3 ⟨rfl, hb⟩; rw [HC.out]; replace HW := Aside0.mk (below_then HW.out HW.out.size hb); replace HK := Aside0.mk (blk_below HK.out hb); clear hb; have d0 := blk_cell HK.out 0; have d1 := blk_cell HK.out 1; have d2 := blk_cell HK.out 2; have d3 := blk_cell HK.out 3; have f0 := fun i => blk_frozen HK.out i))
  refine tok_ret rfl w _ _ _ _ _ _ _ _ _ _ _ HW.out HK.out rfl ?_
  have hsy := HSY.out
  rw [HEG.out, HEN.out, if_neg (by omega), if_neg (by simp [HC.out])] at hsy
  rw [HT.out, hsy, if_pos hn0]
  have hx : R.extract 0 n = ⟨((bl R).take n).toArray⟩ := by rw [ext_eq]; simp
  show _ = _
  rw [hx]
  have e1 : (1 : Int) + (n : Int) = ((n + 1 : Nat) : Int) := by omega
  simp [tokV, e1]
set_option maxHeartbeats 600000 in
set_option maxRecDepth 100000 in
theorem readHash_e (s R : ByteArray) (C : HashC s R) (n : Nat) (eg : signsLen (bl R) = 0) (en : nameLen (bl R) = n) (hn0 : 0 < n) (hc : colon ((bl R).drop n) = true) (w : World) : Calls Tryz.prog 49 #[.string s] w fun e w' => Ans (tok (bl s)) e ∧ Below w.heap.size w w' := by
  have hs1 := C.one
  have hR := C.rest
  have hRs := C.room
  have HP := Aside0.mk C.pre
  have HT := Aside0.mk C.tok
  have HSY := Aside0.mk (symLen_more (bl R))
  have hW : Below w.heap.size w (w.alloc (.cells #[.int .i64 0, .string ⟨#[]⟩, .int .i64 0, .int .i64 0] 28)) := (Below.refl _ _).alloc (Nat.le_refl _) _
  have hK := blk_new w (.cells #[.int .i64 0, .string ⟨#[]⟩, .int .i64 0, .int .i64 0] 28 (0, 0))
  have HW := Aside0.mk hW
  have HK := Aside0.mk hK
  clear hW hK C
  have hg := signsLen_calls R
  have hn := nameLen_calls R
  have hnl := nameLen_le (bl R)
  rw [bl_len, en] at hnl
  rw [eg] at hg
  rw [en] at hn
  have HG := Aside0.mk hg
  have HN := Aside0.mk hn
  have HEG := Aside0.mk eg
  have HEN := Aside0.mk en
  clear hg hn eg en
  have HCA := Aside0.mk (colon_at R n)
  have hcp := colon_pos hc
  rw [bl_len] at hcp
  have HC := Aside0.mk hc
  clear hc
  have HNA := Aside0.mk (nameLen_at R (n + 1))
  have hn1 : decide ((0 : Int) < (n : Int)) = true := by simp; omega
  have hw1 : wrap64 ((n : Int) + 1) = ((n + 1 : Nat) : Int) := by unfold wrap64; omega
  go_enter Tryz.func49, Tryz.ntmps49
  go_wp2_with (first
    | (go_at_call 25; refine (Tryz.strings_HasPrefix _ _ _).mono ?_; rintro e w' ⟨rfl, rfl⟩; rw [show Lib.hasPrefix s.data.toList _ = _ from HP.out])
    | (go_at_call 21; refine (HG.out _).mono ?_; rintro e w1 ⟨rfl, hb⟩; replace HW := Aside0.mk (below_then HW.out HW.out.size hb); replace HK := Aside0.mk (blk_below HK.out hb); clear hb)
    | (go_at_call 24; with_reducible refine (HNA.out _).mono ?_; rintro e w4 ⟨rfl, hb⟩; replace HW := Aside0.mk (below_then HW.out HW.out.size hb); replace HK := Aside0.mk (blk_below HK.out hb); clear hb)
    | (go_at_call 24; with_reducible refine (HN.out _).mono ?_; rintro e w2 ⟨rfl, hb⟩; replace HW := Aside0.mk (below_then HW.out HW.out.size hb); replace HK := Aside0.mk (blk_below HK.out hb); clear hb)
    | (go_at_call 63; with_reducible refine (HCA.out _).mono ?_; rintro e w3 ⟨rfl, hb⟩; rw [HC.out]; replace HW := Aside0.mk (below_then HW.out HW.out.size hb); replace HK := Aside0.mk (blk_below HK.out hb); clear hb))
  have hm0 : n + 1 + more ((bl R).drop (n + 1)) = symLen (bl R) := by
    have hsy := HSY.out
    rw [HEG.out, HEN.out, if_neg (by omega), if_pos (by simp [HC.out, hn0])] at hsy
    exact hsy.symm
  have HM0 := Aside0.mk hm0
  have HKK := HK
  have HWW := HW
  clear hm0 HK HW HNA HCA HC
  go_loopw [6, 7] (fun v6 v7 wr => ∃ m : Nat, v6 = .int .i64 (m : Int) ∧ v7 = .int .i64 (nameLen ((bl R).drop m) : Int) ∧ 0 < m ∧ m ≤ R.size ∧ Aside0 (m + more ((bl R).drop m) = symLen (bl R)) ∧ Aside0 (Below w.heap.size w wr) ∧ Aside0 (wr.heap[w.heap.size]? = some (.cells #[.int .i64 0, .string ⟨#[]⟩, .int .i64 0, .int .i64 0] 28 (0, 0)))) (fun v6 _ _ => R.size - (intOf v6).toNat)
  case atStart => exact ⟨n + 1, rfl, rfl, by omega, by omega, HM0, HWW, HKK⟩
  case round =>
    obtain ⟨m, rfl, rfl, hm1, hm2, HM, HW, HK⟩ := hrel
    obtain ⟨k, hk⟩ : ∃ k, nameLen ((bl R).drop m) = k := ⟨_, rfl⟩
    rw [hk]
    have hst := more_step ((bl R).drop m)
    rw [hk, List.drop_drop, List.drop_drop] at hst
    have hkl := nameLen_le ((bl R).drop m)
    rw [hk, List.length_drop, bl_len] at hkl
    by_cases hk0 : 0 < k
    · have hk1 : decide ((0 : Int) < (k : Int)) = true := by simp; omega
      have hb1 : (m : Int) + (k : Int) ≤ (R.size : Int) := by omega
      have hb2 : m + k ≤ R.size := by omega
      have hw2 : wrap64 ((m : Int) + (k : Int)) = (m : Int) + (k : Int) := by unfold wrap64; omega
      have HCA := Aside0.mk (colon_at R (m + k))
      have HNA := Aside0.mk (nameLen_at R (m + (k + 1)))
      obtain ⟨c, hc⟩ : ∃ c, colon ((bl R).drop (m + k)) = c := ⟨_, rfl⟩
      rw [hc] at hst
      cases c with
      | false =>
        have HC := Aside0.mk hc
        have HST := Aside0.mk hst
        clear hc hst hk
        go_wp2_with (go_at_call 63; with_reducible refine (HCA.out _).mono ?_; rintro e w3 ⟨rfl, hb⟩; rw [HC.out]; replace HW := Aside0.mk (below_then HW.out HW.out.size hb); replace HK := Aside0.mk (blk_below HK.out hb); clear hb; have d0 := blk_cell HK.out 0; have d1 := blk_cell HK.out 1; have d2 := blk_cell HK.out 2; have d3 := blk_cell HK.out 3; have f0 := fun i => blk_frozen HK.out i)
        refine tok_ret rfl w _ _ _ _ _ _ _ _ _ _ _ HW.out HK.out rfl ?_
        have hst := HST.out
        rw [if_neg (by simp)] at hst
        have hsy : symLen (bl R) = m := by rw [← HM.out, hst]; rfl
        rw [HT.out, hsy, if_pos hm1]
        have hx : R.extract 0 m = ⟨((bl R).take m).toArray⟩ := by rw [ext_eq]; simp
        show _ = _
        rw [hx]
        have e1 : (1 : Int) + (m : Int) = ((m + 1 : Nat) : Int) := by omega
        simp [tokV, e1]
      | true =>
        have hcp := colon_pos hc
        rw [bl_len] at hcp
        have HC := Aside0.mk hc
        have HST := Aside0.mk hst
        clear hc hst hk
        have hb3 : (m : Int) + ((k : Int) + 1) ≤ (R.size : Int) := by omega
        have hb4 : m + (k + 1) ≤ R.size := by omega
        have hw4 : wrap64 ((k : Int) + 1) = (k : Int) + 1 := by unfold wrap64; omega
        have hw5 : wrap64 ((m : Int) + ((k : Int) + 1)) = (m : Int) + ((k : Int) + 1) := by unfold wrap64; omega
        go_wp2_with (first
          | (go_at_call 63; with_reducible refine (HCA.out _).mono ?_; rintro e w3 ⟨rfl, hb⟩; rw [HC.out]; replace HW := Aside0.mk (below_then HW.out HW.out.size hb); replace HK := Aside0.mk (blk_below HK.out hb); clear hb)
          | (go_at_call 24; with_reducible refine (HNA.out _).mono ?_; rintro e w4 ⟨rfl, hb⟩; replace HW := Aside0.mk (below_then HW.out HW.out.size hb); replace HK := Aside0.mk (blk_below HK.out hb); clear hb))
        go_roundw
        case rel =>
          refine ⟨m + (k + 1), by go_num, rfl, by omega, hb4, ⟨?_⟩, HW, HK⟩
          have hst := HST.out
          rw [if_pos (by simp [hk0])] at hst
          have h1 := HM.out
          rw [hst] at h1
          rw [← Nat.add_assoc] at h1
          exact h1
        case measure => simp [intOf]; omega
    · obtain rfl : k = 0 := by omega
      have HST := Aside0.mk hst
      clear hst
      have d0 := blk_cell HK.out 0
      have d1 := blk_cell HK.out 1
      have d2 := blk_cell HK.out 2
      have d3 := blk_cell HK.out 3
      have f0 := fun i => blk_frozen HK.out i
      go_wp2_with fail
      refine tok_ret rfl w _ _ _ _ _ _ _ _ _ _ _ HW.out HK.out rfl ?_
      have hst := HST.out
      rw [if_neg (by simp)] at hst
      have hsy : symLen (bl R) = m := by rw [← HM.out, hst]; rfl
      rw [HT.out, hsy, if_pos hm1]
      have hx : R.extract 0 m = ⟨((bl R).take m).toArray⟩ := by rw [ext_eq]; simp
      show _ = _
      rw [hx]
      have e1 : (1 : Int) + (m : Int) = ((m + 1 : Nat) : Int) := by omega
      simp [tokV, e1]
set_option maxHeartbeats 4000000 in
set_option maxRecDepth 100000 in
theorem readHash_a (s : ByteArray) (hp : Lib.hasPrefix (bl s) [35, 40] = true) (ht : tok (bl s) = some (⟨7, [], 0⟩, 2)) (w : World) : Calls Tryz.prog 49 #[.string s] w fun e w' => Ans (tok (bl s)) e ∧ Below w.heap.size w w' := by
  have HP := Aside0.mk hp
  have HT := Aside0.mk ht
  clear hp ht
  go_enter Tryz.func49, Tryz.ntmps49
  go_wp2_with (go_at_call 25; refine (Tryz.strings_HasPrefix _ _ _).mono ?_; rintro e w' ⟨rfl, rfl⟩; rw [show Lib.hasPrefix s.data.toList _ = _ from HP.out])
  refine tok_ret0 rfl w _ _ _ _ _ _ _ ((Below.refl _ _).alloc (Nat.le_refl _) _) (blk_new w (.cells #[.int .i64 7, .string ⟨#[]⟩, .int .i64 0, .int .i64 0] 28 (0, 0))) rfl ?_
  rw [HT.out]
  rfl
theorem readHash_calls (s : ByteArray) (hs : s.size ≤ 281474976710656) (h0 : 0 < s.size) (hk : cls (s[0]'h0) = 3) (w : World) : Calls Tryz.prog 49 #[.string s] w fun e w' => Ans (tok (bl s)) e ∧ Below w.heap.size w w' := by
  have hcc := cls_cases _ _ hk (by omega)
  simp at hcc
  obtain ⟨a1, a2, a3⟩ := hcc
  have hr : bl (s.extract 1 s.size) = (bl s).drop 1 := bl_from s 1
  have hrs : (s.extract 1 s.size).size = s.size - 1 := by rw [← bl_len, hr, List.length_drop, bl_len]
  have ht : tok (bl s) = if Lib.hasPrefix (bl s) [35, 40] then some (⟨7, [], 0⟩, 2) else if 0 < symLen (bl (s.extract 1 s.size)) then some (⟨5, (bl (s.extract 1 s.size)).take (symLen (bl (s.extract 1 s.size))), 0⟩, symLen (bl (s.extract 1 s.size)) + 1) else none := by
    rw [hasP2, hr, bl_cons s h0, tok, if_neg (by simp [a1]), if_neg (by simp [a2]), if_pos a3, a3]
    simp only [List.getElem?_cons_zero, List.getElem?_cons_succ, beq_self_eq_true, Bool.true_and, beq_iff_eq, List.drop_succ_cons, List.drop_zero]
  cases hp : Lib.hasPrefix (bl s) [35, 40] with
  | true => rw [hp, if_pos rfl] at ht; exact readHash_a s hp ht w
  | false =>
    rw [hp, if_neg (by simp)] at ht
    have C : HashC s (s.extract 1 s.size) := ⟨h0, rfl, by omega, hp, ht⟩
    generalize s.extract 1 s.size = R at C
    by_cases hg : 0 < signsLen (bl R)
    · exact readHash_b s R C _ rfl hg w
    · have hg0 : signsLen (bl R) = 0 := by omega
      by_cases hn : 0 < nameLen (bl R)
      · cases hc : colon ((bl R).drop (nameLen (bl R))) with
        | false => exact readHash_d s R C _ hg0 rfl hn hc w
        | true => exact readHash_e s R C _ hg0 rfl hn hc w
      · exact readHash_c s R C hg0 (by omega) w
end Go.Proofs.YtjibdaigclgmhaaGreatDoor.LexW
namespace Go.Proofs.YtjibdaigclgmhaaGreatDoor.LexW
open Go.RowKit Go.Maps Go.Proofs.YtjibdaigclgmhaaGreatDoor.Lex Go.Proofs.YtjibdaigclgmhaaGreatDoor.PLexPrints Go.Proofs.YtjibdaigclgmhaaGreatDoorW.PrintWords Go.Proofs.YtjibdaigclgmhaaGreatDoorW.PrintLast Go.Proofs.YtjibdaigclgmhaaGreatDoorW.PrintMore
attribute [local go_sem] max2_int min2_int max_two min_two max_three min_three max_four min_four
set_option linter.unusedVariables false
set_option linter.unusedSimpArgs false
theorem quote_none : ∀ K : List UInt8, Lib.indexByte K 39 < 0 → textOf K = none
  | [], _ => rfl
  | c :: K, h => by
    rw [Lib.indexByte] at h
    have hge := Lib.indexByte_ge K 39
    by_cases hc : c = 39
    · subst hc; simp at h
    · rw [if_neg (by simpa using hc)] at h
      have : Lib.indexByte K 39 < 0 := by
        split at h
        · rename_i h2; simp at h2; omega
        · omega
      rw [textOf_step c hc, quote_none K this]
      try rfl
theorem quote_split : ∀ (K : List UInt8) (n : Nat), Lib.indexByte K 39 = (n : Int) → n < K.length ∧ textOf K = if K[n + 1]? = some 39 then (textOf (K.drop (n + 2))).map (fun p => (K.take n ++ 39 :: p.1, n + 2 + p.2)) else some (K.take n, n + 1)
  | [], n, h => by simp only [Lib.indexByte] at h; omega
  | c :: K, n, h => by
    rw [Lib.indexByte] at h
    have hge := Lib.indexByte_ge K 39
    by_cases hc : c = 39
    · subst hc
      simp at h
      obtain rfl : n = 0 := by omega
      refine ⟨by simp, ?_⟩
      cases K with
      | nil => rw [textOf_one [] (fun c h => by simp at h)]; simp
      | cons d K =>
        by_cases hd : d = 39
        · subst hd
          rw [textOf_two, if_pos (by simp)]
          have e : (fun p : List UInt8 × Nat => (39 :: p.1, p.2 + 2)) = (fun p : List UInt8 × Nat => ((39 :: 39 :: K).take 0 ++ 39 :: p.1, 0 + 2 + p.2)) := by
            funext p
            have : p.2 + 2 = 0 + 2 + p.2 := by omega
            rw [this]; rfl
          rw [e]
          rfl
        · rw [textOf_one _ (fun x hx => by simp at hx; subst hx; exact hd)]
          simp [hd]
    · rw [if_neg (by simpa using hc)] at h
      split at h
      · omega
      · rename_i h2
        have h2' : Lib.indexByte K 39 ≠ -1 := by simpa using h2
        have hn1 : 1 ≤ n := by omega
        obtain ⟨m, rfl⟩ : ∃ m, n = m + 1 := ⟨n - 1, by omega⟩
        obtain ⟨h3, h4⟩ := quote_split K m (by omega)
        refine ⟨by simp; omega, ?_⟩
        rw [textOf_step c hc, h4]
        simp only [List.getElem?_cons_succ, List.drop_succ_cons, List.take_succ_cons]
        split
        · rw [Option.map_map]
          have e : ((fun p : List UInt8 × Nat => (c :: p.1, p.2 + 1)) ∘ fun p : List UInt8 × Nat => (K.take m ++ 39 :: p.1, m + 2 + p.2)) = (fun p : List UInt8 × Nat => (c :: K.take m ++ 39 :: p.1, m + 1 + 2 + p.2)) := by
            funext p
            simp only [Function.comp, List.cons_append, Prod.mk.injEq, true_and]
            omega
          rw [e]
        · simp
theorem byteCells_app (a b : List UInt8) : Lib.byteCells a ++ Lib.byteCells b = Lib.byteCells (a ++ b) := by simp [Lib.byteCells]
theorem below_le {B B' : Nat} {w w' : World} (h : Below B w w') (hB : B' ≤ B) : Below B' w w' := ⟨h.os, h.tape, h.output, h.size, fun i hi => h.block i (Nat.lt_of_lt_of_le hi hB)⟩
set_option maxHeartbeats 2000000 in
set_option maxRecDepth 100000 in
theorem readQuote_calls (s : ByteArray) (hs : s.size ≤ 70368744177664) (h0 : 0 < s.size) (hk : cls (s[0]'h0) = 5) (w : World) : Calls Tryz.prog 51 #[.string s] w fun e w' => Ans (tok (bl s)) e ∧ Below w.heap.size w w' := by
  have hcc := cls_cases _ _ hk (by omega)
  simp at hcc
  obtain ⟨a1, a2, a3, a4⟩ := hcc
  obtain ⟨QT, hQ⟩ : ∃ QT, QT = (textOf ((bl s).drop 1)).map (fun p => (p.1, p.2 + 1)) := ⟨_, rfl⟩
  have ht : tok (bl s) = QT.map (fun p => (⟨6, p.1, 0⟩, p.2)) := by
    rw [hQ, Option.map_map, bl_cons s h0, tok, if_neg (by simp [a1]), if_neg (by simp [a2]), if_neg a3, if_pos a4]
    rfl
  have HT := Aside0.mk ht
  have hQ0 : QT = (textOf ((bl s).drop 1)).map (fun p => ([] ++ p.1, 1 + p.2)) := by
    rw [hQ]; congr 1; funext p; simp [Nat.add_comm]
  have HQ := Aside0.mk hQ0
  clear ht hQ hQ0 hk a1 a2 a3 a4
  have HB0 : Aside0 (Lib.IsBuilder 68 5 (w.heap.size + 1) (w.heap.size + 1) (Lib.byteCells []) ((w.alloc (.cells #[.int .i64 0, .string ⟨#[]⟩, .int .i64 0, .int .i64 0] 28)).alloc (.cells #[.pointer none, .slice none 0 0] 68))) := ⟨.inl ⟨Nat.le_refl _, .slice none 0 0, by have := heap_alloc_new (w.alloc (.cells #[.int .i64 0, .string ⟨#[]⟩, .int .i64 0, .int .i64 0] 28)) (.cells #[.pointer none, .slice none 0 0] 68); rw [show (w.alloc (.cells #[.int .i64 0, .string ⟨#[]⟩, .int .i64 0, .int .i64 0] 28)).heap.size = w.heap.size + 1 by simp] at this; exact this, World.ownsRow_nil _ _ _ _, by simp [Value.ownBlock]⟩⟩
  have HW0 : Aside0 (Below w.heap.size w ((w.alloc (.cells #[.int .i64 0, .string ⟨#[]⟩, .int .i64 0, .int .i64 0] 28)).alloc (.cells #[.pointer none, .slice none 0 0] 68))) := ⟨((Below.refl _ _).alloc (Nat.le_refl _) _).alloc (by simp) _⟩
  have HK0 : Aside0 (((w.alloc (.cells #[.int .i64 0, .string ⟨#[]⟩, .int .i64 0, .int .i64 0] 28)).alloc (.cells #[.pointer none, .slice none 0 0] 68)).heap[w.heap.size]? = some (.cells #[.int .i64 0, .string ⟨#[]⟩, .int .i64 0, .int .i64 0] 28 (0, 0))) := ⟨blk_alloc (blk_new w _) _⟩
  have HS0 : Aside0 (w.heap.size + 1 ≤ ((w.alloc (.cells #[.int .i64 0, .string ⟨#[]⟩, .int .i64 0, .int .i64 0] 28)).alloc (.cells #[.pointer none, .slice none 0 0] 68)).heap.size) := ⟨by simp⟩
  go_enter Tryz.func51, Tryz.ntmps51
  go_wp2_with fail
  go_loopw [6] (fun v6 wr => ∃ (p : Nat) (L : List UInt8), v6 = .int .i64 (p : Int) ∧ 1 ≤ p ∧ p ≤ s.size ∧ L.length ≤ p ∧ Aside0 (QT = (textOf ((bl s).drop p)).map (fun q => (L ++ q.1, p + q.2))) ∧ Aside0 (Lib.IsBuilder 68 5 (w.heap.size + 1) (w.heap.size + 1) (Lib.byteCells L) wr) ∧ Aside0 (Below w.heap.size w wr) ∧ Aside0 (wr.heap[w.heap.size]? = some (.cells #[.int .i64 0, .string ⟨#[]⟩, .int .i64 0, .int .i64 0] 28 (0, 0))) ∧ Aside0 (w.heap.size + 1 ≤ wr.heap.size)) (fun v6 _ => s.size - (intOf v6).toNat)
  case atStart => exact ⟨1, [], rfl, by omega, by omega, by simp, HQ, HB0, HW0, HK0, HS0⟩
  case round =>
    clear HQ HB0 HW0 HK0 HS0
    obtain ⟨p, L, rfl, hp1, hp2, hL, HQ, HB, HW, HK, HS⟩ := hrel
    have hbl := bl_from s p
    obtain ⟨j, hj⟩ : ∃ j, Lib.indexByte ((bl s).drop p) 39 = j := ⟨_, rfl⟩
    have hjl : Lib.indexByte (bl (s.extract p s.size)) ((39 : Int).toNat.toUInt8) = j := by rw [hbl]; exact hj
    have HJ := Aside0.mk hjl
    have hge := Lib.indexByte_ge ((bl s).drop p) 39
    rw [hj] at hge
    clear hjl hbl
    by_cases hneg : j < 0
    · have hd : decide (j < 0) = true := by simp; omega
      have hn := quote_none _ (by rw [hj]; exact hneg)
      have HNN := Aside0.mk hn
      have d0 := blk_cell HK.out 0
      have d1 := blk_cell HK.out 1
      have d2 := blk_cell HK.out 2
      have d3 := blk_cell HK.out 3
      have f0 := fun i => blk_frozen HK.out i
      clear hn hj
      go_wp2_with (go_at_call 45; refine (Tryz.strings_IndexByte _ _ _).mono ?_; rintro e w' ⟨rfl, rfl⟩; rw [show Lib.indexByte _ _ = _ from HJ.out])
      refine tok_ret rfl w _ _ _ _ _ _ _ _ _ _ _ HW.out HK.out rfl ?_
      rw [HT.out, HQ.out, HNN.out]
      exact ⟨⟨0, [], 0⟩, 0, rfl⟩
    · obtain ⟨n, rfl⟩ : ∃ n : Nat, j = (n : Int) := ⟨j.toNat, by omega⟩
      obtain ⟨hnl, hsp⟩ := quote_split _ n hj
      rw [List.length_drop, bl_len] at hnl
      have HSP := Aside0.mk hsp
      have hd : decide ((n : Int) < 0) = false := by simp
      have hb1 : (p : Int) + (n : Int) ≤ (s.size : Int) := by omega
      have hb2 : p + n ≤ s.size := by omega
      have hb3 : (p : Int) ≤ (p : Int) + (n : Int) := by omega
      have hb4 : (p : Int) + ((n : Int) + 1) ≤ (s.size : Int) := by omega
      have hb5 : p + (n + 1) ≤ s.size := by omega
      have hw1 : wrap64 ((p : Int) + (n : Int)) = (p : Int) + (n : Int) := by unfold wrap64; omega
      have hw2 : wrap64 ((n : Int) + 1) = (n : Int) + 1 := by unfold wrap64; omega
      have hw3 : wrap64 ((p : Int) + ((n : Int) + 1)) = (p : Int) + ((n : Int) + 1) := by unfold wrap64; omega
      have hxb : bl (s.extract p (p + n)) = ((bl s).drop p).take n := by rw [bl_extract, Nat.add_sub_cancel_left]
      have hxs : (s.extract p (p + n)).size = n := by rw [← bl_len, hxb, List.length_take, List.length_drop, bl_len]; omega
      have HX := Aside0.mk hxb
      have HXS := Aside0.mk hxs
      clear hj hsp hxb hxs hge hneg
      go_wp2_with (go_at_call 45; refine (Tryz.strings_IndexByte _ _ _).mono ?_; rintro e w' ⟨rfl, rfl⟩; rw [show Lib.indexByte _ _ = _ from HJ.out])
      refine (Build.WriteString (w.heap.size + 1) (w.heap.size + 1) (Lib.byteCells L) (s.extract p (p + n)) _ (by exact HB.out) (by rw [Lib.byteCells_length, HXS.out]; omega) (by exact HS.out)).mono ?_
      rintro e w2 ⟨rfl, hB2, hb2⟩
      have hB2' : Lib.IsBuilder 68 5 (w.heap.size + 1) (w.heap.size + 1) (Lib.byteCells (L ++ ((bl s).drop p).take n)) w2 := by rw [← byteCells_app, ← HX.out]; exact hB2
      have HB2 := Aside0.mk hB2'
      have HW2 : Aside0 (Below w.heap.size w w2) := ⟨HW.out.trans (below_le hb2 (Nat.le_succ _))⟩
      have HK2 : Aside0 (w2.heap[w.heap.size]? = some (.cells #[.int .i64 0, .string ⟨#[]⟩, .int .i64 0, .int .i64 0] 28 (0, 0))) := ⟨(hb2.block w.heap.size (Nat.lt_succ_self _)).trans HK.out⟩
      have HS2 : Aside0 (w.heap.size + 1 ≤ w2.heap.size) := ⟨Nat.le_trans HS.out hb2.size⟩
      have hpb : bl (s.extract (p + (n + 1)) s.size) = (bl s).drop (p + (n + 1)) := bl_from s _
      obtain ⟨q, hq⟩ : ∃ q, Lib.hasPrefix (bl (s.extract (p + (n + 1)) s.size)) [39] = q := ⟨_, rfl⟩
      have hq2 : (((bl s).drop p)[n + 1]? == some 39) = q := by
        rw [← hq, hasP1, hpb, List.getElem?_drop, List.getElem?_drop]
        rfl
      have HQP := Aside0.mk hq
      have HQ2 := Aside0.mk hq2
      clear hB2 hb2 hB2' HB HW HK HS hpb hq hq2 HXS HX HJ
      cases q with
      | false =>
        have hlen : (L ++ ((bl s).drop p).take n).length ≤ p + n := by rw [List.length_append, List.length_take]; omega
        go_wp2_with (go_at_call 25; refine (Tryz.strings_HasPrefix _ _ _).mono ?_; rintro e w' ⟨rfl, rfl⟩; rw [show Lib.hasPrefix _ _ = _ from HQP.out])
        refine (Tryz.Builder_String_any (w.heap.size + 1) (w.heap.size + 1) (L ++ ((bl s).drop p).take n) _ (by exact HB2.out) (by exact HS2.out)).mono ?_
        rintro e w3 ⟨rfl, hb3⟩
        have HW3 : Aside0 (Below w.heap.size w w3) := ⟨HW2.out.trans (below_le hb3 (Nat.le_succ _))⟩
        have HK3 : Aside0 (w3.heap[w.heap.size]? = some (.cells #[.int .i64 0, .string ⟨#[]⟩, .int .i64 0, .int .i64 0] 28 (0, 0))) := ⟨(hb3.block w.heap.size (Nat.lt_succ_self _)).trans HK2.out⟩
        have d0 := blk_cell HK3.out 0
        have d1 := blk_cell HK3.out 1
        have d2 := blk_cell HK3.out 2
        have d3 := blk_cell HK3.out 3
        have f0 := fun i => blk_frozen HK3.out i
        clear hb3
        go_wp2
        refine tok_ret rfl w _ _ _ _ _ _ _ _ _ _ _ HW3.out HK3.out rfl ?_
        have hsp := HSP.out
        have hne : ((bl s).drop p)[n + 1]? ≠ some 39 := by have := HQ2.out; simpa using this
        rw [if_neg hne] at hsp
        rw [HT.out, HQ.out, hsp]
        show _ = _
        simp [tokV]
      | true =>
        go_wp2_with (go_at_call 25; refine (Tryz.strings_HasPrefix _ _ _).mono ?_; rintro e w' ⟨rfl, rfl⟩; rw [show Lib.hasPrefix _ _ = _ from HQP.out])
        have hlt : p + (n + 1) < s.size := by
          have h1 : ((bl s).drop p)[n + 1]? = some 39 := by have := HQ2.out; simpa using this
          rw [List.getElem?_drop] at h1
          have := (List.getElem?_eq_some_iff.1 h1).1
          rw [bl_len] at this; exact this
        have hlen : (L ++ ((bl s).drop p).take n).length ≤ p + n := by rw [List.length_append, List.length_take]; omega
        have hw4 : wrap64 ((p : Int) + ((n : Int) + 1) + 1) = (p : Int) + ((n : Int) + 1) + 1 := by unfold wrap64; omega
        refine (Build.WriteByte (w.heap.size + 1) (w.heap.size + 1) (Lib.byteCells (L ++ ((bl s).drop p).take n)) 39 _ (by exact HB2.out) (by rw [Lib.byteCells_length]; omega) (by exact HS2.out)).mono ?_
        rintro e w3 ⟨rfl, hB3, hb3⟩
        have hB3' : Lib.IsBuilder 68 5 (w.heap.size + 1) (w.heap.size + 1) (Lib.byteCells (L ++ ((bl s).drop p).take n ++ [39])) w3 := by rw [← byteCells_app]; exact hB3
        have HB3 := Aside0.mk hB3'
        have HW3 : Aside0 (Below w.heap.size w w3) := ⟨HW2.out.trans (below_le hb3 (Nat.le_succ _))⟩
        have HK3 : Aside0 (w3.heap[w.heap.size]? = some (.cells #[.int .i64 0, .string ⟨#[]⟩, .int .i64 0, .int .i64 0] 28 (0, 0))) := ⟨(hb3.block w.heap.size (Nat.lt_succ_self _)).trans HK2.out⟩
        have HS3 : Aside0 (w.heap.size + 1 ≤ w3.heap.size) := ⟨Nat.le_trans HS2.out hb3.size⟩
        clear hB3 hb3 hB3'
        go_wp2_with fail
        go_roundw
        case rel =>
          refine ⟨p + (n + 1) + 1, L ++ ((bl s).drop p).take n ++ [39], by go_num, by omega, by omega, by rw [List.length_append, List.length_singleton]; omega, ⟨?_⟩, HB3, HW3, HK3, HS3⟩
          have hsp := HSP.out
          have hye : ((bl s).drop p)[n + 1]? = some 39 := by have := HQ2.out; simpa using this
          rw [if_pos hye, List.drop_drop] at hsp
          rw [HQ.out, hsp, Option.map_map, show p + (n + 1) + 1 = p + (n + 2) by omega]
          congr 1
          funext q
          simp only [Function.comp, List.append_assoc, Prod.mk.injEq, List.cons_append, List.nil_append, true_and]
          omega
        case measure => simp [intOf]; omega
theorem com_index : ∀ K : List UInt8, Lib.indexByte K 34 = match comLen K with | none => -1 | some n => (n : Int)
  | [] => rfl
  | c :: K => by
    rw [Lib.indexByte, comLen, com_index K]
    by_cases hc : c = 34
    · subst hc; rfl
    · rw [if_neg (by simpa using hc), if_neg hc]
      cases comLen K with
      | none => rfl
      | some n =>
        have : ¬ (((n : Int) == -1) = true) := by simp
        simp only [Option.map_some]
        rw [if_neg this]
        exact (Int.natCast_succ n).symm
theorem blank_byte (c : UInt8) : decide ((0 : Int) ≤ Lib.indexByte [32, 9, 10, 13] c) = isB c := by
  have key : ∀ c : Fin 256, decide ((0 : Int) ≤ Lib.indexByte [32, 9, 10, 13] (UInt8.ofNat c.val)) = isB (UInt8.ofNat c.val) := by decide +kernel
  have := key ⟨c.toNat, c.toNat_lt⟩
  simpa using this
theorem drop_at (s : ByteArray) (p : Nat) (h : p < s.size) : (bl s).drop p = s[p]'h :: (bl s).drop (p + 1) := by
  have h1 : p < (bl s).length := by rw [bl_len]; exact h
  rw [List.drop_eq_getElem_cons h1]
  rfl
set_option maxHeartbeats 2000000 in
set_option maxRecDepth 100000 in
theorem skip_calls (s : ByteArray) (hs : s.size ≤ 281474976710656) (w : World) : Calls Tryz.prog 29 #[.string s] w fun e w' => e = .returned (.tuple #[.int .i64 ((skip (bl s)).1 : Int), .bool (skip (bl s)).2]) ∧ Below w.heap.size w w' := by
  obtain ⟨QT, hQ⟩ : ∃ QT, skip (bl s) = QT := ⟨_, rfl⟩
  rw [hQ]
  have HQ0 : Aside0 (QT = (0 + (skip ((bl s).drop 0)).1, (skip ((bl s).drop 0)).2)) := ⟨by rw [List.drop_zero, hQ, Nat.zero_add]⟩
  clear hQ
  go_enter Tryz.func29, Tryz.ntmps29
  go_wp2_with fail
  go_loopw [4] (fun v4 wr => ∃ p : Nat, v4 = .int .i64 (p : Int) ∧ p ≤ s.size ∧ Aside0 (QT = (p + (skip ((bl s).drop p)).1, (skip ((bl s).drop p)).2)) ∧ Aside0 (Below w.heap.size w wr)) (fun v4 _ => s.size - (intOf v4).toNat)
  case atStart => exact ⟨0, rfl, by omega, HQ0, ⟨Below.refl _ _⟩⟩
  case round =>
    clear HQ0
    obtain ⟨p, rfl, hp, HQ, HW⟩ := hrel
    by_cases hlt : p < s.size
    · have b1 : decide ((p : Int) < (s.size : Int)) = true := decide_eq_true (by omega)
      have b2 : (p : Int) < (s.size : Int) := by omega
      have hd := drop_at s p hlt
      have hbk := blank_byte (s[p]'hlt)
      have hcq : ((s[p]'hlt).toNat : Int).toNat.toUInt8 = s[p]'hlt := by rw [Int.toNat_natCast]; simp
      have HC := Aside0.mk hcq
      obtain ⟨b, hb⟩ : ∃ b, isB (s[p]'hlt) = b := ⟨_, rfl⟩
      rw [hb] at hbk
      have HD := Aside0.mk hd
      have HB := Aside0.mk hb
      have hw1 : wrap64 ((p : Int) + 1) = (p : Int) + 1 := by unfold wrap64; omega
      clear hd hb hcq
      cases b with
      | true =>
        go_wp2_with (go_at_call 45; refine (Tryz.strings_IndexByte _ _ _).mono ?_; rintro e w' ⟨rfl, rfl⟩; rw [HC.out])
        go_roundw
        case rel =>
          refine ⟨p + 1, by go_num, by omega, ⟨?_⟩, HW⟩
          rw [HQ.out, HD.out, skip_blank _ HB.out]
          simp only
          rw [show p + ((skip ((bl s).drop (p + 1))).1 + 1) = p + 1 + (skip ((bl s).drop (p + 1))).1 by omega]
        case measure => simp [intOf]; omega
      | false =>
        have h34 := byte_eq (s[p]'hlt) 34 (by omega)
        by_cases hc : s[p]'hlt = 34
        · have h34' : (((s[p]'hlt).toNat : Int) == 34) = true := by rw [hc]; rfl
          have hci := com_index ((bl s).drop (p + 1))
          have hfr := bl_from s (p + 1)
          have HCC := Aside0.mk hc
          have hb5 : (p : Int) + 1 ≤ (s.size : Int) := by omega
          have hb6 : p + 1 ≤ s.size := by omega
          have hsk : skip ((bl s).drop p) = skip (34 :: (bl s).drop (p + 1)) := by rw [HD.out, hc]
          cases hl : comLen ((bl s).drop (p + 1)) with
          | none =>
            have HJ : Aside0 (Lib.indexByte (bl (s.extract (p + 1) s.size)) ((34 : Int).toNat.toUInt8) = -1) := ⟨by rw [hfr]; rw [hl] at hci; exact hci⟩
            have HS : Aside0 (QT = (p, false)) := ⟨by rw [HQ.out, hsk, skip_open _ hl]; rfl⟩
            clear hci hfr hl h34 hc hsk
            go_wp2_with (first
              | (go_at_call 45; refine (Tryz.strings_IndexByte _ _ _).mono ?_; rintro e w' ⟨rfl, rfl⟩; rw [HC.out])
              | (go_at_call 45; refine (Tryz.strings_IndexByte _ _ _).mono ?_; rintro e w' ⟨rfl, rfl⟩; rw [show Lib.indexByte _ _ = _ from HJ.out]))
            go_ret2
            exact ⟨by rw [HS.out]; rfl, HW.out⟩
          | some n =>
            have hnl : n < ((bl s).drop (p + 1)).length := by
              obtain ⟨b, r, e1, _, e3⟩ := (comLen_some _ _).1 hl
              rw [e1, List.length_append, List.length_cons, e3]; omega
            rw [List.length_drop, bl_len] at hnl
            have hb7 : (p : Int) + ((n : Int) + 2) ≤ (s.size : Int) := by omega
            have hb8 : p + (n + 2) ≤ s.size := by omega
            have hd5 : decide ((n : Int) < 0) = false := by simp
            have hw2 : wrap64 ((n : Int) + 2) = (n : Int) + 2 := by unfold wrap64; omega
            have hw3 : wrap64 ((p : Int) + ((n : Int) + 2)) = (p : Int) + ((n : Int) + 2) := by unfold wrap64; omega
            have HJ : Aside0 (Lib.indexByte (bl (s.extract (p + 1) s.size)) ((34 : Int).toNat.toUInt8) = (n : Int)) := ⟨by rw [hfr]; rw [hl] at hci; exact hci⟩
            have HS : Aside0 (QT = (p + (n + 2) + (skip ((bl s).drop (p + (n + 2)))).1, (skip ((bl s).drop (p + (n + 2)))).2)) := ⟨by
              rw [HQ.out, hsk, skip_com _ _ hl, List.drop_drop, show p + 1 + (n + 1) = p + (n + 2) by omega]
              simp only [Prod.mk.injEq, and_true]
              omega⟩
            clear hci hfr hl h34 hc hsk
            go_wp2_with (first
              | (go_at_call 45; refine (Tryz.strings_IndexByte _ _ _).mono ?_; rintro e w' ⟨rfl, rfl⟩; rw [HC.out])
              | (go_at_call 45; refine (Tryz.strings_IndexByte _ _ _).mono ?_; rintro e w' ⟨rfl, rfl⟩; rw [show Lib.indexByte _ _ = _ from HJ.out]))
            go_roundw
            case rel => exact ⟨p + (n + 2), by go_num, hb8, HS, HW⟩
            case measure => simp [intOf]; omega
        · have hne : (s[p]'hlt == UInt8.ofNat 34) = false := by simpa using hc
          have h34' : (((s[p]'hlt).toNat : Int) == 34) = false := by
            have := h34.trans hne
            exact this
          have HS : Aside0 (QT = (p, true)) := ⟨by rw [HQ.out, HD.out, skip_stop _ HB.out hc]; rfl⟩
          clear h34 hc hne
          go_wp2_with (go_at_call 45; refine (Tryz.strings_IndexByte _ _ _).mono ?_; rintro e w' ⟨rfl, rfl⟩; rw [HC.out])
          go_ret2
          exact ⟨by rw [HS.out]; rfl, HW.out⟩
    · have b1 : decide ((p : Int) < (s.size : Int)) = false := decide_eq_false (by omega)
      have HS : Aside0 (QT = (p, true)) := ⟨by rw [HQ.out, List.drop_eq_nil_of_le (by rw [bl_len]; omega), skip_nil]; rfl⟩
      go_wp2_with fail
      go_ret2
      exact ⟨by rw [HS.out]; rfl, HW.out⟩
end Go.Proofs.YtjibdaigclgmhaaGreatDoor.LexW
namespace Go.Proofs.YtjibdaigclgmhaaGreatDoor.LexW
open Go.RowKit Go.Maps Go.Proofs.YtjibdaigclgmhaaGreatDoor.Lex Go.Proofs.YtjibdaigclgmhaaGreatDoor.PLexPrints Go.Proofs.YtjibdaigclgmhaaGreatDoorW.PrintWords Go.Proofs.YtjibdaigclgmhaaGreatDoorW.PrintLast Go.Proofs.YtjibdaigclgmhaaGreatDoorW.PrintMore
attribute [local go_sem] max2_int min2_int max_two min_two max_three min_three max_four min_four
set_option linter.unusedVariables false
set_option linter.unusedSimpArgs false
def rdrs : Array Value := #[.func (.func 46) #[] #[], .func (.func 47) #[] #[], .func (.func 48) #[] #[], .func (.func 49) #[] #[], .func (.func 50) #[] #[], .func (.func 51) #[] #[], .func (.func 52) #[] #[]]
set_option maxHeartbeats 2000000 in
set_option maxRecDepth 100000 in
theorem readers_calls (w : World) : Calls Tryz.prog 30 #[] w fun e w' => ∃ B, e = .returned (.slice (some ⟨B, 0, none⟩) 7 7) ∧ w'.heap[B]? = some (.cells rdrs 61 (0, 0)) ∧ w.heap.size ≤ B ∧ Below w.heap.size w w' := by
  go_enter Tryz.func30, Tryz.ntmps30
  go_wp2
  go_ret
  exact ⟨w.heap.size, rfl, blk_new w _, Nat.le_refl _, (Below.refl _ _).alloc (Nat.le_refl _) _⟩
/-- the reader of a class -/
theorem reader_all (s : ByteArray) (hs : s.size ≤ 70368744177664) (h0 : 0 < s.size) : ∃ f, rdrs[(cls (s[0]'h0)).toNat]? = some (.func (.func f) #[] #[]) ∧ (∀ args w, (callFunc f args).run Tryz.prog w = .ok (.enter f args) w) ∧ (∀ w, Erg w → Calls Tryz.prog f #[.string s] w fun e w' => Ans (tok (bl s)) e ∧ Below w.heap.size w w') := by
  have e66 : ∀ args w, (callFunc 46 args).run Tryz.prog w = .ok (.enter 46 args) w := enters_of Tryz.func46 (by kernel_rfl) rfl
  have e67 : ∀ args w, (callFunc 47 args).run Tryz.prog w = .ok (.enter 47 args) w := enters_of Tryz.func47 (by kernel_rfl) rfl
  have e68 : ∀ args w, (callFunc 48 args).run Tryz.prog w = .ok (.enter 48 args) w := enters_of Tryz.func48 (by kernel_rfl) rfl
  have e69 : ∀ args w, (callFunc 49 args).run Tryz.prog w = .ok (.enter 49 args) w := enters_of Tryz.func49 (by kernel_rfl) rfl
  have e70 : ∀ args w, (callFunc 50 args).run Tryz.prog w = .ok (.enter 50 args) w := enters_of Tryz.func50 (by kernel_rfl) rfl
  have e71 : ∀ args w, (callFunc 51 args).run Tryz.prog w = .ok (.enter 51 args) w := enters_of Tryz.func51 (by kernel_rfl) rfl
  have e72 : ∀ args w, (callFunc 52 args).run Tryz.prog w = .ok (.enter 52 args) w := enters_of Tryz.func52 (by kernel_rfl) rfl
  have hall : cls (s[0]'h0) = 0 ∨ cls (s[0]'h0) = 1 ∨ cls (s[0]'h0) = 2 ∨ cls (s[0]'h0) = 3 ∨ cls (s[0]'h0) = 4 ∨ cls (s[0]'h0) = 5 ∨ cls (s[0]'h0) = 6 := by
    unfold cls
    repeat' split
    all_goals simp
  rcases hall with h | h | h | h | h | h | h
  · refine ⟨46, by rw [h]; rfl, e66, fun w _ => ?_⟩
    have ht : tok (bl s) = none := by rw [bl_cons s h0]; exact cls_zero _ h _
    rw [ht]
    exact readOther_calls s w
  · refine ⟨47, by rw [h]; rfl, e67, fun w _ => readWord_calls s (by omega) h0 ?_ w⟩
    have := cls_cases _ _ h (by omega)
    simpa using this
  · exact ⟨48, by rw [h]; rfl, e68, fun w E => readNumber_calls s (by omega) h0 h w E⟩
  · exact ⟨49, by rw [h]; rfl, e69, fun w _ => readHash_calls s (by omega) h0 h w⟩
  · exact ⟨50, by rw [h]; rfl, e70, fun w _ => readSign_calls s (by omega) h0 h w⟩
  · exact ⟨51, by rw [h]; rfl, e71, fun w _ => readQuote_calls s hs h0 h w⟩
  · exact ⟨52, by rw [h]; rfl, e72, fun w _ => readMark_calls s (by omega) h0 h w⟩
theorem cls_range (c : UInt8) : 0 ≤ cls c ∧ cls c < 7 := by
  unfold cls
  repeat' split
  all_goals simp
theorem lexF_fuel : ∀ (f : Nat) (K : List UInt8) (a f' : Nat), K.length < f → K.length < f' → lexF f K a = lexF f' K a := by
  intro f
  induction f with
  | zero => intro K a f' h; omega
  | succ f ih =>
    intro K a f' h h'
    obtain ⟨f', rfl⟩ : ∃ g, f' = g + 1 := ⟨f' - 1, by omega⟩
    rw [lexF, lexF]
    split
    · cases hd : K.drop (skip K).1 with
      | nil => rfl
      | cons c r =>
        simp only
        cases ht : tok (c :: r) with
        | none => rfl
        | some q =>
          obtain ⟨t, k⟩ := q
          have hle := tok_le _ _ _ ht
          have hlen : (c :: r).length ≤ K.length := by rw [← hd, List.length_drop]; omega
          simp only
          rw [ih ((c :: r).drop k) _ f' (by rw [List.length_drop]; omega) (by rw [List.length_drop]; omega)]
    · rfl
def cutR (K : List UInt8) (a : Nat) : List TokA ⊕ Nat := lexF (K.length + 1) K a
def pre (L : List TokA) : List TokA ⊕ Nat → List TokA ⊕ Nat
  | .inl l => .inl (L ++ l)
  | .inr e => .inr e
theorem cutR_bad (K : List UInt8) (a n : Nat) (h : skip K = (n, false)) : cutR K a = .inr (a + n) := by
  rw [cutR, lexF, h]; rfl
theorem cutR_stop (K : List UInt8) (a n : Nat) (h : skip K = (n, true)) (hd : K.drop n = []) : cutR K a = .inl [⟨stopT, a + n⟩] := by
  rw [cutR, lexF, h]
  simp only [if_true, hd]
theorem cutR_none (K : List UInt8) (a n : Nat) (h : skip K = (n, true)) (hne : K.drop n ≠ []) (ht : tok (K.drop n) = none) : cutR K a = .inr (a + n) := by
  rw [cutR, lexF, h]
  simp only [if_true]
  cases hd : K.drop n with
  | nil => exact absurd hd hne
  | cons c r => rw [hd] at ht; simp only [ht]
theorem cutR_some (K : List UInt8) (a n k : Nat) (t : Tok) (h : skip K = (n, true)) (ht : tok (K.drop n) = some (t, k)) : cutR K a = pre [⟨t, a + n⟩] (cutR (K.drop (n + k)) (a + n + k)) := by
  have hle := tok_le _ _ _ ht
  rw [cutR, lexF, h]
  simp only [if_true]
  cases hd : K.drop n with
  | nil => rw [hd] at ht; simp [tok] at ht
  | cons c r =>
    rw [hd] at ht hle
    simp only [ht]
    have hlen : (c :: r).length ≤ K.length := by rw [← hd, List.length_drop]; omega
    rw [← List.drop_drop, hd, cutR, lexF_fuel K.length ((c :: r).drop k) _ (((c :: r).drop k).length + 1) (by rw [List.length_drop]; omega) (Nat.lt_succ_self _)]
    rfl
theorem pre_pre (A B : List TokA) (r : List TokA ⊕ Nat) : pre A (pre B r) = pre (A ++ B) r := by
  cases r <;> simp [pre]
def tokS (t : TokA) : S28 := ⟨t.tok.kind, ⟨t.tok.text.toArray⟩, t.tok.num, (t.place : Int)⟩
theorem skip_le : ∀ (n : Nat) (s : List UInt8), s.length ≤ n → (skip s).1 ≤ s.length := by
  intro n
  induction n with
  | zero =>
    intro s hs
    have : s = [] := List.eq_nil_of_length_eq_zero (by omega)
    subst this; exact Nat.le_refl _
  | succ n ih =>
    intro s hs
    cases s with
    | nil => exact Nat.le_refl _
    | cons c r =>
      simp only [List.length_cons] at hs ⊢
      cases hb : isB c with
      | true => rw [skip_blank c hb]; have := ih r (by omega); simp only; omega
      | false =>
        by_cases hc : c = 34
        · subst hc
          cases hl : comLen r with
          | none => rw [skip_open r hl]; simp
          | some k =>
            rw [skip_com r k hl]
            have hk : k < r.length := by
              obtain ⟨b, r', e1, _, e3⟩ := (comLen_some _ _).1 hl
              rw [e1, List.length_append, List.length_cons, e3]; omega
            have := ih (r.drop (k + 1)) (by rw [List.length_drop]; omega)
            rw [List.length_drop] at this
            simp only; omega
        · rw [skip_stop c hb hc]; simp
theorem skip_at (s : ByteArray) (hs : s.size ≤ 1099511627776) (p n : Nat) (ok : Bool) (h : skip ((bl s).drop p) = (n, ok)) (w : World) : Calls Tryz.prog 29 #[.string (s.extract p s.size)] w fun e w' => e = .returned (.tuple #[.int .i64 (n : Int), .bool ok]) ∧ Below w.heap.size w w' := by
  have hb := bl_from s p
  have hl : (s.extract p s.size).size ≤ s.size := by rw [← bl_len, hb, List.length_drop, bl_len]; omega
  have := skip_calls (s.extract p s.size) (by omega) w
  rw [hb, h] at this
  exact this
theorem goesV_ {P : Program} {ops : Array Oper} {Q : Exit → Act → World → Prop} {oi : Oper} {N : Option Tmp} {a : Act} {w : World} {K : Act → World → Prop} {f : FuncId} {as_ : Array Operand} {ts : Array TypeId} (o : Operand) (args : Array Value)
    (hw : Region.wanted oi (yielded ops a.tmps) = true) (hN : oi.dst = N) (hop : oi.op = .call { callee := .value o, args := as_, argTypes := ts }) (ho : a.eval o = .func (.func f) #[] #[]) (he : ∀ args w, (callFunc f args).run P w = .ok (.enter f args) w) (hargs : as_.map a.eval = args)
    (h : Calls P f args w fun e w' => ∃ v, e = .returned v ∧ K (a.put N v) w') : if Region.wanted oi (yielded ops a.tmps) = true then Oper.wp P oi a w K Q else K (a.put N undef) w := by
  refine call_ f args hw hN ?_ h
  have he := he args w
  unfold execOp
  simp [hop, ho, resolve, Deferred.ofValue, invoke, hargs, he]
theorem R_fault {W : World} {b : Nat} {v : Value} {xs : List S28} (h : Kd.R k28 28 W (b + 1) (fun _ => True) v xs) (j : Nat) (u : Value) : Kd.R k28 28 (W.setCell ⟨b, j, none⟩ u) (b + 1) (fun _ => True) v xs :=
  Kd.R_mono (Kd.R_step (Kd.R_bound h) (fun k ho _ => Below.heap_setCell W _ u k (by have := ho.2.1; show k ≠ b; omega))) (fun _ _ => trivial)
theorem R_mine {W : World} {b T : Nat} {v : Value} {xs : List S28} (h : Kd.R k28 28 W b (fun _ => True) v xs) (hT : ∀ k, v.ownBlock = some k → k < T) (j : Nat) (u : Value) : Kd.R k28 28 (W.setCell ⟨T, j, none⟩ u) b (fun _ => True) v xs :=
  Kd.R_mono (Kd.R_step (Kd.R_tight rfl h) (fun k ho _ => Below.heap_setCell W _ u k (by have := hT k ho.symm; show k ≠ T; omega))) (fun _ _ => trivial)
def CutPost (LX : List TokA ⊕ Nat) (w : World) (e : Ending) (w' : World) : Prop :=
    (match LX with
     | .inl l => ∃ v, e = .returned (.tuple #[v, .agg #[.int .i64 0, .int .i64 0]]) ∧ Kd.R k28 28 w' (w.heap.size + 1) (fun _ => True) v (l.map tokS)
     | .inr a => e = .returned (.tuple #[.slice none 0 0, .agg #[.int .i64 70, .int .i64 (a : Int)]])) ∧ Below w.heap.size w w'
theorem cut_ret {fn : Func} {u p : Tmp} (hres : fn.results = #[.tmp u, .cell p 38]) (w W : World) (tmps : Array Value) (a b x0 x1 : Value) (Q : Ending → World → Prop)
    (HK : W.heap[w.heap.size]? = some (.cells #[a, b] 38 (0, 0))) (hp : tmps.getD p undef = .pointer (some ⟨w.heap.size, 0, none⟩))
    (hQ : Q (.returned (.tuple #[tmps.getD u undef, .agg #[x0, x1]])) ((W.setCell ⟨w.heap.size, 0, none⟩ x0).setCell ⟨w.heap.size, 1, none⟩ x1)) :
    bodyPost Tryz.prog fn Q Exit.ret { tmps := tmps, defers := [] } ((W.setCell ⟨w.heap.size, 0, none⟩ x0).setCell ⟨w.heap.size, 1, none⟩ x1) := by
  have h0 := blk_put HK 0 x0 rfl
  have h1 := blk_put h0 1 x1 rfl
  exact bodyPost_ret (results_tc hres tmps _ w.heap.size 38 _ (0, 0) _ hp h1 Tryz.underlying38 rfl (by kernel_rfl)) rfl hQ
set_option maxHeartbeats 4000000 in
set_option maxRecDepth 100000 in
theorem cut_calls (s : ByteArray) (hs : s.size ≤ 1099511627776) (w : World) (E : Erg w) : Calls Tryz.prog 16 #[.string s] w fun e w' =>
    CutPost (lex (bl s)) w e w' := by
  obtain ⟨LX, hLX⟩ : ∃ LX, lex (bl s) = LX := ⟨_, rfl⟩
  rw [hLX]
  have hl0 : cutR ((bl s).drop 0) 0 = LX := by rw [List.drop_zero, cutR]; exact hLX
  have HL0 : Aside0 (LX = pre [] (cutR ((bl s).drop 0) 0)) := ⟨by rw [hl0]; cases LX <;> rfl⟩
  have HE := Aside0.mk E
  clear hLX hl0 E
  go_enter Tryz.func16, Tryz.ntmps16
  go_wp2_with fail
  obtain ⟨W0, hW0⟩ : ∃ W0, W0 = w.alloc (Obj.cells #[Value.int IntKind.i64 0, Value.int IntKind.i64 0] 38) := ⟨_, rfl⟩
  have hs0 : W0.heap.size = w.heap.size + 1 := by rw [hW0]; simp
  have hB0 : Below w.heap.size w W0 := by rw [hW0]; exact (Below.refl _ _).alloc (Nat.le_refl _) _
  have hF0 : W0.heap[w.heap.size]? = some (.cells #[.int .i64 0, .int .i64 0] 38 (0, 0)) := by rw [hW0]; exact blk_new w _
  rw [← hW0]
  clear hW0
  have HS0 := Aside0.mk hs0
  have HB0 := Aside0.mk hB0
  have HF0 := Aside0.mk hF0
  clear hs0 hB0 hF0
  go_loopw [4, 5] (fun v4 v5 wr => ∃ (p : Nat) (L : List TokA), v5 = .int .i64 (p : Int) ∧ p ≤ s.size ∧ Aside0 (L.length ≤ p) ∧ Aside0 (LX = pre L (cutR ((bl s).drop p) p)) ∧ Aside0 (Kd.R k28 28 wr (w.heap.size + 1) (fun _ => True) v4 (L.map tokS)) ∧ Aside0 (Below (w.heap.size + 1) W0 wr)) (fun _ v5 _ => s.size - (intOf v5).toNat)
  case atStart => exact ⟨0, [], rfl, by omega, ⟨by simp⟩, HL0, ⟨Kd.R_nil _ _ _ _ _⟩, ⟨Below.refl _ _⟩⟩
  case round =>
    clear HL0
    obtain ⟨p, L, rfl, hp, HLP, HL, HR, HW⟩ := hrel
    obtain ⟨⟨n, ok⟩, hsk⟩ : ∃ q, skip ((bl s).drop p) = q := ⟨_, rfl⟩
    have hnl := skip_le _ ((bl s).drop p) (Nat.le_refl _)
    rw [hsk, List.length_drop, bl_len] at hnl
    simp only at hnl
    have HSK := Aside0.mk (skip_at s hs p n ok hsk)
    have HK := Aside0.mk hsk
    have hb1 : (p : Int) + (n : Int) ≤ (s.size : Int) := by omega
    have hb2 : p + n ≤ s.size := by omega
    have hw1 : wrap64 ((p : Int) + (n : Int)) = (p : Int) + (n : Int) := by unfold wrap64; omega
    have hpi : (p : Int) ≤ (s.size : Int) := by omega
    clear hsk
    cases ok with
    | false =>
      go_wp2_with (go_at_call 29; with_reducible refine (HSK.out _).mono ?_; rintro e w1 ⟨rfl, hb⟩; replace HR := Aside0.mk (Kd.R_below HR.out hb); have HW2 := Aside0.mk (below_then HW.out (by have := HW.out.size; rw [HS0.out] at this; exact this) hb); have hf := (HW2.out.block w.heap.size (Nat.lt_succ_self _)).trans HF0.out; have hf2 := blk_alloc hf (.cells #[.int .i64 0, .string ⟨#[]⟩, .int .i64 0, .int .i64 0] 28 (0, 0)); have HF := Aside0.mk hf2; have d0 := blk_cell hf2 0; have d1 := blk_cell hf2 1; have f0 := fun i => blk_frozen hf2 i; clear hf hb hf2)
      have hlx : LX = .inr (p + n) := by rw [HL.out, cutR_bad _ _ _ HK.out]; rfl
      refine cut_ret rfl w _ _ _ _ _ _ _ HF.out rfl ⟨?_, ?_⟩
      · rw [hlx]; rfl
      · exact (((HB0.out.trans (below_le HW2.out (Nat.le_succ _))).alloc (by have := HW2.out.size; rw [HS0.out] at this; omega) _).setCell (Nat.le_refl _) _).setCell (Nat.le_refl _) _
    | true =>
      have hle : (p : Int) + (n : Int) ≤ (s.size : Int) := hb1
      by_cases hend : p + n = s.size
      · have heq : ((p : Int) + (n : Int) == (s.size : Int)) = true := by simp; omega
        have hsc : ∀ x : Nat, ((s.size : Int) == (s.size : Int)) = true := fun _ => by simp
        go_wp2_with (first
          | (go_at_call 29; with_reducible refine (HSK.out _).mono ?_; rintro e w1 ⟨rfl, hb⟩; replace HR := Aside0.mk (Kd.R_below HR.out hb); have HW2 := Aside0.mk (below_then HW.out (by have := HW.out.size; rw [HS0.out] at this; exact this) hb); clear hb)
          | (at_builtin; refine Kd.R_append k28 (w0 := W0) (w.heap.size + 1) rfl (.tmp 26) (.tmp 29) 22 28 (.agg #[(.int .i64 0), (.string ⟨#[]⟩), (.int .i64 0), (.int .i64 0)]) 40 rfl Tryz.underlying22 info28 rfl (by decide) (by omega) _ (L.map tokS) (tokS ⟨stopT, p + n⟩) [.int .i64 18, .string (⟨#[]⟩ : ByteArray), .int .i64 0, .int .i64 ((p : Int) + (n : Int))] (fun _ => True) (fun _ => False) rfl rfl (by exact k28_mkM _ _ _ (tokS ⟨stopT, p + n⟩)) (fun _ hk => hk.elim) (fun _ _ => trivial) (by exact HR.out) (by exact HW2.out) (by have := HW2.out.size; rw [HS0.out] at this; exact this) (by rw [List.length_map]; have := HLP.out; omega) ?_; intro v1 w2 hr2 hb2 hg2 ha2; have HR2 := Aside0.mk hr2; have HW3 := Aside0.mk hb2; have hf := (hb2.block w.heap.size (Nat.lt_succ_self _)).trans HF0.out; have HF := Aside0.mk hf; have d0 := blk_cell hf 0; have d1 := blk_cell hf 1; have f0 := fun i => blk_frozen hf i; clear hf hr2 hb2 hg2 ha2))
        have hlx : LX = .inl (L ++ [⟨stopT, p + n⟩]) := by
          rw [HL.out, cutR_stop _ _ _ HK.out (by rw [List.drop_drop]; exact List.drop_eq_nil_of_le (by rw [bl_len]; omega))]; rfl
        refine cut_ret rfl w _ _ _ _ _ _ _ HF.out rfl ⟨?_, ?_⟩
        · rw [hlx]
          refine ⟨_, rfl, R_fault (R_fault ?_ 0 _) 1 _⟩
          rw [List.map_append]
          exact HR2.out
        · exact ((HB0.out.trans (below_le HW3.out (Nat.le_succ _))).setCell (Nat.le_refl _) _).setCell (Nat.le_refl _) _
      · have heq : ((p : Int) + (n : Int) == (s.size : Int)) = false := by simp; omega
        go_wp2_with (first
          | (go_at_call 29; with_reducible refine (HSK.out _).mono ?_; rintro e w1 ⟨rfl, hb⟩; replace HR := Aside0.mk (Kd.R_below HR.out hb); have HW2 := Aside0.mk (below_then HW.out (by have := HW.out.size; rw [HS0.out] at this; exact this) hb); clear hb))
        have hlt : p + n < s.size := by omega
        have hlti : (p : Int) + (n : Int) < (s.size : Int) := by omega
        have hge0 : (0 : Int) ≤ (p : Int) + (n : Int) := by omega
        have hx := bl_from s (p + n)
        have hxs : (s.extract (p + n) s.size).size = s.size - (p + n) := by rw [← bl_len, hx, List.length_drop, bl_len]
        have hx0 : 0 < (s.extract (p + n) s.size).size := by omega
        have hxc : (s.extract (p + n) s.size)[0]'hx0 = s[p + n]'hlt := by
          have h1 := bl_get _ 0 hx0
          rw [hx, List.getElem?_drop, Nat.add_zero, bl_get s (p + n) hlt] at h1
          exact (Option.some.inj h1).symm
        obtain ⟨f, hfn, hent, hcal⟩ := reader_all (s.extract (p + n) s.size) (by omega) hx0
        rw [hxc] at hfn
        rw [hx] at hcal
        have hcr := cls_range (s[p + n]'hlt)
        have hcr1 := hcr.1
        have hcr2 := hcr.2
        obtain ⟨T, hT⟩ : ∃ T, T = w1.heap.size := ⟨_, rfl⟩
        obtain ⟨W1, hW1⟩ : ∃ W1, W1 = w1.alloc (Obj.cells #[Value.int IntKind.i64 0, Value.string { data := #[] }, Value.int IntKind.i64 0, Value.int IntKind.i64 0] 28) := ⟨_, rfl⟩
        have HTB : Aside0 (W1.heap[T]? = some (.cells #[.int .i64 0, .string ⟨#[]⟩, .int .i64 0, .int .i64 0] 28 (0, 0))) := ⟨by rw [hW1, hT]; exact blk_new w1 _⟩
        have HTL : Aside0 (T < W1.heap.size) := ⟨by rw [hW1, hT]; simp⟩
        have HTG : Aside0 (w.heap.size + 1 ≤ T) := ⟨by rw [hT]; have := HW2.out.size; rw [HS0.out] at this; exact this⟩
        have HR1 : Aside0 (Kd.R k28 28 W1 (w.heap.size + 1) (fun _ => True) u4 (L.map tokS)) := ⟨by rw [hW1]; exact Kd.R_alloc HR.out _⟩
        have HRT : Aside0 (∀ k, u4.ownBlock = some k → k < T) := ⟨by rw [hT]; exact Kd.R_lt HR.out⟩
        have HW1 : Aside0 (Below (w.heap.size + 1) W0 W1) := ⟨by rw [hW1]; exact HW2.out.alloc (by have := HTG.out; rw [hT] at this; exact this) _⟩
        have HB1 : Aside0 (Below w.heap.size w W1) := ⟨HB0.out.trans (below_le HW1.out (Nat.le_succ _))⟩
        rw [← hT, ← hW1]
        have HFN := Aside0.mk hfn
        have HENT := Aside0.mk hent
        have HCAL := Aside0.mk hcal
        have HXX := Aside0.mk hxs
        clear hW1 hT hfn hent hcal hx hxs hx0 hxc HR HW2 hcr
        cases htk : tok (((bl s).drop (p + n))) with
        | none =>
          have HTK := Aside0.mk htk
          rw [htk] at HCAL
          clear htk
          refine start_ (n := 19) (S := fun w' => True) (ds := []) #[false, false, false, false, false, false, false, false, false, false, false, false, false, false, false, false, false, false, false] (by kernel_rfl) rfl rfl trivial (fun hHeld => ?_)
          refine pure_ (i := 1) (N := some 35) (v := ?_) (a' := ?_) #[false, true, false, false, false, false, false, false, false, false, false, false, false, false, false, false, false, false, false] rfl rfl (by kernel_rfl) (fun _ _ _ h => h) (Or.inl ⟨by rfl, ?_⟩) ?_ ?_
          rotate_left
          · intro w'
            go_simp
            with_reducible rfl
          rotate_left
          · simp only [Act.put, List.setIfInBounds_toArray, List.set_cons_zero, List.set_cons_succ, i64_w, i32_w]
            rfl
          refine pure_ (i := 2) (N := some 36) (v := ?_) (a' := ?_) #[false, true, true, false, false, false, false, false, false, false, false, false, false, false, false, false, false, false, false] rfl rfl (by kernel_rfl) (fun _ _ _ h => h) (Or.inl ⟨by rfl, ?_⟩) ?_ ?_
          rotate_left
          · intro w'
            go_simp
            with_reducible rfl
          rotate_left
          · simp only [Act.put, List.setIfInBounds_toArray, List.set_cons_zero, List.set_cons_succ, i64_w, i32_w]
            rfl
          refine pure_ (i := 8) (N := some 42) (v := ?_) (a' := ?_) #[false, true, true, false, false, false, false, false, true, false, false, false, false, false, false, false, false, false, false] rfl rfl (by kernel_rfl) (fun _ _ _ h => h) (Or.inl ⟨by rfl, ?_⟩) ?_ ?_
          rotate_left
          · intro w'
            go_simp
            with_reducible rfl
          rotate_left
          · simp only [Act.put, List.setIfInBounds_toArray, List.set_cons_zero, List.set_cons_succ, i64_w, i32_w]
            rfl
          refine pure_ (i := 9) (N := some 43) (v := ?_) (a' := ?_) #[false, true, true, false, false, false, false, false, true, true, false, false, false, false, false, false, false, false, false] rfl rfl (by kernel_rfl) (fun _ _ _ h => h) (Or.inl ⟨by rfl, ?_⟩) ?_ ?_
          rotate_left
          · intro w'
            go_simp
            with_reducible rfl
          rotate_left
          · simp only [Act.put, List.setIfInBounds_toArray, List.set_cons_zero, List.set_cons_succ, i64_w, i32_w]
            rfl
          refine pure_ (i := 10) (N := some 44) (v := ?_) (a' := ?_) #[false, true, true, false, false, false, false, false, true, true, true, false, false, false, false, false, false, false, false] rfl rfl (by kernel_rfl) (fun _ _ _ h => h) (Or.inl ⟨by rfl, ?_⟩) ?_ ?_
          rotate_left
          · intro w'
            go_simp
            with_reducible rfl
          rotate_left
          · simp only [Act.put, List.setIfInBounds_toArray, List.set_cons_zero, List.set_cons_succ, i64_w, i32_w]
            rfl
          refine take_ (i := 3) (N := some 37) (v := ?_) (a' := ?_) #[false, true, true, true, false, false, false, false, true, true, true, false, false, false, false, false, false, false, false] rfl rfl (by kernel_rfl) (fun _ _ _ h => h) (Or.inl ⟨by rfl, ?_⟩) hHeld ?_ ?_
          rotate_left
          · intro w' _
            go_simp
            with_reducible rfl
          rotate_left
          · simp only [Act.put, List.setIfInBounds_toArray, List.set_cons_zero, List.set_cons_succ, i64_w, i32_w]
            rfl
          refine one_ (i := 0) (N := some 34) #[true, true, true, true, false, false, false, false, true, true, true, false, false, false, false, false, false, false, false] rfl rfl (by kernel_rfl) (by decide) (fun K hK => ?_)
          refine goes_ Tryz.func30 (by kernel_rfl) rfl #[] (by rfl) rfl rfl (by simp only [List.map_toArray, List.map_cons, List.map_nil]) ?_
          with_reducible refine (readers_calls _).mono ?_
          rintro e w3 ⟨B, rfl, hrd, hBl, hb⟩
          refine ⟨_, rfl, ?_⟩
          refine hK.out _ _ trivial (fun hHeld => ?_)
          clear hK K
          refine norm_ (a' := ?_) ?_ ?_
          rotate_left
          · show Act.put _ (some 34) _ = _
            simp only [Act.put, List.setIfInBounds_toArray, List.set_cons_zero, List.set_cons_succ, i64_w, i32_w]
            rfl
          refine one_ (i := 4) (N := some 38) #[true, true, true, true, true, false, false, false, true, true, true, false, false, false, false, false, false, false, false] rfl rfl (by kernel_rfl) (by decide) (fun K hK => ?_)
          refine goes_ Tryz.func31 (by kernel_rfl) rfl #[.int .u8 ((s[p + n]'hlt).toNat : Int)] (by rfl) rfl rfl (by simp only [List.map_toArray, List.map_cons, List.map_nil]; rfl) ?_
          with_reducible refine (classOf_calls (s[p + n]'hlt) _).mono ?_
          rintro e w4 ⟨rfl, hb2⟩
          have hrd4 := (hb2.block B (blk_lt hrd)).trans hrd
          have hbW : Below W1.heap.size W1 w4 := below_then (Below.trans (below_drew (Below.refl W1.heap.size W1)) hb) hb.size hb2
          have hld : w4.cell? ⟨B, (cls (s[p + n]'hlt)).toNat, none⟩ = some (.func (.func f) #[] #[]) := (blk_cell hrd4 _).trans HFN.out
          have HW4 := Aside0.mk hbW
          have HBW4 : Aside0 (Below w.heap.size w w4) := ⟨HB1.out.trans (below_le hbW HB1.out.size)⟩
          clear hrd hrd4 hbW hb hb2 hBl
          refine ⟨_, rfl, ?_⟩
          refine hK.out _ _ trivial (fun hHeld => ?_)
          clear hK K
          refine norm_ (a' := ?_) ?_ ?_
          rotate_left
          · show Act.put _ (some 38) _ = _
            simp only [Act.put, List.setIfInBounds_toArray, List.set_cons_zero, List.set_cons_succ, i64_w, i32_w]
            rfl
          refine pure_ (i := 5) (N := some 39) (v := ?_) (a' := ?_) #[true, true, true, true, true, true, false, false, true, true, true, false, false, false, false, false, false, false, false] rfl rfl (by kernel_rfl) (fun _ _ _ h => h) (Or.inl ⟨by rfl, ?_⟩) ?_ ?_
          rotate_left
          · intro w'
            go_simp
            with_reducible rfl
          rotate_left
          · simp only [Act.put, List.setIfInBounds_toArray, List.set_cons_zero, List.set_cons_succ, i64_w, i32_w]
            rfl
          refine pure_ (i := 6) (N := some 40) (v := ?_) (a' := ?_) #[true, true, true, true, true, true, true, false, true, true, true, false, false, false, false, false, false, false, false] rfl rfl (by kernel_rfl) (fun _ _ _ h => h) (Or.inl ⟨by rfl, ?_⟩) ?_ ?_
          rotate_left
          · intro w'
            go_simp
            with_reducible rfl
          rotate_left
          · simp only [Act.put, List.setIfInBounds_toArray, List.set_cons_zero, List.set_cons_succ, i64_w, i32_w]
            rfl
          refine one_ (i := 7) (N := some 41) #[true, true, true, true, true, true, true, true, true, true, true, false, false, false, false, false, false, false, false] rfl rfl (by kernel_rfl) (by decide) (fun K hK => ?_)
          refine value_ (w1 := ?_) (v := ?_) (by rfl) rfl ?_ ?_
          rotate_left 2
          · go_simp
            constructor
            · rfl
            · rfl
          refine hK.out _ _ trivial (fun hHeld => ?_)
          clear hK K
          refine norm_ (a' := ?_) ?_ ?_
          rotate_left
          · show Act.put _ (some 41) _ = _
            simp only [Act.put, List.setIfInBounds_toArray, List.set_cons_zero, List.set_cons_succ, i64_w, i32_w]
            rfl
          refine one_ (i := 11) (N := some 45) #[true, true, true, true, true, true, true, true, true, true, true, true, false, false, false, false, false, false, false] rfl rfl (by kernel_rfl) (by decide) (fun K hK => ?_)
          refine goesV_ (.tmp 41) #[.string (s.extract (p + n) s.size)] (by rfl) rfl rfl (by rfl) HENT.out (by simp only [List.map_toArray, List.map_cons, List.map_nil]; rfl) ?_
          with_reducible refine (HCAL.out _ (HE.out.below HBW4.out)).mono ?_
          rintro e w5 ⟨ha, hb5⟩
          obtain ⟨t, k, hek⟩ := ha
          obtain rfl : e = .returned (.tuple #[.agg #[.int .i64 t.kind, .string ⟨t.text.toArray⟩, .int .i64 t.num, .int .i64 0], .int .i64 k, .bool false]) := hek
          have HW5 : Aside0 (Below W1.heap.size W1 w5) := ⟨below_then HW4.out HW4.out.size hb5⟩
          have hK5 := (HW5.out.block T HTL.out).trans HTB.out
          have HK5 := Aside0.mk hK5
          have d0 := blk_cell hK5 0
          have d1 := blk_cell hK5 1
          have d2 := blk_cell hK5 2
          have d3 := blk_cell hK5 3
          have f0 := fun i => blk_frozen hK5 i
          clear hb5 hK5 hld
          refine ⟨_, rfl, ?_⟩
          refine hK.out _ _ trivial (fun hHeld => ?_)
          clear hK K
          refine norm_ (a' := ?_) ?_ ?_
          rotate_left
          · show Act.put _ (some 45) _ = _
            simp only [Act.put, List.setIfInBounds_toArray, List.set_cons_zero, List.set_cons_succ, i64_w, i32_w]
            rfl
          refine pure_ (i := 12) (N := some 33) (v := ?_) (a' := ?_) #[true, true, true, true, true, true, true, true, true, true, true, true, true, false, false, false, false, false, false] rfl rfl (by kernel_rfl) (fun _ _ _ h => h) (Or.inl ⟨by rfl, ?_⟩) ?_ ?_
          rotate_left
          · intro w'
            go_simp
            with_reducible rfl
          rotate_left
          · simp only [Act.put, List.setIfInBounds_toArray, List.set_cons_zero, List.set_cons_succ, i64_w, i32_w]
            rfl
          refine pure_ (i := 13) (N := some 46) (v := ?_) (a' := ?_) #[true, true, true, true, true, true, true, true, true, true, true, true, true, true, false, false, false, false, false] rfl rfl (by kernel_rfl) (fun _ _ _ h => h) (Or.inl ⟨by rfl, ?_⟩) ?_ ?_
          rotate_left
          · intro w'
            go_simp
            with_reducible rfl
          rotate_left
          · simp only [Act.put, List.setIfInBounds_toArray, List.set_cons_zero, List.set_cons_succ, i64_w, i32_w]
            rfl
          refine pure_ (i := 14) (N := some 47) (v := ?_) (a' := ?_) #[true, true, true, true, true, true, true, true, true, true, true, true, true, true, true, false, false, false, false] rfl rfl (by kernel_rfl) (fun _ _ _ h => h) (Or.inl ⟨by rfl, ?_⟩) ?_ ?_
          rotate_left
          · intro w'
            go_simp
            with_reducible rfl
          rotate_left
          · simp only [Act.put, List.setIfInBounds_toArray, List.set_cons_zero, List.set_cons_succ, i64_w, i32_w]
            rfl
          refine pure_ (i := 15) (N := some 48) (v := ?_) (a' := ?_) #[true, true, true, true, true, true, true, true, true, true, true, true, true, true, true, true, false, false, false] rfl rfl (by kernel_rfl) (fun _ _ _ h => h) (Or.inl ⟨by rfl, ?_⟩) ?_ ?_
          rotate_left
          · intro w'
            go_simp
            with_reducible rfl
          rotate_left
          · simp only [Act.put, List.setIfInBounds_toArray, List.set_cons_zero, List.set_cons_succ, i64_w, i32_w]
            rfl
          refine one_ (i := 16) (N := none) #[true, true, true, true, true, true, true, true, true, true, true, true, true, true, true, true, true, false, false] rfl rfl (by kernel_rfl) (by decide) (fun K hK => ?_)
          refine skip_ (w1 := ?_) (by rfl) rfl ?_ ?_
          rotate_left
          · go_simp
            rfl
          refine hK.out _ _ trivial (fun hHeld => ?_)
          clear hK K
          refine pure_ (i := 17) (N := some 6) (v := ?_) (a' := ?_) #[true, true, true, true, true, true, true, true, true, true, true, true, true, true, true, true, true, true, false] rfl rfl (by kernel_rfl) (fun _ _ _ h => h) (Or.inl ⟨by rfl, ?_⟩) ?_ ?_
          rotate_left
          · intro w'
            go_simp
            with_reducible rfl
          rotate_left
          · simp only [Act.put, List.setIfInBounds_toArray, List.set_cons_zero, List.set_cons_succ, i64_w, i32_w]
            rfl
          refine pure_ (i := 18) (N := some 7) (v := ?_) (a' := ?_) #[true, true, true, true, true, true, true, true, true, true, true, true, true, true, true, true, true, true, true] rfl rfl (by kernel_rfl) (fun _ _ _ h => h) (Or.inl ⟨by rfl, ?_⟩) ?_ ?_
          rotate_left
          · intro w'
            go_simp
            with_reducible rfl
          rotate_left
          · simp only [Act.put, List.setIfInBounds_toArray, List.set_cons_zero, List.set_cons_succ, i64_w, i32_w]
            rfl
          refine done_ (by kernel_rfl) ?_

          have hTw : w.heap.size ≠ T := by have := HTG.out; omega
          obtain ⟨W6, hW6⟩ : ∃ W6, W6 = ((((w5.setCell { block := T, off := 0 } (Value.int IntKind.i64 t.kind)).setCell { block := T, off := 1 } (Value.string { data := t.text.toArray })).setCell { block := T, off := 2 } (Value.int IntKind.i64 t.num)).setCell { block := T, off := 3 } (Value.int IntKind.i64 0)) := ⟨_, rfl⟩
          have hk6 := blk_put (blk_put (blk_put (blk_put HK5.out 0 (.int .i64 t.kind) rfl) 1 (.string ⟨t.text.toArray⟩) rfl) 2 (.int .i64 t.num) rfl) 3 (.int .i64 0) rfl
          rw [← hW6] at hk6
          have HK6 : Aside0 (W6.heap[T]? = some (.cells #[.int .i64 t.kind, .string ⟨t.text.toArray⟩, .int .i64 t.num, .int .i64 0] 28 (0, 0))) := ⟨hk6⟩
          have HR6 : Aside0 (Kd.R k28 28 W6 (w.heap.size + 1) (fun _ => True) u4 (L.map tokS)) := ⟨by rw [hW6]; exact R_mine (R_mine (R_mine (R_mine (Kd.R_below HR1.out HW5.out) HRT.out 0 _) HRT.out 1 _) HRT.out 2 _) HRT.out 3 _⟩
          have HW6 : Aside0 (Below (w.heap.size + 1) W0 W6) := ⟨by rw [hW6]; exact ((((HW1.out.trans (below_le HW5.out (by have := HTL.out; have := HTG.out; omega))).setCell (by exact HTG.out) _).setCell (by exact HTG.out) _).setCell (by exact HTG.out) _).setCell (by exact HTG.out) _⟩
          have HF6 : Aside0 (W6.heap[w.heap.size]? = some (.cells #[.int .i64 0, .int .i64 0] 38 (0, 0))) := ⟨(HW6.out.block w.heap.size (Nat.lt_succ_self _)).trans HF0.out⟩
          rw [← hW6]
          clear hW6 hk6 d0 d1 d2 d3 f0 HK5 HW5
          have d0 := blk_cell HF6.out 0
          have d1 := blk_cell HF6.out 1
          have f0 := fun i => blk_frozen HF6.out i
          go_wp2_with fail
          have hne : (((bl s).drop p).drop n) ≠ [] := by rw [List.drop_drop]; intro e; have := congrArg List.length e; rw [List.length_drop, bl_len] at this; simp at this; omega
          have hlx : LX = .inr (p + n) := by
            rw [HL.out, cutR_none _ _ _ HK.out hne (by rw [List.drop_drop]; exact HTK.out)]; rfl
          refine cut_ret rfl w _ _ _ _ _ _ _ HF6.out rfl ⟨?_, ?_⟩
          · rw [hlx]; rfl
          · exact ((HB0.out.trans (below_le HW6.out (Nat.le_succ _))).setCell (Nat.le_refl _) _).setCell (Nat.le_refl _) _
        | some q =>
          obtain ⟨t, k⟩ := q
          have HTK := Aside0.mk htk
          rw [htk] at HCAL
          clear htk
          refine start_ (n := 19) (S := fun w' => True) (ds := []) #[false, false, false, false, false, false, false, false, false, false, false, false, false, false, false, false, false, false, false] (by kernel_rfl) rfl rfl trivial (fun hHeld => ?_)
          refine pure_ (i := 1) (N := some 35) (v := ?_) (a' := ?_) #[false, true, false, false, false, false, false, false, false, false, false, false, false, false, false, false, false, false, false] rfl rfl (by kernel_rfl) (fun _ _ _ h => h) (Or.inl ⟨by rfl, ?_⟩) ?_ ?_
          rotate_left
          · intro w'
            go_simp
            with_reducible rfl
          rotate_left
          · simp only [Act.put, List.setIfInBounds_toArray, List.set_cons_zero, List.set_cons_succ, i64_w, i32_w]
            rfl
          refine pure_ (i := 2) (N := some 36) (v := ?_) (a' := ?_) #[false, true, true, false, false, false, false, false, false, false, false, false, false, false, false, false, false, false, false] rfl rfl (by kernel_rfl) (fun _ _ _ h => h) (Or.inl ⟨by rfl, ?_⟩) ?_ ?_
          rotate_left
          · intro w'
            go_simp
            with_reducible rfl
          rotate_left
          · simp only [Act.put, List.setIfInBounds_toArray, List.set_cons_zero, List.set_cons_succ, i64_w, i32_w]
            rfl
          refine pure_ (i := 8) (N := some 42) (v := ?_) (a' := ?_) #[false, true, true, false, false, false, false, false, true, false, false, false, false, false, false, false, false, false, false] rfl rfl (by kernel_rfl) (fun _ _ _ h => h) (Or.inl ⟨by rfl, ?_⟩) ?_ ?_
          rotate_left
          · intro w'
            go_simp
            with_reducible rfl
          rotate_left
          · simp only [Act.put, List.setIfInBounds_toArray, List.set_cons_zero, List.set_cons_succ, i64_w, i32_w]
            rfl
          refine pure_ (i := 9) (N := some 43) (v := ?_) (a' := ?_) #[false, true, true, false, false, false, false, false, true, true, false, false, false, false, false, false, false, false, false] rfl rfl (by kernel_rfl) (fun _ _ _ h => h) (Or.inl ⟨by rfl, ?_⟩) ?_ ?_
          rotate_left
          · intro w'
            go_simp
            with_reducible rfl
          rotate_left
          · simp only [Act.put, List.setIfInBounds_toArray, List.set_cons_zero, List.set_cons_succ, i64_w, i32_w]
            rfl
          refine pure_ (i := 10) (N := some 44) (v := ?_) (a' := ?_) #[false, true, true, false, false, false, false, false, true, true, true, false, false, false, false, false, false, false, false] rfl rfl (by kernel_rfl) (fun _ _ _ h => h) (Or.inl ⟨by rfl, ?_⟩) ?_ ?_
          rotate_left
          · intro w'
            go_simp
            with_reducible rfl
          rotate_left
          · simp only [Act.put, List.setIfInBounds_toArray, List.set_cons_zero, List.set_cons_succ, i64_w, i32_w]
            rfl
          refine take_ (i := 3) (N := some 37) (v := ?_) (a' := ?_) #[false, true, true, true, false, false, false, false, true, true, true, false, false, false, false, false, false, false, false] rfl rfl (by kernel_rfl) (fun _ _ _ h => h) (Or.inl ⟨by rfl, ?_⟩) hHeld ?_ ?_
          rotate_left
          · intro w' _
            go_simp
            with_reducible rfl
          rotate_left
          · simp only [Act.put, List.setIfInBounds_toArray, List.set_cons_zero, List.set_cons_succ, i64_w, i32_w]
            rfl
          refine one_ (i := 0) (N := some 34) #[true, true, true, true, false, false, false, false, true, true, true, false, false, false, false, false, false, false, false] rfl rfl (by kernel_rfl) (by decide) (fun K hK => ?_)
          refine goes_ Tryz.func30 (by kernel_rfl) rfl #[] (by rfl) rfl rfl (by simp only [List.map_toArray, List.map_cons, List.map_nil]) ?_
          with_reducible refine (readers_calls _).mono ?_
          rintro e w3 ⟨B, rfl, hrd, hBl, hb⟩
          refine ⟨_, rfl, ?_⟩
          refine hK.out _ _ trivial (fun hHeld => ?_)
          clear hK K
          refine norm_ (a' := ?_) ?_ ?_
          rotate_left
          · show Act.put _ (some 34) _ = _
            simp only [Act.put, List.setIfInBounds_toArray, List.set_cons_zero, List.set_cons_succ, i64_w, i32_w]
            rfl
          refine one_ (i := 4) (N := some 38) #[true, true, true, true, true, false, false, false, true, true, true, false, false, false, false, false, false, false, false] rfl rfl (by kernel_rfl) (by decide) (fun K hK => ?_)
          refine goes_ Tryz.func31 (by kernel_rfl) rfl #[.int .u8 ((s[p + n]'hlt).toNat : Int)] (by rfl) rfl rfl (by simp only [List.map_toArray, List.map_cons, List.map_nil]; rfl) ?_
          with_reducible refine (classOf_calls (s[p + n]'hlt) _).mono ?_
          rintro e w4 ⟨rfl, hb2⟩
          have hrd4 := (hb2.block B (blk_lt hrd)).trans hrd
          have hbW : Below W1.heap.size W1 w4 := below_then (Below.trans (below_drew (Below.refl W1.heap.size W1)) hb) hb.size hb2
          have hld : w4.cell? ⟨B, (cls (s[p + n]'hlt)).toNat, none⟩ = some (.func (.func f) #[] #[]) := (blk_cell hrd4 _).trans HFN.out
          have HW4 := Aside0.mk hbW
          have HBW4 : Aside0 (Below w.heap.size w w4) := ⟨HB1.out.trans (below_le hbW HB1.out.size)⟩
          clear hrd hrd4 hbW hb hb2 hBl
          refine ⟨_, rfl, ?_⟩
          refine hK.out _ _ trivial (fun hHeld => ?_)
          clear hK K
          refine norm_ (a' := ?_) ?_ ?_
          rotate_left
          · show Act.put _ (some 38) _ = _
            simp only [Act.put, List.setIfInBounds_toArray, List.set_cons_zero, List.set_cons_succ, i64_w, i32_w]
            rfl
          refine pure_ (i := 5) (N := some 39) (v := ?_) (a' := ?_) #[true, true, true, true, true, true, false, false, true, true, true, false, false, false, false, false, false, false, false] rfl rfl (by kernel_rfl) (fun _ _ _ h => h) (Or.inl ⟨by rfl, ?_⟩) ?_ ?_
          rotate_left
          · intro w'
            go_simp
            with_reducible rfl
          rotate_left
          · simp only [Act.put, List.setIfInBounds_toArray, List.set_cons_zero, List.set_cons_succ, i64_w, i32_w]
            rfl
          refine pure_ (i := 6) (N := some 40) (v := ?_) (a' := ?_) #[true, true, true, true, true, true, true, false, true, true, true, false, false, false, false, false, false, false, false] rfl rfl (by kernel_rfl) (fun _ _ _ h => h) (Or.inl ⟨by rfl, ?_⟩) ?_ ?_
          rotate_left
          · intro w'
            go_simp
            with_reducible rfl
          rotate_left
          · simp only [Act.put, List.setIfInBounds_toArray, List.set_cons_zero, List.set_cons_succ, i64_w, i32_w]
            rfl
          refine one_ (i := 7) (N := some 41) #[true, true, true, true, true, true, true, true, true, true, true, false, false, false, false, false, false, false, false] rfl rfl (by kernel_rfl) (by decide) (fun K hK => ?_)
          refine value_ (w1 := ?_) (v := ?_) (by rfl) rfl ?_ ?_
          rotate_left 2
          · go_simp
            constructor
            · rfl
            · rfl
          refine hK.out _ _ trivial (fun hHeld => ?_)
          clear hK K
          refine norm_ (a' := ?_) ?_ ?_
          rotate_left
          · show Act.put _ (some 41) _ = _
            simp only [Act.put, List.setIfInBounds_toArray, List.set_cons_zero, List.set_cons_succ, i64_w, i32_w]
            rfl
          refine one_ (i := 11) (N := some 45) #[true, true, true, true, true, true, true, true, true, true, true, true, false, false, false, false, false, false, false] rfl rfl (by kernel_rfl) (by decide) (fun K hK => ?_)
          refine goesV_ (.tmp 41) #[.string (s.extract (p + n) s.size)] (by rfl) rfl rfl (by rfl) HENT.out (by simp only [List.map_toArray, List.map_cons, List.map_nil]; rfl) ?_
          with_reducible refine (HCAL.out _ (HE.out.below HBW4.out)).mono ?_
          rintro e w5 ⟨ha, hb5⟩
          obtain rfl : e = .returned (.tuple #[.agg #[.int .i64 t.kind, .string ⟨t.text.toArray⟩, .int .i64 t.num, .int .i64 0], .int .i64 (k : Int), .bool true]) := ha
          have HW5 : Aside0 (Below W1.heap.size W1 w5) := ⟨below_then HW4.out HW4.out.size hb5⟩
          have hK5 := (HW5.out.block T HTL.out).trans HTB.out
          have HK5 := Aside0.mk hK5
          have d0 := blk_cell hK5 0
          have d1 := blk_cell hK5 1
          have d2 := blk_cell hK5 2
          have d3 := blk_cell hK5 3
          have f0 := fun i => blk_frozen hK5 i
          clear hb5 hK5 hld
          refine ⟨_, rfl, ?_⟩
          refine hK.out _ _ trivial (fun hHeld => ?_)
          clear hK K
          refine norm_ (a' := ?_) ?_ ?_
          rotate_left
          · show Act.put _ (some 45) _ = _
            simp only [Act.put, List.setIfInBounds_toArray, List.set_cons_zero, List.set_cons_succ, i64_w, i32_w]
            rfl
          refine pure_ (i := 12) (N := some 33) (v := ?_) (a' := ?_) #[true, true, true, true, true, true, true, true, true, true, true, true, true, false, false, false, false, false, false] rfl rfl (by kernel_rfl) (fun _ _ _ h => h) (Or.inl ⟨by rfl, ?_⟩) ?_ ?_
          rotate_left
          · intro w'
            go_simp
            with_reducible rfl
          rotate_left
          · simp only [Act.put, List.setIfInBounds_toArray, List.set_cons_zero, List.set_cons_succ, i64_w, i32_w]
            rfl
          refine pure_ (i := 13) (N := some 46) (v := ?_) (a' := ?_) #[true, true, true, true, true, true, true, true, true, true, true, true, true, true, false, false, false, false, false] rfl rfl (by kernel_rfl) (fun _ _ _ h => h) (Or.inl ⟨by rfl, ?_⟩) ?_ ?_
          rotate_left
          · intro w'
            go_simp
            with_reducible rfl
          rotate_left
          · simp only [Act.put, List.setIfInBounds_toArray, List.set_cons_zero, List.set_cons_succ, i64_w, i32_w]
            rfl
          refine pure_ (i := 14) (N := some 47) (v := ?_) (a' := ?_) #[true, true, true, true, true, true, true, true, true, true, true, true, true, true, true, false, false, false, false] rfl rfl (by kernel_rfl) (fun _ _ _ h => h) (Or.inl ⟨by rfl, ?_⟩) ?_ ?_
          rotate_left
          · intro w'
            go_simp
            with_reducible rfl
          rotate_left
          · simp only [Act.put, List.setIfInBounds_toArray, List.set_cons_zero, List.set_cons_succ, i64_w, i32_w]
            rfl
          refine pure_ (i := 15) (N := some 48) (v := ?_) (a' := ?_) #[true, true, true, true, true, true, true, true, true, true, true, true, true, true, true, true, false, false, false] rfl rfl (by kernel_rfl) (fun _ _ _ h => h) (Or.inl ⟨by rfl, ?_⟩) ?_ ?_
          rotate_left
          · intro w'
            go_simp
            with_reducible rfl
          rotate_left
          · simp only [Act.put, List.setIfInBounds_toArray, List.set_cons_zero, List.set_cons_succ, i64_w, i32_w]
            rfl
          refine one_ (i := 16) (N := none) #[true, true, true, true, true, true, true, true, true, true, true, true, true, true, true, true, true, false, false] rfl rfl (by kernel_rfl) (by decide) (fun K hK => ?_)
          refine skip_ (w1 := ?_) (by rfl) rfl ?_ ?_
          rotate_left
          · go_simp
            rfl
          refine hK.out _ _ trivial (fun hHeld => ?_)
          clear hK K
          refine pure_ (i := 17) (N := some 6) (v := ?_) (a' := ?_) #[true, true, true, true, true, true, true, true, true, true, true, true, true, true, true, true, true, true, false] rfl rfl (by kernel_rfl) (fun _ _ _ h => h) (Or.inl ⟨by rfl, ?_⟩) ?_ ?_
          rotate_left
          · intro w'
            go_simp
            with_reducible rfl
          rotate_left
          · simp only [Act.put, List.setIfInBounds_toArray, List.set_cons_zero, List.set_cons_succ, i64_w, i32_w]
            rfl
          refine pure_ (i := 18) (N := some 7) (v := ?_) (a' := ?_) #[true, true, true, true, true, true, true, true, true, true, true, true, true, true, true, true, true, true, true] rfl rfl (by kernel_rfl) (fun _ _ _ h => h) (Or.inl ⟨by rfl, ?_⟩) ?_ ?_
          rotate_left
          · intro w'
            go_simp
            with_reducible rfl
          rotate_left
          · simp only [Act.put, List.setIfInBounds_toArray, List.set_cons_zero, List.set_cons_succ, i64_w, i32_w]
            rfl
          refine done_ (by kernel_rfl) ?_

          have hTw : w.heap.size ≠ T := by have := HTG.out; omega
          obtain ⟨W6, hW6⟩ : ∃ W6, W6 = ((((w5.setCell { block := T, off := 0 } (Value.int IntKind.i64 t.kind)).setCell { block := T, off := 1 } (Value.string { data := t.text.toArray })).setCell { block := T, off := 2 } (Value.int IntKind.i64 t.num)).setCell { block := T, off := 3 } (Value.int IntKind.i64 0)) := ⟨_, rfl⟩
          have hk6 := blk_put (blk_put (blk_put (blk_put HK5.out 0 (.int .i64 t.kind) rfl) 1 (.string ⟨t.text.toArray⟩) rfl) 2 (.int .i64 t.num) rfl) 3 (.int .i64 0) rfl
          rw [← hW6] at hk6
          have HK6 : Aside0 (W6.heap[T]? = some (.cells #[.int .i64 t.kind, .string ⟨t.text.toArray⟩, .int .i64 t.num, .int .i64 0] 28 (0, 0))) := ⟨hk6⟩
          have HR6 : Aside0 (Kd.R k28 28 W6 (w.heap.size + 1) (fun _ => True) u4 (L.map tokS)) := ⟨by rw [hW6]; exact R_mine (R_mine (R_mine (R_mine (Kd.R_below HR1.out HW5.out) HRT.out 0 _) HRT.out 1 _) HRT.out 2 _) HRT.out 3 _⟩
          have HW6 : Aside0 (Below (w.heap.size + 1) W0 W6) := ⟨by rw [hW6]; exact ((((HW1.out.trans (below_le HW5.out (by have := HTL.out; have := HTG.out; omega))).setCell (by exact HTG.out) _).setCell (by exact HTG.out) _).setCell (by exact HTG.out) _).setCell (by exact HTG.out) _⟩
          have HF6 : Aside0 (W6.heap[w.heap.size]? = some (.cells #[.int .i64 0, .int .i64 0] 38 (0, 0))) := ⟨(HW6.out.block w.heap.size (Nat.lt_succ_self _)).trans HF0.out⟩
          rw [← hW6]
          clear hW6 hk6 d0 d1 d2 d3 f0 HK5 HW5
          have hkl := (tok_le _ _ _ HTK.out)
          rw [List.length_drop, bl_len] at hkl
          have d0 := blk_cell HK6.out 0
          have d1 := blk_cell HK6.out 1
          have d2 := blk_cell HK6.out 2
          have d3 := blk_cell HK6.out 3
          have f0 := fun i => blk_frozen HK6.out i
          have hw7 : wrap64 ((p : Int) + (n : Int) + (k : Int)) = (p : Int) + (n : Int) + (k : Int) := by unfold wrap64; omega
          have HR7 : Aside0 (Kd.R k28 28 (W6.setCell ⟨T, 3, none⟩ (.int .i64 ((p : Int) + (n : Int)))) (w.heap.size + 1) (fun _ => True) u4 (L.map tokS)) := ⟨R_mine HR6.out HRT.out 3 _⟩
          have HW7 : Aside0 (Below (w.heap.size + 1) W0 (W6.setCell ⟨T, 3, none⟩ (.int .i64 ((p : Int) + (n : Int))))) := ⟨HW6.out.setCell (by exact HTG.out) _⟩
          go_wp2_with (at_builtin; refine Kd.R_append k28 (w0 := W0) (w.heap.size + 1) rfl (.tmp 55) (.tmp 57) 22 28 (.agg #[(.int .i64 0), (.string ⟨#[]⟩), (.int .i64 0), (.int .i64 0)]) 40 rfl Tryz.underlying22 info28 rfl (by decide) (by omega) _ (L.map tokS) (tokS ⟨t, p + n⟩) [.int .i64 t.kind, .string ⟨t.text.toArray⟩, .int .i64 t.num, .int .i64 ((p : Int) + (n : Int))] (fun _ => True) (fun _ => False) rfl (by rw [show (World.setCell W6 ⟨T, 3, none⟩ (.int .i64 ((p : Int) + (n : Int)))).heap.size = W6.heap.size from by simp [World.setCell]]; rfl) (by exact k28_mkM _ _ _ (tokS ⟨t, p + n⟩)) (fun _ hk => hk.elim) (fun _ _ => trivial) (by exact HR7.out) (by exact HW7.out) (by have := HW7.out.size; rw [HS0.out] at this; exact this) (by rw [List.length_map]; have := HLP.out; omega) ?_; intro v1 w8 hr8 hb8 hg8 ha8; have HR8 := Aside0.mk hr8; have HW8 := Aside0.mk hb8; clear hr8 hb8 hg8 ha8)
          go_roundw
          case rel =>
            refine ⟨p + n + k, L ++ [⟨t, p + n⟩], by go_num, by omega, ⟨?_⟩, ⟨?_⟩, ⟨?_⟩, HW8⟩
            · rw [List.length_append, List.length_singleton]; have := HLP.out; omega
            · rw [HL.out, cutR_some _ _ _ _ _ HK.out (by rw [List.drop_drop]; exact HTK.out), pre_pre, List.drop_drop, Nat.add_assoc p n k]
            · rw [List.map_append]; exact HR8.out
          case measure => simp [intOf]; omega
end Go.Proofs.YtjibdaigclgmhaaGreatDoor.LexW
namespace Go.Proofs.YtjibdaigclgmhaaGreatDoor.LexW
open Go.RowKit Go.Maps Go.Proofs.YtjibdaigclgmhaaGreatDoor.Lex Go.Proofs.YtjibdaigclgmhaaGreatDoor.PLexPrints Go.Proofs.YtjibdaigclgmhaaGreatDoorW.PrintWords Go.Proofs.YtjibdaigclgmhaaGreatDoorW.PrintLast Go.Proofs.YtjibdaigclgmhaaGreatDoorW.PrintMore
attribute [local go_sem] max2_int min2_int max_two min_two max_three min_three max_four min_four
set_option linter.unusedVariables false
set_option linter.unusedSimpArgs false
set_option maxHeartbeats 2000000 in
set_option maxRecDepth 100000 in
theorem clip_calls (A : Option Addr) (n c : Nat) (hn : n ≤ c) (w : World) : Calls Tryz.prog 20 #[.slice A n c] w fun e w' => e = .returned (.slice A n n) ∧ w' = w := by
  go_enter Tryz.func20, Tryz.ntmps20
  go_wp2_with fail
  go_ret
  exact ⟨rfl, rfl⟩
def tokensS (l : List UInt8) : List TokA ⊕ (Int × Nat) := if 4096 < l.length then .inr (73, 4096) else match lex l with | .inl t => .inl t | .inr a => .inr (70, a)
def TPost (r : List TokA ⊕ (Int × Nat)) (w : World) (e : Ending) (w' : World) : Prop :=
    (match r with
     | .inl l => ∃ A c, e = .returned (.tuple #[.slice A l.length l.length, .agg #[.int .i64 0, .int .i64 0]]) ∧ Kd.R k28 28 w' w.heap.size (fun _ => True) (.slice A l.length c) (l.map tokS)
     | .inr a => e = .returned (.tuple #[.slice none 0 0, .agg #[.int .i64 a.1, .int .i64 (a.2 : Int)]])) ∧ Below w.heap.size w w'
set_option maxHeartbeats 2000000 in
set_option maxRecDepth 100000 in
theorem tokens_calls (s : ByteArray) (w : World) (E : Erg w) : Calls Tryz.prog 13 #[.string s] w fun e w' => TPost (tokensS (bl s)) w e w' := by
  by_cases hs : 4096 < s.size
  · have hd : decide ((4096 : Int) < (s.size : Int)) = true := by simp; omega
    have ht : tokensS (bl s) = .inr (73, 4096) := by unfold tokensS; rw [bl_len, if_pos hs]
    rw [ht]
    clear ht
    go_enter Tryz.func13, Tryz.ntmps13
    go_wp2_with fail
    refine bodyPost_ret (results_tc rfl _ _ w.heap.size 38 _ (0, 0) _ rfl (blk_new w (.cells #[.int .i64 73, .int .i64 4096] 38 (0, 0))) Tryz.underlying38 rfl (by kernel_rfl)) rfl ⟨rfl, (Below.refl _ _).alloc (Nat.le_refl _) _⟩
  · have hd : decide ((4096 : Int) < (s.size : Int)) = false := by simp; omega
    have hcut := fun (W : World) (hE : Erg W) => cut_calls s (by omega) W hE
    cases hl : lex (bl s) with
    | inl l =>
      have ht : tokensS (bl s) = .inl l := by unfold tokensS; rw [bl_len, if_neg hs, hl]
      rw [ht]
      rw [hl] at hcut
      have HC := Aside0.mk hcut
      have HE := Aside0.mk E
      clear ht hl hcut E
      go_enter Tryz.func13, Tryz.ntmps13
      go_wp2_with (go_at_call 16; refine (HC.out _ (HE.out.below ((Below.refl _ _).alloc (Nat.le_refl _) _))).mono ?_; rintro e w2 ⟨⟨v, he, hr⟩, hb⟩; subst he; have hn := blk_below (blk_new w (.cells #[.int .i64 0, .int .i64 0] 38 (0, 0))) hb; have HN := Aside0.mk hn; have hn2 := blk_alloc hn (.cells #[.int .i64 0, .int .i64 0] 38 (0, 0)); have HB := Aside0.mk hb; have HR := Aside0.mk hr; clear hb hr hn hn2)
      obtain ⟨G, hG⟩ : ∃ G, G = w2.heap.size := ⟨_, rfl⟩
      obtain ⟨W3, hW3⟩ : ∃ W3, W3 = w2.alloc (Obj.cells #[Value.int IntKind.i64 0, Value.int IntKind.i64 0] 38) := ⟨_, rfl⟩
      have hg := blk_new w2 (.cells #[.int .i64 0, .int .i64 0] 38 (0, 0))
      have HG : Aside0 (W3.heap[w.heap.size]? = some (.cells #[.int .i64 0, .int .i64 0] 38 (0, 0))) := ⟨by rw [hW3]; exact blk_alloc HN.out _⟩
      rw [← hG] at hg ⊢
      have D0 : Aside0 (W3.cell? ⟨G, 0, none⟩ = some (.int .i64 0)) := ⟨by rw [hW3]; exact blk_cell hg 0⟩
      have D1 : Aside0 (W3.cell? ⟨G, 1, none⟩ = some (.int .i64 0)) := ⟨by rw [hW3]; exact blk_cell hg 1⟩
      have HB3 : Aside0 (Below w.heap.size w W3) := ⟨by rw [hW3]; exact ((((Below.refl _ _).alloc (Nat.le_refl _) _).trans (below_le HB.out (by simp))).alloc (by have := HB.out.size; simp at this; omega) _)⟩
      obtain ⟨A, c, hv⟩ := Kd.R_slice HR.out
      rw [List.length_map] at hv
      subst hv
      have hlc : l.length ≤ c := by have := (Kd.R_reads' HR.out).2.1; exact this
      have HR3 : Aside0 (Kd.R k28 28 W3 (w.heap.size + 1) (fun _ => True) (.slice A l.length c) (l.map tokS)) := ⟨by rw [hW3]; exact Kd.R_lower (Kd.R_alloc HR.out _) (by simp)⟩
      rw [← hW3]
      clear hW3 hg HN HB HR HC hG
      refine start_ (n := 5) (S := fun w' => w'.cell? ⟨G, 0, none⟩ = some (.int .i64 0) ∧ w'.cell? ⟨G, 1, none⟩ = some (.int .i64 0)) (ds := [4]) #[false, false, false, false, false] (by kernel_rfl) rfl rfl ⟨(by exact D0.out), (by exact D1.out)⟩ (fun hHeld => ?_)
      refine pure_ (i := 0) (N := some 15) (v := ?_) (a' := ?_) #[true, false, false, false, false] rfl rfl (by kernel_rfl) (fun _ _ _ h => h) (Or.inl ⟨by rfl, ?_⟩) ?_ ?_
      rotate_left
      · intro w'
        go_simp
        with_reducible rfl
      rotate_left
      · simp only [Act.put, List.setIfInBounds_toArray, List.set_cons_zero, List.set_cons_succ, i64_w, i32_w]
        rfl
      refine take_ (i := 2) (N := some 17) (v := ?_) (a' := ?_) #[true, false, true, false, false] rfl rfl (by kernel_rfl) (fun _ _ _ h => h) (Or.inl ⟨by rfl, ?_⟩) hHeld ?_ ?_
      rotate_left
      · rintro w' ⟨s0, s1⟩
        go_simp
        with_reducible rfl
      rotate_left
      · simp only [Act.put, List.setIfInBounds_toArray, List.set_cons_zero, List.set_cons_succ, i64_w, i32_w]
        rfl
      refine one_ (i := 1) (N := some 16) #[true, true, true, false, false] rfl rfl (by kernel_rfl) (by decide) (fun K hK => ?_)
      refine goes_ Tryz.func20 (by kernel_rfl) rfl #[.slice A l.length c] (by rfl) rfl rfl (by simp only [List.map_toArray, List.map_cons, List.map_nil]; rfl) ?_
      with_reducible refine (clip_calls _ _ _ (by exact hlc) _).mono ?_
      rintro e w3 ⟨rfl, hw3⟩
      have HQ3 := Aside0.mk hw3
      clear hw3
      have hG3 : w3.heap[w.heap.size]? = some (.cells #[.int .i64 0, .int .i64 0] 38 (0, 0)) := by rw [HQ3.out]; exact blk_drew HG.out
      have e0 := blk_cell hG3 0
      have e1 := blk_cell hG3 1
      have f0 := fun i => blk_frozen hG3 i
      refine ⟨_, rfl, ?_⟩
      refine hK.out _ _ ⟨(by rw [HQ3.out]; exact D0.out), (by rw [HQ3.out]; exact D1.out)⟩ (fun hHeld => ?_)
      clear hK K
      refine norm_ (a' := ?_) ?_ ?_
      rotate_left
      · show Act.put _ (some 16) _ = _
        simp only [Act.put, List.setIfInBounds_toArray, List.set_cons_zero, List.set_cons_succ, i64_w, i32_w]
        rfl
      refine pure_ (i := 3) (N := some 2) (v := ?_) (a' := ?_) #[true, true, true, true, false] rfl rfl (by kernel_rfl) (fun _ _ _ h => h) (Or.inl ⟨by rfl, ?_⟩) ?_ ?_
      rotate_left
      · intro w'
        go_simp
        with_reducible rfl
      rotate_left
      · simp only [Act.put, List.setIfInBounds_toArray, List.set_cons_zero, List.set_cons_succ, i64_w, i32_w]
        rfl
      refine last_ (i := 4) (N := none) #[true, true, true, true, true] rfl rfl (by kernel_rfl) (by decide) (fun K hK => ?_)
      refine skip_ (w1 := ?_) (by rfl) rfl ?_ ?_
      rotate_left
      · go_simp
        rfl
      refine hK.out _ _ ?_
      clear hK K
      refine done_ (by kernel_rfl) ?_

      go_wp2
      refine cut_ret rfl w w3 _ _ _ _ _ _ hG3 rfl ⟨⟨A, c, rfl, ?_⟩, ?_⟩
      · exact Kd.R_lower (R_fault (R_fault (by rw [HQ3.out]; exact Kd.R_drew HR3.out) 0 _) 1 _) (Nat.le_succ _)
      · rw [HQ3.out]; exact (((below_drew HB3.out)).setCell (Nat.le_refl _) _).setCell (Nat.le_refl _) _
    | inr a =>
      have ht : tokensS (bl s) = .inr (70, a) := by unfold tokensS; rw [bl_len, if_neg hs, hl]
      rw [ht]
      rw [hl] at hcut
      have HC := Aside0.mk hcut
      have HE := Aside0.mk E
      clear ht hl hcut E
      have hlc : 0 ≤ 0 := Nat.le_refl 0
      go_enter Tryz.func13, Tryz.ntmps13
      go_wp2_with (go_at_call 16; refine (HC.out _ (HE.out.below ((Below.refl _ _).alloc (Nat.le_refl _) _))).mono ?_; rintro e w2 ⟨he, hb⟩; replace he : e = .returned (.tuple #[.slice none 0 0, .agg #[.int .i64 70, .int .i64 (a : Int)]]) := he; subst he; have hn := blk_below (blk_new w (.cells #[.int .i64 0, .int .i64 0] 38 (0, 0))) hb; have HN := Aside0.mk hn; have hn2 := blk_alloc hn (.cells #[.int .i64 0, .int .i64 0] 38 (0, 0)); have HB := Aside0.mk hb; clear hb hn hn2)
      obtain ⟨G, hG⟩ : ∃ G, G = w2.heap.size := ⟨_, rfl⟩
      obtain ⟨W3, hW3⟩ : ∃ W3, W3 = w2.alloc (Obj.cells #[Value.int IntKind.i64 70, Value.int IntKind.i64 (a : Int)] 38) := ⟨_, rfl⟩
      have hg := blk_new w2 (.cells #[.int .i64 70, .int .i64 (a : Int)] 38 (0, 0))
      have HG : Aside0 (W3.heap[w.heap.size]? = some (.cells #[.int .i64 0, .int .i64 0] 38 (0, 0))) := ⟨by rw [hW3]; exact blk_alloc HN.out _⟩
      rw [← hG] at hg ⊢
      have D0 : Aside0 (W3.cell? ⟨G, 0, none⟩ = some (.int .i64 70)) := ⟨by rw [hW3]; exact blk_cell hg 0⟩
      have D1 : Aside0 (W3.cell? ⟨G, 1, none⟩ = some (.int .i64 (a : Int))) := ⟨by rw [hW3]; exact blk_cell hg 1⟩
      have HB3 : Aside0 (Below w.heap.size w W3) := ⟨by rw [hW3]; exact ((((Below.refl _ _).alloc (Nat.le_refl _) _).trans (below_le HB.out (by simp))).alloc (by have := HB.out.size; simp at this; omega) _)⟩
      rw [← hW3]
      clear hW3 hg HN HB HC hG
      refine start_ (n := 5) (S := fun w' => w'.cell? ⟨G, 0, none⟩ = some (.int .i64 70) ∧ w'.cell? ⟨G, 1, none⟩ = some (.int .i64 (a : Int))) (ds := [4]) #[false, false, false, false, false] (by kernel_rfl) rfl rfl ⟨(by exact D0.out), (by exact D1.out)⟩ (fun hHeld => ?_)
      refine pure_ (i := 0) (N := some 15) (v := ?_) (a' := ?_) #[true, false, false, false, false] rfl rfl (by kernel_rfl) (fun _ _ _ h => h) (Or.inl ⟨by rfl, ?_⟩) ?_ ?_
      rotate_left
      · intro w'
        go_simp
        with_reducible rfl
      rotate_left
      · simp only [Act.put, List.setIfInBounds_toArray, List.set_cons_zero, List.set_cons_succ, i64_w, i32_w]
        rfl
      refine take_ (i := 2) (N := some 17) (v := ?_) (a' := ?_) #[true, false, true, false, false] rfl rfl (by kernel_rfl) (fun _ _ _ h => h) (Or.inl ⟨by rfl, ?_⟩) hHeld ?_ ?_
      rotate_left
      · rintro w' ⟨s0, s1⟩
        go_simp
        with_reducible rfl
      rotate_left
      · simp only [Act.put, List.setIfInBounds_toArray, List.set_cons_zero, List.set_cons_succ, i64_w, i32_w]
        rfl
      refine one_ (i := 1) (N := some 16) #[true, true, true, false, false] rfl rfl (by kernel_rfl) (by decide) (fun K hK => ?_)
      refine goes_ Tryz.func20 (by kernel_rfl) rfl #[.slice none 0 0] (by rfl) rfl rfl (by simp only [List.map_toArray, List.map_cons, List.map_nil]; rfl) ?_
      with_reducible refine (clip_calls _ _ _ (by exact hlc) _).mono ?_
      rintro e w3 ⟨rfl, hw3⟩
      have HQ3 := Aside0.mk hw3
      clear hw3
      have hG3 : w3.heap[w.heap.size]? = some (.cells #[.int .i64 0, .int .i64 0] 38 (0, 0)) := by rw [HQ3.out]; exact blk_drew HG.out
      have e0 := blk_cell hG3 0
      have e1 := blk_cell hG3 1
      have f0 := fun i => blk_frozen hG3 i
      refine ⟨_, rfl, ?_⟩
      refine hK.out _ _ ⟨(by rw [HQ3.out]; exact D0.out), (by rw [HQ3.out]; exact D1.out)⟩ (fun hHeld => ?_)
      clear hK K
      refine norm_ (a' := ?_) ?_ ?_
      rotate_left
      · show Act.put _ (some 16) _ = _
        simp only [Act.put, List.setIfInBounds_toArray, List.set_cons_zero, List.set_cons_succ, i64_w, i32_w]
        rfl
      refine pure_ (i := 3) (N := some 2) (v := ?_) (a' := ?_) #[true, true, true, true, false] rfl rfl (by kernel_rfl) (fun _ _ _ h => h) (Or.inl ⟨by rfl, ?_⟩) ?_ ?_
      rotate_left
      · intro w'
        go_simp
        with_reducible rfl
      rotate_left
      · simp only [Act.put, List.setIfInBounds_toArray, List.set_cons_zero, List.set_cons_succ, i64_w, i32_w]
        rfl
      refine last_ (i := 4) (N := none) #[true, true, true, true, true] rfl rfl (by kernel_rfl) (by decide) (fun K hK => ?_)
      refine skip_ (w1 := ?_) (by rfl) rfl ?_ ?_
      rotate_left
      · go_simp
        rfl
      refine hK.out _ _ ?_
      clear hK K
      refine done_ (by kernel_rfl) ?_

      go_wp2
      refine cut_ret rfl w w3 _ _ _ _ _ _ hG3 rfl ⟨rfl, ?_⟩
      rw [HQ3.out]; exact (((below_drew HB3.out)).setCell (Nat.le_refl _) _).setCell (Nat.le_refl _) _
end Go.Proofs.YtjibdaigclgmhaaGreatDoor.LexW
namespace Go.Proofs.YtjibdaigclgmhaaGreatDoor.LexW
open Go.RowKit Go.Maps Go.Proofs.YtjibdaigclgmhaaGreatDoor.Lex Go.Proofs.YtjibdaigclgmhaaGreatDoor.PLexPrints Go.Proofs.YtjibdaigclgmhaaGreatDoorW.PrintWords Go.Proofs.YtjibdaigclgmhaaGreatDoorW.PrintLast Go.Proofs.YtjibdaigclgmhaaGreatDoorW.PrintMore
attribute [local go_sem] max2_int min2_int max_two min_two max_three min_three max_four min_four
set_option linter.unusedVariables false
set_option linter.unusedSimpArgs false
def reservedB : List ByteArray := [(⟨#[115, 101, 108, 102]⟩ : ByteArray), (⟨#[115, 117, 112, 101, 114]⟩ : ByteArray), (⟨#[110, 105, 108]⟩ : ByteArray), (⟨#[116, 114, 117, 101]⟩ : ByteArray), (⟨#[102, 97, 108, 115, 101]⟩ : ByteArray)]
theorem bl_inj {a b : ByteArray} (h : bl a = bl b) : a = b := by
  apply ByteArray.ext
  exact Array.toList_inj.1 h
theorem reserved_mem (s : ByteArray) : s ∈ reservedB ↔ bl s ∈ reservedL := by
  have e : reservedL = reservedB.map bl := rfl
  rw [e, List.mem_map]
  constructor
  · intro h; exact ⟨s, h, rfl⟩
  · rintro ⟨t, h1, h2⟩; rw [← bl_inj h2]; exact h1
theorem contains_calls (s : ByteArray) (base : Nat) (w : World) (v : Value) (hR : Kd.R Kd.string 9 w base (fun _ => True) v reservedB) : Calls Tryz.prog 38 #[v, .string s] w fun e w' => e = .returned (.bool (decide (bl s ∈ reservedL))) ∧ w' = w := by
  obtain ⟨g, c, rfl, _, _, _⟩ := Kd.R_form hR (by decide)
  obtain ⟨_, _, hC⟩ := Kd.R_reads' hR
  have hcells : ∀ j, j < reservedB.length → w.cell? ⟨g, 0 + j, none⟩ = some (.string (reservedB.getD j ByteArray.empty)) := by
    intro j hj
    obtain ⟨ad, e, hc⟩ := Kd.at_string hC (j : Int) (by omega) (by omega)
    cases e
    rw [Int.toNat_natCast, add_plain] at hc
    rw [Nat.zero_add, hc]
    unfold rdOf
    rw [Int.toNat_natCast]
  have h := Tryz.slices_Contains_string g 0 reservedB.length c reservedB s w (Nat.le_refl _) (by decide) hcells
  rw [List.take_length] at h
  have e : Lib.containsS reservedB s = decide (bl s ∈ reservedL) := by
    rw [Bool.eq_iff_iff, decide_eq_true_iff, ← reserved_mem]
    exact Lib.containsS_iff _ _
  rw [e] at h
  exact h
set_option maxHeartbeats 2000000 in
set_option maxRecDepth 100000 in
theorem variable_calls (s : ByteArray) (w : World) : Calls Tryz.prog 22 #[.string s] w fun e w' => e = .returned (.int .i64 (varCode (bl s))) ∧ Below w.heap.size w w' := by
  have hne : s.toList.isEmpty = decide (bl s = []) := by
    rw [isEmpty_bl]
    cases h : bl s <;> simp
  have hnc := nameLen_calls s
  obtain ⟨n, hn⟩ : ∃ n, nameLen (bl s) = n := ⟨_, rfl⟩
  have hq : ((n : Int) != (s.size : Int)) = decide (nameLen (bl s) ≠ (bl s).length) := by
    rw [hn, bl_len]
    by_cases h : n = s.size
    · subst h; simp
    · have h2 : ((n : Int) != (s.size : Int)) = true := by simp; omega
      rw [h2]; simp [h]
  have hcc := fun (W : World) (v : Value) (hR : Kd.R Kd.string 9 W w.heap.size (fun _ => True) v reservedB) => contains_calls s w.heap.size W v hR
  obtain ⟨a, ha⟩ : ∃ a, decide (bl s ∈ reservedL) = a := ⟨_, rfl⟩
  obtain ⟨b, hb⟩ : ∃ a, decide (bl s = []) = a := ⟨_, rfl⟩
  obtain ⟨c, hc⟩ : ∃ a, decide (nameLen (bl s) ≠ (bl s).length) = a := ⟨_, rfl⟩
  have hv : varCode (bl s) = if a then 78 else if b then 1 else if c then 1 else 0 := by
    unfold varCode
    by_cases h1 : bl s ∈ reservedL
    · rw [if_pos h1, ← ha]; simp [h1]
    · rw [if_neg h1, ← ha, ← hb, ← hc]
      by_cases h2 : bl s = []
      · have h4 : decide (bl s ∈ reservedL) = false := decide_eq_false h1
        have h5 : decide (bl s = []) = true := decide_eq_true h2
        rw [h4, h5, if_pos (.inl h2)]; rfl
      · by_cases h3 : nameLen (bl s) = (bl s).length
        · simp [h1, h2, h3]
        · simp [h1, h2, h3]
  rw [hn] at hnc
  rw [ha] at hcc
  rw [hb] at hne
  rw [hc] at hq
  have HV := Aside0.mk hv
  have HCC := Aside0.mk hcc
  have HNC := Aside0.mk hnc
  clear hv hcc hnc ha hb hc hn
  have HW := Aside0.mk (Below.refl w.heap.size w)
  rcases a with _ | _
  · rcases b with _ | _
    · rcases c with _ | _
      all_goals
        go_enter Tryz.func22, Tryz.ntmps22
        go_wp2_with (first
          | (go_at_call 39; refine (lex_reserved.calls _ _ rfl).mono ?_; rintro e w1 ⟨v, rfl, hR, hb⟩; replace HW := Aside0.mk (below_then HW.out HW.out.size hb); have HR := Aside0.mk hR; clear hR hb)
          | (go_at_call 38; refine (HCC.out _ _ HR.out).mono ?_; rintro e w' ⟨rfl, rfl⟩)
          | (go_at_call 24; refine (HNC.out _).mono ?_; rintro e w2 ⟨rfl, hb⟩; replace HW := Aside0.mk (below_then HW.out HW.out.size hb); clear hb))
        go_ret
        exact ⟨by rw [HV.out]; rfl, HW.out⟩
    · go_enter Tryz.func22, Tryz.ntmps22
      go_wp2_with (first
          | (go_at_call 39; refine (lex_reserved.calls _ _ rfl).mono ?_; rintro e w1 ⟨v, rfl, hR, hb⟩; replace HW := Aside0.mk (below_then HW.out HW.out.size hb); have HR := Aside0.mk hR; clear hR hb)
          | (go_at_call 38; refine (HCC.out _ _ HR.out).mono ?_; rintro e w' ⟨rfl, rfl⟩))
      go_ret
      exact ⟨by rw [HV.out]; rfl, HW.out⟩
  · go_enter Tryz.func22, Tryz.ntmps22
    go_wp2_with (first
          | (go_at_call 39; refine (lex_reserved.calls _ _ rfl).mono ?_; rintro e w1 ⟨v, rfl, hR, hb⟩; replace HW := Aside0.mk (below_then HW.out HW.out.size hb); have HR := Aside0.mk hR; clear hR hb)
          | (go_at_call 38; refine (HCC.out _ _ HR.out).mono ?_; rintro e w' ⟨rfl, rfl⟩))
    go_ret
    exact ⟨by rw [HV.out]; rfl, HW.out⟩
def selR (K : List UInt8) : Option Nat := selLoop (K.length + 1) K
theorem selLoop_fuel : ∀ (f : Nat) (K : List UInt8) (f' : Nat), K.length < f → K.length < f' → selLoop f K = selLoop f' K := by
  intro f
  induction f with
  | zero => intro K f' h; omega
  | succ f ih =>
    intro K f' h h'
    obtain ⟨f', rfl⟩ : ∃ g, f' = g + 1 := ⟨f' - 1, by omega⟩
    rw [selLoop, selLoop]
    split
    · rfl
    · split
      · rfl
      · rename_i h1 _
        have : 0 < K.length := by cases K with | nil => exact absurd rfl h1 | cons c r => simp
        rw [ih (K.drop (nameLen K + 1)) f' (by rw [List.length_drop]; omega) (by rw [List.length_drop]; omega)]
theorem selR_step (K : List UInt8) (hK : K ≠ []) : selR K = if nameLen K = 0 ∨ headS K = false ∨ K[nameLen K]? ≠ some 58 then none else (selR (K.drop (nameLen K + 1))).map (· + 1) := by
  have : 0 < K.length := by cases K with | nil => exact absurd rfl hK | cons c r => simp
  rw [selR, selLoop, if_neg hK]
  split
  · rfl
  · rw [selR, selLoop_fuel K.length (K.drop (nameLen K + 1)) ((K.drop (nameLen K + 1)).length + 1) (by rw [List.length_drop]; omega) (Nat.lt_succ_self _)]
theorem small_byte (c : UInt8) : (decide ((97 : Int) ≤ (c.toNat : Int)) && decide ((c.toNat : Int) ≤ 122)) = isS c := by
  have key : ∀ c : Fin 256, (decide ((97 : Int) ≤ ((c.val : Nat) : Int)) && decide (((c.val : Nat) : Int) ≤ 122)) = isS (UInt8.ofNat c.val) := by decide +kernel
  have := key ⟨c.toNat, c.toNat_lt⟩
  simpa using this
theorem small_calls (c : UInt8) (w : World) : Calls Tryz.prog 23 #[.int .i32 (c.toNat : Int)] w fun e w' => e = .returned (.bool (isS c)) ∧ Below w.heap.size w w' := by
  have h := isSmall_calls (c.toNat : Int) w
  rw [small_byte] at h
  exact h.mono fun e w' hh => ⟨hh.1, by obtain ⟨nd, rfl⟩ := hh.2; exact ⟨rfl, rfl, rfl, Nat.le_refl _, fun _ _ => rfl⟩⟩
theorem headS_at (s : ByteArray) (h0 : 0 < s.size) : headS (bl s) = isS (s[0]'h0) := by rw [bl_cons s h0]; rfl
def SelA (o : Option Nat) (e : Ending) : Prop :=
  match o with
  | some n => e = .returned (.tuple #[.int .i64 (n : Int), .int .i64 0])
  | none => e = .returned (.tuple #[.int .i64 0, .int .i64 1])
set_option maxHeartbeats 2000000 in
set_option maxRecDepth 100000 in
/-- a selector that is no operator: from the test of the empty text on -/
theorem selector_a (s : ByteArray) (hs : s.size ≤ 281474976710656) (g : Nat) (hg : signsLen (bl s) = g) (hng : ¬ (0 < g ∧ g = s.size)) (hv : varCode (bl s) = 0 ∧ headS (bl s) = true) (h0 : 0 < s.size) (w : World) : Calls Tryz.prog 14 #[.string s] w fun e w' => SelA (some 0) e ∧ Below w.heap.size w w' := by
  have hsg := signsLen_calls s
  rw [hg] at hsg
  have hvc := variable_calls s
  rw [hv.1] at hvc
  have hsm := small_calls (s[0]'h0)
  rw [← headS_at s h0, hv.2] at hsm
  have hw32 : wrap32 ((s[0]'h0).toNat : Int) = ((s[0]'h0).toNat : Int) := by have := (s[0]'h0).toNat_lt; unfold wrap32; omega
  have hne : s.toList.isEmpty = false := by rw [isEmpty_bl, bl_cons s h0]; rfl
  have HSG := Aside0.mk hsg
  have HVC := Aside0.mk hvc
  have HSM := Aside0.mk hsm
  have HW := Aside0.mk (Below.refl w.heap.size w)
  clear hsg hvc hsm hv hg
  by_cases h1 : 0 < g
  · have b1 : decide ((0 : Int) < (g : Int)) = true := by simp; omega
    have b2 : ((g : Int) == (s.size : Int)) = false := by simp; omega
    go_enter Tryz.func14, Tryz.ntmps14
    go_wp2_with (first
      | (go_at_call 21; refine (HSG.out _).mono ?_; rintro e w1 ⟨rfl, hb⟩; replace HW := Aside0.mk (below_then HW.out HW.out.size hb); clear hb)
      | (go_at_call 22; refine (HVC.out _).mono ?_; rintro e w1 ⟨rfl, hb⟩; replace HW := Aside0.mk (below_then HW.out HW.out.size hb); clear hb)
      | (go_at_call 23; refine (HSM.out _).mono ?_; rintro e w1 ⟨rfl, hb⟩; replace HW := Aside0.mk (below_then HW.out HW.out.size hb); clear hb))
    go_ret2
    exact ⟨rfl, HW.out⟩
  · obtain rfl : g = 0 := by omega
    go_enter Tryz.func14, Tryz.ntmps14
    go_wp2_with (first
      | (go_at_call 21; refine (HSG.out _).mono ?_; rintro e w1 ⟨rfl, hb⟩; replace HW := Aside0.mk (below_then HW.out HW.out.size hb); clear hb)
      | (go_at_call 22; refine (HVC.out _).mono ?_; rintro e w1 ⟨rfl, hb⟩; replace HW := Aside0.mk (below_then HW.out HW.out.size hb); clear hb)
      | (go_at_call 23; refine (HSM.out _).mono ?_; rintro e w1 ⟨rfl, hb⟩; replace HW := Aside0.mk (below_then HW.out HW.out.size hb); clear hb))
    go_ret2
    exact ⟨rfl, HW.out⟩
set_option maxHeartbeats 2000000 in
set_option maxRecDepth 100000 in
theorem selector_c (s : ByteArray) (hg : 0 < signsLen (bl s) ∧ signsLen (bl s) = s.size) (w : World) : Calls Tryz.prog 14 #[.string s] w fun e w' => SelA (some 1) e ∧ Below w.heap.size w w' := by
  have hsg := signsLen_calls s
  rw [hg.2] at hsg
  have h0 : 0 < s.size := by omega
  have b1 : decide ((0 : Int) < (s.size : Int)) = true := by simp; omega
  have HSG := Aside0.mk hsg
  have HW := Aside0.mk (Below.refl w.heap.size w)
  clear hsg hg
  go_enter Tryz.func14, Tryz.ntmps14
  go_wp2_with (go_at_call 21; refine (HSG.out _).mono ?_; rintro e w1 ⟨rfl, hb⟩; replace HW := Aside0.mk (below_then HW.out HW.out.size hb); clear hb)
  go_ret2
  exact ⟨rfl, HW.out⟩
set_option maxHeartbeats 2000000 in
set_option maxRecDepth 100000 in
theorem selector_d (s : ByteArray) (h0 : s.size = 0) (w : World) : Calls Tryz.prog 14 #[.string s] w fun e w' => SelA none e ∧ Below w.heap.size w w' := by
  have hl : bl s = [] := List.eq_nil_of_length_eq_zero (by rw [bl_len]; exact h0)
  have hsg := signsLen_calls s
  rw [hl] at hsg
  have hne : s.toList.isEmpty = true := by rw [isEmpty_bl, hl]; rfl
  have HSG := Aside0.mk hsg
  have HW := Aside0.mk (Below.refl w.heap.size w)
  clear hsg hl
  go_enter Tryz.func14, Tryz.ntmps14
  go_wp2_with (go_at_call 21; refine (HSG.out _).mono ?_; rintro e w1 ⟨rfl, hb⟩; replace HW := Aside0.mk (below_then HW.out HW.out.size hb); clear hb)
  go_ret2
  exact ⟨rfl, HW.out⟩
set_option maxHeartbeats 4000000 in
set_option maxRecDepth 100000 in
theorem selector_b (s : ByteArray) (hs : s.size ≤ 281474976710656) (g : Nat) (hg : signsLen (bl s) = g) (hng : ¬ (0 < g ∧ g = s.size)) (vc : Int) (hvcq : varCode (bl s) = vc) (hb : Bool) (hhb : headS (bl s) = hb) (hv : ¬ (vc = 0 ∧ hb = true)) (h0 : 0 < s.size) (w : World) : Calls Tryz.prog 14 #[.string s] w fun e w' => SelA (selR (bl s)) e ∧ Below w.heap.size w w' := by
  have hsg := signsLen_calls s
  rw [hg] at hsg
  have hvc := variable_calls s
  rw [hvcq] at hvc
  have hsm := small_calls (s[0]'h0)
  rw [← headS_at s h0, hhb] at hsm
  have hw32 : wrap32 ((s[0]'h0).toNat : Int) = ((s[0]'h0).toNat : Int) := by have := (s[0]'h0).toNat_lt; unfold wrap32; omega
  have hne : s.toList.isEmpty = false := by rw [isEmpty_bl, bl_cons s h0]; rfl
  obtain ⟨TT, hTT⟩ : ∃ T, selR (bl s) = T := ⟨_, rfl⟩
  have HT0 : Aside0 (TT = (selR (bl s)).map (· + 0)) := ⟨by rw [hTT]; cases TT <;> rfl⟩
  rw [hTT]
  have HSG := Aside0.mk hsg
  have HVC := Aside0.mk hvc
  have HSM := Aside0.mk hsm
  have HW := Aside0.mk (Below.refl w.heap.size w)
  have key : g = 0 ∨ (0 < g ∧ ((g : Int) == (s.size : Int)) = false ∧ decide ((0 : Int) < (g : Int)) = true) := by
    by_cases h1 : 0 < g
    · exact .inr ⟨h1, by simp; omega, by simp; omega⟩
    · exact .inl (by omega)
  have kz : (vc == 0) = false ∨ ((vc == 0) = true ∧ hb = false) := by
    by_cases h1 : vc = 0
    · refine .inr ⟨by simpa using h1, ?_⟩
      cases hb with
      | false => rfl
      | true => exact absurd ⟨h1, rfl⟩ hv
    · exact .inl (by simpa using h1)
  clear hsg hvc hsm hv hg hhb hvcq hTT hng
  rcases key with rfl | ⟨h1, b2, b1⟩ <;> rcases kz with hz | ⟨hz, rfl⟩
  all_goals
    go_enter Tryz.func14, Tryz.ntmps14
    go_wp2_with (first
      | (go_at_call 21; refine (HSG.out _).mono ?_; rintro e w1 ⟨rfl, hb⟩; replace HW := Aside0.mk (below_then HW.out HW.out.size hb); clear hb)
      | (go_at_call 22; refine (HVC.out _).mono ?_; rintro e w1 ⟨rfl, hb⟩; replace HW := Aside0.mk (below_then HW.out HW.out.size hb); clear hb)
      | (go_at_call 23; refine (HSM.out _).mono ?_; rintro e w1 ⟨rfl, hb⟩; replace HW := Aside0.mk (below_then HW.out HW.out.size hb); clear hb))
    have HW0 := HW
    clear HW hne hw32 HSG HVC HSM
    go_loopw [0, 5] (fun v0 v5 wr => ∃ (q : ByteArray) (a : Nat), v0 = .string q ∧ v5 = .int .i64 (a : Int) ∧ q.size + a ≤ s.size ∧ Aside0 (TT = (selR (bl q)).map (· + a)) ∧ Aside0 (Below w.heap.size w wr)) (fun v0 _ _ => match v0 with | .string q => q.size | _ => 0)
    case atStart => exact ⟨s, 0, rfl, rfl, by omega, HT0, HW0⟩
    case round =>
      clear HT0 HW0
      obtain ⟨q, a, rfl, rfl, hqa, HT, HW⟩ := hrel
      by_cases hq0 : 0 < q.size
      · have hne : q.toList.isEmpty = false := by rw [isEmpty_bl, bl_cons q hq0]; rfl
        have hqn : bl q ≠ [] := by rw [bl_cons q hq0]; simp
        have hnc := nameLen_calls q
        have hnl := nameLen_le (bl q)
        have hst := selR_step (bl q) hqn
        have hh := headS_at q hq0
        obtain ⟨n, hn⟩ : ∃ n, nameLen (bl q) = n := ⟨_, rfl⟩
        rw [hn] at hnc hst hnl
        rw [bl_len] at hnl
        have hsm := small_calls (q[0]'hq0)
        rw [← hh] at hsm
        have hw32 : wrap32 ((q[0]'hq0).toNat : Int) = ((q[0]'hq0).toNat : Int) := by have := (q[0]'hq0).toNat_lt; unfold wrap32; omega
        have hpx : Lib.hasPrefix (bl (q.extract n q.size)) [58] = ((bl q)[n]? == some 58) := by rw [hasP1, bl_from, List.getElem?_drop]; rfl
        obtain ⟨hb, hhb⟩ : ∃ b, headS (bl q) = b := ⟨_, rfl⟩
        obtain ⟨cb, hcb⟩ : ∃ b, ((bl q)[n]? == some 58) = b := ⟨_, rfl⟩
        rw [hhb] at hsm
        rw [hcb] at hpx
        have HST := Aside0.mk hst
        have HNC := Aside0.mk hnc
        have HSM := Aside0.mk hsm
        have HPX := Aside0.mk hpx
        have HCB := Aside0.mk hcb
        have HHB := Aside0.mk hhb
        clear hst hnc hsm hpx hcb hhb hh hn hqn
        by_cases hn0 : n = 0
        · subst hn0
          go_wp2_with (go_at_call 24; refine (HNC.out _).mono ?_; rintro e w2 ⟨rfl, hb⟩; replace HW := Aside0.mk (below_then HW.out HW.out.size hb); clear hb)
          go_ret2
          refine ⟨?_, HW.out⟩
          rw [HT.out, HST.out, if_pos (.inl (by trivial))]
          rfl
        · have hzn : ((n : Int) == 0) = false := by simpa using hn0
          rcases hb with _ | _
          · go_wp2_with (first
              | (go_at_call 24; refine (HNC.out _).mono ?_; rintro e w2 ⟨rfl, hb⟩; replace HW := Aside0.mk (below_then HW.out HW.out.size hb); clear hb)
              | (go_at_call 23; refine (HSM.out _).mono ?_; rintro e w2 ⟨rfl, hb⟩; replace HW := Aside0.mk (below_then HW.out HW.out.size hb); clear hb))
            go_ret2
            refine ⟨?_, HW.out⟩
            rw [HT.out, HST.out, if_pos (.inr (.inl HHB.out))]
            rfl
          · rcases cb with _ | _
            · go_wp2_with (first
                | (go_at_call 24; refine (HNC.out _).mono ?_; rintro e w2 ⟨rfl, hb⟩; replace HW := Aside0.mk (below_then HW.out HW.out.size hb); clear hb)
                | (go_at_call 23; refine (HSM.out _).mono ?_; rintro e w2 ⟨rfl, hb⟩; replace HW := Aside0.mk (below_then HW.out HW.out.size hb); clear hb)
                | (go_at_call 25; refine (Tryz.strings_HasPrefix _ _ _).mono ?_; rintro e w' ⟨rfl, rfl⟩; rw [show Lib.hasPrefix _ _ = _ from HPX.out]))
              go_ret2
              refine ⟨?_, HW.out⟩
              have hne58 : (bl q)[n]? ≠ some 58 := by have := HCB.out; simpa using this
              rw [HT.out, HST.out, if_pos (.inr (.inr hne58))]
              rfl
            · have h58 : (bl q)[n]? = some 58 := by have := HCB.out; simpa using this
              have hlt : n < q.size := by have := (List.getElem?_eq_some_iff.1 h58).1; rw [bl_len] at this; exact this
              have H58 := Aside0.mk h58
              clear h58
              have hw1 : wrap64 ((n : Int) + 1) = (n : Int) + 1 := by unfold wrap64; omega
              have hw2 : wrap64 ((a : Int) + 1) = (a : Int) + 1 := by unfold wrap64; omega
              have hi1 : (n : Int) + 1 ≤ (q.size : Int) := by omega
              have hi2 : n + 1 ≤ q.size := by omega
              go_wp2_with (first
                | (go_at_call 24; refine (HNC.out _).mono ?_; rintro e w2 ⟨rfl, hb⟩; replace HW := Aside0.mk (below_then HW.out HW.out.size hb); clear hb)
                | (go_at_call 23; refine (HSM.out _).mono ?_; rintro e w2 ⟨rfl, hb⟩; replace HW := Aside0.mk (below_then HW.out HW.out.size hb); clear hb)
                | (go_at_call 25; refine (Tryz.strings_HasPrefix _ _ _).mono ?_; rintro e w' ⟨rfl, rfl⟩; rw [show Lib.hasPrefix _ _ = _ from HPX.out]))
              have hxl : (q.extract (n + 1) q.size).size = q.size - (n + 1) := by rw [← bl_len, bl_from, List.length_drop, bl_len]
              go_roundw
              case rel =>
                refine ⟨q.extract (n + 1) q.size, a + 1, rfl, by go_num, by omega, ⟨?_⟩, HW⟩
                rw [HT.out, HST.out, if_neg (by simp [hn0, HHB.out, H58.out]), bl_from, Option.map_map]
                congr 1
                funext x
                simp only [Function.comp]
                omega
              case measure => show (q.extract (n + 1) q.size).size < q.size; omega
      · have hne : q.toList.isEmpty = true := by
          rw [isEmpty_bl, List.isEmpty_iff]; exact List.eq_nil_of_length_eq_zero (by rw [bl_len]; omega)
        have hqn : bl q = [] := List.eq_nil_of_length_eq_zero (by rw [bl_len]; omega)
        have HQN := Aside0.mk hqn
        clear hqn
        go_wp2_with fail
        go_ret2
        refine ⟨?_, HW.out⟩
        rw [HT.out, HQN.out]
        show _ = _
        simp [selR, selLoop]
theorem selector_calls (s : ByteArray) (hs : s.size ≤ 281474976710656) (w : World) : Calls Tryz.prog 14 #[.string s] w fun e w' => SelA (selector (bl s)) e ∧ Below w.heap.size w w' := by
  unfold selector
  rw [bl_len]
  split
  · rename_i h; exact selector_c s h w
  · rename_i hng
    split
    · rename_i h
      exact selector_d s (by rw [← bl_len, h]; rfl) w
    · rename_i hne
      have h0 : 0 < s.size := by
        rw [← bl_len]
        cases h : bl s with
        | nil => exact absurd h hne
        | cons c r => simp
      split
      · rename_i hv; exact selector_a s hs _ rfl hng hv h0 w
      · rename_i hv
        have := selector_b s hs _ rfl hng _ rfl _ rfl hv h0 w
        rw [selR, bl_len] at this
        exact this
end Go.Proofs.YtjibdaigclgmhaaGreatDoor.LexW
namespace Go.Proofs.YtjibdaigclgmhaaGreatDoor.LexW
open Go.RowKit Go.Maps Go.Proofs.YtjibdaigclgmhaaGreatDoor.Lex Go.Proofs.YtjibdaigclgmhaaGreatDoor.PLexPrints Go.Proofs.YtjibdaigclgmhaaGreatDoorW.PrintWords Go.Proofs.YtjibdaigclgmhaaGreatDoorW.PrintLast Go.Proofs.YtjibdaigclgmhaaGreatDoorW.PrintMore
attribute [local go_sem] max2_int min2_int max_two min_two max_three min_three max_four min_four
set_option linter.unusedVariables false
set_option linter.unusedSimpArgs false
def eqS (b : Bool) (x y : S28) : Bool := decide (x.f0 = y.f0) && (decide (x.f1.toList = y.f1.toList) && (decide (x.f2 = y.f2) && (!b || decide (x.f3 = y.f3))))
def sameB (b : Bool) : List S28 → List S28 → Bool
  | [], [] => true
  | x :: xs, y :: ys => eqS b x y && sameB b xs ys
  | _, _ => false
theorem rd_at (xs : List S28) (i : Nat) (h : i < xs.length) : rd_T28 xs (i : Int) = xs[i]'h := by
  unfold rd_T28
  rw [Int.toNat_natCast, List.getD_eq_getElem?_getD, List.getElem?_eq_getElem h]; rfl
theorem same_l0 (b : Bool) (X Y : List S28) (hl : X.length = Y.length) (hb : X.length ≤ 4611686018427387904) : ∀ (k i : Nat), i ≤ X.length → X.length - i < k → kilnlaw7_sameTokens.l0 k X Y b (i : Int) = some (sameB b (X.drop i) (Y.drop i)) := by
  intro k
  induction k with
  | zero => intro i h1 h2; omega
  | succ k ih =>
    intro i h1 h2
    rw [kilnlaw7_sameTokens.l0]
    by_cases hi : i < X.length
    · have hiY : i < Y.length := by omega
      have hw : wrap64 ((i : Int) + 1) = ((i + 1 : Nat) : Int) := by unfold wrap64; omega
      rw [if_pos (by omega), if_pos (by omega), if_pos (by omega), rd_at X i hi, rd_at Y i hiY, hw, ih (i + 1) (by omega) (by omega)]
      rw [List.drop_eq_getElem_cons hi, List.drop_eq_getElem_cons hiY]
      simp only [sameB, eqS]
      by_cases e0 : X[i].f0 = Y[i].f0
      · by_cases e1 : X[i].f1.toList = Y[i].f1.toList
        · by_cases e2 : X[i].f2 = Y[i].f2
          · cases b with
            | false => simp [e0, e1, e2]
            | true =>
              by_cases e3 : X[i].f3 = Y[i].f3
              · simp [e0, e1, e2, e3]
              · simp [e0, e1, e2, e3]
          · simp [e0, e1, e2]
        · simp [e0, e1]
      · simp [e0]
    · obtain rfl : i = X.length := by omega
      rw [if_neg (by omega), List.drop_length, hl, List.drop_length]
      rfl
theorem sameB_len (b : Bool) : ∀ (X Y : List S28), X.length ≠ Y.length → sameB b X Y = false
  | [], [], h => absurd rfl h
  | x :: xs, y :: ys, h => by
    simp only [List.length_cons, ne_eq, Nat.add_right_cancel_iff] at h
    rw [sameB, sameB_len b xs ys h, Bool.and_false]
  | [], y :: ys, _ => rfl
  | x :: xs, [], _ => rfl
theorem same_calls (X Y : List S28) (A0 A1 : Option Addr) (c0 c1 : Nat) (b : Bool) (w : World) (hx : Kd.C k28 w A0 X.length X) (hc0 : X.length ≤ c0) (hy : Kd.C k28 w A1 Y.length Y) (hc1 : Y.length ≤ c1) (hb : X.length ≤ 4611686018427387904) :
    Calls Tryz.prog 12 #[.slice A0 X.length c0, .slice A1 Y.length c1, .bool b] w fun e w' => e = .returned (.bool (sameB b X Y)) ∧ Drawn0 w w' := by
  refine kilnlaw7_sameTokens.calls (X.length + 1) A0 c0 X A1 c1 Y b _ w hx hc0 hy hc1 ?_
  unfold kilnlaw7_sameTokens.f
  by_cases hl : X.length = Y.length
  · rw [if_pos (by omega)]
    have := same_l0 b X Y hl hb (X.length + 1) 0 (Nat.zero_le _) (by omega)
    simpa using this
  · rw [if_neg (by omega), sameB_len b X Y hl]
def flat42 (l : List S28) : List Value := l.flatMap (fun x => [.int .i64 x.f0, .string x.f1, .int .i64 x.f2, .int .i64 x.f3])
theorem flat42_at : ∀ (l : List S28) (j i : Nat) (x : S28), l[j]? = some x → i < 4 → (flat42 l)[j * 4 + i]? = [Value.int .i64 x.f0, .string x.f1, .int .i64 x.f2, .int .i64 x.f3][i]?
  | [], j, i, x, h, _ => by simp at h
  | y :: l, 0, i, x, h, hi => by
    simp at h; subst h
    unfold flat42
    rw [List.flatMap_cons, List.getElem?_append_left (by simp; omega)]
    simp
  | y :: l, j + 1, i, x, h, hi => by
    have := flat42_at l j i x (by simpa using h) hi
    unfold flat42 at this ⊢
    rw [List.flatMap_cons, List.getElem?_append_right (by simp; omega)]
    rw [← this]
    congr 1
    simp; omega
theorem lit_C42 (W : World) (l : List S28) (hl : l.length ≤ 9223372036854775807) : Kd.C k28 (W.alloc (.cells (flat42 l).toArray 28)) (some ⟨W.heap.size, 0, none⟩) l.length l := by
  refine ⟨rfl, hl, fun _ => ⟨_, rfl, fun j p hj => ⟨_, rfl, k28_mk _ p, fun i u hu => ?_⟩⟩⟩
  have hi : i < 4 := by have := (List.getElem?_eq_some_iff.1 hu).1; simpa using this
  have h1 := flat42_at l j i p hj hi
  rw [hu] at h1
  exact World.news_of_block (cs := (flat42 l).toArray) (t := 28) (fr := (0, 0)) (heap_alloc_new W (.cells (flat42 l).toArray 28)) (j * 4 + i) u (by simpa using h1)
def K1 : List TokA := [⟨⟨1, [120], 0⟩, 0⟩, ⟨⟨14, [], 0⟩, 2⟩, ⟨⟨4, [], 3⟩, 5⟩, ⟨⟨3, [45], 0⟩, 6⟩, ⟨⟨3, [45], 0⟩, 7⟩, ⟨⟨5, [97, 58, 98, 58], 0⟩, 8⟩, ⟨⟨6, [105, 116, 39, 115], 0⟩, 14⟩, ⟨stopT, 21⟩]
theorem known1 : tokensS (bl ⟨#[120, 32, 58, 61, 32, 51, 45, 45, 35, 97, 58, 98, 58, 32, 39, 105, 116, 39, 39, 115, 39]⟩) = .inl K1 := by decide +kernel
theorem known2 : tokensS (bl ⟨#[97, 32, 35, 32, 98]⟩) = .inr (70, 2) := by decide +kernel
theorem known3 : selector (bl ⟨#[97, 116, 58, 112, 117, 116, 58]⟩) = some 2 := by decide +kernel
def K2 : List S28 := [⟨1, ⟨#[120]⟩, 0, 0⟩, ⟨14, ⟨#[]⟩, 0, 0⟩, ⟨4, ⟨#[]⟩, 3, 0⟩, ⟨3, ⟨#[45]⟩, 0, 0⟩, ⟨3, ⟨#[45]⟩, 0, 0⟩, ⟨5, ⟨#[97, 58, 98, 58]⟩, 0, 0⟩, ⟨6, ⟨#[105, 116, 39, 115]⟩, 0, 0⟩, ⟨18, ⟨#[]⟩, 0, 0⟩]
theorem known4 : sameB false (K1.map tokS) K2 = true := by decide +kernel
theorem num_calls (a : Int) (w : World) : Calls Tryz.prog 11 #[.int .i64 a] w fun e w' => e = .returned (.int .i64 a) ∧ Below w.heap.size w w' :=
  (kilnlaw7_num.calls a a w rfl).mono fun e w' h => ⟨h.1, by obtain ⟨nd, rfl⟩ := h.2; exact ⟨rfl, rfl, rfl, Nat.le_refl _, fun _ _ => rfl⟩⟩
theorem below_drawn {w w' : World} (h : Drawn0 w w') : Below w.heap.size w w' := by obtain ⟨nd, rfl⟩ := h; exact ⟨rfl, rfl, rfl, Nat.le_refl _, fun _ _ => rfl⟩
set_option maxHeartbeats 4000000 in
set_option maxRecDepth 1000000 in
theorem known_calls (w : World) (E : Erg w) : Calls Tryz.prog 8 #[] w fun e w' => e = .returned (.bool true) ∧ Below w.heap.size w w' := by
  have HE := Aside0.mk E
  clear E
  go_enter Tryz.func8, Tryz.ntmps8
  go_wp2_with fail
  refine (tokens_calls _ _ HE.out).mono ?_
  rintro e w1 h
  rw [known1] at h
  obtain ⟨⟨A, c, rfl, hR⟩, hb⟩ := h
  obtain ⟨_, hAc, hC⟩ := Kd.R_reads' hR
  obtain ⟨KS, hKS⟩ : ∃ KS, KS = K1.map tokS := ⟨_, rfl⟩
  have hlen : K1.length = KS.length := by rw [hKS, List.length_map]
  rw [← hKS] at hC
  rw [hlen]
  have hKL : KS.length = 8 := by rw [hKS]; rfl
  have HKL := Aside0.mk hKL
  have HKS := Aside0.mk hKS
  have HC1 := Aside0.mk hC
  have HW1 := Aside0.mk hb
  clear hR hC hb hAc hlen hKS hKL
  go_wp2_with fail
  refine (tokens_calls _ _ (HE.out.below (HW1.out.trans (below_le (((Below.refl w1.heap.size w1).alloc (Nat.le_refl _) _).alloc (by simp) _) HW1.out.size)))).mono ?_
  rintro e w3 h
  rw [known2] at h
  obtain rfl : e = .returned (.tuple #[.slice none 0 0, .agg #[.int .i64 70, .int .i64 2]]) := h.1
  have hb := h.2
  have hC2 : Kd.C k28 w3 (some ⟨(w1.alloc (Obj.cells #[Value.int IntKind.i64 0, Value.int IntKind.i64 0] 38)).heap.size, 0, none⟩) K2.length K2 := Kd.C_below (lit_C42 (w1.alloc (Obj.cells #[Value.int IntKind.i64 0, Value.int IntKind.i64 0] 38)) K2 (by decide)) hb
  rw [show (w1.alloc (Obj.cells #[Value.int IntKind.i64 0, Value.int IntKind.i64 0] 38)).heap.size = w1.heap.size + 1 by simp] at hC2
  have hF1 := blk_below (blk_alloc (blk_new w1 (.cells #[.int .i64 0, .int .i64 0] 38 (0, 0))) _) hb
  have hW3 : Below w1.heap.size w1 w3 := Below.trans (((Below.refl w1.heap.size w1).alloc (Nat.le_refl _) _).alloc (by simp) _) (below_le hb (by simp; omega))
  have HF1 := Aside0.mk hF1
  have HC2 := Aside0.mk hC2
  have HC3 := Aside0.mk (Kd.C_below HC1.out hW3)
  have HW3 := Aside0.mk (below_then HW1.out HW1.out.size hW3)
  clear h hb hC2 hF1 hW3 HC1 HW1
  go_wp2_with fail
  refine (selector_calls _ (by decide) _).mono ?_
  rintro e w4 h
  rw [known3] at h
  obtain rfl : e = .returned (.tuple #[.int .i64 2, .int .i64 0]) := h.1
  have hb := h.2
  have hW4 : Below w3.heap.size w3 w4 := Below.trans ((Below.refl w3.heap.size w3).alloc (Nat.le_refl _) _) (below_le hb (by simp))
  have HC4 := Aside0.mk (Kd.C_below HC3.out hW4)
  have HC5 := Aside0.mk (Kd.C_below HC2.out hW4)
  have hF1 := blk_below HF1.out hW4
  have hF2 := blk_below (blk_new w3 (.cells #[.int .i64 70, .int .i64 2] 38 (0, 0))) hb
  have HW4 := Aside0.mk (below_then HW3.out HW3.out.size hW4)
  have HF1' := Aside0.mk hF1
  have HF2' := Aside0.mk hF2
  have d0 := blk_cell hF1 0
  have d1 := blk_cell hF2 0
  have d2 := blk_cell hF2 1
  clear h hb hW4 HC3 HC2 HW3 HF1 hF1 hF2
  go_wp2_with fail
  have hsame : sameB false KS K2 = true := by rw [HKS.out]; exact known4
  have hsc := same_calls KS K2 A (some ⟨w1.heap.size + 1, 0, none⟩) KS.length 8 false w4 HC4.out (Nat.le_refl _) HC5.out (by decide) (by rw [HKL.out]; omega)
  rw [hsame] at hsc
  refine hsc.mono ?_
  rintro e w5 ⟨rfl, nd, rfl⟩
  clear hsc hsame
  go_wp2_with (go_at_call 11; refine (num_calls _ _).mono ?_; rintro e w6 ⟨rfl, hb⟩; have HB := Aside0.mk hb; clear hb)
  go_ret
  exact ⟨rfl, below_then (pw_below_drewN HW4.out nd) HW4.out.size HB.out⟩
end Go.Proofs.YtjibdaigclgmhaaGreatDoor.LexW
