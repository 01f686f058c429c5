/- The program's reading of tokens, walked: each function's answer in plain words. Conditions: those that each theorem states. -/
import Derived.Test.YtjibdaigclgmhaaDoorLexPure
import Derived.Test.YtjibdaigclgmhaaDoorPLexTokensx3
import Derived.Outline
import Derived.IntWalk
import Derived.WalkSpells
import Derived.LoopTactic
import Derived.Laws.RangeString
import Derived.Laws.RangeAny
import Derived.Lib.OthersKept
import Derived.Deep.QuietTactic
import Derived.BigQuiet
import Derived.Deep.MidRow
import Derived.ArgAppend
import Derived.Lib.AppendStr
namespace Go.Proofs.YtjibdaigclgmhaaDoor.LexW
open Go.RowKit Go.Proofs.YtjibdaigclgmhaaDoor.Lex Go.Proofs.YtjibdaigclgmhaaDoor.PLexTokens Go.Proofs.YtjibdaigclgmhaaDoorW.PrintWords Go.Proofs.YtjibdaigclgmhaaDoorW.PrintLast Go.Proofs.YtjibdaigclgmhaaDoorW.PrintMore
attribute [local go_sem] max2_int min2_int max_two min_two max_three min_three max_four min_four
set_option linter.unusedVariables false
set_option linter.unusedSimpArgs false
abbrev bl (s : ByteArray) : List UInt8 := s.data.toList
theorem bl_len (s : ByteArray) : (bl s).length = s.size := by rw [Array.length_toList]; rfl
theorem bl_get (s : ByteArray) (i : Nat) (h : i < s.size) : (bl s)[i]? = some (s[i]'h) := by
  rw [List.getElem?_eq_getElem (by rw [bl_len]; exact h)]
  rfl
def isLI (a : Int) : Bool := (decide (97 ≤ a) && decide (a ≤ 122)) || (decide (65 ≤ a) && decide (a ≤ 90))
def isDI (a : Int) : Bool := decide (48 ≤ a) && decide (a ≤ 57)
theorem isLI_byte (c : UInt8) : isLI (c.toNat : Int) = isL c := by
  have key : ∀ c : Fin 256, isLI ((c.val : Nat) : Int) = isL (UInt8.ofNat c.val) := by decide +kernel
  have := key ⟨c.toNat, c.toNat_lt⟩
  rw [this]; simp
theorem isDI_byte (c : UInt8) : isDI (c.toNat : Int) = isD c := by
  have key : ∀ c : Fin 256, isDI ((c.val : Nat) : Int) = isD (UInt8.ofNat c.val) := by decide +kernel
  have := key ⟨c.toNat, c.toNat_lt⟩
  rw [this]; simp
theorem isLI_big (a : Int) (h : 128 ≤ a) : isLI a = false := by
  unfold isLI
  rw [decide_eq_false (show ¬ a ≤ 122 by omega), decide_eq_false (show ¬ a ≤ 90 by omega)]; simp
theorem isDI_big (a : Int) (h : 128 ≤ a) : isDI a = false := by
  unfold isDI
  rw [decide_eq_false (show ¬ a ≤ 57 by omega)]; simp
theorem high_not : ∀ c : UInt8, 128 ≤ c.toNat → isL c = false ∧ isD c = false := by
  have key : ∀ c : Fin 256, 128 ≤ c.val → isL (UInt8.ofNat c.val) = false ∧ isD (UInt8.ofNat c.val) = false := by decide +kernel
  intro c h
  have := key ⟨c.toNat, c.toNat_lt⟩ h
  simpa using this
theorem isLetter_calls (a : Int) (w : World) : Calls Tryd.prog 47 #[.int .i32 a] w fun e w' => e = .returned (.bool (isLI a)) ∧ Drawn0 w w' := by
  refine lex_isLetter.calls a _ w ?_
  simp only [lex_isLetter.f, lex_isSmall.f, isLI]
  by_cases h1 : 97 ≤ a <;> by_cases h2 : a ≤ 122 <;> by_cases h3 : 65 ≤ a <;> by_cases h4 : a ≤ 90 <;> simp [h1, h2, h3, h4] <;> omega
theorem isDigit_calls (a : Int) (w : World) : Calls Tryd.prog 48 #[.int .i32 a] w fun e w' => e = .returned (.bool (isDI a)) ∧ Drawn0 w w' := by
  refine lex_isDigit.calls a _ w ?_
  simp only [lex_isDigit.f, isDI]
  by_cases h1 : 48 ≤ a <;> simp [h1]
theorem isSmall_calls (a : Int) (w : World) : Calls Tryd.prog 30 #[.int .i32 a] w fun e w' => e = .returned (.bool (decide (97 ≤ a) && decide (a ≤ 122))) ∧ Drawn0 w w' := by
  refine lex_isSmall.calls a _ w ?_
  simp only [lex_isSmall.f]
  by_cases h1 : 97 ≤ a <;> simp [h1]
/-- the name goes on, or ends here -/
theorem name_step (l : List UInt8) (p : Nat) (c : UInt8) (hp : p ≤ nameLen l) (hc : l[p]? = some c) : ((isL c || (decide (p ≠ 0) && isD c)) = true → p + 1 ≤ nameLen l) ∧ ((isL c || (decide (p ≠ 0) && isD c)) = false → nameLen l = p) := by
  cases l with
  | nil => simp at hc
  | cons d r =>
    rw [nameLen_cons] at hp ⊢
    cases p with
    | zero =>
      simp at hc
      subst hc
      constructor
      · intro h; simp at h; rw [if_pos h]; omega
      · intro h; simp at h; rw [if_neg (by simp [h])]
    | succ p =>
      simp only [List.getElem?_cons_succ] at hc
      split at hp
      · rename_i hd
        rw [if_pos hd]
        have hp : p ≤ (r.takeWhile alnum).length := by omega
        have e : (isL c || (decide (p + 1 ≠ 0) && isD c)) = alnum c := by simp [alnum]
        rw [e]
        clear e hd
        induction r generalizing p with
        | nil => simp at hc
        | cons x r ih =>
          cases hx : alnum x with
          | false =>
            simp only [List.takeWhile_cons, hx] at hp ⊢
            simp at hp
            subst hp
            simp at hc
            subst hc
            simp [hx]
          | true =>
            simp only [List.takeWhile_cons, hx, if_true, List.length_cons] at hp ⊢
            cases p with
            | zero =>
              simp at hc
              subst hc
              simp [hx]
            | succ p =>
              simp only [List.getElem?_cons_succ] at hc
              have := ih p hc (by omega) (by omega)
              constructor
              · intro h; have := this.1 h; omega
              · intro h; have := this.2 h; omega
      · omega
theorem digits_step (l : List UInt8) (p : Nat) (c : UInt8) (hp : p ≤ digitsLen l) (hc : l[p]? = some c) : (isD c = true → p + 1 ≤ digitsLen l) ∧ (isD c = false → digitsLen l = p) := by
  unfold digitsLen at *
  induction l generalizing p with
  | nil => simp at hc
  | cons x r ih =>
    cases hx : isD x with
    | false =>
      simp only [List.takeWhile_cons, hx] at hp ⊢
      simp at hp
      subst hp
      simp at hc
      subst hc
      simp [hx]
    | true =>
      simp only [List.takeWhile_cons, hx, if_true, List.length_cons] at hp ⊢
      cases p with
      | zero =>
        simp at hc
        subst hc
        simp [hx]
      | succ p =>
        simp only [List.getElem?_cons_succ] at hc
        have := ih p (by omega) hc
        constructor
        · intro h; have := this.1 h; omega
        · intro h; have := this.2 h; omega
theorem iterPos_of {w : World} {k : Nat} {s : ByteArray} {p : Nat} (h : w.heap[k]? = some (.stringIter s p)) : w.iterPos k = p := by simp [World.iterPos, h]
/-- what a rune says of the byte at which it begins -/
theorem rune_at (s : ByteArray) (pos : Nat) (hp : pos < s.size) : isLI (Utf8.decode s pos).1 = isL (s[pos]'hp) ∧ isDI (Utf8.decode s pos).1 = isD (s[pos]'hp) ∧ ((isL (s[pos]'hp) = true ∨ isD (s[pos]'hp) = true) → (Utf8.decode s pos).2 = 1) := by
  by_cases ha : (s[pos]'hp).toNat < 128
  · rw [decode_ascii s pos hp ha]
    exact ⟨isLI_byte _, isDI_byte _, fun _ => rfl⟩
  · obtain ⟨h1, _⟩ := decode_high s pos hp (by omega)
    obtain ⟨h3, h4⟩ := high_not (s[pos]'hp) (by omega)
    rw [h3, h4]
    exact ⟨isLI_big _ (by omega), isDI_big _ (by omega), fun h => by simp at h⟩
set_option maxHeartbeats 4000000 in
set_option maxRecDepth 100000 in
theorem nameLen_calls (s : ByteArray) (w : World) : Calls Tryd.prog 31 #[.string s] w fun e w' => e = .returned (.int .i64 (nameLen (bl s) : Int)) ∧ Below w.heap.size w w' := by
  go_enter Tryd.func31, Tryd.ntmps31
  go_wp2
  go_loopw [] (fun wr => ∃ pos : Nat, wr.heap[w.heap.size]? = some (.stringIter s pos) ∧ Below w.heap.size w wr ∧ pos ≤ nameLen (bl s)) (fun wr => s.size - wr.iterPos w.heap.size)
  case atStart => exact ⟨0, World.iter_heap w s 0, (Below.refl _ _).alloc (Nat.le_refl _) _, by omega⟩
  case round =>
    obtain ⟨pos, hit, hbw, hle⟩ := hrel
    have hpos0 := iterPos_of hit
    by_cases hp : pos < s.size
    · have hnx : ∀ ty, (Instr.next (.pointer (some ⟨w.heap.size, 0, none⟩)) true ty).run Tryd.prog wr = _ := fun ty => Lib.run_next_any_at wr w.heap.size s pos ty hit hp
      obtain ⟨hl, hd, hwd⟩ := rune_at s pos hp
      have hst := name_step (bl s) pos (s[pos]'hp) hle (bl_get s pos hp)
      have hit2 := Lib.iterAt_heap wr w.heap.size s pos (pos + (Utf8.decode s pos).2) hit
      have hbw2 := Lib.below_iterAt hbw (k := w.heap.size) (Nat.le_refl _) s (pos + (Utf8.decode s pos).2)
      obtain ⟨W1, hW1⟩ : ∃ W1, W1 = wr.iterAt w.heap.size s (pos + (Utf8.decode s pos).2) := ⟨_, rfl⟩
      rw [← hW1] at hnx hit2 hbw2
      have hpz : ((pos : Int) == 0) = decide (pos = 0) := by
        by_cases h : pos = 0
        · simp [h]
        · have h2 : ((pos : Int) == 0) = false := by simpa using h
          rw [h2]; simp [h]
      obtain ⟨a, hA⟩ : ∃ a, isL (s[pos]'hp) = a := ⟨_, rfl⟩
      obtain ⟨b, hB⟩ : ∃ b, isD (s[pos]'hp) = b := ⟨_, rfl⟩
      obtain ⟨z, hZ⟩ : ∃ z, decide (pos = 0) = z := ⟨_, rfl⟩
      rw [hA] at hl hst hwd
      rw [hB] at hd hst hwd
      have hz2 : decide (pos ≠ 0) = !z := by rw [← hZ]; simp
      rw [hz2] at hst
      rw [hZ] at hpz
      have HST := Aside0.mk hst
      have HWD := Aside0.mk hwd
      have HL := Aside0.mk hl
      have HD := Aside0.mk hd
      have HP := Aside0.mk hpos0
      clear hst hwd hW1 hit hbw hl hd hpos0 hA hB hz2 hZ
      cases a <;> cases b <;> cases z
      all_goals go_wp2_with (first
        | (go_at_call 47; refine (isLetter_calls _ _).mono ?_; rintro e w' ⟨rfl, ⟨nd, rfl⟩⟩; rw [HL.out])
        | (go_at_call 48; refine (isDigit_calls _ _).mono ?_; rintro e w' ⟨rfl, ⟨nd2, rfl⟩⟩; rw [HD.out]))
      all_goals first
        | (go_roundw
           case rel => exact ⟨pos + 1, by have h1 := HWD.out (by simp); rw [h1] at hit2; exact hit2, hbw2.trans ⟨rfl, rfl, rfl, Nat.le_refl _, fun _ _ => rfl⟩, by exact HST.out.1 rfl⟩
           case measure =>
             have h1 := HWD.out (by simp)
             rw [h1] at hit2
             have h2 := iterPos_of hit2
             show s.size - W1.iterPos w.heap.size < _
             rw [h2, HP.out]; omega)
        | (go_ret
           refine ⟨?_, hbw2.trans ⟨rfl, rfl, rfl, Nat.le_refl _, fun _ _ => rfl⟩⟩
           have h1 := HST.out.2 rfl
           rw [h1]; rfl)
    · have hnx : ∀ ty, (Instr.next (.pointer (some ⟨w.heap.size, 0, none⟩)) true ty).run Tryd.prog wr = _ := fun ty => Lib.run_next_end_at wr w.heap.size s pos ty hit hp
      go_wp2
      go_ret
      have h1 := nameLen_le (bl s)
      rw [bl_len] at h1
      have h2 : nameLen (bl s) = s.size := by omega
      exact ⟨by rw [h2]; rfl, hbw⟩
set_option maxHeartbeats 4000000 in
set_option maxRecDepth 100000 in
theorem digitsLen_calls (s : ByteArray) (w : World) : Calls Tryd.prog 80 #[.string s] w fun e w' => e = .returned (.int .i64 (digitsLen (bl s) : Int)) ∧ Below w.heap.size w w' := by
  go_enter Tryd.func80, Tryd.ntmps80
  go_wp2
  go_loopw [] (fun wr => ∃ pos : Nat, wr.heap[w.heap.size]? = some (.stringIter s pos) ∧ Below w.heap.size w wr ∧ pos ≤ digitsLen (bl s)) (fun wr => s.size - wr.iterPos w.heap.size)
  case atStart => exact ⟨0, World.iter_heap w s 0, (Below.refl _ _).alloc (Nat.le_refl _) _, by omega⟩
  case round =>
    obtain ⟨pos, hit, hbw, hle⟩ := hrel
    have hpos0 := iterPos_of hit
    by_cases hp : pos < s.size
    · have hnx : ∀ ty, (Instr.next (.pointer (some ⟨w.heap.size, 0, none⟩)) true ty).run Tryd.prog wr = _ := fun ty => Lib.run_next_any_at wr w.heap.size s pos ty hit hp
      obtain ⟨hl, hd, hwd⟩ := rune_at s pos hp
      have hst := digits_step (bl s) pos (s[pos]'hp) hle (bl_get s pos hp)
      have hit2 := Lib.iterAt_heap wr w.heap.size s pos (pos + (Utf8.decode s pos).2) hit
      have hbw2 := Lib.below_iterAt hbw (k := w.heap.size) (Nat.le_refl _) s (pos + (Utf8.decode s pos).2)
      obtain ⟨W1, hW1⟩ : ∃ W1, W1 = wr.iterAt w.heap.size s (pos + (Utf8.decode s pos).2) := ⟨_, rfl⟩
      rw [← hW1] at hnx hit2 hbw2
      obtain ⟨b, hB⟩ : ∃ b, isD (s[pos]'hp) = b := ⟨_, rfl⟩
      rw [hB] at hd hst hwd
      have HST := Aside0.mk hst
      have HWD := Aside0.mk hwd
      have HD := Aside0.mk hd
      have HP := Aside0.mk hpos0
      clear hst hwd hW1 hit hbw hl hd hpos0 hB
      cases b
      all_goals go_wp2_with (go_at_call 48; refine (isDigit_calls _ _).mono ?_; rintro e w' ⟨rfl, ⟨nd2, rfl⟩⟩; rw [HD.out])
      · go_ret
        refine ⟨?_, hbw2.trans ⟨rfl, rfl, rfl, Nat.le_refl _, fun _ _ => rfl⟩⟩
        have h1 := HST.out.2 (by trivial)
        rw [h1]; rfl
      · go_roundw
        case rel => exact ⟨pos + 1, by have h1 := HWD.out (.inr (by trivial)); rw [h1] at hit2; exact hit2, hbw2.trans ⟨rfl, rfl, rfl, Nat.le_refl _, fun _ _ => rfl⟩, by exact HST.out.1 (by trivial)⟩
        case measure =>
             have h1 := HWD.out (.inr (by trivial))
             rw [h1] at hit2
             have h2 := iterPos_of hit2
             show s.size - W1.iterPos w.heap.size < _
             rw [h2, HP.out]; omega
    · have hnx : ∀ ty, (Instr.next (.pointer (some ⟨w.heap.size, 0, none⟩)) true ty).run Tryd.prog wr = _ := fun ty => Lib.run_next_end_at wr w.heap.size s pos ty hit hp
      go_wp2
      go_ret
      have h1 := takeWhile_len_le isD (bl s)
      rw [bl_len] at h1
      have h2 : digitsLen (bl s) = s.size := by unfold digitsLen at hle ⊢; omega
      exact ⟨by rw [h2]; rfl, hbw⟩
end Go.Proofs.YtjibdaigclgmhaaDoor.LexW
