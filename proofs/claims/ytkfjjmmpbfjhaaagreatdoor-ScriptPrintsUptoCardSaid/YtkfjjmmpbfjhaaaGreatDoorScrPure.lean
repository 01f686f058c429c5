/- The scripts' words in plain words: byte words read and written, acts and their lines. Conditions: none. -/
import Derived.Test.YtkfjjmmpbfjhaaaGreatDoorTellCalls
namespace Go.Proofs.YtkfjjmmpbfjhaaaGreatDoor.Tells
open Go.RowKit Go.Proofs.YtkfjjmmpbfjhaaaGreatDoor.PScriptActs
set_option linter.unusedVariables false
set_option linter.unusedSimpArgs false
/-- a digit's value: 16 is none -/
def hexv (c : UInt8) : Nat := hexTab.findIdx (· == c)
theorem hexv_hexc : ∀ n : Fin 16, hexv (hexc n.val) = n.val := by decide +kernel
theorem plain_ascii : ∀ c : Fin 256, plainI c.val = true → c.val < 128 ∧ c.val ≠ 37 := by decide +kernel
/-- what a byte word says behind its '=' -/
def unw : List UInt8 → Option (List UInt8)
  | [] => some []
  | c :: r =>
    if 128 ≤ c.toNat then none
    else if c = 37 then
      match r with
      | a :: b :: r2 => if hexv a < 16 ∧ hexv b < 16 ∧ plainI (hexv a * 16 + hexv b) = false then (unw r2).map (UInt8.ofNat (hexv a * 16 + hexv b) :: ·) else none
      | _ => none
    else if plainI c.toNat = true then (unw r).map (c :: ·) else none
theorem unw_plain (c : UInt8) (l : List UInt8) (h1 : c.toNat < 128) (h3 : c ≠ 37) (h : plainI c.toNat = true) : unw (c :: l) = (unw l).map (c :: ·) := by
  have h1' : ¬ 128 ≤ c.toNat := by omega
  rcases l with _ | ⟨a, _ | ⟨b, r⟩⟩ <;> rw [unw.eq_def] <;> simp only [if_neg h1', if_neg h3, if_pos h]
theorem unw_hex (a b : UInt8) (l : List UInt8) (h : hexv a < 16 ∧ hexv b < 16 ∧ plainI (hexv a * 16 + hexv b) = false) : unw (37 :: a :: b :: l) = (unw l).map (UInt8.ofNat (hexv a * 16 + hexv b) :: ·) := by
  rw [unw.eq_def]
  simp only [if_pos h]
  rw [if_neg (by decide)]; exact if_pos trivial
theorem unw_enc1 (c : UInt8) (l : List UInt8) : unw (enc1 c ++ l) = (unw l).map (c :: ·) := by
  unfold enc1
  by_cases h : plainI c.toNat = true
  · rw [if_pos h]
    obtain ⟨h1, h2⟩ := plain_ascii ⟨c.toNat, c.toNat_lt⟩ h
    exact unw_plain c l h1 (fun e => h2 (by rw [e]; rfl)) h
  · rw [if_neg h]
    have hlt := c.toNat_lt
    have h1 : c.toNat / 16 < 16 := by omega
    have h2 : c.toNat % 16 < 16 := by omega
    have e1 : hexv (hexc (c.toNat / 16)) = c.toNat / 16 := hexv_hexc ⟨c.toNat / 16, h1⟩
    have e2 : hexv (hexc (c.toNat % 16)) = c.toNat % 16 := hexv_hexc ⟨c.toNat % 16, h2⟩
    have e3 : c.toNat / 16 * 16 + c.toNat % 16 = c.toNat := by omega
    show unw (37 :: hexc (c.toNat / 16) :: hexc (c.toNat % 16) :: l) = _
    rw [unw_hex _ _ _ (by rw [e1, e2, e3]; exact ⟨h1, h2, by simpa using h⟩), e1, e2, e3]
    simp
theorem unw_encw (l : List UInt8) : unw (encw l) = some l := by
  unfold encw
  induction l with
  | nil => rfl
  | cons c r ih => rw [List.flatMap_cons, unw_enc1, ih]; rfl
/-- acts: S31 (kind, name, other, names, text, number, fuel) -/
def nil_ : ByteArray := ⟨#[]⟩
def act0 (k : Int) : S31 := ⟨k, nil_, nil_, [], nil_, 0, 0⟩
/-- the act with nothing but the fields that its line names -/
def only (a : S31) : S31 :=
  if a.f0 = 1 then ⟨1, a.f1, a.f2, a.f3, nil_, 0, 0⟩
  else if a.f0 = 2 then ⟨2, a.f1, nil_, [], a.f4, 0, 0⟩
  else if a.f0 = 3 then ⟨3, a.f1, a.f2, [], nil_, 0, 0⟩
  else if a.f0 = 4 then ⟨4, a.f1, nil_, [], nil_, 0, 0⟩
  else if a.f0 = 5 then ⟨5, nil_, nil_, [], a.f4, 0, 0⟩
  else if a.f0 = 6 then ⟨6, nil_, nil_, [], nil_, a.f5, a.f6⟩
  else if a.f0 = 7 then ⟨7, a.f1, nil_, a.f3, nil_, 0, 0⟩
  else if a.f0 = 10 then ⟨10, nil_, nil_, [], nil_, a.f5, 0⟩
  else if a.f0 = 12 then ⟨12, nil_, nil_, [], a.f4, 0, 0⟩
  else act0 a.f0
/-- the words behind the act's own -/
def behind (a : S31) : List ByteArray :=
  if a.f0 = 1 then wordB a.f1 :: wordB a.f2 :: a.f3.map wordB
  else if a.f0 = 2 then [wordB a.f1, wordB a.f4]
  else if a.f0 = 3 then [wordB a.f1, wordB a.f2]
  else if a.f0 = 4 then [wordB a.f1]
  else if a.f0 = 5 then [wordB a.f4]
  else if a.f0 = 6 then [itoaB a.f5, itoaB a.f6]
  else if a.f0 = 7 then wordB a.f1 :: a.f3.map wordB
  else if a.f0 = 10 then [itoaB a.f5]
  else if a.f0 = 12 then [wordB a.f4]
  else []
end Go.Proofs.YtkfjjmmpbfjhaaaGreatDoor.Tells
