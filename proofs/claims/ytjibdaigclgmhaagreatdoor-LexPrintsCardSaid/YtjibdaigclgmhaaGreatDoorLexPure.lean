/- The tokens of a source, in plain Lean: what a reading gives, and its laws. Conditions: none. -/
import Derived.RowKit
namespace Go.Proofs.YtjibdaigclgmhaaGreatDoor.Lex
set_option linter.unusedVariables false
set_option linter.unusedSimpArgs false
def isS (c : UInt8) : Bool := decide (97 ≤ c) && decide (c ≤ 122)
def isL (c : UInt8) : Bool := isS c || (decide (65 ≤ c) && decide (c ≤ 90))
def isD (c : UInt8) : Bool := decide (48 ≤ c) && decide (c ≤ 57)
def alnum (c : UInt8) : Bool := isL c || isD c
def signL : List UInt8 := [43, 45, 42, 47, 92, 60, 62, 61, 126, 44, 37, 38, 63, 64]
def isG (c : UInt8) : Bool := signL.contains c
def isB (c : UInt8) : Bool := c == 32 || c == 9 || c == 10 || c == 13
def nameLen : List UInt8 → Nat
  | [] => 0
  | c :: r => if isL c then (r.takeWhile alnum).length + 1 else 0
theorem nameLen_cons (c : UInt8) (r : List UInt8) : nameLen (c :: r) = if isL c then (r.takeWhile alnum).length + 1 else 0 := rfl
def digitsLen (s : List UInt8) : Nat := (s.takeWhile isD).length
def signsLen : List UInt8 → Nat
  | [] => 0
  | a :: r => if isG a then (match r with | [] => 1 | b :: _ => if isG b && a != 45 && b != 45 then 2 else 1) else 0
def colon (s : List UInt8) : Bool := s[0]? == some 58 && s[1]? != some 61
def symMore : Nat → List UInt8 → Nat
  | 0, _ => 0
  | f + 1, s => if 0 < nameLen s && colon (s.drop (nameLen s)) then nameLen s + 1 + symMore f (s.drop (nameLen s + 1)) else 0
def symLen (s : List UInt8) : Nat :=
  if 0 < signsLen s then signsLen s else
  if 0 < nameLen s && colon (s.drop (nameLen s)) then nameLen s + 1 + symMore s.length (s.drop (nameLen s + 1)) else nameLen s
def textOf : List UInt8 → Option (List UInt8 × Nat)
  | [] => none
  | [c] => if c = 39 then some ([], 1) else none
  | c :: d :: r => if c = 39 then (if d = 39 then (textOf r).map (fun p => (39 :: p.1, p.2 + 2)) else some ([], 1)) else (textOf (d :: r)).map (fun p => (c :: p.1, p.2 + 1))
structure Tok where
  kind : Int
  text : List UInt8
  num : Int
deriving DecidableEq
def digVal (l : List UInt8) : Nat := l.foldl (fun n c => 10 * n + (c.toNat - 48)) 0
def markKind (c : UInt8) : Int :=
  if c = 40 then 8 else if c = 41 then 9 else if c = 91 then 10 else if c = 93 then 11 else if c = 124 then 12 else if c = 58 then 13 else if c = 94 then 15 else if c = 46 then 16 else if c = 59 then 17 else 0
def tok : List UInt8 → Option (Tok × Nat)
  | [] => none
  | c :: r =>
    if isL c then (if colon ((c :: r).drop (nameLen (c :: r))) then some (⟨2, (c :: r).take (nameLen (c :: r)), 0⟩, nameLen (c :: r) + 1) else some (⟨1, (c :: r).take (nameLen (c :: r)), 0⟩, nameLen (c :: r)))
    else if isD c then (if digVal ((c :: r).take (digitsLen (c :: r))) ≤ 1073741824 then some (⟨4, [], digVal ((c :: r).take (digitsLen (c :: r)))⟩, digitsLen (c :: r)) else none)
    else if c = 35 then (if r[0]? = some 40 then some (⟨7, [], 0⟩, 2) else if 0 < symLen r then some (⟨5, r.take (symLen r), 0⟩, symLen r + 1) else none)
    else if c = 39 then (textOf r).map (fun p => (⟨6, p.1, 0⟩, p.2 + 1))
    else if isG c then some (⟨3, (c :: r).take (signsLen (c :: r)), 0⟩, signsLen (c :: r))
    else if c = 58 ∧ r[0]? = some 61 then some (⟨14, [], 0⟩, 2)
    else if markKind c = 0 then none else some (⟨markKind c, [], 0⟩, 1)
/-- where a list's first quote stands -/
def comLen : List UInt8 → Option Nat
  | [] => none
  | c :: r => if c = 34 then some 0 else (comLen r).map (· + 1)
def skipF : Nat → List UInt8 → Nat × Bool
  | 0, _ => (0, true)
  | _ + 1, [] => (0, true)
  | f + 1, c :: r => if isB c then ((skipF f r).1 + 1, (skipF f r).2) else if c = 34 then (match comLen r with | none => (0, false) | some n => ((skipF f (r.drop (n + 1))).1 + (n + 2), (skipF f (r.drop (n + 1))).2)) else (0, true)
def skip (s : List UInt8) : Nat × Bool := skipF s.length s
structure TokA where
  tok : Tok
  place : Nat
deriving DecidableEq
def stopT : Tok := ⟨18, [], 0⟩
/-- the tokens, or where none begins -/
def lexF : Nat → List UInt8 → Nat → List TokA ⊕ Nat
  | 0, _, a => .inl [⟨stopT, a⟩]
  | f + 1, s, a =>
    if (skip s).2 then
      (match s.drop (skip s).1 with
       | [] => .inl [⟨stopT, a + (skip s).1⟩]
       | c :: r => (match tok (c :: r) with
         | none => .inr (a + (skip s).1)
         | some (t, k) => (match lexF f ((c :: r).drop k) (a + (skip s).1 + k) with
           | .inl l => .inl (⟨t, a + (skip s).1⟩ :: l)
           | .inr e => .inr e)))
    else .inr (a + (skip s).1)
def lex (s : List UInt8) : List TokA ⊕ Nat := lexF (s.length + 1) s 0
/-- what stands behind a cut: nothing, or a blank, or a comment -/
def brk (r : List UInt8) : Prop := ∀ c, r[0]? = some c → (isB c || c == 34) = true
theorem brk_facts {c : UInt8} (h : (isB c || c == 34) = true) : isL c = false ∧ isD c = false ∧ alnum c = false ∧ isG c = false ∧ c ≠ 58 ∧ c ≠ 61 ∧ c ≠ 39 ∧ c ≠ 35 ∧ c ≠ 40 ∧ markKind c = 0 := by
  simp only [isB, Bool.or_eq_true, beq_iff_eq] at h
  rcases h with (((rfl | rfl) | rfl) | rfl) | rfl <;> decide
theorem brk_nil : brk [] := fun c h => by simp at h
theorem takeWhile_cut (p : UInt8 → Bool) : ∀ (l : List UInt8) (m : Nat) (r : List UInt8), (∀ c, r[0]? = some c → p c = false) → (l.takeWhile p).length ≤ m → (l.take m ++ r).takeWhile p = l.takeWhile p := by
  have h0 : ∀ r : List UInt8, (∀ c, r[0]? = some c → p c = false) → r.takeWhile p = [] := fun r hr => by
    cases r with
    | nil => rfl
    | cons c r => simp [hr c rfl]
  intro l
  induction l with
  | nil => intro m r hr _; simpa using h0 r hr
  | cons c l ih =>
    intro m r hr hm
    cases hc : p c with
    | false =>
      cases m with
      | zero => simp [hc, h0 r hr]
      | succ m => simp [hc]
    | true =>
      cases m with
      | zero => simp [hc] at hm
      | succ m =>
        simp only [List.takeWhile_cons, hc, if_true, List.length_cons] at hm
        simp only [List.take_succ_cons, List.cons_append, List.takeWhile_cons, hc, if_true]
        rw [ih m r hr (by omega)]
theorem takeWhile_short (p : UInt8 → Bool) : ∀ (l : List UInt8) (m : Nat) (r : List UInt8), (∀ c, r[0]? = some c → p c = false) → m ≤ (l.takeWhile p).length → (l.take m ++ r).takeWhile p = l.take m := by
  intro l
  induction l with
  | nil =>
    intro m r hr hm
    cases r with
    | nil => simp
    | cons c r => simp [hr c rfl]
  | cons c l ih =>
    intro m r hr hm
    cases m with
    | zero =>
      cases r with
      | nil => simp
      | cons c r => simp [hr c rfl]
    | succ m =>
      cases hc : p c with
      | false => simp [hc] at hm
      | true =>
        simp only [List.takeWhile_cons, hc, if_true, List.length_cons] at hm
        simp only [List.take_succ_cons, List.cons_append, List.takeWhile_cons, hc, if_true]
        rw [ih m r hr (by omega)]
theorem takeWhile_len_le (p : UInt8 → Bool) (l : List UInt8) : (l.takeWhile p).length ≤ l.length := (List.takeWhile_sublist p).length_le
theorem nameLen_le : ∀ s : List UInt8, nameLen s ≤ s.length
  | [] => Nat.le_refl _
  | c :: r => by
    rw [nameLen_cons]
    split
    · have := takeWhile_len_le alnum r
      simp; omega
    · exact Nat.zero_le _
theorem brk_L {r : List UInt8} (hr : brk r) : ∀ c, r[0]? = some c → isL c = false := fun c h => (brk_facts (hr c h)).1
theorem brk_D {r : List UInt8} (hr : brk r) : ∀ c, r[0]? = some c → isD c = false := fun c h => (brk_facts (hr c h)).2.1
theorem brk_A {r : List UInt8} (hr : brk r) : ∀ c, r[0]? = some c → alnum c = false := fun c h => (brk_facts (hr c h)).2.2.1
theorem brk_G {r : List UInt8} (hr : brk r) : ∀ c, r[0]? = some c → isG c = false := fun c h => (brk_facts (hr c h)).2.2.2.1
theorem nameLen_brk {r : List UInt8} (hr : brk r) : nameLen r = 0 := by
  cases r with
  | nil => rfl
  | cons c r => simp [nameLen, brk_L hr c rfl]
theorem signsLen_brk {r : List UInt8} (hr : brk r) : signsLen r = 0 := by
  cases r with
  | nil => rfl
  | cons c r => simp [signsLen, brk_G hr c rfl]
theorem nameLen_cut (s : List UInt8) (m : Nat) (r : List UInt8) (hr : brk r) (hm : nameLen s ≤ m) : nameLen (s.take m ++ r) = nameLen s := by
  cases s with
  | nil => rw [List.take_nil, List.nil_append]; exact nameLen_brk hr
  | cons c s =>
    cases m with
    | zero =>
      rw [List.take_zero, List.nil_append, nameLen_brk hr]; omega
    | succ m =>
      simp only [List.take_succ_cons, List.cons_append, nameLen] at hm ⊢
      split
      · rename_i hc
        rw [if_pos hc] at hm
        rw [takeWhile_cut alnum s m r (brk_A hr) (by omega)]
      · rfl
theorem nameLen_short (s : List UInt8) (m : Nat) (r : List UInt8) (hr : brk r) (hm : m ≤ nameLen s) : nameLen (s.take m ++ r) = m := by
  cases s with
  | nil => simp [nameLen] at hm; subst hm; exact nameLen_brk hr
  | cons c s =>
    cases m with
    | zero => simpa using nameLen_brk hr
    | succ m =>
      simp only [List.take_succ_cons, List.cons_append, nameLen] at hm ⊢
      split
      · rename_i hc
        rw [if_pos hc] at hm
        have := takeWhile_len_le alnum s
        rw [takeWhile_short alnum s m r (brk_A hr) (by omega), List.length_take]
        omega
      · rename_i hc
        rw [if_neg hc] at hm
        omega
/-- a cut does not part ':' from '=' -/
def noCut (s : List UInt8) (m : Nat) : Prop := ∀ j, m = j + 1 → s[j]? = some 58 → s[j + 1]? ≠ some 61
theorem noCut_drop {s : List UInt8} {m k : Nat} (h : noCut s (k + m)) : noCut (s.drop k) m := by
  intro j hj h1 h2
  rw [List.getElem?_drop] at h1 h2
  exact h (k + j) (by omega) h1 h2
theorem colon_brk {r : List UInt8} (hr : brk r) : colon r = false := by
  cases r with
  | nil => rfl
  | cons c r => simp [colon, (brk_facts (hr c rfl)).2.2.2.2.1]
theorem colon_cut (s : List UInt8) (m : Nat) (r : List UInt8) (hr : brk r) (hn : noCut s m) (hm : 0 < m ∨ colon s = false) : colon (s.take m ++ r) = colon s := by
  match s, m with
  | s, 0 =>
    rcases hm with hm | hm
    · omega
    · rw [hm]; simpa using colon_brk hr
  | [], m + 1 => simpa [colon] using colon_brk hr
  | c :: s, 1 =>
    have h2 : r[0]? ≠ some 61 := fun h => (brk_facts (hr 61 h)).2.2.2.2.2.1 rfl
    have := hn 0 rfl
    by_cases hc : c = 58
    · subst hc
      have h3 := this rfl
      have e1 : (r[0]? != some 61) = true := by simpa using h2
      have e2 : (s[0]? != some 61) = true := by simpa using h3
      simp only [colon, List.take_succ_cons, List.take_zero, List.cons_append, List.nil_append, List.getElem?_cons_zero, List.getElem?_cons_succ, e1, e2]
    · have hc2 : (c == 58) = false := by simpa using hc
      simp [colon, hc2]
  | [c], m + 2 =>
    have h2 : r[0]? ≠ some 61 := fun h => (brk_facts (hr 61 h)).2.2.2.2.2.1 rfl
    have e1 : (r[0]? != some 61) = true := by simpa using h2
    simp only [colon, List.take_succ_cons, List.take_nil, List.cons_append, List.nil_append, List.getElem?_cons_zero, List.getElem?_cons_succ, e1]
    simp
  | c :: d :: s, m + 2 => simp [colon]
theorem drop_cut (s : List UInt8) (m k : Nat) (r : List UInt8) (h : k ≤ m) (hs : m ≤ s.length) : (s.take m ++ r).drop k = (s.drop k).take (m - k) ++ r := by
  rw [List.drop_append_of_le_length (by rw [List.length_take]; omega), List.drop_take]
theorem symMore_brk {r : List UInt8} (hr : brk r) (f : Nat) : symMore f r = 0 := by
  cases f with
  | zero => rfl
  | succ f => simp [symMore, nameLen_brk hr]
theorem symMore_cut : ∀ (f : Nat) (s : List UInt8) (m : Nat) (r : List UInt8) (f' : Nat), brk r → noCut s m → symMore f s ≤ m → m ≤ s.length → s.length ≤ f → m ≤ f' → symMore f' (s.take m ++ r) = symMore f s := by
  intro f
  induction f with
  | zero =>
    intro s m r f' hr hn hm hs hf hf'
    have : s = [] := List.eq_nil_of_length_eq_zero (by omega)
    subst this
    simpa [symMore] using symMore_brk hr f'
  | succ f ih =>
    intro s m r f' hr hn hm hs hf hf'
    cases s with
    | nil => simpa [symMore, nameLen] using symMore_brk hr f'
    | cons c s =>
      cases f' with
      | zero =>
        obtain rfl : m = 0 := by omega
        rw [show symMore (f + 1) (c :: s) = 0 by omega]; rfl
      | succ f' =>
        rw [symMore] at hm ⊢
        rw [symMore]
        by_cases hb : (0 < nameLen (c :: s) && colon ((c :: s).drop (nameLen (c :: s)))) = true
        · rw [if_pos hb] at hm ⊢
          simp only [Bool.and_eq_true, decide_eq_true_eq] at hb
          have hk : nameLen ((c :: s).take m ++ r) = nameLen (c :: s) := nameLen_cut _ _ _ hr (by omega)
          rw [hk, drop_cut _ _ _ _ (by omega) hs, drop_cut _ _ _ _ (by omega) hs]
          have hcol : colon (((c :: s).drop (nameLen (c :: s))).take (m - nameLen (c :: s)) ++ r) = true := by
            rw [colon_cut _ _ _ hr (noCut_drop (by rw [Nat.add_sub_cancel' (by omega)]; exact hn)) (.inl (by omega))]
            exact hb.2
          rw [if_pos (by simp [hcol, hb.1])]
          rw [ih _ _ _ f' hr (noCut_drop (by rw [Nat.add_sub_cancel' (by omega)]; exact hn)) (by omega) (by rw [List.length_drop]; omega) (by rw [List.length_drop]; omega) (by omega)]
        · rw [if_neg hb]
          rw [if_neg]
          intro hb2
          simp only [Bool.and_eq_true, decide_eq_true_eq] at hb2
          by_cases hle : nameLen (c :: s) ≤ m
          · have hk : nameLen ((c :: s).take m ++ r) = nameLen (c :: s) := nameLen_cut _ _ _ hr hle
            rw [hk] at hb2
            have hcf : colon ((c :: s).drop (nameLen (c :: s))) = false := by
              cases h : colon ((c :: s).drop (nameLen (c :: s))) with
              | false => rfl
              | true => exact absurd (by simp [h, hb2.1]) hb
            have h2 := hb2.2
            rw [drop_cut _ _ _ _ hle hs, colon_cut _ _ _ hr (noCut_drop (by rw [Nat.add_sub_cancel' hle]; exact hn)) (.inr hcf), hcf] at h2
            cases h2
          · have hk : nameLen ((c :: s).take m ++ r) = m := nameLen_short _ _ _ hr (by omega)
            have h2 := hb2.2
            rw [hk, drop_cut _ _ _ _ (Nat.le_refl _) hs, Nat.sub_self, List.take_zero, List.nil_append, colon_brk hr] at h2
            cases h2
theorem signsLen_cut (s : List UInt8) (m : Nat) (r : List UInt8) (hr : brk r) (hm : signsLen s ≤ m) : signsLen (s.take m ++ r) = signsLen s := by
  match s, m with
  | [], m => simpa [signsLen] using signsLen_brk hr
  | c :: s, 0 => rw [List.take_zero, List.nil_append, signsLen_brk hr]; omega
  | [c], m + 1 =>
    cases r with
    | nil => simp
    | cons d r => simp [signsLen, brk_G hr d rfl]
  | c :: d :: s, 1 =>
    cases r with
    | nil =>
      simp only [signsLen, List.take_succ_cons, List.take_zero, List.append_nil] at hm ⊢
      cases hc : isG c <;> cases hd : (isG d && c != 45 && d != 45) <;> simp_all
    | cons e r =>
      have := brk_G hr e rfl
      simp only [signsLen, List.take_succ_cons, List.take_zero, List.cons_append, List.nil_append] at hm ⊢
      cases hc : isG c <;> cases hd : (isG d && c != 45 && d != 45) <;> simp_all
  | c :: d :: s, m + 2 => simp [signsLen]
theorem signsLen_le : ∀ s : List UInt8, signsLen s ≤ s.length ∧ signsLen s ≤ 2
  | [] => by simp [signsLen]
  | [c] => by simp only [signsLen]; split <;> simp
  | c :: d :: s => by
    simp only [signsLen]
    split
    · split <;> simp
    · simp
theorem symMore_le : ∀ (f : Nat) (s : List UInt8), symMore f s ≤ s.length := by
  intro f
  induction f with
  | zero => intro s; simp [symMore]
  | succ f ih =>
    intro s
    rw [symMore]
    split
    · rename_i h
      simp only [Bool.and_eq_true, decide_eq_true_eq] at h
      have h1 := ih (s.drop (nameLen s + 1))
      have h2 : nameLen s < s.length := by
        by_cases hh : nameLen s < s.length
        · exact hh
        · rw [List.drop_eq_nil_of_le (by omega)] at h; simp [colon] at h
      rw [List.length_drop] at h1
      omega
    · exact Nat.zero_le _
theorem colon_pos {s : List UInt8} {k : Nat} (h : colon (s.drop k) = true) : k < s.length := by
  by_cases hh : k < s.length
  · exact hh
  · rw [List.drop_eq_nil_of_le (by omega)] at h; simp [colon] at h
theorem symLen_le (s : List UInt8) : symLen s ≤ s.length := by
  unfold symLen
  split
  · exact (signsLen_le s).1
  · split
    · rename_i h
      simp only [Bool.and_eq_true, decide_eq_true_eq] at h
      have h1 := symMore_le s.length (s.drop (nameLen s + 1))
      have h2 := colon_pos h.2
      rw [List.length_drop] at h1
      omega
    · exact nameLen_le s
theorem signs_name {c : UInt8} (h : isG c = true) : isL c = false ∧ isD c = false ∧ c ≠ 58 := by
  have : c ∈ signL := by simpa [isG] using h
  simp only [signL, List.mem_cons, List.not_mem_nil, or_false] at this
  rcases this with rfl | rfl | rfl | rfl | rfl | rfl | rfl | rfl | rfl | rfl | rfl | rfl | rfl | rfl <;> decide
theorem symLen_cut (s : List UInt8) (m : Nat) (r : List UInt8) (hr : brk r) (hn : noCut s m) (hm : symLen s ≤ m) (hs : m ≤ s.length) (h0 : 0 < symLen s) : symLen (s.take m ++ r) = symLen s := by
  unfold symLen at hm h0 ⊢
  by_cases hg : 0 < signsLen s
  · rw [if_pos hg] at hm h0 ⊢
    rw [signsLen_cut _ _ _ hr hm, if_pos hg]
  · rw [if_neg hg] at hm h0 ⊢
    have hg0 : signsLen s = 0 := by omega
    rw [signsLen_cut _ _ _ hr (by omega), if_neg hg]
    by_cases hb : (0 < nameLen s && colon (s.drop (nameLen s))) = true
    · rw [if_pos hb] at hm ⊢
      simp only [Bool.and_eq_true, decide_eq_true_eq] at hb
      have hk : nameLen (s.take m ++ r) = nameLen s := nameLen_cut _ _ _ hr (by omega)
      rw [hk, drop_cut _ _ _ _ (by omega) hs, drop_cut _ _ _ _ (by omega) hs]
      have hcol : colon ((s.drop (nameLen s)).take (m - nameLen s) ++ r) = true := by
        rw [colon_cut _ _ _ hr (noCut_drop (by rw [Nat.add_sub_cancel' (by omega)]; exact hn)) (.inl (by omega))]
        exact hb.2
      rw [if_pos (by simp [hcol, hb.1])]
      have hlm : nameLen s + 1 ≤ m := by omega
      rw [symMore_cut s.length _ _ _ _ hr (noCut_drop (by rw [Nat.add_sub_cancel' (by omega)]; exact hn)) (by omega) (by rw [List.length_drop]; omega) (by rw [List.length_drop]; omega) (by rw [List.length_append, List.length_take]; omega)]
    · rw [if_neg hb] at hm h0 ⊢
      have hk : nameLen (s.take m ++ r) = nameLen s := nameLen_cut _ _ _ hr hm
      rw [hk]
      have hcf : colon (s.drop (nameLen s)) = false := by
        cases h : colon (s.drop (nameLen s)) with
        | false => rfl
        | true => exact absurd (by simp [h, h0]) hb
      rw [if_neg]
      rw [drop_cut _ _ _ _ hm hs, colon_cut _ _ _ hr (noCut_drop (by rw [Nat.add_sub_cancel' hm]; exact hn)) (.inr hcf), hcf]
      simp
theorem textOf_le : ∀ (s : List UInt8) (b : List UInt8) (n : Nat), textOf s = some (b, n) → 0 < n ∧ n ≤ s.length
  | [], b, n, h => by simp [textOf] at h
  | [c], b, n, h => by
    simp only [textOf] at h
    split at h
    · cases h; simp
    · cases h
  | c :: d :: r, b, n, h => by
    simp only [textOf] at h
    split at h
    · split at h
      · rw [Option.map_eq_some_iff] at h
        obtain ⟨⟨b', n'⟩, h1, h2⟩ := h
        cases h2
        have := textOf_le r b' n' h1
        simp only [List.length_cons]; omega
      · cases h; simp
    · rw [Option.map_eq_some_iff] at h
      obtain ⟨⟨b', n'⟩, h1, h2⟩ := h
      cases h2
      have := textOf_le (d :: r) b' n' h1
      simp only [List.length_cons] at this ⊢; omega
theorem textOf_one (r : List UInt8) (hr : ∀ c, r[0]? = some c → c ≠ 39) : textOf (39 :: r) = some ([], 1) := by
  cases r with
  | nil => simp [textOf]
  | cons c r => simp [textOf, hr c rfl]
theorem textOf_two (r : List UInt8) : textOf (39 :: 39 :: r) = (textOf r).map (fun p => (39 :: p.1, p.2 + 2)) := by
  simp [textOf]
theorem textOf_step (c : UInt8) (hc : c ≠ 39) (r : List UInt8) : textOf (c :: r) = (textOf r).map (fun p => (c :: p.1, p.2 + 1)) := by
  cases r with
  | nil => simp [textOf, hc]
  | cons d r => simp [textOf, hc]
theorem textOf_cut : ∀ (s : List UInt8) (b : List UInt8) (n m : Nat) (r : List UInt8), textOf s = some (b, n) → n ≤ m → brk r → textOf (s.take m ++ r) = some (b, n)
  | [], b, n, m, r, h, _, _ => by simp [textOf] at h
  | [c], b, n, m, r, h, hm, hr => by
    have hp := textOf_le _ _ _ h
    simp only [textOf] at h
    split at h
    · rename_i hc
      cases h
      subst hc
      rw [List.take_of_length_le (by simp; omega)]
      exact textOf_one r (fun c hc => (brk_facts (hr c hc)).2.2.2.2.2.2.1)
    · cases h
  | c :: d :: s, b, n, m, r, h, hm, hr => by
    have hp := textOf_le _ _ _ h
    by_cases hc : c = 39
    · subst hc
      by_cases hd : d = 39
      · subst hd
        rw [textOf_two, Option.map_eq_some_iff] at h
        obtain ⟨⟨b', n'⟩, h1, h2⟩ := h
        cases h2
        obtain ⟨m, rfl⟩ : ∃ m', m = m' + 2 := ⟨m - 2, by omega⟩
        rw [List.take_succ_cons, List.take_succ_cons, List.cons_append, List.cons_append, textOf_two, textOf_cut s b' n' m r h1 (by omega) hr]
        rfl
      · rw [textOf_one _ (fun x hx => by simp at hx; subst hx; exact hd)] at h
        cases h
        obtain ⟨m, rfl⟩ : ∃ m', m = m' + 1 := ⟨m - 1, by omega⟩
        rw [List.take_succ_cons, List.cons_append]
        refine textOf_one _ fun x hx => ?_
        cases m with
        | zero => exact (brk_facts (hr x (by simpa using hx))).2.2.2.2.2.2.1
        | succ m => simp at hx; subst hx; exact hd
    · rw [textOf_step c hc, Option.map_eq_some_iff] at h
      obtain ⟨⟨b', n'⟩, h1, h2⟩ := h
      cases h2
      obtain ⟨m, rfl⟩ : ∃ m', m = m' + 1 := ⟨m - 1, by omega⟩
      rw [List.take_succ_cons, List.cons_append, textOf_step c hc, textOf_cut (d :: s) b' n' m r h1 (by omega) hr]
      rfl
theorem tok_le (s : List UInt8) (t : Tok) (n : Nat) (h : tok s = some (t, n)) : 0 < n ∧ n ≤ s.length := by
  cases s with
  | nil => simp [tok] at h
  | cons c r =>
    rw [tok] at h
    have hnl := nameLen_le (c :: r)
    split at h
    · rename_i hc
      have hp : 0 < nameLen (c :: r) := by simp [nameLen, hc]
      split at h
      · rename_i hcol
        cases h
        have := colon_pos hcol
        omega
      · cases h
        omega
    · split at h
      · rename_i hc
        split at h
        · cases h
          have := takeWhile_len_le isD (c :: r)
          refine ⟨?_, this⟩
          simp [digitsLen, hc]
        · cases h
      · split at h
        · split at h
          · rename_i hh
            cases h
            cases r with
            | nil => simp at hh
            | cons d r => simp
          · split at h
            · cases h
              have := symLen_le r
              simp; omega
            · cases h
        · split at h
          · rw [Option.map_eq_some_iff] at h
            obtain ⟨⟨b', n'⟩, h1, h2⟩ := h
            cases h2
            have := textOf_le _ _ _ h1
            simp only [List.length_cons]; omega
          · split at h
            · rename_i hg
              cases h
              have := (signsLen_le (c :: r)).1
              refine ⟨?_, this⟩
              simp only [signsLen, hg, if_true]
              split
              · omega
              · split <;> omega
            · split at h
              · rename_i hh
                cases h
                cases r with
                | nil => simp at hh
                | cons d r => simp
              · split at h
                · cases h
                · cases h; simp
/-- a token stays, whatever stands behind a cut that comes after it -/
theorem tok_cut (s : List UInt8) (t : Tok) (n m : Nat) (r : List UInt8) (h : tok s = some (t, n)) (hm : n ≤ m) (hs : m ≤ s.length) (hn : noCut s m) (hr : brk r) : tok (s.take m ++ r) = some (t, n) := by
  have hle := tok_le s t n h
  cases s with
  | nil => simp [tok] at h
  | cons c s =>
    obtain ⟨m, rfl⟩ : ∃ m', m = m' + 1 := ⟨m - 1, by omega⟩
    have hsm : m ≤ s.length := by simpa using hs
    have hns : noCut s m := by
      have := noCut_drop (s := c :: s) (k := 1) (m := m) (by rw [Nat.add_comm]; exact hn)
      simpa using this
    rw [tok] at h
    have E : (c :: s).take (m + 1) ++ r = c :: (s.take m ++ r) := by simp
    rw [E, tok, ← E]
    split at h
    · rename_i hc
      rw [if_pos hc]
      split at h
      · rename_i hcol
        cases h
        have hk := nameLen_cut (c :: s) (m + 1) r hr (by omega)
        rw [hk, drop_cut _ _ _ _ (by omega) hs, colon_cut _ _ _ hr (noCut_drop (by rw [Nat.add_sub_cancel' (by omega)]; exact hn)) (.inl (by omega)), if_pos hcol]
        rw [List.take_append_of_le_length (by rw [List.length_take]; omega), List.take_take, Nat.min_eq_left (by omega)]
      · rename_i hcol
        cases h
        have hcf : colon ((c :: s).drop (nameLen (c :: s))) = false := by simpa using hcol
        have hk := nameLen_cut (c :: s) (m + 1) r hr (by omega)
        rw [hk, drop_cut _ _ _ _ (by omega) hs, colon_cut _ _ _ hr (noCut_drop (by rw [Nat.add_sub_cancel' (by omega)]; exact hn)) (.inr hcf), hcf]
        rw [List.take_append_of_le_length (by rw [List.length_take]; omega), List.take_take, Nat.min_eq_left (by omega)]
        rfl
    · rename_i hc
      rw [if_neg hc]
      split at h
      · rename_i hd
        rw [if_pos hd]
        split at h
        · rename_i hv
          cases h
          have hk : digitsLen ((c :: s).take (m + 1) ++ r) = digitsLen (c :: s) := by
            unfold digitsLen
            rw [takeWhile_cut isD _ _ _ (brk_D hr) (by exact hm)]
          rw [hk, List.take_append_of_le_length (by rw [List.length_take]; omega), List.take_take, Nat.min_eq_left (by omega), if_pos hv]
        · cases h
      · rename_i hd
        rw [if_neg hd]
        split at h
        · rename_i h35
          rw [if_pos h35]
          split at h
          · rename_i h40
            cases h
            cases s with
            | nil => simp at h40
            | cons d s =>
              obtain ⟨m, rfl⟩ : ∃ m', m = m' + 1 := ⟨m - 1, by omega⟩
              rw [if_pos (by simpa using h40)]
          · rename_i h40
            split at h
            · rename_i hp
              cases h
              have hsy := symLen_cut s m r hr hns (by omega) hsm hp
              rw [hsy, if_pos hp, if_neg, List.take_append_of_le_length (by rw [List.length_take]; omega), List.take_take, Nat.min_eq_left (by omega)]
              intro he
              cases s with
              | nil => simp [symLen, signsLen, nameLen] at hp
              | cons d s =>
                obtain ⟨m, rfl⟩ : ∃ m', m = m' + 1 := ⟨m - 1, by omega⟩
                exact h40 (by simpa using he)
            · cases h
        · rename_i h35
          rw [if_neg h35]
          split at h
          · rename_i h39
            rw [if_pos h39]
            rw [Option.map_eq_some_iff] at h
            obtain ⟨⟨b', n'⟩, h1, h2⟩ := h
            cases h2
            rw [textOf_cut s b' n' m r h1 (by omega) hr]
            rfl
          · rename_i h39
            rw [if_neg h39]
            split at h
            · rename_i hg
              cases h
              rw [if_pos hg, signsLen_cut _ _ _ hr hm, List.take_append_of_le_length (by rw [List.length_take]; omega), List.take_take, Nat.min_eq_left (by omega)]
            · rename_i hg
              rw [if_neg hg]
              split at h
              · rename_i h58
                cases h
                cases s with
                | nil => simp at h58
                | cons d s =>
                  obtain ⟨m, rfl⟩ : ∃ m', m = m' + 1 := ⟨m - 1, by omega⟩
                  rw [if_pos (by simpa using h58)]
              · rename_i h58
                rw [if_neg, h]
                intro hb
                refine h58 ⟨hb.1, ?_⟩
                cases m with
                | zero => exact absurd rfl (brk_facts (hr 61 (by simpa using hb.2))).2.2.2.2.2.1
                | succ m =>
                  cases s with
                  | nil => simp at hsm
                  | cons d s => simpa using hb.2
theorem takeWhile_last (p : UInt8 → Bool) (l : List UInt8) (j : Nat) (c : UInt8) (hj : j < (l.takeWhile p).length) (hc : l[j]? = some c) : p c = true := by
  induction l generalizing j with
  | nil => simp at hj
  | cons d l ih =>
    cases hd : p d with
    | false => simp [hd] at hj
    | true =>
      cases j with
      | zero => simp at hc; subst hc; exact hd
      | succ j =>
        simp only [List.takeWhile_cons, hd, if_true, List.length_cons] at hj
        exact ih j (by omega) (by simpa using hc)
theorem alnum_58 : alnum 58 = false := by decide
theorem isD_58 : isD 58 = false := by decide
theorem isG_58 : isG 58 = false := by decide
theorem name_last (s : List UInt8) (j : Nat) (hj : j < nameLen s) : s[j]? ≠ some 58 := by
  intro h
  cases s with
  | nil => simp [nameLen] at hj
  | cons c s =>
    rw [nameLen_cons] at hj
    split at hj
    · rename_i hc
      cases j with
      | zero => simp at h; subst h; simp [show isL 58 = false by decide] at hc
      | succ j =>
        have := takeWhile_last alnum s j 58 (by omega) (by simpa using h)
        rw [alnum_58] at this; cases this
    · omega
theorem signs_last (s : List UInt8) (j : Nat) (hj : j < signsLen s) : s[j]? ≠ some 58 := by
  intro h
  match s, j with
  | [], j => simp [signsLen] at hj
  | c :: s, 0 =>
    simp at h; subst h
    simp [signsLen, isG_58] at hj
  | [c], j + 1 => simp at h
  | c :: d :: s, 1 =>
    simp at h; subst h
    simp only [signsLen, isG_58] at hj
    split at hj <;> simp at hj
  | c :: d :: s, j + 2 =>
    have := (signsLen_le (c :: d :: s)).2
    omega
theorem colon_next {s : List UInt8} (h : colon s = true) : s[1]? ≠ some 61 := by
  simp only [colon, Bool.and_eq_true, bne_iff_ne] at h
  exact h.2
theorem symMore_end : ∀ (f : Nat) (s : List UInt8), 0 < symMore f s → s[symMore f s]? ≠ some 61 := by
  intro f
  induction f with
  | zero => intro s h; simp [symMore] at h
  | succ f ih =>
    intro s h
    rw [symMore] at h ⊢
    split at h
    · rename_i hb
      rw [if_pos hb]
      simp only [Bool.and_eq_true, decide_eq_true_eq] at hb
      by_cases h2 : 0 < symMore f (s.drop (nameLen s + 1))
      · have := ih _ h2
        rw [List.getElem?_drop] at this
        exact this
      · have := colon_next hb.2
        rw [List.getElem?_drop] at this
        rw [show nameLen s + 1 + symMore f (s.drop (nameLen s + 1)) = nameLen s + 1 by omega]
        exact this
    · omega
theorem textOf_last : ∀ (s : List UInt8) (b : List UInt8) (n : Nat), textOf s = some (b, n) → ∀ j, n = j + 1 → s[j]? = some 39
  | [], b, n, h, j, hj => by simp [textOf] at h
  | [c], b, n, h, j, hj => by
    simp only [textOf] at h
    split at h
    · rename_i hc
      cases h; subst hc
      obtain rfl : j = 0 := by omega
      rfl
    · cases h
  | c :: d :: r, b, n, h, j, hj => by
    by_cases hc : c = 39
    · subst hc
      by_cases hd : d = 39
      · subst hd
        rw [textOf_two, Option.map_eq_some_iff] at h
        obtain ⟨⟨b', n'⟩, h1, h2⟩ := h
        cases h2
        have hp := textOf_le _ _ _ h1
        have := textOf_last r b' n' h1 (n' - 1) (by omega)
        rw [show j = (n' - 1) + 2 by omega]
        simpa using this
      · rw [textOf_one _ (fun x hx => by simp at hx; subst hx; exact hd)] at h
        cases h
        obtain rfl : j = 0 := by omega
        rfl
    · rw [textOf_step c hc, Option.map_eq_some_iff] at h
      obtain ⟨⟨b', n'⟩, h1, h2⟩ := h
      cases h2
      have hp := textOf_le _ _ _ h1
      have := textOf_last (d :: r) b' n' h1 (n' - 1) (by omega)
      rw [show j = (n' - 1) + 1 by omega]
      simpa using this
theorem symLen_end (s : List UInt8) (h : 0 < symLen s) : ∀ j, symLen s = j + 1 → s[j]? = some 58 → s[j + 1]? ≠ some 61 := by
  intro j hj h58
  unfold symLen at h hj
  split at hj
  · exact absurd h58 (signs_last s j (by omega))
  · rename_i hg
    split at hj
    · rename_i hb
      simp only [Bool.and_eq_true, decide_eq_true_eq] at hb
      rw [← hj]
      by_cases h2 : 0 < symMore s.length (s.drop (nameLen s + 1))
      · have := symMore_end _ _ h2
        rw [List.getElem?_drop] at this
        exact this
      · have := colon_next hb.2
        rw [List.getElem?_drop] at this
        rw [show nameLen s + 1 + symMore s.length (s.drop (nameLen s + 1)) = nameLen s + 1 by omega]
        exact this
    · exact absurd h58 (name_last s j (by omega))
theorem tok_end (s : List UInt8) (t : Tok) (n : Nat) (h : tok s = some (t, n)) : noCut s n := by
  intro j hj h58
  cases s with
  | nil => simp [tok] at h
  | cons c s =>
    rw [tok] at h
    split at h
    · split at h
      · rename_i hcol
        cases h
        have := colon_next hcol
        rw [List.getElem?_drop] at this
        have e : j = nameLen (c :: s) := by omega
        rw [e]; exact this
      · cases h
        exact absurd h58 (name_last _ j (by omega))
    · split at h
      · split at h
        · cases h
          have := takeWhile_last isD (c :: s) j 58 (by show j < digitsLen (c :: s); omega) h58
          rw [isD_58] at this; cases this
        · cases h
      · split at h
        · split at h
          · rename_i h40
            cases h
            obtain rfl : j = 1 := by omega
            simp at h58
            rw [h58] at h40; cases h40
          · split at h
            · rename_i hp
              cases h
              obtain ⟨i, hi⟩ : ∃ i, symLen s = i + 1 := ⟨symLen s - 1, by omega⟩
              have := symLen_end s hp i hi
              obtain rfl : j = i + 1 := by omega
              simp at h58 ⊢
              simpa using this (by simpa using h58)
            · cases h
        · split at h
          · rw [Option.map_eq_some_iff] at h
            obtain ⟨⟨b', n'⟩, h1, h2⟩ := h
            cases h2
            have hp := textOf_le _ _ _ h1
            have := textOf_last s b' n' h1 (n' - 1) (by omega)
            obtain rfl : j = n' - 1 + 1 := by omega
            simp at h58
            rw [this] at h58; cases h58
          · split at h
            · cases h
              exact absurd h58 (signs_last _ j (by omega))
            · split at h
              · rename_i hh
                cases h
                obtain rfl : j = 1 := by omega
                simp at h58
                rw [h58] at hh; cases hh.2
              · rename_i hh
                split at h
                · cases h
                · cases h
                  obtain rfl : j = 0 := by omega
                  simp at h58
                  subst h58
                  intro h61
                  exact hh ⟨rfl, by simpa using h61⟩
/-- blanks and whole comments -/
inductive Gap : List UInt8 → Prop
  | nil : Gap []
  | blank (c : UInt8) (g : List UInt8) : isB c = true → Gap g → Gap (c :: g)
  | com (b g : List UInt8) : (34 : UInt8) ∉ b → Gap g → Gap (34 :: b ++ 34 :: g)
theorem comLen_some : ∀ (s : List UInt8) (n : Nat), comLen s = some n ↔ ∃ b r, s = b ++ 34 :: r ∧ (34 : UInt8) ∉ b ∧ b.length = n
  | [], n => by simp [comLen]
  | c :: s, n => by
    rw [comLen]
    split
    · rename_i h
      subst h
      constructor
      · intro h; cases h; exact ⟨[], s, rfl, by simp, rfl⟩
      · rintro ⟨b, r, h1, h2, h3⟩
        cases b with
        | nil => simp at h3; rw [h3]
        | cons d b => cases h1; simp at h2
    · rename_i h
      rw [Option.map_eq_some_iff]
      constructor
      · rintro ⟨k, h1, h2⟩
        obtain ⟨b, r, h3, h4, h5⟩ := (comLen_some s k).1 h1
        exact ⟨c :: b, r, by rw [h3]; rfl, by simp only [List.mem_cons, not_or]; exact ⟨fun e => h e.symm, h4⟩, by simp [h5, h2]⟩
      · rintro ⟨b, r, h1, h2, h3⟩
        cases b with
        | nil => cases h1; exact absurd rfl h
        | cons d b =>
          cases h1
          simp only [List.mem_cons, not_or] at h2
          exact ⟨b.length, (comLen_some _ _).2 ⟨b, r, rfl, h2.2, rfl⟩, by simpa using h3⟩
theorem skipF_more : ∀ (f : Nat) (s : List UInt8) (f' : Nat), s.length ≤ f → s.length ≤ f' → skipF f s = skipF f' s := by
  intro f
  induction f with
  | zero =>
    intro s f' h h'
    have : s = [] := List.eq_nil_of_length_eq_zero (by omega)
    subst this
    cases f' <;> rfl
  | succ f ih =>
    intro s f' h h'
    cases s with
    | nil => cases f' <;> rfl
    | cons c r =>
      cases f' with
      | zero => simp at h'
      | succ f' =>
        simp only [List.length_cons] at h h'
        rw [skipF, skipF]
        rw [ih r f' (by omega) (by omega)]
        split
        · rfl
        · split
          · split
            · rfl
            · rename_i n hn
              rw [ih (r.drop (n + 1)) f' (by rw [List.length_drop]; omega) (by rw [List.length_drop]; omega)]
          · rfl
theorem skip_nil : skip [] = (0, true) := rfl
theorem skip_blank (c : UInt8) (hc : isB c = true) (r : List UInt8) : skip (c :: r) = ((skip r).1 + 1, (skip r).2) := by
  unfold skip
  rw [List.length_cons, skipF, if_pos hc]
theorem skip_open (r : List UInt8) (h : comLen r = none) : skip (34 :: r) = (0, false) := by
  unfold skip
  rw [List.length_cons, skipF, if_neg (by decide), if_pos rfl, h]
theorem skip_com (r : List UInt8) (n : Nat) (h : comLen r = some n) : skip (34 :: r) = ((skip (r.drop (n + 1))).1 + (n + 2), (skip (r.drop (n + 1))).2) := by
  unfold skip
  rw [List.length_cons, skipF, if_neg (by decide), if_pos rfl, h]
  simp only
  rw [skipF_more r.length (r.drop (n + 1)) (r.drop (n + 1)).length (by rw [List.length_drop]; omega) (Nat.le_refl _)]
theorem skip_stop (c : UInt8) (h1 : isB c = false) (h2 : c ≠ 34) (r : List UInt8) : skip (c :: r) = (0, true) := by
  unfold skip
  rw [List.length_cons, skipF, if_neg (by simp [h1]), if_neg h2]
theorem skip_gap {g : List UInt8} (h : Gap g) (r : List UInt8) : skip (g ++ r) = (g.length + (skip r).1, (skip r).2) := by
  induction h with
  | nil => simp
  | blank c g hc _ ih => rw [List.cons_append, skip_blank c hc, ih]; simp; omega
  | com b g hb _ ih =>
    have hcl : comLen ((b ++ 34 :: g) ++ r) = some b.length := (comLen_some _ _).2 ⟨b, g ++ r, by simp, hb, rfl⟩
    rw [show 34 :: b ++ 34 :: g ++ r = 34 :: ((b ++ 34 :: g) ++ r) by simp, skip_com _ _ hcl]
    have : ((b ++ 34 :: g) ++ r).drop (b.length + 1) = g ++ r := by
      rw [show (b ++ 34 :: g) ++ r = b ++ (34 :: (g ++ r)) by simp, List.drop_append]
      simp
    rw [this, ih]
    simp; omega
theorem skip_split : ∀ (n : Nat) (s : List UInt8), s.length ≤ n → (skip s).2 = true → (skip s).1 ≤ s.length ∧ Gap (s.take (skip s).1) ∧ ∀ c, (s.drop (skip s).1)[0]? = some c → isB c = false ∧ c ≠ 34 := by
  intro n
  induction n with
  | zero =>
    intro s hs _
    have : s = [] := List.eq_nil_of_length_eq_zero (by omega)
    subst this
    exact ⟨Nat.le_refl _, Gap.nil, fun c h => by simp at h⟩
  | succ n ih =>
    intro s hs h
    cases s with
    | nil => exact ⟨Nat.le_refl _, Gap.nil, fun c h => by simp at h⟩
    | cons c r =>
      simp only [List.length_cons] at hs
      cases hb : isB c with
      | true =>
        rw [skip_blank c hb] at h ⊢
        obtain ⟨h1, h2, h3⟩ := ih r (by omega) h
        exact ⟨by simp only [List.length_cons]; omega, Gap.blank c _ hb h2, by simpa using h3⟩
      | false =>
        by_cases hc : c = 34
        · subst hc
          cases hl : comLen r with
          | none => rw [skip_open r hl] at h; cases h
          | some k =>
            rw [skip_com r k hl] at h ⊢
            obtain ⟨b, r', e1, e2, e3⟩ := (comLen_some _ _).1 hl
            subst e1 e3
            have hd : (b ++ 34 :: r').drop (b.length + 1) = r' := by rw [List.drop_append]; simp
            rw [hd] at h ⊢
            simp only [List.length_append, List.length_cons] at hs ⊢
            obtain ⟨h1, h2, h3⟩ := ih r' (by omega) h
            refine ⟨by omega, ?_, ?_⟩
            · have : (34 :: (b ++ 34 :: r')).take ((skip r').1 + (b.length + 2)) = 34 :: b ++ 34 :: r'.take (skip r').1 := by
                rw [show (skip r').1 + (b.length + 2) = (b.length + ((skip r').1 + 1)) + 1 by omega, List.take_succ_cons, List.take_length_add_append, List.take_succ_cons]
                simp
              rw [this]
              exact Gap.com b _ e2 h2
            · have : (34 :: (b ++ 34 :: r')).drop ((skip r').1 + (b.length + 2)) = r'.drop (skip r').1 := by
                rw [show (skip r').1 + (b.length + 2) = (b.length + ((skip r').1 + 1)) + 1 by omega, List.drop_succ_cons, List.drop_length_add_append, List.drop_succ_cons]
              rw [this]
              exact h3
        · rw [skip_stop c hb hc]
          exact ⟨Nat.zero_le _, Gap.nil, fun d hd => by simp at hd; subst hd; exact ⟨hb, hc⟩⟩
theorem Gap.append {g h : List UInt8} (a : Gap g) (b : Gap h) : Gap (g ++ h) := by
  induction a with
  | nil => exact b
  | blank c g hc _ ih => exact Gap.blank c _ hc ih
  | com x g hx _ ih =>
    rw [show 34 :: x ++ 34 :: g ++ h = 34 :: x ++ 34 :: (g ++ h) by simp]
    exact Gap.com x _ hx ih
theorem Gap.skip {g : List UInt8} (a : Gap g) : skip g = (g.length, true) := by
  have := skip_gap a []
  simpa [skip_nil] using this
theorem Gap.brk {g : List UInt8} (a : Gap g) : brk g := by
  intro c hc
  cases a with
  | nil => simp at hc
  | blank d g hd _ => simp at hc; subst hc; simp [hd]
  | com x g hx _ => simp at hc; subst hc; rfl
theorem Gap.last {g : List UInt8} (a : Gap g) : ∀ j, g.length = j + 1 → g[j]? ≠ some 58 := by
  induction a with
  | nil => intro j hj; simp at hj
  | blank c g hc _ ih =>
    intro j hj
    simp only [List.length_cons] at hj
    cases j with
    | zero => intro h; simp at h; subst h; exact absurd hc (by decide)
    | succ j => simpa using ih j (by omega)
  | com x g hx _ ih =>
    intro j hj
    simp only [List.length_append, List.length_cons] at hj
    rw [show 34 :: x ++ 34 :: g = (34 :: x ++ [34]) ++ g by simp]
    cases hg : g.length with
    | zero =>
      have : g = [] := List.eq_nil_of_length_eq_zero hg
      subst this
      rw [List.append_nil, List.getElem?_append_right (by simp; simp at hj; omega)]
      have : j - (34 :: x).length = 0 := by simp at hj ⊢; omega
      rw [this]; simp
    | succ k =>
      rw [List.getElem?_append_right (by simp; omega)]
      have := ih k hg
      have e : j - (34 :: x ++ [34]).length = k := by simp; omega
      rw [e]
      exact this
/-- a source that is cut: its tokens and their places -/
inductive Lexes : List UInt8 → Nat → List TokA → Prop
  | stop (g : List UInt8) (a : Nat) : Gap g → Lexes g a [⟨stopT, a + g.length⟩]
  | tok (g x : List UInt8) (t : Tok) (n : Nat) (l : List TokA) (a : Nat) : Gap g → tok x = some (t, n) → Lexes (x.drop n) (a + g.length + n) l → Lexes (g ++ x) a (⟨t, a + g.length⟩ :: l)
theorem tok_head {c : UInt8} {r : List UInt8} {p : Tok × Nat} (h : tok (c :: r) = some p) : isB c = false ∧ c ≠ 34 := by
  have key : ∀ c : UInt8, (isB c || c == 34) = true → tok (c :: r) = none := by
    intro c hc
    obtain ⟨h1, h2, _, h4, h5, _, h7, h8, _, h10⟩ := brk_facts hc
    rw [tok, h1, h2, h4, h10]
    simp [h5, h7, h8]
  by_cases hc : (isB c || c == 34) = true
  · rw [key c hc] at h; cases h
  · simp only [Bool.or_eq_true, beq_iff_eq, not_or] at hc
    exact ⟨by simpa using hc.1, hc.2⟩
theorem lexF_of : ∀ {s : List UInt8} {a : Nat} {l : List TokA}, Lexes s a l → ∀ f, s.length < f → lexF f s a = .inl l := by
  intro s a l h
  induction h with
  | stop g a hg =>
    intro f hf
    obtain ⟨f, rfl⟩ : ∃ f', f = f' + 1 := ⟨f - 1, by omega⟩
    rw [lexF, hg.skip]
    simp
  | tok g x t n l a hg ht _ ih =>
    intro f hf
    obtain ⟨f, rfl⟩ : ∃ f', f = f' + 1 := ⟨f - 1, by omega⟩
    have hle := tok_le x t n ht
    cases x with
    | nil => simp [Lex.tok] at ht
    | cons c r =>
      obtain ⟨h1, h2⟩ := tok_head ht
      rw [lexF, skip_gap hg, skip_stop c h1 h2]
      rw [List.length_append] at hf
      simp only [Nat.add_zero, if_true, List.drop_left, ht]
      rw [ih f (by rw [List.length_drop]; omega)]
theorem of_lexF : ∀ (f : Nat) (s : List UInt8) (a : Nat) (l : List TokA), s.length < f → lexF f s a = .inl l → Lexes s a l := by
  intro f
  induction f with
  | zero => intro s a l hf; omega
  | succ f ih =>
    intro s a l hf h
    rw [lexF] at h
    split at h
    · rename_i hsk
      obtain ⟨h1, h2, h3⟩ := skip_split s.length s (Nat.le_refl _) hsk
      have hsp : s = s.take (skip s).1 ++ s.drop (skip s).1 := (List.take_append_drop _ _).symm
      have htl : (s.take (skip s).1).length = (skip s).1 := by rw [List.length_take]; omega
      split at h
      · rename_i hd
        cases h
        have e : s.take (skip s).1 = s := by rw [hd, List.append_nil] at hsp; exact hsp.symm
        have hle : (skip s).1 = s.length := by rw [e] at htl; exact htl.symm
        rw [hle]
        rw [e] at h2
        exact Lexes.stop s a h2
      · rename_i c r hd
        split at h
        · cases h
        · rename_i t k ht
          have hle := tok_le _ _ _ ht
          have hdl : (c :: r).length = s.length - (skip s).1 := by rw [← hd, List.length_drop]
          split at h
          · rename_i l' hl'
            cases h
            have hrec := ih _ _ _ (by rw [List.length_drop]; omega) hl'
            have := Lexes.tok (s.take (skip s).1) (c :: r) t k l' a h2 ht (by rw [htl]; exact hrec)
            rw [htl, ← hd, List.take_append_drop] at this
            exact this
          · cases h
    · cases h
theorem lex_iff (s : List UInt8) (l : List TokA) : lex s = .inl l ↔ Lexes s 0 l :=
  ⟨of_lexF _ s 0 l (Nat.lt_succ_self _), fun h => lexF_of h _ (Nat.lt_succ_self _)⟩
def TokA.shift (d : Nat) (t : TokA) : TokA := ⟨t.tok, t.place + d⟩
theorem Lexes.shift {s : List UInt8} {a : Nat} {l : List TokA} (h : Lexes s a l) (d : Nat) : Lexes s (a + d) (l.map (TokA.shift d)) := by
  induction h with
  | stop g a hg =>
    have := Lexes.stop g (a + d) hg
    rw [show a + d + g.length = a + g.length + d by omega] at this
    exact this
  | tok g x t n l a hg ht _ ih =>
    have := Lexes.tok g x t n (l.map (TokA.shift d)) (a + d) hg ht (by rw [show a + d + g.length + n = a + g.length + n + d by omega]; exact ih)
    rw [show a + d + g.length = a + g.length + d by omega] at this
    exact this
/-- where a source is brought to another beginning -/
theorem Lexes.base {s : List UInt8} {a : Nat} {l : List TokA} (h : Lexes s a l) : ∃ l0, Lexes s 0 l0 ∧ l = l0.map (TokA.shift a) := by
  induction h with
  | stop g a hg => exact ⟨_, Lexes.stop g 0 hg, by simp [TokA.shift, Nat.add_comm]⟩
  | tok g x t n l a hg ht _ ih =>
    obtain ⟨l0, h1, h2⟩ := ih
    have h3 := h1.shift (g.length + n)
    refine ⟨_, Lexes.tok g x t n _ 0 hg ht (by rw [Nat.zero_add]; rw [Nat.zero_add] at h3; exact h3), ?_⟩
    rw [h2]
    simp only [List.map_cons, List.map_map]
    congr 1
    · simp [TokA.shift, Nat.add_comm]
    · apply List.map_congr_left
      intro t _
      simp only [TokA.shift, Function.comp]
      congr 1
      omega
theorem Lexes.gap {s g : List UInt8} {a : Nat} {l : List TokA} (hg : Gap g) (h : Lexes s (a + g.length) l) : Lexes (g ++ s) a l := by
  cases h with
  | stop g' _ hg' =>
    have := Lexes.stop (g ++ s) a (hg.append hg')
    rw [List.length_append, ← Nat.add_assoc] at this
    exact this
  | tok g' x t n l _ hg' ht hr =>
    rw [← List.append_assoc]
    have := Lexes.tok (g ++ g') x t n l a (hg.append hg') ht (by rw [List.length_append]; rw [← Nat.add_assoc]; exact hr)
    rw [List.length_append, ← Nat.add_assoc] at this
    exact this
theorem noCut_join {x : List UInt8} {n m : Nat} (h1 : noCut x n) (h2 : noCut (x.drop n) m) : noCut x (n + m) := by
  intro j hj
  cases m with
  | zero => exact h1 j hj
  | succ m =>
    have := h2 m rfl
    rw [List.getElem?_drop, List.getElem?_drop] at this
    obtain rfl : j = n + m := by omega
    exact this
theorem noCut_behind {g x : List UInt8} {m : Nat} (hg : Gap g) (h : noCut x m) : noCut (g ++ x) (g.length + m) := by
  intro j hj
  cases m with
  | zero =>
    intro h58
    rw [List.getElem?_append_left (by omega)] at h58
    exact absurd h58 (hg.last j (by omega))
  | succ m =>
    have := h m rfl
    obtain rfl : j = g.length + m := by omega
    rw [List.getElem?_append_right (by omega), List.getElem?_append_right (by omega)]
    rw [show g.length + m - g.length = m by omega, show g.length + m + 1 - g.length = m + 1 by omega]
    exact this
theorem noCut_zero (x : List UInt8) : noCut x 0 := fun j hj => by omega
/-- a token's place: within the source, and no cut between ':' and '=' -/
theorem Lexes.place {s : List UInt8} {a : Nat} {l : List TokA} (h : Lexes s a l) : ∀ t ∈ l, ∃ p, t.place = a + p ∧ p ≤ s.length ∧ noCut s p := by
  induction h with
  | stop g a hg =>
    intro t ht
    simp only [List.mem_singleton] at ht
    subst ht
    exact ⟨g.length, rfl, Nat.le_refl _, by have := noCut_behind hg (noCut_zero []); simpa using this⟩
  | tok g x t n l a hg ht _ ih =>
    intro u hu
    have hle := tok_le x t n ht
    simp only [List.mem_cons] at hu
    rcases hu with rfl | hu
    · exact ⟨g.length, rfl, by simp, by have := noCut_behind hg (noCut_zero x); simpa using this⟩
    · obtain ⟨p, h1, h2, h3⟩ := ih u hu
      rw [List.length_drop] at h2
      refine ⟨g.length + (n + p), by omega, by rw [List.length_append]; omega, ?_⟩
      exact noCut_behind hg (noCut_join (tok_end x t n ht) h3)
/-- the source cut at a token's place, with something else behind it -/
theorem Lexes.join {s : List UInt8} {a : Nat} {l : List TokA} (h : Lexes s a l) : ∀ (k : Nat) (t : TokA) (p : Nat) (r : List UInt8) (l2 : List TokA), l[k]? = some t → t.place = a + p → brk r → Lexes r (a + p) l2 → Lexes (s.take p ++ r) a (l.take k ++ l2) := by
  induction h with
  | stop g a hg =>
    intro k t p r l2 hk hp hr h2
    cases k with
    | succ k => simp at hk
    | zero =>
      simp at hk
      subst hk
      simp only at hp
      obtain rfl : p = g.length := by omega
      rw [List.take_length]
      exact Lexes.gap hg h2
  | tok g x t n l a hg ht hl ih =>
    intro k u p r l2 hk hp hr h2
    have hle := tok_le x t n ht
    cases k with
    | zero =>
      simp at hk
      subst hk
      simp only at hp
      obtain rfl : p = g.length := by omega
      rw [List.take_left]
      exact Lexes.gap hg h2
    | succ k =>
      simp only [List.getElem?_cons_succ] at hk
      obtain ⟨q, e1, e2, e3⟩ := hl.place u (List.mem_of_getElem? hk)
      rw [List.length_drop] at e2
      obtain rfl : p = g.length + (n + q) := by omega
      have h3 := ih k u q r l2 hk e1 hr (by rw [show a + g.length + n + q = a + (g.length + (n + q)) by omega]; exact h2)
      rw [List.take_length_add_append, List.append_assoc, List.take_succ_cons, List.cons_append]
      have hcut := tok_cut x t n (n + q) r ht (by omega) (by omega) (noCut_join (tok_end x t n ht) e3) hr
      refine Lexes.tok g _ t n _ a hg hcut ?_
      rw [drop_cut _ _ _ _ (by omega) (by omega), show n + q - n = q by omega]
      exact h3
theorem Lexes.drop {s : List UInt8} {a : Nat} {l : List TokA} (h : Lexes s a l) : ∀ (k : Nat) (t : TokA) (p : Nat), l[k]? = some t → t.place = a + p → Lexes (s.drop p) (a + p) (l.drop k) := by
  induction h with
  | stop g a hg =>
    intro k t p hk hp
    cases k with
    | succ k => simp at hk
    | zero =>
      simp at hk
      subst hk
      simp only at hp
      obtain rfl : p = g.length := by omega
      rw [List.drop_length]
      have := Lexes.stop [] (a + g.length) Gap.nil
      exact this
  | tok g x t n l a hg ht hl ih =>
    intro k u p hk hp
    have hle := tok_le x t n ht
    cases k with
    | zero =>
      simp at hk
      subst hk
      simp only at hp
      obtain rfl : p = g.length := by omega
      rw [List.drop_left]
      exact Lexes.tok [] x t n l (a + g.length) Gap.nil ht hl
    | succ k =>
      simp only [List.getElem?_cons_succ] at hk
      obtain ⟨q, e1, e2, e3⟩ := hl.place u (List.mem_of_getElem? hk)
      obtain rfl : p = g.length + (n + q) := by omega
      have h3 := ih k u q hk e1
      rw [List.drop_length_add_append, List.drop_succ_cons, show a + (g.length + (n + q)) = a + g.length + n + q by omega, ← List.drop_drop]
      exact h3
/-- the places rise; the last token is the stop, at the end -/
theorem Lexes.last {s : List UInt8} {a : Nat} {l : List TokA} (h : Lexes s a l) : ∃ l0, l = l0 ++ [⟨stopT, a + s.length⟩] := by
  induction h with
  | stop g a hg => exact ⟨[], rfl⟩
  | tok g x t n l a hg ht _ ih =>
    have hle := tok_le x t n ht
    obtain ⟨l0, h⟩ := ih
    refine ⟨⟨t, a + g.length⟩ :: l0, ?_⟩
    rw [h, List.length_drop, List.length_append, show a + g.length + n + (x.length - n) = a + (g.length + x.length) by omega]
    rfl
def reservedL : List (List UInt8) := [[115, 101, 108, 102], [115, 117, 112, 101, 114], [110, 105, 108], [116, 114, 117, 101], [102, 97, 108, 115, 101]]
def varCode (s : List UInt8) : Int := if s ∈ reservedL then 78 else if s = [] ∨ nameLen s ≠ s.length then 1 else 0
def headS (s : List UInt8) : Bool := match s with | [] => false | c :: _ => isS c
def selLoop : Nat → List UInt8 → Option Nat
  | 0, _ => none
  | f + 1, s => if s = [] then some 0 else if nameLen s = 0 ∨ headS s = false ∨ s[nameLen s]? ≠ some 58 then none else (selLoop f (s.drop (nameLen s + 1))).map (· + 1)
def selector (s : List UInt8) : Option Nat :=
  if 0 < signsLen s ∧ signsLen s = s.length then some 1 else if s = [] then none else if varCode s = 0 ∧ headS s = true then some 0 else selLoop (s.length + 1) s
theorem headS_L {c : UInt8} (h : isS c = true) : isL c = true := by simp [isL, h]
theorem L_not {c : UInt8} (h : isL c = true) : isG c = false ∧ c ≠ 35 ∧ c ≠ 40 ∧ c ≠ 61 := by
  have h1 : isG c = false := by
    cases hg : isG c with
    | false => rfl
    | true => rw [(signs_name hg).1] at h; cases h
  refine ⟨h1, ?_, ?_, ?_⟩ <;> (intro e; subst e; revert h; decide)
theorem lex_one {s : List UInt8} {t : Tok} (h : tok s = some (t, s.length)) : Lexes s 0 [⟨t, 0⟩, ⟨stopT, s.length⟩] := by
  have h2 : Lexes (s.drop s.length) (0 + ([] : List UInt8).length + s.length) [⟨stopT, s.length⟩] := by
    rw [List.drop_length]
    have := Lexes.stop [] s.length Gap.nil
    simpa using this
  have := Lexes.tok [] s t s.length _ 0 Gap.nil h h2
  simpa using this
/-- what a selector of more arguments is -/
inductive Keys : List UInt8 → List (List UInt8) → Prop
  | nil : Keys [] []
  | cons (w r : List UInt8) (l : List (List UInt8)) : headS w = true → nameLen w = w.length → 0 < w.length → Keys r l → Keys (w ++ 58 :: r) (w :: l)
theorem Keys.head {s : List UInt8} {l : List (List UInt8)} (h : Keys s l) : ∀ c, s[0]? = some c → isL c = true := by
  intro c hc
  cases h with
  | nil => simp at hc
  | cons w r l h1 h2 h3 h4 =>
    cases w with
    | nil => simp at h3
    | cons d w => simp at hc; subst hc; exact headS_L h1
theorem Keys.name {w r : List UInt8} {l : List (List UInt8)} (hw : nameLen w = w.length) (h0 : 0 < w.length) (h : Keys r l) : nameLen (w ++ 58 :: r) = w.length ∧ colon ((w ++ 58 :: r).drop w.length) = true := by
  constructor
  · cases w with
    | nil => simp at h0
    | cons c w =>
      rw [nameLen_cons] at hw
      split at hw
      · rename_i hc
        simp only [List.length_cons] at hw
        rw [List.cons_append, nameLen_cons, if_pos hc]
        have hall : w.takeWhile alnum = w := (List.takeWhile_prefix alnum).eq_of_length (by omega)
        have : (w ++ 58 :: r).takeWhile alnum = w := by
          rw [List.takeWhile_append, hall]
          simp [alnum_58]
        rw [this]; rfl
      · simp at hw
  · rw [List.drop_left]
    have h61 : r[0]? ≠ some 61 := fun e => absurd (h.head 61 e) (by decide)
    simp [colon, h61]
end Go.Proofs.YtjibdaigclgmhaaGreatDoor.Lex
