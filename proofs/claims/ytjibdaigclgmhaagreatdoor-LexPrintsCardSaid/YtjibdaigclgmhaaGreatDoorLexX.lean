/- The reference's readers of chapter 7, in plain words, and their contracts: colon, symbol, number, text, passed. Conditions: those that each theorem states. -/
import Derived.Test.YtjibdaigclgmhaaGreatDoorLexM
import Derived.Test.YtjibdaigclgmhaaGreatDoorLexV
import Derived.Test.YtjibdaigclgmhaaGreatDoorLexPPB
import Derived.Lib.LazyBuf
namespace Go.Proofs.YtjibdaigclgmhaaGreatDoor.LexW
open Go.RowKit Go.Maps Go.Proofs.YtjibdaigclgmhaaGreatDoor.Lex Go.Proofs.YtjibdaigclgmhaaGreatDoor.PLexPrints Go.Proofs.YtjibdaigclgmhaaGreatDoorW.PrintWords Go.Proofs.YtjibdaigclgmhaaGreatDoorW.PrintLast Go.Proofs.YtjibdaigclgmhaaGreatDoorW.PrintMore
set_option linter.unusedVariables false
set_option linter.unusedSimpArgs false
theorem drop_get (s : ByteArray) (p i : Nat) : ((bl s).drop p)[i]? = (bl s)[p + i]? := by rw [List.getElem?_drop]
theorem ref_colon (s : ByteArray) (hs : s.size ≤ 281474976710656) (p : Nat) (hp : p ≤ s.size) : kilnref7_colon.f s (p : Int) = some (colon ((bl s).drop p)) := by
  unfold kilnref7_colon.f
  have h1 := ref_is s p 58
  have h2 := ref_is s (p + 1) 61
  have hw : wrap64 ((p : Int) + 1) = ((p + 1 : Nat) : Int) := by unfold wrap64; omega
  rw [show ((58 : UInt8).toNat : Int) = 58 from rfl] at h1
  rw [show ((61 : UInt8).toNat : Int) = 61 from rfl] at h2
  rw [h1, Option.bind_some, hw, h2, Option.bind_some]
  unfold colon
  rw [drop_get, drop_get, Nat.add_zero]
  cases ((bl s)[p]? == some 58) <;> simp [bne]
theorem ref_name_any (s : ByteArray) (hs : s.size ≤ 281474976710656) (p : Nat) (hp : p ≤ s.size) : ∀ (j : Nat), kilnref7_name.f (s.size + 3 + j) s (p : Int) = some ((p + nameLen ((bl s).drop p) : Nat) : Int)
  | 0 => ref_name s hs p hp
  | j + 1 => kilnref7_name.mono s (p : Int) (s.size + 3 + j) _ (ref_name_any s hs p hp j)
theorem nameLen_drop_le (s : ByteArray) (p : Nat) (hp : p ≤ s.size) : p + nameLen ((bl s).drop p) ≤ s.size := by
  have := nameLen_le ((bl s).drop p)
  rw [List.length_drop, bl_len] at this; omega
theorem ref_symbol_l0 (s : ByteArray) (hs : s.size ≤ 281474976710656) : ∀ (d e k f : Nat), e ≤ s.size → s.size - e ≤ d → s.size + 4 + d ≤ k → s.size - e ≤ f → kilnref7_symbol.l0 k s (e : Int) = some ((e + symMore f ((bl s).drop e) : Nat) : Int) := by
  intro d
  induction d with
  | zero =>
    intro e k f he hd hk hf
    obtain rfl : e = s.size := by omega
    obtain ⟨k, rfl⟩ : ∃ m, k = m + 1 := ⟨k - 1, by omega⟩
    obtain ⟨j, rfl⟩ : ∃ j, k = s.size + 3 + j := ⟨k - (s.size + 3), by omega⟩
    rw [kilnref7_symbol.l0, ref_name_any s hs _ (Nat.le_refl _), Option.bind_some]
    have h0 : (bl s).drop s.size = [] := List.drop_eq_nil_of_le (by rw [bl_len]; omega)
    rw [h0]
    have : symMore f ([] : List UInt8) = 0 := by cases f <;> simp [symMore, nameLen]
    rw [this]
    simp [nameLen]
  | succ d ih =>
    intro e k f he hd hk hf
    by_cases hes : e = s.size
    · subst hes
      exact ih _ k f (Nat.le_refl _) (by omega) (by omega) (by omega)
    obtain ⟨k, rfl⟩ : ∃ m, k = m + 1 := ⟨k - 1, by omega⟩
    obtain ⟨j, rfl⟩ : ∃ j, k = s.size + 3 + j := ⟨k - (s.size + 3), by omega⟩
    obtain ⟨f, rfl⟩ : ∃ m, f = m + 1 := ⟨f - 1, by omega⟩
    have hn := nameLen_drop_le s e he
    rw [kilnref7_symbol.l0, ref_name_any s hs _ he, Option.bind_some]
    by_cases h0 : nameLen ((bl s).drop e) = 0
    · rw [if_pos (by rw [h0]; rfl)]
      rw [symMore, if_neg (by simp [h0])]; rfl
    · rw [if_neg (by omega), ref_colon s hs _ hn, Option.bind_some]
      by_cases hc : colon ((bl s).drop (e + nameLen ((bl s).drop e))) = true
      · rw [if_pos hc]
        have hlt := colon_pos hc
        rw [bl_len] at hlt
        have hw : wrap64 (((e + nameLen ((bl s).drop e) : Nat) : Int) + 1) = ((e + nameLen ((bl s).drop e) + 1 : Nat) : Int) := by unfold wrap64; omega
        rw [hw, ih _ (s.size + 3 + j) f (by omega) (by omega) (by omega) (by omega)]
        rw [symMore, if_pos (by rw [List.drop_drop, hc]; simp; omega), List.drop_drop, ← Nat.add_assoc]
        congr 2 <;> omega
      · rw [if_neg hc]
        rw [symMore, if_neg (by rw [List.drop_drop]; simp [hc])]; rfl
theorem ref_signs_any (s : ByteArray) (hs : s.size ≤ 281474976710656) (p : Nat) (hp : p ≤ s.size) : ∀ (j : Nat), kilnref7_signs.f (20 + j) s (p : Int) = some ((p + signsLen ((bl s).drop p) : Nat) : Int)
  | 0 => ref_signs s hs p hp
  | j + 1 => kilnref7_signs.mono s (p : Int) (20 + j) _ (ref_signs_any s hs p hp j)
theorem signs_of_name {l : List UInt8} (h : nameLen l ≠ 0) : signsLen l = 0 := by
  cases l with
  | nil => rfl
  | cons c r =>
    rw [nameLen_cons] at h
    have hL : isL c = true := by
      cases hc : isL c with
      | true => rfl
      | false => rw [hc] at h; simp at h
    simp [signsLen, (L_not hL).1]
theorem ref_symbol (s : ByteArray) (hs : s.size ≤ 281474976710656) (p : Nat) (hp : p ≤ s.size) : kilnref7_symbol.f (2 * s.size + 30) s (p : Int) = some ((p + symLen ((bl s).drop p) : Nat) : Int) := by
  unfold kilnref7_symbol.f
  have hn := nameLen_drop_le s p hp
  rw [show 2 * s.size + 30 = s.size + 3 + (s.size + 27) by omega, ref_name_any s hs p hp, Option.bind_some]
  by_cases h0 : nameLen ((bl s).drop p) = 0
  · rw [if_pos (by rw [h0]; rfl), show s.size + 3 + (s.size + 27) = 20 + (2 * s.size + 10) by omega, ref_signs_any s hs p hp, Option.bind_some]
    unfold symLen
    rw [h0]
    by_cases hg : 0 < signsLen ((bl s).drop p)
    · rw [if_pos hg]
    · rw [if_neg hg, if_neg (by simp)]
      congr 3 <;> omega
  · rw [if_neg (by omega), ref_colon s hs _ hn, Option.bind_some]
    have hsg := signs_of_name h0
    unfold symLen
    rw [hsg, if_neg (show ¬ 0 < 0 by omega)]
    by_cases hc : colon ((bl s).drop (p + nameLen ((bl s).drop p))) = true
    · rw [if_pos hc]
      have hlt := colon_pos hc
      rw [bl_len] at hlt
      have hw : wrap64 (((p + nameLen ((bl s).drop p) : Nat) : Int) + 1) = ((p + nameLen ((bl s).drop p) + 1 : Nat) : Int) := by unfold wrap64; omega
      rw [hw, ref_symbol_l0 s hs s.size _ _ ((bl s).drop p).length (by omega) (by omega) (by omega) (by rw [List.length_drop, bl_len]; omega)]
      rw [if_pos (by rw [List.drop_drop, hc]; simp; omega), List.drop_drop, ← Nat.add_assoc]
      congr 2 <;> omega
    · rw [if_neg hc, if_neg (by rw [List.drop_drop]; simp [hc])]
theorem refSymbol_calls (s : ByteArray) (hs : s.size ≤ 281474976710656) (p : Nat) (hp : p ≤ s.size) (w : World) : Calls Tryz.prog 76 #[.string s, .int .i64 (p : Int)] w fun e w' => e = .returned (.int .i64 ((p + symLen ((bl s).drop p) : Nat) : Int)) ∧ Below w.heap.size w w' :=
  (kilnref7_symbol.calls _ s _ _ w (ref_symbol s hs p hp)).mono fun e w' h => ⟨h.1, below_drawn h.2⟩
theorem refColon_calls (s : ByteArray) (hs : s.size ≤ 281474976710656) (p : Nat) (hp : p ≤ s.size) (w : World) : Calls Tryz.prog 72 #[.string s, .int .i64 (p : Int)] w fun e w' => e = .returned (.bool (colon ((bl s).drop p))) ∧ Below w.heap.size w w' :=
  (kilnref7_colon.calls s _ _ w (ref_colon s hs p hp)).mono fun e w' h => ⟨h.1, below_drawn h.2⟩
def numStep (n : Int) (c : UInt8) : Int := if 0 ≤ n then (if (10 * n + (c.toNat : Int) - 48) > 1073741824 then -1 else 10 * n + (c.toNat : Int) - 48) else n
theorem digit_range {c : UInt8} (h : isD c = true) : 48 ≤ (c.toNat : Int) ∧ (c.toNat : Int) ≤ 57 := by
  have key : ∀ c : Fin 256, isD (UInt8.ofNat c.val) = true → 48 ≤ c.val ∧ c.val ≤ 57 := by decide +kernel
  have := key ⟨c.toNat, c.toNat_lt⟩ (by simpa using h)
  simp only at this
  omega
theorem ref_number_l0 (s : ByteArray) (hs : s.size ≤ 281474976710656) : ∀ (d p k : Nat) (n : Int), p ≤ s.size → s.size - p ≤ d → 2 * d + 2 ≤ k → -1 ≤ n → n ≤ 1073741824 →
    kilnref7_number.l0 k s (p : Int) n = some ((((bl s).drop p).takeWhile isD).foldl numStep n, ((p + (((bl s).drop p).takeWhile isD).length : Nat) : Int)) := by
  intro d
  induction d with
  | zero =>
    intro p k n hp hd hk h1 h2
    obtain rfl : p = s.size := by omega
    obtain ⟨k, rfl⟩ : ∃ m, k = m + 2 := ⟨k - 2, by omega⟩
    rw [kilnref7_number.l0, if_neg (by omega), kilnref7_number.j1, if_neg (by simp), List.drop_eq_nil_of_le (by rw [bl_len]; omega)]
    simp
  | succ d ih =>
    intro p k n hp hd hk h1 h2
    by_cases hps : p = s.size
    · subst hps
      exact ih _ k n (Nat.le_refl _) (by omega) (by omega) h1 h2
    have hlt : p < s.size := by omega
    obtain ⟨k, rfl⟩ : ∃ m, k = m + 2 := ⟨k - 2, by omega⟩
    have hw : wrap64 ((p : Int) + 1) = ((p + 1 : Nat) : Int) := by unfold wrap64; omega
    rw [kilnref7_number.l0, if_pos (by omega), if_pos (by omega), bt_nat s p hlt, ref_digit, Option.bind_some, drop_at s p hlt, List.takeWhile_cons, kilnref7_number.j1]
    by_cases hD : isD (s[p]'hlt) = true
    · obtain ⟨r1, r2⟩ := digit_range hD
      rw [if_pos hD, if_pos hD, hw]
      have hb : wrap64 (bt s (p : Int)) = ((s[p]'hlt).toNat : Int) := by rw [bt_nat s p hlt]; unfold wrap64; omega
      by_cases hn : 0 ≤ n
      · have e1 : wrap64 (wrap64 (wrap64 (10 * n) + wrap64 (bt s (p : Int))) - 48) = 10 * n + ((s[p]'hlt).toNat : Int) - 48 := by rw [hb]; unfold wrap64; omega
        rw [if_pos (by omega), if_pos (by omega), if_pos (by omega), e1]
        by_cases hbig : 10 * n + ((s[p]'hlt).toNat : Int) - 48 > 1073741824
        · rw [if_pos hbig, ih (p + 1) k (-1) (by omega) (by omega) (by omega) (by omega) (by omega), List.foldl_cons]
          have : numStep n (s[p]'hlt) = -1 := by unfold numStep; rw [if_pos hn, if_pos hbig]
          rw [this, List.length_cons]
          congr 3; omega
        · rw [if_neg hbig, ih (p + 1) k _ (by omega) (by omega) (by omega) (by omega) (by omega), List.foldl_cons]
          have : numStep n (s[p]'hlt) = 10 * n + ((s[p]'hlt).toNat : Int) - 48 := by unfold numStep; rw [if_pos hn, if_neg hbig]
          rw [this, List.length_cons]
          congr 3; omega
      · rw [if_neg (by omega), if_neg (by omega), ih (p + 1) k n (by omega) (by omega) (by omega) (by omega) (by omega), List.foldl_cons]
        have : numStep n (s[p]'hlt) = n := by unfold numStep; rw [if_neg hn]
        rw [this, List.length_cons]
        congr 3; omega
    · rw [if_neg hD, if_neg hD]
      simp
theorem foldl_neg : ∀ (l : List UInt8), l.foldl numStep (-1) = -1
  | [] => rfl
  | c :: r => by rw [List.foldl_cons, show numStep (-1) c = -1 from rfl, foldl_neg r]
theorem dv_ge : ∀ (l : List UInt8) (n : Nat), n ≤ l.foldl (fun n c => 10 * n + (c.toNat - 48)) n
  | [], n => Nat.le_refl n
  | c :: r, n => by rw [List.foldl_cons]; have := dv_ge r (10 * n + (c.toNat - 48)); omega
theorem foldl_num : ∀ (l : List UInt8) (n : Nat), n ≤ 1073741824 → (∀ c ∈ l, isD c = true) →
    l.foldl numStep (n : Int) = if l.foldl (fun n c => 10 * n + (c.toNat - 48)) n ≤ 1073741824 then ((l.foldl (fun n c => 10 * n + (c.toNat - 48)) n : Nat) : Int) else -1
  | [], n, hn, _ => by rw [List.foldl_nil, List.foldl_nil, if_pos hn]
  | c :: r, n, hn, hl => by
    obtain ⟨r1, r2⟩ := digit_range (hl c List.mem_cons_self)
    rw [List.foldl_cons, List.foldl_cons]
    by_cases hbig : 10 * n + (c.toNat - 48) ≤ 1073741824
    · rw [show numStep (n : Int) c = ((10 * n + (c.toNat - 48) : Nat) : Int) by unfold numStep; rw [if_pos (by omega), if_neg (by omega)]; omega]
      exact foldl_num r _ hbig (fun x hx => hl x (List.mem_cons_of_mem _ hx))
    · rw [show numStep (n : Int) c = -1 by unfold numStep; rw [if_pos (by omega), if_pos (by omega)], foldl_neg, if_neg]
      have := dv_ge r (10 * n + (c.toNat - 48)); omega
def numVal (l : List UInt8) : Int := if digVal (l.take (digitsLen l)) ≤ 1073741824 then (digVal (l.take (digitsLen l)) : Int) else -1
theorem take_digits (l : List UInt8) : l.take (digitsLen l) = l.takeWhile isD := by
  unfold digitsLen
  induction l with
  | nil => rfl
  | cons c r ih =>
    rw [List.takeWhile_cons]
    split
    · rw [List.length_cons, List.take_succ_cons, ih]
    · rfl
theorem ref_number (s : ByteArray) (hs : s.size ≤ 281474976710656) (p : Nat) (hp : p ≤ s.size) : kilnref7_number.f (2 * s.size + 2) s (p : Int) = some (numVal ((bl s).drop p), ((p + digitsLen ((bl s).drop p) : Nat) : Int)) := by
  unfold kilnref7_number.f
  rw [ref_number_l0 s hs s.size p _ 0 hp (by omega) (Nat.le_refl _) (by omega) (by omega)]
  have := foldl_num (((bl s).drop p).takeWhile isD) 0 (by omega) (takeWhile_all isD _)
  unfold numVal
  rw [take_digits]
  congr 2
theorem refNumber_calls (s : ByteArray) (hs : s.size ≤ 281474976710656) (p : Nat) (hp : p ≤ s.size) (w : World) : Calls Tryz.prog 74 #[.string s, .int .i64 (p : Int)] w fun e w' => e = .returned (.tuple #[.int .i64 (numVal ((bl s).drop p)), .int .i64 ((p + digitsLen ((bl s).drop p) : Nat) : Int)]) ∧ Below w.heap.size w w' :=
  (kilnref7_number.calls _ s _ _ _ w (ref_number s hs p hp)).mono fun e w' h => ⟨h.1, below_drawn h.2⟩
theorem ref_text_l0 (s : ByteArray) (hs : s.size ≤ 70368744177664) : ∀ (d i k : Nat) (c : List UInt8), i ≤ s.size → s.size - i ≤ d → d + 1 ≤ k → c.length ≤ i →
    kilnref7_text.l0 k s (c.map fun u => (u.toNat : Int)) (i : Int) = match textOf ((bl s).drop i) with
      | some (b, m) => some (⟨(c ++ b).toArray⟩, ((i + m : Nat) : Int), true)
      | none => some (⟨#[]⟩, 0, false) := by
  intro d
  induction d using Nat.strongRecOn with
  | _ d ih =>
    intro i k c hi hd hk hc
    obtain ⟨k, rfl⟩ : ∃ m, k = m + 1 := ⟨k - 1, by omega⟩
    rw [kilnref7_text.l0]
    by_cases hlt : i < s.size
    · have hw : wrap64 ((i : Int) + 1) = ((i + 1 : Nat) : Int) := by unfold wrap64; omega
      have hw2 : wrap64 ((i : Int) + 2) = ((i + 2 : Nat) : Int) := by unfold wrap64; omega
      rw [if_pos (by omega), if_pos (by omega), bt_nat s i hlt, hw, hw2, drop_at s i hlt]
      by_cases h39 : (s[i]'hlt) = 39
      · have h2 := ref_is s (i + 1) 39
        rw [show ((39 : UInt8).toNat : Int) = 39 from rfl] at h2
        rw [if_pos (by rw [h39]; rfl), h2, Option.bind_some, h39]
        by_cases hq : ((bl s)[i + 1]? == some 39) = true
        · rw [if_pos hq, if_pos (by rw [List.length_map]; omega)]
          have hlt2 : i + 1 < s.size := by
            rw [beq_iff_eq] at hq
            have := (List.getElem?_eq_some_iff.1 hq).1; rw [bl_len] at this; exact this
          have e39 : (s[i + 1]'hlt2) = 39 := by
            rw [beq_iff_eq, bl_get s (i + 1) hlt2] at hq; exact Option.some.inj hq
          rw [drop_at s (i + 1) hlt2, e39, textOf_two]
          have := ih (d - 2) (by omega) (i + 2) k (c ++ [39]) (by omega) (by omega) (by omega) (by simp; omega)
          rw [List.map_append] at this
          rw [show ([39] : List Int) = [(39 : UInt8)].map (fun u => (u.toNat : Int)) from rfl, this]
          cases textOf ((bl s).drop (i + 2)) with
          | none => rfl
          | some q =>
            obtain ⟨b, m⟩ := q
            simp only [Option.map_some, List.append_assoc, List.cons_append, List.nil_append]
            congr 3; omega
        · rw [if_neg hq]
          rw [textOf_one _ (fun c' h' => by
            rw [drop_get, Nat.add_zero] at h'
            intro e; subst e; rw [h'] at hq; exact hq rfl)]
          rw [Go.Lib.Lz.strOfNums_map]
          simp
      · rw [if_neg (by intro e; exact h39 (by apply UInt8.toNat_inj.1; have : ((39 : UInt8).toNat : Int) = 39 := rfl; omega)), if_pos (by rw [List.length_map]; omega), textOf_step _ h39]
        have := ih (d - 1) (by omega) (i + 1) k (c ++ [s[i]'hlt]) (by omega) (by omega) (by omega) (by simp; omega)
        rw [List.map_append] at this
        rw [show ([((s[i]'hlt).toNat : Int)] : List Int) = [s[i]'hlt].map (fun u => (u.toNat : Int)) from rfl, this]
        cases textOf ((bl s).drop (i + 1)) with
        | none => rfl
        | some q =>
          obtain ⟨b, m⟩ := q
          simp only [Option.map_some, List.append_assoc, List.cons_append, List.nil_append]
          congr 3; omega
    · rw [if_neg (by omega), List.drop_eq_nil_of_le (by rw [bl_len]; omega)]
      rfl
theorem refText_calls (s : ByteArray) (hs : s.size ≤ 70368744177664) (p : Nat) (hp : p < s.size) (w : World) : Calls Tryz.prog 79 #[.string s, .int .i64 (p : Int)] w fun e w' =>
    e = .returned (match textOf ((bl s).drop (p + 1)) with
      | some (b, m) => .tuple #[.string ⟨b.toArray⟩, .int .i64 ((p + 1 + m : Nat) : Int), .bool true]
      | none => .tuple #[.string ⟨#[]⟩, .int .i64 0, .bool false]) ∧ Below w.heap.size w w' := by
  have hw : wrap64 ((p : Int) + 1) = ((p + 1 : Nat) : Int) := by unfold wrap64; omega
  have h := ref_text_l0 s hs s.size (p + 1) (s.size + 1) [] (by omega) (by omega) (Nat.le_refl _) (Nat.zero_le _)
  cases ht : textOf ((bl s).drop (p + 1)) with
  | none =>
    rw [ht] at h
    exact kilnref7_text.calls (s.size + 1) s (p : Int) _ _ _ w (by unfold kilnref7_text.f; rw [hw]; exact h)
  | some q =>
    obtain ⟨b, m⟩ := q
    rw [ht] at h
    exact kilnref7_text.calls (s.size + 1) s (p : Int) _ _ _ w (by unfold kilnref7_text.f; rw [hw]; exact h)
theorem ref_blank (c : UInt8) : kilnref7_blank.f (c.toNat : Int) = some (isB c) := by
  have key : ∀ c : Fin 256, kilnref7_blank.f ((c.val : Nat) : Int) = some (isB (UInt8.ofNat c.val)) := by decide +kernel
  have := key ⟨c.toNat, c.toNat_lt⟩
  simpa using this
theorem ref_passed_l1 (s : ByteArray) (hs : s.size ≤ 70368744177664) (x1 : Int) : ∀ (d i k : Nat), i ≤ s.size → s.size - i ≤ d → d + 1 ≤ k →
    kilnref7_passed.l1 k s x1 (i : Int) = match comLen ((bl s).drop i) with
      | some m => kilnref7_passed.l0 (k - m - 1) s ((i + m + 1 : Nat) : Int)
      | none => some (x1, false) := by
  intro d
  induction d with
  | zero =>
    intro i k hi hd hk
    obtain rfl : i = s.size := by omega
    obtain ⟨k, rfl⟩ : ∃ m, k = m + 1 := ⟨k - 1, by omega⟩
    rw [kilnref7_passed.l1, if_neg (by omega), if_pos (by omega), List.drop_eq_nil_of_le (by rw [bl_len]; omega)]
    rfl
  | succ d ih =>
    intro i k hi hd hk
    by_cases hps : i = s.size
    · subst hps
      exact ih _ k (Nat.le_refl _) (by omega) (by omega)
    have hlt : i < s.size := by omega
    obtain ⟨k, rfl⟩ : ∃ m, k = m + 1 := ⟨k - 1, by omega⟩
    have hw : wrap64 ((i : Int) + 1) = ((i + 1 : Nat) : Int) := by unfold wrap64; omega
    rw [kilnref7_passed.l1, if_pos (by omega), if_pos (by omega), bt_nat s i hlt, hw, drop_at s i hlt, comLen]
    by_cases h34 : (s[i]'hlt) = 34
    · rw [if_pos (by rw [h34]; rfl), if_neg (by omega), if_pos h34]
      simp
    · rw [if_neg (by intro e; exact h34 (by apply UInt8.toNat_inj.1; have : ((34 : UInt8).toNat : Int) = 34 := rfl; omega)), if_neg h34, ih (i + 1) k (by omega) (by omega) (by omega)]
      cases comLen ((bl s).drop (i + 1)) with
      | none => rfl
      | some m =>
        simp only [Option.map_some]
        rw [show k + 1 - (m + 1) - 1 = k - m - 1 by omega, show i + (m + 1) + 1 = i + 1 + m + 1 by omega]
theorem comLen_le : ∀ (l : List UInt8) (m : Nat), comLen l = some m → m < l.length
  | [], m, h => by simp [comLen] at h
  | c :: r, m, h => by
    rw [comLen] at h
    split at h
    · cases h; simp
    · cases hr : comLen r with
      | none => rw [hr] at h; cases h
      | some k =>
        rw [hr] at h
        have := comLen_le r k hr
        simp at h; subst h; simp; omega
theorem ref_passed_l0 (s : ByteArray) (hs : s.size ≤ 70368744177664) : ∀ (d p k : Nat), p ≤ s.size → s.size - p ≤ d → d + 1 ≤ k →
    kilnref7_passed.l0 k s (p : Int) = some (((p + (skip ((bl s).drop p)).1 : Nat) : Int), (skip ((bl s).drop p)).2) := by
  intro d
  induction d using Nat.strongRecOn with
  | _ d ih =>
    intro p k hp hd hk
    obtain ⟨k, rfl⟩ : ∃ m, k = m + 1 := ⟨k - 1, by omega⟩
    rw [kilnref7_passed.l0]
    by_cases hlt : p < s.size
    · have hw : wrap64 ((p : Int) + 1) = ((p + 1 : Nat) : Int) := by unfold wrap64; omega
      rw [if_pos (by omega), if_pos (by omega), bt_nat s p hlt, ref_blank, Option.bind_some, hw, drop_at s p hlt]
      by_cases hB : isB (s[p]'hlt) = true
      · rw [if_pos hB, ih (d - 1) (by omega) (p + 1) k (by omega) (by omega) (by omega), skip_blank _ hB]
        simp only []
        congr 3; omega
      · rw [if_neg hB]
        by_cases h34 : (s[p]'hlt) = 34
        · rw [if_pos (by rw [h34]; rfl), ref_passed_l1 s hs _ (s.size - (p + 1)) (p + 1) k (by omega) (Nat.le_refl _) (by omega), h34]
          cases hc : comLen ((bl s).drop (p + 1)) with
          | none =>
            rw [skip_open _ hc]; simp
          | some m =>
            have hm := comLen_le _ m hc
            rw [List.length_drop, bl_len] at hm
            rw [skip_com _ m hc]
            simp only []
            rw [ih (s.size - (p + 1 + m + 1)) (by omega) (p + 1 + m + 1) (k - m - 1) (by omega) (Nat.le_refl _) (by omega), List.drop_drop, show p + 1 + (m + 1) = p + 1 + m + 1 by omega]
            congr 3; omega
        · rw [if_neg (by intro e; exact h34 (by apply UInt8.toNat_inj.1; have : ((34 : UInt8).toNat : Int) = 34 := rfl; omega)), skip_stop _ (by simpa using hB) h34]
          simp
    · rw [if_neg (by omega), List.drop_eq_nil_of_le (by rw [bl_len]; omega)]
      simp [skip_nil]
theorem refPassed_calls (s : ByteArray) (hs : s.size ≤ 70368744177664) (p : Nat) (hp : p ≤ s.size) (w : World) : Calls Tryz.prog 55 #[.string s, .int .i64 (p : Int)] w fun e w' => e = .returned (.tuple #[.int .i64 ((p + (skip ((bl s).drop p)).1 : Nat) : Int), .bool (skip ((bl s).drop p)).2]) ∧ Below w.heap.size w w' :=
  (kilnref7_passed.calls (s.size + 1) s _ _ _ w (ref_passed_l0 s hs s.size p _ hp (by omega) (Nat.le_refl _))).mono fun e w' h => ⟨h.1, below_drawn h.2⟩
end Go.Proofs.YtjibdaigclgmhaaGreatDoor.LexW
