/- The program's reading of tokens, walked: each function's answer in plain words. Conditions: those that each theorem states. -/
import Derived.Test.YtjibdaigclgmhaaDoorLexK
import Derived.Test.YtjibdaigclgmhaaDoorLexR
namespace Go.Proofs.YtjibdaigclgmhaaDoor.LexW
open Go.RowKit Go.Maps Go.Proofs.YtjibdaigclgmhaaDoor.Lex Go.Proofs.YtjibdaigclgmhaaDoor.PLexTokens Go.Proofs.YtjibdaigclgmhaaDoorW.PrintWords Go.Proofs.YtjibdaigclgmhaaDoorW.PrintLast Go.Proofs.YtjibdaigclgmhaaDoorW.PrintMore
attribute [local go_sem] max2_int min2_int max_two min_two max_three min_three max_four min_four
set_option linter.unusedVariables false
set_option linter.unusedSimpArgs false
theorem bt_nat (s : ByteArray) (i : Nat) (h : i < s.size) : bt s (i : Int) = ((s[i]'h).toNat : Int) := by
  have := bt_at s (i : Int) (by rw [Int.toNat_natCast]; exact h)
  rw [← this]
  simp
theorem ref_op20 (c : UInt8) : kilnref7_operator.f 20 (c.toNat : Int) = some (isG c) := by
  have key : ∀ c : Fin 256, kilnref7_operator.f 20 ((c.val : Nat) : Int) = some (isG (UInt8.ofNat c.val)) := by decide +kernel
  have := key ⟨c.toNat, c.toNat_lt⟩
  simpa using this
theorem ref_op19 (c : UInt8) : kilnref7_operator.f 19 (c.toNat : Int) = some (isG c) := by
  have key : ∀ c : Fin 256, kilnref7_operator.f 19 ((c.val : Nat) : Int) = some (isG (UInt8.ofNat c.val)) := by decide +kernel
  have := key ⟨c.toNat, c.toNat_lt⟩
  simpa using this
theorem ref_letter (c : UInt8) : kilnref7_letter.f (c.toNat : Int) = some (isL c) := by
  have key : ∀ c : Fin 256, kilnref7_letter.f ((c.val : Nat) : Int) = some (isL (UInt8.ofNat c.val)) := by decide +kernel
  have := key ⟨c.toNat, c.toNat_lt⟩
  simpa using this
theorem ref_digit (c : UInt8) : kilnref7_digit.f (c.toNat : Int) = some (isD c) := by
  have key : ∀ c : Fin 256, kilnref7_digit.f ((c.val : Nat) : Int) = some (isD (UInt8.ofNat c.val)) := by decide +kernel
  have := key ⟨c.toNat, c.toNat_lt⟩
  simpa using this
theorem ref_small (c : UInt8) : kilnref7_small.f (c.toNat : Int) = some (isS c) := by
  have key : ∀ c : Fin 256, kilnref7_small.f ((c.val : Nat) : Int) = some (isS (UInt8.ofNat c.val)) := by decide +kernel
  have := key ⟨c.toNat, c.toNat_lt⟩
  simpa using this
theorem ref_name_l0 (s : ByteArray) (hs : s.size ≤ 281474976710656) : ∀ (k p : Nat), p ≤ s.size → s.size - p < k → kilnref7_name.l0 k s (p : Int) = some ((p + (((bl s).drop p).takeWhile alnum).length : Nat) : Int) := by
  intro k
  induction k with
  | zero => intro p h1 h2; omega
  | succ k ih =>
    intro p h1 h2
    rw [kilnref7_name.l0]
    by_cases hp : p < s.size
    · have hw : wrap64 ((p : Int) + 1) = ((p + 1 : Nat) : Int) := by unfold wrap64; omega
      rw [if_pos (by omega), if_pos (by omega), bt_nat s p hp, ref_letter, drop_at s p hp, hw]
      simp only [Option.bind_some, ref_digit, List.takeWhile_cons]
      by_cases hl : isL (s[p]'hp) = true
      · rw [if_pos hl, if_pos (show alnum (s[p]'hp) = true by unfold alnum; rw [hl]; rfl), ih (p + 1) (by omega) (by omega), List.length_cons]
        congr 2; omega
      · rw [if_neg hl]
        by_cases hd : isD (s[p]'hp) = true
        · rw [if_pos hd, if_pos (show alnum (s[p]'hp) = true by unfold alnum; rw [hd, Bool.or_true]), ih (p + 1) (by omega) (by omega), List.length_cons]
          congr 2; omega
        · rw [if_neg hd, if_neg (show ¬ alnum (s[p]'hp) = true by unfold alnum; simp [hl, hd])]
          simp
    · rw [if_neg (by omega), List.drop_eq_nil_of_le (by rw [bl_len]; omega)]
      simp
theorem ref_name (s : ByteArray) (hs : s.size ≤ 281474976710656) (p : Nat) (hp : p ≤ s.size) : kilnref7_name.f (s.size + 3) s (p : Int) = some ((p + nameLen ((bl s).drop p) : Nat) : Int) := by
  unfold kilnref7_name.f
  by_cases hlt : p < s.size
  · rw [if_neg (by omega), if_pos (by omega), if_pos (by omega), bt_nat s p hlt, ref_letter, drop_at s p hlt, nameLen_cons]
    simp only [Option.bind_some, kilnref7_name.j0]
    cases hl : isL (s[p]'hlt) with
    | true =>
      simp only [Bool.not_true, Bool.false_eq_true, if_false, if_true]
      rw [ref_name_l0 s hs (s.size + 2) p hp (by omega), drop_at s p hlt, List.takeWhile_cons]
      rw [if_pos (show alnum (s[p]'hlt) = true by unfold alnum; rw [hl]; rfl), List.length_cons]
    | false => simp
  · rw [if_pos (by omega), List.drop_eq_nil_of_le (by rw [bl_len]; omega)]
    simp [kilnref7_name.j0, nameLen]
theorem refName_calls (s : ByteArray) (hs : s.size ≤ 281474976710656) (p : Nat) (hp : p ≤ s.size) (w : World) : Calls Tryd.prog 36 #[.string s, .int .i64 (p : Int)] w fun e w' => e = .returned (.int .i64 ((p + nameLen ((bl s).drop p) : Nat) : Int)) ∧ Below w.heap.size w w' :=
  (kilnref7_name.calls _ s _ _ w (ref_name s hs p hp)).mono fun e w' h => ⟨h.1, below_drawn h.2⟩
theorem refSmall_calls (c : UInt8) (w : World) : Calls Tryd.prog 35 #[.int .u8 (c.toNat : Int)] w fun e w' => e = .returned (.bool (isS c)) ∧ Below w.heap.size w w' :=
  (kilnref7_small.calls _ _ w (ref_small c)).mono fun e w' h => ⟨h.1, below_drawn h.2⟩
theorem refOp_calls (c : UInt8) (w : World) : Calls Tryd.prog 33 #[.int .u8 (c.toNat : Int)] w fun e w' => e = .returned (.bool (isG c)) ∧ Below w.heap.size w w' :=
  (kilnref7_operator.calls 20 _ _ w (ref_op20 c)).mono fun e w' h => ⟨h.1, below_drawn h.2⟩
theorem ref_is (s : ByteArray) (p : Nat) (c : UInt8) : kilnref7_is.f s (p : Int) (c.toNat : Int) = some ((bl s)[p]? == some c) := by
  unfold kilnref7_is.f
  by_cases h : p < s.size
  · rw [if_pos (by omega), if_pos (by omega), bt_nat s p h, bl_get s p h]
    congr 1
    have := byte_eq (s[p]'h) c.toNat c.toNat_lt
    rw [this]
    simp
  · rw [if_neg (by omega), List.getElem?_eq_none (by rw [bl_len]; omega)]
    rfl
theorem refIs_calls (s : ByteArray) (p : Nat) (c : UInt8) (w : World) : Calls Tryd.prog 37 #[.string s, .int .i64 (p : Int), .int .u8 (c.toNat : Int)] w fun e w' => e = .returned (.bool ((bl s)[p]? == some c)) ∧ Below w.heap.size w w' :=
  (kilnref7_is.calls _ _ _ _ w (ref_is s p c)).mono fun e w' h => ⟨h.1, below_drawn h.2⟩
theorem ref_signs (s : ByteArray) (hs : s.size ≤ 281474976710656) (p : Nat) (hp : p ≤ s.size) : kilnref7_signs.f 20 s (p : Int) = some ((p + signsLen ((bl s).drop p) : Nat) : Int) := by
  unfold kilnref7_signs.f
  by_cases hlt : p < s.size
  · have hw1 : wrap64 ((p : Int) + 1) = ((p + 1 : Nat) : Int) := by unfold wrap64; omega
    have hw2 : wrap64 ((p : Int) + 2) = ((p + 2 : Nat) : Int) := by unfold wrap64; omega
    rw [if_neg (by omega), if_pos (by omega), if_pos (by omega), bt_nat s p hlt, ref_op20, drop_at s p hlt]
    simp only [Option.bind_some, kilnref7_signs.j0, hw1, hw2]
    cases hg : isG (s[p]'hlt) with
    | false => simp [signsLen, hg]
    | true =>
      simp only [Bool.not_true, Bool.false_eq_true, if_false]
      by_cases hlt2 : p + 1 < s.size
      · rw [if_pos (by omega), if_pos (by omega), bt_nat s (p + 1) hlt2, ref_op19, drop_at s (p + 1) hlt2]
        simp only [Option.bind_some, signsLen, hg, if_true]
        cases hg2 : isG (s[p + 1]'hlt2) with
        | false => simp
        | true =>
          rw [if_pos rfl, if_pos (by omega), if_pos (by omega), bt_nat s p hlt]
          have h1 : (((s[p]'hlt).toNat : Int) = 45) ↔ s[p]'hlt = 45 := by
            constructor
            · intro h; exact UInt8.toNat_inj.1 (by have : (45 : UInt8).toNat = 45 := rfl; omega)
            · intro h; rw [h]; rfl
          have h2 : (((s[p + 1]'hlt2).toNat : Int) = 45) ↔ s[p + 1]'hlt2 = 45 := by
            constructor
            · intro h; exact UInt8.toNat_inj.1 (by have : (45 : UInt8).toNat = 45 := rfl; omega)
            · intro h; rw [h]; rfl
          by_cases e1 : s[p]'hlt = 45
          · rw [if_pos (h1.2 e1)]; simp [e1]
          · rw [if_neg (fun h => e1 (h1.1 h))]
            by_cases e2 : s[p + 1]'hlt2 = 45
            · rw [if_pos (h2.2 e2)]; simp [e1, e2]
            · rw [if_neg (fun h => e2 (h2.1 h))]; simp [e1, e2]
      · rw [if_neg (by omega), List.drop_eq_nil_of_le (by rw [bl_len]; omega)]
        simp [signsLen, hg]
  · rw [if_pos (by omega), List.drop_eq_nil_of_le (by rw [bl_len]; omega)]
    simp [kilnref7_signs.j0, signsLen]
theorem refSigns_calls (s : ByteArray) (hs : s.size ≤ 281474976710656) (p : Nat) (hp : p ≤ s.size) (w : World) : Calls Tryd.prog 34 #[.string s, .int .i64 (p : Int)] w fun e w' => e = .returned (.int .i64 ((p + signsLen ((bl s).drop p) : Nat) : Int)) ∧ Below w.heap.size w w' :=
  (kilnref7_signs.calls _ s _ _ w (ref_signs s hs p hp)).mono fun e w' h => ⟨h.1, below_drawn h.2⟩
theorem toList_eq (s : ByteArray) : s.toList = bl s := ByteArray.toList_eq s
set_option maxHeartbeats 4000000 in
set_option maxRecDepth 1000000 in
theorem refVariable_calls (s : ByteArray) (hs : s.size ≤ 281474976710656) (w : World) : Calls Tryd.prog 21 #[.string s] w fun e w' => e = .returned (.int .i64 (varCode (bl s))) ∧ Below w.heap.size w w' := by
  have hnc := refName_calls s hs 0 (Nat.zero_le _)
  rw [List.drop_zero] at hnc
  have hne : s.toList.isEmpty = decide (bl s = []) := by
    rw [isEmpty_bl]
    cases h : bl s <;> simp
  obtain ⟨n, hn⟩ : ∃ n, nameLen (bl s) = n := ⟨_, rfl⟩
  rw [hn, Nat.zero_add] at hnc
  have hq : ((n : Int) != (s.size : Int)) = decide (nameLen (bl s) ≠ (bl s).length) := by
    rw [hn, bl_len]
    by_cases h : n = s.size
    · subst h; simp
    · have h2 : ((n : Int) != (s.size : Int)) = true := by simp; omega
      rw [h2]; simp [h]
  obtain ⟨b, hb⟩ : ∃ a, decide (bl s = []) = a := ⟨_, rfl⟩
  obtain ⟨c, hc⟩ : ∃ a, decide (nameLen (bl s) ≠ (bl s).length) = a := ⟨_, rfl⟩
  have hv : bl s ∉ reservedL → varCode (bl s) = if b then 1 else if c then 1 else 0 := by
    intro h1
    unfold varCode
    rw [if_neg h1, ← hb, ← hc]
    by_cases h2 : bl s = []
    · rw [if_pos (.inl h2), if_pos (by simpa using h2)]
    · by_cases h3 : nameLen (bl s) = (bl s).length
      · rw [if_neg (by simp [h2, h3]), if_neg (by simpa using h2), if_neg (by simp [h3])]
      · rw [if_pos (.inr h3), if_neg (by simpa using h2), if_pos (by simpa using h3)]
  have hv1 : bl s ∈ reservedL → varCode (bl s) = 78 := fun h => by unfold varCode; rw [if_pos h]
  rw [hb] at hne
  rw [hc] at hq
  have hNC : ∀ W, Calls Tryd.prog 36 #[.string s, .int .i64 0] W fun e w' => e = .returned (.int .i64 (n : Int)) ∧ Below W.heap.size W w' := fun W => hnc W
  have HNC := Aside0.mk hNC
  have HV := Aside0.mk hv
  have HV1 := Aside0.mk hv1
  have hK := blk_new w (.cells #[.string ⟨#[115, 101, 108, 102]⟩, .string ⟨#[115, 117, 112, 101, 114]⟩, .string ⟨#[110, 105, 108]⟩, .string ⟨#[116, 114, 117, 101]⟩, .string ⟨#[102, 97, 108, 115, 101]⟩] 58 (0, 0))
  have HK := Aside0.mk hK
  have HW : Aside0 (Below w.heap.size w (w.alloc (.cells #[.string ⟨#[115, 101, 108, 102]⟩, .string ⟨#[115, 117, 112, 101, 114]⟩, .string ⟨#[110, 105, 108]⟩, .string ⟨#[116, 114, 117, 101]⟩, .string ⟨#[102, 97, 108, 115, 101]⟩] 58))) := ⟨(Below.refl _ _).alloc (Nat.le_refl _) _⟩
  clear hnc hn hb hc hv hv1 hNC hK
  go_enter Tryd.func21, Tryd.ntmps21
  go_wp2_with fail
  obtain ⟨W, hW⟩ : ∃ W, W = w.alloc (.cells #[.string ⟨#[115, 101, 108, 102]⟩, .string ⟨#[115, 117, 112, 101, 114]⟩, .string ⟨#[110, 105, 108]⟩, .string ⟨#[116, 114, 117, 101]⟩, .string ⟨#[102, 97, 108, 115, 101]⟩] 58) := ⟨_, rfl⟩
  rw [← hW] at HK HW ⊢
  clear hW
  have hcell : ∀ (i : Nat) (x : ByteArray), reservedB[i]? = some x → W.cell? ⟨w.heap.size, i, none⟩ = some (.string x) := by
    intro i x hx
    rw [blk_cell HK.out i]
    match i, hx with
    | 0, hx => cases hx; rfl
    | 1, hx => cases hx; rfl
    | 2, hx => cases hx; rfl
    | 3, hx => cases hx; rfl
    | 4, hx => cases hx; rfl
    | i + 5, hx => simp [reservedB] at hx
  have HCE := Aside0.mk hcell
  clear hcell
  go_loopw [4] (fun v4 wr => ∃ i : Nat, v4 = .int .i64 (i : Int) ∧ i ≤ 5 ∧ Aside0 (wr = W) ∧ Aside0 (∀ j x, j < i → reservedB[j]? = some x → bl s ≠ bl x)) (fun v4 _ => 5 - (intOf v4).toNat)
  case atStart => exact ⟨0, rfl, by omega, ⟨rfl⟩, ⟨fun j x h => by omega⟩⟩
  case round =>
    obtain ⟨i, rfl, hi, HWR, HN⟩ := hrel
    obtain rfl := HWR.out
    clear HWR
    by_cases hlt : i < 5
    · have b1 : decide ((i : Int) < 5) = true := decide_eq_true (by omega)
      obtain ⟨x, hx⟩ : ∃ x, reservedB[i]? = some x := ⟨reservedB[i]'(by simpa [reservedB] using hlt), List.getElem?_eq_getElem (by simpa [reservedB] using hlt)⟩
      have d0 := HCE.out i x hx
      have hw1 : wrap64 ((i : Int) + 1) = (i : Int) + 1 := by unfold wrap64; omega
      have hi1 : (i : Int) < 5 := by omega
      obtain ⟨q, hq2⟩ : ∃ q, (x.toList == s.toList) = q := ⟨_, rfl⟩
      have HX := Aside0.mk hx
      have HQ2 := Aside0.mk hq2
      cases q with
      | true =>
        go_wp2_with fail
        go_ret
        refine ⟨?_, HW.out⟩
        have he : x = s := by
          apply bl_inj
          have := HQ2.out
          rw [toList_eq, toList_eq] at this
          simpa using this
        rw [HV1.out ((reserved_mem s).1 (by rw [← he]; exact List.mem_of_getElem? HX.out))]
        rfl
      | false =>
        go_wp2_with fail
        go_roundw
        case rel =>
          refine ⟨i + 1, by go_num, by omega, ⟨by first | rfl | trivial⟩, ⟨fun j y hj hy => ?_⟩⟩
          by_cases hji : j = i
          · subst hji
            rw [HX.out] at hy; cases hy
            intro e
            have := HQ2.out
            rw [toList_eq, toList_eq, e] at this
            simp at this
          · exact HN.out j y (by omega) hy
        case measure => simp [intOf]; omega
    · obtain rfl : i = 5 := by omega
      have b1 : decide ((5 : Int) < 5) = false := by decide
      have hnr : bl s ∉ reservedL := by
        intro h
        have hm := (reserved_mem s).2 h
        obtain ⟨j, hj, hje⟩ := List.getElem_of_mem hm
        exact HN.out j s (by simpa [reservedB] using hj) (by rw [List.getElem?_eq_getElem hj, hje]) rfl
      have HVV := Aside0.mk (HV.out hnr)
      clear hnr HN
      rcases b with _ | _
      · rcases c with _ | _
        all_goals
          go_wp2_with (go_at_call 36; refine (HNC.out _).mono ?_; rintro e w2 ⟨rfl, hb⟩; have HB := Aside0.mk hb; clear hb)
          go_ret
          exact ⟨by rw [HVV.out]; rfl, below_then HW.out HW.out.size HB.out⟩
      · go_wp2_with fail
        go_ret
        exact ⟨by rw [HVV.out]; rfl, HW.out⟩
theorem sel_op (s : ByteArray) (h0 : 0 < s.size) (hg : isG (s[0]'h0) = true) : selector (bl s) = if signsLen (bl s) = s.size then some 1 else none := by
  have hpos : 0 < signsLen (bl s) := by
    rw [bl_cons s h0]
    simp only [signsLen, hg, if_true]
    split
    · omega
    · split <;> omega
  obtain ⟨hL, _, _⟩ := signs_name hg
  have hnl : nameLen (bl s) = 0 := by rw [bl_cons s h0, nameLen_cons, if_neg (by simp [hL])]
  have hne : bl s ≠ [] := by rw [bl_cons s h0]; simp
  have hS : headS (bl s) = false := by
    rw [headS_at s h0]
    cases h : isS (s[0]'h0) with
    | false => rfl
    | true => rw [headS_L h] at hL; cases hL
  unfold selector
  rw [bl_len]
  by_cases h : signsLen (bl s) = s.size
  · rw [if_pos ⟨hpos, h⟩, if_pos h]
  · rw [if_neg (fun hh => h hh.2), if_neg hne, if_neg (by simp [hS]), if_neg h]
    rw [selLoop, if_neg hne, if_pos (.inl hnl)]
theorem sel_rest (s : ByteArray) (h0 : 0 < s.size) (hg : isG (s[0]'h0) = false) : selector (bl s) = if varCode (bl s) = 0 ∧ headS (bl s) = true then some 0 else selR (bl s) := by
  have hz : signsLen (bl s) = 0 := by rw [bl_cons s h0]; simp [signsLen, hg]
  have hne : bl s ≠ [] := by rw [bl_cons s h0]; simp
  unfold selector
  rw [if_neg (by omega), if_neg hne]
  rfl
theorem headS_drop (s : ByteArray) (p : Nat) (h : p < s.size) : headS ((bl s).drop p) = isS (s[p]'h) := by rw [drop_at s p h]; rfl
set_option maxHeartbeats 4000000 in
set_option maxRecDepth 1000000 in
theorem refSelector_calls (s : ByteArray) (hs : s.size ≤ 281474976710656) (w : World) : Calls Tryd.prog 18 #[.string s] w fun e w' => SelA (selector (bl s)) e ∧ Below w.heap.size w w' := by
  have HW := Aside0.mk (Below.refl w.heap.size w)
  by_cases h0 : 0 < s.size
  · have hne : s.toList.isEmpty = false := by rw [isEmpty_bl, bl_cons s h0]; rfl
    have hop := refOp_calls (s[0]'h0)
    cases hg : isG (s[0]'h0) with
    | true =>
      rw [hg] at hop
      have hsel := sel_op s h0 hg
      have hsg := refSigns_calls s hs 0 (Nat.zero_le _)
      rw [List.drop_zero] at hsg
      obtain ⟨g, eg⟩ : ∃ g, signsLen (bl s) = g := ⟨_, rfl⟩
      rw [eg] at hsel hsg
      rw [Nat.zero_add] at hsg
      have hSG : ∀ W, Calls Tryd.prog 34 #[.string s, .int .i64 0] W fun e w' => e = .returned (.int .i64 (g : Int)) ∧ Below W.heap.size W w' := fun W => hsg W
      have HSG := Aside0.mk hSG
      have HSEL := Aside0.mk hsel
      have HOP := Aside0.mk hop
      clear hSG hsg hsel hop eg hg
      by_cases hgs : g = s.size
      · have hq : ((g : Int) != (s.size : Int)) = false := by rw [hgs]; simp
        go_enter Tryd.func18, Tryd.ntmps18
        go_wp2_with (first
          | (go_at_call 33; refine (HOP.out _).mono ?_; rintro e w1 ⟨rfl, hb⟩; replace HW := Aside0.mk (below_then HW.out HW.out.size hb); clear hb)
          | (go_at_call 34; refine (HSG.out _).mono ?_; rintro e w1 ⟨rfl, hb⟩; replace HW := Aside0.mk (below_then HW.out HW.out.size hb); clear hb))
        go_ret2
        refine ⟨?_, HW.out⟩
        rw [HSEL.out, if_pos hgs]; rfl
      · have hq : ((g : Int) != (s.size : Int)) = true := by simp; omega
        go_enter Tryd.func18, Tryd.ntmps18
        go_wp2_with (first
          | (go_at_call 33; refine (HOP.out _).mono ?_; rintro e w1 ⟨rfl, hb⟩; replace HW := Aside0.mk (below_then HW.out HW.out.size hb); clear hb)
          | (go_at_call 34; refine (HSG.out _).mono ?_; rintro e w1 ⟨rfl, hb⟩; replace HW := Aside0.mk (below_then HW.out HW.out.size hb); clear hb))
        go_ret2
        refine ⟨?_, HW.out⟩
        rw [HSEL.out, if_neg hgs]; rfl
    | false =>
      rw [hg] at hop
      have hsel := sel_rest s h0 hg
      have hvc := refVariable_calls s hs
      obtain ⟨vc, hvcq⟩ : ∃ v, varCode (bl s) = v := ⟨_, rfl⟩
      have hsm := refSmall_calls (s[0]'h0)
      rw [← headS_at s h0] at hsm
      obtain ⟨hb, hhb⟩ : ∃ v, headS (bl s) = v := ⟨_, rfl⟩
      rw [hvcq] at hsel hvc
      rw [hhb] at hsel hsm
      have HVC := Aside0.mk hvc
      have HSM := Aside0.mk hsm
      have HOP := Aside0.mk hop
      by_cases hv : vc = 0 ∧ hb = true
      · have hz : (vc == 0) = true := by simpa using hv.1
        have HSEL : Aside0 (selector (bl s) = some 0) := ⟨by rw [hsel, if_pos hv]⟩
        obtain ⟨_, rfl⟩ := hv
        clear hvc hsm hop hsel hvcq hhb hg
        go_enter Tryd.func18, Tryd.ntmps18
        go_wp2_with (first
          | (go_at_call 33; refine (HOP.out _).mono ?_; rintro e w1 ⟨rfl, hb⟩; replace HW := Aside0.mk (below_then HW.out HW.out.size hb); clear hb)
          | (go_at_call 21; refine (HVC.out _).mono ?_; rintro e w1 ⟨rfl, hb⟩; replace HW := Aside0.mk (below_then HW.out HW.out.size hb); clear hb)
          | (go_at_call 35; refine (HSM.out _).mono ?_; rintro e w1 ⟨rfl, hb⟩; replace HW := Aside0.mk (below_then HW.out HW.out.size hb); clear hb))
        go_ret2
        refine ⟨?_, HW.out⟩
        rw [HSEL.out]; rfl
      · obtain ⟨TT, hTT⟩ : ∃ T, selR (bl s) = T := ⟨_, rfl⟩
        have HSEL : Aside0 (selector (bl s) = TT) := ⟨by rw [hsel, if_neg hv, hTT]⟩
        have HT0 : Aside0 (TT = (selR ((bl s).drop 0)).map (· + 0)) := ⟨by rw [List.drop_zero, hTT]; cases TT <;> rfl⟩
        have kz : (vc == 0) = false ∨ ((vc == 0) = true ∧ hb = false) := by
          by_cases h1 : vc = 0
          · refine .inr ⟨by simpa using h1, ?_⟩
            cases hb with
            | false => rfl
            | true => exact absurd ⟨h1, rfl⟩ hv
          · exact .inl (by simpa using h1)
        clear hvc hsm hop hsel hvcq hhb hg hTT hv
        rcases kz with hz | ⟨hz, rfl⟩
        all_goals
          go_enter Tryd.func18, Tryd.ntmps18
          go_wp2_with (first
            | (go_at_call 33; refine (HOP.out _).mono ?_; rintro e w1 ⟨rfl, hb⟩; replace HW := Aside0.mk (below_then HW.out HW.out.size hb); clear hb)
            | (go_at_call 21; refine (HVC.out _).mono ?_; rintro e w1 ⟨rfl, hb⟩; replace HW := Aside0.mk (below_then HW.out HW.out.size hb); clear hb)
            | (go_at_call 35; refine (HSM.out _).mono ?_; rintro e w1 ⟨rfl, hb⟩; replace HW := Aside0.mk (below_then HW.out HW.out.size hb); clear hb))
          have HW0 := HW
          clear HW hne hz HVC HSM HOP
          go_loopw [4, 5] (fun v4 v5 wr => ∃ (a p : Nat), v4 = .int .i64 (a : Int) ∧ v5 = .int .i64 (p : Int) ∧ a ≤ p ∧ p ≤ s.size ∧ Aside0 (TT = (selR ((bl s).drop p)).map (· + a)) ∧ Aside0 (Below w.heap.size w wr)) (fun _ v5 _ => s.size - (intOf v5).toNat)
          case atStart => exact ⟨0, 0, rfl, rfl, by omega, by omega, HT0, HW0⟩
          case round =>
            clear HT0 HW0
            obtain ⟨a, p, rfl, rfl, hap, hp, HT, HW⟩ := hrel
            by_cases hlt : p < s.size
            · have b1 : decide ((p : Int) < (s.size : Int)) = true := decide_eq_true (by omega)
              have hpi : (p : Int) < (s.size : Int) := by omega
              have hqn : (bl s).drop p ≠ [] := by rw [drop_at s p hlt]; simp
              have hnl := nameLen_le ((bl s).drop p)
              have hst := selR_step _ hqn
              have hh := headS_drop s p hlt
              have hnc := refName_calls s hs p hp
              obtain ⟨m, hm⟩ : ∃ m, nameLen ((bl s).drop p) = m := ⟨_, rfl⟩
              rw [hm] at hnl hst hnc
              rw [List.length_drop, bl_len] at hnl
              rw [List.getElem?_drop, List.drop_drop] at hst
              have hNC : ∀ W, Calls Tryd.prog 36 #[.string s, .int .i64 (p : Int)] W fun e w' => e = .returned (.int .i64 ((p : Int) + (m : Int))) ∧ Below W.heap.size W w' := fun W => by have := hnc W; rwa [Int.natCast_add] at this
              have hsm := refSmall_calls (s[p]'hlt)
              rw [← hh] at hsm
              have hIS : ∀ W, Calls Tryd.prog 37 #[.string s, .int .i64 ((p : Int) + (m : Int)), .int .u8 58] W fun e w' => e = .returned (.bool ((bl s)[p + m]? == some 58)) ∧ Below W.heap.size W w' := fun W => by have := refIs_calls s (p + m) 58 W; rwa [Int.natCast_add] at this
              obtain ⟨hb, hhb⟩ : ∃ b, headS ((bl s).drop p) = b := ⟨_, rfl⟩
              obtain ⟨cb, hcb⟩ : ∃ b, ((bl s)[p + m]? == some 58) = b := ⟨_, rfl⟩
              rw [hhb] at hsm
              rw [hcb] at hIS
              have HST := Aside0.mk hst
              have HNC := Aside0.mk hNC
              have HSM := Aside0.mk hsm
              have HIS := Aside0.mk hIS
              have HCB := Aside0.mk hcb
              have HHB := Aside0.mk hhb
              clear hst hnc hNC hsm hIS hcb hhb hh hm hqn
              by_cases hm0 : m = 0
              · subst hm0
                have hz : ((p : Int) + (0 : Int) == (p : Int)) = true := by simp
                go_wp2_with (go_at_call 36; refine (HNC.out _).mono ?_; rintro e w2 ⟨rfl, hb⟩; replace HW := Aside0.mk (below_then HW.out HW.out.size hb); clear hb)
                go_ret2
                refine ⟨?_, HW.out⟩
                rw [HSEL.out, HT.out, HST.out, if_pos (.inl (by trivial))]
                rfl
              · have hz : ((p : Int) + (m : Int) == (p : Int)) = false := by simp; omega
                rcases hb with _ | _
                · go_wp2_with (first
                    | (go_at_call 36; refine (HNC.out _).mono ?_; rintro e w2 ⟨rfl, hb⟩; replace HW := Aside0.mk (below_then HW.out HW.out.size hb); clear hb)
                    | (go_at_call 35; refine (HSM.out _).mono ?_; rintro e w2 ⟨rfl, hb⟩; replace HW := Aside0.mk (below_then HW.out HW.out.size hb); clear hb))
                  go_ret2
                  refine ⟨?_, HW.out⟩
                  rw [HSEL.out, HT.out, HST.out, if_pos (.inr (.inl HHB.out))]
                  rfl
                · rcases cb with _ | _
                  · go_wp2_with (first
                      | (go_at_call 36; refine (HNC.out _).mono ?_; rintro e w2 ⟨rfl, hb⟩; replace HW := Aside0.mk (below_then HW.out HW.out.size hb); clear hb)
                      | (go_at_call 35; refine (HSM.out _).mono ?_; rintro e w2 ⟨rfl, hb⟩; replace HW := Aside0.mk (below_then HW.out HW.out.size hb); clear hb)
                      | (go_at_call 37; refine (HIS.out _).mono ?_; rintro e w2 ⟨rfl, hb⟩; replace HW := Aside0.mk (below_then HW.out HW.out.size hb); clear hb))
                    go_ret2
                    refine ⟨?_, HW.out⟩
                    have hne58 : (bl s)[p + m]? ≠ some 58 := by have := HCB.out; simpa using this
                    rw [HSEL.out, HT.out, HST.out, if_pos (.inr (.inr hne58))]
                    rfl
                  · have h58 : (bl s)[p + m]? = some 58 := by have := HCB.out; simpa using this
                    have hlt2 : p + m < s.size := by have := (List.getElem?_eq_some_iff.1 h58).1; rw [bl_len] at this; exact this
                    have H58 := Aside0.mk h58
                    clear h58
                    have hw1 : wrap64 ((p : Int) + (m : Int) + 1) = (p : Int) + (m : Int) + 1 := by unfold wrap64; omega
                    have hw2 : wrap64 ((a : Int) + 1) = (a : Int) + 1 := by unfold wrap64; omega
                    go_wp2_with (first
                      | (go_at_call 36; refine (HNC.out _).mono ?_; rintro e w2 ⟨rfl, hb⟩; replace HW := Aside0.mk (below_then HW.out HW.out.size hb); clear hb)
                      | (go_at_call 35; refine (HSM.out _).mono ?_; rintro e w2 ⟨rfl, hb⟩; replace HW := Aside0.mk (below_then HW.out HW.out.size hb); clear hb)
                      | (go_at_call 37; refine (HIS.out _).mono ?_; rintro e w2 ⟨rfl, hb⟩; replace HW := Aside0.mk (below_then HW.out HW.out.size hb); clear hb))
                    go_roundw
                    case rel =>
                      refine ⟨a + 1, p + m + 1, by go_num, by go_num, by omega, by omega, ⟨?_⟩, HW⟩
                      rw [HT.out, HST.out, if_neg (by simp [hm0, HHB.out, H58.out]), Option.map_map, Nat.add_assoc p m 1]
                      congr 1
                      funext x
                      simp only [Function.comp]
                      omega
                    case measure => simp [intOf]; omega
            · obtain rfl : p = s.size := by omega
              have b1 : decide ((s.size : Int) < (s.size : Int)) = false := by simp
              go_wp2_with fail
              go_ret2
              refine ⟨?_, HW.out⟩
              rw [HSEL.out, HT.out, List.drop_eq_nil_of_le (by rw [bl_len]; exact Nat.le_refl _)]
              show _ = _
              simp [selR, selLoop]
  · have hl : bl s = [] := List.eq_nil_of_length_eq_zero (by rw [bl_len]; omega)
    have hne : s.toList.isEmpty = true := by rw [isEmpty_bl, hl]; rfl
    have HSEL : Aside0 (selector (bl s) = none) := ⟨by rw [hl]; rfl⟩
    clear hl
    go_enter Tryd.func18, Tryd.ntmps18
    go_wp2_with fail
    go_ret2
    refine ⟨?_, HW.out⟩
    rw [HSEL.out]; rfl
end Go.Proofs.YtjibdaigclgmhaaDoor.LexW
