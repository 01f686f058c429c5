/- The program's reading of tokens, walked: each function's answer in plain words. Conditions: those that each theorem states. -/
import Derived.Test.YtjibdaigclgmhaaDoorLexC
namespace Go.Proofs.YtjibdaigclgmhaaDoor.LexW
open Go.RowKit Go.Maps Go.Proofs.YtjibdaigclgmhaaDoor.Lex Go.Proofs.YtjibdaigclgmhaaDoor.PLexTokens Go.Proofs.YtjibdaigclgmhaaDoorW.PrintWords Go.Proofs.YtjibdaigclgmhaaDoorW.PrintLast Go.Proofs.YtjibdaigclgmhaaDoorW.PrintMore
attribute [local go_sem] max2_int min2_int max_two min_two max_three min_three max_four min_four
set_option linter.unusedVariables false
set_option linter.unusedSimpArgs false
set_option maxHeartbeats 4000000 in
set_option maxRecDepth 100000 in
theorem readOther_calls (s : ByteArray) (w : World) : Calls Tryd.prog 66 #[.string s] w fun e w' => Ans none e ∧ Below w.heap.size w w' := by
  go_enter Tryd.func66, Tryd.ntmps66
  go_wp2
  exact tok_ret0 rfl w _ _ _ _ _ _ _ ((Below.refl _ _).alloc (Nat.le_refl _) _) (blk_new w (.cells #[.int .i64 0, .string ⟨#[]⟩, .int .i64 0, .int .i64 0] 42 (0, 0))) rfl ⟨⟨0, [], 0⟩, 0, rfl⟩
def more (x : List UInt8) : Nat := symMore x.length x
theorem symMore_fuel (x : List UInt8) (f : Nat) (h : x.length ≤ f) : symMore f x = more x := by
  have := symMore_cut x.length x x.length [] f brk_nil (fun j hj h58 h61 => by
    rw [List.getElem?_eq_none (by omega)] at h61; cases h61) (symMore_le _ _) (Nat.le_refl _) (Nat.le_refl _) h
  simpa [more] using this
theorem more_step (x : List UInt8) : more x = if 0 < nameLen x && colon (x.drop (nameLen x)) then nameLen x + 1 + more (x.drop (nameLen x + 1)) else 0 := by
  cases x with
  | nil => rfl
  | cons c r =>
    rw [more, List.length_cons, symMore]
    split
    · rw [symMore_fuel _ _ (by rw [List.length_drop, List.length_cons]; omega)]
    · rfl
theorem symLen_more (x : List UInt8) : symLen x = if 0 < signsLen x then signsLen x else if 0 < nameLen x && colon (x.drop (nameLen x)) then nameLen x + 1 + more (x.drop (nameLen x + 1)) else nameLen x := by
  unfold symLen
  rw [symMore_fuel _ _ (by rw [List.length_drop]; omega)]
theorem bl_from (R : ByteArray) (m : Nat) : bl (R.extract m R.size) = (bl R).drop m := by
  rw [bl_extract, List.take_of_length_le (by rw [List.length_drop, bl_len]; omega)]
theorem colon_at (R : ByteArray) (m : Nat) (w : World) : Calls Tryd.prog 79 #[.string (R.extract m R.size)] w fun e w' => e = .returned (.bool (colon ((bl R).drop m))) ∧ Below w.heap.size w w' := by
  have := colon_calls (R.extract m R.size) w
  rwa [bl_from] at this
theorem nameLen_at (R : ByteArray) (m : Nat) (w : World) : Calls Tryd.prog 31 #[.string (R.extract m R.size)] w fun e w' => e = .returned (.int .i64 (nameLen ((bl R).drop m) : Int)) ∧ Below w.heap.size w w' := by
  have := nameLen_calls (R.extract m R.size) w
  rwa [bl_from] at this
structure HashC (s R : ByteArray) : Prop where
  one : 1 ≤ s.size
  rest : s.extract 1 s.size = R
  room : R.size ≤ 281474976710656
  pre : Lib.hasPrefix (bl s) [35, 40] = false
  tok : tok (bl s) = if 0 < symLen (bl R) then some (⟨5, (bl R).take (symLen (bl R)), 0⟩, symLen (bl R) + 1) else none
set_option maxHeartbeats 4000000 in
set_option maxRecDepth 100000 in
theorem readHash_b (s R : ByteArray) (C : HashC s R) (g : Nat) (eg : signsLen (bl R) = g) (hg0 : 0 < g) (w : World) : Calls Tryd.prog 69 #[.string s] w fun e w' => Ans (tok (bl s)) e ∧ Below w.heap.size w w' := by
  have hs1 := C.one
  have hR := C.rest
  have hRs := C.room
  have HP := Aside0.mk C.pre
  have HT := Aside0.mk C.tok
  have HSY := Aside0.mk (symLen_more (bl R))
  have hW : Below w.heap.size w (w.alloc (.cells #[.int .i64 0, .string ⟨#[]⟩, .int .i64 0, .int .i64 0] 42)) := (Below.refl _ _).alloc (Nat.le_refl _) _
  have hK := blk_new w (.cells #[.int .i64 0, .string ⟨#[]⟩, .int .i64 0, .int .i64 0] 42 (0, 0))
  have HW := Aside0.mk hW
  have HK := Aside0.mk hK
  clear hW hK C
  have hg := signsLen_calls R
  have hgl := (signsLen_le (bl R)).1
  rw [bl_len, eg] at hgl
  rw [eg] at hg
  have HG := Aside0.mk hg
  have HEG := Aside0.mk eg
  clear hg eg
  have hz : ((g : Int) == 0) = false := by simp; omega
  go_enter Tryd.func69, Tryd.ntmps69
  go_wp2_with (first
    | (go_at_call 32; refine (Tryd.strings_HasPrefix _ _ _).mono ?_; rintro e w' ⟨rfl, rfl⟩; rw [show Lib.hasPrefix s.data.toList _ = _ from HP.out])
    | (go_at_call 29; refine (HG.out _).mono ?_; rintro e w1 ⟨rfl, hb⟩; replace HW := Aside0.mk (below_then HW.out HW.out.size hb); replace HK := Aside0.mk (blk_below HK.out hb); clear hb; have d0 := blk_cell HK.out 0; have d1 := blk_cell HK.out 1; have d2 := blk_cell HK.out 2; have d3 := blk_cell HK.out 3; have f0 := fun i => blk_frozen HK.out i))
  refine tok_ret rfl w _ _ _ _ _ _ _ _ _ _ _ HW.out HK.out rfl ?_
  have hsy := HSY.out
  rw [HEG.out, if_pos hg0] at hsy
  rw [HT.out, hsy, if_pos hg0]
  have hx : R.extract 0 g = ⟨((bl R).take g).toArray⟩ := by rw [ext_eq]; simp
  show _ = _
  rw [hx]
  have e1 : (1 : Int) + (g : Int) = ((g + 1 : Nat) : Int) := by omega
  simp [tokV, e1]
set_option maxHeartbeats 4000000 in
set_option maxRecDepth 100000 in
theorem readHash_c (s R : ByteArray) (C : HashC s R) (eg : signsLen (bl R) = 0) (en : nameLen (bl R) = 0) (w : World) : Calls Tryd.prog 69 #[.string s] w fun e w' => Ans (tok (bl s)) e ∧ Below w.heap.size w w' := by
  have hs1 := C.one
  have hR := C.rest
  have hRs := C.room
  have HP := Aside0.mk C.pre
  have HT := Aside0.mk C.tok
  have HSY := Aside0.mk (symLen_more (bl R))
  have hW : Below w.heap.size w (w.alloc (.cells #[.int .i64 0, .string ⟨#[]⟩, .int .i64 0, .int .i64 0] 42)) := (Below.refl _ _).alloc (Nat.le_refl _) _
  have hK := blk_new w (.cells #[.int .i64 0, .string ⟨#[]⟩, .int .i64 0, .int .i64 0] 42 (0, 0))
  have HW := Aside0.mk hW
  have HK := Aside0.mk hK
  clear hW hK C
  have hg := signsLen_calls R
  have hn := nameLen_calls R
  have hnl := nameLen_le (bl R)
  rw [bl_len, en] at hnl
  rw [eg] at hg
  rw [en] at hn
  have HG := Aside0.mk hg
  have HN := Aside0.mk hn
  have HEG := Aside0.mk eg
  have HEN := Aside0.mk en
  clear hg hn eg en
  go_enter Tryd.func69, Tryd.ntmps69
  go_wp2_with (first
    | (go_at_call 32; refine (Tryd.strings_HasPrefix _ _ _).mono ?_; rintro e w' ⟨rfl, rfl⟩; rw [show Lib.hasPrefix s.data.toList _ = _ from HP.out])
    | (go_at_call 29; refine (HG.out _).mono ?_; rintro e w1 ⟨rfl, hb⟩; replace HW := Aside0.mk (below_then HW.out HW.out.size hb); replace HK := Aside0.mk (blk_below HK.out hb); clear hb)
    | (go_at_call 31; with_reducible refine (HN.out _).mono ?_; rintro e w2 ⟨rfl, hb⟩; replace HW := Aside0.mk (below_then HW.out HW.out.size hb); replace HK := Aside0.mk (blk_below HK.out hb); clear hb; have d0 := blk_cell HK.out 0; have d1 := blk_cell HK.out 1; have d2 := blk_cell HK.out 2; have d3 := blk_cell HK.out 3; have f0 := fun i => blk_frozen HK.out i))
  refine tok_ret rfl w _ _ _ _ _ _ _ _ _ _ _ HW.out HK.out rfl ?_
  have hsy := HSY.out
  rw [HEG.out, HEN.out, if_neg (by omega), if_neg (by simp)] at hsy
  rw [HT.out, hsy, if_neg (by omega)]
  refine ⟨⟨5, [], 0⟩, 1, ?_⟩
  rfl
set_option maxHeartbeats 4000000 in
set_option maxRecDepth 100000 in
theorem readHash_d (s R : ByteArray) (C : HashC s R) (n : Nat) (eg : signsLen (bl R) = 0) (en : nameLen (bl R) = n) (hn0 : 0 < n) (hc : colon ((bl R).drop n) = false) (w : World) : Calls Tryd.prog 69 #[.string s] w fun e w' => Ans (tok (bl s)) e ∧ Below w.heap.size w w' := by
  have hs1 := C.one
  have hR := C.rest
  have hRs := C.room
  have HP := Aside0.mk C.pre
  have HT := Aside0.mk C.tok
  have HSY := Aside0.mk (symLen_more (bl R))
  have hW : Below w.heap.size w (w.alloc (.cells #[.int .i64 0, .string ⟨#[]⟩, .int .i64 0, .int .i64 0] 42)) := (Below.refl _ _).alloc (Nat.le_refl _) _
  have hK := blk_new w (.cells #[.int .i64 0, .string ⟨#[]⟩, .int .i64 0, .int .i64 0] 42 (0, 0))
  have HW := Aside0.mk hW
  have HK := Aside0.mk hK
  clear hW hK C
  have hg := signsLen_calls R
  have hn := nameLen_calls R
  have hnl := nameLen_le (bl R)
  rw [bl_len, en] at hnl
  rw [eg] at hg
  rw [en] at hn
  have HG := Aside0.mk hg
  have HN := Aside0.mk hn
  have HEG := Aside0.mk eg
  have HEN := Aside0.mk en
  clear hg hn eg en
  have HCA := Aside0.mk (colon_at R n)
  have HC := Aside0.mk hc
  clear hc
  have hn1 : decide ((0 : Int) < (n : Int)) = true := by simp; omega
  go_enter Tryd.func69, Tryd.ntmps69
  go_wp2_with (first
    | (go_at_call 32; refine (Tryd.strings_HasPrefix _ _ _).mono ?_; rintro e w' ⟨rfl, rfl⟩; rw [show Lib.hasPrefix s.data.toList _ = _ from HP.out])
    | (go_at_call 29; refine (HG.out _).mono ?_; rintro e w1 ⟨rfl, hb⟩; replace HW := Aside0.mk (below_then HW.out HW.out.size hb); replace HK := Aside0.mk (blk_below HK.out hb); clear hb)
    | (go_at_call 31; with_reducible refine (HN.out _).mono ?_; rintro e w2 ⟨rfl, hb⟩; replace HW := Aside0.mk (below_then HW.out HW.out.size hb); replace HK := Aside0.mk (blk_below HK.out hb); clear hb)
    | (go_at_call 79; with_reducible refine (HCA.out _).mono ?_; rintro e w3 ⟨rfl, hb⟩; rw [HC.out]; replace HW := Aside0.mk (below_then HW.out HW.out.size hb); replace HK := Aside0.mk (blk_below HK.out hb); clear hb; have d0 := blk_cell HK.out 0; have d1 := blk_cell HK.out 1; have d2 := blk_cell HK.out 2; have d3 := blk_cell HK.out 3; have f0 := fun i => blk_frozen HK.out i))
  refine tok_ret rfl w _ _ _ _ _ _ _ _ _ _ _ HW.out HK.out rfl ?_
  have hsy := HSY.out
  rw [HEG.out, HEN.out, if_neg (by omega), if_neg (by simp [HC.out])] at hsy
  rw [HT.out, hsy, if_pos hn0]
  have hx : R.extract 0 n = ⟨((bl R).take n).toArray⟩ := by rw [ext_eq]; simp
  show _ = _
  rw [hx]
  have e1 : (1 : Int) + (n : Int) = ((n + 1 : Nat) : Int) := by omega
  simp [tokV, e1]
set_option maxHeartbeats 600000 in
set_option maxRecDepth 100000 in
theorem readHash_e (s R : ByteArray) (C : HashC s R) (n : Nat) (eg : signsLen (bl R) = 0) (en : nameLen (bl R) = n) (hn0 : 0 < n) (hc : colon ((bl R).drop n) = true) (w : World) : Calls Tryd.prog 69 #[.string s] w fun e w' => Ans (tok (bl s)) e ∧ Below w.heap.size w w' := by
  have hs1 := C.one
  have hR := C.rest
  have hRs := C.room
  have HP := Aside0.mk C.pre
  have HT := Aside0.mk C.tok
  have HSY := Aside0.mk (symLen_more (bl R))
  have hW : Below w.heap.size w (w.alloc (.cells #[.int .i64 0, .string ⟨#[]⟩, .int .i64 0, .int .i64 0] 42)) := (Below.refl _ _).alloc (Nat.le_refl _) _
  have hK := blk_new w (.cells #[.int .i64 0, .string ⟨#[]⟩, .int .i64 0, .int .i64 0] 42 (0, 0))
  have HW := Aside0.mk hW
  have HK := Aside0.mk hK
  clear hW hK C
  have hg := signsLen_calls R
  have hn := nameLen_calls R
  have hnl := nameLen_le (bl R)
  rw [bl_len, en] at hnl
  rw [eg] at hg
  rw [en] at hn
  have HG := Aside0.mk hg
  have HN := Aside0.mk hn
  have HEG := Aside0.mk eg
  have HEN := Aside0.mk en
  clear hg hn eg en
  have HCA := Aside0.mk (colon_at R n)
  have hcp := colon_pos hc
  rw [bl_len] at hcp
  have HC := Aside0.mk hc
  clear hc
  have HNA := Aside0.mk (nameLen_at R (n + 1))
  have hn1 : decide ((0 : Int) < (n : Int)) = true := by simp; omega
  have hw1 : wrap64 ((n : Int) + 1) = ((n + 1 : Nat) : Int) := by unfold wrap64; omega
  go_enter Tryd.func69, Tryd.ntmps69
  go_wp2_with (first
    | (go_at_call 32; refine (Tryd.strings_HasPrefix _ _ _).mono ?_; rintro e w' ⟨rfl, rfl⟩; rw [show Lib.hasPrefix s.data.toList _ = _ from HP.out])
    | (go_at_call 29; refine (HG.out _).mono ?_; rintro e w1 ⟨rfl, hb⟩; replace HW := Aside0.mk (below_then HW.out HW.out.size hb); replace HK := Aside0.mk (blk_below HK.out hb); clear hb)
    | (go_at_call 31; with_reducible refine (HNA.out _).mono ?_; rintro e w4 ⟨rfl, hb⟩; replace HW := Aside0.mk (below_then HW.out HW.out.size hb); replace HK := Aside0.mk (blk_below HK.out hb); clear hb)
    | (go_at_call 31; with_reducible refine (HN.out _).mono ?_; rintro e w2 ⟨rfl, hb⟩; replace HW := Aside0.mk (below_then HW.out HW.out.size hb); replace HK := Aside0.mk (blk_below HK.out hb); clear hb)
    | (go_at_call 79; with_reducible refine (HCA.out _).mono ?_; rintro e w3 ⟨rfl, hb⟩; rw [HC.out]; replace HW := Aside0.mk (below_then HW.out HW.out.size hb); replace HK := Aside0.mk (blk_below HK.out hb); clear hb))
  have hm0 : n + 1 + more ((bl R).drop (n + 1)) = symLen (bl R) := by
    have hsy := HSY.out
    rw [HEG.out, HEN.out, if_neg (by omega), if_pos (by simp [HC.out, hn0])] at hsy
    exact hsy.symm
  have HM0 := Aside0.mk hm0
  have HKK := HK
  have HWW := HW
  clear hm0 HK HW HNA HCA HC
  go_loopw [6, 7] (fun v6 v7 wr => ∃ m : Nat, v6 = .int .i64 (m : Int) ∧ v7 = .int .i64 (nameLen ((bl R).drop m) : Int) ∧ 0 < m ∧ m ≤ R.size ∧ Aside0 (m + more ((bl R).drop m) = symLen (bl R)) ∧ Aside0 (Below w.heap.size w wr) ∧ Aside0 (wr.heap[w.heap.size]? = some (.cells #[.int .i64 0, .string ⟨#[]⟩, .int .i64 0, .int .i64 0] 42 (0, 0)))) (fun v6 _ _ => R.size - (intOf v6).toNat)
  case atStart => exact ⟨n + 1, rfl, rfl, by omega, by omega, HM0, HWW, HKK⟩
  case round =>
    obtain ⟨m, rfl, rfl, hm1, hm2, HM, HW, HK⟩ := hrel
    obtain ⟨k, hk⟩ : ∃ k, nameLen ((bl R).drop m) = k := ⟨_, rfl⟩
    rw [hk]
    have hst := more_step ((bl R).drop m)
    rw [hk, List.drop_drop, List.drop_drop] at hst
    have hkl := nameLen_le ((bl R).drop m)
    rw [hk, List.length_drop, bl_len] at hkl
    by_cases hk0 : 0 < k
    · have hk1 : decide ((0 : Int) < (k : Int)) = true := by simp; omega
      have hb1 : (m : Int) + (k : Int) ≤ (R.size : Int) := by omega
      have hb2 : m + k ≤ R.size := by omega
      have hw2 : wrap64 ((m : Int) + (k : Int)) = (m : Int) + (k : Int) := by unfold wrap64; omega
      have HCA := Aside0.mk (colon_at R (m + k))
      have HNA := Aside0.mk (nameLen_at R (m + (k + 1)))
      obtain ⟨c, hc⟩ : ∃ c, colon ((bl R).drop (m + k)) = c := ⟨_, rfl⟩
      rw [hc] at hst
      cases c with
      | false =>
        have HC := Aside0.mk hc
        have HST := Aside0.mk hst
        clear hc hst hk
        go_wp2_with (go_at_call 79; with_reducible refine (HCA.out _).mono ?_; rintro e w3 ⟨rfl, hb⟩; rw [HC.out]; replace HW := Aside0.mk (below_then HW.out HW.out.size hb); replace HK := Aside0.mk (blk_below HK.out hb); clear hb; have d0 := blk_cell HK.out 0; have d1 := blk_cell HK.out 1; have d2 := blk_cell HK.out 2; have d3 := blk_cell HK.out 3; have f0 := fun i => blk_frozen HK.out i)
        refine tok_ret rfl w _ _ _ _ _ _ _ _ _ _ _ HW.out HK.out rfl ?_
        have hst := HST.out
        rw [if_neg (by simp)] at hst
        have hsy : symLen (bl R) = m := by rw [← HM.out, hst]; rfl
        rw [HT.out, hsy, if_pos hm1]
        have hx : R.extract 0 m = ⟨((bl R).take m).toArray⟩ := by rw [ext_eq]; simp
        show _ = _
        rw [hx]
        have e1 : (1 : Int) + (m : Int) = ((m + 1 : Nat) : Int) := by omega
        simp [tokV, e1]
      | true =>
        have hcp := colon_pos hc
        rw [bl_len] at hcp
        have HC := Aside0.mk hc
        have HST := Aside0.mk hst
        clear hc hst hk
        have hb3 : (m : Int) + ((k : Int) + 1) ≤ (R.size : Int) := by omega
        have hb4 : m + (k + 1) ≤ R.size := by omega
        have hw4 : wrap64 ((k : Int) + 1) = (k : Int) + 1 := by unfold wrap64; omega
        have hw5 : wrap64 ((m : Int) + ((k : Int) + 1)) = (m : Int) + ((k : Int) + 1) := by unfold wrap64; omega
        go_wp2_with (first
          | (go_at_call 79; with_reducible refine (HCA.out _).mono ?_; rintro e w3 ⟨rfl, hb⟩; rw [HC.out]; replace HW := Aside0.mk (below_then HW.out HW.out.size hb); replace HK := Aside0.mk (blk_below HK.out hb); clear hb)
          | (go_at_call 31; with_reducible refine (HNA.out _).mono ?_; rintro e w4 ⟨rfl, hb⟩; replace HW := Aside0.mk (below_then HW.out HW.out.size hb); replace HK := Aside0.mk (blk_below HK.out hb); clear hb))
        go_roundw
        case rel =>
          refine ⟨m + (k + 1), by go_num, rfl, by omega, hb4, ⟨?_⟩, HW, HK⟩
          have hst := HST.out
          rw [if_pos (by simp [hk0])] at hst
          have h1 := HM.out
          rw [hst] at h1
          rw [← Nat.add_assoc] at h1
          exact h1
        case measure => simp [intOf]; omega
    · obtain rfl : k = 0 := by omega
      have HST := Aside0.mk hst
      clear hst
      have d0 := blk_cell HK.out 0
      have d1 := blk_cell HK.out 1
      have d2 := blk_cell HK.out 2
      have d3 := blk_cell HK.out 3
      have f0 := fun i => blk_frozen HK.out i
      go_wp2_with fail
      refine tok_ret rfl w _ _ _ _ _ _ _ _ _ _ _ HW.out HK.out rfl ?_
      have hst := HST.out
      rw [if_neg (by simp)] at hst
      have hsy : symLen (bl R) = m := by rw [← HM.out, hst]; rfl
      rw [HT.out, hsy, if_pos hm1]
      have hx : R.extract 0 m = ⟨((bl R).take m).toArray⟩ := by rw [ext_eq]; simp
      show _ = _
      rw [hx]
      have e1 : (1 : Int) + (m : Int) = ((m + 1 : Nat) : Int) := by omega
      simp [tokV, e1]
set_option maxHeartbeats 4000000 in
set_option maxRecDepth 100000 in
theorem readHash_a (s : ByteArray) (hp : Lib.hasPrefix (bl s) [35, 40] = true) (ht : tok (bl s) = some (⟨7, [], 0⟩, 2)) (w : World) : Calls Tryd.prog 69 #[.string s] w fun e w' => Ans (tok (bl s)) e ∧ Below w.heap.size w w' := by
  have HP := Aside0.mk hp
  have HT := Aside0.mk ht
  clear hp ht
  go_enter Tryd.func69, Tryd.ntmps69
  go_wp2_with (go_at_call 32; refine (Tryd.strings_HasPrefix _ _ _).mono ?_; rintro e w' ⟨rfl, rfl⟩; rw [show Lib.hasPrefix s.data.toList _ = _ from HP.out])
  refine tok_ret0 rfl w _ _ _ _ _ _ _ ((Below.refl _ _).alloc (Nat.le_refl _) _) (blk_new w (.cells #[.int .i64 7, .string ⟨#[]⟩, .int .i64 0, .int .i64 0] 42 (0, 0))) rfl ?_
  rw [HT.out]
  rfl
theorem readHash_calls (s : ByteArray) (hs : s.size ≤ 281474976710656) (h0 : 0 < s.size) (hk : cls (s[0]'h0) = 3) (w : World) : Calls Tryd.prog 69 #[.string s] w fun e w' => Ans (tok (bl s)) e ∧ Below w.heap.size w w' := by
  have hcc := cls_cases _ _ hk (by omega)
  simp at hcc
  obtain ⟨a1, a2, a3⟩ := hcc
  have hr : bl (s.extract 1 s.size) = (bl s).drop 1 := bl_from s 1
  have hrs : (s.extract 1 s.size).size = s.size - 1 := by rw [← bl_len, hr, List.length_drop, bl_len]
  have ht : tok (bl s) = if Lib.hasPrefix (bl s) [35, 40] then some (⟨7, [], 0⟩, 2) else if 0 < symLen (bl (s.extract 1 s.size)) then some (⟨5, (bl (s.extract 1 s.size)).take (symLen (bl (s.extract 1 s.size))), 0⟩, symLen (bl (s.extract 1 s.size)) + 1) else none := by
    rw [hasP2, hr, bl_cons s h0, tok, if_neg (by simp [a1]), if_neg (by simp [a2]), if_pos a3, a3]
    simp only [List.getElem?_cons_zero, List.getElem?_cons_succ, beq_self_eq_true, Bool.true_and, beq_iff_eq, List.drop_succ_cons, List.drop_zero]
  cases hp : Lib.hasPrefix (bl s) [35, 40] with
  | true => rw [hp, if_pos rfl] at ht; exact readHash_a s hp ht w
  | false =>
    rw [hp, if_neg (by simp)] at ht
    have C : HashC s (s.extract 1 s.size) := ⟨h0, rfl, by omega, hp, ht⟩
    generalize s.extract 1 s.size = R at C
    by_cases hg : 0 < signsLen (bl R)
    · exact readHash_b s R C _ rfl hg w
    · have hg0 : signsLen (bl R) = 0 := by omega
      by_cases hn : 0 < nameLen (bl R)
      · cases hc : colon ((bl R).drop (nameLen (bl R))) with
        | false => exact readHash_d s R C _ hg0 rfl hn hc w
        | true => exact readHash_e s R C _ hg0 rfl hn hc w
      · exact readHash_c s R C hg0 (by omega) w
end Go.Proofs.YtjibdaigclgmhaaDoor.LexW
