/- kilnref7's shown, walked: a token's own text. Conditions: those that each theorem states. -/
import Derived.Test.YtjibdaigclgmhaaGreatDoorLexEE
import Derived.Test.YtjibdaigclgmhaaGreatDoorLexZ
namespace Go.Proofs.YtjibdaigclgmhaaGreatDoor.LexW
open Go.RowKit Go.Proofs.YtjibdaigclgmhaaGreatDoor.Lex Go.Proofs.YtjibdaigclgmhaaGreatDoor.Facts Go.Proofs.YtjibdaigclgmhaaGreatDoor.PLexPrints Go.Proofs.YtjibdaigclgmhaaGreatDoorW.PrintWords Go.Proofs.YtjibdaigclgmhaaGreatDoorW.PrintLast Go.Proofs.YtjibdaigclgmhaaGreatDoorW.PrintMore
attribute [local go_sem] max2_int min2_int max_two min_two max_three min_three max_four min_four
set_option linter.unusedVariables false
set_option linter.unusedSimpArgs false
theorem quoted_l0 (s : ByteArray) (hs : s.size ≤ 1073741824) : ∀ (k i : Nat) (c : List UInt8), i ≤ s.size → s.size - i < k → c.length ≤ 2 * i + 1 →
    kilnref7_quoted.l0 k s (c.map fun u => (u.toNat : Int)) (i : Int) = some (sB (c ++ (dbl ((bl s).drop i) ++ [39])))
  | 0, i, c, hi, hk, hc => by omega
  | k + 1, i, c, hi, hk, hc => by
    rw [kilnref7_quoted.l0]
    by_cases hlt : i < s.size
    · have hw : wrap64 ((i : Int) + 1) = ((i + 1 : Nat) : Int) := by unfold wrap64; omega
      rw [if_pos (by omega), if_pos (by omega), bt_nat s i hlt, hw, drop_at s i hlt]
      by_cases h39 : (s[i]'hlt) = 39
      · rw [if_pos (by rw [h39]; rfl), if_pos (by rw [List.length_map]; omega), Option.bind_some, if_pos (by rw [List.length_append, List.length_map, List.length_singleton]; omega), h39]
        have := quoted_l0 s hs k (i + 1) (c ++ [39] ++ [39]) (by omega) (by omega) (by simp; omega)
        rw [List.map_append, List.map_append] at this
        refine this.trans ?_
        congr 2
        simp [dbl]
      · rw [if_neg (by intro e; exact h39 (by apply UInt8.toNat_inj.1; have : ((39 : UInt8).toNat : Int) = 39 := rfl; omega)), if_pos (by rw [List.length_map]; omega)]
        have := quoted_l0 s hs k (i + 1) (c ++ [s[i]'hlt]) (by omega) (by omega) (by simp; omega)
        rw [List.map_append] at this
        refine this.trans ?_
        congr 2
        simp [dbl, h39]
    · have hd : (bl s).drop i = [] := List.drop_eq_nil_of_le (by rw [bl_len]; omega)
      rw [if_neg (by omega), if_pos (by rw [List.length_map]; omega), hd]
      have : (c.map fun u => (u.toNat : Int)) ++ [39] = (c ++ [39]).map fun (u : UInt8) => (u.toNat : Int) := by rw [List.map_append]; rfl
      rw [this, Go.Lib.Lz.strOfNums_map]
      rfl
theorem quoted_calls (s : ByteArray) (hs : s.size ≤ 1073741824) (w : World) : Calls Tryz.prog 36 #[.string s] w fun e w' => e = .returned (.string (sB (39 :: dbl (bl s) ++ [39]))) ∧ Below w.heap.size w w' := by
  refine kilnref7_quoted.calls (s.size + 1) s _ w ?_
  have := quoted_l0 s hs (s.size + 1) 0 [39] (Nat.zero_le _) (by omega) (by simp)
  exact this
set_option maxHeartbeats 4000000 in
set_option maxRecDepth 100000 in
theorem shown_name (k n a : Int) (s : ByteArray) (w : World) (hk : k = 1 ∨ k = 3) : Calls Tryz.prog 19 #[.agg #[.int .i64 k, .string s, .int .i64 n, .int .i64 a]] w fun e w' => e = .returned (.string s) ∧ Below w.heap.size w w' := by
  have hb := (Below.refl w.heap.size w).alloc (Nat.le_refl _) (.cells #[.int .i64 k, .string s, .int .i64 n, .int .i64 a] 28 (0, 0))
  have HB := Aside0.mk hb
  clear hb
  rcases hk with rfl | rfl
  · go_enter Tryz.func19, Tryz.ntmps19
    go_wp2_with fail
    go_ret
    exact ⟨rfl, HB.out⟩
  · go_enter Tryz.func19, Tryz.ntmps19
    go_wp2_with fail
    go_ret
    exact ⟨rfl, HB.out⟩
set_option maxHeartbeats 4000000 in
set_option maxRecDepth 100000 in
theorem shown_other (k n a : Int) (s : ByteArray) (w : World) (hs : s.size ≤ 1073741824) (hn0 : -9223372036854775808 ≤ n) (hn : n ≤ 9223372036854775807) (E : PEnv w) (hk : k = 2 ∨ k = 4 ∨ k = 5 ∨ k = 6 ∨ k = 7 ∨ k = 14) : Calls Tryz.prog 19 #[.agg #[.int .i64 k, .string s, .int .i64 n, .int .i64 a]] w fun e w' => e = .returned (.string (sB (spellL k (bl s) n))) ∧ Below w.heap.size w w' := by
  have hb : Below w.heap.size w (w.alloc (.cells #[.int .i64 k, .string s, .int .i64 n, .int .i64 a] 28 (0, 0))) := (Below.refl w.heap.size w).alloc (Nat.le_refl _) _
  have hcat : ¬ (9223372036854775807 < s.size + ByteArray.size ⟨#[58]⟩) := by show ¬ (_ < s.size + 1); omega
  have hcat2 : ¬ (9223372036854775807 < ByteArray.size ⟨#[35]⟩ + s.size) := by show ¬ (_ < 1 + s.size); omega
  have HB := Aside0.mk hb
  rcases hk with rfl | rfl | rfl | rfl | rfl | rfl
  · go_enter Tryz.func19, Tryz.ntmps19
    go_wp2_with fail
    go_ret
    refine ⟨?_, HB.out⟩
    rw [sB_app]; rfl
  · have hi := Tryz.strconv_Itoa n hn0 hn _ (E.below hb).T
    go_enter Tryz.func19, Tryz.ntmps19
    go_wp2_with (go_at_call 26; refine hi.mono ?_; rintro e w1 ⟨rfl, nd, os, rfl⟩)
    go_ret
    exact ⟨rfl, HB.out.trans (below_grow0 _ _ (by simp) _ _)⟩
  · go_enter Tryz.func19, Tryz.ntmps19
    go_wp2_with fail
    go_ret
    refine ⟨?_, HB.out⟩
    rw [sB_app]; rfl
  · have hj := quoted_calls s hs (w.alloc (.cells #[.int .i64 6, .string s, .int .i64 n, .int .i64 a] 28 (0, 0)))
    go_enter Tryz.func19, Tryz.ntmps19
    go_wp2_with (go_at_call 36; refine hj.mono ?_; rintro e w1 ⟨rfl, hb1⟩)
    go_ret
    exact ⟨rfl, HB.out.trans (below_le hb1 (by simp))⟩
  · go_enter Tryz.func19, Tryz.ntmps19
    go_wp2_with fail
    go_ret
    refine ⟨?_, HB.out⟩
    rfl
  · go_enter Tryz.func19, Tryz.ntmps19
    go_wp2_with fail
    go_ret
    refine ⟨?_, HB.out⟩
    rfl
theorem kinds_fact (i : Nat) (hi : i < 9) (K : Int) (hK : kindL.getD i 0 = K) (e : Nat) (w : World) : Calls Tryz.prog 37 #[.int .i64 (i : Int)] w fun en w' => ∃ v, en = .returned v ∧ (Fact.eq (.int .i64 K)).f e v w' ∧ Below w.heap.size w w' :=
  (kinds_calls i hi w).mono fun en w' ⟨he, hb⟩ => ⟨_, he, by rw [hK]; rfl, hb⟩
theorem sB_bl (s : ByteArray) : sB (bl s) = s := by apply ByteArray.ext; simp [sB, bl]
def markB : ByteArray := ⟨#[40, 41, 91, 93, 124, 58, 94, 46, 59]⟩
theorem mark_kind : ∀ i : Fin 9, markCh (kindL.getD i.val 0) = bl (markB.extract i.val (i.val + 1)) := by decide +kernel
theorem mark_no {k : Int} (h : ∀ j, j < 9 → kindL.getD j 0 ≠ k) : markCh k = [] := by
  have h0 := h 0 (by omega); have h1 := h 1 (by omega); have h2 := h 2 (by omega); have h3 := h 3 (by omega); have h4 := h 4 (by omega); have h5 := h 5 (by omega); have h6 := h 6 (by omega); have h7 := h 7 (by omega); have h8 := h 8 (by omega)
  simp only [kindL, List.getD_cons_zero, List.getD_cons_succ] at h0 h1 h2 h3 h4 h5 h6 h7 h8
  unfold markCh
  rw [if_neg (Ne.symm h0), if_neg (Ne.symm h1), if_neg (Ne.symm h2), if_neg (Ne.symm h3), if_neg (Ne.symm h4), if_neg (Ne.symm h5), if_neg (Ne.symm h6), if_neg (Ne.symm h7), if_neg (Ne.symm h8)]
theorem no_next {k : Int} {i : Nat} (h : ∀ j, j < i → kindL.getD j 0 ≠ k) (hi : kindL.getD i 0 ≠ k) : ∀ j, j < i + 1 → kindL.getD j 0 ≠ k := fun j hj => by
  by_cases e : j = i
  · rw [e]; exact hi
  · exact h j (by omega)
set_option maxHeartbeats 4000000 in
set_option maxRecDepth 100000 in
theorem shown_mark (k n a : Int) (s : ByteArray) (w : World) (h1 : k ≠ 1) (h2 : k ≠ 2) (h3 : k ≠ 3) (h4 : k ≠ 4) (h5 : k ≠ 5) (h6 : k ≠ 6) (h7 : k ≠ 7) (h8 : k ≠ 14) : Calls Tryz.prog 19 #[.agg #[.int .i64 k, .string s, .int .i64 n, .int .i64 a]] w fun e w' => e = .returned (.string (sB (markCh k))) ∧ Below w.heap.size w w' := by
  have b1 : (k == 1) = false := by simpa using h1
  have b2 : (k == 2) = false := by simpa using h2
  have b3 : (k == 3) = false := by simpa using h3
  have b4 : (k == 4) = false := by simpa using h4
  have b5 : (k == 5) = false := by simpa using h5
  have b6 : (k == 6) = false := by simpa using h6
  have b7 : (k == 7) = false := by simpa using h7
  have b8 : (k == 14) = false := by simpa using h8
  clear h1 h2 h3 h4 h5 h6 h7 h8
  have HB0 : Aside0 (Below w.heap.size w (w.alloc (.cells #[.int .i64 k, .string s, .int .i64 n, .int .i64 a] 28 (0, 0))) ∧ (w.alloc (.cells #[.int .i64 k, .string s, .int .i64 n, .int .i64 a] 28 (0, 0))).heap[w.heap.size]? = some (.cells #[.int .i64 k, .string s, .int .i64 n, .int .i64 a] 28 (0, 0))) := ⟨(Below.refl w.heap.size w).alloc (Nat.le_refl _) _, blk_new _ _⟩
  go_enter Tryz.func19, Tryz.ntmps19
  go_wp2_with fail
  go_loopw [3] (fun v3 wr => ∃ i : Nat, v3 = .int .i64 (i : Int) ∧ i ≤ 9 ∧ Aside0 (Below w.heap.size w wr ∧ wr.heap[w.heap.size]? = some (.cells #[.int .i64 k, .string s, .int .i64 n, .int .i64 a] 28 (0, 0))) ∧ Aside0 (∀ j, j < i → kindL.getD j 0 ≠ k)) (fun v3 _ => 9 - (intOf v3).toNat)
  case atStart => exact ⟨0, rfl, by omega, HB0, ⟨fun j h => absurd h (Nat.not_lt_zero _)⟩⟩
  case round =>
    obtain ⟨i, rfl, hi9, HR, HN⟩ := hrel
    clear HB0
    by_cases hlt : i < 9
    · have hd : decide ((i : Int) < 9) = true := decide_eq_true (by omega)
      have hw1 : wrap64 ((i : Int) + 1) = (i : Int) + 1 := by unfold wrap64; omega
      have hle : (i : Int) ≤ (i : Int) + 1 := by omega
      have hle9 : (i : Int) + 1 ≤ 9 := by omega
      have hi0 : (0 : Int) ≤ (i : Int) := by omega
      have HMS : Aside0 (9 - (intOf (Value.int IntKind.i64 ((i : Int) + 1))).toNat < 9 - (intOf (Value.int IntKind.i64 (i : Int))).toNat) := ⟨by simp only [intOf]; omega⟩
      obtain ⟨K, hK⟩ : ∃ K, kindL.getD i 0 = K := ⟨_, rfl⟩
      obtain ⟨b, hb⟩ : ∃ b, (K == k) = b := ⟨_, rfl⟩
      have c0 : wr.cell? ⟨w.heap.size, 0, none⟩ = some (.int .i64 k) := blk_cell HR.out.2 0
      have HKF := Aside0.mk (fun e W => kinds_fact i hlt K hK e W)
      go_wp2_with fail
      refine region_facts (ws := []) (G := fun _ w' => w'.cell? ⟨w.heap.size, 0, none⟩ = some (.int .i64 k) ∧ Aside0 (Below w.heap.size w w' ∧ w'.heap[w.heap.size]? = some (.cells #[.int .i64 k, .string s, .int .i64 n, .int .i64 a] 28 (0, 0)))) (φs := [Fact.eq ?va0, Fact.eq (.int .i64 K), Fact.eq ?va2, Fact.eq ?va3, Fact.eq (.bool b)]) (n := 5) (m := 48) (by kernel_rfl) (by kernel_rfl) rfl rfl (by kernel_rfl) (fun _ _ _ h hb => ⟨pw_cell_below hb h.1, ⟨⟨below_then h.2.out.1 h.2.out.1.size hb, blk_below h.2.out.2 hb⟩⟩⟩) (⟨c0, ⟨⟨below_drew HR.out.1, blk_below HR.out.2 (below_drew (Below.refl _ _))⟩⟩⟩) ⟨?oa0, ?oa1, ?oa2, ?oa3, ?oa4, trivial⟩ ?fina
      case oa0 =>
        refine ask_val [.fix 3 _] rfl 39 rfl (.inl rfl) ⟨⟨by kernel_rfl, by conv => lhs; whnf⟩, trivial⟩ ?_
        dsimp only [Has, Fact.eq]
        intro e ρ w' hc hf hg hG h3
        go_simp
        with_reducible rfl
      case oa1 =>
        refine ask_call [.op 39 0 (Fact.eq _)] rfl 40 rfl (.inl rfl) ⟨⟨by kernel_rfl, rfl⟩, trivial⟩ 0 0 (by kernel_rfl) 37 Tryz.func37 (by kernel_rfl) rfl rfl ?_
        dsimp only [Has, Fact.eq]
        intro e ρ w' hp hq hc hf hg hG h39
        obtain rfl : e = 0 := by omega
        refine ⟨#[.int .i64 (i : Int)], by simp only [List.map_toArray, List.map_cons, List.map_nil, h39], HKF.out 0 _⟩
      case oa2 =>
        refine ask_val [.fix 1 _] rfl 41 rfl (.inl rfl) ⟨⟨by kernel_rfl, by conv => lhs; whnf⟩, trivial⟩ ?_
        dsimp only [Has, Fact.eq]
        intro e ρ w' hc hf hg hG h1
        go_simp
        with_reducible rfl
      case oa3 =>
        refine ask_val [.op 41 2 (Fact.eq _)] rfl 42 rfl (.inl rfl) ⟨⟨by kernel_rfl, rfl⟩, trivial⟩ ?_
        dsimp only [Has, Fact.eq]
        intro e ρ w' hc hf hg hG h41
        obtain ⟨s0, s1⟩ := hG
        go_simp
        with_reducible rfl
      case oa4 =>
        refine ask_val [.op 40 1 (Fact.eq _), .op 42 3 (Fact.eq _)] rfl 43 rfl (.inl rfl) ⟨⟨by kernel_rfl, rfl⟩, ⟨by kernel_rfl, rfl⟩, trivial⟩ ?_
        dsimp only [Has, Fact.eq]
        intro e ρ w' hc hf hg hG h40 h42
        rw [← hb]
        go_simp
        first | done | rfl
      case fina =>
        intro w' hG
        refine fin_eq (fin_eq (fin_eq (fin_eq (fin_eq (fin_nil (a' := ?_) ?_ ?_)))))
        rotate_left
        · simp only [Act.put, List.setIfInBounds_toArray, List.set_cons_zero, List.set_cons_succ]
          rfl
        have HF := Aside0.mk hG.2.out
        have c1 : w'.cell? ⟨w.heap.size, 0, none⟩ = some (.int .i64 k) := hG.1
        clear hG
        cases b with
        | true =>
          have hkk : K = k := by simpa using hb
          have HMK : Aside0 (markCh k = bl (markB.extract i (i + 1))) := ⟨by rw [← hkk, ← hK]; exact mark_kind ⟨i, hlt⟩⟩
          go_wp2_with fail
          go_ret
          refine ⟨?_, HF.out.1⟩
          rw [HMK.out, sB_bl]
          rfl
        | false =>
          have hkk : kindL.getD i 0 ≠ k := by rw [hK]; simpa using hb
          have HNX := Aside0.mk (no_next HN.out hkk)
          clear hkk
          go_wp2_with fail
          go_roundw
          case rel => exact ⟨i + 1, rfl, hlt, HF, HNX⟩
          case measure => exact HMS.out
    · have hi : i = 9 := by omega
      subst hi
      have HMN : Aside0 (markCh k = []) := ⟨mark_no HN.out⟩
      have hd : decide (((9 : Nat) : Int) < 9) = false := by decide
      go_wp2_with fail
      go_ret
      refine ⟨?_, HR.out.1⟩
      rw [HMN.out]
      rfl
theorem shown_calls (x : S28) (w : World) (hs : x.f1.size ≤ 1073741824) (hn0 : -9223372036854775808 ≤ x.f2) (hn : x.f2 ≤ 9223372036854775807) (E : PEnv w) : Calls Tryz.prog 19 #[.agg #[.int .i64 x.f0, .string x.f1, .int .i64 x.f2, .int .i64 x.f3]] w fun e w' => e = .returned (.string (spB x)) ∧ Below w.heap.size w w' := by
  obtain ⟨k, s, n, a⟩ := x
  unfold spB
  simp only at hs hn0 hn ⊢
  by_cases h1 : k = 1 ∨ k = 3
  · refine (shown_name k n a s w h1).mono fun e w' ⟨he, hb⟩ => ⟨?_, hb⟩
    rw [he]
    unfold spellL
    rw [if_pos h1]; rfl
  · by_cases h2 : k = 2 ∨ k = 4 ∨ k = 5 ∨ k = 6 ∨ k = 7 ∨ k = 14
    · exact shown_other k n a s w hs hn0 hn E h2
    · refine (shown_mark k n a s w (by omega) (by omega) (by omega) (by omega) (by omega) (by omega) (by omega) (by omega)).mono fun e w' ⟨he, hb⟩ => ⟨?_, hb⟩
      rw [he]
      unfold spellL
      rw [if_neg h1, if_neg (by omega), if_neg (by omega), if_neg (by omega), if_neg (by omega), if_neg (by omega), if_neg (by omega)]
end Go.Proofs.YtjibdaigclgmhaaGreatDoor.LexW
