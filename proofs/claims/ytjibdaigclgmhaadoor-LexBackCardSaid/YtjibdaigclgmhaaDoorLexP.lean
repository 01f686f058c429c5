/- LexJoined, walked: the law answers true for every two sources. Conditions: those that each theorem states. -/
import Derived.Test.YtjibdaigclgmhaaDoorLexL
import Derived.Test.YtjibdaigclgmhaaDoorFacts
namespace Go.Proofs.YtjibdaigclgmhaaDoor.LexW
open Go.RowKit Go.Maps Go.Proofs.YtjibdaigclgmhaaDoor.Lex Go.Proofs.YtjibdaigclgmhaaDoor.PLexTokens Go.Proofs.YtjibdaigclgmhaaDoorW.PrintWords Go.Proofs.YtjibdaigclgmhaaDoorW.PrintLast Go.Proofs.YtjibdaigclgmhaaDoorW.PrintMore Go.Proofs.YtjibdaigclgmhaaDoor.Facts
attribute [local go_sem] max2_int min2_int max_two min_two max_three min_three max_four min_four
set_option linter.unusedVariables false
set_option linter.unusedSimpArgs false
theorem sameB_refl (b : Bool) : ∀ X : List S42, sameB b X X = true
  | [] => rfl
  | x :: xs => by rw [sameB, sameB_refl b xs]; simp [eqS]
theorem sameB_toks : ∀ (l m : List TokA), l.map TokA.tok = m.map TokA.tok → sameB false (l.map tokS) (m.map tokS) = true
  | [], [], _ => rfl
  | [], _ :: _, h => by simp at h
  | _ :: _, [], h => by simp at h
  | x :: l, y :: m, h => by
    simp only [List.map_cons, List.cons.injEq] at h
    rw [List.map_cons, List.map_cons, sameB, sameB_toks l m h.2]
    simp [eqS, tokS, h.1]
set_option maxHeartbeats 4000000 in
set_option maxRecDepth 1000000 in
theorem joined_bad1 (one two : ByteArray) (a : Int × Nat) (hq : tokensS (bl one) = .inr a) (w : World) (E : Erg w) : Calls Tryd.prog 8 #[.string one, .string two] w fun e w' => e = .returned (.bool true) ∧ Below w.heap.size w w' := by
  have hne : (a.1 != 0) = true := by rcases tokensS_inr hq with h | h <;> rw [h] <;> rfl
  have HE := Aside0.mk E
  have HQ := Aside0.mk hq
  clear E hq
  go_enter Tryd.func8, Tryd.ntmps8
  go_wp2_with fail
  refine (known_calls _ HE.out).mono ?_
  rintro e w1 ⟨rfl, hb⟩
  have HW1 := Aside0.mk hb
  clear hb
  go_wp2_with fail
  refine (tokens_fault HQ.out _ (HE.out.below HW1.out)).mono ?_
  rintro e w2 ⟨rfl, hb⟩
  have hk := Aside0.mk (blk_new w2 (.cells #[.int .i64 a.1, .int .i64 (a.2 : Int)] 25 (0, 0)))
  have HW2 := Aside0.mk ((below_then HW1.out HW1.out.size hb).alloc (by have := (below_then HW1.out HW1.out.size hb).size; exact this) (.cells #[.int .i64 a.1, .int .i64 (a.2 : Int)] 25 (0, 0)))
  clear hb
  cases hq2 : tokensS (bl two) with
  | inr b =>
    have HQ2 := Aside0.mk hq2
    clear hq2
    go_wp2_with fail
    refine (tokens_fault HQ2.out _ (HE.out.below HW2.out)).mono ?_
    rintro e w3 ⟨rfl, hb⟩
    have hk3 := blk_alloc (blk_below hk.out hb) (.cells #[.int .i64 b.1, .int .i64 (b.2 : Int)] 25 (0, 0))
    have d0 := blk_cell hk3 0
    have HW3 := Aside0.mk (below_then HW2.out HW2.out.size hb)
    clear hb hk hk3
    go_wp2_with fail
    go_ret
    exact ⟨rfl, HW3.out.alloc HW3.out.size _⟩
  | inl l =>
    have HQ2 := Aside0.mk hq2
    clear hq2
    go_wp2_with fail
    refine (tokens_list HQ2.out 0 _ (HE.out.below HW2.out)).mono ?_
    rintro e w3 ⟨_, rfl, ⟨A, rfl, hC⟩, hb⟩
    have hk3 := blk_alloc (blk_below hk.out hb) (.cells #[.int .i64 0, .int .i64 0] 25 (0, 0))
    have d0 := blk_cell hk3 0
    have HW3 := Aside0.mk (below_then HW2.out HW2.out.size hb)
    clear hb hk hk3 hC
    go_wp2_with fail
    go_ret
    exact ⟨rfl, HW3.out.alloc HW3.out.size _⟩
theorem C_pre {w : World} {A : Option Addr} {N n : Nat} {xs X : List S42} (h : Kd.C k42 w A N xs) (hX : xs.take n = X ∧ n ≤ xs.length) : Kd.C k42 w A X.length X := by
  have e : xs.length = N := h.1
  subst e
  rw [← hX.1]
  exact Kd.C_take h hX.2
theorem C_suf {w : World} {A : Option Addr} {N n c : Nat} {xs Z : List S42} (h : Kd.C k42 w A N xs) (hc : N ≤ c) (hn : n ≤ N) (hZ : xs.drop n = Z) : Kd.C k42 w (if c = n then A else A.map (·.add (n * 4))) Z.length Z := by
  have e : xs.length = N := h.1
  subst e
  rw [← hZ]
  exact Kd.C_drop h hn hc
set_option maxHeartbeats 4000000 in
set_option maxRecDepth 1000000 in
theorem joined_bad2 (one two : ByteArray) (l : List TokA) (hq : tokensS (bl one) = .inl l) (a : Int × Nat) (hq2 : tokensS (bl two) = .inr a) (w : World) (E : Erg w) : Calls Tryd.prog 8 #[.string one, .string two] w fun e w' => e = .returned (.bool true) ∧ Below w.heap.size w w' := by
  have hne : (a.1 != 0) = true := by rcases tokensS_inr hq2 with h | h <;> rw [h] <;> rfl
  have HE := Aside0.mk E
  have HQ := Aside0.mk hq
  have HQ2 := Aside0.mk hq2
  clear E hq hq2
  go_enter Tryd.func8, Tryd.ntmps8
  go_wp2_with fail
  refine (known_calls _ HE.out).mono ?_
  rintro e w1 ⟨rfl, hb⟩
  have HW1 := Aside0.mk hb
  clear hb
  go_wp2_with fail
  refine (tokens_list HQ.out 0 _ (HE.out.below HW1.out)).mono ?_
  rintro e w2 ⟨_, rfl, ⟨A, rfl, hC⟩, hb⟩
  have hk := Aside0.mk (blk_new w2 (.cells #[.int .i64 0, .int .i64 0] 25 (0, 0)))
  have HW2 := Aside0.mk ((below_then HW1.out HW1.out.size hb).alloc (by have := (below_then HW1.out HW1.out.size hb).size; exact this) (.cells #[.int .i64 0, .int .i64 0] 25 (0, 0)))
  clear hb hC
  go_wp2_with fail
  refine (tokens_fault HQ2.out _ (HE.out.below HW2.out)).mono ?_
  rintro e w3 ⟨rfl, hb⟩
  have hk3 := blk_alloc (blk_below hk.out hb) (.cells #[.int .i64 a.1, .int .i64 (a.2 : Int)] 25 (0, 0))
  have d0 := blk_cell hk3 0
  have hk4 := blk_new w3 (.cells #[.int .i64 a.1, .int .i64 (a.2 : Int)] 25 (0, 0))
  have d1 := blk_cell hk4 0
  have HW3 := Aside0.mk (below_then HW2.out HW2.out.size hb)
  clear hb hk hk3 hk4
  go_wp2_with fail
  go_ret
  exact ⟨rfl, HW3.out.alloc HW3.out.size _⟩
set_option maxHeartbeats 4000000 in
set_option maxRecDepth 1000000 in
theorem joined_long (one two : ByteArray) (l m : List TokA) (hq : tokensS (bl one) = .inl l) (hq2 : tokensS (bl two) = .inl m) (hsz : 4096 < one.size + 1 + two.size) (w : World) (E : Erg w) : Calls Tryd.prog 8 #[.string one, .string two] w fun e w' => e = .returned (.bool true) ∧ Below w.heap.size w w' := by
  obtain ⟨hx, hs⟩ := tokensS_inl hq
  obtain ⟨hx2, hs2⟩ := tokensS_inl hq2
  rw [bl_len] at hs hs2
  have hl0 : 0 < l.length := List.length_pos_iff.2 hx.ne_nil
  have b1 : ((l.length : Int) == 0) = false := by rw [beq_eq_false_iff_ne]; omega
  have b2 : decide ((4096 : Int) < (one.size : Int) + 1 + (two.size : Int)) = true := decide_eq_true (by omega)
  have b3 : decide ((0 : Int) < (l.length : Int)) = true := decide_eq_true (by omega)
  have b4 : decide (0 < l.length) = true := decide_eq_true (by omega)
  have b5 : (l.length == 0) = false := by rw [beq_eq_false_iff_ne]; omega
  have HE := Aside0.mk E
  have HQ := Aside0.mk hq
  have HQ2 := Aside0.mk hq2
  clear E hq hq2 hx hx2
  go_enter Tryd.func8, Tryd.ntmps8
  go_wp2_with fail
  refine (known_calls _ HE.out).mono ?_
  rintro e w1 ⟨rfl, hb⟩
  have HW1 := Aside0.mk hb
  clear hb
  go_wp2_with fail
  refine (tokens_list HQ.out 0 _ (HE.out.below HW1.out)).mono ?_
  rintro e w2 ⟨_, rfl, ⟨A, rfl, hC⟩, hb⟩
  have hk := Aside0.mk (blk_new w2 (.cells #[.int .i64 0, .int .i64 0] 25 (0, 0)))
  have HW2 := Aside0.mk ((below_then HW1.out HW1.out.size hb).alloc (by have := (below_then HW1.out HW1.out.size hb).size; exact this) (.cells #[.int .i64 0, .int .i64 0] 25 (0, 0)))
  clear hb hC
  go_wp2_with fail
  refine (tokens_list HQ2.out 0 _ (HE.out.below HW2.out)).mono ?_
  rintro e w3 ⟨_, rfl, ⟨A2, rfl, hC⟩, hb⟩
  have hk3 := blk_alloc (blk_below hk.out hb) (.cells #[.int .i64 0, .int .i64 0] 25 (0, 0))
  have d0 := blk_cell hk3 0
  have hk4 := blk_new w3 (.cells #[.int .i64 0, .int .i64 0] 25 (0, 0))
  have d1 := blk_cell hk4 0
  have HW3 := Aside0.mk (below_then HW2.out HW2.out.size hb)
  clear hb hk hk3 hk4 hC
  go_wp2_with fail
  go_ret
  exact ⟨rfl, HW3.out.alloc HW3.out.size _⟩
set_option maxHeartbeats 4000000 in
set_option maxRecDepth 1000000 in
theorem joined_good (one two : ByteArray) (l m : List TokA) (hq : tokensS (bl one) = .inl l) (hq2 : tokensS (bl two) = .inl m) (hsz : one.size + 1 + two.size ≤ 4096) (w : World) (E : Erg w) : Calls Tryd.prog 8 #[.string one, .string two] w fun e w' => e = .returned (.bool true) ∧ Below w.heap.size w w' := by
  obtain ⟨hx, hs⟩ := tokensS_inl hq
  obtain ⟨hx2, hs2⟩ := tokensS_inl hq2
  rw [bl_len] at hs hs2
  have hl0 : 0 < l.length := List.length_pos_iff.2 hx.ne_nil
  have hm0 : 0 < m.length := List.length_pos_iff.2 hx2.ne_nil
  have hll : l.length ≤ one.size + 1 := by have := Lexes_len hx; rw [bl_len] at this; exact this
  have hml : m.length ≤ two.size + 1 := by have := Lexes_len hx2; rw [bl_len] at this; exact this
  obtain ⟨n, hn⟩ : ∃ n, l.length = n + 1 := ⟨l.length - 1, by omega⟩
  have b1 : (((n : Int) + 1) == 0) = false := by rw [beq_eq_false_iff_ne]; omega
  have b2 : decide ((4096 : Int) < (one.size : Int) + 1 + (two.size : Int)) = false := decide_eq_false (by omega)
  have c1 : ¬ (9223372036854775807 < one.size + 1) := by omega
  have c2 : ¬ (9223372036854775807 < one.size + 1 + two.size) := by omega
  have hj := hx.joined hx2
  have hnb : n ≤ one.size := by omega
  have HE := Aside0.mk E
  have HQ := Aside0.mk hq
  have HQ2 := Aside0.mk hq2
  have HJ := Aside0.mk hj
  have HX2 := Aside0.mk hx2
  have HN := Aside0.mk hn
  clear E hq hq2 hx hx2 hj hn
  go_enter Tryd.func8, Tryd.ntmps8
  go_wp2_with fail
  refine (known_calls _ HE.out).mono ?_
  rintro e w1 ⟨rfl, hb⟩
  have HW1 := Aside0.mk hb
  clear hb
  go_wp2_with fail
  refine (tokens_list HQ.out 0 _ (HE.out.below HW1.out)).mono ?_
  rintro e w2 ⟨_, rfl, ⟨A, rfl, hC⟩, hb⟩
  rw [HN.out] at hC ⊢
  have hk := Aside0.mk (blk_new w2 (.cells #[.int .i64 0, .int .i64 0] 25 (0, 0)))
  have HW2 := Aside0.mk ((below_then HW1.out HW1.out.size hb).alloc (by have := (below_then HW1.out HW1.out.size hb).size; exact this) (.cells #[.int .i64 0, .int .i64 0] 25 (0, 0)))
  have HC := Aside0.mk hC
  clear hb hC
  go_wp2_with fail
  refine (tokens_list HQ2.out 0 _ (HE.out.below HW2.out)).mono ?_
  rintro e w3 ⟨_, rfl, ⟨A2, rfl, hC⟩, hb⟩
  have hk3 := blk_alloc (blk_below hk.out hb) (.cells #[.int .i64 0, .int .i64 0] 25 (0, 0))
  have d0 := blk_cell hk3 0
  have hk4 := blk_new w3 (.cells #[.int .i64 0, .int .i64 0] 25 (0, 0))
  have d1 := blk_cell hk4 0
  have HW3 := Aside0.mk (below_then HW2.out HW2.out.size hb)
  have HB3 := Aside0.mk hb
  clear hk hk3 hk4
  obtain ⟨adm, rfl⟩ : ∃ adm, A2 = some adm := by obtain ⟨x, h, _⟩ := hC.2.2 hm0; exact ⟨x, h⟩
  have HC2 := Aside0.mk hC
  clear hC hb
  obtain ⟨J, hJ⟩ : ∃ J, J = l.take (l.length - 1) ++ m.map (TokA.shift ((bl one).length + 1)) := ⟨_, rfl⟩
  have hbj : bl (one ++ ⟨#[32]⟩ ++ two) = bl one ++ 32 :: bl two := by simp [bl]
  have hjt : tokensS (bl (one ++ ⟨#[32]⟩ ++ two)) = .inl J := by
    rw [hbj, hJ]
    refine tokensS_of HJ.out ?_
    rw [List.length_append, List.length_cons, bl_len, bl_len]; omega
  rw [HN.out, Nat.add_sub_cancel, bl_len] at hJ
  have HJT := Aside0.mk hjt
  have HJL : Aside0 (J.length = n + m.length) := ⟨by rw [hJ, List.length_append, List.length_take, List.length_map, HN.out]; omega⟩
  have HJX : Aside0 ((J.map tokS).take n = (l.take n).map tokS ∧ n ≤ (J.map tokS).length) := ⟨by
    constructor
    · rw [hJ, ← List.map_take, List.take_left' (by rw [List.length_take, HN.out]; omega)]
    · rw [List.length_map, HJL.out]; omega⟩
  have HLX : Aside0 ((l.map tokS).take n = (l.take n).map tokS ∧ n ≤ (l.map tokS).length) := ⟨by
    constructor
    · rw [← List.map_take]
    · rw [List.length_map, HN.out]; omega⟩
  have HJZ : Aside0 ((J.map tokS).drop n = (m.map (TokA.shift (one.size + 1))).map tokS) := ⟨by
    rw [hJ, ← List.map_drop, List.drop_left' (by rw [List.length_take, HN.out]; omega)]⟩
  have HXL : Aside0 (((l.take n).map tokS).length = n) := ⟨by rw [List.length_map, List.length_take, HN.out]; omega⟩
  have HZL : Aside0 (((m.map (TokA.shift (one.size + 1))).map tokS).length = m.length) := ⟨by simp⟩
  have HML : Aside0 ((m.map tokS).length = m.length) := ⟨by simp⟩
  have HSB : Aside0 (sameB false ((m.map (TokA.shift (one.size + 1))).map tokS) (m.map tokS) = true) := ⟨sameB_toks _ _ (by rw [List.map_map]; rfl)⟩
  have HJM : Aside0 (∀ i t, m[i]? = some t → J[n + i]? = some (TokA.shift (one.size + 1) t)) := ⟨fun i t h => by
    rw [hJ, List.getElem?_append_right (by rw [List.length_take, HN.out]; omega), List.length_take, HN.out, Nat.min_eq_left (by omega), Nat.add_sub_cancel_left, List.getElem?_map, h]; rfl⟩
  clear hbj hjt hJ
  go_wp2_with fail
  refine (tokens_list HJT.out 0 _ (HE.out.below (HW3.out.alloc (by exact HW3.out.size) _))).mono ?_
  rintro e w4 ⟨_, rfl, ⟨A3, rfl, hC⟩, hb⟩
  rw [HJL.out] at hC ⊢
  obtain ⟨adJ, rfl⟩ : ∃ adJ, A3 = some adJ := by obtain ⟨x, h, _⟩ := hC.2.2 (by omega); exact ⟨x, h⟩
  obtain ⟨W5, hW5⟩ : ∃ W5, W5 = w4.alloc (.cells #[.int .i64 0, .int .i64 0] 25 (0, 0)) := ⟨_, rfl⟩
  have hk5 : W5.heap[w4.heap.size]? = some (.cells #[.int .i64 0, .int .i64 0] 25 (0, 0)) := by rw [hW5]; exact blk_new w4 _
  have d2 := blk_cell hk5 0
  have HR : Aside0 (Below w.heap.size w W5 ∧ Kd.C k42 W5 A (n + 1) (l.map tokS) ∧ Kd.C k42 W5 (some adm) m.length (m.map tokS) ∧ Kd.C k42 W5 (some adJ) (n + m.length) (J.map tokS)) := ⟨by
    have g4 := below_then (below_alloc (Below.refl w3.heap.size w3) (.cells #[.int .i64 0, .int .i64 0] 25 (0, 0))) (by simp) hb
    have g5 : Below w3.heap.size w3 W5 := by rw [hW5]; exact g4.alloc g4.size _
    have g6 : Below w4.heap.size w4 W5 := by rw [hW5]; exact below_alloc (Below.refl _ _) _
    have g2 := HB3.out
    have g7 := below_then g2 g2.size g5
    exact ⟨below_then HW3.out HW3.out.size g5, Kd.C_below HC.out (below_then (below_alloc (Below.refl w2.heap.size w2) (.cells #[.int .i64 0, .int .i64 0] 25 (0, 0))) (by simp) g7), Kd.C_below HC2.out g5, Kd.C_below hC g6⟩⟩
  clear hk5 hC hb
  have hn1 : (n : Int) ≤ (n : Int) + 1 := by omega
  have hn2 : (n : Int) ≤ (n : Int) + (m.length : Int) := by omega
  have hmne : m ≠ [] := List.length_pos_iff.1 hm0
  have hw : IntKind.i64.wrap ((n : Int) + (m.length : Int)) = (n : Int) + (m.length : Int) := by rw [i64_w]; unfold wrap64; omega
  go_wp2_with fail
  rw [← hW5]
  refine region_facts (ws := []) (G := fun _ w' => w'.cell? ⟨w4.heap.size, 0, none⟩ = some (.int .i64 0) ∧ Aside0 (Below w.heap.size w w' ∧ Kd.C k42 w' A (n + 1) (l.map tokS) ∧ Kd.C k42 w' (some adm) (m.length) (m.map tokS) ∧ Kd.C k42 w' (some adJ) (n + m.length) (J.map tokS))) (φs := [Fact.eq ?va0, Fact.eq ?va1, Fact.eq ?va2, Fact.eq ?va3, Fact.eq ?va4, Fact.eq ?va5, Fact.eq ?va6, Fact.eq ?va7, Fact.eq ?va8, Fact.eq ?va9, Fact.eq ?va10, Fact.eq ?va11, Fact.eq ?va12, Fact.eq ?va13, Fact.eq ?va14, Fact.eq ?va15, Fact.eq ?va16, Fact.eq ?va17, Fact.eq ?va18, Fact.eq (.bool true), Fact.eq ?va20, Fact.eq ?va21, Fact.eq ?va22, Fact.eq ?va23, Fact.eq ?va24, Fact.eq ?va25, Fact.eq ?va26, Fact.eq (.bool true), Fact.eq ?va28, Fact.eq ?va29]) (n := 30) (m := 126) (by kernel_rfl) (by kernel_rfl) rfl rfl (by kernel_rfl) (fun _ _ _ h hb => ⟨pw_cell_below hb h.1, ⟨⟨below_then h.2.out.1 h.2.out.1.size hb, Kd.C_below h.2.out.2.1 hb, Kd.C_below h.2.out.2.2.1 hb, Kd.C_below h.2.out.2.2.2 hb⟩⟩⟩) (⟨d2, ⟨⟨below_drew HR.out.1, Kd.C_below HR.out.2.1 (below_drew (Below.refl _ _)), Kd.C_below HR.out.2.2.1 (below_drew (Below.refl _ _)), Kd.C_below HR.out.2.2.2 (below_drew (Below.refl _ _))⟩⟩⟩) ⟨?oa0, ?oa1, ?oa2, ?oa3, ?oa4, ?oa5, ?oa6, ?oa7, ?oa8, ?oa9, ?oa10, ?oa11, ?oa12, ?oa13, ?oa14, ?oa15, ?oa16, ?oa17, ?oa18, ?oa19, ?oa20, ?oa21, ?oa22, ?oa23, ?oa24, ?oa25, ?oa26, ?oa27, ?oa28, ?oa29, trivial⟩ ?fina
  case oa0 =>
    refine ask_val [.fix 11 _] rfl 73 rfl (.inl rfl) ⟨⟨by kernel_rfl, by conv => lhs; whnf⟩, trivial⟩ ?_
    dsimp only [Has, Fact.eq]
    intro e ρ w' hc hf hg hG h11
    go_simp
    with_reducible rfl
  case oa1 =>
    refine ask_val [.op 73 0 (Fact.eq _)] rfl 74 rfl (.inl rfl) ⟨⟨by kernel_rfl, rfl⟩, trivial⟩ ?_
    dsimp only [Has, Fact.eq]
    intro e ρ w' hc hf hg hG h73
    obtain ⟨s0, s1⟩ := hG
    go_simp
    with_reducible rfl
  case oa2 =>
    refine ask_val [.op 74 1 (Fact.eq _)] rfl 75 rfl (.inl rfl) ⟨⟨by kernel_rfl, rfl⟩, trivial⟩ ?_
    dsimp only [Has, Fact.eq]
    intro e ρ w' hc hf hg hG h74
    go_simp
    with_reducible rfl
  case oa3 =>
    refine ask_val [.op 75 2 (Fact.eq _)] rfl 76 rfl (.inl rfl) ⟨⟨by kernel_rfl, rfl⟩, trivial⟩ ?_
    dsimp only [Has, Fact.eq]
    intro e ρ w' hc hf hg hG h75
    go_simp
    with_reducible rfl
  case oa4 =>
    refine ask_val [.fix 10 _] rfl 77 rfl (.inr ⟨3, false, rfl, by kernel_rfl, rfl⟩) ⟨⟨by kernel_rfl, by conv => lhs; whnf⟩, trivial⟩ ?_
    dsimp only [Has, Fact.eq]
    intro e ρ w' hc hf hg hG h10
    go_simp
    with_reducible rfl
  case oa5 =>
    refine ask_val [.op 77 4 (Fact.eq _)] rfl 78 rfl (.inr ⟨3, false, rfl, by kernel_rfl, rfl⟩) ⟨⟨by kernel_rfl, rfl⟩, trivial⟩ ?_
    dsimp only [Has, Fact.eq]
    intro e ρ w' hc hf hg hG h77
    go_simp
    with_reducible rfl
  case oa6 =>
    refine ask_val [.fix 12 _] rfl 79 rfl (.inr ⟨3, false, rfl, by kernel_rfl, rfl⟩) ⟨⟨by kernel_rfl, by conv => lhs; whnf⟩, trivial⟩ ?_
    dsimp only [Has, Fact.eq]
    intro e ρ w' hc hf hg hG h12
    go_simp
    with_reducible rfl
  case oa7 =>
    refine ask_val [.fix 8 _] rfl 80 rfl (.inr ⟨3, false, rfl, by kernel_rfl, rfl⟩) ⟨⟨by kernel_rfl, by conv => lhs; whnf⟩, trivial⟩ ?_
    dsimp only [Has, Fact.eq]
    intro e ρ w' hc hf hg hG h8
    go_simp
    with_reducible rfl
  case oa8 =>
    refine ask_val [.op 80 7 (Fact.eq _)] rfl 81 rfl (.inr ⟨3, false, rfl, by kernel_rfl, rfl⟩) ⟨⟨by kernel_rfl, rfl⟩, trivial⟩ ?_
    dsimp only [Has, Fact.eq]
    intro e ρ w' hc hf hg hG h80
    go_simp
    with_reducible rfl
  case oa9 =>
    refine ask_val [.op 79 6 (Fact.eq _), .op 81 8 (Fact.eq _)] rfl 82 rfl (.inr ⟨3, false, rfl, by kernel_rfl, rfl⟩) ⟨⟨by kernel_rfl, rfl⟩, ⟨by kernel_rfl, rfl⟩, trivial⟩ ?_
    dsimp only [Has, Fact.eq]
    intro e ρ w' hc hf hg hG h79 h81
    go_simp
    with_reducible rfl
  case oa10 =>
    refine ask_val [.op 78 5 (Fact.eq _), .op 82 9 (Fact.eq _)] rfl 83 rfl (.inr ⟨3, false, rfl, by kernel_rfl, rfl⟩) ⟨⟨by kernel_rfl, rfl⟩, ⟨by kernel_rfl, rfl⟩, trivial⟩ ?_
    dsimp only [Has, Fact.eq]
    intro e ρ w' hc hf hg hG h78 h82
    go_simp
    with_reducible rfl
  case oa11 =>
    refine ask_val [.op 76 3 (Fact.eq _), .op 83 10 (Fact.eq _)] rfl 84 rfl (.inl rfl) ⟨⟨by kernel_rfl, rfl⟩, ⟨by kernel_rfl, rfl⟩, trivial⟩ ?_
    dsimp only [Has, Fact.eq]
    intro e ρ w' hc hf hg hG h76 h83
    go_simp
    with_reducible rfl
  case oa12 =>
    refine ask_val [.op 84 11 (Fact.eq _)] rfl 85 rfl (.inl rfl) ⟨⟨by kernel_rfl, rfl⟩, trivial⟩ ?_
    dsimp only [Has, Fact.eq]
    intro e ρ w' hc hf hg hG h84
    go_simp
    with_reducible rfl
  case oa13 =>
    refine ask_val [.fix 10 _] rfl 86 rfl (.inr ⟨12, false, rfl, by kernel_rfl, rfl⟩) ⟨⟨by kernel_rfl, by conv => lhs; whnf⟩, trivial⟩ ?_
    dsimp only [Has, Fact.eq]
    intro e ρ w' hc hf hg hG h10
    go_simp
    with_reducible rfl
  case oa14 =>
    refine ask_val [.fix 12 _] rfl 87 rfl (.inr ⟨12, false, rfl, by kernel_rfl, rfl⟩) ⟨⟨by kernel_rfl, by conv => lhs; whnf⟩, trivial⟩ ?_
    dsimp only [Has, Fact.eq]
    intro e ρ w' hc hf hg hG h12
    go_simp
    with_reducible rfl
  case oa15 =>
    refine ask_val [.op 86 13 (Fact.eq _), .op 87 14 (Fact.eq _)] rfl 88 rfl (.inr ⟨12, false, rfl, by kernel_rfl, rfl⟩) ⟨⟨by kernel_rfl, rfl⟩, ⟨by kernel_rfl, rfl⟩, trivial⟩ ?_
    dsimp only [Has, Fact.eq]
    intro e ρ w' hc hf hg hG h86 h87
    go_simp
    with_reducible rfl
  case oa16 =>
    refine ask_val [.fix 6 _] rfl 89 rfl (.inr ⟨12, false, rfl, by kernel_rfl, rfl⟩) ⟨⟨by kernel_rfl, by conv => lhs; whnf⟩, trivial⟩ ?_
    dsimp only [Has, Fact.eq]
    intro e ρ w' hc hf hg hG h6
    go_simp
    with_reducible rfl
  case oa17 =>
    refine ask_val [.fix 12 _] rfl 90 rfl (.inr ⟨12, false, rfl, by kernel_rfl, rfl⟩) ⟨⟨by kernel_rfl, by conv => lhs; whnf⟩, trivial⟩ ?_
    dsimp only [Has, Fact.eq]
    intro e ρ w' hc hf hg hG h12
    go_simp
    with_reducible rfl
  case oa18 =>
    refine ask_val [.op 89 16 (Fact.eq _), .op 90 17 (Fact.eq _)] rfl 91 rfl (.inr ⟨12, false, rfl, by kernel_rfl, rfl⟩) ⟨⟨by kernel_rfl, rfl⟩, ⟨by kernel_rfl, rfl⟩, trivial⟩ ?_
    dsimp only [Has, Fact.eq]
    intro e ρ w' hc hf hg hG h89 h90
    go_simp
    with_reducible rfl
  case oa19 =>
    refine ask_call [.op 88 15 (Fact.eq _), .op 91 18 (Fact.eq _)] rfl 92 rfl (.inr ⟨12, false, rfl, by kernel_rfl, rfl⟩) ⟨⟨by kernel_rfl, rfl⟩, ⟨by kernel_rfl, rfl⟩, trivial⟩ 0 0 (by kernel_rfl) 12 Tryd.func12 (by kernel_rfl) rfl rfl ?_
    dsimp only [Has, Fact.eq]
    intro e ρ w' hp hq hc hf hg hG h88 h91
    obtain rfl : e = 0 := by omega
    have hx := C_pre hG.2.out.2.2.2 HJX.out
    have hy := C_pre hG.2.out.2.1 HLX.out
    have hs := same_calls ((l.take n).map tokS) ((l.take n).map tokS) (some adJ) A (n + m.length) (n + 1) true w' hx (by simp only [List.length_map, List.length_take, HJL.out, HN.out]; omega) hy (by simp only [List.length_map, List.length_take, HJL.out, HN.out]; omega) (by simp only [List.length_map, List.length_take, HJL.out, HN.out]; omega)
    rw [HXL.out, sameB_refl] at hs
    refine ⟨_, by simp only [List.map_toArray, List.map_cons, List.map_nil, hc, h88, h91], hs.mono ?_⟩
    rintro en w2 ⟨rfl, nd, rfl⟩
    exact ⟨_, rfl, rfl, pw_below_drewN (Below.refl _ _) nd⟩
  case oa20 =>
    refine ask_val [.op 92 19 (Fact.eq _)] rfl 93 rfl (.inr ⟨12, false, rfl, by kernel_rfl, rfl⟩) ⟨⟨by kernel_rfl, rfl⟩, trivial⟩ ?_
    dsimp only [Has, Fact.eq]
    intro e ρ w' hc hf hg hG h92
    go_simp
    with_reducible rfl
  case oa21 =>
    refine ask_val [.op 85 12 (Fact.eq _), .op 93 20 (Fact.eq _)] rfl 94 rfl (.inl rfl) ⟨⟨by kernel_rfl, rfl⟩, ⟨by kernel_rfl, rfl⟩, trivial⟩ ?_
    dsimp only [Has, Fact.eq]
    intro e ρ w' hc hf hg hG h85 h93
    go_simp
    with_reducible rfl
  case oa22 =>
    refine ask_val [.op 94 21 (Fact.eq _)] rfl 95 rfl (.inl rfl) ⟨⟨by kernel_rfl, rfl⟩, trivial⟩ ?_
    dsimp only [Has, Fact.eq]
    intro e ρ w' hc hf hg hG h94
    go_simp
    with_reducible rfl
  case oa23 =>
    refine ask_val [.fix 10 _] rfl 96 rfl (.inr ⟨22, false, rfl, by kernel_rfl, rfl⟩) ⟨⟨by kernel_rfl, by conv => lhs; whnf⟩, trivial⟩ ?_
    dsimp only [Has, Fact.eq]
    intro e ρ w' hc hf hg hG h10
    go_simp
    with_reducible rfl
  case oa24 =>
    refine ask_val [.fix 12 _] rfl 97 rfl (.inr ⟨22, false, rfl, by kernel_rfl, rfl⟩) ⟨⟨by kernel_rfl, by conv => lhs; whnf⟩, trivial⟩ ?_
    dsimp only [Has, Fact.eq]
    intro e ρ w' hc hf hg hG h12
    go_simp
    with_reducible rfl
  case oa25 =>
    refine ask_val [.op 96 23 (Fact.eq _), .op 97 24 (Fact.eq _)] rfl 98 rfl (.inr ⟨22, false, rfl, by kernel_rfl, rfl⟩) ⟨⟨by kernel_rfl, rfl⟩, ⟨by kernel_rfl, rfl⟩, trivial⟩ ?_
    dsimp only [Has, Fact.eq]
    intro e ρ w' hc hf hg hG h96 h97
    go_simp
    with_reducible rfl
  case oa26 =>
    refine ask_val [.fix 8 _] rfl 99 rfl (.inr ⟨22, false, rfl, by kernel_rfl, rfl⟩) ⟨⟨by kernel_rfl, by conv => lhs; whnf⟩, trivial⟩ ?_
    dsimp only [Has, Fact.eq]
    intro e ρ w' hc hf hg hG h8
    go_simp
    with_reducible rfl
  case oa27 =>
    refine ask_call [.op 98 25 (Fact.eq _), .op 99 26 (Fact.eq _)] rfl 100 rfl (.inr ⟨22, false, rfl, by kernel_rfl, rfl⟩) ⟨⟨by kernel_rfl, rfl⟩, ⟨by kernel_rfl, rfl⟩, trivial⟩ 0 0 (by kernel_rfl) 12 Tryd.func12 (by kernel_rfl) rfl rfl ?_
    dsimp only [Has, Fact.eq]
    intro e ρ w' hp hq hc hf hg hG h98 h99
    obtain rfl : e = 0 := by omega
    have hx := C_suf (c := n + m.length) hG.2.out.2.2.2 (Nat.le_refl _) (Nat.le_add_right _ _) HJZ.out
    rw [if_neg (by omega)] at hx
    have hy : Kd.C k42 w' (some adm) (m.map tokS).length (m.map tokS) := by rw [HML.out]; exact hG.2.out.2.2.1
    have hs := same_calls ((m.map (TokA.shift (one.size + 1))).map tokS) (m.map tokS) (some (adJ.add (n * 4))) (some adm) m.length m.length false w' hx (by simp only [List.length_map, List.length_take, HJL.out, HN.out]; omega) hy (by simp only [List.length_map, List.length_take, HJL.out, HN.out]; omega) (by simp only [List.length_map, List.length_take, HJL.out, HN.out]; omega)
    rw [HZL.out, HML.out, HSB.out] at hs
    refine ⟨_, by simp only [List.map_toArray, List.map_cons, List.map_nil, hc, h98, h99], hs.mono ?_⟩
    rintro en w2 ⟨rfl, nd, rfl⟩
    exact ⟨_, rfl, rfl, pw_below_drewN (Below.refl _ _) nd⟩
  case oa28 =>
    refine ask_val [.op 100 27 (Fact.eq _)] rfl 101 rfl (.inr ⟨22, false, rfl, by kernel_rfl, rfl⟩) ⟨⟨by kernel_rfl, rfl⟩, trivial⟩ ?_
    dsimp only [Has, Fact.eq]
    intro e ρ w' hc hf hg hG h100
    go_simp
    with_reducible rfl
  case oa29 =>
    refine ask_val [.op 95 22 (Fact.eq _), .op 101 28 (Fact.eq _)] rfl 102 rfl (.inl rfl) ⟨⟨by kernel_rfl, rfl⟩, ⟨by kernel_rfl, rfl⟩, trivial⟩ ?_
    dsimp only [Has, Fact.eq]
    intro e ρ w' hc hf hg hG h95 h101
    go_simp
    with_reducible rfl
  case fina =>
    intro w' hG
    refine fin_eq (fin_eq (fin_eq (fin_eq (fin_eq (fin_eq (fin_eq (fin_eq (fin_eq (fin_eq (fin_eq (fin_eq (fin_eq (fin_eq (fin_eq (fin_eq (fin_eq (fin_eq (fin_eq (fin_eq (fin_eq (fin_eq (fin_eq (fin_eq (fin_eq (fin_eq (fin_eq (fin_eq (fin_eq (fin_eq (fin_nil (a' := ?_) ?_ ?_))))))))))))))))))))))))))))))
    rotate_left
    · simp only [Act.put, List.setIfInBounds_toArray, List.set_cons_zero, List.set_cons_succ]
      rfl
    obtain ⟨_, HR⟩ := hG
    clear hw d2 d0 d1
    go_wp2_with fail
    go_loopw [13] (fun v13 wr => ∃ i : Nat, v13 = .int .i64 (i : Int) ∧ i ≤ m.length ∧ Aside0 (Below w.heap.size w wr ∧ Kd.C k42 wr A (n + 1) (l.map tokS) ∧ Kd.C k42 wr (some adm) m.length (m.map tokS) ∧ Kd.C k42 wr (some adJ) (n + m.length) (J.map tokS))) (fun v13 _ => m.length - (intOf v13).toNat)
    case atStart => exact ⟨0, rfl, Nat.zero_le _, HR⟩
    case round =>
      clear HR HW1 HW2 HW3 HB3 HC HC2
      obtain ⟨i, rfl, hi, HR⟩ := hrel
      by_cases hlt : i < m.length
      · have b1 : decide ((i : Int) < (m.length : Int)) = true := decide_eq_true (by omega)
        obtain ⟨t, ht⟩ : ∃ t, m[i]? = some t := ⟨m[i]'hlt, List.getElem?_eq_getElem hlt⟩
        have hpt : t.place ≤ two.size := by obtain ⟨p, h1, h2, _⟩ := HX2.out.place t (List.mem_of_getElem? ht); rw [bl_len] at h2; omega
        obtain ⟨_, _, _, f3⟩ := tok_at HR.out.2.2.1 _ _ ht
        obtain ⟨_, _, _, e3'⟩ := tok_at HR.out.2.2.2 _ _ (HJM.out i t ht)
        have e3 : wr.cell? ⟨(adJ.add ((n + i) * 4)).block, (adJ.add ((n + i) * 4)).off + 3, none⟩ = some (.int .i64 ((t.place : Int) + (one.size : Int) + 1)) := by
          rw [e3']; congr 2
        clear e3' ht
        have hi1 : (i : Int) < (m.length : Int) := by omega
        have hi2 : (0 : Int) ≤ (n : Int) + (i : Int) := by omega
        have hi3 : (n : Int) + (i : Int) < (n : Int) + (m.length : Int) := by omega
        have hi4 : ((n : Int) + (i : Int)).toNat = n + i := by omega
        go_wp2_with fail
        have hw1 : IntKind.i64.wrap ((n : Int) + (i : Int)) = (n : Int) + (i : Int) := by rw [i64_w]; unfold wrap64; omega
        have hw2 : IntKind.i64.wrap ((t.place : Int) + (one.size : Int)) = (t.place : Int) + (one.size : Int) := by rw [i64_w]; unfold wrap64; omega
        have hw3 : IntKind.i64.wrap ((t.place : Int) + (one.size : Int) + 1) = (t.place : Int) + (one.size : Int) + 1 := by rw [i64_w]; unfold wrap64; omega
        refine region_facts (ws := []) (G := fun _ w' => w'.cell? ⟨(adJ.add ((n + i) * 4)).block, (adJ.add ((n + i) * 4)).off + 3, none⟩ = some (.int .i64 ((t.place : Int) + (one.size : Int) + 1)) ∧ w'.cell? ⟨(adm.add (i * 4)).block, (adm.add (i * 4)).off + 3, none⟩ = some (.int .i64 (t.place : Int)) ∧ Aside0 (Below w.heap.size w w' ∧ Kd.C k42 w' A (n + 1) (l.map tokS) ∧ Kd.C k42 w' (some adm) (m.length) (m.map tokS) ∧ Kd.C k42 w' (some adJ) (n + m.length) (J.map tokS))) (φs := [Fact.eq ?vb0, Fact.eq ?vb1, Fact.eq ?vb2, Fact.eq ?vb3, Fact.eq ?vb4, Fact.eq ?vb5, Fact.eq ?vb6, Fact.eq ?vb7, Fact.eq ?vb8, Fact.eq ?vb9, Fact.eq ?vb10, Fact.eq ?vb11, Fact.eq ?vb12, Fact.eq ?vb13, Fact.eq ?vb14, Fact.eq ?vb15, Fact.eq ?vb16]) (n := 17) (m := 126) (by kernel_rfl) (by kernel_rfl) rfl rfl (by kernel_rfl) (fun _ _ _ h hb => ⟨pw_cell_below hb h.1, pw_cell_below hb h.2.1, ⟨⟨below_then h.2.2.out.1 h.2.2.out.1.size hb, Kd.C_below h.2.2.out.2.1 hb, Kd.C_below h.2.2.out.2.2.1 hb, Kd.C_below h.2.2.out.2.2.2 hb⟩⟩⟩) (⟨e3, f3, ⟨⟨below_drew HR.out.1, Kd.C_below HR.out.2.1 (below_drew (Below.refl _ _)), Kd.C_below HR.out.2.2.1 (below_drew (Below.refl _ _)), Kd.C_below HR.out.2.2.2 (below_drew (Below.refl _ _))⟩⟩⟩) ⟨?ob0, ?ob1, ?ob2, ?ob3, ?ob4, ?ob5, ?ob6, ?ob7, ?ob8, ?ob9, ?ob10, ?ob11, ?ob12, ?ob13, ?ob14, ?ob15, ?ob16, trivial⟩ ?finb
        case ob0 =>
          refine ask_val [.fix 10 _] rfl 109 rfl (.inl rfl) ⟨⟨by kernel_rfl, by conv => lhs; whnf⟩, trivial⟩ ?_
          dsimp only [Has, Fact.eq]
          intro e ρ w' hc hf hg hG h10
          go_simp
          with_reducible rfl
        case ob1 =>
          refine ask_val [.fix 12 _] rfl 110 rfl (.inl rfl) ⟨⟨by kernel_rfl, by conv => lhs; whnf⟩, trivial⟩ ?_
          dsimp only [Has, Fact.eq]
          intro e ρ w' hc hf hg hG h12
          go_simp
          with_reducible rfl
        case ob2 =>
          refine ask_val [.fix 13 _] rfl 111 rfl (.inl rfl) ⟨⟨by kernel_rfl, by conv => lhs; whnf⟩, trivial⟩ ?_
          dsimp only [Has, Fact.eq]
          intro e ρ w' hc hf hg hG h13
          go_simp
          with_reducible rfl
        case ob3 =>
          refine ask_val [.op 110 1 (Fact.eq _), .op 111 2 (Fact.eq _)] rfl 112 rfl (.inl rfl) ⟨⟨by kernel_rfl, rfl⟩, ⟨by kernel_rfl, rfl⟩, trivial⟩ ?_
          dsimp only [Has, Fact.eq]
          intro e ρ w' hc hf hg hG h110 h111
          go_simp
          with_reducible rfl
        case ob4 =>
          refine ask_val [.op 109 0 (Fact.eq _), .op 112 3 (Fact.eq _)] rfl 113 rfl (.inl rfl) ⟨⟨by kernel_rfl, rfl⟩, ⟨by kernel_rfl, rfl⟩, trivial⟩ ?_
          dsimp only [Has, Fact.eq]
          intro e ρ w' hc hf hg hG h109 h112
          go_simp
          with_reducible rfl
        case ob5 =>
          refine ask_val [.op 113 4 (Fact.eq _)] rfl 114 rfl (.inl rfl) ⟨⟨by kernel_rfl, rfl⟩, trivial⟩ ?_
          dsimp only [Has, Fact.eq]
          intro e ρ w' hc hf hg hG h113
          go_simp
          with_reducible rfl
        case ob6 =>
          refine ask_val [.op 114 5 (Fact.eq _)] rfl 115 rfl (.inl rfl) ⟨⟨by kernel_rfl, rfl⟩, trivial⟩ ?_
          dsimp only [Has, Fact.eq]
          intro e ρ w' hc hf hg hG h114
          obtain ⟨s0, s1, s2⟩ := hG
          go_simp
          with_reducible rfl
        case ob7 =>
          refine ask_val [.fix 8 _] rfl 116 rfl (.inl rfl) ⟨⟨by kernel_rfl, by conv => lhs; whnf⟩, trivial⟩ ?_
          dsimp only [Has, Fact.eq]
          intro e ρ w' hc hf hg hG h8
          go_simp
          with_reducible rfl
        case ob8 =>
          refine ask_val [.fix 13 _] rfl 117 rfl (.inl rfl) ⟨⟨by kernel_rfl, by conv => lhs; whnf⟩, trivial⟩ ?_
          dsimp only [Has, Fact.eq]
          intro e ρ w' hc hf hg hG h13
          go_simp
          with_reducible rfl
        case ob9 =>
          refine ask_val [.op 116 7 (Fact.eq _), .op 117 8 (Fact.eq _)] rfl 118 rfl (.inl rfl) ⟨⟨by kernel_rfl, rfl⟩, ⟨by kernel_rfl, rfl⟩, trivial⟩ ?_
          dsimp only [Has, Fact.eq]
          intro e ρ w' hc hf hg hG h116 h117
          go_simp
          with_reducible rfl
        case ob10 =>
          refine ask_val [.op 118 9 (Fact.eq _)] rfl 119 rfl (.inl rfl) ⟨⟨by kernel_rfl, rfl⟩, trivial⟩ ?_
          dsimp only [Has, Fact.eq]
          intro e ρ w' hc hf hg hG h118
          go_simp
          with_reducible rfl
        case ob11 =>
          refine ask_val [.op 119 10 (Fact.eq _)] rfl 120 rfl (.inl rfl) ⟨⟨by kernel_rfl, rfl⟩, trivial⟩ ?_
          dsimp only [Has, Fact.eq]
          intro e ρ w' hc hf hg hG h119
          obtain ⟨s0, s1, s2⟩ := hG
          go_simp
          with_reducible rfl
        case ob12 =>
          refine ask_val [.fix 0 _] rfl 121 rfl (.inl rfl) ⟨⟨by kernel_rfl, by conv => lhs; whnf⟩, trivial⟩ ?_
          dsimp only [Has, Fact.eq]
          intro e ρ w' hc hf hg hG h0
          go_simp
          with_reducible rfl
        case ob13 =>
          refine ask_val [.op 121 12 (Fact.eq _)] rfl 122 rfl (.inl rfl) ⟨⟨by kernel_rfl, rfl⟩, trivial⟩ ?_
          dsimp only [Has, Fact.eq]
          intro e ρ w' hc hf hg hG h121
          go_simp
          with_reducible rfl
        case ob14 =>
          refine ask_val [.op 120 11 (Fact.eq _), .op 122 13 (Fact.eq _)] rfl 123 rfl (.inl rfl) ⟨⟨by kernel_rfl, rfl⟩, ⟨by kernel_rfl, rfl⟩, trivial⟩ ?_
          dsimp only [Has, Fact.eq]
          intro e ρ w' hc hf hg hG h120 h122
          go_simp
          with_reducible rfl
        case ob15 =>
          refine ask_val [.op 123 14 (Fact.eq _)] rfl 124 rfl (.inl rfl) ⟨⟨by kernel_rfl, rfl⟩, trivial⟩ ?_
          dsimp only [Has, Fact.eq]
          intro e ρ w' hc hf hg hG h123
          go_simp
          with_reducible rfl
        case ob16 =>
          refine ask_val [.op 115 6 (Fact.eq _), .op 124 15 (Fact.eq _)] rfl 125 rfl (.inl rfl) ⟨⟨by kernel_rfl, rfl⟩, ⟨by kernel_rfl, rfl⟩, trivial⟩ ?_
          dsimp only [Has, Fact.eq]
          intro e ρ w' hc hf hg hG h115 h124
          go_simp
          with_reducible rfl
        case finb =>
          intro w' hG
          refine fin_eq (fin_eq (fin_eq (fin_eq (fin_eq (fin_eq (fin_eq (fin_eq (fin_eq (fin_eq (fin_eq (fin_eq (fin_eq (fin_eq (fin_eq (fin_eq (fin_eq (fin_nil (a' := ?_) ?_ ?_)))))))))))))))))
          rotate_left
          · simp only [Act.put, List.setIfInBounds_toArray, List.set_cons_zero, List.set_cons_succ]
            rfl
          clear hw1 hw2 hw3
          obtain ⟨_, _, HR⟩ := hG
          go_wp2_with fail
          refine ⟨⟨i + 1, by go_num, by omega, HR⟩, by simp [intOf]; omega⟩
      · obtain rfl : i = m.length := by omega
        have b1 : decide ((m.length : Int) < (m.length : Int)) = false := decide_eq_false (by omega)
        go_wp2_with fail
        go_ret
        exact ⟨rfl, HR.out.1⟩
theorem joined_law (one two : ByteArray) (w : World) (E : Erg w) : Calls Tryd.prog 8 #[.string one, .string two] w fun e w' => e = .returned (.bool true) ∧ Below w.heap.size w w' := by
  cases hq : tokensS (bl one) with
  | inr a => exact joined_bad1 one two a hq w E
  | inl l =>
    cases hq2 : tokensS (bl two) with
    | inr a => exact joined_bad2 one two l hq a hq2 w E
    | inl m =>
      by_cases hsz : 4096 < one.size + 1 + two.size
      · exact joined_long one two l m hq hq2 hsz w E
      · exact joined_good one two l m hq hq2 (by omega) w E
end Go.Proofs.YtjibdaigclgmhaaDoor.LexW
