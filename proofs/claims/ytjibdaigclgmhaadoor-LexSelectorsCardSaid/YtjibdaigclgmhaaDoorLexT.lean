/- LexSelectors, walked: the law answers true for every text. Conditions: those that each theorem states. -/
import Derived.Test.YtjibdaigclgmhaaDoorLexL
namespace Go.Proofs.YtjibdaigclgmhaaDoor.LexW
open Go.RowKit Go.Maps Go.Proofs.YtjibdaigclgmhaaDoor.Lex Go.Proofs.YtjibdaigclgmhaaDoor.PLexTokens Go.Proofs.YtjibdaigclgmhaaDoorW.PrintWords Go.Proofs.YtjibdaigclgmhaaDoorW.PrintLast Go.Proofs.YtjibdaigclgmhaaDoorW.PrintMore Go.Proofs.YtjibdaigclgmhaaDoor.Facts
attribute [local go_sem] max2_int min2_int max_two min_two max_three min_three max_four min_four
set_option linter.unusedVariables false
set_option linter.unusedSimpArgs false
theorem tokens_any (s : ByteArray) (w : World) (E : Erg w) : Calls Tryd.prog 11 #[.string s] w fun en w' => ∃ A n c p, en = .returned (.tuple #[.slice A n n, .agg #[.int .i64 c, .int .i64 p]]) ∧ Below w.heap.size w w' := by
  refine (tokens_calls s w E).mono ?_
  rintro en w' h
  cases hq : tokensS (bl s) with
  | inl l => rw [hq] at h; obtain ⟨⟨A, c, he, _⟩, hb⟩ := h; exact ⟨A, _, _, _, he, hb⟩
  | inr a => rw [hq] at h; obtain ⟨he, hb⟩ := h; exact ⟨none, 0, _, _, he, hb⟩
set_option maxHeartbeats 4000000 in
set_option maxRecDepth 1000000 in
theorem selectors_none (s : ByteArray) (hs : s.size ≤ 140737488351232) (hq : selector (bl s) = none) (w : World) (E : Erg w) : Calls Tryd.prog 7 #[.string s] w fun e w' => e = .returned (.bool true) ∧ Below w.heap.size w w' := by
  have hsl := selector_calls s (by omega)
  rw [hq] at hsl
  have hsl' : ∀ W, Calls Tryd.prog 17 #[.string s] W fun e w' => e = .returned (.tuple #[.int .i64 0, .int .i64 1]) ∧ Below W.heap.size W w' := fun W => hsl W
  have HSL := Aside0.mk hsl'
  have HE := Aside0.mk E
  clear E hq hsl hsl'
  go_enter Tryd.func7, Tryd.ntmps7
  go_wp2_with fail
  refine (known_calls _ HE.out).mono ?_
  rintro e w1 ⟨rfl, hb⟩
  have HW := Aside0.mk hb
  clear hb
  go_wp2_with (first
    | (go_at_call 17; refine (HSL.out _).mono ?_; rintro e w1 ⟨rfl, hb⟩; replace HW := Aside0.mk (below_then HW.out HW.out.size hb); clear hb)
    | (go_at_call 20; refine (num_calls _ _).mono ?_; rintro e w1 ⟨rfl, hb⟩; replace HW := Aside0.mk (below_then HW.out HW.out.size hb); clear hb))
  go_ret
  exact ⟨rfl, HW.out⟩
set_option maxHeartbeats 4000000 in
set_option maxRecDepth 1000000 in
theorem selectors_long (s : ByteArray) (hs : s.size ≤ 140737488351232) (n : Nat) (hq : selector (bl s) = some n) (hl : 4096 ≤ s.size) (w : World) (E : Erg w) : Calls Tryd.prog 7 #[.string s] w fun e w' => e = .returned (.bool true) ∧ Below w.heap.size w w' := by
  have hsl := selector_calls s (by omega)
  rw [hq] at hsl
  have hsl' : ∀ W, Calls Tryd.prog 17 #[.string s] W fun e w' => e = .returned (.tuple #[.int .i64 (n : Int), .int .i64 0]) ∧ Below W.heap.size W w' := fun W => hsl W
  have HSL := Aside0.mk hsl'
  have HE := Aside0.mk E
  have b1 : decide ((4096 : Int) ≤ (s.size : Int)) = true := decide_eq_true (by omega)
  have c1 : ¬ (9223372036854775807 < 1 + s.size) := by omega
  clear E hq hsl hsl'
  go_enter Tryd.func7, Tryd.ntmps7
  go_wp2_with fail
  refine (known_calls _ HE.out).mono ?_
  rintro e w1 ⟨rfl, hb⟩
  have HW := Aside0.mk hb
  clear hb
  go_wp2_with (first
    | (go_at_call 17; refine (HSL.out _).mono ?_; rintro e w1 ⟨rfl, hb⟩; replace HW := Aside0.mk (below_then HW.out HW.out.size hb); clear hb)
    | (go_at_call 20; refine (num_calls _ _).mono ?_; rintro e w1 ⟨rfl, hb⟩; replace HW := Aside0.mk (below_then HW.out HW.out.size hb); clear hb))
  refine (tokens_any _ _ (HE.out.below HW.out)).mono ?_
  rintro e w3 ⟨A1, n1, p1, q1, rfl, hb⟩
  replace HW := Aside0.mk ((below_then HW.out HW.out.size hb).alloc (by exact (below_then HW.out HW.out.size hb).size) (.cells #[.int .i64 p1, .int .i64 q1] 25 (0, 0)))
  clear hb
  go_wp2_with fail
  refine (tokens_any _ _ (HE.out.below HW.out)).mono ?_
  rintro e w4 ⟨A2, n2, p2, q2, rfl, hb⟩
  replace HW := Aside0.mk ((below_then HW.out HW.out.size hb).alloc (by exact (below_then HW.out HW.out.size hb).size) (.cells #[.int .i64 p2, .int .i64 q2] 25 (0, 0)))
  clear hb
  go_wp2_with fail
  go_ret
  exact ⟨rfl, HW.out⟩
theorem bl_str (l : List UInt8) : bl ⟨l.toArray⟩ = l := by simp [bl]
theorem str_bl (s : ByteArray) : (⟨(bl s).toArray⟩ : ByteArray) = s := by apply bl_inj; simp [bl]
/-- both lists' answers, where they are lists, up to the tests of the law -/
theorem hash_tokens {s : ByteArray} {n : Nat} (hq : selector (bl s) = some n) (hl : s.size < 4096) : tokensS (bl (⟨#[35]⟩ ++ s)) = .inl [⟨⟨5, bl s, 0⟩, 0⟩, ⟨stopT, s.size + 1⟩] := by
  have h := (selector_law (bl s) n hq).1
  have e : bl (⟨#[35]⟩ ++ s) = 35 :: bl s := by simp [bl]
  rw [e]
  rw [bl_len] at h
  exact tokensS_of h (by rw [List.length_cons, bl_len]; omega)
set_option maxHeartbeats 4000000 in
set_option maxRecDepth 1000000 in
theorem selectors_name (s : ByteArray) (hq : selector (bl s) = some 0) (hl : s.size < 4096) (hx : tokensS (bl s) = .inl [⟨⟨1, bl s, 0⟩, 0⟩, ⟨stopT, s.size⟩]) (hv : varCode (bl s) = 0) (w : World) (E : Erg w) : Calls Tryd.prog 7 #[.string s] w fun e w' => e = .returned (.bool true) ∧ Below w.heap.size w w' := by
  have hsl := selector_calls s (by omega)
  rw [hq] at hsl
  have hsl' : ∀ W, Calls Tryd.prog 17 #[.string s] W fun e w' => e = .returned (.tuple #[.int .i64 0, .int .i64 0]) ∧ Below W.heap.size W w' := fun W => hsl W
  have hvc := variable_calls s
  rw [hv] at hvc
  have HVC := Aside0.mk hvc
  have HSL := Aside0.mk hsl'
  have HE := Aside0.mk E
  have HH := Aside0.mk (hash_tokens hq hl)
  have HX := Aside0.mk hx
  have b1 : decide ((4096 : Int) ≤ (s.size : Int)) = false := decide_eq_false (by omega)
  have c1 : ¬ (9223372036854775807 < 1 + s.size) := by omega
  clear E hq hsl hsl' hx hv hvc
  go_enter Tryd.func7, Tryd.ntmps7
  go_wp2_with fail
  refine (known_calls _ HE.out).mono ?_
  rintro e w1 ⟨rfl, hb⟩
  have HW := Aside0.mk hb
  clear hb
  go_wp2_with (first
    | (go_at_call 17; refine (HSL.out _).mono ?_; rintro e w1 ⟨rfl, hb⟩; replace HW := Aside0.mk (below_then HW.out HW.out.size hb); clear hb)
    | (go_at_call 20; refine (num_calls _ _).mono ?_; rintro e w1 ⟨rfl, hb⟩; replace HW := Aside0.mk (below_then HW.out HW.out.size hb); clear hb))
  refine (tokens_list HX.out 0 _ (HE.out.below HW.out)).mono ?_
  rintro e w3 ⟨_, rfl, ⟨A1, rfl, hC⟩, hb⟩
  obtain ⟨ad1, rfl⟩ : ∃ ad, A1 = some ad := by obtain ⟨x, h, _⟩ := hC.2.2 (by show 0 < 2; omega); exact ⟨x, h⟩
  have hl2 : ([⟨⟨1, bl s, 0⟩, 0⟩, ⟨stopT, s.size⟩] : List TokA).length = 2 := rfl
  rw [hl2]
  have hk := Aside0.mk (blk_new w3 (.cells #[.int .i64 0, .int .i64 0] 25 (0, 0)))
  have HC := Aside0.mk hC
  replace HW := Aside0.mk ((below_then HW.out HW.out.size hb).alloc (by exact (below_then HW.out HW.out.size hb).size) (.cells #[.int .i64 0, .int .i64 0] 25 (0, 0)))
  clear hb hC hl2
  go_wp2_with fail
  refine (tokens_list HH.out 0 _ (HE.out.below HW.out)).mono ?_
  rintro e w4 ⟨_, rfl, ⟨A2, rfl, hC⟩, hb⟩
  obtain ⟨ad2, rfl⟩ : ∃ ad, A2 = some ad := by obtain ⟨x, h, _⟩ := hC.2.2 (by show 0 < 2; omega); exact ⟨x, h⟩
  have hl2 : ([⟨⟨5, bl s, 0⟩, 0⟩, ⟨stopT, s.size + 1⟩] : List TokA).length = 2 := rfl
  rw [hl2]
  have g4 := below_then (below_alloc (Below.refl w3.heap.size w3) (.cells #[.int .i64 0, .int .i64 0] 25 (0, 0))) (by simp) hb
  have hk3 := blk_alloc (blk_below hk.out hb) (.cells #[.int .i64 0, .int .i64 0] 25 (0, 0))
  have hk4 := blk_new w4 (.cells #[.int .i64 0, .int .i64 0] 25 (0, 0))
  have d0 := blk_cell hk3 0
  have d1 := blk_cell hk4 0
  obtain ⟨e0, e1, _, _⟩ := tok_at (Kd.C_below HC.out (g4.alloc g4.size (.cells #[.int .i64 0, .int .i64 0] 25 (0, 0)))) 0 _ rfl
  obtain ⟨f0, f1, _, _⟩ := tok_at (Kd.C_below hC (below_alloc (Below.refl w4.heap.size w4) (.cells #[.int .i64 0, .int .i64 0] 25 (0, 0)))) 0 _ rfl
  rw [Nat.zero_mul, add0] at e0 e1 f0 f1
  rw [str_bl] at e1 f1
  replace HW := Aside0.mk ((below_then HW.out HW.out.size hb).alloc (by exact (below_then HW.out HW.out.size hb).size) (.cells #[.int .i64 0, .int .i64 0] 25 (0, 0)))
  clear hb hC hl2 hk3 hk4 hk g4 HC
  go_wp2_with (first
    | (go_at_call 19; refine (HVC.out _).mono ?_; rintro e w1 ⟨rfl, hb⟩; have E0 := pw_cell_below hb e0; have E1 := pw_cell_below hb e1; clear e0 e1 f0 f1 d0 d1; replace HW := Aside0.mk (below_then HW.out HW.out.size hb); clear hb)
    | (go_at_call 20; refine (num_calls _ _).mono ?_; rintro e w1 ⟨rfl, hb⟩; replace HW := Aside0.mk (below_then HW.out HW.out.size hb); clear hb))
  go_ret
  exact ⟨by simp, HW.out⟩
set_option maxHeartbeats 4000000 in
set_option maxRecDepth 1000000 in
theorem selectors_sign (s : ByteArray) (hq : selector (bl s) = some 1) (hl : s.size < 4096) (hx : tokensS (bl s) = .inl [⟨⟨3, bl s, 0⟩, 0⟩, ⟨stopT, s.size⟩]) (w : World) (E : Erg w) : Calls Tryd.prog 7 #[.string s] w fun e w' => e = .returned (.bool true) ∧ Below w.heap.size w w' := by
  have hsl := selector_calls s (by omega)
  rw [hq] at hsl
  have hsl' : ∀ W, Calls Tryd.prog 17 #[.string s] W fun e w' => e = .returned (.tuple #[.int .i64 1, .int .i64 0]) ∧ Below W.heap.size W w' := fun W => hsl W
  have HSL := Aside0.mk hsl'
  have HE := Aside0.mk E
  have HH := Aside0.mk (hash_tokens hq hl)
  have HX := Aside0.mk hx
  have b1 : decide ((4096 : Int) ≤ (s.size : Int)) = false := decide_eq_false (by omega)
  have c1 : ¬ (9223372036854775807 < 1 + s.size) := by omega
  clear E hq hsl hsl' hx
  go_enter Tryd.func7, Tryd.ntmps7
  go_wp2_with fail
  refine (known_calls _ HE.out).mono ?_
  rintro e w1 ⟨rfl, hb⟩
  have HW := Aside0.mk hb
  clear hb
  go_wp2_with (first
    | (go_at_call 17; refine (HSL.out _).mono ?_; rintro e w1 ⟨rfl, hb⟩; replace HW := Aside0.mk (below_then HW.out HW.out.size hb); clear hb)
    | (go_at_call 20; refine (num_calls _ _).mono ?_; rintro e w1 ⟨rfl, hb⟩; replace HW := Aside0.mk (below_then HW.out HW.out.size hb); clear hb))
  refine (tokens_list HX.out 0 _ (HE.out.below HW.out)).mono ?_
  rintro e w3 ⟨_, rfl, ⟨A1, rfl, hC⟩, hb⟩
  obtain ⟨ad1, rfl⟩ : ∃ ad, A1 = some ad := by obtain ⟨x, h, _⟩ := hC.2.2 (by show 0 < 2; omega); exact ⟨x, h⟩
  have hl2 : ([⟨⟨3, bl s, 0⟩, 0⟩, ⟨stopT, s.size⟩] : List TokA).length = 2 := rfl
  rw [hl2]
  have hk := Aside0.mk (blk_new w3 (.cells #[.int .i64 0, .int .i64 0] 25 (0, 0)))
  have HC := Aside0.mk hC
  replace HW := Aside0.mk ((below_then HW.out HW.out.size hb).alloc (by exact (below_then HW.out HW.out.size hb).size) (.cells #[.int .i64 0, .int .i64 0] 25 (0, 0)))
  clear hb hC hl2
  go_wp2_with fail
  refine (tokens_list HH.out 0 _ (HE.out.below HW.out)).mono ?_
  rintro e w4 ⟨_, rfl, ⟨A2, rfl, hC⟩, hb⟩
  obtain ⟨ad2, rfl⟩ : ∃ ad, A2 = some ad := by obtain ⟨x, h, _⟩ := hC.2.2 (by show 0 < 2; omega); exact ⟨x, h⟩
  have hl2 : ([⟨⟨5, bl s, 0⟩, 0⟩, ⟨stopT, s.size + 1⟩] : List TokA).length = 2 := rfl
  rw [hl2]
  have g4 := below_then (below_alloc (Below.refl w3.heap.size w3) (.cells #[.int .i64 0, .int .i64 0] 25 (0, 0))) (by simp) hb
  have hk3 := blk_alloc (blk_below hk.out hb) (.cells #[.int .i64 0, .int .i64 0] 25 (0, 0))
  have hk4 := blk_new w4 (.cells #[.int .i64 0, .int .i64 0] 25 (0, 0))
  have d0 := blk_cell hk3 0
  have d1 := blk_cell hk4 0
  obtain ⟨e0, e1, _, _⟩ := tok_at (Kd.C_below HC.out (g4.alloc g4.size (.cells #[.int .i64 0, .int .i64 0] 25 (0, 0)))) 0 _ rfl
  obtain ⟨f0, f1, _, _⟩ := tok_at (Kd.C_below hC (below_alloc (Below.refl w4.heap.size w4) (.cells #[.int .i64 0, .int .i64 0] 25 (0, 0)))) 0 _ rfl
  rw [Nat.zero_mul, add0] at e0 e1 f0 f1
  rw [str_bl] at e1 f1
  replace HW := Aside0.mk ((below_then HW.out HW.out.size hb).alloc (by exact (below_then HW.out HW.out.size hb).size) (.cells #[.int .i64 0, .int .i64 0] 25 (0, 0)))
  clear hb hC hl2 hk3 hk4 hk g4 HC
  go_wp2_with fail
  go_ret
  exact ⟨by simp, HW.out⟩
set_option maxHeartbeats 4000000 in
set_option maxRecDepth 1000000 in
theorem selectors_keys (s : ByteArray) (n : Nat) (hn : 0 < n) (hq : selector (bl s) = some n) (hl : s.size < 4096) (wl : List (List UInt8)) (m : List TokA) (hwl : wl.length = n) (hx : tokensS (bl s) = .inl (m ++ [⟨stopT, s.size⟩])) (hm : m.map (fun t => t.tok) = wl.map (fun w => ⟨2, w, 0⟩)) (hf : (wl.map (fun w => w ++ [58])).flatten = bl s) (c2 : ((n : Int) + 1 == 2) = true ∨ ((n : Int) + 1 == 2) = false) (w : World) (E : Erg w) : Calls Tryd.prog 7 #[.string s] w fun e w' => e = .returned (.bool true) ∧ Below w.heap.size w w' := by
  have hsl := selector_calls s (by omega)
  rw [hq] at hsl
  have hsl' : ∀ W, Calls Tryd.prog 17 #[.string s] W fun e w' => e = .returned (.tuple #[.int .i64 (n : Int), .int .i64 0]) ∧ Below W.heap.size W w' := fun W => hsl W
  have HSL := Aside0.mk hsl'
  have HE := Aside0.mk E
  have HH := Aside0.mk (hash_tokens hq hl)
  have HX := Aside0.mk hx
  have hml : m.length = n := by have := congrArg List.length hm; simpa [hwl] using this
  have hw0 : ∃ v, wl[0]? = some v := ⟨wl[0]'(by omega), List.getElem?_eq_getElem (by omega)⟩
  have HMT : Aside0 (∀ (i : Nat) (v : List UInt8), wl[i]? = some v → ∃ t : TokA, (m ++ [⟨stopT, s.size⟩])[i]? = some t ∧ t.tok = ⟨2, v, 0⟩) := ⟨fun i v h => by
    have h1 : (m.map (fun t => t.tok))[i]? = some (⟨2, v, 0⟩ : Tok) := by rw [hm, List.getElem?_map, h]; rfl
    rw [List.getElem?_map] at h1
    cases hmi : m[i]? with
    | none => rw [hmi] at h1; cases h1
    | some t =>
      rw [hmi] at h1
      have hlt := (List.getElem?_eq_some_iff.1 hmi).1
      exact ⟨t, by rw [List.getElem?_append_left hlt, hmi], by simpa using h1⟩⟩
  obtain ⟨v0, hv0⟩ := hw0
  obtain ⟨t0, ht0, ht0k⟩ := HMT.out 0 v0 hv0
  have HT0 := Aside0.mk ht0
  have HT0K := Aside0.mk ht0k
  have HF := Aside0.mk hf
  have b3 : ((n : Int) == 0) = false := by rw [beq_eq_false_iff_ne]; omega
  have hnb : n ≤ s.size + 1 := by
    have := Lexes_len (tokensS_inl hx).1
    rw [List.length_append, hml, bl_len] at this
    simp at this; omega
  have b1 : decide ((4096 : Int) ≤ (s.size : Int)) = false := decide_eq_false (by omega)
  have c1 : ¬ (9223372036854775807 < 1 + s.size) := by omega
  clear E hq hsl hsl' hx hm hf ht0 ht0k hv0
  go_enter Tryd.func7, Tryd.ntmps7
  go_wp2_with fail
  refine (known_calls _ HE.out).mono ?_
  rintro e w1 ⟨rfl, hb⟩
  have HW := Aside0.mk hb
  clear hb
  go_wp2_with (first
    | (go_at_call 17; refine (HSL.out _).mono ?_; rintro e w1 ⟨rfl, hb⟩; replace HW := Aside0.mk (below_then HW.out HW.out.size hb); clear hb)
    | (go_at_call 20; refine (num_calls _ _).mono ?_; rintro e w1 ⟨rfl, hb⟩; replace HW := Aside0.mk (below_then HW.out HW.out.size hb); clear hb))
  refine (tokens_list HX.out 0 _ (HE.out.below HW.out)).mono ?_
  rintro e w3 ⟨_, rfl, ⟨A1, rfl, hC⟩, hb⟩
  obtain ⟨ad1, rfl⟩ : ∃ ad, A1 = some ad := by obtain ⟨x, h, _⟩ := hC.2.2 (by rw [List.length_append, hml]; show 0 < n + 1; omega); exact ⟨x, h⟩
  have hl2 : (m ++ [⟨stopT, s.size⟩] : List TokA).length = n + 1 := by rw [List.length_append, hml]; rfl
  rw [hl2] at hC ⊢
  have hk := Aside0.mk (blk_new w3 (.cells #[.int .i64 0, .int .i64 0] 25 (0, 0)))
  have HC := Aside0.mk hC
  replace HW := Aside0.mk ((below_then HW.out HW.out.size hb).alloc (by exact (below_then HW.out HW.out.size hb).size) (.cells #[.int .i64 0, .int .i64 0] 25 (0, 0)))
  clear hb hC hl2
  go_wp2_with fail
  refine (tokens_list HH.out 0 _ (HE.out.below HW.out)).mono ?_
  rintro e w4 ⟨_, rfl, ⟨A2, rfl, hC⟩, hb⟩
  obtain ⟨ad2, rfl⟩ : ∃ ad, A2 = some ad := by obtain ⟨x, h, _⟩ := hC.2.2 (by show 0 < 2; omega); exact ⟨x, h⟩
  have hl2 : ([⟨⟨5, bl s, 0⟩, 0⟩, ⟨stopT, s.size + 1⟩] : List TokA).length = 2 := rfl
  rw [hl2]
  have g4 := below_then (below_alloc (Below.refl w3.heap.size w3) (.cells #[.int .i64 0, .int .i64 0] 25 (0, 0))) (by simp) hb
  have hk3 := blk_alloc (blk_below hk.out hb) (.cells #[.int .i64 0, .int .i64 0] 25 (0, 0))
  have hk4 := blk_new w4 (.cells #[.int .i64 0, .int .i64 0] 25 (0, 0))
  have d0 := blk_cell hk3 0
  have d1 := blk_cell hk4 0
  obtain ⟨e0, e1, _, _⟩ := tok_at (Kd.C_below HC.out (g4.alloc g4.size (.cells #[.int .i64 0, .int .i64 0] 25 (0, 0)))) 0 _ HT0.out
  obtain ⟨f0, f1, _, _⟩ := tok_at (Kd.C_below hC (below_alloc (Below.refl w4.heap.size w4) (.cells #[.int .i64 0, .int .i64 0] 25 (0, 0)))) 0 _ rfl
  rw [Nat.zero_mul, add0] at e0 e1 f0 f1
  rw [str_bl] at f1
  rw [HT0K.out] at e0 e1
  replace HW := Aside0.mk ((below_then HW.out HW.out.size hb).alloc (by exact (below_then HW.out HW.out.size hb).size) (.cells #[.int .i64 0, .int .i64 0] 25 (0, 0)))
  have HC5 := Aside0.mk (Kd.C_below HC.out (g4.alloc g4.size (.cells #[.int .i64 0, .int .i64 0] 25 (0, 0))))
  clear hb hC hl2 hk3 hk4 hk g4 HC
  obtain ⟨W5, hW5⟩ : ∃ W5, W5 = w4.alloc (.cells #[.int .i64 0, .int .i64 0] 25 (0, 0)) := ⟨_, rfl⟩
  have k2 : ((2 : Int) == 3) = false := rfl
  have hn1 : (0 : Int) < (n : Int) + 1 := by omega
  have hn2 : 0 < n + 1 := by omega
  rcases c2 with c2 | c2
  all_goals
    go_wp2_with fail
    clear e0 e1 f0 f1 d0 d1
    go_loopw [11, 12] (fun v11 v12 wr => ∃ (i : Nat) (S : ByteArray), v12 = .int .i64 (i : Int) ∧ i ≤ wl.length ∧ v11 = .string S ∧ Aside0 (bl S = ((wl.take i).map (fun w => w ++ [58])).flatten) ∧ Aside0 (Below w.heap.size w wr ∧ Kd.C k42 wr (some ad1) (wl.length + 1) ((m ++ [(⟨stopT, s.size⟩ : TokA)]).map tokS))) (fun _ v12 _ => wl.length - (intOf v12).toNat)
    case atStart => exact ⟨0, _, rfl, Nat.zero_le _, rfl, ⟨rfl⟩, ⟨HW.out, by rw [hwl]; exact HC5.out⟩⟩
    case round =>
      clear HW HC5
      obtain ⟨i, S, rfl, hi, rfl, HS, HR⟩ := hrel
      rw [hwl] at HR
      by_cases hlt : i < wl.length
      · obtain ⟨v, hv⟩ : ∃ v, wl[i]? = some v := ⟨wl[i]'hlt, List.getElem?_eq_getElem hlt⟩
        obtain ⟨t, ht, htk⟩ := HMT.out i v hv
        obtain ⟨e0, e1, _, _⟩ := tok_at HR.out.2 _ _ ht
        rw [htk] at e0 e1
        obtain ⟨V, hV⟩ : ∃ V : ByteArray, V = ⟨v.toArray⟩ := ⟨_, rfl⟩
        rw [← hV] at e1
        have hfl : ((wl.take (i + 1)).map (fun w => w ++ [58])).flatten = ((wl.take i).map (fun w => w ++ [58])).flatten ++ (v ++ [58]) := by
          rw [List.take_add_one, hv]; simp
        have hle : (((wl.take (i + 1)).map (fun w => w ++ [58])).flatten).length ≤ s.size := by
          rw [← bl_len s, ← HF.out]
          have h1 : wl = wl.take (i + 1) ++ wl.drop (i + 1) := (List.take_append_drop _ _).symm
          conv => rhs; rw [h1]
          rw [List.map_append, List.flatten_append, List.length_append]; omega
        have hS1 : S.size = (((wl.take i).map (fun w => w ++ [58])).flatten).length := by rw [← bl_len, HS.out]
        have hV1 : V.size = v.length := by rw [hV]; simp [ByteArray.size]
        have hsz : S.size + V.size + 1 ≤ s.size := by
          rw [hfl, List.length_append, List.length_append] at hle
          have h58 : ([58] : List UInt8).length = 1 := rfl
          omega
        have g1 : ¬ (9223372036854775807 < S.size + V.size) := by omega
        have g2 : ¬ (9223372036854775807 < S.size + V.size + 1) := by omega
        have HS2 : Aside0 (bl (S ++ V ++ ⟨#[58]⟩) = ((wl.take (i + 1)).map (fun w => w ++ [58])).flatten) := ⟨by
          rw [hfl, ← HS.out, hV]; simp [bl]⟩
        clear hfl hle hS1 hV1 hV htk ht hv HS
        have hin : i < n := by omega
        have hi1 : (i : Int) < (n : Int) := by omega
        have hi2 : (i : Int) < (n : Int) + 1 := by omega
        have hi3 : i < n + 1 := by omega
        go_wp2_with fail
        refine ⟨⟨i + 1, _, by go_num, by omega, rfl, HS2, HR.out.1, by rw [hwl]; exact HR.out.2⟩, by simp [intOf]; omega⟩
      · obtain rfl : i = wl.length := by omega
        have hSs : S = s := by apply bl_inj; rw [HS.out, List.take_length]; exact HF.out
        subst hSs
        clear HS
        rw [hwl] at *
        go_wp2_with fail
        go_ret
        exact ⟨by simp, HR.out.1⟩
theorem selectors_law (s : ByteArray) (hs : s.size ≤ 140737488351232) (w : World) (E : Erg w) : Calls Tryd.prog 7 #[.string s] w fun e w' => e = .returned (.bool true) ∧ Below w.heap.size w w' := by
  cases hq : selector (bl s) with
  | none => exact selectors_none s hs hq w E
  | some n =>
    by_cases hl : 4096 ≤ s.size
    · exact selectors_long s hs n hq hl w E
    · obtain ⟨_, h⟩ := selector_law (bl s) n hq
      have hb : (bl s).length ≤ 4096 := by rw [bl_len]; omega
      rw [bl_len] at h
      rcases h with ⟨rfl, h1, h2⟩ | ⟨rfl, h1⟩ | ⟨hn, wl, m, h1, h2, h3, h4⟩
      · exact selectors_name s hq (by omega) (tokensS_of h1 hb) h2 w E
      · exact selectors_sign s hq (by omega) (tokensS_of h1 hb) w E
      · exact selectors_keys s n hn hq (by omega) wl m h1 (tokensS_of h2 hb) h3 h4 (by cases ((n : Int) + 1 == 2) <;> simp) w E
end Go.Proofs.YtjibdaigclgmhaaDoor.LexW
