/- cutsTo and LexBack, walked: the law answers true. Conditions: those that each theorem states. -/
import Derived.Test.YtjibdaigclgmhaaDoorLexEE
namespace Go.Proofs.YtjibdaigclgmhaaDoor.LexW
open Go.RowKit Go.Proofs.YtjibdaigclgmhaaDoor.Lex Go.Proofs.YtjibdaigclgmhaaDoor.Facts Go.Proofs.YtjibdaigclgmhaaDoor.PLexTokens Go.Proofs.YtjibdaigclgmhaaDoorW.PrintWords Go.Proofs.YtjibdaigclgmhaaDoorW.PrintLast Go.Proofs.YtjibdaigclgmhaaDoorW.PrintMore
attribute [local go_sem] max2_int min2_int max_two min_two max_three min_three max_four min_four
set_option linter.unusedVariables false
set_option linter.unusedSimpArgs false
theorem textOf_len {r b : List UInt8} {n : Nat} (h : textOf r = some (b, n)) : b.length ≤ r.length := by
  have h1 := congrArg List.length (textOf_take r b n h)
  have h2 : b.length ≤ (dbl b).length := by
    clear h h1
    induction b with
    | nil => exact Nat.le_refl _
    | cons c r ih => unfold dbl; split <;> simp <;> omega
  rw [List.length_take, List.length_append, List.length_singleton] at h1
  omega
theorem tok_text {K : List UInt8} {t : Tok} {n : Nat} (h : tok K = some (t, n)) : t.text.length ≤ K.length ∧ 0 ≤ t.num ∧ t.num ≤ 1073741824 := by
  cases K with
  | nil => cases h
  | cons c r =>
    rw [Lex.tok] at h
    by_cases h1 : isL c = true
    · rw [if_pos h1] at h
      by_cases h2 : colon ((c :: r).drop (nameLen (c :: r))) = true
      · rw [if_pos h2] at h; cases h; exact ⟨by rw [List.length_take]; omega, by simp, by simp⟩
      · rw [if_neg h2] at h; cases h; exact ⟨by rw [List.length_take]; omega, by simp, by simp⟩
    rw [if_neg h1] at h
    by_cases h2 : isD c = true
    · rw [if_pos h2] at h
      by_cases h3 : digVal ((c :: r).take (digitsLen (c :: r))) ≤ 1073741824
      · rw [if_pos h3] at h; cases h; exact ⟨by simp, by simp, by simp only; omega⟩
      · rw [if_neg h3] at h; cases h
    rw [if_neg h2] at h
    by_cases h3 : c = 35
    · rw [if_pos h3] at h
      by_cases h4 : r[0]? = some 40
      · rw [if_pos h4] at h; cases h; exact ⟨by simp, by simp, by simp⟩
      · rw [if_neg h4] at h
        by_cases h5 : 0 < symLen r
        · rw [if_pos h5] at h; cases h; exact ⟨by rw [List.length_take, List.length_cons]; omega, by simp, by simp⟩
        · rw [if_neg h5] at h; cases h
    rw [if_neg h3] at h
    by_cases h4 : c = 39
    · rw [if_pos h4] at h
      cases hx : textOf r with
      | none => rw [hx] at h; cases h
      | some q =>
        obtain ⟨b, m⟩ := q
        rw [hx] at h
        cases h
        have := textOf_len hx
        exact ⟨by rw [List.length_cons]; simp only; omega, by simp, by simp⟩
    rw [if_neg h4] at h
    by_cases h5 : isG c = true
    · rw [if_pos h5] at h; cases h; exact ⟨by rw [List.length_take]; omega, by simp, by simp⟩
    rw [if_neg h5] at h
    by_cases h6 : c = 58 ∧ r[0]? = some 61
    · rw [if_pos h6] at h; cases h; exact ⟨by simp, by simp, by simp⟩
    rw [if_neg h6] at h
    by_cases h7 : markKind c = 0
    · rw [if_pos h7] at h; cases h
    · rw [if_neg h7] at h; cases h; exact ⟨by simp, by simp, by simp⟩
theorem Lexes_text {s : List UInt8} {a : Nat} {l : List TokA} (h : Lexes s a l) : ∀ x ∈ l, x.tok.text.length ≤ s.length ∧ 0 ≤ x.tok.num ∧ x.tok.num ≤ 1073741824 := by
  induction h with
  | stop g a hg =>
    intro x hx
    rw [List.mem_singleton] at hx
    subst hx
    exact ⟨Nat.zero_le _, by simp [stopT], by simp [stopT]⟩
  | tok g x t n l a hg ht _ ih =>
    intro y hy
    rw [List.length_append]
    rcases List.mem_cons.1 hy with rfl | hy
    · have := tok_text ht
      exact ⟨by simp only; omega, this.2⟩
    · have := ih y hy
      rw [List.length_drop] at this
      exact ⟨by omega, this.2⟩
theorem wt_le (M : Nat) : ∀ (X : List S42), (∀ x ∈ X, 24 + x.f1.size ≤ M) → wt X ≤ X.length * M
  | [], _ => by simp [wt]
  | x :: X, h => by
    have h1 := wt_le M X (fun y hy => h y (List.mem_cons_of_mem _ hy))
    have h2 := h x List.mem_cons_self
    rw [wt_cons, List.length_cons, Nat.add_mul]
    omega
theorem bd_toks {s : List UInt8} {l : List TokA} (h : Lexes s 0 l) (hs : s.length ≤ 4096) : Bd (l.map tokS) := by
  have ht := Lexes_text h
  have hl := Lexes_len h
  have hsz : ∀ t : TokA, (tokS t).f1.size = t.tok.text.length := fun t => by rw [← bl_len]; rfl
  refine ⟨?_, fun x hx => ?_⟩
  · have h1 := wt_le 4120 (l.map tokS) (fun x hx => by
      obtain ⟨t, hm, rfl⟩ := List.mem_map.1 hx
      have := ht t hm
      rw [hsz]; omega)
    rw [List.length_map] at h1
    have : l.length * 4120 ≤ 4097 * 4120 := Nat.mul_le_mul_right _ (by omega)
    omega
  · obtain ⟨t, hm, rfl⟩ := List.mem_map.1 hx
    have := ht t hm
    show _ ≤ t.tok.num ∧ t.tok.num ≤ _
    omega
theorem toks_ok {m : List TokA} {T : List Tok} (he : m.map TokA.tok = T ++ [stopT]) (hm : ∀ t ∈ T, may t = true) : ∃ Y z, PrintOk (m.map tokS) Y z ∧ Y.map tk = T := by
  have hne : m ≠ [] := by rintro rfl; simp at he
  obtain ⟨m0, x, rfl⟩ : ∃ m0 x, m = m0 ++ [x] := ⟨m.dropLast, m.getLast hne, (List.dropLast_concat_getLast hne).symm⟩
  rw [List.map_append] at he
  obtain ⟨h1, h2⟩ := List.append_inj' he rfl
  have hx : x.tok = stopT := (List.cons.inj h2).1
  have hT : (m0.map tokS).map tk = T := by rw [List.map_map, ← h1]; rfl
  refine ⟨m0.map tokS, tokS x, ⟨by rw [List.map_append]; rfl, ?_, ?_, ?_, by rw [hT]; exact hm⟩, hT⟩
  · show x.tok.kind = 18; rw [hx]; rfl
  · show x.tok.text = []; rw [hx]; rfl
  · show x.tok.num = 0; rw [hx]; rfl
theorem ok_inj {X Y Y2 : List S42} {z z2 : S42} (h : PrintOk X Y z) (h2 : PrintOk X Y2 z2) : Y2 = Y := by
  have := h.1.symm.trans h2.1
  exact (List.append_inj' this rfl).1.symm
theorem print_ok {X Y : List S42} {z : S42} (h : PrintOk X Y z) (hB : Bd X) (A : Option Addr) (c : Nat) (w : World) (E : PEnv w) (hC : Kd.C k42 w A X.length X) (hc : X.length ≤ c) : Calls Tryd.prog 24 #[.slice A X.length c] w fun e w' => e = .returned (.tuple #[.string (sB (joinW (Y.map tk))), .int .i64 0]) ∧ Below w.heap.size w w' := by
  refine (print_calls X hB A c w E hC hc).mono fun e w' ⟨⟨v, he, hp⟩, hb⟩ => ⟨?_, hb⟩
  rcases hp with ⟨Y2, z2, h2, rfl⟩ | ⟨h2, _⟩
  · rw [he, ok_inj h h2]
  · exact (h2 _ _ h).elim
theorem print_no {X : List S42} (h : ∀ Y z, ¬ PrintOk X Y z) (hB : Bd X) (A : Option Addr) (c : Nat) (w : World) (E : PEnv w) (hC : Kd.C k42 w A X.length X) (hc : X.length ≤ c) : Calls Tryd.prog 24 #[.slice A X.length c] w fun e w' => e = .returned (.tuple #[.string ⟨#[]⟩, .int .i64 1]) ∧ Below w.heap.size w w' := by
  refine (print_calls X hB A c w E hC hc).mono fun e w' ⟨⟨v, he, hp⟩, hb⟩ => ⟨?_, hb⟩
  rcases hp with ⟨Y2, z2, h2, rfl⟩ | ⟨_, rfl⟩
  · exact (h _ _ h2).elim
  · exact he
/-- sameTokens, asked without places, of lists that hold the same tokens -/
theorem sameB_tk : ∀ (X Y : List S42), X.map tk = Y.map tk → sameB false X Y = true
  | [], [], _ => rfl
  | [], _ :: _, h => by simp at h
  | _ :: _, [], h => by simp at h
  | x :: X, y :: Y, h => by
    simp only [List.map_cons, List.cons.injEq] at h
    rw [sameB, sameB_tk X Y h.2]
    have := h.1
    unfold tk at this
    injection this with a b c
    simp [eqS, a, b, c, ByteArray.toList_eq]
theorem sB_bl (s : ByteArray) : sB (bl s) = s := by apply ByteArray.ext; simp [sB, bl]
theorem same_toks_calls (m : List TokA) (X : List S42) (A0 A1 : Option Addr) (c1 : Nat) (w : World) (hx : Kd.C k42 w A0 m.length (m.map tokS)) (hy : Kd.C k42 w A1 X.length X) (hc1 : X.length ≤ c1) (hb : m.length ≤ 4611686018427387904) (hs : sameB false (m.map tokS) X = true) :
    Calls Tryd.prog 12 #[.slice A0 m.length m.length, .slice A1 X.length c1, .bool false] w fun e w' => e = .returned (.bool true) ∧ Below w.heap.size w w' := by
  have hl : (m.map tokS).length = m.length := List.length_map _
  have := same_calls (m.map tokS) X A0 A1 m.length c1 false w (by rw [hl]; exact hx) (by omega) hy hc1 (by omega)
  rw [hl, hs] at this
  exact this.mono fun e w' h => ⟨h.1, below_drawn h.2⟩
theorem print_toks (m : List TokA) {Y : List S42} {z : S42} (h : PrintOk (m.map tokS) Y z) (hB : Bd (m.map tokS)) (s : ByteArray) (hs : sB (joinW (Y.map tk)) = s) (A : Option Addr) (w : World) (E : PEnv w) (hC : Kd.C k42 w A m.length (m.map tokS)) : Calls Tryd.prog 24 #[.slice A m.length m.length] w fun e w' => e = .returned (.tuple #[.string s, .int .i64 0]) ∧ Below w.heap.size w w' := by
  have hl : (m.map tokS).length = m.length := List.length_map _
  have := print_ok h hB A m.length w E (by rw [hl]; exact hC) (by omega)
  rw [hl, hs] at this
  exact this
set_option maxHeartbeats 4000000 in
set_option maxRecDepth 1000000 in
theorem cutsTo_calls {X Y : List S42} {z : S42} (hok : PrintOk X Y z) (hB : Bd X) (A : Option Addr) (c : Nat) (s : ByteArray) (hsj : bl s = joinW (Y.map tk)) (w : World) (E : PEnv w) (hC : Kd.C k42 w A X.length X) (hc : X.length ≤ c) : Calls Tryd.prog 25 #[.string s, .slice A X.length c] w fun e w' => e = .returned (.bool true) ∧ Below w.heap.size w w' := by
  by_cases hs : 4096 < s.size
  · have hd : decide ((4096 : Int) < (s.size : Int)) = true := decide_eq_true (by omega)
    have hq : tokensS (bl s) = .inr (73, 4096) := by unfold tokensS; rw [bl_len, if_pos hs]
    have ht := tokens_fault hq w E.E
    clear hok hB hC
    go_enter Tryd.func25, Tryd.ntmps25
    go_wp2_with (go_at_call 11; refine ht.mono ?_; rintro e w1 ⟨rfl, hb⟩; have HB := Aside0.mk hb; have k1 := blk_new w1 (.cells #[.int .i64 73, .int .i64 4096] 25 (0, 0)); have d0 := blk_cell k1 0; have d1 := blk_cell k1 1; clear hb k1)
    go_ret
    exact ⟨rfl, HB.out.alloc HB.out.size _⟩
  · have hd : decide ((4096 : Int) < (s.size : Int)) = false := decide_eq_false (by omega)
    obtain ⟨m, hm, he⟩ := joinW_lexes (Y.map tk) hok.2.2.2.2
    rw [← hsj] at hm
    have hq := tokensS_of hm (by rw [bl_len]; omega)
    have ht := tokens_list hq 0 w E.E
    have hBm := bd_toks hm (by rw [bl_len]; omega)
    obtain ⟨Y2, z2, hok2, hY2⟩ := toks_ok he hok.2.2.2.2
    have hse : sB (joinW (Y2.map tk)) = s := by rw [hY2, ← hsj, sB_bl]
    have hsame : sameB false (m.map tokS) X = true := sameB_tk _ _ (by
      rw [hok2.1, hok.1, List.map_append, List.map_append, hY2]
      congr 1
      show [tk z2] = [tk z]
      unfold tk
      rw [hok2.2.1, hok2.2.2.1, hok2.2.2.2.1, hok.2.1, hok.2.2.1, hok.2.2.2.1])
    have hml : m.length ≤ 4611686018427387904 := by have := Lexes_len hm; rw [bl_len] at this; omega
    have HP := Aside0.mk (fun A W hE hC => print_toks m hok2 hBm s hse A W hE hC)
    have HS := Aside0.mk (fun A0 W hx hy => same_toks_calls m X A0 A c W hx hy hc hml hsame)
    have HE := Aside0.mk E
    have HC := Aside0.mk hC
    have HT := Aside0.mk ht
    clear hok hB hC hm hq ht hBm hok2 hse hsame hY2 he E hsj
    go_enter Tryd.func25, Tryd.ntmps25
    go_wp2_with (go_at_call 11; refine HT.out.mono ?_; rintro e w1 ⟨v, rfl, ⟨A1, rfl, hC1⟩, hb⟩; have HB := Aside0.mk hb; have HC1 := Aside0.mk hC1; clear hb hC1)
    obtain ⟨W2, hW2⟩ : ∃ W2, W2 = w1.alloc (Obj.cells #[Value.int IntKind.i64 0, Value.int IntKind.i64 0] 25) := ⟨_, rfl⟩
    obtain ⟨q, hqq⟩ : ∃ q, q = w1.heap.size := ⟨_, rfl⟩
    have hWW : Below w1.heap.size w1 W2 := by rw [hW2]; exact (Below.refl _ _).alloc (Nat.le_refl _) _
    have HX : Aside0 (Below w.heap.size w W2 ∧ Kd.C k42 W2 A1 m.length (m.map tokS) ∧ Kd.C k42 W2 A X.length X ∧ W2.heap[q]? = some (.cells #[.int .i64 0, .int .i64 0] 25 (0, 0))) := ⟨⟨below_then HB.out HB.out.size hWW, Kd.C_below HC1.out hWW, Kd.C_below HC.out (below_then HB.out HB.out.size hWW), by rw [hW2, hqq]; exact blk_new _ _⟩⟩
    rw [← hqq, ← hW2]
    have d0 : W2.cell? ⟨q, 0, none⟩ = some (.int .i64 0) := blk_cell HX.out.2.2.2 0
    clear hW2 hqq hWW HB HC1
    refine (HP.out A1 W2 (HE.out.below HX.out.1) HX.out.2.1).mono ?_
    rintro e w3 ⟨rfl, hb⟩
    replace HX : Aside0 (Below w.heap.size w w3 ∧ Kd.C k42 w3 A1 m.length (m.map tokS) ∧ Kd.C k42 w3 A X.length X ∧ w3.heap[q]? = some (.cells #[.int .i64 0, .int .i64 0] 25 (0, 0))) := ⟨⟨below_then HX.out.1 HX.out.1.size hb, Kd.C_below HX.out.2.1 hb, Kd.C_below HX.out.2.2.1 hb, blk_below HX.out.2.2.2 hb⟩⟩
    replace d0 : w3.cell? ⟨q, 0, none⟩ = some (.int .i64 0) := blk_cell HX.out.2.2.2 0
    clear hb
    go_wp2_with (first
      | (go_at_call 12; refine (HS.out A1 _ HX.out.2.1 HX.out.2.2.1).mono ?_; rintro e w4 ⟨rfl, hb⟩; replace HX := Aside0.mk (And.intro (below_then HX.out.1 HX.out.1.size hb) (And.intro (Kd.C_below HX.out.2.1 hb) (And.intro (Kd.C_below HX.out.2.2.1 hb) (blk_below HX.out.2.2.2 hb)))); clear hb)
      | (go_at_call 20; refine (num_calls 0 _).mono ?_; rintro e w5 ⟨rfl, hb⟩; replace HX := Aside0.mk (And.intro (below_then HX.out.1 HX.out.1.size hb) (And.intro (Kd.C_below HX.out.2.1 hb) (And.intro (Kd.C_below HX.out.2.2.1 hb) (blk_below HX.out.2.2.2 hb)))); clear hb))
    go_ret
    exact ⟨rfl, HX.out.1⟩
end Go.Proofs.YtjibdaigclgmhaaDoor.LexW
