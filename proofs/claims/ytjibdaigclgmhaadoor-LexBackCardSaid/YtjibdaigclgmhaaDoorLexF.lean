/- The program's reading of tokens, walked: each function's answer in plain words. Conditions: those that each theorem states. -/
import Derived.Test.YtjibdaigclgmhaaDoorLexE
namespace Go.Proofs.YtjibdaigclgmhaaDoor.LexW
open Go.RowKit Go.Maps Go.Proofs.YtjibdaigclgmhaaDoor.Lex Go.Proofs.YtjibdaigclgmhaaDoor.PLexTokens Go.Proofs.YtjibdaigclgmhaaDoorW.PrintWords Go.Proofs.YtjibdaigclgmhaaDoorW.PrintLast Go.Proofs.YtjibdaigclgmhaaDoorW.PrintMore
attribute [local go_sem] max2_int min2_int max_two min_two max_three min_three max_four min_four
set_option linter.unusedVariables false
set_option linter.unusedSimpArgs false
def rdrs : Array Value := #[.func (.func 66) #[] #[], .func (.func 67) #[] #[], .func (.func 68) #[] #[], .func (.func 69) #[] #[], .func (.func 70) #[] #[], .func (.func 71) #[] #[], .func (.func 72) #[] #[]]
set_option maxHeartbeats 2000000 in
set_option maxRecDepth 100000 in
theorem readers_calls (w : World) : Calls Tryd.prog 45 #[] w fun e w' => ∃ B, e = .returned (.slice (some ⟨B, 0, none⟩) 7 7) ∧ w'.heap[B]? = some (.cells rdrs 70 (0, 0)) ∧ w.heap.size ≤ B ∧ Below w.heap.size w w' := by
  go_enter Tryd.func45, Tryd.ntmps45
  go_wp2
  go_ret
  exact ⟨w.heap.size, rfl, blk_new w _, Nat.le_refl _, (Below.refl _ _).alloc (Nat.le_refl _) _⟩
/-- the reader of a class -/
theorem reader_all (s : ByteArray) (hs : s.size ≤ 70368744177664) (h0 : 0 < s.size) : ∃ f, rdrs[(cls (s[0]'h0)).toNat]? = some (.func (.func f) #[] #[]) ∧ (∀ args w, (callFunc f args).run Tryd.prog w = .ok (.enter f args) w) ∧ (∀ w, Erg w → Calls Tryd.prog f #[.string s] w fun e w' => Ans (tok (bl s)) e ∧ Below w.heap.size w w') := by
  have e66 : ∀ args w, (callFunc 66 args).run Tryd.prog w = .ok (.enter 66 args) w := enters_of Tryd.func66 (by kernel_rfl) rfl
  have e67 : ∀ args w, (callFunc 67 args).run Tryd.prog w = .ok (.enter 67 args) w := enters_of Tryd.func67 (by kernel_rfl) rfl
  have e68 : ∀ args w, (callFunc 68 args).run Tryd.prog w = .ok (.enter 68 args) w := enters_of Tryd.func68 (by kernel_rfl) rfl
  have e69 : ∀ args w, (callFunc 69 args).run Tryd.prog w = .ok (.enter 69 args) w := enters_of Tryd.func69 (by kernel_rfl) rfl
  have e70 : ∀ args w, (callFunc 70 args).run Tryd.prog w = .ok (.enter 70 args) w := enters_of Tryd.func70 (by kernel_rfl) rfl
  have e71 : ∀ args w, (callFunc 71 args).run Tryd.prog w = .ok (.enter 71 args) w := enters_of Tryd.func71 (by kernel_rfl) rfl
  have e72 : ∀ args w, (callFunc 72 args).run Tryd.prog w = .ok (.enter 72 args) w := enters_of Tryd.func72 (by kernel_rfl) rfl
  have hall : cls (s[0]'h0) = 0 ∨ cls (s[0]'h0) = 1 ∨ cls (s[0]'h0) = 2 ∨ cls (s[0]'h0) = 3 ∨ cls (s[0]'h0) = 4 ∨ cls (s[0]'h0) = 5 ∨ cls (s[0]'h0) = 6 := by
    unfold cls
    repeat' split
    all_goals simp
  rcases hall with h | h | h | h | h | h | h
  · refine ⟨66, by rw [h]; rfl, e66, fun w _ => ?_⟩
    have ht : tok (bl s) = none := by rw [bl_cons s h0]; exact cls_zero _ h _
    rw [ht]
    exact readOther_calls s w
  · refine ⟨67, by rw [h]; rfl, e67, fun w _ => readWord_calls s (by omega) h0 ?_ w⟩
    have := cls_cases _ _ h (by omega)
    simpa using this
  · exact ⟨68, by rw [h]; rfl, e68, fun w E => readNumber_calls s (by omega) h0 h w E⟩
  · exact ⟨69, by rw [h]; rfl, e69, fun w _ => readHash_calls s (by omega) h0 h w⟩
  · exact ⟨70, by rw [h]; rfl, e70, fun w _ => readSign_calls s (by omega) h0 h w⟩
  · exact ⟨71, by rw [h]; rfl, e71, fun w _ => readQuote_calls s hs h0 h w⟩
  · exact ⟨72, by rw [h]; rfl, e72, fun w _ => readMark_calls s (by omega) h0 h w⟩
theorem cls_range (c : UInt8) : 0 ≤ cls c ∧ cls c < 7 := by
  unfold cls
  repeat' split
  all_goals simp
theorem lexF_fuel : ∀ (f : Nat) (K : List UInt8) (a f' : Nat), K.length < f → K.length < f' → lexF f K a = lexF f' K a := by
  intro f
  induction f with
  | zero => intro K a f' h; omega
  | succ f ih =>
    intro K a f' h h'
    obtain ⟨f', rfl⟩ : ∃ g, f' = g + 1 := ⟨f' - 1, by omega⟩
    rw [lexF, lexF]
    split
    · cases hd : K.drop (skip K).1 with
      | nil => rfl
      | cons c r =>
        simp only
        cases ht : tok (c :: r) with
        | none => rfl
        | some q =>
          obtain ⟨t, k⟩ := q
          have hle := tok_le _ _ _ ht
          have hlen : (c :: r).length ≤ K.length := by rw [← hd, List.length_drop]; omega
          simp only
          rw [ih ((c :: r).drop k) _ f' (by rw [List.length_drop]; omega) (by rw [List.length_drop]; omega)]
    · rfl
def cutR (K : List UInt8) (a : Nat) : List TokA ⊕ Nat := lexF (K.length + 1) K a
def pre (L : List TokA) : List TokA ⊕ Nat → List TokA ⊕ Nat
  | .inl l => .inl (L ++ l)
  | .inr e => .inr e
theorem cutR_bad (K : List UInt8) (a n : Nat) (h : skip K = (n, false)) : cutR K a = .inr (a + n) := by
  rw [cutR, lexF, h]; rfl
theorem cutR_stop (K : List UInt8) (a n : Nat) (h : skip K = (n, true)) (hd : K.drop n = []) : cutR K a = .inl [⟨stopT, a + n⟩] := by
  rw [cutR, lexF, h]
  simp only [if_true, hd]
theorem cutR_none (K : List UInt8) (a n : Nat) (h : skip K = (n, true)) (hne : K.drop n ≠ []) (ht : tok (K.drop n) = none) : cutR K a = .inr (a + n) := by
  rw [cutR, lexF, h]
  simp only [if_true]
  cases hd : K.drop n with
  | nil => exact absurd hd hne
  | cons c r => rw [hd] at ht; simp only [ht]
theorem cutR_some (K : List UInt8) (a n k : Nat) (t : Tok) (h : skip K = (n, true)) (ht : tok (K.drop n) = some (t, k)) : cutR K a = pre [⟨t, a + n⟩] (cutR (K.drop (n + k)) (a + n + k)) := by
  have hle := tok_le _ _ _ ht
  rw [cutR, lexF, h]
  simp only [if_true]
  cases hd : K.drop n with
  | nil => rw [hd] at ht; simp [tok] at ht
  | cons c r =>
    rw [hd] at ht hle
    simp only [ht]
    have hlen : (c :: r).length ≤ K.length := by rw [← hd, List.length_drop]; omega
    rw [← List.drop_drop, hd, cutR, lexF_fuel K.length ((c :: r).drop k) _ (((c :: r).drop k).length + 1) (by rw [List.length_drop]; omega) (Nat.lt_succ_self _)]
    rfl
theorem pre_pre (A B : List TokA) (r : List TokA ⊕ Nat) : pre A (pre B r) = pre (A ++ B) r := by
  cases r <;> simp [pre]
def tokS (t : TokA) : S42 := ⟨t.tok.kind, ⟨t.tok.text.toArray⟩, t.tok.num, (t.place : Int)⟩
theorem skip_le : ∀ (n : Nat) (s : List UInt8), s.length ≤ n → (skip s).1 ≤ s.length := by
  intro n
  induction n with
  | zero =>
    intro s hs
    have : s = [] := List.eq_nil_of_length_eq_zero (by omega)
    subst this; exact Nat.le_refl _
  | succ n ih =>
    intro s hs
    cases s with
    | nil => exact Nat.le_refl _
    | cons c r =>
      simp only [List.length_cons] at hs ⊢
      cases hb : isB c with
      | true => rw [skip_blank c hb]; have := ih r (by omega); simp only; omega
      | false =>
        by_cases hc : c = 34
        · subst hc
          cases hl : comLen r with
          | none => rw [skip_open r hl]; simp
          | some k =>
            rw [skip_com r k hl]
            have hk : k < r.length := by
              obtain ⟨b, r', e1, _, e3⟩ := (comLen_some _ _).1 hl
              rw [e1, List.length_append, List.length_cons, e3]; omega
            have := ih (r.drop (k + 1)) (by rw [List.length_drop]; omega)
            rw [List.length_drop] at this
            simp only; omega
        · rw [skip_stop c hb hc]; simp
theorem skip_at (s : ByteArray) (hs : s.size ≤ 1099511627776) (p n : Nat) (ok : Bool) (h : skip ((bl s).drop p) = (n, ok)) (w : World) : Calls Tryd.prog 44 #[.string (s.extract p s.size)] w fun e w' => e = .returned (.tuple #[.int .i64 (n : Int), .bool ok]) ∧ Below w.heap.size w w' := by
  have hb := bl_from s p
  have hl : (s.extract p s.size).size ≤ s.size := by rw [← bl_len, hb, List.length_drop, bl_len]; omega
  have := skip_calls (s.extract p s.size) (by omega) w
  rw [hb, h] at this
  exact this
theorem goesV_ {P : Program} {ops : Array Oper} {Q : Exit → Act → World → Prop} {oi : Oper} {N : Option Tmp} {a : Act} {w : World} {K : Act → World → Prop} {f : FuncId} {as_ : Array Operand} {ts : Array TypeId} (o : Operand) (args : Array Value)
    (hw : Region.wanted oi (yielded ops a.tmps) = true) (hN : oi.dst = N) (hop : oi.op = .call { callee := .value o, args := as_, argTypes := ts }) (ho : a.eval o = .func (.func f) #[] #[]) (he : ∀ args w, (callFunc f args).run P w = .ok (.enter f args) w) (hargs : as_.map a.eval = args)
    (h : Calls P f args w fun e w' => ∃ v, e = .returned v ∧ K (a.put N v) w') : if Region.wanted oi (yielded ops a.tmps) = true then Oper.wp P oi a w K Q else K (a.put N undef) w := by
  refine call_ f args hw hN ?_ h
  have he := he args w
  unfold execOp
  simp [hop, ho, resolve, Deferred.ofValue, invoke, hargs, he]
theorem R_fault {W : World} {b : Nat} {v : Value} {xs : List S42} (h : Kd.R k42 42 W (b + 1) (fun _ => True) v xs) (j : Nat) (u : Value) : Kd.R k42 42 (W.setCell ⟨b, j, none⟩ u) (b + 1) (fun _ => True) v xs :=
  Kd.R_mono (Kd.R_step (Kd.R_bound h) (fun k ho _ => Below.heap_setCell W _ u k (by have := ho.2.1; show k ≠ b; omega))) (fun _ _ => trivial)
theorem R_mine {W : World} {b T : Nat} {v : Value} {xs : List S42} (h : Kd.R k42 42 W b (fun _ => True) v xs) (hT : ∀ k, v.ownBlock = some k → k < T) (j : Nat) (u : Value) : Kd.R k42 42 (W.setCell ⟨T, j, none⟩ u) b (fun _ => True) v xs :=
  Kd.R_mono (Kd.R_step (Kd.R_tight rfl h) (fun k ho _ => Below.heap_setCell W _ u k (by have := hT k ho.symm; show k ≠ T; omega))) (fun _ _ => trivial)
def CutPost (LX : List TokA ⊕ Nat) (w : World) (e : Ending) (w' : World) : Prop :=
    (match LX with
     | .inl l => ∃ v, e = .returned (.tuple #[v, .agg #[.int .i64 0, .int .i64 0]]) ∧ Kd.R k42 42 w' (w.heap.size + 1) (fun _ => True) v (l.map tokS)
     | .inr a => e = .returned (.tuple #[.slice none 0 0, .agg #[.int .i64 70, .int .i64 (a : Int)]])) ∧ Below w.heap.size w w'
theorem cut_ret {fn : Func} {u p : Tmp} (hres : fn.results = #[.tmp u, .cell p 25]) (w W : World) (tmps : Array Value) (a b x0 x1 : Value) (Q : Ending → World → Prop)
    (HK : W.heap[w.heap.size]? = some (.cells #[a, b] 25 (0, 0))) (hp : tmps.getD p undef = .pointer (some ⟨w.heap.size, 0, none⟩))
    (hQ : Q (.returned (.tuple #[tmps.getD u undef, .agg #[x0, x1]])) ((W.setCell ⟨w.heap.size, 0, none⟩ x0).setCell ⟨w.heap.size, 1, none⟩ x1)) :
    bodyPost Tryd.prog fn Q Exit.ret { tmps := tmps, defers := [] } ((W.setCell ⟨w.heap.size, 0, none⟩ x0).setCell ⟨w.heap.size, 1, none⟩ x1) := by
  have h0 := blk_put HK 0 x0 rfl
  have h1 := blk_put h0 1 x1 rfl
  exact bodyPost_ret (results_tc hres tmps _ w.heap.size 25 _ (0, 0) _ hp h1 Tryd.underlying25 rfl (by kernel_rfl)) rfl hQ
set_option maxHeartbeats 4000000 in
set_option maxRecDepth 100000 in
theorem cut_calls (s : ByteArray) (hs : s.size ≤ 1099511627776) (w : World) (E : Erg w) : Calls Tryd.prog 27 #[.string s] w fun e w' =>
    CutPost (lex (bl s)) w e w' := by
  obtain ⟨LX, hLX⟩ : ∃ LX, lex (bl s) = LX := ⟨_, rfl⟩
  rw [hLX]
  have hl0 : cutR ((bl s).drop 0) 0 = LX := by rw [List.drop_zero, cutR]; exact hLX
  have HL0 : Aside0 (LX = pre [] (cutR ((bl s).drop 0) 0)) := ⟨by rw [hl0]; cases LX <;> rfl⟩
  have HE := Aside0.mk E
  clear hLX hl0 E
  go_enter Tryd.func27, Tryd.ntmps27
  go_wp2_with fail
  obtain ⟨W0, hW0⟩ : ∃ W0, W0 = w.alloc (Obj.cells #[Value.int IntKind.i64 0, Value.int IntKind.i64 0] 25) := ⟨_, rfl⟩
  have hs0 : W0.heap.size = w.heap.size + 1 := by rw [hW0]; simp
  have hB0 : Below w.heap.size w W0 := by rw [hW0]; exact (Below.refl _ _).alloc (Nat.le_refl _) _
  have hF0 : W0.heap[w.heap.size]? = some (.cells #[.int .i64 0, .int .i64 0] 25 (0, 0)) := by rw [hW0]; exact blk_new w _
  rw [← hW0]
  clear hW0
  have HS0 := Aside0.mk hs0
  have HB0 := Aside0.mk hB0
  have HF0 := Aside0.mk hF0
  clear hs0 hB0 hF0
  go_loopw [4, 5] (fun v4 v5 wr => ∃ (p : Nat) (L : List TokA), v5 = .int .i64 (p : Int) ∧ p ≤ s.size ∧ Aside0 (L.length ≤ p) ∧ Aside0 (LX = pre L (cutR ((bl s).drop p) p)) ∧ Aside0 (Kd.R k42 42 wr (w.heap.size + 1) (fun _ => True) v4 (L.map tokS)) ∧ Aside0 (Below (w.heap.size + 1) W0 wr)) (fun _ v5 _ => s.size - (intOf v5).toNat)
  case atStart => exact ⟨0, [], rfl, by omega, ⟨by simp⟩, HL0, ⟨Kd.R_nil _ _ _ _ _⟩, ⟨Below.refl _ _⟩⟩
  case round =>
    clear HL0
    obtain ⟨p, L, rfl, hp, HLP, HL, HR, HW⟩ := hrel
    obtain ⟨⟨n, ok⟩, hsk⟩ : ∃ q, skip ((bl s).drop p) = q := ⟨_, rfl⟩
    have hnl := skip_le _ ((bl s).drop p) (Nat.le_refl _)
    rw [hsk, List.length_drop, bl_len] at hnl
    simp only at hnl
    have HSK := Aside0.mk (skip_at s hs p n ok hsk)
    have HK := Aside0.mk hsk
    have hb1 : (p : Int) + (n : Int) ≤ (s.size : Int) := by omega
    have hb2 : p + n ≤ s.size := by omega
    have hw1 : wrap64 ((p : Int) + (n : Int)) = (p : Int) + (n : Int) := by unfold wrap64; omega
    have hpi : (p : Int) ≤ (s.size : Int) := by omega
    clear hsk
    cases ok with
    | false =>
      go_wp2_with (go_at_call 44; with_reducible refine (HSK.out _).mono ?_; rintro e w1 ⟨rfl, hb⟩; replace HR := Aside0.mk (Kd.R_below HR.out hb); have HW2 := Aside0.mk (below_then HW.out (by have := HW.out.size; rw [HS0.out] at this; exact this) hb); have hf := (HW2.out.block w.heap.size (Nat.lt_succ_self _)).trans HF0.out; have hf2 := blk_alloc hf (.cells #[.int .i64 0, .string ⟨#[]⟩, .int .i64 0, .int .i64 0] 42 (0, 0)); have HF := Aside0.mk hf2; have d0 := blk_cell hf2 0; have d1 := blk_cell hf2 1; have f0 := fun i => blk_frozen hf2 i; clear hf hb hf2)
      have hlx : LX = .inr (p + n) := by rw [HL.out, cutR_bad _ _ _ HK.out]; rfl
      refine cut_ret rfl w _ _ _ _ _ _ _ HF.out rfl ⟨?_, ?_⟩
      · rw [hlx]; rfl
      · exact (((HB0.out.trans (below_le HW2.out (Nat.le_succ _))).alloc (by have := HW2.out.size; rw [HS0.out] at this; omega) _).setCell (Nat.le_refl _) _).setCell (Nat.le_refl _) _
    | true =>
      have hle : (p : Int) + (n : Int) ≤ (s.size : Int) := hb1
      by_cases hend : p + n = s.size
      · have heq : ((p : Int) + (n : Int) == (s.size : Int)) = true := by simp; omega
        have hsc : ∀ x : Nat, ((s.size : Int) == (s.size : Int)) = true := fun _ => by simp
        go_wp2_with (first
          | (go_at_call 44; with_reducible refine (HSK.out _).mono ?_; rintro e w1 ⟨rfl, hb⟩; replace HR := Aside0.mk (Kd.R_below HR.out hb); have HW2 := Aside0.mk (below_then HW.out (by have := HW.out.size; rw [HS0.out] at this; exact this) hb); clear hb)
          | (at_builtin; refine Kd.R_append k42 (w0 := W0) (w.heap.size + 1) rfl (.tmp 26) (.tmp 29) 22 42 (.agg #[(.int .i64 0), (.string ⟨#[]⟩), (.int .i64 0), (.int .i64 0)]) 40 rfl Tryd.underlying22 info42 rfl (by decide) (by omega) _ (L.map tokS) (tokS ⟨stopT, p + n⟩) [.int .i64 18, .string (⟨#[]⟩ : ByteArray), .int .i64 0, .int .i64 ((p : Int) + (n : Int))] (fun _ => True) (fun _ => False) rfl rfl (by exact k42_mkM _ _ _ (tokS ⟨stopT, p + n⟩)) (fun _ hk => hk.elim) (fun _ _ => trivial) (by exact HR.out) (by exact HW2.out) (by have := HW2.out.size; rw [HS0.out] at this; exact this) (by rw [List.length_map]; have := HLP.out; omega) ?_; intro v1 w2 hr2 hb2 hg2 ha2; have HR2 := Aside0.mk hr2; have HW3 := Aside0.mk hb2; have hf := (hb2.block w.heap.size (Nat.lt_succ_self _)).trans HF0.out; have HF := Aside0.mk hf; have d0 := blk_cell hf 0; have d1 := blk_cell hf 1; have f0 := fun i => blk_frozen hf i; clear hf hr2 hb2 hg2 ha2))
        have hlx : LX = .inl (L ++ [⟨stopT, p + n⟩]) := by
          rw [HL.out, cutR_stop _ _ _ HK.out (by rw [List.drop_drop]; exact List.drop_eq_nil_of_le (by rw [bl_len]; omega))]; rfl
        refine cut_ret rfl w _ _ _ _ _ _ _ HF.out rfl ⟨?_, ?_⟩
        · rw [hlx]
          refine ⟨_, rfl, R_fault (R_fault ?_ 0 _) 1 _⟩
          rw [List.map_append]
          exact HR2.out
        · exact ((HB0.out.trans (below_le HW3.out (Nat.le_succ _))).setCell (Nat.le_refl _) _).setCell (Nat.le_refl _) _
      · have heq : ((p : Int) + (n : Int) == (s.size : Int)) = false := by simp; omega
        go_wp2_with (first
          | (go_at_call 44; with_reducible refine (HSK.out _).mono ?_; rintro e w1 ⟨rfl, hb⟩; replace HR := Aside0.mk (Kd.R_below HR.out hb); have HW2 := Aside0.mk (below_then HW.out (by have := HW.out.size; rw [HS0.out] at this; exact this) hb); clear hb))
        have hlt : p + n < s.size := by omega
        have hlti : (p : Int) + (n : Int) < (s.size : Int) := by omega
        have hge0 : (0 : Int) ≤ (p : Int) + (n : Int) := by omega
        have hx := bl_from s (p + n)
        have hxs : (s.extract (p + n) s.size).size = s.size - (p + n) := by rw [← bl_len, hx, List.length_drop, bl_len]
        have hx0 : 0 < (s.extract (p + n) s.size).size := by omega
        have hxc : (s.extract (p + n) s.size)[0]'hx0 = s[p + n]'hlt := by
          have h1 := bl_get _ 0 hx0
          rw [hx, List.getElem?_drop, Nat.add_zero, bl_get s (p + n) hlt] at h1
          exact (Option.some.inj h1).symm
        obtain ⟨f, hfn, hent, hcal⟩ := reader_all (s.extract (p + n) s.size) (by omega) hx0
        rw [hxc] at hfn
        rw [hx] at hcal
        have hcr := cls_range (s[p + n]'hlt)
        have hcr1 := hcr.1
        have hcr2 := hcr.2
        obtain ⟨T, hT⟩ : ∃ T, T = w1.heap.size := ⟨_, rfl⟩
        obtain ⟨W1, hW1⟩ : ∃ W1, W1 = w1.alloc (Obj.cells #[Value.int IntKind.i64 0, Value.string { data := #[] }, Value.int IntKind.i64 0, Value.int IntKind.i64 0] 42) := ⟨_, rfl⟩
        have HTB : Aside0 (W1.heap[T]? = some (.cells #[.int .i64 0, .string ⟨#[]⟩, .int .i64 0, .int .i64 0] 42 (0, 0))) := ⟨by rw [hW1, hT]; exact blk_new w1 _⟩
        have HTL : Aside0 (T < W1.heap.size) := ⟨by rw [hW1, hT]; simp⟩
        have HTG : Aside0 (w.heap.size + 1 ≤ T) := ⟨by rw [hT]; have := HW2.out.size; rw [HS0.out] at this; exact this⟩
        have HR1 : Aside0 (Kd.R k42 42 W1 (w.heap.size + 1) (fun _ => True) u4 (L.map tokS)) := ⟨by rw [hW1]; exact Kd.R_alloc HR.out _⟩
        have HRT : Aside0 (∀ k, u4.ownBlock = some k → k < T) := ⟨by rw [hT]; exact Kd.R_lt HR.out⟩
        have HW1 : Aside0 (Below (w.heap.size + 1) W0 W1) := ⟨by rw [hW1]; exact HW2.out.alloc (by have := HTG.out; rw [hT] at this; exact this) _⟩
        have HB1 : Aside0 (Below w.heap.size w W1) := ⟨HB0.out.trans (below_le HW1.out (Nat.le_succ _))⟩
        rw [← hT, ← hW1]
        have HFN := Aside0.mk hfn
        have HENT := Aside0.mk hent
        have HCAL := Aside0.mk hcal
        have HXX := Aside0.mk hxs
        clear hW1 hT hfn hent hcal hx hxs hx0 hxc HR HW2 hcr
        cases htk : tok (((bl s).drop (p + n))) with
        | none =>
          have HTK := Aside0.mk htk
          rw [htk] at HCAL
          clear htk
          refine start_ (n := 19) (S := fun w' => True) (ds := []) #[false, false, false, false, false, false, false, false, false, false, false, false, false, false, false, false, false, false, false] (by kernel_rfl) rfl rfl trivial (fun hHeld => ?_)
          refine pure_ (i := 1) (N := some 35) (v := ?_) (a' := ?_) #[false, true, false, false, false, false, false, false, false, false, false, false, false, false, false, false, false, false, false] rfl rfl (by kernel_rfl) (fun _ _ _ h => h) (Or.inl ⟨by rfl, ?_⟩) ?_ ?_
          rotate_left
          · intro w'
            go_simp
            with_reducible rfl
          rotate_left
          · simp only [Act.put, List.setIfInBounds_toArray, List.set_cons_zero, List.set_cons_succ, i64_w, i32_w]
            rfl
          refine pure_ (i := 2) (N := some 36) (v := ?_) (a' := ?_) #[false, true, true, false, false, false, false, false, false, false, false, false, false, false, false, false, false, false, false] rfl rfl (by kernel_rfl) (fun _ _ _ h => h) (Or.inl ⟨by rfl, ?_⟩) ?_ ?_
          rotate_left
          · intro w'
            go_simp
            with_reducible rfl
          rotate_left
          · simp only [Act.put, List.setIfInBounds_toArray, List.set_cons_zero, List.set_cons_succ, i64_w, i32_w]
            rfl
          refine pure_ (i := 8) (N := some 42) (v := ?_) (a' := ?_) #[false, true, true, false, false, false, false, false, true, false, false, false, false, false, false, false, false, false, false] rfl rfl (by kernel_rfl) (fun _ _ _ h => h) (Or.inl ⟨by rfl, ?_⟩) ?_ ?_
          rotate_left
          · intro w'
            go_simp
            with_reducible rfl
          rotate_left
          · simp only [Act.put, List.setIfInBounds_toArray, List.set_cons_zero, List.set_cons_succ, i64_w, i32_w]
            rfl
          refine pure_ (i := 9) (N := some 43) (v := ?_) (a' := ?_) #[false, true, true, false, false, false, false, false, true, true, false, false, false, false, false, false, false, false, false] rfl rfl (by kernel_rfl) (fun _ _ _ h => h) (Or.inl ⟨by rfl, ?_⟩) ?_ ?_
          rotate_left
          · intro w'
            go_simp
            with_reducible rfl
          rotate_left
          · simp only [Act.put, List.setIfInBounds_toArray, List.set_cons_zero, List.set_cons_succ, i64_w, i32_w]
            rfl
          refine pure_ (i := 10) (N := some 44) (v := ?_) (a' := ?_) #[false, true, true, false, false, false, false, false, true, true, true, false, false, false, false, false, false, false, false] rfl rfl (by kernel_rfl) (fun _ _ _ h => h) (Or.inl ⟨by rfl, ?_⟩) ?_ ?_
          rotate_left
          · intro w'
            go_simp
            with_reducible rfl
          rotate_left
          · simp only [Act.put, List.setIfInBounds_toArray, List.set_cons_zero, List.set_cons_succ, i64_w, i32_w]
            rfl
          refine take_ (i := 3) (N := some 37) (v := ?_) (a' := ?_) #[false, true, true, true, false, false, false, false, true, true, true, false, false, false, false, false, false, false, false] rfl rfl (by kernel_rfl) (fun _ _ _ h => h) (Or.inl ⟨by rfl, ?_⟩) hHeld ?_ ?_
          rotate_left
          · intro w' _
            go_simp
            with_reducible rfl
          rotate_left
          · simp only [Act.put, List.setIfInBounds_toArray, List.set_cons_zero, List.set_cons_succ, i64_w, i32_w]
            rfl
          refine one_ (i := 0) (N := some 34) #[true, true, true, true, false, false, false, false, true, true, true, false, false, false, false, false, false, false, false] rfl rfl (by kernel_rfl) (by decide) (fun K hK => ?_)
          refine goes_ Tryd.func45 (by kernel_rfl) rfl #[] (by rfl) rfl rfl (by simp only [List.map_toArray, List.map_cons, List.map_nil]) ?_
          with_reducible refine (readers_calls _).mono ?_
          rintro e w3 ⟨B, rfl, hrd, hBl, hb⟩
          refine ⟨_, rfl, ?_⟩
          refine hK.out _ _ trivial (fun hHeld => ?_)
          clear hK K
          refine norm_ (a' := ?_) ?_ ?_
          rotate_left
          · show Act.put _ (some 34) _ = _
            simp only [Act.put, List.setIfInBounds_toArray, List.set_cons_zero, List.set_cons_succ, i64_w, i32_w]
            rfl
          refine one_ (i := 4) (N := some 38) #[true, true, true, true, true, false, false, false, true, true, true, false, false, false, false, false, false, false, false] rfl rfl (by kernel_rfl) (by decide) (fun K hK => ?_)
          refine goes_ Tryd.func46 (by kernel_rfl) rfl #[.int .u8 ((s[p + n]'hlt).toNat : Int)] (by rfl) rfl rfl (by simp only [List.map_toArray, List.map_cons, List.map_nil]; rfl) ?_
          with_reducible refine (classOf_calls (s[p + n]'hlt) _).mono ?_
          rintro e w4 ⟨rfl, hb2⟩
          have hrd4 := (hb2.block B (blk_lt hrd)).trans hrd
          have hbW : Below W1.heap.size W1 w4 := below_then (Below.trans (below_drew (Below.refl W1.heap.size W1)) hb) hb.size hb2
          have hld : w4.cell? ⟨B, (cls (s[p + n]'hlt)).toNat, none⟩ = some (.func (.func f) #[] #[]) := (blk_cell hrd4 _).trans HFN.out
          have HW4 := Aside0.mk hbW
          have HBW4 : Aside0 (Below w.heap.size w w4) := ⟨HB1.out.trans (below_le hbW HB1.out.size)⟩
          clear hrd hrd4 hbW hb hb2 hBl
          refine ⟨_, rfl, ?_⟩
          refine hK.out _ _ trivial (fun hHeld => ?_)
          clear hK K
          refine norm_ (a' := ?_) ?_ ?_
          rotate_left
          · show Act.put _ (some 38) _ = _
            simp only [Act.put, List.setIfInBounds_toArray, List.set_cons_zero, List.set_cons_succ, i64_w, i32_w]
            rfl
          refine pure_ (i := 5) (N := some 39) (v := ?_) (a' := ?_) #[true, true, true, true, true, true, false, false, true, true, true, false, false, false, false, false, false, false, false] rfl rfl (by kernel_rfl) (fun _ _ _ h => h) (Or.inl ⟨by rfl, ?_⟩) ?_ ?_
          rotate_left
          · intro w'
            go_simp
            with_reducible rfl
          rotate_left
          · simp only [Act.put, List.setIfInBounds_toArray, List.set_cons_zero, List.set_cons_succ, i64_w, i32_w]
            rfl
          refine pure_ (i := 6) (N := some 40) (v := ?_) (a' := ?_) #[true, true, true, true, true, true, true, false, true, true, true, false, false, false, false, false, false, false, false] rfl rfl (by kernel_rfl) (fun _ _ _ h => h) (Or.inl ⟨by rfl, ?_⟩) ?_ ?_
          rotate_left
          · intro w'
            go_simp
            with_reducible rfl
          rotate_left
          · simp only [Act.put, List.setIfInBounds_toArray, List.set_cons_zero, List.set_cons_succ, i64_w, i32_w]
            rfl
          refine one_ (i := 7) (N := some 41) #[true, true, true, true, true, true, true, true, true, true, true, false, false, false, false, false, false, false, false] rfl rfl (by kernel_rfl) (by decide) (fun K hK => ?_)
          refine value_ (w1 := ?_) (v := ?_) (by rfl) rfl ?_ ?_
          rotate_left 2
          · go_simp
            constructor
            · rfl
            · rfl
          refine hK.out _ _ trivial (fun hHeld => ?_)
          clear hK K
          refine norm_ (a' := ?_) ?_ ?_
          rotate_left
          · show Act.put _ (some 41) _ = _
            simp only [Act.put, List.setIfInBounds_toArray, List.set_cons_zero, List.set_cons_succ, i64_w, i32_w]
            rfl
          refine one_ (i := 11) (N := some 45) #[true, true, true, true, true, true, true, true, true, true, true, true, false, false, false, false, false, false, false] rfl rfl (by kernel_rfl) (by decide) (fun K hK => ?_)
          refine goesV_ (.tmp 41) #[.string (s.extract (p + n) s.size)] (by rfl) rfl rfl (by rfl) HENT.out (by simp only [List.map_toArray, List.map_cons, List.map_nil]; rfl) ?_
          with_reducible refine (HCAL.out _ (HE.out.below HBW4.out)).mono ?_
          rintro e w5 ⟨ha, hb5⟩
          obtain ⟨t, k, hek⟩ := ha
          obtain rfl : e = .returned (.tuple #[.agg #[.int .i64 t.kind, .string ⟨t.text.toArray⟩, .int .i64 t.num, .int .i64 0], .int .i64 k, .bool false]) := hek
          have HW5 : Aside0 (Below W1.heap.size W1 w5) := ⟨below_then HW4.out HW4.out.size hb5⟩
          have hK5 := (HW5.out.block T HTL.out).trans HTB.out
          have HK5 := Aside0.mk hK5
          have d0 := blk_cell hK5 0
          have d1 := blk_cell hK5 1
          have d2 := blk_cell hK5 2
          have d3 := blk_cell hK5 3
          have f0 := fun i => blk_frozen hK5 i
          clear hb5 hK5 hld
          refine ⟨_, rfl, ?_⟩
          refine hK.out _ _ trivial (fun hHeld => ?_)
          clear hK K
          refine norm_ (a' := ?_) ?_ ?_
          rotate_left
          · show Act.put _ (some 45) _ = _
            simp only [Act.put, List.setIfInBounds_toArray, List.set_cons_zero, List.set_cons_succ, i64_w, i32_w]
            rfl
          refine pure_ (i := 12) (N := some 33) (v := ?_) (a' := ?_) #[true, true, true, true, true, true, true, true, true, true, true, true, true, false, false, false, false, false, false] rfl rfl (by kernel_rfl) (fun _ _ _ h => h) (Or.inl ⟨by rfl, ?_⟩) ?_ ?_
          rotate_left
          · intro w'
            go_simp
            with_reducible rfl
          rotate_left
          · simp only [Act.put, List.setIfInBounds_toArray, List.set_cons_zero, List.set_cons_succ, i64_w, i32_w]
            rfl
          refine pure_ (i := 13) (N := some 46) (v := ?_) (a' := ?_) #[true, true, true, true, true, true, true, true, true, true, true, true, true, true, false, false, false, false, false] rfl rfl (by kernel_rfl) (fun _ _ _ h => h) (Or.inl ⟨by rfl, ?_⟩) ?_ ?_
          rotate_left
          · intro w'
            go_simp
            with_reducible rfl
          rotate_left
          · simp only [Act.put, List.setIfInBounds_toArray, List.set_cons_zero, List.set_cons_succ, i64_w, i32_w]
            rfl
          refine pure_ (i := 14) (N := some 47) (v := ?_) (a' := ?_) #[true, true, true, true, true, true, true, true, true, true, true, true, true, true, true, false, false, false, false] rfl rfl (by kernel_rfl) (fun _ _ _ h => h) (Or.inl ⟨by rfl, ?_⟩) ?_ ?_
          rotate_left
          · intro w'
            go_simp
            with_reducible rfl
          rotate_left
          · simp only [Act.put, List.setIfInBounds_toArray, List.set_cons_zero, List.set_cons_succ, i64_w, i32_w]
            rfl
          refine pure_ (i := 15) (N := some 48) (v := ?_) (a' := ?_) #[true, true, true, true, true, true, true, true, true, true, true, true, true, true, true, true, false, false, false] rfl rfl (by kernel_rfl) (fun _ _ _ h => h) (Or.inl ⟨by rfl, ?_⟩) ?_ ?_
          rotate_left
          · intro w'
            go_simp
            with_reducible rfl
          rotate_left
          · simp only [Act.put, List.setIfInBounds_toArray, List.set_cons_zero, List.set_cons_succ, i64_w, i32_w]
            rfl
          refine one_ (i := 16) (N := none) #[true, true, true, true, true, true, true, true, true, true, true, true, true, true, true, true, true, false, false] rfl rfl (by kernel_rfl) (by decide) (fun K hK => ?_)
          refine skip_ (w1 := ?_) (by rfl) rfl ?_ ?_
          rotate_left
          · go_simp
            rfl
          refine hK.out _ _ trivial (fun hHeld => ?_)
          clear hK K
          refine pure_ (i := 17) (N := some 6) (v := ?_) (a' := ?_) #[true, true, true, true, true, true, true, true, true, true, true, true, true, true, true, true, true, true, false] rfl rfl (by kernel_rfl) (fun _ _ _ h => h) (Or.inl ⟨by rfl, ?_⟩) ?_ ?_
          rotate_left
          · intro w'
            go_simp
            with_reducible rfl
          rotate_left
          · simp only [Act.put, List.setIfInBounds_toArray, List.set_cons_zero, List.set_cons_succ, i64_w, i32_w]
            rfl
          refine pure_ (i := 18) (N := some 7) (v := ?_) (a' := ?_) #[true, true, true, true, true, true, true, true, true, true, true, true, true, true, true, true, true, true, true] rfl rfl (by kernel_rfl) (fun _ _ _ h => h) (Or.inl ⟨by rfl, ?_⟩) ?_ ?_
          rotate_left
          · intro w'
            go_simp
            with_reducible rfl
          rotate_left
          · simp only [Act.put, List.setIfInBounds_toArray, List.set_cons_zero, List.set_cons_succ, i64_w, i32_w]
            rfl
          refine done_ (by kernel_rfl) ?_

          have hTw : w.heap.size ≠ T := by have := HTG.out; omega
          obtain ⟨W6, hW6⟩ : ∃ W6, W6 = ((((w5.setCell { block := T, off := 0 } (Value.int IntKind.i64 t.kind)).setCell { block := T, off := 1 } (Value.string { data := t.text.toArray })).setCell { block := T, off := 2 } (Value.int IntKind.i64 t.num)).setCell { block := T, off := 3 } (Value.int IntKind.i64 0)) := ⟨_, rfl⟩
          have hk6 := blk_put (blk_put (blk_put (blk_put HK5.out 0 (.int .i64 t.kind) rfl) 1 (.string ⟨t.text.toArray⟩) rfl) 2 (.int .i64 t.num) rfl) 3 (.int .i64 0) rfl
          rw [← hW6] at hk6
          have HK6 : Aside0 (W6.heap[T]? = some (.cells #[.int .i64 t.kind, .string ⟨t.text.toArray⟩, .int .i64 t.num, .int .i64 0] 42 (0, 0))) := ⟨hk6⟩
          have HR6 : Aside0 (Kd.R k42 42 W6 (w.heap.size + 1) (fun _ => True) u4 (L.map tokS)) := ⟨by rw [hW6]; exact R_mine (R_mine (R_mine (R_mine (Kd.R_below HR1.out HW5.out) HRT.out 0 _) HRT.out 1 _) HRT.out 2 _) HRT.out 3 _⟩
          have HW6 : Aside0 (Below (w.heap.size + 1) W0 W6) := ⟨by rw [hW6]; exact ((((HW1.out.trans (below_le HW5.out (by have := HTL.out; have := HTG.out; omega))).setCell (by exact HTG.out) _).setCell (by exact HTG.out) _).setCell (by exact HTG.out) _).setCell (by exact HTG.out) _⟩
          have HF6 : Aside0 (W6.heap[w.heap.size]? = some (.cells #[.int .i64 0, .int .i64 0] 25 (0, 0))) := ⟨(HW6.out.block w.heap.size (Nat.lt_succ_self _)).trans HF0.out⟩
          rw [← hW6]
          clear hW6 hk6 d0 d1 d2 d3 f0 HK5 HW5
          have d0 := blk_cell HF6.out 0
          have d1 := blk_cell HF6.out 1
          have f0 := fun i => blk_frozen HF6.out i
          go_wp2_with fail
          have hne : (((bl s).drop p).drop n) ≠ [] := by rw [List.drop_drop]; intro e; have := congrArg List.length e; rw [List.length_drop, bl_len] at this; simp at this; omega
          have hlx : LX = .inr (p + n) := by
            rw [HL.out, cutR_none _ _ _ HK.out hne (by rw [List.drop_drop]; exact HTK.out)]; rfl
          refine cut_ret rfl w _ _ _ _ _ _ _ HF6.out rfl ⟨?_, ?_⟩
          · rw [hlx]; rfl
          · exact ((HB0.out.trans (below_le HW6.out (Nat.le_succ _))).setCell (Nat.le_refl _) _).setCell (Nat.le_refl _) _
        | some q =>
          obtain ⟨t, k⟩ := q
          have HTK := Aside0.mk htk
          rw [htk] at HCAL
          clear htk
          refine start_ (n := 19) (S := fun w' => True) (ds := []) #[false, false, false, false, false, false, false, false, false, false, false, false, false, false, false, false, false, false, false] (by kernel_rfl) rfl rfl trivial (fun hHeld => ?_)
          refine pure_ (i := 1) (N := some 35) (v := ?_) (a' := ?_) #[false, true, false, false, false, false, false, false, false, false, false, false, false, false, false, false, false, false, false] rfl rfl (by kernel_rfl) (fun _ _ _ h => h) (Or.inl ⟨by rfl, ?_⟩) ?_ ?_
          rotate_left
          · intro w'
            go_simp
            with_reducible rfl
          rotate_left
          · simp only [Act.put, List.setIfInBounds_toArray, List.set_cons_zero, List.set_cons_succ, i64_w, i32_w]
            rfl
          refine pure_ (i := 2) (N := some 36) (v := ?_) (a' := ?_) #[false, true, true, false, false, false, false, false, false, false, false, false, false, false, false, false, false, false, false] rfl rfl (by kernel_rfl) (fun _ _ _ h => h) (Or.inl ⟨by rfl, ?_⟩) ?_ ?_
          rotate_left
          · intro w'
            go_simp
            with_reducible rfl
          rotate_left
          · simp only [Act.put, List.setIfInBounds_toArray, List.set_cons_zero, List.set_cons_succ, i64_w, i32_w]
            rfl
          refine pure_ (i := 8) (N := some 42) (v := ?_) (a' := ?_) #[false, true, true, false, false, false, false, false, true, false, false, false, false, false, false, false, false, false, false] rfl rfl (by kernel_rfl) (fun _ _ _ h => h) (Or.inl ⟨by rfl, ?_⟩) ?_ ?_
          rotate_left
          · intro w'
            go_simp
            with_reducible rfl
          rotate_left
          · simp only [Act.put, List.setIfInBounds_toArray, List.set_cons_zero, List.set_cons_succ, i64_w, i32_w]
            rfl
          refine pure_ (i := 9) (N := some 43) (v := ?_) (a' := ?_) #[false, true, true, false, false, false, false, false, true, true, false, false, false, false, false, false, false, false, false] rfl rfl (by kernel_rfl) (fun _ _ _ h => h) (Or.inl ⟨by rfl, ?_⟩) ?_ ?_
          rotate_left
          · intro w'
            go_simp
            with_reducible rfl
          rotate_left
          · simp only [Act.put, List.setIfInBounds_toArray, List.set_cons_zero, List.set_cons_succ, i64_w, i32_w]
            rfl
          refine pure_ (i := 10) (N := some 44) (v := ?_) (a' := ?_) #[false, true, true, false, false, false, false, false, true, true, true, false, false, false, false, false, false, false, false] rfl rfl (by kernel_rfl) (fun _ _ _ h => h) (Or.inl ⟨by rfl, ?_⟩) ?_ ?_
          rotate_left
          · intro w'
            go_simp
            with_reducible rfl
          rotate_left
          · simp only [Act.put, List.setIfInBounds_toArray, List.set_cons_zero, List.set_cons_succ, i64_w, i32_w]
            rfl
          refine take_ (i := 3) (N := some 37) (v := ?_) (a' := ?_) #[false, true, true, true, false, false, false, false, true, true, true, false, false, false, false, false, false, false, false] rfl rfl (by kernel_rfl) (fun _ _ _ h => h) (Or.inl ⟨by rfl, ?_⟩) hHeld ?_ ?_
          rotate_left
          · intro w' _
            go_simp
            with_reducible rfl
          rotate_left
          · simp only [Act.put, List.setIfInBounds_toArray, List.set_cons_zero, List.set_cons_succ, i64_w, i32_w]
            rfl
          refine one_ (i := 0) (N := some 34) #[true, true, true, true, false, false, false, false, true, true, true, false, false, false, false, false, false, false, false] rfl rfl (by kernel_rfl) (by decide) (fun K hK => ?_)
          refine goes_ Tryd.func45 (by kernel_rfl) rfl #[] (by rfl) rfl rfl (by simp only [List.map_toArray, List.map_cons, List.map_nil]) ?_
          with_reducible refine (readers_calls _).mono ?_
          rintro e w3 ⟨B, rfl, hrd, hBl, hb⟩
          refine ⟨_, rfl, ?_⟩
          refine hK.out _ _ trivial (fun hHeld => ?_)
          clear hK K
          refine norm_ (a' := ?_) ?_ ?_
          rotate_left
          · show Act.put _ (some 34) _ = _
            simp only [Act.put, List.setIfInBounds_toArray, List.set_cons_zero, List.set_cons_succ, i64_w, i32_w]
            rfl
          refine one_ (i := 4) (N := some 38) #[true, true, true, true, true, false, false, false, true, true, true, false, false, false, false, false, false, false, false] rfl rfl (by kernel_rfl) (by decide) (fun K hK => ?_)
          refine goes_ Tryd.func46 (by kernel_rfl) rfl #[.int .u8 ((s[p + n]'hlt).toNat : Int)] (by rfl) rfl rfl (by simp only [List.map_toArray, List.map_cons, List.map_nil]; rfl) ?_
          with_reducible refine (classOf_calls (s[p + n]'hlt) _).mono ?_
          rintro e w4 ⟨rfl, hb2⟩
          have hrd4 := (hb2.block B (blk_lt hrd)).trans hrd
          have hbW : Below W1.heap.size W1 w4 := below_then (Below.trans (below_drew (Below.refl W1.heap.size W1)) hb) hb.size hb2
          have hld : w4.cell? ⟨B, (cls (s[p + n]'hlt)).toNat, none⟩ = some (.func (.func f) #[] #[]) := (blk_cell hrd4 _).trans HFN.out
          have HW4 := Aside0.mk hbW
          have HBW4 : Aside0 (Below w.heap.size w w4) := ⟨HB1.out.trans (below_le hbW HB1.out.size)⟩
          clear hrd hrd4 hbW hb hb2 hBl
          refine ⟨_, rfl, ?_⟩
          refine hK.out _ _ trivial (fun hHeld => ?_)
          clear hK K
          refine norm_ (a' := ?_) ?_ ?_
          rotate_left
          · show Act.put _ (some 38) _ = _
            simp only [Act.put, List.setIfInBounds_toArray, List.set_cons_zero, List.set_cons_succ, i64_w, i32_w]
            rfl
          refine pure_ (i := 5) (N := some 39) (v := ?_) (a' := ?_) #[true, true, true, true, true, true, false, false, true, true, true, false, false, false, false, false, false, false, false] rfl rfl (by kernel_rfl) (fun _ _ _ h => h) (Or.inl ⟨by rfl, ?_⟩) ?_ ?_
          rotate_left
          · intro w'
            go_simp
            with_reducible rfl
          rotate_left
          · simp only [Act.put, List.setIfInBounds_toArray, List.set_cons_zero, List.set_cons_succ, i64_w, i32_w]
            rfl
          refine pure_ (i := 6) (N := some 40) (v := ?_) (a' := ?_) #[true, true, true, true, true, true, true, false, true, true, true, false, false, false, false, false, false, false, false] rfl rfl (by kernel_rfl) (fun _ _ _ h => h) (Or.inl ⟨by rfl, ?_⟩) ?_ ?_
          rotate_left
          · intro w'
            go_simp
            with_reducible rfl
          rotate_left
          · simp only [Act.put, List.setIfInBounds_toArray, List.set_cons_zero, List.set_cons_succ, i64_w, i32_w]
            rfl
          refine one_ (i := 7) (N := some 41) #[true, true, true, true, true, true, true, true, true, true, true, false, false, false, false, false, false, false, false] rfl rfl (by kernel_rfl) (by decide) (fun K hK => ?_)
          refine value_ (w1 := ?_) (v := ?_) (by rfl) rfl ?_ ?_
          rotate_left 2
          · go_simp
            constructor
            · rfl
            · rfl
          refine hK.out _ _ trivial (fun hHeld => ?_)
          clear hK K
          refine norm_ (a' := ?_) ?_ ?_
          rotate_left
          · show Act.put _ (some 41) _ = _
            simp only [Act.put, List.setIfInBounds_toArray, List.set_cons_zero, List.set_cons_succ, i64_w, i32_w]
            rfl
          refine one_ (i := 11) (N := some 45) #[true, true, true, true, true, true, true, true, true, true, true, true, false, false, false, false, false, false, false] rfl rfl (by kernel_rfl) (by decide) (fun K hK => ?_)
          refine goesV_ (.tmp 41) #[.string (s.extract (p + n) s.size)] (by rfl) rfl rfl (by rfl) HENT.out (by simp only [List.map_toArray, List.map_cons, List.map_nil]; rfl) ?_
          with_reducible refine (HCAL.out _ (HE.out.below HBW4.out)).mono ?_
          rintro e w5 ⟨ha, hb5⟩
          obtain rfl : e = .returned (.tuple #[.agg #[.int .i64 t.kind, .string ⟨t.text.toArray⟩, .int .i64 t.num, .int .i64 0], .int .i64 (k : Int), .bool true]) := ha
          have HW5 : Aside0 (Below W1.heap.size W1 w5) := ⟨below_then HW4.out HW4.out.size hb5⟩
          have hK5 := (HW5.out.block T HTL.out).trans HTB.out
          have HK5 := Aside0.mk hK5
          have d0 := blk_cell hK5 0
          have d1 := blk_cell hK5 1
          have d2 := blk_cell hK5 2
          have d3 := blk_cell hK5 3
          have f0 := fun i => blk_frozen hK5 i
          clear hb5 hK5 hld
          refine ⟨_, rfl, ?_⟩
          refine hK.out _ _ trivial (fun hHeld => ?_)
          clear hK K
          refine norm_ (a' := ?_) ?_ ?_
          rotate_left
          · show Act.put _ (some 45) _ = _
            simp only [Act.put, List.setIfInBounds_toArray, List.set_cons_zero, List.set_cons_succ, i64_w, i32_w]
            rfl
          refine pure_ (i := 12) (N := some 33) (v := ?_) (a' := ?_) #[true, true, true, true, true, true, true, true, true, true, true, true, true, false, false, false, false, false, false] rfl rfl (by kernel_rfl) (fun _ _ _ h => h) (Or.inl ⟨by rfl, ?_⟩) ?_ ?_
          rotate_left
          · intro w'
            go_simp
            with_reducible rfl
          rotate_left
          · simp only [Act.put, List.setIfInBounds_toArray, List.set_cons_zero, List.set_cons_succ, i64_w, i32_w]
            rfl
          refine pure_ (i := 13) (N := some 46) (v := ?_) (a' := ?_) #[true, true, true, true, true, true, true, true, true, true, true, true, true, true, false, false, false, false, false] rfl rfl (by kernel_rfl) (fun _ _ _ h => h) (Or.inl ⟨by rfl, ?_⟩) ?_ ?_
          rotate_left
          · intro w'
            go_simp
            with_reducible rfl
          rotate_left
          · simp only [Act.put, List.setIfInBounds_toArray, List.set_cons_zero, List.set_cons_succ, i64_w, i32_w]
            rfl
          refine pure_ (i := 14) (N := some 47) (v := ?_) (a' := ?_) #[true, true, true, true, true, true, true, true, true, true, true, true, true, true, true, false, false, false, false] rfl rfl (by kernel_rfl) (fun _ _ _ h => h) (Or.inl ⟨by rfl, ?_⟩) ?_ ?_
          rotate_left
          · intro w'
            go_simp
            with_reducible rfl
          rotate_left
          · simp only [Act.put, List.setIfInBounds_toArray, List.set_cons_zero, List.set_cons_succ, i64_w, i32_w]
            rfl
          refine pure_ (i := 15) (N := some 48) (v := ?_) (a' := ?_) #[true, true, true, true, true, true, true, true, true, true, true, true, true, true, true, true, false, false, false] rfl rfl (by kernel_rfl) (fun _ _ _ h => h) (Or.inl ⟨by rfl, ?_⟩) ?_ ?_
          rotate_left
          · intro w'
            go_simp
            with_reducible rfl
          rotate_left
          · simp only [Act.put, List.setIfInBounds_toArray, List.set_cons_zero, List.set_cons_succ, i64_w, i32_w]
            rfl
          refine one_ (i := 16) (N := none) #[true, true, true, true, true, true, true, true, true, true, true, true, true, true, true, true, true, false, false] rfl rfl (by kernel_rfl) (by decide) (fun K hK => ?_)
          refine skip_ (w1 := ?_) (by rfl) rfl ?_ ?_
          rotate_left
          · go_simp
            rfl
          refine hK.out _ _ trivial (fun hHeld => ?_)
          clear hK K
          refine pure_ (i := 17) (N := some 6) (v := ?_) (a' := ?_) #[true, true, true, true, true, true, true, true, true, true, true, true, true, true, true, true, true, true, false] rfl rfl (by kernel_rfl) (fun _ _ _ h => h) (Or.inl ⟨by rfl, ?_⟩) ?_ ?_
          rotate_left
          · intro w'
            go_simp
            with_reducible rfl
          rotate_left
          · simp only [Act.put, List.setIfInBounds_toArray, List.set_cons_zero, List.set_cons_succ, i64_w, i32_w]
            rfl
          refine pure_ (i := 18) (N := some 7) (v := ?_) (a' := ?_) #[true, true, true, true, true, true, true, true, true, true, true, true, true, true, true, true, true, true, true] rfl rfl (by kernel_rfl) (fun _ _ _ h => h) (Or.inl ⟨by rfl, ?_⟩) ?_ ?_
          rotate_left
          · intro w'
            go_simp
            with_reducible rfl
          rotate_left
          · simp only [Act.put, List.setIfInBounds_toArray, List.set_cons_zero, List.set_cons_succ, i64_w, i32_w]
            rfl
          refine done_ (by kernel_rfl) ?_

          have hTw : w.heap.size ≠ T := by have := HTG.out; omega
          obtain ⟨W6, hW6⟩ : ∃ W6, W6 = ((((w5.setCell { block := T, off := 0 } (Value.int IntKind.i64 t.kind)).setCell { block := T, off := 1 } (Value.string { data := t.text.toArray })).setCell { block := T, off := 2 } (Value.int IntKind.i64 t.num)).setCell { block := T, off := 3 } (Value.int IntKind.i64 0)) := ⟨_, rfl⟩
          have hk6 := blk_put (blk_put (blk_put (blk_put HK5.out 0 (.int .i64 t.kind) rfl) 1 (.string ⟨t.text.toArray⟩) rfl) 2 (.int .i64 t.num) rfl) 3 (.int .i64 0) rfl
          rw [← hW6] at hk6
          have HK6 : Aside0 (W6.heap[T]? = some (.cells #[.int .i64 t.kind, .string ⟨t.text.toArray⟩, .int .i64 t.num, .int .i64 0] 42 (0, 0))) := ⟨hk6⟩
          have HR6 : Aside0 (Kd.R k42 42 W6 (w.heap.size + 1) (fun _ => True) u4 (L.map tokS)) := ⟨by rw [hW6]; exact R_mine (R_mine (R_mine (R_mine (Kd.R_below HR1.out HW5.out) HRT.out 0 _) HRT.out 1 _) HRT.out 2 _) HRT.out 3 _⟩
          have HW6 : Aside0 (Below (w.heap.size + 1) W0 W6) := ⟨by rw [hW6]; exact ((((HW1.out.trans (below_le HW5.out (by have := HTL.out; have := HTG.out; omega))).setCell (by exact HTG.out) _).setCell (by exact HTG.out) _).setCell (by exact HTG.out) _).setCell (by exact HTG.out) _⟩
          have HF6 : Aside0 (W6.heap[w.heap.size]? = some (.cells #[.int .i64 0, .int .i64 0] 25 (0, 0))) := ⟨(HW6.out.block w.heap.size (Nat.lt_succ_self _)).trans HF0.out⟩
          rw [← hW6]
          clear hW6 hk6 d0 d1 d2 d3 f0 HK5 HW5
          have hkl := (tok_le _ _ _ HTK.out)
          rw [List.length_drop, bl_len] at hkl
          have d0 := blk_cell HK6.out 0
          have d1 := blk_cell HK6.out 1
          have d2 := blk_cell HK6.out 2
          have d3 := blk_cell HK6.out 3
          have f0 := fun i => blk_frozen HK6.out i
          have hw7 : wrap64 ((p : Int) + (n : Int) + (k : Int)) = (p : Int) + (n : Int) + (k : Int) := by unfold wrap64; omega
          have HR7 : Aside0 (Kd.R k42 42 (W6.setCell ⟨T, 3, none⟩ (.int .i64 ((p : Int) + (n : Int)))) (w.heap.size + 1) (fun _ => True) u4 (L.map tokS)) := ⟨R_mine HR6.out HRT.out 3 _⟩
          have HW7 : Aside0 (Below (w.heap.size + 1) W0 (W6.setCell ⟨T, 3, none⟩ (.int .i64 ((p : Int) + (n : Int))))) := ⟨HW6.out.setCell (by exact HTG.out) _⟩
          go_wp2_with (at_builtin; refine Kd.R_append k42 (w0 := W0) (w.heap.size + 1) rfl (.tmp 55) (.tmp 57) 22 42 (.agg #[(.int .i64 0), (.string ⟨#[]⟩), (.int .i64 0), (.int .i64 0)]) 40 rfl Tryd.underlying22 info42 rfl (by decide) (by omega) _ (L.map tokS) (tokS ⟨t, p + n⟩) [.int .i64 t.kind, .string ⟨t.text.toArray⟩, .int .i64 t.num, .int .i64 ((p : Int) + (n : Int))] (fun _ => True) (fun _ => False) rfl (by rw [show (World.setCell W6 ⟨T, 3, none⟩ (.int .i64 ((p : Int) + (n : Int)))).heap.size = W6.heap.size from by simp [World.setCell]]; rfl) (by exact k42_mkM _ _ _ (tokS ⟨t, p + n⟩)) (fun _ hk => hk.elim) (fun _ _ => trivial) (by exact HR7.out) (by exact HW7.out) (by have := HW7.out.size; rw [HS0.out] at this; exact this) (by rw [List.length_map]; have := HLP.out; omega) ?_; intro v1 w8 hr8 hb8 hg8 ha8; have HR8 := Aside0.mk hr8; have HW8 := Aside0.mk hb8; clear hr8 hb8 hg8 ha8)
          go_roundw
          case rel =>
            refine ⟨p + n + k, L ++ [⟨t, p + n⟩], by go_num, by omega, ⟨?_⟩, ⟨?_⟩, ⟨?_⟩, HW8⟩
            · rw [List.length_append, List.length_singleton]; have := HLP.out; omega
            · rw [HL.out, cutR_some _ _ _ _ _ HK.out (by rw [List.drop_drop]; exact HTK.out), pre_pre, List.drop_drop, Nat.add_assoc p n k]
            · rw [List.map_append]; exact HR8.out
          case measure => simp [intOf]; omega
end Go.Proofs.YtjibdaigclgmhaaDoor.LexW
