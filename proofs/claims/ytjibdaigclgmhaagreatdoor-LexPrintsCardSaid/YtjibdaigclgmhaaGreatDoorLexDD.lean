/- Print, walked: its answer in plain words. Conditions: those that each theorem states. -/
import Derived.Test.YtjibdaigclgmhaaGreatDoorLexCC
import Derived.Test.YtjibdaigclgmhaaGreatDoorLexK
import Derived.Test.YtjibdaigclgmhaaGreatDoorFacts
import Derived.Test.YtjibdaigclgmhaaGreatDoorLexL
namespace Go.Proofs.YtjibdaigclgmhaaGreatDoor.LexW
open Go.RowKit Go.Proofs.YtjibdaigclgmhaaGreatDoor.Lex Go.Proofs.YtjibdaigclgmhaaGreatDoor.Facts Go.Proofs.YtjibdaigclgmhaaGreatDoor.PLexPrints Go.Proofs.YtjibdaigclgmhaaGreatDoorW.PrintWords Go.Proofs.YtjibdaigclgmhaaGreatDoorW.PrintLast Go.Proofs.YtjibdaigclgmhaaGreatDoorW.PrintMore
attribute [local go_sem] max2_int min2_int max_two min_two max_three min_three max_four min_four
set_option linter.unusedVariables false
set_option linter.unusedSimpArgs false
set_option maxHeartbeats 4000000 in
set_option maxRecDepth 100000 in
theorem print_none (A : Option Addr) (c : Nat) (w : World) : Calls Tryz.prog 9 #[.slice A 0 c] w fun e w' => e = .returned (.tuple #[.string ⟨#[]⟩, .int .i64 1]) ∧ Below w.heap.size w w' := by
  have HW : Aside0 (Below w.heap.size w w) := ⟨Below.refl _ _⟩
  go_enter Tryz.func9, Tryz.ntmps9
  go_wp2_with fail
  refine region_facts (ws := []) (G := fun _ w' => Aside0 (Below w.heap.size w w')) (φs := [Fact.eq ?va0, Fact.eq ?va1, Fact.eq ?va2, Fact.eq undef, Fact.eq undef, Fact.eq undef, Fact.eq undef, Fact.eq undef, Fact.eq undef, Fact.eq undef, Fact.eq undef, Fact.eq undef, Fact.eq undef, Fact.eq undef, Fact.eq ?va14]) (n := 15) (m := 71) (by kernel_rfl) (by kernel_rfl) rfl rfl (by kernel_rfl) (fun _ _ _ h hb => ⟨below_then h.out h.out.size hb⟩) (⟨below_drew HW.out⟩) ⟨?oa0, ?oa1, ?oa2, ?oa3, ?oa4, ?oa5, ?oa6, ?oa7, ?oa8, ?oa9, ?oa10, ?oa11, ?oa12, ?oa13, ?oa14, trivial⟩ ?fina
  case oa0 =>
    refine ask_val [.fix 4 _] rfl 13 rfl (.inl rfl) ⟨⟨by kernel_rfl, by conv => lhs; whnf⟩, trivial⟩ ?_
    dsimp only [Has, Fact.eq]
    intro e ρ w' hc hf hg hG h4
    go_simp
    with_reducible rfl
  case oa1 =>
    refine ask_val [.op 13 0 (Fact.eq _)] rfl 14 rfl (.inl rfl) ⟨⟨by kernel_rfl, rfl⟩, trivial⟩ ?_
    dsimp only [Has, Fact.eq]
    intro e ρ w' hc hf hg hG h13
    go_simp
    with_reducible rfl
  case oa2 =>
    refine ask_val [.op 14 1 (Fact.eq _)] rfl 15 rfl (.inl rfl) ⟨⟨by kernel_rfl, rfl⟩, trivial⟩ ?_
    dsimp only [Has, Fact.eq]
    intro e ρ w' hc hf hg hG h14
    go_simp
    with_reducible rfl
  case oa3 =>
    exact ask_off rfl ⟨2, true, rfl, by kernel_rfl, rfl⟩
  case oa4 =>
    exact ask_off rfl ⟨2, true, rfl, by kernel_rfl, rfl⟩
  case oa5 =>
    exact ask_off rfl ⟨2, true, rfl, by kernel_rfl, rfl⟩
  case oa6 =>
    exact ask_off rfl ⟨2, true, rfl, by kernel_rfl, rfl⟩
  case oa7 =>
    exact ask_off rfl ⟨2, true, rfl, by kernel_rfl, rfl⟩
  case oa8 =>
    exact ask_off rfl ⟨2, true, rfl, by kernel_rfl, rfl⟩
  case oa9 =>
    exact ask_off rfl ⟨2, true, rfl, by kernel_rfl, rfl⟩
  case oa10 =>
    exact ask_off rfl ⟨2, true, rfl, by kernel_rfl, rfl⟩
  case oa11 =>
    exact ask_off rfl ⟨2, true, rfl, by kernel_rfl, rfl⟩
  case oa12 =>
    exact ask_off rfl ⟨2, true, rfl, by kernel_rfl, rfl⟩
  case oa13 =>
    exact ask_off rfl ⟨2, true, rfl, by kernel_rfl, rfl⟩
  case oa14 =>
    refine ask_val [.op 15 2 (Fact.eq _), .op 26 13 (Fact.eq _)] rfl 27 rfl (.inl rfl) ⟨⟨by kernel_rfl, rfl⟩, ⟨by kernel_rfl, rfl⟩, trivial⟩ ?_
    dsimp only [Has, Fact.eq]
    intro e ρ w' hc hf hg hG h15 h26
    go_simp
    with_reducible rfl
  case fina =>
    intro w' hG
    refine fin_eq (fin_eq (fin_eq (fin_eq (fin_eq (fin_eq (fin_eq (fin_eq (fin_eq (fin_eq (fin_eq (fin_eq (fin_eq (fin_eq (fin_eq (fin_nil (a' := ?_) ?_ ?_)))))))))))))))
    rotate_left
    · simp only [Act.put, List.setIfInBounds_toArray, List.set_cons_zero, List.set_cons_succ]
      rfl

    go_wp2_with fail
    go_ret2
    exact ⟨rfl, hG.out⟩
set_option maxHeartbeats 4000000 in
set_option maxRecDepth 100000 in
theorem print_nostop (X : List S28) (m : Nat) (hX : X.length = m + 1) (hb : m ≤ 1073741824) (z : S28) (hz : X[m]? = some z) (A : Option Addr) (c : Nat) (w : World) (hC : Kd.C k28 w A X.length X) (hc : X.length ≤ c) (nb : Bool) (hnb : Aside0 (nb = true)) (hns : ¬ (z.f0 = 18 ∧ bl z.f1 = [] ∧ z.f2 = 0)) : Calls Tryz.prog 9 #[.slice A X.length c] w fun e w' => e = .returned (.tuple #[.string ⟨#[]⟩, .int .i64 1]) ∧ Below w.heap.size w w' := by
  obtain ⟨ad, rfl, e0, e1, e2, e3⟩ := at_T28 hC (m : Int) (by omega) (by omega)
  have hr : rd_T28 X (m : Int) = z := by
    rw [rd_at _ m (by omega)]; exact (List.getElem?_eq_some_iff.1 hz).2
  rw [hr, Int.toNat_natCast] at e0 e1 e2 e3
  have HW : Aside0 (Below w.heap.size w w ∧ Kd.C k28 w (some ad) X.length X) := ⟨Below.refl _ _, hC⟩
  have HC0 : Aside0 (Kd.C k28 w (some ad) X.length X) := ⟨hC⟩
  obtain ⟨N, hN⟩ : ∃ N, X.length = N := ⟨_, rfl⟩
  have hw1 : wrap64 ((N : Int) - 1) = (m : Int) := by unfold wrap64; omega
  have hmN : (m : Int) < (N : Int) := by omega
  have hm0 : decide ((m : Int) < 0) = false := decide_eq_false (by omega)
  have HXN : Aside0 (X.length = m + 1) := ⟨hX⟩
  clear hC hX
  rw [hN] at HW HC0 hc ⊢
  have HQ : Aside0 (∀ w' : World, (if z.f0 = 18 then if z.f1.toList = [] then if z.f2 = 0 then (Result.ok (Next.value (.bool false)) w' : Result Next) else Result.ok (Next.value (.bool true)) w' else Result.ok (Next.value (.bool true)) w' else Result.ok (Next.value (.bool true)) w') = Result.ok (Next.value (.bool nb)) w') := ⟨fun w' => by
    rw [show z.f1.toList = bl z.f1 from ByteArray.toList_eq _]
    rw [hnb.out]; by_cases h1 : z.f0 = 18 <;> by_cases h2 : bl z.f1 = [] <;> by_cases h3 : z.f2 = 0 <;> simp [h1, h2, h3] <;> exact hns ⟨h1, h2, h3⟩⟩
  clear hns
  go_enter Tryz.func9, Tryz.ntmps9
  go_wp2_with fail
  refine region_facts (ws := []) (G := fun _ w' => w'.cell? (ad.add (m * 4)) = some (.int .i64 z.f0) ∧ w'.cell? ⟨(ad.add (m * 4)).block, (ad.add (m * 4)).off + 1, none⟩ = some (.string z.f1) ∧ w'.cell? ⟨(ad.add (m * 4)).block, (ad.add (m * 4)).off + 2, none⟩ = some (.int .i64 z.f2) ∧ w'.cell? ⟨(ad.add (m * 4)).block, (ad.add (m * 4)).off + 3, none⟩ = some (.int .i64 z.f3) ∧ Aside0 (Below w.heap.size w w' ∧ Kd.C k28 w' (some ad) (N) (X))) (φs := [Fact.eq ?vb0, Fact.eq ?vb1, Fact.eq ?vb2, Fact.eq ?vb3, Fact.eq ?vb4, Fact.eq ?vb5, Fact.eq ?vb6, Fact.eq ?vb7, Fact.eq ?vb8, Fact.eq ?vb9, Fact.eq ?vb10, Fact.eq ?vb11, Fact.eq ?vb12, Fact.eq (.bool nb), Fact.eq ?vb14]) (n := 15) (m := 71) (by kernel_rfl) (by kernel_rfl) rfl rfl (by kernel_rfl) (fun _ _ _ h hb => ⟨pw_cell_below hb h.1, pw_cell_below hb h.2.1, pw_cell_below hb h.2.2.1, pw_cell_below hb h.2.2.2.1, ⟨⟨below_then h.2.2.2.2.out.1 h.2.2.2.2.out.1.size hb, Kd.C_below h.2.2.2.2.out.2 hb⟩⟩⟩) (⟨e0, e1, e2, e3, ⟨⟨below_drew HW.out.1, Kd.C_below HW.out.2 (below_drew (Below.refl _ _))⟩⟩⟩) ⟨?ob0, ?ob1, ?ob2, ?ob3, ?ob4, ?ob5, ?ob6, ?ob7, ?ob8, ?ob9, ?ob10, ?ob11, ?ob12, ?ob13, ?ob14, trivial⟩ ?finb
  case ob0 =>
    refine ask_val [.fix 4 _] rfl 13 rfl (.inl rfl) ⟨⟨by kernel_rfl, by conv => lhs; whnf⟩, trivial⟩ ?_
    dsimp only [Has, Fact.eq]
    intro e ρ w' hc hf hg hG h4
    go_simp
    with_reducible rfl
  case ob1 =>
    refine ask_val [.op 13 0 (Fact.eq _)] rfl 14 rfl (.inl rfl) ⟨⟨by kernel_rfl, rfl⟩, trivial⟩ ?_
    dsimp only [Has, Fact.eq]
    intro e ρ w' hc hf hg hG h13
    go_simp
    with_reducible rfl
  case ob2 =>
    refine ask_val [.op 14 1 (Fact.eq _)] rfl 15 rfl (.inl rfl) ⟨⟨by kernel_rfl, rfl⟩, trivial⟩ ?_
    dsimp only [Has, Fact.eq]
    intro e ρ w' hc hf hg hG h14
    go_simp
    with_reducible rfl
  case ob3 =>
    refine ask_val [.fix 0 _] rfl 16 rfl (.inr ⟨2, false, rfl, by kernel_rfl, rfl⟩) ⟨⟨by kernel_rfl, by conv => lhs; whnf⟩, trivial⟩ ?_
    dsimp only [Has, Fact.eq]
    intro e ρ w' hc hf hg hG h0
    go_simp
    with_reducible rfl
  case ob4 =>
    refine ask_val [.fix 4 _] rfl 17 rfl (.inr ⟨2, false, rfl, by kernel_rfl, rfl⟩) ⟨⟨by kernel_rfl, by conv => lhs; whnf⟩, trivial⟩ ?_
    dsimp only [Has, Fact.eq]
    intro e ρ w' hc hf hg hG h4
    go_simp
    with_reducible rfl
  case ob5 =>
    refine ask_val [.op 16 3 (Fact.eq _), .op 17 4 (Fact.eq _)] rfl 18 rfl (.inr ⟨2, false, rfl, by kernel_rfl, rfl⟩) ⟨⟨by kernel_rfl, rfl⟩, ⟨by kernel_rfl, rfl⟩, trivial⟩ ?_
    dsimp only [Has, Fact.eq]
    intro e ρ w' hc hf hg hG h16 h17
    go_simp
    with_reducible rfl
  case ob6 =>
    refine ask_val [.op 18 5 (Fact.eq _)] rfl 19 rfl (.inr ⟨2, false, rfl, by kernel_rfl, rfl⟩) ⟨⟨by kernel_rfl, rfl⟩, trivial⟩ ?_
    dsimp only [Has, Fact.eq]
    intro e ρ w' hc hf hg hG h18
    obtain ⟨s0, s1, s2, s3, s4⟩ := hG
    go_simp
    with_reducible rfl
  case ob7 =>
    refine ask_val [.fix 0 _] rfl 20 rfl (.inr ⟨2, false, rfl, by kernel_rfl, rfl⟩) ⟨⟨by kernel_rfl, by conv => lhs; whnf⟩, trivial⟩ ?_
    dsimp only [Has, Fact.eq]
    intro e ρ w' hc hf hg hG h0
    go_simp
    with_reducible rfl
  case ob8 =>
    refine ask_val [.fix 4 _] rfl 21 rfl (.inr ⟨2, false, rfl, by kernel_rfl, rfl⟩) ⟨⟨by kernel_rfl, by conv => lhs; whnf⟩, trivial⟩ ?_
    dsimp only [Has, Fact.eq]
    intro e ρ w' hc hf hg hG h4
    go_simp
    with_reducible rfl
  case ob9 =>
    refine ask_val [.op 20 7 (Fact.eq _), .op 21 8 (Fact.eq _)] rfl 22 rfl (.inr ⟨2, false, rfl, by kernel_rfl, rfl⟩) ⟨⟨by kernel_rfl, rfl⟩, ⟨by kernel_rfl, rfl⟩, trivial⟩ ?_
    dsimp only [Has, Fact.eq]
    intro e ρ w' hc hf hg hG h20 h21
    go_simp
    with_reducible rfl
  case ob10 =>
    refine ask_val [.op 22 9 (Fact.eq _)] rfl 23 rfl (.inr ⟨2, false, rfl, by kernel_rfl, rfl⟩) ⟨⟨by kernel_rfl, rfl⟩, trivial⟩ ?_
    dsimp only [Has, Fact.eq]
    intro e ρ w' hc hf hg hG h22
    go_simp
    with_reducible rfl
  case ob11 =>
    refine ask_val [.op 23 10 (Fact.eq _)] rfl 24 rfl (.inr ⟨2, false, rfl, by kernel_rfl, rfl⟩) ⟨⟨by kernel_rfl, rfl⟩, trivial⟩ ?_
    dsimp only [Has, Fact.eq]
    intro e ρ w' hc hf hg hG h23
    obtain ⟨s0, s1, s2, s3, s4⟩ := hG
    go_simp
    with_reducible rfl
  case ob12 =>
    refine ask_val [.op 24 11 (Fact.eq _)] rfl 25 rfl (.inr ⟨2, false, rfl, by kernel_rfl, rfl⟩) ⟨⟨by kernel_rfl, rfl⟩, trivial⟩ ?_
    dsimp only [Has, Fact.eq]
    intro e ρ w' hc hf hg hG h24
    go_simp
    with_reducible rfl
  case ob13 =>
    refine ask_val [.op 19 6 (Fact.eq _), .op 25 12 (Fact.eq _)] rfl 26 rfl (.inr ⟨2, false, rfl, by kernel_rfl, rfl⟩) ⟨⟨by kernel_rfl, rfl⟩, ⟨by kernel_rfl, rfl⟩, trivial⟩ ?_
    dsimp only [Has, Fact.eq]
    intro e ρ w' hc hf hg hG h19 h25
    go_simp
    exact HQ.out _
  case ob14 =>
    refine ask_val [.op 15 2 (Fact.eq _), .op 26 13 (Fact.eq _)] rfl 27 rfl (.inl rfl) ⟨⟨by kernel_rfl, rfl⟩, ⟨by kernel_rfl, rfl⟩, trivial⟩ ?_
    dsimp only [Has, Fact.eq]
    intro e ρ w' hc hf hg hG h15 h26
    go_simp
    with_reducible rfl
  case finb =>
    intro w' hG
    refine fin_eq (fin_eq (fin_eq (fin_eq (fin_eq (fin_eq (fin_eq (fin_eq (fin_eq (fin_eq (fin_eq (fin_eq (fin_eq (fin_eq (fin_eq (fin_nil (a' := ?_) ?_ ?_)))))))))))))))
    rotate_left
    · simp only [Act.put, List.setIfInBounds_toArray, List.set_cons_zero, List.set_cons_succ]
      rfl
    rw [hnb.out]
    go_wp2_with fail
    go_ret2
    exact ⟨rfl, hG.2.2.2.2.out.1⟩
theorem cut_list {s : ByteArray} {l : List TokA} (hq : lex (bl s) = .inl l) (hs : s.size ≤ 1099511627776) (w : World) (E : Erg w) : Calls Tryz.prog 16 #[.string s] w fun e w' => ∃ A c, e = .returned (.tuple #[.slice A l.length c, .agg #[.int .i64 0, .int .i64 0]]) ∧ l.length ≤ c ∧ Kd.C k28 w' A l.length (l.map tokS) ∧ Below w.heap.size w w' := by
  refine (cut_calls s hs w E).mono ?_
  rintro e w' h
  rw [hq] at h
  obtain ⟨⟨v, rfl, hR⟩, hb⟩ := h
  obtain ⟨A, c, rfl⟩ := Kd.R_slice hR
  rw [List.length_map] at hR ⊢
  have hC := Kd.R_reads' hR
  rw [List.length_map] at hC
  exact ⟨A, c, rfl, hC.2.1, hC.2.2, hb⟩
theorem cut_fault {s : ByteArray} {a : Nat} (hq : lex (bl s) = .inr a) (hs : s.size ≤ 1099511627776) (w : World) (E : Erg w) : Calls Tryz.prog 16 #[.string s] w fun e w' => e = .returned (.tuple #[.slice none 0 0, .agg #[.int .i64 70, .int .i64 (a : Int)]]) ∧ Below w.heap.size w w' := by
  refine (cut_calls s hs w E).mono ?_
  rintro e w' h
  rw [hq] at h
  exact h
theorem cut_two {s : ByteArray} {t t2 : TokA} (hq : lex (bl s) = .inl [t, t2]) (hs : s.size ≤ 1099511627776) (w : World) (E : Erg w) : Calls Tryz.prog 16 #[.string s] w fun e w' => ∃ A c, e = .returned (.tuple #[.slice A 2 c, .agg #[.int .i64 0, .int .i64 0]]) ∧ 2 ≤ c ∧ Kd.C k28 w' A 2 [tokS t, tokS t2] ∧ Below w.heap.size w w' := cut_list hq hs w E
theorem two_at {w : World} {A : Option Addr} {t t2 : TokA} (h : Kd.C k28 w A 2 [tokS t, tokS t2]) : ∃ ad, A = some ad ∧ w.cell? ad = some (.int .i64 t.tok.kind) ∧ w.cell? ⟨ad.block, ad.off + 1, none⟩ = some (.string ⟨t.tok.text.toArray⟩) ∧ w.cell? ⟨ad.block, ad.off + 2, none⟩ = some (.int .i64 t.tok.num) ∧ w.cell? ⟨ad.block, ad.off + 3, none⟩ = some (.int .i64 (t.place : Int)) := by
  obtain ⟨ad, e, h0, h1, h2, h3⟩ := at_T28 h (0 : Int) (by omega) (by omega)
  rw [show (0 : Int).toNat * 4 = 0 from rfl, add0] at h0 h1 h2 h3
  exact ⟨ad, e, h0, h1, h2, h3⟩
def spB (x : S28) : ByteArray := sB (spellL x.f0 (bl x.f1) x.f2)
def tk (x : S28) : Tok := ⟨x.f0, bl x.f1, x.f2⟩
theorem spell_at (x : S28) (w : World) (hs : x.f1.size ≤ 1073741824) (hn0 : -9223372036854775808 ≤ x.f2) (hn : x.f2 ≤ 9223372036854775807) (E : PEnv w) : Calls Tryz.prog 15 #[.agg #[.int .i64 x.f0, .string x.f1, .int .i64 x.f2, .int .i64 x.f3]] w fun e w' => e = .returned (.string (spB x)) ∧ Below w.heap.size w w' := spell_calls x w hs hn0 hn E
theorem bl_spB (x : S28) : bl (spB x) = spellT (tk x) := rfl
def wcells (X : List S28) (m i : Nat) : List Value := (X.take i).map (fun x => .string (spB x)) ++ List.replicate (m - i) (.string ⟨#[]⟩)
theorem wcells_len (X : List S28) (m i : Nat) (h : i ≤ m) (hX : m ≤ X.length) : (wcells X m i).length = m := by
  unfold wcells; simp; omega
theorem wcells_set (X : List S28) (m i : Nat) (h : i < m) (hX : m ≤ X.length) (x : S28) (hx : X[i]? = some x) : (wcells X m i).set i (.string (spB x)) = wcells X m (i + 1) := by
  unfold wcells
  have hl : ((X.take i).map (fun x => Value.string (spB x))).length = i := by simp; omega
  rw [List.set_append_right _ _ (by omega), hl, Nat.sub_self, show m - i = (m - (i + 1)) + 1 by omega, List.replicate_succ, List.set_cons_zero, List.take_add_one, hx]
  simp
theorem tok_cmp (t : TokA) (x : S28) (w' : World) : (if t.tok.kind = x.f0 then if t.tok.text = bl x.f1 then if t.tok.num = x.f2 then if t.place = 0 then (Result.ok (Next.value (.bool false)) w' : Result Next) else Result.ok (Next.value (.bool true)) w' else Result.ok (Next.value (.bool true)) w' else Result.ok (Next.value (.bool true)) w' else Result.ok (Next.value (.bool true)) w') = Result.ok (Next.value (.bool (!decide (t = ⟨tk x, 0⟩)))) w' := by
  obtain ⟨⟨k, s, n⟩, pl⟩ := t
  unfold tk
  by_cases h1 : k = x.f0 <;> by_cases h2 : s = bl x.f1 <;> by_cases h3 : n = x.f2 <;> by_cases h4 : pl = 0 <;> simp [h1, h2, h3, h4]
theorem may_next {X : List S28} {i : Nat} {x : S28} (h : ∀ j y, j < i → X[j]? = some y → may (tk y) = true) (hx : X[i]? = some x) (hm : may (tk x) = true) : ∀ j y, j < i + 1 → X[j]? = some y → may (tk y) = true := fun j y hj hy => by
  by_cases e : j = i
  · subst e
    rw [hx] at hy
    cases hy
    exact hm
  · exact h j y (by omega) hy
theorem all_take {X : List S28} {i : Nat} (h : ∀ j y, j < i → X[j]? = some y → may (tk y) = true) : ∀ t ∈ (X.take i).map tk, may t = true := by
  intro t ht
  obtain ⟨x, hx, rfl⟩ := List.mem_map.1 ht
  obtain ⟨j, hj⟩ := List.mem_iff_getElem?.1 hx
  have hl := (List.getElem?_eq_some_iff.1 hj).1
  rw [List.length_take] at hl
  rw [List.getElem?_take_of_lt (by omega)] at hj
  exact h j x (by omega) hj
theorem join_at (X : List S28) (m : Nat) (hX : X.length = m + 1) (g : Nat) (w : World) (hB : w.heap[g]? = some (.cells (wcells X m m).toArray 9 (0, 0))) (hJ : (Lib.join ((X.take m).map fun x => bl (spB x)) [32]).length ≤ 140737488355328) (hm : m ≤ 1073741824) :
    Calls Tryz.prog 17 #[.slice (some ⟨g, 0, none⟩) m m, .string ⟨#[32]⟩] w fun e w' => e = .returned (.string (sB (joinW ((X.take m).map tk)))) ∧ Below w.heap.size w w' := by
  have hxl : ((X.take m).map spB).length = m := by rw [List.length_map, List.length_take]; omega
  have e1 : (((X.take m).map spB).map (·.data.toList)) = (X.take m).map fun x => bl (spB x) := by rw [List.map_map]; rfl
  have := Tryz.strings_Join g 0 m ((X.take m).map spB) ⟨#[32]⟩ w (fun j x hj => by
    rw [Nat.zero_add, blk_cell hB j, List.getElem?_toArray]
    unfold wcells
    rw [Nat.sub_self, List.replicate_zero, List.append_nil]
    rw [List.getElem?_map] at hj ⊢
    cases hx : (X.take m)[j]? with
    | none => rw [hx] at hj; cases hj
    | some y => rw [hx] at hj; cases hj; rfl) (blk_lt hB) (by rw [hxl]; omega) (by rw [hxl]; omega) (by rw [e1]; exact hJ)
  rw [hxl] at this
  refine this.mono fun e w' ⟨he, hb⟩ => ⟨?_, hb⟩
  rw [he, e1]
  unfold joinW sB
  rw [List.map_map]
  rfl
theorem made_one (v : Value) (m : Nat) : madeCells #[v] m = (List.replicate m v).toArray := by
  apply Array.ext
  · rw [size_madeCells]; simp
  · intro i h1 h2
    simp [madeCells, Nat.mod_one]
theorem make_words (X : List S28) (m : Nat) (hb : m ≤ 1073741824) (W : World) : (Instr.makeSlice 43 (.int .i64 (m : Int)) (.int .i64 (m : Int))).run Tryz.prog W = .ok (.slice (some ⟨W.heap.size, 0, none⟩) m m) (W.alloc (.cells (wcells X m 0).toArray 9)) := by
  obtain ⟨i, hi, h1, h2, h3⟩ := info_parts info9
  have := run_make (P := Tryz.prog) W 43 9 i (.string ⟨#[]⟩) Tryz.underlying43 hi h1 .i64 .i64 (m : Int) (m : Int) (by omega) (Int.le_refl _) (by rw [h3]; omega) (by omega)
  rw [this, h2, Int.toNat_natCast, Nat.mul_one]
  show Result.ok _ (W.alloc (.cells (madeCells #[.string ⟨#[]⟩] m) 9)) = _
  rw [made_one]
  unfold wcells
  simp
theorem blk_lt {w : World} {g : Nat} {o : Obj} (h : w.heap[g]? = some o) : g < w.heap.size := by
  rcases Nat.lt_or_ge g w.heap.size with h' | h'
  · exact h'
  · rw [Array.getElem?_eq_none h'] at h; cases h
theorem wcells_get (X : List S28) (m i : Nat) (h : i < m) (hX : m ≤ X.length) : (wcells X m i).toArray[i]? = some (.string ⟨#[]⟩) := by
  rw [List.getElem?_toArray]
  unfold wcells
  rw [List.getElem?_append_right (by rw [List.length_map, List.length_take]; exact Nat.min_le_left _ _), List.getElem?_replicate, if_pos (by rw [List.length_map, List.length_take]; omega)]
/-- the world behind the store of a word, and the copy's place made nought -/
structure WordF (V V2 : World) (g i p : Nat) (x : S28) (w1 : World) : Prop where
  s1 : w1.cell? ⟨g, i, none⟩ = some (.string ⟨#[]⟩)
  s2 : ∀ j, w1.frozen? ⟨g, j, none⟩ = false
  s3 : V.cell? ⟨p, 3, none⟩ = some (.int .i64 x.f3)
  s4 : ∀ j, V.frozen? ⟨p, j, none⟩ = false
  s5 : V2.cell? ⟨g, i, none⟩ = some (.string (spB x))
theorem word_facts (X : List S28) (m i : Nat) (h : i < m) (hX : m ≤ X.length) (x : S28) (hx : X[i]? = some x) (w wr w1 : World) (ad : Addr) (N g : Nat) (hg : w.heap.size ≤ g) (hB : wr.heap[g]? = some (.cells (wcells X m i).toArray 9 (0, 0)))
    (hW : Below w.heap.size w wr ∧ Kd.C k28 wr (some ad) N X) (hb : Below (wr.alloc (.cells #[.int .i64 x.f0, .string x.f1, .int .i64 x.f2, .int .i64 x.f3] 28 (0, 0))).heap.size (wr.alloc (.cells #[.int .i64 x.f0, .string x.f1, .int .i64 x.f2, .int .i64 x.f3] 28 (0, 0))) w1) :
    WordF (w1.setCell ⟨g, i, none⟩ (.string (spB x))) ((w1.setCell ⟨g, i, none⟩ (.string (spB x))).setCell ⟨wr.heap.size, 3, none⟩ (.int .i64 0)) g i wr.heap.size x w1 ∧
    Aside0 (((w1.setCell ⟨g, i, none⟩ (.string (spB x))).setCell ⟨wr.heap.size, 3, none⟩ (.int .i64 0)).heap[g]? = some (.cells (wcells X m (i + 1)).toArray 9 (0, 0)) ∧
      ((w1.setCell ⟨g, i, none⟩ (.string (spB x))).setCell ⟨wr.heap.size, 3, none⟩ (.int .i64 0)).heap[wr.heap.size]? = some (.cells #[.int .i64 x.f0, .string x.f1, .int .i64 x.f2, .int .i64 0] 28 (0, 0)) ∧
      Below w.heap.size w ((w1.setCell ⟨g, i, none⟩ (.string (spB x))).setCell ⟨wr.heap.size, 3, none⟩ (.int .i64 0)) ∧
      (∀ W, Kd.C k28 w (some ad) N X → Below w.heap.size w W → Kd.C k28 W (some ad) N X)) := by
  have hlt := blk_lt hB
  have hne : wr.heap.size ≠ g := by omega
  have b1 : w1.heap[g]? = some (.cells (wcells X m i).toArray 9 (0, 0)) := by
    rw [hb.block g (by simp; omega)]; exact blk_alloc hB _
  have p1 : w1.heap[wr.heap.size]? = some (.cells #[.int .i64 x.f0, .string x.f1, .int .i64 x.f2, .int .i64 x.f3] 28 (0, 0)) := by
    rw [hb.block _ (by simp)]; exact blk_new _ _
  have b2 := blk_put b1 i (.string (spB x)) (cs' := (wcells X m (i + 1)).toArray) (by rw [← wcells_set X m i h hX x hx]; simp)
  have p2 : (w1.setCell ⟨g, i, none⟩ (.string (spB x))).heap[wr.heap.size]? = _ := (Below.heap_setCell w1 ⟨g, i, none⟩ (.string (spB x)) wr.heap.size (by exact hne)).trans p1
  have p3 := blk_put p2 3 (.int .i64 0) (cs' := #[.int .i64 x.f0, .string x.f1, .int .i64 x.f2, .int .i64 0]) rfl
  have b3 : ((w1.setCell ⟨g, i, none⟩ (.string (spB x))).setCell ⟨wr.heap.size, 3, none⟩ (.int .i64 0)).heap[g]? = _ := (Below.heap_setCell _ ⟨wr.heap.size, 3, none⟩ (.int .i64 0) g (by exact hne.symm)).trans b2
  refine ⟨⟨?_, fun j => blk_frozen b1 j, ?_, fun j => blk_frozen p2 j, ?_⟩, ⟨b3, p3, ?_, fun W hC hb => Kd.C_below hC hb⟩⟩
  · rw [blk_cell b1 i]; exact wcells_get X m i h hX
  · rw [blk_cell p2 3]; rfl
  · rw [blk_cell b3 i, List.getElem?_toArray, ← wcells_set X m i h hX x hx, List.getElem?_set_self (by rw [wcells_len X m i (by omega) hX]; exact h)]
  · exact (((hW.1.alloc hW.1.size _).trans (below_le hb (by have := hW.1.size; simp; omega))).setCell hg _).setCell hW.1.size _
set_option maxHeartbeats 4000000 in
set_option maxRecDepth 100000 in
theorem print_main (X : List S28) (m : Nat) (hX : X.length = m + 1) (hb : m ≤ 1073741824) (z : S28) (hz : X[m]? = some z) (A : Option Addr) (c : Nat) (w : World) (hC : Kd.C k28 w A X.length X) (hc : X.length ≤ c) (nb : Bool) (hnb : Aside0 (nb = false)) (hst : z.f0 = 18 ∧ bl z.f1 = [] ∧ z.f2 = 0) (E : PEnv w) (hsz : ∀ (i : Nat) x, X[i]? = some x → x.f1.size ≤ 1073741824 ∧ -9223372036854775808 ≤ x.f2 ∧ x.f2 ≤ 9223372036854775807 ∧ (spB x).size ≤ 1099511627776) (hJ : (Lib.join ((X.take m).map fun x => bl (spB x)) [32]).length ≤ 140737488355328) (o : Value) (ho : Aside0 ((∀ t ∈ (X.take m).map tk, may t = true) → o = .tuple #[.string (sB (joinW ((X.take m).map tk))), .int .i64 0])) (ho2 : Aside0 ((∃ t ∈ (X.take m).map tk, may t = false) → o = .tuple #[.string ⟨#[]⟩, .int .i64 1])) : Calls Tryz.prog 9 #[.slice A X.length c] w fun e w' => e = .returned o ∧ Below w.heap.size w w' := by
  obtain ⟨ad, rfl, e0, e1, e2, e3⟩ := at_T28 hC (m : Int) (by omega) (by omega)
  have hr : rd_T28 X (m : Int) = z := by
    rw [rd_at _ m (by omega)]; exact (List.getElem?_eq_some_iff.1 hz).2
  rw [hr, Int.toNat_natCast] at e0 e1 e2 e3
  have HW : Aside0 (Below w.heap.size w w ∧ Kd.C k28 w (some ad) X.length X) := ⟨Below.refl _ _, hC⟩
  have HC0 : Aside0 (Kd.C k28 w (some ad) X.length X) := ⟨hC⟩
  obtain ⟨N, hN⟩ : ∃ N, X.length = N := ⟨_, rfl⟩
  have hw1 : wrap64 ((N : Int) - 1) = (m : Int) := by unfold wrap64; omega
  have hmN : (m : Int) < (N : Int) := by omega
  have hm0 : decide ((m : Int) < 0) = false := decide_eq_false (by omega)
  have HXN : Aside0 (X.length = m + 1) := ⟨hX⟩
  clear hC hX
  rw [hN] at HW HC0 hc ⊢
  have HQ : Aside0 (∀ w' : World, (if z.f0 = 18 then if z.f1.toList = [] then if z.f2 = 0 then (Result.ok (Next.value (.bool false)) w' : Result Next) else Result.ok (Next.value (.bool true)) w' else Result.ok (Next.value (.bool true)) w' else Result.ok (Next.value (.bool true)) w') = Result.ok (Next.value (.bool nb)) w') := ⟨fun w' => by
    rw [show z.f1.toList = bl z.f1 from ByteArray.toList_eq _]
    rw [hnb.out]; simp [hst.1, hst.2.1, hst.2.2]⟩
  have HE := Aside0.mk E
  have HSZ := Aside0.mk hsz
  have HJ := Aside0.mk hJ
  clear hst E hsz hJ
  go_enter Tryz.func9, Tryz.ntmps9
  go_wp2_with fail
  refine region_facts (ws := []) (G := fun _ w' => w'.cell? (ad.add (m * 4)) = some (.int .i64 z.f0) ∧ w'.cell? ⟨(ad.add (m * 4)).block, (ad.add (m * 4)).off + 1, none⟩ = some (.string z.f1) ∧ w'.cell? ⟨(ad.add (m * 4)).block, (ad.add (m * 4)).off + 2, none⟩ = some (.int .i64 z.f2) ∧ w'.cell? ⟨(ad.add (m * 4)).block, (ad.add (m * 4)).off + 3, none⟩ = some (.int .i64 z.f3) ∧ Aside0 (Below w.heap.size w w' ∧ Kd.C k28 w' (some ad) (N) (X))) (φs := [Fact.eq ?vc0, Fact.eq ?vc1, Fact.eq ?vc2, Fact.eq ?vc3, Fact.eq ?vc4, Fact.eq ?vc5, Fact.eq ?vc6, Fact.eq ?vc7, Fact.eq ?vc8, Fact.eq ?vc9, Fact.eq ?vc10, Fact.eq ?vc11, Fact.eq ?vc12, Fact.eq (.bool nb), Fact.eq ?vc14]) (n := 15) (m := 71) (by kernel_rfl) (by kernel_rfl) rfl rfl (by kernel_rfl) (fun _ _ _ h hb => ⟨pw_cell_below hb h.1, pw_cell_below hb h.2.1, pw_cell_below hb h.2.2.1, pw_cell_below hb h.2.2.2.1, ⟨⟨below_then h.2.2.2.2.out.1 h.2.2.2.2.out.1.size hb, Kd.C_below h.2.2.2.2.out.2 hb⟩⟩⟩) (⟨e0, e1, e2, e3, ⟨⟨below_drew HW.out.1, Kd.C_below HW.out.2 (below_drew (Below.refl _ _))⟩⟩⟩) ⟨?oc0, ?oc1, ?oc2, ?oc3, ?oc4, ?oc5, ?oc6, ?oc7, ?oc8, ?oc9, ?oc10, ?oc11, ?oc12, ?oc13, ?oc14, trivial⟩ ?finc
  case oc0 =>
    refine ask_val [.fix 4 _] rfl 13 rfl (.inl rfl) ⟨⟨by kernel_rfl, by conv => lhs; whnf⟩, trivial⟩ ?_
    dsimp only [Has, Fact.eq]
    intro e ρ w' hc hf hg hG h4
    go_simp
    with_reducible rfl
  case oc1 =>
    refine ask_val [.op 13 0 (Fact.eq _)] rfl 14 rfl (.inl rfl) ⟨⟨by kernel_rfl, rfl⟩, trivial⟩ ?_
    dsimp only [Has, Fact.eq]
    intro e ρ w' hc hf hg hG h13
    go_simp
    with_reducible rfl
  case oc2 =>
    refine ask_val [.op 14 1 (Fact.eq _)] rfl 15 rfl (.inl rfl) ⟨⟨by kernel_rfl, rfl⟩, trivial⟩ ?_
    dsimp only [Has, Fact.eq]
    intro e ρ w' hc hf hg hG h14
    go_simp
    with_reducible rfl
  case oc3 =>
    refine ask_val [.fix 0 _] rfl 16 rfl (.inr ⟨2, false, rfl, by kernel_rfl, rfl⟩) ⟨⟨by kernel_rfl, by conv => lhs; whnf⟩, trivial⟩ ?_
    dsimp only [Has, Fact.eq]
    intro e ρ w' hc hf hg hG h0
    go_simp
    with_reducible rfl
  case oc4 =>
    refine ask_val [.fix 4 _] rfl 17 rfl (.inr ⟨2, false, rfl, by kernel_rfl, rfl⟩) ⟨⟨by kernel_rfl, by conv => lhs; whnf⟩, trivial⟩ ?_
    dsimp only [Has, Fact.eq]
    intro e ρ w' hc hf hg hG h4
    go_simp
    with_reducible rfl
  case oc5 =>
    refine ask_val [.op 16 3 (Fact.eq _), .op 17 4 (Fact.eq _)] rfl 18 rfl (.inr ⟨2, false, rfl, by kernel_rfl, rfl⟩) ⟨⟨by kernel_rfl, rfl⟩, ⟨by kernel_rfl, rfl⟩, trivial⟩ ?_
    dsimp only [Has, Fact.eq]
    intro e ρ w' hc hf hg hG h16 h17
    go_simp
    with_reducible rfl
  case oc6 =>
    refine ask_val [.op 18 5 (Fact.eq _)] rfl 19 rfl (.inr ⟨2, false, rfl, by kernel_rfl, rfl⟩) ⟨⟨by kernel_rfl, rfl⟩, trivial⟩ ?_
    dsimp only [Has, Fact.eq]
    intro e ρ w' hc hf hg hG h18
    obtain ⟨s0, s1, s2, s3, s4⟩ := hG
    go_simp
    with_reducible rfl
  case oc7 =>
    refine ask_val [.fix 0 _] rfl 20 rfl (.inr ⟨2, false, rfl, by kernel_rfl, rfl⟩) ⟨⟨by kernel_rfl, by conv => lhs; whnf⟩, trivial⟩ ?_
    dsimp only [Has, Fact.eq]
    intro e ρ w' hc hf hg hG h0
    go_simp
    with_reducible rfl
  case oc8 =>
    refine ask_val [.fix 4 _] rfl 21 rfl (.inr ⟨2, false, rfl, by kernel_rfl, rfl⟩) ⟨⟨by kernel_rfl, by conv => lhs; whnf⟩, trivial⟩ ?_
    dsimp only [Has, Fact.eq]
    intro e ρ w' hc hf hg hG h4
    go_simp
    with_reducible rfl
  case oc9 =>
    refine ask_val [.op 20 7 (Fact.eq _), .op 21 8 (Fact.eq _)] rfl 22 rfl (.inr ⟨2, false, rfl, by kernel_rfl, rfl⟩) ⟨⟨by kernel_rfl, rfl⟩, ⟨by kernel_rfl, rfl⟩, trivial⟩ ?_
    dsimp only [Has, Fact.eq]
    intro e ρ w' hc hf hg hG h20 h21
    go_simp
    with_reducible rfl
  case oc10 =>
    refine ask_val [.op 22 9 (Fact.eq _)] rfl 23 rfl (.inr ⟨2, false, rfl, by kernel_rfl, rfl⟩) ⟨⟨by kernel_rfl, rfl⟩, trivial⟩ ?_
    dsimp only [Has, Fact.eq]
    intro e ρ w' hc hf hg hG h22
    go_simp
    with_reducible rfl
  case oc11 =>
    refine ask_val [.op 23 10 (Fact.eq _)] rfl 24 rfl (.inr ⟨2, false, rfl, by kernel_rfl, rfl⟩) ⟨⟨by kernel_rfl, rfl⟩, trivial⟩ ?_
    dsimp only [Has, Fact.eq]
    intro e ρ w' hc hf hg hG h23
    obtain ⟨s0, s1, s2, s3, s4⟩ := hG
    go_simp
    with_reducible rfl
  case oc12 =>
    refine ask_val [.op 24 11 (Fact.eq _)] rfl 25 rfl (.inr ⟨2, false, rfl, by kernel_rfl, rfl⟩) ⟨⟨by kernel_rfl, rfl⟩, trivial⟩ ?_
    dsimp only [Has, Fact.eq]
    intro e ρ w' hc hf hg hG h24
    go_simp
    with_reducible rfl
  case oc13 =>
    refine ask_val [.op 19 6 (Fact.eq _), .op 25 12 (Fact.eq _)] rfl 26 rfl (.inr ⟨2, false, rfl, by kernel_rfl, rfl⟩) ⟨⟨by kernel_rfl, rfl⟩, ⟨by kernel_rfl, rfl⟩, trivial⟩ ?_
    dsimp only [Has, Fact.eq]
    intro e ρ w' hc hf hg hG h19 h25
    go_simp
    exact HQ.out _
  case oc14 =>
    refine ask_val [.op 15 2 (Fact.eq _), .op 26 13 (Fact.eq _)] rfl 27 rfl (.inl rfl) ⟨⟨by kernel_rfl, rfl⟩, ⟨by kernel_rfl, rfl⟩, trivial⟩ ?_
    dsimp only [Has, Fact.eq]
    intro e ρ w' hc hf hg hG h15 h26
    go_simp
    with_reducible rfl
  case finc =>
    intro w' hG
    refine fin_eq (fin_eq (fin_eq (fin_eq (fin_eq (fin_eq (fin_eq (fin_eq (fin_eq (fin_eq (fin_eq (fin_eq (fin_eq (fin_eq (fin_eq (fin_nil (a' := ?_) ?_ ?_)))))))))))))))
    rotate_left
    · simp only [Act.put, List.setIfInBounds_toArray, List.set_cons_zero, List.set_cons_succ]
      rfl
    rw [hnb.out]
    have HW2 := Aside0.mk hG.2.2.2.2.out
    clear hG HW HQ e0 e1 e2 e3
    have hmk := make_words X m hb
    have hmc : (m : Int) ≤ (c : Int) := by omega
    have hmc2 : m ≤ c := by omega
    go_wp2_with fail
    obtain ⟨g, hg⟩ : ∃ g, g = w'.heap.size := ⟨_, rfl⟩
    obtain ⟨W0, hW0⟩ : ∃ W0, W0 = w'.alloc (Obj.cells (wcells X m 0).toArray 9) := ⟨_, rfl⟩
    have HG : Aside0 (w.heap.size ≤ g) := ⟨by rw [hg]; exact HW2.out.1.size⟩
    have HB0 : Aside0 (W0.heap[g]? = some (.cells (wcells X m 0).toArray 9 (0, 0))) := ⟨by rw [hW0, hg]; exact blk_new _ _⟩
    have HW0 : Aside0 (Below w.heap.size w W0 ∧ Kd.C k28 W0 (some ad) N X) := ⟨⟨by rw [hW0]; exact HW2.out.1.alloc HW2.out.1.size _, by rw [hW0]; exact Kd.C_below HW2.out.2 ((Below.refl _ _).alloc (Nat.le_refl _) _)⟩⟩
    rw [← hg, ← hW0, hw1]
    clear hmk HW2 hW0 hg
    go_loopw [34] (fun v34 wr => ∃ i : Nat, v34 = .int .i64 (i : Int) ∧ i ≤ m ∧ Aside0 (wr.heap[g]? = some (.cells (wcells X m i).toArray 9 (0, 0))) ∧ Aside0 (Below w.heap.size w wr ∧ Kd.C k28 wr (some ad) N X) ∧ Aside0 (∀ j x, j < i → X[j]? = some x → may (tk x) = true)) (fun v34 _ => m - (intOf v34).toNat)
    case atStart => exact ⟨0, rfl, Nat.zero_le _, HB0, HW0, ⟨fun j x h => absurd h (Nat.not_lt_zero _)⟩⟩
    case round =>
      obtain ⟨i, rfl, him, HB, HW, HM⟩ := hrel
      clear HB0 HW0
      by_cases hlt : i < m
      · have hlti : (i : Int) < (m : Int) := by omega
        have HMS : Aside0 (m - (intOf (Value.int IntKind.i64 ((i : Int) + 1))).toNat < m - (intOf (Value.int IntKind.i64 (i : Int))).toNat) := ⟨by simp only [intOf]; omega⟩
        have hwi : wrap64 ((i : Int) + 1) = (i : Int) + 1 := by unfold wrap64; omega
        have hd : decide ((i : Int) < (m : Int)) = true := decide_eq_true hlti
        have hiN : (i : Int) < (N : Int) := by omega
        obtain ⟨x, hx⟩ : ∃ x, X[i]? = some x := ⟨_, List.getElem?_eq_getElem (by omega)⟩
        obtain ⟨ad', ead, x0, x1, x2, x3⟩ := at_T28 HW.out.2 (i : Int) (by omega) (by omega)
        cases ead
        have hr : rd_T28 X (i : Int) = x := by
          rw [rd_at _ i (by omega)]; exact (List.getElem?_eq_some_iff.1 hx).2
        rw [hr, Int.toNat_natCast] at x0 x1 x2 x3
        have hxs := HSZ.out i x hx
        have hsp := spell_at x (wr.alloc (.cells #[.int .i64 x.f0, .string x.f1, .int .i64 x.f2, .int .i64 x.f3] 28 (0, 0))) hxs.1 hxs.2.1 hxs.2.2.1 (HE.out.below (HW.out.1.alloc HW.out.1.size _))
        have hpg : g < wr.heap.size := blk_lt HB.out
        go_wp2_with (go_at_call 15; refine hsp.mono ?_; rintro e w1 ⟨rfl, hb1⟩; obtain ⟨HA, HB1⟩ := word_facts X m i hlt (by rw [HXN.out]; omega) x hx w wr w1 ad N g HG.out HB.out HW.out hb1; have HA' := Aside0.mk HA; have hs1 := HA.s1; have hs2 := HA.s2; have hs3 := HA.s3; have hs4 := HA.s4; have hs5 := HA.s5; clear HA hb1 hsp)
        obtain ⟨V, hV⟩ : ∃ V, V = (w1.setCell ⟨g, i, none⟩ (.string (spB x))).setCell ⟨wr.heap.size, 3, none⟩ (.int .i64 0) := ⟨_, rfl⟩
        rw [← hV] at HB1 ⊢
        clear hs1 hs2 hs3 hs4 hs5 HA' x0 x1 x2 x3 hV HB
        obtain ⟨p, hp⟩ : ∃ p, p = wr.heap.size := ⟨_, rfl⟩
        have HGP : Aside0 (w.heap.size ≤ p ∧ g < p) := ⟨by rw [hp]; exact ⟨HW.out.1.size, hpg⟩⟩
        rw [← hp] at HB1 ⊢
        have HCX : Aside0 (Kd.C k28 V (some ad) N X) := ⟨HB1.out.2.2.2 V HC0.out HB1.out.2.2.1⟩
        clear hp hpg
        have HMX : Aside0 (x ∈ X.take m) := ⟨List.mem_iff_getElem?.2 ⟨i, by rw [List.getElem?_take_of_lt hlt]; exact hx⟩⟩
        have HEV := Aside0.mk (HE.out.below HB1.out.2.2.1)
        cases hl : lex (bl (spB x)) with
        | inr a =>
          have HMB : Aside0 (may (tk x) = false) := ⟨by unfold may; rw [← bl_spB, hl]⟩
          refine (cut_fault hl hxs.2.2.2 V HEV.out.E).mono ?_
          rintro e w2 ⟨rfl, hb2⟩
          go_wp2_with fail
          obtain ⟨q, hq⟩ : ∃ q, q = w2.heap.size := ⟨_, rfl⟩
          obtain ⟨W3, hW3⟩ : ∃ W3, W3 = w2.alloc (Obj.cells #[Value.int IntKind.i64 70, Value.int IntKind.i64 (a : Int)] 38) := ⟨_, rfl⟩
          have hW23 : Below w2.heap.size w2 W3 := by rw [hW3]; exact (Below.refl _ _).alloc (Nat.le_refl _) _
          have hgg := blk_below (blk_below HB1.out.1 hb2) hW23
          have hpp := blk_below (blk_below HB1.out.2.1 hb2) hW23
          have HB3 : Aside0 (Below w.heap.size w W3 ∧ W3.heap[g]? = some (.cells (wcells X m (i + 1)).toArray 9 (0, 0))) := ⟨⟨below_then (below_then HB1.out.2.2.1 HB1.out.2.2.1.size hb2) (below_then HB1.out.2.2.1 HB1.out.2.2.1.size hb2).size hW23, hgg⟩⟩
          have hqq : W3.heap[q]? = some (.cells #[.int .i64 70, .int .i64 (a : Int)] 38 (0, 0)) := by rw [hW3, hq]; exact blk_new _ _
          have y0 : W3.cell? ⟨q, 0, none⟩ = some (.int .i64 70) := blk_cell hqq 0
          have y1 : W3.cell? ⟨q, 1, none⟩ = some (.int .i64 (a : Int)) := blk_cell hqq 1
          rw [← hq, ← hW3]
          clear hW3 hq hgg hpp hqq hW23 hb2
          refine region_facts (ws := []) (G := fun _ w' => w'.cell? ⟨q, 0, none⟩ = some (.int .i64 70) ∧ w'.cell? ⟨q, 1, none⟩ = some (.int .i64 (a : Int)) ∧ Aside0 (Below w.heap.size w w' ∧ w'.heap[g]? = some (.cells (wcells X m (i + 1)).toArray 9 (0, 0)))) (φs := [Fact.eq ?vd0, Fact.eq ?vd1, Fact.eq ?vd2, Fact.eq ?vd3, Fact.eq undef, Fact.eq undef, Fact.eq undef, Fact.eq ?vd7, Fact.eq ?vd8, Fact.eq undef, Fact.eq undef, Fact.eq undef, Fact.eq undef, Fact.eq undef, Fact.eq ?vd14]) (n := 15) (m := 71) (by kernel_rfl) (by kernel_rfl) rfl rfl (by kernel_rfl) (fun _ _ _ h hb => ⟨pw_cell_below hb h.1, pw_cell_below hb h.2.1, ⟨⟨below_then h.2.2.out.1 h.2.2.out.1.size hb, blk_below h.2.2.out.2 hb⟩⟩⟩) (⟨y0, y1, ⟨⟨below_drew HB3.out.1, blk_below HB3.out.2 (below_drew (Below.refl _ _))⟩⟩⟩) ⟨?od0, ?od1, ?od2, ?od3, ?od4, ?od5, ?od6, ?od7, ?od8, ?od9, ?od10, ?od11, ?od12, ?od13, ?od14, trivial⟩ ?find
          case od0 =>
            refine ask_val [.fix 9 _] rfl 53 rfl (.inl rfl) ⟨⟨by kernel_rfl, by conv => lhs; whnf⟩, trivial⟩ ?_
            dsimp only [Has, Fact.eq]
            intro e ρ w' hc hf hg hG h9
            obtain ⟨s0, s1, s2⟩ := hG
            go_simp
            with_reducible rfl
          case od1 =>
            refine ask_val [] rfl 54 rfl (.inl rfl) trivial ?_
            dsimp only [Has, Fact.eq]
            intro e ρ w' hc hf hg hG 
            go_simp
            with_reducible rfl
          case od2 =>
            refine ask_val [.op 53 0 (Fact.eq _), .op 54 1 (Fact.eq _)] rfl 55 rfl (.inl rfl) ⟨⟨by kernel_rfl, rfl⟩, ⟨by kernel_rfl, rfl⟩, trivial⟩ ?_
            dsimp only [Has, Fact.eq]
            intro e ρ w' hc hf hg hG h53 h54
            go_simp
            with_reducible rfl
          case od3 =>
            refine ask_val [.op 55 2 (Fact.eq _)] rfl 56 rfl (.inl rfl) ⟨⟨by kernel_rfl, rfl⟩, trivial⟩ ?_
            dsimp only [Has, Fact.eq]
            intro e ρ w' hc hf hg hG h55
            go_simp
            with_reducible rfl
          case od4 =>
            exact ask_off rfl ⟨3, true, rfl, by kernel_rfl, rfl⟩
          case od5 =>
            exact ask_off rfl ⟨3, true, rfl, by kernel_rfl, rfl⟩
          case od6 =>
            exact ask_off rfl ⟨3, true, rfl, by kernel_rfl, rfl⟩
          case od7 =>
            refine ask_val [.op 56 3 (Fact.eq _), .op 59 6 (Fact.eq _)] rfl 60 rfl (.inl rfl) ⟨⟨by kernel_rfl, rfl⟩, ⟨by kernel_rfl, rfl⟩, trivial⟩ ?_
            dsimp only [Has, Fact.eq]
            intro e ρ w' hc hf hg hG h56 h59
            go_simp
            with_reducible rfl
          case od8 =>
            refine ask_val [.op 60 7 (Fact.eq _)] rfl 61 rfl (.inl rfl) ⟨⟨by kernel_rfl, rfl⟩, trivial⟩ ?_
            dsimp only [Has, Fact.eq]
            intro e ρ w' hc hf hg hG h60
            go_simp
            with_reducible rfl
          case od9 =>
            exact ask_off rfl ⟨8, true, rfl, by kernel_rfl, rfl⟩
          case od10 =>
            exact ask_off rfl ⟨8, true, rfl, by kernel_rfl, rfl⟩
          case od11 =>
            exact ask_off rfl ⟨8, true, rfl, by kernel_rfl, rfl⟩
          case od12 =>
            exact ask_off rfl ⟨8, true, rfl, by kernel_rfl, rfl⟩
          case od13 =>
            exact ask_off rfl ⟨8, true, rfl, by kernel_rfl, rfl⟩
          case od14 =>
            refine ask_val [.op 61 8 (Fact.eq _), .op 66 13 (Fact.eq _)] rfl 67 rfl (.inl rfl) ⟨⟨by kernel_rfl, rfl⟩, ⟨by kernel_rfl, rfl⟩, trivial⟩ ?_
            dsimp only [Has, Fact.eq]
            intro e ρ w' hc hf hg hG h61 h66
            go_simp
            with_reducible rfl
          case find =>
            intro w' hG
            refine fin_eq (fin_eq (fin_eq (fin_eq (fin_eq (fin_eq (fin_eq (fin_eq (fin_eq (fin_eq (fin_eq (fin_eq (fin_eq (fin_eq (fin_eq (fin_nil (a' := ?_) ?_ ?_)))))))))))))))
            rotate_left
            · simp only [Act.put, List.setIfInBounds_toArray, List.set_cons_zero, List.set_cons_succ]
              rfl
            go_wp2_with fail
            go_ret2
            refine ⟨?_, hG.2.2.out.1⟩
            rw [ho2.out ⟨tk x, List.mem_map.2 ⟨x, HMX.out, rfl⟩, HMB.out⟩]
            rfl
        | inl l =>
          by_cases hl2 : l.length = 2
          · obtain ⟨t, t2, rfl⟩ : ∃ t t2, l = [t, t2] := by
              match l, hl2 with
              | [t, t2], _ => exact ⟨t, t2, rfl⟩
            have hmay : may (tk x) = decide (t = ⟨tk x, 0⟩) := by unfold may; rw [← bl_spB, hl]
            refine (cut_two hl hxs.2.2.2 V HEV.out.E).mono ?_
            rintro e w2 ⟨A2, c2, rfl, hlc, hC2, hb2⟩
            obtain ⟨aq, rfl, a0, a1, a2, a3⟩ := two_at hC2
            go_wp2_with fail
            obtain ⟨q, hq⟩ : ∃ q, q = w2.heap.size := ⟨_, rfl⟩
            obtain ⟨W3, hW3⟩ : ∃ W3, W3 = w2.alloc (Obj.cells #[Value.int IntKind.i64 0, Value.int IntKind.i64 0] 38) := ⟨_, rfl⟩
            have hW23 : Below w2.heap.size w2 W3 := by rw [hW3]; exact (Below.refl _ _).alloc (Nat.le_refl _) _
            have hgg := blk_below (blk_below HB1.out.1 hb2) hW23
            have hpp := blk_below (blk_below HB1.out.2.1 hb2) hW23
            have HB3 : Aside0 (Below w.heap.size w W3 ∧ W3.heap[g]? = some (.cells (wcells X m (i + 1)).toArray 9 (0, 0))) := ⟨⟨below_then (below_then HB1.out.2.2.1 HB1.out.2.2.1.size hb2) (below_then HB1.out.2.2.1 HB1.out.2.2.1.size hb2).size hW23, hgg⟩⟩
            have hqq : W3.heap[q]? = some (.cells #[.int .i64 0, .int .i64 0] 38 (0, 0)) := by rw [hW3, hq]; exact blk_new _ _
            have y0 : W3.cell? ⟨q, 0, none⟩ = some (.int .i64 0) := blk_cell hqq 0
            have y1 : W3.cell? ⟨q, 1, none⟩ = some (.int .i64 0) := blk_cell hqq 1
            have p0 : W3.cell? ⟨p, 0, none⟩ = some (.int .i64 x.f0) := blk_cell hpp 0
            have p1 : W3.cell? ⟨p, 1, none⟩ = some (.string x.f1) := blk_cell hpp 1
            have p2 : W3.cell? ⟨p, 2, none⟩ = some (.int .i64 x.f2) := blk_cell hpp 2
            have p3 : W3.cell? ⟨p, 3, none⟩ = some (.int .i64 0) := blk_cell hpp 3
            replace a0 := pw_cell_below hW23 a0
            replace a1 := pw_cell_below hW23 a1
            replace a2 := pw_cell_below hW23 a2
            replace a3 := pw_cell_below hW23 a3
            rw [← hq, ← hW3]
            clear hW3 hq hgg hpp hqq hW23 hb2
            obtain ⟨bq, hbq⟩ : ∃ bq : Bool, bq = decide (t = ⟨tk x, 0⟩) := ⟨_, rfl⟩
            have HMT : Aside0 (bq = may (tk x)) := ⟨by rw [hmay, hbq]⟩
            have HBQ : Aside0 (∀ w' : World, (if t.tok.kind = x.f0 then if t.tok.text = x.f1.toList then if t.tok.num = x.f2 then if t.place = 0 then (Result.ok (Next.value (.bool false)) w' : Result Next) else Result.ok (Next.value (.bool true)) w' else Result.ok (Next.value (.bool true)) w' else Result.ok (Next.value (.bool true)) w' else Result.ok (Next.value (.bool true)) w') = Result.ok (Next.value (.bool (!bq))) w') := ⟨fun w' => by
              rw [hbq, ByteArray.toList_eq]; exact tok_cmp t x w'⟩
            clear hbq hmay
            refine region_facts (ws := []) (G := fun _ w' => w'.cell? ⟨q, 0, none⟩ = some (.int .i64 0) ∧ w'.cell? ⟨q, 1, none⟩ = some (.int .i64 0) ∧ w'.cell? ⟨p, 0, none⟩ = some (.int .i64 x.f0) ∧ w'.cell? ⟨p, 1, none⟩ = some (.string x.f1) ∧ w'.cell? ⟨p, 2, none⟩ = some (.int .i64 x.f2) ∧ w'.cell? ⟨p, 3, none⟩ = some (.int .i64 0) ∧ w'.cell? aq = some (.int .i64 t.tok.kind) ∧ w'.cell? ⟨aq.block, aq.off + 1, none⟩ = some (.string ⟨t.tok.text.toArray⟩) ∧ w'.cell? ⟨aq.block, aq.off + 2, none⟩ = some (.int .i64 t.tok.num) ∧ w'.cell? ⟨aq.block, aq.off + 3, none⟩ = some (.int .i64 (t.place : Int)) ∧ Aside0 (Below w.heap.size w w' ∧ w'.heap[g]? = some (.cells (wcells X m (i + 1)).toArray 9 (0, 0)))) (φs := [Fact.eq ?vf0, Fact.eq ?vf1, Fact.eq ?vf2, Fact.eq ?vf3, Fact.eq ?vf4, Fact.eq ?vf5, Fact.eq ?vf6, Fact.eq ?vf7, Fact.eq ?vf8, Fact.eq ?vf9, Fact.eq ?vf10, Fact.eq ?vf11, Fact.eq ?vf12, Fact.eq (.bool !bq), Fact.eq ?vf14]) (n := 15) (m := 71) (by kernel_rfl) (by kernel_rfl) rfl rfl (by kernel_rfl) (fun _ _ _ h hb => ⟨pw_cell_below hb h.1, pw_cell_below hb h.2.1, pw_cell_below hb h.2.2.1, pw_cell_below hb h.2.2.2.1, pw_cell_below hb h.2.2.2.2.1, pw_cell_below hb h.2.2.2.2.2.1, pw_cell_below hb h.2.2.2.2.2.2.1, pw_cell_below hb h.2.2.2.2.2.2.2.1, pw_cell_below hb h.2.2.2.2.2.2.2.2.1, pw_cell_below hb h.2.2.2.2.2.2.2.2.2.1, ⟨⟨below_then h.2.2.2.2.2.2.2.2.2.2.out.1 h.2.2.2.2.2.2.2.2.2.2.out.1.size hb, blk_below h.2.2.2.2.2.2.2.2.2.2.out.2 hb⟩⟩⟩) (⟨y0, y1, p0, p1, p2, p3, a0, a1, a2, a3, ⟨⟨below_drew HB3.out.1, blk_below HB3.out.2 (below_drew (Below.refl _ _))⟩⟩⟩) ⟨?of0, ?of1, ?of2, ?of3, ?of4, ?of5, ?of6, ?of7, ?of8, ?of9, ?of10, ?of11, ?of12, ?of13, ?of14, trivial⟩ ?finf
            case of0 =>
              refine ask_val [.fix 9 _] rfl 53 rfl (.inl rfl) ⟨⟨by kernel_rfl, by conv => lhs; whnf⟩, trivial⟩ ?_
              dsimp only [Has, Fact.eq]
              intro e ρ w' hc hf hg hG h9
              obtain ⟨s0, s1, s2, s3, s4, s5, s6, s7, s8, s9, s10⟩ := hG
              go_simp
              with_reducible rfl
            case of1 =>
              refine ask_val [] rfl 54 rfl (.inl rfl) trivial ?_
              dsimp only [Has, Fact.eq]
              intro e ρ w' hc hf hg hG 
              go_simp
              with_reducible rfl
            case of2 =>
              refine ask_val [.op 53 0 (Fact.eq _), .op 54 1 (Fact.eq _)] rfl 55 rfl (.inl rfl) ⟨⟨by kernel_rfl, rfl⟩, ⟨by kernel_rfl, rfl⟩, trivial⟩ ?_
              dsimp only [Has, Fact.eq]
              intro e ρ w' hc hf hg hG h53 h54
              go_simp
              with_reducible rfl
            case of3 =>
              refine ask_val [.op 55 2 (Fact.eq _)] rfl 56 rfl (.inl rfl) ⟨⟨by kernel_rfl, rfl⟩, trivial⟩ ?_
              dsimp only [Has, Fact.eq]
              intro e ρ w' hc hf hg hG h55
              go_simp
              with_reducible rfl
            case of4 =>
              refine ask_val [.fix 8 _] rfl 57 rfl (.inr ⟨3, false, rfl, by kernel_rfl, rfl⟩) ⟨⟨by kernel_rfl, by conv => lhs; whnf⟩, trivial⟩ ?_
              dsimp only [Has, Fact.eq]
              intro e ρ w' hc hf hg hG h8
              go_simp
              with_reducible rfl
            case of5 =>
              refine ask_val [.op 57 4 (Fact.eq _)] rfl 58 rfl (.inr ⟨3, false, rfl, by kernel_rfl, rfl⟩) ⟨⟨by kernel_rfl, rfl⟩, trivial⟩ ?_
              dsimp only [Has, Fact.eq]
              intro e ρ w' hc hf hg hG h57
              go_simp
              with_reducible rfl
            case of6 =>
              refine ask_val [.op 58 5 (Fact.eq _)] rfl 59 rfl (.inr ⟨3, false, rfl, by kernel_rfl, rfl⟩) ⟨⟨by kernel_rfl, rfl⟩, trivial⟩ ?_
              dsimp only [Has, Fact.eq]
              intro e ρ w' hc hf hg hG h58
              go_simp
              with_reducible rfl
            case of7 =>
              refine ask_val [.op 56 3 (Fact.eq _), .op 59 6 (Fact.eq _)] rfl 60 rfl (.inl rfl) ⟨⟨by kernel_rfl, rfl⟩, ⟨by kernel_rfl, rfl⟩, trivial⟩ ?_
              dsimp only [Has, Fact.eq]
              intro e ρ w' hc hf hg hG h56 h59
              go_simp
              with_reducible rfl
            case of8 =>
              refine ask_val [.op 60 7 (Fact.eq _)] rfl 61 rfl (.inl rfl) ⟨⟨by kernel_rfl, rfl⟩, trivial⟩ ?_
              dsimp only [Has, Fact.eq]
              intro e ρ w' hc hf hg hG h60
              go_simp
              with_reducible rfl
            case of9 =>
              refine ask_val [.fix 8 _] rfl 62 rfl (.inr ⟨8, false, rfl, by kernel_rfl, rfl⟩) ⟨⟨by kernel_rfl, by conv => lhs; whnf⟩, trivial⟩ ?_
              dsimp only [Has, Fact.eq]
              intro e ρ w' hc hf hg hG h8
              go_simp
              with_reducible rfl
            case of10 =>
              refine ask_val [.op 62 9 (Fact.eq _)] rfl 63 rfl (.inr ⟨8, false, rfl, by kernel_rfl, rfl⟩) ⟨⟨by kernel_rfl, rfl⟩, trivial⟩ ?_
              dsimp only [Has, Fact.eq]
              intro e ρ w' hc hf hg hG h62
              go_simp
              with_reducible rfl
            case of11 =>
              refine ask_val [.op 63 10 (Fact.eq _)] rfl 64 rfl (.inr ⟨8, false, rfl, by kernel_rfl, rfl⟩) ⟨⟨by kernel_rfl, rfl⟩, trivial⟩ ?_
              dsimp only [Has, Fact.eq]
              intro e ρ w' hc hf hg hG h63
              obtain ⟨s0, s1, s2, s3, s4, s5, s6, s7, s8, s9, s10⟩ := hG
              go_simp
              with_reducible rfl
            case of12 =>
              refine ask_val [.fix 7 _] rfl 65 rfl (.inr ⟨8, false, rfl, by kernel_rfl, rfl⟩) ⟨⟨by kernel_rfl, by conv => lhs; whnf⟩, trivial⟩ ?_
              dsimp only [Has, Fact.eq]
              intro e ρ w' hc hf hg hG h7
              obtain ⟨s0, s1, s2, s3, s4, s5, s6, s7, s8, s9, s10⟩ := hG
              go_simp
              with_reducible rfl
            case of13 =>
              refine ask_val [.op 64 11 (Fact.eq _), .op 65 12 (Fact.eq _)] rfl 66 rfl (.inr ⟨8, false, rfl, by kernel_rfl, rfl⟩) ⟨⟨by kernel_rfl, rfl⟩, ⟨by kernel_rfl, rfl⟩, trivial⟩ ?_
              dsimp only [Has, Fact.eq]
              intro e ρ w' hc hf hg hG h64 h65
              go_simp
              exact HBQ.out _
            case of14 =>
              refine ask_val [.op 61 8 (Fact.eq _), .op 66 13 (Fact.eq _)] rfl 67 rfl (.inl rfl) ⟨⟨by kernel_rfl, rfl⟩, ⟨by kernel_rfl, rfl⟩, trivial⟩ ?_
              dsimp only [Has, Fact.eq]
              intro e ρ w' hc hf hg hG h61 h66
              go_simp
              with_reducible rfl
            case finf =>
              intro w' hG
              refine fin_eq (fin_eq (fin_eq (fin_eq (fin_eq (fin_eq (fin_eq (fin_eq (fin_eq (fin_eq (fin_eq (fin_eq (fin_eq (fin_eq (fin_eq (fin_nil (a' := ?_) ?_ ?_)))))))))))))))
              rotate_left
              · simp only [Act.put, List.setIfInBounds_toArray, List.set_cons_zero, List.set_cons_succ]
                rfl
              have HFF := Aside0.mk hG.2.2.2.2.2.2.2.2.2.2.out
              clear hG
              cases bq with
              | false =>
                have HMB : Aside0 (may (tk x) = false) := ⟨HMT.out.symm⟩
                go_wp2_with fail
                go_ret2
                refine ⟨?_, HFF.out.1⟩
                rw [ho2.out ⟨tk x, List.mem_map.2 ⟨x, HMX.out, rfl⟩, HMB.out⟩]
                rfl
              | true =>
                simp only [Bool.not_true]
                go_wp2_with fail
                go_roundw
                case rel =>
                  exact ⟨i + 1, rfl, hlt, ⟨HFF.out.2⟩, ⟨HFF.out.1, HB1.out.2.2.2 _ HC0.out HFF.out.1⟩, ⟨may_next HM.out hx HMT.out.symm⟩⟩
                case measure => exact HMS.out
          · have HMB : Aside0 (may (tk x) = false) := ⟨by
              unfold may; rw [← bl_spB, hl]
              match l, hl2 with
              | [], _ => rfl
              | [_], _ => rfl
              | _ :: _ :: _ :: _, _ => rfl
              | [_, _], h => exact absurd rfl h⟩
            have hl2b : ((l.length : Int) != 2) = true := by rw [bne_iff_ne]; omega
            refine (cut_list hl hxs.2.2.2 V HEV.out.E).mono ?_
            rintro e w2 ⟨A2, c2, rfl, hlc, hC2, hb2⟩
            go_wp2_with fail
            obtain ⟨q, hq⟩ : ∃ q, q = w2.heap.size := ⟨_, rfl⟩
            obtain ⟨W3, hW3⟩ : ∃ W3, W3 = w2.alloc (Obj.cells #[Value.int IntKind.i64 0, Value.int IntKind.i64 0] 38) := ⟨_, rfl⟩
            have hW23 : Below w2.heap.size w2 W3 := by rw [hW3]; exact (Below.refl _ _).alloc (Nat.le_refl _) _
            have hgg := blk_below (blk_below HB1.out.1 hb2) hW23
            have hpp := blk_below (blk_below HB1.out.2.1 hb2) hW23
            have HB3 : Aside0 (Below w.heap.size w W3 ∧ W3.heap[g]? = some (.cells (wcells X m (i + 1)).toArray 9 (0, 0))) := ⟨⟨below_then (below_then HB1.out.2.2.1 HB1.out.2.2.1.size hb2) (below_then HB1.out.2.2.1 HB1.out.2.2.1.size hb2).size hW23, hgg⟩⟩
            have hqq : W3.heap[q]? = some (.cells #[.int .i64 0, .int .i64 0] 38 (0, 0)) := by rw [hW3, hq]; exact blk_new _ _
            have y0 : W3.cell? ⟨q, 0, none⟩ = some (.int .i64 0) := blk_cell hqq 0
            have y1 : W3.cell? ⟨q, 1, none⟩ = some (.int .i64 0) := blk_cell hqq 1
            rw [← hq, ← hW3]
            clear hW3 hq hgg hpp hqq hW23 hb2
            refine region_facts (ws := []) (G := fun _ w' => w'.cell? ⟨q, 0, none⟩ = some (.int .i64 0) ∧ w'.cell? ⟨q, 1, none⟩ = some (.int .i64 0) ∧ Aside0 (Below w.heap.size w w' ∧ w'.heap[g]? = some (.cells (wcells X m (i + 1)).toArray 9 (0, 0)))) (φs := [Fact.eq ?ve0, Fact.eq ?ve1, Fact.eq ?ve2, Fact.eq ?ve3, Fact.eq ?ve4, Fact.eq ?ve5, Fact.eq (.bool true), Fact.eq ?ve7, Fact.eq ?ve8, Fact.eq undef, Fact.eq undef, Fact.eq undef, Fact.eq undef, Fact.eq undef, Fact.eq ?ve14]) (n := 15) (m := 71) (by kernel_rfl) (by kernel_rfl) rfl rfl (by kernel_rfl) (fun _ _ _ h hb => ⟨pw_cell_below hb h.1, pw_cell_below hb h.2.1, ⟨⟨below_then h.2.2.out.1 h.2.2.out.1.size hb, blk_below h.2.2.out.2 hb⟩⟩⟩) (⟨y0, y1, ⟨⟨below_drew HB3.out.1, blk_below HB3.out.2 (below_drew (Below.refl _ _))⟩⟩⟩) ⟨?oe0, ?oe1, ?oe2, ?oe3, ?oe4, ?oe5, ?oe6, ?oe7, ?oe8, ?oe9, ?oe10, ?oe11, ?oe12, ?oe13, ?oe14, trivial⟩ ?fine
            case oe0 =>
              refine ask_val [.fix 9 _] rfl 53 rfl (.inl rfl) ⟨⟨by kernel_rfl, by conv => lhs; whnf⟩, trivial⟩ ?_
              dsimp only [Has, Fact.eq]
              intro e ρ w' hc hf hg hG h9
              obtain ⟨s0, s1, s2⟩ := hG
              go_simp
              with_reducible rfl
            case oe1 =>
              refine ask_val [] rfl 54 rfl (.inl rfl) trivial ?_
              dsimp only [Has, Fact.eq]
              intro e ρ w' hc hf hg hG 
              go_simp
              with_reducible rfl
            case oe2 =>
              refine ask_val [.op 53 0 (Fact.eq _), .op 54 1 (Fact.eq _)] rfl 55 rfl (.inl rfl) ⟨⟨by kernel_rfl, rfl⟩, ⟨by kernel_rfl, rfl⟩, trivial⟩ ?_
              dsimp only [Has, Fact.eq]
              intro e ρ w' hc hf hg hG h53 h54
              go_simp
              with_reducible rfl
            case oe3 =>
              refine ask_val [.op 55 2 (Fact.eq _)] rfl 56 rfl (.inl rfl) ⟨⟨by kernel_rfl, rfl⟩, trivial⟩ ?_
              dsimp only [Has, Fact.eq]
              intro e ρ w' hc hf hg hG h55
              go_simp
              with_reducible rfl
            case oe4 =>
              refine ask_val [.fix 8 _] rfl 57 rfl (.inr ⟨3, false, rfl, by kernel_rfl, rfl⟩) ⟨⟨by kernel_rfl, by conv => lhs; whnf⟩, trivial⟩ ?_
              dsimp only [Has, Fact.eq]
              intro e ρ w' hc hf hg hG h8
              go_simp
              with_reducible rfl
            case oe5 =>
              refine ask_val [.op 57 4 (Fact.eq _)] rfl 58 rfl (.inr ⟨3, false, rfl, by kernel_rfl, rfl⟩) ⟨⟨by kernel_rfl, rfl⟩, trivial⟩ ?_
              dsimp only [Has, Fact.eq]
              intro e ρ w' hc hf hg hG h57
              go_simp
              with_reducible rfl
            case oe6 =>
              refine ask_val [.op 58 5 (Fact.eq _)] rfl 59 rfl (.inr ⟨3, false, rfl, by kernel_rfl, rfl⟩) ⟨⟨by kernel_rfl, rfl⟩, trivial⟩ ?_
              dsimp only [Has, Fact.eq]
              intro e ρ w' hc hf hg hG h58
              go_simp
              done
            case oe7 =>
              refine ask_val [.op 56 3 (Fact.eq _), .op 59 6 (Fact.eq _)] rfl 60 rfl (.inl rfl) ⟨⟨by kernel_rfl, rfl⟩, ⟨by kernel_rfl, rfl⟩, trivial⟩ ?_
              dsimp only [Has, Fact.eq]
              intro e ρ w' hc hf hg hG h56 h59
              go_simp
              with_reducible rfl
            case oe8 =>
              refine ask_val [.op 60 7 (Fact.eq _)] rfl 61 rfl (.inl rfl) ⟨⟨by kernel_rfl, rfl⟩, trivial⟩ ?_
              dsimp only [Has, Fact.eq]
              intro e ρ w' hc hf hg hG h60
              go_simp
              with_reducible rfl
            case oe9 =>
              exact ask_off rfl ⟨8, true, rfl, by kernel_rfl, rfl⟩
            case oe10 =>
              exact ask_off rfl ⟨8, true, rfl, by kernel_rfl, rfl⟩
            case oe11 =>
              exact ask_off rfl ⟨8, true, rfl, by kernel_rfl, rfl⟩
            case oe12 =>
              exact ask_off rfl ⟨8, true, rfl, by kernel_rfl, rfl⟩
            case oe13 =>
              exact ask_off rfl ⟨8, true, rfl, by kernel_rfl, rfl⟩
            case oe14 =>
              refine ask_val [.op 61 8 (Fact.eq _), .op 66 13 (Fact.eq _)] rfl 67 rfl (.inl rfl) ⟨⟨by kernel_rfl, rfl⟩, ⟨by kernel_rfl, rfl⟩, trivial⟩ ?_
              dsimp only [Has, Fact.eq]
              intro e ρ w' hc hf hg hG h61 h66
              go_simp
              with_reducible rfl
            case fine =>
              intro w' hG
              refine fin_eq (fin_eq (fin_eq (fin_eq (fin_eq (fin_eq (fin_eq (fin_eq (fin_eq (fin_eq (fin_eq (fin_eq (fin_eq (fin_eq (fin_eq (fin_nil (a' := ?_) ?_ ?_)))))))))))))))
              rotate_left
              · simp only [Act.put, List.setIfInBounds_toArray, List.set_cons_zero, List.set_cons_succ]
                rfl
              go_wp2_with fail
              go_ret2
              refine ⟨?_, hG.2.2.out.1⟩
              rw [ho2.out ⟨tk x, List.mem_map.2 ⟨x, HMX.out, rfl⟩, HMB.out⟩]
              rfl
      · have him2 : i = m := by omega
        subst him2
        have hjn := join_at X i HXN.out g wr HB.out HJ.out (by omega)
        have hd : decide ((i : Int) < (i : Int)) = false := decide_eq_false (by omega)
        have HO : Aside0 (o = .tuple #[.string (sB (joinW ((X.take i).map tk))), .int .i64 0]) := ⟨ho.out (all_take HM.out)⟩
        go_wp2_with (go_at_call 17; refine hjn.mono ?_; rintro e w1 ⟨rfl, hb1⟩; have HB1 := Aside0.mk (below_then HW.out.1 HW.out.1.size hb1); clear hb1)
        go_ret2
        refine ⟨?_, HB1.out⟩
        rw [HO.out, List.map_take]
        rfl
end Go.Proofs.YtjibdaigclgmhaaGreatDoor.LexW
