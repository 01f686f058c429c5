/- LexTokens, walked: the law answers true for every source. Conditions: those that each theorem states. -/
import Derived.Test.YtjibdaigclgmhaaDoorLexAA
namespace Go.Proofs.YtjibdaigclgmhaaDoor.LexW
open Go.RowKit Go.Maps Go.Proofs.YtjibdaigclgmhaaDoor.Lex Go.Proofs.YtjibdaigclgmhaaDoor.PLexTokens Go.Proofs.YtjibdaigclgmhaaDoorW.PrintWords Go.Proofs.YtjibdaigclgmhaaDoorW.PrintLast Go.Proofs.YtjibdaigclgmhaaDoorW.PrintMore Go.Proofs.YtjibdaigclgmhaaDoor.Facts
attribute [local go_sem] max2_int min2_int max_two min_two max_three min_three max_four min_four
set_option linter.unusedVariables false
set_option linter.unusedSimpArgs false
/-- what Tokens answers: the list, the fault -/
def ansL (r : List TokA ⊕ (Int × Nat)) : List S42 := match r with | .inl l => l.map tokS | .inr _ => []
def ansC (r : List TokA ⊕ (Int × Nat)) : Int := match r with | .inl _ => 0 | .inr a => a.1
def ansP (r : List TokA ⊕ (Int × Nat)) : Int := match r with | .inl _ => 0 | .inr a => (a.2 : Int)
theorem tokensS_len (l : List UInt8) : (ansL (tokensS l)).length ≤ 4097 := by
  cases h : tokensS l with
  | inl t => have h1 := tokensS_inl h; have := Lexes_len h1.1; simp [ansL]; omega
  | inr a => simp [ansL]
theorem ref_lst (s : ByteArray) {X : List S42} {c p : Int} (hX : ansL (tokensS (bl s)) = X) (hc : ansC (tokensS (bl s)) = c) (hp : ansP (tokensS (bl s)) = p) (w : World) : Calls Tryd.prog 10 #[.string s] w fun e w' => ∃ A k, e = .returned (.tuple #[.slice A X.length k, .agg #[.int .i64 c, .int .i64 p]]) ∧ X.length ≤ k ∧ Lst w' w.heap.size w'.heap.size A X ∧ Below w.heap.size w w' := by
  have hl := tokensS_len (bl s)
  refine (refTokens_calls s w).mono ?_
  rintro e w' h
  cases hq : tokensS (bl s) with
  | inl l =>
    rw [hq] at h hX hc hp hl
    subst hX hc hp
    obtain ⟨⟨v, rfl, hR⟩, hb⟩ := h
    obtain ⟨A, k, rfl, hk, _⟩ := Kd.R_reads hR
    exact ⟨A, k, rfl, hk, Lst_of_R hR (by show (ansL (.inl l)).length ≤ _; omega), hb⟩
  | inr a =>
    rw [hq] at h hX hc hp
    subst hX hc hp
    obtain ⟨rfl, hb⟩ := h
    exact ⟨none, 0, rfl, Nat.le_refl _, .inl ⟨rfl, rfl⟩, hb⟩
theorem lex_lst (s : ByteArray) {X : List S42} {c p : Int} (hX : ansL (tokensS (bl s)) = X) (hc : ansC (tokensS (bl s)) = c) (hp : ansP (tokensS (bl s)) = p) (w : World) (E : Erg w) : Calls Tryd.prog 11 #[.string s] w fun e w' => ∃ A, e = .returned (.tuple #[.slice A X.length X.length, .agg #[.int .i64 c, .int .i64 p]]) ∧ Lst w' w.heap.size w'.heap.size A X ∧ Below w.heap.size w w' := by
  have hl := tokensS_len (bl s)
  refine (tokens_calls s w E).mono ?_
  rintro e w' h
  cases hq : tokensS (bl s) with
  | inl l =>
    rw [hq] at h hX hc hp hl
    subst hX hc hp
    obtain ⟨⟨A, k, rfl, hR⟩, hb⟩ := h
    have e1 : (ansL (.inl l)).length = l.length := by simp [ansL]
    rw [e1]
    exact ⟨A, rfl, Lst_of_R hR (by show (ansL (.inl l)).length ≤ _; omega), hb⟩
  | inr a =>
    rw [hq] at h hX hc hp
    subst hX hc hp
    obtain ⟨rfl, hb⟩ := h
    exact ⟨none, rfl, .inl ⟨rfl, rfl⟩, hb⟩
/-- the law's lists and boxes -/
def ST (w : World) (b4 b6 b8 : Nat) (Aw Al Ak : Option Addr) (X XL XK : List S42) (c p : Int) (W : World) : Prop :=
  Lst W w.heap.size b4 Aw X ∧ Lst W (b4 + 1) b6 Al XL ∧ Lst W (b6 + 1) b8 Ak XK ∧ W.heap[b4]? = some (.cells #[.int .i64 c, .int .i64 p] 25 (0, 0)) ∧ W.heap[b6]? = some (.cells #[.int .i64 c, .int .i64 p] 25 (0, 0)) ∧ W.heap[b8]? = some (.cells #[.int .i64 c, .int .i64 p] 25 (0, 0)) ∧ Below w.heap.size w W ∧ (w.heap.size ≤ b4 ∧ b4 < b6 ∧ b6 < b8 ∧ b8 < W.heap.size)
section
variable {w W W' : World} {b4 b6 b8 : Nat} {Aw Al Ak : Option Addr} {X XL XK : List S42} {c p : Int}
theorem ST.below (h : ST w b4 b6 b8 Aw Al Ak X XL XK c p W) (hb : Below W.heap.size W W') : ST w b4 b6 b8 Aw Al Ak X XL XK c p W' := by
  obtain ⟨h1, h2, h3, h4, h5, h6, h7, h8⟩ := h
  exact ⟨h1.below hb, h2.below hb, h3.below hb, blk_below h4 hb, blk_below h5 hb, blk_below h6 hb, below_then h7 h7.size hb, h8.1, h8.2.1, h8.2.2.1, Nat.lt_of_lt_of_le h8.2.2.2 hb.size⟩
theorem ST.outL {XL' : List S42} (h : ST w b4 b6 b8 Aw Al Ak X XL XK c p W) (hl : Lst W' (b4 + 1) b6 Al XL') (ho : Out (b4 + 1) b6 W W') : ST w b4 b6 b8 Aw Al Ak X XL' XK c p W' := by
  obtain ⟨h1, h2, h3, h4, h5, h6, h7, h8⟩ := h
  exact ⟨h1.out ho (by omega), hl, h3.out ho (by omega), ho.blk h4 (by omega), ho.blk h5 (by omega), ho.blk h6 (by omega), h7.trans (ho.below (by omega) h7.size), h8.1, h8.2.1, h8.2.2.1, Nat.lt_of_lt_of_le h8.2.2.2 ho.2.2.2.1⟩
theorem ST.outK {XK' : List S42} (h : ST w b4 b6 b8 Aw Al Ak X XL XK c p W) (hl : Lst W' (b6 + 1) b8 Ak XK') (ho : Out (b6 + 1) b8 W W') : ST w b4 b6 b8 Aw Al Ak X XL XK' c p W' := by
  obtain ⟨h1, h2, h3, h4, h5, h6, h7, h8⟩ := h
  exact ⟨h1.out ho (by omega), h2.out ho (by omega), hl, ho.blk h4 (by omega), ho.blk h5 (by omega), ho.blk h6 (by omega), h7.trans (ho.below (by omega) h7.size), h8.1, h8.2.1, h8.2.2.1, Nat.lt_of_lt_of_le h8.2.2.2 ho.2.2.2.1⟩
end
theorem stands_l1 (xs ys : List S42) (b : Int) (hy : ∀ i, i < 64 → ys[xs.length + i]? = some (mk0 b)) (hyl : ys.length = xs.length + 64) (hl : xs.length ≤ 1099511627776) : ∀ (k i : Nat), i ≤ 64 → 64 - i < k → kilnlaw7_stands.l1 k xs ys b (i : Int) = some true := by
  intro k
  induction k with
  | zero => intro i h1 h2; omega
  | succ k ih =>
    intro i h1 h2
    rw [kilnlaw7_stands.l1]
    by_cases hi : i < 64
    · have hw : wrap64 ((i : Int) + 1) = ((i + 1 : Nat) : Int) := by unfold wrap64; omega
      have hw2 : wrap64 ((xs.length : Int) + (i : Int)) = ((xs.length + i : Nat) : Int) := by unfold wrap64; omega
      have hlt : xs.length + i < ys.length := by omega
      have hat : ys[xs.length + i]'hlt = mk0 b := (List.getElem?_eq_some_iff.1 (hy i hi)).2
      rw [if_pos (by omega), hw2, if_pos (by omega), if_pos (by omega), rd_at ys _ hlt, hat, if_pos (show (mk0 b).f0 = b from rfl), hw, ih (i + 1) (by omega) (by omega)]
    · rw [if_neg (by omega)]
theorem stands_l0 (xs ys : List S42) (a b : Int) (hx : ∀ (i : Nat) (h : i < xs.length), (xs[i]'h).f0 = a ∧ (xs[i]'h).f3 = (i : Int)) (hy : ∀ i, i < 64 → ys[xs.length + i]? = some (mk0 b)) (hyl : ys.length = xs.length + 64) (hl : xs.length ≤ 1099511627776) : ∀ (k i : Nat), i ≤ xs.length → xs.length - i + 66 < k → kilnlaw7_stands.l0 k xs ys a b (i : Int) = some true := by
  intro k
  induction k with
  | zero => intro i h1 h2; omega
  | succ k ih =>
    intro i h1 h2
    rw [kilnlaw7_stands.l0]
    by_cases hi : i < xs.length
    · have hw : wrap64 ((i : Int) + 1) = ((i + 1 : Nat) : Int) := by unfold wrap64; omega
      rw [if_pos (by omega), if_pos (by omega), rd_at xs i hi, if_pos (hx i hi).1, if_pos (hx i hi).2, hw, ih (i + 1) (by omega) (by omega)]
    · rw [if_neg (by omega)]
      exact stands_l1 xs ys b hy hyl hl k 0 (by omega) (by omega)
theorem stands_calls (a b : Int) (n : Nat) (A0 A1 : Option Addr) (c0 c1 : Nat) (w : World) (h0 : Kd.C k42 w A0 n (marks a n)) (hc0 : n ≤ c0) (h1 : Kd.C k42 w A1 (n + 64) (marks a n ++ List.replicate 64 (mk0 b))) (hc1 : n + 64 ≤ c1) (hl : n ≤ 1099511627776) :
    Calls Tryd.prog 15 #[.slice A0 n c0, .slice A1 (n + 64) c1, .int .i64 a, .int .i64 b] w fun e w' => e = .returned (.bool true) ∧ Drawn0 w w' := by
  have e0 := marks_len a n
  have e1 : (marks a n ++ List.replicate 64 (mk0 b)).length = n + 64 := by rw [List.length_append, e0, List.length_replicate]
  have := kilnlaw7_stands.calls (n + 68) A0 c0 (marks a n) A1 c1 (marks a n ++ List.replicate 64 (mk0 b)) a b true w (by rw [e0]; exact h0) (by rw [e0]; exact hc0) (by rw [e1]; exact h1) (by rw [e1]; exact hc1) (by
    unfold kilnlaw7_stands.f
    refine stands_l0 _ _ a b (fun i hi => ?_) (fun i hi => ?_) (by rw [e1, e0]) (by rw [e0]; exact hl) _ 0 (Nat.zero_le _) (by rw [e0]; omega)
    · have h := marks_at a n i (by rw [e0] at hi; exact hi)
      have h2 := (List.getElem?_eq_some_iff.1 h).2
      rw [h2]; exact ⟨rfl, rfl⟩
    · rw [List.getElem?_append_right (by omega), Nat.add_sub_cancel_left, List.getElem?_replicate, if_pos hi])
  rw [e0, e1] at this
  exact this
theorem sameB_self (b : Bool) : ∀ X : List S42, sameB b X X = true
  | [] => rfl
  | x :: xs => by rw [sameB, sameB_self b xs]; simp [eqS]
theorem same_list {W : World} {A B : Option Addr} {X : List S42} {n ka kb : Nat} (hn : X.length = n) (hA : Kd.C k42 W A X.length X) (hB : Kd.C k42 W B X.length X) (h1 : n ≤ ka) (h2 : n ≤ kb) (hl : n ≤ 4097) : Calls Tryd.prog 12 #[.slice A n ka, .slice B n kb, .bool true] W fun e w' => e = .returned (.bool true) ∧ Drawn0 W w' := by
  have := same_calls X X A B ka kb true W hA (by omega) hB (by omega) (by omega)
  rw [sameB_self, hn] at this
  exact this
set_option maxHeartbeats 8000000 in
set_option maxRecDepth 1000000 in
theorem tokens_law (s : ByteArray) (w : World) (E : Erg w) : Calls Tryd.prog 3 #[.string s] w fun e w' => e = .returned (.bool true) ∧ Below w.heap.size w w' := by
  have hl := tokensS_len (bl s)
  obtain ⟨X, hX⟩ : ∃ X, ansL (tokensS (bl s)) = X := ⟨_, rfl⟩
  obtain ⟨c, hc⟩ : ∃ c, ansC (tokensS (bl s)) = c := ⟨_, rfl⟩
  obtain ⟨p, hp⟩ : ∃ p, ansP (tokensS (bl s)) = p := ⟨_, rfl⟩
  rw [hX] at hl
  obtain ⟨n, hn⟩ : ∃ n, X.length = n := ⟨_, rfl⟩
  rw [hn] at hl
  have HREF := Aside0.mk (ref_lst s hX hc hp)
  have HLEX := Aside0.mk (lex_lst s hX hc hp)
  have HN := Aside0.mk hn
  have HE := Aside0.mk E
  clear hX hc hp hn E
  go_enter Tryd.func3, Tryd.ntmps3
  go_wp2_with fail
  refine (HREF.out w).mono ?_
  rintro e w1 ⟨Aw, cw, rfl, hcw, hLw, hb1⟩
  rw [HN.out] at hcw ⊢
  have H1 := Aside0.mk (And.intro hLw hb1)
  clear hLw hb1
  go_wp2_with fail
  obtain ⟨W1, hW1⟩ : ∃ W1, W1 = w1.alloc (.cells #[.int .i64 c, .int .i64 p] 25 (0, 0)) := ⟨_, rfl⟩
  have H2 : Aside0 (Lst W1 w.heap.size w1.heap.size Aw X ∧ W1.heap[w1.heap.size]? = some (.cells #[.int .i64 c, .int .i64 p] 25 (0, 0)) ∧ Below w.heap.size w W1 ∧ W1.heap.size = w1.heap.size + 1 ∧ w.heap.size ≤ w1.heap.size) := ⟨by
    rw [hW1]; exact ⟨H1.out.1.below (below_alloc (Below.refl _ _) _), blk_new _ _, H1.out.2.alloc H1.out.2.size _, by simp, H1.out.2.size⟩⟩
  rw [← hW1]
  clear hW1 H1
  refine (HLEX.out W1 (HE.out.below H2.out.2.2.1)).mono ?_
  rintro e w2 ⟨Al, rfl, hLl, hb2⟩
  rw [HN.out]
  have H3 := Aside0.mk (And.intro hLl hb2)
  clear hLl hb2
  go_wp2_with fail
  obtain ⟨W2, hW2⟩ : ∃ W2, W2 = w2.alloc (.cells #[.int .i64 c, .int .i64 p] 25 (0, 0)) := ⟨_, rfl⟩
  have H4 : Aside0 (Lst W2 w.heap.size w1.heap.size Aw X ∧ Lst W2 (w1.heap.size + 1) w2.heap.size Al X ∧ W2.heap[w1.heap.size]? = some (.cells #[.int .i64 c, .int .i64 p] 25 (0, 0)) ∧ W2.heap[w2.heap.size]? = some (.cells #[.int .i64 c, .int .i64 p] 25 (0, 0)) ∧ Below w.heap.size w W2 ∧ W2.heap.size = w2.heap.size + 1 ∧ w.heap.size ≤ w1.heap.size ∧ w1.heap.size < w2.heap.size) := ⟨by
    obtain ⟨h1, h2, h3, h4, h5⟩ := H2.out
    obtain ⟨g1, g2⟩ := H3.out
    have g3 := below_then g2 g2.size (below_alloc (Below.refl w2.heap.size w2) (.cells #[.int .i64 c, .int .i64 p] 25 (0, 0)))
    have g4 := g2.size
    rw [h4] at g1 g4
    rw [hW2]
    exact ⟨h1.below g3, g1.below (below_alloc (Below.refl _ _) _), blk_below h2 g3, blk_new _ _, below_then h3 h3.size g3, by simp, h5, by omega⟩⟩
  rw [← hW2]
  clear hW2 H2 H3
  refine (HLEX.out W2 (HE.out.below H4.out.2.2.2.2.1)).mono ?_
  rintro e w3 ⟨Ak, rfl, hLk, hb3⟩
  rw [HN.out]
  have H5 := Aside0.mk (And.intro hLk hb3)
  clear hLk hb3
  obtain ⟨W3, hW3⟩ : ∃ W3, W3 = w3.alloc (.cells #[.int .i64 c, .int .i64 p] 25 (0, 0)) := ⟨_, rfl⟩
  have HS : Aside0 (ST w w1.heap.size w2.heap.size w3.heap.size Aw Al Ak X X X c p W3) := ⟨by
    obtain ⟨h1, h2, h3, h4, h5, h6, h7, h8⟩ := H4.out
    obtain ⟨g1, g2⟩ := H5.out
    have g3 := below_then g2 g2.size (below_alloc (Below.refl w3.heap.size w3) (.cells #[.int .i64 c, .int .i64 p] 25 (0, 0)))
    have g4 := g2.size
    rw [h6] at g1 g4
    rw [hW3]
    exact ⟨h1.below g3, h2.below g3, g1.below (below_alloc (Below.refl _ _) _), blk_below h3 g3, blk_below h4 g3, blk_new _ _, below_then h5 h5.size g3, h7, h8, by omega, by simp⟩⟩
  clear H4 H5
  have d40 := blk_cell HS.out.2.2.2.1 0
  have d41 := blk_cell HS.out.2.2.2.1 1
  have d60 := blk_cell HS.out.2.2.2.2.1 0
  have d61 := blk_cell HS.out.2.2.2.2.1 1
  have d80 := blk_cell HS.out.2.2.2.2.2.1 0
  have d81 := blk_cell HS.out.2.2.2.2.2.1 1
  rw [hW3] at d40 d41 d60 d61 d80 d81
  go_wp2_with fail
  rw [← hW3]
  clear hW3 d40 d41 d60 d61 d80 d81
  refine (same_list HN.out HS.out.2.1.C HS.out.1.C (Nat.le_refl _) hcw hl).mono ?_
  rintro e w4 ⟨rfl, nd, rfl⟩
  replace HS := Aside0.mk (HS.out.below (pw_below_drewN (Below.refl _ _) nd))
  generalize W3.drewN nd = W4 at *
  go_wp2_with fail
  refine (same_list HN.out HS.out.2.2.1.C HS.out.1.C (Nat.le_refl _) hcw hl).mono ?_
  rintro e w5 ⟨rfl, nd, rfl⟩
  replace HS := Aside0.mk (HS.out.below (pw_below_drewN (Below.refl _ _) nd))
  generalize W4.drewN nd = W5 at *
  go_wp2_with fail
  have hm := marked_lst (-1) HS.out.2.1
  rw [HN.out] at hm
  refine hm.mono ?_
  rintro e w6 ⟨rfl, hL, ho⟩
  replace HS := Aside0.mk (HS.out.outL hL ho)
  clear hm hL ho
  go_wp2_with fail
  have hm := marked_lst (-2) HS.out.2.2.1
  rw [HN.out] at hm
  refine hm.mono ?_
  rintro e w7 ⟨rfl, hL, ho⟩
  replace HS := Aside0.mk (HS.out.outK hL ho)
  clear hm hL ho
  go_wp2_with fail
  have hm := longer_lst (-3) HS.out.2.1 (by rw [marks_len]; omega)
  rw [marks_len] at hm
  refine hm.mono ?_
  rintro e w8 ⟨B1, q1, rfl, hq1, hL, hb⟩
  replace HS := Aside0.mk (HS.out.below hb)
  have HL1 := Aside0.mk hL
  clear hm hL hb
  go_wp2_with fail
  have hm := longer_lst (-4) HS.out.2.2.1 (by rw [marks_len]; omega)
  rw [marks_len] at hm
  refine hm.mono ?_
  rintro e w9 ⟨B2, q2, rfl, hq2, hL, hb⟩
  replace HS := Aside0.mk (HS.out.below hb)
  replace HL1 := Aside0.mk (HL1.out.below hb)
  have HL2 := Aside0.mk hL
  clear hm hL hb
  go_wp2_with fail
  refine (HLEX.out _ (HE.out.below HS.out.2.2.2.2.2.2.1)).mono ?_
  rintro e w10 ⟨A10, rfl, hL, hb⟩
  rw [HN.out]
  have hb2 := below_then hb hb.size (below_alloc (Below.refl w10.heap.size w10) (.cells #[.int .i64 c, .int .i64 p] 25 (0, 0)))
  obtain ⟨W11, hW11⟩ : ∃ W11, W11 = w10.alloc (.cells #[.int .i64 c, .int .i64 p] 25 (0, 0)) := ⟨_, rfl⟩
  rw [← hW11] at hb2
  replace HS := Aside0.mk (HS.out.below hb2)
  replace HL1 := Aside0.mk (HL1.out.below hb2)
  replace HL2 := Aside0.mk (HL2.out.below hb2)
  have HL3 := Aside0.mk (hL.below (below_alloc (Below.refl w10.heap.size w10) (.cells #[.int .i64 c, .int .i64 p] 25 (0, 0))))
  rw [← hW11] at HL3
  have hk := blk_new w10 (.cells #[.int .i64 c, .int .i64 p] 25 (0, 0))
  have d120 := blk_cell hk 0
  have d121 := blk_cell hk 1
  have d40 := blk_cell HS.out.2.2.2.1 0
  have d41 := blk_cell HS.out.2.2.2.1 1
  rw [hW11] at d40 d41
  clear hL hb hb2 hk
  go_wp2_with fail
  rw [← hW11]
  clear hW11 d120 d121 d40 d41
  refine (same_list HN.out HL3.out.C HS.out.1.C (Nat.le_refl _) hcw hl).mono ?_
  rintro e w12 ⟨rfl, nd, rfl⟩
  have hb := pw_below_drewN (Below.refl W11.heap.size W11) nd
  replace HS := Aside0.mk (HS.out.below hb)
  replace HL1 := Aside0.mk (HL1.out.below hb)
  replace HL2 := Aside0.mk (HL2.out.below hb)
  replace HL3 := Aside0.mk (HL3.out.below hb)
  clear hb
  generalize W11.drewN nd = W12 at *
  go_wp2_with fail
  have hm := longer_lst (-5) HL3.out (by rw [HN.out]; omega)
  rw [HN.out] at hm
  refine hm.mono ?_
  rintro e w13 ⟨B3, q3, rfl, hq3, hL, hb⟩
  replace HS := Aside0.mk (HS.out.below hb)
  replace HL1 := Aside0.mk (HL1.out.below hb)
  replace HL2 := Aside0.mk (HL2.out.below hb)
  replace HL3 := Aside0.mk (HL3.out.below hb)
  clear hm hL hb
  go_wp2_with fail
  refine (stands_calls (-1) (-3) n Al B1 n q1 _ (by have := HS.out.2.1.C; rw [marks_len] at this; exact this) (Nat.le_refl _) (by have := HL1.out.C; rw [List.length_append, marks_len, List.length_replicate] at this; exact this) hq1 (by omega)).mono ?_
  rintro e w14 ⟨rfl, nd, rfl⟩
  have hb := pw_below_drewN (Below.refl w13.heap.size w13) nd
  replace HS := Aside0.mk (HS.out.below hb)
  replace HL2 := Aside0.mk (HL2.out.below hb)
  replace HL3 := Aside0.mk (HL3.out.below hb)
  clear hb HL1
  generalize w13.drewN nd = W14 at *
  go_wp2_with fail
  refine (stands_calls (-2) (-4) n Ak B2 n q2 _ (by have := HS.out.2.2.1.C; rw [marks_len] at this; exact this) (Nat.le_refl _) (by have := HL2.out.C; rw [List.length_append, marks_len, List.length_replicate] at this; exact this) hq2 (by omega)).mono ?_
  rintro e w15 ⟨rfl, nd, rfl⟩
  have hb := pw_below_drewN (Below.refl W14.heap.size W14) nd
  replace HS := Aside0.mk (HS.out.below hb)
  replace HL3 := Aside0.mk (HL3.out.below hb)
  clear hb HL2
  generalize W14.drewN nd = W15 at *
  go_wp2_with fail
  refine (same_list HN.out HL3.out.C HS.out.1.C (Nat.le_refl _) hcw hl).mono ?_
  rintro e w16 ⟨rfl, nd, rfl⟩
  have hb := pw_below_drewN (Below.refl W15.heap.size W15) nd
  replace HS := Aside0.mk (HS.out.below hb)
  clear hb HL3
  generalize W15.drewN nd = W16 at *
  go_wp2_with fail
  refine (known_calls _ (HE.out.below HS.out.2.2.2.2.2.2.1)).mono ?_
  rintro e w17 ⟨rfl, hb⟩
  replace HS := Aside0.mk (HS.out.below hb)
  clear hb
  go_wp2_with fail
  go_ret
  exact ⟨rfl, HS.out.2.2.2.2.2.2.1⟩
end Go.Proofs.YtjibdaigclgmhaaDoor.LexW
