/- The program's reading of tokens, walked: each function's answer in plain words. Conditions: those that each theorem states. -/
import Derived.Test.YtjibdaigclgmhaaDoorLexH
import Derived.Test.YtjibdaigclgmhaaDoorLexS
namespace Go.Proofs.YtjibdaigclgmhaaDoor.LexW
open Go.RowKit Go.Maps Go.Proofs.YtjibdaigclgmhaaDoor.Lex Go.Proofs.YtjibdaigclgmhaaDoor.PLexTokens Go.Proofs.YtjibdaigclgmhaaDoorW.PrintWords Go.Proofs.YtjibdaigclgmhaaDoorW.PrintLast Go.Proofs.YtjibdaigclgmhaaDoorW.PrintMore
attribute [local go_sem] max2_int min2_int max_two min_two max_three min_three max_four min_four
set_option linter.unusedVariables false
set_option linter.unusedSimpArgs false
def eqS (b : Bool) (x y : S42) : Bool := decide (x.f0 = y.f0) && (decide (x.f1.toList = y.f1.toList) && (decide (x.f2 = y.f2) && (!b || decide (x.f3 = y.f3))))
def sameB (b : Bool) : List S42 → List S42 → Bool
  | [], [] => true
  | x :: xs, y :: ys => eqS b x y && sameB b xs ys
  | _, _ => false
theorem rd_at (xs : List S42) (i : Nat) (h : i < xs.length) : rd_T42 xs (i : Int) = xs[i]'h := by
  unfold rd_T42
  rw [Int.toNat_natCast, List.getD_eq_getElem?_getD, List.getElem?_eq_getElem h]; rfl
theorem same_l0 (b : Bool) (X Y : List S42) (hl : X.length = Y.length) (hb : X.length ≤ 4611686018427387904) : ∀ (k i : Nat), i ≤ X.length → X.length - i < k → kilnlaw7_sameTokens.l0 k X Y b (i : Int) = some (sameB b (X.drop i) (Y.drop i)) := by
  intro k
  induction k with
  | zero => intro i h1 h2; omega
  | succ k ih =>
    intro i h1 h2
    rw [kilnlaw7_sameTokens.l0]
    by_cases hi : i < X.length
    · have hiY : i < Y.length := by omega
      have hw : wrap64 ((i : Int) + 1) = ((i + 1 : Nat) : Int) := by unfold wrap64; omega
      rw [if_pos (by omega), if_pos (by omega), if_pos (by omega), rd_at X i hi, rd_at Y i hiY, hw, ih (i + 1) (by omega) (by omega)]
      rw [List.drop_eq_getElem_cons hi, List.drop_eq_getElem_cons hiY]
      simp only [sameB, eqS]
      by_cases e0 : X[i].f0 = Y[i].f0
      · by_cases e1 : X[i].f1.toList = Y[i].f1.toList
        · by_cases e2 : X[i].f2 = Y[i].f2
          · cases b with
            | false => simp [e0, e1, e2]
            | true =>
              by_cases e3 : X[i].f3 = Y[i].f3
              · simp [e0, e1, e2, e3]
              · simp [e0, e1, e2, e3]
          · simp [e0, e1, e2]
        · simp [e0, e1]
      · simp [e0]
    · obtain rfl : i = X.length := by omega
      rw [if_neg (by omega), List.drop_length, hl, List.drop_length]
      rfl
theorem sameB_len (b : Bool) : ∀ (X Y : List S42), X.length ≠ Y.length → sameB b X Y = false
  | [], [], h => absurd rfl h
  | x :: xs, y :: ys, h => by
    simp only [List.length_cons, ne_eq, Nat.add_right_cancel_iff] at h
    rw [sameB, sameB_len b xs ys h, Bool.and_false]
  | [], y :: ys, _ => rfl
  | x :: xs, [], _ => rfl
theorem same_calls (X Y : List S42) (A0 A1 : Option Addr) (c0 c1 : Nat) (b : Bool) (w : World) (hx : Kd.C k42 w A0 X.length X) (hc0 : X.length ≤ c0) (hy : Kd.C k42 w A1 Y.length Y) (hc1 : Y.length ≤ c1) (hb : X.length ≤ 4611686018427387904) :
    Calls Tryd.prog 12 #[.slice A0 X.length c0, .slice A1 Y.length c1, .bool b] w fun e w' => e = .returned (.bool (sameB b X Y)) ∧ Drawn0 w w' := by
  refine kilnlaw7_sameTokens.calls (X.length + 1) A0 c0 X A1 c1 Y b _ w hx hc0 hy hc1 ?_
  unfold kilnlaw7_sameTokens.f
  by_cases hl : X.length = Y.length
  · rw [if_pos (by omega)]
    have := same_l0 b X Y hl hb (X.length + 1) 0 (Nat.zero_le _) (by omega)
    simpa using this
  · rw [if_neg (by omega), sameB_len b X Y hl]
def flat42 (l : List S42) : List Value := l.flatMap (fun x => [.int .i64 x.f0, .string x.f1, .int .i64 x.f2, .int .i64 x.f3])
theorem flat42_at : ∀ (l : List S42) (j i : Nat) (x : S42), l[j]? = some x → i < 4 → (flat42 l)[j * 4 + i]? = [Value.int .i64 x.f0, .string x.f1, .int .i64 x.f2, .int .i64 x.f3][i]?
  | [], j, i, x, h, _ => by simp at h
  | y :: l, 0, i, x, h, hi => by
    simp at h; subst h
    unfold flat42
    rw [List.flatMap_cons, List.getElem?_append_left (by simp; omega)]
    simp
  | y :: l, j + 1, i, x, h, hi => by
    have := flat42_at l j i x (by simpa using h) hi
    unfold flat42 at this ⊢
    rw [List.flatMap_cons, List.getElem?_append_right (by simp; omega)]
    rw [← this]
    congr 1
    simp; omega
theorem lit_C42 (W : World) (l : List S42) (hl : l.length ≤ 9223372036854775807) : Kd.C k42 (W.alloc (.cells (flat42 l).toArray 42)) (some ⟨W.heap.size, 0, none⟩) l.length l := by
  refine ⟨rfl, hl, fun _ => ⟨_, rfl, fun j p hj => ⟨_, rfl, k42_mk _ p, fun i u hu => ?_⟩⟩⟩
  have hi : i < 4 := by have := (List.getElem?_eq_some_iff.1 hu).1; simpa using this
  have h1 := flat42_at l j i p hj hi
  rw [hu] at h1
  exact World.news_of_block (cs := (flat42 l).toArray) (t := 42) (fr := (0, 0)) (heap_alloc_new W (.cells (flat42 l).toArray 42)) (j * 4 + i) u (by simpa using h1)
def K1 : List TokA := [⟨⟨1, [120], 0⟩, 0⟩, ⟨⟨14, [], 0⟩, 2⟩, ⟨⟨4, [], 3⟩, 5⟩, ⟨⟨3, [45], 0⟩, 6⟩, ⟨⟨3, [45], 0⟩, 7⟩, ⟨⟨5, [97, 58, 98, 58], 0⟩, 8⟩, ⟨⟨6, [105, 116, 39, 115], 0⟩, 14⟩, ⟨stopT, 21⟩]
theorem known1 : tokensS (bl ⟨#[120, 32, 58, 61, 32, 51, 45, 45, 35, 97, 58, 98, 58, 32, 39, 105, 116, 39, 39, 115, 39]⟩) = .inl K1 := by decide +kernel
theorem known2 : tokensS (bl ⟨#[97, 32, 35, 32, 98]⟩) = .inr (70, 2) := by decide +kernel
theorem known3 : selector (bl ⟨#[97, 116, 58, 112, 117, 116, 58]⟩) = some 2 := by decide +kernel
def K2 : List S42 := [⟨1, ⟨#[120]⟩, 0, 0⟩, ⟨14, ⟨#[]⟩, 0, 0⟩, ⟨4, ⟨#[]⟩, 3, 0⟩, ⟨3, ⟨#[45]⟩, 0, 0⟩, ⟨3, ⟨#[45]⟩, 0, 0⟩, ⟨5, ⟨#[97, 58, 98, 58]⟩, 0, 0⟩, ⟨6, ⟨#[105, 116, 39, 115]⟩, 0, 0⟩, ⟨18, ⟨#[]⟩, 0, 0⟩]
theorem known4 : sameB false (K1.map tokS) K2 = true := by decide +kernel
theorem num_calls (a : Int) (w : World) : Calls Tryd.prog 20 #[.int .i64 a] w fun e w' => e = .returned (.int .i64 a) ∧ Below w.heap.size w w' :=
  (kilnlaw7_num.calls a a w rfl).mono fun e w' h => ⟨h.1, by obtain ⟨nd, rfl⟩ := h.2; exact ⟨rfl, rfl, rfl, Nat.le_refl _, fun _ _ => rfl⟩⟩
theorem below_drawn {w w' : World} (h : Drawn0 w w') : Below w.heap.size w w' := by obtain ⟨nd, rfl⟩ := h; exact ⟨rfl, rfl, rfl, Nat.le_refl _, fun _ _ => rfl⟩
set_option maxHeartbeats 4000000 in
set_option maxRecDepth 1000000 in
theorem known_calls (w : World) (E : Erg w) : Calls Tryd.prog 16 #[] w fun e w' => e = .returned (.bool true) ∧ Below w.heap.size w w' := by
  have HE := Aside0.mk E
  clear E
  go_enter Tryd.func16, Tryd.ntmps16
  go_wp2_with fail
  refine (tokens_calls _ _ HE.out).mono ?_
  rintro e w1 h
  rw [known1] at h
  obtain ⟨⟨A, c, rfl, hR⟩, hb⟩ := h
  obtain ⟨_, hAc, hC⟩ := Kd.R_reads' hR
  obtain ⟨KS, hKS⟩ : ∃ KS, KS = K1.map tokS := ⟨_, rfl⟩
  have hlen : K1.length = KS.length := by rw [hKS, List.length_map]
  rw [← hKS] at hC
  rw [hlen]
  have hKL : KS.length = 8 := by rw [hKS]; rfl
  have HKL := Aside0.mk hKL
  have HKS := Aside0.mk hKS
  have HC1 := Aside0.mk hC
  have HW1 := Aside0.mk hb
  clear hR hC hb hAc hlen hKS hKL
  go_wp2_with fail
  refine (tokens_calls _ _ (HE.out.below (HW1.out.trans (below_le (((Below.refl w1.heap.size w1).alloc (Nat.le_refl _) _).alloc (by simp) _) HW1.out.size)))).mono ?_
  rintro e w3 h
  rw [known2] at h
  obtain rfl : e = .returned (.tuple #[.slice none 0 0, .agg #[.int .i64 70, .int .i64 2]]) := h.1
  have hb := h.2
  have hC2 : Kd.C k42 w3 (some ⟨(w1.alloc (Obj.cells #[Value.int IntKind.i64 0, Value.int IntKind.i64 0] 25)).heap.size, 0, none⟩) K2.length K2 := Kd.C_below (lit_C42 (w1.alloc (Obj.cells #[Value.int IntKind.i64 0, Value.int IntKind.i64 0] 25)) K2 (by decide)) hb
  rw [show (w1.alloc (Obj.cells #[Value.int IntKind.i64 0, Value.int IntKind.i64 0] 25)).heap.size = w1.heap.size + 1 by simp] at hC2
  have hF1 := blk_below (blk_alloc (blk_new w1 (.cells #[.int .i64 0, .int .i64 0] 25 (0, 0))) _) hb
  have hW3 : Below w1.heap.size w1 w3 := Below.trans (((Below.refl w1.heap.size w1).alloc (Nat.le_refl _) _).alloc (by simp) _) (below_le hb (by simp; omega))
  have HF1 := Aside0.mk hF1
  have HC2 := Aside0.mk hC2
  have HC3 := Aside0.mk (Kd.C_below HC1.out hW3)
  have HW3 := Aside0.mk (below_then HW1.out HW1.out.size hW3)
  clear h hb hC2 hF1 hW3 HC1 HW1
  go_wp2_with fail
  refine (selector_calls _ (by decide) _).mono ?_
  rintro e w4 h
  rw [known3] at h
  obtain rfl : e = .returned (.tuple #[.int .i64 2, .int .i64 0]) := h.1
  have hb := h.2
  have hW4 : Below w3.heap.size w3 w4 := Below.trans ((Below.refl w3.heap.size w3).alloc (Nat.le_refl _) _) (below_le hb (by simp))
  have HC4 := Aside0.mk (Kd.C_below HC3.out hW4)
  have HC5 := Aside0.mk (Kd.C_below HC2.out hW4)
  have hF1 := blk_below HF1.out hW4
  have hF2 := blk_below (blk_new w3 (.cells #[.int .i64 70, .int .i64 2] 25 (0, 0))) hb
  have HW4 := Aside0.mk (below_then HW3.out HW3.out.size hW4)
  have HF1' := Aside0.mk hF1
  have HF2' := Aside0.mk hF2
  have d0 := blk_cell hF1 0
  have d1 := blk_cell hF2 0
  have d2 := blk_cell hF2 1
  clear h hb hW4 HC3 HC2 HW3 HF1 hF1 hF2
  go_wp2_with fail
  have hsame : sameB false KS K2 = true := by rw [HKS.out]; exact known4
  have hsc := same_calls KS K2 A (some ⟨w1.heap.size + 1, 0, none⟩) KS.length 8 false w4 HC4.out (Nat.le_refl _) HC5.out (by decide) (by rw [HKL.out]; omega)
  rw [hsame] at hsc
  refine hsc.mono ?_
  rintro e w5 ⟨rfl, nd, rfl⟩
  clear hsc hsame
  go_wp2_with (go_at_call 20; refine (num_calls _ _).mono ?_; rintro e w6 ⟨rfl, hb⟩; have HB := Aside0.mk hb; clear hb)
  go_ret
  exact ⟨rfl, below_then (pw_below_drewN HW4.out nd) HW4.out.size HB.out⟩
end Go.Proofs.YtjibdaigclgmhaaDoor.LexW
