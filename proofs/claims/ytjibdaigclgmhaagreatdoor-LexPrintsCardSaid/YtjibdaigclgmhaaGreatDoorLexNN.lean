/- LexPrints, walked: the law answers true. Conditions: those that each theorem states. -/
import Derived.Test.YtjibdaigclgmhaaGreatDoorLexLL
namespace Go.Proofs.YtjibdaigclgmhaaGreatDoor.LexW
open Go.RowKit Go.Proofs.YtjibdaigclgmhaaGreatDoor.Lex Go.Proofs.YtjibdaigclgmhaaGreatDoor.Facts Go.Proofs.YtjibdaigclgmhaaGreatDoor.PLexPrints Go.Proofs.YtjibdaigclgmhaaGreatDoorW.PrintWords Go.Proofs.YtjibdaigclgmhaaGreatDoorW.PrintLast Go.Proofs.YtjibdaigclgmhaaGreatDoorW.PrintMore
attribute [local go_sem] max2_int min2_int max_two min_two max_three min_three max_four min_four
set_option linter.unusedVariables false
set_option linter.unusedSimpArgs false
theorem wt_app (X Y : List S28) : wt (X ++ Y) = wt X + wt Y := by unfold wt; simp
theorem wt_rev (X : List S28) : wt X.reverse = wt X := by
  induction X with
  | nil => rfl
  | cons x r ih => rw [List.reverse_cons, wt_app, ih, wt_cons, wt_cons]; simp [wt]; omega
/-- the list with all but its last element the other way round, the first i elements of it laid -/
def revd (X : List S28) : List S28 := (X.take (X.length - 1)).reverse
def turnd (X : List S28) (i : Nat) : List S28 := (revd X).take i ++ X.drop i
theorem revd_len (X : List S28) : (revd X).length = X.length - 1 := by unfold revd; rw [List.length_reverse, List.length_take]; omega
theorem turnd_len (X : List S28) (i : Nat) (hi : i ≤ X.length - 1) : (turnd X i).length = X.length := by
  unfold turnd; rw [List.length_append, List.length_take, revd_len, List.length_drop]; omega
theorem turnd_zero (X : List S28) : turnd X 0 = X := by unfold turnd; simp
theorem revd_at (X : List S28) (i : Nat) (hi : i + 1 < X.length) : (revd X)[i]? = X[X.length - 2 - i]? := by
  unfold revd
  rw [List.getElem?_reverse (by rw [List.length_take]; omega), List.length_take, List.getElem?_take_of_lt (by omega)]
  congr 1
  omega
theorem turnd_step (X : List S28) (i : Nat) (hi : i + 1 < X.length) (x : S28) (hx : X[X.length - 2 - i]? = some x) : (turnd X i).set i x = turnd X (i + 1) := by
  have hr := (revd_at X i hi).trans hx
  have hl := revd_len X
  unfold turnd
  rw [List.set_append_right _ _ (by rw [List.length_take]; omega), List.length_take, Nat.min_eq_left (by omega), Nat.sub_self, List.drop_eq_getElem_cons (show i < X.length by omega), List.set_cons_zero, List.take_add_one, hr, List.append_assoc]
  rfl
theorem turnd_bd {X : List S28} (h : Bd X) : Bd (turnd X (X.length - 1)) := by
  have e : turnd X (X.length - 1) = revd X ++ X.drop (X.length - 1) := by
    unfold turnd; rw [List.take_of_length_le (by rw [revd_len]; omega)]
  refine ⟨?_, fun x hx => ?_⟩
  · have h1 : wt X = wt (X.take (X.length - 1)) + wt (X.drop (X.length - 1)) := by rw [← wt_app, List.take_append_drop]
    rw [e, wt_app]
    unfold revd
    rw [wt_rev, ← h1]
    exact h.sum
  · rw [e] at hx
    rcases List.mem_append.1 hx with hx | hx
    · exact h.num x (List.mem_of_mem_take (List.mem_reverse.1 hx))
    · exact h.num x (List.mem_of_mem_drop hx)
theorem own_of_longer {W : World} {B : Nat} {ok : Nat → Prop} {v : Value} {X : List S28} (hR : Kd.R k28 28 W B ok v (X ++ List.replicate 64 (mk0 (-4)))) (hn : X.length ≤ 11184810) : ∃ g c, v = .slice (some ⟨g, 0, none⟩) (X.length + 64) c ∧ Own42 W g (X ++ tail64) ∧ B ≤ g ∧ X.length + 64 ≤ c := by
  have hlen : (X ++ List.replicate 64 (mk0 (-4))).length = X.length + 64 := by simp
  obtain ⟨A1, c1, hv, hc1, _⟩ := Kd.R_reads hR
  rw [hlen] at hv hc1
  subst hv
  rcases Lst_of_R hR (by rw [hlen]; omega) with ⟨_, he⟩ | ⟨g, h1, h2, rfl, hO⟩
  · rw [he] at hlen; simp at hlen
  · exact ⟨g, c1, rfl, hO, h1, hc1⟩
set_option maxHeartbeats 4000000 in
set_option maxRecDepth 100000 in
theorem prints_law (X : List S28) (A : Option Addr) (c : Nat) (w : World) (E : PEnv w) (hC : Kd.C k28 w A X.length X) (hc : X.length ≤ c) (hl : X.length ≤ 9223372036854775807) (hnum : ∀ x ∈ X, -9223372036854775808 ≤ x.f2 ∧ x.f2 ≤ 9223372036854775807) : Calls Tryz.prog 3 #[.slice A X.length c] w fun e w' => e = .returned (.bool true) ∧ Below w.heap.size w w' := by
  have hby := beyond_calls X A c w hC hc hl
  by_cases hbd : 268435456 < wt X
  · rw [decide_eq_true hbd] at hby
    go_enter Tryz.func3, Tryz.ntmps3
    go_wp2_with (go_at_call 4; refine hby.mono ?_; rintro e w1 ⟨rfl, hb⟩; have HB := Aside0.mk (below_drawn hb); clear hb)
    go_ret
    exact ⟨rfl, HB.out⟩
  · rw [decide_eq_false hbd] at hby
    have hB : Bd X := ⟨by omega, hnum⟩
    have hn : X.length ≤ 11184810 := by have := wt_len X; omega
    have HBY := Aside0.mk hby
    have HE := Aside0.mk E
    have HX : Aside0 (Below w.heap.size w w ∧ Kd.C k28 w A X.length X) := ⟨Below.refl _ _, hC⟩
    have HBD := Aside0.mk hB
    have HC0 := Aside0.mk hC
    clear hby hC E hbd hnum hB
    have HTT : Aside0 ((X ++ tail64).length = X.length + 64) := ⟨by rw [List.length_append]; unfold tail64; rw [List.length_replicate]⟩
    go_enter Tryz.func3, Tryz.ntmps3
    go_wp2_with (first
      | (go_at_call 4; refine HBY.out.mono ?_; rintro e w1 ⟨rfl, hb⟩; replace hb := below_drawn hb; replace HX := Aside0.mk (And.intro (below_then HX.out.1 HX.out.1.size hb) (Kd.C_below HX.out.2 hb)); clear hb)
      | (go_at_call 6; refine (twin_calls X (Nat.le_trans hn (by decide)) _ c _ HX.out.2 hc).mono ?_; rintro e w2 ⟨v, rfl, hR, hb⟩; have HR0 := Aside0.mk hR; have HBT := Aside0.mk hb; clear hb hR)
      | (go_at_call 5; refine (longer_calls X (-4) (Nat.le_trans hn (by decide)) v _ _ HBT.out HR0.out).mono ?_; rintro e w3 ⟨v3, rfl, hR, hb⟩; obtain ⟨g, c3, hv, hO, hg, hc3⟩ := own_of_longer hR hn; subst hv; replace HX := Aside0.mk (And.intro (below_then HX.out.1 HX.out.1.size hb) (And.intro (Kd.C_below HX.out.2 hb) (And.intro hO (Nat.le_trans HX.out.1.size hg)))); have HC3 := Aside0.mk hc3; clear HBT HR0 hb hR hO hg hc3)
      | (go_at_call 7; refine (printed_calls X HBD.out ⟨g, 0, none⟩ c3 _ (HE.out.below HX.out.1) (by rw [← HTT.out]; exact HX.out.2.2.1.C) HC3.out).mono ?_; rintro e w4 ⟨rfl, hb⟩; replace HX := Aside0.mk (And.intro (below_then HX.out.1 HX.out.1.size hb) (And.intro (Kd.C_below HX.out.2.1 hb) (And.intro (HX.out.2.2.1.below hb) HX.out.2.2.2))); clear hb))
    have HX0 : Aside0 (Below w.heap.size w w4 ∧ Kd.C k28 w4 A X.length X ∧ Own42 w4 g (turnd X 0 ++ tail64) ∧ w.heap.size ≤ g) := ⟨by rw [turnd_zero]; exact HX.out⟩
    clear HX
    have HKEEP : Aside0 (∀ W, Below w.heap.size w W → Kd.C k28 W A X.length X) := ⟨fun W hW => Kd.C_below HC0.out hW⟩
    go_loopw [6] (fun v6 wr => ∃ i : Nat, v6 = .int .i64 (i : Int) ∧ (i = 0 ∨ i + 1 ≤ X.length) ∧ Aside0 (Below w.heap.size w wr ∧ Kd.C k28 wr A X.length X ∧ Own42 wr g (turnd X i ++ tail64) ∧ w.heap.size ≤ g)) (fun v6 _ => X.length - (intOf v6).toNat)
    case atStart => exact ⟨0, rfl, .inl rfl, HX0⟩
    case round =>
      obtain ⟨i, rfl, hi, HR⟩ := hrel
      clear HX0
      have hw1 : wrap64 ((i : Int) + 1) = (i : Int) + 1 := by unfold wrap64; omega
      by_cases hlt : i + 1 < X.length
      · have hd : decide ((i : Int) + 1 < (X.length : Int)) = true := decide_eq_true (by omega)
        have hlt1 : i < X.length + 64 := by omega
        have hlt2 : X.length - 2 - i < X.length := by omega
        have hw2 : wrap64 ((X.length : Int) - 2) = (X.length : Int) - 2 := by unfold wrap64; omega
        have hw3 : wrap64 ((X.length : Int) - 2 - (i : Int)) = ((X.length - 2 - i : Nat) : Int) := by unfold wrap64; omega
        have HMS : Aside0 (X.length - (intOf (Value.int IntKind.i64 ((i : Int) + 1))).toNat < X.length - (intOf (Value.int IntKind.i64 (i : Int))).toNat) := ⟨by simp only [intOf]; omega⟩
        obtain ⟨x, hx⟩ : ∃ x, X[X.length - 2 - i]? = some x := ⟨_, List.getElem?_eq_getElem hlt2⟩
        obtain ⟨ad, rfl, x0, x1, x2, x3⟩ := at_T28 HR.out.2.1 ((X.length - 2 - i : Nat) : Int) (by omega) (by omega)
        have hr : rd_T28 X ((X.length - 2 - i : Nat) : Int) = x := by
          rw [rd_at _ _ hlt2]; exact (List.getElem?_eq_some_iff.1 hx).2
        rw [hr, Int.toNat_natCast] at x0 x1 x2 x3
        have hll : (turnd X i ++ tail64).length = X.length + 64 := by rw [List.length_append, turnd_len X i (by omega)]; rfl
        have HST : Aside0 ((turnd X i ++ tail64).set i x = turnd X (i + 1) ++ tail64 ∧ i < (turnd X i ++ tail64).length) := ⟨by
          rw [List.set_append_left _ _ (by rw [turnd_len X i (by omega)]; omega), turnd_step X i hlt x hx], by rw [hll]; omega⟩
        obtain ⟨y, hy⟩ : ∃ y, (turnd X i ++ tail64)[i]? = some y := ⟨_, List.getElem?_eq_getElem (by rw [hll]; omega)⟩
        obtain ⟨cur, hb, _, hcur⟩ := HR.out.2.2.1
        obtain ⟨c0, c1, c2, c3⟩ := hcur i y hy
        have e0 : wr.cell? ⟨g, i * 4, none⟩ = some (.int .i64 y.f0) := by rw [blk_cell hb]; exact c0
        have e1 : wr.cell? ⟨g, i * 4 + 1, none⟩ = some (.string y.f1) := by rw [blk_cell hb]; exact c1
        have e2 : wr.cell? ⟨g, i * 4 + 2, none⟩ = some (.int .i64 y.f2) := by rw [blk_cell hb]; exact c2
        have e3 : wr.cell? ⟨g, i * 4 + 3, none⟩ = some (.int .i64 y.f3) := by rw [blk_cell hb]; exact c3
        have f0 : ∀ o, wr.frozen? ⟨g, o, none⟩ = false := fun o => blk_frozen hb o
        clear hb hcur c0 c1 c2 c3 hy hr hll hx
        go_wp2_with fail
        have HON : Only g wr ((((wr.setCell ⟨g, i * 4, none⟩ (.int .i64 x.f0)).setCell ⟨g, i * 4 + 1, none⟩ (.string x.f1)).setCell ⟨g, i * 4 + 2, none⟩ (.int .i64 x.f2)).setCell ⟨g, i * 4 + 3, none⟩ (.int .i64 x.f3)) := ((((Only.refl g wr).set _ _).set _ _).set _ _).set _ _
        have hbw := HR.out.1.trans (HON.below HR.out.2.2.2 HR.out.1.size)
        refine ⟨⟨i + 1, by go_num, .inr (by omega), ⟨hbw, HKEEP.out _ hbw, ?_, HR.out.2.2.2⟩⟩, HMS.out⟩
        have := HR.out.2.2.1.put i HST.out.2 x
        rw [HST.out.1] at this
        exact this
      · have hd : decide ((i : Int) + 1 < (X.length : Int)) = false := decide_eq_false (by omega)
        have HP : Aside0 (∀ W, PEnv W → Own42 W g (turnd X i ++ tail64) → Calls Tryz.prog 7 #[.slice (some ⟨g, 0, none⟩) (X.length + 64) c3, .int .i64 (X.length : Int)] W fun e w' => e = .returned (.bool true) ∧ Below W.heap.size W w') := ⟨fun W EW hO => by
          obtain rfl : i = X.length - 1 := by omega
          have hl2 := turnd_len X (X.length - 1) (Nat.le_refl _)
          have hc2 := hO.C
          have hll : (turnd X (X.length - 1) ++ tail64).length = X.length + 64 := by rw [List.length_append, hl2]; rfl
          rw [hll] at hc2
          have := printed_calls (turnd X (X.length - 1)) (turnd_bd HBD.out) ⟨g, 0, none⟩ c3 W EW (by rw [hl2]; exact hc2) (by rw [hl2]; exact HC3.out)
          rw [hl2] at this
          exact this⟩
        clear hi hlt
        go_wp2_with (first
          | (go_at_call 7; refine (HP.out _ (HE.out.below HR.out.1) HR.out.2.2.1).mono ?_; rintro e w8 ⟨rfl, hb⟩; replace HR := Aside0.mk (below_then HR.out.1 HR.out.1.size hb); clear hb)
          | (go_at_call 8; refine (known_calls _ (HE.out.below HR.out).E).mono ?_; rintro e w9 ⟨rfl, hb⟩; replace HR := Aside0.mk (below_then HR.out HR.out.size hb); clear hb))
        go_ret
        exact ⟨rfl, HR.out⟩
end Go.Proofs.YtjibdaigclgmhaaGreatDoor.LexW
