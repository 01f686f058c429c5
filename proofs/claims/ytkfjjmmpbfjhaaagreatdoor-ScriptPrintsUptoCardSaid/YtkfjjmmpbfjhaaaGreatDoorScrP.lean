/- kilnref24.PrintAct and Same, walked; samePlay in plain words. Conditions: those that each theorem states. -/
import Derived.Test.YtkfjjmmpbfjhaaaGreatDoorScrO
namespace Go.Proofs.YtkfjjmmpbfjhaaaGreatDoor.Tells
open Go.RowKit Go.Proofs.YtkfjjmmpbfjhaaaGreatDoor.Facts Go.Proofs.YtkfjjmmpbfjhaaaGreatDoor.PScriptActs Go.Proofs.YtkfjjmmpbfjhaaaGreatDoorW.PrintWords Go.Proofs.YtkfjjmmpbfjhaaaGreatDoorW.PrintLast Go.Proofs.YtkfjjmmpbfjhaaaGreatDoorW.PrintMore
attribute [local go_sem] max2_int min2_int max_two min_two max_three min_three max_four min_four
set_option linter.unusedVariables false
set_option linter.unusedSimpArgs false
theorem sameNames_l0 (X Y : List ByteArray) (hl : X.length = Y.length) (hb : X.length ≤ 1073741824) : ∀ (k i : Nat), i ≤ X.length → X.length - i < k → kilnref24_sameNames.l0 k X Y (i : Int) = some (decide (X.drop i = Y.drop i))
  | 0, i, hi, hk => by omega
  | k + 1, i, hi, hk => by
    rw [kilnref24_sameNames.l0]
    by_cases h : i < X.length
    · have hx : X.drop i = X[i] :: X.drop (i + 1) := List.drop_eq_getElem_cons h
      have hy : Y.drop i = Y[i]'(by omega) :: Y.drop (i + 1) := List.drop_eq_getElem_cons (by omega)
      have rx : rdOf ByteArray.empty X (i : Int) = X[i] := by unfold rdOf; rw [Int.toNat_natCast, List.getD_eq_getElem?_getD, List.getElem?_eq_getElem h]; rfl
      have ry : rdOf ByteArray.empty Y (i : Int) = Y[i]'(by omega) := by unfold rdOf; rw [Int.toNat_natCast, List.getD_eq_getElem?_getD, List.getElem?_eq_getElem (by omega)]; rfl
      have w4 : wrap64 ((i : Int) + 1) = ((i + 1 : Nat) : Int) := by unfold wrap64; omega
      rw [if_pos (by omega), if_pos (by omega), if_pos (by omega), rx, ry, w4, hx, hy]
      by_cases he : X[i] = Y[i]'(by omega)
      · rw [if_pos (by rw [he]), sameNames_l0 X Y hl hb k (i + 1) (by omega) (by omega)]
        congr 1
        apply decide_eq_decide.2
        constructor
        · intro h2; rw [he, h2]
        · intro h2; exact (List.cons.inj h2).2
      · rw [if_neg (by rw [ByteArray.toList_eq, ByteArray.toList_eq]; intro h2; exact he (by apply ByteArray.ext; exact Array.toList_inj.1 h2))]
        rw [decide_eq_false (fun h2 => he (List.cons.inj h2).1)]
    · rw [if_neg (by omega), List.drop_of_length_le (by omega), List.drop_of_length_le (by omega)]
      rfl
theorem sameNames_f (X Y : List ByteArray) (hb : X.length ≤ 1073741824) : kilnref24_sameNames.f (X.length + 1) X Y = some (decide (X = Y)) := by
  unfold kilnref24_sameNames.f
  by_cases h : X.length = Y.length
  · rw [if_pos (by omega)]
    have := sameNames_l0 X Y h hb (X.length + 1) 0 (Nat.zero_le _) (by omega)
    rw [List.drop_zero, List.drop_zero] at this
    exact this
  · rw [if_neg (by omega), decide_eq_false (fun e => h (by rw [e]))]
theorem sameR_f (a b : S31) (hb : a.f3.length ≤ 1073741824) : kilnref24_Same.f (a.f3.length + 1) a.f0 a.f1 a.f2 a.f3 a.f4 a.f5 a.f6 b.f0 b.f1 b.f2 b.f3 b.f4 b.f5 b.f6 = some (sameA a b) := by
  unfold kilnref24_Same.f sameA
  by_cases h0 : a.f0 = b.f0
  · rw [if_pos h0, decide_eq_true h0, Bool.true_and]
    by_cases h1 : a.f1 = b.f1
    · rw [if_pos (ba_toList.2 h1), decide_eq_true h1, Bool.true_and]
      by_cases h2 : a.f2 = b.f2
      · rw [if_pos (ba_toList.2 h2), decide_eq_true h2, Bool.true_and]
        by_cases h4 : a.f4 = b.f4
        · rw [if_pos (ba_toList.2 h4), decide_eq_true h4, Bool.true_and]
          by_cases h5 : a.f5 = b.f5
          · rw [if_pos h5, decide_eq_true h5, Bool.true_and]
            by_cases h6 : a.f6 = b.f6
            · rw [if_pos h6, decide_eq_true h6, Bool.true_and, sameNames_f _ _ hb]; rfl
            · rw [if_neg h6, decide_eq_false h6]; rfl
          · rw [if_neg h5, decide_eq_false h5]; rfl
        · rw [if_neg (fun h => h4 (ba_toList.1 h)), decide_eq_false h4]; rfl
      · rw [if_neg (fun h => h2 (ba_toList.1 h)), decide_eq_false h2]; rfl
    · rw [if_neg (fun h => h1 (ba_toList.1 h)), decide_eq_false h1]; rfl
  · rw [if_neg h0, decide_eq_false h0]; rfl
theorem sameR_calls (a b : S31) (A B : Option Addr) (c d : Nat) (w : World) (hA : Kd.C Kd.string w A a.f3.length a.f3) (hc : a.f3.length ≤ c) (hB : Kd.C Kd.string w B b.f3.length b.f3) (hd : b.f3.length ≤ d) (hb : a.f3.length ≤ 1073741824) : Calls Tryz.prog 28 #[actV a A c, actV b B d] w fun e w' => e = .returned (.bool (sameA a b)) ∧ Below w.heap.size w w' :=
  kilnref24_Same.calls (a.f3.length + 1) a.f0 a.f1 a.f2 A c a.f3 a.f4 a.f5 a.f6 b.f0 b.f1 b.f2 B d b.f3 b.f4 b.f5 b.f6 (sameA a b) w hA hc hB hd (sameR_f a b hb)
theorem sameA_iff (a b : S31) : sameA a b = true ↔ a = b := by
  unfold sameA
  constructor
  · intro h
    simp only [Bool.and_eq_true, decide_eq_true_eq] at h
    obtain ⟨h0, h1, h2, h4, h5, h6, h3⟩ := h
    cases a; cases b; simp_all
  · rintro rfl; simp
instance : DecidableEq S31 := fun a b => decidable_of_iff (sameA a b = true) (sameA_iff a b)
theorem samePlay_l0 (p0 p1 q0 q1 : Int) (X Y : List S31) (hl : X.length = Y.length) (hb : X.length ≤ 1073741824) (hn : ∀ a ∈ X, a.f3.length ≤ 1048576) : ∀ (k i : Nat), i ≤ X.length → X.length - i + 1048580 < k → kilnlaw24_samePlay.l0 k (i : Int) p0 p1 X q0 q1 Y = some (decide (X.drop i = Y.drop i))
  | 0, i, hi, hk => by omega
  | k + 1, i, hi, hk => by
    rw [kilnlaw24_samePlay.l0]
    by_cases h : i < X.length
    · have hx : X.drop i = X[i] :: X.drop (i + 1) := List.drop_eq_getElem_cons h
      have hy : Y.drop i = Y[i]'(by omega) :: Y.drop (i + 1) := List.drop_eq_getElem_cons (by omega)
      have rx : rd_T31 X (i : Int) = X[i] := by unfold rd_T31; first | (rw [Int.toNat_natCast, List.getD_eq_getElem?_getD, List.getElem?_eq_getElem h]; rfl) | (unfold rdOf; rw [Int.toNat_natCast, List.getD_eq_getElem?_getD, List.getElem?_eq_getElem h]; rfl)
      have ry : rd_T31 Y (i : Int) = Y[i]'(by omega) := by unfold rd_T31; first | (rw [Int.toNat_natCast, List.getD_eq_getElem?_getD, List.getElem?_eq_getElem (by omega)]; rfl) | (unfold rdOf; rw [Int.toNat_natCast, List.getD_eq_getElem?_getD, List.getElem?_eq_getElem (by omega)]; rfl)
      have w4 : wrap64 ((i : Int) + 1) = ((i + 1 : Nat) : Int) := by unfold wrap64; omega
      have hna := hn X[i] (List.getElem_mem h)
      have hs := at_rounds (fun k => kilnref24_Same.mono X[i].f0 X[i].f1 X[i].f2 X[i].f3 X[i].f4 X[i].f5 X[i].f6 (Y[i]'(by omega)).f0 (Y[i]'(by omega)).f1 (Y[i]'(by omega)).f2 (Y[i]'(by omega)).f3 (Y[i]'(by omega)).f4 (Y[i]'(by omega)).f5 (Y[i]'(by omega)).f6 k) (show X[i].f3.length + 1 ≤ k by omega) (sameR_f X[i] (Y[i]'(by omega)) (by omega))
      rw [if_pos (by omega), if_pos (by omega), if_pos (by omega), rx, ry, w4, hx, hy, hs, Option.bind_some]
      by_cases he : X[i] = Y[i]'(by omega)
      · rw [if_pos ((sameA_iff _ _).2 he), samePlay_l0 p0 p1 q0 q1 X Y hl hb hn k (i + 1) (by omega) (by omega)]
        congr 1
        apply decide_eq_decide.2
        constructor
        · intro h2; rw [he, h2]
        · intro h2; exact (List.cons.inj h2).2
      · rw [if_neg (fun h2 => he ((sameA_iff _ _).1 h2)), decide_eq_false (fun h2 => he (List.cons.inj h2).1)]
    · rw [if_neg (by omega), List.drop_of_length_le (by omega), List.drop_of_length_le (by omega)]
      rfl
/-- are two plays the same? -/
def sameP (p0 p1 : Int) (X : List S31) (q0 q1 : Int) (Y : List S31) : Bool := decide (p0 = q0) && (decide (p1 = q1) && decide (X = Y))
theorem samePlay_f (p0 p1 q0 q1 : Int) (X Y : List S31) (hb : X.length ≤ 1073741824) (hn : ∀ a ∈ X, a.f3.length ≤ 1048576) : kilnlaw24_samePlay.f (X.length + 1048582) p0 p1 X q0 q1 Y = some (sameP p0 p1 X q0 q1 Y) := by
  unfold kilnlaw24_samePlay.f sameP
  have ht : ∀ k, kilnlaw24_samePlay.j0 (k + 1) true p0 p1 X q0 q1 Y = some false := fun k => by rw [kilnlaw24_samePlay.j0]; rfl
  by_cases h0 : p0 = q0
  · rw [if_pos h0, decide_eq_true h0, Bool.true_and]
    by_cases h1 : p1 = q1
    · rw [if_pos h1, decide_eq_true h1, Bool.true_and]
      by_cases hl : X.length = Y.length
      · have e : ((X.length : Int) != (Y.length : Int)) = false := by rw [hl]; simp
        rw [e, kilnlaw24_samePlay.j0, if_neg (by decide)]
        have := samePlay_l0 p0 p1 q0 q1 X Y hl hb hn (X.length + 1048581) 0 (Nat.zero_le _) (by omega)
        rw [List.drop_zero, List.drop_zero] at this
        exact this
      · have e : ((X.length : Int) != (Y.length : Int)) = true := by simp; omega
        rw [e, ht, decide_eq_false (fun e => hl (by rw [e]))]
    · rw [if_neg h1, decide_eq_false h1, ht]; rfl
  · rw [if_neg h0, decide_eq_false h0, ht]; rfl
theorem samePlay_calls (p0 p1 q0 q1 : Int) (X Y : List S31) (A B : Option Addr) (c d : Nat) (w : World) (hA : Kd.C k31 w A X.length X) (hc : X.length ≤ c) (hB : Kd.C k31 w B Y.length Y) (hd : Y.length ≤ d) (hb : X.length ≤ 1073741824) (hn : ∀ a ∈ X, a.f3.length ≤ 1048576) : Calls Tryz.prog 18 #[.agg #[.int .i64 p0, .int .i64 p1, .slice A X.length c], .agg #[.int .i64 q0, .int .i64 q1, .slice B Y.length d]] w fun e w' => e = .returned (.bool (sameP p0 p1 X q0 q1 Y)) ∧ Below w.heap.size w w' :=
  kilnlaw24_samePlay.calls (X.length + 1048582) p0 p1 A c X q0 q1 B d Y _ w hA hc hB hd (samePlay_f p0 p1 q0 q1 X Y hb hn)
set_option maxHeartbeats 4000000 in
set_option maxRecDepth 100000 in
theorem refPrintAct_calls (a : S31) (ha : Aok a) (A : Option Addr) (c : Nat) (w : World) (E : Env w) (hC : Kd.C Kd.string w A a.f3.length a.f3) (hc : a.f3.length ≤ c) (o : Value) (ho : Aside0 (o = .tuple #[.string (printA a).1, .int .i64 (printA a).2])) : Calls Tryz.prog 10 #[actV a A c] w fun e w' => e = .returned o ∧ Below w.heap.size w w' := by
  have HA := Aside0.mk ha
  have HE := Aside0.mk E
  have HC := Aside0.mk (And.intro hC hc)
  have hcnt := ha.count
  have hki := ha.kind
  unfold actV
  clear ha E hC hc
  have hb : Below w.heap.size w (w.alloc (.cells (boxC a A c) 31 (0, 0))) := below_alloc (Below.refl _ _) _
  have hbx := blk_new w (.cells (boxC a A c) 31 (0, 0))
  have HBX : Aside0 ((w.alloc (.cells (boxC a A c) 31 (0, 0))).heap[w.heap.size]? = some (.cells (boxC a A c) 31 (0, 0)) ∧ Below w.heap.size w (w.alloc (.cells (boxC a A c) 31 (0, 0)))) := ⟨hbx, hb⟩
  clear hb hbx
  by_cases hlo : a.f0 < 1
  · have b0 : decide (a.f0 < 1) = true := decide_eq_true hlo
    have HO : Aside0 (o = .tuple #[.string ⟨#[]⟩, .int .i64 242]) := ⟨by rw [ho.out]; unfold printA; rw [if_neg (by omega)]⟩
    clear hlo
    go_enter Tryz.func10, Tryz.ntmps10
    go_wp2_with fail
    go_ret2
    exact ⟨by rw [HO.out]; rfl, HBX.out.2⟩
  · by_cases hhi : 12 < a.f0
    · have b0 : decide (a.f0 < 1) = false := decide_eq_false hlo
      have b1 : decide (12 < a.f0) = true := decide_eq_true hhi
      have HO : Aside0 (o = .tuple #[.string ⟨#[]⟩, .int .i64 242]) := ⟨by rw [ho.out]; unfold printA; rw [if_neg (by omega)]⟩
      clear hlo hhi
      go_enter Tryz.func10, Tryz.ntmps10
      go_wp2_with fail
      go_ret2
      exact ⟨by rw [HO.out]; rfl, HBX.out.2⟩
    · have b0 : decide (a.f0 < 1) = false := decide_eq_false hlo
      have b1 : decide (12 < a.f0) = false := decide_eq_false hhi
      have HK : Aside0 (1 ≤ a.f0 ∧ a.f0 ≤ 12) := ⟨by omega⟩
      have HP : Aside0 (printA a = if sameA a (only a) = true then (if 262144 < (lineL a).length then (⟨#[]⟩, 241) else (⟨(lineL a).toArray⟩, 0)) else (⟨#[]⟩, 245)) := ⟨by unfold printA; rw [if_pos HK.out]⟩
      clear hlo hhi hki
      go_enter Tryz.func10, Tryz.ntmps10
      go_wp2_with fail
      refine (line_calls a HA.out HK.out A c _ (by exact HE.out.below HBX.out.2) (by exact Kd.C_below HC.out.1 HBX.out.2) HC.out.2).mono ?_; rintro e w1 ⟨s, A1, c1, rfl, hC1, hc1, hor, hb1⟩
      have HB1 : Aside0 ((w1.heap[w.heap.size]? = some (.cells (boxC a A c) 31 (0, 0)) ∧ Below w.heap.size w w1) ∧ ∀ o2, (w1.alloc o2).heap[w.heap.size]? = some (.cells (boxC a A c) 31 (0, 0))) := ⟨by
        have h1 : w1.heap[w.heap.size]? = some (.cells (boxC a A c) 31 (0, 0)) := (hb1.block _ (by simp)).trans HBX.out.1
        exact ⟨⟨h1, below_then HBX.out.2 HBX.out.2.size hb1⟩, fun o2 => ((below_alloc (Below.refl _ _) o2).block _ (blk_lt h1)).trans h1⟩⟩
      have HC1 := Aside0.mk (And.intro hC1 hc1)
      have HOR := Aside0.mk hor
      have k0 : ∀ o2, (w1.alloc o2).cell? ⟨w.heap.size, 0, none⟩ = some (.int .i64 a.f0) := fun o2 => by rw [blk_cell (HB1.out.2 o2)]; rfl
      have k1 : ∀ o2, (w1.alloc o2).cell? ⟨w.heap.size, 1, none⟩ = some (.string a.f1) := fun o2 => by rw [blk_cell (HB1.out.2 o2)]; rfl
      have k2 : ∀ o2, (w1.alloc o2).cell? ⟨w.heap.size, 2, none⟩ = some (.string a.f2) := fun o2 => by rw [blk_cell (HB1.out.2 o2)]; rfl
      have k3 : ∀ o2, (w1.alloc o2).cell? ⟨w.heap.size, 3, none⟩ = some (.slice A a.f3.length c) := fun o2 => by rw [blk_cell (HB1.out.2 o2)]; rfl
      have k4 : ∀ o2, (w1.alloc o2).cell? ⟨w.heap.size, 4, none⟩ = some (.string a.f4) := fun o2 => by rw [blk_cell (HB1.out.2 o2)]; rfl
      have k5 : ∀ o2, (w1.alloc o2).cell? ⟨w.heap.size, 5, none⟩ = some (.int .i64 a.f5) := fun o2 => by rw [blk_cell (HB1.out.2 o2)]; rfl
      have k6 : ∀ o2, (w1.alloc o2).cell? ⟨w.heap.size, 6, none⟩ = some (.int .i64 a.f6) := fun o2 => by rw [blk_cell (HB1.out.2 o2)]; rfl
      unfold actV
      clear hC1 hc1 hor hb1
      go_wp2_with fail
      have HCW : Aside0 (∀ o2, Kd.C Kd.string (w1.alloc o2) A a.f3.length a.f3 ∧ Kd.C Kd.string (w1.alloc o2) A1 (only a).f3.length (only a).f3 ∧ Below w.heap.size w (w1.alloc o2) ∧ w.heap.size ≤ (w1.alloc o2).heap.size) := ⟨fun o2 => by
        have hb := below_alloc (Below.refl w1.heap.size w1) o2
        have hbw := below_then HB1.out.1.2 HB1.out.1.2.size hb
        exact ⟨Kd.C_below HC.out.1 hbw, Kd.C_below HC1.out.1 hb, hbw, hbw.size⟩⟩
      refine (sameR_calls a (only a) A A1 c c1 _ (HCW.out _).1 HC.out.2 (HCW.out _).2.1 HC1.out.2 (by omega)).mono ?_; rintro e w2 ⟨rfl, hb2⟩
      have HB2 : Aside0 (Below w.heap.size w w2) := ⟨below_then (HCW.out _).2.2.1 (HCW.out _).2.2.2 hb2⟩
      have HSZ : Aside0 (s.data.toList.length = s.size) := ⟨bl_len s⟩
      have HPA : Aside0 (∀ b, sameA a (only a) = b → (b = false → o = .tuple #[.string ⟨#[]⟩, .int .i64 245]) ∧ (b = true → 262144 < s.size → o = .tuple #[.string ⟨#[]⟩, .int .i64 241]) ∧ (b = true → ¬ 262144 < s.size → o = .tuple #[.string s, .int .i64 0])) := ⟨fun b hb => by
        have e1 := HP.out
        rw [hb] at e1
        refine ⟨fun h => ?_, fun h h2 => ?_, fun h h2 => ?_⟩
        · rw [ho.out, e1, h]; rfl
        · have : 262144 < (lineL a).length := by
            rcases HOR.out with h3 | h3
            · rw [← h3, HSZ.out]; exact h2
            · exact h3.2
          rw [ho.out, e1, h, if_pos rfl, if_pos this]
        · rcases HOR.out with h3 | h3
          · have : ¬ 262144 < (lineL a).length := by rw [← h3, HSZ.out]; exact h2
            rw [ho.out, e1, h, if_pos rfl, if_neg this, ← h3]
          · exact absurd h3.1 h2⟩
      obtain ⟨b, hb⟩ : ∃ b, sameA a (only a) = b := ⟨_, rfl⟩
      rw [hb]
      have HPB := Aside0.mk (HPA.out b hb)
      clear hb hb2 HPA
      cases b with
      | false =>
        go_wp2_with fail
        go_ret2
        exact ⟨by rw [HPB.out.1 (by trivial)]; rfl, HB2.out⟩
      | true =>
        by_cases hbig : 262144 < s.size
        · have b2 : decide ((262144 : Int) < (s.size : Int)) = true := decide_eq_true (by omega)
          have b3 : (262144 < s.size) = True := eq_true hbig
          have b4 : decide (262144 < s.size) = true := decide_eq_true hbig
          have HO := Aside0.mk (HPB.out.2.1 (by trivial) hbig)
          clear hbig
          go_wp2_with fail
          go_ret2
          exact ⟨by rw [HO.out]; rfl, HB2.out⟩
        · have b2 : decide ((262144 : Int) < (s.size : Int)) = false := decide_eq_false (by omega)
          have b3 : (262144 < s.size) = False := eq_false hbig
          have b4 : decide (262144 < s.size) = false := decide_eq_false hbig
          have HO := Aside0.mk (HPB.out.2.2 (by trivial) hbig)
          clear hbig
          go_wp2_with fail
          go_ret2
          exact ⟨by rw [HO.out]; rfl, HB2.out⟩
end Go.Proofs.YtkfjjmmpbfjhaaaGreatDoor.Tells
