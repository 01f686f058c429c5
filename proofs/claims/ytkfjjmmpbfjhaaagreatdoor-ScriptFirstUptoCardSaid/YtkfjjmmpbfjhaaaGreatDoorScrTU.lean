/- kilnref24.PrintAct and Same, walked; samePlay in plain words. kilnlaw24.hand, walked: a play with marks behind its lists. kilnlaw24's left: all that was handed over is as it was, walked. The law of ScriptActs, walked. script.Print and kilnref24.Print, walked; a play's text in plain words. kilnlaw24.turned and the law of ScriptPrints, walked. Conditions: those that each theorem states. -/
import Derived.Test.YtkfjjmmpbfjhaaaGreatDoorScrO
namespace Go.Proofs.YtkfjjmmpbfjhaaaGreatDoor.Tells
open Go.RowKit Go.Proofs.YtkfjjmmpbfjhaaaGreatDoor.Facts Go.Proofs.YtkfjjmmpbfjhaaaGreatDoor.PScriptActs Go.Proofs.YtkfjjmmpbfjhaaaGreatDoorW.PrintWords Go.Proofs.YtkfjjmmpbfjhaaaGreatDoorW.PrintLast Go.Proofs.YtkfjjmmpbfjhaaaGreatDoorW.PrintMore
attribute [local go_sem] max2_int min2_int max_two min_two max_three min_three max_four min_four
set_option linter.unusedVariables false
set_option linter.unusedSimpArgs false
theorem sameNames_l0 (X Y : List ByteArray) (hl : X.length = Y.length) (hb : X.length ≤ 1073741824) : ∀ (k i : Nat), i ≤ X.length → X.length - i < k → kilnref24_sameNames.l0 k X Y (i : Int) = some (decide (X.drop i = Y.drop i))
  | 0, i, hi, hk => by omega
  | k + 1, i, hi, hk => by
    rw [kilnref24_sameNames.l0]
    by_cases h : i < X.length
    · have hx : X.drop i = X[i] :: X.drop (i + 1) := List.drop_eq_getElem_cons h
      have hy : Y.drop i = Y[i]'(by omega) :: Y.drop (i + 1) := List.drop_eq_getElem_cons (by omega)
      have rx : rdOf ByteArray.empty X (i : Int) = X[i] := by unfold rdOf; rw [Int.toNat_natCast, List.getD_eq_getElem?_getD, List.getElem?_eq_getElem h]; rfl
      have ry : rdOf ByteArray.empty Y (i : Int) = Y[i]'(by omega) := by unfold rdOf; rw [Int.toNat_natCast, List.getD_eq_getElem?_getD, List.getElem?_eq_getElem (by omega)]; rfl
      have w4 : wrap64 ((i : Int) + 1) = ((i + 1 : Nat) : Int) := by unfold wrap64; omega
      rw [if_pos (by omega), if_pos (by omega), if_pos (by omega), rx, ry, w4, hx, hy]
      by_cases he : X[i] = Y[i]'(by omega)
      · rw [if_pos (by rw [he]), sameNames_l0 X Y hl hb k (i + 1) (by omega) (by omega)]
        congr 1
        apply decide_eq_decide.2
        constructor
        · intro h2; rw [he, h2]
        · intro h2; exact (List.cons.inj h2).2
      · rw [if_neg (by rw [ByteArray.toList_eq, ByteArray.toList_eq]; intro h2; exact he (by apply ByteArray.ext; exact Array.toList_inj.1 h2))]
        rw [decide_eq_false (fun h2 => he (List.cons.inj h2).1)]
    · rw [if_neg (by omega), List.drop_of_length_le (by omega), List.drop_of_length_le (by omega)]
      rfl
theorem sameNames_f (X Y : List ByteArray) (hb : X.length ≤ 1073741824) : kilnref24_sameNames.f (X.length + 1) X Y = some (decide (X = Y)) := by
  unfold kilnref24_sameNames.f
  by_cases h : X.length = Y.length
  · rw [if_pos (by omega)]
    have := sameNames_l0 X Y h hb (X.length + 1) 0 (Nat.zero_le _) (by omega)
    rw [List.drop_zero, List.drop_zero] at this
    exact this
  · rw [if_neg (by omega), decide_eq_false (fun e => h (by rw [e]))]
theorem sameR_f (a b : S31) (hb : a.f3.length ≤ 1073741824) : kilnref24_Same.f (a.f3.length + 1) a.f0 a.f1 a.f2 a.f3 a.f4 a.f5 a.f6 b.f0 b.f1 b.f2 b.f3 b.f4 b.f5 b.f6 = some (sameA a b) := by
  unfold kilnref24_Same.f sameA
  by_cases h0 : a.f0 = b.f0
  · rw [if_pos h0, decide_eq_true h0, Bool.true_and]
    by_cases h1 : a.f1 = b.f1
    · rw [if_pos (ba_toList.2 h1), decide_eq_true h1, Bool.true_and]
      by_cases h2 : a.f2 = b.f2
      · rw [if_pos (ba_toList.2 h2), decide_eq_true h2, Bool.true_and]
        by_cases h4 : a.f4 = b.f4
        · rw [if_pos (ba_toList.2 h4), decide_eq_true h4, Bool.true_and]
          by_cases h5 : a.f5 = b.f5
          · rw [if_pos h5, decide_eq_true h5, Bool.true_and]
            by_cases h6 : a.f6 = b.f6
            · rw [if_pos h6, decide_eq_true h6, Bool.true_and, sameNames_f _ _ hb]; rfl
            · rw [if_neg h6, decide_eq_false h6]; rfl
          · rw [if_neg h5, decide_eq_false h5]; rfl
        · rw [if_neg (fun h => h4 (ba_toList.1 h)), decide_eq_false h4]; rfl
      · rw [if_neg (fun h => h2 (ba_toList.1 h)), decide_eq_false h2]; rfl
    · rw [if_neg (fun h => h1 (ba_toList.1 h)), decide_eq_false h1]; rfl
  · rw [if_neg h0, decide_eq_false h0]; rfl
theorem sameA_iff (a b : S31) : sameA a b = true ↔ a = b := by
  unfold sameA
  constructor
  · intro h
    simp only [Bool.and_eq_true, decide_eq_true_eq] at h
    obtain ⟨h0, h1, h2, h4, h5, h6, h3⟩ := h
    cases a; cases b; simp_all
  · rintro rfl; simp
instance : DecidableEq S31 := fun a b => decidable_of_iff (sameA a b = true) (sameA_iff a b)
theorem samePlay_l0 (p0 p1 q0 q1 : Int) (X Y : List S31) (hl : X.length = Y.length) (hb : X.length ≤ 1073741824) (hn : ∀ a ∈ X, a.f3.length ≤ 1048576) : ∀ (k i : Nat), i ≤ X.length → X.length - i + 1048580 < k → kilnlaw24_samePlay.l0 k (i : Int) p0 p1 X q0 q1 Y = some (decide (X.drop i = Y.drop i))
  | 0, i, hi, hk => by omega
  | k + 1, i, hi, hk => by
    rw [kilnlaw24_samePlay.l0]
    by_cases h : i < X.length
    · have hx : X.drop i = X[i] :: X.drop (i + 1) := List.drop_eq_getElem_cons h
      have hy : Y.drop i = Y[i]'(by omega) :: Y.drop (i + 1) := List.drop_eq_getElem_cons (by omega)
      have rx : rd_T31 X (i : Int) = X[i] := by unfold rd_T31; first | (rw [Int.toNat_natCast, List.getD_eq_getElem?_getD, List.getElem?_eq_getElem h]; rfl) | (unfold rdOf; rw [Int.toNat_natCast, List.getD_eq_getElem?_getD, List.getElem?_eq_getElem h]; rfl)
      have ry : rd_T31 Y (i : Int) = Y[i]'(by omega) := by unfold rd_T31; first | (rw [Int.toNat_natCast, List.getD_eq_getElem?_getD, List.getElem?_eq_getElem (by omega)]; rfl) | (unfold rdOf; rw [Int.toNat_natCast, List.getD_eq_getElem?_getD, List.getElem?_eq_getElem (by omega)]; rfl)
      have w4 : wrap64 ((i : Int) + 1) = ((i + 1 : Nat) : Int) := by unfold wrap64; omega
      have hna := hn X[i] (List.getElem_mem h)
      have hs := at_rounds (fun k => kilnref24_Same.mono X[i].f0 X[i].f1 X[i].f2 X[i].f3 X[i].f4 X[i].f5 X[i].f6 (Y[i]'(by omega)).f0 (Y[i]'(by omega)).f1 (Y[i]'(by omega)).f2 (Y[i]'(by omega)).f3 (Y[i]'(by omega)).f4 (Y[i]'(by omega)).f5 (Y[i]'(by omega)).f6 k) (show X[i].f3.length + 1 ≤ k by omega) (sameR_f X[i] (Y[i]'(by omega)) (by omega))
      rw [if_pos (by omega), if_pos (by omega), if_pos (by omega), rx, ry, w4, hx, hy, hs, Option.bind_some]
      by_cases he : X[i] = Y[i]'(by omega)
      · rw [if_pos ((sameA_iff _ _).2 he), samePlay_l0 p0 p1 q0 q1 X Y hl hb hn k (i + 1) (by omega) (by omega)]
        congr 1
        apply decide_eq_decide.2
        constructor
        · intro h2; rw [he, h2]
        · intro h2; exact (List.cons.inj h2).2
      · rw [if_neg (fun h2 => he ((sameA_iff _ _).1 h2)), decide_eq_false (fun h2 => he (List.cons.inj h2).1)]
    · rw [if_neg (by omega), List.drop_of_length_le (by omega), List.drop_of_length_le (by omega)]
      rfl
/-- are two plays the same? -/
def sameP (p0 p1 : Int) (X : List S31) (q0 q1 : Int) (Y : List S31) : Bool := decide (p0 = q0) && (decide (p1 = q1) && decide (X = Y))
theorem samePlay_f (p0 p1 q0 q1 : Int) (X Y : List S31) (hb : X.length ≤ 1073741824) (hn : ∀ a ∈ X, a.f3.length ≤ 1048576) : kilnlaw24_samePlay.f (X.length + 1048582) p0 p1 X q0 q1 Y = some (sameP p0 p1 X q0 q1 Y) := by
  unfold kilnlaw24_samePlay.f sameP
  have ht : ∀ k, kilnlaw24_samePlay.j0 (k + 1) true p0 p1 X q0 q1 Y = some false := fun k => by rw [kilnlaw24_samePlay.j0]; rfl
  by_cases h0 : p0 = q0
  · rw [if_pos h0, decide_eq_true h0, Bool.true_and]
    by_cases h1 : p1 = q1
    · rw [if_pos h1, decide_eq_true h1, Bool.true_and]
      by_cases hl : X.length = Y.length
      · have e : ((X.length : Int) != (Y.length : Int)) = false := by rw [hl]; simp
        rw [e, kilnlaw24_samePlay.j0, if_neg (by decide)]
        have := samePlay_l0 p0 p1 q0 q1 X Y hl hb hn (X.length + 1048581) 0 (Nat.zero_le _) (by omega)
        rw [List.drop_zero, List.drop_zero] at this
        exact this
      · have e : ((X.length : Int) != (Y.length : Int)) = true := by simp; omega
        rw [e, ht, decide_eq_false (fun e => hl (by rw [e]))]
    · rw [if_neg h1, decide_eq_false h1, ht]; rfl
  · rw [if_neg h0, decide_eq_false h0, ht]; rfl
theorem samePlay_calls (p0 p1 q0 q1 : Int) (X Y : List S31) (A B : Option Addr) (c d : Nat) (w : World) (hA : Kd.C k31 w A X.length X) (hc : X.length ≤ c) (hB : Kd.C k31 w B Y.length Y) (hd : Y.length ≤ d) (hb : X.length ≤ 1073741824) (hn : ∀ a ∈ X, a.f3.length ≤ 1048576) : Calls Tryz.prog 18 #[.agg #[.int .i64 p0, .int .i64 p1, .slice A X.length c], .agg #[.int .i64 q0, .int .i64 q1, .slice B Y.length d]] w fun e w' => e = .returned (.bool (sameP p0 p1 X q0 q1 Y)) ∧ Below w.heap.size w w' :=
  kilnlaw24_samePlay.calls (X.length + 1048582) p0 p1 A c X q0 q1 B d Y _ w hA hc hB hd (samePlay_f p0 p1 q0 q1 X Y hb hn)
end Go.Proofs.YtkfjjmmpbfjhaaaGreatDoor.Tells
namespace Go.Proofs.YtkfjjmmpbfjhaaaGreatDoor.Tells
open Go.RowKit Go.Proofs.YtkfjjmmpbfjhaaaGreatDoor.Facts Go.Proofs.YtkfjjmmpbfjhaaaGreatDoor.PScriptActs Go.Proofs.YtkfjjmmpbfjhaaaGreatDoorW.PrintWords Go.Proofs.YtkfjjmmpbfjhaaaGreatDoorW.PrintLast Go.Proofs.YtkfjjmmpbfjhaaaGreatDoorW.PrintMore
attribute [local go_sem] max2_int min2_int max_two min_two max_three min_three max_four min_four
set_option linter.unusedVariables false
set_option linter.unusedSimpArgs false
theorem info31z : (Tryz.prog.info? 31).map (fun i => (i.zero, i.size, i.bytes)) = some (some (.agg #[(.int .i64 0), (.string ⟨#[]⟩), (.string ⟨#[]⟩), (.slice none 0 0), (.string ⟨#[]⟩), (.int .i64 0), (.int .i64 0)]), 7, 96) := by kernel_rfl
/-- nothing that was there is written but the blocks of S -/
structure Still (w w' : World) (S : Nat → Prop) : Prop where
  os : w'.os = w.os
  tape : w'.tape = w.tape
  output : w'.output = w.output
  size : w.heap.size ≤ w'.heap.size
  block : ∀ k, k < w.heap.size → ¬ S k → w'.heap[k]? = w.heap[k]?
theorem Still.of {w w' : World} {S : Nat → Prop} (hb : Below w.heap.size w w') : Still w w' S := ⟨hb.os, hb.tape, hb.output, hb.size, fun k hk _ => hb.block k hk⟩
theorem Still.mono {w w' : World} {S S' : Nat → Prop} (h : Still w w' S) (hs : ∀ k, S k → S' k) : Still w w' S' := ⟨h.os, h.tape, h.output, h.size, fun k hk hn => h.block k hk (fun h' => hn (hs k h'))⟩
theorem Still.trans {w w1 w2 : World} {S S' : Nat → Prop} (h : Still w w1 S) (h2 : Still w1 w2 S') (hs : ∀ k, k < w.heap.size → S' k → S k) : Still w w2 S :=
  ⟨h2.os.trans h.os, h2.tape.trans h.tape, h2.output.trans h.output, Nat.le_trans h.size h2.size, fun k hk hn => (h2.block k (Nat.lt_of_lt_of_le hk h.size) (fun h' => hn (hs k hk h'))).trans (h.block k hk hn)⟩
theorem Still.then {w w1 w2 : World} {S : Nat → Prop} (h : Still w w1 S) (hb : Below w1.heap.size w1 w2) : Still w w2 S := h.trans (Still.of (S := S) hb) (fun _ _ h => h)
theorem Still.set {w : World} {S : Nat → Prop} (g i : Nat) (v : Value) (hg : S g) : Still w (w.setCell ⟨g, i, none⟩ v) S :=
  ⟨rfl, rfl, rfl, by simp [World.setCell], fun k hk hn => Below.heap_setCell w _ v k (show k ≠ g from fun e => hn (e ▸ hg))⟩
theorem Still.grown {w w' : World} {S : Nat → Prop} {row : Option Nat} (hg : w.grownBy w' row) (h : ∀ k, row = some k → S k) : Still w w' S :=
  ⟨hg.os, hg.tape, hg.output, hg.size, fun k hk hn => hg.block k hk (fun e => hn (h k e.symm))⟩
theorem Still.below {w w' : World} {S : Nat → Prop} {B : Nat} (h : Still w w' S) (hB : B ≤ w.heap.size) (hs : ∀ k, S k → B ≤ k) : Below B w w' :=
  ⟨h.os, h.tape, h.output, h.size, fun k hk => h.block k (by omega) (fun h' => by have := hs k h'; omega)⟩
theorem Still.blk {w w' : World} {S : Nat → Prop} {g : Nat} {o : Obj} (h : Still w w' S) (hb : w.heap[g]? = some o) (hn : ¬ S g) : w'.heap[g]? = some o := (h.block g (blk_lt hb) hn).trans hb
section
variable {ops : Array Oper} {rest : List Oper} {o : Oper} {a : Act} {Q : Exit → Act → World → Prop} {K : Act → World → Prop}
end
def markB : ByteArray := ⟨#[109, 97, 114, 107]⟩
def twinL (l : List ByteArray) : List ByteArray := l ++ List.replicate 8 markB
theorem twin_len (X : List ByteArray) : (twinL X).length = X.length + 8 := by unfold twinL; rw [List.length_append, List.length_replicate]
def fullC (e : S31 × Nat × Nat) : List Value := [.int .i64 e.1.f0, .string e.1.f1, .string e.1.f2, .slice (some ⟨e.2.1, 0, none⟩) e.1.f3.length e.2.2, .string e.1.f4, .int .i64 e.1.f5, .int .i64 e.1.f6]
def markC : List Value := [.int .i64 77, .string ⟨#[]⟩, .string ⟨#[]⟩, .slice none 0 0, .string ⟨#[]⟩, .int .i64 0, .int .i64 0]
def nameC (e : S31 × Nat × Nat) : List Value := [.slice (some ⟨e.2.1, 0, none⟩) (e.1.f3.length + 8) e.2.2]
/-- a play that is being handed over, as the loops find it -/
structure HandL (w : World) (p0 p1 : Int) (A : Option Addr) (n c : Nat) (vF vN : Value) (fs : List (List Value)) (L : List (S31 × Nat × Nat)) (wr : World) : Prop where
  below : Below w.heap.size w wr
  box : wr.heap[w.heap.size]? = some (.cells #[.int .i64 p0, .int .i64 p1, .slice A n c] 24 (0, 0))
  hb : wr.heap[w.heap.size + 1]? = some (.cells #[.int .i64 p0, .int .i64 p1, .slice A n c, vF, vN] 37 (0, 0))
  F : (Kd.raw 7).R 31 wr w.heap.size (fun _ => True) vF fs
  N : (Kd.raw 1).R 29 wr w.heap.size (fun _ => True) vN (L.map nameC)
  T : ∀ e ∈ L, e.1.f3.length + 8 ≤ e.2.2 ∧ Kd.R Kd.string 9 wr w.heap.size (fun _ => True) (.slice (some ⟨e.2.1, 0, none⟩) (e.1.f3.length + 8) e.2.2) (twinL e.1.f3)
theorem HandL.next {w : World} {p0 p1 : Int} {A : Option Addr} {n c : Nat} {vF vN : Value} {fs : List (List Value)} {L : List (S31 × Nat × Nat)} {wr w2 : World} (h : HandL w p0 p1 A n c vF vN fs L wr) (hb : Below wr.heap.size wr w2) : HandL w p0 p1 A n c vF vN fs L w2 :=
  ⟨below_then h.below h.below.size hb, (hb.block _ (blk_lt h.box)).trans h.box, (hb.block _ (blk_lt h.hb)).trans h.hb, Kd.R_below h.F hb, Kd.R_below h.N hb, fun e he => ⟨(h.T e he).1, Kd.R_below (h.T e he).2 hb⟩⟩
/-- a play that was handed over -/
structure HandAt (W : World) (base g : Nat) (p0 p1 : Int) (n F cF : Nat) (vN : Value) (L : List (S31 × Nat × Nat)) : Prop where
  blk : W.heap[g]? = some (.cells #[.int .i64 p0, .int .i64 p1, .slice (some ⟨F, 0, none⟩) n cF, .slice (some ⟨F, 0, none⟩) (n + 8) cF, vN] 37 (0, 0))
  full : (Kd.raw 7).R 31 W base (fun _ => True) (.slice (some ⟨F, 0, none⟩) (n + 8) cF) (L.map fullC ++ List.replicate 8 markC)
  names : (Kd.raw 1).R 29 W base (fun _ => True) vN (L.map nameC)
  twins : ∀ e ∈ L, e.1.f3.length + 8 ≤ e.2.2 ∧ Kd.R Kd.string 9 W base (fun _ => True) (.slice (some ⟨e.2.1, 0, none⟩) (e.1.f3.length + 8) e.2.2) (twinL e.1.f3)
  len : L.length = n
  room : n + 8 ≤ cF
end Go.Proofs.YtkfjjmmpbfjhaaaGreatDoor.Tells
namespace Go.Proofs.YtkfjjmmpbfjhaaaGreatDoor.Tells
open Go.RowKit Go.Proofs.YtkfjjmmpbfjhaaaGreatDoor.Facts Go.Proofs.YtkfjjmmpbfjhaaaGreatDoor.PScriptActs Go.Proofs.YtkfjjmmpbfjhaaaGreatDoorW.PrintWords Go.Proofs.YtkfjjmmpbfjhaaaGreatDoorW.PrintLast Go.Proofs.YtkfjjmmpbfjhaaaGreatDoorW.PrintMore
attribute [local go_sem] max2_int min2_int max_two min_two max_three min_three max_four min_four
set_option linter.unusedVariables false
set_option linter.unusedSimpArgs false
theorem HandAt.next {W W2 : World} {base g : Nat} {p0 p1 : Int} {n F cF : Nat} {vN : Value} {L : List (S31 × Nat × Nat)} (h : HandAt W base g p0 p1 n F cF vN L) (hb : Below W.heap.size W W2) : HandAt W2 base g p0 p1 n F cF vN L :=
  ⟨(hb.block _ (blk_lt h.blk)).trans h.blk, Kd.R_below h.full hb, Kd.R_below h.names hb, fun e he => ⟨(h.twins e he).1, Kd.R_below (h.twins e he).2 hb⟩, h.len, h.room⟩
/-- elements' cells that are read as acts -/
theorem acts_C {W : World} {A : Option Addr} {n : Nat} {fs : List (List Value)} {acts : List S31} (h : (Kd.raw 7).C W A n fs) (hl : acts.length = fs.length) (hk : ∀ (i : Nat) (a : S31) (f : List Value), acts[i]? = some a → fs[i]? = some f → ∃ A3 c3, f = [.int .i64 a.f0, .string a.f1, .string a.f2, .slice A3 a.f3.length c3, .string a.f4, .int .i64 a.f5, .int .i64 a.f6] ∧ a.f3.length ≤ c3 ∧ Kd.string.C W A3 a.f3.length a.f3) : k31.C W A n acts := by
  refine ⟨hl.trans h.1, h.2.1, fun h0 => ?_⟩
  obtain ⟨ad, e, hc⟩ := h.2.2 h0
  refine ⟨ad, e, fun j p hj => ?_⟩
  have hjl : j < fs.length := by have := (List.getElem?_eq_some_iff.1 hj).1; omega
  obtain ⟨c, hcl, hcr, hcc⟩ := hc j fs[j] (List.getElem?_eq_getElem hjl)
  obtain ⟨A3, c3, ef, hl3, hC3⟩ := hk j p fs[j] hj (List.getElem?_eq_getElem hjl)
  refine ⟨c, hcl, ?_, hcc⟩
  have : c = fs[j] := hcr.1
  rw [this, ef]
  exact k31_mk W p hl3 hC3
theorem twin_C {W : World} {base t cap : Nat} {X : List ByteArray} (h : Kd.R Kd.string 9 W base (fun _ => True) (.slice (some ⟨t, 0, none⟩) (X.length + 8) cap) (twinL X)) : Kd.string.C W (some ⟨t, 0, none⟩) (X.length + 8) (twinL X) ∧ Kd.string.C W (some ⟨t, 0, none⟩) X.length X := by
  obtain ⟨A9, c9, e9, h9, hC9⟩ := Kd.R_reads h
  injection e9 with e1 _ _
  subst e1
  have h2 := Kd.C_take hC9 (m := X.length) (by rw [twin_len]; omega)
  have e : (twinL X).take X.length = X := by unfold twinL; simp
  rw [e] at h2
  rw [twin_len] at hC9
  exact ⟨hC9, h2⟩
theorem HandAt.reads {W : World} {base g : Nat} {p0 p1 : Int} {n F cF : Nat} {vN : Value} {L : List (S31 × Nat × Nat)} (h : HandAt W base g p0 p1 n F cF vN L) : k31.C W (some ⟨F, 0, none⟩) (n + 8) (L.map (·.1) ++ List.replicate 8 (act0 77)) ∧ k31.C W (some ⟨F, 0, none⟩) n (L.map (·.1)) ∧ ∃ AN cN, vN = .slice AN n cN ∧ n ≤ cN ∧ (0 < n → ∃ ad, AN = some ad ∧ ∀ i e, L[i]? = some e → W.cell? (ad.add i) = some (.slice (some ⟨e.2.1, 0, none⟩) (e.1.f3.length + 8) e.2.2) ∧ Kd.C Kd.string W (some ⟨e.2.1, 0, none⟩) (e.1.f3.length + 8) (twinL e.1.f3)) := by
  have hC : k31.C W (some ⟨F, 0, none⟩) (n + 8) (L.map (·.1) ++ List.replicate 8 (act0 77)) := by
    obtain ⟨A9, c9, e9, h9, hC9⟩ := Kd.R_reads h.full
    injection e9 with e1 e2 _
    rw [← e1, ← e2] at hC9
    refine acts_C hC9 (by simp) (fun i a f ha hf => ?_)
    by_cases hi : i < L.length
    · rw [List.getElem?_append_left (by simpa using hi), List.getElem?_map, List.getElem?_eq_getElem hi] at ha hf
      cases ha; cases hf
      have ht := h.twins L[i] (List.getElem_mem hi)
      exact ⟨_, _, rfl, Nat.le_trans (Nat.le_add_right _ 8) ht.1, (twin_C ht.2).2⟩
    · rw [List.getElem?_append_right (by simpa using hi)] at ha hf
      have ha' := List.mem_of_getElem? ha
      have hf' := List.mem_of_getElem? hf
      obtain rfl := (List.mem_replicate.1 ha').2
      obtain rfl := (List.mem_replicate.1 hf').2
      exact ⟨none, 0, rfl, Nat.le_refl _, C_nil _⟩
  refine ⟨hC, ?_, ?_⟩
  · have hl8 : (L.map (fun e : S31 × Nat × Nat => e.1) ++ List.replicate 8 (act0 77)).length = n + 8 := by rw [List.length_append, List.length_map, List.length_replicate, h.len]
    have hC' := hC
    rw [← hl8] at hC'
    have h2 := Kd.C_take hC' (m := n) (by rw [hl8]; omega)
    have e : (L.map (·.1) ++ List.replicate 8 (act0 77)).take n = L.map (·.1) := by rw [← h.len]; simp
    rw [e] at h2
    have e2 : (L.map (fun e : S31 × Nat × Nat => e.1)).length = n := by rw [List.length_map]; exact h.len
    rw [e2] at h2
    exact h2
  · obtain ⟨A9, c9, e9, h9, hC9⟩ := Kd.R_reads h.names
    have e2 : (L.map nameC).length = n := by rw [List.length_map]; exact h.len
    rw [e2] at e9 h9 hC9
    refine ⟨A9, c9, e9, h9, fun h0 => ?_⟩
    obtain ⟨ad, e, hc⟩ := hC9.2.2 h0
    refine ⟨ad, e, fun i e he => ⟨?_, (twin_C (h.twins e (List.mem_of_getElem? he)).2).1⟩⟩
    obtain ⟨c, hcl, hcr, hcc⟩ := hc i (nameC e) (by rw [List.getElem?_map, he]; rfl)
    have : c = nameC e := hcr.1
    have hh := hcc 0 _ (by rw [this]; rfl)
    rw [show i * (Kd.raw 1).sz + 0 = i from by show i * 1 + 0 = i; omega] at hh
    exact hh
/-- what left finds, at any time of its run -/
structure LeftOk (W : World) (p0 p1 : Int) (A : Option Addr) (n c : Nat) (w' : World) : Prop where
  below : Below W.heap.size W w'
  box : w'.heap[W.heap.size]? = some (.cells #[.int .i64 p0, .int .i64 p1, .slice A n c] 24 (0, 0))
theorem LeftOk.next {W : World} {p0 p1 : Int} {A : Option Addr} {n c : Nat} {w1 w2 : World} (h : LeftOk W p0 p1 A n c w1) (hb : Below w1.heap.size w1 w2) : LeftOk W p0 p1 A n c w2 :=
  ⟨below_then h.below h.below.size hb, (hb.block _ (blk_lt h.box)).trans h.box⟩
end Go.Proofs.YtkfjjmmpbfjhaaaGreatDoor.Tells
namespace Go.Proofs.YtkfjjmmpbfjhaaaGreatDoor.Tells
open Go.RowKit Go.Proofs.YtkfjjmmpbfjhaaaGreatDoor.Facts Go.Proofs.YtkfjjmmpbfjhaaaGreatDoor.PScriptActs Go.Proofs.YtkfjjmmpbfjhaaaGreatDoorW.PrintWords Go.Proofs.YtkfjjmmpbfjhaaaGreatDoorW.PrintLast Go.Proofs.YtkfjjmmpbfjhaaaGreatDoorW.PrintMore
attribute [local go_sem] max2_int min2_int max_two min_two max_three min_three max_four min_four
set_option linter.unusedVariables false
set_option linter.unusedSimpArgs false
theorem num_calls12 (n : Int) (w : World) : Calls Tryz.prog 12 #[.int .i64 n] w fun e w' => e = .returned (.int .i64 n) ∧ Below w.heap.size w w' := by
  refine (kilnlaw24_num.calls n n w rfl).mono ?_
  rintro e w' ⟨rfl, h⟩
  exact ⟨rfl, h.below⟩
end Go.Proofs.YtkfjjmmpbfjhaaaGreatDoor.Tells
namespace Go.Proofs.YtkfjjmmpbfjhaaaGreatDoor.Tells
open Go.RowKit Go.Proofs.YtkfjjmmpbfjhaaaGreatDoor.Facts Go.Proofs.YtkfjjmmpbfjhaaaGreatDoor.PScriptActs Go.Proofs.YtkfjjmmpbfjhaaaGreatDoorW.PrintWords Go.Proofs.YtkfjjmmpbfjhaaaGreatDoorW.PrintLast Go.Proofs.YtkfjjmmpbfjhaaaGreatDoorW.PrintMore
attribute [local go_sem] max2_int min2_int max_two min_two max_three min_three max_four min_four
set_option linter.unusedVariables false
set_option linter.unusedSimpArgs false
theorem join_calls (W : World) (base : Nat) (v : Value) (l : List ByteArray) (sep : ByteArray) (hR : Kd.R Kd.string 9 W base (fun _ => True) v l) (hne : 0 < l.length) (hl : l.length ≤ 140737488355328) (hlen : (Lib.join (l.map (·.data.toList)) sep.data.toList).length ≤ 140737488355328) : Calls Tryz.prog 31 #[v, .string sep] W fun e w2 => e = .returned (.string ⟨(Lib.join (l.map (·.data.toList)) sep.data.toList).toArray⟩) ∧ Below W.heap.size W w2 := by
  obtain ⟨gw, capw, ev, hgb, hglt, _⟩ := Kd.R_form hR hne
  subst ev
  obtain ⟨A9, c9, e9, h9, hC9⟩ := Kd.R_reads hR
  injection e9 with e91 _ e93
  subst e91 e93
  refine Tryz.strings_Join gw 0 capw l sep W (fun j x hx => ?_) hglt hl h9 hlen
  have hjl := (List.getElem?_eq_some_iff.1 hx).1
  obtain ⟨ad, ead, hcell⟩ := Kd.at_string hC9 (j : Int) (by omega) (by omega)
  cases ead
  have hrd : rdOf ByteArray.empty l (j : Int) = x := by unfold rdOf; rw [Int.toNat_natCast, List.getD_eq_getElem?_getD, hx]; rfl
  rw [Int.toNat_natCast, hrd, Addr.add_lit] at hcell
  exact hcell
/-- the first line -/
def roomL (p0 p1 : Int) : List UInt8 := [114, 111, 111, 109, 32] ++ ((itoaB p0).data.toList ++ 32 :: (itoaB p1).data.toList)
def roomS (p0 p1 : Int) : ByteArray := ⟨(roomL p0 p1).toArray⟩
def badP : List S31 → Option Int
  | [] => none
  | a :: r => if (printA a).2 = 0 then badP r else some (printA a).2
def linesP (p0 p1 : Int) (acts : List S31) : List ByteArray := roomS p0 p1 :: acts.map (fun a => (printA a).1)
def textP (p0 p1 : Int) (acts : List S31) : List UInt8 := Lib.join ((linesP p0 p1 acts).map (·.data.toList)) [10] ++ [10]
/-- what Print answers -/
def printP (p0 p1 : Int) (acts : List S31) : ByteArray × Int :=
  match badP acts with
  | some e => (⟨#[]⟩, e)
  | none => if 20000 < acts.length + 1 then (⟨#[]⟩, 246) else (⟨(textP p0 p1 acts).toArray⟩, 0)
theorem bad_at : ∀ (acts : List S31) (i : Nat) (X : S31), (∀ j a, j < i → acts[j]? = some a → (printA a).2 = 0) → acts[i]? = some X → (printA X).2 ≠ 0 → badP acts = some (printA X).2
  | [], i, X, _, h, _ => by simp at h
  | a :: r, 0, X, _, h, hx => by
    have : a = X := by simpa using h
    subst this
    rw [badP, if_neg hx]
  | a :: r, i + 1, X, hj, h, hx => by
    rw [badP, if_pos (hj 0 a (by omega) rfl)]
    exact bad_at r i X (fun j b hb hj' => hj (j + 1) b (by omega) (by simpa using hj')) (by simpa using h) hx
theorem bad_none : ∀ (acts : List S31), (∀ (j : Nat) a, acts[j]? = some a → (printA a).2 = 0) → badP acts = none
  | [], _ => rfl
  | a :: r, h => by
    rw [badP, if_pos (h 0 a rfl)]
    exact bad_none r (fun j b hj => h (j + 1) b (by simpa using hj))
theorem printA_len (a : S31) : (printA a).1.data.toList.length ≤ 262144 := by
  unfold printA
  repeat' split
  all_goals simp
  omega
theorem join_nl : ∀ (n : List UInt8) (l : List (List UInt8)), Lib.join (n :: l) [10] = n ++ l.flatMap (fun x => 10 :: x)
  | n, [] => by rw [Lib.join_one]; simp
  | n, b :: r => by
    have e : Lib.join (n :: b :: r) [10] = n ++ 10 :: Lib.join (b :: r) [10] := by
      unfold Lib.join; simp [List.intercalate]
    rw [e, join_nl b r]
    simp
theorem flat_len (f : S31 → List UInt8) (hf : ∀ a, (f a).length ≤ 262144) : ∀ acts : List S31, (acts.flatMap (fun a => 10 :: f a)).length ≤ 262145 * acts.length
  | [] => by simp
  | a :: r => by
    have := flat_len f hf r
    have h1 := hf a
    rw [List.flatMap_cons, List.length_append, List.length_cons, List.length_cons]
    omega
theorem room_len (p0 p1 : Int) (h0 : inI p0) (h1 : inI p1) : (roomL p0 p1).length ≤ 48 := by
  have k0 := num_len p0 h0
  have k1 := num_len p1 h1
  unfold roomL
  simp only [List.length_append, List.length_cons, List.length_nil]
  omega
theorem lines_len (p0 p1 : Int) (h0 : inI p0) (h1 : inI p1) (acts : List S31) (hn : acts.length ≤ 1048576) : (Lib.join ((linesP p0 p1 acts).map (·.data.toList)) [10]).length ≤ 274877906944000 / 2 := by
  unfold linesP
  rw [List.map_cons, join_nl, List.map_map, List.flatMap_map]
  have h2 := room_len p0 p1 h0 h1
  have h3 := flat_len (fun a => (printA a).1.data.toList) printA_len acts
  rw [List.length_append]
  have e : (roomS p0 p1).data.toList = roomL p0 p1 := by simp [roomS]
  rw [e]
  simp only [Function.comp_def] at h3 ⊢
  omega
set_option maxHeartbeats 8000000 in
set_option maxRecDepth 100000 in
theorem print_calls (p0 p1 : Int) (h0 : inI p0) (h1 : inI p1) (acts : List S31) (ha : ∀ a ∈ acts, Aok a) (hn : acts.length ≤ 1048576) (A : Option Addr) (c : Nat) (w : World) (E : Env w) (hC : k31.C w A acts.length acts) (hc : acts.length ≤ c) (o : Value) (ho : Aside0 (o = .tuple #[.string (printP p0 p1 acts).1, .int .i64 (printP p0 p1 acts).2])) : Calls Tryz.prog 14 #[.agg #[.int .i64 p0, .int .i64 p1, .slice A acts.length c]] w fun e w' => e = .returned o ∧ Below w.heap.size w w' := by
  have HA := Aside0.mk ha
  have HE := Aside0.mk E
  have HC := Aside0.mk (And.intro hC hc)
  have HN := Aside0.mk hn
  have HP := Aside0.mk (And.intro h0 h1)
  clear ha E hC hc hn h0 h1
  obtain ⟨n, hnl⟩ : ∃ n, n = acts.length := ⟨_, rfl⟩
  have HNL := Aside0.mk hnl
  rw [← hnl] at HC HN
  rw [← hnl]
  have hnm : n ≤ 1048576 := HN.out
  clear hnl
  go_enter Tryz.func14, Tryz.ntmps14
  have HB0 : Aside0 (∀ W, W = ((w.alloc (.cells #[.int .i64 p0, .int .i64 p1, .slice A n c] 24 (0, 0))).alloc (.cells #[.int .i64 p0, .int .i64 p1] 3 (0, 0))) → Below w.heap.size w W ∧ W.heap[w.heap.size]? = some (.cells #[.int .i64 p0, .int .i64 p1, .slice A n c] 24 (0, 0)) ∧ Kd.C (Kd.int .i64) W (some ⟨w.heap.size + 1, 0, none⟩) 2 [p0, p1]) := ⟨fun W hW => by
    have hs : (w.alloc (.cells #[.int .i64 p0, .int .i64 p1, .slice A n c] 24 (0, 0))).heap.size = w.heap.size + 1 := by simp
    subst hW
    refine ⟨below_alloc (below_alloc (Below.refl _ _) _) _, ?_, ?_⟩
    · exact (((Below.refl _ _).alloc (Nat.le_refl _) _).block _ (by omega)).trans (blk_new w _)
    · have := lit_C (Value.int .i64) (fun _ => rfl) (w.alloc (.cells #[.int .i64 p0, .int .i64 p1, .slice A n c] 24 (0, 0))) 3 [p0, p1] (by simp)
      rw [hs] at this
      exact this⟩
  go_wp2_with fail
  refine (numbers_calls _ (some ⟨w.heap.size + 1, 0, none⟩) 2 [p0, p1] (HB0.out _ rfl).2.2 (Nat.le_refl _) (by intro x hx; rcases List.mem_cons.1 hx with rfl | hx; exact HP.out.1; rw [List.mem_singleton.1 hx]; exact HP.out.2) (by simp) (HE.out.below (HB0.out _ rfl).1).pow).mono ?_; rintro e w1 ⟨v14, rfl, hR1, hb1⟩
  have HB1 : Aside0 (Below w.heap.size w w1 ∧ w1.heap[w.heap.size]? = some (.cells #[.int .i64 p0, .int .i64 p1, .slice A n c] 24 (0, 0)) ∧ w.heap.size ≤ w1.heap.size) := ⟨by
    obtain ⟨z1, z2, _⟩ := HB0.out _ rfl
    exact ⟨below_then z1 z1.size hb1, (hb1.block _ (blk_lt z2)).trans z2, Nat.le_trans z1.size hb1.size⟩⟩
  have HR1 : Aside0 (Kd.R Kd.string 9 w1 0 (fun _ => True) v14 ([p0, p1].map itoaB)) := ⟨Kd.R_lower hR1 (Nat.zero_le _)⟩
  clear hR1 hb1 HB0
  have hjn : Lib.join (([p0, p1].map itoaB).map (·.data.toList)) (⟨#[32]⟩ : ByteArray).data.toList = (itoaB p0).data.toList ++ 32 :: (itoaB p1).data.toList := by
    simp [Lib.join, List.intercalate]
  have k0 := num_len p0 HP.out.1
  have k1 := num_len p1 HP.out.2
  obtain ⟨jb, hjb⟩ : ∃ jb : ByteArray, jb = ⟨(Lib.join (([p0, p1].map itoaB).map (·.data.toList)) (⟨#[32]⟩ : ByteArray).data.toList).toArray⟩ := ⟨_, rfl⟩
  have hjz : jb.size ≤ 43 := by
    rw [hjb, hjn]
    show (List.toArray _).size ≤ 43
    rw [List.size_toArray, List.length_append, List.length_cons]
    omega
  have hrm : (⟨#[114, 111, 111, 109, 32]⟩ ++ jb : ByteArray) = roomS p0 p1 := by
    apply ByteArray.ext
    apply Array.toList_inj.1
    rw [ByteArray.data_append, Array.toList_append, hjb, hjn]
    simp [roomS, roomL]
  have hadd : ¬ (9223372036854775807 < (⟨#[114, 111, 111, 109, 32]⟩ : ByteArray).size + jb.size) := by
    have : (⟨#[114, 111, 111, 109, 32]⟩ : ByteArray).size = 5 := rfl
    omega
  have HJN : Aside0 ((Lib.join (([p0, p1].map itoaB).map (·.data.toList)) (⟨#[32]⟩ : ByteArray).data.toList).length ≤ 140737488355328) := ⟨by rw [hjn, List.length_append, List.length_cons]; omega⟩
  have HJB := Aside0.mk hjb
  have HRM := Aside0.mk hrm
  clear hjn k0 k1 hjb hrm
  go_wp2_with fail
  refine (join_calls w1 0 v14 ([p0, p1].map itoaB) ⟨#[32]⟩ HR1.out (by simp) (by simp) HJN.out).mono ?_; rintro e w2 ⟨rfl, hb2⟩
  rw [← HJB.out]
  have HB2 : Aside0 (Below w.heap.size w w2 ∧ w2.heap[w.heap.size]? = some (.cells #[.int .i64 p0, .int .i64 p1, .slice A n c] 24 (0, 0))) := ⟨below_then HB1.out.1 HB1.out.2.2 hb2, (hb2.block _ (blk_lt HB1.out.2.1)).trans HB1.out.2.1⟩
  have kb2 : ∀ o2, (w2.alloc o2).cell? ⟨w.heap.size, 2, none⟩ = some (.slice A n c) := fun o2 => by rw [blk_cell (((below_alloc (Below.refl _ _) o2).block _ (blk_lt HB2.out.2)).trans HB2.out.2)]; rfl
  clear hb2 HB1 HR1 HJN
  go_wp2_with fail
  rw [HRM.out]
  have H3 : Aside0 (∀ W, W = w2.alloc (.cells #[.string (roomS p0 p1)] 9) → Below w.heap.size w W ∧ Kd.R Kd.string 9 W w.heap.size (fun _ => True) (.slice (some ⟨w2.heap.size, 0, none⟩) 1 1) (linesP p0 p1 (acts.take 0))) := ⟨fun W hW => by
    rw [hW]
    have hL := lit_R w2 [roomS p0 p1] (by simp)
    exact ⟨below_then HB2.out.1 HB2.out.1.size (below_alloc (Below.refl _ _) _), Kd.R_lower hL HB2.out.1.size⟩⟩
  have H4 := Aside0.mk (H3.out _ rfl)
  clear H3 HB2 kb2 HRM hadd hjz HJB
  go_loopw [4, 6, 7, 8, 21] (fun v4 v6 v7 v8 v21 wr => ∃ (i : Nat), v21 = .int .i64 (i : Int) ∧ i ≤ n ∧ Aside0 (Below w.heap.size w wr ∧ Kd.R Kd.string 9 wr w.heap.size (fun _ => True) v4 (linesP p0 p1 (acts.take i))) ∧ Aside0 (∀ j a, j < i → acts[j]? = some a → (printA a).2 = 0)) (fun _ _ _ _ v21 _ => n - (intOf v21).toNat)
  case atStart => exact ⟨0, rfl, Nat.zero_le _, H4, ⟨fun j a h => absurd h (Nat.not_lt_zero _)⟩⟩
  case round =>
    clear H4
    obtain ⟨i, rfl, hi, HL, HG⟩ := hrel
    by_cases hlt : i < n
    · have b1 : decide ((i : Int) < (n : Int)) = true := decide_eq_true (by omega)
      have pi0 : (0 : Int) ≤ (i : Int) := by omega
      have pi1 : (i : Int) < (n : Int) := by omega
      obtain ⟨adA, A3, c3, eA, x0, x1, x2, x3, x4, x5, x6, hx3, hxC⟩ := at_T31 (Kd.C_below HC.out.1 HL.out.1) (i : Int) pi0 pi1
      subst eA
      rw [Int.toNat_natCast] at x0 x1 x2 x3 x4 x5 x6
      have hlt2 : i < acts.length := by rw [← HNL.out]; exact hlt
      have hrX : acts[i]? = some (rd_T31 acts (i : Int)) := by unfold rd_T31; rw [Int.toNat_natCast, List.getD_eq_getElem?_getD, List.getElem?_eq_getElem hlt2]; rfl
      obtain ⟨X, hX⟩ : ∃ X, X = rd_T31 acts (i : Int) := ⟨_, rfl⟩
      rw [← hX] at x0 x1 x2 x3 x4 x5 x6 hx3 hxC hrX
      clear hX
      have HXA := Aside0.mk (HA.out X (List.mem_of_getElem? hrX))
      have HXC := Aside0.mk (And.intro hxC hx3)
      have HXR := Aside0.mk hrX
      have hwi : wrap64 ((i : Int) + 1) = (i : Int) + 1 := wrap_next i (by omega)
      have HMS : Aside0 (n - (intOf (Value.int IntKind.i64 ((i : Int) + 1))).toNat < n - (intOf (Value.int IntKind.i64 (i : Int))).toNat) := ⟨meas_step _ _ hlt⟩
      have HI1 : Aside0 (i + 1 ≤ n) := ⟨hlt⟩
      clear hrX hxC hx3 hlt2
      have HWx : Aside0 (∀ W, W = wr.alloc (.cells #[.int .i64 X.f0, .string X.f1, .string X.f2, .slice A3 X.f3.length c3, .string X.f4, .int .i64 X.f5, .int .i64 X.f6] 31) → Below w.heap.size w W ∧ Below wr.heap.size wr W) := ⟨fun W hW => by
        rw [hW]
        exact ⟨below_then HL.out.1 HL.out.1.size (below_alloc (Below.refl _ _) _), below_alloc (Below.refl _ _) _⟩⟩
      go_wp2_with fail
      obtain ⟨o', ho'⟩ : ∃ o' : Value, o' = .tuple #[.string (printA X).1, .int .i64 (printA X).2] := ⟨_, rfl⟩
      refine (printAct_calls X HXA.out A3 c3 _ (HE.out.below (HWx.out _ rfl).1) (Kd.C_below HXC.out.1 (HWx.out _ rfl).2) HXC.out.2 o' ⟨ho'⟩).mono ?_; rintro e w3 ⟨rfl, hb3⟩
      subst ho'
      have HB3 : Aside0 (Below wr.heap.size wr w3 ∧ Below w.heap.size w w3) := ⟨by
        obtain ⟨z1, z2⟩ := HWx.out _ rfl
        exact ⟨below_then z2 z2.size hb3, below_then z1 z1.size hb3⟩⟩
      have HR3 : Aside0 (Kd.R Kd.string 9 w3 w.heap.size (fun _ => True) u4 (linesP p0 p1 (acts.take i))) := ⟨Kd.R_below HL.out.2 HB3.out.1⟩
      obtain ⟨ps, hps⟩ : ∃ ps, ps = (printA X).1 := ⟨_, rfl⟩
      obtain ⟨pn, hpn⟩ : ∃ pn, pn = (printA X).2 := ⟨_, rfl⟩
      rw [← hps, ← hpn]
      have HPS := Aside0.mk (And.intro hps hpn)
      clear hb3 x0 x1 x2 x3 x4 x5 x6 HWx hps hpn
      by_cases hz : pn = 0
      · have hq : (pn != 0) = false := by simpa using hz
        have HG1 : Aside0 (∀ j a, j < i + 1 → acts[j]? = some a → (printA a).2 = 0) := ⟨fun j a hj hja => by
          by_cases e : j = i
          · rw [e, HXR.out] at hja
            rw [← Option.some.inj hja, ← HPS.out.2]; exact hz
          · exact HG.out j a (by omega) hja⟩
        have HTK : Aside0 (linesP p0 p1 (acts.take i) ++ [ps] = linesP p0 p1 (acts.take (i + 1))) := ⟨by
          unfold linesP
          rw [List.take_add_one, HXR.out, HPS.out.1]; simp⟩
        have HSZ : Aside0 (((linesP p0 p1 (acts.take i)).length + 1) * 16 ≤ 140737488355328) := ⟨by
          unfold linesP
          rw [List.length_cons, List.length_map, List.length_take]; omega⟩
        have hbs := HB3.out.2.size
        clear hz
        go_wp2_with (at_builtin; refine Kd.R_append Kd.string (w0 := w) w.heap.size rfl (.tmp 33) (.tmp 35) 29 9 (.string ⟨#[]⟩) 16 rfl Tryz.underlying29 info9 rfl (by decide) (by decide) u4 (linesP p0 p1 (acts.take i)) ps [.string ps] (fun _ => True) (fun _ => False) rfl rfl rfl (fun _ hk => hk.elim) (fun _ _ => trivial) (by exact HR3.out) (by exact HB3.out.2) (by exact hbs) (by exact HSZ.out) ?_; intro v1 w4 hown hb4 hgw hat; have HOW := Aside0.mk (And.intro hb4 hown); clear hown hb4 hgw hat)
        rw [HTK.out] at HOW
        go_roundw
        case rel => exact ⟨i + 1, by first | rfl | (rw [hwi]; rfl), HI1.out, HOW, HG1⟩
        case measure => first | exact HMS.out | (rw [hwi]; exact HMS.out)
      · have hq : (pn != 0) = true := by simpa using hz
        have HO : Aside0 (o = .tuple #[.string ⟨#[]⟩, .int .i64 pn]) := ⟨by
          rw [ho.out]
          have hbad := bad_at acts i X HG.out HXR.out (by rw [← HPS.out.2]; exact hz)
          unfold printP
          rw [hbad, ← HPS.out.2]⟩
        clear hz
        go_wp2_with fail
        go_ret2
        exact ⟨by rw [HO.out]; rfl, HB3.out.2⟩
    · have b1 : decide ((i : Int) < (n : Int)) = false := decide_eq_false (by omega)
      have b2 : (i < n) = False := eq_false hlt
      have b3 : decide (i < n) = false := decide_eq_false hlt
      have HNB : Aside0 (badP acts = none) := ⟨bad_none acts (fun j a hj => HG.out j a (by have := (List.getElem?_eq_some_iff.1 hj).1; rw [← HNL.out] at this; omega) hj)⟩
      have HL2 : Aside0 (Below w.heap.size w wr ∧ Kd.R Kd.string 9 wr w.heap.size (fun _ => True) u4 (linesP p0 p1 acts)) := ⟨HL.out.1, by
        have := HL.out.2
        rw [List.take_of_length_le (by rw [← HNL.out]; omega)] at this
        exact this⟩
      obtain ⟨M, hM⟩ : ∃ M, M = (linesP p0 p1 acts).length := ⟨_, rfl⟩
      have hMn : M = n + 1 := by rw [hM]; unfold linesP; rw [List.length_cons, List.length_map, HNL.out]
      obtain ⟨A4, c4, e4⟩ := Kd.R_slice HL2.out.2
      rw [← hM] at e4
      subst e4
      have HM := Aside0.mk (And.intro hM hMn)
      clear hM hi hlt HL
      by_cases hbig : 20000 < M
      · have b4 : decide ((20000 : Int) < (M : Int)) = true := decide_eq_true (by omega)
        have b5 : (20000 < M) = True := eq_true hbig
        have b6 : decide (20000 < M) = true := decide_eq_true hbig
        have HO : Aside0 (o = .tuple #[.string ⟨#[]⟩, .int .i64 246]) := ⟨by
          rw [ho.out]
          unfold printP
          rw [HNB.out]
          simp only
          rw [if_pos (by rw [← HNL.out]; omega)]⟩
        clear hbig hMn
        go_wp2_with fail
        go_ret2
        exact ⟨by rw [HO.out]; rfl, HL2.out.1⟩
      · have b4 : decide ((20000 : Int) < (M : Int)) = false := decide_eq_false (by omega)
        have b5 : (20000 < M) = False := eq_false hbig
        have b6 : decide (20000 < M) = false := decide_eq_false hbig
        obtain ⟨jb, hjb⟩ : ∃ jb : ByteArray, jb = ⟨(Lib.join ((linesP p0 p1 acts).map (·.data.toList)) (⟨#[10]⟩ : ByteArray).data.toList).toArray⟩ := ⟨_, rfl⟩
        have HO : Aside0 (o = .tuple #[.string (jb ++ ⟨#[10]⟩), .int .i64 0]) := ⟨by
          rw [ho.out]
          unfold printP
          rw [HNB.out]
          simp only
          rw [if_neg (by rw [← HNL.out]; omega)]
          have : (⟨(textP p0 p1 acts).toArray⟩ : ByteArray) = jb ++ ⟨#[10]⟩ := by
            apply ByteArray.ext
            apply Array.toList_inj.1
            rw [ByteArray.data_append, Array.toList_append, hjb]
            simp [textP]
          rw [this]⟩
        have hll := lines_len p0 p1 HP.out.1 HP.out.2 acts (by rw [← HNL.out]; exact HN.out)
        have hjz : jb.size ≤ 137438953472000 := by
          rw [hjb]
          show (List.toArray _).size ≤ _
          rw [List.size_toArray]
          exact Nat.le_trans hll (by decide)
        have hadd : ¬ (9223372036854775807 < jb.size + (⟨#[10]⟩ : ByteArray).size) := by
          have : (⟨#[10]⟩ : ByteArray).size = 1 := rfl
          omega
        have HLN : Aside0 ((Lib.join ((linesP p0 p1 acts).map (·.data.toList)) (⟨#[10]⟩ : ByteArray).data.toList).length ≤ 140737488355328) := ⟨Nat.le_trans hll (by decide)⟩
        have HJB := Aside0.mk hjb
        clear hbig hll hjb
        have HML : Aside0 (0 < (linesP p0 p1 acts).length ∧ (linesP p0 p1 acts).length ≤ 140737488355328) := ⟨by rw [← HM.out.1]; omega⟩
        clear hMn
        go_wp2_with fail
        refine (join_calls wr w.heap.size _ (linesP p0 p1 acts) ⟨#[10]⟩ HL2.out.2 HML.out.1 HML.out.2 HLN.out).mono ?_; rintro e w5 ⟨rfl, hb5⟩
        rw [← HJB.out]
        have HB5 : Aside0 (Below w.heap.size w w5) := ⟨below_then HL2.out.1 HL2.out.1.size hb5⟩
        clear hb5
        go_wp2_with fail
        go_ret2
        exact ⟨by rw [HO.out]; rfl, HB5.out⟩
end Go.Proofs.YtkfjjmmpbfjhaaaGreatDoor.Tells
namespace Go.Proofs.YtkfjjmmpbfjhaaaGreatDoor.Tells
open Go.RowKit Go.Proofs.YtkfjjmmpbfjhaaaGreatDoor.Facts Go.Proofs.YtkfjjmmpbfjhaaaGreatDoor.PScriptActs Go.Proofs.YtkfjjmmpbfjhaaaGreatDoorW.PrintWords Go.Proofs.YtkfjjmmpbfjhaaaGreatDoorW.PrintLast Go.Proofs.YtkfjjmmpbfjhaaaGreatDoorW.PrintMore
attribute [local go_sem] max2_int min2_int max_two min_two max_three min_three max_four min_four
set_option linter.unusedVariables false
set_option linter.unusedSimpArgs false
def rowOf (a : S31) (A3 : Option Addr) (c3 : Nat) : List Value := [.int .i64 a.f0, .string a.f1, .string a.f2, .slice A3 a.f3.length c3, .string a.f4, .int .i64 a.f5, .int .i64 a.f6]
def RowsAre (W : World) (fs : List (List Value)) (acts : List S31) : Prop := acts.length = fs.length ∧ ∀ (i : Nat) (a : S31) (f : List Value), acts[i]? = some a → fs[i]? = some f → ∃ A3 c3, f = rowOf a A3 c3 ∧ a.f3.length ≤ c3 ∧ Kd.string.C W A3 a.f3.length a.f3
theorem RowsAre.snoc {W : World} {fs : List (List Value)} {acts : List S31} (h : RowsAre W fs acts) (a : S31) (A3 : Option Addr) (c3 : Nat) (h1 : a.f3.length ≤ c3) (h2 : Kd.string.C W A3 a.f3.length a.f3) : RowsAre W (fs ++ [rowOf a A3 c3]) (acts ++ [a]) := by
  refine ⟨by rw [List.length_append, List.length_append, h.1]; rfl, fun i b f hb hf => ?_⟩
  by_cases hi : i < acts.length
  · rw [List.getElem?_append_left hi] at hb
    rw [List.getElem?_append_left (by rw [← h.1]; exact hi)] at hf
    exact h.2 i b f hb hf
  · rw [List.getElem?_append_right (by omega)] at hb
    rw [List.getElem?_append_right (by rw [← h.1]; omega)] at hf
    obtain rfl := List.mem_singleton.1 (List.mem_of_getElem? hb)
    obtain rfl := List.mem_singleton.1 (List.mem_of_getElem? hf)
    exact ⟨A3, c3, rfl, h1, h2⟩
theorem RowsAre.below {W W' : World} {fs : List (List Value)} {acts : List S31} (h : RowsAre W fs acts) (hb : Below W.heap.size W W') : RowsAre W' fs acts := ⟨h.1, fun i a f ha hf => by
  obtain ⟨A3, c3, e, h1, h2⟩ := h.2 i a f ha hf
  exact ⟨A3, c3, e, h1, Kd.C_below h2 hb⟩⟩
/-- the first i rows of the block F are fs's -/
def Turn7 (w : World) (F N : Nat) (fs : List (List Value)) (i : Nat) : Prop := ∃ cur, w.heap[F]? = some (.cells cur 31 (0, 0)) ∧ N * 7 ≤ cur.size ∧ ∀ (j : Nat) f, j < i → fs[j]? = some f → ∀ (q : Nat) x, f[q]? = some x → cur[j * 7 + q]? = some x
theorem Turn7.below {w w' : World} {F N i : Nat} {fs : List (List Value)} (h : Turn7 w F N fs i) (hb : Below w.heap.size w w') : Turn7 w' F N fs i := by
  obtain ⟨cur, h1, h2, h3⟩ := h
  exact ⟨cur, (hb.block _ (blk_lt h1)).trans h1, h2, h3⟩
end Go.Proofs.YtkfjjmmpbfjhaaaGreatDoor.Tells
