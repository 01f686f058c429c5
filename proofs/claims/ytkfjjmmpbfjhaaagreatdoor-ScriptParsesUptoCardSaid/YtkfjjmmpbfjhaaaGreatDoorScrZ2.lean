/- kilnref24.line, walked. kilnref24.PrintAct and Same, walked; samePlay in plain words. kilnlaw24.hand, walked: a play with marks behind its lists. kilnlaw24's left: all that was handed over is as it was, walked. The law of ScriptActs, walked. script.Print and kilnref24.Print, walked; a play's text in plain words. kilnlaw24.turned and the law of ScriptPrints, walked. The plain law: what Print writes is read back as it was. The bulk of a play and the size of its text. The plain law of reading: bounds of what is read; lines ahead, behind, cut off. Texts with lines ahead, behind, cut off: what they are read as; cut, walked. Conditions: those that each theorem states. -/
import Derived.Test.YtkfjjmmpbfjhaaaGreatDoorScrN
namespace Go.Proofs.YtkfjjmmpbfjhaaaGreatDoor.Tells
open Go.RowKit Go.Proofs.YtkfjjmmpbfjhaaaGreatDoor.Facts Go.Proofs.YtkfjjmmpbfjhaaaGreatDoor.PScriptActs Go.Proofs.YtkfjjmmpbfjhaaaGreatDoorW.PrintWords Go.Proofs.YtkfjjmmpbfjhaaaGreatDoorW.PrintLast Go.Proofs.YtkfjjmmpbfjhaaaGreatDoorW.PrintMore
attribute [local go_sem] max2_int min2_int max_two min_two max_three min_three max_four min_four
set_option linter.unusedVariables false
set_option linter.unusedSimpArgs false
theorem Buf.own {w w' : World} {base : Nat} {v : Value} {l : List UInt8} (h : Buf w base v l) (hs : w.heap.size ≤ w'.heap.size) (hk : ∀ k, v.ownBlock = some k → w'.heap[k]? = w.heap[k]?) : Buf w' base v l := by
  obtain ⟨g, cap, rfl, ⟨h1, h2⟩, h3, h4, h5⟩ := h
  have hh := hk g rfl
  exact ⟨g, cap, rfl, ⟨h1, Nat.lt_of_lt_of_le h2 hs⟩, h3, fun j u hu => (cell_heap hh _).1.trans (h4 j u hu), fun j hj => by rw [(cell_heap hh _).1, (cell_heap hh _).2]; exact h5 j hj⟩
def boxC (a : S31) (A : Option Addr) (c : Nat) : Array Value := #[.int .i64 a.f0, .string a.f1, .string a.f2, .slice A a.f3.length c, .string a.f4, .int .i64 a.f5, .int .i64 a.f6]
/-- a line that is being written, as the loop finds it -/
structure LineAt (w : World) (a : S31) (A : Option Addr) (c G : Nat) (v : Value) (l : List UInt8) (b : S31) (wr : World) : Prop where
  below : Below w.heap.size w wr
  box : wr.heap[w.heap.size]? = some (.cells (boxC a A c) 31 (0, 0))
  res : wr.heap[w.heap.size + 1]? = some (.cells (cs0 0) 31 (0, 0))
  n : ∃ A' c', wr.heap[G]? = some (.cells (boxC b A' c') 31 (0, 0)) ∧ ((b.f3 = [] ∧ A' = none ∧ c' = 0) ∨ (b.f3 = a.f3 ∧ A' = A ∧ c' = c))
  buf : Buf wr (w.heap.size + 2) v l
  apart : v.ownBlock ≠ some G
  far : w.heap.size + 2 ≤ G
theorem LineAt.next {w : World} {a : S31} {A : Option Addr} {c G : Nat} {v : Value} {l : List UInt8} {b : S31} {wr w2 : World} (h : LineAt w a A c G v l b wr) (hb : Below wr.heap.size wr w2) : LineAt w a A c G v l b w2 :=
  ⟨below_then h.below h.below.size hb, (hb.block _ (blk_lt h.box)).trans h.box, (hb.block _ (blk_lt h.res)).trans h.res, by obtain ⟨A', c', h1, h2⟩ := h.n; exact ⟨A', c', (hb.block _ (blk_lt h1)).trans h1, h2⟩, h.buf.below hb, h.apart, h.far⟩
theorem LineAt.put {w : World} {a : S31} {A : Option Addr} {c G : Nat} {v : Value} {l : List UInt8} {b b1 : S31} {wr : World} (h : LineAt w a A c G v l b wr) (i : Nat) (x : Value) (hx : ∀ A' c', ((b.f3 = [] ∧ A' = none ∧ c' = 0) ∨ (b.f3 = a.f3 ∧ A' = A ∧ c' = c)) → ∃ A1 c1, (boxC b A' c').setIfInBounds i x = boxC b1 A1 c1 ∧ ((b1.f3 = [] ∧ A1 = none ∧ c1 = 0) ∨ (b1.f3 = a.f3 ∧ A1 = A ∧ c1 = c))) : LineAt w a A c G v l b1 (wr.setCell ⟨G, i, none⟩ x) := by
  obtain ⟨A', c', h1, h2⟩ := h.n
  obtain ⟨A1, c1, e1, e2⟩ := hx A' c' h2
  have hf := h.far
  have hs : (wr.setCell ⟨G, i, none⟩ x).heap.size = wr.heap.size := by simp [World.setCell]
  have hold : ∀ k, k ≠ G → (wr.setCell ⟨G, i, none⟩ x).heap[k]? = wr.heap[k]? := fun k hk => Below.heap_setCell wr _ x k (by exact hk)
  refine ⟨h.below.trans ⟨rfl, rfl, rfl, Nat.le_of_eq hs.symm, fun k hk => hold k (by omega)⟩, (hold _ (by omega)).trans h.box, (hold _ (by omega)).trans h.res, ⟨A1, c1, ?_, e2⟩, h.buf.own (Nat.le_of_eq hs.symm) (fun k hk => hold k (fun e => h.apart (by rw [hk, e]))), h.apart, h.far⟩
  rw [← e1]; exact blk_set h1 i x

theorem meas_step (n j : Nat) (h : j < n) : n - (intOf (Value.int IntKind.i64 ((j : Int) + 1))).toNat < n - (intOf (Value.int IntKind.i64 (j : Int))).toNat := by simp only [intOf]; omega
theorem wrap_next (j : Nat) (h : j < 4611686018427387904) : wrap64 ((j : Int) + 1) = (j : Int) + 1 := by unfold wrap64; omega
theorem C_nil (w : World) : Kd.C Kd.string w none ([] : List ByteArray).length [] := by
  obtain ⟨A, c, e, _, h⟩ := Kd.R_reads (Kd.R_nil Kd.string 9 w 0 (fun _ => True))
  injection e with e1
  rw [e1]; exact h
end Go.Proofs.YtkfjjmmpbfjhaaaGreatDoor.Tells
namespace Go.Proofs.YtkfjjmmpbfjhaaaGreatDoor.Tells
open Go.RowKit Go.Proofs.YtkfjjmmpbfjhaaaGreatDoor.Facts Go.Proofs.YtkfjjmmpbfjhaaaGreatDoor.PScriptActs Go.Proofs.YtkfjjmmpbfjhaaaGreatDoorW.PrintWords Go.Proofs.YtkfjjmmpbfjhaaaGreatDoorW.PrintLast Go.Proofs.YtkfjjmmpbfjhaaaGreatDoorW.PrintMore
attribute [local go_sem] max2_int min2_int max_two min_two max_three min_three max_four min_four
set_option linter.unusedVariables false
set_option linter.unusedSimpArgs false
theorem sameNames_l0 (X Y : List ByteArray) (hl : X.length = Y.length) (hb : X.length ≤ 1073741824) : ∀ (k i : Nat), i ≤ X.length → X.length - i < k → kilnref24_sameNames.l0 k X Y (i : Int) = some (decide (X.drop i = Y.drop i))
  | 0, i, hi, hk => by omega
  | k + 1, i, hi, hk => by
    rw [kilnref24_sameNames.l0]
    by_cases h : i < X.length
    · have hx : X.drop i = X[i] :: X.drop (i + 1) := List.drop_eq_getElem_cons h
      have hy : Y.drop i = Y[i]'(by omega) :: Y.drop (i + 1) := List.drop_eq_getElem_cons (by omega)
      have rx : rdOf ByteArray.empty X (i : Int) = X[i] := by unfold rdOf; rw [Int.toNat_natCast, List.getD_eq_getElem?_getD, List.getElem?_eq_getElem h]; rfl
      have ry : rdOf ByteArray.empty Y (i : Int) = Y[i]'(by omega) := by unfold rdOf; rw [Int.toNat_natCast, List.getD_eq_getElem?_getD, List.getElem?_eq_getElem (by omega)]; rfl
      have w4 : wrap64 ((i : Int) + 1) = ((i + 1 : Nat) : Int) := by unfold wrap64; omega
      rw [if_pos (by omega), if_pos (by omega), if_pos (by omega), rx, ry, w4, hx, hy]
      by_cases he : X[i] = Y[i]'(by omega)
      · rw [if_pos (by rw [he]), sameNames_l0 X Y hl hb k (i + 1) (by omega) (by omega)]
        congr 1
        apply decide_eq_decide.2
        constructor
        · intro h2; rw [he, h2]
        · intro h2; exact (List.cons.inj h2).2
      · rw [if_neg (by rw [ByteArray.toList_eq, ByteArray.toList_eq]; intro h2; exact he (by apply ByteArray.ext; exact Array.toList_inj.1 h2))]
        rw [decide_eq_false (fun h2 => he (List.cons.inj h2).1)]
    · rw [if_neg (by omega), List.drop_of_length_le (by omega), List.drop_of_length_le (by omega)]
      rfl
theorem sameNames_f (X Y : List ByteArray) (hb : X.length ≤ 1073741824) : kilnref24_sameNames.f (X.length + 1) X Y = some (decide (X = Y)) := by
  unfold kilnref24_sameNames.f
  by_cases h : X.length = Y.length
  · rw [if_pos (by omega)]
    have := sameNames_l0 X Y h hb (X.length + 1) 0 (Nat.zero_le _) (by omega)
    rw [List.drop_zero, List.drop_zero] at this
    exact this
  · rw [if_neg (by omega), decide_eq_false (fun e => h (by rw [e]))]
theorem sameR_f (a b : S31) (hb : a.f3.length ≤ 1073741824) : kilnref24_Same.f (a.f3.length + 1) a.f0 a.f1 a.f2 a.f3 a.f4 a.f5 a.f6 b.f0 b.f1 b.f2 b.f3 b.f4 b.f5 b.f6 = some (sameA a b) := by
  unfold kilnref24_Same.f sameA
  by_cases h0 : a.f0 = b.f0
  · rw [if_pos h0, decide_eq_true h0, Bool.true_and]
    by_cases h1 : a.f1 = b.f1
    · rw [if_pos (ba_toList.2 h1), decide_eq_true h1, Bool.true_and]
      by_cases h2 : a.f2 = b.f2
      · rw [if_pos (ba_toList.2 h2), decide_eq_true h2, Bool.true_and]
        by_cases h4 : a.f4 = b.f4
        · rw [if_pos (ba_toList.2 h4), decide_eq_true h4, Bool.true_and]
          by_cases h5 : a.f5 = b.f5
          · rw [if_pos h5, decide_eq_true h5, Bool.true_and]
            by_cases h6 : a.f6 = b.f6
            · rw [if_pos h6, decide_eq_true h6, Bool.true_and, sameNames_f _ _ hb]; rfl
            · rw [if_neg h6, decide_eq_false h6]; rfl
          · rw [if_neg h5, decide_eq_false h5]; rfl
        · rw [if_neg (fun h => h4 (ba_toList.1 h)), decide_eq_false h4]; rfl
      · rw [if_neg (fun h => h2 (ba_toList.1 h)), decide_eq_false h2]; rfl
    · rw [if_neg (fun h => h1 (ba_toList.1 h)), decide_eq_false h1]; rfl
  · rw [if_neg h0, decide_eq_false h0]; rfl
theorem sameA_iff (a b : S31) : sameA a b = true ↔ a = b := by
  unfold sameA
  constructor
  · intro h
    simp only [Bool.and_eq_true, decide_eq_true_eq] at h
    obtain ⟨h0, h1, h2, h4, h5, h6, h3⟩ := h
    cases a; cases b; simp_all
  · rintro rfl; simp
instance : DecidableEq S31 := fun a b => decidable_of_iff (sameA a b = true) (sameA_iff a b)
theorem samePlay_l0 (p0 p1 q0 q1 : Int) (X Y : List S31) (hl : X.length = Y.length) (hb : X.length ≤ 1073741824) (hn : ∀ a ∈ X, a.f3.length ≤ 1048576) : ∀ (k i : Nat), i ≤ X.length → X.length - i + 1048580 < k → kilnlaw24_samePlay.l0 k (i : Int) p0 p1 X q0 q1 Y = some (decide (X.drop i = Y.drop i))
  | 0, i, hi, hk => by omega
  | k + 1, i, hi, hk => by
    rw [kilnlaw24_samePlay.l0]
    by_cases h : i < X.length
    · have hx : X.drop i = X[i] :: X.drop (i + 1) := List.drop_eq_getElem_cons h
      have hy : Y.drop i = Y[i]'(by omega) :: Y.drop (i + 1) := List.drop_eq_getElem_cons (by omega)
      have rx : rd_T31 X (i : Int) = X[i] := by unfold rd_T31; first | (rw [Int.toNat_natCast, List.getD_eq_getElem?_getD, List.getElem?_eq_getElem h]; rfl) | (unfold rdOf; rw [Int.toNat_natCast, List.getD_eq_getElem?_getD, List.getElem?_eq_getElem h]; rfl)
      have ry : rd_T31 Y (i : Int) = Y[i]'(by omega) := by unfold rd_T31; first | (rw [Int.toNat_natCast, List.getD_eq_getElem?_getD, List.getElem?_eq_getElem (by omega)]; rfl) | (unfold rdOf; rw [Int.toNat_natCast, List.getD_eq_getElem?_getD, List.getElem?_eq_getElem (by omega)]; rfl)
      have w4 : wrap64 ((i : Int) + 1) = ((i + 1 : Nat) : Int) := by unfold wrap64; omega
      have hna := hn X[i] (List.getElem_mem h)
      have hs := at_rounds (fun k => kilnref24_Same.mono X[i].f0 X[i].f1 X[i].f2 X[i].f3 X[i].f4 X[i].f5 X[i].f6 (Y[i]'(by omega)).f0 (Y[i]'(by omega)).f1 (Y[i]'(by omega)).f2 (Y[i]'(by omega)).f3 (Y[i]'(by omega)).f4 (Y[i]'(by omega)).f5 (Y[i]'(by omega)).f6 k) (show X[i].f3.length + 1 ≤ k by omega) (sameR_f X[i] (Y[i]'(by omega)) (by omega))
      rw [if_pos (by omega), if_pos (by omega), if_pos (by omega), rx, ry, w4, hx, hy, hs, Option.bind_some]
      by_cases he : X[i] = Y[i]'(by omega)
      · rw [if_pos ((sameA_iff _ _).2 he), samePlay_l0 p0 p1 q0 q1 X Y hl hb hn k (i + 1) (by omega) (by omega)]
        congr 1
        apply decide_eq_decide.2
        constructor
        · intro h2; rw [he, h2]
        · intro h2; exact (List.cons.inj h2).2
      · rw [if_neg (fun h2 => he ((sameA_iff _ _).1 h2)), decide_eq_false (fun h2 => he (List.cons.inj h2).1)]
    · rw [if_neg (by omega), List.drop_of_length_le (by omega), List.drop_of_length_le (by omega)]
      rfl
/-- are two plays the same? -/
def sameP (p0 p1 : Int) (X : List S31) (q0 q1 : Int) (Y : List S31) : Bool := decide (p0 = q0) && (decide (p1 = q1) && decide (X = Y))
theorem samePlay_f (p0 p1 q0 q1 : Int) (X Y : List S31) (hb : X.length ≤ 1073741824) (hn : ∀ a ∈ X, a.f3.length ≤ 1048576) : kilnlaw24_samePlay.f (X.length + 1048582) p0 p1 X q0 q1 Y = some (sameP p0 p1 X q0 q1 Y) := by
  unfold kilnlaw24_samePlay.f sameP
  have ht : ∀ k, kilnlaw24_samePlay.j0 (k + 1) true p0 p1 X q0 q1 Y = some false := fun k => by rw [kilnlaw24_samePlay.j0]; rfl
  by_cases h0 : p0 = q0
  · rw [if_pos h0, decide_eq_true h0, Bool.true_and]
    by_cases h1 : p1 = q1
    · rw [if_pos h1, decide_eq_true h1, Bool.true_and]
      by_cases hl : X.length = Y.length
      · have e : ((X.length : Int) != (Y.length : Int)) = false := by rw [hl]; simp
        rw [e, kilnlaw24_samePlay.j0, if_neg (by decide)]
        have := samePlay_l0 p0 p1 q0 q1 X Y hl hb hn (X.length + 1048581) 0 (Nat.zero_le _) (by omega)
        rw [List.drop_zero, List.drop_zero] at this
        exact this
      · have e : ((X.length : Int) != (Y.length : Int)) = true := by simp; omega
        rw [e, ht, decide_eq_false (fun e => hl (by rw [e]))]
    · rw [if_neg h1, decide_eq_false h1, ht]; rfl
  · rw [if_neg h0, decide_eq_false h0, ht]; rfl
theorem samePlay_calls (p0 p1 q0 q1 : Int) (X Y : List S31) (A B : Option Addr) (c d : Nat) (w : World) (hA : Kd.C k31 w A X.length X) (hc : X.length ≤ c) (hB : Kd.C k31 w B Y.length Y) (hd : Y.length ≤ d) (hb : X.length ≤ 1073741824) (hn : ∀ a ∈ X, a.f3.length ≤ 1048576) : Calls Tryz.prog 18 #[.agg #[.int .i64 p0, .int .i64 p1, .slice A X.length c], .agg #[.int .i64 q0, .int .i64 q1, .slice B Y.length d]] w fun e w' => e = .returned (.bool (sameP p0 p1 X q0 q1 Y)) ∧ Below w.heap.size w w' :=
  kilnlaw24_samePlay.calls (X.length + 1048582) p0 p1 A c X q0 q1 B d Y _ w hA hc hB hd (samePlay_f p0 p1 q0 q1 X Y hb hn)
end Go.Proofs.YtkfjjmmpbfjhaaaGreatDoor.Tells
namespace Go.Proofs.YtkfjjmmpbfjhaaaGreatDoor.Tells
open Go.RowKit Go.Proofs.YtkfjjmmpbfjhaaaGreatDoor.Facts Go.Proofs.YtkfjjmmpbfjhaaaGreatDoor.PScriptActs Go.Proofs.YtkfjjmmpbfjhaaaGreatDoorW.PrintWords Go.Proofs.YtkfjjmmpbfjhaaaGreatDoorW.PrintLast Go.Proofs.YtkfjjmmpbfjhaaaGreatDoorW.PrintMore
attribute [local go_sem] max2_int min2_int max_two min_two max_three min_three max_four min_four
set_option linter.unusedVariables false
set_option linter.unusedSimpArgs false
theorem info31z : (Tryz.prog.info? 31).map (fun i => (i.zero, i.size, i.bytes)) = some (some (.agg #[(.int .i64 0), (.string ⟨#[]⟩), (.string ⟨#[]⟩), (.slice none 0 0), (.string ⟨#[]⟩), (.int .i64 0), (.int .i64 0)]), 7, 96) := by kernel_rfl
/-- nothing that was there is written but the blocks of S -/
structure Still (w w' : World) (S : Nat → Prop) : Prop where
  os : w'.os = w.os
  tape : w'.tape = w.tape
  output : w'.output = w.output
  size : w.heap.size ≤ w'.heap.size
  block : ∀ k, k < w.heap.size → ¬ S k → w'.heap[k]? = w.heap[k]?
theorem Still.of {w w' : World} {S : Nat → Prop} (hb : Below w.heap.size w w') : Still w w' S := ⟨hb.os, hb.tape, hb.output, hb.size, fun k hk _ => hb.block k hk⟩
theorem Still.mono {w w' : World} {S S' : Nat → Prop} (h : Still w w' S) (hs : ∀ k, S k → S' k) : Still w w' S' := ⟨h.os, h.tape, h.output, h.size, fun k hk hn => h.block k hk (fun h' => hn (hs k h'))⟩
theorem Still.trans {w w1 w2 : World} {S S' : Nat → Prop} (h : Still w w1 S) (h2 : Still w1 w2 S') (hs : ∀ k, k < w.heap.size → S' k → S k) : Still w w2 S :=
  ⟨h2.os.trans h.os, h2.tape.trans h.tape, h2.output.trans h.output, Nat.le_trans h.size h2.size, fun k hk hn => (h2.block k (Nat.lt_of_lt_of_le hk h.size) (fun h' => hn (hs k hk h'))).trans (h.block k hk hn)⟩
theorem Still.then {w w1 w2 : World} {S : Nat → Prop} (h : Still w w1 S) (hb : Below w1.heap.size w1 w2) : Still w w2 S := h.trans (Still.of (S := S) hb) (fun _ _ h => h)
theorem Still.set {w : World} {S : Nat → Prop} (g i : Nat) (v : Value) (hg : S g) : Still w (w.setCell ⟨g, i, none⟩ v) S :=
  ⟨rfl, rfl, rfl, by simp [World.setCell], fun k hk hn => Below.heap_setCell w _ v k (show k ≠ g from fun e => hn (e ▸ hg))⟩
theorem Still.grown {w w' : World} {S : Nat → Prop} {row : Option Nat} (hg : w.grownBy w' row) (h : ∀ k, row = some k → S k) : Still w w' S :=
  ⟨hg.os, hg.tape, hg.output, hg.size, fun k hk hn => hg.block k hk (fun e => hn (h k e.symm))⟩
theorem Still.below {w w' : World} {S : Nat → Prop} {B : Nat} (h : Still w w' S) (hB : B ≤ w.heap.size) (hs : ∀ k, S k → B ≤ k) : Below B w w' :=
  ⟨h.os, h.tape, h.output, h.size, fun k hk => h.block k (by omega) (fun h' => by have := hs k h'; omega)⟩
theorem Still.blk {w w' : World} {S : Nat → Prop} {g : Nat} {o : Obj} (h : Still w w' S) (hb : w.heap[g]? = some o) (hn : ¬ S g) : w'.heap[g]? = some o := (h.block g (blk_lt hb) hn).trans hb
section
variable {ops : Array Oper} {rest : List Oper} {o : Oper} {a : Act} {Q : Exit → Act → World → Prop} {K : Act → World → Prop}
end
def markB : ByteArray := ⟨#[109, 97, 114, 107]⟩
def twinL (l : List ByteArray) : List ByteArray := l ++ List.replicate 8 markB
theorem twin_len (X : List ByteArray) : (twinL X).length = X.length + 8 := by unfold twinL; rw [List.length_append, List.length_replicate]
def fullC (e : S31 × Nat × Nat) : List Value := [.int .i64 e.1.f0, .string e.1.f1, .string e.1.f2, .slice (some ⟨e.2.1, 0, none⟩) e.1.f3.length e.2.2, .string e.1.f4, .int .i64 e.1.f5, .int .i64 e.1.f6]
def markC : List Value := [.int .i64 77, .string ⟨#[]⟩, .string ⟨#[]⟩, .slice none 0 0, .string ⟨#[]⟩, .int .i64 0, .int .i64 0]
def nameC (e : S31 × Nat × Nat) : List Value := [.slice (some ⟨e.2.1, 0, none⟩) (e.1.f3.length + 8) e.2.2]
/-- a play that is being handed over, as the loops find it -/
structure HandL (w : World) (p0 p1 : Int) (A : Option Addr) (n c : Nat) (vF vN : Value) (fs : List (List Value)) (L : List (S31 × Nat × Nat)) (wr : World) : Prop where
  below : Below w.heap.size w wr
  box : wr.heap[w.heap.size]? = some (.cells #[.int .i64 p0, .int .i64 p1, .slice A n c] 24 (0, 0))
  hb : wr.heap[w.heap.size + 1]? = some (.cells #[.int .i64 p0, .int .i64 p1, .slice A n c, vF, vN] 37 (0, 0))
  F : (Kd.raw 7).R 31 wr w.heap.size (fun _ => True) vF fs
  N : (Kd.raw 1).R 29 wr w.heap.size (fun _ => True) vN (L.map nameC)
  T : ∀ e ∈ L, e.1.f3.length + 8 ≤ e.2.2 ∧ Kd.R Kd.string 9 wr w.heap.size (fun _ => True) (.slice (some ⟨e.2.1, 0, none⟩) (e.1.f3.length + 8) e.2.2) (twinL e.1.f3)
theorem HandL.next {w : World} {p0 p1 : Int} {A : Option Addr} {n c : Nat} {vF vN : Value} {fs : List (List Value)} {L : List (S31 × Nat × Nat)} {wr w2 : World} (h : HandL w p0 p1 A n c vF vN fs L wr) (hb : Below wr.heap.size wr w2) : HandL w p0 p1 A n c vF vN fs L w2 :=
  ⟨below_then h.below h.below.size hb, (hb.block _ (blk_lt h.box)).trans h.box, (hb.block _ (blk_lt h.hb)).trans h.hb, Kd.R_below h.F hb, Kd.R_below h.N hb, fun e he => ⟨(h.T e he).1, Kd.R_below (h.T e he).2 hb⟩⟩
/-- a play that was handed over -/
structure HandAt (W : World) (base g : Nat) (p0 p1 : Int) (n F cF : Nat) (vN : Value) (L : List (S31 × Nat × Nat)) : Prop where
  blk : W.heap[g]? = some (.cells #[.int .i64 p0, .int .i64 p1, .slice (some ⟨F, 0, none⟩) n cF, .slice (some ⟨F, 0, none⟩) (n + 8) cF, vN] 37 (0, 0))
  full : (Kd.raw 7).R 31 W base (fun _ => True) (.slice (some ⟨F, 0, none⟩) (n + 8) cF) (L.map fullC ++ List.replicate 8 markC)
  names : (Kd.raw 1).R 29 W base (fun _ => True) vN (L.map nameC)
  twins : ∀ e ∈ L, e.1.f3.length + 8 ≤ e.2.2 ∧ Kd.R Kd.string 9 W base (fun _ => True) (.slice (some ⟨e.2.1, 0, none⟩) (e.1.f3.length + 8) e.2.2) (twinL e.1.f3)
  len : L.length = n
  room : n + 8 ≤ cF
end Go.Proofs.YtkfjjmmpbfjhaaaGreatDoor.Tells
namespace Go.Proofs.YtkfjjmmpbfjhaaaGreatDoor.Tells
open Go.RowKit Go.Proofs.YtkfjjmmpbfjhaaaGreatDoor.Facts Go.Proofs.YtkfjjmmpbfjhaaaGreatDoor.PScriptActs Go.Proofs.YtkfjjmmpbfjhaaaGreatDoorW.PrintWords Go.Proofs.YtkfjjmmpbfjhaaaGreatDoorW.PrintLast Go.Proofs.YtkfjjmmpbfjhaaaGreatDoorW.PrintMore
attribute [local go_sem] max2_int min2_int max_two min_two max_three min_three max_four min_four
set_option linter.unusedVariables false
set_option linter.unusedSimpArgs false
theorem HandAt.next {W W2 : World} {base g : Nat} {p0 p1 : Int} {n F cF : Nat} {vN : Value} {L : List (S31 × Nat × Nat)} (h : HandAt W base g p0 p1 n F cF vN L) (hb : Below W.heap.size W W2) : HandAt W2 base g p0 p1 n F cF vN L :=
  ⟨(hb.block _ (blk_lt h.blk)).trans h.blk, Kd.R_below h.full hb, Kd.R_below h.names hb, fun e he => ⟨(h.twins e he).1, Kd.R_below (h.twins e he).2 hb⟩, h.len, h.room⟩
/-- elements' cells that are read as acts -/
theorem acts_C {W : World} {A : Option Addr} {n : Nat} {fs : List (List Value)} {acts : List S31} (h : (Kd.raw 7).C W A n fs) (hl : acts.length = fs.length) (hk : ∀ (i : Nat) (a : S31) (f : List Value), acts[i]? = some a → fs[i]? = some f → ∃ A3 c3, f = [.int .i64 a.f0, .string a.f1, .string a.f2, .slice A3 a.f3.length c3, .string a.f4, .int .i64 a.f5, .int .i64 a.f6] ∧ a.f3.length ≤ c3 ∧ Kd.string.C W A3 a.f3.length a.f3) : k31.C W A n acts := by
  refine ⟨hl.trans h.1, h.2.1, fun h0 => ?_⟩
  obtain ⟨ad, e, hc⟩ := h.2.2 h0
  refine ⟨ad, e, fun j p hj => ?_⟩
  have hjl : j < fs.length := by have := (List.getElem?_eq_some_iff.1 hj).1; omega
  obtain ⟨c, hcl, hcr, hcc⟩ := hc j fs[j] (List.getElem?_eq_getElem hjl)
  obtain ⟨A3, c3, ef, hl3, hC3⟩ := hk j p fs[j] hj (List.getElem?_eq_getElem hjl)
  refine ⟨c, hcl, ?_, hcc⟩
  have : c = fs[j] := hcr.1
  rw [this, ef]
  exact k31_mk W p hl3 hC3
theorem twin_C {W : World} {base t cap : Nat} {X : List ByteArray} (h : Kd.R Kd.string 9 W base (fun _ => True) (.slice (some ⟨t, 0, none⟩) (X.length + 8) cap) (twinL X)) : Kd.string.C W (some ⟨t, 0, none⟩) (X.length + 8) (twinL X) ∧ Kd.string.C W (some ⟨t, 0, none⟩) X.length X := by
  obtain ⟨A9, c9, e9, h9, hC9⟩ := Kd.R_reads h
  injection e9 with e1 _ _
  subst e1
  have h2 := Kd.C_take hC9 (m := X.length) (by rw [twin_len]; omega)
  have e : (twinL X).take X.length = X := by unfold twinL; simp
  rw [e] at h2
  rw [twin_len] at hC9
  exact ⟨hC9, h2⟩
theorem HandAt.reads {W : World} {base g : Nat} {p0 p1 : Int} {n F cF : Nat} {vN : Value} {L : List (S31 × Nat × Nat)} (h : HandAt W base g p0 p1 n F cF vN L) : k31.C W (some ⟨F, 0, none⟩) (n + 8) (L.map (·.1) ++ List.replicate 8 (act0 77)) ∧ k31.C W (some ⟨F, 0, none⟩) n (L.map (·.1)) ∧ ∃ AN cN, vN = .slice AN n cN ∧ n ≤ cN ∧ (0 < n → ∃ ad, AN = some ad ∧ ∀ i e, L[i]? = some e → W.cell? (ad.add i) = some (.slice (some ⟨e.2.1, 0, none⟩) (e.1.f3.length + 8) e.2.2) ∧ Kd.C Kd.string W (some ⟨e.2.1, 0, none⟩) (e.1.f3.length + 8) (twinL e.1.f3)) := by
  have hC : k31.C W (some ⟨F, 0, none⟩) (n + 8) (L.map (·.1) ++ List.replicate 8 (act0 77)) := by
    obtain ⟨A9, c9, e9, h9, hC9⟩ := Kd.R_reads h.full
    injection e9 with e1 e2 _
    rw [← e1, ← e2] at hC9
    refine acts_C hC9 (by simp) (fun i a f ha hf => ?_)
    by_cases hi : i < L.length
    · rw [List.getElem?_append_left (by simpa using hi), List.getElem?_map, List.getElem?_eq_getElem hi] at ha hf
      cases ha; cases hf
      have ht := h.twins L[i] (List.getElem_mem hi)
      exact ⟨_, _, rfl, Nat.le_trans (Nat.le_add_right _ 8) ht.1, (twin_C ht.2).2⟩
    · rw [List.getElem?_append_right (by simpa using hi)] at ha hf
      have ha' := List.mem_of_getElem? ha
      have hf' := List.mem_of_getElem? hf
      obtain rfl := (List.mem_replicate.1 ha').2
      obtain rfl := (List.mem_replicate.1 hf').2
      exact ⟨none, 0, rfl, Nat.le_refl _, C_nil _⟩
  refine ⟨hC, ?_, ?_⟩
  · have hl8 : (L.map (fun e : S31 × Nat × Nat => e.1) ++ List.replicate 8 (act0 77)).length = n + 8 := by rw [List.length_append, List.length_map, List.length_replicate, h.len]
    have hC' := hC
    rw [← hl8] at hC'
    have h2 := Kd.C_take hC' (m := n) (by rw [hl8]; omega)
    have e : (L.map (·.1) ++ List.replicate 8 (act0 77)).take n = L.map (·.1) := by rw [← h.len]; simp
    rw [e] at h2
    have e2 : (L.map (fun e : S31 × Nat × Nat => e.1)).length = n := by rw [List.length_map]; exact h.len
    rw [e2] at h2
    exact h2
  · obtain ⟨A9, c9, e9, h9, hC9⟩ := Kd.R_reads h.names
    have e2 : (L.map nameC).length = n := by rw [List.length_map]; exact h.len
    rw [e2] at e9 h9 hC9
    refine ⟨A9, c9, e9, h9, fun h0 => ?_⟩
    obtain ⟨ad, e, hc⟩ := hC9.2.2 h0
    refine ⟨ad, e, fun i e he => ⟨?_, (twin_C (h.twins e (List.mem_of_getElem? he)).2).1⟩⟩
    obtain ⟨c, hcl, hcr, hcc⟩ := hc i (nameC e) (by rw [List.getElem?_map, he]; rfl)
    have : c = nameC e := hcr.1
    have hh := hcc 0 _ (by rw [this]; rfl)
    rw [show i * (Kd.raw 1).sz + 0 = i from by show i * 1 + 0 = i; omega] at hh
    exact hh
/-- what left finds, at any time of its run -/
structure LeftOk (W : World) (p0 p1 : Int) (A : Option Addr) (n c : Nat) (w' : World) : Prop where
  below : Below W.heap.size W w'
  box : w'.heap[W.heap.size]? = some (.cells #[.int .i64 p0, .int .i64 p1, .slice A n c] 24 (0, 0))
theorem LeftOk.next {W : World} {p0 p1 : Int} {A : Option Addr} {n c : Nat} {w1 w2 : World} (h : LeftOk W p0 p1 A n c w1) (hb : Below w1.heap.size w1 w2) : LeftOk W p0 p1 A n c w2 :=
  ⟨below_then h.below h.below.size hb, (hb.block _ (blk_lt h.box)).trans h.box⟩
end Go.Proofs.YtkfjjmmpbfjhaaaGreatDoor.Tells
namespace Go.Proofs.YtkfjjmmpbfjhaaaGreatDoor.Tells
open Go.RowKit Go.Proofs.YtkfjjmmpbfjhaaaGreatDoor.Facts Go.Proofs.YtkfjjmmpbfjhaaaGreatDoor.PScriptActs Go.Proofs.YtkfjjmmpbfjhaaaGreatDoorW.PrintWords Go.Proofs.YtkfjjmmpbfjhaaaGreatDoorW.PrintLast Go.Proofs.YtkfjjmmpbfjhaaaGreatDoorW.PrintMore
attribute [local go_sem] max2_int min2_int max_two min_two max_three min_three max_four min_four
set_option linter.unusedVariables false
set_option linter.unusedSimpArgs false
theorem num_calls12 (n : Int) (w : World) : Calls Tryz.prog 12 #[.int .i64 n] w fun e w' => e = .returned (.int .i64 n) ∧ Below w.heap.size w w' := by
  refine (kilnlaw24_num.calls n n w rfl).mono ?_
  rintro e w' ⟨rfl, h⟩
  exact ⟨rfl, h.below⟩
end Go.Proofs.YtkfjjmmpbfjhaaaGreatDoor.Tells
namespace Go.Proofs.YtkfjjmmpbfjhaaaGreatDoor.Tells
open Go.RowKit Go.Proofs.YtkfjjmmpbfjhaaaGreatDoor.Facts Go.Proofs.YtkfjjmmpbfjhaaaGreatDoor.PScriptActs Go.Proofs.YtkfjjmmpbfjhaaaGreatDoorW.PrintWords Go.Proofs.YtkfjjmmpbfjhaaaGreatDoorW.PrintLast Go.Proofs.YtkfjjmmpbfjhaaaGreatDoorW.PrintMore
attribute [local go_sem] max2_int min2_int max_two min_two max_three min_three max_four min_four
set_option linter.unusedVariables false
set_option linter.unusedSimpArgs false
end Go.Proofs.YtkfjjmmpbfjhaaaGreatDoor.Tells
namespace Go.Proofs.YtkfjjmmpbfjhaaaGreatDoor.Tells
open Go.RowKit Go.Proofs.YtkfjjmmpbfjhaaaGreatDoor.Facts Go.Proofs.YtkfjjmmpbfjhaaaGreatDoor.PScriptActs Go.Proofs.YtkfjjmmpbfjhaaaGreatDoorW.PrintWords Go.Proofs.YtkfjjmmpbfjhaaaGreatDoorW.PrintLast Go.Proofs.YtkfjjmmpbfjhaaaGreatDoorW.PrintMore
attribute [local go_sem] max2_int min2_int max_two min_two max_three min_three max_four min_four
set_option linter.unusedVariables false
set_option linter.unusedSimpArgs false
def rowOf (a : S31) (A3 : Option Addr) (c3 : Nat) : List Value := [.int .i64 a.f0, .string a.f1, .string a.f2, .slice A3 a.f3.length c3, .string a.f4, .int .i64 a.f5, .int .i64 a.f6]
def RowsAre (W : World) (fs : List (List Value)) (acts : List S31) : Prop := acts.length = fs.length ∧ ∀ (i : Nat) (a : S31) (f : List Value), acts[i]? = some a → fs[i]? = some f → ∃ A3 c3, f = rowOf a A3 c3 ∧ a.f3.length ≤ c3 ∧ Kd.string.C W A3 a.f3.length a.f3
theorem RowsAre.snoc {W : World} {fs : List (List Value)} {acts : List S31} (h : RowsAre W fs acts) (a : S31) (A3 : Option Addr) (c3 : Nat) (h1 : a.f3.length ≤ c3) (h2 : Kd.string.C W A3 a.f3.length a.f3) : RowsAre W (fs ++ [rowOf a A3 c3]) (acts ++ [a]) := by
  refine ⟨by rw [List.length_append, List.length_append, h.1]; rfl, fun i b f hb hf => ?_⟩
  by_cases hi : i < acts.length
  · rw [List.getElem?_append_left hi] at hb
    rw [List.getElem?_append_left (by rw [← h.1]; exact hi)] at hf
    exact h.2 i b f hb hf
  · rw [List.getElem?_append_right (by omega)] at hb
    rw [List.getElem?_append_right (by rw [← h.1]; omega)] at hf
    obtain rfl := List.mem_singleton.1 (List.mem_of_getElem? hb)
    obtain rfl := List.mem_singleton.1 (List.mem_of_getElem? hf)
    exact ⟨A3, c3, rfl, h1, h2⟩
theorem RowsAre.below {W W' : World} {fs : List (List Value)} {acts : List S31} (h : RowsAre W fs acts) (hb : Below W.heap.size W W') : RowsAre W' fs acts := ⟨h.1, fun i a f ha hf => by
  obtain ⟨A3, c3, e, h1, h2⟩ := h.2 i a f ha hf
  exact ⟨A3, c3, e, h1, Kd.C_below h2 hb⟩⟩
/-- the first i rows of the block F are fs's -/
def Turn7 (w : World) (F N : Nat) (fs : List (List Value)) (i : Nat) : Prop := ∃ cur, w.heap[F]? = some (.cells cur 31 (0, 0)) ∧ N * 7 ≤ cur.size ∧ ∀ (j : Nat) f, j < i → fs[j]? = some f → ∀ (q : Nat) x, f[q]? = some x → cur[j * 7 + q]? = some x
theorem Turn7.below {w w' : World} {F N i : Nat} {fs : List (List Value)} (h : Turn7 w F N fs i) (hb : Below w.heap.size w w') : Turn7 w' F N fs i := by
  obtain ⟨cur, h1, h2, h3⟩ := h
  exact ⟨cur, (hb.block _ (blk_lt h1)).trans h1, h2, h3⟩
end Go.Proofs.YtkfjjmmpbfjhaaaGreatDoor.Tells
namespace Go.Proofs.YtkfjjmmpbfjhaaaGreatDoor.Tells
open Go.RowKit Go.Proofs.YtkfjjmmpbfjhaaaGreatDoor.Facts Go.Proofs.YtkfjjmmpbfjhaaaGreatDoor.PScriptActs Go.Proofs.YtkfjjmmpbfjhaaaGreatDoorW.PrintWords Go.Proofs.YtkfjjmmpbfjhaaaGreatDoorW.PrintLast Go.Proofs.YtkfjjmmpbfjhaaaGreatDoorW.PrintMore
set_option linter.unusedVariables false
set_option linter.unusedSimpArgs false
end Go.Proofs.YtkfjjmmpbfjhaaaGreatDoor.Tells
namespace Go.Proofs.YtkfjjmmpbfjhaaaGreatDoor.Tells
open Go.RowKit Go.Proofs.YtkfjjmmpbfjhaaaGreatDoor.Facts Go.Proofs.YtkfjjmmpbfjhaaaGreatDoor.PScriptActs Go.Proofs.YtkfjjmmpbfjhaaaGreatDoorW.PrintWords Go.Proofs.YtkfjjmmpbfjhaaaGreatDoorW.PrintLast Go.Proofs.YtkfjjmmpbfjhaaaGreatDoorW.PrintMore
set_option linter.unusedVariables false
set_option linter.unusedSimpArgs false
/-- an act's bulk -/
def wtA (a : S31) : Nat := a.f1.size + a.f2.size + a.f4.size + ((a.f3.map (·.size)).sum + a.f3.length) + 1
end Go.Proofs.YtkfjjmmpbfjhaaaGreatDoor.Tells
namespace Go.Proofs.YtkfjjmmpbfjhaaaGreatDoor.Tells
open Go.RowKit Go.Proofs.YtkfjjmmpbfjhaaaGreatDoor.Facts Go.Proofs.YtkfjjmmpbfjhaaaGreatDoor.PScriptActs Go.Proofs.YtkfjjmmpbfjhaaaGreatDoorW.PrintWords Go.Proofs.YtkfjjmmpbfjhaaaGreatDoorW.PrintLast Go.Proofs.YtkfjjmmpbfjhaaaGreatDoorW.PrintMore
set_option linter.unusedVariables false
set_option linter.unusedSimpArgs false
theorem numN_in (l : List UInt8) : inI (numN l) := by
  unfold numN
  split
  · split
    · rename_i v h; exact Lib.atoiAll_bounds h
    · exact Lib.atoiSat_bounds l
    · exact ⟨by decide, by decide⟩
  · exact ⟨by decide, by decide⟩
theorem unw_len : ∀ (n : Nat) (l o : List UInt8), l.length ≤ n → unw l = some o → o.length ≤ l.length
  | n, [], o, _, h => by
    rw [unw.eq_def] at h
    simp at h
    subst h; simp
  | 0, c :: r, o, hn, h => by simp at hn
  | n + 1, c :: r, o, hn, h => by
    rw [List.length_cons] at hn
    rw [unw.eq_def] at h
    simp only at h
    split at h
    · cases h
    · split at h
      · split at h
        · split at h
          · rename_i a b r2 _
            obtain ⟨o2, h2, rfl⟩ := Option.map_eq_some_iff.1 h
            simp only [List.length_cons] at hn ⊢
            have := unw_len n r2 o2 (by omega) h2
            omega
          · cases h
        · cases h
      · split at h
        · obtain ⟨o2, h2, rfl⟩ := Option.map_eq_some_iff.1 h
          simp only [List.length_cons]
          have := unw_len n r o2 (by omega) h2
          omega
        · cases h
theorem unwT_size (w : ByteArray) : (unwT (bl w)).size ≤ w.size := by
  have hb := bl_len w
  unfold unwT
  cases h : unwS (bl w) with
  | none => exact Nat.zero_le _
  | some o =>
    show o.toArray.size ≤ _
    have : o.length ≤ (bl w).length := by
      unfold unwS at h
      split at h
      · rename_i r hr
        have := unw_len r.length r o (Nat.le_refl _) h
        rw [hr, List.length_cons]; omega
      · cases h
    simp only [List.size_toArray]
    omega
/-- an act's bytes -/
def szA (a : S31) : Nat := a.f1.size + a.f2.size + a.f4.size + ((a.f3.map (·.size)).sum + a.f3.length)
theorem putC_fine (c : Int) (w : ByteArray) (a : S31) : szA (putC c w a) ≤ szA a + (w.size + 1) ∧ (putC c w a).f0 = a.f0 ∧ (inI a.f5 ∧ inI a.f6 → inI (putC c w a).f5 ∧ inI (putC c w a).f6) := by
  have hu := unwT_size w
  have hn := numN_in (bl w)
  unfold putC szA
  repeat' split
  all_goals refine ⟨?_, rfl, fun h => ?_⟩
  all_goals first
    | ((try simp only [List.map_append, List.map_cons, List.map_nil, List.sum_append, List.sum_cons, List.sum_nil, List.length_append, List.length_cons, List.length_nil]); omega)
    | exact h
    | exact ⟨hn, h.2⟩
    | exact ⟨h.1, hn⟩
theorem putR_fine (sh : ByteArray) (n : Nat) : ∀ (ws : List ByteArray) (i : Nat) (a : S31), szA (putR sh n i ws a) ≤ szA a + (ws.map (fun w => w.size + 1)).sum ∧ (putR sh n i ws a).f0 = a.f0 ∧ (inI a.f5 ∧ inI a.f6 → inI (putR sh n i ws a).f5 ∧ inI (putR sh n i ws a).f6)
  | [], i, a => ⟨by simp [putR], rfl, fun h => h⟩
  | w :: ws, i, a => by
    obtain ⟨h1, h2, h3⟩ := putC_fine (chC sh n i) w a
    obtain ⟨k1, k2, k3⟩ := putR_fine sh n ws (i + 1) (putC (chC sh n i) w a)
    refine ⟨?_, k2.trans h2, fun h => k3 (h3 h)⟩
    show szA (putR sh n (i + 1) ws (putC _ w a)) ≤ _
    rw [List.map_cons, List.sum_cons]
    omega
theorem cuts_sum (b : UInt8) : ∀ l acc, ((cuts b l acc).map (fun x => x.length + 1)).sum = acc.length + l.length + 1
  | [], acc => by simp [cuts]
  | c :: r, acc => by
    unfold cuts
    split
    · rw [List.map_cons, List.sum_cons, cuts_sum b r []]; simp; omega
    · rw [cuts_sum b r]; simp; omega
theorem words_sum (l : List UInt8) : ((wordsOf l).map (fun w => w.size + 1)).sum = l.length + 1 := by
  have h := cuts_sum 32 l []
  unfold wordsOf
  rw [List.map_map]
  have e : ((fun w : ByteArray => w.size + 1) ∘ mkB) = fun x : List UInt8 => x.length + 1 := by
    funext x
    show (x.toArray).size + 1 = _
    simp
  rw [e, h]
  simp
theorem mem_le_sum {l : List ByteArray} {s : ByteArray} (h : s ∈ l) : s.size ≤ (l.map (·.size)).sum := by
  induction l with
  | nil => cases h
  | cons a r ih =>
    rw [List.map_cons, List.sum_cons]
    rcases List.mem_cons.1 h with rfl | h
    · omega
    · have := ih h; omega
/-- an act that is read of a line: its bounds -/
theorem act_fine (l : List UInt8) (hl : l.length ≤ 262144) : Aok (actR (kindR ((wordsOf l).getD 0 ByteArray.empty)) (wordsOf l).tail) ∧ wtA (actR (kindR ((wordsOf l).getD 0 ByteArray.empty)) (wordsOf l).tail) ≤ l.length + 1 := by
  have hk := kindR_le ((wordsOf l).getD 0 ByteArray.empty)
  obtain ⟨k, hkk⟩ : ∃ k, k = kindR ((wordsOf l).getD 0 ByteArray.empty) := ⟨_, rfl⟩
  rw [← hkk] at hk ⊢
  obtain ⟨h1, h2, h3⟩ := putR_fine (shR k) (nR k) (wordsOf l).tail 0 (act0 k)
  have hs := words_sum l
  have hp := wordsOf_pos l
  have ht : ((wordsOf l).tail.map (fun w => w.size + 1)).sum ≤ l.length := by
    cases hw : wordsOf l with
    | nil => rw [hw] at hp; cases hp
    | cons a r =>
      rw [hw, List.map_cons, List.sum_cons] at hs
      show (r.map _).sum ≤ _
      omega
  have h0 : szA (act0 k) = 0 := rfl
  have hz : szA (actR k (wordsOf l).tail) ≤ l.length := by unfold actR; omega
  have h5 := h3 ⟨⟨by show (-9223372036854775808 : Int) ≤ 0; decide, by show (0 : Int) ≤ 9223372036854775807; decide⟩, ⟨by show (-9223372036854775808 : Int) ≤ 0; decide, by show (0 : Int) ≤ 9223372036854775807; decide⟩⟩
  have hf0 : (actR k (wordsOf l).tail).f0 = (k : Int) := h2
  unfold szA at hz
  refine ⟨⟨by rw [hf0]; exact ⟨by omega, by omega⟩, by omega, by omega, fun s hs => ?_, by omega, by omega, h5.1, h5.2, by omega⟩, by unfold wtA; omega⟩
  have := mem_le_sum hs
  omega
/-- what holds of a play that is being read -/
structure Fine (st : StP) (n : Nat) : Prop where
  p0 : inI st.p0
  p1 : inI st.p1
  acts : ∀ a ∈ st.acts, Aok a
  count : st.acts.length ≤ st.said
  said : st.said ≤ 20000
  sum : (st.acts.map wtA).sum ≤ n
theorem step_fine (l : List UInt8) (st : StP) (n : Nat) (h : Fine st n) (h0 : (stepP l st).1 = 0) : Fine (stepP l st).2 (n + (l.length + 1)) := by
  unfold stepP at h0 ⊢
  by_cases c1 : 262144 < l.length
  · rw [if_pos c1] at h0; cases h0
  · rw [if_neg c1] at h0 ⊢
    by_cases c2 : l = [] ∨ l.head? = some 35
    · rw [if_pos c2]
      exact ⟨h.p0, h.p1, h.acts, h.count, h.said, Nat.le_trans h.sum (Nat.le_add_right _ _)⟩
    · rw [if_neg c2] at h0 ⊢
      by_cases c3 : st.said = 20000
      · rw [if_pos c3] at h0; cases h0
      · rw [if_neg c3] at h0 ⊢
        have hsd := h.said
        have hct := h.count
        have hsm := h.sum
        by_cases c4 : st.said = 0
        · rw [if_pos c4]
          exact ⟨numN_in _, numN_in _, h.acts, by show st.acts.length ≤ 1; omega, by show 1 ≤ 20000; decide, Nat.le_trans h.sum (Nat.le_add_right _ _)⟩
        · rw [if_neg c4] at h0 ⊢
          by_cases c5 : kindR ((wordsOf l).getD 0 ByteArray.empty) = 0
          · rw [if_pos c5] at h0; cases h0
          · rw [if_neg c5]
            obtain ⟨g1, g2⟩ := act_fine l (by omega)
            refine ⟨h.p0, h.p1, fun a ha => ?_, ?_, ?_, ?_⟩
            · rcases List.mem_append.1 ha with ha | ha
              · exact h.acts a ha
              · rw [List.mem_singleton.1 ha]; exact g1
            · show (st.acts ++ [_]).length ≤ st.said + 1
              rw [List.length_append]; simp; omega
            · show st.said + 1 ≤ 20000; omega
            · show ((st.acts ++ [_]).map wtA).sum ≤ _
              rw [List.map_append, List.sum_append, List.map_cons, List.map_nil, List.sum_cons, List.sum_nil]
              omega
theorem code_of (l : List UInt8) (st : StP) : (stepP l st).1 = 0 ∨ (240 ≤ (stepP l st).1 ∧ (stepP l st).1 ≤ 246) := by
  have hr : codeRoom (wordsOf l) = 0 ∨ (240 ≤ codeRoom (wordsOf l) ∧ codeRoom (wordsOf l) ≤ 246) := by
    unfold codeRoom
    split
    · split
      · split
        · exact .inl rfl
        · exact .inr (show (240 : Int) ≤ 244 ∧ (244 : Int) ≤ 246 by decide)
      · exact .inr (show (240 : Int) ≤ 243 ∧ (243 : Int) ≤ 246 by decide)
    · exact .inr (show (240 : Int) ≤ 240 ∧ (240 : Int) ≤ 246 by decide)
  have hc : ∀ k ws, codeR k ws = 0 ∨ (240 ≤ codeR k ws ∧ codeR k ws ≤ 246) := fun k ws => by
    unfold codeR
    split
    · exact .inr (show (240 : Int) ≤ 243 ∧ (243 : Int) ≤ 246 by decide)
    · split
      · exact .inl rfl
      · exact .inr (show (240 : Int) ≤ 244 ∧ (244 : Int) ≤ 246 by decide)
  unfold stepP
  repeat' split
  · exact .inr (show (240 : Int) ≤ 241 ∧ (241 : Int) ≤ 246 by decide)
  · exact .inl rfl
  · exact .inr (show (240 : Int) ≤ 246 ∧ (246 : Int) ≤ 246 by decide)
  · exact hr
  · exact .inr (show (240 : Int) ≤ 242 ∧ (242 : Int) ≤ 246 by decide)
  · exact hc _ _
/-- what a reading answers, in bounds -/
theorem go_fine : ∀ (ls : List (List UInt8)) (i : Nat) (st : StP) (n : Nat), Fine st n → inI (goP ls i st).1.1 ∧ inI (goP ls i st).1.2.1 ∧ (∀ a ∈ (goP ls i st).1.2.2, Aok a) ∧ (goP ls i st).1.2.2.length ≤ 20000 ∧ ((goP ls i st).1.2.2.map wtA).sum ≤ n + (ls.map (fun l => l.length + 1)).sum ∧
    (((goP ls i st).2.1 = 0 ∧ ((goP ls i st).2.2 = 0 ∨ (goP ls i st).2.2 = 240)) ∨ ((i : Int) + 1 ≤ (goP ls i st).2.1 ∧ (goP ls i st).2.1 ≤ (i : Int) + ls.length ∧ 240 ≤ (goP ls i st).2.2 ∧ (goP ls i st).2.2 ≤ 246))
  | [], i, st, n, h => by
    have hz : inI 0 := ⟨by decide, by decide⟩
    unfold goP
    split
    · exact ⟨hz, hz, fun a ha => (by cases ha), Nat.zero_le _, Nat.zero_le _, .inl ⟨rfl, .inr rfl⟩⟩
    · exact ⟨h.p0, h.p1, h.acts, Nat.le_trans h.count h.said, Nat.le_trans h.sum (Nat.le_add_right _ _), .inl ⟨rfl, .inl rfl⟩⟩
  | l :: ls, i, st, n, h => by
    have hz : inI 0 := ⟨by decide, by decide⟩
    have hcd := code_of l st
    unfold goP
    by_cases h0 : (stepP l st).1 = 0
    · rw [if_pos h0]
      obtain ⟨g1, g2, g3, g4, g5, g6⟩ := go_fine ls (i + 1) (stepP l st).2 (n + (l.length + 1)) (step_fine l st n h h0)
      refine ⟨g1, g2, g3, g4, ?_, ?_⟩
      · rw [List.map_cons, List.sum_cons]; omega
      · rcases g6 with g6 | ⟨k1, k2, k3, k4⟩
        · exact .inl g6
        · exact .inr ⟨by omega, by rw [List.length_cons]; omega, k3, k4⟩
    · rw [if_neg h0]
      refine ⟨hz, hz, fun a ha => (by cases ha), Nat.zero_le _, Nat.zero_le _, .inr ⟨Int.le_refl _, ?_, ?_⟩⟩
      · show (i : Int) + 1 ≤ (i : Int) + ((l :: ls).length : Int)
        rw [List.length_cons]; omega
      · rcases hcd with hc | hc
        · exact absurd hc h0
        · exact hc
/-- the lines ahead of the first bad one -/
theorem go_cut : ∀ (ls : List (List UInt8)) (i : Nat) (st : StP) (m : Nat), (goP ls i st).2.1 = (i : Int) + m + 1 → (goP (ls.take m) i st).2.1 = 0
  | ls, i, st, 0, h => by
    rw [List.take_zero]
    unfold goP
    split <;> rfl
  | [], i, st, m + 1, h => by
    unfold goP at h
    split at h
    · have h' : (0 : Int) = (i : Int) + ((m + 1 : Nat) : Int) + 1 := h; omega
    · have h' : (0 : Int) = (i : Int) + ((m + 1 : Nat) : Int) + 1 := h; omega
  | l :: ls, i, st, m + 1, h => by
    unfold goP at h
    rw [List.take_succ_cons]
    show (if (stepP l st).1 = 0 then goP (ls.take m) (i + 1) (stepP l st).2 else _).2.1 = 0
    by_cases h0 : (stepP l st).1 = 0
    · rw [if_pos h0] at h
      rw [if_pos h0]
      exact go_cut ls (i + 1) _ m (by rw [h]; omega)
    · rw [if_neg h0] at h
      have h' : (i : Int) + 1 = (i : Int) + ((m + 1 : Nat) : Int) + 1 := h
      omega
end Go.Proofs.YtkfjjmmpbfjhaaaGreatDoor.Tells
namespace Go.Proofs.YtkfjjmmpbfjhaaaGreatDoor.Tells
open Go.RowKit Go.Proofs.YtkfjjmmpbfjhaaaGreatDoor.Facts Go.Proofs.YtkfjjmmpbfjhaaaGreatDoor.PScriptActs Go.Proofs.YtkfjjmmpbfjhaaaGreatDoorW.PrintWords Go.Proofs.YtkfjjmmpbfjhaaaGreatDoorW.PrintLast Go.Proofs.YtkfjjmmpbfjhaaaGreatDoorW.PrintMore
attribute [local go_sem] max2_int min2_int max_two min_two max_three min_three max_four min_four
set_option linter.unusedVariables false
set_option linter.unusedSimpArgs false
theorem lines_sum : ∀ (t acc : List UInt8), ((linesOf t acc).map (fun l => l.length + 1)).sum ≤ acc.length + t.length + 1
  | [], acc => by
    rw [linesOf]
    split
    · simp
    · simp
  | c :: r, acc => by
    rw [linesOf]
    split
    · have := lines_sum r []
      rw [List.map_cons, List.sum_cons]
      simp only [List.length_nil, List.length_cons] at this ⊢
      omega
    · have := lines_sum r (acc ++ [c])
      simp only [List.length_append, List.length_cons, List.length_nil] at this ⊢
      omega
theorem len_le_sum : ∀ ls : List (List UInt8), ls.length ≤ (ls.map (fun l => l.length + 1)).sum
  | [] => Nat.le_refl _
  | l :: ls => by have := len_le_sum ls; rw [List.map_cons, List.sum_cons, List.length_cons]; omega
/-- bounds of what a text is read as -/
theorem parse_fine (t : List UInt8) : inI (parseP t).1.1 ∧ inI (parseP t).1.2.1 ∧ (∀ a ∈ (parseP t).1.2.2, Aok a) ∧ (parseP t).1.2.2.length ≤ 20000 ∧ ((parseP t).1.2.2.map wtA).sum ≤ t.length + 1 ∧
    (((parseP t).2.1 = 0 ∧ ((parseP t).2.2 = 0 ∨ (parseP t).2.2 = 240)) ∨ (1 ≤ (parseP t).2.1 ∧ (parseP t).2.1 ≤ (t.length : Int) + 1 ∧ 240 ≤ (parseP t).2.2 ∧ (parseP t).2.2 ≤ 246)) := by
  have hz : inI 0 := ⟨by decide, by decide⟩
  obtain ⟨g1, g2, g3, g4, g5, g6⟩ := go_fine (linesOf t []) 0 ⟨0, 0, 0, []⟩ 0 ⟨hz, hz, fun a ha => (by cases ha), Nat.le_refl _, Nat.zero_le _, Nat.le_refl _⟩
  have h1 := lines_sum t []
  have h2 := len_le_sum (linesOf t [])
  simp only [List.length_nil] at h1
  refine ⟨g1, g2, g3, g4, ?_, ?_⟩
  · show ((goP (linesOf t []) 0 ⟨0, 0, 0, []⟩).1.2.2.map wtA).sum ≤ _
    omega
  · rcases g6 with g6 | ⟨k1, k2, k3, k4⟩
    · exact .inl g6
    · refine .inr ⟨?_, ?_, k3, k4⟩
      · show (1 : Int) ≤ (goP (linesOf t []) 0 ⟨0, 0, 0, []⟩).2.1; omega
      · show (goP (linesOf t []) 0 ⟨0, 0, 0, []⟩).2.1 ≤ _; omega
end Go.Proofs.YtkfjjmmpbfjhaaaGreatDoor.Tells
