/- script.number, and the readers of one word (text, num and their closures), walked. Conditions: those that each theorem states. -/
import Derived.Test.YtkfjjmmpbfjhaaaGreatDoorScrB
import Derived.Lib.AtoiAllCases
import Derived.Lib.AtoiErrMem
import Derived.Lib.ItoaLen
namespace Go.Proofs.YtkfjjmmpbfjhaaaGreatDoor.Tells
open Go.RowKit Go.Proofs.YtkfjjmmpbfjhaaaGreatDoor.Facts Go.Proofs.YtkfjjmmpbfjhaaaGreatDoor.PScriptActs Go.Proofs.YtkfjjmmpbfjhaaaGreatDoorW.PrintWords Go.Proofs.YtkfjjmmpbfjhaaaGreatDoorW.PrintLast Go.Proofs.YtkfjjmmpbfjhaaaGreatDoorW.PrintMore
attribute [local go_sem] max2_int min2_int max_two min_two max_three min_three max_four min_four
set_option linter.unusedVariables false
set_option linter.unusedSimpArgs false
def isDig (c : UInt8) : Bool := decide (48 ≤ c.toNat) && decide (c.toNat ≤ 57)
/-- a number word's number -/
def numW (l : List UInt8) : Option Int :=
  if (Lib.trimPrefix l [45]).all isDig = true then
    match Lib.atoiAll l with
    | .ok v => if Lib.itoa v = l then some v else none
    | _ => none
  else none
/-- the number that stands beside -/
def numN (l : List UInt8) : Int :=
  if (Lib.trimPrefix l [45]).all isDig = true then
    match Lib.atoiAll l with
    | .ok v => v
    | .range => Lib.atoiSat l
    | _ => 0
  else 0
theorem numN_of {l : List UInt8} {v : Int} (h : numW l = some v) : numN l = v := by
  unfold numW at h
  unfold numN
  by_cases hd : (Lib.trimPrefix l [45]).all isDig = true
  · rw [if_pos hd] at h ⊢
    cases ha : Lib.atoiAll l with
    | ok u =>
      rw [ha] at h
      simp only at h ⊢
      split at h
      · cases h; rfl
      · cases h
    | _ => rw [ha] at h; cases h
  · rw [if_neg hd] at h; cases h
/-- what the readers want of the world -/
structure Env (w : World) : Prop where
  pow : Pow w
  nib : Nib w
  syn : ∃ t p, w.cell? ⟨7, 0, none⟩ = some (.iface t p)
  rng : ∃ t p, w.cell? ⟨8, 0, none⟩ = some (.iface t p)
theorem Env.below {w w' : World} (h : Env w) (hB : Below w.heap.size w w') : Env w' :=
  ⟨h.pow.below hB, h.nib.below hB, by obtain ⟨t, p, e⟩ := h.syn; exact ⟨t, p, pw_cell_below hB e⟩, by obtain ⟨t, p, e⟩ := h.rng; exact ⟨t, p, pw_cell_below hB e⟩⟩
theorem dig_rune (s : ByteArray) (pos : Nat) (hp : pos < s.size) : (isDig (s[pos]'hp) = true → 48 ≤ (Utf8.decode s pos).1 ∧ (Utf8.decode s pos).1 ≤ 57 ∧ (Utf8.decode s pos).2 = 1) ∧ (isDig (s[pos]'hp) = false → (Utf8.decode s pos).1 < 48 ∨ 57 < (Utf8.decode s pos).1) := by
  by_cases ha : (s[pos]'hp).toNat < 128
  · rw [decode_ascii s pos hp ha]
    unfold isDig
    refine ⟨fun h => ?_, fun h => ?_⟩
    · simp at h; exact ⟨h.1, h.2, rfl⟩
    · simp at h; first | done | omega | (simp only; omega)
  · obtain ⟨h1, _⟩ := decode_high s pos hp (by omega)
    have : isDig (s[pos]'hp) = false := by
      unfold isDig
      rw [decide_eq_false (show ¬ (s[pos]'hp).toNat ≤ 57 by omega), Bool.and_false]
    rw [this]
    exact ⟨fun h => (by cases h), fun _ => .inr (by omega)⟩
set_option maxHeartbeats 4000000 in
set_option maxRecDepth 100000 in
theorem number2_calls (s : ByteArray) (hs : s.size ≤ 1073741824) (w : World) (E : Env w) : Calls Tryz.prog 91 #[.string s] w fun e w' => e = .returned (.tuple #[.int .i64 (numN (bl s)), .bool (numW (bl s)).isSome]) ∧ Below w.heap.size w w' := by
  obtain ⟨t, ht⟩ : ∃ t : ByteArray, t = ⟨(Lib.trimPrefix (bl s) [45]).toArray⟩ := ⟨_, rfl⟩
  have hc := Tryz.strings_TrimPrefix s ⟨#[45]⟩ w
  have e1 : (⟨#[45]⟩ : ByteArray).data.toList = [45] := rfl
  rw [e1, ← ht] at hc
  have htl : bl t = Lib.trimPrefix (bl s) [45] := by rw [ht]
  have HE := Aside0.mk E
  have HTL := Aside0.mk htl
  clear e1 ht E htl
  go_enter Tryz.func91, Tryz.ntmps91
  go_wp2_with (go_at_call 107; refine hc.mono ?_; rintro e w ⟨rfl, rfl⟩)
  clear hc
  go_loopw [] (fun wr => ∃ pos : Nat, wr.heap[w.heap.size]? = some (.stringIter t pos) ∧ Below w.heap.size w wr ∧ pos ≤ t.size ∧ Aside0 (((bl t).take pos).all isDig = true)) (fun wr => t.size - wr.iterPos w.heap.size)
  case atStart => exact ⟨0, World.iter_heap w t 0, (Below.refl _ _).alloc (Nat.le_refl _) _, by omega, ⟨rfl⟩⟩
  case round =>
    obtain ⟨pos, hit, hbw, hle, HAL⟩ := hrel
    have hpos0 := Aside0.mk (iterPos_of hit)
    by_cases hp : pos < t.size
    · have hnx : ∀ ty, (Instr.next (.pointer (some ⟨w.heap.size, 0, none⟩)) true ty).run Tryz.prog wr = _ := fun ty => Lib.run_next_any_at wr w.heap.size t pos ty hit hp
      obtain ⟨hd1, hd2⟩ := dig_rune t pos hp
      have hget := bl_get t pos hp
      have hit2 := Lib.iterAt_heap wr w.heap.size t pos (pos + (Utf8.decode t pos).2) hit
      have hbw2 := Lib.below_iterAt hbw (k := w.heap.size) (Nat.le_refl _) t (pos + (Utf8.decode t pos).2)
      obtain ⟨W1, hW1⟩ : ∃ W1, W1 = wr.iterAt w.heap.size t (pos + (Utf8.decode t pos).2) := ⟨_, rfl⟩
      rw [← hW1] at hnx hit2 hbw2
      obtain ⟨r, hr⟩ : ∃ r, (Utf8.decode t pos).1 = r := ⟨_, rfl⟩
      obtain ⟨wd, hwd⟩ : ∃ wd, (Utf8.decode t pos).2 = wd := ⟨_, rfl⟩
      rw [hr] at hnx hd1 hd2
      rw [hwd] at hit2 hd1
      by_cases hdg : isDig (t[pos]'hp) = true
      · obtain ⟨k1, k2, rfl⟩ := hd1 hdg
        have b1 : decide ((r : Int) < 48) = false := decide_eq_false (by omega)
        have b2 : decide ((57 : Int) < (r : Int)) = false := decide_eq_false (by omega)
        have HAL2 : Aside0 (((bl t).take (pos + 1)).all isDig = true) := ⟨by rw [List.take_add_one, hget]; simp; exact ⟨by simpa using HAL.out, hdg⟩⟩
        have HMS : Aside0 (t.size - W1.iterPos w.heap.size < t.size - wr.iterPos w.heap.size) := ⟨by rw [iterPos_of hit2, hpos0.out]; omega⟩
        clear hW1 hr hwd hd1 hd2 hdg hget hit hbw hpos0
        go_wp2_with fail
        go_roundw
        case rel => exact ⟨pos + 1, hit2, hbw2, by omega, HAL2⟩
        case measure => exact HMS.out
      · have hdg' : isDig (t[pos]'hp) = false := by simpa using hdg
        have hna : ¬ (Lib.trimPrefix (bl s) [45]).all isDig = true := by
          rw [← HTL.out]
          intro h
          have := List.all_eq_true.1 h _ (List.mem_of_getElem? hget)
          rw [hdg'] at this; cases this
        have hno : numW (bl s) = none ∧ numN (bl s) = 0 := ⟨by unfold numW; rw [if_neg hna], by unfold numN; rw [if_neg hna]⟩
        clear hna
        have HB2 := Aside0.mk hbw2
        have hrr := hd2 hdg'
        clear hW1 hr hwd hd1 hd2 hdg hdg' hget hit hbw hpos0
        have HNO := Aside0.mk hno
        clear hno
        by_cases h48 : r < 48
        · have b1 : decide ((r : Int) < 48) = true := decide_eq_true (by omega)
          go_wp2_with fail
          go_ret2
          exact ⟨by rw [HNO.out.1, HNO.out.2]; rfl, HB2.out⟩
        · have b1 : decide ((r : Int) < 48) = false := decide_eq_false (by omega)
          have b2 : decide ((57 : Int) < (r : Int)) = true := decide_eq_true (by omega)
          go_wp2_with fail
          go_ret2
          exact ⟨by rw [HNO.out.1, HNO.out.2]; rfl, HB2.out⟩
    · have hnx : ∀ ty, (Instr.next (.pointer (some ⟨w.heap.size, 0, none⟩)) true ty).run Tryz.prog wr = _ := fun ty => Lib.run_next_end_at wr w.heap.size t pos ty hit hp
      have hall : (Lib.trimPrefix (bl s) [45]).all isDig = true := by
        rw [← HTL.out]
        have := HAL.out
        rwa [List.take_of_length_le (by rw [bl_len]; omega)] at this
      have hnw : numW (bl s) = (match Lib.atoiAll (bl s) with | .ok v => if Lib.itoa v = bl s then some v else none | _ => none) := by unfold numW; rw [if_pos hall]
      have hnn : numN (bl s) = (match Lib.atoiAll (bl s) with | .ok v => v | .range => Lib.atoiSat (bl s) | _ => 0) := by unfold numN; rw [if_pos hall]
      have HB := Aside0.mk hbw
      have HE2 := Aside0.mk (HE.out.below hbw)
      clear hit hbw hpos0 hall
      cases hat : Lib.atoiAll (bl s) with
      | ok v =>
        rw [hat] at hnw hnn
        simp only at hnw hnn
        have hbd := Lib.atoiAll_bounds hat
        have hA : Aside0 (∀ W, Calls Tryz.prog 108 #[.string s] W fun e w' => e = .returned (.tuple #[.int .i64 v, .nilIface]) ∧ Below W.heap.size W w') := ⟨fun W => (Tryz.strconv_Atoi_ok s (by omega) v hat W).mono fun e w' ⟨he, hw⟩ => ⟨he, by
          rcases hw with rfl | ⟨x, rfl⟩
          · exact Below.refl _ _
          · exact Lib.bytesWorld_below _ _ _⟩⟩
        have hI : Aside0 (∀ W, Env W → Calls Tryz.prog 44 #[.int .i64 v] W fun e w' => e = .returned (.string ⟨(Lib.itoa v).toArray⟩) ∧ Below W.heap.size W w') := ⟨fun W EW => (Tryz.strconv_Itoa v hbd.1 hbd.2 W EW.pow).mono fun e w' ⟨he, k, os, hw⟩ => ⟨he, by rw [hw]; first | exact Lib.below_grow _ _ (Nat.le_refl _) _ _ | exact below_grow _ _ (Nat.le_refl _) _ _⟩⟩
        have HNW := Aside0.mk hnw
        have HNN := Aside0.mk hnn
        clear hnw hnn hat hbd
        go_wp2_with (first
          | (go_at_call 108; refine (hA.out _).mono ?_; rintro e w2 ⟨rfl, hb2⟩; have HB2 := Aside0.mk (below_then HB.out HB.out.size hb2); have HE3 := Aside0.mk (HE2.out.below hb2); clear hb2)
          | (go_at_call 44; refine (hI.out _ HE3.out).mono ?_; rintro e w3 ⟨rfl, hb3⟩; have HB3 := Aside0.mk (below_then HB2.out HB2.out.size hb3); clear hb3))
        go_ret2
        refine ⟨?_, HB3.out⟩
        have e : (Lib.itoa v == s.toList) = (numW (bl s)).isSome := by
          rw [HNW.out, ByteArray.toList_eq]
          by_cases h : Lib.itoa v = bl s
          · rw [if_pos h, h]; simp
          · rw [if_neg h]; simpa using h
        rw [← e, HNN.out]
        rfl
      | range =>
        rw [hat] at hnw hnn
        have HNO := Aside0.mk (And.intro hnw hnn)
        obtain ⟨te, pe, hv⟩ := HE2.out.rng
        have hcall := Tryz.strconv_Atoi_range s (by omega) hat _ wr hv (.inr ⟨te, pe, rfl⟩)
        clear hnw hnn hat hv
        go_wp2_with (first
          | (go_at_call 108; refine hcall.mono ?_; rintro e w2 ⟨N, rfl, _, _, hb2⟩; have HB2 := Aside0.mk (below_then HB.out HB.out.size hb2); clear hb2))
        go_ret2
        exact ⟨by rw [HNO.out.1, HNO.out.2]; rfl, HB2.out⟩
      | _ =>
        rw [hat] at hnw hnn
        have HNO := Aside0.mk (And.intro hnw hnn)
        obtain ⟨te, pe, hv⟩ := HE2.out.syn
        have hcall := Tryz.strconv_Atoi_syntax s (by omega) hat _ wr hv (.inr ⟨te, pe, rfl⟩)
        clear hnw hnn hat hv
        go_wp2_with (first
          | (go_at_call 108; refine hcall.mono ?_; rintro e w2 ⟨N, rfl, _, _, hb2⟩; have HB2 := Aside0.mk (below_then HB.out HB.out.size hb2); clear hb2))
        go_ret2
        exact ⟨by rw [HNO.out.1, HNO.out.2]; rfl, HB2.out⟩
/-- one cell written: what else is there stays -/
theorem below_set {w0 w : World} {B : Nat} (h : Below B w0 w) (p : Addr) (hp : B ≤ p.block) (v : Value) : Below B w0 (w.setCell p v) :=
  h.trans ⟨rfl, rfl, rfl, by simp [World.setCell], fun i hi => Below.heap_setCell w p v i (show i ≠ p.block by omega)⟩
/-- the string that a reader leaves where its word is to go -/
def unwT (l : List UInt8) : ByteArray := match unwS l with | some o => ⟨o.toArray⟩ | none => ⟨#[]⟩
theorem unwV_eq (l : List UInt8) : unwV (unwS l) = .tuple #[.string (unwT l), .bool (unwS l).isSome] := by
  unfold unwT
  cases unwS l <;> rfl
/-- nothing that was there is written but block g, which is now o -/
structure Wrote (w : World) (g : Nat) (o : Obj) (w' : World) : Prop where
  os : w'.os = w.os
  tape : w'.tape = w.tape
  output : w'.output = w.output
  size : w.heap.size ≤ w'.heap.size
  block : ∀ k, k < w.heap.size → k ≠ g → w'.heap[k]? = w.heap[k]?
  at_ : w'.heap[g]? = some o
theorem Wrote.then {w w1 w2 : World} {g : Nat} {o : Obj} (h : Wrote w g o w1) (hb : Below w1.heap.size w1 w2) : Wrote w g o w2 :=
  ⟨hb.os.trans h.os, hb.tape.trans h.tape, hb.output.trans h.output, Nat.le_trans h.size hb.size, fun k hk hn => (hb.block k (Nat.lt_of_lt_of_le hk h.size)).trans (h.block k hk hn), (hb.block g (blk_lt h.at_)).trans h.at_⟩
theorem Wrote.again {w w1 w2 : World} {g : Nat} {o o2 : Obj} (h : Wrote w g o w1) (h2 : Wrote w1 g o2 w2) : Wrote w g o2 w2 :=
  ⟨h2.os.trans h.os, h2.tape.trans h.tape, h2.output.trans h.output, Nat.le_trans h.size h2.size, fun k hk hn => (h2.block k (Nat.lt_of_lt_of_le hk h.size) hn).trans (h.block k hk hn), h2.at_⟩
theorem Wrote.of {w w' : World} {g : Nat} {o : Obj} (hb : Below w.heap.size w w') (h : w.heap[g]? = some o) : Wrote w g o w' :=
  ⟨hb.os, hb.tape, hb.output, hb.size, fun k hk _ => hb.block k hk, (hb.block g (blk_lt h)).trans h⟩
theorem Wrote.set {w w' : World} {g i : Nat} {cs : Array Value} {t : TypeId} (hb : Below w.heap.size w w') (h : w.heap[g]? = some (.cells cs t (0, 0))) (v : Value) : Wrote w g (.cells (cs.setIfInBounds i v) t (0, 0)) (w'.setCell ⟨g, i, none⟩ v) :=
  ⟨hb.os, hb.tape, hb.output, by have := hb.size; simpa [World.setCell] using this, fun k hk hn => (Below.heap_setCell w' _ v k (show k ≠ g from hn)).trans (hb.block k hk), blk_set ((hb.block g (blk_lt h)).trans h) i v⟩
theorem Wrote.below {w w' : World} {g B : Nat} {o : Obj} (h : Wrote w g o w') (hB : B ≤ g) (hs : B ≤ w.heap.size) : Below B w w' := ⟨h.os, h.tape, h.output, h.size, fun k hk => h.block k (by omega) (by omega)⟩
end Go.Proofs.YtkfjjmmpbfjhaaaGreatDoor.Tells
