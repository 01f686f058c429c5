/- script.Tell, walked: what it answers of any answer. Conditions: those that the theorem states. -/
import Derived.Test.YtkfjjmmpbfjhaaaDoorTellCalls
import Derived.Test.YtkfjjmmpbfjhaaaDoorPScriptTellsx3
import Derived.Outline
import Derived.IntWalk
import Derived.WalkSpells
import Derived.Lib.ItoaNum
import Derived.Lib.ItoaLen
import Derived.Lib.SplitLaws
import Derived.Lib.AppendIntMem
import Derived.Lib.Replace
import Derived.Deep.QuietTactic
import Derived.BigQuiet
import Derived.Deep.MidRow
import Derived.ArgAppend
import Derived.Lib.AppendStr
import Derived.Lib.UnsafeStr
import Derived.Lib.SlBytesConst
namespace Go.Proofs.YtkfjjmmpbfjhaaaDoor.Tells
open Go.RowKit Go.Proofs.YtkfjjmmpbfjhaaaDoor.PScriptTells Go.Proofs.YtkfjjmmpbfjhaaaDoorW.PrintWords Go.Proofs.YtkfjjmmpbfjhaaaDoorW.PrintLast Go.Proofs.YtkfjjmmpbfjhaaaDoorW.PrintMore
attribute [local go_sem] max2_int min2_int max_two min_two max_three min_three max_four min_four
set_option linter.unusedVariables false
set_option linter.unusedSimpArgs false
structure AnsT where
  code : Int
  cls : ByteArray
  sel : ByteArray
  at_ : Int
  num : Int
  st : Int
  used : Int
  text : ByteArray
def AnsT.v (a : AnsT) : Value := .agg #[.int .i64 a.code, .string a.cls, .string a.sel, .int .i64 a.at_, .int .i64 a.num, .int .i64 a.st, .int .i64 a.used, .string a.text]
def inI (x : Int) : Prop := -9223372036854775808 ≤ x ∧ x ≤ 9223372036854775807
structure AnsT.ok (a : AnsT) : Prop where
  code : inI a.code
  at_ : inI a.at_
  num : inI a.num
  st : inI a.st
  used : inI a.used
  cls : a.cls.size ≤ 1048576
  sel : a.sel.size ≤ 1048576
  text : a.text.size ≤ 1048576
theorem lit_C {α : Type} (enc : α → Value) (h1 : ∀ x, (enc x).oneCell' = true) (W : World) (e : TypeId) (l : List α) (hl : l.length ≤ 9223372036854775807) : (Kd.scalar enc h1).C (W.alloc (.cells (l.map enc).toArray e)) (some ⟨W.heap.size, 0, none⟩) l.length l := by
  refine ⟨rfl, hl, fun _ => ⟨_, rfl, fun j p hj => ⟨[enc p], rfl, rfl, fun i u hu => ?_⟩⟩⟩
  have hi : i = 0 := by have := (List.getElem?_eq_some_iff.1 hu).1; simpa using this
  subst hi
  have hu' : u = enc p := by simpa using hu.symm
  subst hu'
  have := World.news_of_block (cs := (l.map enc).toArray) (t := e) (fr := (0, 0)) (heap_alloc_new W (.cells (l.map enc).toArray e)) j (enc p) (by simp [hj])
  rw [show j * (Kd.scalar enc h1).sz + 0 = j from by show j * 1 + 0 = j; omega]
  exact this
theorem lit_R (W : World) (l : List ByteArray) (hl : l.length ≤ 9223372036854775807) : Kd.R Kd.string 9 (W.alloc (.cells (l.map Value.string).toArray 9)) W.heap.size (fun _ => True) (.slice (some ⟨W.heap.size, 0, none⟩) l.length l.length) l := by
  have h2 := World.ownsRow_lit (base := W.heap.size) (e := 9) (size := 1) W (l.map Value.string).toArray l.length (Nat.le_refl _) (by unfold maxLen; omega) (by simp)
  refine Kd.R_of_own (enc := Value.string) (h1 := fun _ => rfl) ?_ (fun _ _ => trivial)
  simpa [encs] using h2
theorem below_le {B B' : Nat} {w w' : World} (h : Below B w w') (hB : B' ≤ B) : Below B' w w' := ⟨h.os, h.tape, h.output, h.size, fun i hi => h.block i (Nat.lt_of_lt_of_le hi hB)⟩
def parts (a : AnsT) : List ByteArray := [({ data := #[97, 110, 115, 119, 101, 114] } : ByteArray)] ++ [a.code, a.num, a.st, a.used, a.at_].map itoaB ++ [a.cls, a.sel].map wordB
def headL (a : AnsT) : List UInt8 := Lib.join ((parts a).map (·.data.toList)) [32]
def tellL (a : AnsT) : List UInt8 := headL a ++ [10] ++ (if a.text.data.toList = [] then [] else [46, 32] ++ Lib.replaceAll (Lib.trimSuffix a.text.data.toList [10]) [10] [10, 46, 32] ++ [10])
theorem headL_len (a : AnsT) (h : a.ok) : (headL a).length ≤ 7000000 := by
  have l1 := Lib.itoa_length_le a.code h.code.1 h.code.2
  have l2 := Lib.itoa_length_le a.num h.num.1 h.num.2
  have l3 := Lib.itoa_length_le a.st h.st.1 h.st.2
  have l4 := Lib.itoa_length_le a.used h.used.1 h.used.2
  have l5 := Lib.itoa_length_le a.at_ h.at_.1 h.at_.2
  have w1 := encw_len a.cls.data.toList
  have w2 := encw_len a.sel.data.toList
  have s1 : a.cls.data.toList.length = a.cls.size := by rw [Array.length_toList]; rfl
  have s2 : a.sel.data.toList.length = a.sel.size := by rw [Array.length_toList]; rfl
  have := h.cls
  have := h.sel
  unfold headL parts
  simp only [List.map_cons, List.map_nil, List.cons_append, List.nil_append, Lib.join_cons, Lib.joinTail, itoaB, wordB, List.flatten_cons, List.flatten_nil, List.length_append, List.length_cons, List.length_nil]
  omega
set_option maxHeartbeats 4000000 in
set_option maxRecDepth 100000 in
theorem tell_calls (a : AnsT) (ha : a.ok) (m : Int) (w : World) (T : Pow w) (N : Nib w) (M : w.cell? ⟨1, 0, none⟩ = some (.int .i64 m)) :
    Calls Tryd.prog 4 #[a.v] w fun e w' => e = .returned (.string ⟨(tellL a).toArray⟩) ∧ Below w.heap.size w w' := by
  obtain ⟨code, cls, sel, at_, num, st, used, text⟩ := a
  have HA := Aside0.mk ha
  have HT := Aside0.mk T
  have HN := Aside0.mk N
  have HM := Aside0.mk M
  have hst := blk_new w (.cells #[.int .i64 code, .string cls, .string sel, .int .i64 at_, .int .i64 num, .int .i64 st, .int .i64 used, .string text] 26 (0, 0))
  have HST := Aside0.mk hst
  have d0 := (blk_cell hst 0).trans (show _ = some (.int .i64 code) from rfl)
  have d1 := (blk_cell hst 1).trans (show _ = some (.string cls) from rfl)
  have d2 := (blk_cell hst 2).trans (show _ = some (.string sel) from rfl)
  have d3 := (blk_cell hst 3).trans (show _ = some (.int .i64 at_) from rfl)
  have d4 := (blk_cell hst 4).trans (show _ = some (.int .i64 num) from rfl)
  have d5 := (blk_cell hst 5).trans (show _ = some (.int .i64 st) from rfl)
  have d6 := (blk_cell hst 6).trans (show _ = some (.int .i64 used) from rfl)
  have d7 := (blk_cell hst 7).trans (show _ = some (.string text) from rfl)
  clear ha T N M hst
  unfold AnsT.v
  go_enter Tryd.func4, Tryd.ntmps4
  go_wp2_with fail
  obtain ⟨w1, hw1⟩ : ∃ w1, w1 = w.alloc (Obj.cells #[Value.int .i64 code, Value.string cls, Value.string sel, Value.int .i64 at_, Value.int .i64 num, Value.int .i64 st, Value.int .i64 used, Value.string text] 26) := ⟨_, rfl⟩
  obtain ⟨w2, hw2⟩ : ∃ w2, w2 = w1.alloc (Obj.cells #[Value.string { data := #[97, 110, 115, 119, 101, 114] }] 9) := ⟨_, rfl⟩
  have hs1 : w1.heap.size = w.heap.size + 1 := by rw [hw1]; simp
  have hs2 : w2.heap.size = w.heap.size + 1 + 1 := by rw [hw2]; simp [hs1]
  have hB1 : Below w.heap.size w w1 := by rw [hw1]; exact below_alloc (Below.refl _ _) _
  have hB2 : Below w1.heap.size w1 w2 := by rw [hw2]; exact below_alloc (Below.refl _ _) _
  have hC := lit_C (Value.int .i64) (fun _ => rfl) w2 3 [code, num, st, used, at_] (by simp)
  have hR := lit_R w1 [{ data := #[97, 110, 115, 119, 101, 114] }] (by decide)
  rw [hs2] at hC
  rw [hs1] at hR
  have hR2 : Kd.R Kd.string 9 w2 (w.heap.size + 1) (fun _ => True) (.slice (some ⟨w.heap.size + 1, 0, none⟩) 1 1) [{ data := #[97, 110, 115, 119, 101, 114] }] := by rw [hw2]; exact hR
  rw [← hw1] at HST d0 d1 d2 d3 d4 d5 d6 d7
  rw [← hw1, ← hw2]
  have hB3 : Below w2.heap.size w2 (w2.alloc (Obj.cells #[Value.int .i64 code, Value.int .i64 num, Value.int .i64 st, Value.int .i64 used, Value.int .i64 at_] 3)) := below_alloc (Below.refl _ _) _
  have hC3 : Kd.C (Kd.int .i64) (w2.alloc (Obj.cells #[Value.int .i64 code, Value.int .i64 num, Value.int .i64 st, Value.int .i64 used, Value.int .i64 at_] 3)) (some ⟨w.heap.size + 1 + 1, 0, none⟩) 5 [code, num, st, used, at_] := hC
  generalize w2.alloc (Obj.cells #[Value.int .i64 code, Value.int .i64 num, Value.int .i64 st, Value.int .i64 used, Value.int .i64 at_] 3) = w3 at *
  clear hC hR hw1 hw2
  have hB23 : Below w.heap.size w w3 := below_then (below_then hB1 hB1.size hB2) (by omega) hB3
  have hrange : ∀ x ∈ [code, num, st, used, at_], -9223372036854775808 ≤ x ∧ x ≤ 9223372036854775807 := by
    have h := HA.out
    intro x hx
    simp only [List.mem_cons, List.not_mem_nil, or_false] at hx
    rcases hx with rfl | rfl | rfl | rfl | rfl
    · exact h.code
    · exact h.num
    · exact h.st
    · exact h.used
    · exact h.at_
  refine (numbers_calls w3 (some ⟨w.heap.size + 1 + 1, 0, none⟩) 5 [code, num, st, used, at_] hC3 (by simp) hrange (by simp) (HT.out.below hB23)).mono ?_; rintro e w4 ⟨v4, rfl, hR4, hB4⟩
  obtain ⟨A4, c4, rfl, k4, hC4⟩ := Kd.R_reads hR4
  have HR2 := Aside0.mk (Kd.R_below hR2 (below_then hB3 hB3.size hB4))
  have HC4 := Aside0.mk hC4
  have HW4 := Aside0.mk (below_then hB23 (by have := hB3.size; omega) hB4)
  have HB1 := Aside0.mk hB1
  have HB14 := Aside0.mk (below_then hB2 hB2.size (below_then hB3 hB3.size hB4))
  clear hR4 hB4 hC4 hR2 hC3 hB3 hB2 hB1 hB23 d0 d1 d2 d3 d4 d5 d6 d7
  have hs4 : w.heap.size + 1 ≤ w4.heap.size := by have := HB14.out.size; omega
  go_wp2_with (at_builtin; refine Kd.R_append_rows Kd.string (Rr := Kd.string.K w4) (w0 := w1) (w.heap.size + 1) rfl (.tmp 5) (.tmp 19) 29 9 (.string ⟨#[]⟩) 16 rfl Tryd.underlying29 info9 rfl (by decide) (by omega) (.slice (some ⟨w.heap.size + 1, 0, none⟩) 1 1) [{ data := #[97, 110, 115, 119, 101, 114] }] ([code, num, st, used, at_].map itoaB) A4 5 c4 (fun _ => True) (fun _ => False) rfl rfl (by exact HR2.out) (by exact HC4.out) (fun _ _ h => h) (fun _ hk => hk.elim) (fun _ _ => trivial) (by have := HB14.out; rw [hs1] at this; exact this) (by exact hs4) (by simp) ?_; intro v5 w5 hown hb hgw hat; have HOW := Aside0.mk hown; have HB5 := Aside0.mk hb; have hst5 := (hb.block w.heap.size (by omega)).trans HST.out; have HST5 := Aside0.mk hst5; have d1 := (blk_cell hst5 1).trans (show _ = some (.string cls) from rfl); have d2 := (blk_cell hst5 2).trans (show _ = some (.string sel) from rfl); clear hown hgw hat hb hst5)
  have hC5 := lit_C Value.string (fun _ => rfl) w5 9 [cls, sel] (by simp)
  have hB6 : Below w5.heap.size w5 (w5.alloc (Obj.cells #[Value.string cls, Value.string sel] 9)) := below_alloc (Below.refl _ _) _
  have hC6 : Kd.C Kd.string (w5.alloc (Obj.cells #[Value.string cls, Value.string sel] 9)) (some ⟨w5.heap.size, 0, none⟩) 2 [cls, sel] := hC5
  have hs5 := HB5.out.size
  generalize w5.alloc (Obj.cells #[Value.string cls, Value.string sel] 9) = w6 at *
  clear hC5 d1 d2
  have HW5 := Aside0.mk (HB1.out.trans (below_le HB5.out (Nat.le_succ _)))
  have hw5 := HW5.out.size
  have HW6 := Aside0.mk (below_then HW5.out hw5 hB6)
  have hrange2 : ∀ x ∈ [cls, sel], x.size ≤ 1048576 := by
    have h := HA.out
    intro x hx
    simp only [List.mem_cons, List.not_mem_nil, or_false] at hx
    rcases hx with rfl | rfl
    · exact h.cls
    · exact h.sel
  refine (texts_calls w6 (some ⟨w5.heap.size, 0, none⟩) 2 [cls, sel] hC6 (by simp) hrange2 (by simp) (HN.out.below HW6.out)).mono ?_; rintro e w7 ⟨v7, rfl, hR7, hB7⟩
  obtain ⟨A7, c7, rfl, k7, hC7⟩ := Kd.R_reads hR7
  have hB57 := below_then hB6 hB6.size hB7
  have HR57 := Aside0.mk (Kd.R_below HOW.out hB57)
  have HC7 := Aside0.mk hC7
  have HB17 := Aside0.mk (below_then HB5.out (by omega) hB57)
  have HW7 := Aside0.mk (below_then HW5.out hw5 hB57)
  have HST7 := Aside0.mk (blk_below HST5.out hB57)
  have hs7 : w.heap.size + 1 ≤ w7.heap.size := by have := hB57.size; omega
  clear hR7 hB7 hC7 hC6 hB6 HOW HB5 HST5 hB57 HW6 HST
  go_wp2_with (at_builtin; refine Kd.R_append_rows Kd.string (Rr := Kd.string.K w7) (w0 := w1) (w.heap.size + 1) rfl (.tmp 21) (.tmp 29) 29 9 (.string ⟨#[]⟩) 16 rfl Tryd.underlying29 info9 rfl (by decide) (by omega) v5 ([({ data := #[97, 110, 115, 119, 101, 114] } : ByteArray)] ++ [code, num, st, used, at_].map itoaB) ([cls, sel].map wordB) A7 2 c7 (fun _ => True) (fun _ => False) rfl rfl (by exact HR57.out) (by exact HC7.out) (fun _ _ h => h) (fun _ hk => hk.elim) (fun _ _ => trivial) (by exact HB17.out) (by exact hs7) (by simp) ?_; intro v8 w8 hown hb hgw hat; have HOW := Aside0.mk hown; have HB8 := Aside0.mk hb; clear hown hgw hat hb)
  have hst8 := (HB8.out.block w.heap.size (by omega)).trans ((HB17.out.block w.heap.size (by omega)).symm.trans HST7.out)
  have HST8 := Aside0.mk hst8
  have HW8 := Aside0.mk (HB1.out.trans (below_le HB8.out (Nat.le_succ _)))
  have hpp : Kd.R Kd.string 9 w8 (w.heap.size + 1) (fun _ => True) v8 (parts ⟨code, cls, sel, at_, num, st, used, text⟩) := HOW.out
  obtain ⟨g8, c8, rfl, _, hg8, _⟩ := Kd.R_form hpp (by simp [parts])
  obtain ⟨_, k8, hC8⟩ := Kd.R_reads' hpp
  have hcells : ∀ (j : Nat) x, (parts ⟨code, cls, sel, at_, num, st, used, text⟩)[j]? = some x → w8.cell? ⟨g8, 0 + j, none⟩ = some (.string x) := by
    intro j x hx
    have hj := (List.getElem?_eq_some_iff.1 hx).1
    obtain ⟨ad, e, hc⟩ := Kd.at_string hC8 (j : Int) (by omega) (by omega)
    cases e
    rw [Int.toNat_natCast, add_plain] at hc
    rw [Nat.zero_add, hc]
    unfold rdOf
    rw [Int.toNat_natCast, List.getD_eq_getElem?_getD, hx]; rfl
  have hhl := headL_len _ HA.out
  have HJ : Aside0 (Calls Tryd.prog 7 #[.slice (some ⟨g8, 0, none⟩) (parts ⟨code, cls, sel, at_, num, st, used, text⟩).length c8, .string { data := #[32] }] w8 fun e w' => e = .returned (.string ⟨(headL ⟨code, cls, sel, at_, num, st, used, text⟩).toArray⟩) ∧ Below w8.heap.size w8 w') := ⟨Tryd.strings_Join g8 0 c8 (parts ⟨code, cls, sel, at_, num, st, used, text⟩) { data := #[32] } w8 hcells hg8 (by simp [parts]) k8 (by exact Nat.le_trans hhl (by omega))⟩
  obtain ⟨H, hH⟩ : ∃ H, headL ⟨code, cls, sel, at_, num, st, used, text⟩ = H := ⟨_, rfl⟩
  rw [hH] at HJ hhl
  have HH := Aside0.mk hH
  clear hH
  clear hst8 hpp hC8 hcells HOW HR57 HC7 HB17 HW7 HST7 HB8
  refine (by exact HJ.out : Calls Tryd.prog 7 _ _ _).mono ?_; rintro e w9 ⟨rfl, hB9⟩
  have HW9 := Aside0.mk (below_then HW8.out HW8.out.size hB9)
  have hst9 := blk_below HST8.out hB9
  have HST9 := Aside0.mk hst9
  have d7 := (blk_cell hst9 7).trans (show _ = some (.string text) from rfl)
  have hsum1 : ¬ (9223372036854775807 < H.length + 1) := by omega
  clear hB9 hst9 HST8 HJ
  have hsum2 : ¬ (9223372036854775807 < H.length + 1 + 2) := by omega
  cases hte : text.toList.isEmpty with
  | true =>
    go_wp2
    go_ret
    refine ⟨?_, HW9.out⟩
    have ht : text.data.toList = [] := by rw [← ByteArray.toList_eq]; exact List.isEmpty_iff.1 hte
    have e : tellL ⟨code, cls, sel, at_, num, st, used, text⟩ = H ++ [10] := by unfold tellL; rw [HH.out]; simp [ht]
    rw [e]
    have e2 : (({ data := H.toArray } : ByteArray) ++ { data := #[10] }) = ⟨(H ++ [10]).toArray⟩ := by apply ByteArray.ext; rw [ByteArray.data_append]; simp
    exact congrArg (fun x => Ending.returned (Value.string x)) e2
  | false =>
    go_wp2_with fail
    refine (Tryd.strings_TrimSuffix text { data := #[10] } w9 (by have := HA.out.text; simp at this; omega)).mono ?_; rintro e w' ⟨rfl, hw'⟩
    subst hw'
    have ht : text.data.toList ≠ [] := by rw [← ByteArray.toList_eq]; intro e; rw [e] at hte; simp at hte
    have HTN := Aside0.mk ht
    have hrl : (Lib.trimSuffix text.data.toList [10]).length ≤ 1048576 := by
      have h1 := HA.out.text
      have h2 : text.data.toList.length = text.size := by rw [Array.length_toList]; rfl
      simp only at h1
      unfold Lib.trimSuffix
      split
      · rw [List.length_take]; omega
      · omega
    have HRQ : Aside0 (tellL ⟨code, cls, sel, at_, num, st, used, text⟩ = H ++ [10] ++ ([46, 32] ++ Lib.replaceAll (Lib.trimSuffix text.data.toList [10]) [10] [10, 46, 32] ++ [10])) := ⟨by unfold tellL; rw [HH.out, if_neg HTN.out]⟩
    have hcalls := fun (R : List UInt8) (hl : R.length ≤ 1048576) => Tryd.strings_ReplaceAll ⟨R.toArray⟩ { data := #[10] } { data := #[10, 46, 32] } m w' (by show R.toArray.size < _; rw [List.size_toArray]; omega) (pw_cell_below HW9.out HM.out) (by decide) (by
      have h1 := Lib.countB_le { data := #[10] } (by decide) R.length ⟨R.toArray⟩ (by show R.toArray.size ≤ _; rw [List.size_toArray]; exact Nat.le_refl _)
      have h2 : (⟨R.toArray⟩ : ByteArray).size = R.length := by show R.toArray.size = _; rw [List.size_toArray]
      have h3 : ({ data := #[10, 46, 32] } : ByteArray).size = 3 := rfl
      rw [h2] at h1
      rw [h2, h3]; omega)
    have hRR := Aside0.mk (hcalls _ hrl)
    have hQl : (Lib.replaceAll (Lib.trimSuffix text.data.toList [10]) [10] [10, 46, 32]).length ≤ 3145728 := by
      rw [replace_nl]
      have key : ∀ l : List UInt8, (l.flatMap nlF).length ≤ 3 * l.length := by
        intro l
        induction l with
        | nil => simp
        | cons c r ih =>
          rw [List.flatMap_cons, List.length_append, List.length_cons]
          have : (nlF c).length ≤ 3 := by unfold nlF; split <;> simp
          omega
      have := key (Lib.trimSuffix text.data.toList [10])
      omega
    obtain ⟨Q, hQ⟩ : ∃ Q, Lib.replaceAll (Lib.trimSuffix text.data.toList [10]) [10] [10, 46, 32] = Q := ⟨_, rfl⟩
    rw [hQ] at hQl HRQ
    have hRR2 : Aside0 (Calls Tryd.prog 9 #[.string ⟨(Lib.trimSuffix text.data.toList [10]).toArray⟩, .string { data := #[10] }, .string { data := #[10, 46, 32] }] w' fun e w2' => e = .returned (.string ⟨Q.toArray⟩) ∧ Below w'.heap.size w' w2') := ⟨by rw [← hQ]; exact hRR.out⟩
    have hsum3 : ¬ (9223372036854775807 < H.length + 1 + 2 + Q.length) := by omega
    have hsum4 : ¬ (9223372036854775807 < H.length + 1 + 2 + Q.length + 1) := by omega
    clear hQ hRR hcalls ht hrl
    go_wp2_with fail
    refine (by exact hRR2.out : Calls Tryd.prog 9 _ _ _).mono ?_; rintro e w10 ⟨rfl, hB10⟩
    have HW10 := Aside0.mk (below_then HW9.out HW9.out.size hB10)
    clear hB10 hRR2
    go_wp2
    go_ret
    refine ⟨?_, HW10.out⟩
    rw [HRQ.out]
    have e2 : (((({ data := H.toArray } : ByteArray) ++ { data := #[10] }) ++ { data := #[46, 32] }) ++ { data := Q.toArray }) ++ { data := #[10] } = ⟨(H ++ [10] ++ ([46, 32] ++ Q ++ [10])).toArray⟩ := by
      apply ByteArray.ext
      simp [ByteArray.data_append]
    exact congrArg (fun x => Ending.returned (Value.string x)) e2
end Go.Proofs.YtkfjjmmpbfjhaaaDoor.Tells
