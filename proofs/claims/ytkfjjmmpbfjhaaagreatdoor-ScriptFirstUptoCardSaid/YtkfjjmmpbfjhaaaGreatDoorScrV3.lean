/- The writers of the table of acts, walked. Words written are read back: byte words, numbers, in plain words. The print's lines of kilnref24.Words, kilnref24.number, kilnref24.room, kilnref24.kind (its own texts fall at another function). The reference's numbers in plain words: kilnref24.number takes just the words that Itoa writes. The print's lines of kilnref24.digit, kilnref24.Unwritten (its own texts fall at another function). The reference's byte words in plain words: kilnref24.Unwritten takes just the words that Written writes. The print's lines of kilnref24.read (its own texts fall at another function). The reference's reader of an act's words in plain words (kilnref24.read, kind). Conditions: those that each theorem states. -/
import Derived.Test.YtkfjjmmpbfjhaaaGreatDoorScrI
import Derived.Test.YtkfjjmmpbfjhaaaGreatDoorScrPA
import Derived.Test.YtkfjjmmpbfjhaaaGreatDoorScrPure
namespace Go.Proofs.YtkfjjmmpbfjhaaaGreatDoor.Tells
open Go.RowKit Go.Proofs.YtkfjjmmpbfjhaaaGreatDoor.Facts Go.Proofs.YtkfjjmmpbfjhaaaGreatDoor.PScriptActs Go.Proofs.YtkfjjmmpbfjhaaaGreatDoorW.PrintWords Go.Proofs.YtkfjjmmpbfjhaaaGreatDoorW.PrintLast Go.Proofs.YtkfjjmmpbfjhaaaGreatDoorW.PrintMore
attribute [local go_sem] max2_int min2_int max_two min_two max_three min_three max_four min_four
set_option linter.unusedVariables false
set_option linter.unusedSimpArgs false
theorem lit_C {α : Type} (enc : α → Value) (h1 : ∀ x, (enc x).oneCell' = true) (W : World) (e : TypeId) (l : List α) (hl : l.length ≤ 9223372036854775807) : (Kd.scalar enc h1).C (W.alloc (.cells (l.map enc).toArray e)) (some ⟨W.heap.size, 0, none⟩) l.length l := by
  refine ⟨rfl, hl, fun _ => ⟨_, rfl, fun j p hj => ⟨[enc p], rfl, rfl, fun i u hu => ?_⟩⟩⟩
  have hi : i = 0 := by have := (List.getElem?_eq_some_iff.1 hu).1; simpa using this
  subst hi
  have hu' : u = enc p := by simpa using hu.symm
  subst hu'
  have := World.news_of_block (cs := (l.map enc).toArray) (t := e) (fr := (0, 0)) (heap_alloc_new W (.cells (l.map enc).toArray e)) j (enc p) (by simp [hj])
  rw [show j * (Kd.scalar enc h1).sz + 0 = j from by show j * 1 + 0 = j; omega]
  exact this
theorem lit_R (W : World) (l : List ByteArray) (hl : l.length ≤ 9223372036854775807) : Kd.R Kd.string 9 (W.alloc (.cells (l.map Value.string).toArray 9)) W.heap.size (fun _ => True) (.slice (some ⟨W.heap.size, 0, none⟩) l.length l.length) l := by
  have h2 := World.ownsRow_lit (base := W.heap.size) (e := 9) (size := 1) W (l.map Value.string).toArray l.length (Nat.le_refl _) (by unfold maxLen; omega) (by simp)
  refine Kd.R_of_own (enc := Value.string) (h1 := fun _ => rfl) ?_ (fun _ _ => trivial)
  simpa [encs] using h2
def inI (x : Int) : Prop := -9223372036854775808 ≤ x ∧ x ≤ 9223372036854775807
/-- what an act may hold: the second form's bulk -/
structure Aok (a : S31) : Prop where
  kind : inI a.f0
  name : a.f1.size ≤ 1048576
  other : a.f2.size ≤ 1048576
  names : ∀ s ∈ a.f3, s.size ≤ 1048576
  count : a.f3.length ≤ 1048576
  text : a.f4.size ≤ 1048576
  number : inI a.f5
  fuel : inI a.f6
  sum : (a.f3.map (·.size)).sum ≤ 1048576
/-- an act's value, its names at A -/
def actV (a : S31) (A : Option Addr) (c : Nat) : Value := .agg #[.int .i64 a.f0, .string a.f1, .string a.f2, .slice A a.f3.length c, .string a.f4, .int .i64 a.f5, .int .i64 a.f6]
set_option maxHeartbeats 4000000 in
set_option maxRecDepth 100000 in
theorem write55 (k n m : Int) (s1 s2 s4 : ByteArray) (A : Option Addr) (j c : Nat) (hs1 : s1.size ≤ 1048576) (hs4 : s4.size ≤ 1048576) (w : World) (T : Nib w) : Calls Tryz.prog 55 #[.agg #[.int .i64 k, .string s1, .string s2, .slice A j c, .string s4, .int .i64 n, .int .i64 m]] w fun e w' => ∃ v, e = .returned v ∧ Kd.R Kd.string 9 w' w.heap.size (fun _ => True) v [wordB s1, wordB s4] ∧ Below w.heap.size w w' := by
  have HT := Aside0.mk T
  go_enter Tryz.func55, Tryz.ntmps55
  have hC := lit_C Value.string (fun _ => rfl) (w.alloc (.cells #[.int .i64 k, .string s1, .string s2, .slice A j c, .string s4, .int .i64 n, .int .i64 m] 31)) 9 [s1, s4] (by simp)
  have hsz : (w.alloc (.cells #[.int .i64 k, .string s1, .string s2, .slice A j c, .string s4, .int .i64 n, .int .i64 m] 31)).heap.size = w.heap.size + 1 := by simp
  rw [hsz] at hC
  have HB0 : Aside0 (Below w.heap.size w ((w.alloc (.cells #[.int .i64 k, .string s1, .string s2, .slice A j c, .string s4, .int .i64 n, .int .i64 m] 31)).alloc (.cells ([s1, s4].map Value.string).toArray 9))) := ⟨below_alloc (below_alloc (Below.refl _ _) _) _⟩
  have HC := Aside0.mk hC
  clear hC hsz
  go_wp2_with (go_at_call 51; refine (texts_calls _ (some ⟨w.heap.size + 1, 0, none⟩) 2 [s1, s4] (by exact HC.out) (by simp) (by simp; exact ⟨hs1, hs4⟩) (by simp) (HT.out.below (by exact HB0.out))).mono ?_; rintro e w3 ⟨v, rfl, hR, hb⟩; have HP := Aside0.mk (And.intro (Kd.R_lower hR HB0.out.size) (below_then HB0.out HB0.out.size hb)); clear hR hb)
  go_ret
  exact ⟨v, rfl, HP.out⟩
set_option maxHeartbeats 4000000 in
set_option maxRecDepth 100000 in
theorem write57 (k n m : Int) (s1 s2 s4 : ByteArray) (A : Option Addr) (j c : Nat) (hs1 : s1.size ≤ 1048576) (hs2 : s2.size ≤ 1048576) (w : World) (T : Nib w) : Calls Tryz.prog 57 #[.agg #[.int .i64 k, .string s1, .string s2, .slice A j c, .string s4, .int .i64 n, .int .i64 m]] w fun e w' => ∃ v, e = .returned v ∧ Kd.R Kd.string 9 w' w.heap.size (fun _ => True) v [wordB s1, wordB s2] ∧ Below w.heap.size w w' := by
  have HT := Aside0.mk T
  go_enter Tryz.func57, Tryz.ntmps57
  have hC := lit_C Value.string (fun _ => rfl) (w.alloc (.cells #[.int .i64 k, .string s1, .string s2, .slice A j c, .string s4, .int .i64 n, .int .i64 m] 31)) 9 [s1, s2] (by simp)
  have hsz : (w.alloc (.cells #[.int .i64 k, .string s1, .string s2, .slice A j c, .string s4, .int .i64 n, .int .i64 m] 31)).heap.size = w.heap.size + 1 := by simp
  rw [hsz] at hC
  have HB0 : Aside0 (Below w.heap.size w ((w.alloc (.cells #[.int .i64 k, .string s1, .string s2, .slice A j c, .string s4, .int .i64 n, .int .i64 m] 31)).alloc (.cells ([s1, s2].map Value.string).toArray 9))) := ⟨below_alloc (below_alloc (Below.refl _ _) _) _⟩
  have HC := Aside0.mk hC
  clear hC hsz
  go_wp2_with (go_at_call 51; refine (texts_calls _ (some ⟨w.heap.size + 1, 0, none⟩) 2 [s1, s2] (by exact HC.out) (by simp) (by simp; exact ⟨hs1, hs2⟩) (by simp) (HT.out.below (by exact HB0.out))).mono ?_; rintro e w3 ⟨v, rfl, hR, hb⟩; have HP := Aside0.mk (And.intro (Kd.R_lower hR HB0.out.size) (below_then HB0.out HB0.out.size hb)); clear hR hb)
  go_ret
  exact ⟨v, rfl, HP.out⟩
set_option maxHeartbeats 4000000 in
set_option maxRecDepth 100000 in
theorem write59 (k n m : Int) (s1 s2 s4 : ByteArray) (A : Option Addr) (j c : Nat) (hs1 : s1.size ≤ 1048576) (w : World) (T : Nib w) : Calls Tryz.prog 59 #[.agg #[.int .i64 k, .string s1, .string s2, .slice A j c, .string s4, .int .i64 n, .int .i64 m]] w fun e w' => ∃ v, e = .returned v ∧ Kd.R Kd.string 9 w' w.heap.size (fun _ => True) v [wordB s1] ∧ Below w.heap.size w w' := by
  have HT := Aside0.mk T
  go_enter Tryz.func59, Tryz.ntmps59
  have hC := lit_C Value.string (fun _ => rfl) (w.alloc (.cells #[.int .i64 k, .string s1, .string s2, .slice A j c, .string s4, .int .i64 n, .int .i64 m] 31)) 9 [s1] (by simp)
  have hsz : (w.alloc (.cells #[.int .i64 k, .string s1, .string s2, .slice A j c, .string s4, .int .i64 n, .int .i64 m] 31)).heap.size = w.heap.size + 1 := by simp
  rw [hsz] at hC
  have HB0 : Aside0 (Below w.heap.size w ((w.alloc (.cells #[.int .i64 k, .string s1, .string s2, .slice A j c, .string s4, .int .i64 n, .int .i64 m] 31)).alloc (.cells ([s1].map Value.string).toArray 9))) := ⟨below_alloc (below_alloc (Below.refl _ _) _) _⟩
  have HC := Aside0.mk hC
  clear hC hsz
  go_wp2_with (go_at_call 51; refine (texts_calls _ (some ⟨w.heap.size + 1, 0, none⟩) 1 [s1] (by exact HC.out) (by simp) (by simp; exact hs1) (by simp) (HT.out.below (by exact HB0.out))).mono ?_; rintro e w3 ⟨v, rfl, hR, hb⟩; have HP := Aside0.mk (And.intro (Kd.R_lower hR HB0.out.size) (below_then HB0.out HB0.out.size hb)); clear hR hb)
  go_ret
  exact ⟨v, rfl, HP.out⟩
set_option maxHeartbeats 4000000 in
set_option maxRecDepth 100000 in
theorem write61 (k n m : Int) (s1 s2 s4 : ByteArray) (A : Option Addr) (j c : Nat) (hs4 : s4.size ≤ 1048576) (w : World) (T : Nib w) : Calls Tryz.prog 61 #[.agg #[.int .i64 k, .string s1, .string s2, .slice A j c, .string s4, .int .i64 n, .int .i64 m]] w fun e w' => ∃ v, e = .returned v ∧ Kd.R Kd.string 9 w' w.heap.size (fun _ => True) v [wordB s4] ∧ Below w.heap.size w w' := by
  have HT := Aside0.mk T
  go_enter Tryz.func61, Tryz.ntmps61
  have hC := lit_C Value.string (fun _ => rfl) (w.alloc (.cells #[.int .i64 k, .string s1, .string s2, .slice A j c, .string s4, .int .i64 n, .int .i64 m] 31)) 9 [s4] (by simp)
  have hsz : (w.alloc (.cells #[.int .i64 k, .string s1, .string s2, .slice A j c, .string s4, .int .i64 n, .int .i64 m] 31)).heap.size = w.heap.size + 1 := by simp
  rw [hsz] at hC
  have HB0 : Aside0 (Below w.heap.size w ((w.alloc (.cells #[.int .i64 k, .string s1, .string s2, .slice A j c, .string s4, .int .i64 n, .int .i64 m] 31)).alloc (.cells ([s4].map Value.string).toArray 9))) := ⟨below_alloc (below_alloc (Below.refl _ _) _) _⟩
  have HC := Aside0.mk hC
  clear hC hsz
  go_wp2_with (go_at_call 51; refine (texts_calls _ (some ⟨w.heap.size + 1, 0, none⟩) 1 [s4] (by exact HC.out) (by simp) (by simp; exact hs4) (by simp) (HT.out.below (by exact HB0.out))).mono ?_; rintro e w3 ⟨v, rfl, hR, hb⟩; have HP := Aside0.mk (And.intro (Kd.R_lower hR HB0.out.size) (below_then HB0.out HB0.out.size hb)); clear hR hb)
  go_ret
  exact ⟨v, rfl, HP.out⟩
set_option maxHeartbeats 4000000 in
set_option maxRecDepth 100000 in
theorem write72 (k n m : Int) (s1 s2 s4 : ByteArray) (A : Option Addr) (j c : Nat) (hs4 : s4.size ≤ 1048576) (w : World) (T : Nib w) : Calls Tryz.prog 72 #[.agg #[.int .i64 k, .string s1, .string s2, .slice A j c, .string s4, .int .i64 n, .int .i64 m]] w fun e w' => ∃ v, e = .returned v ∧ Kd.R Kd.string 9 w' w.heap.size (fun _ => True) v [wordB s4] ∧ Below w.heap.size w w' := by
  have HT := Aside0.mk T
  go_enter Tryz.func72, Tryz.ntmps72
  have hC := lit_C Value.string (fun _ => rfl) (w.alloc (.cells #[.int .i64 k, .string s1, .string s2, .slice A j c, .string s4, .int .i64 n, .int .i64 m] 31)) 9 [s4] (by simp)
  have hsz : (w.alloc (.cells #[.int .i64 k, .string s1, .string s2, .slice A j c, .string s4, .int .i64 n, .int .i64 m] 31)).heap.size = w.heap.size + 1 := by simp
  rw [hsz] at hC
  have HB0 : Aside0 (Below w.heap.size w ((w.alloc (.cells #[.int .i64 k, .string s1, .string s2, .slice A j c, .string s4, .int .i64 n, .int .i64 m] 31)).alloc (.cells ([s4].map Value.string).toArray 9))) := ⟨below_alloc (below_alloc (Below.refl _ _) _) _⟩
  have HC := Aside0.mk hC
  clear hC hsz
  go_wp2_with (go_at_call 51; refine (texts_calls _ (some ⟨w.heap.size + 1, 0, none⟩) 1 [s4] (by exact HC.out) (by simp) (by simp; exact hs4) (by simp) (HT.out.below (by exact HB0.out))).mono ?_; rintro e w3 ⟨v, rfl, hR, hb⟩; have HP := Aside0.mk (And.intro (Kd.R_lower hR HB0.out.size) (below_then HB0.out HB0.out.size hb)); clear hR hb)
  go_ret
  exact ⟨v, rfl, HP.out⟩
set_option maxHeartbeats 4000000 in
set_option maxRecDepth 100000 in
theorem write64 (k n m : Int) (s1 s2 s4 : ByteArray) (A : Option Addr) (j c : Nat) (hn : inI n) (hm : inI m) (w : World) (T : Pow w) : Calls Tryz.prog 64 #[.agg #[.int .i64 k, .string s1, .string s2, .slice A j c, .string s4, .int .i64 n, .int .i64 m]] w fun e w' => ∃ v, e = .returned v ∧ Kd.R Kd.string 9 w' w.heap.size (fun _ => True) v [itoaB n, itoaB m] ∧ Below w.heap.size w w' := by
  have HT := Aside0.mk T
  go_enter Tryz.func64, Tryz.ntmps64
  have hC := lit_C (Value.int .i64) (fun _ => rfl) (w.alloc (.cells #[.int .i64 k, .string s1, .string s2, .slice A j c, .string s4, .int .i64 n, .int .i64 m] 31)) 3 [n, m] (by simp)
  have hsz : (w.alloc (.cells #[.int .i64 k, .string s1, .string s2, .slice A j c, .string s4, .int .i64 n, .int .i64 m] 31)).heap.size = w.heap.size + 1 := by simp
  rw [hsz] at hC
  have HB0 : Aside0 (Below w.heap.size w ((w.alloc (.cells #[.int .i64 k, .string s1, .string s2, .slice A j c, .string s4, .int .i64 n, .int .i64 m] 31)).alloc (.cells ([n, m].map (Value.int .i64)).toArray 3))) := ⟨below_alloc (below_alloc (Below.refl _ _) _) _⟩
  have HC := Aside0.mk hC
  clear hC hsz
  go_wp2_with (go_at_call 32; go_must (refine (numbers_calls _ (some ⟨w.heap.size + 1, 0, none⟩) 2 [n, m] (by exact HC.out) (by simp) (by simp; exact ⟨hn, hm⟩) (by simp) (HT.out.below (by exact HB0.out))).mono ?_); rintro e w3 ⟨v, rfl, hR, hb⟩; have HP := Aside0.mk (And.intro (Kd.R_lower hR HB0.out.size) (below_then HB0.out HB0.out.size hb)); clear hR hb)
  go_ret
  exact ⟨v, rfl, HP.out⟩
set_option maxHeartbeats 4000000 in
set_option maxRecDepth 100000 in
theorem write70 (k n m : Int) (s1 s2 s4 : ByteArray) (A : Option Addr) (j c : Nat) (hn : inI n) (w : World) (T : Pow w) : Calls Tryz.prog 70 #[.agg #[.int .i64 k, .string s1, .string s2, .slice A j c, .string s4, .int .i64 n, .int .i64 m]] w fun e w' => ∃ v, e = .returned v ∧ Kd.R Kd.string 9 w' w.heap.size (fun _ => True) v [itoaB n] ∧ Below w.heap.size w w' := by
  have HT := Aside0.mk T
  go_enter Tryz.func70, Tryz.ntmps70
  have hC := lit_C (Value.int .i64) (fun _ => rfl) (w.alloc (.cells #[.int .i64 k, .string s1, .string s2, .slice A j c, .string s4, .int .i64 n, .int .i64 m] 31)) 3 [n] (by simp)
  have hsz : (w.alloc (.cells #[.int .i64 k, .string s1, .string s2, .slice A j c, .string s4, .int .i64 n, .int .i64 m] 31)).heap.size = w.heap.size + 1 := by simp
  rw [hsz] at hC
  have HB0 : Aside0 (Below w.heap.size w ((w.alloc (.cells #[.int .i64 k, .string s1, .string s2, .slice A j c, .string s4, .int .i64 n, .int .i64 m] 31)).alloc (.cells ([n].map (Value.int .i64)).toArray 3))) := ⟨below_alloc (below_alloc (Below.refl _ _) _) _⟩
  have HC := Aside0.mk hC
  clear hC hsz
  go_wp2_with (go_at_call 32; go_must (refine (numbers_calls _ (some ⟨w.heap.size + 1, 0, none⟩) 1 [n] (by exact HC.out) (by simp) (by simp; exact hn) (by simp) (HT.out.below (by exact HB0.out))).mono ?_); rintro e w3 ⟨v, rfl, hR, hb⟩; have HP := Aside0.mk (And.intro (Kd.R_lower hR HB0.out.size) (below_then HB0.out HB0.out.size hb)); clear hR hb)
  go_ret
  exact ⟨v, rfl, HP.out⟩
theorem write68 (k n m : Int) (s1 s2 s4 : ByteArray) (A : Option Addr) (j c : Nat) (w : World) : Calls Tryz.prog 68 #[.agg #[.int .i64 k, .string s1, .string s2, .slice A j c, .string s4, .int .i64 n, .int .i64 m]] w fun e w' => e = .returned (.slice none 0 0) ∧ Below w.heap.size w w' := by
  go_enter Tryz.func68, Tryz.ntmps68
  go_wp2_with fail
  go_ret
  exact ⟨rfl, below_alloc (Below.refl _ _) _⟩
/-- append(x, y...) of rows of strings, x the call's own -/
theorem run_append_strings (W : World) (base : Nat) (v : Value) (xs ys : List ByteArray) (A : Option Addr) (c : Nat) (HO : Kd.R Kd.string 9 W base (fun _ => True) v xs) (HC : Kd.C Kd.string W A ys.length ys) (hbase : base ≤ W.heap.size) (hl : xs.length + ys.length ≤ 4194304) : ∃ v1 w1, (Builtin.append_ #[29, 29] 29 #[v, .slice A ys.length c]).run Tryz.prog W = .ok v1 w1 ∧ Kd.R Kd.string 9 w1 base (fun _ => True) v1 (xs ++ ys) ∧ Below base W w1 := by
  obtain ⟨i0, hi, hzz⟩ := Option.map_eq_some_iff.1 info9
  simp only [Prod.mk.injEq] at hzz
  obtain ⟨hz0, hz1, hz2⟩ := hzz
  have hown := Kd.own_of_R HO
  cases A with
  | none =>
    have h0 : ys = [] := by
      cases ys with
      | nil => rfl
      | cons y r => obtain ⟨ad, h, _⟩ := HC.2.2 (by simp); cases h
    subst h0
    refine ⟨v, W, ?_, by rw [List.append_nil]; exact HO, Below.refl _ _⟩
    rcases hown.2 with ⟨rfl, hn⟩ | ⟨g, cap, cur, rfl, _, _, hnc, _⟩
    · simp [Builtin.append_, run_underlying Tryz.underlying29, sizeOf, typeInfo, hi, Builtin.lenOf, Builtin.firstCells]
    · simp [Builtin.append_, run_underlying Tryz.underlying29, sizeOf, typeInfo, hi, Builtin.lenOf, Builtin.firstCells, hnc, storeCells]
  | some ad =>
    have hcell : ∀ j u, (encs Value.string ys)[j]? = some u → W.cell? (ad.add j) = some u := by
      intro j u hu
      have hj : j < ys.length := by have := (List.getElem?_eq_some_iff.1 hu).1; rwa [encs_length] at this
      obtain ⟨ad', e, h⟩ := HC.2.2 (by omega)
      cases e
      obtain ⟨cs, hcs, hk, hc⟩ := h j ys[j] (List.getElem?_eq_getElem hj)
      have hcs1 : cs = [Value.string ys[j]] := hk
      have hu' : u = Value.string ys[j] := by
        have : (encs Value.string ys)[j]? = some (Value.string ys[j]) := by simp [encs, List.getElem?_eq_getElem hj]
        rw [this] at hu; cases hu; rfl
      have := hc 0 u (by rw [hcs1, hu']; rfl)
      rw [show j * Kd.string.sz + 0 = j from by show j * 1 + 0 = j; omega] at this
      exact this
    obtain ⟨v1, w1, hrun, h2, hg, _⟩ := run_append_own (P := Tryz.prog) W base 29 29 9 i0 (.string ⟨#[]⟩) 1 16 Tryz.underlying29 hi hz0 hz1 hz2 rfl (by decide) v xs.length _ hown ad ys.length c (encs Value.string ys) (by rw [encs_length]; omega) hcell (by intro u hu; simp only [encs, List.mem_map] at hu; obtain ⟨x, _, rfl⟩ := hu; rfl) (by simp only [maxLen]; omega) (by omega) hbase
    refine ⟨v1, w1, hrun, Kd.R_of_own (enc := Value.string) (h1 := fun _ => rfl) ?_ (fun _ _ => trivial), (Below.refl base W).grown hg hbase (own_base hown)⟩
    have e : encs Value.string xs ++ encs Value.string ys = encs Value.string (xs ++ ys) := by simp [encs]
    rw [← e, List.length_append]
    exact h2
set_option maxHeartbeats 4000000 in
set_option maxRecDepth 100000 in
theorem write50 (k n m : Int) (s1 s2 s4 : ByteArray) (A : Option Addr) (ys : List ByteArray) (c : Nat) (hs1 : s1.size ≤ 1048576) (hs2 : s2.size ≤ 1048576) (w : World) (hY : Kd.C Kd.string w A ys.length ys) (hyc : ys.length ≤ c) (hys : ∀ s ∈ ys, s.size ≤ 1048576) (hyl : ys.length ≤ 1048576) (T : Nib w) : Calls Tryz.prog 50 #[.agg #[.int .i64 k, .string s1, .string s2, .slice A ys.length c, .string s4, .int .i64 n, .int .i64 m]] w fun e w' => ∃ v, e = .returned v ∧ Kd.R Kd.string 9 w' w.heap.size (fun _ => True) v ([wordB s1, wordB s2] ++ ys.map wordB) ∧ Below w.heap.size w w' := by
  have HT := Aside0.mk T
  have HY : Aside0 (Kd.C Kd.string w A ys.length ys ∧ ys.length ≤ c ∧ (∀ s ∈ ys, s.size ≤ 1048576) ∧ ys.length ≤ 1048576) := ⟨hY, hyc, hys, hyl⟩
  have HSZ : Aside0 (∀ x ∈ [s1, s2], x.size ≤ 1048576) := ⟨by simp; exact ⟨hs1, hs2⟩⟩
  clear hY hyc hys hyl
  go_enter Tryz.func50, Tryz.ntmps50
  go_wp2_with fail
  refine region_facts (ws := [9]) (G := fun e w' => Aside0 ((e = 0 → Below w.heap.size w w' ∧ w'.heap[w.heap.size]? = some (.cells #[.int .i64 k, .string s1, .string s2, .slice A ys.length c, .string s4, .int .i64 n, .int .i64 m] 31 (0, 0))) ∧ (e = 1 → Below w.heap.size w w'))) (φs := [Fact.eq (.pointer (some ⟨w.heap.size, 1, none⟩)), Fact.eq (.string s1), Fact.eq (.pointer (some ⟨w.heap.size, 2, none⟩)), Fact.eq (.string s2), (⟨fun e x w' => e = 0 → ∃ A1, x = .slice A1 2 2 ∧ Kd.C Kd.string w' A1 2 [s1, s2], fun _ _ _ _ h hb he => by obtain ⟨A1, h1, h2⟩ := h he; exact ⟨A1, h1, Kd.C_below h2 hb⟩⟩ : Fact), (⟨fun e x w' => e = 0 → Kd.R Kd.string 9 w' w.heap.size (fun _ => True) x ([wordB s1, wordB s2]), fun _ _ _ _ h hb he => Kd.R_below (h he) hb⟩ : Fact), Fact.eq (.pointer (some ⟨w.heap.size, 3, none⟩)), Fact.eq (.slice A ys.length c), (⟨fun e x w' => e = 0 → Kd.R Kd.string 9 w' w.heap.size (fun _ => True) x (ys.map wordB), fun _ _ _ _ h hb he => Kd.R_below (h he) hb⟩ : Fact), (⟨fun e x w' => e = 1 ∧ Kd.R Kd.string 9 w' w.heap.size (fun _ => True) x ([wordB s1, wordB s2] ++ ys.map wordB), fun _ _ _ _ h hb => ⟨h.1, Kd.R_below h.2 hb⟩⟩ : Fact), (⟨fun e x w' => e = 1 ∧ Kd.R Kd.string 9 w' w.heap.size (fun _ => True) x ([wordB s1, wordB s2] ++ ys.map wordB), fun _ _ _ _ h hb => ⟨h.1, Kd.R_below h.2 hb⟩⟩ : Fact)]) (n := 11) (m := 13) (by kernel_rfl) (by kernel_rfl) rfl rfl (by kernel_rfl) (fun _ _ _ h hb => ⟨fun he => ⟨below_then (h.out.1 he).1 (h.out.1 he).1.size hb, (hb.block _ (blk_lt (h.out.1 he).2)).trans (h.out.1 he).2⟩, fun he => below_then (h.out.2 he) (h.out.2 he).size hb⟩) (⟨fun _ => ⟨below_drew (below_alloc (Below.refl _ _) _), blk_new w _⟩, fun he => by cases he⟩) ⟨?ou0, ?ou1, ?ou2, ?ou3, ?ou4, ?ou5, ?ou6, ?ou7, ?ou8, ?ou9, ?ou10, trivial⟩ ?finu
  case ou0 =>
    refine ask_val [.fix 1 _] rfl 3 rfl (.inl rfl) ⟨⟨by kernel_rfl, by conv => lhs; whnf⟩, trivial⟩ ?_
    dsimp only [Has, Fact.eq]
    intro e ρ w' hc hf hg hG h1
    go_simp
    first | done | rfl
  case ou1 =>
    refine ask_step [.op 3 0 (Fact.eq _)] rfl 4 rfl (.inl rfl) ⟨⟨by kernel_rfl, rfl⟩, trivial⟩ 0 0 (by kernel_rfl) ?_
    dsimp only [Has, Fact.eq]
    intro e ρ w' hp hq hc hf hg hG h3
    obtain rfl : e = 0 := by omega
    have hk := (hG.out.1 rfl).2
    have c0 : w'.cell? ⟨w.heap.size, 1, none⟩ = some (.string s1) := by rw [blk_cell hk]; rfl
    refine ⟨_, w', ?_, rfl, Below.refl _ _⟩
    go_simp
    first | done | rfl
  case ou2 =>
    refine ask_val [.fix 1 _] rfl 5 rfl (.inl rfl) ⟨⟨by kernel_rfl, by conv => lhs; whnf⟩, trivial⟩ ?_
    dsimp only [Has, Fact.eq]
    intro e ρ w' hc hf hg hG h1
    go_simp
    first | done | rfl
  case ou3 =>
    refine ask_step [.op 5 2 (Fact.eq _)] rfl 6 rfl (.inl rfl) ⟨⟨by kernel_rfl, rfl⟩, trivial⟩ 0 0 (by kernel_rfl) ?_
    dsimp only [Has, Fact.eq]
    intro e ρ w' hp hq hc hf hg hG h5
    obtain rfl : e = 0 := by omega
    have hk := (hG.out.1 rfl).2
    have c0 : w'.cell? ⟨w.heap.size, 2, none⟩ = some (.string s2) := by rw [blk_cell hk]; rfl
    refine ⟨_, w', ?_, rfl, Below.refl _ _⟩
    go_simp
    first | done | rfl
  case ou4 =>
    refine ask_step [.op 4 1 (Fact.eq _), .op 6 3 (Fact.eq _)] rfl 7 rfl (.inl rfl) ⟨⟨by kernel_rfl, rfl⟩, ⟨by kernel_rfl, rfl⟩, trivial⟩ 0 0 (by kernel_rfl) ?_
    dsimp only [Has, Fact.eq]
    intro e ρ w' hp hq hc hf hg hG h4 h6
    obtain rfl : e = 0 := by omega
    have hC := lit_C Value.string (fun _ => rfl) w' 9 [s1, s2] (by simp)
    refine ⟨.slice (some ⟨w'.heap.size, 0, none⟩) 2 2, w'.alloc (.cells ([s1, s2].map Value.string).toArray 9), ?_, fun _ => ⟨_, rfl, hC⟩, below_alloc (Below.refl _ _) _⟩
    go_simp
    first | done | rfl
  case ou5 =>
    refine ask_call [.op 7 4 _] rfl 8 rfl (.inl rfl) ⟨⟨by kernel_rfl, rfl⟩, trivial⟩ 0 0 (by kernel_rfl) 51 Tryz.func51 (by kernel_rfl) rfl rfl ?_
    dsimp only [Has, Fact.eq]
    intro e ρ w' hp hq hc hf hg hG h7
    obtain rfl : e = 0 := by omega
    have hb := (hG.out.1 rfl).1
    obtain ⟨A1, e1, hC⟩ := h7 rfl
    refine ⟨#[.slice A1 2 2], by simp only [List.map_toArray, List.map_cons, List.map_nil, e1], (texts_calls w' A1 2 [s1, s2] hC (by simp) HSZ.out (by simp) (HT.out.below hb)).mono ?_⟩
    rintro en w2 ⟨v, rfl, hR, hb2⟩
    exact ⟨v, rfl, fun _ => Kd.R_lower hR hb.size, hb2⟩
  case ou6 =>
    refine ask_val [.fix 1 _] rfl 9 rfl (.inl rfl) ⟨⟨by kernel_rfl, by conv => lhs; whnf⟩, trivial⟩ ?_
    dsimp only [Has, Fact.eq]
    intro e ρ w' hc hf hg hG h1
    go_simp
    first | done | rfl
  case ou7 =>
    refine ask_step [.op 9 6 (Fact.eq _)] rfl 10 rfl (.inl rfl) ⟨⟨by kernel_rfl, rfl⟩, trivial⟩ 0 0 (by kernel_rfl) ?_
    dsimp only [Has, Fact.eq]
    intro e ρ w' hp hq hc hf hg hG h9
    obtain rfl : e = 0 := by omega
    have hk := (hG.out.1 rfl).2
    have c0 : w'.cell? ⟨w.heap.size, 3, none⟩ = some (.slice A ys.length c) := by rw [blk_cell hk]; rfl
    refine ⟨_, w', ?_, rfl, Below.refl _ _⟩
    go_simp
    first | done | rfl
  case ou8 =>
    refine ask_call [.op 10 7 (Fact.eq _)] rfl 11 rfl (.inl rfl) ⟨⟨by kernel_rfl, rfl⟩, trivial⟩ 0 0 (by kernel_rfl) 51 Tryz.func51 (by kernel_rfl) rfl rfl ?_
    dsimp only [Has, Fact.eq]
    intro e ρ w' hp hq hc hf hg hG h10
    obtain rfl : e = 0 := by omega
    have hb := (hG.out.1 rfl).1
    refine ⟨#[.slice A ys.length c], by simp only [List.map_toArray, List.map_cons, List.map_nil, h10], (texts_calls w' A c ys (Kd.C_below HY.out.1 hb) HY.out.2.1 HY.out.2.2.1 HY.out.2.2.2 (HT.out.below hb)).mono ?_⟩
    rintro en w2 ⟨v, rfl, hR, hb2⟩
    exact ⟨v, rfl, fun _ => Kd.R_lower hR hb.size, hb2⟩
  case ou9 =>
    refine ask_wval [.op 8 5 _, .op 11 8 _] rfl 12 rfl (.inl rfl) ⟨⟨by kernel_rfl, rfl⟩, ⟨by kernel_rfl, rfl⟩, trivial⟩ 0 0 (by kernel_rfl) ?_
    dsimp only [Has, Fact.eq]
    intro e ρ w' hp hq hc hf hg hG h8 h11
    obtain rfl : e = 0 := by omega
    have hb := (hG.out.1 rfl).1
    have hR1 := h8 rfl
    have hR2 := h11 rfl
    obtain ⟨A2, c2, e2, hc2, hC2⟩ := Kd.R_reads hR2
    obtain ⟨v1, w1, hrun, hR3, hb3⟩ := run_append_strings w' w.heap.size (ρ (.tmp 8)) [wordB s1, wordB s2] (ys.map wordB) A2 c2 hR1 hC2 hb.size (by have := HY.out.2.2.2; simp; omega)
    refine ⟨v1, w1, ?_, ⟨rfl, hR3⟩, ⟨fun he => (by cases he), fun _ => hb.trans hb3⟩, ⟨fun _ h => h, fun _ h => h, fun _ h => h, fun _ h => h, fun _ _ he => absurd he (Nat.succ_ne_zero _), fun _ _ he => absurd he (Nat.succ_ne_zero _), fun _ h => h, fun _ h => h, fun _ _ he => absurd he (Nat.succ_ne_zero _), fun _ h => absurd h.1 (by decide), fun _ h => absurd h.1 (by decide), trivial⟩⟩
    unfold execOp
    simp only [resolve, invoke, builtin, Sem.run_bind, Sem.run_pure, Result.andThen_ok, List.map_toArray, List.map_cons, List.map_nil, e2, hrun]
  case ou10 =>
    refine ask_step [.op 12 9 _] rfl 2 rfl (.inl rfl) ⟨⟨by kernel_rfl, rfl⟩, trivial⟩ 1 1 (by kernel_rfl) ?_
    dsimp only [Has, Fact.eq]
    intro e ρ w' hp hq hc hf hg hG h12
    refine ⟨_, w', ?_, h12, Below.refl _ _⟩
    go_simp
    first | done | rfl
  case finu =>
    intro w' hG
    refine fin_eq (fin_eq (fin_eq (fin_eq (fin_fact (fun v4 hv4 => fin_fact (fun v5 hv5 => fin_eq (fin_eq (fin_fact (fun v8 hv8 => fin_fact (fun v9 hv9 => fin_fact (fun v10 hv10 => fin_nil (a' := ?_) ?_ ?_)))))))))))
    rotate_left
    · simp only [Act.put, List.setIfInBounds_toArray, List.set_cons_zero, List.set_cons_succ]
      rfl
    have HF := Aside0.mk (hG.out.2 rfl)
    clear hG
    go_wp2_with fail
    go_ret
    exact ⟨_, rfl, hv10.2, HF.out⟩
set_option maxHeartbeats 4000000 in
set_option maxRecDepth 100000 in
theorem write66 (k n m : Int) (s1 s2 s4 : ByteArray) (A : Option Addr) (ys : List ByteArray) (c : Nat) (hs1 : s1.size ≤ 1048576) (w : World) (hY : Kd.C Kd.string w A ys.length ys) (hyc : ys.length ≤ c) (hys : ∀ s ∈ ys, s.size ≤ 1048576) (hyl : ys.length ≤ 1048576) (T : Nib w) : Calls Tryz.prog 66 #[.agg #[.int .i64 k, .string s1, .string s2, .slice A ys.length c, .string s4, .int .i64 n, .int .i64 m]] w fun e w' => ∃ v, e = .returned v ∧ Kd.R Kd.string 9 w' w.heap.size (fun _ => True) v ([wordB s1] ++ ys.map wordB) ∧ Below w.heap.size w w' := by
  have HT := Aside0.mk T
  have HY : Aside0 (Kd.C Kd.string w A ys.length ys ∧ ys.length ≤ c ∧ (∀ s ∈ ys, s.size ≤ 1048576) ∧ ys.length ≤ 1048576) := ⟨hY, hyc, hys, hyl⟩
  have HSZ : Aside0 (∀ x ∈ [s1], x.size ≤ 1048576) := ⟨by simp; exact hs1⟩
  clear hY hyc hys hyl
  go_enter Tryz.func66, Tryz.ntmps66
  go_wp2_with fail
  refine region_facts (ws := [7]) (G := fun e w' => Aside0 ((e = 0 → Below w.heap.size w w' ∧ w'.heap[w.heap.size]? = some (.cells #[.int .i64 k, .string s1, .string s2, .slice A ys.length c, .string s4, .int .i64 n, .int .i64 m] 31 (0, 0))) ∧ (e = 1 → Below w.heap.size w w'))) (φs := [Fact.eq (.pointer (some ⟨w.heap.size, 1, none⟩)), Fact.eq (.string s1), (⟨fun e x w' => e = 0 → ∃ A1, x = .slice A1 1 1 ∧ Kd.C Kd.string w' A1 1 [s1], fun _ _ _ _ h hb he => by obtain ⟨A1, h1, h2⟩ := h he; exact ⟨A1, h1, Kd.C_below h2 hb⟩⟩ : Fact), (⟨fun e x w' => e = 0 → Kd.R Kd.string 9 w' w.heap.size (fun _ => True) x ([wordB s1]), fun _ _ _ _ h hb he => Kd.R_below (h he) hb⟩ : Fact), Fact.eq (.pointer (some ⟨w.heap.size, 3, none⟩)), Fact.eq (.slice A ys.length c), (⟨fun e x w' => e = 0 → Kd.R Kd.string 9 w' w.heap.size (fun _ => True) x (ys.map wordB), fun _ _ _ _ h hb he => Kd.R_below (h he) hb⟩ : Fact), (⟨fun e x w' => e = 1 ∧ Kd.R Kd.string 9 w' w.heap.size (fun _ => True) x ([wordB s1] ++ ys.map wordB), fun _ _ _ _ h hb => ⟨h.1, Kd.R_below h.2 hb⟩⟩ : Fact), (⟨fun e x w' => e = 1 ∧ Kd.R Kd.string 9 w' w.heap.size (fun _ => True) x ([wordB s1] ++ ys.map wordB), fun _ _ _ _ h hb => ⟨h.1, Kd.R_below h.2 hb⟩⟩ : Fact)]) (n := 9) (m := 11) (by kernel_rfl) (by kernel_rfl) rfl rfl (by kernel_rfl) (fun _ _ _ h hb => ⟨fun he => ⟨below_then (h.out.1 he).1 (h.out.1 he).1.size hb, (hb.block _ (blk_lt (h.out.1 he).2)).trans (h.out.1 he).2⟩, fun he => below_then (h.out.2 he) (h.out.2 he).size hb⟩) (⟨fun _ => ⟨below_drew (below_alloc (Below.refl _ _) _), blk_new w _⟩, fun he => by cases he⟩) ⟨?ou0, ?ou1, ?ou2, ?ou3, ?ou4, ?ou5, ?ou6, ?ou7, ?ou8, trivial⟩ ?finu
  case ou0 =>
    refine ask_val [.fix 1 _] rfl 3 rfl (.inl rfl) ⟨⟨by kernel_rfl, by conv => lhs; whnf⟩, trivial⟩ ?_
    dsimp only [Has, Fact.eq]
    intro e ρ w' hc hf hg hG h1
    go_simp
    first | done | rfl
  case ou1 =>
    refine ask_step [.op 3 0 (Fact.eq _)] rfl 4 rfl (.inl rfl) ⟨⟨by kernel_rfl, rfl⟩, trivial⟩ 0 0 (by kernel_rfl) ?_
    dsimp only [Has, Fact.eq]
    intro e ρ w' hp hq hc hf hg hG h3
    obtain rfl : e = 0 := by omega
    have hk := (hG.out.1 rfl).2
    have c0 : w'.cell? ⟨w.heap.size, 1, none⟩ = some (.string s1) := by rw [blk_cell hk]; rfl
    refine ⟨_, w', ?_, rfl, Below.refl _ _⟩
    go_simp
    first | done | rfl
  case ou2 =>
    refine ask_step [.op 4 1 (Fact.eq _)] rfl 5 rfl (.inl rfl) ⟨⟨by kernel_rfl, rfl⟩, trivial⟩ 0 0 (by kernel_rfl) ?_
    dsimp only [Has, Fact.eq]
    intro e ρ w' hp hq hc hf hg hG h4
    obtain rfl : e = 0 := by omega
    have hC := lit_C Value.string (fun _ => rfl) w' 9 [s1] (by simp)
    refine ⟨.slice (some ⟨w'.heap.size, 0, none⟩) 1 1, w'.alloc (.cells ([s1].map Value.string).toArray 9), ?_, fun _ => ⟨_, rfl, hC⟩, below_alloc (Below.refl _ _) _⟩
    go_simp
    first | done | rfl
  case ou3 =>
    refine ask_call [.op 5 2 _] rfl 6 rfl (.inl rfl) ⟨⟨by kernel_rfl, rfl⟩, trivial⟩ 0 0 (by kernel_rfl) 51 Tryz.func51 (by kernel_rfl) rfl rfl ?_
    dsimp only [Has, Fact.eq]
    intro e ρ w' hp hq hc hf hg hG h5
    obtain rfl : e = 0 := by omega
    have hb := (hG.out.1 rfl).1
    obtain ⟨A1, e1, hC⟩ := h5 rfl
    refine ⟨#[.slice A1 1 1], by simp only [List.map_toArray, List.map_cons, List.map_nil, e1], (texts_calls w' A1 1 [s1] hC (by simp) HSZ.out (by simp) (HT.out.below hb)).mono ?_⟩
    rintro en w2 ⟨v, rfl, hR, hb2⟩
    exact ⟨v, rfl, fun _ => Kd.R_lower hR hb.size, hb2⟩
  case ou4 =>
    refine ask_val [.fix 1 _] rfl 7 rfl (.inl rfl) ⟨⟨by kernel_rfl, by conv => lhs; whnf⟩, trivial⟩ ?_
    dsimp only [Has, Fact.eq]
    intro e ρ w' hc hf hg hG h1
    go_simp
    first | done | rfl
  case ou5 =>
    refine ask_step [.op 7 4 (Fact.eq _)] rfl 8 rfl (.inl rfl) ⟨⟨by kernel_rfl, rfl⟩, trivial⟩ 0 0 (by kernel_rfl) ?_
    dsimp only [Has, Fact.eq]
    intro e ρ w' hp hq hc hf hg hG h7
    obtain rfl : e = 0 := by omega
    have hk := (hG.out.1 rfl).2
    have c0 : w'.cell? ⟨w.heap.size, 3, none⟩ = some (.slice A ys.length c) := by rw [blk_cell hk]; rfl
    refine ⟨_, w', ?_, rfl, Below.refl _ _⟩
    go_simp
    first | done | rfl
  case ou6 =>
    refine ask_call [.op 8 5 (Fact.eq _)] rfl 9 rfl (.inl rfl) ⟨⟨by kernel_rfl, rfl⟩, trivial⟩ 0 0 (by kernel_rfl) 51 Tryz.func51 (by kernel_rfl) rfl rfl ?_
    dsimp only [Has, Fact.eq]
    intro e ρ w' hp hq hc hf hg hG h8
    obtain rfl : e = 0 := by omega
    have hb := (hG.out.1 rfl).1
    refine ⟨#[.slice A ys.length c], by simp only [List.map_toArray, List.map_cons, List.map_nil, h8], (texts_calls w' A c ys (Kd.C_below HY.out.1 hb) HY.out.2.1 HY.out.2.2.1 HY.out.2.2.2 (HT.out.below hb)).mono ?_⟩
    rintro en w2 ⟨v, rfl, hR, hb2⟩
    exact ⟨v, rfl, fun _ => Kd.R_lower hR hb.size, hb2⟩
  case ou7 =>
    refine ask_wval [.op 6 3 _, .op 9 6 _] rfl 10 rfl (.inl rfl) ⟨⟨by kernel_rfl, rfl⟩, ⟨by kernel_rfl, rfl⟩, trivial⟩ 0 0 (by kernel_rfl) ?_
    dsimp only [Has, Fact.eq]
    intro e ρ w' hp hq hc hf hg hG h6 h9
    obtain rfl : e = 0 := by omega
    have hb := (hG.out.1 rfl).1
    have hR1 := h6 rfl
    have hR2 := h9 rfl
    obtain ⟨A2, c2, e2, hc2, hC2⟩ := Kd.R_reads hR2
    obtain ⟨v1, w1, hrun, hR3, hb3⟩ := run_append_strings w' w.heap.size (ρ (.tmp 6)) [wordB s1] (ys.map wordB) A2 c2 hR1 hC2 hb.size (by have := HY.out.2.2.2; simp; omega)
    refine ⟨v1, w1, ?_, ⟨rfl, hR3⟩, ⟨fun he => (by cases he), fun _ => hb.trans hb3⟩, ⟨fun _ h => h, fun _ h => h, fun _ _ he => absurd he (Nat.succ_ne_zero _), fun _ _ he => absurd he (Nat.succ_ne_zero _), fun _ h => h, fun _ h => h, fun _ _ he => absurd he (Nat.succ_ne_zero _), fun _ h => absurd h.1 (by decide), fun _ h => absurd h.1 (by decide), trivial⟩⟩
    unfold execOp
    simp only [resolve, invoke, builtin, Sem.run_bind, Sem.run_pure, Result.andThen_ok, List.map_toArray, List.map_cons, List.map_nil, e2, hrun]
  case ou8 =>
    refine ask_step [.op 10 7 _] rfl 2 rfl (.inl rfl) ⟨⟨by kernel_rfl, rfl⟩, trivial⟩ 1 1 (by kernel_rfl) ?_
    dsimp only [Has, Fact.eq]
    intro e ρ w' hp hq hc hf hg hG h10
    refine ⟨_, w', ?_, h10, Below.refl _ _⟩
    go_simp
    first | done | rfl
  case finu =>
    intro w' hG
    refine fin_eq (fin_eq (fin_fact (fun v2 hv2 => fin_fact (fun v3 hv3 => fin_eq (fin_eq (fin_fact (fun v6 hv6 => fin_fact (fun v7 hv7 => fin_fact (fun v8 hv8 => fin_nil (a' := ?_) ?_ ?_)))))))))
    rotate_left
    · simp only [Act.put, List.setIfInBounds_toArray, List.set_cons_zero, List.set_cons_succ]
      rfl
    have HF := Aside0.mk (hG.out.2 rfl)
    clear hG
    go_wp2_with fail
    go_ret
    exact ⟨_, rfl, hv8.2, HF.out⟩
end Go.Proofs.YtkfjjmmpbfjhaaaGreatDoor.Tells
namespace Go.Proofs.YtkfjjmmpbfjhaaaGreatDoor.Tells
open Go.RowKit Go.Proofs.YtkfjjmmpbfjhaaaGreatDoor.PScriptActs
set_option linter.unusedVariables false
set_option linter.unusedSimpArgs false
theorem bl_word (s : ByteArray) : bl (wordB s) = 61 :: encw (bl s) := by unfold wordB bl; simp
theorem unwS_word (s : ByteArray) : unwS (bl (wordB s)) = some (bl s) := by rw [bl_word]; exact unw_encw (bl s)
theorem unwT_word (s : ByteArray) : unwT (bl (wordB s)) = s := by
  unfold unwT
  rw [unwS_word]
theorem unwL_words (l : List ByteArray) : unwL (l.map wordB) = l := by
  unfold unwL
  rw [List.map_map]
  exact (List.map_congr_left (g := id) (fun s _ => unwT_word s)).trans (List.map_id _)
theorem okL_words (l : List ByteArray) : okL (l.map wordB) = true := by
  unfold okL
  rw [List.all_map, List.all_eq_true]
  intro s _
  show (unwS (bl (wordB s))).isSome = true
  rw [unwS_word]; rfl
theorem digit_is {d : Nat} (h : d < 10) : isDig (UInt8.ofNat (48 + d)) = true ∧ (UInt8.ofNat (48 + d)).toNat = 48 + d := by
  rcases (show d = 0 ∨ d = 1 ∨ d = 2 ∨ d = 3 ∨ d = 4 ∨ d = 5 ∨ d = 6 ∨ d = 7 ∨ d = 8 ∨ d = 9 by omega) with rfl | rfl | rfl | rfl | rfl | rfl | rfl | rfl | rfl | rfl <;> decide
theorem dec_digits (u : Nat) : (∀ c ∈ Lib.decDigits u, isDig c = true) ∧ Lib.decDigits u ≠ [] := by
  induction u using Nat.strongRecOn with
  | _ u ih =>
    rw [Lib.decDigits]
    by_cases h : u < 10
    · rw [dif_pos h]
      exact ⟨fun c hc => by rw [List.mem_singleton] at hc; subst hc; exact (digit_is h).1, by simp⟩
    · rw [dif_neg h]
      refine ⟨fun c hc => ?_, by simp⟩
      rcases List.mem_append.1 hc with hc | hc
      · exact (ih (u / 10) (by omega)).1 c hc
      · rw [List.mem_singleton] at hc; subst hc; exact (digit_is (by omega)).1
theorem parse_app : ∀ (l m : List UInt8) (acc v : Nat), Lib.parseUint10 acc l = .ok v → Lib.parseUint10 acc (l ++ m) = Lib.parseUint10 v m
  | [], m, acc, v, h => by
    rw [Lib.parseUint10] at h
    injection h with h
    rw [List.nil_append, h]
  | c :: r, m, acc, v, h => by
    rw [Lib.parseUint10] at h
    rw [List.cons_append, Lib.parseUint10]
    by_cases h1 : 48 ≤ c.toNat ∧ c.toNat ≤ 57
    · rw [if_pos h1] at h ⊢
      by_cases h2 : 1844674407370955162 ≤ acc
      · rw [if_pos h2] at h; cases h
      · rw [if_neg h2] at h ⊢
        by_cases h3 : 18446744073709551616 ≤ acc * 10 + (c.toNat - 48)
        · rw [if_pos h3] at h; cases h
        · rw [if_neg h3] at h ⊢
          exact parse_app r m _ v h
    · rw [if_neg h1] at h; cases h
theorem parse_dec (u : Nat) (hu : u < 18446744073709551616) : Lib.parseUint10 0 (Lib.decDigits u) = .ok u := by
  induction u using Nat.strongRecOn with
  | _ u ih =>
    rw [Lib.decDigits]
    by_cases h : u < 10
    · rw [dif_pos h]
      obtain ⟨_, h2⟩ := digit_is h
      rw [Lib.parseUint10, h2, if_pos (by omega), if_neg (by omega), if_neg (by omega), Lib.parseUint10]
      congr 1
      omega
    · rw [dif_neg h, parse_app _ _ _ _ (ih (u / 10) (by omega) (by omega))]
      obtain ⟨_, h2⟩ := digit_is (d := u % 10) (by omega)
      rw [Lib.parseUint10, h2, if_pos (by omega), if_neg (by omega), if_neg (by omega), Lib.parseUint10]
      congr 1
      omega
theorem trim_dec (l : List UInt8) (h : ∀ c ∈ l, isDig c = true) : Lib.trimPrefix l [45] = l := by
  unfold Lib.trimPrefix
  rw [if_neg]
  cases l with
  | nil => simp [Lib.hasPrefix, List.isPrefixOf]
  | cons c r =>
    have hc := h c List.mem_cons_self
    intro hp
    unfold Lib.hasPrefix at hp
    simp [List.isPrefixOf] at hp
    subst hp
    exact absurd hc (by decide)
theorem numW_itoa (n : Int) (h : inI n) : numW (bl (itoaB n)) = some n := by
  have e : bl (itoaB n) = Lib.itoa n := by unfold itoaB bl; simp
  rw [e]
  obtain ⟨h0, h1⟩ := h
  unfold numW
  by_cases hn : n < 0
  · have hi : Lib.itoa n = 45 :: Lib.decDigits n.natAbs := by unfold Lib.itoa; rw [if_pos hn]
    obtain ⟨hd, hne⟩ := dec_digits n.natAbs
    have ht : Lib.trimPrefix (Lib.itoa n) [45] = Lib.decDigits n.natAbs := by
      rw [hi]; unfold Lib.trimPrefix; rw [if_pos (by simp [Lib.hasPrefix, List.isPrefixOf])]; rfl
    have ha : Lib.atoiAll (Lib.itoa n) = .ok n := by
      rw [hi, Lib.atoiAll_minus]
      unfold Lib.parseMag
      rw [if_neg hne, parse_dec _ (by omega)]
      unfold Lib.signed
      simp only
      rw [if_neg (by omega)]
      congr 1
      omega
    rw [ht, if_pos (List.all_eq_true.2 hd), ha]
    simp only
    rw [if_pos trivial]
  · have hi : Lib.itoa n = Lib.decDigits n.toNat := by unfold Lib.itoa; rw [if_neg hn]
    obtain ⟨hd, hne⟩ := dec_digits n.toNat
    have ht : Lib.trimPrefix (Lib.itoa n) [45] = Lib.decDigits n.toNat := by rw [hi]; exact trim_dec _ hd
    have ha : Lib.atoiAll (Lib.itoa n) = .ok n := by
      rw [hi]
      cases hl : Lib.decDigits n.toNat with
      | nil => exact absurd hl hne
      | cons c r =>
        have hc : isDig c = true := hd c (by rw [hl]; exact List.mem_cons_self)
        unfold isDig at hc
        simp at hc
        rw [Lib.atoiAll_plain c r (by omega) (by omega), ← hl]
        unfold Lib.parseMag
        rw [if_neg hne, parse_dec _ (by omega)]
        unfold Lib.signless
        simp only
        rw [if_neg (by omega)]
        congr 1
        omega
    rw [ht, if_pos (List.all_eq_true.2 hd), ha]
    simp only
    rw [if_pos trivial]
end Go.Proofs.YtkfjjmmpbfjhaaaGreatDoor.Tells
namespace Go.Proofs.YtkfjjmmpbfjhaaaGreatDoor.PScriptActs
open Go.RowKit Go.Proofs.YtkfjjmmpbfjhaaaGreatDoorW.PrintWords Go.Proofs.YtkfjjmmpbfjhaaaGreatDoorW.PrintLast Go.Proofs.YtkfjjmmpbfjhaaaGreatDoorW.PrintMore
attribute [local go_sem] max2_int min2_int max_two min_two max_three min_three max_four min_four   -- for this text's walks alone
set_option linter.unusedVariables false
set_option linter.unusedSimpArgs false

end Go.Proofs.YtkfjjmmpbfjhaaaGreatDoor.PScriptActs
namespace Go.Proofs.YtkfjjmmpbfjhaaaGreatDoor.Tells
open Go.RowKit Go.Proofs.YtkfjjmmpbfjhaaaGreatDoor.PScriptActs Go.Proofs.YtkfjjmmpbfjhaaaGreatDoorW.PrintWords
set_option linter.unusedVariables false
set_option linter.unusedSimpArgs false
theorem bt_is (s : ByteArray) (j : Nat) (h : j < s.size) : bt s (j : Int) = (((s[j]'h).toNat : Nat) : Int) := by
  unfold bt
  rw [dif_pos (show ((j : Int)).toNat < s.size by omega)]
  rfl
end Go.Proofs.YtkfjjmmpbfjhaaaGreatDoor.Tells
namespace Go.Proofs.YtkfjjmmpbfjhaaaGreatDoor.PScriptActs
open Go.RowKit Go.Proofs.YtkfjjmmpbfjhaaaGreatDoorW.PrintWords Go.Proofs.YtkfjjmmpbfjhaaaGreatDoorW.PrintLast Go.Proofs.YtkfjjmmpbfjhaaaGreatDoorW.PrintMore
attribute [local go_sem] max2_int min2_int max_two min_two max_three min_three max_four min_four   -- for this text's walks alone
set_option linter.unusedVariables false
set_option linter.unusedSimpArgs false

end Go.Proofs.YtkfjjmmpbfjhaaaGreatDoor.PScriptActs
namespace Go.Proofs.YtkfjjmmpbfjhaaaGreatDoor.Tells
open Go.RowKit Go.Proofs.YtkfjjmmpbfjhaaaGreatDoor.PScriptActs Go.Proofs.YtkfjjmmpbfjhaaaGreatDoorW.PrintWords
set_option linter.unusedVariables false
set_option linter.unusedSimpArgs false
end Go.Proofs.YtkfjjmmpbfjhaaaGreatDoor.Tells
namespace Go.Proofs.YtkfjjmmpbfjhaaaGreatDoor.PScriptActs
open Go.RowKit Go.Proofs.YtkfjjmmpbfjhaaaGreatDoorW.PrintWords Go.Proofs.YtkfjjmmpbfjhaaaGreatDoorW.PrintLast Go.Proofs.YtkfjjmmpbfjhaaaGreatDoorW.PrintMore
attribute [local go_sem] max2_int min2_int max_two min_two max_three min_three max_four min_four   -- for this text's walks alone
set_option linter.unusedVariables false
set_option linter.unusedSimpArgs false

end Go.Proofs.YtkfjjmmpbfjhaaaGreatDoor.PScriptActs
namespace Go.Proofs.YtkfjjmmpbfjhaaaGreatDoor.Tells
open Go.RowKit Go.Proofs.YtkfjjmmpbfjhaaaGreatDoor.PScriptActs Go.Proofs.YtkfjjmmpbfjhaaaGreatDoorW.PrintWords
set_option linter.unusedVariables false
set_option linter.unusedSimpArgs false
/-- what a word's place asks of it -/
def okC (c : Int) (w : ByteArray) : Bool := if c = 35 ∨ c = 102 then (numW (bl w)).isSome else (unwS (bl w)).isSome
/-- where it is laid -/
def putC (c : Int) (w : ByteArray) (a : S31) : S31 :=
  if c = 110 then ⟨a.f0, unwT (bl w), a.f2, a.f3, a.f4, a.f5, a.f6⟩
  else if c = 111 then ⟨a.f0, a.f1, unwT (bl w), a.f3, a.f4, a.f5, a.f6⟩
  else if c = 116 then ⟨a.f0, a.f1, a.f2, a.f3, unwT (bl w), a.f5, a.f6⟩
  else if c = 42 then ⟨a.f0, a.f1, a.f2, a.f3 ++ [unwT (bl w)], a.f4, a.f5, a.f6⟩
  else if c = 35 then ⟨a.f0, a.f1, a.f2, a.f3, a.f4, numN (bl w), a.f6⟩
  else if c = 102 then ⟨a.f0, a.f1, a.f2, a.f3, a.f4, a.f5, numN (bl w)⟩
  else a
/-- the place of the word i -/
def chC (sh : ByteArray) (n i : Nat) : Int := if i < n then bt sh (i : Int) else 42
def okR (sh : ByteArray) (n : Nat) : Nat → List ByteArray → Bool
  | _, [] => true
  | i, w :: ws => okC (chC sh n i) w && okR sh n (i + 1) ws
def putR (sh : ByteArray) (n : Nat) : Nat → List ByteArray → S31 → S31
  | _, [], a => a
  | i, w :: ws, a => putR sh n (i + 1) ws (putC (chC sh n i) w a)
def shapeL : List ByteArray := (kilnref24_shapes.f).getD []
def shR (k : Nat) : ByteArray := rdOf ByteArray.empty shapeL (k : Int)
def starR (k : Nat) : Bool := decide (0 < (shR k).size) && (bt (shR k) (((shR k).size : Int) - 1) == 42)
def nR (k : Nat) : Nat := if starR k = true then (shR k).size - 1 else (shR k).size
/-- what the reader answers of an act's words -/
def codeR (k : Nat) (ws : List ByteArray) : Int :=
  if ws.length < nR k ∨ (starR k = false ∧ nR k < ws.length) then 243 else if okR (shR k) (nR k) 0 ws = true then 0 else 244
def actR (k : Nat) (ws : List ByteArray) : S31 := putR (shR k) (nR k) 0 ws (act0 k)
end Go.Proofs.YtkfjjmmpbfjhaaaGreatDoor.Tells
