/- The functions that script.Tell and kilnref24.Tell lean on, walked: Written, Lines, numbers, hexed, written, texts; the plain law of the lines. The scripts' words in plain words: byte words read and written, acts and their lines. Conditions: those that each theorem states. -/
import Derived.Test.YtkfjjmmpbfjhaaaGreatDoorTellBase
import Derived.Test.YtkfjjmmpbfjhaaaGreatDoorScrPA
import Derived.Outline
import Derived.IntWalk
import Derived.WalkSpells
import Derived.Lib.ItoaNum
import Derived.Lib.AppendIntMem
import Derived.Lib.Replace
import Derived.Deep.QuietTactic
import Derived.BigQuiet
import Derived.Deep.MidRow
import Derived.ArgAppend
import Derived.Lib.AppendStr
import Derived.Lib.UnsafeStr
import Derived.Lib.SlBytesConst
namespace Go.Proofs.YtkfjjmmpbfjhaaaGreatDoor.Tells
open Go.RowKit Go.Proofs.YtkfjjmmpbfjhaaaGreatDoor.PScriptActs Go.Proofs.YtkfjjmmpbfjhaaaGreatDoorW.PrintWords Go.Proofs.YtkfjjmmpbfjhaaaGreatDoorW.PrintLast Go.Proofs.YtkfjjmmpbfjhaaaGreatDoorW.PrintMore
attribute [local go_sem] max2_int min2_int max_two min_two max_three min_three max_four min_four
set_option linter.unusedVariables false
set_option linter.unusedSimpArgs false
/-- the document's lines -/
def linesOf : List UInt8 → List UInt8 → List (List UInt8)
  | [], acc => if acc = [] then [] else [acc]
  | c :: r, acc => if c = 10 then acc :: linesOf r [] else linesOf r (acc ++ [c])
def hexTab : List UInt8 := [48, 49, 50, 51, 52, 53, 54, 55, 56, 57, 97, 98, 99, 100, 101, 102]
def hexc (n : Nat) : UInt8 := hexTab.getD n 0
def enc1 (c : UInt8) : List UInt8 := if plainI c.toNat then [c] else [37, hexc (c.toNat / 16), hexc (c.toNat % 16)]
def encw (l : List UInt8) : List UInt8 := l.flatMap enc1
theorem enc1_len (c : UInt8) : 0 < (enc1 c).length ∧ (enc1 c).length ≤ 3 := by unfold enc1; split <;> simp
theorem encw_len (l : List UInt8) : (encw l).length ≤ 3 * l.length := by
  unfold encw
  induction l with
  | nil => simp
  | cons c r ih => rw [List.flatMap_cons, List.length_append, List.length_cons]; have := (enc1_len c).2; omega
theorem encw_snoc (l : List UInt8) (i : Nat) (c : UInt8) (h : l[i]? = some c) : encw (l.take (i + 1)) = encw (l.take i) ++ enc1 c := by
  unfold encw
  rw [List.take_add_one, h]
  simp
theorem byte_at (s : ByteArray) (i : Nat) (hi : i < s.size) : ∃ c : UInt8, s.data.toList[i]? = some c ∧ (∀ h : (i : Int).toNat < s.size, ((s[(i : Int).toNat]'h).toNat : Int) = (c.toNat : Int)) ∧ (∀ h : i < s.size, ((s[i]'h).toNat : Int) = (c.toNat : Int)) := by
  refine ⟨s[i], ?_, fun h => ?_, fun h => rfl⟩
  · have hl : i < s.data.size := hi
    rw [Array.getElem?_toList, Array.getElem?_eq_getElem hl]; rfl
  · simp only [Int.toNat_natCast]
theorem lit_cells (W : World) (cs : Array Value) : ∀ (j : Nat) (u : Value), cs.toList[j]? = some u → (W.alloc (.cells cs 5)).cell? ((⟨W.heap.size, 0, none⟩ : Addr).add j) = some u := by
  simpa using World.news_of_block (cs := cs) (t := 5) (fr := (0, 0)) (heap_alloc_new W (.cells cs 5))
def digB : ByteArray := ⟨#[48, 49, 50, 51, 52, 53, 54, 55, 56, 57, 97, 98, 99, 100, 101, 102]⟩
theorem dig_at (n : Nat) (h : n < 16) : ∀ h' : n < (⟨#[48, 49, 50, 51, 52, 53, 54, 55, 56, 57, 97, 98, 99, 100, 101, 102]⟩ : ByteArray).size, ((((⟨#[48, 49, 50, 51, 52, 53, 54, 55, 56, 57, 97, 98, 99, 100, 101, 102]⟩ : ByteArray)[n]'h').toNat : Nat) : Int) = ((hexc n).toNat : Int) := by
  intro h'
  have key : ∀ m : Fin 16, ((((⟨#[48, 49, 50, 51, 52, 53, 54, 55, 56, 57, 97, 98, 99, 100, 101, 102]⟩ : ByteArray)[m.val]'m.isLt).toNat : Nat) : Int) = ((hexc m.val).toNat : Int) := by decide +kernel
  exact key ⟨n, h⟩
theorem quo16 (c : Nat) (h : c < 256) : IntKind.u8.wrap ((c : Int) / 16) = ((c / 16 : Nat) : Int) ∧ (c : Int) % 16 = ((c % 16 : Nat) : Int) := by
  constructor
  · rw [IntWalk.u8_in _ (by omega)]; omega
  · omega
set_option maxHeartbeats 4000000 in
set_option maxRecDepth 100000 in
theorem refWritten_calls (s : ByteArray) (hs : s.size ≤ 1048576) (w : World) :
    Calls Tryz.prog 47 #[.string s] w fun e w' => e = .returned (.string ⟨(61 :: encw s.data.toList).toArray⟩) ∧ Below w.heap.size w w' := by
  have hsl : s.data.toList.length = s.size := by rw [Array.length_toList]; rfl
  have hb0 := heap_alloc_new w (.cells #[.int .u8 61] 5 (1, 2))
  have hfz : ∀ j, j < 1 → (w.alloc (.cells #[.int .u8 61] 5 (1, 2))).frozen? ⟨w.heap.size, j, none⟩ = false := by
    intro j hj
    have e : j = 0 := by omega
    subst e
    unfold World.frozen?
    rw [hb0]
    simp
  have HB0 : Aside0 (Buf (w.alloc (.cells #[.int .u8 61] 5 (1, 2))) w.heap.size (.slice (some ⟨w.heap.size, 0, none⟩) 1 1) [61]) := ⟨buf_new (l := [61]) hb0 (Nat.le_refl _) hfz ⟨Nat.le_refl _, by unfold maxLen; decide⟩ (by simp) (fun j u hu => by simpa [Lib.byteCells] using hu)⟩
  have HSL := Aside0.mk hsl
  clear hsl hb0
  have kc := fun (W : World) (C : Array Value) (n c : Nat) => Lib.run_convert_bytes_const (P := Tryz.prog) W 72 5 C n c Tryz.underlying72 Tryz.underlying5
  go_enter Tryz.func47, Tryz.ntmps47
  go_wp2_with fail
  clear kc
  go_loopw [3, 4] (fun v i wr' => ∃ (k : Nat), i = .int .i64 (k : Int) ∧ k ≤ s.size ∧ Aside0 (Buf wr' w.heap.size v (61 :: encw (s.data.toList.take k))) ∧ Aside0 (Below w.heap.size w wr')) (fun _ i _ => s.size - (intOf i).toNat)
  case atStart => exact ⟨0, rfl, by omega, HB0, ⟨below_alloc (Below.refl _ _) _⟩⟩
  case round =>
    clear HB0
    obtain ⟨k, rfl, hk, HB, HW⟩ := hrel
    obtain ⟨L, hL⟩ : ∃ L, L = 61 :: encw (s.data.toList.take k) := ⟨_, rfl⟩
    rw [← hL] at HB
    have HL := Aside0.mk hL
    clear hL
    obtain ⟨g3, c3, rfl, _⟩ := HB.out.form
    by_cases hlt : k < s.size
    · have b1 : decide ((k : Int) < (s.size : Int)) = true := decide_eq_true (by omega)
      obtain ⟨c, hc, hx1, hx2⟩ := byte_at s k hlt
      have HC := Aside0.mk hc
      have p0 : (0 : Int) ≤ (k : Int) := by omega
      have p1 : (k : Int) < (s.size : Int) := by omega
      have hlen : L.length ≤ 3145729 := by
        have h1 := encw_len (s.data.toList.take k)
        have h2 := HSL.out
        rw [List.length_take] at h1
        rw [HL.out, List.length_cons]
        omega
      have HNX : Aside0 (L ++ enc1 c = 61 :: encw (s.data.toList.take (k + 1))) := ⟨by rw [HL.out, encw_snoc _ _ _ hc]; rfl⟩
      have hcr : c.toNat < 256 := c.toNat_lt
      have HP := Aside0.mk (plain_ref ⟨c.toNat, hcr⟩)
      have hbs := HW.out.size
      clear hc
      cases hpl : plainI c.toNat with
      | true =>
        have HPL := Aside0.mk hpl
        clear hpl
        go_wp2_with (first | (go_at_call 85; (refine (kilnref24_plain.calls (c.toNat : Int) true _ (HP.out.trans (congrArg some HPL.out))).mono ?_); rintro e w' ⟨rfl, ⟨nd, rfl⟩⟩) | (at_builtin; refine buf_app _ w.heap.size rfl (.tmp 17) (.tmp 21) rfl _ L [c] rfl _ 1 1 rfl rfl (by exact HB.out.below (below_alloc (pw_below_drewN (Below.refl _ _) _) _)) (by exact lit_cells _ #[.int .u8 (c.toNat : Int)]) (by simp; omega) (by exact Nat.le_trans hbs (by simp)) (by simp) ?_; intro v1 w1 hb1 hb2; have HB1 := Aside0.mk hb1; have HB2 := Aside0.mk hb2; clear hb1 hb2))
        go_roundw
        case rel =>
          have hen : enc1 c = [c] := by unfold enc1; rw [HPL.out]; rfl
          refine ⟨k + 1, by go_num, by omega, ⟨?_⟩, ⟨(below_alloc (pw_below_drewN HW.out _) _).trans HB2.out⟩⟩
          rw [← HNX.out, hen]; exact HB1.out
        case measure => simp [intOf]; omega
      | false =>
        have HPL := Aside0.mk hpl
        clear hpl
        obtain ⟨hq, hr⟩ := quo16 c.toNat hcr
        obtain ⟨m, hm⟩ : ∃ m, c.toNat / 16 = m := ⟨_, rfl⟩
        obtain ⟨n, hn⟩ : ∃ n, c.toNat % 16 = n := ⟨_, rfl⟩
        have hm16 : m < 16 := by omega
        have hn16 : n < 16 := by omega
        rw [hm] at hq
        rw [hn] at hr
        have hr2 : Int.tmod (c.toNat : Int) 16 = (n : Int) := by rw [Int.tmod_eq_emod_of_nonneg (by omega)]; exact hr
        have HM := Aside0.mk hm
        have HNN := Aside0.mk hn
        clear hm hn
        have m0 : (0 : Int) ≤ (m : Int) := by omega
        have m1 : (m : Int) < 16 := by omega
        have n0 : (0 : Int) ≤ (n : Int) := by omega
        have n1 : (n : Int) < 16 := by omega
        have hy1 := dig_at m hm16
        have hy2 := dig_at n hn16
        go_wp2_with (first | (go_at_call 85; (refine (kilnref24_plain.calls (c.toNat : Int) false _ (HP.out.trans (congrArg some HPL.out))).mono ?_); rintro e w' ⟨rfl, ⟨nd, rfl⟩⟩) )
        refine start_ (n := 14) (S := fun w' => True) (ds := []) #[false, false, false, false, false, false, false, false, false, false, false, false, false, false] (by kernel_rfl) rfl rfl trivial (fun hHeld => ?_)
        refine pure_ (i := 0) (N := some 23) (v := ?_) (a' := ?_) #[true, false, false, false, false, false, false, false, false, false, false, false, false, false] rfl rfl (by kernel_rfl) (fun _ _ _ h => h) (Or.inl ⟨by rfl, ?_⟩) ?_ ?_
        rotate_left
        · intro w'
          go_simp
          with_reducible rfl
        rotate_left
        · simp only [Act.put, List.setIfInBounds_toArray, List.set_cons_zero, List.set_cons_succ, i64_w, i32_w]
          rfl
        refine pure_ (i := 1) (N := some 24) (v := ?_) (a' := ?_) #[true, true, false, false, false, false, false, false, false, false, false, false, false, false] rfl rfl (by kernel_rfl) (fun _ _ _ h => h) (Or.inl ⟨by rfl, ?_⟩) ?_ ?_
        rotate_left
        · intro w'
          go_simp
          with_reducible rfl
        rotate_left
        · simp only [Act.put, List.setIfInBounds_toArray, List.set_cons_zero, List.set_cons_succ, i64_w, i32_w]
          rfl
        refine pure_ (i := 2) (N := some 25) (v := ?_) (a' := ?_) #[true, true, true, false, false, false, false, false, false, false, false, false, false, false] rfl rfl (by kernel_rfl) (fun _ _ _ h => h) (Or.inl ⟨by rfl, ?_⟩) ?_ ?_
        rotate_left
        · intro w'
          go_simp
          with_reducible rfl
        rotate_left
        · simp only [Act.put, List.setIfInBounds_toArray, List.set_cons_zero, List.set_cons_succ, i64_w, i32_w]
          rfl
        refine pure_ (i := 6) (N := some 29) (v := ?_) (a' := ?_) #[true, true, true, false, false, false, true, false, false, false, false, false, false, false] rfl rfl (by kernel_rfl) (fun _ _ _ h => h) (Or.inl ⟨by rfl, ?_⟩) ?_ ?_
        rotate_left
        · intro w'
          go_simp
          with_reducible rfl
        rotate_left
        · simp only [Act.put, List.setIfInBounds_toArray, List.set_cons_zero, List.set_cons_succ, i64_w, i32_w]
          rfl
        refine pure_ (i := 7) (N := some 30) (v := ?_) (a' := ?_) #[true, true, true, false, false, false, true, true, false, false, false, false, false, false] rfl rfl (by kernel_rfl) (fun _ _ _ h => h) (Or.inl ⟨by rfl, ?_⟩) ?_ ?_
        rotate_left
        · intro w'
          go_simp
          with_reducible rfl
        rotate_left
        · simp only [Act.put, List.setIfInBounds_toArray, List.set_cons_zero, List.set_cons_succ, i64_w, i32_w]
          rfl
        refine take_ (i := 3) (N := some 26) (v := ?_) (a' := ?_) #[true, true, true, true, false, false, true, true, false, false, false, false, false, false] rfl rfl (by kernel_rfl) (fun _ _ _ h => h) (Or.inl ⟨by rfl, ?_⟩) hHeld ?_ ?_
        rotate_left
        · intro w' _
          go_simp
          with_reducible rfl
        rotate_left
        · simp only [Act.put, List.setIfInBounds_toArray, List.set_cons_zero, List.set_cons_succ, i64_w, i32_w]
          rfl
        refine pure_ (i := 4) (N := some 27) (v := ?_) (a' := ?_) #[true, true, true, true, true, false, true, true, false, false, false, false, false, false] rfl rfl (by kernel_rfl) (fun _ _ _ h => h) (Or.inl ⟨by rfl, ?_⟩) ?_ ?_
        rotate_left
        · intro w'
          go_simp
          with_reducible rfl
        rotate_left
        · simp only [Act.put, List.setIfInBounds_toArray, List.set_cons_zero, List.set_cons_succ, i64_w, i32_w]
          rfl
        refine take_ (i := 5) (N := some 28) (v := ?_) (a' := ?_) #[true, true, true, true, true, true, true, true, false, false, false, false, false, false] rfl rfl (by kernel_rfl) (fun _ _ _ h => h) (Or.inl ⟨by rfl, ?_⟩) hHeld ?_ ?_
        rotate_left
        · intro w' _
          go_simp
          with_reducible rfl
        rotate_left
        · simp only [Act.put, List.setIfInBounds_toArray, List.set_cons_zero, List.set_cons_succ, i64_w, i32_w]
          rfl
        refine take_ (i := 8) (N := some 31) (v := ?_) (a' := ?_) #[true, true, true, true, true, true, true, true, true, false, false, false, false, false] rfl rfl (by kernel_rfl) (fun _ _ _ h => h) (Or.inl ⟨by rfl, ?_⟩) hHeld ?_ ?_
        rotate_left
        · intro w' _
          go_simp
          with_reducible rfl
        rotate_left
        · simp only [Act.put, List.setIfInBounds_toArray, List.set_cons_zero, List.set_cons_succ, i64_w, i32_w]
          rfl
        refine pure_ (i := 9) (N := some 32) (v := ?_) (a' := ?_) #[true, true, true, true, true, true, true, true, true, true, false, false, false, false] rfl rfl (by kernel_rfl) (fun _ _ _ h => h) (Or.inl ⟨by rfl, ?_⟩) ?_ ?_
        rotate_left
        · intro w'
          go_simp
          with_reducible rfl
        rotate_left
        · simp only [Act.put, List.setIfInBounds_toArray, List.set_cons_zero, List.set_cons_succ, i64_w, i32_w]
          rfl
        refine take_ (i := 10) (N := some 33) (v := ?_) (a' := ?_) #[true, true, true, true, true, true, true, true, true, true, true, false, false, false] rfl rfl (by kernel_rfl) (fun _ _ _ h => h) (Or.inl ⟨by rfl, ?_⟩) hHeld ?_ ?_
        rotate_left
        · intro w' _
          go_simp
          with_reducible rfl
        rotate_left
        · simp only [Act.put, List.setIfInBounds_toArray, List.set_cons_zero, List.set_cons_succ, i64_w, i32_w]
          rfl
        refine one_ (i := 11) (N := some 34) #[true, true, true, true, true, true, true, true, true, true, true, true, false, false] rfl rfl (by kernel_rfl) (by decide) (fun K hK => ?_)
        refine value_ (w1 := ?_) (v := ?_) (by rfl) rfl ?_ ?_
        rotate_left 2
        · go_simp
          constructor
          · rfl
          · rfl
        refine hK.out _ _ trivial (fun hHeld => ?_)
        clear hK K
        refine norm_ (a' := ?_) ?_ ?_
        rotate_left
        · show Act.put _ (some 34) _ = _
          simp only [Act.put, List.setIfInBounds_toArray, List.set_cons_zero, List.set_cons_succ, i64_w, i32_w]
          rfl
        refine one_ (i := 12) (N := some 35) #[true, true, true, true, true, true, true, true, true, true, true, true, true, false] rfl rfl (by kernel_rfl) (by decide) (fun K hK => ?_)
        refine buf_app_step _ w.heap.size rfl (.tmp 23) (.tmp 34) rfl _ L [37, hexc m, hexc n] rfl _ 3 3 rfl rfl (by exact HB.out.below (below_alloc (below_drew (pw_below_drewN (Below.refl _ _) _)) _)) (by exact lit_cells _ #[.int .u8 37, .int .u8 ((hexc m).toNat : Int), .int .u8 ((hexc n).toNat : Int)]) (by simp; omega) (by exact Nat.le_trans hbs (by simp)) (by simp) ?_
        intro v1 w1 hb1 hb2
        refine hK.out _ _ trivial (fun hHeld => ?_)
        clear hK K
        refine norm_ (a' := ?_) ?_ ?_
        rotate_left
        · show Act.put _ (some 35) _ = _
          simp only [Act.put, List.setIfInBounds_toArray, List.set_cons_zero, List.set_cons_succ, i64_w, i32_w]
          rfl
        refine pure_ (i := 13) (N := some 3) (v := ?_) (a' := ?_) #[true, true, true, true, true, true, true, true, true, true, true, true, true, true] rfl rfl (by kernel_rfl) (fun _ _ _ h => h) (Or.inl ⟨by rfl, ?_⟩) ?_ ?_
        rotate_left
        · intro w'
          go_simp
          with_reducible rfl
        rotate_left
        · simp only [Act.put, List.setIfInBounds_toArray, List.set_cons_zero, List.set_cons_succ, i64_w, i32_w]
          rfl
        refine done_ (by kernel_rfl) ?_

        have HB1 := Aside0.mk hb1
        have HB2 := Aside0.mk hb2
        clear hb1 hb2
        go_wp2_with fail
        go_roundw
        case rel =>
          have hen : enc1 c = [37, hexc m, hexc n] := by unfold enc1; rw [HPL.out, HM.out, HNN.out]; rfl
          refine ⟨k + 1, by go_num, by omega, ⟨?_⟩, ⟨(below_alloc (below_drew (pw_below_drewN HW.out _)) _).trans HB2.out⟩⟩
          rw [← HNX.out, hen]; exact HB1.out
        case measure => simp [intOf]; omega
    · have b1 : decide ((k : Int) < (s.size : Int)) = false := decide_eq_false (by omega)
      obtain rfl : k = s.size := by omega
      have hcv := buf_string wr w.heap.size _ L HB.out
      go_wp2
      go_ret
      exact ⟨by rw [HL.out, List.take_of_length_le (by have := HSL.out; omega)]; rfl, HW.out⟩
theorem drop_cons_at (t : List UInt8) (k : Nat) (c : UInt8) (h : t[k]? = some c) : t.drop k = c :: t.drop (k + 1) := by
  have hk : k < t.length := (List.getElem?_eq_some_iff.1 h).1
  rw [List.drop_eq_getElem_cons hk]
  have := List.getElem?_eq_getElem hk
  rw [h] at this
  rw [← Option.some.inj this]
theorem lines_end (t : List UInt8) (k a : Nat) (h : t[k]? = some 10) : linesOf (t.drop k) ((t.drop a).take (k - a)) = (t.drop a).take (k - a) :: linesOf (t.drop (k + 1)) [] := by
  rw [drop_cons_at t k 10 h]; rfl
theorem lines_on (t : List UInt8) (k a : Nat) (c : UInt8) (h : t[k]? = some c) (hc : c ≠ 10) (hak : a ≤ k) : linesOf (t.drop k) ((t.drop a).take (k - a)) = linesOf (t.drop (k + 1)) ((t.drop a).take (k + 1 - a)) := by
  rw [drop_cons_at t k c h]
  have e : (t.drop a).take (k + 1 - a) = (t.drop a).take (k - a) ++ [c] := by
    rw [show k + 1 - a = (k - a) + 1 by omega, List.take_add_one, List.getElem?_drop, show a + (k - a) = k by omega, h]; rfl
  rw [e]
  conv => lhs; unfold linesOf
  rw [if_neg hc]
theorem extract_list (s : ByteArray) (a k : Nat) (hk : k ≤ s.size) : (s.extract a k).data.toList = (s.data.toList.drop a).take (k - a) := by
  simp [ByteArray.data_extract, List.extract_eq_take_drop]
set_option maxHeartbeats 4000000 in
set_option maxRecDepth 100000 in
theorem lines_calls (s : ByteArray) (hs : s.size ≤ 1048576) (w : World) :
    Calls Tryz.prog 36 #[.string s] w fun e w' => ∃ v D, e = .returned v ∧ Kd.R Kd.string 9 w' w.heap.size (fun _ => True) v D ∧ D.map (·.data.toList) = linesOf s.data.toList [] ∧ D.length ≤ s.size + 1 ∧ Below w.heap.size w w' := by
  have hsl : s.data.toList.length = s.size := by rw [Array.length_toList]; rfl
  have HSL := Aside0.mk hsl
  clear hsl
  go_enter Tryz.func36, Tryz.ntmps36
  go_wp2_with fail
  go_loopw [3, 4, 5] (fun v a i wr' => ∃ (at_ k : Nat) (D : List ByteArray), a = .int .i64 (at_ : Int) ∧ i = .int .i64 (k : Int) ∧ at_ ≤ k ∧ k ≤ s.size ∧ D.length ≤ k ∧ Aside0 (D.map (·.data.toList) ++ linesOf (s.data.toList.drop k) ((s.data.toList.drop at_).take (k - at_)) = linesOf s.data.toList []) ∧ Aside0 (Kd.R Kd.string 9 wr' w.heap.size (fun _ => True) v D) ∧ Aside0 (Below w.heap.size w wr')) (fun _ _ i _ => s.size - (intOf i).toNat)
  case atStart => exact ⟨0, 0, [], rfl, rfl, by omega, by omega, by simp, ⟨by simp⟩, ⟨Kd.R_nil _ _ _ _ _⟩, ⟨Below.refl _ _⟩⟩
  case round =>
    obtain ⟨a, k, D, rfl, rfl, hak, hk, hD, HE, HR, HW⟩ := hrel
    obtain ⟨A3, c3, rfl⟩ := Kd.R_slice HR.out
    have hbs := HW.out.size
    by_cases hlt : k < s.size
    · have b1 : decide ((k : Int) < (s.size : Int)) = true := decide_eq_true (by omega)
      obtain ⟨c, hc, hx1, hx2⟩ := byte_at s k hlt
      have HC := Aside0.mk hc
      have p0 : (0 : Int) ≤ (k : Int) := by omega
      have p1 : (k : Int) < (s.size : Int) := by omega
      have p2 : (k : Int) ≤ (s.size : Int) := by omega
      have p3 : (0 : Int) ≤ (a : Int) := by omega
      have p4 : (a : Int) ≤ (k : Int) := by omega
      clear hc
      by_cases h10 : c = 10
      · subst h10
        go_wp2_with (at_builtin; refine Kd.R_append Kd.string (w0 := w) w.heap.size rfl (.tmp 16) (.tmp 21) 29 9 (.string ⟨#[]⟩) 16 rfl Tryz.underlying29 info9 rfl (by decide) (by omega) (.slice A3 D.length c3) D (s.extract a k) [.string (s.extract a k)] (fun _ => True) (fun _ => False) rfl rfl rfl (fun _ hk => hk.elim) (fun _ _ => trivial) (by exact HR.out) (by exact HW.out) (by exact hbs) (by omega) ?_; intro v1 w1 hown hb hgw hat; have HOW := Aside0.mk hown; have HB1 := Aside0.mk hb; clear hown hgw hat hb)
        go_roundw
        case rel =>
          refine ⟨k + 1, k + 1, D ++ [s.extract a k], by go_num, by go_num, Nat.le_refl _, by omega, by simp; omega, ⟨?_⟩, HOW, HB1⟩
          have := HE.out
          rw [lines_end _ k a HC.out] at this
          rw [← this]
          simp [extract_list s a k (by omega)]
        case measure => simp [intOf]; omega
      · have e10 : (((c.toNat : Int)) == 10) = false := by
          have : c.toNat ≠ 10 := fun e => h10 (by have := congrArg UInt8.ofNat e; simpa using this)
          simp; omega
        go_wp2_with fail
        go_roundw
        case rel =>
          refine ⟨a, k + 1, D, rfl, by go_num, by omega, by omega, by omega, ⟨?_⟩, HR, HW⟩
          have := HE.out
          rw [lines_on _ k a c HC.out h10 hak] at this
          exact this
        case measure => simp [intOf]; omega
    · have b1 : decide ((k : Int) < (s.size : Int)) = false := decide_eq_false (by omega)
      obtain ⟨q, hq⟩ : ∃ q, q = s.size := ⟨_, rfl⟩
      have hkq : k = q := by omega
      subst hkq
      have HQ := Aside0.mk hq
      have HD : Aside0 (s.data.toList.drop k = [] ∧ (s.data.toList.drop a).take (k - a) = s.data.toList.drop a) := ⟨by
        have := HSL.out
        exact ⟨List.drop_eq_nil_of_le (by omega), List.take_of_length_le (by rw [List.length_drop]; omega)⟩⟩
      by_cases ha : a < s.size
      · have b2 : decide ((a : Int) < (s.size : Int)) = true := decide_eq_true (by omega)
        have p3 : (0 : Int) ≤ (a : Int) := by omega
        have p4 : (a : Int) ≤ (s.size : Int) := by omega
        clear hq
        go_wp2_with (at_builtin; refine Kd.R_append Kd.string (w0 := w) w.heap.size rfl (.tmp 29) (.tmp 33) 29 9 (.string ⟨#[]⟩) 16 rfl Tryz.underlying29 info9 rfl (by decide) (by omega) (.slice A3 D.length c3) D (s.extract a s.size) [.string (s.extract a s.size)] (fun _ => True) (fun _ => False) rfl rfl rfl (fun _ hk => hk.elim) (fun _ _ => trivial) (by exact HR.out) (by exact HW.out) (by exact hbs) (by omega) ?_; intro v1 w1 hown hb hgw hat; have HOW := Aside0.mk hown; have HB1 := Aside0.mk hb; clear hown hgw hat hb)
        go_ret
        refine ⟨_, _, rfl, HOW.out, ?_, by simp; omega, HB1.out⟩
        have := HE.out
        rw [HD.out.1, HD.out.2] at this
        rw [← this, List.map_append]
        have he : (s.extract a s.size).data.toList = s.data.toList.drop a := by
          rw [extract_list s a s.size (Nat.le_refl _)]
          exact List.take_of_length_le (by have := HSL.out; rw [List.length_drop]; omega)
        have hne : s.data.toList.drop a ≠ [] := by
          intro e; have := congrArg List.length e; have := HSL.out; rw [List.length_drop] at *; simp at *; omega
        rw [List.map_cons, List.map_nil, he]
        simp only [linesOf, if_neg hne]
      · have b2 : decide ((a : Int) < (s.size : Int)) = false := decide_eq_false (by omega)
        clear hq
        go_wp2
        go_ret
        refine ⟨_, _, rfl, HR.out, ?_, by omega, HW.out⟩
        have := HE.out
        rw [HD.out.1, HD.out.2, List.drop_eq_nil_of_le (by have := HSL.out; omega)] at this
        rw [← this]
        simp [linesOf]
theorem Pow.below {w w' : World} (h : Pow w) (hB : Below w.heap.size w w') : Pow w' := by
  exact (Lib.tabBelow_of_tabIs h) w' hB
def Nib (w : World) : Prop := ∀ n, n < 16 → w.cell? ⟨2, n, none⟩ = some (.int .u8 ((hexc n).toNat : Int))
theorem Nib.below {w w' : World} (h : Nib w) (hB : Below w.heap.size w w') : Nib w' := fun n hn => pw_cell_below hB (h n hn)
theorem byteCells_app (a b : List UInt8) : Lib.byteCells a ++ Lib.byteCells b = Lib.byteCells (a ++ b) := by simp [Lib.byteCells]
def wordB (s : ByteArray) : ByteArray := ⟨(61 :: encw s.data.toList).toArray⟩
end Go.Proofs.YtkfjjmmpbfjhaaaGreatDoor.Tells
namespace Go.Proofs.YtkfjjmmpbfjhaaaGreatDoor.Tells
open Go.RowKit Go.Proofs.YtkfjjmmpbfjhaaaGreatDoor.PScriptActs
set_option linter.unusedVariables false
set_option linter.unusedSimpArgs false
/-- a digit's value: 16 is none -/
def hexv (c : UInt8) : Nat := hexTab.findIdx (· == c)
theorem hexv_hexc : ∀ n : Fin 16, hexv (hexc n.val) = n.val := by decide +kernel
theorem plain_ascii : ∀ c : Fin 256, plainI c.val = true → c.val < 128 ∧ c.val ≠ 37 := by decide +kernel
/-- what a byte word says behind its '=' -/
def unw : List UInt8 → Option (List UInt8)
  | [] => some []
  | c :: r =>
    if 128 ≤ c.toNat then none
    else if c = 37 then
      match r with
      | a :: b :: r2 => if hexv a < 16 ∧ hexv b < 16 ∧ plainI (hexv a * 16 + hexv b) = false then (unw r2).map (UInt8.ofNat (hexv a * 16 + hexv b) :: ·) else none
      | _ => none
    else if plainI c.toNat = true then (unw r).map (c :: ·) else none
theorem unw_plain (c : UInt8) (l : List UInt8) (h1 : c.toNat < 128) (h3 : c ≠ 37) (h : plainI c.toNat = true) : unw (c :: l) = (unw l).map (c :: ·) := by
  have h1' : ¬ 128 ≤ c.toNat := by omega
  rcases l with _ | ⟨a, _ | ⟨b, r⟩⟩ <;> rw [unw.eq_def] <;> simp only [if_neg h1', if_neg h3, if_pos h]
theorem unw_hex (a b : UInt8) (l : List UInt8) (h : hexv a < 16 ∧ hexv b < 16 ∧ plainI (hexv a * 16 + hexv b) = false) : unw (37 :: a :: b :: l) = (unw l).map (UInt8.ofNat (hexv a * 16 + hexv b) :: ·) := by
  rw [unw.eq_def]
  simp only [if_pos h]
  rw [if_neg (by decide)]; exact if_pos trivial
theorem unw_enc1 (c : UInt8) (l : List UInt8) : unw (enc1 c ++ l) = (unw l).map (c :: ·) := by
  unfold enc1
  by_cases h : plainI c.toNat = true
  · rw [if_pos h]
    obtain ⟨h1, h2⟩ := plain_ascii ⟨c.toNat, c.toNat_lt⟩ h
    exact unw_plain c l h1 (fun e => h2 (by rw [e]; rfl)) h
  · rw [if_neg h]
    have hlt := c.toNat_lt
    have h1 : c.toNat / 16 < 16 := by omega
    have h2 : c.toNat % 16 < 16 := by omega
    have e1 : hexv (hexc (c.toNat / 16)) = c.toNat / 16 := hexv_hexc ⟨c.toNat / 16, h1⟩
    have e2 : hexv (hexc (c.toNat % 16)) = c.toNat % 16 := hexv_hexc ⟨c.toNat % 16, h2⟩
    have e3 : c.toNat / 16 * 16 + c.toNat % 16 = c.toNat := by omega
    show unw (37 :: hexc (c.toNat / 16) :: hexc (c.toNat % 16) :: l) = _
    rw [unw_hex _ _ _ (by rw [e1, e2, e3]; exact ⟨h1, h2, by simpa using h⟩), e1, e2, e3]
    simp
theorem unw_encw (l : List UInt8) : unw (encw l) = some l := by
  unfold encw
  induction l with
  | nil => rfl
  | cons c r ih => rw [List.flatMap_cons, unw_enc1, ih]; rfl
/-- acts: S31 (kind, name, other, names, text, number, fuel) -/
def nil_ : ByteArray := ⟨#[]⟩
def act0 (k : Int) : S31 := ⟨k, nil_, nil_, [], nil_, 0, 0⟩
/-- the act with nothing but the fields that its line names -/
def only (a : S31) : S31 :=
  if a.f0 = 1 then ⟨1, a.f1, a.f2, a.f3, nil_, 0, 0⟩
  else if a.f0 = 2 then ⟨2, a.f1, nil_, [], a.f4, 0, 0⟩
  else if a.f0 = 3 then ⟨3, a.f1, a.f2, [], nil_, 0, 0⟩
  else if a.f0 = 4 then ⟨4, a.f1, nil_, [], nil_, 0, 0⟩
  else if a.f0 = 5 then ⟨5, nil_, nil_, [], a.f4, 0, 0⟩
  else if a.f0 = 6 then ⟨6, nil_, nil_, [], nil_, a.f5, a.f6⟩
  else if a.f0 = 7 then ⟨7, a.f1, nil_, a.f3, nil_, 0, 0⟩
  else if a.f0 = 10 then ⟨10, nil_, nil_, [], nil_, a.f5, 0⟩
  else if a.f0 = 12 then ⟨12, nil_, nil_, [], a.f4, 0, 0⟩
  else act0 a.f0
end Go.Proofs.YtkfjjmmpbfjhaaaGreatDoor.Tells
