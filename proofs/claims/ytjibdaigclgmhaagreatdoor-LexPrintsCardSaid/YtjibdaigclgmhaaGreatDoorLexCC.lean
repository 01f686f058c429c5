/- The program's reading of tokens, walked: each function's answer in plain words. Conditions: those that each theorem states. -/
import Derived.Test.YtjibdaigclgmhaaGreatDoorLexPr
import Derived.Test.YtjibdaigclgmhaaGreatDoorLexA
import Derived.Maps.RangeWalk
import Derived.Lib.SmallJoins
import Derived.Test.YtjibdaigclgmhaaGreatDoorLexPPA
import Derived.Outline
import Derived.IntWalk
import Derived.WalkSpells
import Derived.LoopTactic
import Derived.Laws.RangeString
import Derived.Laws.RangeAny
import Derived.Lib.OthersKept
import Derived.Deep.QuietTactic
import Derived.BigQuiet
import Derived.Deep.MidRow
import Derived.ArgAppend
import Derived.Lib.AppendStr
namespace Go.Proofs.YtjibdaigclgmhaaGreatDoor.LexW
open Go.RowKit Go.Maps Go.Proofs.YtjibdaigclgmhaaGreatDoor.Lex Go.Proofs.YtjibdaigclgmhaaGreatDoor.PLexPrints Go.Proofs.YtjibdaigclgmhaaGreatDoorW.PrintWords Go.Proofs.YtjibdaigclgmhaaGreatDoorW.PrintLast Go.Proofs.YtjibdaigclgmhaaGreatDoorW.PrintMore
attribute [local go_sem] max2_int min2_int max_two min_two max_three min_three max_four min_four
set_option linter.unusedVariables false
set_option linter.unusedSimpArgs false
set_option maxHeartbeats 4000000 in
set_option maxRecDepth 100000 in
theorem spell_name (k n a : Int) (s : ByteArray) (w : World) (hk : k = 1 ∨ k = 3) : Calls Tryz.prog 15 #[.agg #[.int .i64 k, .string s, .int .i64 n, .int .i64 a]] w fun e w' => e = .returned (.string s) ∧ Below w.heap.size w w' := by
  have hb := (Below.refl w.heap.size w).alloc (Nat.le_refl _) (.cells #[.int .i64 k, .string s, .int .i64 n, .int .i64 a] 28 (0, 0))
  have HB := Aside0.mk hb
  clear hb
  rcases hk with rfl | rfl
  · go_enter Tryz.func15, Tryz.ntmps15
    go_wp2_with fail
    go_ret
    exact ⟨rfl, HB.out⟩
  · go_enter Tryz.func15, Tryz.ntmps15
    go_wp2_with fail
    go_ret
    exact ⟨rfl, HB.out⟩
theorem below_grow0 (B : Nat) (w : World) (hB : B ≤ w.heap.size) (k : Nat) (os : Array Obj) : Below B w («Sort».grow (w.drewN k) os) :=
  ⟨rfl, rfl, rfl, by show w.heap.size ≤ (w.heap ++ os).size; rw [Array.size_append]; omega, fun j hj => by show (w.heap ++ os)[j]? = w.heap[j]?; rw [Array.getElem?_append_left (by omega)]⟩
structure PEnv (w : World) : Prop where
  E : Erg w
  T : Lib.TabIs Tryz.prog w "internal/strconv.uint64pow10" .u64 Lib.pow10Tab
  M : ∃ m, w.cell? ⟨0, 0, none⟩ = some (.int .i64 m)
theorem g_pow : Tryz.prog.globalNamed "internal/strconv.uint64pow10" = some 1 := by kernel_rfl
theorem PEnv.below {w w' : World} (h : PEnv w) (hb : Below w.heap.size w w') : PEnv w' := by
  refine ⟨h.E.below hb, Joins.tab_stays g_pow h.T hb (Nat.le_refl _), ?_⟩
  obtain ⟨m, hm⟩ := h.M
  exact ⟨m, pw_cell_below hb hm⟩
def sB (l : List UInt8) : ByteArray := ⟨l.toArray⟩
theorem sB_app (a b : ByteArray) : a ++ b = sB (bl a ++ bl b) := by
  apply ByteArray.ext; simp [sB, bl]
theorem dbl_len : ∀ l : List UInt8, (dbl l).length ≤ 2 * l.length
  | [] => Nat.le_refl _
  | c :: r => by
    have := dbl_len r
    unfold dbl
    split <;> simp <;> omega
set_option maxHeartbeats 4000000 in
set_option maxRecDepth 100000 in
theorem spell_other (k n a : Int) (s : ByteArray) (w : World) (hs : s.size ≤ 1073741824) (hn0 : -9223372036854775808 ≤ n) (hn : n ≤ 9223372036854775807) (E : PEnv w) (hk : k = 2 ∨ k = 4 ∨ k = 5 ∨ k = 6 ∨ k = 7 ∨ k = 14) : Calls Tryz.prog 15 #[.agg #[.int .i64 k, .string s, .int .i64 n, .int .i64 a]] w fun e w' => e = .returned (.string (sB (spellL k (bl s) n))) ∧ Below w.heap.size w w' := by
  have hb : Below w.heap.size w (w.alloc (.cells #[.int .i64 k, .string s, .int .i64 n, .int .i64 a] 28 (0, 0))) := (Below.refl w.heap.size w).alloc (Nat.le_refl _) _
  have hcat : ¬ (9223372036854775807 < s.size + ByteArray.size ⟨#[58]⟩) := by show ¬ (_ < s.size + 1); omega
  have hcat2 : ¬ (9223372036854775807 < ByteArray.size ⟨#[35]⟩ + s.size) := by show ¬ (_ < 1 + s.size); omega
  have HB := Aside0.mk hb
  rcases hk with rfl | rfl | rfl | rfl | rfl | rfl
  · go_enter Tryz.func15, Tryz.ntmps15
    go_wp2_with fail
    go_ret
    refine ⟨?_, HB.out⟩
    rw [sB_app]; rfl
  · have hi := Tryz.strconv_Itoa n hn0 hn _ (E.below hb).T
    go_enter Tryz.func15, Tryz.ntmps15
    go_wp2_with (go_at_call 26; refine hi.mono ?_; rintro e w1 ⟨rfl, nd, os, rfl⟩)
    go_ret
    exact ⟨rfl, HB.out.trans (below_grow0 _ _ (by simp) _ _)⟩
  · go_enter Tryz.func15, Tryz.ntmps15
    go_wp2_with fail
    go_ret
    refine ⟨?_, HB.out⟩
    rw [sB_app]; rfl
  · obtain ⟨m, hm⟩ := (E.below hb).M
    have hj := Tryz.strings_ReplaceAll s ⟨#[39]⟩ ⟨#[39, 39]⟩ m _ (by omega) hm (by decide) (by
      have := Lib.count_le (bl s) [39]
      rw [bl_len] at this
      show s.size + Lib.count (bl s) [39] * 2 ≤ _
      omega)
    rw [show (ByteArray.mk #[39]).data.toList = [39] from rfl, show (ByteArray.mk #[39, 39]).data.toList = [39, 39] from rfl, replaceAll_dbl] at hj
    have hd := dbl_len (bl s)
    rw [bl_len] at hd
    obtain ⟨x, hx⟩ : ∃ x : ByteArray, x = ⟨(dbl (bl s)).toArray⟩ := ⟨_, rfl⟩
    have hxl : x.size ≤ 2 * s.size := by rw [← bl_len, hx]; exact hd
    rw [← hx] at hj
    have HX := Aside0.mk hx
    have c1 : ¬ (9223372036854775807 < ByteArray.size ⟨#[39]⟩ + x.size) := by show ¬ (_ < 1 + x.size); omega
    have c2 : ¬ (9223372036854775807 < ByteArray.size (⟨#[39]⟩ ++ x) + ByteArray.size ⟨#[39]⟩) := by
      rw [ByteArray.size_append]
      show ¬ (_ < 1 + x.size + 1)
      omega
    clear hx
    go_enter Tryz.func15, Tryz.ntmps15
    go_wp2_with (go_at_call 27; refine hj.mono ?_; rintro e w1 ⟨rfl, hb1⟩)
    go_ret
    refine ⟨?_, HB.out.trans (below_le hb1 (by simp))⟩
    rw [sB_app, sB_app, HX.out]; rfl
  · go_enter Tryz.func15, Tryz.ntmps15
    go_wp2_with fail
    go_ret
    refine ⟨?_, HB.out⟩
    rfl
  · go_enter Tryz.func15, Tryz.ntmps15
    go_wp2_with fail
    go_ret
    refine ⟨?_, HB.out⟩
    rfl
theorem mark_low : ∀ c : Fin 256, markI c.val ≠ 0 → c.val = 40 ∨ c.val = 41 ∨ c.val = 91 ∨ c.val = 93 ∨ c.val = 124 ∨ c.val = 58 ∨ c.val = 94 ∨ c.val = 46 ∨ c.val = 59 := by decide +kernel
theorem mark_back : ∀ c : Fin 256, markI c.val ≠ 0 → markCh (markI c.val) = [UInt8.ofNat c.val] ∧ c.val < 128 := by decide +kernel
theorem mark_has : ∀ k : Fin 18, markCh k.val ≠ [] → ∃ c : Fin 256, markI c.val = k.val ∧ markI c.val ≠ 0 := by decide +kernel
theorem mark_none {k : Int} (h : ∀ c : Fin 256, markI c.val = k → markI c.val ≠ 0 → False) : markCh k = [] := by
  by_cases hk : 0 ≤ k ∧ k < 18
  · obtain ⟨n, rfl⟩ := Int.eq_ofNat_of_zero_le hk.1
    by_cases hz : markCh (n : Int) = []
    · exact hz
    · obtain ⟨c, e, hc⟩ := mark_has ⟨n, by omega⟩ hz
      exact (h c e hc).elim
  · unfold markCh
    rw [if_neg (by omega), if_neg (by omega), if_neg (by omega), if_neg (by omega), if_neg (by omega), if_neg (by omega), if_neg (by omega), if_neg (by omega), if_neg (by omega)]
theorem wf_u8_inv {x : Int} (h : (Lit.int .u8 x).wf = true) : ∃ c : Fin 256, x = (c.val : Int) := by
  have : 0 ≤ x ∧ x < 256 := by simp [Lit.wf, IntKind.min, IntKind.max, IntKind.signed, IntKind.bits] at h; omega
  exact ⟨⟨x.toNat, by omega⟩, by simp; omega⟩
set_option maxHeartbeats 4000000 in
set_option maxRecDepth 100000 in
theorem spell_mark (k n a : Int) (s : ByteArray) (w : World) (h1 : k ≠ 1) (h2 : k ≠ 2) (h3 : k ≠ 3) (h4 : k ≠ 4) (h5 : k ≠ 5) (h6 : k ≠ 6) (h7 : k ≠ 7) (h8 : k ≠ 14) : Calls Tryz.prog 15 #[.agg #[.int .i64 k, .string s, .int .i64 n, .int .i64 a]] w fun e w' => e = .returned (.string (sB (markCh k))) ∧ Below w.heap.size w w' := by
  have b1 : (k == 1) = false := by simpa using h1
  have b2 : (k == 2) = false := by simpa using h2
  have b3 : (k == 3) = false := by simpa using h3
  have b4 : (k == 4) = false := by simpa using h4
  have b5 : (k == 5) = false := by simpa using h5
  have b6 : (k == 6) = false := by simpa using h6
  have b7 : (k == 7) = false := by simpa using h7
  have b8 : (k == 14) = false := by simpa using h8
  clear h1 h2 h3 h4 h5 h6 h7 h8
  have hb : Below w.heap.size w (w.alloc (.cells #[.int .i64 k, .string s, .int .i64 n, .int .i64 a] 28 (0, 0))) := (Below.refl w.heap.size w).alloc (Nat.le_refl _) _
  have hmk := marks_calls (H := Unit) (w.alloc (.cells #[.int .i64 k, .string s, .int .i64 n, .int .i64 a] 28 (0, 0)))
  have hF := blk_new w (.cells #[.int .i64 k, .string s, .int .i64 n, .int .i64 a] 28 (0, 0))
  have hsz : (w.alloc (.cells #[.int .i64 k, .string s, .int .i64 n, .int .i64 a] 28 (0, 0))).heap.size = w.heap.size + 1 := by simp
  rw [hsz] at hmk
  have HB := Aside0.mk hb
  have HF := Aside0.mk hF
  have hkk : (k == k) = true := by simp
  clear hb hF hsz
  go_enter Tryz.func15, Tryz.ntmps15
  go_wp2_with (first
    | (go_at_call 28; refine hmk.mono ?_; rintro e w1 ⟨rfl, ho, hb1⟩; have HO := Aside0.mk ho; have HB1 := Aside0.mk hb1; clear ho hb1)
    | (at_range; refine wpList_range_own _ rfl _ 54 rfl 5 3 law5 Tryz.underlying54 _ _ 9 _ rfl HO.out ?_; intro w2 hrg0 hg0 hs0)
    | go_in)
  go_frame
  obtain ⟨r, hr⟩ : ∃ r, r = w1.heap.size := ⟨_, rfl⟩
  rw [← hr] at hrg0 ⊢
  have hlt1 : w.heap.size + 1 ≤ w1.heap.size := by have := HB1.out.size; simpa using this
  have hlt : w.heap.size + 1 ≤ r := by rw [hr]; exact hlt1
  have hF2 : w2.heap[w.heap.size]? = some (.cells #[.int .i64 k, .string s, .int .i64 n, .int .i64 a] 28 (0, 0)) := by
    rw [hg0.block _ (by omega) (by simp), HB1.out.block _ (Nat.lt_succ_self _)]; exact HF.out
  have hW2 : Below w.heap.size w w2 := HB.out.trans ((below_le HB1.out (Nat.le_succ _)).grown hg0 (by omega) (fun j hj => by cases hj))
  go_loopw [3, 4] (fun _ _ wr => ∃ (left : Lit → Bool) (cnt : Nat), wr.ranges Tryz.prog 5 (plainElem (H := Unit) Tryz.prog 3) (w.heap.size + 1) r 9 marksD left cnt ∧ Aside0 (wr.heap[w.heap.size]? = some (.cells #[.int .i64 k, .string s, .int .i64 n, .int .i64 a] 28 (0, 0))) ∧ Aside0 (Below w.heap.size w wr) ∧ Aside0 (∀ x : Fin 256, markI x.val = k → markI x.val ≠ 0 → left (.int .u8 (x.val : Int)) = true) ∧ Aside0 (∀ x : Int, left (.int .u8 x) = true → markI x ≠ 0))
    (fun _ _ wr => wr.rangeLeft (w.heap.size + 1) r)
  case atStart =>
    refine ⟨_, _, hrg0, ⟨hF2⟩, ⟨hW2⟩, ⟨fun x _ hx => ?_⟩, ⟨fun x hx => ?_⟩⟩
    · rw [(marks_all _).2]; simpa using hx
    · rw [(marks_all _).2] at hx; simpa using hx
  case round =>
    obtain ⟨left, cnt, hrg, HFR, HBR, HL1, HL2⟩ := hrel
    clear hmk HB HF HO HB1 hg0 hs0 hrg0 hr hlt1 hF2 hW2
    have hrl := hrg.lt
    have hf := HFR.out
    have d0 := blk_cell hf 0
    have f0 := fun i => blk_frozen hf i
    go_wp2_with (first
      | (at_next; refine wpList_next_ranges_ii _ rfl _ rfl 5 3 .u8 .i64 law5 Tryz.underlying5 Tryz.underlying3 (w.heap.size + 1) r 9 _ _ _ rfl hrg ?_ ?_)
      | go_in)
    · intro _ hl0
      go_wp2_with fail
      go_ret
      refine ⟨?_, HBR.out⟩
      rw [mark_none (k := k) (fun c e h => by have := HL1.out c e h; rw [hl0] at this; cases this)]; rfl
    · intro x c w1 cnt1 hwx hwc hlx hat hrg1 hlc hg1 hs1 hen
      have hx0 := hat (.lit (.int .i64 0))
      rw [(marks_all x).1] at hx0
      have hx1 := HL2.out x hlx
      obtain ⟨x, rfl⟩ := wf_u8_inv hwx
      have hcx : c = markI x.val := by injection hx0 with hx0; injection hx0 with _ hx0; exact hx0.symm
      have hb1 : Below w.heap.size w w1 := HBR.out.grown hg1 (by omega) (fun j hj => by cases hj; omega)
      have hf1 : w1.heap[w.heap.size]? = some (.cells #[.int .i64 k, .string s, .int .i64 n, .int .i64 a] 28 (0, 0)) := by
        rw [hg1.block _ (by omega) (by simp; omega)]; exact hf
      have d1 := blk_cell hf1 0
      have f1 := fun i => blk_frozen hf1 i
      by_cases hck : c = k
      · have e1 : (c == k) = true := by simpa using hck
        have hlow := mark_low x hx1
        have hmc : markCh k = [UInt8.ofNat x.val] := by rw [← hck, hcx]; exact (mark_back x hx1).1
        have HMC := Aside0.mk hmc
        have HB1' := Aside0.mk hb1
        clear hmc hb1 hx0 hx1 hcx hat hlx hwx hwc hck hrg1 hrg hg1
        obtain ⟨x, hxl⟩ := x
        simp only at hlow hen HMC
        rcases hlow with rfl | rfl | rfl | rfl | rfl | rfl | rfl | rfl | rfl
        all_goals
          go_wp2_with (first | go_in)
          go_ret
          refine ⟨?_, HB1'.out⟩
          rw [HMC.out]
          rfl
      · have e1 : (c == k) = false := by simpa using hck
        have HB1' := Aside0.mk hb1
        have HF1' := Aside0.mk hf1
        clear hx0 hx1 hb1 hf1
        go_wp2_with (first | go_in)
        go_roundw
        case rel =>
          refine ⟨_, cnt1, hrg1, HF1', HB1', ⟨fun y h1 h2 => ?_⟩, ⟨fun y hy => ?_⟩⟩
          · have h3 := HL1.out y h1 h2
            have hne : ¬ (y.val : Int) = (x.val : Int) := fun e => hck (by rw [hcx, ← e, h1])
            simp [h3, Lit.sameKey]
            omega
          · simp at hy
            exact HL2.out y hy.1
        case measure => rw [hrg1.left_eq, hrg.left_eq]; exact hlc
theorem spell_calls (x : S28) (w : World) (hs : x.f1.size ≤ 1073741824) (hn0 : -9223372036854775808 ≤ x.f2) (hn : x.f2 ≤ 9223372036854775807) (E : PEnv w) : Calls Tryz.prog 15 #[.agg #[.int .i64 x.f0, .string x.f1, .int .i64 x.f2, .int .i64 x.f3]] w fun e w' => e = .returned (.string (sB (spellL x.f0 (bl x.f1) x.f2))) ∧ Below w.heap.size w w' := by
  obtain ⟨k, s, n, a⟩ := x
  simp only at hs hn0 hn ⊢
  by_cases h1 : k = 1 ∨ k = 3
  · refine (spell_name k n a s w h1).mono fun e w' ⟨he, hb⟩ => ⟨?_, hb⟩
    rw [he]
    unfold spellL
    rw [if_pos h1]; rfl
  · by_cases h2 : k = 2 ∨ k = 4 ∨ k = 5 ∨ k = 6 ∨ k = 7 ∨ k = 14
    · exact spell_other k n a s w hs hn0 hn E h2
    · refine (spell_mark k n a s w (by omega) (by omega) (by omega) (by omega) (by omega) (by omega) (by omega) (by omega)).mono fun e w' ⟨he, hb⟩ => ⟨?_, hb⟩
      rw [he]
      unfold spellL
      rw [if_neg h1, if_neg (by omega), if_neg (by omega), if_neg (by omega), if_neg (by omega), if_neg (by omega), if_neg (by omega)]
end Go.Proofs.YtjibdaigclgmhaaGreatDoor.LexW
