/- script.unwritten, walked: a byte word read. script.number, and the readers of one word (text, num and their closures), walked. Conditions: those that each theorem states. -/
import Derived.Test.YtkfjjmmpbfjhaaaGreatDoorScrBld
import Derived.Laws.RangeString
import Derived.Laws.RangeAny
import Derived.Lib.OthersKept
import Derived.Lib.AtoiAllCases
import Derived.Lib.AtoiErrMem
import Derived.Lib.ItoaLen
namespace Go.Proofs.YtkfjjmmpbfjhaaaGreatDoor.Tells
open Go.RowKit Go.Proofs.YtkfjjmmpbfjhaaaGreatDoor.Facts Go.Proofs.YtkfjjmmpbfjhaaaGreatDoor.PScriptActs Go.Proofs.YtkfjjmmpbfjhaaaGreatDoorW.PrintWords Go.Proofs.YtkfjjmmpbfjhaaaGreatDoorW.PrintLast Go.Proofs.YtkfjjmmpbfjhaaaGreatDoorW.PrintMore
attribute [local go_sem] max2_int min2_int max_two min_two max_three min_three max_four min_four
set_option linter.unusedVariables false
set_option linter.unusedSimpArgs false
abbrev bl (s : ByteArray) : List UInt8 := s.data.toList
theorem bl_len (s : ByteArray) : (bl s).length = s.size := by rw [Array.length_toList]; rfl
theorem bl_get (s : ByteArray) (i : Nat) (h : i < s.size) : (bl s)[i]? = some (s[i]'h) := by
  rw [List.getElem?_eq_getElem (by rw [bl_len]; exact h)]
  rfl
theorem iterPos_of {w : World} {k : Nat} {s : ByteArray} {p : Nat} (h : w.heap[k]? = some (.stringIter s p)) : w.iterPos k = p := by simp [World.iterPos, h]
/-- where unwritten's loop is -/
structure Unw (w : World) (t : ByteArray) (pos : Nat) (out : List UInt8) (wr : World) : Prop where
  it : wr.heap[w.heap.size + 1]? = some (.stringIter t pos)
  bld : Lib.IsBuilderF 106 5 w.heap.size w.heap.size (Lib.byteCells out) wr
  below : Below w.heap.size w wr
theorem Unw.next {w : World} {t : ByteArray} {pos : Nat} {out : List UInt8} {wr : World} (h : Unw w t pos out wr) (pos' : Nat) : Unw w t pos' out (wr.iterAt (w.heap.size + 1) t pos') :=
  ⟨Lib.iterAt_heap wr _ t pos pos' h.it, h.bld.iterAt h.it pos', Lib.below_iterAt h.below (Nat.le_succ _) t pos'⟩
theorem bldF_below {T e : TypeId} {B b : Nat} {bs : List Value} {w w' : World} (h : Lib.IsBuilderF T e B b bs w) (hb : Below w.heap.size w w') : Lib.IsBuilderF T e B b bs w' := by
  have key : ∀ p, Lib.BuilderAtF T e B b p bs w → Lib.BuilderAtF T e B b p bs w' := by
    rintro p ⟨hB, v, hv, ⟨h1, h2⟩, hne⟩
    refine ⟨hB, v, (hb.block b (blk_lt hv)).trans hv, ⟨h1, ?_⟩, hne⟩
    rcases h2 with h2 | ⟨g, cap, cur, fz, hv, hbg, hg, rest⟩
    · exact .inl h2
    · exact .inr ⟨g, cap, cur, fz, hv, hbg, (hb.block g (blk_lt hg)).trans hg, rest⟩
  exact h.elim (fun x => .inl (key _ x)) (fun x => .inr (key _ x))
theorem Unw.move {w : World} {t : ByteArray} {pos : Nat} {out : List UInt8} {wr wr2 : World} (h : Unw w t pos out wr) (hb : Below wr.heap.size wr wr2) : Unw w t pos out wr2 :=
  ⟨(hb.block _ (blk_lt h.it)).trans h.it, bldF_below h.bld hb, below_then h.below h.below.size hb⟩
/-- behind a write of the builder -/
theorem Unw.write {w : World} {t : ByteArray} {pos : Nat} {out more : List UInt8} {wr wr2 : World} {bs : List Value} (h : Unw w t pos out wr) (hm : bs = Lib.byteCells more) (hb : Lib.BuilderAtF 106 5 w.heap.size w.heap.size (.pointer (some ⟨w.heap.size, 0, none⟩)) (Lib.byteCells out ++ bs) wr2) (hl : Below w.heap.size wr wr2) (ho : Lib.OthersKept 5 (some w.heap.size) wr wr2) : Unw w t pos (out ++ more) wr2 := by
  subst hm
  refine ⟨ho.iter h.it (by omega), ?_, h.below.trans hl⟩
  rw [byteCells_app] at hb
  exact .inr hb
/-- what unwritten says of a word -/
def unwS : List UInt8 → Option (List UInt8)
  | 61 :: r => unw r
  | _ => none
def unwV : Option (List UInt8) → Value
  | some o => .tuple #[.string ⟨o.toArray⟩, .bool true]
  | none => .tuple #[.string ⟨#[]⟩, .bool false]
theorem unw_none_high (c : UInt8) (r : List UInt8) (h : 128 ≤ c.toNat) : unw (c :: r) = none := by
  rcases r with _ | ⟨a, _ | ⟨b, r⟩⟩ <;> rw [unw.eq_def] <;> simp only [if_pos h]
theorem unw_none_odd (c : UInt8) (r : List UInt8) (h1 : c.toNat < 128) (h3 : c ≠ 37) (h : plainI c.toNat = false) : unw (c :: r) = none := by
  have h1' : ¬ 128 ≤ c.toNat := by omega
  have h' : ¬ plainI c.toNat = true := by rw [h]; simp
  rcases r with _ | ⟨a, _ | ⟨b, r⟩⟩ <;> rw [unw.eq_def] <;> simp only [if_neg h1', if_neg h3, if_neg h']
theorem unw_none_short (r : List UInt8) (h : r.length < 2) : unw (37 :: r) = none := by
  rcases r with _ | ⟨a, _ | ⟨b, r⟩⟩
  · rw [unw.eq_def]; rfl
  · rw [unw.eq_def]; rfl
  · simp at h; omega
theorem unw_none_hex (a b : UInt8) (r : List UInt8) (h : ¬ (hexv a < 16 ∧ hexv b < 16 ∧ plainI (hexv a * 16 + hexv b) = false)) : unw (37 :: a :: b :: r) = none := by
  rw [unw.eq_def]
  simp only [if_neg h]
  rw [if_neg (by decide)]; exact if_pos trivial
theorem plain37 : plainI 37 = false := by decide +kernel
theorem hex_asc : ∀ x : Fin 256, hexv (UInt8.ofNat x.val) < 16 → x.val < 128 := by decide +kernel
theorem hex_ascii (x : UInt8) (hx : hexv x < 16) : x.toNat < 128 := hex_asc ⟨x.toNat, x.toNat_lt⟩ (by simpa using hx)
theorem bl_drop (s : ByteArray) (i : Nat) (h : i < s.size) : (bl s).drop i = s[i]'h :: (bl s).drop (i + 1) := by
  rw [List.drop_eq_getElem_cons (by rw [bl_len]; exact h)]
  congr 1
set_option maxHeartbeats 4000000 in
set_option maxRecDepth 100000 in
theorem unwritten_no (s : ByteArray) (h : Lib.hasPrefix (bl s) [61] = false) (w : World) : Calls Tryz.prog 89 #[.string s] w fun e w' => e = .returned (unwV none) ∧ Below w.heap.size w w' := by
  have hc := Tryz.strings_CutPrefix s ⟨#[61]⟩ w
  have e1 : (⟨#[61]⟩ : ByteArray).data.toList = [61] := rfl
  rw [e1, h] at hc
  have HW : Aside0 (Below w.heap.size w w) := ⟨Below.refl _ _⟩
  clear h e1
  go_enter Tryz.func89, Tryz.ntmps89
  go_wp2_with (go_at_call 104; refine hc.mono ?_; rintro e w1 ⟨rfl, rfl⟩)
  go_ret2
  exact ⟨rfl, HW.out⟩
set_option maxHeartbeats 4000000 in
set_option maxRecDepth 100000 in
theorem unwritten_main (s t : ByteArray) (h : Lib.hasPrefix (bl s) [61] = true) (ht : (⟨(Lib.trimPrefix (bl s) [61]).toArray⟩ : ByteArray) = t) (hsz : t.size ≤ 1073741824) (o : Value) (ho : Aside0 (o = unwV (unw (bl t)))) (w : World) : Calls Tryz.prog 89 #[.string s] w fun e w' => e = .returned o ∧ Below w.heap.size w w' := by
  have hc := Tryz.strings_CutPrefix s ⟨#[61]⟩ w
  have e1 : (⟨#[61]⟩ : ByteArray).data.toList = [61] := rfl
  rw [e1, h, ht] at hc
  clear h e1 ht
  go_enter Tryz.func89, Tryz.ntmps89
  go_wp2_with (go_at_call 104; refine hc.mono ?_; rintro e w ⟨rfl, rfl⟩)
  have HU0 : Aside0 (Unw w t 0 [] ((w.alloc (.cells #[.pointer none, .slice none 0 0] 106)).iter t 0)) := ⟨by
    have h1 : (w.alloc (.cells #[.pointer none, .slice none 0 0] 106)).heap.size = w.heap.size + 1 := by simp
    refine ⟨?_, ?_, ?_⟩
    · have := World.iter_heap (w.alloc (.cells #[.pointer none, .slice none 0 0] 106)) t 0
      rw [h1] at this; exact this
    · refine Lib.IsBuilderF.alloc (Lib.IsBuilderF.of (.inl ⟨Nat.le_refl _, .slice none 0 0, blk_new w _, own_nil _ _ _ _, by simp [Value.ownBlock]⟩)) _
    · exact (below_alloc (Below.refl _ _) _).trans ((Below.refl _ _).alloc (by simp) _)⟩
  clear hc
  go_loopw [6] (fun v6 wr => ∃ (pos k : Nat) (out : List UInt8), v6 = .int .i64 (k : Int) ∧ k ≤ 2 ∧ pos + k ≤ t.size ∧ out.length ≤ pos + k ∧ Aside0 (Unw w t pos out wr) ∧ Aside0 (unw (bl t) = (unw ((bl t).drop (pos + k))).map (out ++ ·)) ∧ Aside0 (∀ j c, j < k → (bl t)[pos + j]? = some c → c.toNat < 128)) (fun v6 wr => t.size - wr.iterPos (w.heap.size + 1))
  case atStart => exact ⟨0, 0, [], rfl, by omega, by omega, by simp, HU0, ⟨by simp⟩, ⟨fun j c h => absurd h (Nat.not_lt_zero _)⟩⟩
  case round =>
    obtain ⟨pos, k, out, rfl, hk2, hle, hol, HU, HEQ, HAS⟩ := hrel
    clear HU0
    have hpos0 := Aside0.mk (iterPos_of HU.out.it)
    by_cases hp : pos < t.size
    · have hnx : ∀ ty, (Instr.next (.pointer (some ⟨w.heap.size + 1, 0, none⟩)) true ty).run Tryz.prog wr = _ := fun ty => Lib.run_next_any_at wr (w.heap.size + 1) t pos ty HU.out.it hp
      have hdr := bl_drop t pos hp
      have hget := bl_get t pos hp
      obtain ⟨c, hcd⟩ : ∃ c, t[pos]'hp = c := ⟨_, rfl⟩
      by_cases hasc : c.toNat < 128
      · have hdec := decode_ascii t pos hp (by rw [hcd]; exact hasc)
        rw [hcd] at hdec hdr hget
        rw [hdec] at hnx
        have HU1 := Aside0.mk (HU.out.next (pos + 1))
        obtain ⟨W1, hW1⟩ : ∃ W1, W1 = wr.iterAt (w.heap.size + 1) t (pos + 1) := ⟨_, rfl⟩
        simp only at hnx
        rw [← hW1] at hnx HU1
        have b1 : decide ((127 : Int) < (c.toNat : Int)) = false := decide_eq_false (by omega)
        have HMS : Aside0 (∀ W out', Unw w t (pos + 1) out' W → t.size - W.iterPos (w.heap.size + 1) < t.size - wr.iterPos (w.heap.size + 1)) := ⟨fun W out' h => by
          rw [iterPos_of h.it, hpos0.out]; omega⟩
        have HDR := Aside0.mk hdr
        have HGET := Aside0.mk hget
        have HCD := Aside0.mk hcd
        clear hdec hdr hget hcd hW1 hpos0
        by_cases hk0 : 0 < k
        · have b2 : decide ((0 : Int) < (k : Int)) = true := decide_eq_true (by omega)
          have b3 : (0 < k) = True := eq_true hk0
          have hwk : wrap64 ((k : Int) - 1) = ((k - 1 : Nat) : Int) := by unfold wrap64; omega
          have hsum : pos + 1 + (k - 1) = pos + k := by omega
          have HR : Aside0 (∃ (pos' k' : Nat) (out' : List UInt8), Value.int .i64 ((k : Int) - 1) = .int .i64 (k' : Int) ∧ k' ≤ 2 ∧ pos' + k' ≤ t.size ∧ out'.length ≤ pos' + k' ∧ Aside0 (Unw w t pos' out' W1) ∧ Aside0 (unw (bl t) = (unw ((bl t).drop (pos' + k'))).map (out' ++ ·)) ∧ Aside0 (∀ j c, j < k' → (bl t)[pos' + j]? = some c → c.toNat < 128)) := ⟨pos + 1, k - 1, out, by rw [show ((k : Int) - 1) = ((k - 1 : Nat) : Int) by omega], by omega, by omega, by omega, HU1, ⟨by rw [hsum]; exact HEQ.out⟩, ⟨fun j c hj hc => HAS.out (j + 1) c (by omega) (by rw [← hc]; congr 1; omega)⟩⟩
          go_wp2_with fail
          go_roundw
          case rel => exact HR.out
          case measure => exact HMS.out _ _ HU1.out
        · have hkz : k = 0 := by omega
          have b2 : decide ((0 : Int) < (k : Int)) = false := decide_eq_false (by omega)
          have b3 : (0 < k) = False := eq_false hk0
          have b3' : decide (0 < k) = false := decide_eq_false hk0
          have HDK : Aside0 ((bl t).drop (pos + k) = c :: (bl t).drop (pos + 1)) := ⟨by rw [hkz, Nat.add_zero]; exact HDR.out⟩
          have HNO : Aside0 (unw (c :: (bl t).drop (pos + 1)) = none → o = unwV none) := ⟨fun h => by rw [ho.out, HEQ.out, HDK.out, h]; rfl⟩
          have hw1 : wrap64 ((pos : Int) + 1) = (pos : Int) + 1 := by unfold wrap64; omega
          have hw3 : wrap64 ((pos : Int) + 3) = (pos : Int) + 3 := by unfold wrap64; omega
          by_cases h37 : c = 37
          · have b4 : ((c.toNat : Int) == 37) = true := by rw [h37]; rfl
            have b4' : (c.toNat : Int) = 37 := by rw [h37]; rfl
            by_cases hl3 : pos + 3 ≤ t.size
            · have b5 : decide ((pos : Int) + 3 ≤ (t.size : Int)) = true := decide_eq_true (by omega)
              have hl4 : pos + 1 ≤ t.size := by omega
              obtain ⟨a, ha⟩ : ∃ a, t[pos + 1]'(by omega) = a := ⟨_, rfl⟩
              obtain ⟨b, hb⟩ : ∃ b, t[pos + 2]'(by omega) = b := ⟨_, rfl⟩
              have hd2 : (bl t).drop (pos + 1) = a :: b :: (bl t).drop (pos + 3) := by
                rw [bl_drop t (pos + 1) (by omega), bl_drop t (pos + 2) (by omega), ha, hb]
              have hsub : (t.extract (pos + 1) (pos + 3)).data.toList = [a, b] := by
                rw [extract_list t (pos + 1) (pos + 3) hl3, hd2]
                have : pos + 3 - (pos + 1) = 2 := by omega
                rw [this]; rfl
              by_cases hg : hexv a < 16 ∧ hexv b < 16
              · obtain ⟨q, hq⟩ : ∃ q, q = hexv a * 16 + hexv b := ⟨_, rfl⟩
                have hq256 : q < 256 := by omega
                obtain ⟨sB, hsB⟩ : ∃ x : ByteArray, x = ⟨#[UInt8.ofNat q]⟩ := ⟨_, rfl⟩
                have hszB : sB.size = 1 := by rw [hsB]; rfl
                have hqn : (UInt8.ofNat q).toNat = q := by rw [UInt8.toNat_ofNat']; omega
                have hxB : ∀ h : 0 < sB.size, ((sB[0]'h).toNat : Int) = (q : Int) := by
                  subst hsB
                  intro h
                  show ((UInt8.ofNat q).toNat : Int) = q
                  rw [hqn]
                have HH : Aside0 (∀ W, Calls Tryz.prog 105 #[.string (t.extract (pos + 1) (pos + 3))] W fun e w' => e = .returned (.tuple #[.string sB, .bool true]) ∧ Below W.heap.size W w') := ⟨fun W => by
                  have := unhexed_good _ a b hsub (hexv a) (hexv b) (by rw [hexi_eq, if_pos hg.1]) (by rw [hexi_eq, if_pos hg.2]) hg.1 hg.2 W
                  rw [← hq, ← hsB] at this
                  exact this⟩
                have HSB : Aside0 (Lib.strCells sB = Lib.byteCells [UInt8.ofNat q]) := ⟨by rw [hsB]; rfl⟩
                by_cases hpl : plainI q = true
                · have HN2 : Aside0 (o = unwV none) := ⟨HNO.out (by rw [hd2, h37]; exact unw_none_hex a b _ (by rw [← hq, hpl]; simp))⟩
                  have HPL := Aside0.mk hpl
                  clear hsub hd2 hg hq hsB hpl h37 ha hb
                  go_wp2_with (first
                    | (go_at_call 105; refine (HH.out _).mono ?_; rintro e w2 ⟨rfl, hb2⟩; have HU2 := Aside0.mk (HU1.out.move hb2); clear hb2)
                    | (go_at_call 101; refine (plain_calls q hq256 _).mono ?_; rintro e w3 ⟨rfl, ⟨nd, rfl⟩⟩; rw [HPL.out]))
                  go_ret2
                  exact ⟨by rw [HN2.out]; rfl, pw_below_drewN HU2.out.below _⟩
                · have hpl' : plainI q = false := by simpa using hpl
                  have HEQ2 : Aside0 (unw (bl t) = (unw ((bl t).drop (pos + 1 + 2))).map (out ++ [UInt8.ofNat q] ++ ·)) := ⟨by
                    rw [HEQ.out, HDK.out, hd2, h37, unw_hex a b _ ⟨hg.1, hg.2, by rw [← hq]; exact hpl'⟩, ← hq]
                    cases unw ((bl t).drop (pos + 3)) <;> simp⟩
                  have HAS2 : Aside0 (∀ j c, j < 2 → (bl t)[pos + 1 + j]? = some c → c.toNat < 128) := ⟨fun j c hj hc => by
                    have h0 : (bl t)[pos + 1 + j]? = [a, b][j]? := by
                      have : ((bl t).drop (pos + 1))[j]? = (bl t)[pos + 1 + j]? := List.getElem?_drop
                      rw [← this, hd2]
                      rcases (show j = 0 ∨ j = 1 by omega) with rfl | rfl <;> rfl
                    rw [h0] at hc
                    rcases (show j = 0 ∨ j = 1 by omega) with rfl | rfl
                    · cases hc; exact hex_ascii _ hg.1
                    · cases hc; exact hex_ascii _ hg.2⟩
                  have HPL := Aside0.mk hpl'
                  have hlen : (Lib.byteCells out).length + sB.size ≤ 140737488355328 := by rw [Lib.byteCells_length, hszB]; omega
                  have HLE2 : Aside0 (pos + 1 + 2 ≤ t.size ∧ (out ++ [UInt8.ofNat q]).length ≤ pos + 1 + 2) := ⟨by omega, by simp; omega⟩
                  clear hsub hd2 hg hq hsB hpl hpl' h37 ha hb
                  go_wp2_with (first
                    | (go_at_call 105; refine (HH.out _).mono ?_; rintro e w2 ⟨rfl, hb2⟩; have HU2 := Aside0.mk (HU1.out.move hb2); clear hb2)
                    | (go_at_call 101; refine (plain_calls q hq256 _).mono ?_; rintro e w3 ⟨rfl, ⟨nd, rfl⟩⟩; rw [HPL.out]; replace HU2 := Aside0.mk (HU2.out.move (pw_below_drewN (Below.refl _ _) nd)))
                    | (go_at_call 75; refine (Build.WriteString_k w.heap.size w.heap.size _ sB _ HU2.out.bld hlen HU2.out.below.size).mono ?_; rintro e w4 ⟨rfl, hb4, hl4, ho4⟩; have HU4 := Aside0.mk (HU2.out.write HSB.out hb4 hl4 ho4); clear hb4 hl4 ho4))
                  go_roundw
                  case rel => exact ⟨pos + 1, 2, out ++ [UInt8.ofNat q], rfl, by omega, HLE2.out.1, HLE2.out.2, HU4, HEQ2, HAS2⟩
                  case measure => exact HMS.out _ _ HU4.out
              · have HN2 : Aside0 (o = unwV none) := ⟨HNO.out (by rw [hd2, h37]; exact unw_none_hex a b _ (fun h => hg ⟨h.1, h.2.1⟩))⟩
                have HH : Aside0 (∀ W, Calls Tryz.prog 105 #[.string (t.extract (pos + 1) (pos + 3))] W fun e w' => e = .returned (.tuple #[.string ⟨#[]⟩, .bool false]) ∧ Below W.heap.size W w') := ⟨fun W => by
                  refine unhexed_bad _ a b hsub _ _ rfl rfl ?_ W
                  rw [hexi_eq, hexi_eq]
                  by_cases h1 : hexv a < 16
                  · right; rw [if_neg (fun h2 => hg ⟨h1, h2⟩)]; omega
                  · left; rw [if_neg h1]; omega⟩
                clear hsub hd2 hg h37 ha hb
                go_wp2_with (first
                  | (go_at_call 105; refine (HH.out _).mono ?_; rintro e w2 ⟨rfl, hb2⟩; have HU2 := Aside0.mk (HU1.out.move hb2); clear hb2))
                go_ret2
                exact ⟨by rw [HN2.out]; rfl, HU2.out.below⟩
            · have b5 : decide ((pos : Int) + 3 ≤ (t.size : Int)) = false := decide_eq_false (by omega)
              have HN2 : Aside0 (o = unwV none) := ⟨HNO.out (by rw [h37]; exact unw_none_short _ (by rw [List.length_drop, bl_len]; omega))⟩
              clear h37
              go_wp2_with (first
                | (go_at_call 101; go_must (refine (plain_calls 37 (by decide) _).mono ?_); rintro e w3 ⟨rfl, ⟨nd, rfl⟩⟩; rw [plain37]))
              go_ret2
              exact ⟨by rw [HN2.out]; rfl, pw_below_drewN HU1.out.below _⟩
          · have b4 : ((c.toNat : Int) == 37) = false := by
              have : c.toNat ≠ 37 := fun h => h37 (by have := congrArg UInt8.ofNat h; simpa using this)
              simpa using (show ¬ ((c.toNat : Int) = 37) by omega)
            have hmod : (c.toNat : Int) % 256 = (c.toNat : Int) := by have := c.toNat_lt; omega
            have hc256 := c.toNat_lt
            by_cases hpl : plainI c.toNat = true
            · have HEQ2 : Aside0 (unw (bl t) = (unw ((bl t).drop (pos + 1 + 0))).map (out ++ [c] ++ ·)) := ⟨by
                rw [HEQ.out, HDK.out, unw_plain c _ hasc h37 hpl, Nat.add_zero]
                cases unw ((bl t).drop (pos + 1)) <;> simp⟩
              have HRC : Aside0 (Lib.runeCells (c.toNat : Int) = Lib.byteCells [c]) := ⟨by unfold Lib.runeCells; rw [Lib.encodeRuneZ_one (by omega) (by omega)]; rfl⟩
              have HPL := Aside0.mk hpl
              have hlen : (Lib.byteCells out).length + 4 ≤ 140737488355328 := by rw [Lib.byteCells_length]; omega
              have HLE2 : Aside0 (pos + 1 + 0 ≤ t.size ∧ (out ++ [c]).length ≤ pos + 1 + 0) := ⟨by omega, by simp; omega⟩
              clear hpl h37
              go_wp2_with (first
                | (go_at_call 101; refine (plain_calls c.toNat hc256 _).mono ?_; rintro e w3 ⟨rfl, ⟨nd, rfl⟩⟩; rw [HPL.out]; have HU2 := Aside0.mk (HU1.out.move (pw_below_drewN (Below.refl _ _) nd)))
                | (go_at_call 106; refine (Build.WriteRune_k w.heap.size w.heap.size _ (c.toNat : Int) (by omega) (by omega) _ HU2.out.bld hlen HU2.out.below.size).mono ?_; rintro e w4 ⟨rfl, hb4, hl4, ho4⟩; have HU4 := Aside0.mk (HU2.out.write HRC.out hb4 hl4 ho4); clear hb4 hl4 ho4))
              go_roundw
              case rel => exact ⟨pos + 1, 0, out ++ [c], rfl, by omega, HLE2.out.1, HLE2.out.2, HU4, HEQ2, ⟨fun j c h => absurd h (Nat.not_lt_zero _)⟩⟩
              case measure => exact HMS.out _ _ HU4.out
            · have hpl' : plainI c.toNat = false := by simpa using hpl
              have HN2 : Aside0 (o = unwV none) := ⟨HNO.out (unw_none_odd c _ hasc h37 hpl')⟩
              have HPL := Aside0.mk hpl'
              clear hpl hpl' h37
              go_wp2_with (first
                | (go_at_call 101; refine (plain_calls c.toNat hc256 _).mono ?_; rintro e w3 ⟨rfl, ⟨nd, rfl⟩⟩; rw [HPL.out]))
              go_ret2
              exact ⟨by rw [HN2.out]; rfl, pw_below_drewN HU1.out.below _⟩
      · obtain ⟨hh1, hh2⟩ := decode_high t pos hp (by rw [hcd]; omega)
        have HU1 := Aside0.mk (HU.out.next (pos + (Utf8.decode t pos).2))
        obtain ⟨W1, hW1⟩ : ∃ W1, W1 = wr.iterAt (w.heap.size + 1) t (pos + (Utf8.decode t pos).2) := ⟨_, rfl⟩
        rw [← hW1] at hnx HU1
        obtain ⟨r, hr⟩ : ∃ r, (Utf8.decode t pos).1 = r := ⟨_, rfl⟩
        rw [hr] at hnx hh1
        have b1 : decide ((127 : Int) < (r : Int)) = true := decide_eq_true (by omega)
        have hkz : k = 0 := by
          by_cases h0 : 0 < k
          · have := HAS.out 0 c h0 (by rw [Nat.add_zero, hget, hcd]); omega
          · omega
        have HN2 : Aside0 (o = unwV none) := ⟨by
          rw [ho.out, HEQ.out, hkz, Nat.add_zero, hdr, hcd, unw_none_high c _ (by omega)]; rfl⟩
        clear hW1 hr hdr hget hcd hpos0
        go_wp2_with fail
        go_ret2
        exact ⟨by rw [HN2.out]; rfl, HU1.out.below⟩
    · have hnx : ∀ ty, (Instr.next (.pointer (some ⟨w.heap.size + 1, 0, none⟩)) true ty).run Tryz.prog wr = _ := fun ty => Lib.run_next_end_at wr (w.heap.size + 1) t pos ty HU.out.it hp
      have HN2 : Aside0 (o = .tuple #[.string ⟨out.toArray⟩, .bool true]) := ⟨by
        have hpk : pos + k = t.size := by omega
        rw [ho.out, HEQ.out, hpk, List.drop_of_length_le (by rw [bl_len]; omega)]
        show unwV (some (out ++ [])) = _
        rw [List.append_nil]; rfl⟩
      go_wp2_with (first
        | (go_at_call 76; refine (Tryz.Builder_String_any_f w.heap.size w.heap.size out _ HU.out.bld HU.out.below.size).mono ?_; rintro e w5 ⟨rfl, _, hb5⟩; have HB5 := Aside0.mk (HU.out.below.trans hb5); clear hb5))
      go_ret2
      exact ⟨by rw [HN2.out]; rfl, HB5.out⟩
theorem hasPrefix61 (l : List UInt8) : Lib.hasPrefix l [61] = match l with | c :: _ => decide (c = 61) | [] => false := by
  unfold Lib.hasPrefix
  cases l with
  | nil => rfl
  | cons c r =>
    show ((61 == c) && List.isPrefixOf [] r) = decide (c = 61)
    by_cases h : c = 61
    · subst h; simp [List.isPrefixOf]
    · have h1 : ((61 : UInt8) == c) = false := by simpa using fun e => h e.symm
      rw [h1, decide_eq_false h]; rfl
theorem unwritten_calls (s : ByteArray) (hs : s.size ≤ 1073741824) (w : World) : Calls Tryz.prog 89 #[.string s] w fun e w' => e = .returned (unwV (unwS (bl s))) ∧ Below w.heap.size w w' := by
  cases hp : Lib.hasPrefix (bl s) [61] with
  | false =>
    have : unwS (bl s) = none := by
      rw [hasPrefix61] at hp
      unfold unwS
      split
      · rename_i r h; rw [h] at hp; simp at hp
      · rfl
    rw [this]
    exact unwritten_no s hp w
  | true =>
    obtain ⟨r, hr⟩ : ∃ r, bl s = 61 :: r := by
      rw [hasPrefix61] at hp
      split at hp
      · rename_i c r h; simp at hp; subst hp; exact ⟨r, h⟩
      · cases hp
    have ht : Lib.trimPrefix (bl s) [61] = r := by unfold Lib.trimPrefix; rw [hp, if_pos rfl, hr]; rfl
    have e : bl ⟨r.toArray⟩ = r := by simp [bl]
    have hl := bl_len s
    rw [hr, List.length_cons] at hl
    refine unwritten_main s ⟨r.toArray⟩ hp (by rw [ht]) (by rw [← bl_len, e]; omega) _ ⟨?_⟩ w
    rw [e, hr]; rfl
end Go.Proofs.YtkfjjmmpbfjhaaaGreatDoor.Tells
namespace Go.Proofs.YtkfjjmmpbfjhaaaGreatDoor.Tells
open Go.RowKit Go.Proofs.YtkfjjmmpbfjhaaaGreatDoor.Facts Go.Proofs.YtkfjjmmpbfjhaaaGreatDoor.PScriptActs Go.Proofs.YtkfjjmmpbfjhaaaGreatDoorW.PrintWords Go.Proofs.YtkfjjmmpbfjhaaaGreatDoorW.PrintLast Go.Proofs.YtkfjjmmpbfjhaaaGreatDoorW.PrintMore
attribute [local go_sem] max2_int min2_int max_two min_two max_three min_three max_four min_four
set_option linter.unusedVariables false
set_option linter.unusedSimpArgs false
def isDig (c : UInt8) : Bool := decide (48 ≤ c.toNat) && decide (c.toNat ≤ 57)
/-- a number word's number -/
def numW (l : List UInt8) : Option Int :=
  if (Lib.trimPrefix l [45]).all isDig = true then
    match Lib.atoiAll l with
    | .ok v => if Lib.itoa v = l then some v else none
    | _ => none
  else none
/-- the number that stands beside -/
def numN (l : List UInt8) : Int :=
  if (Lib.trimPrefix l [45]).all isDig = true then
    match Lib.atoiAll l with
    | .ok v => v
    | .range => Lib.atoiSat l
    | _ => 0
  else 0
theorem numN_of {l : List UInt8} {v : Int} (h : numW l = some v) : numN l = v := by
  unfold numW at h
  unfold numN
  by_cases hd : (Lib.trimPrefix l [45]).all isDig = true
  · rw [if_pos hd] at h ⊢
    cases ha : Lib.atoiAll l with
    | ok u =>
      rw [ha] at h
      simp only at h ⊢
      split at h
      · cases h; rfl
      · cases h
    | _ => rw [ha] at h; cases h
  · rw [if_neg hd] at h; cases h
/-- what the readers want of the world -/
structure Env (w : World) : Prop where
  pow : Pow w
  nib : Nib w
  syn : ∃ t p, w.cell? ⟨7, 0, none⟩ = some (.iface t p)
  rng : ∃ t p, w.cell? ⟨8, 0, none⟩ = some (.iface t p)
theorem Env.below {w w' : World} (h : Env w) (hB : Below w.heap.size w w') : Env w' :=
  ⟨h.pow.below hB, h.nib.below hB, by obtain ⟨t, p, e⟩ := h.syn; exact ⟨t, p, pw_cell_below hB e⟩, by obtain ⟨t, p, e⟩ := h.rng; exact ⟨t, p, pw_cell_below hB e⟩⟩
theorem dig_rune (s : ByteArray) (pos : Nat) (hp : pos < s.size) : (isDig (s[pos]'hp) = true → 48 ≤ (Utf8.decode s pos).1 ∧ (Utf8.decode s pos).1 ≤ 57 ∧ (Utf8.decode s pos).2 = 1) ∧ (isDig (s[pos]'hp) = false → (Utf8.decode s pos).1 < 48 ∨ 57 < (Utf8.decode s pos).1) := by
  by_cases ha : (s[pos]'hp).toNat < 128
  · rw [decode_ascii s pos hp ha]
    unfold isDig
    refine ⟨fun h => ?_, fun h => ?_⟩
    · simp at h; exact ⟨h.1, h.2, rfl⟩
    · simp at h; first | done | omega | (simp only; omega)
  · obtain ⟨h1, _⟩ := decode_high s pos hp (by omega)
    have : isDig (s[pos]'hp) = false := by
      unfold isDig
      rw [decide_eq_false (show ¬ (s[pos]'hp).toNat ≤ 57 by omega), Bool.and_false]
    rw [this]
    exact ⟨fun h => (by cases h), fun _ => .inr (by omega)⟩
set_option maxHeartbeats 4000000 in
set_option maxRecDepth 100000 in
theorem number2_calls (s : ByteArray) (hs : s.size ≤ 1073741824) (w : World) (E : Env w) : Calls Tryz.prog 91 #[.string s] w fun e w' => e = .returned (.tuple #[.int .i64 (numN (bl s)), .bool (numW (bl s)).isSome]) ∧ Below w.heap.size w w' := by
  obtain ⟨t, ht⟩ : ∃ t : ByteArray, t = ⟨(Lib.trimPrefix (bl s) [45]).toArray⟩ := ⟨_, rfl⟩
  have hc := Tryz.strings_TrimPrefix s ⟨#[45]⟩ w
  have e1 : (⟨#[45]⟩ : ByteArray).data.toList = [45] := rfl
  rw [e1, ← ht] at hc
  have htl : bl t = Lib.trimPrefix (bl s) [45] := by rw [ht]
  have HE := Aside0.mk E
  have HTL := Aside0.mk htl
  clear e1 ht E htl
  go_enter Tryz.func91, Tryz.ntmps91
  go_wp2_with (go_at_call 107; refine hc.mono ?_; rintro e w ⟨rfl, rfl⟩)
  clear hc
  go_loopw [] (fun wr => ∃ pos : Nat, wr.heap[w.heap.size]? = some (.stringIter t pos) ∧ Below w.heap.size w wr ∧ pos ≤ t.size ∧ Aside0 (((bl t).take pos).all isDig = true)) (fun wr => t.size - wr.iterPos w.heap.size)
  case atStart => exact ⟨0, World.iter_heap w t 0, (Below.refl _ _).alloc (Nat.le_refl _) _, by omega, ⟨rfl⟩⟩
  case round =>
    obtain ⟨pos, hit, hbw, hle, HAL⟩ := hrel
    have hpos0 := Aside0.mk (iterPos_of hit)
    by_cases hp : pos < t.size
    · have hnx : ∀ ty, (Instr.next (.pointer (some ⟨w.heap.size, 0, none⟩)) true ty).run Tryz.prog wr = _ := fun ty => Lib.run_next_any_at wr w.heap.size t pos ty hit hp
      obtain ⟨hd1, hd2⟩ := dig_rune t pos hp
      have hget := bl_get t pos hp
      have hit2 := Lib.iterAt_heap wr w.heap.size t pos (pos + (Utf8.decode t pos).2) hit
      have hbw2 := Lib.below_iterAt hbw (k := w.heap.size) (Nat.le_refl _) t (pos + (Utf8.decode t pos).2)
      obtain ⟨W1, hW1⟩ : ∃ W1, W1 = wr.iterAt w.heap.size t (pos + (Utf8.decode t pos).2) := ⟨_, rfl⟩
      rw [← hW1] at hnx hit2 hbw2
      obtain ⟨r, hr⟩ : ∃ r, (Utf8.decode t pos).1 = r := ⟨_, rfl⟩
      obtain ⟨wd, hwd⟩ : ∃ wd, (Utf8.decode t pos).2 = wd := ⟨_, rfl⟩
      rw [hr] at hnx hd1 hd2
      rw [hwd] at hit2 hd1
      by_cases hdg : isDig (t[pos]'hp) = true
      · obtain ⟨k1, k2, rfl⟩ := hd1 hdg
        have b1 : decide ((r : Int) < 48) = false := decide_eq_false (by omega)
        have b2 : decide ((57 : Int) < (r : Int)) = false := decide_eq_false (by omega)
        have HAL2 : Aside0 (((bl t).take (pos + 1)).all isDig = true) := ⟨by rw [List.take_add_one, hget]; simp; exact ⟨by simpa using HAL.out, hdg⟩⟩
        have HMS : Aside0 (t.size - W1.iterPos w.heap.size < t.size - wr.iterPos w.heap.size) := ⟨by rw [iterPos_of hit2, hpos0.out]; omega⟩
        clear hW1 hr hwd hd1 hd2 hdg hget hit hbw hpos0
        go_wp2_with fail
        go_roundw
        case rel => exact ⟨pos + 1, hit2, hbw2, by omega, HAL2⟩
        case measure => exact HMS.out
      · have hdg' : isDig (t[pos]'hp) = false := by simpa using hdg
        have hna : ¬ (Lib.trimPrefix (bl s) [45]).all isDig = true := by
          rw [← HTL.out]
          intro h
          have := List.all_eq_true.1 h _ (List.mem_of_getElem? hget)
          rw [hdg'] at this; cases this
        have hno : numW (bl s) = none ∧ numN (bl s) = 0 := ⟨by unfold numW; rw [if_neg hna], by unfold numN; rw [if_neg hna]⟩
        clear hna
        have HB2 := Aside0.mk hbw2
        have hrr := hd2 hdg'
        clear hW1 hr hwd hd1 hd2 hdg hdg' hget hit hbw hpos0
        have HNO := Aside0.mk hno
        clear hno
        by_cases h48 : r < 48
        · have b1 : decide ((r : Int) < 48) = true := decide_eq_true (by omega)
          go_wp2_with fail
          go_ret2
          exact ⟨by rw [HNO.out.1, HNO.out.2]; rfl, HB2.out⟩
        · have b1 : decide ((r : Int) < 48) = false := decide_eq_false (by omega)
          have b2 : decide ((57 : Int) < (r : Int)) = true := decide_eq_true (by omega)
          go_wp2_with fail
          go_ret2
          exact ⟨by rw [HNO.out.1, HNO.out.2]; rfl, HB2.out⟩
    · have hnx : ∀ ty, (Instr.next (.pointer (some ⟨w.heap.size, 0, none⟩)) true ty).run Tryz.prog wr = _ := fun ty => Lib.run_next_end_at wr w.heap.size t pos ty hit hp
      have hall : (Lib.trimPrefix (bl s) [45]).all isDig = true := by
        rw [← HTL.out]
        have := HAL.out
        rwa [List.take_of_length_le (by rw [bl_len]; omega)] at this
      have hnw : numW (bl s) = (match Lib.atoiAll (bl s) with | .ok v => if Lib.itoa v = bl s then some v else none | _ => none) := by unfold numW; rw [if_pos hall]
      have hnn : numN (bl s) = (match Lib.atoiAll (bl s) with | .ok v => v | .range => Lib.atoiSat (bl s) | _ => 0) := by unfold numN; rw [if_pos hall]
      have HB := Aside0.mk hbw
      have HE2 := Aside0.mk (HE.out.below hbw)
      clear hit hbw hpos0 hall
      cases hat : Lib.atoiAll (bl s) with
      | ok v =>
        rw [hat] at hnw hnn
        simp only at hnw hnn
        have hbd := Lib.atoiAll_bounds hat
        have hA : Aside0 (∀ W, Calls Tryz.prog 108 #[.string s] W fun e w' => e = .returned (.tuple #[.int .i64 v, .nilIface]) ∧ Below W.heap.size W w') := ⟨fun W => (Tryz.strconv_Atoi_ok s (by omega) v hat W).mono fun e w' ⟨he, hw⟩ => ⟨he, by
          rcases hw with rfl | ⟨x, rfl⟩
          · exact Below.refl _ _
          · exact Lib.bytesWorld_below _ _ _⟩⟩
        have hI : Aside0 (∀ W, Env W → Calls Tryz.prog 44 #[.int .i64 v] W fun e w' => e = .returned (.string ⟨(Lib.itoa v).toArray⟩) ∧ Below W.heap.size W w') := ⟨fun W EW => (Tryz.strconv_Itoa v hbd.1 hbd.2 W EW.pow).mono fun e w' ⟨he, k, os, hw⟩ => ⟨he, by rw [hw]; first | exact Lib.below_grow _ _ (Nat.le_refl _) _ _ | exact below_grow _ _ (Nat.le_refl _) _ _⟩⟩
        have HNW := Aside0.mk hnw
        have HNN := Aside0.mk hnn
        clear hnw hnn hat hbd
        go_wp2_with (first
          | (go_at_call 108; refine (hA.out _).mono ?_; rintro e w2 ⟨rfl, hb2⟩; have HB2 := Aside0.mk (below_then HB.out HB.out.size hb2); have HE3 := Aside0.mk (HE2.out.below hb2); clear hb2)
          | (go_at_call 44; refine (hI.out _ HE3.out).mono ?_; rintro e w3 ⟨rfl, hb3⟩; have HB3 := Aside0.mk (below_then HB2.out HB2.out.size hb3); clear hb3))
        go_ret2
        refine ⟨?_, HB3.out⟩
        have e : (Lib.itoa v == s.toList) = (numW (bl s)).isSome := by
          rw [HNW.out, ByteArray.toList_eq]
          by_cases h : Lib.itoa v = bl s
          · rw [if_pos h, h]; simp
          · rw [if_neg h]; simpa using h
        rw [← e, HNN.out]
        rfl
      | range =>
        rw [hat] at hnw hnn
        have HNO := Aside0.mk (And.intro hnw hnn)
        obtain ⟨te, pe, hv⟩ := HE2.out.rng
        have hcall := Tryz.strconv_Atoi_range s (by omega) hat _ wr hv (.inr ⟨te, pe, rfl⟩)
        clear hnw hnn hat hv
        go_wp2_with (first
          | (go_at_call 108; refine hcall.mono ?_; rintro e w2 ⟨N, rfl, _, _, hb2⟩; have HB2 := Aside0.mk (below_then HB.out HB.out.size hb2); clear hb2))
        go_ret2
        exact ⟨by rw [HNO.out.1, HNO.out.2]; rfl, HB2.out⟩
      | _ =>
        rw [hat] at hnw hnn
        have HNO := Aside0.mk (And.intro hnw hnn)
        obtain ⟨te, pe, hv⟩ := HE2.out.syn
        have hcall := Tryz.strconv_Atoi_syntax s (by omega) hat _ wr hv (.inr ⟨te, pe, rfl⟩)
        clear hnw hnn hat hv
        go_wp2_with (first
          | (go_at_call 108; refine hcall.mono ?_; rintro e w2 ⟨N, rfl, _, _, hb2⟩; have HB2 := Aside0.mk (below_then HB.out HB.out.size hb2); clear hb2))
        go_ret2
        exact ⟨by rw [HNO.out.1, HNO.out.2]; rfl, HB2.out⟩
/-- one cell written: what else is there stays -/
theorem below_set {w0 w : World} {B : Nat} (h : Below B w0 w) (p : Addr) (hp : B ≤ p.block) (v : Value) : Below B w0 (w.setCell p v) :=
  h.trans ⟨rfl, rfl, rfl, by simp [World.setCell], fun i hi => Below.heap_setCell w p v i (show i ≠ p.block by omega)⟩
/-- the string that a reader leaves where its word is to go -/
def unwT (l : List UInt8) : ByteArray := match unwS l with | some o => ⟨o.toArray⟩ | none => ⟨#[]⟩
theorem unwV_eq (l : List UInt8) : unwV (unwS l) = .tuple #[.string (unwT l), .bool (unwS l).isSome] := by
  unfold unwT
  cases unwS l <;> rfl
/-- nothing that was there is written but block g, which is now o -/
structure Wrote (w : World) (g : Nat) (o : Obj) (w' : World) : Prop where
  os : w'.os = w.os
  tape : w'.tape = w.tape
  output : w'.output = w.output
  size : w.heap.size ≤ w'.heap.size
  block : ∀ k, k < w.heap.size → k ≠ g → w'.heap[k]? = w.heap[k]?
  at_ : w'.heap[g]? = some o
theorem Wrote.then {w w1 w2 : World} {g : Nat} {o : Obj} (h : Wrote w g o w1) (hb : Below w1.heap.size w1 w2) : Wrote w g o w2 :=
  ⟨hb.os.trans h.os, hb.tape.trans h.tape, hb.output.trans h.output, Nat.le_trans h.size hb.size, fun k hk hn => (hb.block k (Nat.lt_of_lt_of_le hk h.size)).trans (h.block k hk hn), (hb.block g (blk_lt h.at_)).trans h.at_⟩
theorem Wrote.again {w w1 w2 : World} {g : Nat} {o o2 : Obj} (h : Wrote w g o w1) (h2 : Wrote w1 g o2 w2) : Wrote w g o2 w2 :=
  ⟨h2.os.trans h.os, h2.tape.trans h.tape, h2.output.trans h.output, Nat.le_trans h.size h2.size, fun k hk hn => (h2.block k (Nat.lt_of_lt_of_le hk h.size) hn).trans (h.block k hk hn), h2.at_⟩
theorem Wrote.of {w w' : World} {g : Nat} {o : Obj} (hb : Below w.heap.size w w') (h : w.heap[g]? = some o) : Wrote w g o w' :=
  ⟨hb.os, hb.tape, hb.output, hb.size, fun k hk _ => hb.block k hk, (hb.block g (blk_lt h)).trans h⟩
theorem Wrote.set {w w' : World} {g i : Nat} {cs : Array Value} {t : TypeId} (hb : Below w.heap.size w w') (h : w.heap[g]? = some (.cells cs t (0, 0))) (v : Value) : Wrote w g (.cells (cs.setIfInBounds i v) t (0, 0)) (w'.setCell ⟨g, i, none⟩ v) :=
  ⟨hb.os, hb.tape, hb.output, by have := hb.size; simpa [World.setCell] using this, fun k hk hn => (Below.heap_setCell w' _ v k (show k ≠ g from hn)).trans (hb.block k hk), blk_set ((hb.block g (blk_lt h)).trans h) i v⟩
theorem Wrote.below {w w' : World} {g B : Nat} {o : Obj} (h : Wrote w g o w') (hB : B ≤ g) (hs : B ≤ w.heap.size) : Below B w w' := ⟨h.os, h.tape, h.output, h.size, fun k hk => h.block k (by omega) (by omega)⟩
end Go.Proofs.YtkfjjmmpbfjhaaaGreatDoor.Tells
