/- script.unwritten, walked: a byte word read. Conditions: those that each theorem states. -/
import Derived.Test.YtkfjjmmpbfjhaaaGreatDoorScrA
import Derived.Test.YtkfjjmmpbfjhaaaGreatDoorScrBld
import Derived.Laws.RangeString
import Derived.Laws.RangeAny
import Derived.Lib.OthersKept
namespace Go.Proofs.YtkfjjmmpbfjhaaaGreatDoor.Tells
open Go.RowKit Go.Proofs.YtkfjjmmpbfjhaaaGreatDoor.Facts Go.Proofs.YtkfjjmmpbfjhaaaGreatDoor.PScriptActs Go.Proofs.YtkfjjmmpbfjhaaaGreatDoorW.PrintWords Go.Proofs.YtkfjjmmpbfjhaaaGreatDoorW.PrintLast Go.Proofs.YtkfjjmmpbfjhaaaGreatDoorW.PrintMore
attribute [local go_sem] max2_int min2_int max_two min_two max_three min_three max_four min_four
set_option linter.unusedVariables false
set_option linter.unusedSimpArgs false
abbrev bl (s : ByteArray) : List UInt8 := s.data.toList
theorem bl_len (s : ByteArray) : (bl s).length = s.size := by rw [Array.length_toList]; rfl
theorem bl_get (s : ByteArray) (i : Nat) (h : i < s.size) : (bl s)[i]? = some (s[i]'h) := by
  rw [List.getElem?_eq_getElem (by rw [bl_len]; exact h)]
  rfl
theorem iterPos_of {w : World} {k : Nat} {s : ByteArray} {p : Nat} (h : w.heap[k]? = some (.stringIter s p)) : w.iterPos k = p := by simp [World.iterPos, h]
/-- where unwritten's loop is -/
structure Unw (w : World) (t : ByteArray) (pos : Nat) (out : List UInt8) (wr : World) : Prop where
  it : wr.heap[w.heap.size + 1]? = some (.stringIter t pos)
  bld : Lib.IsBuilderF 106 5 w.heap.size w.heap.size (Lib.byteCells out) wr
  below : Below w.heap.size w wr
theorem Unw.next {w : World} {t : ByteArray} {pos : Nat} {out : List UInt8} {wr : World} (h : Unw w t pos out wr) (pos' : Nat) : Unw w t pos' out (wr.iterAt (w.heap.size + 1) t pos') :=
  ⟨Lib.iterAt_heap wr _ t pos pos' h.it, h.bld.iterAt h.it pos', Lib.below_iterAt h.below (Nat.le_succ _) t pos'⟩
theorem bldF_below {T e : TypeId} {B b : Nat} {bs : List Value} {w w' : World} (h : Lib.IsBuilderF T e B b bs w) (hb : Below w.heap.size w w') : Lib.IsBuilderF T e B b bs w' := by
  have key : ∀ p, Lib.BuilderAtF T e B b p bs w → Lib.BuilderAtF T e B b p bs w' := by
    rintro p ⟨hB, v, hv, ⟨h1, h2⟩, hne⟩
    refine ⟨hB, v, (hb.block b (blk_lt hv)).trans hv, ⟨h1, ?_⟩, hne⟩
    rcases h2 with h2 | ⟨g, cap, cur, fz, hv, hbg, hg, rest⟩
    · exact .inl h2
    · exact .inr ⟨g, cap, cur, fz, hv, hbg, (hb.block g (blk_lt hg)).trans hg, rest⟩
  exact h.elim (fun x => .inl (key _ x)) (fun x => .inr (key _ x))
theorem Unw.move {w : World} {t : ByteArray} {pos : Nat} {out : List UInt8} {wr wr2 : World} (h : Unw w t pos out wr) (hb : Below wr.heap.size wr wr2) : Unw w t pos out wr2 :=
  ⟨(hb.block _ (blk_lt h.it)).trans h.it, bldF_below h.bld hb, below_then h.below h.below.size hb⟩
/-- behind a write of the builder -/
theorem Unw.write {w : World} {t : ByteArray} {pos : Nat} {out more : List UInt8} {wr wr2 : World} {bs : List Value} (h : Unw w t pos out wr) (hm : bs = Lib.byteCells more) (hb : Lib.BuilderAtF 106 5 w.heap.size w.heap.size (.pointer (some ⟨w.heap.size, 0, none⟩)) (Lib.byteCells out ++ bs) wr2) (hl : Below w.heap.size wr wr2) (ho : Lib.OthersKept 5 (some w.heap.size) wr wr2) : Unw w t pos (out ++ more) wr2 := by
  subst hm
  refine ⟨ho.iter h.it (by omega), ?_, h.below.trans hl⟩
  rw [byteCells_app] at hb
  exact .inr hb
/-- what unwritten says of a word -/
def unwS : List UInt8 → Option (List UInt8)
  | 61 :: r => unw r
  | _ => none
def unwV : Option (List UInt8) → Value
  | some o => .tuple #[.string ⟨o.toArray⟩, .bool true]
  | none => .tuple #[.string ⟨#[]⟩, .bool false]
theorem unw_none_high (c : UInt8) (r : List UInt8) (h : 128 ≤ c.toNat) : unw (c :: r) = none := by
  rcases r with _ | ⟨a, _ | ⟨b, r⟩⟩ <;> rw [unw.eq_def] <;> simp only [if_pos h]
theorem unw_none_odd (c : UInt8) (r : List UInt8) (h1 : c.toNat < 128) (h3 : c ≠ 37) (h : plainI c.toNat = false) : unw (c :: r) = none := by
  have h1' : ¬ 128 ≤ c.toNat := by omega
  have h' : ¬ plainI c.toNat = true := by rw [h]; simp
  rcases r with _ | ⟨a, _ | ⟨b, r⟩⟩ <;> rw [unw.eq_def] <;> simp only [if_neg h1', if_neg h3, if_neg h']
theorem unw_none_short (r : List UInt8) (h : r.length < 2) : unw (37 :: r) = none := by
  rcases r with _ | ⟨a, _ | ⟨b, r⟩⟩
  · rw [unw.eq_def]; rfl
  · rw [unw.eq_def]; rfl
  · simp at h; omega
theorem unw_none_hex (a b : UInt8) (r : List UInt8) (h : ¬ (hexv a < 16 ∧ hexv b < 16 ∧ plainI (hexv a * 16 + hexv b) = false)) : unw (37 :: a :: b :: r) = none := by
  rw [unw.eq_def]
  simp only [if_neg h]
  rw [if_neg (by decide)]; exact if_pos trivial
theorem plain37 : plainI 37 = false := by decide +kernel
theorem hex_asc : ∀ x : Fin 256, hexv (UInt8.ofNat x.val) < 16 → x.val < 128 := by decide +kernel
theorem hex_ascii (x : UInt8) (hx : hexv x < 16) : x.toNat < 128 := hex_asc ⟨x.toNat, x.toNat_lt⟩ (by simpa using hx)
theorem bl_drop (s : ByteArray) (i : Nat) (h : i < s.size) : (bl s).drop i = s[i]'h :: (bl s).drop (i + 1) := by
  rw [List.drop_eq_getElem_cons (by rw [bl_len]; exact h)]
  congr 1
set_option maxHeartbeats 4000000 in
set_option maxRecDepth 100000 in
theorem unwritten_no (s : ByteArray) (h : Lib.hasPrefix (bl s) [61] = false) (w : World) : Calls Tryz.prog 89 #[.string s] w fun e w' => e = .returned (unwV none) ∧ Below w.heap.size w w' := by
  have hc := Tryz.strings_CutPrefix s ⟨#[61]⟩ w
  have e1 : (⟨#[61]⟩ : ByteArray).data.toList = [61] := rfl
  rw [e1, h] at hc
  have HW : Aside0 (Below w.heap.size w w) := ⟨Below.refl _ _⟩
  clear h e1
  go_enter Tryz.func89, Tryz.ntmps89
  go_wp2_with (go_at_call 104; refine hc.mono ?_; rintro e w1 ⟨rfl, rfl⟩)
  go_ret2
  exact ⟨rfl, HW.out⟩
set_option maxHeartbeats 4000000 in
set_option maxRecDepth 100000 in
theorem unwritten_main (s t : ByteArray) (h : Lib.hasPrefix (bl s) [61] = true) (ht : (⟨(Lib.trimPrefix (bl s) [61]).toArray⟩ : ByteArray) = t) (hsz : t.size ≤ 1073741824) (o : Value) (ho : Aside0 (o = unwV (unw (bl t)))) (w : World) : Calls Tryz.prog 89 #[.string s] w fun e w' => e = .returned o ∧ Below w.heap.size w w' := by
  have hc := Tryz.strings_CutPrefix s ⟨#[61]⟩ w
  have e1 : (⟨#[61]⟩ : ByteArray).data.toList = [61] := rfl
  rw [e1, h, ht] at hc
  clear h e1 ht
  go_enter Tryz.func89, Tryz.ntmps89
  go_wp2_with (go_at_call 104; refine hc.mono ?_; rintro e w ⟨rfl, rfl⟩)
  have HU0 : Aside0 (Unw w t 0 [] ((w.alloc (.cells #[.pointer none, .slice none 0 0] 106)).iter t 0)) := ⟨by
    have h1 : (w.alloc (.cells #[.pointer none, .slice none 0 0] 106)).heap.size = w.heap.size + 1 := by simp
    refine ⟨?_, ?_, ?_⟩
    · have := World.iter_heap (w.alloc (.cells #[.pointer none, .slice none 0 0] 106)) t 0
      rw [h1] at this; exact this
    · refine Lib.IsBuilderF.alloc (Lib.IsBuilderF.of (.inl ⟨Nat.le_refl _, .slice none 0 0, blk_new w _, own_nil _ _ _ _, by simp [Value.ownBlock]⟩)) _
    · exact (below_alloc (Below.refl _ _) _).trans ((Below.refl _ _).alloc (by simp) _)⟩
  clear hc
  go_loopw [6] (fun v6 wr => ∃ (pos k : Nat) (out : List UInt8), v6 = .int .i64 (k : Int) ∧ k ≤ 2 ∧ pos + k ≤ t.size ∧ out.length ≤ pos + k ∧ Aside0 (Unw w t pos out wr) ∧ Aside0 (unw (bl t) = (unw ((bl t).drop (pos + k))).map (out ++ ·)) ∧ Aside0 (∀ j c, j < k → (bl t)[pos + j]? = some c → c.toNat < 128)) (fun v6 wr => t.size - wr.iterPos (w.heap.size + 1))
  case atStart => exact ⟨0, 0, [], rfl, by omega, by omega, by simp, HU0, ⟨by simp⟩, ⟨fun j c h => absurd h (Nat.not_lt_zero _)⟩⟩
  case round =>
    obtain ⟨pos, k, out, rfl, hk2, hle, hol, HU, HEQ, HAS⟩ := hrel
    clear HU0
    have hpos0 := Aside0.mk (iterPos_of HU.out.it)
    by_cases hp : pos < t.size
    · have hnx : ∀ ty, (Instr.next (.pointer (some ⟨w.heap.size + 1, 0, none⟩)) true ty).run Tryz.prog wr = _ := fun ty => Lib.run_next_any_at wr (w.heap.size + 1) t pos ty HU.out.it hp
      have hdr := bl_drop t pos hp
      have hget := bl_get t pos hp
      obtain ⟨c, hcd⟩ : ∃ c, t[pos]'hp = c := ⟨_, rfl⟩
      by_cases hasc : c.toNat < 128
      · have hdec := decode_ascii t pos hp (by rw [hcd]; exact hasc)
        rw [hcd] at hdec hdr hget
        rw [hdec] at hnx
        have HU1 := Aside0.mk (HU.out.next (pos + 1))
        obtain ⟨W1, hW1⟩ : ∃ W1, W1 = wr.iterAt (w.heap.size + 1) t (pos + 1) := ⟨_, rfl⟩
        simp only at hnx
        rw [← hW1] at hnx HU1
        have b1 : decide ((127 : Int) < (c.toNat : Int)) = false := decide_eq_false (by omega)
        have HMS : Aside0 (∀ W out', Unw w t (pos + 1) out' W → t.size - W.iterPos (w.heap.size + 1) < t.size - wr.iterPos (w.heap.size + 1)) := ⟨fun W out' h => by
          rw [iterPos_of h.it, hpos0.out]; omega⟩
        have HDR := Aside0.mk hdr
        have HGET := Aside0.mk hget
        have HCD := Aside0.mk hcd
        clear hdec hdr hget hcd hW1 hpos0
        by_cases hk0 : 0 < k
        · have b2 : decide ((0 : Int) < (k : Int)) = true := decide_eq_true (by omega)
          have b3 : (0 < k) = True := eq_true hk0
          have hwk : wrap64 ((k : Int) - 1) = ((k - 1 : Nat) : Int) := by unfold wrap64; omega
          have hsum : pos + 1 + (k - 1) = pos + k := by omega
          have HR : Aside0 (∃ (pos' k' : Nat) (out' : List UInt8), Value.int .i64 ((k : Int) - 1) = .int .i64 (k' : Int) ∧ k' ≤ 2 ∧ pos' + k' ≤ t.size ∧ out'.length ≤ pos' + k' ∧ Aside0 (Unw w t pos' out' W1) ∧ Aside0 (unw (bl t) = (unw ((bl t).drop (pos' + k'))).map (out' ++ ·)) ∧ Aside0 (∀ j c, j < k' → (bl t)[pos' + j]? = some c → c.toNat < 128)) := ⟨pos + 1, k - 1, out, by rw [show ((k : Int) - 1) = ((k - 1 : Nat) : Int) by omega], by omega, by omega, by omega, HU1, ⟨by rw [hsum]; exact HEQ.out⟩, ⟨fun j c hj hc => HAS.out (j + 1) c (by omega) (by rw [← hc]; congr 1; omega)⟩⟩
          go_wp2_with fail
          go_roundw
          case rel => exact HR.out
          case measure => exact HMS.out _ _ HU1.out
        · have hkz : k = 0 := by omega
          have b2 : decide ((0 : Int) < (k : Int)) = false := decide_eq_false (by omega)
          have b3 : (0 < k) = False := eq_false hk0
          have b3' : decide (0 < k) = false := decide_eq_false hk0
          have HDK : Aside0 ((bl t).drop (pos + k) = c :: (bl t).drop (pos + 1)) := ⟨by rw [hkz, Nat.add_zero]; exact HDR.out⟩
          have HNO : Aside0 (unw (c :: (bl t).drop (pos + 1)) = none → o = unwV none) := ⟨fun h => by rw [ho.out, HEQ.out, HDK.out, h]; rfl⟩
          have hw1 : wrap64 ((pos : Int) + 1) = (pos : Int) + 1 := by unfold wrap64; omega
          have hw3 : wrap64 ((pos : Int) + 3) = (pos : Int) + 3 := by unfold wrap64; omega
          by_cases h37 : c = 37
          · have b4 : ((c.toNat : Int) == 37) = true := by rw [h37]; rfl
            have b4' : (c.toNat : Int) = 37 := by rw [h37]; rfl
            by_cases hl3 : pos + 3 ≤ t.size
            · have b5 : decide ((pos : Int) + 3 ≤ (t.size : Int)) = true := decide_eq_true (by omega)
              have hl4 : pos + 1 ≤ t.size := by omega
              obtain ⟨a, ha⟩ : ∃ a, t[pos + 1]'(by omega) = a := ⟨_, rfl⟩
              obtain ⟨b, hb⟩ : ∃ b, t[pos + 2]'(by omega) = b := ⟨_, rfl⟩
              have hd2 : (bl t).drop (pos + 1) = a :: b :: (bl t).drop (pos + 3) := by
                rw [bl_drop t (pos + 1) (by omega), bl_drop t (pos + 2) (by omega), ha, hb]
              have hsub : (t.extract (pos + 1) (pos + 3)).data.toList = [a, b] := by
                rw [extract_list t (pos + 1) (pos + 3) hl3, hd2]
                have : pos + 3 - (pos + 1) = 2 := by omega
                rw [this]; rfl
              by_cases hg : hexv a < 16 ∧ hexv b < 16
              · obtain ⟨q, hq⟩ : ∃ q, q = hexv a * 16 + hexv b := ⟨_, rfl⟩
                have hq256 : q < 256 := by omega
                obtain ⟨sB, hsB⟩ : ∃ x : ByteArray, x = ⟨#[UInt8.ofNat q]⟩ := ⟨_, rfl⟩
                have hszB : sB.size = 1 := by rw [hsB]; rfl
                have hqn : (UInt8.ofNat q).toNat = q := by rw [UInt8.toNat_ofNat']; omega
                have hxB : ∀ h : 0 < sB.size, ((sB[0]'h).toNat : Int) = (q : Int) := by
                  subst hsB
                  intro h
                  show ((UInt8.ofNat q).toNat : Int) = q
                  rw [hqn]
                have HH : Aside0 (∀ W, Calls Tryz.prog 105 #[.string (t.extract (pos + 1) (pos + 3))] W fun e w' => e = .returned (.tuple #[.string sB, .bool true]) ∧ Below W.heap.size W w') := ⟨fun W => by
                  have := unhexed_good _ a b hsub (hexv a) (hexv b) (by rw [hexi_eq, if_pos hg.1]) (by rw [hexi_eq, if_pos hg.2]) hg.1 hg.2 W
                  rw [← hq, ← hsB] at this
                  exact this⟩
                have HSB : Aside0 (Lib.strCells sB = Lib.byteCells [UInt8.ofNat q]) := ⟨by rw [hsB]; rfl⟩
                by_cases hpl : plainI q = true
                · have HN2 : Aside0 (o = unwV none) := ⟨HNO.out (by rw [hd2, h37]; exact unw_none_hex a b _ (by rw [← hq, hpl]; simp))⟩
                  have HPL := Aside0.mk hpl
                  clear hsub hd2 hg hq hsB hpl h37 ha hb
                  go_wp2_with (first
                    | (go_at_call 105; refine (HH.out _).mono ?_; rintro e w2 ⟨rfl, hb2⟩; have HU2 := Aside0.mk (HU1.out.move hb2); clear hb2)
                    | (go_at_call 101; refine (plain_calls q hq256 _).mono ?_; rintro e w3 ⟨rfl, ⟨nd, rfl⟩⟩; rw [HPL.out]))
                  go_ret2
                  exact ⟨by rw [HN2.out]; rfl, pw_below_drewN HU2.out.below _⟩
                · have hpl' : plainI q = false := by simpa using hpl
                  have HEQ2 : Aside0 (unw (bl t) = (unw ((bl t).drop (pos + 1 + 2))).map (out ++ [UInt8.ofNat q] ++ ·)) := ⟨by
                    rw [HEQ.out, HDK.out, hd2, h37, unw_hex a b _ ⟨hg.1, hg.2, by rw [← hq]; exact hpl'⟩, ← hq]
                    cases unw ((bl t).drop (pos + 3)) <;> simp⟩
                  have HAS2 : Aside0 (∀ j c, j < 2 → (bl t)[pos + 1 + j]? = some c → c.toNat < 128) := ⟨fun j c hj hc => by
                    have h0 : (bl t)[pos + 1 + j]? = [a, b][j]? := by
                      have : ((bl t).drop (pos + 1))[j]? = (bl t)[pos + 1 + j]? := List.getElem?_drop
                      rw [← this, hd2]
                      rcases (show j = 0 ∨ j = 1 by omega) with rfl | rfl <;> rfl
                    rw [h0] at hc
                    rcases (show j = 0 ∨ j = 1 by omega) with rfl | rfl
                    · cases hc; exact hex_ascii _ hg.1
                    · cases hc; exact hex_ascii _ hg.2⟩
                  have HPL := Aside0.mk hpl'
                  have hlen : (Lib.byteCells out).length + sB.size ≤ 140737488355328 := by rw [Lib.byteCells_length, hszB]; omega
                  have HLE2 : Aside0 (pos + 1 + 2 ≤ t.size ∧ (out ++ [UInt8.ofNat q]).length ≤ pos + 1 + 2) := ⟨by omega, by simp; omega⟩
                  clear hsub hd2 hg hq hsB hpl hpl' h37 ha hb
                  go_wp2_with (first
                    | (go_at_call 105; refine (HH.out _).mono ?_; rintro e w2 ⟨rfl, hb2⟩; have HU2 := Aside0.mk (HU1.out.move hb2); clear hb2)
                    | (go_at_call 101; refine (plain_calls q hq256 _).mono ?_; rintro e w3 ⟨rfl, ⟨nd, rfl⟩⟩; rw [HPL.out]; replace HU2 := Aside0.mk (HU2.out.move (pw_below_drewN (Below.refl _ _) nd)))
                    | (go_at_call 75; refine (Build.WriteString_k w.heap.size w.heap.size _ sB _ HU2.out.bld hlen HU2.out.below.size).mono ?_; rintro e w4 ⟨rfl, hb4, hl4, ho4⟩; have HU4 := Aside0.mk (HU2.out.write HSB.out hb4 hl4 ho4); clear hb4 hl4 ho4))
                  go_roundw
                  case rel => exact ⟨pos + 1, 2, out ++ [UInt8.ofNat q], rfl, by omega, HLE2.out.1, HLE2.out.2, HU4, HEQ2, HAS2⟩
                  case measure => exact HMS.out _ _ HU4.out
              · have HN2 : Aside0 (o = unwV none) := ⟨HNO.out (by rw [hd2, h37]; exact unw_none_hex a b _ (fun h => hg ⟨h.1, h.2.1⟩))⟩
                have HH : Aside0 (∀ W, Calls Tryz.prog 105 #[.string (t.extract (pos + 1) (pos + 3))] W fun e w' => e = .returned (.tuple #[.string ⟨#[]⟩, .bool false]) ∧ Below W.heap.size W w') := ⟨fun W => by
                  refine unhexed_bad _ a b hsub _ _ rfl rfl ?_ W
                  rw [hexi_eq, hexi_eq]
                  by_cases h1 : hexv a < 16
                  · right; rw [if_neg (fun h2 => hg ⟨h1, h2⟩)]; omega
                  · left; rw [if_neg h1]; omega⟩
                clear hsub hd2 hg h37 ha hb
                go_wp2_with (first
                  | (go_at_call 105; refine (HH.out _).mono ?_; rintro e w2 ⟨rfl, hb2⟩; have HU2 := Aside0.mk (HU1.out.move hb2); clear hb2))
                go_ret2
                exact ⟨by rw [HN2.out]; rfl, HU2.out.below⟩
            · have b5 : decide ((pos : Int) + 3 ≤ (t.size : Int)) = false := decide_eq_false (by omega)
              have HN2 : Aside0 (o = unwV none) := ⟨HNO.out (by rw [h37]; exact unw_none_short _ (by rw [List.length_drop, bl_len]; omega))⟩
              clear h37
              go_wp2_with (first
                | (go_at_call 101; go_must (refine (plain_calls 37 (by decide) _).mono ?_); rintro e w3 ⟨rfl, ⟨nd, rfl⟩⟩; rw [plain37]))
              go_ret2
              exact ⟨by rw [HN2.out]; rfl, pw_below_drewN HU1.out.below _⟩
          · have b4 : ((c.toNat : Int) == 37) = false := by
              have : c.toNat ≠ 37 := fun h => h37 (by have := congrArg UInt8.ofNat h; simpa using this)
              simpa using (show ¬ ((c.toNat : Int) = 37) by omega)
            have hmod : (c.toNat : Int) % 256 = (c.toNat : Int) := by have := c.toNat_lt; omega
            have hc256 := c.toNat_lt
            by_cases hpl : plainI c.toNat = true
            · have HEQ2 : Aside0 (unw (bl t) = (unw ((bl t).drop (pos + 1 + 0))).map (out ++ [c] ++ ·)) := ⟨by
                rw [HEQ.out, HDK.out, unw_plain c _ hasc h37 hpl, Nat.add_zero]
                cases unw ((bl t).drop (pos + 1)) <;> simp⟩
              have HRC : Aside0 (Lib.runeCells (c.toNat : Int) = Lib.byteCells [c]) := ⟨by unfold Lib.runeCells; rw [Lib.encodeRuneZ_one (by omega) (by omega)]; rfl⟩
              have HPL := Aside0.mk hpl
              have hlen : (Lib.byteCells out).length + 4 ≤ 140737488355328 := by rw [Lib.byteCells_length]; omega
              have HLE2 : Aside0 (pos + 1 + 0 ≤ t.size ∧ (out ++ [c]).length ≤ pos + 1 + 0) := ⟨by omega, by simp; omega⟩
              clear hpl h37
              go_wp2_with (first
                | (go_at_call 101; refine (plain_calls c.toNat hc256 _).mono ?_; rintro e w3 ⟨rfl, ⟨nd, rfl⟩⟩; rw [HPL.out]; have HU2 := Aside0.mk (HU1.out.move (pw_below_drewN (Below.refl _ _) nd)))
                | (go_at_call 106; refine (Build.WriteRune_k w.heap.size w.heap.size _ (c.toNat : Int) (by omega) (by omega) _ HU2.out.bld hlen HU2.out.below.size).mono ?_; rintro e w4 ⟨rfl, hb4, hl4, ho4⟩; have HU4 := Aside0.mk (HU2.out.write HRC.out hb4 hl4 ho4); clear hb4 hl4 ho4))
              go_roundw
              case rel => exact ⟨pos + 1, 0, out ++ [c], rfl, by omega, HLE2.out.1, HLE2.out.2, HU4, HEQ2, ⟨fun j c h => absurd h (Nat.not_lt_zero _)⟩⟩
              case measure => exact HMS.out _ _ HU4.out
            · have hpl' : plainI c.toNat = false := by simpa using hpl
              have HN2 : Aside0 (o = unwV none) := ⟨HNO.out (unw_none_odd c _ hasc h37 hpl')⟩
              have HPL := Aside0.mk hpl'
              clear hpl hpl' h37
              go_wp2_with (first
                | (go_at_call 101; refine (plain_calls c.toNat hc256 _).mono ?_; rintro e w3 ⟨rfl, ⟨nd, rfl⟩⟩; rw [HPL.out]))
              go_ret2
              exact ⟨by rw [HN2.out]; rfl, pw_below_drewN HU1.out.below _⟩
      · obtain ⟨hh1, hh2⟩ := decode_high t pos hp (by rw [hcd]; omega)
        have HU1 := Aside0.mk (HU.out.next (pos + (Utf8.decode t pos).2))
        obtain ⟨W1, hW1⟩ : ∃ W1, W1 = wr.iterAt (w.heap.size + 1) t (pos + (Utf8.decode t pos).2) := ⟨_, rfl⟩
        rw [← hW1] at hnx HU1
        obtain ⟨r, hr⟩ : ∃ r, (Utf8.decode t pos).1 = r := ⟨_, rfl⟩
        rw [hr] at hnx hh1
        have b1 : decide ((127 : Int) < (r : Int)) = true := decide_eq_true (by omega)
        have hkz : k = 0 := by
          by_cases h0 : 0 < k
          · have := HAS.out 0 c h0 (by rw [Nat.add_zero, hget, hcd]); omega
          · omega
        have HN2 : Aside0 (o = unwV none) := ⟨by
          rw [ho.out, HEQ.out, hkz, Nat.add_zero, hdr, hcd, unw_none_high c _ (by omega)]; rfl⟩
        clear hW1 hr hdr hget hcd hpos0
        go_wp2_with fail
        go_ret2
        exact ⟨by rw [HN2.out]; rfl, HU1.out.below⟩
    · have hnx : ∀ ty, (Instr.next (.pointer (some ⟨w.heap.size + 1, 0, none⟩)) true ty).run Tryz.prog wr = _ := fun ty => Lib.run_next_end_at wr (w.heap.size + 1) t pos ty HU.out.it hp
      have HN2 : Aside0 (o = .tuple #[.string ⟨out.toArray⟩, .bool true]) := ⟨by
        have hpk : pos + k = t.size := by omega
        rw [ho.out, HEQ.out, hpk, List.drop_of_length_le (by rw [bl_len]; omega)]
        show unwV (some (out ++ [])) = _
        rw [List.append_nil]; rfl⟩
      go_wp2_with (first
        | (go_at_call 76; refine (Tryz.Builder_String_any_f w.heap.size w.heap.size out _ HU.out.bld HU.out.below.size).mono ?_; rintro e w5 ⟨rfl, _, hb5⟩; have HB5 := Aside0.mk (HU.out.below.trans hb5); clear hb5))
      go_ret2
      exact ⟨by rw [HN2.out]; rfl, HB5.out⟩
theorem hasPrefix61 (l : List UInt8) : Lib.hasPrefix l [61] = match l with | c :: _ => decide (c = 61) | [] => false := by
  unfold Lib.hasPrefix
  cases l with
  | nil => rfl
  | cons c r =>
    show ((61 == c) && List.isPrefixOf [] r) = decide (c = 61)
    by_cases h : c = 61
    · subst h; simp [List.isPrefixOf]
    · have h1 : ((61 : UInt8) == c) = false := by simpa using fun e => h e.symm
      rw [h1, decide_eq_false h]; rfl
theorem unwritten_calls (s : ByteArray) (hs : s.size ≤ 1073741824) (w : World) : Calls Tryz.prog 89 #[.string s] w fun e w' => e = .returned (unwV (unwS (bl s))) ∧ Below w.heap.size w w' := by
  cases hp : Lib.hasPrefix (bl s) [61] with
  | false =>
    have : unwS (bl s) = none := by
      rw [hasPrefix61] at hp
      unfold unwS
      split
      · rename_i r h; rw [h] at hp; simp at hp
      · rfl
    rw [this]
    exact unwritten_no s hp w
  | true =>
    obtain ⟨r, hr⟩ : ∃ r, bl s = 61 :: r := by
      rw [hasPrefix61] at hp
      split at hp
      · rename_i c r h; simp at hp; subst hp; exact ⟨r, h⟩
      · cases hp
    have ht : Lib.trimPrefix (bl s) [61] = r := by unfold Lib.trimPrefix; rw [hp, if_pos rfl, hr]; rfl
    have e : bl ⟨r.toArray⟩ = r := by simp [bl]
    have hl := bl_len s
    rw [hr, List.length_cons] at hl
    refine unwritten_main s ⟨r.toArray⟩ hp (by rw [ht]) (by rw [← bl_len, e]; omega) _ ⟨?_⟩ w
    rw [e, hr]; rfl
end Go.Proofs.YtkfjjmmpbfjhaaaGreatDoor.Tells
