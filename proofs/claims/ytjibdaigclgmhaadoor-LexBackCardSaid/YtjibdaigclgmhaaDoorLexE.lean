/- The program's reading of tokens, walked: each function's answer in plain words. Conditions: those that each theorem states. -/
import Derived.Test.YtjibdaigclgmhaaDoorLexD
namespace Go.Proofs.YtjibdaigclgmhaaDoor.LexW
open Go.RowKit Go.Maps Go.Proofs.YtjibdaigclgmhaaDoor.Lex Go.Proofs.YtjibdaigclgmhaaDoor.PLexTokens Go.Proofs.YtjibdaigclgmhaaDoorW.PrintWords Go.Proofs.YtjibdaigclgmhaaDoorW.PrintLast Go.Proofs.YtjibdaigclgmhaaDoorW.PrintMore
attribute [local go_sem] max2_int min2_int max_two min_two max_three min_three max_four min_four
set_option linter.unusedVariables false
set_option linter.unusedSimpArgs false
theorem quote_none : ∀ K : List UInt8, Lib.indexByte K 39 < 0 → textOf K = none
  | [], _ => rfl
  | c :: K, h => by
    rw [Lib.indexByte] at h
    have hge := Lib.indexByte_ge K 39
    by_cases hc : c = 39
    · subst hc; simp at h
    · rw [if_neg (by simpa using hc)] at h
      have : Lib.indexByte K 39 < 0 := by
        split at h
        · rename_i h2; simp at h2; omega
        · omega
      rw [textOf_step c hc, quote_none K this]
      try rfl
theorem quote_split : ∀ (K : List UInt8) (n : Nat), Lib.indexByte K 39 = (n : Int) → n < K.length ∧ textOf K = if K[n + 1]? = some 39 then (textOf (K.drop (n + 2))).map (fun p => (K.take n ++ 39 :: p.1, n + 2 + p.2)) else some (K.take n, n + 1)
  | [], n, h => by simp only [Lib.indexByte] at h; omega
  | c :: K, n, h => by
    rw [Lib.indexByte] at h
    have hge := Lib.indexByte_ge K 39
    by_cases hc : c = 39
    · subst hc
      simp at h
      obtain rfl : n = 0 := by omega
      refine ⟨by simp, ?_⟩
      cases K with
      | nil => rw [textOf_one [] (fun c h => by simp at h)]; simp
      | cons d K =>
        by_cases hd : d = 39
        · subst hd
          rw [textOf_two, if_pos (by simp)]
          have e : (fun p : List UInt8 × Nat => (39 :: p.1, p.2 + 2)) = (fun p : List UInt8 × Nat => ((39 :: 39 :: K).take 0 ++ 39 :: p.1, 0 + 2 + p.2)) := by
            funext p
            have : p.2 + 2 = 0 + 2 + p.2 := by omega
            rw [this]; rfl
          rw [e]
          rfl
        · rw [textOf_one _ (fun x hx => by simp at hx; subst hx; exact hd)]
          simp [hd]
    · rw [if_neg (by simpa using hc)] at h
      split at h
      · omega
      · rename_i h2
        have h2' : Lib.indexByte K 39 ≠ -1 := by simpa using h2
        have hn1 : 1 ≤ n := by omega
        obtain ⟨m, rfl⟩ : ∃ m, n = m + 1 := ⟨n - 1, by omega⟩
        obtain ⟨h3, h4⟩ := quote_split K m (by omega)
        refine ⟨by simp; omega, ?_⟩
        rw [textOf_step c hc, h4]
        simp only [List.getElem?_cons_succ, List.drop_succ_cons, List.take_succ_cons]
        split
        · rw [Option.map_map]
          have e : ((fun p : List UInt8 × Nat => (c :: p.1, p.2 + 1)) ∘ fun p : List UInt8 × Nat => (K.take m ++ 39 :: p.1, m + 2 + p.2)) = (fun p : List UInt8 × Nat => (c :: K.take m ++ 39 :: p.1, m + 1 + 2 + p.2)) := by
            funext p
            simp only [Function.comp, List.cons_append, Prod.mk.injEq, true_and]
            omega
          rw [e]
        · simp
theorem builder_below {B b : Nat} {bs : List Value} {w w' : World} (h : Lib.IsBuilder 82 5 B b bs w) (hb : Below w.heap.size w w') : Lib.IsBuilder 82 5 B b bs w' := by
  have key : ∀ p, Lib.BuilderAt 82 5 B b p bs w → Lib.BuilderAt 82 5 B b p bs w' := fun p ⟨h1, v, hh, ho, hne⟩ =>
    ⟨h1, v, (hb.block b (blk_lt hh)).trans hh, own_move ho (fun k hk => hb.block k (own_lt ho k hk)), hne⟩
  exact h.imp (key _) (key _)
theorem byteCells_app (a b : List UInt8) : Lib.byteCells a ++ Lib.byteCells b = Lib.byteCells (a ++ b) := by simp [Lib.byteCells]
theorem strCells_bl (s : ByteArray) : Lib.strCells s = Lib.byteCells (bl s) := rfl
theorem below_le {B B' : Nat} {w w' : World} (h : Below B w w') (hB : B' ≤ B) : Below B' w w' := ⟨h.os, h.tape, h.output, h.size, fun i hi => h.block i (Nat.lt_of_lt_of_le hi hB)⟩
set_option maxHeartbeats 2000000 in
set_option maxRecDepth 100000 in
theorem readQuote_calls (s : ByteArray) (hs : s.size ≤ 70368744177664) (h0 : 0 < s.size) (hk : cls (s[0]'h0) = 5) (w : World) : Calls Tryd.prog 71 #[.string s] w fun e w' => Ans (tok (bl s)) e ∧ Below w.heap.size w w' := by
  have hcc := cls_cases _ _ hk (by omega)
  simp at hcc
  obtain ⟨a1, a2, a3, a4⟩ := hcc
  obtain ⟨QT, hQ⟩ : ∃ QT, QT = (textOf ((bl s).drop 1)).map (fun p => (p.1, p.2 + 1)) := ⟨_, rfl⟩
  have ht : tok (bl s) = QT.map (fun p => (⟨6, p.1, 0⟩, p.2)) := by
    rw [hQ, Option.map_map, bl_cons s h0, tok, if_neg (by simp [a1]), if_neg (by simp [a2]), if_neg a3, if_pos a4]
    rfl
  have HT := Aside0.mk ht
  have hQ0 : QT = (textOf ((bl s).drop 1)).map (fun p => ([] ++ p.1, 1 + p.2)) := by
    rw [hQ]; congr 1; funext p; simp [Nat.add_comm]
  have HQ := Aside0.mk hQ0
  clear ht hQ hQ0 hk a1 a2 a3 a4
  have HB0 : Aside0 (Lib.IsBuilder 82 5 (w.heap.size + 1) (w.heap.size + 1) (Lib.byteCells []) ((w.alloc (.cells #[.int .i64 0, .string ⟨#[]⟩, .int .i64 0, .int .i64 0] 42)).alloc (.cells #[.pointer none, .slice none 0 0] 82))) := ⟨.inl ⟨Nat.le_refl _, .slice none 0 0, by have := heap_alloc_new (w.alloc (.cells #[.int .i64 0, .string ⟨#[]⟩, .int .i64 0, .int .i64 0] 42)) (.cells #[.pointer none, .slice none 0 0] 82); rw [show (w.alloc (.cells #[.int .i64 0, .string ⟨#[]⟩, .int .i64 0, .int .i64 0] 42)).heap.size = w.heap.size + 1 by simp] at this; exact this, World.ownsRow_nil _ _ _ _, by simp [Value.ownBlock]⟩⟩
  have HW0 : Aside0 (Below w.heap.size w ((w.alloc (.cells #[.int .i64 0, .string ⟨#[]⟩, .int .i64 0, .int .i64 0] 42)).alloc (.cells #[.pointer none, .slice none 0 0] 82))) := ⟨((Below.refl _ _).alloc (Nat.le_refl _) _).alloc (by simp) _⟩
  have HK0 : Aside0 (((w.alloc (.cells #[.int .i64 0, .string ⟨#[]⟩, .int .i64 0, .int .i64 0] 42)).alloc (.cells #[.pointer none, .slice none 0 0] 82)).heap[w.heap.size]? = some (.cells #[.int .i64 0, .string ⟨#[]⟩, .int .i64 0, .int .i64 0] 42 (0, 0))) := ⟨blk_alloc (blk_new w _) _⟩
  have HS0 : Aside0 (w.heap.size + 1 ≤ ((w.alloc (.cells #[.int .i64 0, .string ⟨#[]⟩, .int .i64 0, .int .i64 0] 42)).alloc (.cells #[.pointer none, .slice none 0 0] 82)).heap.size) := ⟨by simp⟩
  go_enter Tryd.func71, Tryd.ntmps71
  go_wp2_with fail
  go_loopw [6] (fun v6 wr => ∃ (p : Nat) (L : List UInt8), v6 = .int .i64 (p : Int) ∧ 1 ≤ p ∧ p ≤ s.size ∧ L.length ≤ p ∧ Aside0 (QT = (textOf ((bl s).drop p)).map (fun q => (L ++ q.1, p + q.2))) ∧ Aside0 (Lib.IsBuilder 82 5 (w.heap.size + 1) (w.heap.size + 1) (Lib.byteCells L) wr) ∧ Aside0 (Below w.heap.size w wr) ∧ Aside0 (wr.heap[w.heap.size]? = some (.cells #[.int .i64 0, .string ⟨#[]⟩, .int .i64 0, .int .i64 0] 42 (0, 0))) ∧ Aside0 (w.heap.size + 1 ≤ wr.heap.size)) (fun v6 _ => s.size - (intOf v6).toNat)
  case atStart => exact ⟨1, [], rfl, by omega, by omega, by simp, HQ, HB0, HW0, HK0, HS0⟩
  case round =>
    clear HQ HB0 HW0 HK0 HS0
    obtain ⟨p, L, rfl, hp1, hp2, hL, HQ, HB, HW, HK, HS⟩ := hrel
    have hbl := bl_from s p
    obtain ⟨j, hj⟩ : ∃ j, Lib.indexByte ((bl s).drop p) 39 = j := ⟨_, rfl⟩
    have hjl : Lib.indexByte (bl (s.extract p s.size)) ((39 : Int).toNat.toUInt8) = j := by rw [hbl]; exact hj
    have HJ := Aside0.mk hjl
    have hge := Lib.indexByte_ge ((bl s).drop p) 39
    rw [hj] at hge
    clear hjl hbl
    by_cases hneg : j < 0
    · have hd : decide (j < 0) = true := by simp; omega
      have hn := quote_none _ (by rw [hj]; exact hneg)
      have HNN := Aside0.mk hn
      have d0 := blk_cell HK.out 0
      have d1 := blk_cell HK.out 1
      have d2 := blk_cell HK.out 2
      have d3 := blk_cell HK.out 3
      have f0 := fun i => blk_frozen HK.out i
      clear hn hj
      go_wp2_with (go_at_call 65; refine (Tryd.strings_IndexByte _ _ _).mono ?_; rintro e w' ⟨rfl, rfl⟩; rw [show Lib.indexByte _ _ = _ from HJ.out])
      refine tok_ret rfl w _ _ _ _ _ _ _ _ _ _ _ HW.out HK.out rfl ?_
      rw [HT.out, HQ.out, HNN.out]
      exact ⟨⟨0, [], 0⟩, 0, rfl⟩
    · obtain ⟨n, rfl⟩ : ∃ n : Nat, j = (n : Int) := ⟨j.toNat, by omega⟩
      obtain ⟨hnl, hsp⟩ := quote_split _ n hj
      rw [List.length_drop, bl_len] at hnl
      have HSP := Aside0.mk hsp
      have hd : decide ((n : Int) < 0) = false := by simp
      have hb1 : (p : Int) + (n : Int) ≤ (s.size : Int) := by omega
      have hb2 : p + n ≤ s.size := by omega
      have hb3 : (p : Int) ≤ (p : Int) + (n : Int) := by omega
      have hb4 : (p : Int) + ((n : Int) + 1) ≤ (s.size : Int) := by omega
      have hb5 : p + (n + 1) ≤ s.size := by omega
      have hw1 : wrap64 ((p : Int) + (n : Int)) = (p : Int) + (n : Int) := by unfold wrap64; omega
      have hw2 : wrap64 ((n : Int) + 1) = (n : Int) + 1 := by unfold wrap64; omega
      have hw3 : wrap64 ((p : Int) + ((n : Int) + 1)) = (p : Int) + ((n : Int) + 1) := by unfold wrap64; omega
      have hxb : bl (s.extract p (p + n)) = ((bl s).drop p).take n := by rw [bl_extract, Nat.add_sub_cancel_left]
      have hxs : (s.extract p (p + n)).size = n := by rw [← bl_len, hxb, List.length_take, List.length_drop, bl_len]; omega
      have HX := Aside0.mk hxb
      have HXS := Aside0.mk hxs
      clear hj hsp hxb hxs hge hneg
      go_wp2_with (go_at_call 65; refine (Tryd.strings_IndexByte _ _ _).mono ?_; rintro e w' ⟨rfl, rfl⟩; rw [show Lib.indexByte _ _ = _ from HJ.out])
      refine (Build.WriteString (w.heap.size + 1) (w.heap.size + 1) (Lib.byteCells L) (s.extract p (p + n)) _ (by exact HB.out) (by rw [Lib.byteCells_length, HXS.out]; omega) (by exact HS.out)).mono ?_
      rintro e w2 ⟨rfl, hB2, hb2⟩
      have hB2' : Lib.IsBuilder 82 5 (w.heap.size + 1) (w.heap.size + 1) (Lib.byteCells (L ++ ((bl s).drop p).take n)) w2 := by rw [← byteCells_app, ← HX.out]; exact hB2
      have HB2 := Aside0.mk hB2'
      have HW2 : Aside0 (Below w.heap.size w w2) := ⟨HW.out.trans (below_le hb2 (Nat.le_succ _))⟩
      have HK2 : Aside0 (w2.heap[w.heap.size]? = some (.cells #[.int .i64 0, .string ⟨#[]⟩, .int .i64 0, .int .i64 0] 42 (0, 0))) := ⟨(hb2.block w.heap.size (Nat.lt_succ_self _)).trans HK.out⟩
      have HS2 : Aside0 (w.heap.size + 1 ≤ w2.heap.size) := ⟨Nat.le_trans HS.out hb2.size⟩
      have hpb : bl (s.extract (p + (n + 1)) s.size) = (bl s).drop (p + (n + 1)) := bl_from s _
      obtain ⟨q, hq⟩ : ∃ q, Lib.hasPrefix (bl (s.extract (p + (n + 1)) s.size)) [39] = q := ⟨_, rfl⟩
      have hq2 : (((bl s).drop p)[n + 1]? == some 39) = q := by
        rw [← hq, hasP1, hpb, List.getElem?_drop, List.getElem?_drop]
        rfl
      have HQP := Aside0.mk hq
      have HQ2 := Aside0.mk hq2
      clear hB2 hb2 hB2' HB HW HK HS hpb hq hq2 HXS HX HJ
      cases q with
      | false =>
        have hlen : (L ++ ((bl s).drop p).take n).length ≤ p + n := by rw [List.length_append, List.length_take]; omega
        go_wp2_with (go_at_call 32; refine (Tryd.strings_HasPrefix _ _ _).mono ?_; rintro e w' ⟨rfl, rfl⟩; rw [show Lib.hasPrefix _ _ = _ from HQP.out])
        refine (Tryd.Builder_String_any (w.heap.size + 1) (w.heap.size + 1) (L ++ ((bl s).drop p).take n) _ (by exact HB2.out) (by exact HS2.out)).mono ?_
        rintro e w3 ⟨rfl, hb3⟩
        have HW3 : Aside0 (Below w.heap.size w w3) := ⟨HW2.out.trans (below_le hb3 (Nat.le_succ _))⟩
        have HK3 : Aside0 (w3.heap[w.heap.size]? = some (.cells #[.int .i64 0, .string ⟨#[]⟩, .int .i64 0, .int .i64 0] 42 (0, 0))) := ⟨(hb3.block w.heap.size (Nat.lt_succ_self _)).trans HK2.out⟩
        have d0 := blk_cell HK3.out 0
        have d1 := blk_cell HK3.out 1
        have d2 := blk_cell HK3.out 2
        have d3 := blk_cell HK3.out 3
        have f0 := fun i => blk_frozen HK3.out i
        clear hb3
        go_wp2
        refine tok_ret rfl w _ _ _ _ _ _ _ _ _ _ _ HW3.out HK3.out rfl ?_
        have hsp := HSP.out
        have hne : ((bl s).drop p)[n + 1]? ≠ some 39 := by have := HQ2.out; simpa using this
        rw [if_neg hne] at hsp
        rw [HT.out, HQ.out, hsp]
        show _ = _
        simp [tokV]
      | true =>
        go_wp2_with (go_at_call 32; refine (Tryd.strings_HasPrefix _ _ _).mono ?_; rintro e w' ⟨rfl, rfl⟩; rw [show Lib.hasPrefix _ _ = _ from HQP.out])
        have hlt : p + (n + 1) < s.size := by
          have h1 : ((bl s).drop p)[n + 1]? = some 39 := by have := HQ2.out; simpa using this
          rw [List.getElem?_drop] at h1
          have := (List.getElem?_eq_some_iff.1 h1).1
          rw [bl_len] at this; exact this
        have hlen : (L ++ ((bl s).drop p).take n).length ≤ p + n := by rw [List.length_append, List.length_take]; omega
        have hw4 : wrap64 ((p : Int) + ((n : Int) + 1) + 1) = (p : Int) + ((n : Int) + 1) + 1 := by unfold wrap64; omega
        refine (Build.WriteByte (w.heap.size + 1) (w.heap.size + 1) (Lib.byteCells (L ++ ((bl s).drop p).take n)) 39 _ (by exact HB2.out) (by rw [Lib.byteCells_length]; omega) (by exact HS2.out)).mono ?_
        rintro e w3 ⟨rfl, hB3, hb3⟩
        have hB3' : Lib.IsBuilder 82 5 (w.heap.size + 1) (w.heap.size + 1) (Lib.byteCells (L ++ ((bl s).drop p).take n ++ [39])) w3 := by rw [← byteCells_app]; exact hB3
        have HB3 := Aside0.mk hB3'
        have HW3 : Aside0 (Below w.heap.size w w3) := ⟨HW2.out.trans (below_le hb3 (Nat.le_succ _))⟩
        have HK3 : Aside0 (w3.heap[w.heap.size]? = some (.cells #[.int .i64 0, .string ⟨#[]⟩, .int .i64 0, .int .i64 0] 42 (0, 0))) := ⟨(hb3.block w.heap.size (Nat.lt_succ_self _)).trans HK2.out⟩
        have HS3 : Aside0 (w.heap.size + 1 ≤ w3.heap.size) := ⟨Nat.le_trans HS2.out hb3.size⟩
        clear hB3 hb3 hB3'
        go_wp2_with fail
        go_roundw
        case rel =>
          refine ⟨p + (n + 1) + 1, L ++ ((bl s).drop p).take n ++ [39], by go_num, by omega, by omega, by rw [List.length_append, List.length_singleton]; omega, ⟨?_⟩, HB3, HW3, HK3, HS3⟩
          have hsp := HSP.out
          have hye : ((bl s).drop p)[n + 1]? = some 39 := by have := HQ2.out; simpa using this
          rw [if_pos hye, List.drop_drop] at hsp
          rw [HQ.out, hsp, Option.map_map, show p + (n + 1) + 1 = p + (n + 2) by omega]
          congr 1
          funext q
          simp only [Function.comp, List.append_assoc, Prod.mk.injEq, List.cons_append, List.nil_append, true_and]
          omega
        case measure => simp [intOf]; omega
theorem com_index : ∀ K : List UInt8, Lib.indexByte K 34 = match comLen K with | none => -1 | some n => (n : Int)
  | [] => rfl
  | c :: K => by
    rw [Lib.indexByte, comLen, com_index K]
    by_cases hc : c = 34
    · subst hc; rfl
    · rw [if_neg (by simpa using hc), if_neg hc]
      cases comLen K with
      | none => rfl
      | some n =>
        have : ¬ (((n : Int) == -1) = true) := by simp
        simp only [Option.map_some]
        rw [if_neg this]
        exact (Int.natCast_succ n).symm
theorem blank_byte (c : UInt8) : decide ((0 : Int) ≤ Lib.indexByte [32, 9, 10, 13] c) = isB c := by
  have key : ∀ c : Fin 256, decide ((0 : Int) ≤ Lib.indexByte [32, 9, 10, 13] (UInt8.ofNat c.val)) = isB (UInt8.ofNat c.val) := by decide +kernel
  have := key ⟨c.toNat, c.toNat_lt⟩
  simpa using this
theorem drop_at (s : ByteArray) (p : Nat) (h : p < s.size) : (bl s).drop p = s[p]'h :: (bl s).drop (p + 1) := by
  have h1 : p < (bl s).length := by rw [bl_len]; exact h
  rw [List.drop_eq_getElem_cons h1]
  rfl
set_option maxHeartbeats 2000000 in
set_option maxRecDepth 100000 in
theorem skip_calls (s : ByteArray) (hs : s.size ≤ 281474976710656) (w : World) : Calls Tryd.prog 44 #[.string s] w fun e w' => e = .returned (.tuple #[.int .i64 ((skip (bl s)).1 : Int), .bool (skip (bl s)).2]) ∧ Below w.heap.size w w' := by
  obtain ⟨QT, hQ⟩ : ∃ QT, skip (bl s) = QT := ⟨_, rfl⟩
  rw [hQ]
  have HQ0 : Aside0 (QT = (0 + (skip ((bl s).drop 0)).1, (skip ((bl s).drop 0)).2)) := ⟨by rw [List.drop_zero, hQ, Nat.zero_add]⟩
  clear hQ
  go_enter Tryd.func44, Tryd.ntmps44
  go_wp2_with fail
  go_loopw [4] (fun v4 wr => ∃ p : Nat, v4 = .int .i64 (p : Int) ∧ p ≤ s.size ∧ Aside0 (QT = (p + (skip ((bl s).drop p)).1, (skip ((bl s).drop p)).2)) ∧ Aside0 (Below w.heap.size w wr)) (fun v4 _ => s.size - (intOf v4).toNat)
  case atStart => exact ⟨0, rfl, by omega, HQ0, ⟨Below.refl _ _⟩⟩
  case round =>
    clear HQ0
    obtain ⟨p, rfl, hp, HQ, HW⟩ := hrel
    by_cases hlt : p < s.size
    · have b1 : decide ((p : Int) < (s.size : Int)) = true := decide_eq_true (by omega)
      have b2 : (p : Int) < (s.size : Int) := by omega
      have hd := drop_at s p hlt
      have hbk := blank_byte (s[p]'hlt)
      have hcq : ((s[p]'hlt).toNat : Int).toNat.toUInt8 = s[p]'hlt := by rw [Int.toNat_natCast]; simp
      have HC := Aside0.mk hcq
      obtain ⟨b, hb⟩ : ∃ b, isB (s[p]'hlt) = b := ⟨_, rfl⟩
      rw [hb] at hbk
      have HD := Aside0.mk hd
      have HB := Aside0.mk hb
      have hw1 : wrap64 ((p : Int) + 1) = (p : Int) + 1 := by unfold wrap64; omega
      clear hd hb hcq
      cases b with
      | true =>
        go_wp2_with (go_at_call 65; refine (Tryd.strings_IndexByte _ _ _).mono ?_; rintro e w' ⟨rfl, rfl⟩; rw [HC.out])
        go_roundw
        case rel =>
          refine ⟨p + 1, by go_num, by omega, ⟨?_⟩, HW⟩
          rw [HQ.out, HD.out, skip_blank _ HB.out]
          simp only
          rw [show p + ((skip ((bl s).drop (p + 1))).1 + 1) = p + 1 + (skip ((bl s).drop (p + 1))).1 by omega]
        case measure => simp [intOf]; omega
      | false =>
        have h34 := byte_eq (s[p]'hlt) 34 (by omega)
        by_cases hc : s[p]'hlt = 34
        · have h34' : (((s[p]'hlt).toNat : Int) == 34) = true := by rw [hc]; rfl
          have hci := com_index ((bl s).drop (p + 1))
          have hfr := bl_from s (p + 1)
          have HCC := Aside0.mk hc
          have hb5 : (p : Int) + 1 ≤ (s.size : Int) := by omega
          have hb6 : p + 1 ≤ s.size := by omega
          have hsk : skip ((bl s).drop p) = skip (34 :: (bl s).drop (p + 1)) := by rw [HD.out, hc]
          cases hl : comLen ((bl s).drop (p + 1)) with
          | none =>
            have HJ : Aside0 (Lib.indexByte (bl (s.extract (p + 1) s.size)) ((34 : Int).toNat.toUInt8) = -1) := ⟨by rw [hfr]; rw [hl] at hci; exact hci⟩
            have HS : Aside0 (QT = (p, false)) := ⟨by rw [HQ.out, hsk, skip_open _ hl]; rfl⟩
            clear hci hfr hl h34 hc hsk
            go_wp2_with (first
              | (go_at_call 65; refine (Tryd.strings_IndexByte _ _ _).mono ?_; rintro e w' ⟨rfl, rfl⟩; rw [HC.out])
              | (go_at_call 65; refine (Tryd.strings_IndexByte _ _ _).mono ?_; rintro e w' ⟨rfl, rfl⟩; rw [show Lib.indexByte _ _ = _ from HJ.out]))
            go_ret2
            exact ⟨by rw [HS.out]; rfl, HW.out⟩
          | some n =>
            have hnl : n < ((bl s).drop (p + 1)).length := by
              obtain ⟨b, r, e1, _, e3⟩ := (comLen_some _ _).1 hl
              rw [e1, List.length_append, List.length_cons, e3]; omega
            rw [List.length_drop, bl_len] at hnl
            have hb7 : (p : Int) + ((n : Int) + 2) ≤ (s.size : Int) := by omega
            have hb8 : p + (n + 2) ≤ s.size := by omega
            have hd5 : decide ((n : Int) < 0) = false := by simp
            have hw2 : wrap64 ((n : Int) + 2) = (n : Int) + 2 := by unfold wrap64; omega
            have hw3 : wrap64 ((p : Int) + ((n : Int) + 2)) = (p : Int) + ((n : Int) + 2) := by unfold wrap64; omega
            have HJ : Aside0 (Lib.indexByte (bl (s.extract (p + 1) s.size)) ((34 : Int).toNat.toUInt8) = (n : Int)) := ⟨by rw [hfr]; rw [hl] at hci; exact hci⟩
            have HS : Aside0 (QT = (p + (n + 2) + (skip ((bl s).drop (p + (n + 2)))).1, (skip ((bl s).drop (p + (n + 2)))).2)) := ⟨by
              rw [HQ.out, hsk, skip_com _ _ hl, List.drop_drop, show p + 1 + (n + 1) = p + (n + 2) by omega]
              simp only [Prod.mk.injEq, and_true]
              omega⟩
            clear hci hfr hl h34 hc hsk
            go_wp2_with (first
              | (go_at_call 65; refine (Tryd.strings_IndexByte _ _ _).mono ?_; rintro e w' ⟨rfl, rfl⟩; rw [HC.out])
              | (go_at_call 65; refine (Tryd.strings_IndexByte _ _ _).mono ?_; rintro e w' ⟨rfl, rfl⟩; rw [show Lib.indexByte _ _ = _ from HJ.out]))
            go_roundw
            case rel => exact ⟨p + (n + 2), by go_num, hb8, HS, HW⟩
            case measure => simp [intOf]; omega
        · have hne : (s[p]'hlt == UInt8.ofNat 34) = false := by simpa using hc
          have h34' : (((s[p]'hlt).toNat : Int) == 34) = false := by
            have := h34.trans hne
            exact this
          have HS : Aside0 (QT = (p, true)) := ⟨by rw [HQ.out, HD.out, skip_stop _ HB.out hc]; rfl⟩
          clear h34 hc hne
          go_wp2_with (go_at_call 65; refine (Tryd.strings_IndexByte _ _ _).mono ?_; rintro e w' ⟨rfl, rfl⟩; rw [HC.out])
          go_ret2
          exact ⟨by rw [HS.out]; rfl, HW.out⟩
    · have b1 : decide ((p : Int) < (s.size : Int)) = false := decide_eq_false (by omega)
      have HS : Aside0 (QT = (p, true)) := ⟨by rw [HQ.out, List.drop_eq_nil_of_le (by rw [bl_len]; omega), skip_nil]; rfl⟩
      go_wp2_with fail
      go_ret2
      exact ⟨by rw [HS.out]; rfl, HW.out⟩
end Go.Proofs.YtjibdaigclgmhaaDoor.LexW
