/- The program's reading of tokens, walked: each function's answer in plain words. Conditions: those that each theorem states. -/
import Derived.Test.YtjibdaigclgmhaaDoorLexB
namespace Go.Proofs.YtjibdaigclgmhaaDoor.LexW
open Go.RowKit Go.Maps Go.Proofs.YtjibdaigclgmhaaDoor.Lex Go.Proofs.YtjibdaigclgmhaaDoor.PLexTokens Go.Proofs.YtjibdaigclgmhaaDoorW.PrintWords Go.Proofs.YtjibdaigclgmhaaDoorW.PrintLast Go.Proofs.YtjibdaigclgmhaaDoorW.PrintMore
attribute [local go_sem] max2_int min2_int max_two min_two max_three min_three max_four min_four
set_option linter.unusedVariables false
set_option linter.unusedSimpArgs false
theorem cls_sign (c : UInt8) : (cls c != 4) = !isG c := by
  have key : ∀ c : Fin 256, (cls (UInt8.ofNat c.val) != 4) = !isG (UInt8.ofNat c.val) := by decide +kernel
  have := key ⟨c.toNat, c.toNat_lt⟩
  simpa using this
theorem byte_eq (c : UInt8) (k : Nat) (hk : k < 256) : ((c.toNat : Int) == (k : Int)) = (c == UInt8.ofNat k) := by
  by_cases h : c = UInt8.ofNat k
  · subst h
    have : (UInt8.ofNat k).toNat = k := by simp [UInt8.toNat_ofNat']; omega
    rw [this]; simp
  · have h2 : c.toNat ≠ k := fun e => h (by rw [← e]; simp)
    have h3 : ((c.toNat : Int) == (k : Int)) = false := by simp; omega
    rw [h3]; simp [h]
theorem isEmpty_bl (s : ByteArray) : s.toList.isEmpty = (bl s).isEmpty := by rw [ByteArray.toList_eq]
theorem bl_cons (s : ByteArray) (h : 0 < s.size) : bl s = s[0]'h :: (bl s).drop 1 := by
  have h1 : 0 < (bl s).length := by rw [bl_len]; exact h
  have := List.drop_eq_getElem_cons h1
  rw [List.drop_zero] at this
  exact this
theorem bl_cons2 (s : ByteArray) (h : 1 < s.size) : bl s = s[0]'(by omega) :: s[1]'h :: (bl s).drop 2 := by
  have h1 : 1 < (bl s).length := by rw [bl_len]; exact h
  rw [bl_cons s (by omega), List.drop_eq_getElem_cons h1]
  rfl
set_option maxHeartbeats 4000000 in
set_option maxRecDepth 100000 in
theorem signsLen_calls (s : ByteArray) (w : World) : Calls Tryd.prog 29 #[.string s] w fun e w' => e = .returned (.int .i64 (signsLen (bl s) : Int)) ∧ Below w.heap.size w w' := by
  by_cases h0 : 0 < s.size
  · have hne : s.toList.isEmpty = false := by rw [isEmpty_bl, bl_cons s h0]; rfl
    have hc0 := cls_sign (s[0]'h0)
    obtain ⟨g0, e0⟩ : ∃ g, isG (s[0]'h0) = g := ⟨_, rfl⟩
    rw [e0] at hc0
    by_cases h1 : 1 < s.size
    · have hsz : ((s.size : Int) == 1) = false := by simp; omega
      have hc1 := cls_sign (s[1]'h1)
      obtain ⟨g1, e1⟩ : ∃ g, isG (s[1]'h1) = g := ⟨_, rfl⟩
      rw [e1] at hc1
      have hm0 := byte_eq (s[0]'h0) 45 (by omega)
      have hm1 := byte_eq (s[1]'h1) 45 (by omega)
      obtain ⟨m0, f0⟩ : ∃ g, (s[0]'h0 == (45 : UInt8)) = g := ⟨_, rfl⟩
      obtain ⟨m1, f1⟩ : ∃ g, (s[1]'h1 == (45 : UInt8)) = g := ⟨_, rfl⟩
      have hres : signsLen (bl s) = if g0 then (if g1 && !m0 && !m1 then 2 else 1) else 0 := by
        rw [bl_cons2 s h1]
        simp only [signsLen, e0, e1, bne, f0, f1]
      have hm0 : (((s[0]'h0).toNat : Int) == 45) = m0 := hm0.trans f0
      have hm1 : (((s[1]'h1).toNat : Int) == 45) = m1 := hm1.trans f1
      have HR := Aside0.mk hres
      have HC0 := Aside0.mk hc0
      have HC1 := Aside0.mk hc1
      clear hres e0 e1 f0 f1 hc0 hc1
      cases g0 <;> cases g1 <;> cases m0 <;> cases m1
      all_goals
        have hc0 := HC0.out
        have hc1 := HC1.out
        simp only [Bool.not_true, Bool.not_false] at hc0 hc1
        have HW := Aside0.mk (Below.refl w.heap.size w)
        go_enter Tryd.func29, Tryd.ntmps29
        go_wp2_with (go_at_call 46; refine (classOf_calls _ _).mono ?_; rintro e w1 ⟨rfl, hb⟩; replace HW := Aside0.mk (below_then HW.out HW.out.size hb); clear hb)
        go_ret
        exact ⟨by rw [HR.out]; rfl, HW.out⟩
    · have hsz : ((s.size : Int) == 1) = true := by simp; omega
      have hres : signsLen (bl s) = if g0 then 1 else 0 := by
        have h2 : (bl s).drop 1 = [] := List.drop_eq_nil_of_le (by rw [bl_len]; omega)
        rw [bl_cons s h0, h2]
        simp only [signsLen, e0]
      have HR := Aside0.mk hres
      have HC0 := Aside0.mk hc0
      clear hres e0 hc0
      cases g0
      all_goals
        have hc0 := HC0.out
        simp only [Bool.not_true, Bool.not_false] at hc0
        have HW := Aside0.mk (Below.refl w.heap.size w)
        go_enter Tryd.func29, Tryd.ntmps29
        go_wp2_with (go_at_call 46; refine (classOf_calls _ _).mono ?_; rintro e w1 ⟨rfl, hb⟩; replace HW := Aside0.mk (below_then HW.out HW.out.size hb); clear hb)
        go_ret
        exact ⟨by rw [HR.out]; rfl, HW.out⟩
  · have hne : s.toList.isEmpty = true := by
      rw [isEmpty_bl, List.isEmpty_iff]; exact List.eq_nil_of_length_eq_zero (by rw [bl_len]; omega)
    have hres : signsLen (bl s) = 0 := by
      have h2 : bl s = [] := List.eq_nil_of_length_eq_zero (by rw [bl_len]; omega)
      rw [h2]; rfl
    have HR := Aside0.mk hres
    clear hres
    have HW := Aside0.mk (Below.refl w.heap.size w)
    go_enter Tryd.func29, Tryd.ntmps29
    go_wp2_with (go_at_call 46; refine (classOf_calls _ _).mono ?_; rintro e w1 ⟨rfl, hb⟩; replace HW := Aside0.mk (below_then HW.out HW.out.size hb); clear hb)
    go_ret
    exact ⟨by rw [HR.out]; rfl, HW.out⟩
theorem hasP1 (l : List UInt8) (c : UInt8) : Lib.hasPrefix l [c] = (l[0]? == some c) := by
  cases l with
  | nil => rfl
  | cons d l => simp [Lib.hasPrefix, List.isPrefixOf]; exact Bool.beq_comm
theorem hasP2 (l : List UInt8) (c d : UInt8) : Lib.hasPrefix l [c, d] = (l[0]? == some c && l[1]? == some d) := by
  match l with
  | [] => rfl
  | [a] => simp [Lib.hasPrefix, List.isPrefixOf]
  | a :: b :: l =>
    simp only [Lib.hasPrefix, List.isPrefixOf, List.getElem?_cons_zero, List.getElem?_cons_succ, Bool.and_true]
    congr 1
    · exact Bool.beq_comm
    · exact Bool.beq_comm
theorem colon_pre (l : List UInt8) : colon l = (Lib.hasPrefix l [58] && !Lib.hasPrefix l [58, 61]) := by
  rw [hasP1, hasP2, colon]
  cases (l[0]? == some 58) <;> cases h : (l[1]? == some 61) <;> simp [bne, h]
set_option maxHeartbeats 4000000 in
set_option maxRecDepth 100000 in
theorem colon_calls (s : ByteArray) (w : World) : Calls Tryd.prog 79 #[.string s] w fun e w' => e = .returned (.bool (colon (bl s))) ∧ Below w.heap.size w w' := by
  have hc := colon_pre (bl s)
  obtain ⟨p, hp⟩ : ∃ p, Lib.hasPrefix (bl s) [58] = p := ⟨_, rfl⟩
  obtain ⟨q, hq⟩ : ∃ p, Lib.hasPrefix (bl s) [58, 61] = p := ⟨_, rfl⟩
  rw [hp, hq] at hc
  have HP := Aside0.mk hp
  have HQ := Aside0.mk hq
  have HC := Aside0.mk hc
  clear hp hq hc
  cases p <;> cases q
  all_goals
    go_enter Tryd.func79, Tryd.ntmps79
    go_wp2_with (go_at_call 32; refine (Tryd.strings_HasPrefix _ _ _).mono ?_; rintro e w' ⟨rfl, rfl⟩; first | rw [show Lib.hasPrefix s.data.toList _ = _ from HP.out] | rw [show Lib.hasPrefix s.data.toList _ = _ from HQ.out])
    go_ret
    exact ⟨by rw [HC.out]; rfl, ⟨rfl, rfl, rfl, Nat.le_refl _, fun _ _ => rfl⟩⟩
theorem bl_extract (s : ByteArray) (a b : Nat) : bl (s.extract a b) = ((bl s).drop a).take (b - a) := by
  show (s.extract a b).data.toList = _
  rw [ByteArray.data_extract, Array.toList_extract, List.extract_eq_take_drop]
theorem ext_eq (s : ByteArray) (a b : Nat) : s.extract a b = ⟨(((bl s).drop a).take (b - a)).toArray⟩ := by
  rw [← bl_extract]
def tokV (t : Tok) (p : Int) : Value := .agg #[.int .i64 t.kind, .string ⟨t.text.toArray⟩, .int .i64 t.num, .int .i64 p]
/-- what a reader answers -/
def Ans (o : Option (Tok × Nat)) (e : Ending) : Prop :=
  match o with
  | some (t, n) => e = .returned (.tuple #[tokV t 0, .int .i64 (n : Int), .bool true])
  | none => ∃ t n, e = .returned (.tuple #[tokV t 0, .int .i64 n, .bool false])
theorem tok_ret {fn : Func} {p u v : Tmp} (hres : fn.results = #[.cell p 42, .tmp u, .tmp v]) (w W : World) (tmps : Array Value) (a b c d x0 x1 x2 x3 : Value) (o : Option (Tok × Nat))
    (HW : Below w.heap.size w W) (HK : W.heap[w.heap.size]? = some (.cells #[a, b, c, d] 42 (0, 0))) (hp : tmps.getD p undef = .pointer (some ⟨w.heap.size, 0, none⟩))
    (hA : Ans o (.returned (.tuple #[.agg #[x0, x1, x2, x3], tmps.getD u undef, tmps.getD v undef]))) :
    bodyPost Tryd.prog fn (fun e w' => Ans o e ∧ Below w.heap.size w w') Exit.ret { tmps := tmps, defers := [] } ((((W.setCell ⟨w.heap.size, 0, none⟩ x0).setCell ⟨w.heap.size, 1, none⟩ x1).setCell ⟨w.heap.size, 2, none⟩ x2).setCell ⟨w.heap.size, 3, none⟩ x3) := by
  have h0 := blk_put HK 0 x0 rfl
  have h1 := blk_put h0 1 x1 rfl
  have h2 := blk_put h1 2 x2 rfl
  have h3 := blk_put h2 3 x3 rfl
  refine bodyPost_ret (results_ctt hres tmps _ w.heap.size 42 _ (0, 0) _ hp h3 Tryd.underlying42 rfl (by kernel_rfl)) rfl ⟨hA, ?_⟩
  exact (((HW.setCell (Nat.le_refl _) _).setCell (Nat.le_refl _) _).setCell (Nat.le_refl _) _).setCell (Nat.le_refl _) _
theorem tok_ret0 {fn : Func} {p u v : Tmp} (hres : fn.results = #[.cell p 42, .tmp u, .tmp v]) (w W : World) (tmps : Array Value) (x0 x1 x2 x3 : Value) (o : Option (Tok × Nat))
    (HW : Below w.heap.size w W) (HK : W.heap[w.heap.size]? = some (.cells #[x0, x1, x2, x3] 42 (0, 0))) (hp : tmps.getD p undef = .pointer (some ⟨w.heap.size, 0, none⟩))
    (hA : Ans o (.returned (.tuple #[.agg #[x0, x1, x2, x3], tmps.getD u undef, tmps.getD v undef]))) :
    bodyPost Tryd.prog fn (fun e w' => Ans o e ∧ Below w.heap.size w w') Exit.ret { tmps := tmps, defers := [] } W :=
  bodyPost_ret (results_ctt hres tmps _ w.heap.size 42 _ (0, 0) _ hp HK Tryd.underlying42 rfl (by kernel_rfl)) rfl ⟨hA, HW⟩
set_option maxHeartbeats 4000000 in
set_option maxRecDepth 100000 in
theorem readWord_calls (s : ByteArray) (hs : s.size ≤ 281474976710656) (h0 : 0 < s.size) (hk : isL (s[0]'h0) = true) (w : World) : Calls Tryd.prog 67 #[.string s] w fun e w' => Ans (tok (bl s)) e ∧ Below w.heap.size w w' := by
  have ht : tok (bl s) = if colon ((bl s).drop (nameLen (bl s))) then some (⟨2, (bl s).take (nameLen (bl s)), 0⟩, nameLen (bl s) + 1) else some (⟨1, (bl s).take (nameLen (bl s)), 0⟩, nameLen (bl s)) := by
    rw [bl_cons s h0, tok, if_pos hk]
  have hle := nameLen_le (bl s)
  rw [bl_len] at hle
  have hb : bl (s.extract (nameLen (bl s)) s.size) = (bl s).drop (nameLen (bl s)) := by
    rw [bl_extract, List.take_of_length_le (by rw [List.length_drop, bl_len]; omega)]
  have hcc := colon_calls (s.extract (nameLen (bl s)) s.size)
  rw [hb] at hcc
  obtain ⟨c, hc⟩ : ∃ c, colon ((bl s).drop (nameLen (bl s))) = c := ⟨_, rfl⟩
  rw [hc] at ht hcc
  have hx : s.extract 0 (nameLen (bl s)) = ⟨((bl s).take (nameLen (bl s))).toArray⟩ := by rw [ext_eq]; simp
  have HX := Aside0.mk hx
  have HT := Aside0.mk ht
  have HC := Aside0.mk hcc
  have hnc := nameLen_calls s
  obtain ⟨n, hn⟩ : ∃ n, nameLen (bl s) = n := ⟨_, rfl⟩
  rw [hn] at hle hnc HX HT HC
  have HN := Aside0.mk hnc
  have hw1 : wrap64 ((n : Int) + 1) = (n : Int) + 1 := by unfold wrap64; omega
  clear hx ht hcc hb hc hnc hn
  have hW : Below w.heap.size w (w.alloc (.cells #[.int .i64 0, .string ⟨#[]⟩, .int .i64 0, .int .i64 0] 42)) := (Below.refl _ _).alloc (Nat.le_refl _) _
  have hK := blk_new w (.cells #[.int .i64 0, .string ⟨#[]⟩, .int .i64 0, .int .i64 0] 42 (0, 0))
  have HW := Aside0.mk hW
  have HK := Aside0.mk hK
  clear hW hK
  cases c
  all_goals
    go_enter Tryd.func67, Tryd.ntmps67
    go_wp2_with (first
      | (go_at_call 31; refine (HN.out _).mono ?_; rintro e w1 ⟨rfl, hb⟩; replace HW := Aside0.mk (below_then HW.out HW.out.size hb); replace HK := Aside0.mk (blk_below HK.out hb); clear hb)
      | (go_at_call 79; refine (HC.out _).mono ?_; rintro e w2 ⟨rfl, hb⟩; replace HW := Aside0.mk (below_then HW.out HW.out.size hb); replace HK := Aside0.mk (blk_below HK.out hb); clear hb; have d0 := blk_cell HK.out 0; have d1 := blk_cell HK.out 1; have d2 := blk_cell HK.out 2; have d3 := blk_cell HK.out 3; have f0 := fun i => blk_frozen HK.out i))
    refine tok_ret rfl w _ _ _ _ _ _ _ _ _ _ _ HW.out HK.out rfl ?_
    rw [HT.out]
    show _ = _
    rw [HX.out]
    rfl
theorem cls_cases (c : UInt8) (k : Int) (h : cls c = k) (h1 : 1 ≤ k) :
    (k = 1 ∧ isL c = true) ∨ (k = 2 ∧ isL c = false ∧ isD c = true) ∨ (k = 3 ∧ isL c = false ∧ isD c = false ∧ c = 35) ∨ (k = 5 ∧ isL c = false ∧ isD c = false ∧ c ≠ 35 ∧ c = 39) ∨ (k = 4 ∧ isL c = false ∧ isD c = false ∧ c ≠ 35 ∧ c ≠ 39 ∧ isG c = true) ∨ (k = 6 ∧ isL c = false ∧ isD c = false ∧ c ≠ 35 ∧ c ≠ 39 ∧ isG c = false ∧ markKind c ≠ 0) := by
  unfold cls at h
  cases a1 : isL c with
  | true => rw [a1] at h; simp at h; exact .inl ⟨h.symm, rfl⟩
  | false =>
    rw [a1] at h
    simp only [Bool.false_eq_true, if_false] at h
    cases a2 : isD c with
    | true => rw [a2] at h; simp at h; exact .inr (.inl ⟨h.symm, rfl, rfl⟩)
    | false =>
      rw [a2] at h
      simp only [Bool.false_eq_true, if_false] at h
      by_cases a3 : c = 35
      · rw [if_pos a3] at h; exact .inr (.inr (.inl ⟨h.symm, rfl, rfl, a3⟩))
      · rw [if_neg a3] at h
        by_cases a4 : c = 39
        · rw [if_pos a4] at h; exact .inr (.inr (.inr (.inl ⟨h.symm, rfl, rfl, a3, a4⟩)))
        · rw [if_neg a4] at h
          cases a5 : isG c with
          | true => rw [a5] at h; simp at h; exact .inr (.inr (.inr (.inr (.inl ⟨h.symm, rfl, rfl, a3, a4, rfl⟩))))
          | false =>
            rw [a5] at h
            simp only [Bool.false_eq_true, if_false] at h
            by_cases a6 : markKind c = 0
            · rw [if_pos a6] at h; omega
            · rw [if_neg a6] at h; exact .inr (.inr (.inr (.inr (.inr ⟨h.symm, rfl, rfl, a3, a4, rfl, a6⟩))))
theorem cls_zero (c : UInt8) (h : cls c = 0) (r : List UInt8) : tok (c :: r) = none := by
  unfold cls at h
  rw [tok]
  split at h
  · omega
  · rename_i a1
    rw [if_neg a1]
    split at h
    · omega
    · rename_i a2
      rw [if_neg a2]
      split at h
      · omega
      · rename_i a3
        rw [if_neg a3]
        split at h
        · omega
        · rename_i a4
          rw [if_neg a4]
          split at h
          · omega
          · rename_i a5
            rw [if_neg a5]
            split at h
            · rename_i a6
              rw [if_neg, if_pos a6]
              rintro ⟨rfl, _⟩
              exact absurd a6 (by decide)
            · omega
set_option maxHeartbeats 4000000 in
set_option maxRecDepth 100000 in
theorem readSign_calls (s : ByteArray) (hs : s.size ≤ 281474976710656) (h0 : 0 < s.size) (hk : cls (s[0]'h0) = 4) (w : World) : Calls Tryd.prog 70 #[.string s] w fun e w' => Ans (tok (bl s)) e ∧ Below w.heap.size w w' := by
  have ht : tok (bl s) = some (⟨3, (bl s).take (signsLen (bl s)), 0⟩, signsLen (bl s)) := by
    have := cls_cases _ _ hk (by omega)
    simp at this
    obtain ⟨a1, a2, a3, a4, a5⟩ := this
    rw [bl_cons s h0, tok, if_neg (by simp [a1]), if_neg (by simp [a2]), if_neg a3, if_neg a4, if_pos a5]
  have hle := (signsLen_le (bl s)).1
  rw [bl_len] at hle
  have hx : s.extract 0 (signsLen (bl s)) = ⟨((bl s).take (signsLen (bl s))).toArray⟩ := by rw [ext_eq]; simp
  have HX := Aside0.mk hx
  have HT := Aside0.mk ht
  have hnc := signsLen_calls s
  obtain ⟨n, hn⟩ : ∃ n, signsLen (bl s) = n := ⟨_, rfl⟩
  rw [hn] at hle hnc HX HT
  have HN := Aside0.mk hnc
  clear hx ht hnc hn hk
  have hW : Below w.heap.size w (w.alloc (.cells #[.int .i64 0, .string ⟨#[]⟩, .int .i64 0, .int .i64 0] 42)) := (Below.refl _ _).alloc (Nat.le_refl _) _
  have hK := blk_new w (.cells #[.int .i64 0, .string ⟨#[]⟩, .int .i64 0, .int .i64 0] 42 (0, 0))
  have HW := Aside0.mk hW
  have HK := Aside0.mk hK
  clear hW hK
  go_enter Tryd.func70, Tryd.ntmps70
  go_wp2_with (go_at_call 29; refine (HN.out _).mono ?_; rintro e w1 ⟨rfl, hb⟩; replace HW := Aside0.mk (below_then HW.out HW.out.size hb); replace HK := Aside0.mk (blk_below HK.out hb); clear hb; have d0 := blk_cell HK.out 0; have d1 := blk_cell HK.out 1; have d2 := blk_cell HK.out 2; have d3 := blk_cell HK.out 3; have f0 := fun i => blk_frozen HK.out i)
  refine tok_ret rfl w _ _ _ _ _ _ _ _ _ _ _ HW.out HK.out rfl ?_
  rw [HT.out]
  show _ = _
  rw [HX.out]
  rfl
set_option maxHeartbeats 4000000 in
set_option maxRecDepth 100000 in
theorem readMark_calls (s : ByteArray) (hs : s.size ≤ 281474976710656) (h0 : 0 < s.size) (hk : cls (s[0]'h0) = 6) (w : World) : Calls Tryd.prog 72 #[.string s] w fun e w' => Ans (tok (bl s)) e ∧ Below w.heap.size w w' := by
  have ht : tok (bl s) = if Lib.hasPrefix (bl s) [58, 61] then some (⟨14, [], 0⟩, 2) else some (⟨markKind (s[0]'h0), [], 0⟩, 1) := by
    have := cls_cases _ _ hk (by omega)
    simp at this
    obtain ⟨a1, a2, a3, a4, a5, a6⟩ := this
    rw [hasP2, bl_cons s h0, tok, if_neg (by simp [a1]), if_neg (by simp [a2]), if_neg a3, if_neg a4, if_neg (by simp [a5])]
    by_cases hh : s[0]'h0 = 58 ∧ ((bl s).drop 1)[0]? = some 61
    · rw [if_pos hh, if_pos]
      simp only [List.getElem?_cons_zero, List.getElem?_cons_succ, hh.2, hh.1]
      decide
    · rw [if_neg hh, if_neg a6, if_neg]
      intro h2
      simp only [List.getElem?_cons_zero, List.getElem?_cons_succ, Bool.and_eq_true, beq_iff_eq] at h2
      exact hh ⟨Option.some.inj h2.1, h2.2⟩
  have hM : markI ((s[0]'h0).toNat : Int) = markKind (s[0]'h0) := markI_byte _
  obtain ⟨p, hp⟩ : ∃ p, Lib.hasPrefix (bl s) [58, 61] = p := ⟨_, rfl⟩
  rw [hp] at ht
  have HP := Aside0.mk hp
  have HT := Aside0.mk ht
  have HMK := Aside0.mk hM
  have HKY := Aside0.mk (keyOf_int_mk Tryd.underlying5 (wf_u8 (s[0]'h0)))
  clear ht hM hp hk
  have hW : Below w.heap.size w (w.alloc (.cells #[.int .i64 0, .string ⟨#[]⟩, .int .i64 0, .int .i64 0] 42)) := (Below.refl _ _).alloc (Nat.le_refl _) _
  have hK := blk_new w (.cells #[.int .i64 0, .string ⟨#[]⟩, .int .i64 0, .int .i64 0] 42 (0, 0))
  have HW := Aside0.mk hW
  have HK := Aside0.mk hK
  clear hW hK
  cases p
  · go_enter Tryd.func72, Tryd.ntmps72
    go_wp2_with (go_at_call 32; refine (Tryd.strings_HasPrefix _ _ _).mono ?_; rintro e w' ⟨rfl, rfl⟩; rw [show Lib.hasPrefix s.data.toList _ = _ from HP.out])
    refine start_ (n := 8) (S := fun w' => True) (ds := []) #[false, false, false, false, false, false, false, false] (by kernel_rfl) rfl rfl trivial (fun hHeld => ?_)
    refine pure_ (i := 1) (N := some 9) (v := ?_) (a' := ?_) #[false, true, false, false, false, false, false, false] rfl rfl (by kernel_rfl) (fun _ _ _ h => h) (Or.inl ⟨by rfl, ?_⟩) ?_ ?_
    rotate_left
    · intro w'
      go_simp
      with_reducible rfl
    rotate_left
    · simp only [Act.put, List.setIfInBounds_toArray, List.set_cons_zero, List.set_cons_succ, i64_w, i32_w]
      rfl
    refine take_ (i := 2) (N := some 10) (v := ?_) (a' := ?_) #[false, true, true, false, false, false, false, false] rfl rfl (by kernel_rfl) (fun _ _ _ h => h) (Or.inl ⟨by rfl, ?_⟩) hHeld ?_ ?_
    rotate_left
    · intro w' _
      go_simp
      with_reducible rfl
    rotate_left
    · simp only [Act.put, List.setIfInBounds_toArray, List.set_cons_zero, List.set_cons_succ, i64_w, i32_w]
      rfl
    refine one_ (i := 0) (N := some 8) #[true, true, true, false, false, false, false, false] rfl rfl (by kernel_rfl) (by decide) (fun K hK => ?_)
    refine goes_ Tryd.func55 (by kernel_rfl) rfl #[] (by rfl) rfl rfl (by simp only [List.map_toArray, List.map_cons, List.map_nil]) ?_
    with_reducible refine (marks_calls (H := Unit) _).mono ?_
    rintro e w3 ⟨rfl, hown, hb⟩
    have hW3 : Below w.heap.size w w3 := below_then (below_drew HW.out) (by have := HW.out.size; exact this) hb
    have hK3 := blk_below (blk_drew HK.out) hb
    have d0 := blk_cell hK3 0
    have d1 := blk_cell hK3 1
    have d2 := blk_cell hK3 2
    have d3 := blk_cell hK3 3
    have f0 := fun i => blk_frozen hK3 i
    obtain ⟨c2, hlk, hat, hwc⟩ := hown.lookup_int law5 Tryd.underlying78 Tryd.underlying3 (zero3 _) HKY.out
    have hc2 : c2 = markKind (s[0]'h0) := by { rw [(marks_all (H := Unit) _).1, HMK.out] at hat; simpa using hat.symm }
    subst hc2
    rw [show ∀ o, ((w.alloc o).drew).heap.size = w.heap.size + 1 from fun o => by simp] at hlk
    clear hat hwc hb hown
    refine ⟨_, rfl, ?_⟩
    refine hK.out _ _ trivial (fun hHeld => ?_)
    clear hK K
    refine norm_ (a' := ?_) ?_ ?_
    rotate_left
    · show Act.put _ (some 8) _ = _
      simp only [Act.put, List.setIfInBounds_toArray, List.set_cons_zero, List.set_cons_succ, i64_w, i32_w]
      rfl
    refine one_ (i := 3) (N := some 11) #[true, true, true, true, false, false, false, false] rfl rfl (by kernel_rfl) (by decide) (fun K hK => ?_)
    refine value_ (w1 := ?_) (v := ?_) (by rfl) rfl ?_ ?_
    rotate_left 2
    · go_simp
      constructor
      · rfl
      · rfl
    refine hK.out _ _ trivial (fun hHeld => ?_)
    clear hK K
    refine norm_ (a' := ?_) ?_ ?_
    rotate_left
    · show Act.put _ (some 11) _ = _
      simp only [Act.put, List.setIfInBounds_toArray, List.set_cons_zero, List.set_cons_succ, i64_w, i32_w]
      rfl
    refine pure_ (i := 4) (N := some 12) (v := ?_) (a' := ?_) #[true, true, true, true, true, false, false, false] rfl rfl (by kernel_rfl) (fun _ _ _ h => h) (Or.inl ⟨by rfl, ?_⟩) ?_ ?_
    rotate_left
    · intro w'
      go_simp
      with_reducible rfl
    rotate_left
    · simp only [Act.put, List.setIfInBounds_toArray, List.set_cons_zero, List.set_cons_succ, i64_w, i32_w]
      rfl
    refine one_ (i := 5) (N := none) #[true, true, true, true, true, true, false, false] rfl rfl (by kernel_rfl) (by decide) (fun K hK => ?_)
    refine skip_ (w1 := ?_) (by rfl) rfl ?_ ?_
    rotate_left
    · go_simp
      rfl
    refine hK.out _ _ trivial (fun hHeld => ?_)
    clear hK K
    refine pure_ (i := 6) (N := some 3) (v := ?_) (a' := ?_) #[true, true, true, true, true, true, true, false] rfl rfl (by kernel_rfl) (fun _ _ _ h => h) (Or.inl ⟨by rfl, ?_⟩) ?_ ?_
    rotate_left
    · intro w'
      go_simp
      with_reducible rfl
    rotate_left
    · simp only [Act.put, List.setIfInBounds_toArray, List.set_cons_zero, List.set_cons_succ, i64_w, i32_w]
      rfl
    refine pure_ (i := 7) (N := some 4) (v := ?_) (a' := ?_) #[true, true, true, true, true, true, true, true] rfl rfl (by kernel_rfl) (fun _ _ _ h => h) (Or.inl ⟨by rfl, ?_⟩) ?_ ?_
    rotate_left
    · intro w'
      go_simp
      with_reducible rfl
    rotate_left
    · simp only [Act.put, List.setIfInBounds_toArray, List.set_cons_zero, List.set_cons_succ, i64_w, i32_w]
      rfl
    refine done_ (by kernel_rfl) ?_

    go_wp2
    refine tok_ret rfl w w3 _ _ _ _ _ _ _ _ _ _ hW3 hK3 rfl ?_
    rw [HT.out]
    rfl
  · go_enter Tryd.func72, Tryd.ntmps72
    go_wp2_with (go_at_call 32; refine (Tryd.strings_HasPrefix _ _ _).mono ?_; rintro e w' ⟨rfl, rfl⟩; rw [show Lib.hasPrefix s.data.toList _ = _ from HP.out])
    refine tok_ret0 rfl w _ _ _ _ _ _ _ ((Below.refl _ _).alloc (Nat.le_refl _) _) (blk_new w (.cells #[.int .i64 14, .string ⟨#[]⟩, .int .i64 0, .int .i64 0] 42 (0, 0))) rfl ?_
    rw [HT.out]
    rfl
theorem fold_ge (l : List UInt8) : ∀ acc : Nat, acc ≤ l.foldl (fun n c => 10 * n + (c.toNat - 48)) acc := by
  induction l with
  | nil => intro acc; exact Nat.le_refl _
  | cons c r ih => intro acc; rw [List.foldl_cons]; have := ih (10 * acc + (c.toNat - 48)); omega
theorem parse_fold (l : List UInt8) : ∀ acc : Nat, (∀ c ∈ l, isD c = true) → acc ≤ 18446744073709551615 →
    (Lib.parseUintM 18446744073709551615 acc l = .ok (l.foldl (fun n c => 10 * n + (c.toNat - 48)) acc) ∧ l.foldl (fun n c => 10 * n + (c.toNat - 48)) acc ≤ 18446744073709551615) ∨ (Lib.parseUintM 18446744073709551615 acc l = .range ∧ 1073741824 < l.foldl (fun n c => 10 * n + (c.toNat - 48)) acc) := by
  induction l with
  | nil => intro acc _ h; exact .inl ⟨rfl, h⟩
  | cons c r ih =>
    intro acc hd h
    have hc := hd c (by simp)
    simp only [isD, Bool.and_eq_true, decide_eq_true_eq, UInt8.le_iff_toNat_le] at hc
    have h48 : (48 : UInt8).toNat = 48 := rfl
    have h57 : (57 : UInt8).toNat = 57 := rfl
    rw [h48, h57] at hc
    rw [Lib.parseUintM, if_pos hc, List.foldl_cons]
    have hf := fold_ge r (10 * acc + (c.toNat - 48))
    split
    · refine .inr ⟨rfl, ?_⟩; omega
    · split
      · refine .inr ⟨rfl, ?_⟩; omega
      · rw [show acc * 10 + (c.toNat - 48) = 10 * acc + (c.toNat - 48) by omega]
        exact ih _ (fun x hx => hd x (by simp [hx])) (by omega)
theorem takeWhile_all (p : UInt8 → Bool) (l : List UInt8) : ∀ c ∈ l.takeWhile p, p c = true := by
  induction l with
  | nil => intro c hc; simp at hc
  | cons d r ih =>
    intro c hc
    rw [List.takeWhile_cons] at hc
    split at hc
    · rename_i hd
      simp only [List.mem_cons] at hc
      rcases hc with rfl | hc
      · exact hd
      · exact ih c hc
    · simp at hc
theorem takeWhile_take (p : UInt8 → Bool) (l : List UInt8) : l.take (l.takeWhile p).length = l.takeWhile p := by
  have h := List.takeWhile_prefix (l := l) p
  exact (List.prefix_iff_eq_take.1 h).symm
/-- what strconv.ParseUint says of digits -/
theorem parse_digits (l : List UInt8) (h0 : 0 < digitsLen l) : (Lib.parseUintB 64 (l.take (digitsLen l)) = .ok (digVal (l.take (digitsLen l))) ∧ digVal (l.take (digitsLen l)) ≤ 18446744073709551615) ∨ (Lib.parseUintB 64 (l.take (digitsLen l)) = .range ∧ 1073741824 < digVal (l.take (digitsLen l))) := by
  unfold digitsLen at *
  rw [takeWhile_take]
  have hne : l.takeWhile isD ≠ [] := by intro e; rw [e] at h0; simp at h0
  unfold Lib.parseUintB
  rw [if_neg hne]
  exact parse_fold _ 0 (takeWhile_all isD l) (by omega)
/-- the variable strconv.ErrRange holds an error -/
def Erg (w : World) : Prop := ∃ te pe, w.cell? ⟨5, 0, none⟩ = some (.iface te pe)
theorem Erg.below {w w' : World} (h : Erg w) (hb : Below w.heap.size w w') : Erg w' := by
  obtain ⟨te, pe, h⟩ := h
  exact ⟨te, pe, pw_cell_below hb h⟩
theorem below_bytes (w : World) (s : ByteArray) : Below w.heap.size w (Lib.bytesWorld w 5 s) := by
  exact Lib.bytesWorld_below w 5 s
set_option maxHeartbeats 4000000 in
set_option maxRecDepth 100000 in
theorem readNumber_calls (s : ByteArray) (hs : s.size ≤ 281474976710656) (h0 : 0 < s.size) (hk : cls (s[0]'h0) = 2) (w : World) (E : Erg w) : Calls Tryd.prog 68 #[.string s] w fun e w' => Ans (tok (bl s)) e ∧ Below w.heap.size w w' := by
  have hcc := cls_cases _ _ hk (by omega)
  simp at hcc
  obtain ⟨a1, a2⟩ := hcc
  have ht : tok (bl s) = if digVal ((bl s).take (digitsLen (bl s))) ≤ 1073741824 then some (⟨4, [], digVal ((bl s).take (digitsLen (bl s)))⟩, digitsLen (bl s)) else none := by
    rw [bl_cons s h0, tok, if_neg (by simp [a1]), if_pos a2]
  have hle : digitsLen (bl s) ≤ s.size := by
    have := takeWhile_len_le isD (bl s)
    rw [bl_len] at this
    exact this
  have hpos : 0 < digitsLen (bl s) := by rw [bl_cons s h0]; simp [digitsLen, a2]
  have hx : bl (s.extract 0 (digitsLen (bl s))) = (bl s).take (digitsLen (bl s)) := by rw [bl_extract]; simp
  have hpd := parse_digits (bl s) hpos
  have hxs : (s.extract 0 (digitsLen (bl s))).size = digitsLen (bl s) := by
    rw [← bl_len, hx, List.length_take, bl_len]; omega
  rw [← hx] at hpd ht
  have hnc := digitsLen_calls s
  obtain ⟨n, hn⟩ : ∃ n, digitsLen (bl s) = n := ⟨_, rfl⟩
  obtain ⟨v, hv⟩ : ∃ v, digVal (bl (s.extract 0 (digitsLen (bl s)))) = v := ⟨_, rfl⟩
  rw [hv] at hpd ht
  rw [hn] at hle hnc hpd ht hxs
  have HX := Aside0.mk hxs
  have HT := Aside0.mk ht
  have HN := Aside0.mk hnc
  have HE := Aside0.mk E
  clear hx ht hnc hn hv hk E hxs a1 a2 hpos
  have hW : Below w.heap.size w (w.alloc (.cells #[.int .i64 0, .string ⟨#[]⟩, .int .i64 0, .int .i64 0] 42)) := (Below.refl _ _).alloc (Nat.le_refl _) _
  have hK := blk_new w (.cells #[.int .i64 0, .string ⟨#[]⟩, .int .i64 0, .int .i64 0] 42 (0, 0))
  have HW := Aside0.mk hW
  have HK := Aside0.mk hK
  clear hW hK
  rcases hpd with ⟨hp, hp2⟩ | ⟨hp, hp2⟩
  · have HP := Aside0.mk hp
    clear hp
    by_cases hv : v ≤ 1073741824
    · have hd : decide ((1073741824 : Int) < (v : Int)) = false := by simp; omega
      have hw : IntKind.i64.wrap (v : Int) = (v : Int) := by rw [IntKind.wrap_i64]; omega
      go_enter Tryd.func68, Tryd.ntmps68
      go_wp2_with (first
        | (go_at_call 80; refine (HN.out _).mono ?_; rintro e w1 ⟨rfl, hb⟩; replace HW := Aside0.mk (below_then HW.out HW.out.size hb); replace HK := Aside0.mk (blk_below HK.out hb); clear hb)
        | (go_at_call 81; refine (Tryd.strconv_ParseUint_10_at64_ok _ (by rw [HX.out]; omega) v HP.out _).mono ?_; rintro e w2 ⟨rfl, hb⟩; have hb2 : Below w1.heap.size w1 w2 := by { rcases hb with h | h <;> rw [h] <;> first | exact Below.refl _ _ | exact below_bytes _ _ }; clear hb; replace HW := Aside0.mk (below_then HW.out HW.out.size hb2); replace HK := Aside0.mk (blk_below HK.out hb2); clear hb2; have d0 := blk_cell HK.out 0; have d1 := blk_cell HK.out 1; have d2 := blk_cell HK.out 2; have d3 := blk_cell HK.out 3; have f0 := fun i => blk_frozen HK.out i))
      refine tok_ret rfl w _ _ _ _ _ _ _ _ _ _ _ HW.out HK.out rfl ?_
      rw [HT.out, if_pos hv]
      rfl
    · have hd : decide ((1073741824 : Int) < (v : Int)) = true := by simp; omega
      go_enter Tryd.func68, Tryd.ntmps68
      go_wp2_with (first
        | (go_at_call 80; refine (HN.out _).mono ?_; rintro e w1 ⟨rfl, hb⟩; replace HW := Aside0.mk (below_then HW.out HW.out.size hb); replace HK := Aside0.mk (blk_below HK.out hb); clear hb)
        | (go_at_call 81; refine (Tryd.strconv_ParseUint_10_at64_ok _ (by rw [HX.out]; omega) v HP.out _).mono ?_; rintro e w2 ⟨rfl, hb⟩; have hb2 : Below w1.heap.size w1 w2 := by { rcases hb with h | h <;> rw [h] <;> first | exact Below.refl _ _ | exact below_bytes _ _ }; clear hb; replace HW := Aside0.mk (below_then HW.out HW.out.size hb2); replace HK := Aside0.mk (blk_below HK.out hb2); clear hb2; have d0 := blk_cell HK.out 0; have d1 := blk_cell HK.out 1; have d2 := blk_cell HK.out 2; have d3 := blk_cell HK.out 3; have f0 := fun i => blk_frozen HK.out i))
      refine tok_ret rfl w _ _ _ _ _ _ _ _ _ _ _ HW.out HK.out rfl ?_
      rw [HT.out, if_neg hv]
      exact ⟨⟨0, [], 0⟩, 0, rfl⟩
  · have HP := Aside0.mk hp
    clear hp
    go_enter Tryd.func68, Tryd.ntmps68
    go_wp2_with (first
        | (go_at_call 80; refine (HN.out _).mono ?_; rintro e w1 ⟨rfl, hb⟩; replace HW := Aside0.mk (below_then HW.out HW.out.size hb); replace HK := Aside0.mk (blk_below HK.out hb); clear hb)
        | (go_at_call 81; obtain ⟨te, pe, hE⟩ := HE.out.below HW.out; refine (Tryd.strconv_ParseUint_10_at64_range _ (by rw [HX.out]; omega) HP.out _ _ hE (.inr ⟨_, _, rfl⟩)).mono ?_; rintro e w2 ⟨N, rfl, _, _, hb2⟩; replace HW := Aside0.mk (below_then HW.out HW.out.size hb2); replace HK := Aside0.mk (blk_below HK.out hb2); clear hb2 hE; have d0 := blk_cell HK.out 0; have d1 := blk_cell HK.out 1; have d2 := blk_cell HK.out 2; have d3 := blk_cell HK.out 3; have f0 := fun i => blk_frozen HK.out i))
    refine tok_ret rfl w _ _ _ _ _ _ _ _ _ _ _ HW.out HK.out rfl ?_
    rw [HT.out, if_neg (by omega)]
    exact ⟨⟨0, [], 0⟩, 0, rfl⟩
end Go.Proofs.YtjibdaigclgmhaaDoor.LexW
