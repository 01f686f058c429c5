/- The program's reading of tokens, walked: each function's answer in plain words. Conditions: those that each theorem states. -/
import Derived.Test.YtjibdaigclgmhaaDoorLexA
import Derived.Maps.OwnSet
import Derived.Maps.OwnOps
import Derived.Maps.Keyed
import Derived.Test.YtjibdaigclgmhaaDoorBuild
namespace Go.Proofs.YtjibdaigclgmhaaDoor.LexW
open Go.RowKit Go.Maps Go.Proofs.YtjibdaigclgmhaaDoor.Lex Go.Proofs.YtjibdaigclgmhaaDoor.PLexTokens Go.Proofs.YtjibdaigclgmhaaDoorW.PrintWords Go.Proofs.YtjibdaigclgmhaaDoorW.PrintLast Go.Proofs.YtjibdaigclgmhaaDoorW.PrintMore
attribute [local go_sem] max2_int min2_int max_two min_two max_three min_three max_four min_four
set_option linter.unusedVariables false
set_option linter.unusedSimpArgs false
theorem law5 : Keyed Tryd.prog 5 := int_keyed Tryd.underlying5
theorem zero3 (w : World) : (zeroValue 3).run Tryd.prog w = .ok (.int .i64 0) w := by kernel_rfl
def marksD {H : Type} : DataW H := ((((((((((DataW.map []).put (.int .u8 40) (.lit (.int .i64 8))).put (.int .u8 41) (.lit (.int .i64 9))).put (.int .u8 91) (.lit (.int .i64 10))).put (.int .u8 93) (.lit (.int .i64 11))).put (.int .u8 124) (.lit (.int .i64 12))).put (.int .u8 58) (.lit (.int .i64 13))).put (.int .u8 94) (.lit (.int .i64 15))).put (.int .u8 46) (.lit (.int .i64 16))).put (.int .u8 59) (.lit (.int .i64 17)))
set_option maxHeartbeats 4000000 in
set_option maxRecDepth 100000 in
theorem marks_calls {H : Type} (w : World) : Calls Tryd.prog 55 #[] w fun e w' => e = .returned (.map (some w.heap.size)) ∧ w'.ownsMap Tryd.prog 5 (plainElem (H := H) Tryd.prog 3) w.heap.size 9 marksD ∧ Below w.heap.size w w' := by
  have hmm := @run_makeMap Tryd.prog
  have o0 := World.ownsMap_made (H := H) w Tryd.prog 5 (plainElem Tryd.prog 3)
  have n0 : Below w.heap.size w (w.alloc (.map #[] 0)) := (Below.refl _ _).alloc (Nat.le_refl _) _
  obtain ⟨w1, r1, o1, g1⟩ := o0.update law5 Tryd.underlying78 (by unfold maxLen; omega) (key := .int .u8 40) (val := .int .i64 8) (kl := .int .u8 40) (d := .lit (.int .i64 8)) (ps := []) (keyOf_int_mk Tryd.underlying5 rfl) (plainElem_int Tryd.underlying3 rfl)
  have n1 := n0.grown g1 n0.size (fun j hj => by cases hj; exact Nat.le_refl _)
  obtain ⟨w2, r2, o2, g2⟩ := o1.update law5 Tryd.underlying78 (by unfold maxLen; omega) (key := .int .u8 41) (val := .int .i64 9) (kl := .int .u8 41) (d := .lit (.int .i64 9)) (ps := []) (keyOf_int_mk Tryd.underlying5 rfl) (plainElem_int Tryd.underlying3 rfl)
  have n2 := n1.grown g2 n1.size (fun j hj => by cases hj; exact Nat.le_refl _)
  obtain ⟨w3, r3, o3, g3⟩ := o2.update law5 Tryd.underlying78 (by unfold maxLen; omega) (key := .int .u8 91) (val := .int .i64 10) (kl := .int .u8 91) (d := .lit (.int .i64 10)) (ps := []) (keyOf_int_mk Tryd.underlying5 rfl) (plainElem_int Tryd.underlying3 rfl)
  have n3 := n2.grown g3 n2.size (fun j hj => by cases hj; exact Nat.le_refl _)
  obtain ⟨w4, r4, o4, g4⟩ := o3.update law5 Tryd.underlying78 (by unfold maxLen; omega) (key := .int .u8 93) (val := .int .i64 11) (kl := .int .u8 93) (d := .lit (.int .i64 11)) (ps := []) (keyOf_int_mk Tryd.underlying5 rfl) (plainElem_int Tryd.underlying3 rfl)
  have n4 := n3.grown g4 n3.size (fun j hj => by cases hj; exact Nat.le_refl _)
  obtain ⟨w5, r5, o5, g5⟩ := o4.update law5 Tryd.underlying78 (by unfold maxLen; omega) (key := .int .u8 124) (val := .int .i64 12) (kl := .int .u8 124) (d := .lit (.int .i64 12)) (ps := []) (keyOf_int_mk Tryd.underlying5 rfl) (plainElem_int Tryd.underlying3 rfl)
  have n5 := n4.grown g5 n4.size (fun j hj => by cases hj; exact Nat.le_refl _)
  obtain ⟨w6, r6, o6, g6⟩ := o5.update law5 Tryd.underlying78 (by unfold maxLen; omega) (key := .int .u8 58) (val := .int .i64 13) (kl := .int .u8 58) (d := .lit (.int .i64 13)) (ps := []) (keyOf_int_mk Tryd.underlying5 rfl) (plainElem_int Tryd.underlying3 rfl)
  have n6 := n5.grown g6 n5.size (fun j hj => by cases hj; exact Nat.le_refl _)
  obtain ⟨w7, r7, o7, g7⟩ := o6.update law5 Tryd.underlying78 (by unfold maxLen; omega) (key := .int .u8 94) (val := .int .i64 15) (kl := .int .u8 94) (d := .lit (.int .i64 15)) (ps := []) (keyOf_int_mk Tryd.underlying5 rfl) (plainElem_int Tryd.underlying3 rfl)
  have n7 := n6.grown g7 n6.size (fun j hj => by cases hj; exact Nat.le_refl _)
  obtain ⟨w8, r8, o8, g8⟩ := o7.update law5 Tryd.underlying78 (by unfold maxLen; omega) (key := .int .u8 46) (val := .int .i64 16) (kl := .int .u8 46) (d := .lit (.int .i64 16)) (ps := []) (keyOf_int_mk Tryd.underlying5 rfl) (plainElem_int Tryd.underlying3 rfl)
  have n8 := n7.grown g8 n7.size (fun j hj => by cases hj; exact Nat.le_refl _)
  obtain ⟨w9, r9, o9, g9⟩ := o8.update law5 Tryd.underlying78 (by unfold maxLen; omega) (key := .int .u8 59) (val := .int .i64 17) (kl := .int .u8 59) (d := .lit (.int .i64 17)) (ps := []) (keyOf_int_mk Tryd.underlying5 rfl) (plainElem_int Tryd.underlying3 rfl)
  have n9 := n8.grown g9 n8.size (fun j hj => by cases hj; exact Nat.le_refl _)
  have HO := Aside0.mk o9
  have HN := Aside0.mk n9
  clear g1 g2 g3 g4 g5 g6 g7 g8 g9 o9 n9 o8 n8 o7 n7 o6 n6 o5 n5 o4 n4 o3 n3 o2 n2 o1 n1 o0 n0
  go_enter Tryd.func55, Tryd.ntmps55
  go_wp2
  go_ret
  exact ⟨rfl, HO.out, HN.out⟩
theorem at_put {H : Type} (D : DataW H) (hD : IsMap D) (k v c : Int) (z : DataW H) (hk : WideAt.IsKeyLit (.int .u8 k)) : (D.put (.int .u8 k) (.lit (.int .i64 v))).atKey (.int .u8 c) z = if c = k then .lit (.int .i64 v) else D.atKey (.int .u8 c) z := by
  split
  · rename_i h; rw [h]; exact atKey_put_same hD hk _ _
  · rename_i h; exact atKey_put_other (by intro e; injection e with _ e; exact h e) _ _
theorem has_put {H : Type} (D : DataW H) (hD : IsMap D) (k v c : Int) (hk : WideAt.IsKeyLit (.int .u8 k)) : Maps.has (D.put (.int .u8 k) (.lit (.int .i64 v))) (.int .u8 c) = (decide (c = k) || Maps.has D (.int .u8 c)) := by
  by_cases h : c = k
  · rw [h, has_put_same hD hk]; simp
  · rw [has_put_other (by intro e; injection e with _ e; exact h e)]; simp [h]
theorem isMap_p {H : Type} {D : DataW H} (hD : IsMap D) (k : Lit) (d : DataW H) : IsMap (D.put k d) := by
  obtain ⟨es, rfl⟩ := hD
  exact ⟨_, rfl⟩
theorem key_lit (k : Int) : WideAt.IsKeyLit (.int .u8 k) := trivial
def marksL : List (Int × Int) := [(40, 8), (41, 9), (91, 10), (93, 11), (124, 12), (58, 13), (94, 15), (46, 16), (59, 17)]
def putAll {H : Type} : List (Int × Int) → DataW H → DataW H
  | [], D => D
  | p :: r, D => putAll r (D.put (.int .u8 p.1) (.lit (.int .i64 p.2)))
def lookI : List (Int × Int) → Int → Int → Int
  | [], _, z => z
  | p :: r, c, z => lookI r c (if c = p.1 then p.2 else z)
theorem put_all {H : Type} (c : Int) : ∀ (l : List (Int × Int)) (D : DataW H) (z : Int), IsMap D → D.atKey (.int .u8 c) (.lit (.int .i64 0)) = .lit (.int .i64 z) → Maps.has D (.int .u8 c) = (z != 0) → (∀ p ∈ l, p.2 ≠ 0) → (putAll l D).atKey (.int .u8 c) (.lit (.int .i64 0)) = .lit (.int .i64 (lookI l c z)) ∧ Maps.has (putAll l D) (.int .u8 c) = (lookI l c z != 0)
  | [], D, z, hD, h1, h2, _ => ⟨h1, h2⟩
  | p :: r, D, z, hD, h1, h2, h3 => by
    have hp := h3 p (by simp)
    refine put_all c r (D.put (.int .u8 p.1) (.lit (.int .i64 p.2))) (if c = p.1 then p.2 else z) (isMap_p hD _ _) ?_ ?_ (fun q hq => h3 q (by simp [hq]))
    · rw [at_put D hD p.1 p.2 c _ (key_lit _), h1]
      split <;> rfl
    · rw [has_put D hD p.1 p.2 c (key_lit _), h2]
      by_cases hc : c = p.1
      · simp [hc, hp]
      · simp [hc]
def markI (c : Int) : Int := lookI marksL c 0
theorem marks_all {H : Type} (c : Int) : (marksD (H := H)).atKey (.int .u8 c) (.lit (.int .i64 0)) = .lit (.int .i64 (markI c)) ∧ Maps.has (marksD (H := H)) (.int .u8 c) = (markI c != 0) :=
  put_all c marksL (DataW.map []) 0 ⟨[], rfl⟩ rfl rfl (by decide)
theorem markI_byte (c : UInt8) : markI (c.toNat : Int) = markKind c := by
  have key : ∀ c : Fin 256, markI ((c.val : Nat) : Int) = markKind (UInt8.ofNat c.val) := by decide +kernel
  have := key ⟨c.toNat, c.toNat_lt⟩
  rw [this]; simp
theorem wf_u8 (c : UInt8) : (Lit.int .u8 (c.toNat : Int)).wf = true := by
  have key : ∀ c : Fin 256, (Lit.int .u8 ((c.val : Nat) : Int)).wf = true := by decide +kernel
  exact key ⟨c.toNat, c.toNat_lt⟩
def cls (c : UInt8) : Int := if isL c then 1 else if isD c then 2 else if c = 35 then 3 else if c = 39 then 5 else if isG c then 4 else if markKind c = 0 then 0 else 6
theorem sign_byte (c : UInt8) : decide ((0 : Int) ≤ Lib.indexByte signL c) = isG c := by
  have key : ∀ c : Fin 256, decide ((0 : Int) ≤ Lib.indexByte signL (UInt8.ofNat c.val)) = isG (UInt8.ofNat c.val) := by decide +kernel
  have := key ⟨c.toNat, c.toNat_lt⟩
  simpa using this
set_option maxHeartbeats 4000000 in
set_option maxRecDepth 100000 in
theorem classOf_calls (c : UInt8) (w : World) : Calls Tryd.prog 46 #[.int .u8 (c.toNat : Int)] w fun e w' => e = .returned (.int .i64 (cls c)) ∧ Below w.heap.size w w' := by
  go_enter Tryd.func46, Tryd.ntmps46
  have hmod : c.toNat < 256 := c.toNat_lt
  have hw32 : wrap32 (c.toNat : Int) = c.toNat := by unfold wrap32; omega
  have hL := isLI_byte c
  have hD := isDI_byte c
  have hS := sign_byte c
  have hc : ((c.toNat : Nat) : Int).toNat.toUInt8 = c := by rw [Int.toNat_natCast]; simp
  have HC := Aside0.mk hc
  have h35 : ((c.toNat : Int) == 35) = decide (c = 35) := by
    by_cases h : c = 35
    · subst h; rfl
    · have h2 : c.toNat ≠ 35 := fun e => h (UInt8.toNat_inj.1 e)
      have h3 : ((c.toNat : Int) == 35) = false := by simp; omega
      rw [h3]; simp [h]
  have h39 : ((c.toNat : Int) == 39) = decide (c = 39) := by
    by_cases h : c = 39
    · subst h; rfl
    · have h2 : c.toNat ≠ 39 := fun e => h (UInt8.toNat_inj.1 e)
      have h3 : ((c.toNat : Int) == 39) = false := by simp; omega
      rw [h3]; simp [h]
  obtain ⟨a1, e1⟩ : ∃ a, isL c = a := ⟨_, rfl⟩
  obtain ⟨a2, e2⟩ : ∃ a, isD c = a := ⟨_, rfl⟩
  obtain ⟨a3, e3⟩ : ∃ a, decide (c = 35) = a := ⟨_, rfl⟩
  obtain ⟨a4, e4⟩ : ∃ a, decide (c = 39) = a := ⟨_, rfl⟩
  obtain ⟨a5, e5⟩ : ∃ a, isG c = a := ⟨_, rfl⟩
  have hM : markI (c.toNat : Int) = markKind c := markI_byte c
  obtain ⟨a6, e6⟩ : ∃ a, (markKind c != 0) = a := ⟨_, rfl⟩
  have hcls : cls c = if a1 then 1 else if a2 then 2 else if a3 then 3 else if a4 then 5 else if a5 then 4 else if a6 then 6 else 0 := by
    rw [← e1, ← e2, ← e3, ← e4, ← e5, ← e6]
    unfold cls
    by_cases g1 : isL c = true
    · simp [g1]
    · by_cases g2 : isD c = true
      · simp [g1, g2]
      · by_cases g3 : c = 35
        · simp [g3]
        · by_cases g4 : c = 39
          · simp [g4]
          · by_cases g5 : isG c = true
            · simp [g1, g2, g3, g4, g5]
            · by_cases g6 : markKind c = 0 <;> simp [g1, g2, g3, g4, g5, g6]
  rw [e1] at hL
  rw [e2] at hD
  rw [e3] at h35
  rw [e4] at h39
  rw [e5] at hS
  have HL := Aside0.mk hL
  have HD := Aside0.mk hD
  have hS2 : decide ((0 : Int) ≤ Lib.indexByte [43, 45, 42, 47, 92, 60, 62, 61, 126, 44, 37, 38, 63, 64] c) = a5 := hS
  have HCL := Aside0.mk hcls
  have HM := Aside0.mk ((marks_all (H := Unit) (c.toNat : Int)).2.trans (by rw [hM, e6]))
  have HKY := Aside0.mk (keyOf_int_mk Tryd.underlying5 (a := (c.toNat : Int)) (wf_u8 c))
  clear hL hD hS hc e1 e2 e3 e4 e5 e6 hM hcls
  rcases a1 with _ | _
  · rcases a2 with _ | _
    · rcases a3 with _ | _
      · rcases a4 with _ | _
        · rcases a5 with _ | _
          · rcases a6 with _ | _
            all_goals
              go_wp2_with (first
                | (go_at_call 47; refine (isLetter_calls _ _).mono ?_; rintro e w' ⟨rfl, ⟨nd, rfl⟩⟩; rw [HL.out])
                | (go_at_call 48; refine (isDigit_calls _ _).mono ?_; rintro e w' ⟨rfl, ⟨nd2, rfl⟩⟩; rw [HD.out])
                | (go_at_call 65; refine (Tryd.strings_IndexByte _ _ _).mono ?_; rintro e w' ⟨rfl, rfl⟩; rw [HC.out])
                | (go_at_call 55; refine (marks_calls (H := Unit) _).mono ?_; rintro e w1 ⟨rfl, hown, hb⟩; have HB := Aside0.mk hb; clear hb)
                | (at_lookup; refine wpList_lookup_own_ok_int _ rfl _ _ 78 rfl 5 3 .i64 law5 Tryd.underlying78 Tryd.underlying3 (zero3 _) _ 9 _ rfl hown _ _ rfl (by exact HKY.out) ?_; intro c2 hat hwc; rw [HM.out]))
              go_ret
              exact ⟨by rw [HCL.out]; rfl, Below.trans (⟨rfl, rfl, rfl, Nat.le_refl _, fun _ _ => rfl⟩ : Below w.heap.size w (w.drewN _)) HB.out⟩
          · go_wp2_with (first
                | (go_at_call 47; refine (isLetter_calls _ _).mono ?_; rintro e w' ⟨rfl, ⟨nd, rfl⟩⟩; rw [HL.out])
                | (go_at_call 48; refine (isDigit_calls _ _).mono ?_; rintro e w' ⟨rfl, ⟨nd2, rfl⟩⟩; rw [HD.out])
                | (go_at_call 65; refine (Tryd.strings_IndexByte _ _ _).mono ?_; rintro e w' ⟨rfl, rfl⟩; rw [HC.out]))
            go_ret
            exact ⟨by rw [HCL.out]; rfl, ⟨rfl, rfl, rfl, Nat.le_refl _, fun _ _ => rfl⟩⟩
        · go_wp2_with (first
                | (go_at_call 47; refine (isLetter_calls _ _).mono ?_; rintro e w' ⟨rfl, ⟨nd, rfl⟩⟩; rw [HL.out])
                | (go_at_call 48; refine (isDigit_calls _ _).mono ?_; rintro e w' ⟨rfl, ⟨nd2, rfl⟩⟩; rw [HD.out]))
          go_ret
          exact ⟨by rw [HCL.out]; rfl, ⟨rfl, rfl, rfl, Nat.le_refl _, fun _ _ => rfl⟩⟩
      · go_wp2_with (first
                | (go_at_call 47; refine (isLetter_calls _ _).mono ?_; rintro e w' ⟨rfl, ⟨nd, rfl⟩⟩; rw [HL.out])
                | (go_at_call 48; refine (isDigit_calls _ _).mono ?_; rintro e w' ⟨rfl, ⟨nd2, rfl⟩⟩; rw [HD.out]))
        go_ret
        exact ⟨by rw [HCL.out]; rfl, ⟨rfl, rfl, rfl, Nat.le_refl _, fun _ _ => rfl⟩⟩
    · go_wp2_with (first
                | (go_at_call 47; refine (isLetter_calls _ _).mono ?_; rintro e w' ⟨rfl, ⟨nd, rfl⟩⟩; rw [HL.out])
                | (go_at_call 48; refine (isDigit_calls _ _).mono ?_; rintro e w' ⟨rfl, ⟨nd2, rfl⟩⟩; rw [HD.out]))
      go_ret
      exact ⟨by rw [HCL.out]; rfl, ⟨rfl, rfl, rfl, Nat.le_refl _, fun _ _ => rfl⟩⟩
  · go_wp2_with (first
                | (go_at_call 47; refine (isLetter_calls _ _).mono ?_; rintro e w' ⟨rfl, ⟨nd, rfl⟩⟩; rw [HL.out]))
    go_ret
    exact ⟨by rw [HCL.out]; rfl, ⟨rfl, rfl, rfl, Nat.le_refl _, fun _ _ => rfl⟩⟩
end Go.Proofs.YtjibdaigclgmhaaDoor.LexW
