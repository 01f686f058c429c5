/- The program's reading of tokens, walked: each function's answer in plain words. Conditions: those that each theorem states. -/
import Derived.Test.YtjibdaigclgmhaaDoorLexG
import Derived.Test.YtjibdaigclgmhaaDoorPLexTokensx6
namespace Go.Proofs.YtjibdaigclgmhaaDoor.LexW
open Go.RowKit Go.Maps Go.Proofs.YtjibdaigclgmhaaDoor.Lex Go.Proofs.YtjibdaigclgmhaaDoor.PLexTokens Go.Proofs.YtjibdaigclgmhaaDoorW.PrintWords Go.Proofs.YtjibdaigclgmhaaDoorW.PrintLast Go.Proofs.YtjibdaigclgmhaaDoorW.PrintMore
attribute [local go_sem] max2_int min2_int max_two min_two max_three min_three max_four min_four
set_option linter.unusedVariables false
set_option linter.unusedSimpArgs false
def reservedB : List ByteArray := [(⟨#[115, 101, 108, 102]⟩ : ByteArray), (⟨#[115, 117, 112, 101, 114]⟩ : ByteArray), (⟨#[110, 105, 108]⟩ : ByteArray), (⟨#[116, 114, 117, 101]⟩ : ByteArray), (⟨#[102, 97, 108, 115, 101]⟩ : ByteArray)]
theorem bl_inj {a b : ByteArray} (h : bl a = bl b) : a = b := by
  apply ByteArray.ext
  exact Array.toList_inj.1 h
theorem reserved_mem (s : ByteArray) : s ∈ reservedB ↔ bl s ∈ reservedL := by
  have e : reservedL = reservedB.map bl := rfl
  rw [e, List.mem_map]
  constructor
  · intro h; exact ⟨s, h, rfl⟩
  · rintro ⟨t, h1, h2⟩; rw [← bl_inj h2]; exact h1
theorem reserved_calls (s : ByteArray) (w : World) (v : Value) (hR : Kd.R Kd.string 9 w w.heap.size (fun _ => True) v reservedB) : True := trivial
theorem contains_calls (s : ByteArray) (base : Nat) (w : World) (v : Value) (hR : Kd.R Kd.string 9 w base (fun _ => True) v reservedB) : Calls Tryd.prog 38 #[v, .string s] w fun e w' => e = .returned (.bool (decide (bl s ∈ reservedL))) ∧ w' = w := by
  obtain ⟨g, c, rfl, _, _, _⟩ := Kd.R_form hR (by decide)
  obtain ⟨_, _, hC⟩ := Kd.R_reads' hR
  have hcells : ∀ j, j < reservedB.length → w.cell? ⟨g, 0 + j, none⟩ = some (.string (reservedB.getD j ByteArray.empty)) := by
    intro j hj
    obtain ⟨ad, e, hc⟩ := Kd.at_string hC (j : Int) (by omega) (by omega)
    cases e
    rw [Int.toNat_natCast, add_plain] at hc
    rw [Nat.zero_add, hc]
    unfold rdOf
    rw [Int.toNat_natCast]
  have h := Tryd.slices_Contains_string g 0 reservedB.length c reservedB s w (Nat.le_refl _) (by decide) hcells
  rw [List.take_length] at h
  have e : Lib.containsS reservedB s = decide (bl s ∈ reservedL) := by
    rw [Bool.eq_iff_iff, decide_eq_true_iff, ← reserved_mem]
    exact Lib.containsS_iff _ _
  rw [e] at h
  exact h
set_option maxHeartbeats 2000000 in
set_option maxRecDepth 100000 in
theorem variable_calls (s : ByteArray) (w : World) : Calls Tryd.prog 19 #[.string s] w fun e w' => e = .returned (.int .i64 (varCode (bl s))) ∧ Below w.heap.size w w' := by
  have hne : s.toList.isEmpty = decide (bl s = []) := by
    rw [isEmpty_bl]
    cases h : bl s <;> simp
  have hnc := nameLen_calls s
  obtain ⟨n, hn⟩ : ∃ n, nameLen (bl s) = n := ⟨_, rfl⟩
  have hq : ((n : Int) != (s.size : Int)) = decide (nameLen (bl s) ≠ (bl s).length) := by
    rw [hn, bl_len]
    by_cases h : n = s.size
    · subst h; simp
    · have h2 : ((n : Int) != (s.size : Int)) = true := by simp; omega
      rw [h2]; simp [h]
  have hcc := fun (W : World) (v : Value) (hR : Kd.R Kd.string 9 W w.heap.size (fun _ => True) v reservedB) => contains_calls s w.heap.size W v hR
  obtain ⟨a, ha⟩ : ∃ a, decide (bl s ∈ reservedL) = a := ⟨_, rfl⟩
  obtain ⟨b, hb⟩ : ∃ a, decide (bl s = []) = a := ⟨_, rfl⟩
  obtain ⟨c, hc⟩ : ∃ a, decide (nameLen (bl s) ≠ (bl s).length) = a := ⟨_, rfl⟩
  have hv : varCode (bl s) = if a then 78 else if b then 1 else if c then 1 else 0 := by
    unfold varCode
    by_cases h1 : bl s ∈ reservedL
    · rw [if_pos h1, ← ha]; simp [h1]
    · rw [if_neg h1, ← ha, ← hb, ← hc]
      by_cases h2 : bl s = []
      · have h4 : decide (bl s ∈ reservedL) = false := decide_eq_false h1
        have h5 : decide (bl s = []) = true := decide_eq_true h2
        rw [h4, h5, if_pos (.inl h2)]; rfl
      · by_cases h3 : nameLen (bl s) = (bl s).length
        · simp [h1, h2, h3]
        · simp [h1, h2, h3]
  rw [hn] at hnc
  rw [ha] at hcc
  rw [hb] at hne
  rw [hc] at hq
  have HV := Aside0.mk hv
  have HCC := Aside0.mk hcc
  have HNC := Aside0.mk hnc
  clear hv hcc hnc ha hb hc hn
  have HW := Aside0.mk (Below.refl w.heap.size w)
  rcases a with _ | _
  · rcases b with _ | _
    · rcases c with _ | _
      all_goals
        go_enter Tryd.func19, Tryd.ntmps19
        go_wp2_with (first
          | (go_at_call 39; refine (lex_reserved.calls _ _ rfl).mono ?_; rintro e w1 ⟨v, rfl, hR, hb⟩; replace HW := Aside0.mk (below_then HW.out HW.out.size hb); have HR := Aside0.mk hR; clear hR hb)
          | (go_at_call 38; refine (HCC.out _ _ HR.out).mono ?_; rintro e w' ⟨rfl, rfl⟩)
          | (go_at_call 31; refine (HNC.out _).mono ?_; rintro e w2 ⟨rfl, hb⟩; replace HW := Aside0.mk (below_then HW.out HW.out.size hb); clear hb))
        go_ret
        exact ⟨by rw [HV.out]; rfl, HW.out⟩
    · go_enter Tryd.func19, Tryd.ntmps19
      go_wp2_with (first
          | (go_at_call 39; refine (lex_reserved.calls _ _ rfl).mono ?_; rintro e w1 ⟨v, rfl, hR, hb⟩; replace HW := Aside0.mk (below_then HW.out HW.out.size hb); have HR := Aside0.mk hR; clear hR hb)
          | (go_at_call 38; refine (HCC.out _ _ HR.out).mono ?_; rintro e w' ⟨rfl, rfl⟩))
      go_ret
      exact ⟨by rw [HV.out]; rfl, HW.out⟩
  · go_enter Tryd.func19, Tryd.ntmps19
    go_wp2_with (first
          | (go_at_call 39; refine (lex_reserved.calls _ _ rfl).mono ?_; rintro e w1 ⟨v, rfl, hR, hb⟩; replace HW := Aside0.mk (below_then HW.out HW.out.size hb); have HR := Aside0.mk hR; clear hR hb)
          | (go_at_call 38; refine (HCC.out _ _ HR.out).mono ?_; rintro e w' ⟨rfl, rfl⟩))
    go_ret
    exact ⟨by rw [HV.out]; rfl, HW.out⟩
def selR (K : List UInt8) : Option Nat := selLoop (K.length + 1) K
theorem selLoop_fuel : ∀ (f : Nat) (K : List UInt8) (f' : Nat), K.length < f → K.length < f' → selLoop f K = selLoop f' K := by
  intro f
  induction f with
  | zero => intro K f' h; omega
  | succ f ih =>
    intro K f' h h'
    obtain ⟨f', rfl⟩ : ∃ g, f' = g + 1 := ⟨f' - 1, by omega⟩
    rw [selLoop, selLoop]
    split
    · rfl
    · split
      · rfl
      · rename_i h1 _
        have : 0 < K.length := by cases K with | nil => exact absurd rfl h1 | cons c r => simp
        rw [ih (K.drop (nameLen K + 1)) f' (by rw [List.length_drop]; omega) (by rw [List.length_drop]; omega)]
theorem selR_step (K : List UInt8) (hK : K ≠ []) : selR K = if nameLen K = 0 ∨ headS K = false ∨ K[nameLen K]? ≠ some 58 then none else (selR (K.drop (nameLen K + 1))).map (· + 1) := by
  have : 0 < K.length := by cases K with | nil => exact absurd rfl hK | cons c r => simp
  rw [selR, selLoop, if_neg hK]
  split
  · rfl
  · rw [selR, selLoop_fuel K.length (K.drop (nameLen K + 1)) ((K.drop (nameLen K + 1)).length + 1) (by rw [List.length_drop]; omega) (Nat.lt_succ_self _)]
theorem small_byte (c : UInt8) : (decide ((97 : Int) ≤ (c.toNat : Int)) && decide ((c.toNat : Int) ≤ 122)) = isS c := by
  have key : ∀ c : Fin 256, (decide ((97 : Int) ≤ ((c.val : Nat) : Int)) && decide (((c.val : Nat) : Int) ≤ 122)) = isS (UInt8.ofNat c.val) := by decide +kernel
  have := key ⟨c.toNat, c.toNat_lt⟩
  simpa using this
theorem small_calls (c : UInt8) (w : World) : Calls Tryd.prog 30 #[.int .i32 (c.toNat : Int)] w fun e w' => e = .returned (.bool (isS c)) ∧ Below w.heap.size w w' := by
  have h := isSmall_calls (c.toNat : Int) w
  rw [small_byte] at h
  exact h.mono fun e w' hh => ⟨hh.1, by obtain ⟨nd, rfl⟩ := hh.2; exact ⟨rfl, rfl, rfl, Nat.le_refl _, fun _ _ => rfl⟩⟩
theorem headS_at (s : ByteArray) (h0 : 0 < s.size) : headS (bl s) = isS (s[0]'h0) := by rw [bl_cons s h0]; rfl
def SelA (o : Option Nat) (e : Ending) : Prop :=
  match o with
  | some n => e = .returned (.tuple #[.int .i64 (n : Int), .int .i64 0])
  | none => e = .returned (.tuple #[.int .i64 0, .int .i64 1])
set_option maxHeartbeats 2000000 in
set_option maxRecDepth 100000 in
/-- a selector that is no operator: from the test of the empty text on -/
theorem selector_a (s : ByteArray) (hs : s.size ≤ 281474976710656) (g : Nat) (hg : signsLen (bl s) = g) (hng : ¬ (0 < g ∧ g = s.size)) (hv : varCode (bl s) = 0 ∧ headS (bl s) = true) (h0 : 0 < s.size) (w : World) : Calls Tryd.prog 17 #[.string s] w fun e w' => SelA (some 0) e ∧ Below w.heap.size w w' := by
  have hsg := signsLen_calls s
  rw [hg] at hsg
  have hvc := variable_calls s
  rw [hv.1] at hvc
  have hsm := small_calls (s[0]'h0)
  rw [← headS_at s h0, hv.2] at hsm
  have hw32 : wrap32 ((s[0]'h0).toNat : Int) = ((s[0]'h0).toNat : Int) := by have := (s[0]'h0).toNat_lt; unfold wrap32; omega
  have hne : s.toList.isEmpty = false := by rw [isEmpty_bl, bl_cons s h0]; rfl
  have HSG := Aside0.mk hsg
  have HVC := Aside0.mk hvc
  have HSM := Aside0.mk hsm
  have HW := Aside0.mk (Below.refl w.heap.size w)
  clear hsg hvc hsm hv hg
  by_cases h1 : 0 < g
  · have b1 : decide ((0 : Int) < (g : Int)) = true := by simp; omega
    have b2 : ((g : Int) == (s.size : Int)) = false := by simp; omega
    go_enter Tryd.func17, Tryd.ntmps17
    go_wp2_with (first
      | (go_at_call 29; refine (HSG.out _).mono ?_; rintro e w1 ⟨rfl, hb⟩; replace HW := Aside0.mk (below_then HW.out HW.out.size hb); clear hb)
      | (go_at_call 19; refine (HVC.out _).mono ?_; rintro e w1 ⟨rfl, hb⟩; replace HW := Aside0.mk (below_then HW.out HW.out.size hb); clear hb)
      | (go_at_call 30; refine (HSM.out _).mono ?_; rintro e w1 ⟨rfl, hb⟩; replace HW := Aside0.mk (below_then HW.out HW.out.size hb); clear hb))
    go_ret2
    exact ⟨rfl, HW.out⟩
  · obtain rfl : g = 0 := by omega
    go_enter Tryd.func17, Tryd.ntmps17
    go_wp2_with (first
      | (go_at_call 29; refine (HSG.out _).mono ?_; rintro e w1 ⟨rfl, hb⟩; replace HW := Aside0.mk (below_then HW.out HW.out.size hb); clear hb)
      | (go_at_call 19; refine (HVC.out _).mono ?_; rintro e w1 ⟨rfl, hb⟩; replace HW := Aside0.mk (below_then HW.out HW.out.size hb); clear hb)
      | (go_at_call 30; refine (HSM.out _).mono ?_; rintro e w1 ⟨rfl, hb⟩; replace HW := Aside0.mk (below_then HW.out HW.out.size hb); clear hb))
    go_ret2
    exact ⟨rfl, HW.out⟩
set_option maxHeartbeats 2000000 in
set_option maxRecDepth 100000 in
theorem selector_c (s : ByteArray) (hg : 0 < signsLen (bl s) ∧ signsLen (bl s) = s.size) (w : World) : Calls Tryd.prog 17 #[.string s] w fun e w' => SelA (some 1) e ∧ Below w.heap.size w w' := by
  have hsg := signsLen_calls s
  rw [hg.2] at hsg
  have h0 : 0 < s.size := by omega
  have b1 : decide ((0 : Int) < (s.size : Int)) = true := by simp; omega
  have HSG := Aside0.mk hsg
  have HW := Aside0.mk (Below.refl w.heap.size w)
  clear hsg hg
  go_enter Tryd.func17, Tryd.ntmps17
  go_wp2_with (go_at_call 29; refine (HSG.out _).mono ?_; rintro e w1 ⟨rfl, hb⟩; replace HW := Aside0.mk (below_then HW.out HW.out.size hb); clear hb)
  go_ret2
  exact ⟨rfl, HW.out⟩
set_option maxHeartbeats 2000000 in
set_option maxRecDepth 100000 in
theorem selector_d (s : ByteArray) (h0 : s.size = 0) (w : World) : Calls Tryd.prog 17 #[.string s] w fun e w' => SelA none e ∧ Below w.heap.size w w' := by
  have hl : bl s = [] := List.eq_nil_of_length_eq_zero (by rw [bl_len]; exact h0)
  have hsg := signsLen_calls s
  rw [hl] at hsg
  have hne : s.toList.isEmpty = true := by rw [isEmpty_bl, hl]; rfl
  have HSG := Aside0.mk hsg
  have HW := Aside0.mk (Below.refl w.heap.size w)
  clear hsg hl
  go_enter Tryd.func17, Tryd.ntmps17
  go_wp2_with (go_at_call 29; refine (HSG.out _).mono ?_; rintro e w1 ⟨rfl, hb⟩; replace HW := Aside0.mk (below_then HW.out HW.out.size hb); clear hb)
  go_ret2
  exact ⟨rfl, HW.out⟩
set_option maxHeartbeats 4000000 in
set_option maxRecDepth 100000 in
theorem selector_b (s : ByteArray) (hs : s.size ≤ 281474976710656) (g : Nat) (hg : signsLen (bl s) = g) (hng : ¬ (0 < g ∧ g = s.size)) (vc : Int) (hvcq : varCode (bl s) = vc) (hb : Bool) (hhb : headS (bl s) = hb) (hv : ¬ (vc = 0 ∧ hb = true)) (h0 : 0 < s.size) (w : World) : Calls Tryd.prog 17 #[.string s] w fun e w' => SelA (selR (bl s)) e ∧ Below w.heap.size w w' := by
  have hsg := signsLen_calls s
  rw [hg] at hsg
  have hvc := variable_calls s
  rw [hvcq] at hvc
  have hsm := small_calls (s[0]'h0)
  rw [← headS_at s h0, hhb] at hsm
  have hw32 : wrap32 ((s[0]'h0).toNat : Int) = ((s[0]'h0).toNat : Int) := by have := (s[0]'h0).toNat_lt; unfold wrap32; omega
  have hne : s.toList.isEmpty = false := by rw [isEmpty_bl, bl_cons s h0]; rfl
  obtain ⟨TT, hTT⟩ : ∃ T, selR (bl s) = T := ⟨_, rfl⟩
  have HT0 : Aside0 (TT = (selR (bl s)).map (· + 0)) := ⟨by rw [hTT]; cases TT <;> rfl⟩
  rw [hTT]
  have HSG := Aside0.mk hsg
  have HVC := Aside0.mk hvc
  have HSM := Aside0.mk hsm
  have HW := Aside0.mk (Below.refl w.heap.size w)
  have key : g = 0 ∨ (0 < g ∧ ((g : Int) == (s.size : Int)) = false ∧ decide ((0 : Int) < (g : Int)) = true) := by
    by_cases h1 : 0 < g
    · exact .inr ⟨h1, by simp; omega, by simp; omega⟩
    · exact .inl (by omega)
  have kz : (vc == 0) = false ∨ ((vc == 0) = true ∧ hb = false) := by
    by_cases h1 : vc = 0
    · refine .inr ⟨by simpa using h1, ?_⟩
      cases hb with
      | false => rfl
      | true => exact absurd ⟨h1, rfl⟩ hv
    · exact .inl (by simpa using h1)
  clear hsg hvc hsm hv hg hhb hvcq hTT hng
  rcases key with rfl | ⟨h1, b2, b1⟩ <;> rcases kz with hz | ⟨hz, rfl⟩
  all_goals
    go_enter Tryd.func17, Tryd.ntmps17
    go_wp2_with (first
      | (go_at_call 29; refine (HSG.out _).mono ?_; rintro e w1 ⟨rfl, hb⟩; replace HW := Aside0.mk (below_then HW.out HW.out.size hb); clear hb)
      | (go_at_call 19; refine (HVC.out _).mono ?_; rintro e w1 ⟨rfl, hb⟩; replace HW := Aside0.mk (below_then HW.out HW.out.size hb); clear hb)
      | (go_at_call 30; refine (HSM.out _).mono ?_; rintro e w1 ⟨rfl, hb⟩; replace HW := Aside0.mk (below_then HW.out HW.out.size hb); clear hb))
    have HW0 := HW
    clear HW hne hw32 HSG HVC HSM
    go_loopw [0, 5] (fun v0 v5 wr => ∃ (q : ByteArray) (a : Nat), v0 = .string q ∧ v5 = .int .i64 (a : Int) ∧ q.size + a ≤ s.size ∧ Aside0 (TT = (selR (bl q)).map (· + a)) ∧ Aside0 (Below w.heap.size w wr)) (fun v0 _ _ => match v0 with | .string q => q.size | _ => 0)
    case atStart => exact ⟨s, 0, rfl, rfl, by omega, HT0, HW0⟩
    case round =>
      clear HT0 HW0
      obtain ⟨q, a, rfl, rfl, hqa, HT, HW⟩ := hrel
      by_cases hq0 : 0 < q.size
      · have hne : q.toList.isEmpty = false := by rw [isEmpty_bl, bl_cons q hq0]; rfl
        have hqn : bl q ≠ [] := by rw [bl_cons q hq0]; simp
        have hnc := nameLen_calls q
        have hnl := nameLen_le (bl q)
        have hst := selR_step (bl q) hqn
        have hh := headS_at q hq0
        obtain ⟨n, hn⟩ : ∃ n, nameLen (bl q) = n := ⟨_, rfl⟩
        rw [hn] at hnc hst hnl
        rw [bl_len] at hnl
        have hsm := small_calls (q[0]'hq0)
        rw [← hh] at hsm
        have hw32 : wrap32 ((q[0]'hq0).toNat : Int) = ((q[0]'hq0).toNat : Int) := by have := (q[0]'hq0).toNat_lt; unfold wrap32; omega
        have hpx : Lib.hasPrefix (bl (q.extract n q.size)) [58] = ((bl q)[n]? == some 58) := by rw [hasP1, bl_from, List.getElem?_drop]; rfl
        obtain ⟨hb, hhb⟩ : ∃ b, headS (bl q) = b := ⟨_, rfl⟩
        obtain ⟨cb, hcb⟩ : ∃ b, ((bl q)[n]? == some 58) = b := ⟨_, rfl⟩
        rw [hhb] at hsm
        rw [hcb] at hpx
        have HST := Aside0.mk hst
        have HNC := Aside0.mk hnc
        have HSM := Aside0.mk hsm
        have HPX := Aside0.mk hpx
        have HCB := Aside0.mk hcb
        have HHB := Aside0.mk hhb
        clear hst hnc hsm hpx hcb hhb hh hn hqn
        by_cases hn0 : n = 0
        · subst hn0
          go_wp2_with (go_at_call 31; refine (HNC.out _).mono ?_; rintro e w2 ⟨rfl, hb⟩; replace HW := Aside0.mk (below_then HW.out HW.out.size hb); clear hb)
          go_ret2
          refine ⟨?_, HW.out⟩
          rw [HT.out, HST.out, if_pos (.inl (by trivial))]
          rfl
        · have hzn : ((n : Int) == 0) = false := by simpa using hn0
          rcases hb with _ | _
          · go_wp2_with (first
              | (go_at_call 31; refine (HNC.out _).mono ?_; rintro e w2 ⟨rfl, hb⟩; replace HW := Aside0.mk (below_then HW.out HW.out.size hb); clear hb)
              | (go_at_call 30; refine (HSM.out _).mono ?_; rintro e w2 ⟨rfl, hb⟩; replace HW := Aside0.mk (below_then HW.out HW.out.size hb); clear hb))
            go_ret2
            refine ⟨?_, HW.out⟩
            rw [HT.out, HST.out, if_pos (.inr (.inl HHB.out))]
            rfl
          · rcases cb with _ | _
            · go_wp2_with (first
                | (go_at_call 31; refine (HNC.out _).mono ?_; rintro e w2 ⟨rfl, hb⟩; replace HW := Aside0.mk (below_then HW.out HW.out.size hb); clear hb)
                | (go_at_call 30; refine (HSM.out _).mono ?_; rintro e w2 ⟨rfl, hb⟩; replace HW := Aside0.mk (below_then HW.out HW.out.size hb); clear hb)
                | (go_at_call 32; refine (Tryd.strings_HasPrefix _ _ _).mono ?_; rintro e w' ⟨rfl, rfl⟩; rw [show Lib.hasPrefix _ _ = _ from HPX.out]))
              go_ret2
              refine ⟨?_, HW.out⟩
              have hne58 : (bl q)[n]? ≠ some 58 := by have := HCB.out; simpa using this
              rw [HT.out, HST.out, if_pos (.inr (.inr hne58))]
              rfl
            · have h58 : (bl q)[n]? = some 58 := by have := HCB.out; simpa using this
              have hlt : n < q.size := by have := (List.getElem?_eq_some_iff.1 h58).1; rw [bl_len] at this; exact this
              have H58 := Aside0.mk h58
              clear h58
              have hw1 : wrap64 ((n : Int) + 1) = (n : Int) + 1 := by unfold wrap64; omega
              have hw2 : wrap64 ((a : Int) + 1) = (a : Int) + 1 := by unfold wrap64; omega
              have hi1 : (n : Int) + 1 ≤ (q.size : Int) := by omega
              have hi2 : n + 1 ≤ q.size := by omega
              go_wp2_with (first
                | (go_at_call 31; refine (HNC.out _).mono ?_; rintro e w2 ⟨rfl, hb⟩; replace HW := Aside0.mk (below_then HW.out HW.out.size hb); clear hb)
                | (go_at_call 30; refine (HSM.out _).mono ?_; rintro e w2 ⟨rfl, hb⟩; replace HW := Aside0.mk (below_then HW.out HW.out.size hb); clear hb)
                | (go_at_call 32; refine (Tryd.strings_HasPrefix _ _ _).mono ?_; rintro e w' ⟨rfl, rfl⟩; rw [show Lib.hasPrefix _ _ = _ from HPX.out]))
              have hxl : (q.extract (n + 1) q.size).size = q.size - (n + 1) := by rw [← bl_len, bl_from, List.length_drop, bl_len]
              go_roundw
              case rel =>
                refine ⟨q.extract (n + 1) q.size, a + 1, rfl, by go_num, by omega, ⟨?_⟩, HW⟩
                rw [HT.out, HST.out, if_neg (by simp [hn0, HHB.out, H58.out]), bl_from, Option.map_map]
                congr 1
                funext x
                simp only [Function.comp]
                omega
              case measure => show (q.extract (n + 1) q.size).size < q.size; omega
      · have hne : q.toList.isEmpty = true := by
          rw [isEmpty_bl, List.isEmpty_iff]; exact List.eq_nil_of_length_eq_zero (by rw [bl_len]; omega)
        have hqn : bl q = [] := List.eq_nil_of_length_eq_zero (by rw [bl_len]; omega)
        have HQN := Aside0.mk hqn
        clear hqn
        go_wp2_with fail
        go_ret2
        refine ⟨?_, HW.out⟩
        rw [HT.out, HQN.out]
        show _ = _
        simp [selR, selLoop]
theorem selector_calls (s : ByteArray) (hs : s.size ≤ 281474976710656) (w : World) : Calls Tryd.prog 17 #[.string s] w fun e w' => SelA (selector (bl s)) e ∧ Below w.heap.size w w' := by
  unfold selector
  rw [bl_len]
  split
  · rename_i h; exact selector_c s h w
  · rename_i hng
    split
    · rename_i h
      exact selector_d s (by rw [← bl_len, h]; rfl) w
    · rename_i hne
      have h0 : 0 < s.size := by
        rw [← bl_len]
        cases h : bl s with
        | nil => exact absurd h hne
        | cons c r => simp
      split
      · rename_i hv; exact selector_a s hs _ rfl hng hv h0 w
      · rename_i hv
        have := selector_b s hs _ rfl hng _ rfl _ rfl hv h0 w
        rw [selR, bl_len] at this
        exact this
end Go.Proofs.YtjibdaigclgmhaaDoor.LexW
