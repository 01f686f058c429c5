/- The walk of SymbolLoads: what the law computes over any two lists of texts and any number; the lists' lengths within the reach of memory. -/
import Derived.Test.YtcnjdgafemgaeaaSymRef
import Derived.Outline
import Derived.SizedLaws
namespace Go.Proofs.Ytcnjdgafemgaeaa.Sym
open Go.RowKit Go.Maps Go.WideMaps Go.Proofs.Ytcnjdgafemgaeaa.PSymbolFirst Go.Proofs.YtcnjdgafemgaeaaW.PrintWords Go.Proofs.YtcnjdgafemgaeaaW.PrintLast Go.Proofs.YtcnjdgafemgaeaaW.PrintMore
attribute [local go_sem] max2_int min2_int max_two min_two max_three min_three max_four min_four
set_option linter.unusedVariables false
set_option linter.unusedSimpArgs false
theorem texts_loop (l : List ByteArray) (hb : l.length ≤ 8796093022208) (d : Nat) : ∀ (k i : Nat), i ≤ l.length → l.length - i = d → PSymbolLoads.kilnlaw6_texts.l0 (d + 1 + k) l (l.take i) (i : Int) = some l := by
  induction d with
  | zero =>
    intro k i hi hd
    rw [show 0 + 1 + k = k + 1 by omega]
    simp only [PSymbolLoads.kilnlaw6_texts.l0]
    rw [if_neg (by omega), List.take_of_length_le (by omega)]
  | succ d ih =>
    intro k i hi hd
    rw [show d + 1 + 1 + k = (d + 1 + k) + 1 by omega]
    simp only [PSymbolLoads.kilnlaw6_texts.l0]
    rw [if_pos (by omega), if_pos (by omega), if_pos (by rw [List.length_take]; omega), ← take_snoc l i (by omega), show wrap64 ((i : Int) + 1) = ((i + 1 : Nat) : Int) by unfold wrap64; omega]
    exact ih k (i + 1) (by omega) (by omega)
theorem texts_calls (w : World) (A : Option Addr) (n c : Nat) (l : List ByteArray) (hn : l.length = n) (hb : l.length ≤ 8796093022208) (hC : Kd.C Kd.string w A l.length l) (hc : l.length ≤ c) :
    Calls Try.prog 35 #[.slice A n c] w fun e w' => ∃ v, e = .returned v ∧ Kd.R Kd.string 9 w' w.heap.size (fun _ => True) v l ∧ Below w.heap.size w w' := by
  subst hn
  exact PSymbolLoads.kilnlaw6_texts.calls _ A c l l w hC hc (texts_loop l hb l.length 0 0 (by omega) (by omega))
theorem Pair.nil {B : Nat} {w wr : World} {x y : Option Addr} {st : St} {ok1 ok2 : Nat → Prop} (h : Pair B w x y st st ok1 ok2 wr) : x.isNone = y.isNone := by
  cases st with
  | none => rw [show x = none from h.t, show y = none from h.r]
  | some p => obtain ⟨g, rfl, _⟩ := h.t; obtain ⟨g', rfl, _⟩ := h.r; rfl
theorem same_n (w : World) (A1 A2 : Option Addr) (n1 n2 c1 c2 : Nat) (l : List ByteArray) (h1 : l.length = n1) (h2 : l.length = n2) (hC1 : Kd.C Kd.string w A1 l.length l) (k1 : l.length ≤ c1) (hC2 : Kd.C Kd.string w A2 l.length l) (k2 : l.length ≤ c2) :
    Calls Try.prog 39 #[.slice A1 n1 c1, .slice A2 n2 c2] w fun e w' => e = .returned (.bool true) ∧ Drawn0 w w' := by
  subst h1; subst h2
  exact same_calls w A1 A2 c1 c2 l hC1 k1 hC2 k2
theorem Pair.weaken {B : Nat} {w0 w wr : World} {x y : Option Addr} {s1 s2 : St} {ok1 ok2 : Nat → Prop} (h : Pair B w x y s1 s2 ok1 ok2 wr) (hb : Below w0.heap.size w0 w) (hB : w0.heap.size ≤ B) (hB2 : B = w.heap.size) : Pair w0.heap.size w0 x y s1 s2 ok1 ok2 wr :=
  ⟨h.t, h.r, fun i hi => ⟨Nat.le_trans hB (h.own1 i hi).1, (h.own1 i hi).2⟩, fun i hi => ⟨Nat.le_trans hB (h.own2 i hi).1, (h.own2 i hi).2⟩, h.apart, below_then hb hb.size (by subst hB2; exact h.below)⟩
theorem Pair.make2 {w w1 w2 : World} {x y : Option Addr} {s1 s2 : St} (hr : PRNew w y s2 w1) (ht : PTNew w1 x s1 w2) : ∃ ok1 ok2, Pair w.heap.size w x y s1 s2 ok1 ok2 w2 := by
  obtain ⟨o1, T0, h1, b1⟩ := ht
  obtain ⟨o2, R0, h2, b2⟩ := hr
  obtain ⟨ok1, k1, T⟩ := T0.nowhere
  obtain ⟨ok2, k2, R⟩ := R0.nowhere
  refine ⟨ok1, ok2, T, R.move b1.size (fun i hi => b1.block i (k2 i hi).2), fun i hi => ⟨Nat.le_trans b2.size (h1 i (k1 i hi).1), (k1 i hi).2⟩, fun i hi => ⟨h2 i (k2 i hi).1, Nat.lt_of_lt_of_le (k2 i hi).2 b1.size⟩, fun i hi hj => ?_, below_then b2 b2.size b1⟩
  have := (k2 i hj).2
  have := h1 i (k1 i hi).1
  omega
theorem take_C {w : World} {A : Option Addr} {n k : Nat} {ys : List ByteArray} (h : Kd.C Kd.string w A ys.length ys) (hn : ys.length = n) (hk : k ≤ n) : Kd.C Kd.string w A (ys.take k).length (ys.take k) ∧ (ys.take k).length = k :=
  ⟨Kd.C_take h (by omega), by rw [List.length_take]; omega⟩
/-- 64 texts "#" behind a list -/
def padF (l : List ByteArray) (k : Nat) : List ByteArray := l ++ List.replicate k ⟨#[35]⟩
theorem padF_snoc (l : List ByteArray) (k : Nat) : padF l (k + 1) = padF l k ++ [⟨#[35]⟩] := by
  unfold padF; rw [List.append_assoc, ← List.replicate_succ']
theorem padF_length (l : List ByteArray) (k : Nat) : (padF l k).length = l.length + k := by unfold padF; simp
set_option maxHeartbeats 4000000 in
set_option maxRecDepth 100000 in
theorem loads_law (w : World) (A C : Option Addr) (ca cc : Nat) (l more : List ByteArray) (n : Int) (hA : Kd.C Kd.string w A l.length l) (ha : l.length ≤ ca) (hC : Kd.C Kd.string w C more.length more) (hc : more.length ≤ cc) (hb : l.length ≤ 8796093021952) :
    Calls Try.prog 8 #[.slice A l.length ca, .int .i64 n, .slice C more.length cc] w fun e w' => e = .returned (.bool true) ∧ Below w.heap.size w w' := by
  have HA := Aside0.mk hA
  have HC := Aside0.mk hC
  have ml := Kd.C_max hA
  have mm := Kd.C_max hC
  clear hA hC
  go_enter Try.func8, Try.ntmps8
  go_wp2_with fail
  refine (texts_calls _ A l.length ca l rfl (by omega) HA.out ha).mono ?_; rintro e w1 ⟨v, rfl, hR, hB⟩
  have HR := Aside0.mk hR
  have HB := Aside0.mk hB
  clear hR hB
  go_wp2_with fail
  go_loopw [7, 8] (fun v i wr => ∃ (k : Nat) (xs : List ByteArray), i = .int .i64 (k : Int) ∧ k ≤ 64 ∧ Aside0 (xs = padF l k) ∧ Aside0 (Below w.heap.size w wr) ∧ Aside0 (Kd.R Kd.string 9 wr w.heap.size (fun _ => True) v xs)) (fun _ i _ => 64 - (intOf i).toNat)
  case atStart => exact ⟨0, l, rfl, by omega, ⟨by simp [padF]⟩, HB, HR⟩
  case round =>
    clear HR HB
    obtain ⟨k, xs, rfl, hk, HX, HB, HR⟩ := hrel
    obtain ⟨A5, c5, rfl⟩ := Kd.R_slice HR.out
    have hxl : xs.length = l.length + k := by rw [HX.out, padF_length]
    by_cases hlt : k < 64
    · have b3 : decide ((k : Int) < 64) = true := decide_eq_true (by omega)
      have hbs := HB.out.size
      have hxl2 : xs.length ≤ 8796093022200 := by omega
      go_wp2_with (at_builtin; refine Kd.R_append Kd.string (w0 := w) w.heap.size rfl (.tmp 31) (.tmp 32) 36 9 (.string ⟨#[]⟩) 16 rfl Try.underlying36 info9 rfl (by decide) (by omega) (.slice A5 xs.length c5) xs ⟨#[35]⟩ [.string ⟨#[35]⟩] (fun _ => True) (fun _ => False) rfl rfl rfl (fun _ hk => hk.elim) (fun _ _ => trivial) (by exact HR.out) (by exact HB.out) (by exact hbs) (by omega) ?_; intro v1 w1 hown hb hgw hat; have HOW := Aside0.mk hown; have HB1 := Aside0.mk hb; clear hown hgw hat hb)
      go_roundw
      case rel => exact ⟨k + 1, xs ++ [⟨#[35]⟩], by go_num, by omega, ⟨by rw [HX.out, padF_snoc]⟩, HB1, HOW⟩
      case measure => simp [intOf]; omega
    · have b3 : decide ((k : Int) < 64) = false := decide_eq_false (by omega)
      obtain rfl : k = 64 := by omega
      obtain ⟨ad, c6, e6⟩ := Kd.R_slice1 HR.out (by omega)
      cases e6
      obtain ⟨_, k5, hC5⟩ := Kd.R_reads' HR.out
      have HC5 := Aside0.mk hC5
      clear hC5
      go_wp2_with fail
      have l1 : 0 ≤ (l.length : Int) := by omega
      have l2 : l.length ≤ c5 := by omega
      refine (texts_calls _ (some ad) (l.length + 64) c5 xs hxl (by omega) (by exact HC5.out) (by exact k5)).mono ?_; rintro e w2 ⟨v2, rfl, hR2, hB2⟩
      have HR2 := Aside0.mk hR2
      have HB2 := Aside0.mk hB2
      clear hR2 hB2
      go_wp2_with fail
      have hC6 : Aside0 (Kd.C Kd.string w2 (some ad) l.length l) := ⟨by
        have h1 := Kd.C_take (m := l.length) (Kd.C_below HC5.out (below_weaken (w0 := _) (Below.refl _ _) (Nat.le_refl _) HB2.out)) (by omega)
        have h2 : xs.take l.length = l := by rw [HX.out]; unfold padF; simp
        rw [h2] at h1
        exact h1⟩
      refine (ptLoad _ (some ad) l.length c5 l n rfl (by exact hC6.out) l2).mono ?_; rintro e w3 ⟨x, rfl, hT⟩
      have HT := Aside0.mk hT
      clear hT
      generalize hld : loadS l n = r0 at *
      obtain ⟨e0, st⟩ := r0
      go_wp2_with fail
      have hA3 : Aside0 (Kd.C Kd.string w3 A l.length l) := ⟨by
        obtain ⟨_, _, _, hb3⟩ := HT.out
        exact Kd.C_below (Kd.C_below HA.out (below_then HB.out HB.out.size (below_weaken (w0 := _) (Below.refl _ _) (Nat.le_refl _) HB2.out))) hb3⟩
      have hpr := prLoad w3 A l.length ca l n rfl (by exact hA3.out) ha
      rw [hld] at hpr
      refine hpr.mono ?_; rintro e w4 ⟨y, rfl, hT2⟩
      have HT2 := Aside0.mk hT2
      clear hT2 hpr
      have hP : ∃ ok1 ok2, Pair w2.heap.size w2 x y st st ok1 ok2 w4 := Pair.make HT.out HT2.out
      obtain ⟨ok1, ok2, hP⟩ := hP
      have HP := Aside0.mk hP
      clear hP HT HT2
      have x3 : (x.isNone != y.isNone) = false := by rw [HP.out.nil]; exact bne_self_eq_false _
      have x4 : (x.isNone == y.isNone) = true := by rw [HP.out.nil]; exact beq_self_eq_true _
      have x1 : (e0 != e0) = false := bne_self_eq_false _
      have x2 : (e0 == e0) = true := beq_self_eq_true _
      go_wp2_with (go_at_call 38; (with_reducible refine (kilnlaw6_num.calls _ _ _ rfl).mono ?_); rintro e w' ⟨rfl, ⟨nd, rfl⟩⟩)
      have HF := Aside0.mk (Kd.R_below HR.out (below_weaken (w0 := _) (Below.refl _ _) (Nat.le_refl _) HB2.out))
      have HB4 := Aside0.mk (HP.out.below)
      obtain ⟨A6, c6, rfl⟩ := Kd.R_slice HR2.out
      obtain ⟨_, k6, hC7⟩ := Kd.R_reads' HR2.out
      have HC7 := Aside0.mk (Kd.C_below hC7 HB4.out)
      have HC8 := Aside0.mk (Kd.C_below (Kd.C_below HC5.out (below_weaken (w0 := _) (Below.refl _ _) (Nat.le_refl _) HB2.out)) HB4.out)
      clear hC7
      refine (same_n _ (some ad) A6 _ _ c5 c6 xs (by exact hxl) (by first | rfl | exact hxl) (by exact Kd.C_drewN HC8.out _) (by exact k5) (by exact Kd.C_drewN HC7.out _) (by exact k6)).mono ?_; rintro e w' ⟨rfl, ⟨nd2, rfl⟩⟩
      go_wp2_with fail
      have hb2 := below_then HB.out HB.out.size HB2.out
      have HQ := Aside0.mk ((HP.out.weaken hb2 hb2.size rfl).drewN (nd + nd2))
      have HF2 : Aside0 (Kd.R Kd.string 9 (w4.drewN (nd + nd2)) w.heap.size (fun k => ¬ ok1 k ∧ ¬ ok2 k) (.slice (some ad) xs.length c5) xs) := ⟨by
        refine Kd.R_drewN (Kd.R_mono (Kd.R_below (Kd.R_bound HF.out) HB4.out) ?_) _
        rintro k ⟨_, _, hk, _⟩
        exact ⟨fun h => by have := (HP.out.own1 k h).1; omega, fun h => by have := (HP.out.own2 k h).1; omega⟩⟩
      obtain ⟨g7, cap7, e7, hg7, hlt7, _⟩ := Kd.R_form HF2.out (by omega)
      obtain rfl : ad = ⟨g7, 0, none⟩ := by injection e7 with e8; injection e8
      clear e7
      rw [hxl] at HF2
      have HXL : Aside0 (xs.length = l.length + 64) := ⟨hxl⟩
      clear HP HF hC6 hA3 HB4 HC7 HC8 HC5
      go_loopw [14] (fun i wr' => ∃ (k : Nat) (ys : List ByteArray), i = .int .i64 (k : Int) ∧ k ≤ l.length + 64 ∧ Aside0 (Pair w.heap.size w x y st st ok1 ok2 wr') ∧ Aside0 (Kd.R Kd.string 9 wr' w.heap.size (fun k => ¬ ok1 k ∧ ¬ ok2 k) (.slice (some ⟨g7, 0, none⟩) (l.length + 64) c5) ys)) (fun i _ => l.length + 64 - (intOf i).toNat)
      case atStart => exact ⟨0, xs, rfl, by omega, ⟨by exact HQ.out⟩, ⟨by exact HF2.out⟩⟩
      case round =>
        clear HQ HF2
        obtain ⟨k, ys, rfl, hk, HQ, HF2⟩ := hrel
        by_cases hlt3 : k < l.length + 64
        · have b4 : decide ((k : Int) < ((l.length + 64 : Nat) : Int)) = true := decide_eq_true (by omega)
          have b5 : decide ((k : Int) < (l.length : Int) + 64) = true := decide_eq_true (by omega)
          go_wp2_with fail
          refine (PSymbolLoads.kilnlaw6_mark.calls (k : Int) _ _ rfl).mono ?_; rintro e w5 ⟨rfl, hb5⟩
          have hQ5 := HQ.out.step (Nat.le_refl _) hb5
          have hF5 := Kd.R_below HF2.out hb5
          obtain ⟨cl, fz⟩ := Kd.R_celln ByteArray.empty hF5 (k : Int) (by omega) (by omega)
          have HQ5 := Aside0.mk hQ5
          have HF5 := Aside0.mk hF5
          clear hQ5 hF5 hb5 HQ HF2
          rw [Int.toNat_natCast] at cl fz
          have i1 : (k : Int) < (l.length : Int) + 64 := by omega
          have i2 : k < l.length + 64 := hlt3
          go_wp2_with fail
          go_roundw
          case rel =>
            have hno := HF5.out.1 g7 rfl
            refine ⟨k + 1, ys.set k (strOfNums [35, (k : Int) % 256, wrap64 ((k : Int).tdiv 256) % 256, wrap64 ((k : Int).tdiv 65536) % 256]), by go_num, by omega, ⟨?_⟩, ⟨?_⟩⟩
            · exact HQ5.out.other (Nat.le_refl _) (ok := fun i => i = g7) ((Only.refl (fun i => i = g7) _).setCell (p := ⟨g7, k, none⟩) (fun _ => rfl) _) (fun i hi => by subst hi; exact ⟨hg7, hno.1, hno.2⟩)
            · have := Kd.R_putn HF5.out (k : Int) (strOfNums [35, (k : Int) % 256, wrap64 ((k : Int).tdiv 256) % 256, wrap64 ((k : Int).tdiv 65536) % 256])
              rw [Int.toNat_natCast] at this; exact this
          case measure => simp [intOf]; omega
        · have b4 : decide ((k : Int) < ((l.length + 64 : Nat) : Int)) = false := decide_eq_false (by omega)
          have b5 : decide ((k : Int) < (l.length : Int) + 64) = false := decide_eq_false (by omega)
          go_wp2_with fail
          obtain ⟨e9, k9, hC9⟩ := Kd.R_reads' HF2.out
          have hyl : ys.length = l.length + 64 := e9.symm
          have HC9 := Aside0.mk hC9
          clear hC9 e9
          refine (texts_calls _ (some ⟨g7, 0, none⟩) (l.length + 64) c5 ys hyl (by omega) (by exact HC9.out) (by omega)).mono ?_; rintro e w5 ⟨v5, rfl, hR5, hB5⟩
          have HR5 := Aside0.mk hR5
          have HB5 := Aside0.mk hB5
          have HQ5 := Aside0.mk (HQ.out.step (Nat.le_refl _) hB5)
          have HF5 := Aside0.mk (Kd.R_below (Kd.R_bound HF2.out) hB5)
          have HC5 := Aside0.mk (Kd.C_below HC9.out hB5)
          obtain ⟨g8, c8, e8, hg8, hlt8, _⟩ := Kd.R_form HR5.out (by omega)
          obtain ⟨_, k8, hC8⟩ := Kd.R_reads' (e8 ▸ HR5.out)
          have HC8 := Aside0.mk hC8
          clear hC8
          subst e8
          rw [hyl] at HR5
          have l8 : l.length ≤ c8 := by omega
          clear hR5 hB5 HQ HF2 HC9
          go_wp2_with fail
          have hl9 : (ys.take l.length).length = l.length := by rw [List.length_take]; omega
          refine (prLoad w5 (some ⟨g8, 0, none⟩) l.length c8 (ys.take l.length) n hl9 (by exact (take_C HC8.out hyl (by omega)).1) (by omega)).mono ?_; rintro e w6 ⟨yd, rfl, hTd⟩
          have HTd := Aside0.mk hTd
          clear hTd
          generalize hld2 : loadS (ys.take l.length) n = r1 at *
          obtain ⟨e1, st1⟩ := r1
          go_wp2_with fail
          have hb6 : Below w5.heap.size w5 w6 := by obtain ⟨_, _, _, h⟩ := HTd.out; exact h
          have hpt := ptLoad w6 (some ⟨g7, 0, none⟩) l.length c5 (ys.take l.length) n hl9 (by exact (take_C (Kd.C_below HC5.out hb6) hyl (by omega)).1) (by omega)
          rw [hld2] at hpt
          refine hpt.mono ?_; rintro e w7 ⟨xd, rfl, hTc⟩
          obtain ⟨ok3, ok4, hP2⟩ := Pair.make2 HTd.out hTc
          have HP2 := Aside0.mk hP2
          have HQ7 := Aside0.mk (HQ5.out.step (Nat.le_refl _) hP2.below)
          have HF7 := Aside0.mk (Kd.R_below HF5.out hP2.below)
          have HR7 := Aside0.mk (Kd.R_below HR5.out hP2.below)
          have HC7a := Aside0.mk (Kd.C_below HC5.out hP2.below)
          have HC7b := Aside0.mk (Kd.C_below HC8.out hP2.below)
          clear hP2 HTd hTc hpt hb6
          have z3 : (xd.isNone != yd.isNone) = false := by rw [HP2.out.nil]; exact bne_self_eq_false _
          have z4 : (xd.isNone == yd.isNone) = true := by rw [HP2.out.nil]; exact beq_self_eq_true _
          have z1 : (e1 != e1) = false := bne_self_eq_false _
          have z2 : (e1 == e1) = true := beq_self_eq_true _
          go_wp2_with (go_at_call 38; (with_reducible refine (kilnlaw6_num.calls _ _ _ rfl).mono ?_); rintro e w' ⟨rfl, ⟨nd3, rfl⟩⟩)
          have HP3 := Aside0.mk (HP2.out.drewN nd3)
          refine (ptAll _ ok3 xd st1 (by exact HP3.out.t)).mono ?_; rintro e w8 ⟨va, rfl, hRa, hBa⟩
          have hP4 := HP3.out.step (Nat.le_refl _) hBa
          have hb8 : Below w7.heap.size w7 w8 := below_weaken (w0 := w7) (pw_below_drewN (Below.refl _ _) nd3) (Nat.le_refl _) hBa
          go_wp2_with fail
          refine (prAll _ ok4 yd st1 (by exact hP4.r)).mono ?_; rintro e w9 ⟨vb, rfl, hRb, hBb⟩
          have hb9 : Below w7.heap.size w7 w9 := below_then hb8 hb8.size hBb
          obtain ⟨Aa, ca9, rfl, ka, hCa⟩ := Kd.R_reads (Kd.R_below hRa hBb)
          obtain ⟨Ab, cb9, rfl, kb, hCb⟩ := Kd.R_reads hRb
          have HCa := Aside0.mk hCa
          have HCb := Aside0.mk hCb
          have HB9 := Aside0.mk hb9
          clear hRa hRb hBa hBb hb8 hP4 hb9 hCa hCb
          go_wp2_with fail
          refine (same_n _ Aa Ab _ _ ca9 cb9 (textsOf st1) rfl rfl (by exact HCa.out) (by exact ka) (by exact HCb.out) (by exact kb)).mono ?_; rintro e w' ⟨rfl, ⟨nd4, rfl⟩⟩
          go_wp2_with fail
          refine (same_n _ (some ⟨g7, 0, none⟩) (some ⟨g8, 0, none⟩) _ _ c5 c8 ys (by exact hyl) (by exact hyl) (by exact Kd.C_drewN (Kd.C_below HC7a.out HB9.out) _) (by omega) (by exact Kd.C_drewN (Kd.C_below HC7b.out HB9.out) _) (by omega)).mono ?_; rintro e w' ⟨rfl, ⟨nd5, rfl⟩⟩
          have HQ9 := Aside0.mk ((HQ7.out.step (Nat.le_refl _) HB9.out).drewN (nd4 + nd5))
          go_wp2_with fail
          clear HP3 HP2 HCa HCb HB9 HC7a HC7b HQ7 HF7 HR7 HF5 HR5 HQ5 HC5 HC8 HB5
          go_loopw [20] (fun i wr => ∃ (j : Nat) (st' : St) (ok1 ok2 : Nat → Prop), i = .int .i64 (j : Int) ∧ j ≤ more.length ∧ Aside0 (Pair w.heap.size w x y st' st' ok1 ok2 wr)) (fun i _ => more.length - (intOf i).toNat)
          case atStart => exact ⟨0, st, ok1, ok2, rfl, by omega, ⟨HQ9.out⟩⟩
          case round =>
            clear HQ9
            obtain ⟨j, s', p1, p2, rfl, hj, HP⟩ := hrel
            by_cases hlt5 : j < more.length
            · have b6 : decide ((j : Int) < (more.length : Int)) = true := decide_eq_true (by omega)
              obtain ⟨ad2, rfl, hcell⟩ := Kd.at_string (Kd.C_below HC.out HP.out.below) (j : Int) (by omega) (by omega)
              have hcell0 := Kd.at_string HC.out (j : Int) (by omega) (by omega)
              rw [Int.toNat_natCast] at hcell hcell0
              generalize rdOf ByteArray.empty more (j : Int) = s at *
              have HC0 := Aside0.mk hcell0
              clear hcell0
              go_wp2_with fail
              refine (ptAdd _ p1 x s' s (by exact HP.out.t)).mono ?_
              rintro e wa ⟨nn, ee, s2, ha2, rfl, ht⟩
              obtain ⟨p1', hP1, _, hO⟩ := HP.out.left (Nat.le_refl _) ht
              have hcella : wa.cell? (ad2.add j) = some (.string s) := by
                obtain ⟨ad', e, h⟩ := HC0.out
                cases e
                exact pw_cell_below_le hP1.below h
              have HP1 := Aside0.mk hP1
              have HA2 := Aside0.mk ha2
              clear hcell ht hP1 hO ha2
              go_wp2_with fail
              refine (prAdd _ p2 y s' s2 s nn ee (by exact HP1.out.r) HA2.out).mono ?_
              rintro e wb ⟨rfl, ht⟩
              obtain ⟨p2', hP2, _, hO⟩ := HP1.out.right (Nat.le_refl _) ht
              have HP2 := Aside0.mk hP2
              clear ht hP2 hO
              have y1 : (nn != nn) = false := bne_self_eq_false _
              have y2 : (nn == nn) = true := beq_self_eq_true _
              have y3 : (ee != ee) = false := bne_self_eq_false _
              have y4 : (ee == ee) = true := beq_self_eq_true _
              go_wp2_with (go_at_call 38; (with_reducible refine (kilnlaw6_num.calls _ _ _ rfl).mono ?_); rintro e w' ⟨rfl, ⟨nd3, rfl⟩⟩)
              go_roundw
              case rel => exact ⟨j + 1, s2, p1', p2', by go_num, by omega, ⟨HP2.out.drewN _⟩⟩
              case measure => simp [intOf]; omega
            · have b6 : decide ((j : Int) < (more.length : Int)) = false := decide_eq_false (by omega)
              go_wp2_with fail
              refine (ptAll _ p1 x s' (by exact HP.out.t)).mono ?_; rintro e wa ⟨va, rfl, hRa, hBa⟩
              have hP4 := HP.out.step (Nat.le_refl _) hBa
              have HP4 := Aside0.mk hP4
              clear hP4
              go_wp2_with fail
              refine (prAll _ p2 y s' (by exact HP4.out.r)).mono ?_; rintro e wb ⟨vb, rfl, hRb, hBb⟩
              have HP5 := Aside0.mk (HP4.out.step (Nat.le_refl _) hBb)
              obtain ⟨Aa, ca9, rfl, ka, hCa⟩ := Kd.R_reads (Kd.R_below hRa hBb)
              obtain ⟨Ab, cb9, rfl, kb, hCb⟩ := Kd.R_reads hRb
              have HCa := Aside0.mk hCa
              have HCb := Aside0.mk hCb
              clear hRa hRb hBa hBb hCa hCb
              go_wp2_with fail
              refine (same_n _ Aa Ab _ _ ca9 cb9 (textsOf s') rfl rfl (by exact HCa.out) (by exact ka) (by exact HCb.out) (by exact kb)).mono ?_; rintro e w' ⟨rfl, ⟨nd4, rfl⟩⟩
              have HP6 := Aside0.mk (HP5.out.drewN nd4)
              go_wp2_with fail
              refine (ptCount _ p1 x s' (by exact HP6.out.t)).mono ?_; rintro e w' ⟨rfl, ⟨nd5, rfl⟩⟩
              have HP7 := Aside0.mk (HP5.out.drewN (nd4 + nd5))
              go_wp2_with fail
              refine (prCount _ p2 y s' (by exact HP7.out.r)).mono ?_; rintro e w' ⟨rfl, ⟨nd6, rfl⟩⟩
              have HP8 := Aside0.mk (HP5.out.drewN (nd4 + nd5 + nd6))
              have y1 : (((textsOf s').length : Int) == ((textsOf s').length : Int)) = true := beq_self_eq_true _
              go_wp2
              go_ret
              exact ⟨rfl, HP8.out.below⟩
theorem sized_strs0 {H : Type} {enc : TypeId × Value → H} {w : World} {base : Nat} {spare : Nat → Bool} {held : Bool} {A : Option Addr} {len cap : Nat} {d : DataW H} {p : List MemPlace} {ts : List TypeId} {ds : List (DataW H)}
    (hsz : (DataW.weightsEach Try.prog (36 :: ts) (d :: ds)).all (· ≤ reachBytes) = true) (h : DataW.Trod enc Try.prog w base spare held 36 (.slice A len cap) d p) : len ≤ 8796093021952 := by
  obtain ⟨fuel, hf⟩ := h
  rcases Go.Deep.open_slice1 Try.underlying36 (by kernel_rfl) (by simpa [Value.cells] using hf) with ⟨hcs, _⟩ | ⟨a, len', cap', m, n, V, D, Pl, hcs, _, hl, hm, hmm, hdd, hx⟩
  · simp at hcs
    obtain ⟨rfl, rfl, rfl⟩ := hcs
    omega
  · simp at hcs
    obtain ⟨rfl, rfl, rfl⟩ := hcs
    have hd : d = .slice ((List.range len).map D) ((List.range (m - len)).map fun j => D (len + j)) := congrArg Prod.fst hdd
    have z := sized_slice hsz (j := 0) (t := 36) (e := 9) rfl (congrArg some hd) Try.underlying36
    rw [List.length_map, List.length_range, List.length_map, List.length_range, show Try.prog.bytesOf 9 = 16 by kernel_rfl] at z
    have : reachBytes = 140737488351232 := rfl
    omega
theorem loads_walk (A C : Option Addr) (na ca nc cc : Nat) (l more : List ByteArray) (n : Int) (w : World) (e0 : l.length = na) (e1 : more.length = nc) (hA : Kd.C Kd.string w A l.length l) (hC : Kd.C Kd.string w C more.length more) (ha : l.length ≤ ca ∧ ∀ s ∈ l, s.size ≤ maxLen) (hc : more.length ≤ cc ∧ ∀ s ∈ more, s.size ≤ maxLen) (hb : na ≤ 8796093021952) :
    Calls Try.prog 8 #[.slice A na ca, .int .i64 n, .slice C nc cc] w fun e w' => e = .returned (.bool true) ∧ Below w.heap.size w w' := by
  subst e0; subst e1
  exact loads_law w A C ca cc l more n hA ha.1 hC hc.1 hb
end Go.Proofs.Ytcnjdgafemgaeaa.Sym
