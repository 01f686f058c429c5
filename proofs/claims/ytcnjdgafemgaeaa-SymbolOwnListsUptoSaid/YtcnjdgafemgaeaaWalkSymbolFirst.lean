/- The law SymbolFirst, walked: texts are numbered by their first coming, each once, whatever is added: the call returns true for every list of texts. Conditions: none. -/
import Derived.Test.YtcnjdgafemgaeaaWalkSymbolBack
namespace Go.Proofs.Ytcnjdgafemgaeaa.Sym
open Go.RowKit Go.Maps Go.WideMaps Go.Proofs.Ytcnjdgafemgaeaa.PSymbolFirst Go.Proofs.YtcnjdgafemgaeaaW.PrintWords Go.Proofs.YtcnjdgafemgaeaaW.PrintLast Go.Proofs.YtcnjdgafemgaeaaW.PrintMore
attribute [local go_sem] max2_int min2_int max_two min_two max_three min_three max_four min_four
set_option linter.unusedVariables false
set_option linter.unusedSimpArgs false

theorem toList_loop (bs : ByteArray) (d : Nat) : ∀ (i : Nat) (r : List UInt8), bs.size - i = d → ByteArray.toList.loop bs i r = r.reverse ++ bs.data.toList.drop i := by
  induction d with
  | zero =>
    intro i r h
    rw [ByteArray.toList.loop, if_neg (by omega), List.drop_eq_nil_of_le (by rw [data_length]; omega), List.append_nil]
  | succ d ih =>
    intro i r h
    have hi : i < bs.size := by omega
    rw [ByteArray.toList.loop, if_pos hi, ih (i + 1) _ (by omega)]
    have hl : i < bs.data.toList.length := by rw [data_length]; exact hi
    rw [List.drop_eq_getElem_cons hl]
    have hg : bs.get! i = bs.data.toList[i] := by
      have : bs.get! i = bs.data[i]! := by cases bs; rfl
      rw [this, getElem!_pos bs.data i (by simpa using hi)]; simp
    rw [hg]; simp
theorem toList_is (bs : ByteArray) : bs.toList = bs.data.toList := by
  have := toList_loop bs bs.size 0 [] (by omega)
  unfold ByteArray.toList; rw [this]; simp
theorem toList_inj {a b : ByteArray} : a.toList = b.toList ↔ a = b := by
  rw [toList_is, toList_is]
  constructor
  · intro h; exact ByteArray.ext (Array.ext' h)
  · rintro rfl; rfl
/-- where a text stands in a list -/
def FirstIs (l : List ByteArray) (s : ByteArray) (r : Int) : Prop := (∃ i : Nat, l[i]? = some s ∧ r = (i : Int)) ∨ (s ∉ l ∧ r = -1)
theorem first_loop (l : List ByteArray) (s : ByteArray) (hl : l.length ≤ 9223372036854775807) (d : Nat) : ∀ (k i : Nat), i ≤ l.length → l.length - i = d → (∀ j, j < i → l[j]? ≠ some s) → ∃ r, kilnlaw6_first.l0 (d + 1 + k) l s (i : Int) = some r ∧ FirstIs l s r := by
  induction d with
  | zero =>
    intro k i hi hd hno
    rw [show 0 + 1 + k = k + 1 by omega]
    simp only [kilnlaw6_first.l0]
    rw [if_neg (by omega)]
    refine ⟨-1, rfl, .inr ⟨fun hm => ?_, rfl⟩⟩
    obtain ⟨j, hj⟩ := List.mem_iff_getElem?.1 hm
    exact hno j (by have := (List.getElem?_eq_some_iff.1 hj).1; omega) hj
  | succ d ih =>
    intro k i hi hd hno
    rw [show d + 1 + 1 + k = (d + 1 + k) + 1 by omega]
    simp only [kilnlaw6_first.l0]
    have hlt : i < l.length := by omega
    have hat : l[i]? = some (rdOf ByteArray.empty l (i : Int)) := by
      unfold rdOf
      rw [Int.toNat_natCast, List.getD_eq_getElem?_getD, List.getElem?_eq_getElem hlt]; rfl
    rw [if_pos (by omega), if_pos (by omega)]
    by_cases e : rdOf ByteArray.empty l (i : Int) = s
    · rw [if_pos (toList_inj.2 e)]
      exact ⟨_, rfl, .inl ⟨i, by rw [hat, e], rfl⟩⟩
    · rw [if_neg (fun h => e (toList_inj.1 h)), show wrap64 ((i : Int) + 1) = ((i + 1 : Nat) : Int) by unfold wrap64; omega]
      refine ih k (i + 1) (by omega) (by omega) (fun j hj => ?_)
      by_cases hji : j = i
      · subst hji; rw [hat]; intro h; exact e (Option.some.inj h)
      · exact hno j (by omega)
theorem first_calls (w : World) (A : Option Addr) (c : Nat) (l : List ByteArray) (s : ByteArray) (hC : Kd.C Kd.string w A l.length l) (hc : l.length ≤ c) :
    Calls Try.prog 48 #[.slice A l.length c, .string s] w fun e w' => ∃ r, FirstIs l s r ∧ e = .returned (.int .i64 r) ∧ Drawn0 w w' := by
  obtain ⟨r, h, hr⟩ := first_loop l s (Kd.C_max hC) l.length 0 0 (by omega) (by omega) (fun j hj => by omega)
  exact (kilnlaw6_first.calls _ A c l s r w hC hc h).mono fun e w' h => ⟨r, hr, h.1, h.2⟩
/-- may a text be a symbol? -/
def FitsB (s : ByteArray) (b : Bool) : Prop := b = true ↔ (1 ≤ s.size ∧ s.size ≤ 96)
theorem fits_calls (w : World) (s : ByteArray) (b : Bool) (h : Aside0 (FitsB s b)) :
    Calls Try.prog 49 #[.string s] w fun e w' => e = .returned (.bool b) ∧ Drawn0 w w' := by
  refine kilnlaw6_fits.calls s b w ?_
  have h' := h.out
  unfold FitsB at h'
  unfold kilnlaw6_fits.f
  by_cases c : (s.size : Int) ≥ 1
  · rw [if_pos c]; congr 1
    by_cases d : (s.size : Int) ≤ 96
    · rw [decide_eq_true d]; exact (h'.2 ⟨by omega, by omega⟩).symm
    · rw [decide_eq_false d]; symm; rw [Bool.eq_false_iff]; intro hb; have := h'.1 hb; omega
  · rw [if_neg c]; congr 1; symm; rw [Bool.eq_false_iff]; intro hb; have := h'.1 hb; omega

theorem first_known (w : World) (A : Option Addr) (c : Nat) (l : List ByteArray) (s : ByteArray) (r : Int) (hC : Kd.C Kd.string w A l.length l) (hc : l.length ≤ c) (hn : l.Nodup) (hr : FirstIs l s r) :
    Calls Try.prog 48 #[.slice A l.length c, .string s] w fun e w' => e = .returned (.int .i64 r) ∧ Drawn0 w w' := by
  refine (first_calls w A c l s hC hc).mono ?_
  rintro e w' ⟨r', h, rfl, hd⟩
  refine ⟨?_, hd⟩
  have : r' = r := by
    rcases h with ⟨i, hi, rfl⟩ | ⟨h, rfl⟩ <;> rcases hr with ⟨j, hj, rfl⟩ | ⟨k, rfl⟩
    · rw [((List.getElem?_inj (List.getElem?_eq_some_iff.1 hi).1 hn).1 (hi.trans hj.symm))]
    · exact absurd (List.mem_of_getElem? hi) k
    · exact absurd (List.mem_of_getElem? hj) h
    · rfl
  rw [this]
theorem first_known_n (w : World) (A : Option Addr) (n c : Nat) (l : List ByteArray) (s : ByteArray) (r : Int) (hl : l.length = n) (hC : Kd.C Kd.string w A l.length l) (hc : l.length ≤ c) (hn : l.Nodup) (hr : FirstIs l s r) :
    Calls Try.prog 48 #[.slice A n c, .string s] w fun e w' => e = .returned (.int .i64 r) ∧ Drawn0 w w' := by
  subst hl; exact first_known w A c l s r hC hc hn hr
theorem find_known (w : World) (ok : Nat → Prop) (g m : Nat) (ss : List ByteArray) (s : ByteArray) (n : Int) (b : Bool) (hs : s.size ≤ maxLen) (T : IsTable w ok g m ss) (h : Found ss s n b) :
    Calls Try.prog 50 #[.pointer (some ⟨g, 0, none⟩), .string s] w fun e w' => e = .returned (.tuple #[.int .i64 n, .bool b]) ∧ Drawn0 w w' := by
  refine (find_calls w ok g m ss s hs T).mono ?_
  rintro e w' ⟨n', b', h', rfl, hd⟩
  obtain ⟨rfl, rfl⟩ := found_det T.good.nodup h h'
  exact ⟨rfl, hd⟩
theorem text_in (w : World) (ok : Nat → Prop) (g m : Nat) (ss : List ByteArray) (j : Nat) (T : IsTable w ok g m ss) (h : j < ss.length) :
    Calls Try.prog 51 #[.pointer (some ⟨g, 0, none⟩), .int .i64 (j : Int)] w fun e w' => e = .returned (.tuple #[.string (rdOf ByteArray.empty ss (j : Int)), .int .i64 0]) ∧ Drawn0 w w' := by
  have := text_calls w ok g m ss (j : Int) T
  rwa [if_pos (by omega)] at this
theorem text_out (w : World) (ok : Nat → Prop) (g m : Nat) (ss : List ByteArray) (T : IsTable w ok g m ss) :
    Calls Try.prog 51 #[.pointer (some ⟨g, 0, none⟩), .int .i64 (ss.length : Int)] w fun e w' => e = .returned (.tuple #[.string ByteArray.empty, .int .i64 61]) ∧ Drawn0 w w' := by
  have := text_calls w ok g m ss (ss.length : Int) T
  rwa [if_neg (by omega)] at this
theorem row_turned {wr w' : World} {B : Nat} {ok ok' : Nat → Prop} {v : Value} {ss : List ByteArray} (hR : Kd.R Kd.string 9 wr B (fun k => ¬ ok k) v ss) (hO : Only ok wr w') (h2 : ∀ i, ok' i → ok i ∨ wr.heap.size ≤ i) : Kd.R Kd.string 9 w' B (fun k => ¬ ok' k) v ss := by
  refine Kd.R_mono (Kd.R_move (Kd.R_bound hR) (fun k hk => hO.block k hk.2.2.1 hk.1)) ?_
  rintro k ⟨hk, _, hlt, _⟩ h
  rcases h2 k h with h | h
  · exact hk h
  · omega
theorem fresh_not {W : World} {ok : Nat → Prop} {g m nd : Nat} {ss : List ByteArray} (T : IsTable W ok g m ss) : ∀ k, (W.drewN nd).heap.size ≤ k → ¬ ok k := fun k hk h => by have := T.lt k h; exact absurd (show W.heap.size ≤ k from hk) (by omega)
/-- what is collected, and the table, behind an append onto what is collected -/
theorem row_more {B : Nat} {w wr w1 : World} {g : Nat} {ok : Nat → Prop} {ss : List ByteArray} {v : Value} {nd : Nat} (h : Mine B w g 4096 ss ok wr) (hB : B ≤ w.heap.size) {xs : List ByteArray} (hR : Kd.R Kd.string 9 wr B (fun k => ¬ ok k) v xs) (hg : (wr.drewN nd).grownBy w1 v.ownBlock) : Mine B w g 4096 ss ok w1 :=
  ⟨h.table.move hg.size (fun i hi => hg.block i (h.table.lt i hi) (fun e => hR.1 i e.symm hi)), h.own,
    (pw_below_drewN h.below nd).grown hg (Nat.le_trans hB h.below.size) (fun k hk => Kd.R_base hR k hk)⟩

set_option maxHeartbeats 4000000 in
set_option maxRecDepth 100000 in
/-- the law SymbolFirst -/
theorem first_law (w : World) (A : Option Addr) (ca : Nat) (l : List ByteArray) (hA : Kd.C Kd.string w A l.length l) (ha : l.length ≤ ca) (hz : ∀ s ∈ l, s.size ≤ maxLen) :
    Calls Try.prog 9 #[.slice A l.length ca] w fun e w' => e = .returned (.bool true) ∧ Below w.heap.size w w' := by
  have hnp := fun (W : World) => new_ok W 4096 (by omega)
  have HA := Aside0.mk hA
  have HZ := Aside0.mk hz
  have ml := Kd.C_max hA
  clear hA hz
  go_enter Try.func9, Try.ntmps9
  go_wp2_with fail
  refine (hnp _).mono ?_; rintro e w1 ⟨g, ok, rfl, T, hok, hB⟩
  clear hnp
  have HM : Aside0 (Mine w.heap.size w g 4096 [] ok w1) := ⟨⟨T, hok, hB⟩⟩
  clear T hok hB
  go_wp2_with (go_at_call 38; (with_reducible refine (kilnlaw6_num.calls _ _ _ rfl).mono ?_); rintro e w' ⟨rfl, ⟨nd, rfl⟩⟩)
  go_loopw [5, 6] (fun v i wr => ∃ (j : Nat) (ok : Nat → Prop) (ss : List ByteArray), i = .int .i64 (j : Int) ∧ j ≤ l.length ∧ Aside0 (Mine w.heap.size w g 4096 ss ok wr) ∧ Aside0 (Kd.R Kd.string 9 wr w.heap.size (fun k => ¬ ok k) v ss))
    (fun _ i _ => l.length - (intOf i).toNat)
  case atStart => exact ⟨0, ok, [], rfl, by omega, ⟨HM.out.drewN _⟩, ⟨Kd.R_nil _ _ _ _ _⟩⟩
  case round =>
    clear HM
    obtain ⟨j, ok0, ss, rfl, hj, hM, hR⟩ := hrel
    obtain ⟨A5, c5, rfl⟩ := Kd.R_slice hR.out
    by_cases hlt : j < l.length
    · have b3 : decide ((j : Int) < (l.length : Int)) = true := decide_eq_true (by omega)
      have hmem := rd_mem l j hlt
      obtain ⟨ad, rfl, hcell0⟩ := Kd.at_string HA.out (j : Int) (by omega) (by omega)
      rw [Int.toNat_natCast] at hcell0
      have hcell := pw_cell_below_le hM.out.below hcell0
      have HC0 := Aside0.mk hcell0
      generalize rdOf ByteArray.empty l (j : Int) = s at *
      have hsm : s.size ≤ maxLen := HZ.out s hmem
      clear hcell0 hmem
      go_wp2_with fail
      refine (add_calls _ ok0 g 4096 ss s (by exact hM.out.table)).mono ?_
      rintro e w2 ⟨n0, e0, ss', ha', rfl, ht⟩
      obtain ⟨ok2, h2, h2', h2''⟩ := hM.out.turned (Nat.le_refl _) ht
      have hR2 := row_turned hR.out h2'' h2'
      have hl4 : ss.length ≤ 4096 := hM.out.table.good.le
      have hcell2 := pw_cell_below_le h2.below HC0.out
      have HM2 := Aside0.mk h2
      have HR2 := Aside0.mk hR2
      have hnd := hM.out.table.good.nodup
      have hft := hM.out.table.good.fits
      have HND := Aside0.mk hnd
      obtain ⟨_, k5, hC5⟩ := Kd.R_reads' hR2
      have HC5 := Aside0.mk hC5
      clear hM hR ht h2 h2' h2'' hR2 hcell hnd hC5
      cases ha' with
      | bad hb =>
        have hno : s ∉ ss := fun h => hb (hft s h)
        have hfit : Aside0 (FitsB s false) := ⟨⟨(fun h => by cases h), fun h => absurd h hb⟩⟩
        have hfi : Aside0 (FirstIs ss s (-1)) := ⟨.inr ⟨hno, rfl⟩⟩
        have hfo : Aside0 (Found ss s 0 false) := ⟨.inr ⟨hno, rfl, rfl⟩⟩
        clear hb hno
        clear hft
        go_wp2_with fail
        refine (first_known _ _ c5 ss s (-1) (by exact HC5.out) k5 HND.out hfi.out).mono ?_; rintro e w' ⟨rfl, ⟨nda, rfl⟩⟩
        go_wp2_with (first | (go_at_call 38; (with_reducible refine (kilnlaw6_num.calls _ _ _ rfl).mono ?_); rintro e w' ⟨rfl, ⟨nd, rfl⟩⟩) | (go_at_call 49; go_loud (refine (fits_calls _ s false hfit).mono ?_); rintro e w' ⟨rfl, ⟨nd, rfl⟩⟩))
        refine (find_known _ ok2 g 4096 ss s 0 false hsm (by exact (HM2.out.drewN _).table) hfo.out).mono ?_; rintro e w' ⟨rfl, ⟨ndb, rfl⟩⟩
        go_wp2_with fail
        refine (first_known _ _ c5 ss s (-1) (by exact Kd.C_drewN HC5.out _) k5 HND.out hfi.out).mono ?_; rintro e w' ⟨rfl, ⟨ndc, rfl⟩⟩
        go_wp2
        go_roundw
        case rel => exact ⟨j + 1, ok2, ss, by go_num, by omega, ⟨(HM2.out.drewN _)⟩, ⟨Kd.R_drewN HR2.out _⟩⟩
        case measure => simp [intOf]; omega
      | there hb i hi =>
        have hfit : Aside0 (FitsB s true) := ⟨⟨fun _ => hb, fun _ => rfl⟩⟩
        have hfi : Aside0 (FirstIs ss s (i : Int)) := ⟨.inl ⟨i, hi, rfl⟩⟩
        have hfo : Aside0 (Found ss s (i : Int) true) := ⟨.inl ⟨i, hi, rfl, rfl⟩⟩
        have i0 : decide (0 ≤ (i : Int)) = true := decide_eq_true (by omega)
        have i1 : ((i : Int) == (i : Int)) = true := beq_self_eq_true _
        have i2 : ((i : Int) != (i : Int)) = false := bne_self_eq_false _
        clear hb hi
        clear hft
        go_wp2_with fail
        refine (first_known _ _ c5 ss s (i : Int) (by exact HC5.out) k5 HND.out hfi.out).mono ?_; rintro e w' ⟨rfl, ⟨nda, rfl⟩⟩
        go_wp2_with (first | (go_at_call 38; (with_reducible refine (kilnlaw6_num.calls _ _ _ rfl).mono ?_); rintro e w' ⟨rfl, ⟨nd, rfl⟩⟩) | (go_at_call 49; go_loud (refine (fits_calls _ s true hfit).mono ?_); rintro e w' ⟨rfl, ⟨nd, rfl⟩⟩))
        refine (find_known _ ok2 g 4096 ss s (i : Int) true hsm (by exact (HM2.out.drewN _).table) hfo.out).mono ?_; rintro e w' ⟨rfl, ⟨ndb, rfl⟩⟩
        go_wp2_with fail
        refine (first_known _ _ c5 ss s (i : Int) (by exact Kd.C_drewN HC5.out _) k5 HND.out hfi.out).mono ?_; rintro e w' ⟨rfl, ⟨ndc, rfl⟩⟩
        go_wp2
        go_roundw
        case rel => exact ⟨j + 1, ok2, ss, by go_num, by omega, ⟨(HM2.out.drewN _)⟩, ⟨Kd.R_drewN HR2.out _⟩⟩
        case measure => simp [intOf]; omega
      | full hb hno hfl =>
        have hfit : Aside0 (FitsB s true) := ⟨⟨fun _ => hb, fun _ => rfl⟩⟩
        have hfi : Aside0 (FirstIs ss s (-1)) := ⟨.inr ⟨hno, rfl⟩⟩
        have hfo : Aside0 (Found ss s 0 false) := ⟨.inr ⟨hno, rfl, rfl⟩⟩
        have i1 : ((ss.length : Int) == 4096) = true := beq_iff_eq.2 (by omega)
        clear hb hno
        clear hft
        go_wp2_with fail
        refine (first_known _ _ c5 ss s (-1) (by exact HC5.out) k5 HND.out hfi.out).mono ?_; rintro e w' ⟨rfl, ⟨nda, rfl⟩⟩
        go_wp2_with (first | (go_at_call 38; (with_reducible refine (kilnlaw6_num.calls _ _ _ rfl).mono ?_); rintro e w' ⟨rfl, ⟨nd, rfl⟩⟩) | (go_at_call 49; go_loud (refine (fits_calls _ s true hfit).mono ?_); rintro e w' ⟨rfl, ⟨nd, rfl⟩⟩))
        refine (find_known _ ok2 g 4096 ss s 0 false hsm (by exact (HM2.out.drewN _).table) hfo.out).mono ?_; rintro e w' ⟨rfl, ⟨ndb, rfl⟩⟩
        go_wp2_with fail
        refine (first_known _ _ c5 ss s (-1) (by exact Kd.C_drewN HC5.out _) k5 HND.out hfi.out).mono ?_; rintro e w' ⟨rfl, ⟨ndc, rfl⟩⟩
        go_wp2
        go_roundw
        case rel => exact ⟨j + 1, ok2, ss, by go_num, by omega, ⟨(HM2.out.drewN _)⟩, ⟨Kd.R_drewN HR2.out _⟩⟩
        case measure => simp [intOf]; omega
      | new hb hno hfl =>
        have hfit : Aside0 (FitsB s true) := ⟨⟨fun _ => hb, fun _ => rfl⟩⟩
        have hfi : Aside0 (FirstIs ss s (-1)) := ⟨.inr ⟨hno, rfl⟩⟩
        have i1 : ((ss.length : Int) == 4096) = false := beq_eq_false_iff_ne.2 (by omega)
        have i2 : ((ss.length : Int) == (ss.length : Int)) = true := beq_self_eq_true _
        have i3 : ((ss.length : Int) != (ss.length : Int)) = false := bne_self_eq_false _
        have i4 : decide (0 ≤ (ss.length : Int)) = true := decide_eq_true (by omega)
        have hat : (ss ++ [s])[ss.length]? = some s := by simp
        have hfi2 : Aside0 (FirstIs (ss ++ [s]) s (ss.length : Int)) := ⟨.inl ⟨ss.length, hat, rfl⟩⟩
        have hfo : Aside0 (Found (ss ++ [s]) s (ss.length : Int) true) := ⟨.inl ⟨ss.length, hat, rfl, rfl⟩⟩
        clear hb hno hft hat
        go_wp2_with fail
        refine (first_known _ _ c5 ss s (-1) (by exact HC5.out) k5 HND.out hfi.out).mono ?_; rintro e w' ⟨rfl, ⟨nda, rfl⟩⟩
        go_wp2_with (first | (go_at_call 38; (with_reducible refine (kilnlaw6_num.calls _ _ _ rfl).mono ?_); rintro e w' ⟨rfl, ⟨nd, rfl⟩⟩) | (go_at_call 49; (refine (fits_calls _ s true hfit).mono ?_); rintro e w' ⟨rfl, ⟨nd, rfl⟩⟩) | (at_builtin; refine Kd.R_append Kd.string (w0 := w) w.heap.size rfl (.tmp 58) (.tmp 63) 36 9 (.string ⟨#[]⟩) 16 rfl Try.underlying36 info9 rfl (by decide) (by omega) (.slice A5 ss.length c5) ss s [.string s] (fun k => ¬ ok2 k) (fun _ => False) rfl rfl rfl (fun _ hk => hk.elim) (by exact fresh_not HM2.out.table) (by exact Kd.R_drewN HR2.out _) (by exact pw_below_drewN HM2.out.below _) (by exact HM2.out.below.size) (by omega) ?_; intro v1 w3 hown hb hgw hat; obtain ⟨A6, c6, rfl⟩ := Kd.R_slice hown; have HM3 := Aside0.mk (row_more HM2.out (Nat.le_refl _) HR2.out hgw); have HR3 := Aside0.mk hown; have hcell3 := pw_cell_below_le HM3.out.below HC0.out; clear hown hb hgw hat))
        refine (find_known _ ok2 g 4096 (ss ++ [s]) s (ss.length : Int) true hsm (by exact HM3.out.table) hfo.out).mono ?_; rintro e w' ⟨rfl, ⟨ndb, rfl⟩⟩
        obtain ⟨_, k6, hC6⟩ := Kd.R_reads' HR3.out
        have HC6 := Aside0.mk hC6
        clear hC6
        go_wp2_with fail
        refine (first_known_n _ A6 (ss.length + 1) c6 (ss ++ [s]) s (ss.length : Int) (by simp) (by exact Kd.C_drewN HC6.out _) (by exact k6) (by exact HM3.out.table.good.nodup) hfi2.out).mono ?_; rintro e w' ⟨rfl, ⟨ndc, rfl⟩⟩
        go_wp2
        go_roundw
        case rel => exact ⟨j + 1, ok2, ss ++ [s], by go_num, by omega, ⟨HM3.out.drewN _⟩, ⟨by have := Kd.R_drewN HR3.out (ndb + ndc); simpa using this⟩⟩
        case measure => simp [intOf]; omega
    · have b3 : decide ((j : Int) < (l.length : Int)) = false := decide_eq_false (by omega)
      have hl4 : ss.length ≤ 4096 := hM.out.table.good.le
      go_wp2_with fail
      go_loopw [12] (fun i wr' => ∃ (k : Nat), i = .int .i64 (k : Int) ∧ k ≤ ss.length ∧ Aside0 (Mine w.heap.size w g 4096 ss ok0 wr') ∧ Aside0 (Kd.R Kd.string 9 wr' w.heap.size (fun k => ¬ ok0 k) (.slice A5 ss.length c5) ss))
        (fun i _ => ss.length - (intOf i).toNat)
      case atStart => exact ⟨0, rfl, by omega, hM, hR⟩
      case round =>
        clear hM hR
        obtain ⟨k, rfl, hk, hM, hR⟩ := hrel
        obtain ⟨_, k5, hC5⟩ := Kd.R_reads' hR.out
        have HC5 := Aside0.mk hC5
        by_cases hlt2 : k < ss.length
        · have b4 : decide ((k : Int) < (ss.length : Int)) = true := decide_eq_true (by omega)
          obtain ⟨ad, rfl, hcell⟩ := Kd.at_string hC5 (k : Int) (by omega) (by omega)
          rw [Int.toNat_natCast] at hcell
          clear hC5
          have ht := text_in _ ok0 g 4096 ss k hM.out.table hlt2
          generalize rdOf ByteArray.empty ss (k : Int) = s at *
          have HT := Aside0.mk ht
          clear ht
          go_wp2_with fail
          refine (HT.out).mono ?_; rintro e w' ⟨rfl, ⟨nda, rfl⟩⟩
          go_wp2_with (go_at_call 38; (with_reducible refine (kilnlaw6_num.calls _ _ _ rfl).mono ?_); rintro e w' ⟨rfl, ⟨nd, rfl⟩⟩)
          go_roundw
          case rel => exact ⟨k + 1, by go_num, by omega, ⟨hM.out.drewN _⟩, ⟨Kd.R_drewN hR.out _⟩⟩
          case measure => simp [intOf]; omega
        · have b4 : decide ((k : Int) < (ss.length : Int)) = false := decide_eq_false (by omega)
          clear hC5
          go_wp2_with fail
          refine (text_out _ ok0 g 4096 ss (by exact hM.out.table)).mono ?_; rintro e w' ⟨rfl, ⟨nda, rfl⟩⟩
          go_wp2_with (go_at_call 38; (with_reducible refine (kilnlaw6_num.calls _ _ _ rfl).mono ?_); rintro e w' ⟨rfl, ⟨nd, rfl⟩⟩)
          refine (all_calls _ ok0 g 4096 ss (by exact (hM.out.drewN _).table)).mono ?_; rintro e w4 ⟨v4, rfl, hR4, hB4⟩
          have HM4 := Aside0.mk ((hM.out.drewN _).step (Nat.le_refl _) hB4)
          have HC4 := Aside0.mk (Kd.C_below (Kd.C_drewN HC5.out _) hB4)
          obtain ⟨A4, c4, rfl, k4, hC4⟩ := Kd.R_reads hR4
          clear hB4 hR4
          go_wp2_with fail
          refine (same_calls _ A4 A5 c4 c5 ss (by exact hC4) k4 (by exact HC4.out) k5).mono ?_; rintro e w' ⟨rfl, ⟨ndb, rfl⟩⟩
          clear hC4
          go_wp2_with fail
          refine (count_calls _ ok0 g 4096 ss (by exact (HM4.out.drewN _).table)).mono ?_; rintro e w' ⟨rfl, ⟨ndc, rfl⟩⟩
          go_wp2
          go_ret
          exact ⟨by first | rfl | (simp; done) | (simp [*]; done), by repeat (first | exact HM4.out.below | apply pw_below_drewN)⟩
theorem first_walk (A : Option Addr) (na ca : Nat) (l : List ByteArray) (w : World) (ea : l.length = na) (hA : Kd.C Kd.string w A l.length l) (ha : l.length ≤ ca ∧ ∀ s ∈ l, s.size ≤ maxLen) :
    Calls Try.prog 9 #[.slice A na ca] w fun e w' => e = .returned (.bool true) ∧ Below w.heap.size w w' := by
  subst ea
  exact first_law w A ca l hA ha.1 ha.2
end Go.Proofs.Ytcnjdgafemgaeaa.Sym
