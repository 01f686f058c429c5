/- The reference table of kilnref6 and pairs of tables: contracts of its functions, the program beside it. Conditions: those of IsRef, PT, PR, Pair. -/
import Derived.Test.YtcnjdgafemgaeaaWalkSymbolFirst
import Derived.Outline
import Derived.Test.YtcnjdgafemgaeaaPSymbolLoadsx1
namespace Go.Proofs.Ytcnjdgafemgaeaa.Sym
open Go.RowKit Go.Maps Go.WideMaps Go.Proofs.Ytcnjdgafemgaeaa.PSymbolFirst Go.Proofs.YtcnjdgafemgaeaaW.PrintWords Go.Proofs.YtcnjdgafemgaeaaW.PrintLast Go.Proofs.YtcnjdgafemgaeaaW.PrintMore
attribute [local go_sem] max2_int min2_int max_two min_two max_three min_three max_four min_four
set_option linter.unusedVariables false
set_option linter.unusedSimpArgs false

/- The reference's table (kilnref6): contracts of its functions. Conditions: those of IsRef. -/
structure IsRef (w : World) (ok : Nat → Prop) (g : Nat) (m : Nat) (ss : List ByteArray) : Prop where
  out : ∃ v, w.heap[g]? = some (.cells #[.int .i64 (m : Int), v] 85 (0, 0)) ∧ Kd.R Kd.string 9 w 0 ok v ss ∧ ok g
  lt : ∀ i, ok i → i < w.heap.size
  good : Good m ss
theorem IsRef.move {w w' : World} {ok : Nat → Prop} {g m : Nat} {ss : List ByteArray} (T : IsRef w ok g m ss) (hs : w.heap.size ≤ w'.heap.size) (hk : ∀ i, ok i → w'.heap[i]? = w.heap[i]?) : IsRef w' ok g m ss := by
  obtain ⟨v, h, hR, hg⟩ := T.out
  exact ⟨⟨v, (hk g hg).trans h, Kd.R_move hR hk, hg⟩, fun i hi => Nat.lt_of_lt_of_le (T.lt i hi) hs, T.good⟩
theorem IsRef.keep {w w' : World} {ok ok' : Nat → Prop} {g m : Nat} {ss : List ByteArray} (T : IsRef w ok g m ss) (h : Only ok' w w') (hd : ∀ i, ok i → ¬ ok' i) : IsRef w' ok g m ss :=
  T.move h.size fun i hi => h.block i (T.lt i hi) (hd i hi)
theorem IsRef.below {w w' : World} {ok : Nat → Prop} {g m : Nat} {ss : List ByteArray} (T : IsRef w ok g m ss) (h : Below w.heap.size w w') : IsRef w' ok g m ss :=
  T.move h.size fun i hi => h.block i (T.lt i hi)
theorem IsRef.drewN {w : World} {ok : Nat → Prop} {g m : Nat} {ss : List ByteArray} (T : IsRef w ok g m ss) (n : Nat) : IsRef (w.drewN n) ok g m ss :=
  T.move (Nat.le_refl _) fun _ _ => rfl

theorem refCount_calls (w : World) (ok : Nat → Prop) (g m : Nat) (ss : List ByteArray) (T : IsRef w ok g m ss) :
    Calls Try.prog 46 #[.pointer (some ⟨g, 0, none⟩)] w fun e w' => e = .returned (.int .i64 ss.length) ∧ Drawn0 w w' := by
  obtain ⟨v, h, hR, hg⟩ := T.out
  obtain ⟨A, c, rfl⟩ := Kd.R_slice hR
  have c1 := (blk_cell h 1).trans (show _ = some (.slice A ss.length c) from rfl)
  clear h hR T hg
  go_enter Try.func46, Try.ntmps46
  go_wp2
  go_ret
  exact ⟨by first | rfl | (simp; done) | (simp [*]; done), by repeat (first | exact Drawn0.refl _ | apply Drawn0.step)⟩
theorem refCount_nil (w : World) : Calls Try.prog 46 #[.pointer none] w fun e w' => e = .returned (.int .i64 0) ∧ Drawn0 w w' := by
  go_enter Try.func46, Try.ntmps46
  go_wp2
  go_ret
  exact ⟨by first | rfl | (simp; done) | (simp [*]; done), by repeat (first | exact Drawn0.refl _ | apply Drawn0.step)⟩

/-- a call's last step, a world only drawn from -/
theorem refAt_known (w : World) (ok : Nat → Prop) (g m : Nat) (ss : List ByteArray) (s : ByteArray) (r : Int) (T : IsRef w ok g m ss) (hr : FirstIs ss s r) :
    Calls Try.prog 66 #[.pointer (some ⟨g, 0, none⟩), .string s] w fun e w' => e = .returned (.int .i64 r) ∧ Drawn0 w w' := by
  obtain ⟨v, h, hR, hg⟩ := T.out
  obtain ⟨A, c, rfl, k, hC⟩ := Kd.R_reads hR
  have c1 := (blk_cell h 1).trans (show _ = some (.slice A ss.length c) from rfl)
  have HC := Aside0.mk hC
  have HF := Aside0.mk hr
  have HN := Aside0.mk T.good.nodup
  have hl := Kd.C_max hC
  clear h hR T hg hC hr
  go_enter Try.func66, Try.ntmps66
  go_wp2_with fail
  go_loopw [5] (fun i wr => ∃ (j : Nat), i = .int .i64 (j : Int) ∧ j ≤ ss.length ∧ Aside0 (Drawn0 w wr) ∧ Aside0 (∀ q, q < j → ss[q]? ≠ some s)) (fun i _ => ss.length - (intOf i).toNat)
  case atStart => exact ⟨0, rfl, by omega, ⟨by repeat (first | exact Drawn0.refl _ | apply Drawn0.step)⟩, ⟨fun q hq => by omega⟩⟩
  case round =>
    obtain ⟨j, rfl, hj, ⟨⟨nd, rfl⟩⟩, HNO⟩ := hrel
    by_cases hlt : j < ss.length
    · have b3 : decide ((j : Int) < (ss.length : Int)) = true := decide_eq_true (by omega)
      have hat : ss[j]? = some (rdOf ByteArray.empty ss (j : Int)) := by
        unfold rdOf
        rw [Int.toNat_natCast, List.getD_eq_getElem?_getD, List.getElem?_eq_getElem hlt]; rfl
      obtain ⟨ad, rfl, hcell⟩ := Kd.at_string HC.out (j : Int) (by omega) (by omega)
      rw [Int.toNat_natCast] at hcell
      generalize rdOf ByteArray.empty ss (j : Int) = t at *
      have HAT := Aside0.mk hat
      clear hat
      by_cases e : t = s
      · have b4 : (t.toList == s.toList) = true := beq_iff_eq.2 (toList_inj.2 e)
        have hrj : r = (j : Int) := by
          rcases HF.out with ⟨i, hi, rfl⟩ | ⟨h, rfl⟩
          · have := (List.getElem?_inj (List.getElem?_eq_some_iff.1 hi).1 HN.out).1 (hi.trans (e ▸ HAT.out).symm)
            rw [this]
          · exact absurd (List.mem_of_getElem? HAT.out) (e ▸ h)
        clear e
        go_wp2
        go_ret
        subst hrj
        exact ⟨by first | rfl | (simp; done) | (simp [*]; done), by repeat (first | exact Drawn0.refl _ | apply Drawn0.step)⟩
      · have b4 : (t.toList == s.toList) = false := beq_eq_false_iff_ne.2 (fun h => e (toList_inj.1 h))
        have HE := Aside0.mk e
        clear e
        go_wp2
        go_roundw
        case rel => exact ⟨j + 1, by go_num, by omega, ⟨by repeat (first | exact Drawn0.refl _ | apply Drawn0.step)⟩, ⟨fun q hq => by
          by_cases hqj : q = j
          · subst hqj; rw [HAT.out]; intro h; exact HE.out (Option.some.inj h)
          · exact HNO.out q (by omega)⟩⟩
        case measure => simp [intOf]; omega
    · have b3 : decide ((j : Int) < (ss.length : Int)) = false := decide_eq_false (by omega)
      have hrj : r = -1 := by
        rcases HF.out with ⟨i, hi, rfl⟩ | ⟨h, rfl⟩
        · exact absurd hi (HNO.out i (by have := (List.getElem?_eq_some_iff.1 hi).1; omega))
        · rfl
      go_wp2
      go_ret
      subst hrj
      exact ⟨by first | rfl | (simp; done) | (simp [*]; done), by repeat (first | exact Drawn0.refl _ | apply Drawn0.step)⟩
theorem refFind_known (w : World) (ok : Nat → Prop) (g m : Nat) (ss : List ByteArray) (s : ByteArray) (n : Int) (b : Bool) (T : IsRef w ok g m ss) (hr : Found ss s n b) :
    Calls Try.prog 70 #[.pointer (some ⟨g, 0, none⟩), .string s] w fun e w' => e = .returned (.tuple #[.int .i64 n, .bool b]) ∧ Drawn0 w w' := by
  have HT := Aside0.mk T
  clear T
  rcases hr with ⟨i, hi, rfl, rfl⟩ | ⟨h, rfl, rfl⟩
  · have HF : Aside0 (FirstIs ss s (i : Int)) := ⟨.inl ⟨i, hi, rfl⟩⟩
    have b4 : decide ((i : Int) < 0) = false := decide_eq_false (by omega)
    clear hi
    go_enter Try.func70, Try.ntmps70
    go_wp2_with fail
    refine (refAt_known _ ok g m ss s (i : Int) (by exact HT.out) HF.out).mono ?_; rintro e w' ⟨rfl, ⟨nd, rfl⟩⟩
    go_wp2
    go_ret2
    exact ⟨by first | rfl | (simp; done) | (simp [*]; done), by repeat (first | exact Drawn0.refl _ | apply Drawn0.step)⟩
  · have HF : Aside0 (FirstIs ss s (-1)) := ⟨.inr ⟨h, rfl⟩⟩
    clear h
    go_enter Try.func70, Try.ntmps70
    go_wp2_with fail
    refine (refAt_known _ ok g m ss s (-1) (by exact HT.out) HF.out).mono ?_; rintro e w' ⟨rfl, ⟨nd, rfl⟩⟩
    go_wp2
    go_ret2
    exact ⟨by first | rfl | (simp; done) | (simp [*]; done), by repeat (first | exact Drawn0.refl _ | apply Drawn0.step)⟩
theorem refText_calls (w : World) (ok : Nat → Prop) (g m : Nat) (ss : List ByteArray) (n : Int) (T : IsRef w ok g m ss) :
    Calls Try.prog 71 #[.pointer (some ⟨g, 0, none⟩), .int .i64 n] w fun e w' => e = .returned (if 0 ≤ n ∧ n < (ss.length : Int) then .tuple #[.string (rdOf ByteArray.empty ss n), .int .i64 0] else .tuple #[.string ByteArray.empty, .int .i64 61]) ∧ Drawn0 w w' := by
  obtain ⟨v, h, hR, hg⟩ := T.out
  obtain ⟨A, c, rfl, k, hC⟩ := Kd.R_reads hR
  have c1 := (blk_cell h 1).trans (show _ = some (.slice A ss.length c) from rfl)
  have HC := Aside0.mk hC
  clear h hR T hg hC
  by_cases h0 : n < 0
  · rw [if_neg (by omega)]
    have b0 : decide (n < 0) = true := decide_eq_true h0
    clear h0
    go_enter Try.func71, Try.ntmps71
    go_wp2
    go_ret2
    exact ⟨by first | rfl | (simp; done) | (simp [*]; done), by repeat (first | exact Drawn0.refl _ | apply Drawn0.step)⟩
  · by_cases h1 : n < (ss.length : Int)
    · rw [if_pos (by omega)]
      have b0 : decide (n < 0) = false := decide_eq_false h0
      have b1 : decide ((ss.length : Int) ≤ n) = false := decide_eq_false (by omega)
      obtain ⟨ad, rfl, hcell⟩ := Kd.at_string HC.out n (by omega) h1
      have p0 := eq_true (show 0 ≤ n by omega)
      have p1 := eq_true h1
      clear h0 h1
      go_enter Try.func71, Try.ntmps71
      go_wp2
      go_ret2
      exact ⟨by first | rfl | (simp; done) | (simp [*]; done), by repeat (first | exact Drawn0.refl _ | apply Drawn0.step)⟩
    · rw [if_neg (by omega)]
      have b0 : decide (n < 0) = false := decide_eq_false h0
      have b1 : decide ((ss.length : Int) ≤ n) = true := decide_eq_true (by omega)
      clear h0 h1
      go_enter Try.func71, Try.ntmps71
      go_wp2
      go_ret2
      exact ⟨by first | rfl | (simp; done) | (simp [*]; done), by repeat (first | exact Drawn0.refl _ | apply Drawn0.step)⟩
theorem right_calls (w : World) (s : ByteArray) (b : Bool) (h : Aside0 (FitsB s b)) :
    Calls Try.prog 65 #[.string s] w fun e w' => e = .returned (.bool b) ∧ Drawn0 w w' := by
  refine PSymbolLoads.kilnref6_right.calls s b w ?_
  have h' := h.out
  unfold FitsB at h'
  unfold PSymbolLoads.kilnref6_right.f
  by_cases c : (s.size : Int) ≥ 1
  · rw [if_pos c]; congr 1
    by_cases d : (s.size : Int) ≤ 96
    · rw [decide_eq_true d]; exact (h'.2 ⟨by omega, by omega⟩).symm
    · rw [decide_eq_false d]; symm; rw [Bool.eq_false_iff]; intro hb; have := h'.1 hb; omega
  · rw [if_neg c]; congr 1; symm; rw [Bool.eq_false_iff]; intro hb; have := h'.1 hb; omega
/-- the reference's table behind a call that may have written it -/
def RTurned (w : World) (ok : Nat → Prop) (g m : Nat) (ss' : List ByteArray) (w' : World) : Prop :=
  ∃ ok', IsRef w' ok' g m ss' ∧ (∀ i, ok' i → ok i ∨ w.heap.size ≤ i) ∧ Only ok w w'
theorem rturned_same {w w' : World} {ok : Nat → Prop} {g m : Nat} {ss : List ByteArray} (T : IsRef w ok g m ss) (hd : Drawn0 w w') : RTurned w ok g m ss w' := by
  obtain ⟨nd, rfl⟩ := hd
  exact ⟨ok, T.drewN nd, fun i h => .inl h, (Only.refl ok w).drewN nd⟩
theorem rturned_put {w w1 : World} {ok : Nat → Prop} {g m nd c1 : Nat} {ss ss' : List ByteArray} {v : Value} {A1 : Option Addr} (T : IsRef w ok g m ss)
    (h : w.heap[g]? = some (.cells #[.int .i64 (m : Int), v] 85 (0, 0))) (hR : Kd.R Kd.string 9 w 0 ok v ss) (hg : ok g) (hG : Good m ss')
    (hown : Kd.R Kd.string 9 w1 0 (fun k => ok k ∨ w.heap.size ≤ k) (.slice A1 ss'.length c1) ss') (hgw : (w.drewN nd).grownBy w1 v.ownBlock) :
    RTurned w ok g m ss' (w1.setCell ⟨g, 1, none⟩ (.slice A1 ss'.length c1)) := by
  have hblk := blk_grown (w := w.drewN nd) h hgw (Kd.R_ne hR h (by decide))
  have hO : Only ok w (w1.setCell ⟨g, 1, none⟩ (.slice A1 ss'.length c1)) := (((Only.refl ok w).drewN nd).grown hgw (fun k hk _ => hR.1 k hk)).setCell (p := ⟨g, 1, none⟩) (fun _ => hg) _
  have hb2 := blk_put hblk 1 (.slice A1 ss'.length c1) rfl
  have hr2 := Kd.R_set hown hblk (by decide) 1 (.slice A1 ss'.length c1)
  exact ⟨fun k => (ok k ∨ w.heap.size ≤ k) ∧ k < (w1.setCell ⟨g, 1, none⟩ (.slice A1 ss'.length c1)).heap.size, ⟨⟨_, hb2, Kd.R_mono (Kd.R_bound hr2) (fun k hk => ⟨hk.1, hk.2.2.1⟩), ⟨.inl hg, blk_lt hb2⟩⟩, fun _ h => h.2, hG⟩, fun _ h => h.1, hO⟩
theorem good_snoc {m : Nat} {ss : List ByteArray} {s : ByteArray} (h : Good m ss) (h1 : 1 ≤ s.size ∧ s.size ≤ 96) (hn : s ∉ ss) (hm : ss.length < m) : Good m (ss ++ [s]) :=
  ⟨nodup_snoc h.nodup hn, fun t ht => by
      rcases List.mem_append.1 ht with k | k
      · exact h.fits t k
      · simp at k; subst k; exact h1, by simp; omega, h.cap⟩
set_option maxHeartbeats 2000000 in
theorem refAdd_new (w : World) (ok : Nat → Prop) (g m : Nat) (ss : List ByteArray) (s : ByteArray) (T : IsRef w ok g m ss) (hs : 1 ≤ s.size ∧ s.size ≤ 96) (hn : s ∉ ss) (hm : ss.length < m) :
    Calls Try.prog 44 #[.pointer (some ⟨g, 0, none⟩), .string s] w fun e w' => e = .returned (.tuple #[.int .i64 (ss.length : Int), .int .i64 0]) ∧ RTurned w ok g m (ss ++ [s]) w' := by
  obtain ⟨v, h, hR, hg⟩ := T.out
  obtain ⟨A, c, rfl⟩ := Kd.R_slice hR
  have c0 := (blk_cell h 0).trans (show _ = some (.int .i64 (m : Int)) from rfl)
  have c1 := (blk_cell h 1).trans (show _ = some (.slice A ss.length c) from rfl)
  have H := Aside0.mk h
  have HR := Aside0.mk hR
  have HG := Aside0.mk hg
  have HT := Aside0.mk T
  have HGD := Aside0.mk (good_snoc T.good hs hn hm)
  have hl : ss.length ≤ 4096 := by have := T.good.le; have := T.good.cap; omega
  have hfit : Aside0 (FitsB s true) := ⟨⟨fun _ => hs, fun _ => rfl⟩⟩
  have hfi : Aside0 (FirstIs ss s (-1)) := ⟨.inr ⟨hn, rfl⟩⟩
  have b2 : decide ((m : Int) ≤ (ss.length : Int)) = false := decide_eq_false (by omega)
  have hw : wrap64 (((ss.length + 1 : Nat) : Int) - 1) = (ss.length : Int) := by unfold wrap64; omega
  clear h hR T hg hs hn
  go_enter Try.func44, Try.ntmps44
  go_wp2_with fail
  refine (right_calls _ s true hfit).mono ?_; rintro e w' ⟨rfl, ⟨nd, rfl⟩⟩
  go_wp2_with fail
  refine (refAt_known _ ok g m ss s (-1) (by exact HT.out.drewN _) hfi.out).mono ?_; rintro e w' ⟨rfl, ⟨ndb, rfl⟩⟩
  go_wp2_with fail
  go_quiet (fail)
  go_wp2_with (first
    | (at_builtin; refine Kd.R_append Kd.string (w0 := w) 0 rfl (.tmp 32) (.tmp 34) 36 9 (.string ⟨#[]⟩) 16 rfl Try.underlying36 info9 rfl (by decide) (by omega) (.slice A ss.length c) ss s [.string s] (fun k => ok k ∨ w.heap.size ≤ k) (fun _ => False) rfl rfl rfl (fun _ hk => hk.elim) (fun k hk => .inr (by exact hk)) (by exact Kd.R_mono HR.out (fun k hk => .inl hk)) (by exact pw_below_drewN (Below.refl _ _) _) (Nat.zero_le _) (by omega) ?_; intro v1 w1 hown hb hgw hat; obtain ⟨A1, cc1, rfl⟩ := Kd.R_slice hown; have hblk := blk_grown (w := w.drewN _) (by exact H.out) hgw (Kd.R_ne HR.out H.out (by decide)); have e0 := (blk_cell hblk 0).trans (show _ = some (.int .i64 (m : Int)) from rfl); have e1 := (blk_cell hblk 1).trans (show _ = some (.slice A ss.length c) from rfl); have e3 := blk_frozen hblk 1; have HOW := Aside0.mk hown; have HGW := Aside0.mk hgw; clear hblk hown hgw hat hb c0 c1)
    | go_in)
  go_ret2
  exact ⟨by first | rfl | (simp; done) | (simp [*]; done), by have := rturned_put HT.out H.out HR.out HG.out HGD.out HOW.out HGW.out; simpa using this⟩

theorem refAdd_bad (w : World) (ok : Nat → Prop) (g m : Nat) (ss : List ByteArray) (s : ByteArray) (T : IsRef w ok g m ss) (hs : ¬ (1 ≤ s.size ∧ s.size ≤ 96)) :
    Calls Try.prog 44 #[.pointer (some ⟨g, 0, none⟩), .string s] w fun e w' => e = .returned (.tuple #[.int .i64 0, .int .i64 61]) ∧ Drawn0 w w' := by
  have hfit : Aside0 (FitsB s false) := ⟨⟨(fun h => by cases h), fun h => absurd h hs⟩⟩
  clear hs
  go_enter Try.func44, Try.ntmps44
  go_wp2_with fail
  refine (right_calls _ s false hfit).mono ?_; rintro e w' ⟨rfl, ⟨nd, rfl⟩⟩
  go_wp2
  go_ret2
  exact ⟨by first | rfl | (simp; done) | (simp [*]; done), by repeat (first | exact Drawn0.refl _ | apply Drawn0.step)⟩
theorem refAdd_there (w : World) (ok : Nat → Prop) (g m : Nat) (ss : List ByteArray) (s : ByteArray) (T : IsRef w ok g m ss) (hs : 1 ≤ s.size ∧ s.size ≤ 96) (i : Nat) (hi : ss[i]? = some s) :
    Calls Try.prog 44 #[.pointer (some ⟨g, 0, none⟩), .string s] w fun e w' => e = .returned (.tuple #[.int .i64 (i : Int), .int .i64 0]) ∧ Drawn0 w w' := by
  have hfit : Aside0 (FitsB s true) := ⟨⟨fun _ => hs, fun _ => rfl⟩⟩
  have hfi : Aside0 (FirstIs ss s (i : Int)) := ⟨.inl ⟨i, hi, rfl⟩⟩
  have HT := Aside0.mk T
  have b2 : decide (0 ≤ (i : Int)) = true := decide_eq_true (by omega)
  clear hs hi T
  go_enter Try.func44, Try.ntmps44
  go_wp2_with fail
  refine (right_calls _ s true hfit).mono ?_; rintro e w' ⟨rfl, ⟨nd, rfl⟩⟩
  go_wp2_with fail
  refine (refAt_known _ ok g m ss s (i : Int) (by exact HT.out.drewN _) hfi.out).mono ?_; rintro e w' ⟨rfl, ⟨ndb, rfl⟩⟩
  go_wp2
  go_ret2
  exact ⟨by first | rfl | (simp; done) | (simp [*]; done), by repeat (first | exact Drawn0.refl _ | apply Drawn0.step)⟩
theorem refAdd_full (w : World) (ok : Nat → Prop) (g m : Nat) (ss : List ByteArray) (s : ByteArray) (T : IsRef w ok g m ss) (hs : 1 ≤ s.size ∧ s.size ≤ 96) (hn : s ∉ ss) (hm : m ≤ ss.length) :
    Calls Try.prog 44 #[.pointer (some ⟨g, 0, none⟩), .string s] w fun e w' => e = .returned (.tuple #[.int .i64 0, .int .i64 60]) ∧ Drawn0 w w' := by
  obtain ⟨v, h, hR, hg⟩ := T.out
  obtain ⟨A, c, rfl⟩ := Kd.R_slice hR
  have c0 := (blk_cell h 0).trans (show _ = some (.int .i64 (m : Int)) from rfl)
  have c1 := (blk_cell h 1).trans (show _ = some (.slice A ss.length c) from rfl)
  have HT := Aside0.mk T
  have hfit : Aside0 (FitsB s true) := ⟨⟨fun _ => hs, fun _ => rfl⟩⟩
  have hfi : Aside0 (FirstIs ss s (-1)) := ⟨.inr ⟨hn, rfl⟩⟩
  have b2 : decide ((m : Int) ≤ (ss.length : Int)) = true := decide_eq_true (by omega)
  clear h hR T hg hs hn
  go_enter Try.func44, Try.ntmps44
  go_wp2_with fail
  refine (right_calls _ s true hfit).mono ?_; rintro e w' ⟨rfl, ⟨nd, rfl⟩⟩
  go_wp2_with fail
  refine (refAt_known _ ok g m ss s (-1) (by exact HT.out.drewN _) hfi.out).mono ?_; rintro e w' ⟨rfl, ⟨ndb, rfl⟩⟩
  go_wp2_with fail
  go_quiet (fail)
  go_wp2
  go_ret2
  exact ⟨by first | rfl | (simp; done) | (simp [*]; done), by repeat (first | exact Drawn0.refl _ | apply Drawn0.step)⟩
/-- Add of the reference: the same answer as the program's -/
theorem refAdd_calls (w : World) (ok : Nat → Prop) (g m : Nat) (ss : List ByteArray) (s : ByteArray) (n e0 : Int) (ss' : List ByteArray) (T : IsRef w ok g m ss) (h : AddIs m ss s n e0 ss') :
    Calls Try.prog 44 #[.pointer (some ⟨g, 0, none⟩), .string s] w fun e w' => e = .returned (.tuple #[.int .i64 n, .int .i64 e0]) ∧ RTurned w ok g m ss' w' := by
  cases h with
  | bad hb => exact (refAdd_bad w ok g m ss s T hb).mono fun e w' h => ⟨h.1, rturned_same T h.2⟩
  | there hb i hi => exact (refAdd_there w ok g m ss s T hb i hi).mono fun e w' h => ⟨h.1, rturned_same T h.2⟩
  | full hb hn hm => exact (refAdd_full w ok g m ss s T hb hn hm).mono fun e w' h => ⟨h.1, rturned_same T h.2⟩
  | new hb hn hm => exact refAdd_new w ok g m ss s T hb hn hm
theorem refNew_bad (w : World) (n : Int) (h : ¬ (0 ≤ n ∧ n ≤ 4096)) :
    Calls Try.prog 64 #[.int .i64 n] w fun e w' => e = .returned (.tuple #[.pointer none, .int .i64 1]) ∧ Drawn0 w w' := by
  by_cases h0 : n < 0
  · have b0 : decide (n < 0) = true := decide_eq_true h0
    clear h h0
    go_enter Try.func64, Try.ntmps64
    go_wp2
    go_ret2
    exact ⟨by first | rfl | (simp; done) | (simp [*]; done), by repeat (first | exact Drawn0.refl _ | apply Drawn0.step)⟩
  · have b0 : decide (n < 0) = false := decide_eq_false h0
    have b1 : decide (4096 < n) = true := decide_eq_true (by omega)
    clear h h0
    go_enter Try.func64, Try.ntmps64
    go_wp2
    go_ret2
    exact ⟨by first | rfl | (simp; done) | (simp [*]; done), by repeat (first | exact Drawn0.refl _ | apply Drawn0.step)⟩
theorem refNew_ok (w : World) (m : Nat) (h : m ≤ 4096) :
    Calls Try.prog 64 #[.int .i64 (m : Int)] w fun e w' => ∃ g ok, e = .returned (.tuple #[.pointer (some ⟨g, 0, none⟩), .int .i64 0]) ∧ IsRef w' ok g m [] ∧ (∀ i, ok i → w.heap.size ≤ i) ∧ Below w.heap.size w w' := by
  have b0 : decide ((m : Int) < 0) = false := decide_eq_false (by omega)
  have b1 : decide (4096 < (m : Int)) = false := decide_eq_false (by omega)
  go_enter Try.func64, Try.ntmps64
  go_wp2
  go_ret2
  refine ⟨w.heap.size, fun i => i = w.heap.size, rfl, ⟨⟨.slice none 0 0, ?_, Kd.R_nil _ _ _ _ _, rfl⟩, ?_, ⟨List.nodup_nil, fun _ h => by simp at h, Nat.zero_le _, h⟩⟩, ?_, ?_⟩
  · have := heap_alloc_new w (.cells #[.int .i64 (m : Int), .slice none 0 0] 85)
    simpa using this
  · rintro i rfl
    simp
  · rintro i rfl; omega
  · exact below_alloc (Below.refl _ _) _
theorem refAdd_nil (w : World) (s : ByteArray) : Calls Try.prog 44 #[.pointer none, .string s] w fun e w' => e = .returned (.tuple #[.int .i64 0, .int .i64 2]) ∧ Drawn0 w w' := by
  go_enter Try.func44, Try.ntmps44
  go_wp2
  go_ret2
  exact ⟨by first | rfl | (simp; done) | (simp [*]; done), by repeat (first | exact Drawn0.refl _ | apply Drawn0.step)⟩
theorem refFind_nil (w : World) (s : ByteArray) : Calls Try.prog 70 #[.pointer none, .string s] w fun e w' => e = .returned (.tuple #[.int .i64 0, .bool false]) ∧ Drawn0 w w' := by
  go_enter Try.func70, Try.ntmps70
  go_wp2
  go_ret2
  exact ⟨by first | rfl | (simp; done) | (simp [*]; done), by repeat (first | exact Drawn0.refl _ | apply Drawn0.step)⟩
theorem refText_nil (w : World) (n : Int) : Calls Try.prog 71 #[.pointer none, .int .i64 n] w fun e w' => e = .returned (.tuple #[.string ByteArray.empty, .int .i64 2]) ∧ Drawn0 w w' := by
  go_enter Try.func71, Try.ntmps71
  go_wp2
  go_ret2
  exact ⟨by first | rfl | (simp; done) | (simp [*]; done), by repeat (first | exact Drawn0.refl _ | apply Drawn0.step)⟩
theorem refBack_nil (w : World) (n : Int) : Calls Try.prog 72 #[.pointer none, .int .i64 n] w fun e w' => e = .returned (.int .i64 2) ∧ Drawn0 w w' := by
  go_enter Try.func72, Try.ntmps72
  go_wp2
  go_ret
  exact ⟨by first | rfl | (simp; done) | (simp [*]; done), by repeat (first | exact Drawn0.refl _ | apply Drawn0.step)⟩
theorem take_snoc (l : List ByteArray) (j : Nat) (hj : j < l.length) : l.take (j + 1) = l.take j ++ [rdOf ByteArray.empty l (j : Int)] := by
  unfold rdOf
  rw [Int.toNat_natCast, List.getD_eq_getElem?_getD, List.getElem?_eq_getElem hj, List.take_add_one, List.getElem?_eq_getElem hj]; rfl
theorem refAll_nil (w : World) : Calls Try.prog 42 #[.pointer none] w fun e w' => e = .returned (.slice none 0 0) ∧ Drawn0 w w' := by
  go_enter Try.func42, Try.ntmps42
  go_wp2_with fail
  go_loopw [3, 4] (fun v i wr => v = .slice none 0 0 ∧ i = .int .i64 0 ∧ Aside0 (Drawn0 w wr)) (fun _ i _ => 0)
  case atStart => exact ⟨rfl, rfl, ⟨by repeat (first | exact Drawn0.refl _ | apply Drawn0.step)⟩⟩
  case round =>
    obtain ⟨rfl, rfl, ⟨⟨nd, rfl⟩⟩⟩ := hrel
    go_wp2
    go_ret
    exact ⟨by first | rfl | (simp; done) | (simp [*]; done), by repeat (first | exact Drawn0.refl _ | apply Drawn0.step)⟩
set_option maxHeartbeats 2000000 in
/-- All: the texts in new memory -/
theorem refAll_calls (w : World) (ok : Nat → Prop) (g m : Nat) (ss : List ByteArray) (T : IsRef w ok g m ss) :
    Calls Try.prog 42 #[.pointer (some ⟨g, 0, none⟩)] w fun e w' => ∃ v, e = .returned v ∧ Kd.R Kd.string 9 w' w.heap.size (fun _ => True) v ss ∧ Below w.heap.size w w' := by
  have HT := Aside0.mk T
  have hl : ss.length ≤ 4096 := by have := T.good.le; have := T.good.cap; omega
  clear T
  go_enter Try.func42, Try.ntmps42
  go_wp2_with fail
  go_loopw [3, 4] (fun v i wr => ∃ (j : Nat) (xs : List ByteArray), i = .int .i64 (j : Int) ∧ j ≤ ss.length ∧ Aside0 (xs = ss.take j) ∧ Aside0 (Below w.heap.size w wr) ∧ Aside0 (Kd.R Kd.string 9 wr w.heap.size (fun _ => True) v xs)) (fun _ i _ => ss.length - (intOf i).toNat)
  case atStart => exact ⟨0, [], rfl, by omega, ⟨rfl⟩, ⟨by repeat (first | exact Below.refl _ _ | apply pw_below_drewN)⟩, ⟨Kd.R_nil _ _ _ _ _⟩⟩
  case round =>
    obtain ⟨j, xs, rfl, hj, HX, HB, HR⟩ := hrel
    obtain ⟨v, h, hR, hg⟩ := (HT.out.below HB.out).out
    obtain ⟨A, c, rfl, k, hC⟩ := Kd.R_reads hR
    have c1 := (blk_cell h 1).trans (show _ = some (.slice A ss.length c) from rfl)
    have HC := Aside0.mk hC
    clear h hR hC hg
    by_cases hlt : j < ss.length
    · have b3 : decide ((j : Int) < (ss.length : Int)) = true := decide_eq_true (by omega)
      have hsn := take_snoc ss j hlt
      obtain ⟨ad, rfl, hcell⟩ := Kd.at_string HC.out (j : Int) (by omega) (by omega)
      rw [Int.toNat_natCast] at hcell
      generalize rdOf ByteArray.empty ss (j : Int) = t at *
      have HS := Aside0.mk hsn
      clear hsn
      obtain ⟨A5, c5, rfl⟩ := Kd.R_slice HR.out
      have hxl : xs.length ≤ 4096 := by rw [HX.out, List.length_take]; omega
      have hbs := HB.out.size
      go_wp2_with (at_builtin; refine Kd.R_append Kd.string (w0 := w) w.heap.size rfl (.tmp 18) (.tmp 26) 36 9 (.string ⟨#[]⟩) 16 rfl Try.underlying36 info9 rfl (by decide) (by omega) (.slice A5 xs.length c5) xs t [.string t] (fun _ => True) (fun _ => False) rfl rfl rfl (fun _ hk => hk.elim) (fun _ _ => trivial) (by exact HR.out) (by exact HB.out) (by exact hbs) (by omega) ?_; intro v1 w1 hown hb hgw hat; have HOW := Aside0.mk hown; have HB1 := Aside0.mk hb; clear hown hgw hat hb)
      go_roundw
      case rel => exact ⟨j + 1, xs ++ [t], by go_num, by omega, ⟨by rw [HS.out, HX.out]⟩, HB1, HOW⟩
      case measure => simp [intOf]; omega
    · have b3 : decide ((j : Int) < (ss.length : Int)) = false := decide_eq_false (by omega)
      have ht : ss.take j = ss := List.take_of_length_le (by omega)
      obtain rfl := HX.out.trans ht
      go_wp2
      go_ret
      exact ⟨_, rfl, HR.out, HB.out⟩
theorem rturned_fresh {w wr : World} {ok : Nat → Prop} {g m c1 : Nat} {ss' : List ByteArray} {v : Value} {A1 : Option Addr} (hB : Below w.heap.size w wr)
    (h : wr.heap[g]? = some (.cells #[.int .i64 (m : Int), v] 85 (0, 0))) (hg : ok g) (hG : Good m ss')
    (hown : Kd.R Kd.string 9 wr w.heap.size (fun _ => True) (.slice A1 ss'.length c1) ss') :
    RTurned w ok g m ss' (wr.setCell ⟨g, 1, none⟩ (.slice A1 ss'.length c1)) := by
  have hO : Only ok w (wr.setCell ⟨g, 1, none⟩ (.slice A1 ss'.length c1)) := ((Only.refl ok w).below hB).setCell (p := ⟨g, 1, none⟩) (fun _ => hg) _
  have hb2 := blk_put h 1 (.slice A1 ss'.length c1) rfl
  have hr2 := Kd.R_set hown h (by decide) 1 (.slice A1 ss'.length c1)
  exact ⟨fun k => (ok k ∨ w.heap.size ≤ k) ∧ k < (wr.setCell ⟨g, 1, none⟩ (.slice A1 ss'.length c1)).heap.size, ⟨⟨_, hb2, Kd.R_lower (Kd.R_mono (Kd.R_bound hr2) (fun k hk => ⟨.inr hk.2.1, hk.2.2.1⟩)) (Nat.zero_le _), ⟨.inl hg, blk_lt hb2⟩⟩, fun _ h => h.2, hG⟩, fun _ h => h.1, hO⟩
theorem refBack_bad (w : World) (ok : Nat → Prop) (g m : Nat) (ss : List ByteArray) (n : Int) (T : IsRef w ok g m ss) (h1 : n < 0 ∨ (ss.length : Int) < n) :
    Calls Try.prog 72 #[.pointer (some ⟨g, 0, none⟩), .int .i64 n] w fun e w' => e = .returned (.int .i64 1) ∧ Drawn0 w w' := by
  obtain ⟨v, h, hR, hg⟩ := T.out
  obtain ⟨A, c, rfl⟩ := Kd.R_slice hR
  have c1 := (blk_cell h 1).trans (show _ = some (.slice A ss.length c) from rfl)
  clear h hR T hg
  by_cases h0 : n < 0
  · have b0 : decide (n < 0) = true := decide_eq_true h0
    go_enter Try.func72, Try.ntmps72
    go_wp2
    go_ret
    exact ⟨by first | rfl | (simp; done) | (simp [*]; done), by repeat (first | exact Drawn0.refl _ | apply Drawn0.step)⟩
  · have b0 : decide (n < 0) = false := decide_eq_false h0
    have b1 : decide ((ss.length : Int) < n) = true := decide_eq_true (by omega)
    go_enter Try.func72, Try.ntmps72
    go_wp2
    go_ret
    exact ⟨by first | rfl | (simp; done) | (simp [*]; done), by repeat (first | exact Drawn0.refl _ | apply Drawn0.step)⟩
theorem good_take {m : Nat} {ss : List ByteArray} (h : Good m ss) (n : Nat) : Good m (ss.take n) :=
  ⟨h.nodup.sublist (List.take_sublist _ _), fun t ht => h.fits t (List.mem_of_mem_take ht), by rw [List.length_take]; have := h.le; omega, h.cap⟩
set_option maxHeartbeats 2000000 in
theorem refBack_ok (w : World) (ok : Nat → Prop) (g m : Nat) (ss : List ByteArray) (n : Nat) (T : IsRef w ok g m ss) (h1 : n ≤ ss.length) :
    Calls Try.prog 72 #[.pointer (some ⟨g, 0, none⟩), .int .i64 (n : Int)] w fun e w' => e = .returned (.int .i64 0) ∧ RTurned w ok g m (ss.take n) w' := by
  have HT := Aside0.mk T
  have hl : ss.length ≤ 4096 := by have := T.good.le; have := T.good.cap; omega
  have b0 : decide ((n : Int) < 0) = false := decide_eq_false (by omega)
  have b1 : decide ((ss.length : Int) < (n : Int)) = false := decide_eq_false (by omega)
  have b1n : decide (ss.length < n) = false := decide_eq_false (by omega)
  obtain ⟨v, h, hR, hg⟩ := T.out
  obtain ⟨A, c, rfl⟩ := Kd.R_slice hR
  have c1 := (blk_cell h 1).trans (show _ = some (.slice A ss.length c) from rfl)
  have HH := Aside0.mk h
  have HRR := Aside0.mk hR
  have HG := Aside0.mk hg
  clear T h hR hg
  go_enter Try.func72, Try.ntmps72
  go_wp2_with fail
  go_loopw [5, 6] (fun v i wr => ∃ (j : Nat) (xs : List ByteArray), i = .int .i64 (j : Int) ∧ j ≤ n ∧ Aside0 (xs = ss.take j) ∧ Aside0 (Below w.heap.size w wr) ∧ Aside0 (Kd.R Kd.string 9 wr w.heap.size (fun _ => True) v xs)) (fun _ i _ => n - (intOf i).toNat)
  case atStart => exact ⟨0, [], rfl, by omega, ⟨rfl⟩, ⟨by repeat (first | exact Below.refl _ _ | apply pw_below_drewN)⟩, ⟨Kd.R_nil _ _ _ _ _⟩⟩
  case round =>
    clear c1
    obtain ⟨j, xs, rfl, hj, HX, HB, HR⟩ := hrel
    obtain ⟨A5, c5, rfl⟩ := Kd.R_slice HR.out
    by_cases hlt : j < n
    · have b3 : decide ((j : Int) < (n : Int)) = true := decide_eq_true (by omega)
      have hsn := take_snoc ss j (by omega)
      obtain ⟨v, h, hR, hg⟩ := (HT.out.below HB.out).out
      obtain ⟨A, c, rfl, k, hC⟩ := Kd.R_reads hR
      have c1 := (blk_cell h 1).trans (show _ = some (.slice A ss.length c) from rfl)
      have HC := Aside0.mk hC
      clear h hR hC hg
      have p1 := eq_true (show (j : Int) < (ss.length : Int) by omega)
      have p2 : j < ss.length := by omega
      have p3 := eq_true p2
      obtain ⟨ad, rfl, hcell⟩ := Kd.at_string HC.out (j : Int) (by omega) (by omega)
      rw [Int.toNat_natCast] at hcell
      generalize rdOf ByteArray.empty ss (j : Int) = t at *
      have HS := Aside0.mk hsn
      clear hsn
      have hxl : xs.length ≤ 4096 := by rw [HX.out, List.length_take]; omega
      have hbs := HB.out.size
      go_wp2_with (at_builtin; refine Kd.R_append Kd.string (w0 := w) w.heap.size rfl (.tmp 25) (.tmp 33) 36 9 (.string ⟨#[]⟩) 16 rfl Try.underlying36 info9 rfl (by decide) (by omega) (.slice A5 xs.length c5) xs t [.string t] (fun _ => True) (fun _ => False) rfl rfl rfl (fun _ hk => hk.elim) (fun _ _ => trivial) (by exact HR.out) (by exact HB.out) (by exact hbs) (by omega) ?_; intro v1 w1 hown hb hgw hat; have HOW := Aside0.mk hown; have HB1 := Aside0.mk hb; clear hown hgw hat hb)
      go_roundw
      case rel => exact ⟨j + 1, xs ++ [t], by go_num, by omega, ⟨by rw [HS.out, HX.out]⟩, HB1, HOW⟩
      case measure => simp [intOf]; omega
    · have b3 : decide ((j : Int) < (n : Int)) = false := decide_eq_false (by omega)
      have hjn : j = n := by omega
      subst hjn
      have hblk := blk_below HH.out HB.out
      have f1 := blk_frozen hblk 1
      have c1 := (blk_cell hblk 1).trans (show _ = some (.slice A ss.length _) from rfl)
      have HBK := Aside0.mk hblk
      clear hblk
      go_wp2
      go_ret
      obtain rfl := HX.out
      exact ⟨by first | rfl | (simp; done) | (simp [*]; done), rturned_fresh HB.out HBK.out HG.out (good_take HT.out.good j) HR.out⟩
theorem refLoad_bad (w : World) (A : Option Addr) (c : Nat) (l : List ByteArray) (n : Int) (h : ¬ (0 ≤ n ∧ n ≤ 4096)) :
    Calls Try.prog 37 #[.slice A l.length c, .int .i64 n] w fun e w' => e = .returned (.tuple #[.pointer none, .int .i64 1]) ∧ Drawn0 w w' := by
  go_enter Try.func37, Try.ntmps37
  go_wp2_with fail
  refine (refNew_bad _ n h).mono ?_; rintro e w' ⟨rfl, ⟨nd, rfl⟩⟩
  go_wp2
  go_ret2
  exact ⟨by first | rfl | (simp; done) | (simp [*]; done), by repeat (first | exact Drawn0.refl _ | apply Drawn0.step)⟩
theorem refLoad_long (w : World) (A : Option Addr) (c : Nat) (l : List ByteArray) (m : Nat) (h : m ≤ 4096) (hl : m < l.length) :
    Calls Try.prog 37 #[.slice A l.length c, .int .i64 (m : Int)] w fun e w' => e = .returned (.tuple #[.pointer none, .int .i64 60]) ∧ Below w.heap.size w w' := by
  have b1 : decide ((m : Int) < (l.length : Int)) = true := decide_eq_true (by omega)
  go_enter Try.func37, Try.ntmps37
  go_wp2_with fail
  refine (refNew_ok _ m h).mono ?_; rintro e w1 ⟨g, ok, rfl, T, hok, hB⟩
  have HB := Aside0.mk hB
  clear T hok hB
  go_wp2
  go_ret2
  exact ⟨by first | rfl | (simp; done) | (simp [*]; done), by repeat (first | exact HB.out | apply pw_below_drewN)⟩
theorem symLoad_bad (w : World) (A : Option Addr) (c : Nat) (l : List ByteArray) (n : Int) (h : ¬ (0 ≤ n ∧ n ≤ 4096)) :
    Calls Try.prog 36 #[.slice A l.length c, .int .i64 n] w fun e w' => e = .returned (.tuple #[.pointer none, .int .i64 1]) ∧ Drawn0 w w' := by
  go_enter Try.func36, Try.ntmps36
  go_wp2_with fail
  refine (new_bad _ n h).mono ?_; rintro e w' ⟨rfl, ⟨nd, rfl⟩⟩
  go_wp2
  go_ret2
  exact ⟨by first | rfl | (simp; done) | (simp [*]; done), by repeat (first | exact Drawn0.refl _ | apply Drawn0.step)⟩
theorem symLoad_long (w : World) (A : Option Addr) (c : Nat) (l : List ByteArray) (m : Nat) (h : m ≤ 4096) (hl : m < l.length) :
    Calls Try.prog 36 #[.slice A l.length c, .int .i64 (m : Int)] w fun e w' => e = .returned (.tuple #[.pointer none, .int .i64 60]) ∧ Below w.heap.size w w' := by
  have b1 : decide ((m : Int) < (l.length : Int)) = true := decide_eq_true (by omega)
  go_enter Try.func36, Try.ntmps36
  go_wp2_with fail
  refine (new_ok _ m h).mono ?_; rintro e w1 ⟨g, ok, rfl, T, hok, hB⟩
  have HB := Aside0.mk hB
  clear T hok hB
  go_wp2
  go_ret2
  exact ⟨by first | rfl | (simp; done) | (simp [*]; done), by repeat (first | exact HB.out | apply pw_below_drewN)⟩
/-- a list that a table may be made of -/
def LoadOk (l : List ByteArray) : Prop := l.Nodup ∧ ∀ s ∈ l, 1 ≤ s.size ∧ s.size ≤ 96
theorem not_ok_fits {l : List ByteArray} {j : Nat} (h : j < l.length) (hb : ¬ (1 ≤ (rdOf ByteArray.empty l (j : Int)).size ∧ (rdOf ByteArray.empty l (j : Int)).size ≤ 96)) : ¬ LoadOk l := fun k => hb (k.2 _ (rd_mem l j h))
theorem not_ok_twice {l : List ByteArray} {j i : Nat} (h : j < l.length) (hi : (l.take j)[i]? = some (rdOf ByteArray.empty l (j : Int))) : ¬ LoadOk l := by
  rintro ⟨k, _⟩
  have hij : i < j := by have := (List.getElem?_eq_some_iff.1 hi).1; rw [List.length_take] at this; omega
  rw [List.getElem?_take_of_lt hij] at hi
  have hat : l[j]? = some (rdOf ByteArray.empty l (j : Int)) := by
    unfold rdOf
    rw [Int.toNat_natCast, List.getD_eq_getElem?_getD, List.getElem?_eq_getElem h]; rfl
  have := (List.getElem?_inj (List.getElem?_eq_some_iff.1 hi).1 k).1 (hi.trans hat.symm)
  omega
set_option maxHeartbeats 2000000 in
theorem symLoad_loop (w : World) (A : Option Addr) (c : Nat) (l : List ByteArray) (m : Nat) (h : m ≤ 4096) (hl : l.length ≤ m) (hC : Kd.C Kd.string w A l.length l) (hc : l.length ≤ c) :
    Calls Try.prog 36 #[.slice A l.length c, .int .i64 (m : Int)] w fun e w' => (LoadOk l ∧ ∃ g ok, e = .returned (.tuple #[.pointer (some ⟨g, 0, none⟩), .int .i64 0]) ∧ IsTable w' ok g m l ∧ (∀ i, ok i → w.heap.size ≤ i) ∧ Below w.heap.size w w') ∨ (¬ LoadOk l ∧ e = .returned (.tuple #[.pointer none, .int .i64 61]) ∧ Below w.heap.size w w') := by
  have b1 : decide ((m : Int) < (l.length : Int)) = false := decide_eq_false (by omega)
  have b1n : decide (m < l.length) = false := decide_eq_false (by omega)
  have HC := Aside0.mk hC
  clear hC
  go_enter Try.func36, Try.ntmps36
  go_wp2_with fail
  refine (new_ok _ m h).mono ?_; rintro e w1 ⟨g, ok, rfl, T, hok, hB⟩
  have HM : Aside0 (Mine w.heap.size w g m [] ok w1) := ⟨⟨T, hok, hB⟩⟩
  clear T hok hB
  go_wp2_with fail
  go_loopw [28] (fun i wr => ∃ (xs : List ByteArray) (ok : Nat → Prop), i = .int .i64 (xs.length : Int) ∧ xs.length ≤ l.length ∧ Aside0 (xs = l.take xs.length) ∧ Aside0 (Mine w.heap.size w g m xs ok wr))
    (fun i _ => l.length - (intOf i).toNat)
  case atStart => exact ⟨[], ok, rfl, by simp, ⟨rfl⟩, HM⟩
  case round =>
    clear HM
    obtain ⟨xs, ok', rfl, hj, HX, hM⟩ := hrel
    by_cases hlt : xs.length < l.length
    · have b3 : decide ((xs.length : Int) < (l.length : Int)) = true := decide_eq_true (by omega)
      have b3n : decide (xs.length < l.length) = true := decide_eq_true hlt
      obtain ⟨ad, rfl, hcell⟩ := Kd.at_string (Kd.C_below HC.out hM.out.below) (xs.length : Int) (by omega) (by omega)
      rw [Int.toNat_natCast] at hcell
      have hsn := take_snoc l xs.length hlt
      rw [← HX.out] at hsn
      have hbad := fun hb => not_ok_fits hlt hb
      have htw := fun i hi => not_ok_twice (i := i) hlt hi
      rw [← HX.out] at htw
      generalize rdOf ByteArray.empty l (xs.length : Int) = s at *
      have HS := Aside0.mk hsn
      have HBAD := Aside0.mk hbad
      have HTW := Aside0.mk htw
      clear hsn hbad htw
      go_wp2_with fail
      refine (add_calls _ ok' g m xs s (by exact hM.out.table)).mono ?_
      rintro e w2 ⟨n0, e0, ss', ha, rfl, ht⟩
      obtain ⟨ok2, h2, _, _⟩ := hM.out.turned (Nat.le_refl _) ht
      have HM2 := Aside0.mk h2
      clear h2 ht hcell
      cases ha with
      | bad hb =>
        have HN := Aside0.mk (HBAD.out hb)
        clear hb
        go_wp2
        go_ret2
        exact .inr ⟨HN.out, by first | rfl | (simp; done) | (simp [*]; done), HM2.out.below⟩
      | there hb i hi =>
        have HN := Aside0.mk (HTW.out i hi)
        have hlt2 : i < xs.length := (List.getElem?_eq_some_iff.1 hi).1
        have x1 : ((i : Int) != (xs.length : Int)) = true := bne_iff_ne.2 (by omega)
        have x2 : ((i : Int) == (xs.length : Int)) = false := beq_eq_false_iff_ne.2 (by omega)
        have x3 : (i != xs.length) = true := bne_iff_ne.2 (by omega)
        have x4 : (i == xs.length) = false := beq_eq_false_iff_ne.2 (by omega)
        clear hb hi
        go_wp2
        go_ret2
        exact .inr ⟨HN.out, by first | rfl | (simp; done) | (simp [*]; done), HM2.out.below⟩
      | full hb hn hm => exact absurd hm (by omega)
      | new hb hn hm =>
        have x1 : ((xs.length : Int) != (xs.length : Int)) = false := bne_self_eq_false _
        have x2 : ((xs.length : Int) == (xs.length : Int)) = true := beq_self_eq_true _
        clear hb hn
        go_wp2
        go_roundw
        case rel => exact ⟨xs ++ [s], ok2, by simp, by simp; omega, ⟨by rw [List.length_append]; exact HS.out.symm⟩, HM2⟩
        case measure => simp [intOf]; omega
    · have b3 : decide ((xs.length : Int) < (l.length : Int)) = false := decide_eq_false (by omega)
      have b3n : decide (xs.length < l.length) = false := decide_eq_false hlt
      have hx : xs = l := by rw [HX.out]; exact List.take_of_length_le (by omega)
      subst hx
      have HL : Aside0 (LoadOk xs) := ⟨⟨hM.out.table.good.nodup, hM.out.table.good.fits⟩⟩
      go_wp2
      go_ret2
      exact .inl ⟨HL.out, g, ok', rfl, hM.out.table, hM.out.own, hM.out.below⟩
/-- a reference table of the call's own -/
structure RMine (B : Nat) (w : World) (g m : Nat) (ss : List ByteArray) (ok : Nat → Prop) (wr : World) : Prop where
  table : IsRef wr ok g m ss
  own : ∀ i, ok i → B ≤ i
  below : Below B w wr
theorem RMine.drewN {B : Nat} {w wr : World} {g m : Nat} {ss : List ByteArray} {ok : Nat → Prop} (h : RMine B w g m ss ok wr) (n : Nat) : RMine B w g m ss ok (wr.drewN n) :=
  ⟨h.table.drewN n, h.own, pw_below_drewN h.below n⟩
theorem RMine.turned {B : Nat} {w wr w' : World} {g m : Nat} {ss ss' : List ByteArray} {ok : Nat → Prop} (h : RMine B w g m ss ok wr) (hle : B ≤ w.heap.size) (t : RTurned wr ok g m ss' w') :
    ∃ ok', RMine B w g m ss' ok' w' ∧ (∀ i, ok' i → ok i ∨ wr.heap.size ≤ i) ∧ Only ok wr w' := by
  obtain ⟨ok', T, h1, h2⟩ := t
  exact ⟨ok', ⟨T, fun i hi => by
    rcases h1 i hi with k | k
    · exact h.own i k
    · exact Nat.le_trans hle (Nat.le_trans h.below.size k), only_below h.below hle h2 h.own⟩, h1, h2⟩
set_option maxHeartbeats 2000000 in
theorem refLoad_loop (w : World) (A : Option Addr) (c : Nat) (l : List ByteArray) (m : Nat) (h : m ≤ 4096) (hl : l.length ≤ m) (hC : Kd.C Kd.string w A l.length l) (hc : l.length ≤ c) :
    Calls Try.prog 37 #[.slice A l.length c, .int .i64 (m : Int)] w fun e w' => (LoadOk l ∧ ∃ g ok, e = .returned (.tuple #[.pointer (some ⟨g, 0, none⟩), .int .i64 0]) ∧ IsRef w' ok g m l ∧ (∀ i, ok i → w.heap.size ≤ i) ∧ Below w.heap.size w w') ∨ (¬ LoadOk l ∧ e = .returned (.tuple #[.pointer none, .int .i64 61]) ∧ Below w.heap.size w w') := by
  have b1 : decide ((m : Int) < (l.length : Int)) = false := decide_eq_false (by omega)
  have b1n : decide (m < l.length) = false := decide_eq_false (by omega)
  have HC := Aside0.mk hC
  clear hC
  go_enter Try.func37, Try.ntmps37
  go_wp2_with fail
  refine (refNew_ok _ m h).mono ?_; rintro e w1 ⟨g, ok, rfl, T, hok, hB⟩
  have HM : Aside0 (RMine w.heap.size w g m [] ok w1) := ⟨⟨T, hok, hB⟩⟩
  clear T hok hB
  go_wp2_with fail
  go_loopw [8] (fun i wr => ∃ (xs : List ByteArray) (ok : Nat → Prop), i = .int .i64 (xs.length : Int) ∧ xs.length ≤ l.length ∧ Aside0 (xs = l.take xs.length) ∧ Aside0 (RMine w.heap.size w g m xs ok wr))
    (fun i _ => l.length - (intOf i).toNat)
  case atStart => exact ⟨[], ok, rfl, by simp, ⟨rfl⟩, HM⟩
  case round =>
    clear HM
    obtain ⟨xs, ok', rfl, hj, HX, hM⟩ := hrel
    by_cases hlt : xs.length < l.length
    · have b3 : decide ((xs.length : Int) < (l.length : Int)) = true := decide_eq_true (by omega)
      have b3n : decide (xs.length < l.length) = true := decide_eq_true hlt
      obtain ⟨ad, rfl, hcell⟩ := Kd.at_string (Kd.C_below HC.out hM.out.below) (xs.length : Int) (by omega) (by omega)
      rw [Int.toNat_natCast] at hcell
      have hsn := take_snoc l xs.length hlt
      rw [← HX.out] at hsn
      have hbad := fun hb => not_ok_fits hlt hb
      have htw := fun i hi => not_ok_twice (i := i) hlt hi
      rw [← HX.out] at htw
      generalize rdOf ByteArray.empty l (xs.length : Int) = s at *
      have HS := Aside0.mk hsn
      have HBAD := Aside0.mk hbad
      have HTW := Aside0.mk htw
      clear hsn hbad htw
      by_cases hfit : 1 ≤ s.size ∧ s.size ≤ 96
      · have hF : Aside0 (FitsB s true) := ⟨⟨fun _ => hfit, fun _ => rfl⟩⟩
        by_cases hn : s ∈ xs
        · obtain ⟨i, hi⟩ := List.mem_iff_getElem?.1 hn
          have hFI : Aside0 (FirstIs xs s (i : Int)) := ⟨.inl ⟨i, hi, rfl⟩⟩
          have b4 : decide (0 ≤ (i : Int)) = true := decide_eq_true (by omega)
          have HN := Aside0.mk (HTW.out i hi)
          clear hfit hn hi
          go_wp2_with (first | (go_at_call 65; (refine (right_calls _ s true hF).mono ?_); rintro e w' ⟨rfl, ⟨nda, rfl⟩⟩) | (go_at_call 66; (refine (refAt_known _ ok' g m xs s (i : Int) (by exact (hM.out.drewN _).table) hFI.out).mono ?_); rintro e w' ⟨rfl, ⟨ndb, rfl⟩⟩))
          go_ret2
          exact .inr ⟨HN.out, by first | rfl | (simp; done) | (simp [*]; done), by repeat (first | exact hM.out.below | apply pw_below_drewN)⟩
        · have hFI : Aside0 (FirstIs xs s (-1)) := ⟨.inr ⟨hn, rfl⟩⟩
          obtain ⟨v, h7, hR, hg⟩ := hM.out.table.out
          obtain ⟨A5, c5, rfl⟩ := Kd.R_slice hR
          have c1 := (blk_cell h7 1).trans (show _ = some (.slice A5 xs.length c5) from rfl)
          have HH := Aside0.mk h7
          have HR := Aside0.mk hR
          have HG2 := Aside0.mk hg
          clear h7 hR hg
          have HG := Aside0.mk (good_snoc hM.out.table.good hfit hn (by omega))
          clear hfit hn
          go_wp2_with (first | (go_at_call 65; (refine (right_calls _ s true hF).mono ?_); rintro e w' ⟨rfl, ⟨nda, rfl⟩⟩) | (go_at_call 66; (refine (refAt_known _ ok' g m xs s (-1) (by exact (hM.out.drewN _).table) hFI.out).mono ?_); rintro e w' ⟨rfl, ⟨ndb, rfl⟩⟩))
          refine start_ (n := 14) (S := fun w' => w'.cell? ⟨g, 1, none⟩ = some (.slice A5 xs.length c5) ∧ w'.cell? (ad.add xs.length) = some (.string s)) (ds := [10, 13]) #[false, false, false, false, false, false, false, false, false, false, false, false, false, false] (by kernel_rfl) rfl rfl ⟨(by exact c1), (by exact hcell)⟩ (fun hHeld => ?_)
          refine pure_ (i := 0) (N := some 42) (v := ?_) (a' := ?_) #[true, false, false, false, false, false, false, false, false, false, false, false, false, false] rfl rfl (by kernel_rfl) (fun _ _ _ h => h) (Or.inl ⟨by rfl, ?_⟩) ?_ ?_
          rotate_left
          · intro w'
            go_simp
            with_reducible rfl
          rotate_left
          · simp only [Act.put, List.setIfInBounds_toArray, List.set_cons_zero, List.set_cons_succ, i64_w, i32_w]
            rfl
          refine pure_ (i := 1) (N := some 43) (v := ?_) (a' := ?_) #[true, true, false, false, false, false, false, false, false, false, false, false, false, false] rfl rfl (by kernel_rfl) (fun _ _ _ h => h) (Or.inl ⟨by rfl, ?_⟩) ?_ ?_
          rotate_left
          · intro w'
            go_simp
            with_reducible rfl
          rotate_left
          · simp only [Act.put, List.setIfInBounds_toArray, List.set_cons_zero, List.set_cons_succ, i64_w, i32_w]
            rfl
          refine pure_ (i := 2) (N := some 44) (v := ?_) (a' := ?_) #[true, true, true, false, false, false, false, false, false, false, false, false, false, false] rfl rfl (by kernel_rfl) (fun _ _ _ h => h) (Or.inl ⟨by rfl, ?_⟩) ?_ ?_
          rotate_left
          · intro w'
            go_simp
            with_reducible rfl
          rotate_left
          · simp only [Act.put, List.setIfInBounds_toArray, List.set_cons_zero, List.set_cons_succ, i64_w, i32_w]
            rfl
          refine pure_ (i := 3) (N := some 45) (v := ?_) (a' := ?_) #[true, true, true, true, false, false, false, false, false, false, false, false, false, false] rfl rfl (by kernel_rfl) (fun _ _ _ h => h) (Or.inl ⟨by rfl, ?_⟩) ?_ ?_
          rotate_left
          · intro w'
            go_simp
            with_reducible rfl
          rotate_left
          · simp only [Act.put, List.setIfInBounds_toArray, List.set_cons_zero, List.set_cons_succ, i64_w, i32_w]
            rfl
          refine pure_ (i := 5) (N := some 47) (v := ?_) (a' := ?_) #[true, true, true, true, false, true, false, false, false, false, false, false, false, false] rfl rfl (by kernel_rfl) (fun _ _ _ h => h) (Or.inl ⟨by rfl, ?_⟩) ?_ ?_
          rotate_left
          · intro w'
            go_simp
            with_reducible rfl
          rotate_left
          · simp only [Act.put, List.setIfInBounds_toArray, List.set_cons_zero, List.set_cons_succ, i64_w, i32_w]
            rfl
          refine pure_ (i := 6) (N := some 48) (v := ?_) (a' := ?_) #[true, true, true, true, false, true, true, false, false, false, false, false, false, false] rfl rfl (by kernel_rfl) (fun _ _ _ h => h) (Or.inl ⟨by rfl, ?_⟩) ?_ ?_
          rotate_left
          · intro w'
            go_simp
            with_reducible rfl
          rotate_left
          · simp only [Act.put, List.setIfInBounds_toArray, List.set_cons_zero, List.set_cons_succ, i64_w, i32_w]
            rfl
          refine pure_ (i := 7) (N := some 49) (v := ?_) (a' := ?_) #[true, true, true, true, false, true, true, true, false, false, false, false, false, false] rfl rfl (by kernel_rfl) (fun _ _ _ h => h) (Or.inl ⟨by rfl, ?_⟩) ?_ ?_
          rotate_left
          · intro w'
            go_simp
            with_reducible rfl
          rotate_left
          · simp only [Act.put, List.setIfInBounds_toArray, List.set_cons_zero, List.set_cons_succ, i64_w, i32_w]
            rfl
          refine take_ (i := 4) (N := some 46) (v := ?_) (a' := ?_) #[true, true, true, true, true, true, true, true, false, false, false, false, false, false] rfl rfl (by kernel_rfl) (fun _ _ _ h => h) (Or.inl ⟨by rfl, ?_⟩) hHeld ?_ ?_
          rotate_left
          · rintro w' ⟨s0, s1⟩
            go_simp
            with_reducible rfl
          rotate_left
          · simp only [Act.put, List.setIfInBounds_toArray, List.set_cons_zero, List.set_cons_succ, i64_w, i32_w]
            rfl
          refine take_ (i := 8) (N := some 50) (v := ?_) (a' := ?_) #[true, true, true, true, true, true, true, true, true, false, false, false, false, false] rfl rfl (by kernel_rfl) (fun _ _ _ h => h) (Or.inl ⟨by rfl, ?_⟩) hHeld ?_ ?_
          rotate_left
          · rintro w' ⟨s0, s1⟩
            go_simp
            with_reducible rfl
          rotate_left
          · simp only [Act.put, List.setIfInBounds_toArray, List.set_cons_zero, List.set_cons_succ, i64_w, i32_w]
            rfl
          refine one_ (i := 9) (N := some 51) #[true, true, true, true, true, true, true, true, true, true, false, false, false, false] rfl rfl (by kernel_rfl) (by decide) (fun K hK => ?_)
          refine value_ (w1 := ?_) (v := ?_) (by rfl) rfl ?_ ?_
          rotate_left 2
          · go_simp
            constructor
            · rfl
            · rfl
          refine hK.out _ _ ⟨(pw_cell_below_le (below_alloc (Below.refl _ _) _) hHeld.1), (pw_cell_below_le (below_alloc (Below.refl _ _) _) hHeld.2)⟩ (fun hHeld => ?_)
          clear hK K
          refine norm_ (a' := ?_) ?_ ?_
          rotate_left
          · show Act.put _ (some 51) _ = _
            simp only [Act.put, List.setIfInBounds_toArray, List.set_cons_zero, List.set_cons_succ, i64_w, i32_w]
            rfl
          refine last_ (i := 10) (N := some 52) #[true, true, true, true, true, true, true, true, true, true, true, false, false, false] rfl rfl (by kernel_rfl) (by decide) (fun K hK => ?_)
          refine Kd.R_append_step Kd.string (w0 := wr) 0 rfl (.tmp 46) (.tmp 51) 36 9 (.string ⟨#[]⟩) 16 rfl Try.underlying36 info9 rfl (by decide) (by omega) (.slice A5 xs.length c5) xs s [.string s] (fun k => ok' k ∨ wr.heap.size ≤ k) (fun _ => False) rfl rfl rfl (fun _ hk => hk.elim) (fun k hk => .inr (by exact hk)) (by exact Kd.R_mono HR.out (fun k hk => .inl hk)) (by exact pw_below_drewN (Below.refl _ _) (nda + ndb + 1)) (Nat.zero_le _) (by omega) ?_
          intro v1 w1 hown hb hgw hat
          obtain ⟨A1, cc1, rfl⟩ := Kd.R_slice hown
          have hblk := blk_grown (w := wr.drewN (nda + ndb + 1)) (by exact HH.out) hgw (Kd.R_ne HR.out HH.out (by decide))
          have e1 := (blk_cell hblk 1).trans (show _ = some (.slice A5 xs.length c5) from rfl)
          have e3 := blk_frozen hblk 1
          have HOW := Aside0.mk hown
          have HGW := Aside0.mk hgw
          clear hown hgw hat hb hblk
          refine hK.out _ _ ?_
          clear hK K
          refine norm_ (a' := ?_) ?_ ?_
          rotate_left
          · show Act.put _ (some 52) _ = _
            simp only [Act.put, List.setIfInBounds_toArray, List.set_cons_zero, List.set_cons_succ, i64_w, i32_w]
            rfl
          refine pure_ (i := 11) (N := some 53) (v := ?_) (a' := ?_) #[true, true, true, true, true, true, true, true, true, true, true, true, false, false] rfl rfl (by kernel_rfl) (fun _ _ _ h => h) (Or.inl ⟨by rfl, ?_⟩) ?_ ?_
          rotate_left
          · intro w'
            go_simp
            with_reducible rfl
          rotate_left
          · simp only [Act.put, List.setIfInBounds_toArray, List.set_cons_zero, List.set_cons_succ, i64_w, i32_w]
            rfl
          refine pure_ (i := 12) (N := some 54) (v := ?_) (a' := ?_) #[true, true, true, true, true, true, true, true, true, true, true, true, true, false] rfl rfl (by kernel_rfl) (fun _ _ _ h => h) (Or.inl ⟨by rfl, ?_⟩) ?_ ?_
          rotate_left
          · intro w'
            go_simp
            with_reducible rfl
          rotate_left
          · simp only [Act.put, List.setIfInBounds_toArray, List.set_cons_zero, List.set_cons_succ, i64_w, i32_w]
            rfl
          refine last_ (i := 13) (N := none) #[true, true, true, true, true, true, true, true, true, true, true, true, true, true] rfl rfl (by kernel_rfl) (by decide) (fun K hK => ?_)
          refine skip_ (w1 := ?_) (by rfl) rfl ?_ ?_
          rotate_left
          · go_simp
            rfl
          refine hK.out _ _ ?_
          clear hK K
          refine done_ (by kernel_rfl) ?_
          go_wp2
          have ht := rturned_put hM.out.table HH.out HR.out HG2.out HG.out HOW.out HGW.out
          obtain ⟨ok2, h2, _, _⟩ := hM.out.turned (Nat.le_refl _) ht
          have HM2 := Aside0.mk h2
          clear h2 ht
          go_roundw
          case rel => exact ⟨xs ++ [s], ok2, by simp, by simp; omega, ⟨by rw [List.length_append]; exact HS.out.symm⟩, by simpa using HM2⟩
          case measure => simp [intOf]; omega
      · have hF : Aside0 (FitsB s false) := ⟨⟨(fun h => by cases h), fun h => absurd h hfit⟩⟩
        have HN := Aside0.mk (HBAD.out hfit)
        clear hfit
        go_wp2_with (first | (go_at_call 65; (refine (right_calls _ s false hF).mono ?_); rintro e w' ⟨rfl, ⟨nda, rfl⟩⟩))
        go_ret2
        exact .inr ⟨HN.out, by first | rfl | (simp; done) | (simp [*]; done), by repeat (first | exact hM.out.below | apply pw_below_drewN)⟩
    · have b3 : decide ((xs.length : Int) < (l.length : Int)) = false := decide_eq_false (by omega)
      have b3n : decide (xs.length < l.length) = false := decide_eq_false hlt
      have hx : xs = l := by rw [HX.out]; exact List.take_of_length_le (by omega)
      subst hx
      have HL : Aside0 (LoadOk xs) := ⟨⟨hM.out.table.good.nodup, hM.out.table.good.fits⟩⟩
      go_wp2
      go_ret2
      exact .inl ⟨HL.out, g, ok', rfl, hM.out.table, hM.out.own, hM.out.below⟩
/-! ### A table, or none: the program's and the reference's -/
/-- what a table holds: its most and its texts; none: no table -/
abbrev St := Option (Nat × List ByteArray)
def PT (w : World) (ok : Nat → Prop) (x : Option Addr) : St → Prop
  | none => x = none
  | some (m, ss) => ∃ g, x = some ⟨g, 0, none⟩ ∧ IsTable w ok g m ss
def PR (w : World) (ok : Nat → Prop) (x : Option Addr) : St → Prop
  | none => x = none
  | some (m, ss) => ∃ g, x = some ⟨g, 0, none⟩ ∧ IsRef w ok g m ss
/-- the blocks lie in the world -/
def Lies (w : World) (ok : Nat → Prop) : Prop := ∀ i, ok i → i < w.heap.size
theorem PT.move {w w' : World} {ok : Nat → Prop} {x : Option Addr} {st : St} (T : PT w ok x st) (hs : w.heap.size ≤ w'.heap.size) (hk : ∀ i, ok i → w'.heap[i]? = w.heap[i]?) : PT w' ok x st := by
  cases st with
  | none => exact T
  | some p => obtain ⟨g, hx, h⟩ := T; exact ⟨g, hx, h.move hs hk⟩
theorem PR.move {w w' : World} {ok : Nat → Prop} {x : Option Addr} {st : St} (T : PR w ok x st) (hs : w.heap.size ≤ w'.heap.size) (hk : ∀ i, ok i → w'.heap[i]? = w.heap[i]?) : PR w' ok x st := by
  cases st with
  | none => exact T
  | some p => obtain ⟨g, hx, h⟩ := T; exact ⟨g, hx, h.move hs hk⟩
/-- no blocks: where there is no table -/
theorem PT.nowhere {w : World} {ok : Nat → Prop} {x : Option Addr} {st : St} (T : PT w ok x st) : ∃ ok', (∀ i, ok' i → ok i ∧ i < w.heap.size) ∧ PT w ok' x st := by
  cases st with
  | none => exact ⟨fun _ => False, fun _ h => h.elim, T⟩
  | some p => obtain ⟨g, hx, h⟩ := T; exact ⟨ok, fun i hi => ⟨hi, h.lt i hi⟩, g, hx, h⟩
theorem PR.nowhere {w : World} {ok : Nat → Prop} {x : Option Addr} {st : St} (T : PR w ok x st) : ∃ ok', (∀ i, ok' i → ok i ∧ i < w.heap.size) ∧ PR w ok' x st := by
  cases st with
  | none => exact ⟨fun _ => False, fun _ h => h.elim, T⟩
  | some p => obtain ⟨g, hx, h⟩ := T; exact ⟨ok, fun i hi => ⟨hi, h.lt i hi⟩, g, hx, h⟩
def PTTurned (w : World) (ok : Nat → Prop) (x : Option Addr) (st' : St) (w' : World) : Prop :=
  ∃ ok', PT w' ok' x st' ∧ (∀ i, ok' i → ok i ∨ w.heap.size ≤ i) ∧ Only ok w w'
def PRTurned (w : World) (ok : Nat → Prop) (x : Option Addr) (st' : St) (w' : World) : Prop :=
  ∃ ok', PR w' ok' x st' ∧ (∀ i, ok' i → ok i ∨ w.heap.size ≤ i) ∧ Only ok w w'
theorem PT.same {w w' : World} {ok : Nat → Prop} {x : Option Addr} {st : St} (T : PT w ok x st) (hd : Drawn0 w w') : PTTurned w ok x st w' := by
  obtain ⟨nd, rfl⟩ := hd
  exact ⟨ok, T.move (Nat.le_refl _) (fun _ _ => rfl), fun i h => .inl h, (Only.refl ok w).drewN nd⟩
theorem PR.same {w w' : World} {ok : Nat → Prop} {x : Option Addr} {st : St} (T : PR w ok x st) (hd : Drawn0 w w') : PRTurned w ok x st w' := by
  obtain ⟨nd, rfl⟩ := hd
  exact ⟨ok, T.move (Nat.le_refl _) (fun _ _ => rfl), fun i h => .inl h, (Only.refl ok w).drewN nd⟩
/-- Add's answer -/
def AddS (st : St) (s : ByteArray) (n e : Int) (st' : St) : Prop :=
  match st with
  | none => n = 0 ∧ e = 2 ∧ st' = none
  | some (m, ss) => ∃ ss', AddIs m ss s n e ss' ∧ st' = some (m, ss')
theorem symAdd_nil (w : World) (s : ByteArray) : Calls Try.prog 43 #[.pointer none, .string s] w fun e w' => e = .returned (.tuple #[.int .i64 0, .int .i64 2]) ∧ Drawn0 w w' := by
  go_enter Try.func43, Try.ntmps43
  go_wp2
  go_ret2
  exact ⟨by first | rfl | (simp; done) | (simp [*]; done), by repeat (first | exact Drawn0.refl _ | apply Drawn0.step)⟩
theorem symFind_nil (w : World) (s : ByteArray) : Calls Try.prog 50 #[.pointer none, .string s] w fun e w' => e = .returned (.tuple #[.int .i64 0, .bool false]) ∧ Drawn0 w w' := by
  go_enter Try.func50, Try.ntmps50
  go_wp2
  go_ret2
  exact ⟨by first | rfl | (simp; done) | (simp [*]; done), by repeat (first | exact Drawn0.refl _ | apply Drawn0.step)⟩
theorem symText_nil (w : World) (n : Int) : Calls Try.prog 51 #[.pointer none, .int .i64 n] w fun e w' => e = .returned (.tuple #[.string ByteArray.empty, .int .i64 2]) ∧ Drawn0 w w' := by
  go_enter Try.func51, Try.ntmps51
  go_wp2
  go_ret2
  exact ⟨by first | rfl | (simp; done) | (simp [*]; done), by repeat (first | exact Drawn0.refl _ | apply Drawn0.step)⟩
theorem symBack_nil (w : World) (n : Int) : Calls Try.prog 53 #[.pointer none, .int .i64 n] w fun e w' => e = .returned (.int .i64 2) ∧ Drawn0 w w' := by
  go_enter Try.func53, Try.ntmps53
  go_wp2
  go_ret
  exact ⟨by first | rfl | (simp; done) | (simp [*]; done), by repeat (first | exact Drawn0.refl _ | apply Drawn0.step)⟩
theorem symAll_nil (w : World) : Calls Try.prog 41 #[.pointer none] w fun e w' => e = .returned (.slice none 0 0) ∧ Drawn0 w w' := by
  go_enter Try.func41, Try.ntmps41
  go_wp2
  go_ret
  exact ⟨by first | rfl | (simp; done) | (simp [*]; done), by repeat (first | exact Drawn0.refl _ | apply Drawn0.step)⟩
theorem symCount_nil (w : World) : Calls Try.prog 45 #[.pointer none] w fun e w' => e = .returned (.int .i64 0) ∧ Drawn0 w w' := by
  go_enter Try.func45, Try.ntmps45
  go_wp2
  go_ret
  exact ⟨by first | rfl | (simp; done) | (simp [*]; done), by repeat (first | exact Drawn0.refl _ | apply Drawn0.step)⟩
theorem ptAdd (w : World) (ok : Nat → Prop) (x : Option Addr) (st : St) (s : ByteArray) (T : PT w ok x st) :
    Calls Try.prog 43 #[.pointer x, .string s] w fun e w' => ∃ n e0 st', AddS st s n e0 st' ∧ e = .returned (.tuple #[.int .i64 n, .int .i64 e0]) ∧ PTTurned w ok x st' w' := by
  cases st with
  | none =>
    obtain rfl : x = none := T
    refine (symAdd_nil w s).mono ?_
    rintro e w' ⟨rfl, hd⟩
    exact ⟨0, 2, none, ⟨rfl, rfl, rfl⟩, rfl, PT.same (ok := ok) (st := none) (x := none) rfl hd⟩
  | some p =>
    obtain ⟨g, rfl, h⟩ := T
    refine (add_calls w ok g p.1 p.2 s h).mono ?_
    rintro e w' ⟨n, e0, ss', ha, rfl, ok', h1, h2, h3⟩
    exact ⟨n, e0, some (p.1, ss'), ⟨ss', ha, rfl⟩, rfl, ok', ⟨g, rfl, h1⟩, h2, h3⟩
theorem prAdd (w : World) (ok : Nat → Prop) (x : Option Addr) (st st' : St) (s : ByteArray) (n e0 : Int) (T : PR w ok x st) (ha : AddS st s n e0 st') :
    Calls Try.prog 44 #[.pointer x, .string s] w fun e w' => e = .returned (.tuple #[.int .i64 n, .int .i64 e0]) ∧ PRTurned w ok x st' w' := by
  cases st with
  | none =>
    obtain rfl : x = none := T
    obtain ⟨rfl, rfl, rfl⟩ := ha
    refine (refAdd_nil w s).mono ?_
    rintro e w' ⟨rfl, hd⟩
    exact ⟨rfl, PR.same (ok := ok) (st := none) (x := none) rfl hd⟩
  | some p =>
    obtain ⟨g, rfl, h⟩ := T
    obtain ⟨ss', ha, rfl⟩ := ha
    refine (refAdd_calls w ok g p.1 p.2 s n e0 ss' h ha).mono ?_
    rintro e w' ⟨rfl, ok', h1, h2, h3⟩
    exact ⟨rfl, ok', ⟨g, rfl, h1⟩, h2, h3⟩
/-- the texts that a table holds -/
def textsOf : St → List ByteArray
  | none => []
  | some p => p.2
theorem textsOf_le {w : World} {ok : Nat → Prop} {x : Option Addr} {st : St} (T : PT w ok x st) : (textsOf st).length ≤ 4096 := by
  cases st with
  | none => exact Nat.zero_le _
  | some p => obtain ⟨g, hx, h⟩ := T; have := h.good.le; have := h.good.cap; exact Nat.le_trans ‹p.2.length ≤ p.1› this
theorem ptAll (w : World) (ok : Nat → Prop) (x : Option Addr) (st : St) (T : PT w ok x st) :
    Calls Try.prog 41 #[.pointer x] w fun e w' => ∃ v, e = .returned v ∧ Kd.R Kd.string 9 w' w.heap.size (fun _ => True) v (textsOf st) ∧ Below w.heap.size w w' := by
  cases st with
  | none =>
    obtain rfl : x = none := T
    refine (symAll_nil w).mono ?_
    rintro e w' ⟨rfl, ⟨nd, rfl⟩⟩
    exact ⟨_, rfl, Kd.R_nil _ _ _ _ _, pw_below_drewN (Below.refl _ _) _⟩
  | some p =>
    obtain ⟨g, rfl, h⟩ := T
    exact all_calls w ok g p.1 p.2 h
theorem prAll (w : World) (ok : Nat → Prop) (x : Option Addr) (st : St) (T : PR w ok x st) :
    Calls Try.prog 42 #[.pointer x] w fun e w' => ∃ v, e = .returned v ∧ Kd.R Kd.string 9 w' w.heap.size (fun _ => True) v (textsOf st) ∧ Below w.heap.size w w' := by
  cases st with
  | none =>
    obtain rfl : x = none := T
    refine (refAll_nil w).mono ?_
    rintro e w' ⟨rfl, ⟨nd, rfl⟩⟩
    exact ⟨_, rfl, Kd.R_nil _ _ _ _ _, pw_below_drewN (Below.refl _ _) _⟩
  | some p =>
    obtain ⟨g, rfl, h⟩ := T
    exact refAll_calls w ok g p.1 p.2 h
theorem ptCount (w : World) (ok : Nat → Prop) (x : Option Addr) (st : St) (T : PT w ok x st) :
    Calls Try.prog 45 #[.pointer x] w fun e w' => e = .returned (.int .i64 (textsOf st).length) ∧ Drawn0 w w' := by
  cases st with
  | none =>
    obtain rfl : x = none := T
    exact symCount_nil w
  | some p =>
    obtain ⟨g, rfl, h⟩ := T
    exact count_calls w ok g p.1 p.2 h
theorem prCount (w : World) (ok : Nat → Prop) (x : Option Addr) (st : St) (T : PR w ok x st) :
    Calls Try.prog 46 #[.pointer x] w fun e w' => e = .returned (.int .i64 (textsOf st).length) ∧ Drawn0 w w' := by
  cases st with
  | none =>
    obtain rfl : x = none := T
    exact refCount_nil w
  | some p =>
    obtain ⟨g, rfl, h⟩ := T
    exact refCount_calls w ok g p.1 p.2 h
def FindS (st : St) (s : ByteArray) (n : Int) (b : Bool) : Prop :=
  match st with
  | none => n = 0 ∧ b = false
  | some p => Found p.2 s n b
theorem ptFind (w : World) (ok : Nat → Prop) (x : Option Addr) (st : St) (s : ByteArray) (hs : s.size ≤ maxLen) (T : PT w ok x st) :
    Calls Try.prog 50 #[.pointer x, .string s] w fun e w' => ∃ n b, FindS st s n b ∧ e = .returned (.tuple #[.int .i64 n, .bool b]) ∧ Drawn0 w w' := by
  cases st with
  | none =>
    obtain rfl : x = none := T
    exact (symFind_nil w s).mono fun e w' h => ⟨0, false, ⟨rfl, rfl⟩, h⟩
  | some p =>
    obtain ⟨g, rfl, h⟩ := T
    exact find_calls w ok g p.1 p.2 s hs h
theorem prFind (w : World) (ok : Nat → Prop) (x : Option Addr) (st : St) (s : ByteArray) (n : Int) (b : Bool) (T : PR w ok x st) (h : FindS st s n b) :
    Calls Try.prog 70 #[.pointer x, .string s] w fun e w' => e = .returned (.tuple #[.int .i64 n, .bool b]) ∧ Drawn0 w w' := by
  cases st with
  | none =>
    obtain rfl : x = none := T
    obtain ⟨rfl, rfl⟩ := h
    exact refFind_nil w s
  | some p =>
    obtain ⟨g, rfl, T⟩ := T
    exact refFind_known w ok g p.1 p.2 s n b T h
noncomputable def textS (st : St) (n : Int) : ByteArray × Int :=
  match st with
  | none => (ByteArray.empty, 2)
  | some p => if 0 ≤ n ∧ n < (p.2.length : Int) then (rdOf ByteArray.empty p.2 n, 0) else (ByteArray.empty, 61)
theorem ptText (w : World) (ok : Nat → Prop) (x : Option Addr) (st : St) (n : Int) (T : PT w ok x st) :
    Calls Try.prog 51 #[.pointer x, .int .i64 n] w fun e w' => e = .returned (.tuple #[.string (textS st n).1, .int .i64 (textS st n).2]) ∧ Drawn0 w w' := by
  cases st with
  | none =>
    obtain rfl : x = none := T
    exact symText_nil w n
  | some p =>
    obtain ⟨g, rfl, h⟩ := T
    have := text_calls w ok g p.1 p.2 n h
    unfold textS
    split at this <;> rename_i hh
    · simp only [if_pos hh]; exact this
    · simp only [if_neg hh]; exact this
theorem prText (w : World) (ok : Nat → Prop) (x : Option Addr) (st : St) (n : Int) (T : PR w ok x st) :
    Calls Try.prog 71 #[.pointer x, .int .i64 n] w fun e w' => e = .returned (.tuple #[.string (textS st n).1, .int .i64 (textS st n).2]) ∧ Drawn0 w w' := by
  cases st with
  | none =>
    obtain rfl : x = none := T
    exact refText_nil w n
  | some p =>
    obtain ⟨g, rfl, h⟩ := T
    have := refText_calls w ok g p.1 p.2 n h
    unfold textS
    split at this <;> rename_i hh
    · simp only [if_pos hh]; exact this
    · simp only [if_neg hh]; exact this
/-- Back's answer -/
noncomputable def backS (st : St) (n : Int) : Int × St :=
  match st with
  | none => (2, none)
  | some p => if 0 ≤ n ∧ n ≤ (p.2.length : Int) then (0, some (p.1, p.2.take n.toNat)) else (1, some p)
theorem ptBack (w : World) (ok : Nat → Prop) (x : Option Addr) (st : St) (n : Int) (T : PT w ok x st) :
    Calls Try.prog 53 #[.pointer x, .int .i64 n] w fun e w' => e = .returned (.int .i64 (backS st n).1) ∧ PTTurned w ok x (backS st n).2 w' := by
  cases st with
  | none =>
    obtain rfl : x = none := T
    refine (symBack_nil w n).mono ?_
    rintro e w' ⟨rfl, hd⟩
    exact ⟨rfl, PT.same (ok := ok) (st := none) (x := none) rfl hd⟩
  | some p =>
    obtain ⟨g, rfl, h⟩ := T
    unfold backS
    by_cases hh : 0 ≤ n ∧ n ≤ (p.2.length : Int)
    · simp only [if_pos hh]
      obtain ⟨j, rfl⟩ := Int.eq_ofNat_of_zero_le hh.1
      refine (back_ok w ok g p.1 p.2 j h (by omega)).mono ?_
      rintro e w' ⟨rfl, ok', h1, h2, h3⟩
      exact ⟨rfl, ok', ⟨g, rfl, by rw [Int.toNat_natCast]; exact h1⟩, h2, h3⟩
    · simp only [if_neg hh]
      refine (back_bad w ok g p.1 p.2 n h (by omega)).mono ?_
      rintro e w' ⟨rfl, hd⟩
      exact ⟨rfl, PT.same (st := some p) (x := some ⟨g, 0, none⟩) ⟨g, rfl, h⟩ hd⟩
theorem prBack (w : World) (ok : Nat → Prop) (x : Option Addr) (st : St) (n : Int) (T : PR w ok x st) :
    Calls Try.prog 72 #[.pointer x, .int .i64 n] w fun e w' => e = .returned (.int .i64 (backS st n).1) ∧ PRTurned w ok x (backS st n).2 w' := by
  cases st with
  | none =>
    obtain rfl : x = none := T
    refine (refBack_nil w n).mono ?_
    rintro e w' ⟨rfl, hd⟩
    exact ⟨rfl, PR.same (ok := ok) (st := none) (x := none) rfl hd⟩
  | some p =>
    obtain ⟨g, rfl, h⟩ := T
    unfold backS
    by_cases hh : 0 ≤ n ∧ n ≤ (p.2.length : Int)
    · simp only [if_pos hh]
      obtain ⟨j, rfl⟩ := Int.eq_ofNat_of_zero_le hh.1
      refine (refBack_ok w ok g p.1 p.2 j h (by omega)).mono ?_
      rintro e w' ⟨rfl, ok', h1, h2, h3⟩
      exact ⟨rfl, ok', ⟨g, rfl, by rw [Int.toNat_natCast]; exact h1⟩, h2, h3⟩
    · simp only [if_neg hh]
      refine (refBack_bad w ok g p.1 p.2 n h (by omega)).mono ?_
      rintro e w' ⟨rfl, hd⟩
      exact ⟨rfl, PR.same (st := some p) (x := some ⟨g, 0, none⟩) ⟨g, rfl, h⟩ hd⟩
open Classical in
/-- Load's answer -/
noncomputable def loadS (l : List ByteArray) (n : Int) : Int × St :=
  if ¬ (0 ≤ n ∧ n ≤ 4096) then (1, none) else if n < (l.length : Int) then (60, none) else if LoadOk l then (0, some (n.toNat, l)) else (61, none)
/-- a table, or none, of the call's own -/
def PTNew (w : World) (x : Option Addr) (st : St) (w' : World) : Prop := ∃ ok, PT w' ok x st ∧ (∀ i, ok i → w.heap.size ≤ i) ∧ Below w.heap.size w w'
def PRNew (w : World) (x : Option Addr) (st : St) (w' : World) : Prop := ∃ ok, PR w' ok x st ∧ (∀ i, ok i → w.heap.size ≤ i) ∧ Below w.heap.size w w'
theorem ptLoad (w : World) (A : Option Addr) (k c : Nat) (l : List ByteArray) (n : Int) (hk : l.length = k) (hC : Kd.C Kd.string w A l.length l) (hc : l.length ≤ c) :
    Calls Try.prog 36 #[.slice A k c, .int .i64 n] w fun e w' => ∃ x, e = .returned (.tuple #[.pointer x, .int .i64 (loadS l n).1]) ∧ PTNew w x (loadS l n).2 w' := by
  subst hk
  unfold loadS
  by_cases h1 : 0 ≤ n ∧ n ≤ 4096
  · rw [if_neg (by simpa using h1)]
    obtain ⟨m, rfl⟩ := Int.eq_ofNat_of_zero_le h1.1
    by_cases h2 : (m : Int) < (l.length : Int)
    · rw [if_pos h2]
      refine (symLoad_long w A c l m (by omega) (by omega)).mono ?_
      rintro e w' ⟨rfl, hB⟩
      exact ⟨none, rfl, fun _ => False, rfl, fun _ h => h.elim, hB⟩
    · rw [if_neg h2]
      refine (symLoad_loop w A c l m (by omega) (by omega) hC hc).mono ?_
      rintro e w' (⟨hl, g, ok, rfl, hT, h3, hB⟩ | ⟨hl, rfl, hB⟩)
      · rw [if_pos hl]
        exact ⟨_, rfl, ok, ⟨g, rfl, by rw [Int.toNat_natCast]; exact hT⟩, h3, hB⟩
      · rw [if_neg hl]
        exact ⟨none, rfl, fun _ => False, rfl, fun _ h => h.elim, hB⟩
  · rw [if_pos h1]
    refine (symLoad_bad w A c l n h1).mono ?_
    rintro e w' ⟨rfl, ⟨nd, rfl⟩⟩
    exact ⟨none, rfl, fun _ => False, rfl, fun _ h => h.elim, pw_below_drewN (Below.refl _ _) _⟩
theorem prLoad (w : World) (A : Option Addr) (k c : Nat) (l : List ByteArray) (n : Int) (hk : l.length = k) (hC : Kd.C Kd.string w A l.length l) (hc : l.length ≤ c) :
    Calls Try.prog 37 #[.slice A k c, .int .i64 n] w fun e w' => ∃ x, e = .returned (.tuple #[.pointer x, .int .i64 (loadS l n).1]) ∧ PRNew w x (loadS l n).2 w' := by
  subst hk
  unfold loadS
  by_cases h1 : 0 ≤ n ∧ n ≤ 4096
  · rw [if_neg (by simpa using h1)]
    obtain ⟨m, rfl⟩ := Int.eq_ofNat_of_zero_le h1.1
    by_cases h2 : (m : Int) < (l.length : Int)
    · rw [if_pos h2]
      refine (refLoad_long w A c l m (by omega) (by omega)).mono ?_
      rintro e w' ⟨rfl, hB⟩
      exact ⟨none, rfl, fun _ => False, rfl, fun _ h => h.elim, hB⟩
    · rw [if_neg h2]
      refine (refLoad_loop w A c l m (by omega) (by omega) hC hc).mono ?_
      rintro e w' (⟨hl, g, ok, rfl, hT, h3, hB⟩ | ⟨hl, rfl, hB⟩)
      · rw [if_pos hl]
        exact ⟨_, rfl, ok, ⟨g, rfl, by rw [Int.toNat_natCast]; exact hT⟩, h3, hB⟩
      · rw [if_neg hl]
        exact ⟨none, rfl, fun _ => False, rfl, fun _ h => h.elim, hB⟩
  · rw [if_pos h1]
    refine (refLoad_bad w A c l n h1).mono ?_
    rintro e w' ⟨rfl, ⟨nd, rfl⟩⟩
    exact ⟨none, rfl, fun _ => False, rfl, fun _ h => h.elim, pw_below_drewN (Below.refl _ _) _⟩
noncomputable def newS (n : Int) : Int × St := if 0 ≤ n ∧ n ≤ 4096 then (0, some (n.toNat, [])) else (1, none)
theorem ptNew (w : World) (n : Int) :
    Calls Try.prog 47 #[.int .i64 n] w fun e w' => ∃ x, e = .returned (.tuple #[.pointer x, .int .i64 (newS n).1]) ∧ PTNew w x (newS n).2 w' := by
  unfold newS
  by_cases h1 : 0 ≤ n ∧ n ≤ 4096
  · rw [if_pos h1]
    obtain ⟨m, rfl⟩ := Int.eq_ofNat_of_zero_le h1.1
    refine (new_ok w m (by omega)).mono ?_
    rintro e w' ⟨g, ok, rfl, hT, h3, hB⟩
    exact ⟨_, rfl, ok, ⟨g, rfl, by rw [Int.toNat_natCast]; exact hT⟩, h3, hB⟩
  · rw [if_neg h1]
    refine (new_bad w n h1).mono ?_
    rintro e w' ⟨rfl, ⟨nd, rfl⟩⟩
    exact ⟨none, rfl, fun _ => False, rfl, fun _ h => h.elim, pw_below_drewN (Below.refl _ _) _⟩
theorem prNew (w : World) (n : Int) :
    Calls Try.prog 64 #[.int .i64 n] w fun e w' => ∃ x, e = .returned (.tuple #[.pointer x, .int .i64 (newS n).1]) ∧ PRNew w x (newS n).2 w' := by
  unfold newS
  by_cases h1 : 0 ≤ n ∧ n ≤ 4096
  · rw [if_pos h1]
    obtain ⟨m, rfl⟩ := Int.eq_ofNat_of_zero_le h1.1
    refine (refNew_ok w m (by omega)).mono ?_
    rintro e w' ⟨g, ok, rfl, hT, h3, hB⟩
    exact ⟨_, rfl, ok, ⟨g, rfl, by rw [Int.toNat_natCast]; exact hT⟩, h3, hB⟩
  · rw [if_neg h1]
    refine (refNew_bad w n h1).mono ?_
    rintro e w' ⟨rfl, ⟨nd, rfl⟩⟩
    exact ⟨none, rfl, fun _ => False, rfl, fun _ h => h.elim, pw_below_drewN (Below.refl _ _) _⟩
/-- the program's table and the reference's, apart from one another and of the call's own -/
structure Pair (B : Nat) (w : World) (x y : Option Addr) (s1 s2 : St) (ok1 ok2 : Nat → Prop) (wr : World) : Prop where
  t : PT wr ok1 x s1
  r : PR wr ok2 y s2
  own1 : ∀ i, ok1 i → B ≤ i ∧ i < wr.heap.size
  own2 : ∀ i, ok2 i → B ≤ i ∧ i < wr.heap.size
  apart : ∀ i, ok1 i → ¬ ok2 i
  below : Below B w wr
section
variable {B : Nat} {w wr w' : World} {x y : Option Addr} {s1 s2 s' : St} {ok1 ok2 : Nat → Prop}
theorem Pair.move (h : Pair B w x y s1 s2 ok1 ok2 wr) (hs : wr.heap.size ≤ w'.heap.size) (hk : ∀ i, ok1 i ∨ ok2 i → w'.heap[i]? = wr.heap[i]?) (hB : Below B w w') : Pair B w x y s1 s2 ok1 ok2 w' :=
  ⟨h.t.move hs (fun i hi => hk i (.inl hi)), h.r.move hs (fun i hi => hk i (.inr hi)), fun i hi => ⟨(h.own1 i hi).1, Nat.lt_of_lt_of_le (h.own1 i hi).2 hs⟩, fun i hi => ⟨(h.own2 i hi).1, Nat.lt_of_lt_of_le (h.own2 i hi).2 hs⟩, h.apart, hB⟩
theorem Pair.drewN (h : Pair B w x y s1 s2 ok1 ok2 wr) (n : Nat) : Pair B w x y s1 s2 ok1 ok2 (wr.drewN n) :=
  h.move (Nat.le_refl _) (fun _ _ => rfl) (pw_below_drewN h.below n)
theorem Pair.step (h : Pair B w x y s1 s2 ok1 ok2 wr) (hle : B ≤ w.heap.size) (hb : Below wr.heap.size wr w') : Pair B w x y s1 s2 ok1 ok2 w' :=
  h.move hb.size (fun i hi => hb.block i (hi.elim (fun k => (h.own1 i k).2) (fun k => (h.own2 i k).2))) (below_then h.below (Nat.le_trans hle h.below.size) hb)
/-- another's blocks have turned -/
theorem Pair.other (h : Pair B w x y s1 s2 ok1 ok2 wr) (hle : B ≤ w.heap.size) {ok : Nat → Prop} (hO : Only ok wr w') (ho : ∀ i, ok i → B ≤ i ∧ ¬ ok1 i ∧ ¬ ok2 i) : Pair B w x y s1 s2 ok1 ok2 w' :=
  h.move hO.size (fun i hi => hO.block i (hi.elim (fun k => (h.own1 i k).2) (fun k => (h.own2 i k).2)) (fun k => hi.elim (ho i k).2.1 (ho i k).2.2)) (only_below h.below hle hO (fun i hi => (ho i hi).1))
theorem Pair.left (h : Pair B w x y s1 s2 ok1 ok2 wr) (hle : B ≤ w.heap.size) (ht : PTTurned wr ok1 x s' w') :
    ∃ ok1', Pair B w x y s' s2 ok1' ok2 w' ∧ (∀ i, ok1' i → ok1 i ∨ wr.heap.size ≤ i) ∧ Only ok1 wr w' := by
  obtain ⟨ok0, T0, h1, h2⟩ := ht
  obtain ⟨ok', h0, T⟩ := T0.nowhere
  refine ⟨ok', ⟨T, h.r.move h2.size (fun i hi => h2.block i (h.own2 i hi).2 (fun k => h.apart i k hi)), fun i hi => ⟨?_, (h0 i hi).2⟩, fun i hi => ⟨(h.own2 i hi).1, Nat.lt_of_lt_of_le (h.own2 i hi).2 h2.size⟩, fun i hi hj => ?_, only_below h.below hle h2 (fun i hi => (h.own1 i hi).1)⟩, fun i hi => h1 i (h0 i hi).1, h2⟩
  · rcases h1 i (h0 i hi).1 with k | k
    · exact (h.own1 i k).1
    · exact Nat.le_trans hle (Nat.le_trans h.below.size k)
  · rcases h1 i (h0 i hi).1 with k | k
    · exact h.apart i k hj
    · have := (h.own2 i hj).2; omega
theorem Pair.right (h : Pair B w x y s1 s2 ok1 ok2 wr) (hle : B ≤ w.heap.size) (ht : PRTurned wr ok2 y s' w') :
    ∃ ok2', Pair B w x y s1 s' ok1 ok2' w' ∧ (∀ i, ok2' i → ok2 i ∨ wr.heap.size ≤ i) ∧ Only ok2 wr w' := by
  obtain ⟨ok0, T0, h1, h2⟩ := ht
  obtain ⟨ok', h0, T⟩ := T0.nowhere
  refine ⟨ok', ⟨h.t.move h2.size (fun i hi => h2.block i (h.own1 i hi).2 (fun k => h.apart i hi k)), T, fun i hi => ⟨(h.own1 i hi).1, Nat.lt_of_lt_of_le (h.own1 i hi).2 h2.size⟩, fun i hi => ⟨?_, (h0 i hi).2⟩, fun i hj hi => ?_, only_below h.below hle h2 (fun i hi => (h.own2 i hi).1)⟩, fun i hi => h1 i (h0 i hi).1, h2⟩
  · rcases h1 i (h0 i hi).1 with k | k
    · exact (h.own2 i k).1
    · exact Nat.le_trans hle (Nat.le_trans h.below.size k)
  · rcases h1 i (h0 i hi).1 with k | k
    · exact h.apart i hj k
    · have := (h.own1 i hj).2; omega
/-- two tables made one behind the other -/
theorem Pair.make {w1 w2 : World} (ht : PTNew w x s1 w1) (hr : PRNew w1 y s2 w2) : ∃ ok1 ok2, Pair w.heap.size w x y s1 s2 ok1 ok2 w2 := by
  obtain ⟨o1, T0, h1, b1⟩ := ht
  obtain ⟨o2, R0, h2, b2⟩ := hr
  obtain ⟨ok1, k1, T⟩ := T0.nowhere
  obtain ⟨ok2, k2, R⟩ := R0.nowhere
  refine ⟨ok1, ok2, T.move b2.size (fun i hi => b2.block i (k1 i hi).2), R, fun i hi => ⟨h1 i (k1 i hi).1, Nat.lt_of_lt_of_le (k1 i hi).2 b2.size⟩, fun i hi => ⟨Nat.le_trans b1.size (h2 i (k2 i hi).1), (k2 i hi).2⟩, fun i hi hj => ?_, below_then b1 b1.size b2⟩
  have := (k1 i hi).2
  have := h2 i (k2 i hj).1
  omega
end
end Go.Proofs.Ytcnjdgafemgaeaa.Sym
