/- script.Print and kilnref24.Print, walked; a play's text in plain words. kilnlaw24.turned and the law of ScriptPrints, walked. Conditions: those that each theorem states. -/
import Derived.Test.YtkfjjmmpbfjhaaaGreatDoorScrS
namespace Go.Proofs.YtkfjjmmpbfjhaaaGreatDoor.Tells
open Go.RowKit Go.Proofs.YtkfjjmmpbfjhaaaGreatDoor.Facts Go.Proofs.YtkfjjmmpbfjhaaaGreatDoor.PScriptActs Go.Proofs.YtkfjjmmpbfjhaaaGreatDoorW.PrintWords Go.Proofs.YtkfjjmmpbfjhaaaGreatDoorW.PrintLast Go.Proofs.YtkfjjmmpbfjhaaaGreatDoorW.PrintMore
attribute [local go_sem] max2_int min2_int max_two min_two max_three min_three max_four min_four
set_option linter.unusedVariables false
set_option linter.unusedSimpArgs false
theorem join_calls (W : World) (base : Nat) (v : Value) (l : List ByteArray) (sep : ByteArray) (hR : Kd.R Kd.string 9 W base (fun _ => True) v l) (hne : 0 < l.length) (hl : l.length ≤ 140737488355328) (hlen : (Lib.join (l.map (·.data.toList)) sep.data.toList).length ≤ 140737488355328) : Calls Tryz.prog 31 #[v, .string sep] W fun e w2 => e = .returned (.string ⟨(Lib.join (l.map (·.data.toList)) sep.data.toList).toArray⟩) ∧ Below W.heap.size W w2 := by
  obtain ⟨gw, capw, ev, hgb, hglt, _⟩ := Kd.R_form hR hne
  subst ev
  obtain ⟨A9, c9, e9, h9, hC9⟩ := Kd.R_reads hR
  injection e9 with e91 _ e93
  subst e91 e93
  refine Tryz.strings_Join gw 0 capw l sep W (fun j x hx => ?_) hglt hl h9 hlen
  have hjl := (List.getElem?_eq_some_iff.1 hx).1
  obtain ⟨ad, ead, hcell⟩ := Kd.at_string hC9 (j : Int) (by omega) (by omega)
  cases ead
  have hrd : rdOf ByteArray.empty l (j : Int) = x := by unfold rdOf; rw [Int.toNat_natCast, List.getD_eq_getElem?_getD, hx]; rfl
  rw [Int.toNat_natCast, hrd, Addr.add_lit] at hcell
  exact hcell
/-- the first line -/
def roomL (p0 p1 : Int) : List UInt8 := [114, 111, 111, 109, 32] ++ ((itoaB p0).data.toList ++ 32 :: (itoaB p1).data.toList)
def roomS (p0 p1 : Int) : ByteArray := ⟨(roomL p0 p1).toArray⟩
def badP : List S31 → Option Int
  | [] => none
  | a :: r => if (printA a).2 = 0 then badP r else some (printA a).2
def linesP (p0 p1 : Int) (acts : List S31) : List ByteArray := roomS p0 p1 :: acts.map (fun a => (printA a).1)
def textP (p0 p1 : Int) (acts : List S31) : List UInt8 := Lib.join ((linesP p0 p1 acts).map (·.data.toList)) [10] ++ [10]
/-- what Print answers -/
def printP (p0 p1 : Int) (acts : List S31) : ByteArray × Int :=
  match badP acts with
  | some e => (⟨#[]⟩, e)
  | none => if 20000 < acts.length + 1 then (⟨#[]⟩, 246) else (⟨(textP p0 p1 acts).toArray⟩, 0)
theorem bad_at : ∀ (acts : List S31) (i : Nat) (X : S31), (∀ j a, j < i → acts[j]? = some a → (printA a).2 = 0) → acts[i]? = some X → (printA X).2 ≠ 0 → badP acts = some (printA X).2
  | [], i, X, _, h, _ => by simp at h
  | a :: r, 0, X, _, h, hx => by
    have : a = X := by simpa using h
    subst this
    rw [badP, if_neg hx]
  | a :: r, i + 1, X, hj, h, hx => by
    rw [badP, if_pos (hj 0 a (by omega) rfl)]
    exact bad_at r i X (fun j b hb hj' => hj (j + 1) b (by omega) (by simpa using hj')) (by simpa using h) hx
theorem bad_none : ∀ (acts : List S31), (∀ (j : Nat) a, acts[j]? = some a → (printA a).2 = 0) → badP acts = none
  | [], _ => rfl
  | a :: r, h => by
    rw [badP, if_pos (h 0 a rfl)]
    exact bad_none r (fun j b hj => h (j + 1) b (by simpa using hj))
theorem printA_len (a : S31) : (printA a).1.data.toList.length ≤ 262144 := by
  unfold printA
  repeat' split
  all_goals simp
  omega
theorem join_nl : ∀ (n : List UInt8) (l : List (List UInt8)), Lib.join (n :: l) [10] = n ++ l.flatMap (fun x => 10 :: x)
  | n, [] => by rw [Lib.join_one]; simp
  | n, b :: r => by
    have e : Lib.join (n :: b :: r) [10] = n ++ 10 :: Lib.join (b :: r) [10] := by
      unfold Lib.join; simp [List.intercalate]
    rw [e, join_nl b r]
    simp
theorem nl_move : ∀ (n : List UInt8) (l : List (List UInt8)), n ++ l.flatMap (fun x => 10 :: x) ++ [10] = n ++ [10] ++ l.flatMap (fun x => x ++ [10])
  | n, [] => by simp
  | n, b :: r => by
    have := nl_move (n ++ 10 :: b) r
    simp at this ⊢
    exact this
theorem text_alt (p0 p1 : Int) (acts : List S31) : textP p0 p1 acts = roomL p0 p1 ++ [10] ++ acts.flatMap (fun a => (printA a).1.data.toList ++ [10]) := by
  unfold textP linesP
  rw [List.map_cons, join_nl, nl_move, List.map_map, List.flatMap_map]
  simp [roomS]
theorem flat_len (f : S31 → List UInt8) (hf : ∀ a, (f a).length ≤ 262144) : ∀ acts : List S31, (acts.flatMap (fun a => 10 :: f a)).length ≤ 262145 * acts.length
  | [] => by simp
  | a :: r => by
    have := flat_len f hf r
    have h1 := hf a
    rw [List.flatMap_cons, List.length_append, List.length_cons, List.length_cons]
    omega
theorem room_len (p0 p1 : Int) (h0 : inI p0) (h1 : inI p1) : (roomL p0 p1).length ≤ 48 := by
  have k0 := num_len p0 h0
  have k1 := num_len p1 h1
  unfold roomL
  simp only [List.length_append, List.length_cons, List.length_nil]
  omega
theorem lines_len (p0 p1 : Int) (h0 : inI p0) (h1 : inI p1) (acts : List S31) (hn : acts.length ≤ 1048576) : (Lib.join ((linesP p0 p1 acts).map (·.data.toList)) [10]).length ≤ 274877906944000 / 2 := by
  unfold linesP
  rw [List.map_cons, join_nl, List.map_map, List.flatMap_map]
  have h2 := room_len p0 p1 h0 h1
  have h3 := flat_len (fun a => (printA a).1.data.toList) printA_len acts
  rw [List.length_append]
  have e : (roomS p0 p1).data.toList = roomL p0 p1 := by simp [roomS]
  rw [e]
  simp only [Function.comp_def] at h3 ⊢
  omega
/-- what the first i acts have added, if there is room for all -/
def flatP (m n : Nat) (acts : List S31) (i : Nat) : List UInt8 := if n + 1 ≤ m then (acts.take i).flatMap (fun a => (printA a).1.data.toList ++ [10]) else []
theorem flat_0 (m n : Nat) (acts : List S31) : flatP m n acts 0 = [] := by unfold flatP; split <;> simp
theorem flatP_len (n : Nat) (acts : List S31) (i : Nat) (hi : i ≤ 1048576) : (flatP 20000 n acts i).length ≤ 262145 * 1048576 := by
  unfold flatP
  split
  · have key : ∀ l : List S31, (l.flatMap (fun a => (printA a).1.data.toList ++ [10])).length ≤ 262145 * l.length := by
      intro l
      induction l with
      | nil => simp
      | cons a r ih =>
        have := printA_len a
        rw [List.flatMap_cons, List.length_append, List.length_append, List.length_cons, List.length_cons, List.length_nil]
        omega
    have := key (acts.take i)
    rw [List.length_take] at this
    omega
  · simp
set_option maxHeartbeats 8000000 in
set_option maxRecDepth 100000 in
theorem print_calls (p0 p1 : Int) (h0 : inI p0) (h1 : inI p1) (acts : List S31) (ha : ∀ a ∈ acts, Aok a) (hn : acts.length ≤ 1048576) (A : Option Addr) (c : Nat) (w : World) (E : Env w) (hC : k31.C w A acts.length acts) (hc : acts.length ≤ c) (o : Value) (ho : Aside0 (o = .tuple #[.string (printP p0 p1 acts).1, .int .i64 (printP p0 p1 acts).2])) : Calls Tryz.prog 14 #[.agg #[.int .i64 p0, .int .i64 p1, .slice A acts.length c]] w fun e w' => e = .returned o ∧ Below w.heap.size w w' := by
  have HA := Aside0.mk ha
  have HE := Aside0.mk E
  have HC := Aside0.mk (And.intro hC hc)
  have HN := Aside0.mk hn
  have HP := Aside0.mk (And.intro h0 h1)
  clear ha E hC hc hn h0 h1
  obtain ⟨n, hnl⟩ : ∃ n, n = acts.length := ⟨_, rfl⟩
  have HNL := Aside0.mk hnl
  rw [← hnl] at HC HN
  rw [← hnl]
  have hnm : n ≤ 1048576 := HN.out
  clear hnl
  go_enter Tryz.func14, Tryz.ntmps14
  have HB0 : Aside0 (∀ W, W = ((w.alloc (.cells #[.int .i64 p0, .int .i64 p1, .slice A n c] 24 (0, 0))).alloc (.cells #[.int .i64 p0, .int .i64 p1] 3 (0, 0))) → Below w.heap.size w W ∧ W.heap[w.heap.size]? = some (.cells #[.int .i64 p0, .int .i64 p1, .slice A n c] 24 (0, 0)) ∧ Kd.C (Kd.int .i64) W (some ⟨w.heap.size + 1, 0, none⟩) 2 [p0, p1]) := ⟨fun W hW => by
    have hs : (w.alloc (.cells #[.int .i64 p0, .int .i64 p1, .slice A n c] 24 (0, 0))).heap.size = w.heap.size + 1 := by simp
    subst hW
    refine ⟨below_alloc (below_alloc (Below.refl _ _) _) _, ?_, ?_⟩
    · exact (((Below.refl _ _).alloc (Nat.le_refl _) _).block _ (by omega)).trans (blk_new w _)
    · have := lit_C (Value.int .i64) (fun _ => rfl) (w.alloc (.cells #[.int .i64 p0, .int .i64 p1, .slice A n c] 24 (0, 0))) 3 [p0, p1] (by simp)
      rw [hs] at this
      exact this⟩
  go_wp2_with fail
  refine (numbers_calls _ (some ⟨w.heap.size + 1, 0, none⟩) 2 [p0, p1] (HB0.out _ rfl).2.2 (Nat.le_refl _) (by intro x hx; rcases List.mem_cons.1 hx with rfl | hx; exact HP.out.1; rw [List.mem_singleton.1 hx]; exact HP.out.2) (by simp) (HE.out.below (HB0.out _ rfl).1).pow).mono ?_; rintro e w1 ⟨v14, rfl, hR1, hb1⟩
  have HB1 : Aside0 (Below w.heap.size w w1 ∧ w1.heap[w.heap.size]? = some (.cells #[.int .i64 p0, .int .i64 p1, .slice A n c] 24 (0, 0)) ∧ w.heap.size ≤ w1.heap.size) := ⟨by
    obtain ⟨z1, z2, _⟩ := HB0.out _ rfl
    exact ⟨below_then z1 z1.size hb1, (hb1.block _ (blk_lt z2)).trans z2, Nat.le_trans z1.size hb1.size⟩⟩
  have HR1 : Aside0 (Kd.R Kd.string 9 w1 0 (fun _ => True) v14 ([p0, p1].map itoaB)) := ⟨Kd.R_lower hR1 (Nat.zero_le _)⟩
  clear hR1 hb1 HB0
  have hjn : Lib.join (([p0, p1].map itoaB).map (·.data.toList)) (⟨#[32]⟩ : ByteArray).data.toList = (itoaB p0).data.toList ++ 32 :: (itoaB p1).data.toList := by
    simp [Lib.join, List.intercalate]
  have k0 := num_len p0 HP.out.1
  have k1 := num_len p1 HP.out.2
  obtain ⟨jb, hjb⟩ : ∃ jb : ByteArray, jb = ⟨(Lib.join (([p0, p1].map itoaB).map (·.data.toList)) (⟨#[32]⟩ : ByteArray).data.toList).toArray⟩ := ⟨_, rfl⟩
  have hjz : jb.size ≤ 43 := by
    rw [hjb, hjn]
    show (List.toArray _).size ≤ 43
    rw [List.size_toArray, List.length_append, List.length_cons]
    omega
  have hrm : (⟨#[114, 111, 111, 109, 32]⟩ ++ jb : ByteArray) = roomS p0 p1 := by
    apply ByteArray.ext
    apply Array.toList_inj.1
    rw [ByteArray.data_append, Array.toList_append, hjb, hjn]
    simp [roomS, roomL]
  have hadd : ¬ (9223372036854775807 < (⟨#[114, 111, 111, 109, 32]⟩ : ByteArray).size + jb.size) := by
    have : (⟨#[114, 111, 111, 109, 32]⟩ : ByteArray).size = 5 := rfl
    omega
  have HJN : Aside0 ((Lib.join (([p0, p1].map itoaB).map (·.data.toList)) (⟨#[32]⟩ : ByteArray).data.toList).length ≤ 140737488355328) := ⟨by rw [hjn, List.length_append, List.length_cons]; omega⟩
  have HJB := Aside0.mk hjb
  have HRM := Aside0.mk hrm
  clear hjn k0 k1 hjb hrm
  go_wp2_with fail
  refine (join_calls w1 0 v14 ([p0, p1].map itoaB) ⟨#[32]⟩ HR1.out (by simp) (by simp) HJN.out).mono ?_; rintro e w2 ⟨rfl, hb2⟩
  rw [← HJB.out]
  have HB2 : Aside0 (Below w.heap.size w w2 ∧ w2.heap[w.heap.size]? = some (.cells #[.int .i64 p0, .int .i64 p1, .slice A n c] 24 (0, 0))) := ⟨below_then HB1.out.1 HB1.out.2.2 hb2, (hb2.block _ (blk_lt HB1.out.2.1)).trans HB1.out.2.1⟩
  have kb2 : ∀ o2, (w2.alloc o2).cell? ⟨w.heap.size, 2, none⟩ = some (.slice A n c) := fun o2 => by rw [blk_cell (((below_alloc (Below.refl _ _) o2).block _ (blk_lt HB2.out.2)).trans HB2.out.2)]; rfl
  clear hb2 HB1 HR1 HJN
  go_wp2_with fail
  rw [HRM.out]
  have H3 : Aside0 (∀ W, W = w2.alloc (.cells #[.string (roomS p0 p1)] 9) → Below w.heap.size w W ∧ Kd.R Kd.string 9 W w.heap.size (fun _ => True) (.slice (some ⟨w2.heap.size, 0, none⟩) 1 1) (linesP p0 p1 (acts.take 0))) := ⟨fun W hW => by
    rw [hW]
    have hL := lit_R w2 [roomS p0 p1] (by simp)
    exact ⟨below_then HB2.out.1 HB2.out.1.size (below_alloc (Below.refl _ _) _), Kd.R_lower hL HB2.out.1.size⟩⟩
  have H4 := Aside0.mk (H3.out _ rfl)
  clear H3 HB2 kb2 HRM hadd hjz HJB
  go_loopw [4, 6, 7, 8, 21] (fun v4 v6 v7 v8 v21 wr => ∃ (i : Nat), v21 = .int .i64 (i : Int) ∧ i ≤ n ∧ Aside0 (Below w.heap.size w wr ∧ Kd.R Kd.string 9 wr w.heap.size (fun _ => True) v4 (linesP p0 p1 (acts.take i))) ∧ Aside0 (∀ j a, j < i → acts[j]? = some a → (printA a).2 = 0)) (fun _ _ _ _ v21 _ => n - (intOf v21).toNat)
  case atStart => exact ⟨0, rfl, Nat.zero_le _, H4, ⟨fun j a h => absurd h (Nat.not_lt_zero _)⟩⟩
  case round =>
    clear H4
    obtain ⟨i, rfl, hi, HL, HG⟩ := hrel
    by_cases hlt : i < n
    · have b1 : decide ((i : Int) < (n : Int)) = true := decide_eq_true (by omega)
      have pi0 : (0 : Int) ≤ (i : Int) := by omega
      have pi1 : (i : Int) < (n : Int) := by omega
      obtain ⟨adA, A3, c3, eA, x0, x1, x2, x3, x4, x5, x6, hx3, hxC⟩ := at_T31 (Kd.C_below HC.out.1 HL.out.1) (i : Int) pi0 pi1
      subst eA
      rw [Int.toNat_natCast] at x0 x1 x2 x3 x4 x5 x6
      have hlt2 : i < acts.length := by rw [← HNL.out]; exact hlt
      have hrX : acts[i]? = some (rd_T31 acts (i : Int)) := by unfold rd_T31; rw [Int.toNat_natCast, List.getD_eq_getElem?_getD, List.getElem?_eq_getElem hlt2]; rfl
      obtain ⟨X, hX⟩ : ∃ X, X = rd_T31 acts (i : Int) := ⟨_, rfl⟩
      rw [← hX] at x0 x1 x2 x3 x4 x5 x6 hx3 hxC hrX
      clear hX
      have HXA := Aside0.mk (HA.out X (List.mem_of_getElem? hrX))
      have HXC := Aside0.mk (And.intro hxC hx3)
      have HXR := Aside0.mk hrX
      have hwi : wrap64 ((i : Int) + 1) = (i : Int) + 1 := wrap_next i (by omega)
      have HMS : Aside0 (n - (intOf (Value.int IntKind.i64 ((i : Int) + 1))).toNat < n - (intOf (Value.int IntKind.i64 (i : Int))).toNat) := ⟨meas_step _ _ hlt⟩
      have HI1 : Aside0 (i + 1 ≤ n) := ⟨hlt⟩
      clear hrX hxC hx3 hlt2
      have HWx : Aside0 (∀ W, W = wr.alloc (.cells #[.int .i64 X.f0, .string X.f1, .string X.f2, .slice A3 X.f3.length c3, .string X.f4, .int .i64 X.f5, .int .i64 X.f6] 31) → Below w.heap.size w W ∧ Below wr.heap.size wr W) := ⟨fun W hW => by
        rw [hW]
        exact ⟨below_then HL.out.1 HL.out.1.size (below_alloc (Below.refl _ _) _), below_alloc (Below.refl _ _) _⟩⟩
      go_wp2_with fail
      obtain ⟨o', ho'⟩ : ∃ o' : Value, o' = .tuple #[.string (printA X).1, .int .i64 (printA X).2] := ⟨_, rfl⟩
      refine (printAct_calls X HXA.out A3 c3 _ (HE.out.below (HWx.out _ rfl).1) (Kd.C_below HXC.out.1 (HWx.out _ rfl).2) HXC.out.2 o' ⟨ho'⟩).mono ?_; rintro e w3 ⟨rfl, hb3⟩
      subst ho'
      have HB3 : Aside0 (Below wr.heap.size wr w3 ∧ Below w.heap.size w w3) := ⟨by
        obtain ⟨z1, z2⟩ := HWx.out _ rfl
        exact ⟨below_then z2 z2.size hb3, below_then z1 z1.size hb3⟩⟩
      have HR3 : Aside0 (Kd.R Kd.string 9 w3 w.heap.size (fun _ => True) u4 (linesP p0 p1 (acts.take i))) := ⟨Kd.R_below HL.out.2 HB3.out.1⟩
      obtain ⟨ps, hps⟩ : ∃ ps, ps = (printA X).1 := ⟨_, rfl⟩
      obtain ⟨pn, hpn⟩ : ∃ pn, pn = (printA X).2 := ⟨_, rfl⟩
      rw [← hps, ← hpn]
      have HPS := Aside0.mk (And.intro hps hpn)
      clear hb3 x0 x1 x2 x3 x4 x5 x6 HWx hps hpn
      by_cases hz : pn = 0
      · have hq : (pn != 0) = false := by simpa using hz
        have HG1 : Aside0 (∀ j a, j < i + 1 → acts[j]? = some a → (printA a).2 = 0) := ⟨fun j a hj hja => by
          by_cases e : j = i
          · rw [e, HXR.out] at hja
            rw [← Option.some.inj hja, ← HPS.out.2]; exact hz
          · exact HG.out j a (by omega) hja⟩
        have HTK : Aside0 (linesP p0 p1 (acts.take i) ++ [ps] = linesP p0 p1 (acts.take (i + 1))) := ⟨by
          unfold linesP
          rw [List.take_add_one, HXR.out, HPS.out.1]; simp⟩
        have HSZ : Aside0 (((linesP p0 p1 (acts.take i)).length + 1) * 16 ≤ 140737488355328) := ⟨by
          unfold linesP
          rw [List.length_cons, List.length_map, List.length_take]; omega⟩
        have hbs := HB3.out.2.size
        clear hz
        go_wp2_with (at_builtin; refine Kd.R_append Kd.string (w0 := w) w.heap.size rfl (.tmp 33) (.tmp 35) 29 9 (.string ⟨#[]⟩) 16 rfl Tryz.underlying29 info9 rfl (by decide) (by decide) u4 (linesP p0 p1 (acts.take i)) ps [.string ps] (fun _ => True) (fun _ => False) rfl rfl rfl (fun _ hk => hk.elim) (fun _ _ => trivial) (by exact HR3.out) (by exact HB3.out.2) (by exact hbs) (by exact HSZ.out) ?_; intro v1 w4 hown hb4 hgw hat; have HOW := Aside0.mk (And.intro hb4 hown); clear hown hb4 hgw hat)
        rw [HTK.out] at HOW
        go_roundw
        case rel => exact ⟨i + 1, by first | rfl | (rw [hwi]; rfl), HI1.out, HOW, HG1⟩
        case measure => first | exact HMS.out | (rw [hwi]; exact HMS.out)
      · have hq : (pn != 0) = true := by simpa using hz
        have HO : Aside0 (o = .tuple #[.string ⟨#[]⟩, .int .i64 pn]) := ⟨by
          rw [ho.out]
          have hbad := bad_at acts i X HG.out HXR.out (by rw [← HPS.out.2]; exact hz)
          unfold printP
          rw [hbad, ← HPS.out.2]⟩
        clear hz
        go_wp2_with fail
        go_ret2
        exact ⟨by rw [HO.out]; rfl, HB3.out.2⟩
    · have b1 : decide ((i : Int) < (n : Int)) = false := decide_eq_false (by omega)
      have b2 : (i < n) = False := eq_false hlt
      have b3 : decide (i < n) = false := decide_eq_false hlt
      have HNB : Aside0 (badP acts = none) := ⟨bad_none acts (fun j a hj => HG.out j a (by have := (List.getElem?_eq_some_iff.1 hj).1; rw [← HNL.out] at this; omega) hj)⟩
      have HL2 : Aside0 (Below w.heap.size w wr ∧ Kd.R Kd.string 9 wr w.heap.size (fun _ => True) u4 (linesP p0 p1 acts)) := ⟨HL.out.1, by
        have := HL.out.2
        rw [List.take_of_length_le (by rw [← HNL.out]; omega)] at this
        exact this⟩
      obtain ⟨M, hM⟩ : ∃ M, M = (linesP p0 p1 acts).length := ⟨_, rfl⟩
      have hMn : M = n + 1 := by rw [hM]; unfold linesP; rw [List.length_cons, List.length_map, HNL.out]
      obtain ⟨A4, c4, e4⟩ := Kd.R_slice HL2.out.2
      rw [← hM] at e4
      subst e4
      have HM := Aside0.mk (And.intro hM hMn)
      clear hM hi hlt HL
      by_cases hbig : 20000 < M
      · have b4 : decide ((20000 : Int) < (M : Int)) = true := decide_eq_true (by omega)
        have b5 : (20000 < M) = True := eq_true hbig
        have b6 : decide (20000 < M) = true := decide_eq_true hbig
        have HO : Aside0 (o = .tuple #[.string ⟨#[]⟩, .int .i64 246]) := ⟨by
          rw [ho.out]
          unfold printP
          rw [HNB.out]
          simp only
          rw [if_pos (by rw [← HNL.out]; omega)]⟩
        clear hbig hMn
        go_wp2_with fail
        go_ret2
        exact ⟨by rw [HO.out]; rfl, HL2.out.1⟩
      · have b4 : decide ((20000 : Int) < (M : Int)) = false := decide_eq_false (by omega)
        have b5 : (20000 < M) = False := eq_false hbig
        have b6 : decide (20000 < M) = false := decide_eq_false hbig
        obtain ⟨jb, hjb⟩ : ∃ jb : ByteArray, jb = ⟨(Lib.join ((linesP p0 p1 acts).map (·.data.toList)) (⟨#[10]⟩ : ByteArray).data.toList).toArray⟩ := ⟨_, rfl⟩
        have HO : Aside0 (o = .tuple #[.string (jb ++ ⟨#[10]⟩), .int .i64 0]) := ⟨by
          rw [ho.out]
          unfold printP
          rw [HNB.out]
          simp only
          rw [if_neg (by rw [← HNL.out]; omega)]
          have : (⟨(textP p0 p1 acts).toArray⟩ : ByteArray) = jb ++ ⟨#[10]⟩ := by
            apply ByteArray.ext
            apply Array.toList_inj.1
            rw [ByteArray.data_append, Array.toList_append, hjb]
            simp [textP]
          rw [this]⟩
        have hll := lines_len p0 p1 HP.out.1 HP.out.2 acts (by rw [← HNL.out]; exact HN.out)
        have hjz : jb.size ≤ 137438953472000 := by
          rw [hjb]
          show (List.toArray _).size ≤ _
          rw [List.size_toArray]
          exact Nat.le_trans hll (by decide)
        have hadd : ¬ (9223372036854775807 < jb.size + (⟨#[10]⟩ : ByteArray).size) := by
          have : (⟨#[10]⟩ : ByteArray).size = 1 := rfl
          omega
        have HLN : Aside0 ((Lib.join ((linesP p0 p1 acts).map (·.data.toList)) (⟨#[10]⟩ : ByteArray).data.toList).length ≤ 140737488355328) := ⟨Nat.le_trans hll (by decide)⟩
        have HJB := Aside0.mk hjb
        clear hbig hll hjb
        have HML : Aside0 (0 < (linesP p0 p1 acts).length ∧ (linesP p0 p1 acts).length ≤ 140737488355328) := ⟨by rw [← HM.out.1]; omega⟩
        clear hMn
        go_wp2_with fail
        refine (join_calls wr w.heap.size _ (linesP p0 p1 acts) ⟨#[10]⟩ HL2.out.2 HML.out.1 HML.out.2 HLN.out).mono ?_; rintro e w5 ⟨rfl, hb5⟩
        rw [← HJB.out]
        have HB5 : Aside0 (Below w.heap.size w w5) := ⟨below_then HL2.out.1 HL2.out.1.size hb5⟩
        clear hb5
        go_wp2_with fail
        go_ret2
        exact ⟨by rw [HO.out]; rfl, HB5.out⟩
set_option maxHeartbeats 8000000 in
set_option maxRecDepth 100000 in
theorem refPrint_calls (p0 p1 : Int) (h0 : inI p0) (h1 : inI p1) (acts : List S31) (ha : ∀ a ∈ acts, Aok a) (hn : acts.length ≤ 1048576) (A : Option Addr) (c : Nat) (w : World) (E : Env w) (hC : k31.C w A acts.length acts) (hc : acts.length ≤ c) (o : Value) (ho : Aside0 (o = .tuple #[.string (printP p0 p1 acts).1, .int .i64 (printP p0 p1 acts).2])) : Calls Tryz.prog 15 #[.agg #[.int .i64 p0, .int .i64 p1, .slice A acts.length c]] w fun e w' => e = .returned o ∧ Below w.heap.size w w' := by
  have HA := Aside0.mk ha
  have HE := Aside0.mk E
  have HC := Aside0.mk (And.intro hC hc)
  have HN := Aside0.mk hn
  have HP := Aside0.mk (And.intro h0 h1)
  clear ha E hC hc hn h0 h1
  obtain ⟨n, hnl⟩ : ∃ n, n = acts.length := ⟨_, rfl⟩
  have HNL := Aside0.mk hnl
  rw [← hnl] at HC HN
  rw [← hnl]
  have hnm : n ≤ 1048576 := HN.out
  clear hnl
  have HBX : Aside0 (Below w.heap.size w (w.alloc (.cells #[.int .i64 p0, .int .i64 p1, .slice A n c] 24 (0, 0))) ∧ (w.alloc (.cells #[.int .i64 p0, .int .i64 p1, .slice A n c] 24 (0, 0))).heap[w.heap.size]? = some (.cells #[.int .i64 p0, .int .i64 p1, .slice A n c] 24 (0, 0))) := ⟨below_alloc (Below.refl _ _) _, blk_new w _⟩
  have HADD : Aside0 (¬ (9223372036854775807 < (⟨#[114, 111, 111, 109, 32]⟩ : ByteArray).size + (itoaB p0).size) ∧ ¬ (9223372036854775807 < ((⟨#[114, 111, 111, 109, 32]⟩ : ByteArray) ++ itoaB p0).size + (⟨#[32]⟩ : ByteArray).size) ∧ ¬ (9223372036854775807 < ((⟨#[114, 111, 111, 109, 32]⟩ : ByteArray) ++ itoaB p0 ++ (⟨#[32]⟩ : ByteArray)).size + (itoaB p1).size) ∧ ¬ (9223372036854775807 < ((⟨#[114, 111, 111, 109, 32]⟩ : ByteArray) ++ itoaB p0 ++ (⟨#[32]⟩ : ByteArray) ++ itoaB p1).size + (⟨#[10]⟩ : ByteArray).size) ∧ ((⟨#[114, 111, 111, 109, 32]⟩ : ByteArray) ++ itoaB p0 ++ (⟨#[32]⟩ : ByteArray) ++ itoaB p1 ++ (⟨#[10]⟩ : ByteArray)).size ≤ 1000000000 ∧ ((⟨#[114, 111, 111, 109, 32]⟩ : ByteArray) ++ itoaB p0 ++ (⟨#[32]⟩ : ByteArray) ++ itoaB p1 ++ (⟨#[10]⟩ : ByteArray)).data.toList = roomL p0 p1 ++ [10]) := ⟨by
    have k0 : (itoaB p0).size ≤ 21 := by have := num_len p0 HP.out.1; rw [← bl_len]; exact this
    have k1 : (itoaB p1).size ≤ 21 := by have := num_len p1 HP.out.2; rw [← bl_len]; exact this
    have e1 : (⟨#[114, 111, 111, 109, 32]⟩ : ByteArray).size = 5 := rfl
    have e2 : (⟨#[32]⟩ : ByteArray).size = 1 := rfl
    have e3 : (⟨#[10]⟩ : ByteArray).size = 1 := rfl
    refine ⟨?_, ?_, ?_, ?_, ?_, ?_⟩
    · rw [e1]; omega
    · rw [ByteArray.size_append, e1, e2]; omega
    · rw [ByteArray.size_append, ByteArray.size_append, e1, e2]; omega
    · rw [ByteArray.size_append, ByteArray.size_append, ByteArray.size_append, e1, e2, e3]; omega
    · rw [ByteArray.size_append, ByteArray.size_append, ByteArray.size_append, ByteArray.size_append, e1, e2, e3]; omega
    · simp [roomL]⟩
  have HZ : Aside0 ((itoaB p0).size ≤ 21 ∧ (itoaB p1).size ≤ 21) := ⟨by have := num_len p0 HP.out.1; rw [← bl_len]; exact this, by have := num_len p1 HP.out.2; rw [← bl_len]; exact this⟩
  go_enter Tryz.func15, Tryz.ntmps15
  go_wp2_with fail
  refine region_facts (ws := []) (G := fun _ w' => Aside0 (Below w.heap.size w w' ∧ w'.heap[w.heap.size]? = some (.cells #[.int .i64 p0, .int .i64 p1, .slice A n c] 24 (0, 0)))) (φs := [Fact.eq (.pointer (some ⟨w.heap.size, 0, none⟩)), Fact.eq (.int .i64 p0), Fact.eq (.string (itoaB p0)), Fact.eq (.string ((⟨#[114, 111, 111, 109, 32]⟩ : ByteArray) ++ itoaB p0)), Fact.eq (.string ((⟨#[114, 111, 111, 109, 32]⟩ : ByteArray) ++ itoaB p0 ++ (⟨#[32]⟩ : ByteArray))), Fact.eq (.pointer (some ⟨w.heap.size, 1, none⟩)), Fact.eq (.int .i64 p1), Fact.eq (.string (itoaB p1)), Fact.eq (.string ((⟨#[114, 111, 111, 109, 32]⟩ : ByteArray) ++ itoaB p0 ++ (⟨#[32]⟩ : ByteArray) ++ itoaB p1)), Fact.eq (.string ((⟨#[114, 111, 111, 109, 32]⟩ : ByteArray) ++ itoaB p0 ++ (⟨#[32]⟩ : ByteArray) ++ itoaB p1 ++ (⟨#[10]⟩ : ByteArray))), (⟨fun e x w' => Buf w' (w.heap.size + 1) x (roomL p0 p1 ++ [10]), fun _ _ _ _ h hb => h.below hb⟩ : Fact), (⟨fun e x w' => Buf w' (w.heap.size + 1) x (roomL p0 p1 ++ [10]), fun _ _ _ _ h hb => h.below hb⟩ : Fact)]) (n := 12) (m := 54) (by kernel_rfl) (by kernel_rfl) rfl rfl (by kernel_rfl) (fun _ _ _ h hb => ⟨below_then h.out.1 h.out.1.size hb, (hb.block _ (blk_lt h.out.2)).trans h.out.2⟩) (⟨below_drew HBX.out.1, (below_drew (Below.refl _ _)).block _ (blk_lt HBX.out.2) |>.trans HBX.out.2⟩) ⟨?o0, ?o1, ?o2, ?o3, ?o4, ?o5, ?o6, ?o7, ?o8, ?o9, ?o10, ?o11, trivial⟩ ?fin
  case o0 =>
    refine ask_val [.fix 1 _] rfl 8 rfl (.inl rfl) ⟨⟨by kernel_rfl, by conv => lhs; whnf⟩, trivial⟩ ?_
    dsimp only [Has, Fact.eq]
    intro e ρ w' hc hf hg hG h1
    go_simp
    first | done | rfl
  case o1 =>
    refine ask_step [.op 8 0 (Fact.eq _)] rfl 9 rfl (.inl rfl) ⟨⟨by kernel_rfl, rfl⟩, trivial⟩ 0 0 (by kernel_rfl) ?_
    dsimp only [Has, Fact.eq]
    intro e ρ w' hp hq hc hf hg hG h8
    have c0 : w'.cell? ⟨w.heap.size, 0, none⟩ = some (.int .i64 p0) := by rw [blk_cell hG.out.2]; rfl
    refine ⟨_, w', ?_, rfl, Below.refl _ _⟩
    go_simp
    first | done | rfl
  case o2 =>
    refine ask_call [.op 9 1 (Fact.eq _)] rfl 10 rfl (.inl rfl) ⟨⟨by kernel_rfl, rfl⟩, trivial⟩ 0 0 (by kernel_rfl) 33 Tryz.func33 (by kernel_rfl) rfl rfl ?_
    dsimp only [Has, Fact.eq]
    intro e ρ w' hp hq hc hf hg hG h9
    refine ⟨#[.int .i64 p0], by simp only [List.map_toArray, List.map_cons, List.map_nil, h9], (number_calls p0 (HP.out.1).1 (HP.out.1).2 w' (HE.out.below hG.out.1).pow).mono ?_⟩
    rintro en w2 ⟨rfl, hb⟩
    exact ⟨_, rfl, rfl, hb⟩
  case o3 =>
    refine ask_val [.op 10 2 (Fact.eq _)] rfl 11 rfl (.inl rfl) ⟨⟨by kernel_rfl, rfl⟩, trivial⟩ ?_
    dsimp only [Has, Fact.eq]
    intro e ρ w' hc hf hg hG h10
    have ha := HADD.out.1
    go_simp
    first | done | (have z0 := HZ.out.1; have z1 := HZ.out.2; omega) | rfl
  case o4 =>
    refine ask_val [.op 11 3 (Fact.eq _)] rfl 12 rfl (.inl rfl) ⟨⟨by kernel_rfl, rfl⟩, trivial⟩ ?_
    dsimp only [Has, Fact.eq]
    intro e ρ w' hc hf hg hG h11
    have ha := HADD.out.2.1
    go_simp
    first | done | (have z0 := HZ.out.1; have z1 := HZ.out.2; omega) | rfl
  case o5 =>
    refine ask_val [.fix 1 _] rfl 13 rfl (.inl rfl) ⟨⟨by kernel_rfl, by conv => lhs; whnf⟩, trivial⟩ ?_
    dsimp only [Has, Fact.eq]
    intro e ρ w' hc hf hg hG h1
    go_simp
    first | done | rfl
  case o6 =>
    refine ask_step [.op 13 5 (Fact.eq _)] rfl 14 rfl (.inl rfl) ⟨⟨by kernel_rfl, rfl⟩, trivial⟩ 0 0 (by kernel_rfl) ?_
    dsimp only [Has, Fact.eq]
    intro e ρ w' hp hq hc hf hg hG h13
    have c0 : w'.cell? ⟨w.heap.size, 1, none⟩ = some (.int .i64 p1) := by rw [blk_cell hG.out.2]; rfl
    refine ⟨_, w', ?_, rfl, Below.refl _ _⟩
    go_simp
    first | done | rfl
  case o7 =>
    refine ask_call [.op 14 6 (Fact.eq _)] rfl 15 rfl (.inl rfl) ⟨⟨by kernel_rfl, rfl⟩, trivial⟩ 0 0 (by kernel_rfl) 33 Tryz.func33 (by kernel_rfl) rfl rfl ?_
    dsimp only [Has, Fact.eq]
    intro e ρ w' hp hq hc hf hg hG h14
    refine ⟨#[.int .i64 p1], by simp only [List.map_toArray, List.map_cons, List.map_nil, h14], (number_calls p1 (HP.out.2).1 (HP.out.2).2 w' (HE.out.below hG.out.1).pow).mono ?_⟩
    rintro en w2 ⟨rfl, hb⟩
    exact ⟨_, rfl, rfl, hb⟩
  case o8 =>
    refine ask_val [.op 12 4 (Fact.eq _), .op 15 7 (Fact.eq _)] rfl 16 rfl (.inl rfl) ⟨⟨by kernel_rfl, rfl⟩, ⟨by kernel_rfl, rfl⟩, trivial⟩ ?_
    dsimp only [Has, Fact.eq]
    intro e ρ w' hc hf hg hG h12 h15
    have ha := HADD.out.2.2.1
    go_simp
    first | done | (have z0 := HZ.out.1; have z1 := HZ.out.2; omega) | rfl
  case o9 =>
    refine ask_val [.op 16 8 (Fact.eq _)] rfl 17 rfl (.inl rfl) ⟨⟨by kernel_rfl, rfl⟩, trivial⟩ ?_
    dsimp only [Has, Fact.eq]
    intro e ρ w' hc hf hg hG h16
    have ha := HADD.out.2.2.2.1
    go_simp
    first | done | (have z0 := HZ.out.1; have z1 := HZ.out.2; omega) | rfl
  case o10 =>
    refine ask_step [.op 17 9 (Fact.eq _)] rfl 18 rfl (.inl rfl) ⟨⟨by kernel_rfl, rfl⟩, trivial⟩ 0 0 (by kernel_rfl) ?_
    dsimp only [Has, Fact.eq]
    intro e ρ w' hp hq hc hf hg hG h17
    obtain ⟨v6, w3, hcv, hB3, hb3⟩ := conv_run w' (w.heap.size + 1) ((⟨#[114, 111, 111, 109, 32]⟩ : ByteArray) ++ itoaB p0 ++ (⟨#[32]⟩ : ByteArray) ++ itoaB p1 ++ (⟨#[10]⟩ : ByteArray)) HADD.out.2.2.2.2.1 (by have := blk_lt hG.out.2; omega)
    rw [HADD.out.2.2.2.2.2] at hB3
    refine ⟨v6, w3, ?_, hB3, hb3⟩
    unfold execOp
    simp only [Sem.run_bind, Sem.run_pure, Result.andThen_ok, h17, hcv]
  case o11 =>
    refine ask_step [.op 18 10 _] rfl 4 rfl (.inl rfl) ⟨⟨by kernel_rfl, rfl⟩, trivial⟩ 0 0 (by kernel_rfl) ?_
    dsimp only [Has, Fact.eq]
    intro e ρ w' hp hq hc hf hg hG h18
    refine ⟨_, w', ?_, h18, Below.refl _ _⟩
    go_simp
    first | done | rfl
  case fin =>
    intro w' hG
    refine fin_eq (fin_eq (fin_eq (fin_eq (fin_eq (fin_eq (fin_eq (fin_eq (fin_eq (fin_eq (fin_fact (fun v10 hv10 => fin_fact (fun v11 hv11 => fin_nil (a' := ?_) ?_ ?_))))))))))))
    rotate_left
    · simp only [Act.put, List.setIfInBounds_toArray, List.set_cons_zero, List.set_cons_succ]
      rfl
    have HB1 : Aside0 (Below w.heap.size w w' ∧ w'.heap[w.heap.size]? = some (.cells #[.int .i64 p0, .int .i64 p1, .slice A n c] 24 (0, 0)) ∧ Buf w' (w.heap.size + 1) v11 (roomL p0 p1 ++ [10] ++ flatP 20000 n acts 0)) := ⟨hG.out.1, hG.out.2, by rw [flat_0, List.append_nil]; exact hv11⟩
    clear hG hv10 hv11
    go_wp2_with fail
    go_loopw [4, 5, 6, 7] (fun v4 v5 v6 v7 wr => ∃ (i : Nat), v5 = .int .i64 (i : Int) ∧ i ≤ n ∧ Aside0 (Below w.heap.size w wr ∧ wr.heap[w.heap.size]? = some (.cells #[.int .i64 p0, .int .i64 p1, .slice A n c] 24 (0, 0)) ∧ Buf wr (w.heap.size + 1) v4 (roomL p0 p1 ++ [10] ++ flatP 20000 n acts i)) ∧ Aside0 (∀ j a, j < i → acts[j]? = some a → (printA a).2 = 0)) (fun _ v5 _ _ _ => n - (intOf v5).toNat)
    case atStart => exact ⟨0, rfl, Nat.zero_le _, HB1, ⟨fun j a h => absurd h (Nat.not_lt_zero _)⟩⟩
    case round =>
      clear HB1
      obtain ⟨i, rfl, hi, HL, HG⟩ := hrel
      have kb2 : wr.cell? ⟨w.heap.size, 2, none⟩ = some (.slice A n c) := by rw [blk_cell HL.out.2.1]; rfl
      by_cases hlt : i < n
      · have b1 : decide ((i : Int) < (n : Int)) = true := decide_eq_true (by omega)
        have pi0 : (0 : Int) ≤ (i : Int) := by omega
        have pi1 : (i : Int) < (n : Int) := by omega
        obtain ⟨adA, A3, c3, eA, x0, x1, x2, x3, x4, x5, x6, hx3, hxC⟩ := at_T31 (Kd.C_below HC.out.1 HL.out.1) (i : Int) pi0 pi1
        subst eA
        rw [Int.toNat_natCast] at x0 x1 x2 x3 x4 x5 x6
        have hlt2 : i < acts.length := by rw [← HNL.out]; exact hlt
        have hrX : acts[i]? = some (rd_T31 acts (i : Int)) := by unfold rd_T31; rw [Int.toNat_natCast, List.getD_eq_getElem?_getD, List.getElem?_eq_getElem hlt2]; rfl
        obtain ⟨X, hX⟩ : ∃ X, X = rd_T31 acts (i : Int) := ⟨_, rfl⟩
        rw [← hX] at x0 x1 x2 x3 x4 x5 x6 hx3 hxC hrX
        clear hX
        have HXA := Aside0.mk (HA.out X (List.mem_of_getElem? hrX))
        have HXC := Aside0.mk (And.intro hxC hx3)
        have HXR := Aside0.mk hrX
        have hwi : wrap64 ((i : Int) + 1) = (i : Int) + 1 := wrap_next i (by omega)
        have hwn : wrap64 ((n : Int) + 1) = (n : Int) + 1 := wrap_next n (by omega)
        have HMS : Aside0 (n - (intOf (Value.int IntKind.i64 ((i : Int) + 1))).toNat < n - (intOf (Value.int IntKind.i64 (i : Int))).toNat) := ⟨meas_step _ _ hlt⟩
        have HI1 : Aside0 (i + 1 ≤ n) := ⟨hlt⟩
        clear hrX hxC hx3 hlt2
        go_wp2_with fail
        obtain ⟨o', ho'⟩ : ∃ o' : Value, o' = .tuple #[.string (printA X).1, .int .i64 (printA X).2] := ⟨_, rfl⟩
        refine (refPrintAct_calls X HXA.out A3 c3 wr (HE.out.below HL.out.1) HXC.out.1 HXC.out.2 o' ⟨ho'⟩).mono ?_; rintro e w3 ⟨rfl, hb3⟩
        subst ho'
        have HB3 : Aside0 (Below w.heap.size w w3 ∧ w3.heap[w.heap.size]? = some (.cells #[.int .i64 p0, .int .i64 p1, .slice (some adA) n c] 24 (0, 0)) ∧ Buf w3 (w.heap.size + 1) u4 (roomL p0 p1 ++ [10] ++ flatP 20000 n acts i)) := ⟨below_then HL.out.1 HL.out.1.size hb3, (hb3.block _ (blk_lt HL.out.2.1)).trans HL.out.2.1, HL.out.2.2.below hb3⟩
        obtain ⟨ps, hps⟩ : ∃ ps, ps = (printA X).1 := ⟨_, rfl⟩
        obtain ⟨pn, hpn⟩ : ∃ pn, pn = (printA X).2 := ⟨_, rfl⟩
        rw [← hps, ← hpn]
        have HPS := Aside0.mk (And.intro hps hpn)
        have hpl : ps.size ≤ 262144 := by rw [hps]; have := printA_len X; rw [← bl_len]; exact this
        clear hb3 x0 x1 x2 x3 x4 x5 x6 kb2 hps hpn
        have k3 : w3.cell? ⟨w.heap.size, 2, none⟩ = some (.slice (some adA) n c) := by rw [blk_cell HB3.out.2.1]; rfl
        by_cases hz : pn = 0
        · have hq : (pn != 0) = false := by simpa using hz
          have HG1 : Aside0 (∀ j a, j < i + 1 → acts[j]? = some a → (printA a).2 = 0) := ⟨fun j a hj hja => by
            by_cases e : j = i
            · rw [e, HXR.out] at hja
              rw [← Option.some.inj hja, ← HPS.out.2]; exact hz
            · exact HG.out j a (by omega) hja⟩
          by_cases hbig : n + 1 ≤ 20000
          · have b4 : decide ((n : Int) + 1 ≤ 20000) = true := decide_eq_true (by omega)
            have HTK : Aside0 (roomL p0 p1 ++ [10] ++ flatP 20000 n acts i ++ (ps ++ ⟨#[10]⟩ : ByteArray).data.toList = roomL p0 p1 ++ [10] ++ flatP 20000 n acts (i + 1)) := ⟨by
              unfold flatP
              rw [if_pos hbig, if_pos hbig, List.take_add_one, HXR.out, HPS.out.1]; simp⟩
            have hadd : ¬ (9223372036854775807 < ps.size + (⟨#[10]⟩ : ByteArray).size) := by
              have : (⟨#[10]⟩ : ByteArray).size = 1 := rfl
              omega
            have HSZ : Aside0 ((roomL p0 p1 ++ [10] ++ flatP 20000 n acts i).length + (ps ++ ⟨#[10]⟩ : ByteArray).size ≤ 140737488355328 ∧ 0 < (ps ++ ⟨#[10]⟩ : ByteArray).size ∧ w.heap.size + 1 ≤ w3.heap.size) := ⟨by
              have e1 : (ps ++ ⟨#[10]⟩ : ByteArray).size = ps.size + 1 := by rw [ByteArray.size_append]; rfl
              have h2 := room_len p0 p1 HP.out.1 HP.out.2
              have h3 := flatP_len n acts i (by omega)
              rw [e1, List.length_append, List.length_append, List.length_cons, List.length_nil]
              exact ⟨by omega, by omega, blk_lt HB3.out.2.1⟩⟩
            clear hz hbig
            go_wp2_with (at_builtin; refine buf_apps2 w3 (w.heap.size + 1) rfl (.tmp 43) (.tmp 45) rfl u4 (roomL p0 p1 ++ [10] ++ flatP 20000 n acts i) rfl _ rfl (by exact HB3.out.2.2) (by exact HSZ.out.1) (by exact HSZ.out.2.2) (by exact HSZ.out.2.1) ?_; intro v7 w5 hb5 hb6 hb7 hb8; rw [HTK.out] at hb5; have HB5 := Aside0.mk (And.intro hb5 hb6); clear hb5 hb6 hb7 hb8)
            have HB6 : Aside0 (Below w.heap.size w w5 ∧ w5.heap[w.heap.size]? = some (.cells #[.int .i64 p0, .int .i64 p1, .slice (some adA) n c] 24 (0, 0)) ∧ Buf w5 (w.heap.size + 1) v7 (roomL p0 p1 ++ [10] ++ flatP 20000 n acts (i + 1))) := ⟨HB3.out.1.trans (below_le HB5.out.2 (Nat.le_succ _)), (HB5.out.2.block _ (Nat.lt_succ_self _)).trans HB3.out.2.1, HB5.out.1⟩
            go_roundw
            case rel => exact ⟨i + 1, by first | rfl | (rw [hwi]; rfl), HI1.out, HB6, HG1⟩
            case measure => first | exact HMS.out | (rw [hwi]; exact HMS.out)
          · have b4 : decide ((n : Int) + 1 ≤ 20000) = false := decide_eq_false (by omega)
            have HTK : Aside0 (flatP 20000 n acts i = flatP 20000 n acts (i + 1)) := ⟨by unfold flatP; rw [if_neg hbig, if_neg hbig]⟩
            rw [HTK.out] at HB3
            clear hz hbig
            go_wp2_with fail
            go_roundw
            case rel => exact ⟨i + 1, by first | rfl | (rw [hwi]; rfl), HI1.out, HB3, HG1⟩
            case measure => first | exact HMS.out | (rw [hwi]; exact HMS.out)
        · have hq : (pn != 0) = true := by simpa using hz
          have HO : Aside0 (o = .tuple #[.string ⟨#[]⟩, .int .i64 pn]) := ⟨by
            rw [ho.out]
            have hbad := bad_at acts i X HG.out HXR.out (by rw [← HPS.out.2]; exact hz)
            unfold printP
            rw [hbad, ← HPS.out.2]⟩
          clear hz
          go_wp2_with fail
          go_ret2
          exact ⟨by rw [HO.out]; rfl, HB3.out.1⟩
      · have b1 : decide ((i : Int) < (n : Int)) = false := decide_eq_false (by omega)
        have b2 : (i < n) = False := eq_false hlt
        have b3 : decide (i < n) = false := decide_eq_false hlt
        have hwn : wrap64 ((n : Int) + 1) = (n : Int) + 1 := wrap_next n (by omega)
        have HNB : Aside0 (badP acts = none) := ⟨bad_none acts (fun j a hj => HG.out j a (by have := (List.getElem?_eq_some_iff.1 hj).1; rw [← HNL.out] at this; omega) hj)⟩
        have HIN : Aside0 (i = n) := ⟨by omega⟩
        clear hlt hi
        by_cases hbig : 20000 < n + 1
        · have b4 : decide ((20000 : Int) < (n : Int) + 1) = true := decide_eq_true (by omega)
          have HO : Aside0 (o = .tuple #[.string ⟨#[]⟩, .int .i64 246]) := ⟨by
            rw [ho.out]
            unfold printP
            rw [HNB.out]
            simp only
            rw [if_pos (by rw [← HNL.out]; omega)]⟩
          clear hbig
          go_wp2_with fail
          go_ret2
          exact ⟨by rw [HO.out]; rfl, HL.out.1⟩
        · have b4 : decide ((20000 : Int) < (n : Int) + 1) = false := decide_eq_false (by omega)
          obtain ⟨l, hl⟩ : ∃ l, l = roomL p0 p1 ++ [10] ++ flatP 20000 n acts i := ⟨_, rfl⟩
          have hcv := buf_string wr (w.heap.size + 1) u4 l (by rw [hl]; exact HL.out.2.2)
          have HO : Aside0 (o = .tuple #[.string ⟨l.toArray⟩, .int .i64 0]) := ⟨by
            rw [ho.out]
            unfold printP
            rw [HNB.out]
            simp only
            rw [if_neg (by rw [← HNL.out]; omega), text_alt, hl]
            unfold flatP
            rw [if_pos (by omega), HIN.out, List.take_of_length_le (by rw [HNL.out]; exact Nat.le_refl _)]⟩
          clear hbig hl
          go_wp2_with fail
          go_ret2
          exact ⟨by rw [HO.out]; rfl, HL.out.1⟩
end Go.Proofs.YtkfjjmmpbfjhaaaGreatDoor.Tells
namespace Go.Proofs.YtkfjjmmpbfjhaaaGreatDoor.Tells
open Go.RowKit Go.Proofs.YtkfjjmmpbfjhaaaGreatDoor.Facts Go.Proofs.YtkfjjmmpbfjhaaaGreatDoor.PScriptActs Go.Proofs.YtkfjjmmpbfjhaaaGreatDoorW.PrintWords Go.Proofs.YtkfjjmmpbfjhaaaGreatDoorW.PrintLast Go.Proofs.YtkfjjmmpbfjhaaaGreatDoorW.PrintMore
attribute [local go_sem] max2_int min2_int max_two min_two max_three min_three max_four min_four
set_option linter.unusedVariables false
set_option linter.unusedSimpArgs false
def rowOf (a : S31) (A3 : Option Addr) (c3 : Nat) : List Value := [.int .i64 a.f0, .string a.f1, .string a.f2, .slice A3 a.f3.length c3, .string a.f4, .int .i64 a.f5, .int .i64 a.f6]
def RowsAre (W : World) (fs : List (List Value)) (acts : List S31) : Prop := acts.length = fs.length ∧ ∀ (i : Nat) (a : S31) (f : List Value), acts[i]? = some a → fs[i]? = some f → ∃ A3 c3, f = rowOf a A3 c3 ∧ a.f3.length ≤ c3 ∧ Kd.string.C W A3 a.f3.length a.f3
theorem RowsAre.snoc {W : World} {fs : List (List Value)} {acts : List S31} (h : RowsAre W fs acts) (a : S31) (A3 : Option Addr) (c3 : Nat) (h1 : a.f3.length ≤ c3) (h2 : Kd.string.C W A3 a.f3.length a.f3) : RowsAre W (fs ++ [rowOf a A3 c3]) (acts ++ [a]) := by
  refine ⟨by rw [List.length_append, List.length_append, h.1]; rfl, fun i b f hb hf => ?_⟩
  by_cases hi : i < acts.length
  · rw [List.getElem?_append_left hi] at hb
    rw [List.getElem?_append_left (by rw [← h.1]; exact hi)] at hf
    exact h.2 i b f hb hf
  · rw [List.getElem?_append_right (by omega)] at hb
    rw [List.getElem?_append_right (by rw [← h.1]; omega)] at hf
    obtain rfl := List.mem_singleton.1 (List.mem_of_getElem? hb)
    obtain rfl := List.mem_singleton.1 (List.mem_of_getElem? hf)
    exact ⟨A3, c3, rfl, h1, h2⟩
theorem RowsAre.below {W W' : World} {fs : List (List Value)} {acts : List S31} (h : RowsAre W fs acts) (hb : Below W.heap.size W W') : RowsAre W' fs acts := ⟨h.1, fun i a f ha hf => by
  obtain ⟨A3, c3, e, h1, h2⟩ := h.2 i a f ha hf
  exact ⟨A3, c3, e, h1, Kd.C_below h2 hb⟩⟩
theorem wrap_prev (j : Nat) (h : j < 4611686018427387904) : wrap64 ((j : Int) - 1) = (j : Int) - 1 := by unfold wrap64; omega
set_option maxHeartbeats 4000000 in
set_option maxRecDepth 100000 in
theorem turned_calls (p0 p1 : Int) (acts : List S31) (hn : acts.length ≤ 1048576) (A : Option Addr) (c : Nat) (w0 w : World) (hC : k31.C w0 A acts.length acts) (hw : Below w0.heap.size w0 w) (hc : acts.length ≤ c) : Calls Tryz.prog 16 #[.agg #[.int .i64 p0, .int .i64 p1, .slice A acts.length c]] w fun e w' => ∃ A' c' fs, e = .returned (.agg #[.int .i64 p0, .int .i64 p1, .slice A' acts.length c']) ∧ (Kd.raw 7).C w' A' acts.length fs ∧ RowsAre w0 fs acts.reverse ∧ acts.length ≤ c' ∧ Below w.heap.size w w' ∧ (∀ a, A' = some a → w.heap.size ≤ a.block) := by
  have HC := Aside0.mk (And.intro hC hc)
  have HW0 := Aside0.mk hw
  clear hw
  have HN := Aside0.mk hn
  obtain ⟨n, hnl⟩ : ∃ n, n = acts.length := ⟨_, rfl⟩
  have HNL := Aside0.mk hnl
  rw [← hnl] at HC HN hn
  rw [← hnl]
  clear hnl hC hc
  have HB0 : Aside0 (∀ W, W = ((w.alloc (.cells #[.int .i64 p0, .int .i64 p1, .slice A n c] 24 (0, 0))).alloc (.cells #[.int .i64 0, .int .i64 0, .slice none 0 0] 24 (0, 0))) → Below w.heap.size w W ∧ W.heap[w.heap.size]? = some (.cells #[.int .i64 p0, .int .i64 p1, .slice A n c] 24 (0, 0)) ∧ W.heap[w.heap.size + 1]? = some (.cells #[.int .i64 0, .int .i64 0, .slice none 0 0] 24 (0, 0)) ∧ w.heap.size + 2 ≤ W.heap.size) := ⟨fun W hW => by
    have hs : (w.alloc (.cells #[.int .i64 p0, .int .i64 p1, .slice A n c] 24 (0, 0))).heap.size = w.heap.size + 1 := by simp
    subst hW
    refine ⟨below_alloc (below_alloc (Below.refl _ _) _) _, ?_, ?_, by simp⟩
    · exact (((Below.refl _ _).alloc (Nat.le_refl _) _).block _ (by omega)).trans (blk_new w _)
    · have := blk_new (w.alloc (.cells #[.int .i64 p0, .int .i64 p1, .slice A n c] 24 (0, 0))) (.cells #[.int .i64 0, .int .i64 0, .slice none 0 0] 24 (0, 0))
      rw [hs] at this; exact this⟩
  have hwn : wrap64 ((n : Int) - 1) = (n : Int) - 1 := wrap_prev n (by omega)
  go_enter Tryz.func16, Tryz.ntmps16
  go_wp2_with fail
  have HB1 := Aside0.mk (HB0.out _ rfl)
  clear HB0
  go_loopw [3, 4] (fun v3 v4 wr => ∃ (m : Nat), v4 = .int .i64 ((m : Int) - 1) ∧ m ≤ n ∧ Aside0 (Below w.heap.size w wr ∧ wr.heap[w.heap.size]? = some (.cells #[.int .i64 p0, .int .i64 p1, .slice A n c] 24 (0, 0)) ∧ wr.heap[w.heap.size + 1]? = some (.cells #[.int .i64 0, .int .i64 0, .slice none 0 0] 24 (0, 0)) ∧ w.heap.size + 2 ≤ wr.heap.size) ∧ Aside0 (∃ fs, (Kd.raw 7).R 31 wr w.heap.size (fun _ => True) v3 fs ∧ RowsAre w0 fs (acts.reverse.take (n - m)))) (fun _ v4 _ => (intOf v4 + 1).toNat)
  case atStart => exact ⟨n, by first | rfl | (rw [hwn]), Nat.le_refl _, HB1, ⟨[], Kd.R_nil _ _ _ _ _, by rw [Nat.sub_self, List.take_zero]; exact ⟨rfl, fun i a f h => by simp at h⟩⟩⟩
  case round =>
    clear HB1
    obtain ⟨m, rfl, hm, HL, HRx⟩ := hrel
    obtain ⟨fs, hR, hRA⟩ := HRx.out
    have HR := Aside0.mk hR
    have HRA := Aside0.mk hRA
    clear hR hRA HRx
    have kb2 : wr.cell? ⟨w.heap.size, 2, none⟩ = some (.slice A n c) := by rw [blk_cell HL.out.2.1]; rfl
    by_cases hlt : 0 < m
    · obtain ⟨i, rfl⟩ : ∃ i, m = i + 1 := ⟨m - 1, by omega⟩
      have hmi : (((i + 1 : Nat) : Int) - 1) = (i : Int) := by omega
      rw [hmi]
      have b1 : decide ((0 : Int) ≤ (i : Int)) = true := decide_eq_true (by omega)
      have pi0 : (0 : Int) ≤ (i : Int) := by omega
      have pi1 : (i : Int) < (n : Int) := by omega
      obtain ⟨adA, A3, c3, eA, x0, x1, x2, x3, x4, x5, x6, hx3, hxC⟩ := at_T31 HC.out.1 (i : Int) pi0 pi1
      subst eA
      rw [Int.toNat_natCast] at x0 x1 x2 x3 x4 x5 x6
      have hlt2 : i < acts.length := by rw [← HNL.out]; omega
      have hrX : acts[i]? = some (rd_T31 acts (i : Int)) := by unfold rd_T31; rw [Int.toNat_natCast, List.getD_eq_getElem?_getD, List.getElem?_eq_getElem hlt2]; rfl
      obtain ⟨X, hX⟩ : ∃ X, X = rd_T31 acts (i : Int) := ⟨_, rfl⟩
      rw [← hX] at x0 x1 x2 x3 x4 x5 x6 hx3 hxC hrX
      clear hX
      have y0 := pw_cell_below HL.out.1 (pw_cell_below HW0.out x0)
      have y1 := pw_cell_below HL.out.1 (pw_cell_below HW0.out x1)
      have y2 := pw_cell_below HL.out.1 (pw_cell_below HW0.out x2)
      have y3 := pw_cell_below HL.out.1 (pw_cell_below HW0.out x3)
      have y4 := pw_cell_below HL.out.1 (pw_cell_below HW0.out x4)
      have y5 := pw_cell_below HL.out.1 (pw_cell_below HW0.out x5)
      have y6 := pw_cell_below HL.out.1 (pw_cell_below HW0.out x6)
      have hwi : wrap64 ((i : Int) - 1) = (i : Int) - 1 := wrap_prev i (by omega)
      have HRN : Aside0 (RowsAre w0 (fs ++ [rowOf X A3 c3]) (acts.reverse.take (n - i))) := ⟨by
        have e : acts.reverse.take (n - i) = acts.reverse.take (n - (i + 1)) ++ [X] := by
          have hr : n - (i + 1) < acts.reverse.length := by rw [List.length_reverse, ← HNL.out]; omega
          rw [show n - i = (n - (i + 1)) + 1 by omega, List.take_add_one, List.getElem?_eq_getElem hr, List.getElem_reverse]
          have : acts[acts.length - 1 - (n - (i + 1))]'(by rw [← HNL.out]; omega) = X := by
            have h2 := List.getElem?_eq_getElem hlt2
            rw [hrX] at h2
            have e3 : acts.length - 1 - (n - (i + 1)) = i := by rw [← HNL.out]; omega
            simp only [e3]
            exact (Option.some.inj h2).symm
          rw [this]; rfl
        rw [e]
        exact HRA.out.snoc X A3 c3 hx3 hxC⟩
      have HFL : Aside0 ((fs.length + 1) * 96 ≤ 140737488355328) := ⟨by
        have := HRA.out.1
        rw [List.length_take, List.length_reverse] at this
        omega⟩
      have HI1 : Aside0 (i ≤ n) := ⟨by omega⟩
      have HMS : Aside0 ((intOf (Value.int IntKind.i64 ((i : Int) - 1)) + 1).toNat < (intOf (Value.int IntKind.i64 (i : Int)) + 1).toNat) := ⟨by simp only [intOf]; omega⟩
      have hsz := HL.out.1.size
      clear hrX hxC hx3 hlt2 x0 x1 x2 x3 x4 x5 x6 hmi
      go_wp2_with (at_builtin; refine raw_app wr w.heap.size 22 31 (.agg #[(.int .i64 0), (.string ⟨#[]⟩), (.string ⟨#[]⟩), (.slice none 0 0), (.string ⟨#[]⟩), (.int .i64 0), (.int .i64 0)]) 7 96 rfl (.tmp 13) (.tmp 19) rfl Tryz.underlying22 info31z rfl (by decide) (by decide) u3 fs (rowOf X A3 c3) rfl rfl (by exact HR.out) rfl (by intro u hu; simp only [rowOf, List.mem_cons, List.not_mem_nil, or_false] at hu; rcases hu with rfl | rfl | rfl | rfl | rfl | rfl | rfl <;> rfl) (by exact hsz) (by exact HFL.out) ?_; intro v1 w3 hF3 hg3 hv3)
      have HS3 : Aside0 (Still wr w3 (fun k => some k = u3.ownBlock)) := ⟨Still.grown hg3 (fun k hk => hk.symm)⟩
      have HL3 : Aside0 (Below w.heap.size w w3 ∧ w3.heap[w.heap.size]? = some (.cells #[.int .i64 p0, .int .i64 p1, .slice (some adA) n c] 24 (0, 0)) ∧ w3.heap[w.heap.size + 1]? = some (.cells #[.int .i64 0, .int .i64 0, .slice none 0 0] 24 (0, 0)) ∧ w.heap.size + 2 ≤ w3.heap.size) := ⟨HL.out.1.trans (HS3.out.below hsz (fun k h => Kd.R_base HR.out k h.symm)), HS3.out.blk HL.out.2.1 (fun e => Kd.R_ne HR.out HL.out.2.1 (by decide) e), HS3.out.blk HL.out.2.2.1 (fun e => Kd.R_ne HR.out HL.out.2.2.1 (by decide) e), Nat.le_trans HL.out.2.2.2 HS3.out.size⟩
      have HF3 := Aside0.mk hF3
      clear hF3 hg3 hv3
      go_roundw
      case rel => exact ⟨i, by first | rfl | (rw [hwi]), HI1.out, HL3, ⟨_, HF3.out, HRN.out⟩⟩
      case measure => first | exact HMS.out | (rw [hwi]; exact HMS.out)
    · obtain rfl : m = 0 := by omega
      have b1 : decide ((0 : Int) ≤ (((0 : Nat) : Int) - 1)) = false := by decide
      obtain ⟨A4, c4, e4, h4, hC4⟩ := Kd.R_reads HR.out
      have hfl : fs.length = n := by
        have := HRA.out.1
        rw [List.length_take, List.length_reverse, ← HNL.out] at this
        omega
      rw [hfl] at e4 h4 hC4
      subst e4
      have m0 : wr.cell? ⟨w.heap.size, 0, none⟩ = some (.int .i64 p0) := by rw [blk_cell HL.out.2.1]; rfl
      have m1 : wr.cell? ⟨w.heap.size, 1, none⟩ = some (.int .i64 p1) := by rw [blk_cell HL.out.2.1]; rfl
      have f0 : ∀ i, wr.frozen? ⟨w.heap.size, i, none⟩ = false := fun i => blk_frozen HL.out.2.1 i
      have hne : w.heap.size + 1 ≠ w.heap.size := by omega
      have hne' : w.heap.size ≠ w.heap.size + 1 := by omega
      have hbx : ∀ v, (wr.setCell ⟨w.heap.size, 2, none⟩ v).heap[w.heap.size]? = some (.cells #[.int .i64 p0, .int .i64 p1, v] 24 (0, 0)) := fun v => blk_set HL.out.2.1 2 v
      have hby : ∀ v, (wr.setCell ⟨w.heap.size, 2, none⟩ v).heap[w.heap.size + 1]? = some (.cells #[.int .i64 0, .int .i64 0, .slice none 0 0] 24 (0, 0)) := fun v => blk_far HL.out.2.2.1 hne v
      have g0 : ∀ v, (wr.setCell ⟨w.heap.size, 2, none⟩ v).cell? ⟨w.heap.size, 0, none⟩ = some (.int .i64 p0) := fun v => by rw [blk_cell (hbx v)]; rfl
      have g1 : ∀ v, (wr.setCell ⟨w.heap.size, 2, none⟩ v).cell? ⟨w.heap.size, 1, none⟩ = some (.int .i64 p1) := fun v => by rw [blk_cell (hbx v)]; rfl
      have g2 : ∀ v, (wr.setCell ⟨w.heap.size, 2, none⟩ v).cell? ⟨w.heap.size, 2, none⟩ = some v := fun v => by rw [blk_cell (hbx v)]; rfl
      have d0 : ∀ v, (wr.setCell ⟨w.heap.size, 2, none⟩ v).cell? ⟨w.heap.size + 1, 0, none⟩ = some (.int .i64 0) := fun v => by rw [blk_cell (hby v)]; rfl
      have d1 : ∀ v, (wr.setCell ⟨w.heap.size, 2, none⟩ v).cell? ⟨w.heap.size + 1, 1, none⟩ = some (.int .i64 0) := fun v => by rw [blk_cell (hby v)]; rfl
      have d2 : ∀ v, (wr.setCell ⟨w.heap.size, 2, none⟩ v).cell? ⟨w.heap.size + 1, 2, none⟩ = some (.slice none 0 0) := fun v => by rw [blk_cell (hby v)]; rfl
      have fz : ∀ v i, (wr.setCell ⟨w.heap.size, 2, none⟩ v).frozen? ⟨w.heap.size + 1, i, none⟩ = false := fun v i => blk_frozen (hby v) i
      have H4 := Aside0.mk (And.intro h4 hC4)
      have HBA : Aside0 (∀ a, A4 = some a → w.heap.size ≤ a.block) := ⟨fun a e => Kd.R_base HR.out a.block (by rw [e]; rfl)⟩
      clear hfl h4 hC4 hbx hby
      have HFIN : Aside0 (∀ Wf, Wf = ((((wr.setCell ⟨w.heap.size, 2, none⟩ (.slice A4 n c4)).setCell ⟨w.heap.size + 1, 0, none⟩ (.int .i64 p0)).setCell ⟨w.heap.size + 1, 1, none⟩ (.int .i64 p1)).setCell ⟨w.heap.size + 1, 2, none⟩ (.slice A4 n c4)) → Wf.heap[w.heap.size + 1]? = some (.cells #[.int .i64 p0, .int .i64 p1, .slice A4 n c4] 24 (0, 0)) ∧ (Kd.raw 7).C Wf A4 n fs ∧ Below w.heap.size w Wf) := ⟨fun Wf hWf => by
        have hs : Still wr Wf (fun k => k = w.heap.size ∨ k = w.heap.size + 1) := by
          rw [hWf]
          refine (((Still.set (S := fun k => k = w.heap.size ∨ k = w.heap.size + 1) _ _ _ (Or.inl rfl)).trans (Still.set (S := fun k => k = w.heap.size ∨ k = w.heap.size + 1) _ _ _ (Or.inr rfl)) (fun _ _ h => h)).trans (Still.set (S := fun k => k = w.heap.size ∨ k = w.heap.size + 1) _ _ _ (Or.inr rfl)) (fun _ _ h => h)).trans (Still.set (S := fun k => k = w.heap.size ∨ k = w.heap.size + 1) _ _ _ (Or.inr rfl)) (fun _ _ h => h)
        refine ⟨?_, ?_, ?_⟩
        · rw [hWf]
          exact blk_set (blk_set (blk_set (blk_far HL.out.2.2.1 hne _) 0 _) 1 _) 2 _
        · obtain ⟨A5, c5, e5, h5, hC5⟩ := Kd.R_reads (R_still HR.out hs (fun k cells q hq hk e => by
            have hq' : q = 31 := by simpa [Kd.raw] using hq
            subst hq'
            rcases e with rfl | rfl
            · exact absurd rfl (blk_ne hk HL.out.2.1 (by decide))
            · exact absurd rfl (blk_ne hk HL.out.2.2.1 (by decide))))
          injection e5 with e51 e52 _
          rw [← e51, ← e52] at hC5
          exact hC5
        · exact HL.out.1.trans (hs.below HL.out.1.size (fun k h => by rcases h with rfl | rfl <;> omega))⟩
      have HRR : Aside0 (RowsAre w0 fs acts.reverse) := ⟨by
        have := HRA.out
        rw [List.take_of_length_le (by rw [List.length_reverse, ← HNL.out]; omega)] at this
        exact this⟩
      go_wp2_with fail
      have HF := Aside0.mk (HFIN.out _ rfl)
      (try simp only [Exit.inBlock, Exit.then])
      refine bodyPost_ret (results_cell_row rfl _ _ (w.heap.size + 1) 24 #[.int .i64 p0, .int .i64 p1, .slice A4 n c4] (0, 0) _ rfl HF.out.1 Tryz.underlying24 rfl (by kernel_rfl)) rfl ?_
      exact ⟨A4, c4, fs, rfl, HF.out.2.1, HRR.out, H4.out.1, HF.out.2.2, HBA.out⟩
/-- the first i rows of the block F are fs's -/
def Turn7 (w : World) (F N : Nat) (fs : List (List Value)) (i : Nat) : Prop := ∃ cur, w.heap[F]? = some (.cells cur 31 (0, 0)) ∧ N * 7 ≤ cur.size ∧ ∀ (j : Nat) f, j < i → fs[j]? = some f → ∀ (q : Nat) x, f[q]? = some x → cur[j * 7 + q]? = some x
theorem Turn7.below {w w' : World} {F N i : Nat} {fs : List (List Value)} (h : Turn7 w F N fs i) (hb : Below w.heap.size w w') : Turn7 w' F N fs i := by
  obtain ⟨cur, h1, h2, h3⟩ := h
  exact ⟨cur, (hb.block _ (blk_lt h1)).trans h1, h2, h3⟩
theorem still7 (w : World) (F k : Nat) (v0 v1 v2 v3 v4 v5 v6 : Value) : Still w (((((((w.setCell ⟨F, k, none⟩ v0).setCell ⟨F, k + 1, none⟩ v1).setCell ⟨F, k + 2, none⟩ v2).setCell ⟨F, k + 3, none⟩ v3).setCell ⟨F, k + 4, none⟩ v4).setCell ⟨F, k + 5, none⟩ v5).setCell ⟨F, k + 6, none⟩ v6) (fun j => j = F) := by
  have st : ∀ (w : World) (i : Nat) (v : Value), Still w (w.setCell ⟨F, i, none⟩ v) (fun j => j = F) := fun w i v => Still.set _ _ _ rfl
  exact ((((((st _ _ _).trans (st _ _ _) (fun _ _ h => h)).trans (st _ _ _) (fun _ _ h => h)).trans (st _ _ _) (fun _ _ h => h)).trans (st _ _ _) (fun _ _ h => h)).trans (st _ _ _) (fun _ _ h => h)).trans (st _ _ _) (fun _ _ h => h)
theorem turn7_put {w : World} {F N i : Nat} {fs : List (List Value)} (h : Turn7 w F N fs i) {v0 v1 v2 v3 v4 v5 v6 : Value} (hf : fs[i]? = some [v0, v1, v2, v3, v4, v5, v6]) (hi : i < N) (hr : ∀ f ∈ fs, f.length = 7) : Turn7 (((((((w.setCell ⟨F, i * 7, none⟩ v0).setCell ⟨F, i * 7 + 1, none⟩ v1).setCell ⟨F, i * 7 + 2, none⟩ v2).setCell ⟨F, i * 7 + 3, none⟩ v3).setCell ⟨F, i * 7 + 4, none⟩ v4).setCell ⟨F, i * 7 + 5, none⟩ v5).setCell ⟨F, i * 7 + 6, none⟩ v6) F N fs (i + 1) := by
  obtain ⟨cur, h1, h2, h3⟩ := h
  have hsz : i * 7 + 6 < cur.size := by omega
  refine ⟨_, blk_set (blk_set (blk_set (blk_set (blk_set (blk_set (blk_set h1 _ _) _ _) _ _) _ _) _ _) _ _) _ _, by simpa using h2, fun j f hj hfj q x hq => ?_⟩
  by_cases e : j = i
  · subst e
    rw [hf] at hfj
    obtain rfl := Option.some.inj hfj
    have hq7 : q < 7 := by have := (List.getElem?_eq_some_iff.1 hq).1; simpa using this
    rcases (show q = 0 ∨ q = 1 ∨ q = 2 ∨ q = 3 ∨ q = 4 ∨ q = 5 ∨ q = 6 by omega) with rfl | rfl | rfl | rfl | rfl | rfl | rfl <;> (simp at hq; subst hq; simp [Array.getElem?_setIfInBounds]; omega)
  · have hq7 : j * 7 + q < i * 7 ∨ 7 ≤ q := by omega
    rcases hq7 with hq7 | hq7
    · have := h3 j f (by omega) hfj q x hq
      rw [Array.getElem?_setIfInBounds_ne (by omega), Array.getElem?_setIfInBounds_ne (by omega), Array.getElem?_setIfInBounds_ne (by omega), Array.getElem?_setIfInBounds_ne (by omega), Array.getElem?_setIfInBounds_ne (by omega), Array.getElem?_setIfInBounds_ne (by omega), Array.getElem?_setIfInBounds_ne (by omega)]
      exact this
    · have hjl := (List.getElem?_eq_some_iff.1 hq).1
      have := hr f (List.mem_of_getElem? hfj)
      omega
theorem turn7_C {w : World} {F N : Nat} {fs : List (List Value)} (h : Turn7 w F N fs N) (hl : fs.length = N) (hb : N ≤ 1048576) (hr : ∀ f ∈ fs, f.length = 7 ∧ ∀ u ∈ f, u.oneCell' = true) : (Kd.raw 7).C w (some ⟨F, 0, none⟩) N fs := by
  obtain ⟨cur, h1, h2, h3⟩ := h
  refine ⟨hl, by omega, fun _ => ⟨_, rfl, fun j f hj => ⟨f, (hr f (List.mem_of_getElem? hj)).1, ⟨rfl, (hr f (List.mem_of_getElem? hj)).1, (hr f (List.mem_of_getElem? hj)).2⟩, fun q x hq => ?_⟩⟩⟩
  have hjl := (List.getElem?_eq_some_iff.1 hj).1
  rw [Addr.add_lit, blk_cell h1]
  have := h3 j f (by omega) hj q x hq
  rw [Nat.zero_add]
  exact this
theorem rawC_still {w w' : World} {A : Option Addr} {n sz : Nat} {fs : List (List Value)} {S : Nat → Prop} (h : (Kd.raw sz).C w A n fs) (hs : Still w w' S) (hn : ∀ a, A = some a → ¬ S a.block) : (Kd.raw sz).C w' A n fs := by
  refine ⟨h.1, h.2.1, fun h0 => ?_⟩
  obtain ⟨ad, e, hc⟩ := h.2.2 h0
  refine ⟨ad, e, fun j p hj => ?_⟩
  obtain ⟨c, h1, h2, h3⟩ := hc j p hj
  refine ⟨c, h1, h2, fun q x hq => ?_⟩
  have hcell := h3 q x hq
  have hlt := World.block_lt_of_cell? w _ hcell
  rw [World.cell?_of_block (hs.block _ hlt (by rw [add_block]; exact hn ad e))]; exact hcell
set_option maxHeartbeats 8000000 in
set_option maxRecDepth 100000 in
theorem prints_law (p0 p1 : Int) (hp0 : inI p0) (hp1 : inI p1) (acts : List S31) (ha : ∀ a ∈ acts, Aok a) (hn : acts.length ≤ 1048576) (A : Option Addr) (c : Nat) (W : World) (E : Env W) (hC : k31.C W A acts.length acts) (hc : acts.length ≤ c) : Calls Tryz.prog 4 #[.agg #[.int .i64 p0, .int .i64 p1, .slice A acts.length c]] W fun e w' => e = .returned (.bool true) ∧ Below W.heap.size W w' := by
  have HA := Aside0.mk ha
  have HE := Aside0.mk E
  have HP := Aside0.mk (And.intro hp0 hp1)
  have HC := Aside0.mk (And.intro hC hc)
  have HN := Aside0.mk hn
  clear ha E hC hc hp0 hp1
  obtain ⟨n, hnl⟩ : ∃ n, n = acts.length := ⟨_, rfl⟩
  have HNL := Aside0.mk hnl
  rw [← hnl] at HC HN hn
  rw [← hnl]
  clear hnl
  have HB0 : Aside0 (∀ W0, W0 = W.alloc (.cells #[.int .i64 p0, .int .i64 p1, .slice A n c] 24 (0, 0)) → Below W.heap.size W W0 ∧ W0.heap[W.heap.size]? = some (.cells #[.int .i64 p0, .int .i64 p1, .slice A n c] 24 (0, 0))) := ⟨fun W0 h => by rw [h]; exact ⟨below_alloc (Below.refl _ _) _, blk_new W _⟩⟩
  go_enter Tryz.func4, Tryz.ntmps4
  go_wp2_with fail
  have HB1 := Aside0.mk (HB0.out _ rfl)
  clear HB0
  obtain ⟨Wp, hWp⟩ : ∃ Wp, Wp = W.alloc (.cells #[.int .i64 p0, .int .i64 p1, .slice A n c] 24 (0, 0)) := ⟨_, rfl⟩
  rw [← hWp] at HB1
  rw [← hWp]
  clear hWp
  have hcall := hand_calls p0 p1 acts HA.out (by rw [← HNL.out]; exact hn) A c Wp (by rw [← HNL.out]; exact Kd.C_below HC.out.1 HB1.out.1) (by rw [← HNL.out]; exact HC.out.2)
  rw [← HNL.out] at hcall
  refine hcall.mono ?_; rintro e w1 ⟨g, F, cF, vN, L, rfl, hL, hH, hg, hb1⟩
  clear hcall
  have HLA := Aside0.mk hL
  have HFW : Aside0 (F < w1.heap.size ∧ Wp.heap.size ≤ F) := ⟨Kd.R_lt hH.full F rfl, Kd.R_base hH.full F rfl⟩
  have HH1 : Aside0 (HandAt w1 Wp.heap.size g p0 p1 n F cF vN L ∧ Below W.heap.size W w1 ∧ w1.heap[W.heap.size]? = some (.cells #[.int .i64 p0, .int .i64 p1, .slice A n c] 24 (0, 0))) := ⟨hH, below_then HB1.out.1 HB1.out.1.size hb1, (hb1.block _ (blk_lt HB1.out.2)).trans HB1.out.2⟩
  have HLE : Aside0 (∀ e ∈ L, Aok e.1) := ⟨fun e he => HA.out e.1 (by rw [← hL]; exact List.mem_map.2 ⟨e, he, rfl⟩)⟩
  clear hL hH hg hb1
  have kg0 : w1.cell? ⟨g, 0, none⟩ = some (.int .i64 p0) := by rw [blk_cell HH1.out.1.blk]; rfl
  have kg1 : w1.cell? ⟨g, 1, none⟩ = some (.int .i64 p1) := by rw [blk_cell HH1.out.1.blk]; rfl
  have kg2 : w1.cell? ⟨g, 2, none⟩ = some (.slice (some ⟨F, 0, none⟩) n cF) := by rw [blk_cell HH1.out.1.blk]; rfl
  go_wp2_with fail
  obtain ⟨o, ho⟩ : ∃ o : Value, o = .tuple #[.string (printP p0 p1 acts).1, .int .i64 (printP p0 p1 acts).2] := ⟨_, rfl⟩
  have hcall := print_calls p0 p1 HP.out.1 HP.out.2 acts HA.out (by rw [← HNL.out]; exact hn) (some ⟨F, 0, none⟩) cF w1 (HE.out.below HH1.out.2.1) (by have := HH1.out.1.reads.2.1; rw [HLA.out] at this; rw [← HNL.out]; exact this) (by rw [← HNL.out]; have := HH1.out.1.room; omega) o ⟨ho⟩
  rw [← HNL.out] at hcall
  refine hcall.mono ?_; rintro e w2 ⟨rfl, hb2⟩
  clear hcall
  subst ho
  have HH2 : Aside0 (HandAt w2 Wp.heap.size g p0 p1 n F cF vN L ∧ Below W.heap.size W w2 ∧ w2.heap[W.heap.size]? = some (.cells #[.int .i64 p0, .int .i64 p1, .slice A n c] 24 (0, 0))) := ⟨HH1.out.1.next hb2, below_then HH1.out.2.1 HH1.out.2.1.size hb2, (hb2.block _ (blk_lt HH1.out.2.2)).trans HH1.out.2.2⟩
  have HF2 : Aside0 (F < w2.heap.size) := ⟨Nat.lt_of_lt_of_le HFW.out.1 hb2.size⟩
  clear hb2 kg0 kg1 kg2
  have kb0 : w2.cell? ⟨W.heap.size, 0, none⟩ = some (.int .i64 p0) := by rw [blk_cell HH2.out.2.2]; rfl
  have kb1 : w2.cell? ⟨W.heap.size, 1, none⟩ = some (.int .i64 p1) := by rw [blk_cell HH2.out.2.2]; rfl
  have kb2 : w2.cell? ⟨W.heap.size, 2, none⟩ = some (.slice A n c) := by rw [blk_cell HH2.out.2.2]; rfl
  go_wp2_with fail
  obtain ⟨o, ho⟩ : ∃ o : Value, o = .tuple #[.string (printP p0 p1 acts).1, .int .i64 (printP p0 p1 acts).2] := ⟨_, rfl⟩
  have hcall := refPrint_calls p0 p1 HP.out.1 HP.out.2 acts HA.out (by rw [← HNL.out]; exact hn) A c w2 (HE.out.below HH2.out.2.1) (by rw [← HNL.out]; exact Kd.C_below HC.out.1 HH2.out.2.1) (by rw [← HNL.out]; exact HC.out.2) o ⟨ho⟩
  rw [← HNL.out] at hcall
  refine hcall.mono ?_; rintro e w3 ⟨rfl, hb3⟩
  clear hcall
  subst ho
  have HH3 : Aside0 (HandAt w3 Wp.heap.size g p0 p1 n F cF vN L ∧ Below W.heap.size W w3 ∧ w3.heap[W.heap.size]? = some (.cells #[.int .i64 p0, .int .i64 p1, .slice A n c] 24 (0, 0)) ∧ F < w3.heap.size) := ⟨HH2.out.1.next hb3, below_then HH2.out.2.1 HH2.out.2.1.size hb3, (hb3.block _ (blk_lt HH2.out.2.2)).trans HH2.out.2.2, Nat.lt_of_lt_of_le HF2.out hb3.size⟩
  clear hb3 kb0 kb1 kb2
  obtain ⟨ps, hps⟩ : ∃ ps, ps = (printP p0 p1 acts).1 := ⟨_, rfl⟩
  obtain ⟨pn, hpn⟩ : ∃ pn, pn = (printP p0 p1 acts).2 := ⟨_, rfl⟩
  rw [← hps, ← hpn]
  clear hps hpn
  go_wp2_with fail
  refine (num_calls12 pn w3).mono ?_; rintro e w4 ⟨rfl, hb4⟩
  have HH4 : Aside0 (HandAt w4 Wp.heap.size g p0 p1 n F cF vN L ∧ Below W.heap.size W w4 ∧ w4.heap[W.heap.size]? = some (.cells #[.int .i64 p0, .int .i64 p1, .slice A n c] 24 (0, 0)) ∧ F < w4.heap.size) := ⟨HH3.out.1.next hb4, below_then HH3.out.2.1 HH3.out.2.1.size hb4, (hb4.block _ (blk_lt HH3.out.2.2.1)).trans HH3.out.2.2.1, Nat.lt_of_lt_of_le HH3.out.2.2.2 hb4.size⟩
  clear hb4
  have kb0 : w4.cell? ⟨W.heap.size, 0, none⟩ = some (.int .i64 p0) := by rw [blk_cell HH4.out.2.2.1]; rfl
  have kb1 : w4.cell? ⟨W.heap.size, 1, none⟩ = some (.int .i64 p1) := by rw [blk_cell HH4.out.2.2.1]; rfl
  have kb2 : w4.cell? ⟨W.heap.size, 2, none⟩ = some (.slice A n c) := by rw [blk_cell HH4.out.2.2.1]; rfl
  go_wp2_with fail
  refine (left_calls w4 Wp.heap.size g p0 p1 n F cF vN L HH4.out.1 HLE.out hn A c (by rw [HLA.out]; exact Kd.C_below HC.out.1 HH4.out.2.1) HC.out.2).mono ?_; rintro e w5 ⟨rfl, hb5⟩
  have HH5 : Aside0 (HandAt w5 Wp.heap.size g p0 p1 n F cF vN L ∧ Below W.heap.size W w5 ∧ w5.heap[W.heap.size]? = some (.cells #[.int .i64 p0, .int .i64 p1, .slice A n c] 24 (0, 0)) ∧ F < w5.heap.size) := ⟨HH4.out.1.next hb5, below_then HH4.out.2.1 HH4.out.2.1.size hb5, (hb5.block _ (blk_lt HH4.out.2.2.1)).trans HH4.out.2.2.1, Nat.lt_of_lt_of_le HH4.out.2.2.2 hb5.size⟩
  clear hb5 kb0 kb1 kb2
  have kb0 : w5.cell? ⟨W.heap.size, 0, none⟩ = some (.int .i64 p0) := by rw [blk_cell HH5.out.2.2.1]; rfl
  have kb1 : w5.cell? ⟨W.heap.size, 1, none⟩ = some (.int .i64 p1) := by rw [blk_cell HH5.out.2.2.1]; rfl
  have kb2 : w5.cell? ⟨W.heap.size, 2, none⟩ = some (.slice A n c) := by rw [blk_cell HH5.out.2.2.1]; rfl
  go_wp2_with fail
  have hcall := turned_calls p0 p1 acts (by rw [← HNL.out]; exact hn) A c W w5 (by rw [← HNL.out]; exact HC.out.1) HH5.out.2.1 (by rw [← HNL.out]; exact HC.out.2)
  rw [← HNL.out] at hcall
  refine hcall.mono ?_; rintro e w6 ⟨AO, cO, fs, rfl, hCO, hRO, hcO, hb6, hAO⟩
  clear hcall
  have HH6 : Aside0 (HandAt w6 Wp.heap.size g p0 p1 n F cF vN L ∧ Below W.heap.size W w6 ∧ F < w5.heap.size) := ⟨HH5.out.1.next hb6, below_then HH5.out.2.1 HH5.out.2.1.size hb6, HH5.out.2.2.2⟩
  have HO6 := Aside0.mk (And.intro hCO (And.intro hRO (And.intro hcO hAO)))
  have HFS : Aside0 (F < w6.heap.size) := ⟨Nat.lt_of_lt_of_le HH5.out.2.2.2 hb6.size⟩
  clear hCO hRO hcO hAO hb6 kb0 kb1 kb2
  go_wp2_with fail
  obtain ⟨w7, hw7⟩ : ∃ w7, w7 = w6.alloc (.cells #[.int .i64 p0, .int .i64 p1, .slice AO n cO] 24 (0, 0)) := ⟨_, rfl⟩
  obtain ⟨Bo, hBo⟩ : ∃ Bo, Bo = w6.heap.size := ⟨_, rfl⟩
  have H7 : Aside0 (HandAt w7 Wp.heap.size g p0 p1 n F cF vN L ∧ Below W.heap.size W w7 ∧ w7.heap[Bo]? = some (.cells #[.int .i64 p0, .int .i64 p1, .slice AO n cO] 24 (0, 0)) ∧ (Kd.raw 7).C w7 AO n fs ∧ RowsAre W fs acts.reverse) := ⟨by
    have hb : Below w6.heap.size w6 w7 := by rw [hw7]; exact below_alloc (Below.refl _ _) _
    refine ⟨HH6.out.1.next hb, below_then HH6.out.2.1 HH6.out.2.1.size hb, by rw [hw7, hBo]; exact blk_new w6 _, Kd.C_below HO6.out.1 hb, HO6.out.2.1⟩⟩
  rw [← hw7, ← hBo]
  clear hw7 hBo
  have hfl : fs.length = n := by have := H7.out.2.2.2.2.1; rw [List.length_reverse, ← HNL.out] at this; exact this.symm
  have HFLN := Aside0.mk hfl
  have HROW : Aside0 (∀ f ∈ fs, f.length = 7 ∧ ∀ u ∈ f, u.oneCell' = true) := ⟨fun f hf => by
    obtain ⟨j, hj⟩ := List.mem_iff_getElem?.1 hf
    have hjl := (List.getElem?_eq_some_iff.1 hj).1
    have hr : j < acts.reverse.length := by rw [H7.out.2.2.2.2.1]; exact hjl
    obtain ⟨A3, c3, e, _, _⟩ := H7.out.2.2.2.2.2 j _ f (List.getElem?_eq_getElem hr) hj
    rw [e]
    refine ⟨rfl, fun u hu => ?_⟩
    simp only [rowOf, List.mem_cons, List.not_mem_nil, or_false] at hu
    rcases hu with rfl | rfl | rfl | rfl | rfl | rfl | rfl <;> rfl⟩
  have HT0 : Aside0 (Turn7 w7 F n fs 0) := ⟨by
    obtain ⟨h0, inner, hown, hr⟩ := H7.out.1.full
    rcases hown.2 with ⟨h, _⟩ | ⟨g', cap, cur, e, _, hh, h1, h2, h3, h4⟩
    · cases h
    · injection e with e1
      injection e1 with e1
      injection e1 with e1
      subst e1
      refine ⟨cur, hh, ?_, fun j f hj => absurd hj (Nat.not_lt_zero _)⟩
      have hl8 : (L.map fullC ++ List.replicate 8 markC).length = n + 8 := by rw [List.length_append, List.length_map, List.length_replicate, H7.out.1.len]
      rw [hl8] at h1
      have hs7 : (Kd.raw 7).sz = 7 := rfl
      rw [h3, hs7]
      omega⟩
  have kg20 : w7.cell? ⟨g, 2, none⟩ = some (.slice (some ⟨F, 0, none⟩) n cF) := by rw [blk_cell H7.out.1.blk]; rfl
  have ko20 : w7.cell? ⟨Bo, 2, none⟩ = some (.slice AO n cO) := by rw [blk_cell H7.out.2.2.1]; rfl
  have HK7 := Aside0.mk (And.intro kg20 ko20)
  have HFT : Aside0 (∃ cells, w7.heap[F]? = some (.cells cells 31 (0, 0))) := ⟨Kd.R_typed H7.out.1.full F rfl⟩
  have HMV : Aside0 (∀ wr, Still w7 wr (fun k => k = F) → wr.heap[g]? = some (.cells #[.int .i64 p0, .int .i64 p1, .slice (some ⟨F, 0, none⟩) n cF, .slice (some ⟨F, 0, none⟩) (n + 8) cF, vN] 37 (0, 0)) ∧ wr.heap[Bo]? = some (.cells #[.int .i64 p0, .int .i64 p1, .slice AO n cO] 24 (0, 0)) ∧ (Kd.raw 7).C wr AO n fs ∧ Below W.heap.size W wr) := ⟨fun wr hs => by
    obtain ⟨cells, hF⟩ := HFT.out
    refine ⟨hs.blk H7.out.1.blk (fun e => by have e' : g = F := e; rw [← e'] at hF; exact absurd rfl (blk_ne H7.out.1.blk hF (by decide))), hs.blk H7.out.2.2.1 (fun e => by have e' : Bo = F := e; rw [← e'] at hF; exact absurd rfl (blk_ne H7.out.2.2.1 hF (by decide))), rawC_still H7.out.2.2.2.1 hs (fun a ha e => ?_), H7.out.2.1.trans (hs.below H7.out.2.1.size (fun k hk => ?_))⟩
    · have h1 := HO6.out.2.2.2 a ha
      have h2 := HH6.out.2.2
      have e' : a.block = F := e
      omega
    · subst hk
      exact Nat.le_trans HB1.out.1.size HFW.out.2⟩
  clear kg20 ko20 hfl
  go_loopw [9] (fun v9 wr => ∃ (i : Nat), v9 = .int .i64 (i : Int) ∧ i ≤ n ∧ Aside0 (Still w7 wr (fun k => k = F) ∧ Turn7 wr F n fs i)) (fun v9 _ => n - (intOf v9).toNat)
  case atStart => exact ⟨0, rfl, Nat.zero_le _, ⟨Still.of (Below.refl _ _), HT0.out⟩⟩
  case round =>
    clear HT0
    obtain ⟨i, rfl, hi, HL⟩ := hrel
    have HMW := Aside0.mk (HMV.out wr HL.out.1)
    have HT : Aside0 (Turn7 wr F n fs i) := ⟨HL.out.2⟩
    have ko2 : wr.cell? ⟨Bo, 2, none⟩ = some (.slice AO n cO) := by rw [blk_cell HMW.out.2.1]; rfl
    by_cases hlt : i < n
    · have b1 : decide ((i : Int) < (n : Int)) = true := decide_eq_true (by omega)
      have b2 : (i < n) = True := eq_true hlt
      have b3 : decide (i < n) = true := decide_eq_true hlt
      have pi0 : (0 : Int) ≤ (i : Int) := by omega
      have pi1 : (i : Int) < (n : Int) := by omega
      have kg2 : wr.cell? ⟨g, 2, none⟩ = some (.slice (some ⟨F, 0, none⟩) n cF) := by rw [blk_cell HMW.out.1]; rfl
      obtain ⟨adO, eO, hO⟩ := HMW.out.2.2.1.2.2 (by omega)
      subst eO
      have hir : i < acts.reverse.length := by rw [List.length_reverse, ← HNL.out]; exact hlt
      have hif : i < fs.length := by rw [HFLN.out]; exact hlt
      obtain ⟨A3, c3, eF, hX3, hXC⟩ := H7.out.2.2.2.2.2 i _ fs[i] (List.getElem?_eq_getElem hir) (List.getElem?_eq_getElem hif)
      obtain ⟨X, hX⟩ : ∃ X, X = acts.reverse[i] := ⟨_, rfl⟩
      rw [← hX] at eF hX3 hXC
      have HXF : Aside0 (fs[i]? = some [.int .i64 X.f0, .string X.f1, .string X.f2, .slice A3 X.f3.length c3, .string X.f4, .int .i64 X.f5, .int .i64 X.f6]) := ⟨by rw [List.getElem?_eq_getElem hif, eF]; rfl⟩
      obtain ⟨cc, hcl, hcr, hcc⟩ := hO i fs[i] (List.getElem?_eq_getElem hif)
      have hcc' : cc = rowOf X A3 c3 := hcr.1.trans eF
      rw [hcc'] at hcc
      have y0 : wr.cell? (adO.add (i * 7)) = some (.int .i64 X.f0) := hcc 0 _ rfl
      have y1 : wr.cell? ⟨(adO.add (i * 7)).block, (adO.add (i * 7)).off + 1, none⟩ = some (.string X.f1) := by have := hcc 1 _ rfl; rw [show i * (Kd.raw 7).sz + 1 = i * 7 + 1 from rfl, add_field _ _ 1 (by omega)] at this; exact this
      have y2 : wr.cell? ⟨(adO.add (i * 7)).block, (adO.add (i * 7)).off + 2, none⟩ = some (.string X.f2) := by have := hcc 2 _ rfl; rw [show i * (Kd.raw 7).sz + 2 = i * 7 + 2 from rfl, add_field _ _ 2 (by omega)] at this; exact this
      have y3 : wr.cell? ⟨(adO.add (i * 7)).block, (adO.add (i * 7)).off + 3, none⟩ = some (.slice A3 X.f3.length c3) := by have := hcc 3 _ rfl; rw [show i * (Kd.raw 7).sz + 3 = i * 7 + 3 from rfl, add_field _ _ 3 (by omega)] at this; exact this
      have y4 : wr.cell? ⟨(adO.add (i * 7)).block, (adO.add (i * 7)).off + 4, none⟩ = some (.string X.f4) := by have := hcc 4 _ rfl; rw [show i * (Kd.raw 7).sz + 4 = i * 7 + 4 from rfl, add_field _ _ 4 (by omega)] at this; exact this
      have y5 : wr.cell? ⟨(adO.add (i * 7)).block, (adO.add (i * 7)).off + 5, none⟩ = some (.int .i64 X.f5) := by have := hcc 5 _ rfl; rw [show i * (Kd.raw 7).sz + 5 = i * 7 + 5 from rfl, add_field _ _ 5 (by omega)] at this; exact this
      have y6 : wr.cell? ⟨(adO.add (i * 7)).block, (adO.add (i * 7)).off + 6, none⟩ = some (.int .i64 X.f6) := by have := hcc 6 _ rfl; rw [show i * (Kd.raw 7).sz + 6 = i * 7 + 6 from rfl, add_field _ _ 6 (by omega)] at this; exact this
      have hwi : wrap64 ((i : Int) + 1) = (i : Int) + 1 := wrap_next i (by omega)
      have HMS : Aside0 (n - (intOf (Value.int IntKind.i64 ((i : Int) + 1))).toNat < n - (intOf (Value.int IntKind.i64 (i : Int))).toNat) := ⟨meas_step _ _ hlt⟩
      have HI1 : Aside0 (i + 1 ≤ n) := ⟨hlt⟩
      clear hX hO eF hX3 hXC hcl hcr hcc hcc' hir hif hlt hi
      go_wp2_with fail
      refine region_facts (ws := [12]) (G := fun e w' => Aside0 ((e = 0 → Below wr.heap.size wr w') ∧ (e = 1 → Still wr w' (fun k => k = F) ∧ Turn7 w' F n fs (i + 1)))) (φs := [Fact.eq (.pointer (some ⟨g, 0, none⟩)), Fact.eq (.pointer (some ⟨g, 0, none⟩)), Fact.eq (.pointer (some ⟨g, 0, none⟩)), Fact.eq (.pointer (some ⟨g, 2, none⟩)), Fact.eq (.slice (some ⟨F, 0, none⟩) n cF), Fact.eq (.int .i64 (i : Int)), Fact.eq (.pointer (some ⟨Bo, 2, none⟩)), Fact.eq (.slice (some adO) n cO), Fact.eq (.int .i64 (i : Int)), Fact.eq (.pointer (some (adO.add (i * 7)))), Fact.eq (.agg #[.int .i64 X.f0, .string X.f1, .string X.f2, .slice A3 X.f3.length c3, .string X.f4, .int .i64 X.f5, .int .i64 X.f6]), Fact.eq (.pointer (some ⟨F, i * 7, none⟩)), Fact.none]) (n := 13) (m := 103) (by kernel_rfl) (by kernel_rfl) rfl rfl (by kernel_rfl) (fun _ _ _ h hb => ⟨fun he => below_then (h.out.1 he) (h.out.1 he).size hb, fun he => ⟨(h.out.2 he).1.then hb, (h.out.2 he).2.below hb⟩⟩) (⟨fun _ => below_drew (Below.refl _ _), fun he => (by cases he)⟩) ⟨?o0, ?o1, ?o2, ?o3, ?o4, ?o5, ?o6, ?o7, ?o8, ?o9, ?o10, ?o11, ?o12, trivial⟩ ?fin
      case o0 =>
        refine ask_val [.fix 3 _] rfl 55 rfl (.inl rfl) ⟨⟨by kernel_rfl, by conv => lhs; whnf⟩, trivial⟩ ?_
        dsimp only [Has, Fact.eq]
        intro e ρ w' hc hf hg hG h3
        go_simp
        first | done | rfl
      case o1 =>
        refine ask_val [.op 55 0 (Fact.eq _)] rfl 56 rfl (.inl rfl) ⟨⟨by kernel_rfl, rfl⟩, trivial⟩ ?_
        dsimp only [Has, Fact.eq]
        intro e ρ w' hc hf hg hG h55
        go_simp
        first | done | rfl
      case o2 =>
        refine ask_val [.op 56 1 (Fact.eq _)] rfl 57 rfl (.inl rfl) ⟨⟨by kernel_rfl, rfl⟩, trivial⟩ ?_
        dsimp only [Has, Fact.eq]
        intro e ρ w' hc hf hg hG h56
        go_simp
        first | done | rfl
      case o3 =>
        refine ask_val [.op 57 2 (Fact.eq _)] rfl 58 rfl (.inl rfl) ⟨⟨by kernel_rfl, rfl⟩, trivial⟩ ?_
        dsimp only [Has, Fact.eq]
        intro e ρ w' hc hf hg hG h57
        go_simp
        first | done | rfl
      case o4 =>
        refine ask_step [.op 58 3 (Fact.eq _)] rfl 59 rfl (.inl rfl) ⟨⟨by kernel_rfl, rfl⟩, trivial⟩ 0 0 (by kernel_rfl) ?_
        dsimp only [Has, Fact.eq]
        intro e ρ w' hp hq hc hf hg hG h58
        obtain rfl : e = 0 := by omega
        have q0 := pw_cell_below (hG.out.1 rfl) kg2
        refine ⟨_, w', ?_, rfl, Below.refl _ _⟩
        go_simp
        first | done | rfl
      case o5 =>
        refine ask_val [.fix 9 _] rfl 60 rfl (.inl rfl) ⟨⟨by kernel_rfl, by conv => lhs; whnf⟩, trivial⟩ ?_
        dsimp only [Has, Fact.eq]
        intro e ρ w' hc hf hg hG h9
        go_simp
        first | done | rfl
      case o6 =>
        refine ask_val [.fix 8 _] rfl 61 rfl (.inl rfl) ⟨⟨by kernel_rfl, by conv => lhs; whnf⟩, trivial⟩ ?_
        dsimp only [Has, Fact.eq]
        intro e ρ w' hc hf hg hG h8
        go_simp
        first | done | rfl
      case o7 =>
        refine ask_step [.op 61 6 (Fact.eq _)] rfl 62 rfl (.inl rfl) ⟨⟨by kernel_rfl, rfl⟩, trivial⟩ 0 0 (by kernel_rfl) ?_
        dsimp only [Has, Fact.eq]
        intro e ρ w' hp hq hc hf hg hG h61
        obtain rfl : e = 0 := by omega
        have q0 := pw_cell_below (hG.out.1 rfl) ko2
        refine ⟨_, w', ?_, rfl, Below.refl _ _⟩
        go_simp
        first | done | rfl
      case o8 =>
        refine ask_val [.fix 9 _] rfl 63 rfl (.inl rfl) ⟨⟨by kernel_rfl, by conv => lhs; whnf⟩, trivial⟩ ?_
        dsimp only [Has, Fact.eq]
        intro e ρ w' hc hf hg hG h9
        go_simp
        first | done | rfl
      case o9 =>
        refine ask_val [.op 62 7 (Fact.eq _), .op 63 8 (Fact.eq _)] rfl 64 rfl (.inl rfl) ⟨⟨by kernel_rfl, rfl⟩, ⟨by kernel_rfl, rfl⟩, trivial⟩ ?_
        dsimp only [Has, Fact.eq]
        intro e ρ w' hc hf hg hG h62 h63
        have y0 := pi0
        have y1 := pi1
        go_simp
        first | done | rfl | (intro h; omega)
      case o10 =>
        refine ask_step [.op 64 9 (Fact.eq _)] rfl 65 rfl (.inl rfl) ⟨⟨by kernel_rfl, rfl⟩, trivial⟩ 0 0 (by kernel_rfl) ?_
        dsimp only [Has, Fact.eq]
        intro e ρ w' hp hq hc hf hg hG h64
        obtain rfl : e = 0 := by omega
        have q0 := pw_cell_below (hG.out.1 rfl) y0
        have q1 := pw_cell_below (hG.out.1 rfl) y1
        have q2 := pw_cell_below (hG.out.1 rfl) y2
        have q3 := pw_cell_below (hG.out.1 rfl) y3
        have q4 := pw_cell_below (hG.out.1 rfl) y4
        have q5 := pw_cell_below (hG.out.1 rfl) y5
        have q6 := pw_cell_below (hG.out.1 rfl) y6
        refine ⟨_, w', ?_, rfl, Below.refl _ _⟩
        go_simp
        first | done | rfl
      case o11 =>
        refine ask_val [.op 59 4 (Fact.eq _), .op 60 5 (Fact.eq _)] rfl 66 rfl (.inl rfl) ⟨⟨by kernel_rfl, rfl⟩, ⟨by kernel_rfl, rfl⟩, trivial⟩ ?_
        dsimp only [Has, Fact.eq]
        intro e ρ w' hc hf hg hG h59 h60
        have y0 := pi0
        have y1 := pi1
        go_simp
        first | done | rfl | (intro h; omega)
      case o12 =>
        refine ask_store [.op 66 11 (Fact.eq _), .op 65 10 (Fact.eq _)] rfl rfl (.inl rfl) ⟨⟨by kernel_rfl, rfl⟩, ⟨by kernel_rfl, rfl⟩, trivial⟩ 0 0 (by kernel_rfl) ?_
        dsimp only [Has, Fact.eq]
        intro e ρ w' hp hq hc hf hg hG h66 h65
        obtain rfl : e = 0 := by omega
        have hT := HT.out.below (hG.out.1 rfl)
        obtain ⟨cur, hcur, hcs, hcc7⟩ := hT
        have hcz : i * 7 + 7 ≤ cur.size := by have := HI1.out; omega
        have d0 : w'.cell? ⟨F, i * 7, none⟩ = some (cur[i * 7 + 0]'(by omega)) := by rw [blk_cell hcur]; exact Array.getElem?_eq_getElem (by omega)
        have d1 : w'.cell? ⟨F, i * 7 + 1, none⟩ = some (cur[i * 7 + 1]'(by omega)) := by rw [blk_cell hcur]; exact Array.getElem?_eq_getElem (by omega)
        have d2 : w'.cell? ⟨F, i * 7 + 2, none⟩ = some (cur[i * 7 + 2]'(by omega)) := by rw [blk_cell hcur]; exact Array.getElem?_eq_getElem (by omega)
        have d3 : w'.cell? ⟨F, i * 7 + 3, none⟩ = some (cur[i * 7 + 3]'(by omega)) := by rw [blk_cell hcur]; exact Array.getElem?_eq_getElem (by omega)
        have d4 : w'.cell? ⟨F, i * 7 + 4, none⟩ = some (cur[i * 7 + 4]'(by omega)) := by rw [blk_cell hcur]; exact Array.getElem?_eq_getElem (by omega)
        have d5 : w'.cell? ⟨F, i * 7 + 5, none⟩ = some (cur[i * 7 + 5]'(by omega)) := by rw [blk_cell hcur]; exact Array.getElem?_eq_getElem (by omega)
        have d6 : w'.cell? ⟨F, i * 7 + 6, none⟩ = some (cur[i * 7 + 6]'(by omega)) := by rw [blk_cell hcur]; exact Array.getElem?_eq_getElem (by omega)
        have f0 := fun j => blk_frozen hcur j
        refine ⟨(((((((w'.setCell ⟨F, i * 7, none⟩ (.int .i64 X.f0)).setCell ⟨F, i * 7 + 1, none⟩ (.string X.f1)).setCell ⟨F, i * 7 + 2, none⟩ (.string X.f2)).setCell ⟨F, i * 7 + 3, none⟩ (.slice A3 X.f3.length c3)).setCell ⟨F, i * 7 + 4, none⟩ (.string X.f4)).setCell ⟨F, i * 7 + 5, none⟩ (.int .i64 X.f5)).setCell ⟨F, i * 7 + 6, none⟩ (.int .i64 X.f6)), ?_, trivial, ⟨fun he => (by cases he), fun _ => ⟨?_, ?_⟩⟩, ⟨fun _ h => h, fun _ h => h, fun _ h => h, fun _ h => h, fun _ h => h, fun _ h => h, fun _ h => h, fun _ h => h, fun _ h => h, fun _ h => h, fun _ h => h, fun _ h => h, fun _ h => h, trivial⟩⟩
        · go_simp
        · exact (Still.of (hG.out.1 rfl)).trans (still7 w' F (i * 7) _ _ _ _ _ _ _) (fun _ _ h => h)
        · exact turn7_put ⟨cur, hcur, hcs, hcc7⟩ HXF.out (by have := HI1.out; omega) (fun f hf => (HROW.out f hf).1)
      case fin =>
        intro w' hG
        refine fin_eq (fin_eq (fin_eq (fin_eq (fin_eq (fin_eq (fin_eq (fin_eq (fin_eq (fin_eq (fin_eq (fin_eq (fin_fact (fun v12 hv12 => fin_nil (a' := ?_) ?_ ?_)))))))))))))
        rotate_left
        · simp only [Act.put, List.setIfInBounds_toArray, List.set_cons_zero, List.set_cons_succ]
          rfl
        have HNX : Aside0 (Still w7 w' (fun k => k = F) ∧ Turn7 w' F n fs (i + 1)) := ⟨HL.out.1.trans (hG.out.2 rfl).1 (fun _ _ h => h), (hG.out.2 rfl).2⟩
        clear hG
        go_wp2_with fail
        go_roundw
        case rel => exact ⟨i + 1, by first | rfl | (rw [hwi]; rfl), HI1.out, HNX⟩
        case measure => first | exact HMS.out | (rw [hwi]; exact HMS.out)
    · have b1 : decide ((i : Int) < (n : Int)) = false := decide_eq_false (by omega)
      have b2 : (i < n) = False := eq_false hlt
      have b3 : decide (i < n) = false := decide_eq_false hlt
      have HTN : Aside0 (k31.C wr (some ⟨F, 0, none⟩) n acts.reverse ∧ n ≤ cF ∧ k31.C wr AO n acts.reverse) := ⟨by
        have hT := HT.out
        rw [show i = n by omega] at hT
        have hc1 := turn7_C hT HFLN.out HN.out HROW.out
        have hra := H7.out.2.2.2.2.below HMW.out.2.2.2
        have hk : ∀ (i : Nat) (a : S31) (f : List Value), acts.reverse[i]? = some a → fs[i]? = some f → ∃ A3 c3, f = [.int .i64 a.f0, .string a.f1, .string a.f2, .slice A3 a.f3.length c3, .string a.f4, .int .i64 a.f5, .int .i64 a.f6] ∧ a.f3.length ≤ c3 ∧ Kd.string.C wr A3 a.f3.length a.f3 := hra.2
        exact ⟨acts_C hc1 hra.1 hk, by have := H7.out.1.room; omega, acts_C HMW.out.2.2.1 hra.1 hk⟩⟩
      have HAR : Aside0 (∀ a ∈ acts.reverse, Aok a) := ⟨fun a h => HA.out a (List.mem_reverse.1 h)⟩
      have HNR : Aside0 (acts.reverse.length = n) := ⟨by rw [List.length_reverse, HNL.out]⟩
      have kg0 : wr.cell? ⟨g, 0, none⟩ = some (.int .i64 p0) := by rw [blk_cell HMW.out.1]; rfl
      have kg1 : wr.cell? ⟨g, 1, none⟩ = some (.int .i64 p1) := by rw [blk_cell HMW.out.1]; rfl
      have kg2 : wr.cell? ⟨g, 2, none⟩ = some (.slice (some ⟨F, 0, none⟩) n cF) := by rw [blk_cell HMW.out.1]; rfl
      clear hlt hi HT
      go_wp2_with fail
      obtain ⟨o, ho⟩ : ∃ o : Value, o = .tuple #[.string (printP p0 p1 acts.reverse).1, .int .i64 (printP p0 p1 acts.reverse).2] := ⟨_, rfl⟩
      have hcall := print_calls p0 p1 HP.out.1 HP.out.2 acts.reverse HAR.out (by rw [HNR.out]; exact HN.out) (some ⟨F, 0, none⟩) cF wr (HE.out.below HMW.out.2.2.2) (by rw [HNR.out]; exact HTN.out.1) (by rw [HNR.out]; exact HTN.out.2.1) o ⟨ho⟩
      rw [HNR.out] at hcall
      refine hcall.mono ?_; rintro e w8 ⟨rfl, hb8⟩
      clear hcall
      subst ho
      have HB8 : Aside0 (Below wr.heap.size wr w8 ∧ Below W.heap.size W w8 ∧ w8.heap[Bo]? = some (.cells #[.int .i64 p0, .int .i64 p1, .slice AO n cO] 24 (0, 0))) := ⟨hb8, below_then HMW.out.2.2.2 HMW.out.2.2.2.size hb8, (hb8.block _ (blk_lt HMW.out.2.1)).trans HMW.out.2.1⟩
      clear hb8 kg0 kg1 kg2 ko2
      have ko0 : w8.cell? ⟨Bo, 0, none⟩ = some (.int .i64 p0) := by rw [blk_cell HB8.out.2.2]; rfl
      have ko1 : w8.cell? ⟨Bo, 1, none⟩ = some (.int .i64 p1) := by rw [blk_cell HB8.out.2.2]; rfl
      have ko2 : w8.cell? ⟨Bo, 2, none⟩ = some (.slice AO n cO) := by rw [blk_cell HB8.out.2.2]; rfl
      go_wp2_with fail
      obtain ⟨o, ho⟩ : ∃ o : Value, o = .tuple #[.string (printP p0 p1 acts.reverse).1, .int .i64 (printP p0 p1 acts.reverse).2] := ⟨_, rfl⟩
      have hcall := refPrint_calls p0 p1 HP.out.1 HP.out.2 acts.reverse HAR.out (by rw [HNR.out]; exact HN.out) AO cO w8 (HE.out.below HB8.out.2.1) (by rw [HNR.out]; exact Kd.C_below HTN.out.2.2 HB8.out.1) (by rw [HNR.out]; exact HO6.out.2.2.1) o ⟨ho⟩
      rw [HNR.out] at hcall
      refine hcall.mono ?_; rintro e w9 ⟨rfl, hb9⟩
      clear hcall
      subst ho
      have HB9 : Aside0 (Below W.heap.size W w9) := ⟨below_then HB8.out.2.1 HB8.out.2.1.size hb9⟩
      clear hb9 ko0 ko1 ko2
      obtain ⟨qs, hqs⟩ : ∃ qs, qs = (printP p0 p1 acts.reverse).1 := ⟨_, rfl⟩
      obtain ⟨qn, hqn⟩ : ∃ qn, qn = (printP p0 p1 acts.reverse).2 := ⟨_, rfl⟩
      rw [← hqs, ← hqn]
      clear hqs hqn
      have h8 : printP 1 2 [] = ((⟨#[114, 111, 111, 109, 32, 49, 32, 50, 10]⟩ : ByteArray), (0 : Int)) := by decide +kernel
      go_wp2_with fail
      refine (print_calls 1 2 ⟨by decide, by decide⟩ ⟨by decide, by decide⟩ [] (fun a h => absurd h List.not_mem_nil) (Nat.zero_le _) none 0 w9 (HE.out.below HB9.out) (Kd.C_nil _ _) (Nat.le_refl _) (.tuple #[.string ⟨#[114, 111, 111, 109, 32, 49, 32, 50, 10]⟩, .int .i64 0]) ⟨by rw [h8]⟩).mono ?_; rintro e w10 ⟨rfl, hb10⟩
      have HB10 : Aside0 (Below W.heap.size W w10) := ⟨below_then HB9.out HB9.out.size hb10⟩
      clear hb10 h8
      go_wp2_with fail
      refine (num_calls12 qn w10).mono ?_; rintro e w11 ⟨rfl, hb11⟩
      have HB11 : Aside0 (Below W.heap.size W w11) := ⟨below_then HB10.out HB10.out.size hb11⟩
      clear hb11
      go_wp2_with fail
      refine (num_calls12 0 w11).mono ?_; rintro e w12 ⟨rfl, hb12⟩
      have HB12 : Aside0 (Below W.heap.size W w12) := ⟨below_then HB11.out HB11.out.size hb12⟩
      clear hb12
      go_wp2_with fail
      go_ret
      exact ⟨by first | rfl | (simp; done) | (simp [ByteArray.toList_eq]; done), HB12.out⟩
end Go.Proofs.YtkfjjmmpbfjhaaaGreatDoor.Tells
