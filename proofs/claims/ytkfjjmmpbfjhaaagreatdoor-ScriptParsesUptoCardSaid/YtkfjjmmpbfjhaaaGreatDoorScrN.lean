/- The table of acts: its rows, and what each row's writer and reader do. Lines and words, kinds and rooms in plain words: what strings.Split and the reference's Words, Lines, kind, room answer. What a text says, in plain words: the play, or the line and the code of the first error. What the readers of both sides answer of a line's words, in one plain form. An act's line and what PrintAct answers, in plain words; same, walked. script.PrintAct, walked. kilnref24.line: its letters in plain words; a buffer of bytes that grows. Conditions: those that each theorem states. -/
import Derived.Test.YtkfjjmmpbfjhaaaGreatDoorScrK1
import Derived.Test.YtkfjjmmpbfjhaaaGreatDoorFacts2
import Derived.Test.YtkfjjmmpbfjhaaaGreatDoorScrV3
import Derived.Lib.Split
import Derived.Laws.EntriesVeiled
namespace Go.Proofs.YtkfjjmmpbfjhaaaGreatDoor.Tells
open Go.RowKit Go.Proofs.YtkfjjmmpbfjhaaaGreatDoor.Facts Go.Proofs.YtkfjjmmpbfjhaaaGreatDoor.PScriptActs Go.Proofs.YtkfjjmmpbfjhaaaGreatDoorW.PrintWords Go.Proofs.YtkfjjmmpbfjhaaaGreatDoorW.PrintLast Go.Proofs.YtkfjjmmpbfjhaaaGreatDoorW.PrintMore
attribute [local go_sem] max2_int min2_int max_two min_two max_three min_three max_four min_four
set_option linter.unusedVariables false
set_option linter.unusedSimpArgs false
def tabCells : Array Value := #[.string ⟨#[99, 108, 97, 115, 115]⟩, .int .i64 1, .func (.func 49) #[] #[], .func (.func 50) #[] #[], .string ⟨#[109, 101, 116, 104, 111, 100]⟩, .int .i64 2, .func (.func 52) #[] #[], .func (.func 55) #[] #[], .string ⟨#[114, 101, 109, 111, 118, 101]⟩, .int .i64 3, .func (.func 56) #[] #[], .func (.func 57) #[] #[], .string ⟨#[103, 108, 111, 98, 97, 108]⟩, .int .i64 4, .func (.func 58) #[] #[], .func (.func 59) #[] #[], .string ⟨#[115, 112, 97, 119, 110]⟩, .int .i64 5, .func (.func 60) #[] #[], .func (.func 61) #[] #[], .string ⟨#[114, 117, 110]⟩, .int .i64 6, .func (.func 62) #[] #[], .func (.func 64) #[] #[], .string ⟨#[114, 101, 115, 104, 97, 112, 101]⟩, .int .i64 7, .func (.func 65) #[] #[], .func (.func 66) #[] #[], .string ⟨#[99, 111, 108, 108, 101, 99, 116]⟩, .int .i64 8, .func (.func 67) #[] #[], .func (.func 68) #[] #[], .string ⟨#[105, 110, 115, 112, 101, 99, 116]⟩, .int .i64 9, .func (.func 67) #[] #[], .func (.func 68) #[] #[], .string ⟨#[109, 97, 114, 107]⟩, .int .i64 10, .func (.func 69) #[] #[], .func (.func 70) #[] #[], .string ⟨#[115, 97, 118, 101]⟩, .int .i64 11, .func (.func 67) #[] #[], .func (.func 68) #[] #[], .string ⟨#[108, 111, 97, 100]⟩, .int .i64 12, .func (.func 71) #[] #[], .func (.func 72) #[] #[]]
def nameL : List ByteArray := [⟨#[99, 108, 97, 115, 115]⟩, ⟨#[109, 101, 116, 104, 111, 100]⟩, ⟨#[114, 101, 109, 111, 118, 101]⟩, ⟨#[103, 108, 111, 98, 97, 108]⟩, ⟨#[115, 112, 97, 119, 110]⟩, ⟨#[114, 117, 110]⟩, ⟨#[114, 101, 115, 104, 97, 112, 101]⟩, ⟨#[99, 111, 108, 108, 101, 99, 116]⟩, ⟨#[105, 110, 115, 112, 101, 99, 116]⟩, ⟨#[109, 97, 114, 107]⟩, ⟨#[115, 97, 118, 101]⟩, ⟨#[108, 111, 97, 100]⟩]
set_option maxHeartbeats 4000000 in
set_option maxRecDepth 100000 in
theorem shapes_calls (w : World) : Calls Tryz.prog 29 #[] w fun e w' => e = .returned (.slice (some ⟨w.heap.size, 0, none⟩) 12 12) ∧ w' = w.alloc (.cells tabCells 68 (0, 0)) := by
  go_enter Tryz.func29, Tryz.ntmps29
  go_wp2_with fail
  go_ret
  exact ⟨rfl, rfl⟩
/-- an act's cells -/
def ActIs (W : World) (cs : Array Value) (b : S31) : Prop := ∃ A c, cs = #[.int .i64 b.f0, .string b.f1, .string b.f2, .slice A b.f3.length c, .string b.f4, .int .i64 b.f5, .int .i64 b.f6] ∧ Kd.C Kd.string W A b.f3.length b.f3 ∧ b.f3.length ≤ c
def cs0 (k : Int) : Array Value := #[.int .i64 k, .string ⟨#[]⟩, .string ⟨#[]⟩, .slice none 0 0, .string ⟨#[]⟩, .int .i64 0, .int .i64 0]
theorem actCells0 (k : Int) : ActCells (cs0 k) := ⟨⟨_, rfl⟩, ⟨_, rfl⟩, ⟨_, rfl⟩, ⟨_, rfl⟩, ⟨_, rfl⟩⟩
end Go.Proofs.YtkfjjmmpbfjhaaaGreatDoor.Tells
namespace Go.Proofs.YtkfjjmmpbfjhaaaGreatDoor.Tells
open Go.RowKit Go.Proofs.YtkfjjmmpbfjhaaaGreatDoor.PScriptActs Go.Proofs.YtkfjjmmpbfjhaaaGreatDoorW.PrintWords
set_option linter.unusedVariables false
set_option linter.unusedSimpArgs false
/-- a text, cut at a byte -/
def cuts (b : UInt8) : List UInt8 → List UInt8 → List (List UInt8)
  | [], acc => [acc]
  | c :: r, acc => if c = b then acc :: cuts b r [] else cuts b r (acc ++ [c])
theorem cuts_ne (b : UInt8) : ∀ l acc, cuts b l acc ≠ []
  | [], acc => by simp [cuts]
  | c :: r, acc => by
    unfold cuts
    split
    · simp
    · exact cuts_ne b r _
theorem lines_cuts : ∀ l acc, linesOf l acc = if (cuts 10 l acc).getLast (cuts_ne 10 l acc) = [] then (cuts 10 l acc).dropLast else cuts 10 l acc
  | [], acc => by simp [linesOf, cuts]
  | c :: r, acc => by
    by_cases h : c = 10
    · have e1 : linesOf (c :: r) acc = acc :: linesOf r [] := by rw [linesOf, if_pos h]
      have e2 : cuts 10 (c :: r) acc = acc :: cuts 10 r [] := by rw [cuts, if_pos h]
      simp only [e1, e2, lines_cuts r [], List.getLast_cons (cuts_ne 10 r []), List.dropLast_cons_of_ne_nil (cuts_ne 10 r [])]
      split <;> rfl
    · have e1 : linesOf (c :: r) acc = linesOf r (acc ++ [c]) := by rw [linesOf, if_neg h]
      have e2 : cuts 10 (c :: r) acc = cuts 10 r (acc ++ [c]) := by rw [cuts, if_neg h]
      simp only [e1, e2]
      exact lines_cuts r (acc ++ [c])
theorem cuts_idx (c : UInt8) : ∀ l acc, (Lib.indexByte l c = -1 ∧ cuts c l acc = [acc ++ l]) ∨ ∃ i : Nat, i < l.length ∧ Lib.indexByte l c = i ∧ cuts c l acc = (acc ++ l.take i) :: cuts c (l.drop (i + 1)) []
  | [], acc => .inl ⟨rfl, by simp [cuts]⟩
  | b :: r, acc => by
    by_cases h : b = c
    · refine .inr ⟨0, by simp, ?_, ?_⟩
      · rw [Lib.indexByte, if_pos (by rw [h]; simp)]; rfl
      · rw [cuts, if_pos h]; simp
    · have hb : ¬ (b == c) = true := by simpa using h
      rcases cuts_idx c r (acc ++ [b]) with ⟨h1, h2⟩ | ⟨i, h1, h2, h3⟩
      · refine .inl ⟨?_, ?_⟩
        · rw [Lib.indexByte, if_neg hb, if_pos (by rw [h1]; rfl)]
        · rw [cuts, if_neg h, h2]; simp
      · refine .inr ⟨i + 1, by simp; omega, ?_, ?_⟩
        · rw [Lib.indexByte, if_neg hb, if_neg (by rw [h2]; simp), h2]; rfl
        · rw [cuts, if_neg h, h3]; simp
theorem split_cuts (c : UInt8) : ∀ n l, l.length < n → Lib.splitK [c] 0 (Lib.count l [c]) l = cuts c l [] ∧ (cuts c l []).length = Lib.count l [c] + 1 := by
  intro n
  induction n with
  | zero => intro l h; omega
  | succ n ih =>
    intro l hl
    rcases cuts_idx c l [] with ⟨h1, h2⟩ | ⟨i, h1, h2, h3⟩
    · have h1' : Lib.index l [c] = -1 := (Lib.index_one l c).trans h1
      rw [Lib.count_miss h1', h2]
      exact ⟨rfl, rfl⟩
    · have h2' : Lib.index l [c] = i := (Lib.index_one l c).trans h2
      have hc := Lib.count_hit (s := l) (sub := [c]) (by simp) h2'
      have hlen : ([c] : List UInt8).length = 1 := rfl
      rw [hlen] at hc
      obtain ⟨g1, g2⟩ := ih (l.drop (i + 1)) (by rw [List.length_drop]; omega)
      rw [hc, h3, Nat.add_comm 1]
      constructor
      · rw [Lib.splitK, if_neg (by rw [h2']; simp), h2']
        have : ((i : Int)).toNat = i := by omega
        rw [this, hlen, g1]; simp
      · rw [List.length_cons, g2]
theorem splitB_cuts (s : ByteArray) (c : UInt8) : (Lib.splitB ⟨#[c]⟩ 0 (Lib.countB s ⟨#[c]⟩) s).map bl = cuts c (bl s) [] ∧ (cuts c (bl s) []).length = Lib.countB s ⟨#[c]⟩ + 1 := by
  obtain ⟨g1, g2⟩ := split_cuts c (s.data.toList.length + 1) s.data.toList (Nat.lt_succ_self _)
  exact ⟨(Lib.splitB_data ⟨#[c]⟩ 0 _ s).trans g1, g2⟩
theorem words_loop (s : ByteArray) (hs : s.size ≤ 1048576) : ∀ n j at_ (D : List ByteArray), n + j = s.size → at_ ≤ j → D.length ≤ j → D.map bl ++ cuts 32 ((bl s).drop j) (((bl s).drop at_).take (j - at_)) = cuts 32 (bl s) [] →
    ∃ E, kilnref24_Words.l0 (n + 1) s D (at_ : Int) (j : Int) = some E ∧ E.map bl = cuts 32 (bl s) [] := by
  intro n
  induction n with
  | zero =>
    intro j at_ D hj ha hD h
    rw [kilnref24_Words.l0, if_neg (show ¬ ((j : Int) < (s.size : Int)) by omega), if_pos (show (0 : Int) ≤ (at_ : Int) by omega), if_pos (show (at_ : Int) ≤ (s.size : Int) by omega), if_pos (by omega)]
    refine ⟨_, rfl, ?_⟩
    rw [← h, List.map_append, List.drop_eq_nil_of_le (by rw [bl_len]; omega)]
    have he : bl (s.extract ((at_ : Int)).toNat s.size) = ((bl s).drop at_).take (j - at_) := by
      rw [show ((at_ : Int)).toNat = at_ by omega]
      exact (extract_list s at_ s.size (Nat.le_refl _)).trans (by rw [show s.size = j by omega])
    show _ ++ [bl _] = _ ++ [_]
    rw [he]
  | succ n ih =>
    intro j at_ D hj ha hD h
    have hjs : j < s.size := by omega
    have hb := bt_is s j hjs
    have hd := bl_drop s j hjs
    have hw1 : wrap64 ((j : Int) + 1) = ((j + 1 : Nat) : Int) := by rw [wrap_in _ (by omega) (by omega)]; omega
    rw [kilnref24_Words.l0, if_pos (show (j : Int) < (s.size : Int) by omega), if_pos (show (0 : Int) ≤ (j : Int) by omega), hb, hw1]
    rw [hd] at h
    by_cases hc : s[j]'hjs = 32
    · rw [if_pos (by rw [hc]; rfl), if_pos (show (0 : Int) ≤ (at_ : Int) by omega), if_pos (show (at_ : Int) ≤ (j : Int) by omega), if_pos (show (j : Int) ≤ (s.size : Int) by omega), if_pos (by omega)]
      refine ih (j + 1) (j + 1) _ (by omega) (Nat.le_refl _) (by rw [List.length_append]; simp; omega) ?_
      rw [cuts, if_pos hc] at h
      rw [← h, List.map_append, Nat.sub_self, List.take_zero, List.append_assoc]
      congr 1
      show bl (s.extract ((at_ : Int)).toNat ((j : Int)).toNat) :: _ = _
      rw [show ((at_ : Int)).toNat = at_ by omega, show ((j : Int)).toNat = j by omega]
      congr 1
      exact extract_list s at_ j (by omega)
    · have hcn : ¬ (((s[j]'hjs).toNat : Nat) : Int) = 32 := by
        intro h2
        apply hc
        apply UInt8.toNat_inj.1
        show (s[j]'hjs).toNat = 32
        omega
      rw [if_neg hcn]
      refine ih (j + 1) at_ D (by omega) (by omega) (by omega) ?_
      rw [cuts, if_neg hc] at h
      rw [← h]
      congr 2
      have hl : j - at_ < ((bl s).drop at_).length := by rw [List.length_drop, bl_len]; omega
      rw [show j + 1 - at_ = j - at_ + 1 by omega, List.take_succ_eq_append_getElem hl]
      congr 2
      rw [List.getElem_drop]
      show (bl s)[at_ + (j - at_)]'_ = s[j]'hjs
      have e : at_ + (j - at_) = j := by omega
      simp only [e]
      rfl
theorem words_f (s : ByteArray) (hs : s.size ≤ 1048576) : ∃ E, kilnref24_Words.f (s.size + 1) s = some E ∧ E.map bl = cuts 32 (bl s) [] :=
  words_loop s hs s.size 0 0 [] rfl (Nat.le_refl _) (Nat.le_refl _) rfl
/-- an act's kind by its name: 0 is none -/
def kindAt (w : ByteArray) : Nat → Nat → Nat
  | 0, _ => 0
  | n + 1, i => if nameL.getD i ⟨#[]⟩ = w then i + 1 else kindAt w n (i + 1)
def kindR (w : ByteArray) : Nat := kindAt w 12 0
theorem kind_loop (w : ByteArray) (L : List ByteArray) (hL : L = ⟨#[]⟩ :: nameL) : ∀ n i, n + i = 12 → kilnref24_kind.l0 (n + 1) w L ((i + 1 : Nat) : Int) = some (kindAt w n i : Int) := by
  intro n
  induction n with
  | zero =>
    intro i hi
    rw [kilnref24_kind.l0, if_neg (show ¬ (((i + 1 : Nat) : Int) ≤ 12) by omega)]
    rfl
  | succ n ih =>
    intro i hi
    have hlen : L.length = 13 := by rw [hL]; rfl
    have hr : rdOf ByteArray.empty L ((i + 1 : Nat) : Int) = nameL.getD i ⟨#[]⟩ := by
      unfold rdOf
      rw [show (((i + 1 : Nat) : Int)).toNat = i + 1 by omega, hL]; rfl
    rw [kilnref24_kind.l0, if_pos (show ((i + 1 : Nat) : Int) ≤ 12 by omega), if_pos (show (0 : Int) ≤ ((i + 1 : Nat) : Int) by omega), if_pos (by rw [hlen]; omega), hr, kindAt]
    by_cases he : nameL.getD i ⟨#[]⟩ = w
    · rw [if_pos (by rw [he]), if_pos he]
    · rw [if_neg (by rw [ByteArray.toList_eq, ByteArray.toList_eq]; intro h2; exact he (by apply ByteArray.ext; exact Array.toList_inj.1 h2)), if_neg he]
      have hw1 : wrap64 (((i + 1 : Nat) : Int) + 1) = ((i + 1 + 1 : Nat) : Int) := by rw [wrap_in _ (by omega) (by omega)]; omega
      rw [hw1]
      exact ih (i + 1) (by omega)
theorem kind_f (w : ByteArray) : kilnref24_kind.f 13 w = some (kindR w : Int) := kind_loop w _ rfl 12 0 rfl
theorem kindAt_le (w : ByteArray) : ∀ n i, kindAt w n i ≤ n + i
  | 0, i => by simp [kindAt]
  | n + 1, i => by
    unfold kindAt
    split
    · omega
    · have := kindAt_le w n (i + 1); omega
theorem kindR_le (w : ByteArray) : kindR w ≤ 12 := kindAt_le w 12 0
/-- the first line's code -/
def roomB : ByteArray := ⟨#[114, 111, 111, 109]⟩
def codeRoom (ws : List ByteArray) : Int :=
  if ws.getD 0 ByteArray.empty = roomB then
    if ws.length = 3 then (if (numW (bl (ws.getD 1 ByteArray.empty))).isSome = true ∧ (numW (bl (ws.getD 2 ByteArray.empty))).isSome = true then 0 else 244)
    else 243
  else 240
theorem room_f (ws : List ByteArray) (hne : 0 < ws.length) (hw : ∀ w ∈ ws, w.size ≤ 262144) :
    ∃ K p q, kilnref24_room.f K ws = some (p, q, [], codeRoom ws) ∧ (codeRoom ws = 0 → p = numN (bl (ws.getD 1 ByteArray.empty)) ∧ q = numN (bl (ws.getD 2 ByteArray.empty))) := by
  have r0 : rdOf ByteArray.empty ws 0 = ws.getD 0 ByteArray.empty := rfl
  have r1 : rdOf ByteArray.empty ws 1 = ws.getD 1 ByteArray.empty := rfl
  have r2 : rdOf ByteArray.empty ws 2 = ws.getD 2 ByteArray.empty := rfl
  have hroom : (ws.getD 0 ByteArray.empty).toList = ([114, 111, 111, 109] : List UInt8) ↔ ws.getD 0 ByteArray.empty = roomB := by
    rw [ByteArray.toList_eq]
    constructor
    · intro h; apply ByteArray.ext; exact Array.toList_inj.1 h
    · intro h; rw [h]; rfl
  by_cases c0 : ws.getD 0 ByteArray.empty = roomB
  · by_cases c3 : ws.length = 3
    · have hsz : ∀ i, i < 3 → (ws.getD i ByteArray.empty).size ≤ 262144 := by
        intro i hi
        rw [List.getD_eq_getElem?_getD, List.getElem?_eq_getElem (show i < ws.length by omega)]
        exact hw _ (List.getElem_mem _)
      have hcode : codeRoom ws = (if (numW (bl (ws.getD 1 ByteArray.empty))).isSome = true ∧ (numW (bl (ws.getD 2 ByteArray.empty))).isSome = true then 0 else 244) := by
        unfold codeRoom; rw [if_pos c0, if_pos c3]
      obtain ⟨v1, b1, e1, f1, g1⟩ := number_f (ws.getD 1 ByteArray.empty) (by have := hsz 1 (by omega); omega)
      obtain ⟨v2, b2, e2, f2, g2⟩ := number_f (ws.getD 2 ByteArray.empty) (by have := hsz 2 (by omega); omega)
      have hf : ∀ K, (ws.getD 1 ByteArray.empty).size + 10 ≤ K → (ws.getD 2 ByteArray.empty).size + 10 ≤ K → kilnref24_room.f K ws = if b1 = true then (if b2 = true then some (v1, v2, ([] : List S31), 0) else some (0, 0, ([] : List S31), 244)) else some (0, 0, ([] : List S31), 244) := by
        intro K h1 h2
        unfold kilnref24_room.f
        rw [if_pos (show 0 < (ws.length : Int) by omega), r0, if_pos (hroom.2 c0), if_pos (show (ws.length : Int) = 3 by omega), if_pos (show 1 < (ws.length : Int) by omega), r1, at_rounds (fun k => kilnref24_number.mono _ k) h1 e1, Option.bind_some, if_pos (show 2 < (ws.length : Int) by omega), r2, at_rounds (fun k => kilnref24_number.mono _ k) h2 e2, Option.bind_some]
      refine ⟨300000, if b1 = true then (if b2 = true then v1 else 0) else 0, if b1 = true then (if b2 = true then v2 else 0) else 0, ?_, ?_⟩
      · rw [hf 300000 (by have := hsz 1 (by omega); omega) (by have := hsz 2 (by omega); omega), hcode, ← f1, ← f2]
        cases b1 <;> cases b2 <;> rfl
      · intro h
        rw [hcode] at h
        by_cases hb : (numW (bl (ws.getD 1 ByteArray.empty))).isSome = true ∧ (numW (bl (ws.getD 2 ByteArray.empty))).isSome = true
        · rw [f1, f2, if_pos hb.1, if_pos hb.2, if_pos hb.1, if_pos hb.2]
          obtain ⟨x, hx⟩ := Option.isSome_iff_exists.1 hb.1
          obtain ⟨y, hy⟩ := Option.isSome_iff_exists.1 hb.2
          exact ⟨by rw [g1 x hx, numN_of hx], by rw [g2 y hy, numN_of hy]⟩
        · rw [if_neg hb] at h; cases h
    · have hcode : codeRoom ws = 243 := by unfold codeRoom; rw [if_pos c0, if_neg c3]
      refine ⟨0, 0, 0, ?_, fun h => by rw [hcode] at h; cases h⟩
      unfold kilnref24_room.f
      rw [if_pos (show 0 < (ws.length : Int) by omega), r0, if_pos (hroom.2 c0), if_neg (show ¬ (ws.length : Int) = 3 by omega), hcode]
  · have hcode : codeRoom ws = 240 := by unfold codeRoom; rw [if_neg c0]
    refine ⟨0, 0, 0, ?_, fun h => by rw [hcode] at h; cases h⟩
    unfold kilnref24_room.f
    rw [if_pos (show 0 < (ws.length : Int) by omega), r0, if_neg (fun h => c0 (hroom.1 h)), hcode]
end Go.Proofs.YtkfjjmmpbfjhaaaGreatDoor.Tells
namespace Go.Proofs.YtkfjjmmpbfjhaaaGreatDoor.Tells
open Go.RowKit Go.Proofs.YtkfjjmmpbfjhaaaGreatDoor.PScriptActs
set_option linter.unusedVariables false
set_option linter.unusedSimpArgs false
/-- a byte list as a text -/
def mkB (l : List UInt8) : ByteArray := ⟨l.toArray⟩
theorem mk_bl (s : ByteArray) : mkB (bl s) = s := by unfold mkB bl; simp
theorem bl_mk (l : List UInt8) : bl (mkB l) = l := by unfold mkB bl; simp
theorem of_bl {E : List ByteArray} {L : List (List UInt8)} (h : E.map bl = L) : E = L.map mkB := by
  subst h
  rw [List.map_map]
  exact ((List.map_congr_left (g := id) (fun s _ => mk_bl s)).trans (List.map_id _)).symm
/-- a line's words -/
def wordsOf (l : List UInt8) : List ByteArray := (cuts 32 l []).map mkB
theorem words_is (s : ByteArray) (hs : s.size ≤ 1048576) : kilnref24_Words.f (s.size + 1) s = some (wordsOf (bl s)) := by
  obtain ⟨E, h1, h2⟩ := words_f s hs
  rw [h1, of_bl h2]; rfl
theorem wordsOf_pos (l : List UInt8) : 0 < (wordsOf l).length := by
  unfold wordsOf
  rw [List.length_map]
  exact List.length_pos_iff.2 (cuts_ne 32 l [])
theorem cuts_len (b : UInt8) : ∀ l acc, (cuts b l acc).length ≤ l.length + 1 ∧ ∀ x ∈ cuts b l acc, x.length ≤ acc.length + l.length
  | [], acc => ⟨by simp [cuts], fun x hx => by simp [cuts] at hx; subst hx; simp⟩
  | c :: r, acc => by
    unfold cuts
    split
    · obtain ⟨h1, h2⟩ := cuts_len b r []
      refine ⟨by simp; omega, fun x hx => ?_⟩
      rcases List.mem_cons.1 hx with rfl | hx
      · omega
      · have := h2 x hx; simp at this ⊢; omega
    · obtain ⟨h1, h2⟩ := cuts_len b r (acc ++ [c])
      refine ⟨by simp; omega, fun x hx => ?_⟩
      have := h2 x hx; simp at this ⊢; omega
theorem wordsOf_len (l : List UInt8) : (wordsOf l).length ≤ l.length + 1 ∧ ∀ w ∈ wordsOf l, w.size ≤ l.length := by
  unfold wordsOf
  obtain ⟨h1, h2⟩ := cuts_len 32 l []
  refine ⟨by rw [List.length_map]; exact h1, fun w hw => ?_⟩
  obtain ⟨x, hx, rfl⟩ := List.mem_map.1 hw
  have := h2 x hx
  show x.toArray.size ≤ _
  simp at this ⊢; exact this
/-- what was read so far -/
structure StP where
  said : Nat
  p0 : Int
  p1 : Int
  acts : List S31
/-- one line read: its code, and what is known behind it -/
def stepP (l : List UInt8) (s : StP) : Int × StP :=
  if 262144 < l.length then (241, s)
  else if l = [] ∨ l.head? = some 35 then (0, s)
  else if s.said = 20000 then (246, s)
  else if s.said = 0 then (codeRoom (wordsOf l), ⟨1, numN (bl ((wordsOf l).getD 1 ByteArray.empty)), numN (bl ((wordsOf l).getD 2 ByteArray.empty)), s.acts⟩)
  else if kindR ((wordsOf l).getD 0 ByteArray.empty) = 0 then (242, s)
  else (codeR (kindR ((wordsOf l).getD 0 ByteArray.empty)) (wordsOf l).tail, ⟨s.said + 1, s.p0, s.p1, s.acts ++ [actR (kindR ((wordsOf l).getD 0 ByteArray.empty)) (wordsOf l).tail]⟩)
/-- the play (room, acts), the line of the error, its code -/
def goP : List (List UInt8) → Nat → StP → (Int × Int × List S31) × Int × Int
  | [], _, s => if s.said = 0 then ((0, 0, []), 0, 240) else ((s.p0, s.p1, s.acts), 0, 0)
  | l :: ls, i, s => if (stepP l s).1 = 0 then goP ls (i + 1) (stepP l s).2 else ((0, 0, []), (i + 1 : Int), (stepP l s).1)
def parseP (t : List UInt8) : (Int × Int × List S31) × Int × Int := goP (linesOf t []) 0 ⟨0, 0, 0, []⟩
end Go.Proofs.YtkfjjmmpbfjhaaaGreatDoor.Tells
namespace Go.Proofs.YtkfjjmmpbfjhaaaGreatDoor.Tells
open Go.RowKit Go.Proofs.YtkfjjmmpbfjhaaaGreatDoor.Facts Go.Proofs.YtkfjjmmpbfjhaaaGreatDoor.PScriptActs Go.Proofs.YtkfjjmmpbfjhaaaGreatDoorW.PrintWords Go.Proofs.YtkfjjmmpbfjhaaaGreatDoorW.PrintLast Go.Proofs.YtkfjjmmpbfjhaaaGreatDoorW.PrintMore
set_option linter.unusedVariables false
set_option linter.unusedSimpArgs false
/-- an act's cells, its list's slice apart -/
def actC (a : S31) (v : Value) : Array Value := #[.int .i64 a.f0, .string a.f1, .string a.f2, v, .string a.f4, .int .i64 a.f5, .int .i64 a.f6]
/-- a shape's letters and the places that they name -/
def Names : List Int → List Place → Prop
  | [], [] => True
  | c :: cs, p :: ps => ((c = 110 ∧ p = (true, 1)) ∨ (c = 111 ∧ p = (true, 2)) ∨ (c = 116 ∧ p = (true, 4)) ∨ (c = 35 ∧ p = (false, 5)) ∨ (c = 102 ∧ p = (false, 6))) ∧ Names cs ps
  | _, _ => False
theorem okC_is {c : Int} {p : Place} (h : (c = 110 ∧ p = (true, 1)) ∨ (c = 111 ∧ p = (true, 2)) ∨ (c = 116 ∧ p = (true, 4)) ∨ (c = 35 ∧ p = (false, 5)) ∨ (c = 102 ∧ p = (false, 6))) (w : ByteArray) : okC c w = okP p w := by
  rcases h with ⟨rfl, rfl⟩ | ⟨rfl, rfl⟩ | ⟨rfl, rfl⟩ | ⟨rfl, rfl⟩ | ⟨rfl, rfl⟩ <;> rfl
theorem putC_is {c : Int} {p : Place} (h : (c = 110 ∧ p = (true, 1)) ∨ (c = 111 ∧ p = (true, 2)) ∨ (c = 116 ∧ p = (true, 4)) ∨ (c = 35 ∧ p = (false, 5)) ∨ (c = 102 ∧ p = (false, 6))) (w : ByteArray) (a : S31) (v : Value) : putP p w (actC a v) = actC (putC c w a) v ∧ (putC c w a).f3 = a.f3 := by
  rcases h with ⟨rfl, rfl⟩ | ⟨rfl, rfl⟩ | ⟨rfl, rfl⟩ | ⟨rfl, rfl⟩ | ⟨rfl, rfl⟩ <;> exact ⟨rfl, rfl⟩
/-- the letters from i on -/
def charsAt (sh : ByteArray) (n i : Nat) : Nat → List Int
  | 0 => []
  | m + 1 => chC sh n i :: charsAt sh n (i + 1) m
theorem ok_is (sh : ByteArray) (n : Nat) : ∀ (ws : List ByteArray) (L : List Place) (i : Nat), Names (charsAt sh n i ws.length) L → okR sh n i ws = oksP L ws
  | [], [], i, h => rfl
  | [], p :: L, i, h => h.elim
  | w :: ws, [], i, h => h.elim
  | w :: ws, p :: L, i, h => by
    show (okC _ w && okR sh n (i + 1) ws) = (okP p w && oksP L ws)
    rw [okC_is h.1, ok_is sh n ws L (i + 1) h.2]
theorem put_is (sh : ByteArray) (n : Nat) (v : Value) : ∀ (ws : List ByteArray) (L : List Place) (i : Nat) (a : S31), Names (charsAt sh n i ws.length) L → actC (putR sh n i ws a) v = putsP L ws (actC a v) ∧ (putR sh n i ws a).f3 = a.f3
  | [], [], i, a, h => ⟨rfl, rfl⟩
  | [], p :: L, i, a, h => h.elim
  | w :: ws, [], i, a, h => h.elim
  | w :: ws, p :: L, i, a, h => by
    obtain ⟨h1, h2⟩ := put_is sh n v ws L (i + 1) (putC (chC sh n i) w a) h.2
    obtain ⟨h3, h4⟩ := putC_is h.1 w a v
    refine ⟨?_, h2.trans h4⟩
    show actC (putR sh n (i + 1) ws (putC (chC sh n i) w a)) v = putsP L ws (putP p w (actC a v))
    rw [h1, h3]
theorem ok_star (sh : ByteArray) (n : Nat) : ∀ (ws : List ByteArray) (i : Nat), n ≤ i → okR sh n i ws = okL ws
  | [], i, h => rfl
  | w :: ws, i, h => by
    show (okC (chC sh n i) w && okR sh n (i + 1) ws) = _
    rw [ok_star sh n ws (i + 1) (by omega)]
    unfold chC
    rw [if_neg (by omega)]
    rfl
theorem put_star (sh : ByteArray) (n : Nat) : ∀ (ws : List ByteArray) (i : Nat) (a : S31), n ≤ i → putR sh n i ws a = ⟨a.f0, a.f1, a.f2, a.f3 ++ unwL ws, a.f4, a.f5, a.f6⟩
  | [], i, a, h => by simp [putR, unwL]
  | w :: ws, i, a, h => by
    show putR sh n (i + 1) ws (putC (chC sh n i) w a) = _
    rw [put_star sh n ws (i + 1) _ (by omega)]
    unfold chC
    rw [if_neg (by omega)]
    show (⟨a.f0, a.f1, a.f2, (a.f3 ++ [unwT (bl w)]) ++ unwL ws, a.f4, a.f5, a.f6⟩ : S31) = _
    rw [List.append_assoc]
    rfl
theorem ok_split (sh : ByteArray) (n : Nat) : ∀ (ws vs : List ByteArray) (i : Nat), okR sh n i (ws ++ vs) = (okR sh n i ws && okR sh n (i + ws.length) vs)
  | [], vs, i => by simp [okR]
  | w :: ws, vs, i => by
    show (okC _ w && okR sh n (i + 1) (ws ++ vs)) = ((okC _ w && okR sh n (i + 1) ws) && okR sh n (i + (ws.length + 1)) vs)
    rw [ok_split sh n ws vs (i + 1), Bool.and_assoc, show i + 1 + ws.length = i + (ws.length + 1) by omega]
theorem put_split (sh : ByteArray) (n : Nat) : ∀ (ws vs : List ByteArray) (i : Nat) (a : S31), putR sh n i (ws ++ vs) a = putR sh n (i + ws.length) vs (putR sh n i ws a)
  | [], vs, i, a => rfl
  | w :: ws, vs, i, a => by
    show putR sh n (i + 1) (ws ++ vs) (putC _ w a) = putR sh n (i + (ws.length + 1)) vs (putR sh n (i + 1) ws (putC _ w a))
    rw [put_split sh n ws vs (i + 1), show i + 1 + ws.length = i + (ws.length + 1) by omega]
/-- a kind without a list -/
structure Plain (k : Nat) (L : List Place) : Prop where
  star : starR k = false
  len : nR k = L.length
  nam : Names (charsAt (shR k) (nR k) 0 L.length) L
/-- a kind with a list -/
structure Star (k : Nat) (L : List Place) : Prop where
  star : starR k = true
  len : nR k = L.length
  nam : Names (charsAt (shR k) (nR k) 0 L.length) L
theorem Plain.code {k : Nat} {L : List Place} (h : Plain k L) (ws : List ByteArray) : ReadK L ws (codeR k ws) := by
  refine ⟨fun hl => ?_, fun hl ho => ?_, fun hl ho => ?_⟩
  · unfold codeR; rw [h.len, h.star]
    rw [if_pos]
    by_cases h2 : ws.length < L.length
    · exact .inl h2
    · exact .inr ⟨rfl, by omega⟩
  all_goals
    have hok : okR (shR k) (nR k) 0 ws = oksP L ws := ok_is _ _ ws L 0 (by rw [← hl]; exact h.nam)
    unfold codeR
    rw [if_neg (by rw [h.len]; rintro (h2 | h2) <;> omega), hok, ho]
    rfl
theorem Plain.act {k : Nat} {L : List Place} (h : Plain k L) (ws : List ByteArray) (hl : L.length = ws.length) : putsP L ws (cs0 (k : Int)) = actC (actR k ws) (.slice none 0 0) ∧ (actR k ws).f3 = [] := by
  obtain ⟨h1, h2⟩ := put_is (shR k) (nR k) (.slice none 0 0) ws L 0 (act0 k) (by rw [← hl]; exact h.nam)
  exact ⟨h1.symm, h2⟩
theorem Star.code {k : Nat} {L : List Place} (h : Star k L) (ws : List ByteArray) : ReadLK L ws (codeR k ws) := by
  have key : L.length ≤ ws.length → okR (shR k) (nR k) 0 ws = (oksP L (ws.take L.length) && okL (ws.drop L.length)) := fun hl => by
    have hlt : (ws.take L.length).length = L.length := by rw [List.length_take]; omega
    have e := ok_split (shR k) (nR k) (ws.take L.length) (ws.drop L.length) 0
    rw [List.take_append_drop] at e
    rw [e, ok_is _ _ (ws.take L.length) L 0 (by rw [hlt]; exact h.nam), ok_star _ _ _ _ (by rw [hlt, h.len]; omega)]
  refine ⟨fun hl => ?_, fun hl ho => ?_, fun hl ho ho2 => ?_, fun hl ho ho2 => ?_⟩
  · unfold codeR; rw [h.len, if_pos (.inl hl)]
  all_goals
    unfold codeR
    rw [if_neg (by rw [h.len, h.star]; rintro (h2 | h2); · omega
                   · cases h2.1), key hl, ho]
  · rfl
  · rw [ho2]; rfl
  · rw [ho2]; rfl
theorem Star.act {k : Nat} {L : List Place} (h : Star k L) (ws : List ByteArray) (hl : L.length ≤ ws.length) (v : Value) : (putsP L (ws.take L.length) (cs0 (k : Int))).setIfInBounds 3 v = actC (actR k ws) v ∧ (actR k ws).f3 = unwL (ws.drop L.length) := by
  have hlt : (ws.take L.length).length = L.length := by rw [List.length_take]; omega
  obtain ⟨h1, h2⟩ := put_is (shR k) (nR k) (.slice none 0 0) (ws.take L.length) L 0 (act0 k) (by rw [hlt]; exact h.nam)
  have e := put_split (shR k) (nR k) (ws.take L.length) (ws.drop L.length) 0 (act0 k)
  rw [List.take_append_drop, put_star _ _ (ws.drop L.length) (0 + (ws.take L.length).length) _ (by rw [hlt, h.len]; omega)] at e
  have e2 : actR k ws = ⟨(putR (shR k) (nR k) 0 (ws.take L.length) (act0 k)).f0, (putR (shR k) (nR k) 0 (ws.take L.length) (act0 k)).f1, (putR (shR k) (nR k) 0 (ws.take L.length) (act0 k)).f2, (putR (shR k) (nR k) 0 (ws.take L.length) (act0 k)).f3 ++ unwL (ws.drop L.length), (putR (shR k) (nR k) 0 (ws.take L.length) (act0 k)).f4, (putR (shR k) (nR k) 0 (ws.take L.length) (act0 k)).f5, (putR (shR k) (nR k) 0 (ws.take L.length) (act0 k)).f6⟩ := e
  refine ⟨?_, by rw [e2, h2]; rfl⟩
  have h1' : putsP L (ws.take L.length) (cs0 (k : Int)) = actC (putR (shR k) (nR k) 0 (ws.take L.length) (act0 k)) (.slice none 0 0) := h1.symm
  rw [h1', e2]
  rfl
theorem n_is : nR 1 = 2 ∧ nR 2 = 2 ∧ nR 3 = 2 ∧ nR 4 = 1 ∧ nR 5 = 1 ∧ nR 6 = 2 ∧ nR 7 = 1 ∧ nR 8 = 0 ∧ nR 9 = 0 ∧ nR 10 = 1 ∧ nR 11 = 0 ∧ nR 12 = 1 := by decide +kernel
theorem star_is : starR 1 = true ∧ starR 2 = false ∧ starR 3 = false ∧ starR 4 = false ∧ starR 5 = false ∧ starR 6 = false ∧ starR 7 = true ∧ starR 8 = false ∧ starR 9 = false ∧ starR 10 = false ∧ starR 11 = false ∧ starR 12 = false := by decide +kernel
theorem ch_is : chC (shR 1) 2 0 = 110 ∧ chC (shR 1) 2 1 = 111 ∧ chC (shR 2) 2 0 = 110 ∧ chC (shR 2) 2 1 = 116 ∧ chC (shR 3) 2 0 = 110 ∧ chC (shR 3) 2 1 = 111 ∧ chC (shR 4) 1 0 = 110 ∧ chC (shR 5) 1 0 = 116 ∧ chC (shR 6) 2 0 = 35 ∧ chC (shR 6) 2 1 = 102 ∧ chC (shR 7) 1 0 = 110 ∧ chC (shR 10) 1 0 = 35 ∧ chC (shR 12) 1 0 = 116 := by decide +kernel
theorem star1 : Star 1 [(true, 1), (true, 2)] := ⟨star_is.1, n_is.1, by rw [n_is.1]; exact ⟨.inl ⟨ch_is.1, rfl⟩, .inr (.inl ⟨ch_is.2.1, rfl⟩), trivial⟩⟩
theorem plain2 : Plain 2 [(true, 1), (true, 4)] := ⟨star_is.2.1, n_is.2.1, by rw [n_is.2.1]; exact ⟨.inl ⟨ch_is.2.2.1, rfl⟩, .inr (.inr (.inl ⟨ch_is.2.2.2.1, rfl⟩)), trivial⟩⟩
theorem plain3 : Plain 3 [(true, 1), (true, 2)] := ⟨star_is.2.2.1, n_is.2.2.1, by rw [n_is.2.2.1]; exact ⟨.inl ⟨ch_is.2.2.2.2.1, rfl⟩, .inr (.inl ⟨ch_is.2.2.2.2.2.1, rfl⟩), trivial⟩⟩
theorem plain4 : Plain 4 [(true, 1)] := ⟨star_is.2.2.2.1, n_is.2.2.2.1, by rw [n_is.2.2.2.1]; exact ⟨.inl ⟨ch_is.2.2.2.2.2.2.1, rfl⟩, trivial⟩⟩
theorem plain5 : Plain 5 [(true, 4)] := ⟨star_is.2.2.2.2.1, n_is.2.2.2.2.1, by rw [n_is.2.2.2.2.1]; exact ⟨.inr (.inr (.inl ⟨ch_is.2.2.2.2.2.2.2.1, rfl⟩)), trivial⟩⟩
theorem plain6 : Plain 6 [(false, 5), (false, 6)] := ⟨star_is.2.2.2.2.2.1, n_is.2.2.2.2.2.1, by rw [n_is.2.2.2.2.2.1]; exact ⟨.inr (.inr (.inr (.inl ⟨ch_is.2.2.2.2.2.2.2.2.1, rfl⟩))), .inr (.inr (.inr (.inr ⟨ch_is.2.2.2.2.2.2.2.2.2.1, rfl⟩))), trivial⟩⟩
theorem star7 : Star 7 [(true, 1)] := ⟨star_is.2.2.2.2.2.2.1, n_is.2.2.2.2.2.2.1, by rw [n_is.2.2.2.2.2.2.1]; exact ⟨.inl ⟨ch_is.2.2.2.2.2.2.2.2.2.2.1, rfl⟩, trivial⟩⟩
theorem plain8 : Plain 8 [] := ⟨star_is.2.2.2.2.2.2.2.1, n_is.2.2.2.2.2.2.2.1, trivial⟩
theorem plain9 : Plain 9 [] := ⟨star_is.2.2.2.2.2.2.2.2.1, n_is.2.2.2.2.2.2.2.2.1, trivial⟩
theorem plain10 : Plain 10 [(false, 5)] := ⟨star_is.2.2.2.2.2.2.2.2.2.1, n_is.2.2.2.2.2.2.2.2.2.1, by rw [n_is.2.2.2.2.2.2.2.2.2.1]; exact ⟨.inr (.inr (.inr (.inl ⟨ch_is.2.2.2.2.2.2.2.2.2.2.2.1, rfl⟩))), trivial⟩⟩
theorem plain11 : Plain 11 [] := ⟨star_is.2.2.2.2.2.2.2.2.2.2.1, n_is.2.2.2.2.2.2.2.2.2.2.1, trivial⟩
theorem plain12 : Plain 12 [(true, 4)] := ⟨star_is.2.2.2.2.2.2.2.2.2.2.2, n_is.2.2.2.2.2.2.2.2.2.2.2, by rw [n_is.2.2.2.2.2.2.2.2.2.2.2]; exact ⟨.inr (.inr (.inl ⟨ch_is.2.2.2.2.2.2.2.2.2.2.2.2, rfl⟩)), trivial⟩⟩
/-- what a table's reader does with a line's words: the code, the cells -/
structure Reading (k : Nat) (f : FuncId) (fn : Func) : Prop where
  here : Tryz.prog.funcs[f]? = some fn
  name : (fn.name == "runtime.NumGoroutine") = false
  body : fn.body.isSome = true
  does : ∀ A c W g ws, Reads W g 31 (cs0 (k : Int)) A ws → ws.length ≤ c → ws.length ≤ 1073741824 → Calls Tryz.prog f #[.pointer (some ⟨g, 0, none⟩), .slice A ws.length c] W fun e w' => e = .returned (.int .i64 (codeR k ws)) ∧ ∃ cs', Wrote W g (.cells cs' 31 (0, 0)) w' ∧ Alike (cs0 (k : Int)) cs' ∧ (codeR k ws = 0 → ∃ v, cs' = actC (actR k ws) v ∧ Kd.R Kd.string 9 w' W.heap.size (fun _ => True) v (actR k ws).f3)
theorem plain_reading {k : Nat} {L : List Place} (h : Plain k L) {f : FuncId} {A : Option Addr} {c : Nat} {W : World} {g : Nat} {ws : List ByteArray} (hr : Calls Tryz.prog f #[.pointer (some ⟨g, 0, none⟩), .slice A ws.length c] W fun e w' => e = .returned (.int .i64 (codeR k ws)) ∧ ReadPost W g 31 (cs0 (k : Int)) L ws (codeR k ws) w') :
    Calls Tryz.prog f #[.pointer (some ⟨g, 0, none⟩), .slice A ws.length c] W fun e w' => e = .returned (.int .i64 (codeR k ws)) ∧ ∃ cs', Wrote W g (.cells cs' 31 (0, 0)) w' ∧ Alike (cs0 (k : Int)) cs' ∧ (codeR k ws = 0 → ∃ v, cs' = actC (actR k ws) v ∧ Kd.R Kd.string 9 w' W.heap.size (fun _ => True) v (actR k ws).f3) := by
  refine hr.mono ?_
  rintro e w' ⟨he, cs', h1, h2, h3⟩
  refine ⟨he, cs', h1, h3, fun h0 => ?_⟩
  obtain ⟨hl, _, e2⟩ := h2 h0
  obtain ⟨e3, e4⟩ := h.act ws hl
  exact ⟨.slice none 0 0, by rw [e2, e3], by rw [e4]; exact Kd.R_nil _ _ _ _ _⟩
theorem star_reading {k : Nat} {L : List Place} (h : Star k L) {f : FuncId} {A : Option Addr} {c : Nat} {W : World} {g : Nat} {ws : List ByteArray} (hr : Calls Tryz.prog f #[.pointer (some ⟨g, 0, none⟩), .slice A ws.length c] W fun e w' => e = .returned (.int .i64 (codeR k ws)) ∧ ReadPostL W g (cs0 (k : Int)) L ws (codeR k ws) w') :
    Calls Tryz.prog f #[.pointer (some ⟨g, 0, none⟩), .slice A ws.length c] W fun e w' => e = .returned (.int .i64 (codeR k ws)) ∧ ∃ cs', Wrote W g (.cells cs' 31 (0, 0)) w' ∧ Alike (cs0 (k : Int)) cs' ∧ (codeR k ws = 0 → ∃ v, cs' = actC (actR k ws) v ∧ Kd.R Kd.string 9 w' W.heap.size (fun _ => True) v (actR k ws).f3) := by
  refine hr.mono ?_
  rintro e w' ⟨he, cs', v, h1, h2, h3⟩
  refine ⟨he, cs', h1, h3, fun h0 => ?_⟩
  obtain ⟨hl, _, _, e2, e5⟩ := h2 h0
  obtain ⟨e3, e4⟩ := h.act ws hl v
  exact ⟨v, by rw [e2, e3], by rw [e4]; exact e5⟩
theorem readings (i : Nat) (hi : i < 12) : ∃ f fn, tabCells[i * 4 + 2]? = some (.func (.func f) #[] #[]) ∧ Reading (i + 1) f fn := by
  rcases (show i = 0 ∨ i = 1 ∨ i = 2 ∨ i = 3 ∨ i = 4 ∨ i = 5 ∨ i = 6 ∨ i = 7 ∨ i = 8 ∨ i = 9 ∨ i = 10 ∨ i = 11 by omega) with rfl | rfl | rfl | rfl | rfl | rfl | rfl | rfl | rfl | rfl | rfl | rfl
  · exact ⟨49, Tryz.f49, rfl, ⟨Tryz.func49, by kernel_rfl, rfl, fun A c W g ws hR hc hn => star_reading star1 (read49 W g (cs0 (1 : Int)) A ws c hR (actCells0 _) rfl hc hn _ (star1.code ws))⟩⟩
  · exact ⟨52, Tryz.f52, rfl, ⟨Tryz.func52, by kernel_rfl, rfl, fun A c W g ws hR hc hn => plain_reading plain2 (read52 W g (cs0 (2 : Int)) A ws c hR (actCells0 _) hc _ (plain2.code ws))⟩⟩
  · exact ⟨56, Tryz.f56, rfl, ⟨Tryz.func56, by kernel_rfl, rfl, fun A c W g ws hR hc hn => plain_reading plain3 (read56 W g (cs0 (3 : Int)) A ws c hR (actCells0 _) hc _ (plain3.code ws))⟩⟩
  · exact ⟨58, Tryz.f58, rfl, ⟨Tryz.func58, by kernel_rfl, rfl, fun A c W g ws hR hc hn => plain_reading plain4 (read58 W g (cs0 (4 : Int)) A ws c hR (actCells0 _) hc _ (plain4.code ws))⟩⟩
  · exact ⟨60, Tryz.f60, rfl, ⟨Tryz.func60, by kernel_rfl, rfl, fun A c W g ws hR hc hn => plain_reading plain5 (read60 W g (cs0 (5 : Int)) A ws c hR (actCells0 _) hc _ (plain5.code ws))⟩⟩
  · exact ⟨62, Tryz.f62, rfl, ⟨Tryz.func62, by kernel_rfl, rfl, fun A c W g ws hR hc hn => plain_reading plain6 (read62 W g (cs0 (6 : Int)) A ws c hR (actCells0 _) hc _ (plain6.code ws))⟩⟩
  · exact ⟨65, Tryz.f65, rfl, ⟨Tryz.func65, by kernel_rfl, rfl, fun A c W g ws hR hc hn => star_reading star7 (read65 W g (cs0 (7 : Int)) A ws c hR (actCells0 _) rfl hc hn _ (star7.code ws))⟩⟩
  · exact ⟨67, Tryz.f67, rfl, ⟨Tryz.func67, by kernel_rfl, rfl, fun A c W g ws hR hc hn => plain_reading plain8 (read67 W g (cs0 (8 : Int)) A ws c hR (actCells0 _) hc _ (plain8.code ws))⟩⟩
  · exact ⟨67, Tryz.f67, rfl, ⟨Tryz.func67, by kernel_rfl, rfl, fun A c W g ws hR hc hn => plain_reading plain9 (read67 W g (cs0 (9 : Int)) A ws c hR (actCells0 _) hc _ (plain9.code ws))⟩⟩
  · exact ⟨69, Tryz.f69, rfl, ⟨Tryz.func69, by kernel_rfl, rfl, fun A c W g ws hR hc hn => plain_reading plain10 (read69 W g (cs0 (10 : Int)) A ws c hR (actCells0 _) hc _ (plain10.code ws))⟩⟩
  · exact ⟨67, Tryz.f67, rfl, ⟨Tryz.func67, by kernel_rfl, rfl, fun A c W g ws hR hc hn => plain_reading plain11 (read67 W g (cs0 (11 : Int)) A ws c hR (actCells0 _) hc _ (plain11.code ws))⟩⟩
  · exact ⟨71, Tryz.f71, rfl, ⟨Tryz.func71, by kernel_rfl, rfl, fun A c W g ws hR hc hn => plain_reading plain12 (read71 W g (cs0 (12 : Int)) A ws c hR (actCells0 _) hc _ (plain12.code ws))⟩⟩
end Go.Proofs.YtkfjjmmpbfjhaaaGreatDoor.Tells
namespace Go.Proofs.YtkfjjmmpbfjhaaaGreatDoor.Tells
open Go.RowKit Go.Proofs.YtkfjjmmpbfjhaaaGreatDoor.Facts Go.Proofs.YtkfjjmmpbfjhaaaGreatDoor.PScriptActs Go.Proofs.YtkfjjmmpbfjhaaaGreatDoorW.PrintWords Go.Proofs.YtkfjjmmpbfjhaaaGreatDoorW.PrintLast Go.Proofs.YtkfjjmmpbfjhaaaGreatDoorW.PrintMore
attribute [local go_sem] max2_int min2_int max_two min_two max_three min_three max_four min_four
set_option linter.unusedVariables false
set_option linter.unusedSimpArgs false
theorem ba_toList {s t : ByteArray} : s.toList = t.toList ↔ s = t := by
  rw [ByteArray.toList_eq, ByteArray.toList_eq]
  constructor
  · intro h; apply ByteArray.ext; exact Array.toList_inj.1 h
  · intro h; rw [h]
def sameA (a b : S31) : Bool := decide (a.f0 = b.f0) && (decide (a.f1 = b.f1) && (decide (a.f2 = b.f2) && (decide (a.f4 = b.f4) && (decide (a.f5 = b.f5) && (decide (a.f6 = b.f6) && decide (a.f3 = b.f3))))))
theorem num_len (n : Int) (h : inI n) : (itoaB n).data.toList.length ≤ 21 := by
  have e : (itoaB n).data.toList = Lib.itoa n := by unfold itoaB; simp
  rw [e]
  exact Lib.itoa_length_le n h.1 h.2
end Go.Proofs.YtkfjjmmpbfjhaaaGreatDoor.Tells
namespace Go.Proofs.YtkfjjmmpbfjhaaaGreatDoor.Tells
open Go.RowKit Go.Proofs.YtkfjjmmpbfjhaaaGreatDoor.Facts Go.Proofs.YtkfjjmmpbfjhaaaGreatDoor.PScriptActs Go.Proofs.YtkfjjmmpbfjhaaaGreatDoorW.PrintWords Go.Proofs.YtkfjjmmpbfjhaaaGreatDoorW.PrintLast Go.Proofs.YtkfjjmmpbfjhaaaGreatDoorW.PrintMore
attribute [local go_sem] max2_int min2_int max_two min_two max_three min_three max_four min_four
set_option linter.unusedVariables false
set_option linter.unusedSimpArgs false
/-- the act's box and the table, as the loop finds them -/
structure Tab (w : World) (a : S31) (A : Option Addr) (c : Nat) (wr : World) : Prop where
  below : Below w.heap.size w wr
  box : wr.heap[w.heap.size]? = some (.cells #[.int .i64 a.f0, .string a.f1, .string a.f2, .slice A a.f3.length c, .string a.f4, .int .i64 a.f5, .int .i64 a.f6] 31 (0, 0))
  tab : wr.heap[w.heap.size + 1]? = some (.cells tabCells 68 (0, 0))
theorem Tab.next {w : World} {a : S31} {A : Option Addr} {c : Nat} {wr w2 : World} (h : Tab w a A c wr) (hb : Below wr.heap.size wr w2) : Tab w a A c w2 :=
  ⟨below_then h.below h.below.size hb, (hb.block _ (blk_lt h.box)).trans h.box, (hb.block _ (blk_lt h.tab)).trans h.tab⟩
theorem below_le {B B' : Nat} {w w' : World} (h : Below B w w') (hB : B' ≤ B) : Below B' w w' := ⟨h.os, h.tape, h.output, h.size, fun i hi => h.block i (Nat.lt_of_lt_of_le hi hB)⟩
theorem ActIs.below {w w' : World} {cs : Array Value} {b : S31} (h : ActIs w cs b) (hb : Below w.heap.size w w') : ActIs w' cs b := by
  obtain ⟨A, c, h1, h2, h3⟩ := h
  exact ⟨A, c, h1, Kd.C_below h2 hb, h3⟩
theorem Tab.keep {w : World} {a : S31} {A : Option Addr} {c B : Nat} {wr w2 : World} (h : Tab w a A c wr) (hb : Below B wr w2) (hB : w.heap.size + 2 ≤ B) : Tab w a A c w2 :=
  ⟨h.below.trans ⟨hb.os, hb.tape, hb.output, hb.size, fun k hk => hb.block k (by omega)⟩, (hb.block _ (by omega)).trans h.box, (hb.block _ (by omega)).trans h.tab⟩
theorem tab_at (i : Nat) (hi : i < 12) : tabCells[i * 4]? = some (.string (nameL.getD i ⟨#[]⟩)) ∧ tabCells[i * 4 + 1]? = some (.int .i64 ((i : Int) + 1)) := by
  rcases (show i = 0 ∨ i = 1 ∨ i = 2 ∨ i = 3 ∨ i = 4 ∨ i = 5 ∨ i = 6 ∨ i = 7 ∨ i = 8 ∨ i = 9 ∨ i = 10 ∨ i = 11 by omega) with rfl | rfl | rfl | rfl | rfl | rfl | rfl | rfl | rfl | rfl | rfl | rfl <;> exact ⟨rfl, rfl⟩
theorem tab_fn (i : Nat) (hi : i < 12) : ∃ fr fw, tabCells[i * 4 + 2]? = some (.func (.func fr) #[] #[]) ∧ tabCells[i * 4 + 3]? = some (.func (.func fw) #[] #[]) := by
  rcases (show i = 0 ∨ i = 1 ∨ i = 2 ∨ i = 3 ∨ i = 4 ∨ i = 5 ∨ i = 6 ∨ i = 7 ∨ i = 8 ∨ i = 9 ∨ i = 10 ∨ i = 11 by omega) with rfl | rfl | rfl | rfl | rfl | rfl | rfl | rfl | rfl | rfl | rfl | rfl <;> exact ⟨_, _, rfl, rfl⟩
end Go.Proofs.YtkfjjmmpbfjhaaaGreatDoor.Tells
namespace Go.Proofs.YtkfjjmmpbfjhaaaGreatDoor.Tells
open Go.RowKit Go.Proofs.YtkfjjmmpbfjhaaaGreatDoor.Facts Go.Proofs.YtkfjjmmpbfjhaaaGreatDoor.PScriptActs Go.Proofs.YtkfjjmmpbfjhaaaGreatDoorW.PrintWords Go.Proofs.YtkfjjmmpbfjhaaaGreatDoorW.PrintLast Go.Proofs.YtkfjjmmpbfjhaaaGreatDoorW.PrintMore
attribute [local go_sem] max2_int min2_int max_two min_two max_three min_three max_four min_four
set_option linter.unusedVariables false
set_option linter.unusedSimpArgs false
section
variable {ops : Array Oper} {rest : List Oper} {o : Oper} {a : Act} {Q : Exit → Act → World → Prop} {K : Act → World → Prop}
end
section
variable {ops : Array Oper} {rest : List Oper} {o : Oper} {a : Act} {Q : Exit → Act → World → Prop}
end
section
variable {ops : Array Oper} {rest : List Oper} {o : Oper} {a : Act} {Q : Exit → Act → World → Prop} {K : Act → World → Prop}
end
end Go.Proofs.YtkfjjmmpbfjhaaaGreatDoor.Tells
