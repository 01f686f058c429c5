/- The program's reading of tokens, walked: each function's answer in plain words. Conditions: those that each theorem states. -/
import Derived.Test.YtjibdaigclgmhaaDoorLexF
namespace Go.Proofs.YtjibdaigclgmhaaDoor.LexW
open Go.RowKit Go.Maps Go.Proofs.YtjibdaigclgmhaaDoor.Lex Go.Proofs.YtjibdaigclgmhaaDoor.PLexTokens Go.Proofs.YtjibdaigclgmhaaDoorW.PrintWords Go.Proofs.YtjibdaigclgmhaaDoorW.PrintLast Go.Proofs.YtjibdaigclgmhaaDoorW.PrintMore
attribute [local go_sem] max2_int min2_int max_two min_two max_three min_three max_four min_four
set_option linter.unusedVariables false
set_option linter.unusedSimpArgs false
set_option maxHeartbeats 2000000 in
set_option maxRecDepth 100000 in
theorem clip_calls (A : Option Addr) (n c : Nat) (hn : n ≤ c) (w : World) : Calls Tryd.prog 28 #[.slice A n c] w fun e w' => e = .returned (.slice A n n) ∧ w' = w := by
  go_enter Tryd.func28, Tryd.ntmps28
  go_wp2_with fail
  go_ret
  exact ⟨rfl, rfl⟩
def tokensS (l : List UInt8) : List TokA ⊕ (Int × Nat) := if 4096 < l.length then .inr (73, 4096) else match lex l with | .inl t => .inl t | .inr a => .inr (70, a)
def TPost (r : List TokA ⊕ (Int × Nat)) (w : World) (e : Ending) (w' : World) : Prop :=
    (match r with
     | .inl l => ∃ A c, e = .returned (.tuple #[.slice A l.length l.length, .agg #[.int .i64 0, .int .i64 0]]) ∧ Kd.R k42 42 w' w.heap.size (fun _ => True) (.slice A l.length c) (l.map tokS)
     | .inr a => e = .returned (.tuple #[.slice none 0 0, .agg #[.int .i64 a.1, .int .i64 (a.2 : Int)]])) ∧ Below w.heap.size w w'
set_option maxHeartbeats 2000000 in
set_option maxRecDepth 100000 in
theorem tokens_calls (s : ByteArray) (w : World) (E : Erg w) : Calls Tryd.prog 11 #[.string s] w fun e w' => TPost (tokensS (bl s)) w e w' := by
  by_cases hs : 4096 < s.size
  · have hd : decide ((4096 : Int) < (s.size : Int)) = true := by simp; omega
    have ht : tokensS (bl s) = .inr (73, 4096) := by unfold tokensS; rw [bl_len, if_pos hs]
    rw [ht]
    clear ht
    go_enter Tryd.func11, Tryd.ntmps11
    go_wp2_with fail
    refine bodyPost_ret (results_tc rfl _ _ w.heap.size 25 _ (0, 0) _ rfl (blk_new w (.cells #[.int .i64 73, .int .i64 4096] 25 (0, 0))) Tryd.underlying25 rfl (by kernel_rfl)) rfl ⟨rfl, (Below.refl _ _).alloc (Nat.le_refl _) _⟩
  · have hd : decide ((4096 : Int) < (s.size : Int)) = false := by simp; omega
    have hcut := fun (W : World) (hE : Erg W) => cut_calls s (by omega) W hE
    cases hl : lex (bl s) with
    | inl l =>
      have ht : tokensS (bl s) = .inl l := by unfold tokensS; rw [bl_len, if_neg hs, hl]
      rw [ht]
      rw [hl] at hcut
      have HC := Aside0.mk hcut
      have HE := Aside0.mk E
      clear ht hl hcut E
      go_enter Tryd.func11, Tryd.ntmps11
      go_wp2_with (go_at_call 27; refine (HC.out _ (HE.out.below ((Below.refl _ _).alloc (Nat.le_refl _) _))).mono ?_; rintro e w2 ⟨⟨v, he, hr⟩, hb⟩; subst he; have hn := blk_below (blk_new w (.cells #[.int .i64 0, .int .i64 0] 25 (0, 0))) hb; have HN := Aside0.mk hn; have hn2 := blk_alloc hn (.cells #[.int .i64 0, .int .i64 0] 25 (0, 0)); have HB := Aside0.mk hb; have HR := Aside0.mk hr; clear hb hr hn hn2)
      obtain ⟨G, hG⟩ : ∃ G, G = w2.heap.size := ⟨_, rfl⟩
      obtain ⟨W3, hW3⟩ : ∃ W3, W3 = w2.alloc (Obj.cells #[Value.int IntKind.i64 0, Value.int IntKind.i64 0] 25) := ⟨_, rfl⟩
      have hg := blk_new w2 (.cells #[.int .i64 0, .int .i64 0] 25 (0, 0))
      have HG : Aside0 (W3.heap[w.heap.size]? = some (.cells #[.int .i64 0, .int .i64 0] 25 (0, 0))) := ⟨by rw [hW3]; exact blk_alloc HN.out _⟩
      rw [← hG] at hg ⊢
      have D0 : Aside0 (W3.cell? ⟨G, 0, none⟩ = some (.int .i64 0)) := ⟨by rw [hW3]; exact blk_cell hg 0⟩
      have D1 : Aside0 (W3.cell? ⟨G, 1, none⟩ = some (.int .i64 0)) := ⟨by rw [hW3]; exact blk_cell hg 1⟩
      have HB3 : Aside0 (Below w.heap.size w W3) := ⟨by rw [hW3]; exact ((((Below.refl _ _).alloc (Nat.le_refl _) _).trans (below_le HB.out (by simp))).alloc (by have := HB.out.size; simp at this; omega) _)⟩
      obtain ⟨A, c, hv⟩ := Kd.R_slice HR.out
      rw [List.length_map] at hv
      subst hv
      have hlc : l.length ≤ c := by have := (Kd.R_reads' HR.out).2.1; exact this
      have HR3 : Aside0 (Kd.R k42 42 W3 (w.heap.size + 1) (fun _ => True) (.slice A l.length c) (l.map tokS)) := ⟨by rw [hW3]; exact Kd.R_lower (Kd.R_alloc HR.out _) (by simp)⟩
      rw [← hW3]
      clear hW3 hg HN HB HR HC hG
      refine start_ (n := 5) (S := fun w' => w'.cell? ⟨G, 0, none⟩ = some (.int .i64 0) ∧ w'.cell? ⟨G, 1, none⟩ = some (.int .i64 0)) (ds := [4]) #[false, false, false, false, false] (by kernel_rfl) rfl rfl ⟨(by exact D0.out), (by exact D1.out)⟩ (fun hHeld => ?_)
      refine pure_ (i := 0) (N := some 15) (v := ?_) (a' := ?_) #[true, false, false, false, false] rfl rfl (by kernel_rfl) (fun _ _ _ h => h) (Or.inl ⟨by rfl, ?_⟩) ?_ ?_
      rotate_left
      · intro w'
        go_simp
        with_reducible rfl
      rotate_left
      · simp only [Act.put, List.setIfInBounds_toArray, List.set_cons_zero, List.set_cons_succ, i64_w, i32_w]
        rfl
      refine take_ (i := 2) (N := some 17) (v := ?_) (a' := ?_) #[true, false, true, false, false] rfl rfl (by kernel_rfl) (fun _ _ _ h => h) (Or.inl ⟨by rfl, ?_⟩) hHeld ?_ ?_
      rotate_left
      · rintro w' ⟨s0, s1⟩
        go_simp
        with_reducible rfl
      rotate_left
      · simp only [Act.put, List.setIfInBounds_toArray, List.set_cons_zero, List.set_cons_succ, i64_w, i32_w]
        rfl
      refine one_ (i := 1) (N := some 16) #[true, true, true, false, false] rfl rfl (by kernel_rfl) (by decide) (fun K hK => ?_)
      refine goes_ Tryd.func28 (by kernel_rfl) rfl #[.slice A l.length c] (by rfl) rfl rfl (by simp only [List.map_toArray, List.map_cons, List.map_nil]; rfl) ?_
      with_reducible refine (clip_calls _ _ _ (by exact hlc) _).mono ?_
      rintro e w3 ⟨rfl, hw3⟩
      have HQ3 := Aside0.mk hw3
      clear hw3
      have hG3 : w3.heap[w.heap.size]? = some (.cells #[.int .i64 0, .int .i64 0] 25 (0, 0)) := by rw [HQ3.out]; exact blk_drew HG.out
      have e0 := blk_cell hG3 0
      have e1 := blk_cell hG3 1
      have f0 := fun i => blk_frozen hG3 i
      refine ⟨_, rfl, ?_⟩
      refine hK.out _ _ ⟨(by rw [HQ3.out]; exact D0.out), (by rw [HQ3.out]; exact D1.out)⟩ (fun hHeld => ?_)
      clear hK K
      refine norm_ (a' := ?_) ?_ ?_
      rotate_left
      · show Act.put _ (some 16) _ = _
        simp only [Act.put, List.setIfInBounds_toArray, List.set_cons_zero, List.set_cons_succ, i64_w, i32_w]
        rfl
      refine pure_ (i := 3) (N := some 2) (v := ?_) (a' := ?_) #[true, true, true, true, false] rfl rfl (by kernel_rfl) (fun _ _ _ h => h) (Or.inl ⟨by rfl, ?_⟩) ?_ ?_
      rotate_left
      · intro w'
        go_simp
        with_reducible rfl
      rotate_left
      · simp only [Act.put, List.setIfInBounds_toArray, List.set_cons_zero, List.set_cons_succ, i64_w, i32_w]
        rfl
      refine last_ (i := 4) (N := none) #[true, true, true, true, true] rfl rfl (by kernel_rfl) (by decide) (fun K hK => ?_)
      refine skip_ (w1 := ?_) (by rfl) rfl ?_ ?_
      rotate_left
      · go_simp
        rfl
      refine hK.out _ _ ?_
      clear hK K
      refine done_ (by kernel_rfl) ?_

      go_wp2
      refine cut_ret rfl w w3 _ _ _ _ _ _ hG3 rfl ⟨⟨A, c, rfl, ?_⟩, ?_⟩
      · exact Kd.R_lower (R_fault (R_fault (by rw [HQ3.out]; exact Kd.R_drew HR3.out) 0 _) 1 _) (Nat.le_succ _)
      · rw [HQ3.out]; exact (((below_drew HB3.out)).setCell (Nat.le_refl _) _).setCell (Nat.le_refl _) _
    | inr a =>
      have ht : tokensS (bl s) = .inr (70, a) := by unfold tokensS; rw [bl_len, if_neg hs, hl]
      rw [ht]
      rw [hl] at hcut
      have HC := Aside0.mk hcut
      have HE := Aside0.mk E
      clear ht hl hcut E
      have hlc : 0 ≤ 0 := Nat.le_refl 0
      go_enter Tryd.func11, Tryd.ntmps11
      go_wp2_with (go_at_call 27; refine (HC.out _ (HE.out.below ((Below.refl _ _).alloc (Nat.le_refl _) _))).mono ?_; rintro e w2 ⟨he, hb⟩; replace he : e = .returned (.tuple #[.slice none 0 0, .agg #[.int .i64 70, .int .i64 (a : Int)]]) := he; subst he; have hn := blk_below (blk_new w (.cells #[.int .i64 0, .int .i64 0] 25 (0, 0))) hb; have HN := Aside0.mk hn; have hn2 := blk_alloc hn (.cells #[.int .i64 0, .int .i64 0] 25 (0, 0)); have HB := Aside0.mk hb; clear hb hn hn2)
      obtain ⟨G, hG⟩ : ∃ G, G = w2.heap.size := ⟨_, rfl⟩
      obtain ⟨W3, hW3⟩ : ∃ W3, W3 = w2.alloc (Obj.cells #[Value.int IntKind.i64 70, Value.int IntKind.i64 (a : Int)] 25) := ⟨_, rfl⟩
      have hg := blk_new w2 (.cells #[.int .i64 70, .int .i64 (a : Int)] 25 (0, 0))
      have HG : Aside0 (W3.heap[w.heap.size]? = some (.cells #[.int .i64 0, .int .i64 0] 25 (0, 0))) := ⟨by rw [hW3]; exact blk_alloc HN.out _⟩
      rw [← hG] at hg ⊢
      have D0 : Aside0 (W3.cell? ⟨G, 0, none⟩ = some (.int .i64 70)) := ⟨by rw [hW3]; exact blk_cell hg 0⟩
      have D1 : Aside0 (W3.cell? ⟨G, 1, none⟩ = some (.int .i64 (a : Int))) := ⟨by rw [hW3]; exact blk_cell hg 1⟩
      have HB3 : Aside0 (Below w.heap.size w W3) := ⟨by rw [hW3]; exact ((((Below.refl _ _).alloc (Nat.le_refl _) _).trans (below_le HB.out (by simp))).alloc (by have := HB.out.size; simp at this; omega) _)⟩
      rw [← hW3]
      clear hW3 hg HN HB HC hG
      refine start_ (n := 5) (S := fun w' => w'.cell? ⟨G, 0, none⟩ = some (.int .i64 70) ∧ w'.cell? ⟨G, 1, none⟩ = some (.int .i64 (a : Int))) (ds := [4]) #[false, false, false, false, false] (by kernel_rfl) rfl rfl ⟨(by exact D0.out), (by exact D1.out)⟩ (fun hHeld => ?_)
      refine pure_ (i := 0) (N := some 15) (v := ?_) (a' := ?_) #[true, false, false, false, false] rfl rfl (by kernel_rfl) (fun _ _ _ h => h) (Or.inl ⟨by rfl, ?_⟩) ?_ ?_
      rotate_left
      · intro w'
        go_simp
        with_reducible rfl
      rotate_left
      · simp only [Act.put, List.setIfInBounds_toArray, List.set_cons_zero, List.set_cons_succ, i64_w, i32_w]
        rfl
      refine take_ (i := 2) (N := some 17) (v := ?_) (a' := ?_) #[true, false, true, false, false] rfl rfl (by kernel_rfl) (fun _ _ _ h => h) (Or.inl ⟨by rfl, ?_⟩) hHeld ?_ ?_
      rotate_left
      · rintro w' ⟨s0, s1⟩
        go_simp
        with_reducible rfl
      rotate_left
      · simp only [Act.put, List.setIfInBounds_toArray, List.set_cons_zero, List.set_cons_succ, i64_w, i32_w]
        rfl
      refine one_ (i := 1) (N := some 16) #[true, true, true, false, false] rfl rfl (by kernel_rfl) (by decide) (fun K hK => ?_)
      refine goes_ Tryd.func28 (by kernel_rfl) rfl #[.slice none 0 0] (by rfl) rfl rfl (by simp only [List.map_toArray, List.map_cons, List.map_nil]; rfl) ?_
      with_reducible refine (clip_calls _ _ _ (by exact hlc) _).mono ?_
      rintro e w3 ⟨rfl, hw3⟩
      have HQ3 := Aside0.mk hw3
      clear hw3
      have hG3 : w3.heap[w.heap.size]? = some (.cells #[.int .i64 0, .int .i64 0] 25 (0, 0)) := by rw [HQ3.out]; exact blk_drew HG.out
      have e0 := blk_cell hG3 0
      have e1 := blk_cell hG3 1
      have f0 := fun i => blk_frozen hG3 i
      refine ⟨_, rfl, ?_⟩
      refine hK.out _ _ ⟨(by rw [HQ3.out]; exact D0.out), (by rw [HQ3.out]; exact D1.out)⟩ (fun hHeld => ?_)
      clear hK K
      refine norm_ (a' := ?_) ?_ ?_
      rotate_left
      · show Act.put _ (some 16) _ = _
        simp only [Act.put, List.setIfInBounds_toArray, List.set_cons_zero, List.set_cons_succ, i64_w, i32_w]
        rfl
      refine pure_ (i := 3) (N := some 2) (v := ?_) (a' := ?_) #[true, true, true, true, false] rfl rfl (by kernel_rfl) (fun _ _ _ h => h) (Or.inl ⟨by rfl, ?_⟩) ?_ ?_
      rotate_left
      · intro w'
        go_simp
        with_reducible rfl
      rotate_left
      · simp only [Act.put, List.setIfInBounds_toArray, List.set_cons_zero, List.set_cons_succ, i64_w, i32_w]
        rfl
      refine last_ (i := 4) (N := none) #[true, true, true, true, true] rfl rfl (by kernel_rfl) (by decide) (fun K hK => ?_)
      refine skip_ (w1 := ?_) (by rfl) rfl ?_ ?_
      rotate_left
      · go_simp
        rfl
      refine hK.out _ _ ?_
      clear hK K
      refine done_ (by kernel_rfl) ?_

      go_wp2
      refine cut_ret rfl w w3 _ _ _ _ _ _ hG3 rfl ⟨rfl, ?_⟩
      rw [HQ3.out]; exact (((below_drew HB3.out)).setCell (Nat.le_refl _) _).setCell (Nat.le_refl _) _
end Go.Proofs.YtjibdaigclgmhaaDoor.LexW
