/- The walk of SymbolOwnLists: what the law computes over any number and any script of at most 1048576 steps. Conditions: none. -/
import Derived.Test.YtcnjdgafemgaeaaSymOwn
import Derived.Test.YtcnjdgafemgaeaaWalkSymbolPlays
import Derived.Outline
import Derived.Test.YtcnjdgafemgaeaaPSymbolOwnListsx1
namespace Go.Proofs.Ytcnjdgafemgaeaa.Sym
open Go.RowKit Go.Maps Go.WideMaps Go.Proofs.Ytcnjdgafemgaeaa.PSymbolFirst Go.Proofs.YtcnjdgafemgaeaaW.PrintWords Go.Proofs.YtcnjdgafemgaeaaW.PrintLast Go.Proofs.YtcnjdgafemgaeaaW.PrintMore
attribute [local go_sem] max2_int min2_int max_two min_two max_three min_three max_four min_four
set_option linter.unusedVariables false
set_option linter.unusedSimpArgs false
theorem head_at {w : World} {B : Nat} {ok : Nat → Prop} {A : Option Addr} {n c : Nat} {xs : List Head} (h : Kd.R kh 36 w B ok (.slice A n c) xs) (i : Nat) (hi : i < xs.length) : ∃ ad x, A = some ad ∧ xs[i]? = some x ∧ w.cell? (ad.add i) = some (.slice x.A x.n x.c) := by
  obtain ⟨h1, h2, h3⟩ := Kd.R_reads' h
  obtain ⟨ad, e, hc⟩ := (Kd.reads_of_C (enc := hv) (d := (⟨none, 0, 0⟩ : Head)) (h1 := fun _ => rfl) h3).2.2 (by omega)
  have hx := hc i (by omega)
  refine ⟨ad, xs[i], e, List.getElem?_eq_getElem hi, ?_⟩
  have e2 : xs.getD i ⟨none, 0, 0⟩ = xs[i] := by rw [List.getD_eq_getElem?_getD, List.getElem?_eq_getElem hi]; rfl
  first
    | exact hx
    | (rw [hx, e2]; rfl)
    | (rw [e2] at hx; exact hx)
theorem mark_at {w : World} {A : Option Addr} {n : Nat} {mk : ByteArray} (h : Kd.C Kd.string w A n (rep n mk)) (k : Nat) (hk : k < n) : ∃ ad, A = some ad ∧ w.cell? (ad.add k) = some (.string mk) := by
  obtain ⟨ad, e, hc⟩ := Kd.at_string h (k : Int) (by omega) (by omega)
  rw [Int.toNat_natCast] at hc
  refine ⟨ad, e, hc.trans ?_⟩
  unfold rdOf rep
  rw [Int.toNat_natCast, List.getD_eq_getElem?_getD, List.getElem?_replicate_of_lt hk]
  rfl
theorem Lists.below {B : Nat} {w : World} {g : Nat} {F : Nat → Prop} {st : Nat → St} {ok : Nat → Prop} {vL vM : Value} {Ls Ms : List Head} {cL cM : Nat} {wr : World} (h : Lists B w g F st ok vL vM Ls Ms cL cM wr) : Below B w wr := h.sh.below
set_option maxHeartbeats 8000000 in
set_option maxRecDepth 100000 in
theorem own_law (w : World) (A : Option Addr) (n c : Nat) (l : List StepT) (most : Int) (hl : l.length = n) (hA : StepsAt w A l) (hc : n ≤ c) (hn : n ≤ 1048576) :
    Calls Try.prog 12 #[.int .i64 most, .slice A n c] w fun e w' => e = .returned (.bool true) ∧ Below w.heap.size w w' := by
  have HA := Aside0.mk hA
  clear hA
  have HBG := Aside0.mk (begins_calls w.heap.size w (w.alloc (.cells #[.pointer none, .pointer none, .pointer none, .pointer none] 67 (0, 0))) w.heap.size most 9 (Nat.le_refl _) (below_alloc (Below.refl _ _) _) (Nat.le_refl _) (blk_new w _))
  go_enter Try.func12, Try.ntmps12
  go_wp2_with fail
  refine HBG.out.mono ?_; rintro e w1 ⟨rfl, st, ok, hS⟩
  have HS : Aside0 (∃ F st ok, Lists w.heap.size w w.heap.size F st ok (.slice none 0 0) (.slice none 0 0) [] [] 0 0 w1) := ⟨⟨fun _ => False, st, ok, hS, Kd.R_nil _ _ _ _ _, Kd.R_nil _ _ _ _ _, fun k hk => absurd hk (by simp [isOwn, Value.ownBlock]), fun k hk => absurd hk (by simp [isOwn, Value.ownBlock]), fun j h hj => absurd hj (by omega), fun j h hj => absurd hj (by omega), fun _ q => q.elim⟩⟩
  clear hS HBG
  go_wp2_with fail
  go_loopw [7, 8, 9] (fun vL vM i wr => ∃ (k : Nat) (Ls Ms : List Head), i = .int .i64 (k : Int) ∧ k ≤ n ∧ Aside0 (Ls.length = 2 * k) ∧ Aside0 (Ms.length = 2 * k) ∧ Aside0 (∃ F st ok, Lists w.heap.size w w.heap.size F st ok vL vM Ls Ms Ls.length Ms.length wr)) (fun _ _ i _ => n - (intOf i).toNat)
  case atStart => exact ⟨0, [], [], rfl, by omega, ⟨rfl⟩, ⟨rfl⟩, HS⟩
  case round =>
    clear HS
    obtain ⟨k, Ls, Ms, rfl, hk, HL1, HL2, HS⟩ := hrel
    by_cases hlt : k < n
    · have b1 : decide ((k : Int) < (n : Int)) = true := decide_eq_true (by omega)
      obtain ⟨F, st, ok, hS⟩ := HS.out
      obtain ⟨ad, rfl, ⟨s0, s1, s2, s3⟩, hss⟩ := HA.out.at_ k (by omega)
      have HAT := Aside0.mk s1
      generalize l[k]'(by omega) = q at *
      obtain ⟨K, At, N, s⟩ := q
      have s0 := pw_cell_below_le hS.below s0
      have s1 := pw_cell_below_le hS.below s1
      have s2 := pw_cell_below_le hS.below s2
      have s3 := pw_cell_below_le hS.below s3
      have j0 : (0 : Int) ≤ (k : Int) := by omega
      have j1 : (k : Int) < (n : Int) := by omega
      have HPL := Aside0.mk (fun W (h : OnShelf w.heap.size w w.heap.size st ok W) => plays_calls w.heap.size w W w.heap.size st ok (Nat.le_refl _) h K At N s hss)
      have HS1 := Aside0.mk hS
      clear hS HS
      go_wp2_with fail
      refine (HPL.out _ HS1.out.sh).mono ?_; rintro e w2 ⟨rfl, hpl⟩
      obtain ⟨st2, ok2, hS2⟩ := HS1.out.played (Nat.le_refl _) hpl
      have HS2 := Aside0.mk hS2.rise
      clear hpl hS2 HPL HS1 s0 s1 s2 s3
      have s1 := pw_cell_below_le HS2.out.below HAT.out
      obtain ⟨p, hp, hpp⟩ := place_is At
      have HPP := Aside0.mk hpp
      obtain ⟨x, y, a, b, hsh, _⟩ := HS2.out.sh
      have HSH := Aside0.mk hsh
      have hcell := hsh.cells p hp
      have c0 := hcell.1
      have c1 := hcell.2
      have i0 : (0 : Int) ≤ (p : Int) := by omega
      have i1 : (p : Int) < 2 := by omega
      have i2 : (p : Int).toNat = p := by omega
      have HP2 := Aside0.mk (hsh.pair p hp)
      clear hpp hsh hcell
      go_wp2_with fail
      refine start_ (n := 13) (S := fun w' => w'.cell? ⟨(ad.add (k * 4)).block, (ad.add (k * 4)).off + 1, none⟩ = some (.int .i64 At) ∧ w'.cell? ⟨w.heap.size, p, none⟩ = some (.pointer (x p))) (ds := [11]) #[false, false, false, false, false, false, false, false, false, false, false, false, false] (by kernel_rfl) rfl rfl ⟨(by exact s1), (by exact c0)⟩ (fun hHeld => ?_)
      refine pure_ (i := 0) (N := some 36) (v := ?_) (a' := ?_) #[true, false, false, false, false, false, false, false, false, false, false, false, false] rfl rfl (by kernel_rfl) (fun _ _ _ h => h) (Or.inl ⟨by rfl, ?_⟩) ?_ ?_
      rotate_left
      · intro w'
        go_simp
        with_reducible rfl
      rotate_left
      · simp only [Act.put, List.setIfInBounds_toArray, List.set_cons_zero, List.set_cons_succ, i64_w, i32_w]
        rfl
      refine pure_ (i := 1) (N := some 37) (v := ?_) (a' := ?_) #[true, true, false, false, false, false, false, false, false, false, false, false, false] rfl rfl (by kernel_rfl) (fun _ _ _ h => h) (Or.inl ⟨by rfl, ?_⟩) ?_ ?_
      rotate_left
      · intro w'
        go_simp
        with_reducible rfl
      rotate_left
      · simp only [Act.put, List.setIfInBounds_toArray, List.set_cons_zero, List.set_cons_succ, i64_w, i32_w]
        rfl
      refine pure_ (i := 2) (N := some 38) (v := ?_) (a' := ?_) #[true, true, true, false, false, false, false, false, false, false, false, false, false] rfl rfl (by kernel_rfl) (fun _ _ _ h => h) (Or.inl ⟨by rfl, ?_⟩) ?_ ?_
      rotate_left
      · intro w'
        go_simp
        with_reducible rfl
      rotate_left
      · simp only [Act.put, List.setIfInBounds_toArray, List.set_cons_zero, List.set_cons_succ, i64_w, i32_w]
        rfl
      refine pure_ (i := 3) (N := some 39) (v := ?_) (a' := ?_) #[true, true, true, true, false, false, false, false, false, false, false, false, false] rfl rfl (by kernel_rfl) (fun _ _ _ h => h) (Or.inl ⟨by rfl, ?_⟩) ?_ ?_
      rotate_left
      · intro w'
        go_simp
        with_reducible rfl
      rotate_left
      · simp only [Act.put, List.setIfInBounds_toArray, List.set_cons_zero, List.set_cons_succ, i64_w, i32_w]
        rfl
      refine pure_ (i := 4) (N := some 40) (v := ?_) (a' := ?_) #[true, true, true, true, true, false, false, false, false, false, false, false, false] rfl rfl (by kernel_rfl) (fun _ _ _ h => h) (Or.inl ⟨by rfl, ?_⟩) ?_ ?_
      rotate_left
      · intro w'
        go_simp
        with_reducible rfl
      rotate_left
      · simp only [Act.put, List.setIfInBounds_toArray, List.set_cons_zero, List.set_cons_succ, i64_w, i32_w]
        rfl
      refine pure_ (i := 7) (N := some 43) (v := ?_) (a' := ?_) #[true, true, true, true, true, false, false, true, false, false, false, false, false] rfl rfl (by kernel_rfl) (fun _ _ _ h => h) (Or.inl ⟨by rfl, ?_⟩) ?_ ?_
      rotate_left
      · intro w'
        go_simp
        with_reducible rfl
      rotate_left
      · simp only [Act.put, List.setIfInBounds_toArray, List.set_cons_zero, List.set_cons_succ, i64_w, i32_w]
        rfl
      refine pure_ (i := 8) (N := some 44) (v := ?_) (a' := ?_) #[true, true, true, true, true, false, false, true, true, false, false, false, false] rfl rfl (by kernel_rfl) (fun _ _ _ h => h) (Or.inl ⟨by rfl, ?_⟩) ?_ ?_
      rotate_left
      · intro w'
        go_simp
        with_reducible rfl
      rotate_left
      · simp only [Act.put, List.setIfInBounds_toArray, List.set_cons_zero, List.set_cons_succ, i64_w, i32_w]
        rfl
      refine take_ (i := 5) (N := some 41) (v := ?_) (a' := ?_) #[true, true, true, true, true, true, false, true, true, false, false, false, false] rfl rfl (by kernel_rfl) (fun _ _ _ h => h) (Or.inl ⟨by rfl, ?_⟩) hHeld ?_ ?_
      rotate_left
      · rintro w' ⟨s0, s1⟩
        go_simp
        with_reducible rfl
      rotate_left
      · simp only [Act.put, List.setIfInBounds_toArray, List.set_cons_zero, List.set_cons_succ, i64_w, i32_w]
        rfl
      refine one_ (i := 6) (N := some 42) #[true, true, true, true, true, true, true, true, true, false, false, false, false] rfl rfl (by kernel_rfl) (by decide) (fun K hK => ?_)
      refine goes_ Try.func56 (by kernel_rfl) rfl #[.int .i64 At] (by rfl) rfl rfl (by simp only [List.map_toArray, List.map_cons, List.map_nil]; rfl) ?_
      with_reducible refine (PSymbolPlays.kilnlaw6_place.calls At p _ HPP.out).mono ?_
      rintro e w' ⟨rfl, ⟨nd13, rfl⟩⟩
      refine ⟨_, rfl, ?_⟩
      refine hK.out _ _ ⟨(by exact hHeld.1), (by exact hHeld.2)⟩ (fun hHeld => ?_)
      clear hK K
      refine norm_ (a' := ?_) ?_ ?_
      rotate_left
      · show Act.put _ (some 42) _ = _
        simp only [Act.put, List.setIfInBounds_toArray, List.set_cons_zero, List.set_cons_succ, i64_w, i32_w]
        rfl
      refine pure_ (i := 9) (N := some 45) (v := ?_) (a' := ?_) #[true, true, true, true, true, true, true, true, true, true, false, false, false] rfl rfl (by kernel_rfl) (fun _ _ _ h => h) (Or.inl ⟨by rfl, ?_⟩) ?_ ?_
      rotate_left
      · intro w'
        go_simp
        with_reducible rfl
      rotate_left
      · simp only [Act.put, List.setIfInBounds_toArray, List.set_cons_zero, List.set_cons_succ, i64_w, i32_w]
        rfl
      refine take_ (i := 10) (N := some 46) (v := ?_) (a' := ?_) #[true, true, true, true, true, true, true, true, true, true, true, false, false] rfl rfl (by kernel_rfl) (fun _ _ _ h => h) (Or.inl ⟨by rfl, ?_⟩) hHeld ?_ ?_
      rotate_left
      · rintro w' ⟨s0, s1⟩
        go_simp
        with_reducible rfl
      rotate_left
      · simp only [Act.put, List.setIfInBounds_toArray, List.set_cons_zero, List.set_cons_succ, i64_w, i32_w]
        rfl
      refine last_ (i := 11) (N := some 47) #[true, true, true, true, true, true, true, true, true, true, true, true, false] rfl rfl (by kernel_rfl) (by decide) (fun K hK => ?_)
      refine goes_ Try.func41 (by kernel_rfl) rfl #[.pointer (x p)] (by rfl) rfl rfl (by simp only [List.map_toArray, List.map_cons, List.map_nil]; rfl) ?_
      with_reducible refine (ptAll _ (a p) (x p) (st2 p) (by exact HP2.out.t.move (Nat.le_refl _) (fun _ _ => rfl))).mono ?_
      rintro e w3 ⟨vl, rfl, hRl, hBl⟩
      refine ⟨_, rfl, ?_⟩
      refine hK.out _ _ ?_
      clear hK K
      refine norm_ (a' := ?_) ?_ ?_
      rotate_left
      · show Act.put _ (some 47) _ = _
        simp only [Act.put, List.setIfInBounds_toArray, List.set_cons_zero, List.set_cons_succ, i64_w, i32_w]
        rfl
      refine pure_ (i := 12) (N := some 10) (v := ?_) (a' := ?_) #[true, true, true, true, true, true, true, true, true, true, true, true, true] rfl rfl (by kernel_rfl) (fun _ _ _ h => h) (Or.inl ⟨by rfl, ?_⟩) ?_ ?_
      rotate_left
      · intro w'
        go_simp
        with_reducible rfl
      rotate_left
      · simp only [Act.put, List.setIfInBounds_toArray, List.set_cons_zero, List.set_cons_succ, i64_w, i32_w]
        rfl
      refine done_ (by kernel_rfl) ?_

      have hb3 : Below w2.heap.size w2 w3 := by first | exact hBl | exact below_weaken (w0 := w2) (pw_below_drewN (below_drew (Below.refl _ _)) _) (Nat.le_refl _) hBl | exact below_weaken (w0 := w2) (pw_below_drewN (Below.refl _ _) _) (Nat.le_refl _) hBl
      have HB3 := Aside0.mk hb3
      have HRl : Aside0 (Kd.R Kd.string 9 w3 w2.heap.size (isOwn vl) vl (textsOf (st2 p))) := ⟨R_isOwn (by exact hRl)⟩
      have HP3 := Aside0.mk (HP2.out.step (Nat.le_refl _) hb3)
      have HS3 := Aside0.mk (HS2.out.step (Nat.le_refl _) hb3)
      replace s1 := pw_cell_below_le hb3 s1
      replace c0 := pw_cell_below_le hb3 c0
      replace c1 := pw_cell_below_le hb3 c1
      clear hBl hRl hb3 hHeld
      go_wp2_with fail
      refine start_ (n := 13) (S := fun w' => w'.cell? ⟨(ad.add (k * 4)).block, (ad.add (k * 4)).off + 1, none⟩ = some (.int .i64 At) ∧ w'.cell? ⟨w.heap.size, p, none⟩ = some (.pointer (x p))) (ds := [11]) #[false, false, false, false, false, false, false, false, false, false, false, false, false] (by kernel_rfl) rfl rfl ⟨(by exact s1), (by exact c0)⟩ (fun hHeld => ?_)
      refine pure_ (i := 0) (N := some 48) (v := ?_) (a' := ?_) #[true, false, false, false, false, false, false, false, false, false, false, false, false] rfl rfl (by kernel_rfl) (fun _ _ _ h => h) (Or.inl ⟨by rfl, ?_⟩) ?_ ?_
      rotate_left
      · intro w'
        go_simp
        with_reducible rfl
      rotate_left
      · simp only [Act.put, List.setIfInBounds_toArray, List.set_cons_zero, List.set_cons_succ, i64_w, i32_w]
        rfl
      refine pure_ (i := 1) (N := some 49) (v := ?_) (a' := ?_) #[true, true, false, false, false, false, false, false, false, false, false, false, false] rfl rfl (by kernel_rfl) (fun _ _ _ h => h) (Or.inl ⟨by rfl, ?_⟩) ?_ ?_
      rotate_left
      · intro w'
        go_simp
        with_reducible rfl
      rotate_left
      · simp only [Act.put, List.setIfInBounds_toArray, List.set_cons_zero, List.set_cons_succ, i64_w, i32_w]
        rfl
      refine pure_ (i := 2) (N := some 50) (v := ?_) (a' := ?_) #[true, true, true, false, false, false, false, false, false, false, false, false, false] rfl rfl (by kernel_rfl) (fun _ _ _ h => h) (Or.inl ⟨by rfl, ?_⟩) ?_ ?_
      rotate_left
      · intro w'
        go_simp
        with_reducible rfl
      rotate_left
      · simp only [Act.put, List.setIfInBounds_toArray, List.set_cons_zero, List.set_cons_succ, i64_w, i32_w]
        rfl
      refine pure_ (i := 3) (N := some 51) (v := ?_) (a' := ?_) #[true, true, true, true, false, false, false, false, false, false, false, false, false] rfl rfl (by kernel_rfl) (fun _ _ _ h => h) (Or.inl ⟨by rfl, ?_⟩) ?_ ?_
      rotate_left
      · intro w'
        go_simp
        with_reducible rfl
      rotate_left
      · simp only [Act.put, List.setIfInBounds_toArray, List.set_cons_zero, List.set_cons_succ, i64_w, i32_w]
        rfl
      refine pure_ (i := 4) (N := some 52) (v := ?_) (a' := ?_) #[true, true, true, true, true, false, false, false, false, false, false, false, false] rfl rfl (by kernel_rfl) (fun _ _ _ h => h) (Or.inl ⟨by rfl, ?_⟩) ?_ ?_
      rotate_left
      · intro w'
        go_simp
        with_reducible rfl
      rotate_left
      · simp only [Act.put, List.setIfInBounds_toArray, List.set_cons_zero, List.set_cons_succ, i64_w, i32_w]
        rfl
      refine pure_ (i := 7) (N := some 55) (v := ?_) (a' := ?_) #[true, true, true, true, true, false, false, true, false, false, false, false, false] rfl rfl (by kernel_rfl) (fun _ _ _ h => h) (Or.inl ⟨by rfl, ?_⟩) ?_ ?_
      rotate_left
      · intro w'
        go_simp
        with_reducible rfl
      rotate_left
      · simp only [Act.put, List.setIfInBounds_toArray, List.set_cons_zero, List.set_cons_succ, i64_w, i32_w]
        rfl
      refine pure_ (i := 8) (N := some 56) (v := ?_) (a' := ?_) #[true, true, true, true, true, false, false, true, true, false, false, false, false] rfl rfl (by kernel_rfl) (fun _ _ _ h => h) (Or.inl ⟨by rfl, ?_⟩) ?_ ?_
      rotate_left
      · intro w'
        go_simp
        with_reducible rfl
      rotate_left
      · simp only [Act.put, List.setIfInBounds_toArray, List.set_cons_zero, List.set_cons_succ, i64_w, i32_w]
        rfl
      refine take_ (i := 5) (N := some 53) (v := ?_) (a' := ?_) #[true, true, true, true, true, true, false, true, true, false, false, false, false] rfl rfl (by kernel_rfl) (fun _ _ _ h => h) (Or.inl ⟨by rfl, ?_⟩) hHeld ?_ ?_
      rotate_left
      · rintro w' ⟨s0, s1⟩
        go_simp
        with_reducible rfl
      rotate_left
      · simp only [Act.put, List.setIfInBounds_toArray, List.set_cons_zero, List.set_cons_succ, i64_w, i32_w]
        rfl
      refine one_ (i := 6) (N := some 54) #[true, true, true, true, true, true, true, true, true, false, false, false, false] rfl rfl (by kernel_rfl) (by decide) (fun K hK => ?_)
      refine goes_ Try.func56 (by kernel_rfl) rfl #[.int .i64 At] (by rfl) rfl rfl (by simp only [List.map_toArray, List.map_cons, List.map_nil]; rfl) ?_
      with_reducible refine (PSymbolPlays.kilnlaw6_place.calls At p _ HPP.out).mono ?_
      rintro e w' ⟨rfl, ⟨nd14, rfl⟩⟩
      refine ⟨_, rfl, ?_⟩
      refine hK.out _ _ ⟨(by exact hHeld.1), (by exact hHeld.2)⟩ (fun hHeld => ?_)
      clear hK K
      refine norm_ (a' := ?_) ?_ ?_
      rotate_left
      · show Act.put _ (some 54) _ = _
        simp only [Act.put, List.setIfInBounds_toArray, List.set_cons_zero, List.set_cons_succ, i64_w, i32_w]
        rfl
      refine pure_ (i := 9) (N := some 57) (v := ?_) (a' := ?_) #[true, true, true, true, true, true, true, true, true, true, false, false, false] rfl rfl (by kernel_rfl) (fun _ _ _ h => h) (Or.inl ⟨by rfl, ?_⟩) ?_ ?_
      rotate_left
      · intro w'
        go_simp
        with_reducible rfl
      rotate_left
      · simp only [Act.put, List.setIfInBounds_toArray, List.set_cons_zero, List.set_cons_succ, i64_w, i32_w]
        rfl
      refine take_ (i := 10) (N := some 58) (v := ?_) (a' := ?_) #[true, true, true, true, true, true, true, true, true, true, true, false, false] rfl rfl (by kernel_rfl) (fun _ _ _ h => h) (Or.inl ⟨by rfl, ?_⟩) hHeld ?_ ?_
      rotate_left
      · rintro w' ⟨s0, s1⟩
        go_simp
        with_reducible rfl
      rotate_left
      · simp only [Act.put, List.setIfInBounds_toArray, List.set_cons_zero, List.set_cons_succ, i64_w, i32_w]
        rfl
      refine last_ (i := 11) (N := some 59) #[true, true, true, true, true, true, true, true, true, true, true, true, false] rfl rfl (by kernel_rfl) (by decide) (fun K hK => ?_)
      refine goes_ Try.func41 (by kernel_rfl) rfl #[.pointer (x p)] (by rfl) rfl rfl (by simp only [List.map_toArray, List.map_cons, List.map_nil]; rfl) ?_
      with_reducible refine (ptAll _ (a p) (x p) (st2 p) (by exact HP3.out.t.move (Nat.le_refl _) (fun _ _ => rfl))).mono ?_
      rintro e w4 ⟨vt, rfl, hRt, hBt⟩
      refine ⟨_, rfl, ?_⟩
      refine hK.out _ _ ?_
      clear hK K
      refine norm_ (a' := ?_) ?_ ?_
      rotate_left
      · show Act.put _ (some 59) _ = _
        simp only [Act.put, List.setIfInBounds_toArray, List.set_cons_zero, List.set_cons_succ, i64_w, i32_w]
        rfl
      refine pure_ (i := 12) (N := some 11) (v := ?_) (a' := ?_) #[true, true, true, true, true, true, true, true, true, true, true, true, true] rfl rfl (by kernel_rfl) (fun _ _ _ h => h) (Or.inl ⟨by rfl, ?_⟩) ?_ ?_
      rotate_left
      · intro w'
        go_simp
        with_reducible rfl
      rotate_left
      · simp only [Act.put, List.setIfInBounds_toArray, List.set_cons_zero, List.set_cons_succ, i64_w, i32_w]
        rfl
      refine done_ (by kernel_rfl) ?_

      have hb4 : Below w3.heap.size w3 w4 := by first | exact hBt | exact below_weaken (w0 := w3) (pw_below_drewN (below_drew (Below.refl _ _)) _) (Nat.le_refl _) hBt | exact below_weaken (w0 := w3) (pw_below_drewN (Below.refl _ _) _) (Nat.le_refl _) hBt
      have HB4 := Aside0.mk hb4
      have HRt : Aside0 (Kd.R Kd.string 9 w4 w3.heap.size (isOwn vt) vt (textsOf (st2 p))) := ⟨R_isOwn (by exact hRt)⟩
      have HP4 := Aside0.mk (HP3.out.step (Nat.le_refl _) hb4)
      have HS4 := Aside0.mk (HS3.out.step (Nat.le_refl _) hb4)
      have HRl4 := Aside0.mk (Kd.R_below HRl.out hb4)
      replace s1 := pw_cell_below_le hb4 s1
      replace c0 := pw_cell_below_le hb4 c0
      replace c1 := pw_cell_below_le hb4 c1
      clear hBt hRt hb4 hHeld
      go_wp2_with fail
      refine start_ (n := 13) (S := fun w' => w'.cell? ⟨(ad.add (k * 4)).block, (ad.add (k * 4)).off + 1, none⟩ = some (.int .i64 At) ∧ w'.cell? ⟨w.heap.size, 2 + p, none⟩ = some (.pointer (y p))) (ds := [11]) #[false, false, false, false, false, false, false, false, false, false, false, false, false] (by kernel_rfl) rfl rfl ⟨(by exact s1), (by exact c1)⟩ (fun hHeld => ?_)
      refine pure_ (i := 0) (N := some 60) (v := ?_) (a' := ?_) #[true, false, false, false, false, false, false, false, false, false, false, false, false] rfl rfl (by kernel_rfl) (fun _ _ _ h => h) (Or.inl ⟨by rfl, ?_⟩) ?_ ?_
      rotate_left
      · intro w'
        go_simp
        with_reducible rfl
      rotate_left
      · simp only [Act.put, List.setIfInBounds_toArray, List.set_cons_zero, List.set_cons_succ, i64_w, i32_w]
        rfl
      refine pure_ (i := 1) (N := some 61) (v := ?_) (a' := ?_) #[true, true, false, false, false, false, false, false, false, false, false, false, false] rfl rfl (by kernel_rfl) (fun _ _ _ h => h) (Or.inl ⟨by rfl, ?_⟩) ?_ ?_
      rotate_left
      · intro w'
        go_simp
        with_reducible rfl
      rotate_left
      · simp only [Act.put, List.setIfInBounds_toArray, List.set_cons_zero, List.set_cons_succ, i64_w, i32_w]
        rfl
      refine pure_ (i := 2) (N := some 62) (v := ?_) (a' := ?_) #[true, true, true, false, false, false, false, false, false, false, false, false, false] rfl rfl (by kernel_rfl) (fun _ _ _ h => h) (Or.inl ⟨by rfl, ?_⟩) ?_ ?_
      rotate_left
      · intro w'
        go_simp
        with_reducible rfl
      rotate_left
      · simp only [Act.put, List.setIfInBounds_toArray, List.set_cons_zero, List.set_cons_succ, i64_w, i32_w]
        rfl
      refine pure_ (i := 3) (N := some 63) (v := ?_) (a' := ?_) #[true, true, true, true, false, false, false, false, false, false, false, false, false] rfl rfl (by kernel_rfl) (fun _ _ _ h => h) (Or.inl ⟨by rfl, ?_⟩) ?_ ?_
      rotate_left
      · intro w'
        go_simp
        with_reducible rfl
      rotate_left
      · simp only [Act.put, List.setIfInBounds_toArray, List.set_cons_zero, List.set_cons_succ, i64_w, i32_w]
        rfl
      refine pure_ (i := 4) (N := some 64) (v := ?_) (a' := ?_) #[true, true, true, true, true, false, false, false, false, false, false, false, false] rfl rfl (by kernel_rfl) (fun _ _ _ h => h) (Or.inl ⟨by rfl, ?_⟩) ?_ ?_
      rotate_left
      · intro w'
        go_simp
        with_reducible rfl
      rotate_left
      · simp only [Act.put, List.setIfInBounds_toArray, List.set_cons_zero, List.set_cons_succ, i64_w, i32_w]
        rfl
      refine pure_ (i := 7) (N := some 67) (v := ?_) (a' := ?_) #[true, true, true, true, true, false, false, true, false, false, false, false, false] rfl rfl (by kernel_rfl) (fun _ _ _ h => h) (Or.inl ⟨by rfl, ?_⟩) ?_ ?_
      rotate_left
      · intro w'
        go_simp
        with_reducible rfl
      rotate_left
      · simp only [Act.put, List.setIfInBounds_toArray, List.set_cons_zero, List.set_cons_succ, i64_w, i32_w]
        rfl
      refine pure_ (i := 8) (N := some 68) (v := ?_) (a' := ?_) #[true, true, true, true, true, false, false, true, true, false, false, false, false] rfl rfl (by kernel_rfl) (fun _ _ _ h => h) (Or.inl ⟨by rfl, ?_⟩) ?_ ?_
      rotate_left
      · intro w'
        go_simp
        with_reducible rfl
      rotate_left
      · simp only [Act.put, List.setIfInBounds_toArray, List.set_cons_zero, List.set_cons_succ, i64_w, i32_w]
        rfl
      refine take_ (i := 5) (N := some 65) (v := ?_) (a' := ?_) #[true, true, true, true, true, true, false, true, true, false, false, false, false] rfl rfl (by kernel_rfl) (fun _ _ _ h => h) (Or.inl ⟨by rfl, ?_⟩) hHeld ?_ ?_
      rotate_left
      · rintro w' ⟨s0, s1⟩
        go_simp
        with_reducible rfl
      rotate_left
      · simp only [Act.put, List.setIfInBounds_toArray, List.set_cons_zero, List.set_cons_succ, i64_w, i32_w]
        rfl
      refine one_ (i := 6) (N := some 66) #[true, true, true, true, true, true, true, true, true, false, false, false, false] rfl rfl (by kernel_rfl) (by decide) (fun K hK => ?_)
      refine goes_ Try.func56 (by kernel_rfl) rfl #[.int .i64 At] (by rfl) rfl rfl (by simp only [List.map_toArray, List.map_cons, List.map_nil]; rfl) ?_
      with_reducible refine (PSymbolPlays.kilnlaw6_place.calls At p _ HPP.out).mono ?_
      rintro e w' ⟨rfl, ⟨nd15, rfl⟩⟩
      refine ⟨_, rfl, ?_⟩
      refine hK.out _ _ ⟨(by exact hHeld.1), (by exact hHeld.2)⟩ (fun hHeld => ?_)
      clear hK K
      refine norm_ (a' := ?_) ?_ ?_
      rotate_left
      · show Act.put _ (some 66) _ = _
        simp only [Act.put, List.setIfInBounds_toArray, List.set_cons_zero, List.set_cons_succ, i64_w, i32_w]
        rfl
      refine pure_ (i := 9) (N := some 69) (v := ?_) (a' := ?_) #[true, true, true, true, true, true, true, true, true, true, false, false, false] rfl rfl (by kernel_rfl) (fun _ _ _ h => h) (Or.inl ⟨by rfl, ?_⟩) ?_ ?_
      rotate_left
      · intro w'
        go_simp
        with_reducible rfl
      rotate_left
      · simp only [Act.put, List.setIfInBounds_toArray, List.set_cons_zero, List.set_cons_succ, i64_w, i32_w]
        rfl
      refine take_ (i := 10) (N := some 70) (v := ?_) (a' := ?_) #[true, true, true, true, true, true, true, true, true, true, true, false, false] rfl rfl (by kernel_rfl) (fun _ _ _ h => h) (Or.inl ⟨by rfl, ?_⟩) hHeld ?_ ?_
      rotate_left
      · rintro w' ⟨s0, s1⟩
        go_simp
        with_reducible rfl
      rotate_left
      · simp only [Act.put, List.setIfInBounds_toArray, List.set_cons_zero, List.set_cons_succ, i64_w, i32_w]
        rfl
      refine last_ (i := 11) (N := some 71) #[true, true, true, true, true, true, true, true, true, true, true, true, false] rfl rfl (by kernel_rfl) (by decide) (fun K hK => ?_)
      refine goes_ Try.func42 (by kernel_rfl) rfl #[.pointer (y p)] (by rfl) rfl rfl (by simp only [List.map_toArray, List.map_cons, List.map_nil]; rfl) ?_
      with_reducible refine (prAll _ (b p) (y p) (st2 p) (by exact HP4.out.r.move (Nat.le_refl _) (fun _ _ => rfl))).mono ?_
      rintro e w5 ⟨vw, rfl, hRw, hBw⟩
      refine ⟨_, rfl, ?_⟩
      refine hK.out _ _ ?_
      clear hK K
      refine norm_ (a' := ?_) ?_ ?_
      rotate_left
      · show Act.put _ (some 71) _ = _
        simp only [Act.put, List.setIfInBounds_toArray, List.set_cons_zero, List.set_cons_succ, i64_w, i32_w]
        rfl
      refine pure_ (i := 12) (N := some 12) (v := ?_) (a' := ?_) #[true, true, true, true, true, true, true, true, true, true, true, true, true] rfl rfl (by kernel_rfl) (fun _ _ _ h => h) (Or.inl ⟨by rfl, ?_⟩) ?_ ?_
      rotate_left
      · intro w'
        go_simp
        with_reducible rfl
      rotate_left
      · simp only [Act.put, List.setIfInBounds_toArray, List.set_cons_zero, List.set_cons_succ, i64_w, i32_w]
        rfl
      refine done_ (by kernel_rfl) ?_

      have hb5 : Below w4.heap.size w4 w5 := by first | exact hBw | exact below_weaken (w0 := w4) (pw_below_drewN (below_drew (Below.refl _ _)) _) (Nat.le_refl _) hBw | exact below_weaken (w0 := w4) (pw_below_drewN (Below.refl _ _) _) (Nat.le_refl _) hBw
      have HB5 := Aside0.mk hb5
      have HRw : Aside0 (Kd.R Kd.string 9 w5 w4.heap.size (isOwn vw) vw (textsOf (st2 p))) := ⟨R_isOwn (by exact hRw)⟩
      have HS5 := Aside0.mk (HS4.out.step (Nat.le_refl _) hb5)
      have HRl5 := Aside0.mk (Kd.R_below HRl4.out hb5)
      have HRt5 := Aside0.mk (Kd.R_below HRt.out hb5)
      clear hBw hRw hb5 hHeld s1 c0 c1
      go_wp2_with fail
      have hsm := texts_small HP2.out.t
      generalize hT : textsOf (st2 p) = T at *
      clear hT
      obtain ⟨Al, cl, rfl, kl, hCl⟩ := Kd.R_reads HRl5.out
      obtain ⟨At', ct, rfl, kt, hCt⟩ := Kd.R_reads HRt5.out
      obtain ⟨Aw, cw, rfl, kw, hCw⟩ := Kd.R_reads HRw.out
      obtain ⟨AL, cL, rfl⟩ := Kd.R_slice HS5.out.L
      obtain ⟨AM, cM, rfl⟩ := Kd.R_slice HS5.out.M
      have HCw := Aside0.mk hCw
      have HCt := Aside0.mk hCt
      have HCl := Aside0.mk hCl
      have HKl : Aside0 (∀ k, isOwn (.slice Al T.length cl) k → w2.heap.size ≤ k ∧ k < w3.heap.size) := ⟨fun k hk => ⟨Kd.R_base HRl.out k hk, Kd.R_lt HRl.out k hk⟩⟩
      have HKt : Aside0 (∀ k, isOwn (.slice At' T.length ct) k → w3.heap.size ≤ k ∧ k < w4.heap.size) := ⟨fun k hk => ⟨Kd.R_base HRt.out k hk, Kd.R_lt HRt.out k hk⟩⟩
      have HKw : Aside0 (∀ k, isOwn (.slice Aw T.length cw) k → w4.heap.size ≤ k ∧ k < w5.heap.size) := ⟨fun k hk => ⟨Kd.R_base HRw.out k hk, Kd.R_lt HRw.out k hk⟩⟩
      have hgap : Aside0 (w2.heap.size ≤ w3.heap.size ∧ w3.heap.size ≤ w4.heap.size ∧ w4.heap.size ≤ w5.heap.size) := ⟨⟨HB3.out.size, HB4.out.size, HB5.out.size⟩⟩
      have hlenL : Ls.length ≤ 2097152 := by have := HL1.out; omega
      have hlenM : Ms.length ≤ 2097152 := by have := HL2.out; omega
      have HB2 := Aside0.mk HS2.out.lt
      have HN2 := Aside0.mk HS2.out.below.size
      clear hCw hCt hCl HP3 HP4 HS3 HS4 HRl HRt HRl4 HP2 HS2 HSH HPP HB3 HB4 HB5
      refine (same_n _ Al Aw _ _ cl cw T rfl rfl (by exact HCl.out) (by exact kl) (by exact HCw.out) (by exact kw)).mono ?_; rintro e w' ⟨rfl, ⟨n1, rfl⟩⟩
      go_wp2_with fail
      refine (same_n _ At' Aw _ _ ct cw T rfl rfl (by exact Kd.C_drewN HCt.out _) (by exact kt) (by exact Kd.C_drewN HCw.out _) (by exact kw)).mono ?_; rintro e w' ⟨rfl, ⟨n2, rfl⟩⟩
      clear HCl HCt
      have HS6 := Aside0.mk (HS5.out.drewN (Nat.le_refl _) (n1 + n2))
      have hN6 : w.heap.size ≤ w5.heap.size := HS5.out.below.size
      clear HS5
      go_wp2_with (at_builtin; refine Kd.R_append kh (w0 := w) w.heap.size rfl (.tmp 82) (.tmp 84) 72 36 (.slice none 0 0) 24 rfl Try.underlying72 info36 rfl (by decide) (by omega) (.slice AL Ls.length cL) Ls ⟨Al, T.length, cl⟩ [.slice Al T.length cl] (fun i => isOwn (.slice AL Ls.length cL) i ∨ w5.heap.size ≤ i) (fun _ => False) rfl rfl rfl (fun _ hk => hk.elim) (fun _ hk => .inr (by exact hk)) (by exact Kd.R_mono HS6.out.L (fun _ hk => .inl hk)) (by exact HS6.out.below) (by exact hN6) (by omega) ?_; intro v6 w6 hr6 hb6 hg6 hat6; have HAP := Aside0.mk (HS6.out.appL (Nat.le_refl _) (Nat.le_refl _) hr6 hg6 hat6); clear hr6 hb6 hg6 hat6)
      have hbad0 : Aside0 (∀ k, badOf ok2 (.slice AL Ls.length cL) (.slice AM Ms.length cM) k → k < w2.heap.size) := HB2
      have HL6 := Aside0.mk HAP.out.1
      have HBD6 : Aside0 (∀ k, badOf ok2 v6 (.slice AM Ms.length cM) k → k < w2.heap.size ∨ w5.heap.size ≤ k) := ⟨fun k hk => (HAP.out.2.1 k hk).imp (fun q => hbad0.out k q) (fun q => by exact q)⟩
      have hO6 : Only (isOwn (.slice AL Ls.length cL)) (w5.drewN (n1 + n2)) w6 := HAP.out.2.2
      have hs6 : w5.heap.size ≤ w6.heap.size := hO6.size
      have nL : ∀ k, isOwn (.slice AL Ls.length cL) k → k < w2.heap.size := fun k hk => hbad0.out k (.inr (.inl hk))
      have HRl6 := Aside0.mk (R_only (Kd.R_drewN HRl5.out (n1 + n2)) hO6 (fun k hk q => by have := nL k q; have := HKl.out k hk; omega))
      have HRt6 := Aside0.mk (R_only (Kd.R_drewN HRt5.out (n1 + n2)) hO6 (fun k hk q => by have := nL k q; have := HKt.out k hk; have := hgap.out; omega))
      have HRw6 := Aside0.mk (R_only (Kd.R_drewN HRw.out (n1 + n2)) hO6 (fun k hk q => by have := nL k q; have := HKw.out k hk; have := hgap.out; omega))
      have hs26 : w2.heap.size ≤ w6.heap.size := by have := hgap.out; omega
      clear HAP hO6 nL HS6 HRl5 HRt5 HRw HCw
      refine (filled_calls w2.heap.size w6 (isOwn (.slice Al T.length cl)) Al T.length cl T (Ms.length : Int) (mkOf Ms.length) (mkOf_f _) (by exact HRl6.out) (by omega) hs26).mono ?_; rintro e w7 ⟨v7, rfl, hLg, hO7⟩
      have nbl : ∀ k, isOwn (.slice Al T.length cl) k → ¬ badOf ok2 v6 (.slice AM Ms.length cM) k := fun k hk q => by have := HBD6.out k q; have := HKl.out k hk; have := hgap.out; omega
      have HL7 := Aside0.mk (HL6.out.turn (Nat.le_refl _) hO7 (fun k hk => ⟨⟨Nat.le_trans HN2.out (HKl.out k hk).1, Nat.not_lt.2 (HKl.out k hk).1⟩, nbl k hk⟩))
      obtain ⟨_, A7, c7, rfl, _, _, _⟩ := hLg.reads hO7.size
      have HLG := Aside0.mk hLg
      have HRt7 := Aside0.mk (R_only HRt6.out hO7 (fun k hk q => by have := HKl.out k q; have := HKt.out k hk; omega))
      have HRw7 := Aside0.mk (R_only HRw6.out hO7 (fun k hk q => by have := HKl.out k q; have := HKw.out k hk; have := hgap.out; omega))
      have HO7 := Aside0.mk hO7
      have hN7 : w.heap.size ≤ w7.heap.size := Nat.le_trans hN6 (Nat.le_trans hs6 hO7.size)
      clear hLg hO7 HRl6 HRt6 HRw6
      go_wp2_with (at_builtin; refine Kd.R_append kh (w0 := w) w.heap.size rfl (.tmp 86) (.tmp 91) 72 36 (.slice none 0 0) 24 rfl Try.underlying72 info36 rfl (by decide) (by omega) (.slice AM Ms.length cM) Ms ⟨A7, T.length + 64, c7⟩ [.slice A7 (T.length + 64) c7] (fun i => isOwn (.slice AM Ms.length cM) i ∨ w7.heap.size ≤ i) (fun _ => False) rfl rfl rfl (fun _ hk => hk.elim) (fun _ hk => .inr (by exact hk)) (by exact Kd.R_mono HL7.out.M (fun _ hk => .inl hk)) (by exact HL7.out.below) (by exact hN7) (by omega) ?_; intro v8 w8 hr8 hb8 hg8 hat8; have HAP := Aside0.mk (Lists.half (Nat.le_refl _) HL7.out (by exact HL1.out.trans HL2.out.symm) (fun k q => by have := HBD6.out k q; have := HL6.out.lt k q; omega) HO7.out.size HLG.out nbl (fun k hk => by have := HKl.out k hk; have := hgap.out; omega) rfl hr8 hg8 hat8); have HR8 := Aside0.mk hr8; clear hr8 hb8 hg8 hat8)
      have hll1 : (Ls ++ [(⟨Al, T.length, cl⟩ : Head)]).length = Ls.length + 1 := by simp
      have hml1 : (Ms ++ [(⟨A7, T.length + 64, c7⟩ : Head)]).length = Ms.length + 1 := by simp
      generalize Ls ++ [(⟨Al, T.length, cl⟩ : Head)] = L1 at HAP hll1
      generalize Ms ++ [(⟨A7, T.length + 64, c7⟩ : Head)] = M1 at HAP HR8 hml1
      have HLL1 := Aside0.mk hll1
      have HML1 := Aside0.mk hml1
      obtain ⟨A8, c8, rfl⟩ := Kd.R_slice HR8.out
      clear hll1 hml1 HR8
      have HBD8 : Aside0 (∀ k, badOf ok2 v6 (.slice A8 M1.length c8) k → k < w2.heap.size ∨ w5.heap.size ≤ k) := ⟨fun k hk => (HAP.out.2.1 k hk).elim (fun q => HBD6.out k q) (fun q => .inr (Nat.le_trans (Nat.le_trans hs6 HO7.out.size) q))⟩
      have HRt8 := Aside0.mk (R_only HRt7.out HAP.out.2.2 (fun k hk q => by have := hbad0.out k (.inr (.inr q)); have := HKt.out k hk; have := hgap.out; omega))
      have HRw8 := Aside0.mk (R_only HRw7.out HAP.out.2.2 (fun k hk q => by have := hbad0.out k (.inr (.inr q)); have := HKw.out k hk; have := hgap.out; omega))
      have HL8 := Aside0.mk HAP.out.1
      have hs8 : w5.heap.size ≤ w8.heap.size := Nat.le_trans (Nat.le_trans hs6 HO7.out.size) HAP.out.2.2.size
      clear HAP HL7 HL6 HLG HO7 HRt7 HRw7 nbl HBD6 HB2
      refine (same_n _ At' Aw _ _ ct cw T rfl rfl (by exact (Kd.R_reads' HRt8.out).2.2) (by exact kt) (by exact (Kd.R_reads' HRw8.out).2.2) (by exact kw)).mono ?_; rintro e w' ⟨rfl, ⟨n3, rfl⟩⟩
      have HS9 := Aside0.mk (HL8.out.drewN (Nat.le_refl _) n3)
      have hN8 : w.heap.size ≤ w8.heap.size := HL8.out.below.size
      have hl1b : L1.length ≤ 2097153 := by have := HLL1.out; omega
      have hm1b : M1.length ≤ 2097153 := by have := HML1.out; omega
      have hlm1 : Aside0 (L1.length = M1.length) := ⟨by have := HLL1.out; have := HML1.out; have := HL1.out; have := HL2.out; omega⟩
      clear HL8 HRw8 hN7
      go_wp2_with (at_builtin; refine Kd.R_append kh (w0 := w) w.heap.size rfl (.tmp 97) (.tmp 99) 72 36 (.slice none 0 0) 24 rfl Try.underlying72 info36 rfl (by decide) (by omega) v6 L1 ⟨At', T.length, ct⟩ [.slice At' T.length ct] (fun i => isOwn v6 i ∨ w8.heap.size ≤ i) (fun _ => False) rfl rfl rfl (fun _ hk => hk.elim) (fun _ hk => .inr (by exact hk)) (by exact Kd.R_mono HS9.out.L (fun _ hk => .inl hk)) (by exact HS9.out.below) (by exact hN8) (by omega) ?_; intro v9 w9 hr6 hb6 hg6 hat6; have HAP := Aside0.mk (HS9.out.appL (Nat.le_refl _) (Nat.le_refl _) hr6 hg6 hat6); clear hr6 hb6 hg6 hat6)
      have HL9 := Aside0.mk HAP.out.1
      have HBD9 : Aside0 (∀ k, badOf ok2 v9 (.slice A8 M1.length c8) k → k < w2.heap.size ∨ w5.heap.size ≤ k) := ⟨fun k hk => (HAP.out.2.1 k hk).elim (fun q => HBD8.out k q) (fun q => .inr (Nat.le_trans hs8 q))⟩
      have hs9 : w8.heap.size ≤ w9.heap.size := HAP.out.2.2.size
      have HRt9 := Aside0.mk (R_only (Kd.R_drewN HRt8.out n3) HAP.out.2.2 (fun k hk q => by have := HBD8.out k (.inr (.inl q)); have := HKt.out k hk; have := hgap.out; omega))
      have hs29 : w2.heap.size ≤ w9.heap.size := by have := hgap.out; omega
      clear HAP HS9 HRt8 HBD8
      refine (filled_calls w2.heap.size w9 (isOwn (.slice At' T.length ct)) At' T.length ct T (M1.length : Int) (mkOf M1.length) (mkOf_f _) (by exact Kd.R_lower HRt9.out (by have := hgap.out; omega)) (by omega) hs29).mono ?_; rintro e w10 ⟨v10, rfl, hLg, hO7⟩
      have nbl : ∀ k, isOwn (.slice At' T.length ct) k → ¬ badOf ok2 v9 (.slice A8 M1.length c8) k := fun k hk q => by have := HBD9.out k q; have := HKt.out k hk; have := hgap.out; omega
      have HL10 := Aside0.mk (HL9.out.turn (Nat.le_refl _) hO7 (fun k hk => by
        have h1 := HKt.out k hk
        have h2 := hgap.out
        have h3 := HN2.out
        refine ⟨⟨by omega, fun q => ?_⟩, nbl k hk⟩
        rcases q with q | q | q
        · exact absurd q (by omega)
        · have := HKl.out k q
          omega
        · omega))
      obtain ⟨_, A10, c10, rfl, _, _, _⟩ := hLg.reads hO7.size
      have HLG := Aside0.mk hLg
      have HO10 := Aside0.mk hO7
      have hN10 : w.heap.size ≤ w10.heap.size := Nat.le_trans hN8 (Nat.le_trans hs9 hO7.size)
      clear hLg hO7 HRt9
      go_wp2_with (at_builtin; refine Kd.R_append kh (w0 := w) w.heap.size rfl (.tmp 101) (.tmp 106) 72 36 (.slice none 0 0) 24 rfl Try.underlying72 info36 rfl (by decide) (by omega) (.slice A8 M1.length c8) M1 ⟨A10, T.length + 64, c10⟩ [.slice A10 (T.length + 64) c10] (fun i => isOwn (.slice A8 M1.length c8) i ∨ w10.heap.size ≤ i) (fun _ => False) rfl rfl rfl (fun _ hk => hk.elim) (fun _ hk => .inr (by exact hk)) (by exact Kd.R_mono HL10.out.M (fun _ hk => .inl hk)) (by exact HL10.out.below) (by exact hN10) (by omega) ?_; intro v11 w11 hr8 hb8 hg8 hat8; have HAP := Aside0.mk (Lists.half (Nat.le_refl _) HL10.out (by exact hlm1.out) (fun k q => by have := HBD9.out k q; have := HL9.out.lt k q; omega) HO10.out.size HLG.out nbl (fun k hk => by have := HKt.out k hk; have := hgap.out; omega) rfl hr8 hg8 hat8); clear hr8 hb8 hg8 hat8)
      go_roundw
      case rel => exact ⟨k + 1, L1 ++ [⟨At', T.length, ct⟩], M1 ++ [⟨A10, T.length + 64, c10⟩], by go_num, by omega, ⟨by have := HLL1.out; have := HL1.out; simp; omega⟩, ⟨by have := HML1.out; have := HL2.out; simp; omega⟩, ⟨⟨_, st2, ok2, HAP.out.1⟩⟩⟩
      case measure => simp [intOf]; omega
    · have b1 : decide ((k : Int) < (n : Int)) = false := decide_eq_false (by omega)
      clear HA
      obtain ⟨F, st, ok, hS⟩ := HS.out
      obtain ⟨AL, cL, rfl⟩ := Kd.R_slice hS.L
      obtain ⟨AM, cM, rfl⟩ := Kd.R_slice hS.M
      have HS1 := Aside0.mk hS
      have hlm : Ms.length = Ls.length := by have := HL1.out; have := HL2.out; omega
      have HLM := Aside0.mk hlm
      have hb1 : Ls.length ≤ 2097152 := by have := HL1.out; omega
      have hb2 : Ms.length ≤ 2097152 := by omega
      clear hS HS hlm
      go_wp2_with fail
      go_loopw [13] (fun i wr' => ∃ (j : Nat), i = .int .i64 (j : Int) ∧ j ≤ Ls.length ∧ Aside0 (Lists w.heap.size w w.heap.size F st ok (.slice AL Ls.length cL) (.slice AM Ms.length cM) Ls Ms Ls.length Ms.length wr')) (fun i _ => Ls.length - (intOf i).toNat)
      case atStart => exact ⟨0, rfl, by omega, HS1⟩
      case round =>
        clear HS1
        obtain ⟨j, rfl, hj, HS2⟩ := hrel
        by_cases hlt2 : j < Ls.length
        · have b2 : decide ((j : Int) < (Ls.length : Int)) = true := decide_eq_true (by omega)
          have hjM : j < Ms.length := by have := HLM.out; omega
          obtain ⟨adM, y, eM, hy, hcM⟩ := head_at HS2.out.M j hjM
          obtain ⟨adL, x, eL, hx, hcL⟩ := head_at HS2.out.L j hlt2
          subst eM
          subst eL
          have HX := Aside0.mk hx
          have HY := Aside0.mk hy
          have k0 : (0 : Int) ≤ (j : Int) := by omega
          have k1 : (j : Int) < (Ms.length : Int) := by omega
          have k2 : (j : Int) < (Ls.length : Int) := by omega
          have HCM := Aside0.mk hcM
          have HCL := Aside0.mk hcL
          have hyn := (HS2.out.mm j y hjM hy).2.1.2.1
          clear hx hy hcM hcL
          go_wp2_with fail
          go_loopw [14] (fun i wr' => ∃ (k : Nat), i = .int .i64 (k : Int) ∧ k ≤ y.n ∧ Aside0 (Lists w.heap.size w w.heap.size F st ok (.slice (some adL) Ls.length cL) (.slice (some adM) Ms.length cM) Ls Ms Ls.length Ms.length wr')) (fun i _ => y.n - (intOf i).toNat)
          case atStart => exact ⟨0, rfl, by omega, HS2⟩
          case round =>
            clear HS2 HCM HCL
            obtain ⟨q, rfl, hq, HS3⟩ := hrel
            obtain ⟨adM', y', eM, hy, hcM⟩ := head_at HS3.out.M j hjM
            obtain ⟨adL', x', eL, hx, hcL⟩ := head_at HS3.out.L j hlt2
            obtain rfl : adM = adM' := by injection eM
            obtain rfl : adL = adL' := by injection eL
            obtain rfl : y' = y := Option.some.inj (hy.symm.trans HY.out)
            obtain rfl : x' = x := Option.some.inj (hx.symm.trans HX.out)
            clear eM eL hx hy
            by_cases hlt3 : q < y'.n
            · have b3 : decide ((q : Int) < (y'.n : Int)) = true := decide_eq_true (by omega)
              obtain ⟨adY, eY, hcY⟩ := mark_at (HS3.out.mm j y' hjM HY.out).2.1 q hlt3
              have q0 : (0 : Int) ≤ (q : Int) := by omega
              have q1 : (q : Int) < (y'.n : Int) := by omega
              obtain ⟨yA, yn, yc⟩ := y'
              obtain rfl : yA = some adY := eY
              by_cases hlt4 : q < x'.n
              · have b4 : decide ((q : Int) < (x'.n : Int)) = true := decide_eq_true (by omega)
                obtain ⟨adX, eX, hcX⟩ := mark_at (HS3.out.ml j x' hlt2 HX.out).2.1 q hlt4
                have q2 : (q : Int) < (x'.n : Int) := by omega
                obtain ⟨xA, xn, xc⟩ := x'
                obtain rfl : xA = some adX := eX
                go_wp2_with fail
                refine start_ (n := 31) (S := fun w' => w'.cell? (adM.add j) = some (.slice (some adY) yn yc) ∧ w'.cell? (adY.add q) = some (.string (mkOf j)) ∧ w'.cell? (adL.add j) = some (.slice (some adX) xn xc) ∧ w'.cell? (adX.add q) = some (.string (mkOf j))) (ds := []) #[false, false, false, false, false, false, false, false, false, false, false, false, false, false, false, false, false, false, false, false, false, false, false, false, false, false, false, false, false, false, false] (by kernel_rfl) rfl rfl ⟨(by exact hcM), (by exact hcY), (by exact hcL), (by exact hcX)⟩ (fun hHeld => ?_)
                refine pure_ (i := 0) (N := some 123) (v := ?_) (a' := ?_) #[true, false, false, false, false, false, false, false, false, false, false, false, false, false, false, false, false, false, false, false, false, false, false, false, false, false, false, false, false, false, false] rfl rfl (by kernel_rfl) (fun _ _ _ h => h) (Or.inl ⟨by rfl, ?_⟩) ?_ ?_
                rotate_left
                · intro w'
                  go_simp
                  with_reducible rfl
                rotate_left
                · simp only [Act.put, List.setIfInBounds_toArray, List.set_cons_zero, List.set_cons_succ, i64_w, i32_w]
                  rfl
                refine pure_ (i := 1) (N := some 124) (v := ?_) (a' := ?_) #[true, true, false, false, false, false, false, false, false, false, false, false, false, false, false, false, false, false, false, false, false, false, false, false, false, false, false, false, false, false, false] rfl rfl (by kernel_rfl) (fun _ _ _ h => h) (Or.inl ⟨by rfl, ?_⟩) ?_ ?_
                rotate_left
                · intro w'
                  go_simp
                  with_reducible rfl
                rotate_left
                · simp only [Act.put, List.setIfInBounds_toArray, List.set_cons_zero, List.set_cons_succ, i64_w, i32_w]
                  rfl
                refine pure_ (i := 2) (N := some 125) (v := ?_) (a' := ?_) #[true, true, true, false, false, false, false, false, false, false, false, false, false, false, false, false, false, false, false, false, false, false, false, false, false, false, false, false, false, false, false] rfl rfl (by kernel_rfl) (fun _ _ _ h => h) (Or.inl ⟨by rfl, ?_⟩) ?_ ?_
                rotate_left
                · intro w'
                  go_simp
                  with_reducible rfl
                rotate_left
                · simp only [Act.put, List.setIfInBounds_toArray, List.set_cons_zero, List.set_cons_succ, i64_w, i32_w]
                  rfl
                refine pure_ (i := 4) (N := some 127) (v := ?_) (a' := ?_) #[true, true, true, false, true, false, false, false, false, false, false, false, false, false, false, false, false, false, false, false, false, false, false, false, false, false, false, false, false, false, false] rfl rfl (by kernel_rfl) (fun _ _ _ h => h) (Or.inl ⟨by rfl, ?_⟩) ?_ ?_
                rotate_left
                · intro w'
                  go_simp
                  with_reducible rfl
                rotate_left
                · simp only [Act.put, List.setIfInBounds_toArray, List.set_cons_zero, List.set_cons_succ, i64_w, i32_w]
                  rfl
                refine pure_ (i := 7) (N := some 130) (v := ?_) (a' := ?_) #[true, true, true, false, true, false, false, true, false, false, false, false, false, false, false, false, false, false, false, false, false, false, false, false, false, false, false, false, false, false, false] rfl rfl (by kernel_rfl) (fun _ _ _ h => h) (Or.inl ⟨by rfl, ?_⟩) ?_ ?_
                rotate_left
                · intro w'
                  go_simp
                  with_reducible rfl
                rotate_left
                · simp only [Act.put, List.setIfInBounds_toArray, List.set_cons_zero, List.set_cons_succ, i64_w, i32_w]
                  rfl
                refine take_ (i := 3) (N := some 126) (v := ?_) (a' := ?_) #[true, true, true, true, true, false, false, true, false, false, false, false, false, false, false, false, false, false, false, false, false, false, false, false, false, false, false, false, false, false, false] rfl rfl (by kernel_rfl) (fun _ _ _ h => h) (Or.inl ⟨by rfl, ?_⟩) hHeld ?_ ?_
                rotate_left
                · rintro w' ⟨s0, s1, s2, s3⟩
                  go_simp
                  with_reducible rfl
                rotate_left
                · simp only [Act.put, List.setIfInBounds_toArray, List.set_cons_zero, List.set_cons_succ, i64_w, i32_w]
                  rfl
                refine pure_ (i := 5) (N := some 128) (v := ?_) (a' := ?_) #[true, true, true, true, true, true, false, true, false, false, false, false, false, false, false, false, false, false, false, false, false, false, false, false, false, false, false, false, false, false, false] rfl rfl (by kernel_rfl) (fun _ _ _ h => h) (Or.inl ⟨by rfl, ?_⟩) ?_ ?_
                rotate_left
                · intro w'
                  go_simp
                  with_reducible rfl
                rotate_left
                · simp only [Act.put, List.setIfInBounds_toArray, List.set_cons_zero, List.set_cons_succ, i64_w, i32_w]
                  rfl
                refine take_ (i := 6) (N := some 129) (v := ?_) (a' := ?_) #[true, true, true, true, true, true, true, true, false, false, false, false, false, false, false, false, false, false, false, false, false, false, false, false, false, false, false, false, false, false, false] rfl rfl (by kernel_rfl) (fun _ _ _ h => h) (Or.inl ⟨by rfl, ?_⟩) hHeld ?_ ?_
                rotate_left
                · rintro w' ⟨s0, s1, s2, s3⟩
                  go_simp
                  with_reducible rfl
                rotate_left
                · simp only [Act.put, List.setIfInBounds_toArray, List.set_cons_zero, List.set_cons_succ, i64_w, i32_w]
                  rfl
                refine one_ (i := 8) (N := some 131) #[true, true, true, true, true, true, true, true, true, false, false, false, false, false, false, false, false, false, false, false, false, false, false, false, false, false, false, false, false, false, false] rfl rfl (by kernel_rfl) (by decide) (fun K hK => ?_)
                refine goes_ Try.func40 (by kernel_rfl) rfl #[.int .i64 (j : Int)] (by rfl) rfl rfl (by simp only [List.map_toArray, List.map_cons, List.map_nil]; rfl) ?_
                with_reducible refine (PSymbolOwnLists.kilnlaw6_mark.calls (j : Int) _ _ (mkOf_f _)).mono ?_
                rintro e wA ⟨rfl, hbmA⟩
                refine ⟨_, rfl, ?_⟩
                refine hK.out _ _ ⟨(pw_cell_below_le hbmA hHeld.1), (pw_cell_below_le hbmA hHeld.2.1), (pw_cell_below_le hbmA hHeld.2.2.1), (pw_cell_below_le hbmA hHeld.2.2.2)⟩ (fun hHeld => ?_)
                clear hK K
                refine norm_ (a' := ?_) ?_ ?_
                rotate_left
                · show Act.put _ (some 131) _ = _
                  simp only [Act.put, List.setIfInBounds_toArray, List.set_cons_zero, List.set_cons_succ, i64_w, i32_w]
                  rfl
                refine pure_ (i := 9) (N := some 132) (v := ?_) (a' := ?_) #[true, true, true, true, true, true, true, true, true, true, false, false, false, false, false, false, false, false, false, false, false, false, false, false, false, false, false, false, false, false, false] rfl rfl (by kernel_rfl) (fun _ _ _ h => h) (Or.inl ⟨by rfl, ?_⟩) ?_ ?_
                rotate_left
                · intro w'
                  go_simp
                  with_reducible rfl
                rotate_left
                · simp only [Act.put, List.setIfInBounds_toArray, List.set_cons_zero, List.set_cons_succ, i64_w, i32_w]
                  rfl
                refine pure_ (i := 10) (N := some 133) (v := ?_) (a' := ?_) #[true, true, true, true, true, true, true, true, true, true, true, false, false, false, false, false, false, false, false, false, false, false, false, false, false, false, false, false, false, false, false] rfl rfl (by kernel_rfl) (fun _ _ _ h => h) (Or.inl ⟨by rfl, ?_⟩) ?_ ?_
                rotate_left
                · intro w'
                  go_simp
                  with_reducible rfl
                rotate_left
                · simp only [Act.put, List.setIfInBounds_toArray, List.set_cons_zero, List.set_cons_succ, i64_w, i32_w]
                  rfl
                refine pure_ (i := 11) (N := some 134) (v := ?_) (a' := ?_) #[true, true, true, true, true, true, true, true, true, true, true, true, false, false, false, false, false, false, false, false, false, false, false, false, false, false, false, false, false, false, false] rfl rfl (by kernel_rfl) (fun _ _ _ h => h) (Or.inl ⟨by rfl, ?_⟩) ?_ ?_
                rotate_left
                · intro w'
                  go_simp
                  with_reducible rfl
                rotate_left
                · simp only [Act.put, List.setIfInBounds_toArray, List.set_cons_zero, List.set_cons_succ, i64_w, i32_w]
                  rfl
                refine pure_ (i := 12) (N := some 135) (v := ?_) (a' := ?_) #[true, true, true, true, true, true, true, true, true, true, true, true, true, false, false, false, false, false, false, false, false, false, false, false, false, false, false, false, false, false, false] rfl rfl (by kernel_rfl) (fun _ _ _ h => h) (Or.inl ⟨by rfl, ?_⟩) ?_ ?_
                rotate_left
                · intro w'
                  go_simp
                  with_reducible rfl
                rotate_left
                · simp only [Act.put, List.setIfInBounds_toArray, List.set_cons_zero, List.set_cons_succ, i64_w, i32_w]
                  rfl
                refine pure_ (i := 13) (N := some 136) (v := ?_) (a' := ?_) #[true, true, true, true, true, true, true, true, true, true, true, true, true, true, false, false, false, false, false, false, false, false, false, false, false, false, false, false, false, false, false] rfl rfl (by kernel_rfl) (fun _ _ _ h => h) (Or.inl ⟨by rfl, ?_⟩) ?_ ?_
                rotate_left
                · intro w'
                  go_simp
                  with_reducible rfl
                rotate_left
                · simp only [Act.put, List.setIfInBounds_toArray, List.set_cons_zero, List.set_cons_succ, i64_w, i32_w]
                  rfl
                refine pure_ (i := 14) (N := some 137) (v := ?_) (a' := ?_) #[true, true, true, true, true, true, true, true, true, true, true, true, true, true, true, false, false, false, false, false, false, false, false, false, false, false, false, false, false, false, false] rfl rfl (by kernel_rfl) (fun _ _ _ h => h) (Or.inl ⟨by rfl, ?_⟩) ?_ ?_
                rotate_left
                · intro w'
                  go_simp
                  with_reducible rfl
                rotate_left
                · simp only [Act.put, List.setIfInBounds_toArray, List.set_cons_zero, List.set_cons_succ, i64_w, i32_w]
                  rfl
                refine take_ (i := 15) (N := some 138) (v := ?_) (a' := ?_) #[true, true, true, true, true, true, true, true, true, true, true, true, true, true, true, true, false, false, false, false, false, false, false, false, false, false, false, false, false, false, false] rfl rfl (by kernel_rfl) (fun _ _ _ h => h) (Or.inl ⟨by rfl, ?_⟩) hHeld ?_ ?_
                rotate_left
                · rintro w' ⟨s0, s1, s2, s3⟩
                  go_simp
                  with_reducible rfl
                rotate_left
                · simp only [Act.put, List.setIfInBounds_toArray, List.set_cons_zero, List.set_cons_succ, i64_w, i32_w]
                  rfl
                refine pure_ (i := 16) (N := some 139) (v := ?_) (a' := ?_) #[true, true, true, true, true, true, true, true, true, true, true, true, true, true, true, true, true, false, false, false, false, false, false, false, false, false, false, false, false, false, false] rfl rfl (by kernel_rfl) (fun _ _ _ h => h) (Or.inl ⟨by rfl, ?_⟩) ?_ ?_
                rotate_left
                · intro w'
                  go_simp
                  with_reducible rfl
                rotate_left
                · simp only [Act.put, List.setIfInBounds_toArray, List.set_cons_zero, List.set_cons_succ, i64_w, i32_w]
                  rfl
                refine pure_ (i := 17) (N := some 140) (v := ?_) (a' := ?_) #[true, true, true, true, true, true, true, true, true, true, true, true, true, true, true, true, true, true, false, false, false, false, false, false, false, false, false, false, false, false, false] rfl rfl (by kernel_rfl) (fun _ _ _ h => h) (Or.inl ⟨by rfl, ?_⟩) ?_ ?_
                rotate_left
                · intro w'
                  go_simp
                  with_reducible rfl
                rotate_left
                · simp only [Act.put, List.setIfInBounds_toArray, List.set_cons_zero, List.set_cons_succ, i64_w, i32_w]
                  rfl
                refine pure_ (i := 18) (N := some 141) (v := ?_) (a' := ?_) #[true, true, true, true, true, true, true, true, true, true, true, true, true, true, true, true, true, true, true, false, false, false, false, false, false, false, false, false, false, false, false] rfl rfl (by kernel_rfl) (fun _ _ _ h => h) (Or.inl ⟨by rfl, ?_⟩) ?_ ?_
                rotate_left
                · intro w'
                  go_simp
                  with_reducible rfl
                rotate_left
                · simp only [Act.put, List.setIfInBounds_toArray, List.set_cons_zero, List.set_cons_succ, i64_w, i32_w]
                  rfl
                refine pure_ (i := 19) (N := some 142) (v := ?_) (a' := ?_) #[true, true, true, true, true, true, true, true, true, true, true, true, true, true, true, true, true, true, true, true, false, false, false, false, false, false, false, false, false, false, false] rfl rfl (by kernel_rfl) (fun _ _ _ h => h) (Or.inl ⟨by rfl, ?_⟩) ?_ ?_
                rotate_left
                · intro w'
                  go_simp
                  with_reducible rfl
                rotate_left
                · simp only [Act.put, List.setIfInBounds_toArray, List.set_cons_zero, List.set_cons_succ, i64_w, i32_w]
                  rfl
                refine pure_ (i := 20) (N := some 143) (v := ?_) (a' := ?_) #[true, true, true, true, true, true, true, true, true, true, true, true, true, true, true, true, true, true, true, true, true, false, false, false, false, false, false, false, false, false, false] rfl rfl (by kernel_rfl) (fun _ _ _ h => h) (Or.inl ⟨by rfl, ?_⟩) ?_ ?_
                rotate_left
                · intro w'
                  go_simp
                  with_reducible rfl
                rotate_left
                · simp only [Act.put, List.setIfInBounds_toArray, List.set_cons_zero, List.set_cons_succ, i64_w, i32_w]
                  rfl
                refine pure_ (i := 21) (N := some 144) (v := ?_) (a' := ?_) #[true, true, true, true, true, true, true, true, true, true, true, true, true, true, true, true, true, true, true, true, true, true, false, false, false, false, false, false, false, false, false] rfl rfl (by kernel_rfl) (fun _ _ _ h => h) (Or.inl ⟨by rfl, ?_⟩) ?_ ?_
                rotate_left
                · intro w'
                  go_simp
                  with_reducible rfl
                rotate_left
                · simp only [Act.put, List.setIfInBounds_toArray, List.set_cons_zero, List.set_cons_succ, i64_w, i32_w]
                  rfl
                refine pure_ (i := 23) (N := some 146) (v := ?_) (a' := ?_) #[true, true, true, true, true, true, true, true, true, true, true, true, true, true, true, true, true, true, true, true, true, true, false, true, false, false, false, false, false, false, false] rfl rfl (by kernel_rfl) (fun _ _ _ h => h) (Or.inl ⟨by rfl, ?_⟩) ?_ ?_
                rotate_left
                · intro w'
                  go_simp
                  with_reducible rfl
                rotate_left
                · simp only [Act.put, List.setIfInBounds_toArray, List.set_cons_zero, List.set_cons_succ, i64_w, i32_w]
                  rfl
                refine pure_ (i := 26) (N := some 149) (v := ?_) (a' := ?_) #[true, true, true, true, true, true, true, true, true, true, true, true, true, true, true, true, true, true, true, true, true, true, false, true, false, false, true, false, false, false, false] rfl rfl (by kernel_rfl) (fun _ _ _ h => h) (Or.inl ⟨by rfl, ?_⟩) ?_ ?_
                rotate_left
                · intro w'
                  go_simp
                  with_reducible rfl
                rotate_left
                · simp only [Act.put, List.setIfInBounds_toArray, List.set_cons_zero, List.set_cons_succ, i64_w, i32_w]
                  rfl
                refine take_ (i := 22) (N := some 145) (v := ?_) (a' := ?_) #[true, true, true, true, true, true, true, true, true, true, true, true, true, true, true, true, true, true, true, true, true, true, true, true, false, false, true, false, false, false, false] rfl rfl (by kernel_rfl) (fun _ _ _ h => h) (Or.inl ⟨by rfl, ?_⟩) hHeld ?_ ?_
                rotate_left
                · rintro w' ⟨s0, s1, s2, s3⟩
                  go_simp
                  with_reducible rfl
                rotate_left
                · simp only [Act.put, List.setIfInBounds_toArray, List.set_cons_zero, List.set_cons_succ, i64_w, i32_w]
                  rfl
                refine pure_ (i := 24) (N := some 147) (v := ?_) (a' := ?_) #[true, true, true, true, true, true, true, true, true, true, true, true, true, true, true, true, true, true, true, true, true, true, true, true, true, false, true, false, false, false, false] rfl rfl (by kernel_rfl) (fun _ _ _ h => h) (Or.inl ⟨by rfl, ?_⟩) ?_ ?_
                rotate_left
                · intro w'
                  go_simp
                  with_reducible rfl
                rotate_left
                · simp only [Act.put, List.setIfInBounds_toArray, List.set_cons_zero, List.set_cons_succ, i64_w, i32_w]
                  rfl
                refine take_ (i := 25) (N := some 148) (v := ?_) (a' := ?_) #[true, true, true, true, true, true, true, true, true, true, true, true, true, true, true, true, true, true, true, true, true, true, true, true, true, true, true, false, false, false, false] rfl rfl (by kernel_rfl) (fun _ _ _ h => h) (Or.inl ⟨by rfl, ?_⟩) hHeld ?_ ?_
                rotate_left
                · rintro w' ⟨s0, s1, s2, s3⟩
                  go_simp
                  with_reducible rfl
                rotate_left
                · simp only [Act.put, List.setIfInBounds_toArray, List.set_cons_zero, List.set_cons_succ, i64_w, i32_w]
                  rfl
                refine one_ (i := 27) (N := some 150) #[true, true, true, true, true, true, true, true, true, true, true, true, true, true, true, true, true, true, true, true, true, true, true, true, true, true, true, true, false, false, false] rfl rfl (by kernel_rfl) (by decide) (fun K hK => ?_)
                refine goes_ Try.func40 (by kernel_rfl) rfl #[.int .i64 (j : Int)] (by rfl) rfl rfl (by simp only [List.map_toArray, List.map_cons, List.map_nil]; rfl) ?_
                with_reducible refine (PSymbolOwnLists.kilnlaw6_mark.calls (j : Int) _ _ (mkOf_f _)).mono ?_
                rintro e wB ⟨rfl, hbmB⟩
                refine ⟨_, rfl, ?_⟩
                refine hK.out _ _ ⟨(pw_cell_below_le hbmB hHeld.1), (pw_cell_below_le hbmB hHeld.2.1), (pw_cell_below_le hbmB hHeld.2.2.1), (pw_cell_below_le hbmB hHeld.2.2.2)⟩ (fun hHeld => ?_)
                clear hK K
                refine norm_ (a' := ?_) ?_ ?_
                rotate_left
                · show Act.put _ (some 150) _ = _
                  simp only [Act.put, List.setIfInBounds_toArray, List.set_cons_zero, List.set_cons_succ, i64_w, i32_w]
                  rfl
                refine pure_ (i := 28) (N := some 151) (v := ?_) (a' := ?_) #[true, true, true, true, true, true, true, true, true, true, true, true, true, true, true, true, true, true, true, true, true, true, true, true, true, true, true, true, true, false, false] rfl rfl (by kernel_rfl) (fun _ _ _ h => h) (Or.inl ⟨by rfl, ?_⟩) ?_ ?_
                rotate_left
                · intro w'
                  go_simp
                  with_reducible rfl
                rotate_left
                · simp only [Act.put, List.setIfInBounds_toArray, List.set_cons_zero, List.set_cons_succ, i64_w, i32_w]
                  rfl
                refine pure_ (i := 29) (N := some 152) (v := ?_) (a' := ?_) #[true, true, true, true, true, true, true, true, true, true, true, true, true, true, true, true, true, true, true, true, true, true, true, true, true, true, true, true, true, true, false] rfl rfl (by kernel_rfl) (fun _ _ _ h => h) (Or.inl ⟨by rfl, ?_⟩) ?_ ?_
                rotate_left
                · intro w'
                  go_simp
                  with_reducible rfl
                rotate_left
                · simp only [Act.put, List.setIfInBounds_toArray, List.set_cons_zero, List.set_cons_succ, i64_w, i32_w]
                  rfl
                refine pure_ (i := 30) (N := some 153) (v := ?_) (a' := ?_) #[true, true, true, true, true, true, true, true, true, true, true, true, true, true, true, true, true, true, true, true, true, true, true, true, true, true, true, true, true, true, true] rfl rfl (by kernel_rfl) (fun _ _ _ h => h) (Or.inl ⟨by rfl, ?_⟩) ?_ ?_
                rotate_left
                · intro w'
                  go_simp
                  with_reducible rfl
                rotate_left
                · simp only [Act.put, List.setIfInBounds_toArray, List.set_cons_zero, List.set_cons_succ, i64_w, i32_w]
                  rfl
                refine done_ (by kernel_rfl) ?_

                have hbA : Below wr.heap.size wr wA := by first | exact hbmA | exact below_weaken (w0 := wr) (below_drew (Below.refl _ _)) (Nat.le_refl _) hbmA
                have HSA := Aside0.mk (HS3.out.step (Nat.le_refl _) (below_then hbA hbA.size hbmB))
                clear hHeld hbmA hbmB hbA
                go_wp2_with fail
                go_roundw
                case rel => exact ⟨q + 1, by go_num, by omega, HSA⟩
                case measure => simp [intOf]; omega
              · have b4 : decide ((q : Int) < (x'.n : Int)) = false := decide_eq_false (by omega)
                obtain ⟨xA, xn, xc⟩ := x'
                go_wp2_with fail
                refine start_ (n := 31) (S := fun w' => w'.cell? (adM.add j) = some (.slice (some adY) yn yc) ∧ w'.cell? (adY.add q) = some (.string (mkOf j)) ∧ w'.cell? (adL.add j) = some (.slice xA xn xc)) (ds := []) #[false, false, false, false, false, false, false, false, false, false, false, false, false, false, false, false, false, false, false, false, false, false, false, false, false, false, false, false, false, false, false] (by kernel_rfl) rfl rfl ⟨(by exact hcM), (by exact hcY), (by exact hcL)⟩ (fun hHeld => ?_)
                refine pure_ (i := 0) (N := some 123) (v := ?_) (a' := ?_) #[true, false, false, false, false, false, false, false, false, false, false, false, false, false, false, false, false, false, false, false, false, false, false, false, false, false, false, false, false, false, false] rfl rfl (by kernel_rfl) (fun _ _ _ h => h) (Or.inl ⟨by rfl, ?_⟩) ?_ ?_
                rotate_left
                · intro w'
                  go_simp
                  with_reducible rfl
                rotate_left
                · simp only [Act.put, List.setIfInBounds_toArray, List.set_cons_zero, List.set_cons_succ, i64_w, i32_w]
                  rfl
                refine pure_ (i := 1) (N := some 124) (v := ?_) (a' := ?_) #[true, true, false, false, false, false, false, false, false, false, false, false, false, false, false, false, false, false, false, false, false, false, false, false, false, false, false, false, false, false, false] rfl rfl (by kernel_rfl) (fun _ _ _ h => h) (Or.inl ⟨by rfl, ?_⟩) ?_ ?_
                rotate_left
                · intro w'
                  go_simp
                  with_reducible rfl
                rotate_left
                · simp only [Act.put, List.setIfInBounds_toArray, List.set_cons_zero, List.set_cons_succ, i64_w, i32_w]
                  rfl
                refine pure_ (i := 2) (N := some 125) (v := ?_) (a' := ?_) #[true, true, true, false, false, false, false, false, false, false, false, false, false, false, false, false, false, false, false, false, false, false, false, false, false, false, false, false, false, false, false] rfl rfl (by kernel_rfl) (fun _ _ _ h => h) (Or.inl ⟨by rfl, ?_⟩) ?_ ?_
                rotate_left
                · intro w'
                  go_simp
                  with_reducible rfl
                rotate_left
                · simp only [Act.put, List.setIfInBounds_toArray, List.set_cons_zero, List.set_cons_succ, i64_w, i32_w]
                  rfl
                refine pure_ (i := 4) (N := some 127) (v := ?_) (a' := ?_) #[true, true, true, false, true, false, false, false, false, false, false, false, false, false, false, false, false, false, false, false, false, false, false, false, false, false, false, false, false, false, false] rfl rfl (by kernel_rfl) (fun _ _ _ h => h) (Or.inl ⟨by rfl, ?_⟩) ?_ ?_
                rotate_left
                · intro w'
                  go_simp
                  with_reducible rfl
                rotate_left
                · simp only [Act.put, List.setIfInBounds_toArray, List.set_cons_zero, List.set_cons_succ, i64_w, i32_w]
                  rfl
                refine pure_ (i := 7) (N := some 130) (v := ?_) (a' := ?_) #[true, true, true, false, true, false, false, true, false, false, false, false, false, false, false, false, false, false, false, false, false, false, false, false, false, false, false, false, false, false, false] rfl rfl (by kernel_rfl) (fun _ _ _ h => h) (Or.inl ⟨by rfl, ?_⟩) ?_ ?_
                rotate_left
                · intro w'
                  go_simp
                  with_reducible rfl
                rotate_left
                · simp only [Act.put, List.setIfInBounds_toArray, List.set_cons_zero, List.set_cons_succ, i64_w, i32_w]
                  rfl
                refine take_ (i := 3) (N := some 126) (v := ?_) (a' := ?_) #[true, true, true, true, true, false, false, true, false, false, false, false, false, false, false, false, false, false, false, false, false, false, false, false, false, false, false, false, false, false, false] rfl rfl (by kernel_rfl) (fun _ _ _ h => h) (Or.inl ⟨by rfl, ?_⟩) hHeld ?_ ?_
                rotate_left
                · rintro w' ⟨s0, s1, s2⟩
                  go_simp
                  with_reducible rfl
                rotate_left
                · simp only [Act.put, List.setIfInBounds_toArray, List.set_cons_zero, List.set_cons_succ, i64_w, i32_w]
                  rfl
                refine pure_ (i := 5) (N := some 128) (v := ?_) (a' := ?_) #[true, true, true, true, true, true, false, true, false, false, false, false, false, false, false, false, false, false, false, false, false, false, false, false, false, false, false, false, false, false, false] rfl rfl (by kernel_rfl) (fun _ _ _ h => h) (Or.inl ⟨by rfl, ?_⟩) ?_ ?_
                rotate_left
                · intro w'
                  go_simp
                  with_reducible rfl
                rotate_left
                · simp only [Act.put, List.setIfInBounds_toArray, List.set_cons_zero, List.set_cons_succ, i64_w, i32_w]
                  rfl
                refine take_ (i := 6) (N := some 129) (v := ?_) (a' := ?_) #[true, true, true, true, true, true, true, true, false, false, false, false, false, false, false, false, false, false, false, false, false, false, false, false, false, false, false, false, false, false, false] rfl rfl (by kernel_rfl) (fun _ _ _ h => h) (Or.inl ⟨by rfl, ?_⟩) hHeld ?_ ?_
                rotate_left
                · rintro w' ⟨s0, s1, s2⟩
                  go_simp
                  with_reducible rfl
                rotate_left
                · simp only [Act.put, List.setIfInBounds_toArray, List.set_cons_zero, List.set_cons_succ, i64_w, i32_w]
                  rfl
                refine one_ (i := 8) (N := some 131) #[true, true, true, true, true, true, true, true, true, false, false, false, false, false, false, false, false, false, false, false, false, false, false, false, false, false, false, false, false, false, false] rfl rfl (by kernel_rfl) (by decide) (fun K hK => ?_)
                refine goes_ Try.func40 (by kernel_rfl) rfl #[.int .i64 (j : Int)] (by rfl) rfl rfl (by simp only [List.map_toArray, List.map_cons, List.map_nil]; rfl) ?_
                with_reducible refine (PSymbolOwnLists.kilnlaw6_mark.calls (j : Int) _ _ (mkOf_f _)).mono ?_
                rintro e wA ⟨rfl, hbmA⟩
                refine ⟨_, rfl, ?_⟩
                refine hK.out _ _ ⟨(pw_cell_below_le hbmA hHeld.1), (pw_cell_below_le hbmA hHeld.2.1), (pw_cell_below_le hbmA hHeld.2.2)⟩ (fun hHeld => ?_)
                clear hK K
                refine norm_ (a' := ?_) ?_ ?_
                rotate_left
                · show Act.put _ (some 131) _ = _
                  simp only [Act.put, List.setIfInBounds_toArray, List.set_cons_zero, List.set_cons_succ, i64_w, i32_w]
                  rfl
                refine pure_ (i := 9) (N := some 132) (v := ?_) (a' := ?_) #[true, true, true, true, true, true, true, true, true, true, false, false, false, false, false, false, false, false, false, false, false, false, false, false, false, false, false, false, false, false, false] rfl rfl (by kernel_rfl) (fun _ _ _ h => h) (Or.inl ⟨by rfl, ?_⟩) ?_ ?_
                rotate_left
                · intro w'
                  go_simp
                  with_reducible rfl
                rotate_left
                · simp only [Act.put, List.setIfInBounds_toArray, List.set_cons_zero, List.set_cons_succ, i64_w, i32_w]
                  rfl
                refine pure_ (i := 10) (N := some 133) (v := ?_) (a' := ?_) #[true, true, true, true, true, true, true, true, true, true, true, false, false, false, false, false, false, false, false, false, false, false, false, false, false, false, false, false, false, false, false] rfl rfl (by kernel_rfl) (fun _ _ _ h => h) (Or.inl ⟨by rfl, ?_⟩) ?_ ?_
                rotate_left
                · intro w'
                  go_simp
                  with_reducible rfl
                rotate_left
                · simp only [Act.put, List.setIfInBounds_toArray, List.set_cons_zero, List.set_cons_succ, i64_w, i32_w]
                  rfl
                refine pure_ (i := 11) (N := some 134) (v := ?_) (a' := ?_) #[true, true, true, true, true, true, true, true, true, true, true, true, false, false, false, false, false, false, false, false, false, false, false, false, false, false, false, false, false, false, false] rfl rfl (by kernel_rfl) (fun _ _ _ h => h) (Or.inl ⟨by rfl, ?_⟩) ?_ ?_
                rotate_left
                · intro w'
                  go_simp
                  with_reducible rfl
                rotate_left
                · simp only [Act.put, List.setIfInBounds_toArray, List.set_cons_zero, List.set_cons_succ, i64_w, i32_w]
                  rfl
                refine pure_ (i := 12) (N := some 135) (v := ?_) (a' := ?_) #[true, true, true, true, true, true, true, true, true, true, true, true, true, false, false, false, false, false, false, false, false, false, false, false, false, false, false, false, false, false, false] rfl rfl (by kernel_rfl) (fun _ _ _ h => h) (Or.inl ⟨by rfl, ?_⟩) ?_ ?_
                rotate_left
                · intro w'
                  go_simp
                  with_reducible rfl
                rotate_left
                · simp only [Act.put, List.setIfInBounds_toArray, List.set_cons_zero, List.set_cons_succ, i64_w, i32_w]
                  rfl
                refine pure_ (i := 13) (N := some 136) (v := ?_) (a' := ?_) #[true, true, true, true, true, true, true, true, true, true, true, true, true, true, false, false, false, false, false, false, false, false, false, false, false, false, false, false, false, false, false] rfl rfl (by kernel_rfl) (fun _ _ _ h => h) (Or.inl ⟨by rfl, ?_⟩) ?_ ?_
                rotate_left
                · intro w'
                  go_simp
                  with_reducible rfl
                rotate_left
                · simp only [Act.put, List.setIfInBounds_toArray, List.set_cons_zero, List.set_cons_succ, i64_w, i32_w]
                  rfl
                refine pure_ (i := 14) (N := some 137) (v := ?_) (a' := ?_) #[true, true, true, true, true, true, true, true, true, true, true, true, true, true, true, false, false, false, false, false, false, false, false, false, false, false, false, false, false, false, false] rfl rfl (by kernel_rfl) (fun _ _ _ h => h) (Or.inl ⟨by rfl, ?_⟩) ?_ ?_
                rotate_left
                · intro w'
                  go_simp
                  with_reducible rfl
                rotate_left
                · simp only [Act.put, List.setIfInBounds_toArray, List.set_cons_zero, List.set_cons_succ, i64_w, i32_w]
                  rfl
                refine take_ (i := 15) (N := some 138) (v := ?_) (a' := ?_) #[true, true, true, true, true, true, true, true, true, true, true, true, true, true, true, true, false, false, false, false, false, false, false, false, false, false, false, false, false, false, false] rfl rfl (by kernel_rfl) (fun _ _ _ h => h) (Or.inl ⟨by rfl, ?_⟩) hHeld ?_ ?_
                rotate_left
                · rintro w' ⟨s0, s1, s2⟩
                  go_simp
                  with_reducible rfl
                rotate_left
                · simp only [Act.put, List.setIfInBounds_toArray, List.set_cons_zero, List.set_cons_succ, i64_w, i32_w]
                  rfl
                refine pure_ (i := 16) (N := some 139) (v := ?_) (a' := ?_) #[true, true, true, true, true, true, true, true, true, true, true, true, true, true, true, true, true, false, false, false, false, false, false, false, false, false, false, false, false, false, false] rfl rfl (by kernel_rfl) (fun _ _ _ h => h) (Or.inl ⟨by rfl, ?_⟩) ?_ ?_
                rotate_left
                · intro w'
                  go_simp
                  with_reducible rfl
                rotate_left
                · simp only [Act.put, List.setIfInBounds_toArray, List.set_cons_zero, List.set_cons_succ, i64_w, i32_w]
                  rfl
                refine pure_ (i := 17) (N := some 140) (v := ?_) (a' := ?_) #[true, true, true, true, true, true, true, true, true, true, true, true, true, true, true, true, true, true, false, false, false, false, false, false, false, false, false, false, false, false, false] rfl rfl (by kernel_rfl) (fun _ _ _ h => h) (Or.inl ⟨by rfl, ?_⟩) ?_ ?_
                rotate_left
                · intro w'
                  go_simp
                  with_reducible rfl
                rotate_left
                · simp only [Act.put, List.setIfInBounds_toArray, List.set_cons_zero, List.set_cons_succ, i64_w, i32_w]
                  rfl
                refine pure_ (i := 18) (N := some 141) (v := ?_) (a' := ?_) #[true, true, true, true, true, true, true, true, true, true, true, true, true, true, true, true, true, true, true, false, false, false, false, false, false, false, false, false, false, false, false] rfl rfl (by kernel_rfl) (fun _ _ _ h => h) (Or.inl ⟨by rfl, ?_⟩) ?_ ?_
                rotate_left
                · intro w'
                  go_simp
                  with_reducible rfl
                rotate_left
                · simp only [Act.put, List.setIfInBounds_toArray, List.set_cons_zero, List.set_cons_succ, i64_w, i32_w]
                  rfl
                refine pure_ (i := 19) (N := some 142) (v := undef) (a' := ?_) #[true, true, true, true, true, true, true, true, true, true, true, true, true, true, true, true, true, true, true, true, false, false, false, false, false, false, false, false, false, false, false] rfl rfl (by kernel_rfl) (fun _ _ _ h => h) (Or.inr ⟨by rfl, rfl⟩) ?_ ?_
                rotate_left
                · simp only [Act.put, List.setIfInBounds_toArray, List.set_cons_zero, List.set_cons_succ, i64_w, i32_w]
                  rfl
                refine pure_ (i := 20) (N := some 143) (v := undef) (a' := ?_) #[true, true, true, true, true, true, true, true, true, true, true, true, true, true, true, true, true, true, true, true, true, false, false, false, false, false, false, false, false, false, false] rfl rfl (by kernel_rfl) (fun _ _ _ h => h) (Or.inr ⟨by rfl, rfl⟩) ?_ ?_
                rotate_left
                · simp only [Act.put, List.setIfInBounds_toArray, List.set_cons_zero, List.set_cons_succ, i64_w, i32_w]
                  rfl
                refine pure_ (i := 21) (N := some 144) (v := undef) (a' := ?_) #[true, true, true, true, true, true, true, true, true, true, true, true, true, true, true, true, true, true, true, true, true, true, false, false, false, false, false, false, false, false, false] rfl rfl (by kernel_rfl) (fun _ _ _ h => h) (Or.inr ⟨by rfl, rfl⟩) ?_ ?_
                rotate_left
                · simp only [Act.put, List.setIfInBounds_toArray, List.set_cons_zero, List.set_cons_succ, i64_w, i32_w]
                  rfl
                refine pure_ (i := 22) (N := some 145) (v := undef) (a' := ?_) #[true, true, true, true, true, true, true, true, true, true, true, true, true, true, true, true, true, true, true, true, true, true, true, false, false, false, false, false, false, false, false] rfl rfl (by kernel_rfl) (fun _ _ _ h => h) (Or.inr ⟨by rfl, rfl⟩) ?_ ?_
                rotate_left
                · simp only [Act.put, List.setIfInBounds_toArray, List.set_cons_zero, List.set_cons_succ, i64_w, i32_w]
                  rfl
                refine pure_ (i := 23) (N := some 146) (v := undef) (a' := ?_) #[true, true, true, true, true, true, true, true, true, true, true, true, true, true, true, true, true, true, true, true, true, true, true, true, false, false, false, false, false, false, false] rfl rfl (by kernel_rfl) (fun _ _ _ h => h) (Or.inr ⟨by rfl, rfl⟩) ?_ ?_
                rotate_left
                · simp only [Act.put, List.setIfInBounds_toArray, List.set_cons_zero, List.set_cons_succ, i64_w, i32_w]
                  rfl
                refine pure_ (i := 24) (N := some 147) (v := undef) (a' := ?_) #[true, true, true, true, true, true, true, true, true, true, true, true, true, true, true, true, true, true, true, true, true, true, true, true, true, false, false, false, false, false, false] rfl rfl (by kernel_rfl) (fun _ _ _ h => h) (Or.inr ⟨by rfl, rfl⟩) ?_ ?_
                rotate_left
                · simp only [Act.put, List.setIfInBounds_toArray, List.set_cons_zero, List.set_cons_succ, i64_w, i32_w]
                  rfl
                refine pure_ (i := 25) (N := some 148) (v := undef) (a' := ?_) #[true, true, true, true, true, true, true, true, true, true, true, true, true, true, true, true, true, true, true, true, true, true, true, true, true, true, false, false, false, false, false] rfl rfl (by kernel_rfl) (fun _ _ _ h => h) (Or.inr ⟨by rfl, rfl⟩) ?_ ?_
                rotate_left
                · simp only [Act.put, List.setIfInBounds_toArray, List.set_cons_zero, List.set_cons_succ, i64_w, i32_w]
                  rfl
                refine pure_ (i := 26) (N := some 149) (v := undef) (a' := ?_) #[true, true, true, true, true, true, true, true, true, true, true, true, true, true, true, true, true, true, true, true, true, true, true, true, true, true, true, false, false, false, false] rfl rfl (by kernel_rfl) (fun _ _ _ h => h) (Or.inr ⟨by rfl, rfl⟩) ?_ ?_
                rotate_left
                · simp only [Act.put, List.setIfInBounds_toArray, List.set_cons_zero, List.set_cons_succ, i64_w, i32_w]
                  rfl
                refine pure_ (i := 27) (N := some 150) (v := undef) (a' := ?_) #[true, true, true, true, true, true, true, true, true, true, true, true, true, true, true, true, true, true, true, true, true, true, true, true, true, true, true, true, false, false, false] rfl rfl (by kernel_rfl) (fun _ _ _ h => h) (Or.inr ⟨by rfl, rfl⟩) ?_ ?_
                rotate_left
                · simp only [Act.put, List.setIfInBounds_toArray, List.set_cons_zero, List.set_cons_succ, i64_w, i32_w]
                  rfl
                refine pure_ (i := 28) (N := some 151) (v := undef) (a' := ?_) #[true, true, true, true, true, true, true, true, true, true, true, true, true, true, true, true, true, true, true, true, true, true, true, true, true, true, true, true, true, false, false] rfl rfl (by kernel_rfl) (fun _ _ _ h => h) (Or.inr ⟨by rfl, rfl⟩) ?_ ?_
                rotate_left
                · simp only [Act.put, List.setIfInBounds_toArray, List.set_cons_zero, List.set_cons_succ, i64_w, i32_w]
                  rfl
                refine pure_ (i := 29) (N := some 152) (v := ?_) (a' := ?_) #[true, true, true, true, true, true, true, true, true, true, true, true, true, true, true, true, true, true, true, true, true, true, true, true, true, true, true, true, true, true, false] rfl rfl (by kernel_rfl) (fun _ _ _ h => h) (Or.inl ⟨by rfl, ?_⟩) ?_ ?_
                rotate_left
                · intro w'
                  go_simp
                  with_reducible rfl
                rotate_left
                · simp only [Act.put, List.setIfInBounds_toArray, List.set_cons_zero, List.set_cons_succ, i64_w, i32_w]
                  rfl
                refine pure_ (i := 30) (N := some 153) (v := ?_) (a' := ?_) #[true, true, true, true, true, true, true, true, true, true, true, true, true, true, true, true, true, true, true, true, true, true, true, true, true, true, true, true, true, true, true] rfl rfl (by kernel_rfl) (fun _ _ _ h => h) (Or.inl ⟨by rfl, ?_⟩) ?_ ?_
                rotate_left
                · intro w'
                  go_simp
                  with_reducible rfl
                rotate_left
                · simp only [Act.put, List.setIfInBounds_toArray, List.set_cons_zero, List.set_cons_succ, i64_w, i32_w]
                  rfl
                refine done_ (by kernel_rfl) ?_

                have hbA : Below wr.heap.size wr wA := by first | exact hbmA | exact below_weaken (w0 := wr) (below_drew (Below.refl _ _)) (Nat.le_refl _) hbmA
                have HSA := Aside0.mk (HS3.out.step (Nat.le_refl _) hbA)
                clear hHeld hbmA hbA
                go_wp2_with fail
                go_roundw
                case rel => exact ⟨q + 1, by go_num, by omega, HSA⟩
                case measure => simp [intOf]; omega
            · have b3 : decide ((q : Int) < (y'.n : Int)) = false := decide_eq_false (by omega)
              go_wp2
              go_roundw
              case rel => exact ⟨j + 1, by go_num, by omega, HS3⟩
              case measure => simp [intOf]; omega
        · have b2 : decide ((j : Int) < (Ls.length : Int)) = false := decide_eq_false (by omega)
          obtain ⟨x0, y0, a0, b0, hsh, hok⟩ := HS2.out.sh
          have HSH := Aside0.mk HS2.out.sh
          clear hsh hok
          go_wp2_with fail
          refine (plays_calls w.heap.size w _ w.heap.size _ _ (Nat.le_refl _) (by exact HSH.out) 4 0 0 _ (by unfold maxLen; decide)).mono ?_; rintro e wq2 ⟨rfl, st2, ok2, hS, _, _⟩
          have HSH2 := Aside0.mk hS
          clear hS
          go_wp2_with fail
          refine (plays_calls w.heap.size w _ w.heap.size _ _ (Nat.le_refl _) (by exact HSH2.out) 4 1 0 _ (by unfold maxLen; decide)).mono ?_; rintro e wq3 ⟨rfl, st3, ok3, hS, _, _⟩
          have HSH3 := Aside0.mk hS
          clear hS
          go_wp2
          go_ret
          exact ⟨rfl, HSH3.out.below⟩

theorem own_walk (most : Int) (A : Option Addr) (n c : Nat) (l : List StepT) (w : World) (hl : l.length = n) (hA : StepsAt w A l) (hc : n ≤ c) (hn : n ≤ 1048576) :
    Calls Try.prog 12 #[.int .i64 most, .slice A n c] w fun e w' => e = .returned (.bool true) ∧ Below w.heap.size w w' :=
  own_law w A n c l most hl hA hc hn
end Go.Proofs.Ytcnjdgafemgaeaa.Sym
