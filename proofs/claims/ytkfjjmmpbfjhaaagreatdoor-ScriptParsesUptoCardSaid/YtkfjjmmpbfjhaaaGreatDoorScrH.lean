/- The readers of the table of acts that read no list, walked. Conditions: those that each theorem states. -/
import Derived.Test.YtkfjjmmpbfjhaaaGreatDoorScrG
namespace Go.Proofs.YtkfjjmmpbfjhaaaGreatDoor.Tells
open Go.RowKit Go.Proofs.YtkfjjmmpbfjhaaaGreatDoor.Facts Go.Proofs.YtkfjjmmpbfjhaaaGreatDoor.PScriptActs Go.Proofs.YtkfjjmmpbfjhaaaGreatDoorW.PrintWords Go.Proofs.YtkfjjmmpbfjhaaaGreatDoorW.PrintLast Go.Proofs.YtkfjjmmpbfjhaaaGreatDoorW.PrintMore
attribute [local go_sem] max2_int min2_int max_two min_two max_three min_three max_four min_four
set_option linter.unusedVariables false
set_option linter.unusedSimpArgs false
/-- how a line's words are read by the places L -/
def ReadPost (w : World) (g : Nat) (t : TypeId) (cs : Array Value) (L : List Place) (ws : List ByteArray) (k : Int) (w' : World) : Prop := ∃ cs', Wrote w g (.cells cs' t (0, 0)) w' ∧ (k = 0 → L.length = ws.length ∧ oksP L ws = true ∧ cs' = putsP L ws cs) ∧ Alike cs cs'
def ReadK (L : List Place) (ws : List ByteArray) (k : Int) : Prop := (L.length ≠ ws.length → k = 243) ∧ (L.length = ws.length → oksP L ws = true → k = 0) ∧ (L.length = ws.length → oksP L ws = false → k = 244)
theorem ReadPost.then {w : World} {g : Nat} {t : TypeId} {cs : Array Value} {L : List Place} {ws : List ByteArray} {k : Int} {w' w2 : World} (h : ReadPost w g t cs L ws k w') (hb : Below w'.heap.size w' w2) : ReadPost w g t cs L ws k w2 := by
  obtain ⟨cs', h1, h2⟩ := h
  exact ⟨cs', h1.then hb, h2⟩
set_option maxHeartbeats 4000000 in
set_option maxRecDepth 100000 in
theorem read58 (w : World) (g : Nat) (cs : Array Value) (A : Option Addr) (ws : List ByteArray) (c : Nat) (hR : Reads w g 31 cs A ws) (hA : ActCells cs) (hc : ws.length ≤ c) (k : Int) (hk : ReadK [(true, 1)] ws k) :
    Calls Tryz.prog 58 #[.pointer (some ⟨g, 0, none⟩), .slice A ws.length c] w fun e w' => e = .returned (.int .i64 k) ∧ ReadPost w g 31 cs [(true, 1)] ws k w' := by
  have hgl : g < w.heap.size := blk_lt hR.blk
  have HF : Aside0 (∀ v w1, Below w.heap.size w w1 → isWant g [(true, 1)] v w1 → Calls Tryz.prog 54 #[v, .slice A ws.length c] w1 fun e w' => e = .returned (.int .i64 k) ∧ ReadPost w g 31 cs [(true, 1)] ws k w') := ⟨fun v w1 hb hw => want_from c hR hA (by intro p hp; simp at hp; subst hp; simp) hb hw hc (by simp) k hk⟩
  clear hR hA hk
  go_enter Tryz.func58, Tryz.ntmps58
  go_wp2_with (first
    | (go_at_call 53; refine (text_slot g 1 w hgl).mono ?_; rintro e w1 ⟨rfl, hs, hb⟩; have HS := Aside0.mk (And.intro hs hb); have HB2 := Aside0.mk (And.intro (hb.alloc hb.size (.cells #[.func (.func 88) #[] #[.pointer (some ⟨w.heap.size, 0, none⟩)]] 52)) (want1 hs (Nat.lt_of_lt_of_le hgl hb.size))); clear hs hb)
    | (go_at_call 54; refine (HF.out _ _ HB2.out.1 HB2.out.2).mono ?_; rintro e w3 ⟨rfl, hp⟩; have HP := Aside0.mk hp; clear hp))
  go_ret
  exact ⟨rfl, HP.out⟩
set_option maxHeartbeats 4000000 in
set_option maxRecDepth 100000 in
theorem read60 (w : World) (g : Nat) (cs : Array Value) (A : Option Addr) (ws : List ByteArray) (c : Nat) (hR : Reads w g 31 cs A ws) (hA : ActCells cs) (hc : ws.length ≤ c) (k : Int) (hk : ReadK [(true, 4)] ws k) :
    Calls Tryz.prog 60 #[.pointer (some ⟨g, 0, none⟩), .slice A ws.length c] w fun e w' => e = .returned (.int .i64 k) ∧ ReadPost w g 31 cs [(true, 4)] ws k w' := by
  have hgl : g < w.heap.size := blk_lt hR.blk
  have HF : Aside0 (∀ v w1, Below w.heap.size w w1 → isWant g [(true, 4)] v w1 → Calls Tryz.prog 54 #[v, .slice A ws.length c] w1 fun e w' => e = .returned (.int .i64 k) ∧ ReadPost w g 31 cs [(true, 4)] ws k w') := ⟨fun v w1 hb hw => want_from c hR hA (by intro p hp; simp at hp; subst hp; simp) hb hw hc (by simp) k hk⟩
  clear hR hA hk
  go_enter Tryz.func60, Tryz.ntmps60
  go_wp2_with (first
    | (go_at_call 53; refine (text_slot g 4 w hgl).mono ?_; rintro e w1 ⟨rfl, hs, hb⟩; have HS := Aside0.mk (And.intro hs hb); have HB2 := Aside0.mk (And.intro (hb.alloc hb.size (.cells #[.func (.func 88) #[] #[.pointer (some ⟨w.heap.size, 0, none⟩)]] 52)) (want1 hs (Nat.lt_of_lt_of_le hgl hb.size))); clear hs hb)
    | (go_at_call 54; refine (HF.out _ _ HB2.out.1 HB2.out.2).mono ?_; rintro e w3 ⟨rfl, hp⟩; have HP := Aside0.mk hp; clear hp))
  go_ret
  exact ⟨rfl, HP.out⟩
set_option maxHeartbeats 4000000 in
set_option maxRecDepth 100000 in
theorem read69 (w : World) (g : Nat) (cs : Array Value) (A : Option Addr) (ws : List ByteArray) (c : Nat) (hR : Reads w g 31 cs A ws) (hA : ActCells cs) (hc : ws.length ≤ c) (k : Int) (hk : ReadK [(false, 5)] ws k) :
    Calls Tryz.prog 69 #[.pointer (some ⟨g, 0, none⟩), .slice A ws.length c] w fun e w' => e = .returned (.int .i64 k) ∧ ReadPost w g 31 cs [(false, 5)] ws k w' := by
  have hgl : g < w.heap.size := blk_lt hR.blk
  have HF : Aside0 (∀ v w1, Below w.heap.size w w1 → isWant g [(false, 5)] v w1 → Calls Tryz.prog 54 #[v, .slice A ws.length c] w1 fun e w' => e = .returned (.int .i64 k) ∧ ReadPost w g 31 cs [(false, 5)] ws k w') := ⟨fun v w1 hb hw => want_from c hR hA (by intro p hp; simp at hp; subst hp; simp) hb hw hc (by simp) k hk⟩
  clear hR hA hk
  go_enter Tryz.func69, Tryz.ntmps69
  go_wp2_with (first
    | (go_at_call 63; refine (num_slot g 5 w hgl).mono ?_; rintro e w1 ⟨rfl, hs, hb⟩; have HS := Aside0.mk (And.intro hs hb); have HB2 := Aside0.mk (And.intro (hb.alloc hb.size (.cells #[.func (.func 90) #[] #[.pointer (some ⟨w.heap.size, 0, none⟩)]] 52)) (want1 hs (Nat.lt_of_lt_of_le hgl hb.size))); clear hs hb)
    | (go_at_call 54; refine (HF.out _ _ HB2.out.1 HB2.out.2).mono ?_; rintro e w3 ⟨rfl, hp⟩; have HP := Aside0.mk hp; clear hp))
  go_ret
  exact ⟨rfl, HP.out⟩
set_option maxHeartbeats 4000000 in
set_option maxRecDepth 100000 in
theorem read71 (w : World) (g : Nat) (cs : Array Value) (A : Option Addr) (ws : List ByteArray) (c : Nat) (hR : Reads w g 31 cs A ws) (hA : ActCells cs) (hc : ws.length ≤ c) (k : Int) (hk : ReadK [(true, 4)] ws k) :
    Calls Tryz.prog 71 #[.pointer (some ⟨g, 0, none⟩), .slice A ws.length c] w fun e w' => e = .returned (.int .i64 k) ∧ ReadPost w g 31 cs [(true, 4)] ws k w' := by
  have hgl : g < w.heap.size := blk_lt hR.blk
  have HF : Aside0 (∀ v w1, Below w.heap.size w w1 → isWant g [(true, 4)] v w1 → Calls Tryz.prog 54 #[v, .slice A ws.length c] w1 fun e w' => e = .returned (.int .i64 k) ∧ ReadPost w g 31 cs [(true, 4)] ws k w') := ⟨fun v w1 hb hw => want_from c hR hA (by intro p hp; simp at hp; subst hp; simp) hb hw hc (by simp) k hk⟩
  clear hR hA hk
  go_enter Tryz.func71, Tryz.ntmps71
  go_wp2_with (first
    | (go_at_call 53; refine (text_slot g 4 w hgl).mono ?_; rintro e w1 ⟨rfl, hs, hb⟩; have HS := Aside0.mk (And.intro hs hb); have HB2 := Aside0.mk (And.intro (hb.alloc hb.size (.cells #[.func (.func 88) #[] #[.pointer (some ⟨w.heap.size, 0, none⟩)]] 52)) (want1 hs (Nat.lt_of_lt_of_le hgl hb.size))); clear hs hb)
    | (go_at_call 54; refine (HF.out _ _ HB2.out.1 HB2.out.2).mono ?_; rintro e w3 ⟨rfl, hp⟩; have HP := Aside0.mk hp; clear hp))
  go_ret
  exact ⟨rfl, HP.out⟩
set_option maxHeartbeats 4000000 in
set_option maxRecDepth 100000 in
theorem read52 (w : World) (g : Nat) (cs : Array Value) (A : Option Addr) (ws : List ByteArray) (c : Nat) (hR : Reads w g 31 cs A ws) (hA : ActCells cs) (hc : ws.length ≤ c) (k : Int) (hk : ReadK [(true, 1), (true, 4)] ws k) :
    Calls Tryz.prog 52 #[.pointer (some ⟨g, 0, none⟩), .slice A ws.length c] w fun e w' => e = .returned (.int .i64 k) ∧ ReadPost w g 31 cs [(true, 1), (true, 4)] ws k w' := by
  have hgl : g < w.heap.size := blk_lt hR.blk
  have HF : Aside0 (∀ v w1, Below w.heap.size w w1 → isWant g [(true, 1), (true, 4)] v w1 → Calls Tryz.prog 54 #[v, .slice A ws.length c] w1 fun e w' => e = .returned (.int .i64 k) ∧ ReadPost w g 31 cs [(true, 1), (true, 4)] ws k w') := ⟨fun v w1 hb hw => want_from c hR hA (by intro p hp; simp at hp; rcases hp with rfl | rfl <;> simp) hb hw hc (by simp) k hk⟩
  clear hR hA hk
  go_enter Tryz.func52, Tryz.ntmps52
  go_wp2_with fail
  refine region_facts (ws := [10]) (G := fun e w' => Aside0 ((e = 0 → Below w.heap.size w w') ∧ (e = 1 → ReadPost w g 31 cs [(true, 1), (true, 4)] ws k w'))) (φs := [Fact.eq ?vu0, Fact.eq ?vu1, Fact.eq (.pointer (some ⟨g, 1, none⟩)), (⟨fun e x w => e = 0 → ∃ bx, x = .func (.func 88) #[] #[.pointer (some ⟨bx, 0, none⟩)] ∧ isSlot g (true, 1) x w, fun _ _ _ _ h hb he => by obtain ⟨bx, h1, h2⟩ := h he; exact ⟨bx, h1, h2.below hb⟩⟩ : Fact), Fact.eq ?vu4, Fact.eq ?vu5, Fact.eq (.pointer (some ⟨g, 4, none⟩)), (⟨fun e x w => e = 0 → ∃ bx, x = .func (.func 88) #[] #[.pointer (some ⟨bx, 0, none⟩)] ∧ isSlot g (true, 4) x w, fun _ _ _ _ h hb he => by obtain ⟨bx, h1, h2⟩ := h he; exact ⟨bx, h1, h2.below hb⟩⟩ : Fact), (⟨fun e x w => e = 0 → isWant g [(true, 1), (true, 4)] x w, fun _ _ _ _ h hb he => (h he).below hb⟩ : Fact), Fact.eq ?vu9, Fact.eq (.int .i64 k), Fact.eq ?vu11]) (n := 12) (m := 16) (by kernel_rfl) (by kernel_rfl) rfl rfl (by kernel_rfl) (fun _ _ _ h hb => ⟨fun he => below_then (h.out.1 he) (h.out.1 he).size hb, fun he => (h.out.2 he).then hb⟩) (⟨fun _ => below_drew (Below.refl _ _), fun he => by cases he⟩) ⟨?ou0, ?ou1, ?ou2, ?ou3, ?ou4, ?ou5, ?ou6, ?ou7, ?ou8, ?ou9, ?ou10, ?ou11, trivial⟩ ?finu
  case ou0 =>
    refine ask_val [.fix 0 _] rfl 5 rfl (.inl rfl) ⟨⟨by kernel_rfl, by conv => lhs; whnf⟩, trivial⟩ ?_
    dsimp only [Has, Fact.eq]
    intro e ρ w' hc hf hg hG h0
    go_simp
    with_reducible rfl
  case ou1 =>
    refine ask_val [.op 5 0 (Fact.eq _)] rfl 6 rfl (.inl rfl) ⟨⟨by kernel_rfl, rfl⟩, trivial⟩ ?_
    dsimp only [Has, Fact.eq]
    intro e ρ w' hc hf hg hG h5
    go_simp
    with_reducible rfl
  case ou2 =>
    refine ask_val [.op 6 1 (Fact.eq _)] rfl 7 rfl (.inl rfl) ⟨⟨by kernel_rfl, rfl⟩, trivial⟩ ?_
    dsimp only [Has, Fact.eq]
    intro e ρ w' hc hf hg hG h6
    go_simp
    first | done | rfl
  case ou3 =>
    refine ask_call [.op 7 2 (Fact.eq _)] rfl 8 rfl (.inl rfl) ⟨⟨by kernel_rfl, rfl⟩, trivial⟩ 0 0 (by kernel_rfl) 53 Tryz.func53 (by kernel_rfl) rfl rfl ?_
    dsimp only [Has, Fact.eq]
    intro e ρ w' hp hq hc hf hg hG h7
    obtain rfl : e = 0 := by omega
    have hb := hG.out.1 rfl
    refine ⟨#[.pointer (some ⟨g, 1, none⟩)], by simp only [List.map_toArray, List.map_cons, List.map_nil, h7], (text_slot g 1 _ (Nat.lt_of_lt_of_le hgl hb.size)).mono ?_⟩
    rintro en w2 ⟨rfl, hs, hb2⟩
    exact ⟨_, rfl, fun _ => ⟨_, rfl, hs⟩, hb2⟩
  case ou4 =>
    refine ask_val [.fix 0 _] rfl 9 rfl (.inl rfl) ⟨⟨by kernel_rfl, by conv => lhs; whnf⟩, trivial⟩ ?_
    dsimp only [Has, Fact.eq]
    intro e ρ w' hc hf hg hG h0
    go_simp
    with_reducible rfl
  case ou5 =>
    refine ask_val [.op 9 4 (Fact.eq _)] rfl 10 rfl (.inl rfl) ⟨⟨by kernel_rfl, rfl⟩, trivial⟩ ?_
    dsimp only [Has, Fact.eq]
    intro e ρ w' hc hf hg hG h9
    go_simp
    with_reducible rfl
  case ou6 =>
    refine ask_val [.op 10 5 (Fact.eq _)] rfl 11 rfl (.inl rfl) ⟨⟨by kernel_rfl, rfl⟩, trivial⟩ ?_
    dsimp only [Has, Fact.eq]
    intro e ρ w' hc hf hg hG h10
    go_simp
    first | done | rfl
  case ou7 =>
    refine ask_call [.op 11 6 (Fact.eq _)] rfl 12 rfl (.inl rfl) ⟨⟨by kernel_rfl, rfl⟩, trivial⟩ 0 0 (by kernel_rfl) 53 Tryz.func53 (by kernel_rfl) rfl rfl ?_
    dsimp only [Has, Fact.eq]
    intro e ρ w' hp hq hc hf hg hG h11
    obtain rfl : e = 0 := by omega
    have hb := hG.out.1 rfl
    refine ⟨#[.pointer (some ⟨g, 4, none⟩)], by simp only [List.map_toArray, List.map_cons, List.map_nil, h11], (text_slot g 4 _ (Nat.lt_of_lt_of_le hgl hb.size)).mono ?_⟩
    rintro en w2 ⟨rfl, hs, hb2⟩
    exact ⟨_, rfl, fun _ => ⟨_, rfl, hs⟩, hb2⟩
  case ou8 =>
    refine ask_step [.op 8 3 _, .op 12 7 _] rfl 13 rfl (.inl rfl) ⟨⟨by kernel_rfl, rfl⟩, ⟨by kernel_rfl, rfl⟩, trivial⟩ 0 0 (by kernel_rfl) ?_
    dsimp only [Has, Fact.eq]
    intro e ρ w' hp hq hc hf hg hG h8 h12
    obtain rfl : e = 0 := by omega
    have hb := hG.out.1 rfl
    obtain ⟨b1, e1, s1⟩ := h8 rfl
    obtain ⟨b2, e2, s2⟩ := h12 rfl
    rw [e1] at s1
    rw [e2] at s2
    refine ⟨.slice (some ⟨w'.heap.size, 0, none⟩) 2 2, w'.alloc (.cells #[.func (.func 88) #[] #[.pointer (some ⟨b1, 0, none⟩)], .func (.func 88) #[] #[.pointer (some ⟨b2, 0, none⟩)]] 52), ?_, fun _ => want2 s1 s2 (Nat.lt_of_lt_of_le hgl hb.size), below_alloc (Below.refl _ _) _⟩
    go_simp
    first | done | rfl
  case ou9 =>
    refine ask_val [.fix 1 _] rfl 14 rfl (.inl rfl) ⟨⟨by kernel_rfl, by conv => lhs; whnf⟩, trivial⟩ ?_
    dsimp only [Has, Fact.eq]
    intro e ρ w' hc hf hg hG h1
    go_simp
    with_reducible rfl
  case ou10 =>
    refine ask_wcall [.op 13 8 _, .op 14 9 (Fact.eq _)] rfl 15 rfl (.inl rfl) ⟨⟨by kernel_rfl, rfl⟩, ⟨by kernel_rfl, rfl⟩, trivial⟩ 0 0 (by kernel_rfl) 54 Tryz.func54 (by kernel_rfl) rfl rfl ?_
    dsimp only [Has, Fact.eq]
    intro e ρ w' hp hq hc hf hg hG h13 h14
    obtain rfl : e = 0 := by omega
    have hb := hG.out.1 rfl
    have hw := h13 rfl
    refine ⟨#[ρ (.tmp 13), .slice A ws.length c], by simp only [List.map_toArray, List.map_cons, List.map_nil, h14], (HF.out _ _ hb hw).mono ?_⟩
    rintro en w2 ⟨rfl, hp⟩
    exact ⟨_, rfl, rfl, ⟨fun he => (by cases he), fun _ => hp⟩, ⟨fun _ h => h, fun _ h => h, fun _ h => h, fun _ _ he => absurd he (Nat.succ_ne_zero _), fun _ h => h, fun _ h => h, fun _ h => h, fun _ _ he => absurd he (Nat.succ_ne_zero _), fun _ _ he => absurd he (Nat.succ_ne_zero _), fun _ h => h, fun _ h => h, fun _ h => h, trivial⟩⟩
  case ou11 =>
    refine ask_val [.op 15 10 (Fact.eq _)] rfl 4 rfl (.inl rfl) ⟨⟨by kernel_rfl, rfl⟩, trivial⟩ ?_
    dsimp only [Has, Fact.eq]
    intro e ρ w' hc hf hg hG h15
    go_simp
    with_reducible rfl
  case finu =>
    intro w' hG
    refine fin_eq (fin_eq (fin_eq (fin_fact (fun v3 hv3 => fin_eq (fin_eq (fin_eq (fin_fact (fun v7 hv7 => fin_fact (fun v8 hv8 => fin_eq (fin_eq (fin_eq (fin_nil (a' := ?_) ?_ ?_))))))))))))
    rotate_left
    · simp only [Act.put, List.setIfInBounds_toArray, List.set_cons_zero, List.set_cons_succ]
      rfl
    have HP := Aside0.mk (hG.out.2 rfl)
    clear hG
    go_wp2_with fail
    go_ret
    exact ⟨rfl, HP.out⟩
set_option maxHeartbeats 4000000 in
set_option maxRecDepth 100000 in
theorem read56 (w : World) (g : Nat) (cs : Array Value) (A : Option Addr) (ws : List ByteArray) (c : Nat) (hR : Reads w g 31 cs A ws) (hA : ActCells cs) (hc : ws.length ≤ c) (k : Int) (hk : ReadK [(true, 1), (true, 2)] ws k) :
    Calls Tryz.prog 56 #[.pointer (some ⟨g, 0, none⟩), .slice A ws.length c] w fun e w' => e = .returned (.int .i64 k) ∧ ReadPost w g 31 cs [(true, 1), (true, 2)] ws k w' := by
  have hgl : g < w.heap.size := blk_lt hR.blk
  have HF : Aside0 (∀ v w1, Below w.heap.size w w1 → isWant g [(true, 1), (true, 2)] v w1 → Calls Tryz.prog 54 #[v, .slice A ws.length c] w1 fun e w' => e = .returned (.int .i64 k) ∧ ReadPost w g 31 cs [(true, 1), (true, 2)] ws k w') := ⟨fun v w1 hb hw => want_from c hR hA (by intro p hp; simp at hp; rcases hp with rfl | rfl <;> simp) hb hw hc (by simp) k hk⟩
  clear hR hA hk
  go_enter Tryz.func56, Tryz.ntmps56
  go_wp2_with fail
  refine region_facts (ws := [10]) (G := fun e w' => Aside0 ((e = 0 → Below w.heap.size w w') ∧ (e = 1 → ReadPost w g 31 cs [(true, 1), (true, 2)] ws k w'))) (φs := [Fact.eq ?vu0, Fact.eq ?vu1, Fact.eq (.pointer (some ⟨g, 1, none⟩)), (⟨fun e x w => e = 0 → ∃ bx, x = .func (.func 88) #[] #[.pointer (some ⟨bx, 0, none⟩)] ∧ isSlot g (true, 1) x w, fun _ _ _ _ h hb he => by obtain ⟨bx, h1, h2⟩ := h he; exact ⟨bx, h1, h2.below hb⟩⟩ : Fact), Fact.eq ?vu4, Fact.eq ?vu5, Fact.eq (.pointer (some ⟨g, 2, none⟩)), (⟨fun e x w => e = 0 → ∃ bx, x = .func (.func 88) #[] #[.pointer (some ⟨bx, 0, none⟩)] ∧ isSlot g (true, 2) x w, fun _ _ _ _ h hb he => by obtain ⟨bx, h1, h2⟩ := h he; exact ⟨bx, h1, h2.below hb⟩⟩ : Fact), (⟨fun e x w => e = 0 → isWant g [(true, 1), (true, 2)] x w, fun _ _ _ _ h hb he => (h he).below hb⟩ : Fact), Fact.eq ?vu9, Fact.eq (.int .i64 k), Fact.eq ?vu11]) (n := 12) (m := 16) (by kernel_rfl) (by kernel_rfl) rfl rfl (by kernel_rfl) (fun _ _ _ h hb => ⟨fun he => below_then (h.out.1 he) (h.out.1 he).size hb, fun he => (h.out.2 he).then hb⟩) (⟨fun _ => below_drew (Below.refl _ _), fun he => by cases he⟩) ⟨?ou0, ?ou1, ?ou2, ?ou3, ?ou4, ?ou5, ?ou6, ?ou7, ?ou8, ?ou9, ?ou10, ?ou11, trivial⟩ ?finu
  case ou0 =>
    refine ask_val [.fix 0 _] rfl 5 rfl (.inl rfl) ⟨⟨by kernel_rfl, by conv => lhs; whnf⟩, trivial⟩ ?_
    dsimp only [Has, Fact.eq]
    intro e ρ w' hc hf hg hG h0
    go_simp
    with_reducible rfl
  case ou1 =>
    refine ask_val [.op 5 0 (Fact.eq _)] rfl 6 rfl (.inl rfl) ⟨⟨by kernel_rfl, rfl⟩, trivial⟩ ?_
    dsimp only [Has, Fact.eq]
    intro e ρ w' hc hf hg hG h5
    go_simp
    with_reducible rfl
  case ou2 =>
    refine ask_val [.op 6 1 (Fact.eq _)] rfl 7 rfl (.inl rfl) ⟨⟨by kernel_rfl, rfl⟩, trivial⟩ ?_
    dsimp only [Has, Fact.eq]
    intro e ρ w' hc hf hg hG h6
    go_simp
    first | done | rfl
  case ou3 =>
    refine ask_call [.op 7 2 (Fact.eq _)] rfl 8 rfl (.inl rfl) ⟨⟨by kernel_rfl, rfl⟩, trivial⟩ 0 0 (by kernel_rfl) 53 Tryz.func53 (by kernel_rfl) rfl rfl ?_
    dsimp only [Has, Fact.eq]
    intro e ρ w' hp hq hc hf hg hG h7
    obtain rfl : e = 0 := by omega
    have hb := hG.out.1 rfl
    refine ⟨#[.pointer (some ⟨g, 1, none⟩)], by simp only [List.map_toArray, List.map_cons, List.map_nil, h7], (text_slot g 1 _ (Nat.lt_of_lt_of_le hgl hb.size)).mono ?_⟩
    rintro en w2 ⟨rfl, hs, hb2⟩
    exact ⟨_, rfl, fun _ => ⟨_, rfl, hs⟩, hb2⟩
  case ou4 =>
    refine ask_val [.fix 0 _] rfl 9 rfl (.inl rfl) ⟨⟨by kernel_rfl, by conv => lhs; whnf⟩, trivial⟩ ?_
    dsimp only [Has, Fact.eq]
    intro e ρ w' hc hf hg hG h0
    go_simp
    with_reducible rfl
  case ou5 =>
    refine ask_val [.op 9 4 (Fact.eq _)] rfl 10 rfl (.inl rfl) ⟨⟨by kernel_rfl, rfl⟩, trivial⟩ ?_
    dsimp only [Has, Fact.eq]
    intro e ρ w' hc hf hg hG h9
    go_simp
    with_reducible rfl
  case ou6 =>
    refine ask_val [.op 10 5 (Fact.eq _)] rfl 11 rfl (.inl rfl) ⟨⟨by kernel_rfl, rfl⟩, trivial⟩ ?_
    dsimp only [Has, Fact.eq]
    intro e ρ w' hc hf hg hG h10
    go_simp
    first | done | rfl
  case ou7 =>
    refine ask_call [.op 11 6 (Fact.eq _)] rfl 12 rfl (.inl rfl) ⟨⟨by kernel_rfl, rfl⟩, trivial⟩ 0 0 (by kernel_rfl) 53 Tryz.func53 (by kernel_rfl) rfl rfl ?_
    dsimp only [Has, Fact.eq]
    intro e ρ w' hp hq hc hf hg hG h11
    obtain rfl : e = 0 := by omega
    have hb := hG.out.1 rfl
    refine ⟨#[.pointer (some ⟨g, 2, none⟩)], by simp only [List.map_toArray, List.map_cons, List.map_nil, h11], (text_slot g 2 _ (Nat.lt_of_lt_of_le hgl hb.size)).mono ?_⟩
    rintro en w2 ⟨rfl, hs, hb2⟩
    exact ⟨_, rfl, fun _ => ⟨_, rfl, hs⟩, hb2⟩
  case ou8 =>
    refine ask_step [.op 8 3 _, .op 12 7 _] rfl 13 rfl (.inl rfl) ⟨⟨by kernel_rfl, rfl⟩, ⟨by kernel_rfl, rfl⟩, trivial⟩ 0 0 (by kernel_rfl) ?_
    dsimp only [Has, Fact.eq]
    intro e ρ w' hp hq hc hf hg hG h8 h12
    obtain rfl : e = 0 := by omega
    have hb := hG.out.1 rfl
    obtain ⟨b1, e1, s1⟩ := h8 rfl
    obtain ⟨b2, e2, s2⟩ := h12 rfl
    rw [e1] at s1
    rw [e2] at s2
    refine ⟨.slice (some ⟨w'.heap.size, 0, none⟩) 2 2, w'.alloc (.cells #[.func (.func 88) #[] #[.pointer (some ⟨b1, 0, none⟩)], .func (.func 88) #[] #[.pointer (some ⟨b2, 0, none⟩)]] 52), ?_, fun _ => want2 s1 s2 (Nat.lt_of_lt_of_le hgl hb.size), below_alloc (Below.refl _ _) _⟩
    go_simp
    first | done | rfl
  case ou9 =>
    refine ask_val [.fix 1 _] rfl 14 rfl (.inl rfl) ⟨⟨by kernel_rfl, by conv => lhs; whnf⟩, trivial⟩ ?_
    dsimp only [Has, Fact.eq]
    intro e ρ w' hc hf hg hG h1
    go_simp
    with_reducible rfl
  case ou10 =>
    refine ask_wcall [.op 13 8 _, .op 14 9 (Fact.eq _)] rfl 15 rfl (.inl rfl) ⟨⟨by kernel_rfl, rfl⟩, ⟨by kernel_rfl, rfl⟩, trivial⟩ 0 0 (by kernel_rfl) 54 Tryz.func54 (by kernel_rfl) rfl rfl ?_
    dsimp only [Has, Fact.eq]
    intro e ρ w' hp hq hc hf hg hG h13 h14
    obtain rfl : e = 0 := by omega
    have hb := hG.out.1 rfl
    have hw := h13 rfl
    refine ⟨#[ρ (.tmp 13), .slice A ws.length c], by simp only [List.map_toArray, List.map_cons, List.map_nil, h14], (HF.out _ _ hb hw).mono ?_⟩
    rintro en w2 ⟨rfl, hp⟩
    exact ⟨_, rfl, rfl, ⟨fun he => (by cases he), fun _ => hp⟩, ⟨fun _ h => h, fun _ h => h, fun _ h => h, fun _ _ he => absurd he (Nat.succ_ne_zero _), fun _ h => h, fun _ h => h, fun _ h => h, fun _ _ he => absurd he (Nat.succ_ne_zero _), fun _ _ he => absurd he (Nat.succ_ne_zero _), fun _ h => h, fun _ h => h, fun _ h => h, trivial⟩⟩
  case ou11 =>
    refine ask_val [.op 15 10 (Fact.eq _)] rfl 4 rfl (.inl rfl) ⟨⟨by kernel_rfl, rfl⟩, trivial⟩ ?_
    dsimp only [Has, Fact.eq]
    intro e ρ w' hc hf hg hG h15
    go_simp
    with_reducible rfl
  case finu =>
    intro w' hG
    refine fin_eq (fin_eq (fin_eq (fin_fact (fun v3 hv3 => fin_eq (fin_eq (fin_eq (fin_fact (fun v7 hv7 => fin_fact (fun v8 hv8 => fin_eq (fin_eq (fin_eq (fin_nil (a' := ?_) ?_ ?_))))))))))))
    rotate_left
    · simp only [Act.put, List.setIfInBounds_toArray, List.set_cons_zero, List.set_cons_succ]
      rfl
    have HP := Aside0.mk (hG.out.2 rfl)
    clear hG
    go_wp2_with fail
    go_ret
    exact ⟨rfl, HP.out⟩
set_option maxHeartbeats 4000000 in
set_option maxRecDepth 100000 in
theorem read62 (w : World) (g : Nat) (cs : Array Value) (A : Option Addr) (ws : List ByteArray) (c : Nat) (hR : Reads w g 31 cs A ws) (hA : ActCells cs) (hc : ws.length ≤ c) (k : Int) (hk : ReadK [(false, 5), (false, 6)] ws k) :
    Calls Tryz.prog 62 #[.pointer (some ⟨g, 0, none⟩), .slice A ws.length c] w fun e w' => e = .returned (.int .i64 k) ∧ ReadPost w g 31 cs [(false, 5), (false, 6)] ws k w' := by
  have hgl : g < w.heap.size := blk_lt hR.blk
  have HF : Aside0 (∀ v w1, Below w.heap.size w w1 → isWant g [(false, 5), (false, 6)] v w1 → Calls Tryz.prog 54 #[v, .slice A ws.length c] w1 fun e w' => e = .returned (.int .i64 k) ∧ ReadPost w g 31 cs [(false, 5), (false, 6)] ws k w') := ⟨fun v w1 hb hw => want_from c hR hA (by intro p hp; simp at hp; rcases hp with rfl | rfl <;> simp) hb hw hc (by simp) k hk⟩
  clear hR hA hk
  go_enter Tryz.func62, Tryz.ntmps62
  go_wp2_with fail
  refine region_facts (ws := [10]) (G := fun e w' => Aside0 ((e = 0 → Below w.heap.size w w') ∧ (e = 1 → ReadPost w g 31 cs [(false, 5), (false, 6)] ws k w'))) (φs := [Fact.eq ?vu0, Fact.eq ?vu1, Fact.eq (.pointer (some ⟨g, 5, none⟩)), (⟨fun e x w => e = 0 → ∃ bx, x = .func (.func 90) #[] #[.pointer (some ⟨bx, 0, none⟩)] ∧ isSlot g (false, 5) x w, fun _ _ _ _ h hb he => by obtain ⟨bx, h1, h2⟩ := h he; exact ⟨bx, h1, h2.below hb⟩⟩ : Fact), Fact.eq ?vu4, Fact.eq ?vu5, Fact.eq (.pointer (some ⟨g, 6, none⟩)), (⟨fun e x w => e = 0 → ∃ bx, x = .func (.func 90) #[] #[.pointer (some ⟨bx, 0, none⟩)] ∧ isSlot g (false, 6) x w, fun _ _ _ _ h hb he => by obtain ⟨bx, h1, h2⟩ := h he; exact ⟨bx, h1, h2.below hb⟩⟩ : Fact), (⟨fun e x w => e = 0 → isWant g [(false, 5), (false, 6)] x w, fun _ _ _ _ h hb he => (h he).below hb⟩ : Fact), Fact.eq ?vu9, Fact.eq (.int .i64 k), Fact.eq ?vu11]) (n := 12) (m := 16) (by kernel_rfl) (by kernel_rfl) rfl rfl (by kernel_rfl) (fun _ _ _ h hb => ⟨fun he => below_then (h.out.1 he) (h.out.1 he).size hb, fun he => (h.out.2 he).then hb⟩) (⟨fun _ => below_drew (Below.refl _ _), fun he => by cases he⟩) ⟨?ou0, ?ou1, ?ou2, ?ou3, ?ou4, ?ou5, ?ou6, ?ou7, ?ou8, ?ou9, ?ou10, ?ou11, trivial⟩ ?finu
  case ou0 =>
    refine ask_val [.fix 0 _] rfl 5 rfl (.inl rfl) ⟨⟨by kernel_rfl, by conv => lhs; whnf⟩, trivial⟩ ?_
    dsimp only [Has, Fact.eq]
    intro e ρ w' hc hf hg hG h0
    go_simp
    with_reducible rfl
  case ou1 =>
    refine ask_val [.op 5 0 (Fact.eq _)] rfl 6 rfl (.inl rfl) ⟨⟨by kernel_rfl, rfl⟩, trivial⟩ ?_
    dsimp only [Has, Fact.eq]
    intro e ρ w' hc hf hg hG h5
    go_simp
    with_reducible rfl
  case ou2 =>
    refine ask_val [.op 6 1 (Fact.eq _)] rfl 7 rfl (.inl rfl) ⟨⟨by kernel_rfl, rfl⟩, trivial⟩ ?_
    dsimp only [Has, Fact.eq]
    intro e ρ w' hc hf hg hG h6
    go_simp
    first | done | rfl
  case ou3 =>
    refine ask_call [.op 7 2 (Fact.eq _)] rfl 8 rfl (.inl rfl) ⟨⟨by kernel_rfl, rfl⟩, trivial⟩ 0 0 (by kernel_rfl) 63 Tryz.func63 (by kernel_rfl) rfl rfl ?_
    dsimp only [Has, Fact.eq]
    intro e ρ w' hp hq hc hf hg hG h7
    obtain rfl : e = 0 := by omega
    have hb := hG.out.1 rfl
    refine ⟨#[.pointer (some ⟨g, 5, none⟩)], by simp only [List.map_toArray, List.map_cons, List.map_nil, h7], (num_slot g 5 _ (Nat.lt_of_lt_of_le hgl hb.size)).mono ?_⟩
    rintro en w2 ⟨rfl, hs, hb2⟩
    exact ⟨_, rfl, fun _ => ⟨_, rfl, hs⟩, hb2⟩
  case ou4 =>
    refine ask_val [.fix 0 _] rfl 9 rfl (.inl rfl) ⟨⟨by kernel_rfl, by conv => lhs; whnf⟩, trivial⟩ ?_
    dsimp only [Has, Fact.eq]
    intro e ρ w' hc hf hg hG h0
    go_simp
    with_reducible rfl
  case ou5 =>
    refine ask_val [.op 9 4 (Fact.eq _)] rfl 10 rfl (.inl rfl) ⟨⟨by kernel_rfl, rfl⟩, trivial⟩ ?_
    dsimp only [Has, Fact.eq]
    intro e ρ w' hc hf hg hG h9
    go_simp
    with_reducible rfl
  case ou6 =>
    refine ask_val [.op 10 5 (Fact.eq _)] rfl 11 rfl (.inl rfl) ⟨⟨by kernel_rfl, rfl⟩, trivial⟩ ?_
    dsimp only [Has, Fact.eq]
    intro e ρ w' hc hf hg hG h10
    go_simp
    first | done | rfl
  case ou7 =>
    refine ask_call [.op 11 6 (Fact.eq _)] rfl 12 rfl (.inl rfl) ⟨⟨by kernel_rfl, rfl⟩, trivial⟩ 0 0 (by kernel_rfl) 63 Tryz.func63 (by kernel_rfl) rfl rfl ?_
    dsimp only [Has, Fact.eq]
    intro e ρ w' hp hq hc hf hg hG h11
    obtain rfl : e = 0 := by omega
    have hb := hG.out.1 rfl
    refine ⟨#[.pointer (some ⟨g, 6, none⟩)], by simp only [List.map_toArray, List.map_cons, List.map_nil, h11], (num_slot g 6 _ (Nat.lt_of_lt_of_le hgl hb.size)).mono ?_⟩
    rintro en w2 ⟨rfl, hs, hb2⟩
    exact ⟨_, rfl, fun _ => ⟨_, rfl, hs⟩, hb2⟩
  case ou8 =>
    refine ask_step [.op 8 3 _, .op 12 7 _] rfl 13 rfl (.inl rfl) ⟨⟨by kernel_rfl, rfl⟩, ⟨by kernel_rfl, rfl⟩, trivial⟩ 0 0 (by kernel_rfl) ?_
    dsimp only [Has, Fact.eq]
    intro e ρ w' hp hq hc hf hg hG h8 h12
    obtain rfl : e = 0 := by omega
    have hb := hG.out.1 rfl
    obtain ⟨b1, e1, s1⟩ := h8 rfl
    obtain ⟨b2, e2, s2⟩ := h12 rfl
    rw [e1] at s1
    rw [e2] at s2
    refine ⟨.slice (some ⟨w'.heap.size, 0, none⟩) 2 2, w'.alloc (.cells #[.func (.func 90) #[] #[.pointer (some ⟨b1, 0, none⟩)], .func (.func 90) #[] #[.pointer (some ⟨b2, 0, none⟩)]] 52), ?_, fun _ => want2 s1 s2 (Nat.lt_of_lt_of_le hgl hb.size), below_alloc (Below.refl _ _) _⟩
    go_simp
    first | done | rfl
  case ou9 =>
    refine ask_val [.fix 1 _] rfl 14 rfl (.inl rfl) ⟨⟨by kernel_rfl, by conv => lhs; whnf⟩, trivial⟩ ?_
    dsimp only [Has, Fact.eq]
    intro e ρ w' hc hf hg hG h1
    go_simp
    with_reducible rfl
  case ou10 =>
    refine ask_wcall [.op 13 8 _, .op 14 9 (Fact.eq _)] rfl 15 rfl (.inl rfl) ⟨⟨by kernel_rfl, rfl⟩, ⟨by kernel_rfl, rfl⟩, trivial⟩ 0 0 (by kernel_rfl) 54 Tryz.func54 (by kernel_rfl) rfl rfl ?_
    dsimp only [Has, Fact.eq]
    intro e ρ w' hp hq hc hf hg hG h13 h14
    obtain rfl : e = 0 := by omega
    have hb := hG.out.1 rfl
    have hw := h13 rfl
    refine ⟨#[ρ (.tmp 13), .slice A ws.length c], by simp only [List.map_toArray, List.map_cons, List.map_nil, h14], (HF.out _ _ hb hw).mono ?_⟩
    rintro en w2 ⟨rfl, hp⟩
    exact ⟨_, rfl, rfl, ⟨fun he => (by cases he), fun _ => hp⟩, ⟨fun _ h => h, fun _ h => h, fun _ h => h, fun _ _ he => absurd he (Nat.succ_ne_zero _), fun _ h => h, fun _ h => h, fun _ h => h, fun _ _ he => absurd he (Nat.succ_ne_zero _), fun _ _ he => absurd he (Nat.succ_ne_zero _), fun _ h => h, fun _ h => h, fun _ h => h, trivial⟩⟩
  case ou11 =>
    refine ask_val [.op 15 10 (Fact.eq _)] rfl 4 rfl (.inl rfl) ⟨⟨by kernel_rfl, rfl⟩, trivial⟩ ?_
    dsimp only [Has, Fact.eq]
    intro e ρ w' hc hf hg hG h15
    go_simp
    with_reducible rfl
  case finu =>
    intro w' hG
    refine fin_eq (fin_eq (fin_eq (fin_fact (fun v3 hv3 => fin_eq (fin_eq (fin_eq (fin_fact (fun v7 hv7 => fin_fact (fun v8 hv8 => fin_eq (fin_eq (fin_eq (fin_nil (a' := ?_) ?_ ?_))))))))))))
    rotate_left
    · simp only [Act.put, List.setIfInBounds_toArray, List.set_cons_zero, List.set_cons_succ]
      rfl
    have HP := Aside0.mk (hG.out.2 rfl)
    clear hG
    go_wp2_with fail
    go_ret
    exact ⟨rfl, HP.out⟩
end Go.Proofs.YtkfjjmmpbfjhaaaGreatDoor.Tells
