/- The readers of the table of acts that read a list behind (readTwo, readOne), and readNothing, walked. The writers of the table of acts, walked. Words written are read back: byte words, numbers, in plain words. Conditions: those that each theorem states. -/
import Derived.Test.YtkfjjmmpbfjhaaaGreatDoorScrH
namespace Go.Proofs.YtkfjjmmpbfjhaaaGreatDoor.Tells
open Go.RowKit Go.Proofs.YtkfjjmmpbfjhaaaGreatDoor.Facts Go.Proofs.YtkfjjmmpbfjhaaaGreatDoor.PScriptActs Go.Proofs.YtkfjjmmpbfjhaaaGreatDoorW.PrintWords Go.Proofs.YtkfjjmmpbfjhaaaGreatDoorW.PrintLast Go.Proofs.YtkfjjmmpbfjhaaaGreatDoorW.PrintMore
attribute [local go_sem] max2_int min2_int max_two min_two max_three min_three max_four min_four
set_option linter.unusedVariables false
set_option linter.unusedSimpArgs false
/-- how a line's words are read by the places L and a list behind them -/
def ReadPostL (w : World) (g : Nat) (cs : Array Value) (L : List Place) (ws : List ByteArray) (k : Int) (w' : World) : Prop := ∃ cs' v, Wrote w g (.cells cs' 31 (0, 0)) w' ∧ (k = 0 → L.length ≤ ws.length ∧ oksP L (ws.take L.length) = true ∧ okL (ws.drop L.length) = true ∧ cs' = (putsP L (ws.take L.length) cs).setIfInBounds 3 v ∧ Kd.R Kd.string 9 w' w.heap.size (fun _ => True) v (unwL (ws.drop L.length))) ∧ Alike cs cs'
def ReadLK (L : List Place) (ws : List ByteArray) (k : Int) : Prop := (ws.length < L.length → k = 243) ∧ (L.length ≤ ws.length → oksP L (ws.take L.length) = false → k = 244) ∧ (L.length ≤ ws.length → oksP L (ws.take L.length) = true → okL (ws.drop L.length) = false → k = 244) ∧ (L.length ≤ ws.length → oksP L (ws.take L.length) = true → okL (ws.drop L.length) = true → k = 0)
theorem Reads.take {w : World} {g : Nat} {t : TypeId} {cs : Array Value} {A : Option Addr} {ws : List ByteArray} (h : Reads w g t cs A ws) (n : Nat) (hn : n ≤ ws.length) : Reads w g t cs A (ws.take n) :=
  ⟨h.blk, fun W o hW => Kd.C_take (h.keep W o hW) hn, h.env, fun s hs => h.len s (List.mem_of_mem_take hs)⟩
theorem puts_other : ∀ (L : List Place) (ws : List ByteArray) (cs : Array Value), actPlaces L → (putsP L ws cs)[3]? = cs[3]?
  | [], ws, cs, _ => by cases ws <;> rfl
  | p :: L, [], cs, _ => rfl
  | p :: L, s :: ws, cs, h => by
    show (putsP L ws (putP p s cs))[3]? = _
    rw [puts_other L ws _ (fun q hq => h q (List.mem_cons_of_mem _ hq))]
    unfold putP
    rcases h p List.mem_cons_self with rfl | rfl | rfl | rfl | rfl <;> exact Array.getElem?_setIfInBounds_ne (by decide)
theorem rest_names {w w1 : World} {g : Nat} {cs cs1 : Array Value} {A : Option Addr} {ws : List ByteArray} {L : List Place} (c : Nat) (hR : Reads w g 31 cs A ws) (hc3 : cs[3]? = some (.slice none 0 0)) (hL : actPlaces L) (hl : L.length ≤ ws.length) (hc : ws.length ≤ c) (hn : ws.length ≤ 1073741824) (hw : Wrote w g (.cells cs1 31 (0, 0)) w1) (hcs : cs1 = putsP L (ws.take L.length) cs) (hak : Alike cs cs1) (hok : oksP L (ws.take L.length) = true) (k : Int) (hk : ReadLK L ws k) :
    Calls Tryz.prog 86 #[.pointer (some ⟨g, 0, none⟩), .slice (if c = L.length then A else A.map (·.add L.length)) (ws.length - L.length) (c - L.length)] w1 fun e w' => e = .returned (.int .i64 k) ∧ ReadPostL w g cs L ws k w' := by
  have hdl : (ws.drop L.length).length = ws.length - L.length := List.length_drop
  have hC : ∀ W o, Wrote w1 g o W → Kd.C Kd.string W (if c = L.length then A else A.map (·.add L.length)) (ws.drop L.length).length (ws.drop L.length) := fun W o h => by
    have := Kd.C_drop (hR.keep W o (hw.again h)) hl hc
    have e : L.length * Kd.string.sz = L.length := by show L.length * 1 = _; omega
    rw [e] at this
    exact this
  have h3 : cs1[3]? = some (.slice none 0 0) := by rw [hcs, puts_other L _ _ hL]; exact hc3
  have := names_calls w1 g cs1 _ (ws.drop L.length) (c - L.length) hw.at_ h3 (hC w1 _ (Wrote.of (Below.refl _ _) hw.at_)) hC (fun s hs => hR.len s (List.mem_of_mem_drop hs)) (by omega) (by omega) k ⟨fun h => hk.2.2.2 hl hok h, fun h => hk.2.2.1 hl hok h⟩
  rw [hdl] at this
  refine this.mono ?_
  rintro e w' ⟨he, v, h1, h9, h2⟩
  refine ⟨he, _, v, hw.again h1, fun hk0 => ?_, hak.put h3 h9⟩
  have hok2 : okL (ws.drop L.length) = true := by
    cases hq : okL (ws.drop L.length) with
    | true => rfl
    | false => have := hk.2.2.1 hl hok hq; omega
  exact ⟨hl, hok, hok2, by rw [hcs], Kd.R_lower (h2 hok2) hw.size⟩
set_option maxHeartbeats 4000000 in
set_option maxRecDepth 100000 in
theorem read49 (w : World) (g : Nat) (cs : Array Value) (A : Option Addr) (ws : List ByteArray) (c : Nat) (hR : Reads w g 31 cs A ws) (hA : ActCells cs) (hc3 : cs[3]? = some (.slice none 0 0)) (hc : ws.length ≤ c) (hn : ws.length ≤ 1073741824) (k : Int) (hk : ReadLK [(true, 1), (true, 2)] ws k) :
    Calls Tryz.prog 49 #[.pointer (some ⟨g, 0, none⟩), .slice A ws.length c] w fun e w' => e = .returned (.int .i64 k) ∧ ReadPostL w g cs [(true, 1), (true, 2)] ws k w' := by
  have hgl : g < w.heap.size := blk_lt hR.blk
  have hL : actPlaces [(true, 1), (true, 2)] := by intro p hp; simp at hp; rcases hp with rfl | rfl <;> simp
  by_cases hl : ws.length < 2
  · have b0 : decide ((ws.length : Int) < 2) = true := decide_eq_true (by omega)
    have HW : Aside0 (k = 243 ∧ ReadPostL w g cs [(true, 1), (true, 2)] ws k w) := ⟨hk.1 hl, cs, .slice none 0 0, Wrote.of (Below.refl _ _) hR.blk, fun h => by have := hk.1 hl; omega, rfl⟩
    clear hR hA hk hc3 hL
    go_enter Tryz.func49, Tryz.ntmps49
    go_wp2_with fail
    go_ret
    exact ⟨by rw [HW.out.1]; rfl, HW.out.2⟩
  · have b0 : decide ((ws.length : Int) < 2) = false := decide_eq_false (by omega)
    have hm : 2 ≤ ws.length := by omega
    have hmc : 2 ≤ c := by omega
    have htl : (ws.take 2).length = 2 := by rw [List.length_take]; omega
    obtain ⟨k1, hk1⟩ : ∃ k1 : Int, (oksP [(true, 1), (true, 2)] (ws.take 2) = true → k1 = 0) ∧ (oksP [(true, 1), (true, 2)] (ws.take 2) = false → k1 = 244) := by
      cases hq : oksP [(true, 1), (true, 2)] (ws.take 2) with
      | true => exact ⟨0, fun _ => rfl, fun h => (by cases h)⟩
      | false => exact ⟨244, fun h => (by cases h), fun _ => rfl⟩
    have HF : Aside0 (∀ v w1, Below w.heap.size w w1 → isWant g [(true, 1), (true, 2)] v w1 → Calls Tryz.prog 54 #[v, .slice A 2 c] w1 fun e w' => e = .returned (.int .i64 k1) ∧ ReadPost w g 31 cs [(true, 1), (true, 2)] (ws.take 2) k1 w') := ⟨fun v w1 hb hw => by
      have := want_from (L := [(true, 1), (true, 2)]) c (hR.take 2 hm) hA hL hb hw (by rw [htl]; exact hmc) (by simp) k1 ⟨fun h => absurd htl.symm h, fun _ h => hk1.1 h, fun _ h => hk1.2 h⟩
      have e : Value.slice A (ws.take 2).length c = .slice A 2 c := by rw [htl]
      rw [e] at this
      exact this⟩
    have HN : Aside0 (∀ w1, ReadPost w g 31 cs [(true, 1), (true, 2)] (ws.take 2) 0 w1 → Calls Tryz.prog 86 #[.pointer (some ⟨g, 0, none⟩), .slice (if c = 2 then A else A.map (·.add 2)) (ws.length - 2) (c - 2)] w1 fun e w' => e = .returned (.int .i64 k) ∧ ReadPostL w g cs [(true, 1), (true, 2)] ws k w') := ⟨fun w1 h => by
      obtain ⟨cs1, h1, h2, h9⟩ := h
      obtain ⟨_, h3, h4⟩ := h2 rfl
      exact rest_names (L := [(true, 1), (true, 2)]) c hR hc3 hL hm hc hn h1 h4 h9 h3 k hk⟩
    have HK : Aside0 ((oksP [(true, 1), (true, 2)] (ws.take 2) = false → k = 244) ∧ (∀ w1, ReadPost w g 31 cs [(true, 1), (true, 2)] (ws.take 2) 244 w1 → k = 244 → ReadPostL w g cs [(true, 1), (true, 2)] ws k w1)) := ⟨fun h => hk.2.1 hm h, fun w1 h hk4 => by
      obtain ⟨cs1, h1, _, h9⟩ := h
      exact ⟨cs1, .slice none 0 0, h1, fun h0 => by omega, h9⟩⟩
    have HQ : Aside0 ((k1 = 0 ∧ oksP [(true, 1), (true, 2)] (ws.take 2) = true) ∨ (k1 = 244 ∧ oksP [(true, 1), (true, 2)] (ws.take 2) = false)) := ⟨by
      cases hq : oksP [(true, 1), (true, 2)] (ws.take 2) with
      | true => exact .inl ⟨hk1.1 hq, rfl⟩
      | false => exact .inr ⟨hk1.2 hq, rfl⟩⟩
    clear hR hA hk hc3 hL hk1 htl
    go_enter Tryz.func49, Tryz.ntmps49
    go_wp2_with fail
    refine region_facts (ws := [11]) (G := fun e w' => Aside0 ((e = 0 → Below w.heap.size w w') ∧ (e = 1 → ReadPost w g 31 cs [(true, 1), (true, 2)] (ws.take 2) k1 w'))) (φs := [Fact.eq ?vu0, Fact.eq ?vu1, Fact.eq (.pointer (some ⟨g, 1, none⟩)), (⟨fun e x w => e = 0 → ∃ bx, x = .func (.func 88) #[] #[.pointer (some ⟨bx, 0, none⟩)] ∧ isSlot g (true, 1) x w, fun _ _ _ _ h hb he => by obtain ⟨bx, h1, h2⟩ := h he; exact ⟨bx, h1, h2.below hb⟩⟩ : Fact), Fact.eq ?vu4, Fact.eq ?vu5, Fact.eq (.pointer (some ⟨g, 2, none⟩)), (⟨fun e x w => e = 0 → ∃ bx, x = .func (.func 88) #[] #[.pointer (some ⟨bx, 0, none⟩)] ∧ isSlot g (true, 2) x w, fun _ _ _ _ h hb he => by obtain ⟨bx, h1, h2⟩ := h he; exact ⟨bx, h1, h2.below hb⟩⟩ : Fact), (⟨fun e x w => e = 0 → isWant g [(true, 1), (true, 2)] x w, fun _ _ _ _ h hb he => (h he).below hb⟩ : Fact), Fact.eq ?vu9, Fact.eq (.slice A 2 c), Fact.eq (.int .i64 k1), Fact.eq ?vu12]) (n := 13) (m := 28) (by kernel_rfl) (by kernel_rfl) rfl rfl (by kernel_rfl) (fun _ _ _ h hb => ⟨fun he => below_then (h.out.1 he) (h.out.1 he).size hb, fun he => (h.out.2 he).then hb⟩) (⟨fun _ => below_drew (Below.refl _ _), fun he => by cases he⟩) ⟨?ou0, ?ou1, ?ou2, ?ou3, ?ou4, ?ou5, ?ou6, ?ou7, ?ou8, ?ou9, ?ou10, ?ou11, ?ou12, trivial⟩ ?finu
    case ou0 =>
      refine ask_val [.fix 0 _] rfl 9 rfl (.inl rfl) ⟨⟨by kernel_rfl, by conv => lhs; whnf⟩, trivial⟩ ?_
      dsimp only [Has, Fact.eq]
      intro e ρ w' hc hf hg hG h0
      go_simp
      with_reducible rfl
    case ou1 =>
      refine ask_val [.op 9 0 (Fact.eq _)] rfl 10 rfl (.inl rfl) ⟨⟨by kernel_rfl, rfl⟩, trivial⟩ ?_
      dsimp only [Has, Fact.eq]
      intro e ρ w' hc hf hg hG h9
      go_simp
      with_reducible rfl
    case ou2 =>
      refine ask_val [.op 10 1 (Fact.eq _)] rfl 11 rfl (.inl rfl) ⟨⟨by kernel_rfl, rfl⟩, trivial⟩ ?_
      dsimp only [Has, Fact.eq]
      intro e ρ w' hc hf hg hG h10
      go_simp
      first | done | rfl
    case ou3 =>
      refine ask_call [.op 11 2 (Fact.eq _)] rfl 12 rfl (.inl rfl) ⟨⟨by kernel_rfl, rfl⟩, trivial⟩ 0 0 (by kernel_rfl) 53 Tryz.func53 (by kernel_rfl) rfl rfl ?_
      dsimp only [Has, Fact.eq]
      intro e ρ w' hp hq hc hf hg hG h11
      obtain rfl : e = 0 := by omega
      have hb := hG.out.1 rfl
      refine ⟨#[.pointer (some ⟨g, 1, none⟩)], by simp only [List.map_toArray, List.map_cons, List.map_nil, h11], (text_slot g 1 _ (Nat.lt_of_lt_of_le hgl hb.size)).mono ?_⟩
      rintro en w2 ⟨rfl, hs, hb2⟩
      exact ⟨_, rfl, fun _ => ⟨_, rfl, hs⟩, hb2⟩
    case ou4 =>
      refine ask_val [.fix 0 _] rfl 13 rfl (.inl rfl) ⟨⟨by kernel_rfl, by conv => lhs; whnf⟩, trivial⟩ ?_
      dsimp only [Has, Fact.eq]
      intro e ρ w' hc hf hg hG h0
      go_simp
      with_reducible rfl
    case ou5 =>
      refine ask_val [.op 13 4 (Fact.eq _)] rfl 14 rfl (.inl rfl) ⟨⟨by kernel_rfl, rfl⟩, trivial⟩ ?_
      dsimp only [Has, Fact.eq]
      intro e ρ w' hc hf hg hG h13
      go_simp
      with_reducible rfl
    case ou6 =>
      refine ask_val [.op 14 5 (Fact.eq _)] rfl 15 rfl (.inl rfl) ⟨⟨by kernel_rfl, rfl⟩, trivial⟩ ?_
      dsimp only [Has, Fact.eq]
      intro e ρ w' hc hf hg hG h14
      go_simp
      first | done | rfl
    case ou7 =>
      refine ask_call [.op 15 6 (Fact.eq _)] rfl 16 rfl (.inl rfl) ⟨⟨by kernel_rfl, rfl⟩, trivial⟩ 0 0 (by kernel_rfl) 53 Tryz.func53 (by kernel_rfl) rfl rfl ?_
      dsimp only [Has, Fact.eq]
      intro e ρ w' hp hq hc hf hg hG h15
      obtain rfl : e = 0 := by omega
      have hb := hG.out.1 rfl
      refine ⟨#[.pointer (some ⟨g, 2, none⟩)], by simp only [List.map_toArray, List.map_cons, List.map_nil, h15], (text_slot g 2 _ (Nat.lt_of_lt_of_le hgl hb.size)).mono ?_⟩
      rintro en w2 ⟨rfl, hs, hb2⟩
      exact ⟨_, rfl, fun _ => ⟨_, rfl, hs⟩, hb2⟩
    case ou8 =>
      refine ask_step [.op 12 3 _, .op 16 7 _] rfl 17 rfl (.inl rfl) ⟨⟨by kernel_rfl, rfl⟩, ⟨by kernel_rfl, rfl⟩, trivial⟩ 0 0 (by kernel_rfl) ?_
      dsimp only [Has, Fact.eq]
      intro e ρ w' hp hq hc hf hg hG h12 h16
      obtain rfl : e = 0 := by omega
      have hb := hG.out.1 rfl
      obtain ⟨b0, e0, s0⟩ := h12 rfl
      rw [e0] at s0
      obtain ⟨b1, e1, s1⟩ := h16 rfl
      rw [e1] at s1
      refine ⟨.slice (some ⟨w'.heap.size, 0, none⟩) 2 2, w'.alloc (.cells #[.func (.func 88) #[] #[.pointer (some ⟨b0, 0, none⟩)], .func (.func 88) #[] #[.pointer (some ⟨b1, 0, none⟩)]] 52), ?_, fun _ => want2 s0 s1 (Nat.lt_of_lt_of_le hgl hb.size), below_alloc (Below.refl _ _) _⟩
      go_simp
      first | done | rfl
    case ou9 =>
      refine ask_val [.fix 1 _] rfl 18 rfl (.inl rfl) ⟨⟨by kernel_rfl, by conv => lhs; whnf⟩, trivial⟩ ?_
      dsimp only [Has, Fact.eq]
      intro e ρ w' hc hf hg hG h1
      go_simp
      with_reducible rfl
    case ou10 =>
      refine ask_val [.op 18 9 (Fact.eq _)] rfl 19 rfl (.inl rfl) ⟨⟨by kernel_rfl, rfl⟩, trivial⟩ ?_
      dsimp only [Has, Fact.eq]
      intro e ρ w' hc hf hg hG h18
      go_simp
      first | done | rfl | (intro h; omega)
    case ou11 =>
      refine ask_wcall [.op 17 8 _, .op 19 10 (Fact.eq _)] rfl 20 rfl (.inl rfl) ⟨⟨by kernel_rfl, rfl⟩, ⟨by kernel_rfl, rfl⟩, trivial⟩ 0 0 (by kernel_rfl) 54 Tryz.func54 (by kernel_rfl) rfl rfl ?_
      dsimp only [Has, Fact.eq]
      intro e ρ w' hp hq hc hf hg hG h17 h19
      obtain rfl : e = 0 := by omega
      have hb := hG.out.1 rfl
      have hw := h17 rfl
      refine ⟨#[ρ (.tmp 17), .slice A 2 c], by simp only [List.map_toArray, List.map_cons, List.map_nil, h19], (HF.out _ _ hb hw).mono ?_⟩
      rintro en w2 ⟨rfl, hp⟩
      exact ⟨_, rfl, rfl, ⟨fun he => (by cases he), fun _ => hp⟩, ⟨fun _ h => h, fun _ h => h, fun _ h => h, fun _ _ he => absurd he (Nat.succ_ne_zero _), fun _ h => h, fun _ h => h, fun _ h => h, fun _ _ he => absurd he (Nat.succ_ne_zero _), fun _ _ he => absurd he (Nat.succ_ne_zero _), fun _ h => h, fun _ h => h, fun _ h => h, fun _ h => h, trivial⟩⟩
    case ou12 =>
      refine ask_val [.op 20 11 (Fact.eq _)] rfl 5 rfl (.inl rfl) ⟨⟨by kernel_rfl, rfl⟩, trivial⟩ ?_
      dsimp only [Has, Fact.eq]
      intro e ρ w' hc hf hg hG h20
      go_simp
      with_reducible rfl
    case finu =>
      intro w' hG
      refine fin_eq (fin_eq (fin_eq (fin_fact (fun v3 hv3 => fin_eq (fin_eq (fin_eq (fin_fact (fun v7 hv7 => fin_fact (fun v8 hv8 => fin_eq (fin_eq (fin_eq (fin_eq (fin_nil (a' := ?_) ?_ ?_)))))))))))))
      rotate_left
      · simp only [Act.put, List.setIfInBounds_toArray, List.set_cons_zero, List.set_cons_succ]
        rfl
      have HP := Aside0.mk (hG.out.2 rfl)
      clear hG
      rcases HQ.out with ⟨rfl, hq⟩ | ⟨rfl, hq⟩
      · clear hq
        go_wp2_with (go_at_call 86; go_must (refine (HN.out _ HP.out).mono ?_); rintro e w9 ⟨rfl, hp9⟩; have HP9 := Aside0.mk hp9; clear hp9)
        all_goals
          go_ret
          exact ⟨rfl, HP9.out⟩
      · have hk4 := HK.out.1 hq
        have HP9 := Aside0.mk (And.intro hk4 (HK.out.2 _ HP.out hk4))
        clear hq hk4
        go_wp2_with fail
        go_ret
        exact ⟨by rw [HP9.out.1]; rfl, HP9.out.2⟩
set_option maxHeartbeats 4000000 in
set_option maxRecDepth 100000 in
theorem read65 (w : World) (g : Nat) (cs : Array Value) (A : Option Addr) (ws : List ByteArray) (c : Nat) (hR : Reads w g 31 cs A ws) (hA : ActCells cs) (hc3 : cs[3]? = some (.slice none 0 0)) (hc : ws.length ≤ c) (hn : ws.length ≤ 1073741824) (k : Int) (hk : ReadLK [(true, 1)] ws k) :
    Calls Tryz.prog 65 #[.pointer (some ⟨g, 0, none⟩), .slice A ws.length c] w fun e w' => e = .returned (.int .i64 k) ∧ ReadPostL w g cs [(true, 1)] ws k w' := by
  have hgl : g < w.heap.size := blk_lt hR.blk
  have hL : actPlaces [(true, 1)] := by intro p hp; simp at hp; subst hp; simp
  by_cases hl : ws.length < 1
  · have b0 : decide ((ws.length : Int) < 1) = true := decide_eq_true (by omega)
    have HW : Aside0 (k = 243 ∧ ReadPostL w g cs [(true, 1)] ws k w) := ⟨hk.1 hl, cs, .slice none 0 0, Wrote.of (Below.refl _ _) hR.blk, fun h => by have := hk.1 hl; omega, rfl⟩
    clear hR hA hk hc3 hL
    go_enter Tryz.func65, Tryz.ntmps65
    go_wp2_with fail
    go_ret
    exact ⟨by rw [HW.out.1]; rfl, HW.out.2⟩
  · have b0 : decide ((ws.length : Int) < 1) = false := decide_eq_false (by omega)
    have hm : 1 ≤ ws.length := by omega
    have hmc : 1 ≤ c := by omega
    have htl : (ws.take 1).length = 1 := by rw [List.length_take]; omega
    obtain ⟨k1, hk1⟩ : ∃ k1 : Int, (oksP [(true, 1)] (ws.take 1) = true → k1 = 0) ∧ (oksP [(true, 1)] (ws.take 1) = false → k1 = 244) := by
      cases hq : oksP [(true, 1)] (ws.take 1) with
      | true => exact ⟨0, fun _ => rfl, fun h => (by cases h)⟩
      | false => exact ⟨244, fun h => (by cases h), fun _ => rfl⟩
    have HF : Aside0 (∀ v w1, Below w.heap.size w w1 → isWant g [(true, 1)] v w1 → Calls Tryz.prog 54 #[v, .slice A 1 c] w1 fun e w' => e = .returned (.int .i64 k1) ∧ ReadPost w g 31 cs [(true, 1)] (ws.take 1) k1 w') := ⟨fun v w1 hb hw => by
      have := want_from (L := [(true, 1)]) c (hR.take 1 hm) hA hL hb hw (by rw [htl]; exact hmc) (by simp) k1 ⟨fun h => absurd htl.symm h, fun _ h => hk1.1 h, fun _ h => hk1.2 h⟩
      have e : Value.slice A (ws.take 1).length c = .slice A 1 c := by rw [htl]
      rw [e] at this
      exact this⟩
    have HN : Aside0 (∀ w1, ReadPost w g 31 cs [(true, 1)] (ws.take 1) 0 w1 → Calls Tryz.prog 86 #[.pointer (some ⟨g, 0, none⟩), .slice (if c = 1 then A else A.map (·.add 1)) (ws.length - 1) (c - 1)] w1 fun e w' => e = .returned (.int .i64 k) ∧ ReadPostL w g cs [(true, 1)] ws k w') := ⟨fun w1 h => by
      obtain ⟨cs1, h1, h2, h9⟩ := h
      obtain ⟨_, h3, h4⟩ := h2 rfl
      exact rest_names (L := [(true, 1)]) c hR hc3 hL hm hc hn h1 h4 h9 h3 k hk⟩
    have HK : Aside0 ((oksP [(true, 1)] (ws.take 1) = false → k = 244) ∧ (∀ w1, ReadPost w g 31 cs [(true, 1)] (ws.take 1) 244 w1 → k = 244 → ReadPostL w g cs [(true, 1)] ws k w1)) := ⟨fun h => hk.2.1 hm h, fun w1 h hk4 => by
      obtain ⟨cs1, h1, _, h9⟩ := h
      exact ⟨cs1, .slice none 0 0, h1, fun h0 => by omega, h9⟩⟩
    have HQ : Aside0 ((k1 = 0 ∧ oksP [(true, 1)] (ws.take 1) = true) ∨ (k1 = 244 ∧ oksP [(true, 1)] (ws.take 1) = false)) := ⟨by
      cases hq : oksP [(true, 1)] (ws.take 1) with
      | true => exact .inl ⟨hk1.1 hq, rfl⟩
      | false => exact .inr ⟨hk1.2 hq, rfl⟩⟩
    clear hR hA hk hc3 hL hk1 htl
    go_enter Tryz.func65, Tryz.ntmps65
    go_wp2_with fail
    refine region_facts (ws := [7]) (G := fun e w' => Aside0 ((e = 0 → Below w.heap.size w w') ∧ (e = 1 → ReadPost w g 31 cs [(true, 1)] (ws.take 1) k1 w'))) (φs := [Fact.eq ?vu0, Fact.eq ?vu1, Fact.eq (.pointer (some ⟨g, 1, none⟩)), (⟨fun e x w => e = 0 → ∃ bx, x = .func (.func 88) #[] #[.pointer (some ⟨bx, 0, none⟩)] ∧ isSlot g (true, 1) x w, fun _ _ _ _ h hb he => by obtain ⟨bx, h1, h2⟩ := h he; exact ⟨bx, h1, h2.below hb⟩⟩ : Fact), (⟨fun e x w => e = 0 → isWant g [(true, 1)] x w, fun _ _ _ _ h hb he => (h he).below hb⟩ : Fact), Fact.eq ?vu5, Fact.eq (.slice A 1 c), Fact.eq (.int .i64 k1), Fact.eq ?vu8]) (n := 9) (m := 24) (by kernel_rfl) (by kernel_rfl) rfl rfl (by kernel_rfl) (fun _ _ _ h hb => ⟨fun he => below_then (h.out.1 he) (h.out.1 he).size hb, fun he => (h.out.2 he).then hb⟩) (⟨fun _ => below_drew (Below.refl _ _), fun he => by cases he⟩) ⟨?ou0, ?ou1, ?ou2, ?ou3, ?ou4, ?ou5, ?ou6, ?ou7, ?ou8, trivial⟩ ?finu
    case ou0 =>
      refine ask_val [.fix 0 _] rfl 9 rfl (.inl rfl) ⟨⟨by kernel_rfl, by conv => lhs; whnf⟩, trivial⟩ ?_
      dsimp only [Has, Fact.eq]
      intro e ρ w' hc hf hg hG h0
      go_simp
      with_reducible rfl
    case ou1 =>
      refine ask_val [.op 9 0 (Fact.eq _)] rfl 10 rfl (.inl rfl) ⟨⟨by kernel_rfl, rfl⟩, trivial⟩ ?_
      dsimp only [Has, Fact.eq]
      intro e ρ w' hc hf hg hG h9
      go_simp
      with_reducible rfl
    case ou2 =>
      refine ask_val [.op 10 1 (Fact.eq _)] rfl 11 rfl (.inl rfl) ⟨⟨by kernel_rfl, rfl⟩, trivial⟩ ?_
      dsimp only [Has, Fact.eq]
      intro e ρ w' hc hf hg hG h10
      go_simp
      first | done | rfl
    case ou3 =>
      refine ask_call [.op 11 2 (Fact.eq _)] rfl 12 rfl (.inl rfl) ⟨⟨by kernel_rfl, rfl⟩, trivial⟩ 0 0 (by kernel_rfl) 53 Tryz.func53 (by kernel_rfl) rfl rfl ?_
      dsimp only [Has, Fact.eq]
      intro e ρ w' hp hq hc hf hg hG h11
      obtain rfl : e = 0 := by omega
      have hb := hG.out.1 rfl
      refine ⟨#[.pointer (some ⟨g, 1, none⟩)], by simp only [List.map_toArray, List.map_cons, List.map_nil, h11], (text_slot g 1 _ (Nat.lt_of_lt_of_le hgl hb.size)).mono ?_⟩
      rintro en w2 ⟨rfl, hs, hb2⟩
      exact ⟨_, rfl, fun _ => ⟨_, rfl, hs⟩, hb2⟩
    case ou4 =>
      refine ask_step [.op 12 3 _] rfl 13 rfl (.inl rfl) ⟨⟨by kernel_rfl, rfl⟩, trivial⟩ 0 0 (by kernel_rfl) ?_
      dsimp only [Has, Fact.eq]
      intro e ρ w' hp hq hc hf hg hG h12
      obtain rfl : e = 0 := by omega
      have hb := hG.out.1 rfl
      obtain ⟨b0, e0, s0⟩ := h12 rfl
      rw [e0] at s0
      refine ⟨.slice (some ⟨w'.heap.size, 0, none⟩) 1 1, w'.alloc (.cells #[.func (.func 88) #[] #[.pointer (some ⟨b0, 0, none⟩)]] 52), ?_, fun _ => want1 s0 (Nat.lt_of_lt_of_le hgl hb.size), below_alloc (Below.refl _ _) _⟩
      go_simp
      first | done | rfl
    case ou5 =>
      refine ask_val [.fix 1 _] rfl 14 rfl (.inl rfl) ⟨⟨by kernel_rfl, by conv => lhs; whnf⟩, trivial⟩ ?_
      dsimp only [Has, Fact.eq]
      intro e ρ w' hc hf hg hG h1
      go_simp
      with_reducible rfl
    case ou6 =>
      refine ask_val [.op 14 5 (Fact.eq _)] rfl 15 rfl (.inl rfl) ⟨⟨by kernel_rfl, rfl⟩, trivial⟩ ?_
      dsimp only [Has, Fact.eq]
      intro e ρ w' hc hf hg hG h14
      go_simp
      first | done | rfl | (intro h; omega)
    case ou7 =>
      refine ask_wcall [.op 13 4 _, .op 15 6 (Fact.eq _)] rfl 16 rfl (.inl rfl) ⟨⟨by kernel_rfl, rfl⟩, ⟨by kernel_rfl, rfl⟩, trivial⟩ 0 0 (by kernel_rfl) 54 Tryz.func54 (by kernel_rfl) rfl rfl ?_
      dsimp only [Has, Fact.eq]
      intro e ρ w' hp hq hc hf hg hG h13 h15
      obtain rfl : e = 0 := by omega
      have hb := hG.out.1 rfl
      have hw := h13 rfl
      refine ⟨#[ρ (.tmp 13), .slice A 1 c], by simp only [List.map_toArray, List.map_cons, List.map_nil, h15], (HF.out _ _ hb hw).mono ?_⟩
      rintro en w2 ⟨rfl, hp⟩
      exact ⟨_, rfl, rfl, ⟨fun he => (by cases he), fun _ => hp⟩, ⟨fun _ h => h, fun _ h => h, fun _ h => h, fun _ _ he => absurd he (Nat.succ_ne_zero _), fun _ _ he => absurd he (Nat.succ_ne_zero _), fun _ h => h, fun _ h => h, fun _ h => h, fun _ h => h, trivial⟩⟩
    case ou8 =>
      refine ask_val [.op 16 7 (Fact.eq _)] rfl 5 rfl (.inl rfl) ⟨⟨by kernel_rfl, rfl⟩, trivial⟩ ?_
      dsimp only [Has, Fact.eq]
      intro e ρ w' hc hf hg hG h16
      go_simp
      with_reducible rfl
    case finu =>
      intro w' hG
      refine fin_eq (fin_eq (fin_eq (fin_fact (fun v3 hv3 => fin_fact (fun v4 hv4 => fin_eq (fin_eq (fin_eq (fin_eq (fin_nil (a' := ?_) ?_ ?_)))))))))
      rotate_left
      · simp only [Act.put, List.setIfInBounds_toArray, List.set_cons_zero, List.set_cons_succ]
        rfl
      have HP := Aside0.mk (hG.out.2 rfl)
      clear hG
      rcases HQ.out with ⟨rfl, hq⟩ | ⟨rfl, hq⟩
      · clear hq
        go_wp2_with (go_at_call 86; go_must (refine (HN.out _ HP.out).mono ?_); rintro e w9 ⟨rfl, hp9⟩; have HP9 := Aside0.mk hp9; clear hp9)
        all_goals
          go_ret
          exact ⟨rfl, HP9.out⟩
      · have hk4 := HK.out.1 hq
        have HP9 := Aside0.mk (And.intro hk4 (HK.out.2 _ HP.out hk4))
        clear hq hk4
        go_wp2_with fail
        go_ret
        exact ⟨by rw [HP9.out.1]; rfl, HP9.out.2⟩
set_option maxHeartbeats 4000000 in
set_option maxRecDepth 100000 in
theorem read67 (w : World) (g : Nat) (cs : Array Value) (A : Option Addr) (ws : List ByteArray) (c : Nat) (hR : Reads w g 31 cs A ws) (hA : ActCells cs) (hc : ws.length ≤ c) (k : Int) (hk : ReadK [] ws k) :
    Calls Tryz.prog 67 #[.pointer (some ⟨g, 0, none⟩), .slice A ws.length c] w fun e w' => e = .returned (.int .i64 k) ∧ ReadPost w g 31 cs [] ws k w' := by
  have hgl : g < w.heap.size := blk_lt hR.blk
  have HF : Aside0 (∀ v w1, Below w.heap.size w w1 → isWant g [] v w1 → Calls Tryz.prog 54 #[v, .slice A ws.length c] w1 fun e w' => e = .returned (.int .i64 k) ∧ ReadPost w g 31 cs [] ws k w') := ⟨fun v w1 hb hw => want_from c hR hA (by intro p hp; cases hp) hb hw hc (by simp) k hk⟩
  clear hR hA hk
  go_enter Tryz.func67, Tryz.ntmps67
  go_wp2_with (go_at_call 54; refine (HF.out _ _ (below_alloc (Below.refl _ _) _) ⟨w.heap.size, [], rfl, rfl, Nat.ne_of_gt hgl, fun j s h => by simp at h, fun s h => by cases h⟩).mono ?_; rintro e w3 ⟨rfl, hp⟩; have HP := Aside0.mk hp; clear hp)
  go_ret
  exact ⟨rfl, HP.out⟩
end Go.Proofs.YtkfjjmmpbfjhaaaGreatDoor.Tells
namespace Go.Proofs.YtkfjjmmpbfjhaaaGreatDoor.Tells
open Go.RowKit Go.Proofs.YtkfjjmmpbfjhaaaGreatDoor.Facts Go.Proofs.YtkfjjmmpbfjhaaaGreatDoor.PScriptActs Go.Proofs.YtkfjjmmpbfjhaaaGreatDoorW.PrintWords Go.Proofs.YtkfjjmmpbfjhaaaGreatDoorW.PrintLast Go.Proofs.YtkfjjmmpbfjhaaaGreatDoorW.PrintMore
attribute [local go_sem] max2_int min2_int max_two min_two max_three min_three max_four min_four
set_option linter.unusedVariables false
set_option linter.unusedSimpArgs false
def inI (x : Int) : Prop := -9223372036854775808 ≤ x ∧ x ≤ 9223372036854775807
/-- what an act may hold: the second form's bulk -/
structure Aok (a : S31) : Prop where
  kind : inI a.f0
  name : a.f1.size ≤ 1048576
  other : a.f2.size ≤ 1048576
  names : ∀ s ∈ a.f3, s.size ≤ 1048576
  count : a.f3.length ≤ 1048576
  text : a.f4.size ≤ 1048576
  number : inI a.f5
  fuel : inI a.f6
  sum : (a.f3.map (·.size)).sum ≤ 1048576
end Go.Proofs.YtkfjjmmpbfjhaaaGreatDoor.Tells
namespace Go.Proofs.YtkfjjmmpbfjhaaaGreatDoor.Tells
open Go.RowKit Go.Proofs.YtkfjjmmpbfjhaaaGreatDoor.PScriptActs
set_option linter.unusedVariables false
set_option linter.unusedSimpArgs false
theorem bl_word (s : ByteArray) : bl (wordB s) = 61 :: encw (bl s) := by unfold wordB bl; simp
theorem digit_is {d : Nat} (h : d < 10) : isDig (UInt8.ofNat (48 + d)) = true ∧ (UInt8.ofNat (48 + d)).toNat = 48 + d := by
  rcases (show d = 0 ∨ d = 1 ∨ d = 2 ∨ d = 3 ∨ d = 4 ∨ d = 5 ∨ d = 6 ∨ d = 7 ∨ d = 8 ∨ d = 9 by omega) with rfl | rfl | rfl | rfl | rfl | rfl | rfl | rfl | rfl | rfl <;> decide
theorem dec_digits (u : Nat) : (∀ c ∈ Lib.decDigits u, isDig c = true) ∧ Lib.decDigits u ≠ [] := by
  induction u using Nat.strongRecOn with
  | _ u ih =>
    rw [Lib.decDigits]
    by_cases h : u < 10
    · rw [dif_pos h]
      exact ⟨fun c hc => by rw [List.mem_singleton] at hc; subst hc; exact (digit_is h).1, by simp⟩
    · rw [dif_neg h]
      refine ⟨fun c hc => ?_, by simp⟩
      rcases List.mem_append.1 hc with hc | hc
      · exact (ih (u / 10) (by omega)).1 c hc
      · rw [List.mem_singleton] at hc; subst hc; exact (digit_is (by omega)).1
theorem parse_app : ∀ (l m : List UInt8) (acc v : Nat), Lib.parseUint10 acc l = .ok v → Lib.parseUint10 acc (l ++ m) = Lib.parseUint10 v m
  | [], m, acc, v, h => by
    rw [Lib.parseUint10] at h
    injection h with h
    rw [List.nil_append, h]
  | c :: r, m, acc, v, h => by
    rw [Lib.parseUint10] at h
    rw [List.cons_append, Lib.parseUint10]
    by_cases h1 : 48 ≤ c.toNat ∧ c.toNat ≤ 57
    · rw [if_pos h1] at h ⊢
      by_cases h2 : 1844674407370955162 ≤ acc
      · rw [if_pos h2] at h; cases h
      · rw [if_neg h2] at h ⊢
        by_cases h3 : 18446744073709551616 ≤ acc * 10 + (c.toNat - 48)
        · rw [if_pos h3] at h; cases h
        · rw [if_neg h3] at h ⊢
          exact parse_app r m _ v h
    · rw [if_neg h1] at h; cases h
theorem parse_dec (u : Nat) (hu : u < 18446744073709551616) : Lib.parseUint10 0 (Lib.decDigits u) = .ok u := by
  induction u using Nat.strongRecOn with
  | _ u ih =>
    rw [Lib.decDigits]
    by_cases h : u < 10
    · rw [dif_pos h]
      obtain ⟨_, h2⟩ := digit_is h
      rw [Lib.parseUint10, h2, if_pos (by omega), if_neg (by omega), if_neg (by omega), Lib.parseUint10]
      congr 1
      omega
    · rw [dif_neg h, parse_app _ _ _ _ (ih (u / 10) (by omega) (by omega))]
      obtain ⟨_, h2⟩ := digit_is (d := u % 10) (by omega)
      rw [Lib.parseUint10, h2, if_pos (by omega), if_neg (by omega), if_neg (by omega), Lib.parseUint10]
      congr 1
      omega
theorem trim_dec (l : List UInt8) (h : ∀ c ∈ l, isDig c = true) : Lib.trimPrefix l [45] = l := by
  unfold Lib.trimPrefix
  rw [if_neg]
  cases l with
  | nil => simp [Lib.hasPrefix, List.isPrefixOf]
  | cons c r =>
    have hc := h c List.mem_cons_self
    intro hp
    unfold Lib.hasPrefix at hp
    simp [List.isPrefixOf] at hp
    subst hp
    exact absurd hc (by decide)
theorem numW_itoa (n : Int) (h : inI n) : numW (bl (itoaB n)) = some n := by
  have e : bl (itoaB n) = Lib.itoa n := by unfold itoaB bl; simp
  rw [e]
  obtain ⟨h0, h1⟩ := h
  unfold numW
  by_cases hn : n < 0
  · have hi : Lib.itoa n = 45 :: Lib.decDigits n.natAbs := by unfold Lib.itoa; rw [if_pos hn]
    obtain ⟨hd, hne⟩ := dec_digits n.natAbs
    have ht : Lib.trimPrefix (Lib.itoa n) [45] = Lib.decDigits n.natAbs := by
      rw [hi]; unfold Lib.trimPrefix; rw [if_pos (by simp [Lib.hasPrefix, List.isPrefixOf])]; rfl
    have ha : Lib.atoiAll (Lib.itoa n) = .ok n := by
      rw [hi, Lib.atoiAll_minus]
      unfold Lib.parseMag
      rw [if_neg hne, parse_dec _ (by omega)]
      unfold Lib.signed
      simp only
      rw [if_neg (by omega)]
      congr 1
      omega
    rw [ht, if_pos (List.all_eq_true.2 hd), ha]
    simp only
    rw [if_pos trivial]
  · have hi : Lib.itoa n = Lib.decDigits n.toNat := by unfold Lib.itoa; rw [if_neg hn]
    obtain ⟨hd, hne⟩ := dec_digits n.toNat
    have ht : Lib.trimPrefix (Lib.itoa n) [45] = Lib.decDigits n.toNat := by rw [hi]; exact trim_dec _ hd
    have ha : Lib.atoiAll (Lib.itoa n) = .ok n := by
      rw [hi]
      cases hl : Lib.decDigits n.toNat with
      | nil => exact absurd hl hne
      | cons c r =>
        have hc : isDig c = true := hd c (by rw [hl]; exact List.mem_cons_self)
        unfold isDig at hc
        simp at hc
        rw [Lib.atoiAll_plain c r (by omega) (by omega), ← hl]
        unfold Lib.parseMag
        rw [if_neg hne, parse_dec _ (by omega)]
        unfold Lib.signless
        simp only
        rw [if_neg (by omega)]
        congr 1
        omega
    rw [ht, if_pos (List.all_eq_true.2 hd), ha]
    simp only
    rw [if_pos trivial]
end Go.Proofs.YtkfjjmmpbfjhaaaGreatDoor.Tells
