/- ScriptRound's walk. errors.As over a line's error. A line's error: its text, what it wraps. Conditions: those that each theorem states. -/
import Derived.Test.YtkfjjmmpbfjhaaaGreatDoorScrX4
import Derived.Test.YtkfjjmmpbfjhaaaGreatDoorScrZ2
import Derived.Test.YtkfjjmmpbfjhaaaGreatDoorBuild
import Derived.WalkKit
import Derived.LaidEql
import Derived.Stop.Asserts
import Derived.RowKitTokens
namespace Go.Proofs.YtkfjjmmpbfjhaaaGreatDoor.Tells
open Go.RowKit Go.Proofs.YtkfjjmmpbfjhaaaGreatDoor.Facts Go.Proofs.YtkfjjmmpbfjhaaaGreatDoor.PScriptActs Go.Proofs.YtkfjjmmpbfjhaaaGreatDoorW.PrintWords Go.Proofs.YtkfjjmmpbfjhaaaGreatDoorW.PrintLast Go.Proofs.YtkfjjmmpbfjhaaaGreatDoorW.PrintMore
attribute [local go_sem] max2_int min2_int max_two min_two max_three min_three max_four min_four
set_option linter.unusedVariables false
set_option linter.unusedSimpArgs false
/-- the two plays' blocks -/
structure RoundAt (W : World) (p0 p1 : Int) (A : Option Addr) (n c : Nat) (wr : World) : Prop where
  below : Below W.heap.size W wr
  one : wr.heap[W.heap.size]? = some (.cells #[.int .i64 p0, .int .i64 p1, .slice A n c] 24 (0, 0))
  two : wr.heap[W.heap.size + 1]? = some (.cells #[.int .i64 p0, .int .i64 p1, .slice none 0 0] 24 (0, 0))
theorem RoundAt.next {W : World} {p0 p1 : Int} {A : Option Addr} {n c : Nat} {wr w2 : World} (h : RoundAt W p0 p1 A n c wr) (hb : Below wr.heap.size wr w2) : RoundAt W p0 p1 A n c w2 :=
  ⟨below_then h.below h.below.size hb, (hb.block _ (blk_lt h.one)).trans h.one, (hb.block _ (blk_lt h.two)).trans h.two⟩
theorem sameP_refl (p0 p1 : Int) (acts : List S31) : sameP p0 p1 acts p0 p1 acts = true := by
  unfold sameP; simp
end Go.Proofs.YtkfjjmmpbfjhaaaGreatDoor.Tells
namespace Go.Proofs.YtkfjjmmpbfjhaaaGreatDoor.Tells
open Go.RowKit Go.Extern.Stop Go.Stop Go.Extern
theorem Tryz.valueOf27 (t : Addr) (w : World) : (ReflectliteValue.unpack (.iface 88 (.pointer (some t)))).run Tryz.prog w
    = .ok (.agg #[.pointer (some ⟨16, 88, none⟩), .pointer (some ⟨w.heap.size, 0, none⟩), .int .u64 150]) (w.alloc (.cells #[.pointer (some t)] 88)) := by kernel_rfl
theorem Tryz.type27 (a : Addr) (w : World) : (ReflectliteValue.methodAny (ReflectliteValue.valueError "reflectlite.Value.Type" 0) (fun t _ _ _ => ReflectliteType.toType t) #[.agg #[.pointer (some ⟨16, 88, none⟩), .pointer (some a), .int .u64 150]]).run Tryz.prog w
    = .ok (.iface 127 (.agg #[.pointer (some ⟨16, 88, none⟩)])) w := by kernel_rfl
theorem Tryz.methodKind (h : Value) (w : World) : (Go.method 333 127 (.agg #[h]) "Kind").run Tryz.prog w = .ok (165, h) w := by kernel_rfl
theorem Tryz.kind27 (w : World) : ((ReflectliteType.abiMethod fun t => (fun a : Nat => Value.int IntKind.u8 (a : Int)) <$> Rtype.kind t) #[.pointer (some ⟨16, 88, none⟩)]).run Tryz.prog w = .ok (.int .u8 22) w := by kernel_rfl
theorem Tryz.kind25 (w : World) : ((ReflectliteType.abiMethod fun t => (fun a : Nat => Value.int IntKind.u8 (a : Int)) <$> Rtype.kind t) #[.pointer (some ⟨16, 55, none⟩)]).run Tryz.prog w = .ok (.int .u8 22) w := by kernel_rfl

/-! ### THE ENTRIES THAT READ OR WRITE MEMORY: laws with a premise on the cell (after Derived/Lib/ReflectliteSlice.lean's manner: each unfolding a lemma of its own, by rfl) -/
theorem rlm (z : Sem Value) (f : TypeId → Addr → Nat → Nat → Sem Value) (v : Value) :
    ReflectliteValue.method z f #[v] = (do match ← ReflectliteValue.parts v with | none => z | some (t, a, fl) => f t a fl (fl % 32)) := rfl
theorem Tryz.parts27 (a : Addr) (w : World) : (ReflectliteValue.parts (.agg #[.pointer (some ⟨16, 88, none⟩), .pointer (some a), .int .u64 150])).run Tryz.prog w = .ok (some (88, a, 150)) w := by kernel_rfl
/-- (Value).IsNil at the Value of a **p.E that is not nil. -/
theorem Tryz.isNil27 (a p : Addr) (W : World) (ha : W.cell? a = some (.pointer (some p))) :
    (ReflectliteValue.method (ReflectliteValue.valueError "reflectlite.Value.IsNil" 0) ReflectliteValue.isNil #[.agg #[.pointer (some ⟨16, 88, none⟩), .pointer (some a), .int .u64 150]]).run Tryz.prog W = .ok (.bool false) W := by
  rw [rlm]
  simp only [Sem.run_bind, Tryz.parts27, Result.andThen]
  simp [ReflectliteValue.isNil, loadVar, isAgg, underlying, Tryz.underlying88, ha, Result.andThen]

theorem Tryz.methodElem (h : Value) (w : World) : (Go.method 333 127 (.agg #[h]) "Elem").run Tryz.prog w = .ok (175, .agg #[h]) w := by kernel_rfl
theorem Tryz.methodImplements (h : Value) (w : World) : (Go.method 333 127 (.agg #[h]) "Implements").run Tryz.prog w = .ok (176, .agg #[h]) w := by kernel_rfl
theorem Tryz.methodAssignableTo (h : Value) (w : World) : (Go.method 333 127 (.agg #[h]) "AssignableTo").run Tryz.prog w = .ok (173, .agg #[h]) w := by kernel_rfl
theorem Tryz.elem27 (w : World) : (ReflectliteType.method ReflectliteType.elem #[.agg #[.pointer (some ⟨16, 88, none⟩)]]).run Tryz.prog w = .ok (.iface 127 (.agg #[.pointer (some ⟨16, 55, none⟩)])) w := by kernel_rfl
theorem Tryz.implements25 (w : World) : (ReflectliteType.relation "Implements" ReflectliteType.implements_ #[.agg #[.pointer (some ⟨16, 55, none⟩)], .iface 127 (.agg #[.pointer (some ⟨16, 45, none⟩)])]).run Tryz.prog w = .ok (.bool true) w := by kernel_rfl
theorem Tryz.typeOf25 (v : Value) (w : World) : (ReflectliteType.typeOf #[.iface 55 v]).run Tryz.prog w = .ok (.iface 127 (.agg #[.pointer (some ⟨16, 55, none⟩)])) w := by kernel_rfl
theorem Tryz.assignable25 (w : World) : (ReflectliteType.relation "AssignableTo" ReflectliteType.assignableTo #[.agg #[.pointer (some ⟨16, 55, none⟩)], .iface 127 (.agg #[.pointer (some ⟨16, 55, none⟩)])]).run Tryz.prog w = .ok (.bool true) w := by kernel_rfl
theorem Tryz.valueOf25 (e : Addr) (w : World) : (ReflectliteValue.unpack (.iface 55 (.pointer (some e)))).run Tryz.prog w
    = .ok (.agg #[.pointer (some ⟨16, 55, none⟩), .pointer (some ⟨w.heap.size, 0, none⟩), .int .u64 150]) (w.alloc (.cells #[.pointer (some e)] 55)) := by kernel_rfl

theorem Tryz.elemOf88 (w : World) : (Rtype.elem? 88).run Tryz.prog w = .ok (some 55) w := by kernel_rfl
theorem Tryz.mk25 (p : Addr) (w : World) : (ReflectliteValue.mk 55 p ReflectliteValue.flagAddr).run Tryz.prog w = .ok (.agg #[.pointer (some ⟨16, 55, none⟩), .pointer (some p), .int .u64 406]) w := by kernel_rfl
/-- (Value).Elem at the Value of a **p.E that is not nil: the Value of the *p.E variable that it points to, addressable. -/
theorem Tryz.elemV27 (a p : Addr) (W : World) (ha : W.cell? a = some (.pointer (some p))) :
    (ReflectliteValue.method (ReflectliteValue.valueError "reflectlite.Value.Elem" 0) ReflectliteValue.elem #[.agg #[.pointer (some ⟨16, 88, none⟩), .pointer (some a), .int .u64 150]]).run Tryz.prog W
      = .ok (.agg #[.pointer (some ⟨16, 55, none⟩), .pointer (some p), .int .u64 406]) W := by
  rw [rlm]
  simp only [Sem.run_bind, Tryz.parts27, Result.andThen]
  simp [ReflectliteValue.elem, loadVar, isAgg, underlying, Tryz.underlying88, ha, Result.andThen, Tryz.elemOf88, Tryz.mk25]
theorem rls (v x : Value) : ReflectliteValue.set #[v, x] = (do
    let (some (dst, a, fl), some (src, b, _)) := (← ReflectliteValue.parts v, ← ReflectliteValue.parts x)
      | unsupported (.noEntry "extern/(internal/reflectlite.Value).Set.zeroValue")
    if fl / ReflectliteValue.flagAddr % 2 == 0 then unsupported (.noEntry "extern/(internal/reflectlite.Value).Set.unaddressable")
    let val ← loadVar src b
    if ← Rtype.directlyAssignable dst src then storeVar dst a val
    else if ← Rtype.implements dst src then
      if (← Rtype.kind src) == 20 then
        match val with
        | .nilIface => unsupported (.noEntry "extern/reflectlite: a nil value of one interface type handed on as a value of another")
        | _ => storeVar dst a val
      else storeVar dst a (.iface src val)
    else panicString ("reflectlite.Set: value of type " ++ (← Rtype.spelt src) ++ " is not assignable to type " ++ (← Rtype.spelt dst))
    pure (.tuple #[])) := rfl
theorem Tryz.parts25a (a : Addr) (w : World) : (ReflectliteValue.parts (.agg #[.pointer (some ⟨16, 55, none⟩), .pointer (some a), .int .u64 406])).run Tryz.prog w = .ok (some (55, a, 406)) w := by kernel_rfl
theorem Tryz.parts25 (a : Addr) (w : World) : (ReflectliteValue.parts (.agg #[.pointer (some ⟨16, 55, none⟩), .pointer (some a), .int .u64 150])).run Tryz.prog w = .ok (some (55, a, 150)) w := by kernel_rfl
theorem Tryz.direct25 (w : World) : (Rtype.directlyAssignable 55 55).run Tryz.prog w = .ok true w := by kernel_rfl
/-- (Value).Set: the *p.E variable at 'ta' gets what the Value's own variable 'b' holds. -/
theorem Tryz.set25 (ta b e : Addr) (old : Value) (W : World) (hb : W.cell? b = some (.pointer (some e))) (ht : W.cell? ta = some old) (hf : W.frozen? ta = false) :
    (ReflectliteValue.set #[.agg #[.pointer (some ⟨16, 55, none⟩), .pointer (some ta), .int .u64 406], .agg #[.pointer (some ⟨16, 55, none⟩), .pointer (some b), .int .u64 150]]).run Tryz.prog W
      = .ok (.tuple #[]) (W.setCell ta (.pointer (some e))) := by
  rw [rls]
  simp only [Sem.run_bind, Tryz.parts25a, Tryz.parts25, Result.andThen]
  simp [ReflectliteValue.flagAddr, loadVar, isAgg, underlying, Tryz.underlying55, hb, Result.andThen, Tryz.direct25, storeVar, Value.cells, storeCells, Addr.add]
  rw [run_store Tryz.prog W ta _ _ (by rfl)]
  simp [ht, hf]

set_option maxHeartbeats 4000000 in
set_option maxRecDepth 100000 in
theorem as_hit (e t : Addr) (old : Value) (w : World) (hg : w.cell? ⟨1, 0, none⟩ = some (.iface 127 (.agg #[.pointer (some ⟨16, 45, none⟩)]))) (ht0 : w.cell? t = some old) (hf0 : w.frozen? t = false) :
    Calls Tryz.prog 41 #[.iface 55 (.pointer (some e)), .iface 88 (.pointer (some t))] w fun ev w' => ev = .returned (.bool true) ∧ w' = ((((w.alloc (.cells #[.pointer (some t)] 88)).alloc (.cells #[.pointer (some ⟨16, 88, none⟩), .pointer (some ⟨w.heap.size, 0, none⟩), .int .u64 150] 119)).alloc (.cells #[.pointer (some ⟨16, 88, none⟩), .pointer (some ⟨w.heap.size, 0, none⟩), .int .u64 150] 119)).alloc (.cells #[.pointer (some e)] 55)).setCell t (.pointer (some e)) := by
  have h6 := @run_callFunc_extern Tryz.prog 80 _ (fun args => ReflectliteValue.unpack (args.getD 0 (.tuple #[]))) Tryz.func80 (by kernel_rfl) (by kernel_rfl) (by kernel_rfl) (by kernel_rfl)
  have h7 := @run_callFunc_extern Tryz.prog 81 _ (ReflectliteValue.methodAny (ReflectliteValue.valueError "reflectlite.Value.Type" 0) (fun t _ _ _ => ReflectliteType.toType t)) Tryz.func81 (by kernel_rfl) (by kernel_rfl) (by kernel_rfl) (by kernel_rfl)
  have h8 := @run_callFunc_extern Tryz.prog 82 _ (ReflectliteValue.method (ReflectliteValue.valueError "reflectlite.Value.IsNil" 0) ReflectliteValue.isNil) Tryz.func82 (by kernel_rfl) (by kernel_rfl) (by kernel_rfl) (by kernel_rfl)
  have h27 := @run_callFunc_extern Tryz.prog 165 _ (ReflectliteType.abiMethod fun t => do pure (.int .u8 (← Rtype.kind t))) Tryz.func165 (by kernel_rfl) (by kernel_rfl) (by kernel_rfl) (by kernel_rfl)
  have h37 := @run_callFunc_extern Tryz.prog 175 _ (ReflectliteType.method ReflectliteType.elem) Tryz.func175 (by kernel_rfl) (by kernel_rfl) (by kernel_rfl) (by kernel_rfl)
  have h38 := @run_callFunc_extern Tryz.prog 176 _ (ReflectliteType.relation "Implements" ReflectliteType.implements_) Tryz.func176 (by kernel_rfl) (by kernel_rfl) (by kernel_rfl) (by kernel_rfl)
  have h10 := @run_callFunc_extern Tryz.prog 42 _ ReflectliteType.typeOf Tryz.func42 (by kernel_rfl) (by kernel_rfl) (by kernel_rfl) (by kernel_rfl)
  have h35 := @run_callFunc_extern Tryz.prog 173 _ (ReflectliteType.relation "AssignableTo" ReflectliteType.assignableTo) Tryz.func173 (by kernel_rfl) (by kernel_rfl) (by kernel_rfl) (by kernel_rfl)
  have h11 := @run_callFunc_extern Tryz.prog 98 _ (ReflectliteValue.method (ReflectliteValue.valueError "reflectlite.Value.Elem" 0) ReflectliteValue.elem) Tryz.func98 (by kernel_rfl) (by kernel_rfl) (by kernel_rfl) (by kernel_rfl)
  have h12 := @run_callFunc_extern Tryz.prog 99 _ ReflectliteValue.set Tryz.func99 (by kernel_rfl) (by kernel_rfl) (by kernel_rfl) (by kernel_rfl)
  have tO := Tryz.typeOf25
  have mA := Tryz.methodAssignableTo
  have a25 := Tryz.assignable25
  have v25 := Tryz.valueOf25
  have f6 := Tryz.valueOf27
  have f7 := Tryz.type27
  have mK := Tryz.methodKind
  have mE := Tryz.methodElem
  have mI := Tryz.methodImplements
  have k27 := Tryz.kind27
  have k25 := Tryz.kind25
  have e27 := Tryz.elem27
  have i25 := Tryz.implements25
  have n8 := Tryz.isNil27 ⟨w.heap.size, 0, none⟩ t ((w.alloc (.cells #[.pointer (some t)] 88)).alloc (.cells #[.pointer (some ⟨16, 88, none⟩), .pointer (some ⟨w.heap.size, 0, none⟩), .int .u64 150] 119)) (by simp)
  have hlt : 1 < w.heap.size := by
    rcases Nat.lt_or_ge 1 w.heap.size with h | h
    · exact h
    · simp [World.cell?, Array.getElem?_eq_none h] at hg
  have hg2 : ((w.alloc (.cells #[.pointer (some t)] 88)).alloc (.cells #[.pointer (some ⟨16, 88, none⟩), .pointer (some ⟨w.heap.size, 0, none⟩), .int .u64 150] 119)).cell? ⟨1, 0, none⟩ = some (.iface 127 (.agg #[.pointer (some ⟨16, 45, none⟩)])) := by
    rw [World.cell?_alloc_lt _ _ ⟨1, 0, none⟩ (by simp; omega), World.cell?_alloc_lt _ _ ⟨1, 0, none⟩ hlt]; exact hg
  have htl : t.block < w.heap.size := by
    rcases Nat.lt_or_ge t.block w.heap.size with h | h
    · exact h
    · simp [World.cell?, Array.getElem?_eq_none h] at ht0
  have el := Tryz.elemV27 ⟨w.heap.size, 0, none⟩ t (((w.alloc (.cells #[.pointer (some t)] 88)).alloc (.cells #[.pointer (some ⟨16, 88, none⟩), .pointer (some ⟨w.heap.size, 0, none⟩), .int .u64 150] 119)).alloc (.cells #[.pointer (some ⟨16, 88, none⟩), .pointer (some ⟨w.heap.size, 0, none⟩), .int .u64 150] 119)) (by rw [World.cell?_alloc_lt _ _ ⟨w.heap.size, 0, none⟩ (by simp; omega)]; simp)
  have st := Tryz.set25 t ⟨w.heap.size + 1 + 1 + 1, 0, none⟩ e old ((((w.alloc (.cells #[.pointer (some t)] 88)).alloc (.cells #[.pointer (some ⟨16, 88, none⟩), .pointer (some ⟨w.heap.size, 0, none⟩), .int .u64 150] 119)).alloc (.cells #[.pointer (some ⟨16, 88, none⟩), .pointer (some ⟨w.heap.size, 0, none⟩), .int .u64 150] 119)).alloc (.cells #[.pointer (some e)] 55))
    (by rw [World.cell?_alloc_at _ _ _ _ (by simp)]; rfl)
    (by rw [World.cell?_alloc_lt _ _ t (by simp; omega), World.cell?_alloc_lt _ _ t (by simp; omega), World.cell?_alloc_lt _ _ t (by simp; omega), World.cell?_alloc_lt _ _ t htl]; exact ht0)
    (by rw [World.frozen?_alloc_old _ _ t (by simp; omega), World.frozen?_alloc_old _ _ t (by simp; omega), World.frozen?_alloc_old _ _ t (by simp; omega), World.frozen?_alloc_old _ _ t (Nat.ne_of_lt htl)]; exact hf0)
  go_enter Tryz.func41, Tryz.ntmps41
  go_wp2
  refine wp_loop_rounds 1 ?_
  rw [rounds_succ]
  go_wp2
  go_ret
  exact ⟨rfl, rfl⟩
end Go.Proofs.YtkfjjmmpbfjhaaaGreatDoor.Tells
namespace Go.Proofs.YtkfjjmmpbfjhaaaGreatDoor.Facts
open Go.RowKit
set_option linter.unusedVariables false
set_option linter.unusedSimpArgs false
section
variable {P : Program} {Q : Exit → Act → World → Prop} {l : List Oper} {ws : List Nat} {G : Nat → World → Prop} {φs : List Fact} {a0 : Act}
variable {i : Nat} {o : Oper} {φ : Fact}
/-- A call, however it is found. -/
theorem ask_enter (ns : List Need) (hws : ws.contains i = false) (d : Tmp) (hd : o.dst = some d) (hg : On l φs i o) (hok : okN l φs a0 i ns) (p q : Nat) (he : epB l ws i p q = true)
    (h : ∀ e (ρ : Operand → Value) w, p ≤ e → e ≤ q → (∀ c, ρ (.const c) = c) → (∀ f, ρ (.func f) = .func (.func f) #[] #[]) → (∀ g, ρ (.global g) = .pointer (some ⟨g, 0, Option.none⟩)) → G e w → Has e ρ w ns (∃ f args, (execOp ρ o).run P w = .ok (.enter f args) w ∧ Calls P f args w fun en w' => ∃ v, en = .returned v ∧ φ.f e v w' ∧ Below w.heap.size w w')) :
    Ask P Q l ws G φs a0 i o φ := by
  unfold Ask
  rw [if_neg (by rw [hws]; simp)]
  intro e a w K hlo hhi hgl hfix hpre hK
  rw [if_pos (on_wanted hpre hg)]
  simp only [epB, Bool.and_eq_true, beq_iff_eq] at he
  obtain ⟨f, args, hrun, hc⟩ := has_elim hfix hpre ns hok (h e a.eval w (by omega) (by omega) (fun _ => rfl) (fun _ => rfl) (fun _ => rfl) hgl)
  refine enter_wp (f := f) (args := args) hrun (hc.mono ?_)
  rintro en w' ⟨v, rfl, h1, h2⟩
  exact ⟨v, rfl, hK _ _ (by rw [hd]; exact h1) h2⟩
end
end Go.Proofs.YtkfjjmmpbfjhaaaGreatDoor.Facts
namespace Go.Proofs.YtkfjjmmpbfjhaaaGreatDoor.Tells
open Go.RowKit Go.Proofs.YtkfjjmmpbfjhaaaGreatDoor.Facts Go.Proofs.YtkfjjmmpbfjhaaaGreatDoor.PScriptActs Go.Proofs.YtkfjjmmpbfjhaaaGreatDoorW.PrintWords Go.Proofs.YtkfjjmmpbfjhaaaGreatDoorW.PrintLast Go.Proofs.YtkfjjmmpbfjhaaaGreatDoorW.PrintMore
attribute [local go_sem] max2_int min2_int max_two min_two max_three min_three max_four min_four
set_option linter.unusedVariables false
set_option linter.unusedSimpArgs false
/-- an error's text -/
def errS (l c : Int) : ByteArray := ((({ data := #[108, 105, 110, 101, 32] } : ByteArray) ++ itoaB l) ++ { data := #[58, 32, 99, 111, 100, 101, 32] }) ++ itoaB c
theorem itoa44 (n : Int) (h : inI n) (w : World) (T : Pow w) : Calls Tryz.prog 44 #[.int .i64 n] w fun e w' => e = .returned (.string (itoaB n)) ∧ Below w.heap.size w w' :=
  (Tryz.strconv_Itoa n h.1 h.2 w T).mono fun e w' ⟨he, k, os, hw⟩ => ⟨he, by rw [hw]; first | exact Lib.below_grow _ _ (Nat.le_refl _) _ _ | exact below_grow _ _ (Nat.le_refl _) _ _⟩
set_option maxHeartbeats 4000000 in
set_option maxRecDepth 100000 in
theorem lineError_calls (g : Nat) (l c : Int) (hl : inI l) (hc : inI c) (w : World) (T : Pow w) (hgb : w.heap[g]? = some (.cells #[.int .i64 l, .int .i64 c] 80 (0, 0))) : Calls Tryz.prog 23 #[.pointer (some ⟨g, 0, none⟩)] w fun e w' => e = .returned (.string (errS l c)) ∧ Below w.heap.size w w' := by
  have HL := Aside0.mk (And.intro hl hc)
  have HT := Aside0.mk T
  have HG := Aside0.mk hgb
  have hsl : (itoaB l).size ≤ 21 := by have := num_len l hl; have h2 : (itoaB l).data.toList.length = (itoaB l).size := bl_len _; omega
  have hsc : (itoaB c).size ≤ 21 := by have := num_len c hc; have h2 : (itoaB c).data.toList.length = (itoaB c).size := bl_len _; omega
  clear hl hc T hgb
  go_enter Tryz.func23, Tryz.ntmps23
  go_wp2_with fail
  refine region_facts (ws := []) (G := fun _ w' => Aside0 (Below w.heap.size w w')) (φs := [Fact.eq (.pointer (some ⟨g, 0, none⟩)), Fact.eq (.pointer (some ⟨g, 0, none⟩)), Fact.eq (.pointer (some ⟨g, 0, none⟩)), Fact.eq (.int .i64 l), Fact.eq (.string (itoaB l)), Fact.eq (.string (({ data := #[108, 105, 110, 101, 32] } : ByteArray) ++ itoaB l)), Fact.eq (.string ((({ data := #[108, 105, 110, 101, 32] } : ByteArray) ++ itoaB l) ++ { data := #[58, 32, 99, 111, 100, 101, 32] })), Fact.eq (.pointer (some ⟨g, 0, none⟩)), Fact.eq (.pointer (some ⟨g, 0, none⟩)), Fact.eq (.pointer (some ⟨g, 1, none⟩)), Fact.eq (.int .i64 c), Fact.eq (.string (itoaB c)), Fact.eq (.string (errS l c)), Fact.eq (.string (errS l c))]) (n := 14) (m := 18) (by kernel_rfl) (by kernel_rfl) rfl rfl (by kernel_rfl) (fun _ _ _ h hb => ⟨below_then h.out h.out.size hb⟩) (⟨below_drew (Below.refl _ _)⟩) ⟨?ou0, ?ou1, ?ou2, ?ou3, ?ou4, ?ou5, ?ou6, ?ou7, ?ou8, ?ou9, ?ou10, ?ou11, ?ou12, ?ou13, trivial⟩ ?finu
  case ou0 =>
    refine ask_val [.fix 0 _] rfl 5 rfl (.inl rfl) ⟨⟨by kernel_rfl, by conv => lhs; whnf⟩, trivial⟩ ?_
    dsimp only [Has, Fact.eq]
    intro e ρ w' hc hf hg hG h0
    go_simp
    all_goals (with_reducible rfl)
  case ou1 =>
    refine ask_val [.op 5 0 (Fact.eq _)] rfl 6 rfl (.inl rfl) ⟨⟨by kernel_rfl, rfl⟩, trivial⟩ ?_
    dsimp only [Has, Fact.eq]
    intro e ρ w' hc hf hg hG h5
    go_simp
    all_goals (with_reducible rfl)
  case ou2 =>
    refine ask_val [.op 6 1 (Fact.eq _)] rfl 7 rfl (.inl rfl) ⟨⟨by kernel_rfl, rfl⟩, trivial⟩ ?_
    dsimp only [Has, Fact.eq]
    intro e ρ w' hc hf hg hG h6
    go_simp
    all_goals (first | done | rfl | with_reducible rfl)
  case ou3 =>
    refine ask_step [.op 7 2 (Fact.eq _)] rfl 8 rfl (.inl rfl) ⟨⟨by kernel_rfl, rfl⟩, trivial⟩ 0 0 (by kernel_rfl) ?_
    dsimp only [Has, Fact.eq]
    intro e ρ w' hp hq hc hf hg hG h7
    have c0 : w'.cell? ⟨g, 0, none⟩ = some (.int .i64 l) := by rw [blk_cell ((hG.out.block _ (blk_lt HG.out)).trans HG.out)]; rfl
    refine ⟨_, w', ?_, rfl, Below.refl _ _⟩
    go_simp
    all_goals (first | done | rfl | with_reducible rfl)
  case ou4 =>
    refine ask_call [.op 8 3 (Fact.eq _)] rfl 9 rfl (.inl rfl) ⟨⟨by kernel_rfl, rfl⟩, trivial⟩ 0 0 (by kernel_rfl) 44 Tryz.func44 (by kernel_rfl) rfl rfl ?_
    dsimp only [Has, Fact.eq]
    intro e ρ w' hp hq hc hf hg hG h8
    refine ⟨#[.int .i64 l], by simp only [List.map_toArray, List.map_cons, List.map_nil, h8], (itoa44 l HL.out.1 w' (HT.out.below hG.out)).mono ?_⟩
    rintro en w2 ⟨rfl, hb2⟩
    exact ⟨_, rfl, rfl, hb2⟩
  case ou5 =>
    refine ask_val [.op 9 4 (Fact.eq _)] rfl 10 rfl (.inl rfl) ⟨⟨by kernel_rfl, rfl⟩, trivial⟩ ?_
    dsimp only [Has, Fact.eq]
    intro e ρ w' hc hf hg hG h9
    go_simp
    all_goals (first | done | omega | rfl | (rw [if_neg (by omega)]; rfl))
  case ou6 =>
    refine ask_val [.op 10 5 (Fact.eq _)] rfl 11 rfl (.inl rfl) ⟨⟨by kernel_rfl, rfl⟩, trivial⟩ ?_
    dsimp only [Has, Fact.eq]
    intro e ρ w' hc hf hg hG h10
    go_simp
    all_goals (first | done | omega | rfl | (rw [if_neg (by omega)]; rfl))
  case ou7 =>
    refine ask_val [.fix 0 _] rfl 12 rfl (.inl rfl) ⟨⟨by kernel_rfl, by conv => lhs; whnf⟩, trivial⟩ ?_
    dsimp only [Has, Fact.eq]
    intro e ρ w' hc hf hg hG h0
    go_simp
    all_goals (with_reducible rfl)
  case ou8 =>
    refine ask_val [.op 12 7 (Fact.eq _)] rfl 13 rfl (.inl rfl) ⟨⟨by kernel_rfl, rfl⟩, trivial⟩ ?_
    dsimp only [Has, Fact.eq]
    intro e ρ w' hc hf hg hG h12
    go_simp
    all_goals (with_reducible rfl)
  case ou9 =>
    refine ask_val [.op 13 8 (Fact.eq _)] rfl 14 rfl (.inl rfl) ⟨⟨by kernel_rfl, rfl⟩, trivial⟩ ?_
    dsimp only [Has, Fact.eq]
    intro e ρ w' hc hf hg hG h13
    go_simp
    all_goals (first | done | rfl | with_reducible rfl)
  case ou10 =>
    refine ask_step [.op 14 9 (Fact.eq _)] rfl 15 rfl (.inl rfl) ⟨⟨by kernel_rfl, rfl⟩, trivial⟩ 0 0 (by kernel_rfl) ?_
    dsimp only [Has, Fact.eq]
    intro e ρ w' hp hq hc hf hg hG h14
    have c0 : w'.cell? ⟨g, 1, none⟩ = some (.int .i64 c) := by rw [blk_cell ((hG.out.block _ (blk_lt HG.out)).trans HG.out)]; rfl
    refine ⟨_, w', ?_, rfl, Below.refl _ _⟩
    go_simp
    all_goals (first | done | rfl | with_reducible rfl)
  case ou11 =>
    refine ask_call [.op 15 10 (Fact.eq _)] rfl 16 rfl (.inl rfl) ⟨⟨by kernel_rfl, rfl⟩, trivial⟩ 0 0 (by kernel_rfl) 44 Tryz.func44 (by kernel_rfl) rfl rfl ?_
    dsimp only [Has, Fact.eq]
    intro e ρ w' hp hq hc hf hg hG h15
    refine ⟨#[.int .i64 c], by simp only [List.map_toArray, List.map_cons, List.map_nil, h15], (itoa44 c HL.out.2 w' (HT.out.below hG.out)).mono ?_⟩
    rintro en w2 ⟨rfl, hb2⟩
    exact ⟨_, rfl, rfl, hb2⟩
  case ou12 =>
    refine ask_val [.op 11 6 (Fact.eq _), .op 16 11 (Fact.eq _)] rfl 17 rfl (.inl rfl) ⟨⟨by kernel_rfl, rfl⟩, ⟨by kernel_rfl, rfl⟩, trivial⟩ ?_
    dsimp only [Has, Fact.eq]
    intro e ρ w' hc hf hg hG h11 h16
    go_simp
    all_goals (first | done | omega | rfl | (rw [if_neg (by omega)]; rfl))
  case ou13 =>
    refine ask_val [.op 17 12 (Fact.eq _)] rfl 2 rfl (.inl rfl) ⟨⟨by kernel_rfl, rfl⟩, trivial⟩ ?_
    dsimp only [Has, Fact.eq]
    intro e ρ w' hc hf hg hG h17
    go_simp
    all_goals (with_reducible rfl)
  case finu =>
    intro w' hG
    refine fin_eq (fin_eq (fin_eq (fin_eq (fin_eq (fin_eq (fin_eq (fin_eq (fin_eq (fin_eq (fin_eq (fin_eq (fin_eq (fin_eq (fin_nil (a' := ?_) ?_ ?_))))))))))))))
    rotate_left
    · simp only [Act.put, List.setIfInBounds_toArray, List.set_cons_zero, List.set_cons_succ]
      rfl
    have HB := Aside0.mk hG.out
    clear hG
    go_wp2_with fail
    go_ret
    exact ⟨rfl, HB.out⟩
set_option maxHeartbeats 4000000 in
theorem lineError_nil (w : World) : Calls Tryz.prog 23 #[.pointer none] w fun e w' => e = .returned (.string ⟨#[]⟩) ∧ w' = w := by
  go_enter Tryz.func23, Tryz.ntmps23
  go_wp2_with fail
  go_ret
  exact ⟨rfl, rfl⟩
set_option maxHeartbeats 4000000 in
theorem unwrap_calls (p : Value) (r : Value) (w : World) (h : w.cell? ⟨0, 0, none⟩ = some r) : Calls Tryz.prog 24 #[p] w fun e w' => e = .returned r ∧ w' = w := by
  go_enter Tryz.func24, Tryz.ntmps24
  go_wp2_with fail
  go_ret
  exact ⟨rfl, rfl⟩
end Go.Proofs.YtkfjjmmpbfjhaaaGreatDoor.Tells
