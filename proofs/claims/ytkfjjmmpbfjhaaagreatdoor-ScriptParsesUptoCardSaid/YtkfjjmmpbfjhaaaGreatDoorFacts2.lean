/- A region that draws its order: calls through a function value. Conditions: those that each theorem states. -/
import Derived.Test.YtkfjjmmpbfjhaaaGreatDoorFacts
namespace Go.Proofs.YtkfjjmmpbfjhaaaGreatDoor.Facts
open Go.RowKit
set_option linter.unusedVariables false
set_option linter.unusedSimpArgs false
variable {P : Program} {Q : Exit → Act → World → Prop} {l : List Oper} {ws : List Nat} {G : Nat → World → Prop} {φs : List Fact} {a0 : Act}
variable {i : Nat} {o : Oper} {φ : Fact}
/-- A call that writes through a function value. -/
theorem ask_wdyn (ns : List Need) (hws : ws.contains i = true) (d : Tmp) (hd : o.dst = some d) (hg : On l φs i o) (hok : okN l φs a0 i ns) (p q : Nat) (he : epB l ws i p q = true)
    (t : Tmp) {as : Array Operand} {ts : Array TypeId} (hop : o.op = .call { callee := .value (.tmp t), args := as, argTypes := ts })
    (h : ∀ e (ρ : Operand → Value) w, p ≤ e → e ≤ q → (∀ c, ρ (.const c) = c) → (∀ f, ρ (.func f) = .func (.func f) #[] #[]) → (∀ g, ρ (.global g) = .pointer (some ⟨g, 0, Option.none⟩)) → G e w → Has e ρ w ns (∃ f fn args, ρ (.tmp t) = .func (.func f) #[] #[] ∧ P.funcs[f]? = some fn ∧ (fn.name == "runtime.NumGoroutine") = false ∧ fn.body.isSome = true ∧ as.map ρ = args ∧ Calls P f args w fun en w1 => ∃ v, en = .returned v ∧ φ.f (e + 1) v w1 ∧ G (e + 1) w1 ∧ Trans e w w1 φs)) :
    Ask P Q l ws G φs a0 i o φ := by
  unfold Ask
  rw [if_pos hws]
  intro e a w K hlo hhi hgl hfix hpre hK
  rw [if_pos (on_wanted hpre hg)]
  simp only [epB, Bool.and_eq_true, beq_iff_eq] at he
  obtain ⟨f, fn, args, hval, hf, hname, hb, hargs, hc⟩ := has_elim hfix hpre ns hok (h e a.eval w (by omega) (by omega) (fun _ => rfl) (fun _ => rfl) (fun _ => rfl) hgl)
  refine enter_wp (f := f) (args := args) ?_ (hc.mono ?_)
  · have he := enters hf hname hb args w
    unfold execOp
    simp [hop, resolve, Deferred.ofValue, invoke, hval, hargs, he]
  · rintro en w' ⟨v, rfl, h1, h2, h3⟩
    exact ⟨v, rfl, hK _ _ (by rw [hd]; exact h1) h2 (fun j _ _ _ x => trans_at φs h3 j x)⟩
end Go.Proofs.YtkfjjmmpbfjhaaaGreatDoor.Facts
