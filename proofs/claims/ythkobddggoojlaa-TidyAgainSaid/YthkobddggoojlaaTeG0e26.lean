/- Parts of a proof. No condition but those that each theorem names. -/
import Derived.WalkKit
import Derived.Orders
import Derived.RegionTactic
import Derived.Deep.RegionHeld
namespace Go.Proofs.Ythkobddggoojlaa
open Go

section
variable {P : Program} {ops : Array Oper} {Q : Exit → Act → World → Prop} {md : Region.Mode}
/-- Has this operation come up? -/
def Up (listed : Array Bool) (i : Nat) : Prop := listed.getD i false = true
theorem up_set {listed : Array Bool} {i j : Nat} (hj : j ≠ i) (h : Up (listed.setIfInBounds i true) j) : Up listed j := by
  unfold Up at *
  simp only [Array.getD_eq_getD_getElem?] at *
  rw [Array.getElem?_setIfInBounds_ne (fun e => hj e.symm)] at h
  exact h
theorem up_keep {listed : Array Bool} {i j : Nat} (h : Up listed j) : Up (listed.setIfInBounds i true) j := by
  by_cases hj : j = i
  · subst hj
    unfold Up at *
    simp only [Array.getD_eq_getD_getElem?] at *
    have hlt : j < listed.size := by
      rcases Nat.lt_or_ge j listed.size with h1 | h1
      · exact h1
      · rw [Array.getElem?_eq_none h1] at h; simp at h
    simp [hlt]
  · unfold Up at *
    simp only [Array.getD_eq_getD_getElem?] at *
    rw [Array.getElem?_setIfInBounds_ne (fun e => hj e.symm)]
    exact h
theorem ready_mem {listed : Array Bool} {i : Nat} (h : i ∈ Region.ready md ops listed) : listed.getD i true = false ∧ ∃ o, ops[i]? = some o ∧ ∀ e ∈ o.after.toList, Region.binds md e = true → Up listed e.on := by
  unfold Region.ready at h
  rw [List.mem_filter] at h
  obtain ⟨_, h⟩ := h
  simp only [Bool.and_eq_true, Bool.not_eq_true'] at h
  refine ⟨h.1, ?_⟩
  cases ho : ops[i]? with
  | none => rw [ho] at h; simp at h
  | some o =>
    rw [ho] at h
    refine ⟨o, rfl, fun e he hb => ?_⟩
    have h2 := h.2
    simp only [Option.map_some, Option.getD_some] at h2
    rw [Array.all_eq_true'] at h2
    have := h2 e (by simpa using he)
    rw [hb] at this
    simpa [Up] using this
/-- A step of one operation. -/
def Step (P : Program) (ops : Array Oper) (Q : Exit → Act → World → Prop) (I : Array Bool → Act → World → Prop) (i : Nat) (o : Oper) : Prop :=
  ∀ listed a w, I listed a w → ¬ Up listed i → (∀ e ∈ o.after.toList, Region.binds .any e = true → Up listed e.on) →
    ∀ K' : Act → World → Prop, Shut (∀ a w, I (listed.setIfInBounds i true) a w → K' a w) → if Region.wanted o (yielded ops a.tmps) = true then Oper.wp P o a w K' Q else K' (a.put o.dst undef) w
def Steps (P : Program) (ops : Array Oper) (Q : Exit → Act → World → Prop) (I : Array Bool → Act → World → Prop) (n : Nat) (l : List Oper) : Prop := ∀ k o, l[k]? = some o → Step P ops Q I (n + k) o
theorem Steps.nil_ {I : Array Bool → Act → World → Prop} {n : Nat} : Steps P ops Q I n [] := fun k o h => by simp at h
theorem Steps.cons_ {I : Array Bool → Act → World → Prop} {n : Nat} {o : Oper} {l : List Oper} (h : Step P ops Q I n o) (hs : Steps P ops Q I (n + 1) l) : Steps P ops Q I n (o :: l) := by
  intro k o' hk
  cases k with
  | zero => simp at hk; subst hk; exact h
  | succ k =>
    have := hs k o' (by simpa using hk)
    rw [show n + 1 + k = n + (k + 1) by omega] at this
    exact this
end
end Go.Proofs.Ythkobddggoojlaa
