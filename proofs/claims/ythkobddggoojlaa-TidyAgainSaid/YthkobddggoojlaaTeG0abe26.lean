/- Parts of a proof. No condition but those that each theorem names. -/
import Derived.WalkKit
import Derived.Orders
import Derived.RegionTactic
import Derived.Deep.RegionHeld
import Derived.Test.YthkobddggoojlaaTeG0e26
namespace Go.Proofs.Ythkobddggoojlaa
open Go
section
variable {P : Program} {ops : Array Oper} {Q : Exit → Act → World → Prop} {md : Region.Mode}
theorem ready_of2 {listed : Array Bool} {i : Nat} {o : Oper} (ho : ops[i]? = some o) (hl : listed.getD i true = false) (hd : ∀ e ∈ o.after.toList, Region.binds md e = true → Up listed e.on) : i ∈ Region.ready md ops listed := by
  unfold Region.ready
  rw [List.mem_filter]
  refine ⟨List.mem_range.2 (Array.getElem?_eq_some_iff.1 ho).1, ?_⟩
  simp only [Bool.and_eq_true, Bool.not_eq_true', ho, Option.map_some, Option.getD_some]
  refine ⟨hl, ?_⟩
  rw [Array.all_eq_true']
  intro e he
  cases hb : Region.binds md e with
  | false => simp
  | true =>
    have := hd e (by simpa using he) hb
    unfold Up at this
    rw [this]; simp
/-- Each edge that binds leads back. -/
def backM (md : Region.Mode) (ops : Array Oper) : Bool := (ops.toList.zipIdx).all fun x => x.1.after.toList.all fun e => !Region.binds md e || decide (e.on < x.2)
theorem all_up2 {listed : Array Bool} (hb : backM md ops = true) (hsz : listed.size = ops.size) (hr : Region.ready md ops listed = []) : ∀ i, i < ops.size → Up listed i := by
  intro i
  induction i using Nat.strongRecOn with
  | _ i ih =>
    intro hi
    refine Classical.byContradiction fun hn => ?_
    have ho : ops[i]? = some ops[i] := Array.getElem?_eq_getElem hi
    have hm : i ∈ Region.ready md ops listed := by
      refine ready_of2 ho ?_ fun e he hbe => ?_
      · unfold Up at hn
        have h1 : i < listed.size := by omega
        simp only [Array.getD, h1, dite_true] at hn ⊢
        simpa using hn
      · have hx := (List.all_eq_true.1 hb) (ops[i], i) (by rw [List.mem_zipIdx_iff_getElem?]; simp)
        have hlt := (List.all_eq_true.1 hx) e he
        rw [hbe] at hlt
        simp only [Bool.not_true, Bool.false_or, decide_eq_true_eq] at hlt
        exact ih e.on hlt (by omega)
    rw [hr] at hm
    exact absurd hm (by simp)
theorem region_inv2 {id : Nat} {a : Act} {w : World} (hm : P.follows .mixedOrders = true) (hb : backM .any ops = true) (I : Act → Array Bool → Act → World → Prop)
    (h0 : I a (Array.replicate ops.size false) a w.drew) (hs : Steps P ops Q (I a) 0 ops.toList) (hend : ∀ listed a' w', I a listed a' w' → (∀ i, i < ops.size → Up listed i) → Q .normal a' w') : (Code.region id ops true).wp P Q a w := by
  refine wp_region_any hm ?_
  have main : ∀ (fuel : Nat) (listed : Array Bool) (a' : Act) (w' : World), listed.size = ops.size → listed.toList.count false ≤ fuel → I a listed a' w' → wpAny P .any ops Q fuel listed a' w' := by
    intro fuel
    induction fuel with
    | zero =>
      intro listed a' w' hsz hf hI
      have hall : ∀ i, i < ops.size → Up listed i := by
        intro i hi
        have h1 : i < listed.size := by omega
        unfold Up
        simp only [Array.getD, h1, dite_true]
        have hc : listed.toList.count false = 0 := by omega
        rw [List.count_eq_zero] at hc
        have : listed[i] ≠ false := fun e => hc (by rw [← e]; simp)
        simpa using this
      have hr : Region.ready .any ops listed = [] := by
        refine List.eq_nil_iff_forall_not_mem.2 fun i hi => ?_
        obtain ⟨h1, o, ho, _⟩ := ready_mem hi
        have h2 := hall i (Array.getElem?_eq_some_iff.1 ho).1
        unfold Up at h2
        have h3 : i < listed.size := by rw [hsz]; exact (Array.getElem?_eq_some_iff.1 ho).1
        simp only [Array.getD, h3, dite_true] at h1 h2
        rw [h1] at h2
        cases h2
      exact ⟨hr, hend _ _ _ hI hall⟩
    | succ fuel ih =>
      intro listed a' w' hsz hf hI
      refine ⟨fun hr => hend _ _ _ hI (all_up2 hb hsz hr), fun i hi => ?_⟩
      obtain ⟨h1, o, ho, hd⟩ := ready_mem hi
      have hlt : i < listed.size := by rw [hsz]; exact (Array.getElem?_eq_some_iff.1 ho).1
      have hst := hs i o (by simpa using ho)
      rw [Nat.zero_add] at hst
      have hnu : ¬ Up listed i := by
        unfold Up
        simp only [Array.getD, hlt, dite_true] at h1 ⊢
        rw [h1]; decide
      refine wpOp_step ho fun K' hK => ?_
      refine hst listed a' w' hI hnu hd K' (show Shut _ from fun a2 w2 h2 => hK a2 w2 (ih _ _ _ (by simpa using hsz) ?_ h2))
      have hcnt : (listed.setIfInBounds i true).toList.count false + 1 = listed.toList.count false := by
        have e : listed[i] = false := by simpa [Array.getD, hlt] using h1
        rw [Array.toList_setIfInBounds, List.count_set (by simpa using hlt)]
        have hpos : 0 < listed.toList.count false := List.count_pos_iff.2 (by rw [← e]; simp)
        have e2 : listed.toList[i]'(by simpa using hlt) = false := by simpa using e
        rw [e2, if_pos (show (false == false) = true from rfl), if_neg (show ¬ (true == false) = true by decide)]
        omega
      omega
  exact main ops.size _ a _ (by simp) (by simp) h0
end
end Go.Proofs.Ythkobddggoojlaa
