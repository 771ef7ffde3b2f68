/- Contracts of copies' map of which temp stands for which. No condition but those that each theorem names. -/
import Derived.Test.YtiaimceefkdchaaMapI
namespace Go.Proofs.Ytiaimceefkdchaa
open Go.RowKit Go.Maps
set_option linter.unusedVariables false
def cpOf (f : Int → Option Int) (t : Int) : Int := (f t).getD t
def cpForget (f : Int → Option Int) (t : Int) (k : Int) : Option Int := if k = t then none else if f k = some t then none else f k
set_option maxRecDepth 100000 in
theorem cop_of (b n : Nat) (f : Int → Option Int) (t : Int) (ht : (Lit.int .i64 t).wf = true) (w : World) (h : MapAt w b n f) :
    Calls Try.prog 83 #[.map (some b), .int .i64 t] w fun e w' => e = .returned (.int .i64 (cpOf f t)) ∧ w = w' := by
  obtain ⟨D, hown, hget⟩ := h
  have HG := Lib.hid hget
  clear hget
  go_enter Try.func83, Try.ntmps83
  go_wp2_with (at_lookup; refine wpList_lookup_own_ok_int _ rfl _ _ 105 rfl 3 3 .i64 law3 Try.underlying105 Try.underlying3 (zero3 _) b n _ rfl hown _ _ rfl (keyOf_int_mk Try.underlying3 ht) ?_; intro c hat hwc)
  all_goals go_ret
  · refine ⟨ret_int ?_, rfl⟩
    unfold cpOf
    rw [← HG.out t, mget_some (by assumption) hat]; rfl
  · refine ⟨ret_int ?_, rfl⟩
    unfold cpOf
    rw [← HG.out t, mget_none (by assumption)]; rfl
/-- What the map holds while it is gone through: what is still to come stands yet. -/
def cpGo (f : Int → Option Int) (t : Int) (left : Lit → Bool) (k : Int) : Option Int := if left (.int .i64 k) = true then f k else if f k = some t then none else f k
theorem same_int (k x : Int) : (Lit.int .i64 k).sameKey (.int .i64 x) = decide (k = x) := by
  by_cases h : k = x
  · subst h; rw [decide_eq_true rfl]; exact WideAt.sameKey_self (isKey_int k)
  · rw [decide_eq_false h]; exact sameKey_ne (int_ne h)
theorem cpGo_start {D : DataW Unit} {f : Int → Option Int} (t : Int) (h : ∀ k, mget D k = f k) (k : Int) : mget D k = cpGo f t (Maps.has D) k := by
  unfold cpGo
  by_cases hk : Maps.has D (.int .i64 k) = true
  · rw [if_pos hk, h k]
  · have hn := mget_none (D := D) (k := k) (by simpa using hk)
    rw [if_neg hk, hn]
    rw [h k] at hn
    rw [hn]; simp
theorem cpGo_struck {D : DataW Unit} {f : Int → Option Int} {t : Int} {left : Lit → Bool} (h : ∀ k, mget D k = cpGo f t left k) {x : Int} (hl : left (.int .i64 x) = true) (hat : ∀ z, D.atKey (.int .i64 x) z = .lit (.int .i64 t)) (k : Int) :
    mget (D.del (.int .i64 x)) k = cpGo f t (fun z => left z && !z.sameKey (.int .i64 x)) k := by
  have hx := mget_at hat
  rw [h x] at hx
  unfold cpGo at hx ⊢
  rw [if_pos hl] at hx
  rw [mget_del]
  simp only [same_int]
  by_cases e : k = x
  · subst e
    rw [if_pos rfl, if_neg (by simp), if_pos hx]
  · rw [if_neg e, h k]
    unfold cpGo
    simp [e]
theorem cpGo_stays {D : DataW Unit} {f : Int → Option Int} {t : Int} {left : Lit → Bool} (h : ∀ k, mget D k = cpGo f t left k) {x c : Int} (hl : left (.int .i64 x) = true) (hc : c ≠ t) (hat : ∀ z, D.atKey (.int .i64 x) z = .lit (.int .i64 c)) (k : Int) :
    mget D k = cpGo f t (fun z => left z && !z.sameKey (.int .i64 x)) k := by
  have hx := mget_at hat
  rw [h x] at hx
  rw [h k]
  unfold cpGo at hx ⊢
  rw [if_pos hl] at hx
  simp only [same_int]
  by_cases e : k = x
  · subst e
    rw [if_pos hl, if_neg (by simp), hx, if_neg (by intro e2; injection e2 with e2; exact hc e2)]
  · simp [e]
theorem cpGo_end {f : Int → Option Int} {t : Int} {left : Lit → Bool} (hl : ∀ kl, left kl = false) (k : Int) : cpGo (fun k => if k = t then none else f k) t left k = cpForget f t k := by
  unfold cpGo cpForget
  rw [if_neg (by rw [hl]; decide)]
  by_cases e : k = t
  · subst e; simp
  · simp [e]
set_option maxRecDepth 100000 in
set_option maxHeartbeats 4000000 in
theorem cop_forget (b n : Nat) (f : Int → Option Int) (t : Int) (ht : (Lit.int .i64 t).wf = true) (w : World) (h : MapAt w b n f) :
    Calls Try.prog 82 #[.map (some b), .int .i64 t] w fun e w' => e = .returned (.tuple #[]) ∧ MapAt w' b n (cpForget f t) ∧ w.grownBy w' (some b) := by
  obtain ⟨D, hown, hget⟩ := h
  have hg1 : ∀ k, mget (D.del (.int .i64 t)) k = if k = t then none else f k := fun k => by rw [mget_del, hget k]
  have HG := Lib.hid hg1
  have hlt := hown.lt
  clear hget hg1
  go_enter Try.func82, Try.ntmps82
  go_wp2_with (first
    | (at_delete; refine wpList_delete_own _ rfl _ _ 105 3 rfl 3 law3 Try.underlying105 _ b n _ rfl hown _ _ rfl (keyOf_int_mk Try.underlying3 ht) ?_; intro w1 hown1 hturn1)
    | (at_range; refine wpList_range_own _ rfl _ 105 rfl 3 3 law3 Try.underlying105 _ b n _ rfl hown1 ?_; intro w0 hrg0 hg0 hs0)
    | go_in)
  go_frame
  have hgw := (hturn1.grown).andThen (hg0.but (some b)) (fun j hj => by cases hj; exact Or.inr rfl)
  have hw1 : w.heap.size ≤ w1.heap.size := hturn1.grown.size
  have HST := Lib.hid (cpGo_start t HG.out)
  have HGW := Lib.hid hgw
  clear hgw hg0 hs0 hown hown1 hturn1
  go_loopw [4] (fun _ wr => ∃ (left : Lit → Bool) (cnt : Nat) (Dc : DataW Unit), wr.ranges Try.prog 3 (plainElem Try.prog 3) b w1.heap.size n Dc left cnt ∧ (∀ k, mget Dc k = cpGo (fun k => if k = t then none else f k) t left k) ∧ w.grownBy wr (some b))
    (fun _ wr => wr.rangeLeft b w1.heap.size)
  case atStart => exact ⟨_, _, _, hrg0, HST.out, HGW.out⟩
  case round =>
    obtain ⟨left, cnt, Dc, hrg, hgt, hgw⟩ := hrel
    have HGT := Lib.hid hgt
    have HGW2 := Lib.hid hgw
    clear hgt hgw hrg0
    go_wp2_with (first
      | (at_next; refine wpList_next_ranges_ii _ rfl _ rfl 3 3 .i64 .i64 law3 Try.underlying3 Try.underlying3 b w1.heap.size n _ _ _ rfl hrg ?_ ?_)
      | go_in)
    · intro _ hl0
      have HL := Lib.hid hl0
      clear hl0
      go_wp2
      go_end0
      refine ⟨rfl, ⟨Dc, hrg.owns, fun k => ?_⟩, HGW2.out⟩
      rw [HGT.out k]
      exact cpGo_end HL.out k
    · intro x c w1' cnt1 hwx hwc hlx hat hrg1 hlt1 hg1 hs1 hen
      have HLX := Lib.hid hlx
      have HAT := Lib.hid hat
      have HG1 := Lib.hid (HGW2.out.andThen hg1 (fun j hj => by cases hj; exact Or.inl (by omega)))
      by_cases hct : c = t
      · subst hct
        go_wp2_with (first
          | (at_delete; refine wpList_delete_ranges _ rfl _ _ 105 3 rfl 3 law3 Try.underlying105 _ b w1.heap.size n _ _ _ rfl hrg1 _ _ rfl (keyOf_int_mk Try.underlying3 hwx) ?_; intro w2 cnt2 hrg2 hle hturn; go_frame)
          | go_in)
        rw [strike_twice] at hrg2
        go_roundw
        case rel => exact ⟨_, cnt2, _, hrg2, cpGo_struck HGT.out HLX.out HAT.out, HG1.out.andThen hturn.grown (fun j hj => by cases hj; exact Or.inr rfl)⟩
        case measure => rw [hrg2.left_eq, hrg.left_eq]; omega
      · have qct : (c == t) = false := by rw [beq_eq_false_iff_ne]; exact hct
        have HCT := Lib.hid hct
        clear hct
        go_wp2
        go_roundw
        case rel => exact ⟨_, cnt1, Dc, hrg1, cpGo_stays HGT.out HLX.out HCT.out HAT.out, HG1.out⟩
        case measure => rw [hrg1.left_eq, hrg.left_eq]; exact hlt1
end Go.Proofs.Ytiaimceefkdchaa
