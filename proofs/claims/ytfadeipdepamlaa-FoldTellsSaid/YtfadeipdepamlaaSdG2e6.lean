/- Parts of a proof, joined. No condition but those that each theorem names. -/
import Derived.WalkKit
import Derived.OpenShut
import Derived.Below
import Derived.Lib.Hide
import Derived.Laws.OwnMore
import Derived.Deep.QuietTactic
import Derived.Deep.AppendLies
import Derived.ProofKit
import Derived.SizedLaws
import Derived.Test.YtfadeipdepamlaaProg
import Derived.Handy
import Derived.Deep.RegionHeld3
import Derived.BigQuiet
import Derived.Maps.AppendAt
import Derived.Maps.RangeWalk
import Derived.Maps.OwnSet
import Derived.Test.YtfadeipdepamlaaSdG0e0
import Derived.Test.YtfadeipdepamlaaSdIr
import Derived.Test.YtfadeipdepamlaaSdG1e4
import Derived.Test.YtfadeipdepamlaaSdIrC
import Derived.Test.YtfadeipdepamlaaSdG2e5
namespace Go.Proofs.Ytfadeipdepamlaa
open Go.RowKit
set_option linter.unusedVariables false
theorem law3 : Maps.Keyed Try.prog 3 := Maps.int_keyed Try.underlying3
theorem zero3 (w : World) : (zeroValue 3).run Try.prog w = .ok (.int .i64 0) w := by kernel_rfl
def numD : DataW Unit → Option Int
  | .lit (.int .i64 v) => some v
  | _ => none
/-- What a map holds at a number. -/
def mget (D : DataW Unit) (k : Int) : Option Int := if Maps.has D (.int .i64 k) = true then numD (D.atKey (.int .i64 k) (.lit (.int .i64 0))) else none
def MapAt (w : World) (b n : Nat) (f : Int → Option Int) : Prop := ∃ D : DataW Unit, w.ownsMap Try.prog 3 (plainElem Try.prog 3) b n D ∧ ∀ k, mget D k = f k
theorem int_ne {a b : Int} (h : a ≠ b) : (Lit.int .i64 a) ≠ .int .i64 b := fun e => h (by injection e)
theorem isKey_int (k : Int) : WideAt.IsKeyLit (.int .i64 k) := trivial
theorem mget_del (D : DataW Unit) (t k : Int) : mget (D.del (.int .i64 t)) k = if k = t then none else mget D k := by
  unfold mget
  by_cases h : k = t
  · subst h
    rw [Maps.has_del_same, if_pos rfl]; rfl
  · rw [Maps.has_del_other (int_ne h), Maps.atKey_del_other (int_ne h), if_neg h]
theorem mget_put {D : DataW Unit} (hD : Maps.IsMap D) (t v k : Int) : mget (D.put (.int .i64 t) (.lit (.int .i64 v))) k = if k = t then some v else mget D k := by
  unfold mget
  by_cases h : k = t
  · subst h
    rw [Maps.has_put_same hD (isKey_int k), Maps.atKey_put_same hD (isKey_int k), if_pos rfl, if_pos rfl]; rfl
  · rw [Maps.has_put_other (int_ne h), Maps.atKey_put_other (int_ne h), if_neg h]
theorem mget_empty (k : Int) : mget (.map []) k = none := rfl
theorem mget_some {D : DataW Unit} {k c : Int} (h : Maps.has D (.int .i64 k) = true) (hc : D.atKey (.int .i64 k) (.lit (.int .i64 0)) = .lit (.int .i64 c)) : mget D k = some c := by
  unfold mget; rw [if_pos h, hc]; rfl
theorem mget_none {D : DataW Unit} {k : Int} (h : Maps.has D (.int .i64 k) = false) : mget D k = none := by
  unfold mget; rw [if_neg (by rw [h]; decide)]
theorem mget_at {D : DataW Unit} {k c : Int} (h : ∀ z, D.atKey (.int .i64 k) z = .lit (.int .i64 c)) : mget D k = some c := mget_some (Maps.has_true_of_atKey h) (h _)
theorem map_made (w : World) : MapAt (w.alloc (.map #[] 0)) w.heap.size 0 (fun _ => none) := ⟨.map [], World.ownsMap_made _ _ _ _, mget_empty⟩
theorem MapAt.keep {w w' : World} {b n : Nat} {f : Int → Option Int} (h : MapAt w b n f) {row : Option Nat} (hg : w.grownBy w' row) (hne : some b ≠ row) : MapAt w' b n f := by
  obtain ⟨D, h1, h2⟩ := h
  exact ⟨D, h1.kept hg hne, h2⟩
theorem MapAt.below {w w' : World} {b n : Nat} {f : Int → Option Int} (h : MapAt w b n f) (hb : Below w.heap.size w w') : MapAt w' b n f :=
  h.keep (row := none) ⟨hb.os, hb.tape, hb.output, hb.size, fun k hk _ => hb.block k hk⟩ (by simp)
theorem MapAt.setCell {w : World} {b n : Nat} {f : Int → Option Int} (h : MapAt w b n f) (q : Addr) (u : Value) (hq : q.block ≠ b) : MapAt (w.setCell q u) b n f := h.keep (grown_setCell w q u) (fun e => hq (by injection e with e; exact e.symm))
theorem MapAt.lt {w : World} {b n : Nat} {f : Int → Option Int} (h : MapAt w b n f) : b < w.heap.size := by obtain ⟨D, h1, _⟩ := h; exact h1.lt
end Go.Proofs.Ytfadeipdepamlaa
namespace Go.Proofs.Ytfadeipdepamlaa
open Go.RowKit Go.Maps
set_option linter.unusedVariables false
def cpOf (f : Int → Option Int) (t : Int) : Int := (f t).getD t
def cpForget (f : Int → Option Int) (t : Int) (k : Int) : Option Int := if k = t then none else if f k = some t then none else f k
set_option maxRecDepth 100000 in
theorem cop_of (b n : Nat) (f : Int → Option Int) (t : Int) (ht : (Lit.int .i64 t).wf = true) (w : World) (h : MapAt w b n f) :
    Calls Try.prog 30 #[.map (some b), .int .i64 t] w fun e w' => e = .returned (.int .i64 (cpOf f t)) ∧ w = w' := by
  obtain ⟨D, hown, hget⟩ := h
  have HG := Lib.hid hget
  clear hget
  go_enter Try.func30, Try.ntmps30
  go_wp2_with (at_lookup; refine wpList_lookup_own_ok_int _ rfl _ _ 61 rfl 3 3 .i64 law3 Try.underlying61 Try.underlying3 (zero3 _) b n _ rfl hown _ _ rfl (keyOf_int_mk Try.underlying3 ht) ?_; intro c hat hwc)
  all_goals go_ret
  · refine ⟨ret_int ?_, rfl⟩
    unfold cpOf
    rw [← HG.out t, mget_some (by assumption) hat]; rfl
  · refine ⟨ret_int ?_, rfl⟩
    unfold cpOf
    rw [← HG.out t, mget_none (by assumption)]; rfl
/-- What the map holds while it is gone through: what is still to come stands yet. -/
def cpGo (f : Int → Option Int) (t : Int) (left : Lit → Bool) (k : Int) : Option Int := if left (.int .i64 k) = true then f k else if f k = some t then none else f k
theorem same_int (k x : Int) : (Lit.int .i64 k).sameKey (.int .i64 x) = decide (k = x) := by
  by_cases h : k = x
  · subst h; rw [decide_eq_true rfl]; exact WideAt.sameKey_self (isKey_int k)
  · rw [decide_eq_false h]; exact sameKey_ne (int_ne h)
theorem cpGo_start {D : DataW Unit} {f : Int → Option Int} (t : Int) (h : ∀ k, mget D k = f k) (k : Int) : mget D k = cpGo f t (Maps.has D) k := by
  unfold cpGo
  by_cases hk : Maps.has D (.int .i64 k) = true
  · rw [if_pos hk, h k]
  · have hn := mget_none (D := D) (k := k) (by simpa using hk)
    rw [if_neg hk, hn]
    rw [h k] at hn
    rw [hn]; simp
theorem cpGo_struck {D : DataW Unit} {f : Int → Option Int} {t : Int} {left : Lit → Bool} (h : ∀ k, mget D k = cpGo f t left k) {x : Int} (hl : left (.int .i64 x) = true) (hat : ∀ z, D.atKey (.int .i64 x) z = .lit (.int .i64 t)) (k : Int) :
    mget (D.del (.int .i64 x)) k = cpGo f t (fun z => left z && !z.sameKey (.int .i64 x)) k := by
  have hx := mget_at hat
  rw [h x] at hx
  unfold cpGo at hx ⊢
  rw [if_pos hl] at hx
  rw [mget_del]
  simp only [same_int]
  by_cases e : k = x
  · subst e
    rw [if_pos rfl, if_neg (by simp), if_pos hx]
  · rw [if_neg e, h k]
    unfold cpGo
    simp [e]
theorem cpGo_stays {D : DataW Unit} {f : Int → Option Int} {t : Int} {left : Lit → Bool} (h : ∀ k, mget D k = cpGo f t left k) {x c : Int} (hl : left (.int .i64 x) = true) (hc : c ≠ t) (hat : ∀ z, D.atKey (.int .i64 x) z = .lit (.int .i64 c)) (k : Int) :
    mget D k = cpGo f t (fun z => left z && !z.sameKey (.int .i64 x)) k := by
  have hx := mget_at hat
  rw [h x] at hx
  rw [h k]
  unfold cpGo at hx ⊢
  rw [if_pos hl] at hx
  simp only [same_int]
  by_cases e : k = x
  · subst e
    rw [if_pos hl, if_neg (by simp), hx, if_neg (by intro e2; injection e2 with e2; exact hc e2)]
  · simp [e]
theorem cpGo_end {f : Int → Option Int} {t : Int} {left : Lit → Bool} (hl : ∀ kl, left kl = false) (k : Int) : cpGo (fun k => if k = t then none else f k) t left k = cpForget f t k := by
  unfold cpGo cpForget
  rw [if_neg (by rw [hl]; decide)]
  by_cases e : k = t
  · subst e; simp
  · simp [e]
set_option maxRecDepth 100000 in
set_option maxHeartbeats 4000000 in
theorem cop_forget (b n : Nat) (f : Int → Option Int) (t : Int) (ht : (Lit.int .i64 t).wf = true) (w : World) (h : MapAt w b n f) :
    Calls Try.prog 29 #[.map (some b), .int .i64 t] w fun e w' => e = .returned (.tuple #[]) ∧ MapAt w' b n (cpForget f t) ∧ w.grownBy w' (some b) := by
  obtain ⟨D, hown, hget⟩ := h
  have hg1 : ∀ k, mget (D.del (.int .i64 t)) k = if k = t then none else f k := fun k => by rw [mget_del, hget k]
  have HG := Lib.hid hg1
  have hlt := hown.lt
  clear hget hg1
  go_enter Try.func29, Try.ntmps29
  go_wp2_with (first
    | (at_delete; refine wpList_delete_own _ rfl _ _ 61 3 rfl 3 law3 Try.underlying61 _ b n _ rfl hown _ _ rfl (keyOf_int_mk Try.underlying3 ht) ?_; intro w1 hown1 hturn1)
    | (at_range; refine wpList_range_own _ rfl _ 61 rfl 3 3 law3 Try.underlying61 _ b n _ rfl hown1 ?_; intro w0 hrg0 hg0 hs0)
    | go_in)
  go_frame
  have hgw := (hturn1.grown).andThen (hg0.but (some b)) (fun j hj => by cases hj; exact Or.inr rfl)
  have hw1 : w.heap.size ≤ w1.heap.size := hturn1.grown.size
  have HST := Lib.hid (cpGo_start t HG.out)
  have HGW := Lib.hid hgw
  clear hgw hg0 hs0 hown hown1 hturn1
  go_loopw [4] (fun _ wr => ∃ (left : Lit → Bool) (cnt : Nat) (Dc : DataW Unit), wr.ranges Try.prog 3 (plainElem Try.prog 3) b w1.heap.size n Dc left cnt ∧ (∀ k, mget Dc k = cpGo (fun k => if k = t then none else f k) t left k) ∧ w.grownBy wr (some b))
    (fun _ wr => wr.rangeLeft b w1.heap.size)
  case atStart => exact ⟨_, _, _, hrg0, HST.out, HGW.out⟩
  case round =>
    obtain ⟨left, cnt, Dc, hrg, hgt, hgw⟩ := hrel
    have HGT := Lib.hid hgt
    have HGW2 := Lib.hid hgw
    clear hgt hgw hrg0
    go_wp2_with (first
      | (at_next; refine wpList_next_ranges_ii _ rfl _ rfl 3 3 .i64 .i64 law3 Try.underlying3 Try.underlying3 b w1.heap.size n _ _ _ rfl hrg ?_ ?_)
      | go_in)
    · intro _ hl0
      have HL := Lib.hid hl0
      clear hl0
      go_wp2
      go_end0
      refine ⟨rfl, ⟨Dc, hrg.owns, fun k => ?_⟩, HGW2.out⟩
      rw [HGT.out k]
      exact cpGo_end HL.out k
    · intro x c w1' cnt1 hwx hwc hlx hat hrg1 hlt1 hg1 hs1 hen
      have HLX := Lib.hid hlx
      have HAT := Lib.hid hat
      have HG1 := Lib.hid (HGW2.out.andThen hg1 (fun j hj => by cases hj; exact Or.inl (by omega)))
      by_cases hct : c = t
      · subst hct
        go_wp2_with (first
          | (at_delete; refine wpList_delete_ranges _ rfl _ _ 61 3 rfl 3 law3 Try.underlying61 _ b w1.heap.size n _ _ _ rfl hrg1 _ _ rfl (keyOf_int_mk Try.underlying3 hwx) ?_; intro w2 cnt2 hrg2 hle hturn; go_frame)
          | go_in)
        rw [strike_twice] at hrg2
        go_roundw
        case rel => exact ⟨_, cnt2, _, hrg2, cpGo_struck HGT.out HLX.out HAT.out, HG1.out.andThen hturn.grown (fun j hj => by cases hj; exact Or.inr rfl)⟩
        case measure => rw [hrg2.left_eq, hrg.left_eq]; omega
      · have qct : (c == t) = false := by rw [beq_eq_false_iff_ne]; exact hct
        have HCT := Lib.hid hct
        clear hct
        go_wp2
        go_roundw
        case rel => exact ⟨_, cnt1, Dc, hrg1, cpGo_stays HGT.out HLX.out HCT.out HAT.out, HG1.out⟩
        case measure => rw [hrg1.left_eq, hrg.left_eq]; exact hlt1
end Go.Proofs.Ytfadeipdepamlaa
namespace Go.Proofs.Ytfadeipdepamlaa
open Go.RowKit Go.Maps Go.ChangeMaps Go.MapKept
set_option linter.unusedVariables false
section
variable {w : World} {b n : Nat} {f : Int → Option Int} {T : TypeId}
theorem MapAt.look (hT : Try.prog.underlying T = some (.map 3 3)) (h : MapAt w b n f) (t : Int) (ht : (Lit.int .i64 t).wf = true) :
    (Instr.lookup T (.map (some b)) (.int .i64 t) true).run Try.prog w = .ok (.tuple #[.int .i64 ((f t).getD 0), .bool (f t).isSome]) w := by
  obtain ⟨D, hown, hget⟩ := h
  obtain ⟨v, ps, hrun, hv⟩ := hown.look_ok law3 hT (zero3 w) (plainElem_int Try.underlying3 (by decide)) (keyOf_int_mk Try.underlying3 ht)
  obtain ⟨c, rfl, hc, _⟩ := plainElem_int_inv Try.underlying3 hv
  have hat : D.atKey (.int .i64 t) (.lit (.int .i64 0)) = .lit (.int .i64 c) := congrArg Prod.fst hc
  rw [hrun]
  have hg := hget t
  cases hh : Maps.has D (.int .i64 t) with
  | true =>
    rw [mget_some hh hat] at hg
    rw [← hg]; rfl
  | false =>
    rw [mget_none hh] at hg
    have h0 : c = 0 := by
      rw [Maps.atKey_of_not_has hh] at hat
      simp at hat
      exact hat.symm
    rw [← hg, h0]; rfl
theorem MapAt.drop (hT : Try.prog.underlying T = some (.map 3 3)) (h : MapAt w b n f) (t : Int) (ht : (Lit.int .i64 t).wf = true) (ty : TypeId) :
    ∃ w', (Builtin.delete_ #[T, 3] ty #[.map (some b), .int .i64 t]).run Try.prog w = .ok (.tuple #[]) w' ∧ MapAt w' b n (fun k => if k = t then none else f k) ∧ w.grownBy w' (some b) := by
  obtain ⟨D, hown, hget⟩ := h
  obtain ⟨w', h1, h2, h3⟩ := hown.drop law3 hT (keyOf_int_mk Try.underlying3 ht) ty
  exact ⟨w', h1, ⟨_, h2, fun k => by rw [mget_del, hget k]⟩, h3.grown⟩
theorem MapAt.store (hT : Try.prog.underlying T = some (.map 3 3)) (h : MapAt w b n f) (hn : n < maxLen) (t v : Int) (ht : (Lit.int .i64 t).wf = true) (hv : (Lit.int .i64 v).wf = true) :
    ∃ w', (Instr.mapUpdate T (.map (some b)) (.int .i64 t) (.int .i64 v)).run Try.prog w = .ok () w' ∧ MapAt w' b (n + 1) (fun k => if k = t then some v else f k) ∧ w.grownBy w' (some b) := by
  obtain ⟨D, hown, hget⟩ := h
  have hM := hown.isMap
  obtain ⟨w', h1, h2, h3⟩ := hown.store law3 hT hn (keyOf_int_mk Try.underlying3 ht) (plainElem_int Try.underlying3 hv)
  exact ⟨w', h1, ⟨_, h2, fun k => by rw [mget_put hM, hget k]⟩, h3.grown⟩
theorem MapAt.clear_ (hT : Try.prog.underlying T = some (.map 3 3)) (h : MapAt w b n f) (ty : TypeId) :
    ∃ w', (Builtin.clear_ #[T] ty #[.map (some b)]).run Try.prog w = .ok (.tuple #[]) w' ∧ MapAt w' b 0 (fun _ => none) ∧ w.grownBy w' (some b) := by
  obtain ⟨D, ⟨es, clock, hb, F, hs, hD⟩, hget⟩ := h
  refine ⟨setBlock w b (.map #[] clock), ?_, ⟨.map [], ⟨#[], clock, heap_setBlock_same hb _, ⟨by simp, stamped_empty clock, by simp⟩, Nat.le_refl _, rfl⟩, mget_empty⟩, rfl, rfl, rfl, by simp [setBlock], fun i _ hi => heap_setBlock_other hb _ (fun e => hi (by rw [e]))⟩
  simp [Builtin.clear_, run_underlying hT, MapKept.run_getObj_map hb, MapKept.run_setObj_map _ hb, Result.andThen, setBlock]
end
end Go.Proofs.Ytfadeipdepamlaa
