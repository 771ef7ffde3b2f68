/- Parts of a proof. No condition but those that each theorem names. -/
import Derived.WalkKit
import Derived.OpenShut
import Derived.Below
import Derived.Lib.Hide
import Derived.Laws.OwnMore
import Derived.Deep.QuietTactic
import Derived.Deep.AppendLies
import Derived.ProofKit
import Derived.SizedLaws
import Derived.Test.YthkobddggoojlaaProg
import Derived.Handy
import Derived.Deep.RegionHeld3
import Derived.Test.YthkobddggoojlaaTeG0e0
import Derived.Test.YthkobddggoojlaaTeG0e1
import Derived.Test.YthkobddggoojlaaTeG0e2
import Derived.Test.YthkobddggoojlaaTeG0e3
import Derived.Test.YthkobddggoojlaaTeG0e4
namespace Go.Proofs.Ythkobddggoojlaa
open Go.RowKit
def trmVal (t : Trm) : Value := .agg #[.int .i64 t.kind, .int .i64 t.a, .int .i64 t.yes, .int .i64 t.no]
set_option maxHeartbeats 1000000 in
set_option maxRecDepth 100000 in
theorem ck_term (M : Nat) (p : Ir) (A : Option Addr) (c : Nat) (av : Value) (en : Int) (t : Trm) (h0 : 0 ≤ p.temps) (h1 : p.temps ≤ 1048576) (h2 : p.blocks.length ≤ 4398046511104) (w : World) (h : CkAt w M p av (.slice A p.blocks.length c) en) : Calls Try.prog 27 #[.pointer (some ⟨M, 0, none⟩), trmVal t] w fun e w' => e = .returned (.bool (decide (trmP p t))) ∧ Below w.heap.size w w' := by
  obtain ⟨tk, ta, ty, tn⟩ := t
  have HC : Hid (∀ (w' : World), Below w.heap.size w w' → CkAt w' M p av (.slice A p.blocks.length c) en) := Lib.hid (fun w' hb => h.below hb)
  have HT := Lib.hid (fun x W hW => ck_temp M p av (.slice A p.blocks.length c) en x h0 h1 W hW)
  have HL := Lib.hid (fun x W hW => ck_label M p A c av en x h2 W hW)
  have hP : trmP p ⟨tk, ta, ty, tn⟩ ↔ (tk = 1 ∧ ta = 0 ∧ tn = 0 ∧ labelP p ty) ∨ (tk = 2 ∧ isTemp p ta ∧ labelP p ty ∧ labelP p tn) ∨ (tk = 3 ∧ ta = 0 ∧ ty = 0 ∧ tn = 0) := Iff.rfl
  have HP := Lib.hid hP
  unfold trmVal
  simp only
  clear h hP
  generalize hA : decide (trmP p ⟨tk, ta, ty, tn⟩) = R at *
  by_cases k1 : tk = 1
  · subst k1
    by_cases a0 : ta = 0 ∧ tn = 0
    · obtain ⟨rfl, rfl⟩ := a0
      have hR : R = decide (labelP p ty) := by
        rw [← hA, decide_eq_decide, HP.out]
        constructor
        · rintro (h | h | h)
          · exact h.2.2.2
          · omega
          · omega
        · intro h; exact .inl ⟨rfl, rfl, rfl, h⟩
      subst hR
      clear hA
      go_enter Try.func27, Try.ntmps27
      go_wp2_with (go_at_call 48; refine (HL.out _ _ (HC.out _ (bnew _ _))).mono ?_; rintro e w' ⟨rfl, rfl⟩)
      go_ret
      exact ⟨by simp, bnew _ _⟩
    · have hR : R = false := by rw [← hA]; apply decide_eq_false; rw [HP.out]; omega
      subst hR
      have a1 : ta ≠ 0 ∨ (ta = 0 ∧ tn ≠ 0) := by omega
      clear hA a0
      rcases a1 with a1 | ⟨rfl, a1⟩
      · have q : (ta == 0) = false := by rw [beq_eq_false_iff_ne]; exact a1
        go_enter Try.func27, Try.ntmps27
        go_wp2_with fail
        go_ret
        exact ⟨by first | rfl | simp [q], bnew _ _⟩
      · have q : (tn == 0) = false := by rw [beq_eq_false_iff_ne]; exact a1
        go_enter Try.func27, Try.ntmps27
        go_wp2_with fail
        go_ret
        exact ⟨by first | rfl | simp [q], bnew _ _⟩
  · have q1 : (tk == 1) = false := by rw [beq_eq_false_iff_ne]; exact k1
    by_cases k2 : tk = 2
    · subst k2
      have hR : R = (decide (isTemp p ta) && decide (labelP p ty) && decide (labelP p tn)) := by
        rw [← hA, ← Bool.decide_and, ← Bool.decide_and, decide_eq_decide, HP.out]
        constructor
        · rintro (h | h | h)
          · omega
          · exact ⟨⟨h.2.1, h.2.2.1⟩, h.2.2.2⟩
          · omega
        · rintro ⟨⟨h3, h4⟩, h5⟩; exact .inr (.inl ⟨rfl, h3, h4, h5⟩)
      subst hR
      clear hA
      have HT1 := Lib.hid (HT.out ta)
      have HL1 := Lib.hid (HL.out ty)
      have HL2 := Lib.hid (HL.out tn)
      generalize decide (isTemp p ta) = b1 at *
      generalize decide (labelP p ty) = b2 at *
      generalize decide (labelP p tn) = b3 at *
      cases b1
      · go_enter Try.func27, Try.ntmps27
        go_wp2_with fail
        refine (HT1.out _ (HC.out _ (bnew _ _))).mono ?_
        rintro e w' ⟨rfl, rfl⟩
        go_wp2_with fail
        go_ret
        exact ⟨by simp, bnew _ _⟩
      · go_enter Try.func27, Try.ntmps27
        go_wp2_with fail
        refine (HT1.out _ (HC.out _ (bnew _ _))).mono ?_
        rintro e w' ⟨rfl, rfl⟩
        go_wp2_with fail
        refine (HL1.out _ (HC.out _ (bnew _ _))).mono ?_
        rintro e w' ⟨rfl, rfl⟩
        cases b2
        · go_wp2_with fail
          go_ret
          exact ⟨by simp, bnew _ _⟩
        · go_wp2_with fail
          refine (HL2.out _ (HC.out _ (bnew _ _))).mono ?_
          rintro e w' ⟨rfl, rfl⟩
          go_wp2_with fail
          go_ret
          exact ⟨by simp, bnew _ _⟩
    · have q2 : (tk == 2) = false := by rw [beq_eq_false_iff_ne]; exact k2
      have hR : R = (decide (tk = 3) && (decide (ta = 0) && (decide (ty = 0) && decide (tn = 0)))) := by
        rw [← hA, ← Bool.decide_and, ← Bool.decide_and, ← Bool.decide_and, decide_eq_decide, HP.out]
        constructor
        · rintro (h | h | h)
          · omega
          · omega
          · exact h
        · intro h; exact .inr (.inr h)
      subst hR
      clear hA
      by_cases k3 : tk = 3
      · subst k3
        by_cases a0 : ta = 0
        · subst a0
          by_cases y0 : ty = 0
          · subst y0
            by_cases n0 : tn = 0
            · subst n0
              go_enter Try.func27, Try.ntmps27
              go_wp2_with fail
              go_ret
              exact ⟨by simp, bnew _ _⟩
            · have q : (tn == 0) = false := by rw [beq_eq_false_iff_ne]; exact n0
              go_enter Try.func27, Try.ntmps27
              go_wp2_with fail
              go_ret
              exact ⟨by simp, bnew _ _⟩
          · have q : (ty == 0) = false := by rw [beq_eq_false_iff_ne]; exact y0
            go_enter Try.func27, Try.ntmps27
            go_wp2_with fail
            go_ret
            exact ⟨by simp, bnew _ _⟩
        · have q : (ta == 0) = false := by rw [beq_eq_false_iff_ne]; exact a0
          go_enter Try.func27, Try.ntmps27
          go_wp2_with fail
          go_ret
          exact ⟨by simp, bnew _ _⟩
      · have q : (tk == 3) = false := by rw [beq_eq_false_iff_ne]; exact k3
        go_enter Try.func27, Try.ntmps27
        go_wp2_with fail
        go_ret
        exact ⟨by simp [k3], bnew _ _⟩
theorem blk_set {w : World} {g : Nat} {cs : Array Value} {t : TypeId} (h : w.heap[g]? = some (.cells cs t (0, 0))) (i : Nat) (u : Value) : (w.setCell ⟨g, i, none⟩ u).heap[g]? = some (.cells (cs.setIfInBounds i u) t (0, 0)) := by
  simp [World.setCell, Array.getElem?_modify, h]
theorem grown_setCell (w : World) (p : Addr) (u : Value) : w.grownBy (w.setCell p u) (some p.block) :=
  ⟨rfl, rfl, rfl, by simp [World.setCell], fun k _ hne => Below.heap_setCell w p u k (fun e => hne (by rw [e]))⟩
def arrVal (a : Arr) : Value := .agg #[.int .i64 a.elem, .int .i64 a.len, .int .i64 a.kind, .int .i64 a.off]
def ArrPost (M : Nat) (p : Ir) (av bv : Value) (en : Int) (a : Arr) (w : World) (e : Ending) (w' : World) : Prop :=
  e = .returned (.bool (arrStep p.inp p.out en a).isSome) ∧ CkAt w' M p av bv ((arrStep p.inp p.out en a).getD en) ∧ w.grownBy w' (some M)
theorem grown_of_below {w w' : World} {M : Nat} (h : Below w.heap.size w w') : w.grownBy w' (some M) := ⟨h.os, h.tape, h.output, h.size, fun k hk _ => h.block k hk⟩
set_option maxHeartbeats 1000000 in
set_option maxRecDepth 100000 in
theorem ck_array (M : Nat) (p : Ir) (av bv : Value) (en : Int) (a : Arr) (h0 : 0 ≤ p.inp ∧ p.inp ≤ 65536) (h1 : 0 ≤ p.out ∧ p.out ≤ 65536) (hen : 0 ≤ en) (hf : a.fine) (w : World) (h : CkAt w M p av bv en) :
    Calls Try.prog 25 #[.pointer (some ⟨M, 0, none⟩), arrVal a] w (ArrPost M p av bv en a w) := by
  obtain ⟨x, l, k, o⟩ := a
  obtain ⟨_, _, _, hfo⟩ := hf
  simp only at hfo
  unfold IntR at hfo
  have hM := lt_of_blk h
  have HSH := Lib.hid (fun W => ir_shaped ⟨x, l, k, o⟩ W)
  have HC : Hid (∀ (w' : World), Below w.heap.size w w' → CkAt w' M p av bv en) := Lib.hid (fun w' hb => h.below hb)
  unfold ArrPost arrVal
  simp only at HSH ⊢
  by_cases hs : shapedP ⟨x, l, k, o⟩
  · rw [decide_eq_true hs] at HSH
    have hN : wrap64 (x * l) = x * l ∧ 1 ≤ x * l ∧ x * l ≤ 65536 := by
      obtain ⟨h2, h3, h4⟩ := hs
      simp only at h2 h3 h4
      rcases h2 with h2 | h2 <;> rw [h2] <;> unfold wrap64 <;> omega
    obtain ⟨e1, hN1, hN2⟩ := hN
    have hst : arrStep p.inp p.out en ⟨x, l, k, o⟩ = if k = 0 then (if o = 0 then some en else none)
      else if k = 1 then (if 0 ≤ o ∧ o ≤ p.inp - x * l ∧ o % 4 = 0 then some en else none)
      else if k = 2 then (if en ≤ o ∧ o ≤ p.out - x * l ∧ o % 4 = 0 then some (up4 (o + x * l)) else none)
      else none := by unfold arrStep; rw [if_neg (by simpa using hs)]
    rw [hst]
    have HUP := Lib.hid (fun h W => ir_up (o + x * l) h W)
    generalize hn : x * l = n at *
    have e2 : wrap64 (x * l) = n := by rw [hn]; exact e1
    clear hn
    by_cases k0 : k = 0
    · subst k0
      rw [if_pos rfl]
      clear hst hs
      by_cases o0 : o = 0
      · subst o0
        go_enter Try.func25, Try.ntmps25
        go_wp2_with fail
        refine (HSH.out _).mono ?_
        rintro e w2 ⟨rfl, hb⟩
        have hx := (hb.block w.heap.size (by simp)).trans (heap_alloc_new w _)
        have hck := HC.out _ (bch (bnew _ _) hb)
        have HG : Hid (w.grownBy w2 (some M)) := Lib.hid (grown_of_below (bch (bnew _ _) hb))
        have c0 : w2.cell? ⟨w.heap.size, 0, none⟩ = some (.int .i64 x) := (cell_of_blk hx 0).1
        have c1 : w2.cell? ⟨w.heap.size, 1, none⟩ = some (.int .i64 l) := (cell_of_blk hx 1).1
        have c2 : w2.cell? ⟨w.heap.size, 2, none⟩ = some (.int .i64 0) := (cell_of_blk hx 2).1
        have c3 : w2.cell? ⟨w.heap.size, 3, none⟩ = some (.int .i64 0) := (cell_of_blk hx 3).1
        have d3 : w2.cell? ⟨M, 3, none⟩ = some (.int .i64 p.inp) := (cell_of_blk hck 3).1
        have d4 : w2.cell? ⟨M, 4, none⟩ = some (.int .i64 p.out) := (cell_of_blk hck 4).1
        have d5 : w2.cell? ⟨M, 5, none⟩ = some (.int .i64 en) := (cell_of_blk hck 5).1
        have f5 : w2.frozen? ⟨M, 5, none⟩ = false := (cell_of_blk hck 5).2
        have HK := Lib.hid hck
        clear hb hx hck
        go_wp2_with fail
        go_ret
        exact ⟨rfl, HK.out, HG.out⟩
      · rw [if_neg o0]
        have q : (o == 0) = false := by rw [beq_eq_false_iff_ne]; exact o0
        go_enter Try.func25, Try.ntmps25
        go_wp2_with fail
        refine (HSH.out _).mono ?_
        rintro e w2 ⟨rfl, hb⟩
        have hx := (hb.block w.heap.size (by simp)).trans (heap_alloc_new w _)
        have hck := HC.out _ (bch (bnew _ _) hb)
        have HG : Hid (w.grownBy w2 (some M)) := Lib.hid (grown_of_below (bch (bnew _ _) hb))
        have c0 : w2.cell? ⟨w.heap.size, 0, none⟩ = some (.int .i64 x) := (cell_of_blk hx 0).1
        have c1 : w2.cell? ⟨w.heap.size, 1, none⟩ = some (.int .i64 l) := (cell_of_blk hx 1).1
        have c2 : w2.cell? ⟨w.heap.size, 2, none⟩ = some (.int .i64 0) := (cell_of_blk hx 2).1
        have c3 : w2.cell? ⟨w.heap.size, 3, none⟩ = some (.int .i64 o) := (cell_of_blk hx 3).1
        have d3 : w2.cell? ⟨M, 3, none⟩ = some (.int .i64 p.inp) := (cell_of_blk hck 3).1
        have d4 : w2.cell? ⟨M, 4, none⟩ = some (.int .i64 p.out) := (cell_of_blk hck 4).1
        have d5 : w2.cell? ⟨M, 5, none⟩ = some (.int .i64 en) := (cell_of_blk hck 5).1
        have f5 : w2.frozen? ⟨M, 5, none⟩ = false := (cell_of_blk hck 5).2
        have HK := Lib.hid hck
        clear hb hx hck
        go_wp2_with fail
        go_ret
        exact ⟨by simp, HK.out, HG.out⟩
    · rw [if_neg k0]
      have q0 : (k == 0) = false := by rw [beq_eq_false_iff_ne]; exact k0
      by_cases k1 : k = 1
      · subst k1
        rw [if_pos rfl]
        clear hst hs
        have e3 : IntKind.i64.wrap (p.inp - n) = p.inp - n := by rw [wrapi64]; unfold wrap64; omega
        have e5 : wrap64 (p.inp - n) = p.inp - n := by unfold wrap64; omega
        by_cases r1 : 0 ≤ o ∧ o ≤ p.inp - n
        · have HWI : Hid (∀ W, Calls Try.prog 24 #[.int .i64 o, .int .i64 0, .int .i64 (p.inp - n)] W fun e w' => e = .returned (.bool true) ∧ w' = W) := Lib.hid (fun W => (ir_within o 0 (p.inp - n) W).mono fun e w' ⟨h1, h2⟩ => ⟨by rw [h1, decide_eq_true r1], h2.symm⟩)
          obtain ⟨r3, r4⟩ := r1
          by_cases r2 : o % 4 = 0
          · rw [if_pos ⟨r3, r4, r2⟩]
            have q : (o.tmod 4 == 0) = true := by rw [beq_iff_eq, Int.tmod_eq_emod_of_nonneg r3]; exact r2
            clear r2 r3 r4
            go_enter Try.func25, Try.ntmps25
            go_wp2_with fail
            refine (HSH.out _).mono ?_
            rintro e w2 ⟨rfl, hb⟩
            have hx := (hb.block w.heap.size (by simp)).trans (heap_alloc_new w _)
            have hck := HC.out _ (bch (bnew _ _) hb)
            have HG : Hid (w.grownBy w2 (some M)) := Lib.hid (grown_of_below (bch (bnew _ _) hb))
            have c0 : w2.cell? ⟨w.heap.size, 0, none⟩ = some (.int .i64 x) := (cell_of_blk hx 0).1
            have c1 : w2.cell? ⟨w.heap.size, 1, none⟩ = some (.int .i64 l) := (cell_of_blk hx 1).1
            have c2 : w2.cell? ⟨w.heap.size, 2, none⟩ = some (.int .i64 1) := (cell_of_blk hx 2).1
            have c3 : w2.cell? ⟨w.heap.size, 3, none⟩ = some (.int .i64 o) := (cell_of_blk hx 3).1
            have d3 : w2.cell? ⟨M, 3, none⟩ = some (.int .i64 p.inp) := (cell_of_blk hck 3).1
            have d4 : w2.cell? ⟨M, 4, none⟩ = some (.int .i64 p.out) := (cell_of_blk hck 4).1
            have d5 : w2.cell? ⟨M, 5, none⟩ = some (.int .i64 en) := (cell_of_blk hck 5).1
            have f5 : w2.frozen? ⟨M, 5, none⟩ = false := (cell_of_blk hck 5).2
            have HK := Lib.hid hck
            clear hb hx hck
            go_wp2_with fail
            go_quiet ((go_at_call 24; exact Calls.quiet_of_same (HWI.out _)))
            go_wp2_with fail
            go_ret
            exact ⟨rfl, (show CkAt w2 M p av bv en from HK.out), ⟨HG.out.os, HG.out.tape, HG.out.output, HG.out.size, HG.out.block⟩⟩
          · rw [if_neg (by omega)]
            have q : (o.tmod 4 == 0) = false := by rw [beq_eq_false_iff_ne, Int.tmod_eq_emod_of_nonneg r3]; exact r2
            clear r2 r3 r4
            go_enter Try.func25, Try.ntmps25
            go_wp2_with fail
            refine (HSH.out _).mono ?_
            rintro e w2 ⟨rfl, hb⟩
            have hx := (hb.block w.heap.size (by simp)).trans (heap_alloc_new w _)
            have hck := HC.out _ (bch (bnew _ _) hb)
            have HG : Hid (w.grownBy w2 (some M)) := Lib.hid (grown_of_below (bch (bnew _ _) hb))
            have c0 : w2.cell? ⟨w.heap.size, 0, none⟩ = some (.int .i64 x) := (cell_of_blk hx 0).1
            have c1 : w2.cell? ⟨w.heap.size, 1, none⟩ = some (.int .i64 l) := (cell_of_blk hx 1).1
            have c2 : w2.cell? ⟨w.heap.size, 2, none⟩ = some (.int .i64 1) := (cell_of_blk hx 2).1
            have c3 : w2.cell? ⟨w.heap.size, 3, none⟩ = some (.int .i64 o) := (cell_of_blk hx 3).1
            have d3 : w2.cell? ⟨M, 3, none⟩ = some (.int .i64 p.inp) := (cell_of_blk hck 3).1
            have d4 : w2.cell? ⟨M, 4, none⟩ = some (.int .i64 p.out) := (cell_of_blk hck 4).1
            have d5 : w2.cell? ⟨M, 5, none⟩ = some (.int .i64 en) := (cell_of_blk hck 5).1
            have f5 : w2.frozen? ⟨M, 5, none⟩ = false := (cell_of_blk hck 5).2
            have HK := Lib.hid hck
            clear hb hx hck
            go_wp2_with fail
            go_quiet ((go_at_call 24; exact Calls.quiet_of_same (HWI.out _)))
            go_wp2_with fail
            go_ret
            exact ⟨rfl, (show CkAt w2 M p av bv en from HK.out), ⟨HG.out.os, HG.out.tape, HG.out.output, HG.out.size, HG.out.block⟩⟩
        · have HWI : Hid (∀ W, Calls Try.prog 24 #[.int .i64 o, .int .i64 0, .int .i64 (p.inp - n)] W fun e w' => e = .returned (.bool false) ∧ w' = W) := Lib.hid (fun W => (ir_within o 0 (p.inp - n) W).mono fun e w' ⟨h1, h2⟩ => ⟨by rw [h1, decide_eq_false r1], h2.symm⟩)
          rw [if_neg (by omega)]
          clear r1
          go_enter Try.func25, Try.ntmps25
          go_wp2_with fail
          refine (HSH.out _).mono ?_
          rintro e w2 ⟨rfl, hb⟩
          have hx := (hb.block w.heap.size (by simp)).trans (heap_alloc_new w _)
          have hck := HC.out _ (bch (bnew _ _) hb)
          have HG : Hid (w.grownBy w2 (some M)) := Lib.hid (grown_of_below (bch (bnew _ _) hb))
          have c0 : w2.cell? ⟨w.heap.size, 0, none⟩ = some (.int .i64 x) := (cell_of_blk hx 0).1
          have c1 : w2.cell? ⟨w.heap.size, 1, none⟩ = some (.int .i64 l) := (cell_of_blk hx 1).1
          have c2 : w2.cell? ⟨w.heap.size, 2, none⟩ = some (.int .i64 1) := (cell_of_blk hx 2).1
          have c3 : w2.cell? ⟨w.heap.size, 3, none⟩ = some (.int .i64 o) := (cell_of_blk hx 3).1
          have d3 : w2.cell? ⟨M, 3, none⟩ = some (.int .i64 p.inp) := (cell_of_blk hck 3).1
          have d4 : w2.cell? ⟨M, 4, none⟩ = some (.int .i64 p.out) := (cell_of_blk hck 4).1
          have d5 : w2.cell? ⟨M, 5, none⟩ = some (.int .i64 en) := (cell_of_blk hck 5).1
          have f5 : w2.frozen? ⟨M, 5, none⟩ = false := (cell_of_blk hck 5).2
          have HK := Lib.hid hck
          clear hb hx hck
          go_wp2_with fail
          go_quiet ((go_at_call 24; exact Calls.quiet_of_same (HWI.out _)))
          go_wp2_with fail
          go_ret
          exact ⟨rfl, (show CkAt w2 M p av bv en from HK.out), ⟨HG.out.os, HG.out.tape, HG.out.output, HG.out.size, HG.out.block⟩⟩
      · rw [if_neg k1]
        have q1 : (k == 1) = false := by rw [beq_eq_false_iff_ne]; exact k1
        by_cases k2 : k = 2
        · subst k2
          rw [if_pos rfl]
          clear hst hs
          have e3 : IntKind.i64.wrap (p.out - n) = p.out - n := by rw [wrapi64]; unfold wrap64; omega
          have e5 : wrap64 (p.out - n) = p.out - n := by unfold wrap64; omega
          by_cases r1 : en ≤ o ∧ o ≤ p.out - n
          · have HWI : Hid (∀ W, Calls Try.prog 24 #[.int .i64 o, .int .i64 en, .int .i64 (p.out - n)] W fun e w' => e = .returned (.bool true) ∧ w' = W) := Lib.hid (fun W => (ir_within o en (p.out - n) W).mono fun e w' ⟨h1, h2⟩ => ⟨by rw [h1, decide_eq_true r1], h2.symm⟩)
            obtain ⟨r3, r4⟩ := r1
            have r0 : 0 ≤ o := by omega
            by_cases r2 : o % 4 = 0
            · rw [if_pos ⟨r3, r4, r2⟩]
              have q : (o.tmod 4 != 0) = false := by rw [bne_eq_false_iff_eq, Int.tmod_eq_emod_of_nonneg r0]; exact r2
              have e6 : wrap64 (o + n) = o + n := by unfold wrap64; omega
              have HU := Lib.hid (HUP.out (by omega) (by omega))
              clear r2 r3 r4
              go_enter Try.func25, Try.ntmps25
              go_wp2_with fail
              refine (HSH.out _).mono ?_
              rintro e w2 ⟨rfl, hb⟩
              have hx := (hb.block w.heap.size (by simp)).trans (heap_alloc_new w _)
              have hck := HC.out _ (bch (bnew _ _) hb)
              have HG : Hid (w.grownBy w2 (some M)) := Lib.hid (grown_of_below (bch (bnew _ _) hb))
              have c0 : w2.cell? ⟨w.heap.size, 0, none⟩ = some (.int .i64 x) := (cell_of_blk hx 0).1
              have c1 : w2.cell? ⟨w.heap.size, 1, none⟩ = some (.int .i64 l) := (cell_of_blk hx 1).1
              have c2 : w2.cell? ⟨w.heap.size, 2, none⟩ = some (.int .i64 2) := (cell_of_blk hx 2).1
              have c3 : w2.cell? ⟨w.heap.size, 3, none⟩ = some (.int .i64 o) := (cell_of_blk hx 3).1
              have d3 : w2.cell? ⟨M, 3, none⟩ = some (.int .i64 p.inp) := (cell_of_blk hck 3).1
              have d4 : w2.cell? ⟨M, 4, none⟩ = some (.int .i64 p.out) := (cell_of_blk hck 4).1
              have d5 : w2.cell? ⟨M, 5, none⟩ = some (.int .i64 en) := (cell_of_blk hck 5).1
              have f5 : w2.frozen? ⟨M, 5, none⟩ = false := (cell_of_blk hck 5).2
              have HK := Lib.hid hck
              clear hb hx hck
              go_wp2_with fail
              go_quiet ((go_at_call 24; exact Calls.quiet_of_same (HWI.out _)))
              go_wp2_with fail
              refine (HU.out _).mono ?_
              rintro e w3 ⟨rfl, rfl⟩
              have HSB := Lib.hid (blk_set (show w2.heap[M]? = some (.cells (ckCells p av bv en) 62 (0, 0)) from HK.out) 5 (.int .i64 (up4 (o + n))))
              have HSG := Lib.hid (grown_setCell w2 ⟨M, 5, none⟩ (.int .i64 (up4 (o + n))))
              go_wp2_with fail
              go_ret
              exact ⟨rfl, HSB.out, ⟨(HSG.out.os).trans HG.out.os, (HSG.out.tape).trans HG.out.tape, (HSG.out.output).trans HG.out.output, Nat.le_trans HG.out.size HSG.out.size, fun j hj hne => (HSG.out.block j (Nat.lt_of_lt_of_le hj HG.out.size) hne).trans (HG.out.block j hj hne)⟩⟩
            · rw [if_neg (by omega)]
              have q : (o.tmod 4 != 0) = true := by rw [bne_iff_ne, Int.tmod_eq_emod_of_nonneg r0]; exact r2
              clear r2 r3 r4
              go_enter Try.func25, Try.ntmps25
              go_wp2_with fail
              refine (HSH.out _).mono ?_
              rintro e w2 ⟨rfl, hb⟩
              have hx := (hb.block w.heap.size (by simp)).trans (heap_alloc_new w _)
              have hck := HC.out _ (bch (bnew _ _) hb)
              have HG : Hid (w.grownBy w2 (some M)) := Lib.hid (grown_of_below (bch (bnew _ _) hb))
              have c0 : w2.cell? ⟨w.heap.size, 0, none⟩ = some (.int .i64 x) := (cell_of_blk hx 0).1
              have c1 : w2.cell? ⟨w.heap.size, 1, none⟩ = some (.int .i64 l) := (cell_of_blk hx 1).1
              have c2 : w2.cell? ⟨w.heap.size, 2, none⟩ = some (.int .i64 2) := (cell_of_blk hx 2).1
              have c3 : w2.cell? ⟨w.heap.size, 3, none⟩ = some (.int .i64 o) := (cell_of_blk hx 3).1
              have d3 : w2.cell? ⟨M, 3, none⟩ = some (.int .i64 p.inp) := (cell_of_blk hck 3).1
              have d4 : w2.cell? ⟨M, 4, none⟩ = some (.int .i64 p.out) := (cell_of_blk hck 4).1
              have d5 : w2.cell? ⟨M, 5, none⟩ = some (.int .i64 en) := (cell_of_blk hck 5).1
              have f5 : w2.frozen? ⟨M, 5, none⟩ = false := (cell_of_blk hck 5).2
              have HK := Lib.hid hck
              clear hb hx hck
              go_wp2_with fail
              go_quiet ((go_at_call 24; exact Calls.quiet_of_same (HWI.out _)))
              go_wp2_with fail
              go_ret
              exact ⟨rfl, (show CkAt w2 M p av bv en from HK.out), ⟨HG.out.os, HG.out.tape, HG.out.output, HG.out.size, HG.out.block⟩⟩
          · have HWI : Hid (∀ W, Calls Try.prog 24 #[.int .i64 o, .int .i64 en, .int .i64 (p.out - n)] W fun e w' => e = .returned (.bool false) ∧ w' = W) := Lib.hid (fun W => (ir_within o en (p.out - n) W).mono fun e w' ⟨h1, h2⟩ => ⟨by rw [h1, decide_eq_false r1], h2.symm⟩)
            rw [if_neg (by omega)]
            clear r1
            go_enter Try.func25, Try.ntmps25
            go_wp2_with fail
            refine (HSH.out _).mono ?_
            rintro e w2 ⟨rfl, hb⟩
            have hx := (hb.block w.heap.size (by simp)).trans (heap_alloc_new w _)
            have hck := HC.out _ (bch (bnew _ _) hb)
            have HG : Hid (w.grownBy w2 (some M)) := Lib.hid (grown_of_below (bch (bnew _ _) hb))
            have c0 : w2.cell? ⟨w.heap.size, 0, none⟩ = some (.int .i64 x) := (cell_of_blk hx 0).1
            have c1 : w2.cell? ⟨w.heap.size, 1, none⟩ = some (.int .i64 l) := (cell_of_blk hx 1).1
            have c2 : w2.cell? ⟨w.heap.size, 2, none⟩ = some (.int .i64 2) := (cell_of_blk hx 2).1
            have c3 : w2.cell? ⟨w.heap.size, 3, none⟩ = some (.int .i64 o) := (cell_of_blk hx 3).1
            have d3 : w2.cell? ⟨M, 3, none⟩ = some (.int .i64 p.inp) := (cell_of_blk hck 3).1
            have d4 : w2.cell? ⟨M, 4, none⟩ = some (.int .i64 p.out) := (cell_of_blk hck 4).1
            have d5 : w2.cell? ⟨M, 5, none⟩ = some (.int .i64 en) := (cell_of_blk hck 5).1
            have f5 : w2.frozen? ⟨M, 5, none⟩ = false := (cell_of_blk hck 5).2
            have HK := Lib.hid hck
            clear hb hx hck
            go_wp2_with fail
            go_quiet ((go_at_call 24; exact Calls.quiet_of_same (HWI.out _)))
            go_wp2_with fail
            go_ret
            exact ⟨rfl, (show CkAt w2 M p av bv en from HK.out), ⟨HG.out.os, HG.out.tape, HG.out.output, HG.out.size, HG.out.block⟩⟩
        · rw [if_neg k2]
          have q2 : (k == 2) = false := by rw [beq_eq_false_iff_ne]; exact k2
          clear hst hs
          go_enter Try.func25, Try.ntmps25
          go_wp2_with fail
          refine (HSH.out _).mono ?_
          rintro e w2 ⟨rfl, hb⟩
          have hx := (hb.block w.heap.size (by simp)).trans (heap_alloc_new w _)
          have hck := HC.out _ (bch (bnew _ _) hb)
          have HG : Hid (w.grownBy w2 (some M)) := Lib.hid (grown_of_below (bch (bnew _ _) hb))
          have c0 : w2.cell? ⟨w.heap.size, 0, none⟩ = some (.int .i64 x) := (cell_of_blk hx 0).1
          have c1 : w2.cell? ⟨w.heap.size, 1, none⟩ = some (.int .i64 l) := (cell_of_blk hx 1).1
          have c2 : w2.cell? ⟨w.heap.size, 2, none⟩ = some (.int .i64 k) := (cell_of_blk hx 2).1
          have c3 : w2.cell? ⟨w.heap.size, 3, none⟩ = some (.int .i64 o) := (cell_of_blk hx 3).1
          have d3 : w2.cell? ⟨M, 3, none⟩ = some (.int .i64 p.inp) := (cell_of_blk hck 3).1
          have d4 : w2.cell? ⟨M, 4, none⟩ = some (.int .i64 p.out) := (cell_of_blk hck 4).1
          have d5 : w2.cell? ⟨M, 5, none⟩ = some (.int .i64 en) := (cell_of_blk hck 5).1
          have f5 : w2.frozen? ⟨M, 5, none⟩ = false := (cell_of_blk hck 5).2
          have HK := Lib.hid hck
          clear hb hx hck
          go_wp2_with fail
          go_ret
          exact ⟨rfl, HK.out, HG.out⟩
  · rw [decide_eq_false hs] at HSH
    have hst : arrStep p.inp p.out en ⟨x, l, k, o⟩ = none := by unfold arrStep; rw [if_pos (by simpa using hs)]
    rw [hst]
    clear hs hst
    go_enter Try.func25, Try.ntmps25
    go_wp2_with fail
    refine (HSH.out _).mono ?_
    rintro e w2 ⟨rfl, hb⟩
    have HK := Lib.hid (HC.out _ (bch (bnew _ _) hb))
    have HG : Hid (w.grownBy w2 (some M)) := Lib.hid (grown_of_below (bch (bnew _ _) hb))
    clear hb
    go_wp2_with fail
    go_ret
    exact ⟨rfl, HK.out, HG.out⟩
end Go.Proofs.Ythkobddggoojlaa
