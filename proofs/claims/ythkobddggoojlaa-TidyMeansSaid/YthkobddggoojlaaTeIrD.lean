/- Parts of a proof. No condition but those that each theorem names. -/
import Derived.WalkKit
import Derived.OpenShut
import Derived.Below
import Derived.Lib.Hide
import Derived.Laws.OwnMore
import Derived.Deep.QuietTactic
import Derived.Deep.AppendLies
import Derived.ProofKit
import Derived.SizedLaws
import Derived.Test.YthkobddggoojlaaProg
import Derived.Handy
import Derived.Deep.RegionHeld3
import Derived.BigQuiet
import Derived.Test.YthkobddggoojlaaTeG0e0
import Derived.Test.YthkobddggoojlaaTeG0e1
import Derived.Test.YthkobddggoojlaaTeG0e2
import Derived.Test.YthkobddggoojlaaTeG0e4
import Derived.Test.YthkobddggoojlaaTeIrC
namespace Go.Proofs.Ythkobddggoojlaa
open Go.RowKit
def srcOf (a b c : Int) (j : Nat) : Int := if j = 0 then a else if j = 1 then b else if j = 2 then c else 0
/-- Rest's cells behind so many temps. -/
def restCells (k d a b c i : Int) (j : Nat) : Array Value := #[.int .i64 k, .int .i64 d, .int .i64 (if 0 < j then a else 0), .int .i64 (if 1 < j then b else 0), .int .i64 (if 2 < j then c else 0), .int .i64 i]
theorem field_iff (p : Ir) (n fs : Nat) (x : Int) (hq : n < fs → isTemp p x) : fieldP p (decide (n < fs)) x ↔ (if n < fs then x else 0) = x := by
  by_cases h : n < fs
  · rw [decide_eq_true h, if_pos h]
    exact ⟨fun _ => rfl, fun _ => hq h⟩
  · rw [decide_eq_false h, if_neg h]
    show x = 0 ↔ 0 = x
    exact ⟨fun h => h.symm, fun h => h.symm⟩
theorem grown_two {a w w' : World} {row : Option Nat} (h : a.grownBy w row) (k : w.grownBy w' row) : a.grownBy w' row :=
  ⟨k.os.trans h.os, k.tape.trans h.tape, k.output.trans h.output, Nat.le_trans h.size k.size, fun j hj hne => (k.block j (Nat.lt_of_lt_of_le hj h.size) hne).trans (h.block j hj hne)⟩
set_option maxHeartbeats 2000000 in
set_option maxRecDepth 100000 in
theorem ck_op (M : Nat) (p : Ir) (AA : Option Addr) (ac : Nat) (bv : Value) (en : Int) (o : Opn) (h0 : 0 ≤ p.temps) (h1 : p.temps ≤ 1048576) (_h2 : p.arrays.length ≤ 1048576) (w : World) (h : CkAt w M p (.slice AA p.arrays.length ac) bv en) (hR : SlRep arrEnc w w.heap.size (.slice AA p.arrays.length ac) p.arrays) :
    Calls Try.prog 26 #[.pointer (some ⟨M, 0, none⟩), opVal o] w fun e w' => e = .returned (.bool (decide (opP p o))) ∧ Below w.heap.size w w' := by
  obtain ⟨k, d, a, b, c, i⟩ := o
  have hP : opP p ⟨k, d, a, b, c, i⟩ ↔ (fOk k = true ∧ (0 ≤ i ∧ i ≤ fMost k) ∧ fieldP p (fDst k) d ∧ fieldP p (decide (0 < fSrc k)) a ∧ fieldP p (decide (1 < fSrc k)) b ∧ fieldP p (decide (2 < fSrc k)) c ∧
    (k = 18 ∨ k = 19 → i < p.arrays.length ∧ (k = 18 ∨ (p.arrays.getD i.toNat arrNone).kind ≠ 1))) := Iff.rfl
  have HF := Lib.hid (fun W => ir_formOf k W)
  have HU := Lib.hid (fun W => ir_Uses ⟨k, d, a, b, c, i⟩ W)
  have HC : Hid (∀ (w' : World), Below w.heap.size w w' → CkAt w' M p (.slice AA p.arrays.length ac) bv en) := Lib.hid (fun w' hb => h.below hb)
  have HT := Lib.hid (fun x W hW => ck_temp M p (.slice AA p.arrays.length ac) bv en x h0 h1 W hW)
  have hfs := fSrc_le k
  have hM := lt_of_blk h
  unfold formVal at HF
  unfold opVal at *
  simp only at HU ⊢
  generalize fDst k = fd at *
  generalize fSrc k = fs at *
  generalize fMost k = fm at *
  generalize fOk k = fo at *
  have HP := Lib.hid hP
  have HR := Lib.hid hR
  generalize hA : decide (opP p ⟨k, d, a, b, c, i⟩) = R at *
  clear hP h hR
  cases fo
  · have hR : R = false := by rw [← hA]; apply decide_eq_false; rw [HP.out]; simp
    subst hR
    clear hA
    go_enter Try.func26, Try.ntmps26
    go_wp2_with fail
    refine (HF.out _).mono ?_
    rintro e w2 ⟨rfl, hb⟩
    have HB := Lib.hid (bch (bnew _ _) hb)
    clear hb
    go_wp2_with fail
    go_ret
    exact ⟨rfl, bal HB.out _⟩
  · by_cases hrg : 0 ≤ i ∧ i ≤ fm
    · have HW : Hid (∀ W, Calls Try.prog 24 #[.int .i64 i, .int .i64 0, .int .i64 fm] W fun e w' => e = .returned (.bool true) ∧ w' = W) := Lib.hid (fun W => (ir_within i 0 fm W).mono fun e w' ⟨h1, h2⟩ => ⟨by rw [h1, decide_eq_true hrg], h2.symm⟩)
      cases fd
      · go_enter Try.func26, Try.ntmps26
        go_wp2_with fail
        refine (HF.out _).mono ?_
        rintro e w2 ⟨rfl, hb⟩
        have hx := (hb.block w.heap.size (by simp)).trans (heap_alloc_new w _)
        have hs2 := hb.size
        rw [World.size_alloc] at hs2
        have hx3 := ((bnew w2 (.cells #[.bool false, .int .i64 (fs : Nat), .int .i64 0, .int .i64 fm, .bool true] 81)).block _ (lt_of_blk hx)).trans hx
        have hy3 := heap_alloc_new w2 (.cells #[.bool false, .int .i64 (fs : Nat), .int .i64 0, .int .i64 fm, .bool true] 81)
        have hb3 := bal (bch (bnew _ _) hb) (.cells #[.bool false, .int .i64 (fs : Nat), .int .i64 0, .int .i64 fm, .bool true] 81)
        have hs3 : (w2.alloc (.cells #[.bool false, .int .i64 (fs : Nat), .int .i64 0, .int .i64 fm, .bool true] 81)).heap.size = w2.heap.size + 1 := by simp
        have HB3 := Lib.hid hb3
        have HX3 := Lib.hid hx3
        have HY3 := Lib.hid hy3
        have o0 : (w2.alloc (.cells #[.bool false, .int .i64 (fs : Nat), .int .i64 0, .int .i64 fm, .bool true] 81)).cell? ⟨w.heap.size, 0, none⟩ = some (.int .i64 k) := (cell_of_blk hx3 0).1
        have o1 : (w2.alloc (.cells #[.bool false, .int .i64 (fs : Nat), .int .i64 0, .int .i64 fm, .bool true] 81)).cell? ⟨w.heap.size, 1, none⟩ = some (.int .i64 d) := (cell_of_blk hx3 1).1
        have o2 : (w2.alloc (.cells #[.bool false, .int .i64 (fs : Nat), .int .i64 0, .int .i64 fm, .bool true] 81)).cell? ⟨w.heap.size, 2, none⟩ = some (.int .i64 a) := (cell_of_blk hx3 2).1
        have o3 : (w2.alloc (.cells #[.bool false, .int .i64 (fs : Nat), .int .i64 0, .int .i64 fm, .bool true] 81)).cell? ⟨w.heap.size, 3, none⟩ = some (.int .i64 b) := (cell_of_blk hx3 3).1
        have o4 : (w2.alloc (.cells #[.bool false, .int .i64 (fs : Nat), .int .i64 0, .int .i64 fm, .bool true] 81)).cell? ⟨w.heap.size, 4, none⟩ = some (.int .i64 c) := (cell_of_blk hx3 4).1
        have o5 : (w2.alloc (.cells #[.bool false, .int .i64 (fs : Nat), .int .i64 0, .int .i64 fm, .bool true] 81)).cell? ⟨w.heap.size, 5, none⟩ = some (.int .i64 i) := (cell_of_blk hx3 5).1
        clear hb hx hx3 hy3 hb3
        go_wp2_with fail
        refine (HW.out _).mono ?_
        rintro e w' ⟨rfl, rfl⟩
        generalize w2.alloc (.cells #[.bool false, .int .i64 (fs : Nat), .int .i64 0, .int .i64 fm, .bool true] 81) = w3 at *
        have hx4 := heap_alloc_new w3 (.cells #[.int .i64 k, .int .i64 0, .int .i64 0, .int .i64 0, .int .i64 0, .int .i64 i] 46)
        have hb4 := bnew w3 (.cells #[.int .i64 k, .int .i64 0, .int .i64 0, .int .i64 0, .int .i64 0, .int .i64 i] 46)
        have HX4 := Lib.hid hx4
        have HB4 := Lib.hid hb4
        have f0 : w3.cell? ⟨w2.heap.size, 0, none⟩ = some (.bool false) := (cell_of_blk HY3.out 0).1
        have hx := (hb4.block _ (lt_of_blk HX3.out)).trans HX3.out
        have HX := Lib.hid hx
        have p0 : (w3.alloc (.cells #[.int .i64 k, .int .i64 0, .int .i64 0, .int .i64 0, .int .i64 0, .int .i64 i] 46)).cell? ⟨w.heap.size, 0, none⟩ = some (.int .i64 k) := (cell_of_blk hx 0).1
        have p1 : (w3.alloc (.cells #[.int .i64 k, .int .i64 0, .int .i64 0, .int .i64 0, .int .i64 0, .int .i64 i] 46)).cell? ⟨w.heap.size, 1, none⟩ = some (.int .i64 d) := (cell_of_blk hx 1).1
        have p2 : (w3.alloc (.cells #[.int .i64 k, .int .i64 0, .int .i64 0, .int .i64 0, .int .i64 0, .int .i64 i] 46)).cell? ⟨w.heap.size, 2, none⟩ = some (.int .i64 a) := (cell_of_blk hx 2).1
        have p3 : (w3.alloc (.cells #[.int .i64 k, .int .i64 0, .int .i64 0, .int .i64 0, .int .i64 0, .int .i64 i] 46)).cell? ⟨w.heap.size, 3, none⟩ = some (.int .i64 b) := (cell_of_blk hx 3).1
        have p4 : (w3.alloc (.cells #[.int .i64 k, .int .i64 0, .int .i64 0, .int .i64 0, .int .i64 0, .int .i64 i] 46)).cell? ⟨w.heap.size, 4, none⟩ = some (.int .i64 c) := (cell_of_blk hx 4).1
        have p5 : (w3.alloc (.cells #[.int .i64 k, .int .i64 0, .int .i64 0, .int .i64 0, .int .i64 0, .int .i64 i] 46)).cell? ⟨w.heap.size, 5, none⟩ = some (.int .i64 i) := (cell_of_blk hx 5).1
        have pz : (w3.alloc (.cells #[.int .i64 k, .int .i64 0, .int .i64 0, .int .i64 0, .int .i64 0, .int .i64 i] 46)).cell? ⟨w.heap.size, 1, none⟩ = some (.int .i64 d) := (cell_of_blk (((bnew w3 _).block _ (lt_of_blk HX3.out)).trans HX3.out) 1).1
        clear hx4 hb4 hx
        go_wp2_with fail
        refine (HU.out _).mono ?_
        rintro e w5 ⟨g, rfl, hg, hge, hb5⟩
        have HX5 := Lib.hid ((hb5.block _ (lt_of_blk HX.out)).trans HX.out)
        have HR5 : Hid (w5.heap[w2.heap.size + 1]? = some (.cells (restCells k 0 a b c i 0) 46 (0, 0))) := Lib.hid (by rw [← hs3]; exact (hb5.block _ (lt_of_blk HX4.out)).trans HX4.out)
        have HF5 := Lib.hid ((hb5.block _ (lt_of_blk ((HB4.out.block _ (lt_of_blk HY3.out)).trans HY3.out))).trans ((HB4.out.block _ (lt_of_blk HY3.out)).trans HY3.out))
        have HB5 := Lib.hid (bch (bch HB3.out HB4.out) hb5)
        have HG5 := Lib.hid hg
        have hgne : w2.heap.size + 1 < g := by rw [World.size_alloc] at hge; omega
        clear hb5 hg pz p0 p1 p2 p3 p4 p5 o0 o1 o2 o3 o4 o5 f0
        go_wp2_with fail
        have hwsz : w.heap.size < w2.heap.size + 1 := by omega
        have hMne : M ≠ w2.heap.size + 1 := by omega
        go_loopw [38] (fun j wr => ∃ m : Nat, m ≤ fs ∧ j = .int .i64 m ∧ wr.heap[w2.heap.size + 1]? = some (.cells (restCells k 0 a b c i m) 46 (0, 0)) ∧ w5.grownBy wr (some (w2.heap.size + 1)) ∧ ∀ q, q < m → isTemp p (srcOf a b c q)) (fun j _ => fs - (intOf j).toNat)
        case atStart => exact ⟨0, by omega, rfl, HR5.out, World.grownBy.refl _ _, fun q hq => by omega⟩
        case round =>
          obtain ⟨m, hm, rfl, hr, hgw, hq⟩ := hrel
          have hbw : Below w.heap.size w wr := HB5.out.grown hgw HB5.out.size (fun b e => by injection e with e; omega)
          have HCK := Lib.hid (HC.out wr hbw)
          by_cases hlt : m < fs
          · have m3 : m = 0 ∨ m = 1 ∨ m = 2 := by omega
            have hgc := (hgw.block g (lt_of_blk HG5.out) (by intro e; injection e with e; omega)).trans HG5.out
            rcases m3 with rfl | rfl | rfl
            · have t0 : wr.cell? ⟨g, 0, none⟩ = some (.int .i64 a) := (cell_of_blk hgc 0).1
              have HT1 := Lib.hid (HT.out a wr HCK.out)
              have z0 : wr.cell? ⟨w2.heap.size + 1, 2, none⟩ = some (.int .i64 0) := (cell_of_blk hr 2).1
              have z1 : wr.frozen? ⟨w2.heap.size + 1, 2, none⟩ = false := (cell_of_blk hr 2).2
              by_cases ht : isTemp p a
              · rw [decide_eq_true ht] at HT1
                have HN := Lib.hid (blk_set hr 2 (.int .i64 a))
                have HNG := Lib.hid (grown_setCell wr ⟨w2.heap.size + 1, 2, none⟩ (.int .i64 a))
                have HGW := Lib.hid hgw
                have HQ : Hid (∀ q, q < 0 + 1 → isTemp p (srcOf a b c q)) := Lib.hid (fun q h => by
                  rcases Nat.lt_or_ge q 0 with h3 | h3
                  · exact hq q h3
                  · obtain rfl : q = 0 := by omega
                    exact ht)
                clear hgc hr hgw hq hbw
                go_wp2_with fail
                refine HT1.out.mono ?_
                rintro e w' ⟨rfl, rfl⟩
                go_wp2_with fail
                go_roundw
                case rel => exact ⟨0 + 1, by omega, by go_num, HN.out, grown_two HGW.out HNG.out, HQ.out⟩
                case measure => simp [intOf]; omega
              · rw [decide_eq_false ht] at HT1
                have hR : R = false := by
                  rw [← hA]; apply decide_eq_false; rw [HP.out]
                  intro h
                  have h3 := h.2.2.2.1
                  rw [decide_eq_true hlt] at h3
                  exact ht h3
                subst hR
                have HBW := Lib.hid hbw
                clear hgc hr hgw hq hbw hA
                go_wp2_with fail
                refine HT1.out.mono ?_
                rintro e w' ⟨rfl, rfl⟩
                go_wp2_with fail
                go_ret
                exact ⟨rfl, HBW.out⟩
            · have t0 : wr.cell? ⟨g, 1, none⟩ = some (.int .i64 b) := (cell_of_blk hgc 1).1
              have HT1 := Lib.hid (HT.out b wr HCK.out)
              have z0 : wr.cell? ⟨w2.heap.size + 1, 3, none⟩ = some (.int .i64 0) := (cell_of_blk hr 3).1
              have z1 : wr.frozen? ⟨w2.heap.size + 1, 3, none⟩ = false := (cell_of_blk hr 3).2
              by_cases ht : isTemp p b
              · rw [decide_eq_true ht] at HT1
                have HN := Lib.hid (blk_set hr 3 (.int .i64 b))
                have HNG := Lib.hid (grown_setCell wr ⟨w2.heap.size + 1, 3, none⟩ (.int .i64 b))
                have HGW := Lib.hid hgw
                have HQ : Hid (∀ q, q < 1 + 1 → isTemp p (srcOf a b c q)) := Lib.hid (fun q h => by
                  rcases Nat.lt_or_ge q 1 with h3 | h3
                  · exact hq q h3
                  · obtain rfl : q = 1 := by omega
                    exact ht)
                clear hgc hr hgw hq hbw
                go_wp2_with fail
                refine HT1.out.mono ?_
                rintro e w' ⟨rfl, rfl⟩
                go_wp2_with fail
                go_roundw
                case rel => exact ⟨1 + 1, by omega, by go_num, HN.out, grown_two HGW.out HNG.out, HQ.out⟩
                case measure => simp [intOf]; omega
              · rw [decide_eq_false ht] at HT1
                have hR : R = false := by
                  rw [← hA]; apply decide_eq_false; rw [HP.out]
                  intro h
                  have h3 := h.2.2.2.2.1
                  rw [decide_eq_true hlt] at h3
                  exact ht h3
                subst hR
                have HBW := Lib.hid hbw
                clear hgc hr hgw hq hbw hA
                go_wp2_with fail
                refine HT1.out.mono ?_
                rintro e w' ⟨rfl, rfl⟩
                go_wp2_with fail
                go_ret
                exact ⟨rfl, HBW.out⟩
            · have t0 : wr.cell? ⟨g, 2, none⟩ = some (.int .i64 c) := (cell_of_blk hgc 2).1
              have HT1 := Lib.hid (HT.out c wr HCK.out)
              have z0 : wr.cell? ⟨w2.heap.size + 1, 4, none⟩ = some (.int .i64 0) := (cell_of_blk hr 4).1
              have z1 : wr.frozen? ⟨w2.heap.size + 1, 4, none⟩ = false := (cell_of_blk hr 4).2
              by_cases ht : isTemp p c
              · rw [decide_eq_true ht] at HT1
                have HN := Lib.hid (blk_set hr 4 (.int .i64 c))
                have HNG := Lib.hid (grown_setCell wr ⟨w2.heap.size + 1, 4, none⟩ (.int .i64 c))
                have HGW := Lib.hid hgw
                have HQ : Hid (∀ q, q < 2 + 1 → isTemp p (srcOf a b c q)) := Lib.hid (fun q h => by
                  rcases Nat.lt_or_ge q 2 with h3 | h3
                  · exact hq q h3
                  · obtain rfl : q = 2 := by omega
                    exact ht)
                clear hgc hr hgw hq hbw
                go_wp2_with fail
                refine HT1.out.mono ?_
                rintro e w' ⟨rfl, rfl⟩
                go_wp2_with fail
                go_roundw
                case rel => exact ⟨2 + 1, by omega, by go_num, HN.out, grown_two HGW.out HNG.out, HQ.out⟩
                case measure => simp [intOf]; omega
              · rw [decide_eq_false ht] at HT1
                have hR : R = false := by
                  rw [← hA]; apply decide_eq_false; rw [HP.out]
                  intro h
                  have h3 := h.2.2.2.2.2.1
                  rw [decide_eq_true hlt] at h3
                  exact ht h3
                subst hR
                have HBW := Lib.hid hbw
                clear hgc hr hgw hq hbw hA
                go_wp2_with fail
                refine HT1.out.mono ?_
                rintro e w' ⟨rfl, rfl⟩
                go_wp2_with fail
                go_ret
                exact ⟨rfl, HBW.out⟩
          · obtain rfl : m = fs := by omega
            have hxo := (hgw.block w.heap.size (lt_of_blk HX5.out) (by intro e; injection e with e; omega)).trans HX5.out
            have hxf := (hgw.block w2.heap.size (lt_of_blk HF5.out) (by intro e; injection e with e; omega)).trans HF5.out
            have e0 := field_iff p 0 m a (fun h => hq 0 h)
            have e1 := field_iff p 1 m b (fun h => hq 1 h)
            have e2 := field_iff p 2 m c (fun h => hq 2 h)
            have hR2 : R = true ↔ (fieldP p false d ∧ (if 0 < m then a else 0) = a ∧ (if 1 < m then b else 0) = b ∧ (if 2 < m then c else 0) = c ∧ (k = 18 ∨ k = 19 → i < p.arrays.length ∧ (k = 18 ∨ (p.arrays.getD i.toNat arrNone).kind ≠ 1))) := by
              rw [← hA, decide_eq_true_iff, HP.out, e0, e1, e2]
              constructor
              · rintro ⟨_, _, h⟩; exact h
              · intro h; exact ⟨by first | trivial | rfl, hrg, h⟩
            have HR2 := Lib.hid hR2
            have HBW := Lib.hid hbw
            have hra := HR.out.below hbw (Nat.le_refl _)
            have HRA := Lib.hid hra
            unfold restCells at hr
            have f0 : wr.cell? ⟨w2.heap.size, 0, none⟩ = some (.bool false) := (cell_of_blk hxf 0).1
            have o0 : wr.cell? ⟨w.heap.size, 0, none⟩ = some (.int .i64 k) := (cell_of_blk hxo 0).1
            have o1 : wr.cell? ⟨w.heap.size, 1, none⟩ = some (.int .i64 d) := (cell_of_blk hxo 1).1
            have o2 : wr.cell? ⟨w.heap.size, 2, none⟩ = some (.int .i64 a) := (cell_of_blk hxo 2).1
            have o3 : wr.cell? ⟨w.heap.size, 3, none⟩ = some (.int .i64 b) := (cell_of_blk hxo 3).1
            have o4 : wr.cell? ⟨w.heap.size, 4, none⟩ = some (.int .i64 c) := (cell_of_blk hxo 4).1
            have o5 : wr.cell? ⟨w.heap.size, 5, none⟩ = some (.int .i64 i) := (cell_of_blk hxo 5).1
            clear e0 e1 e2 hR2 hA hxo hxf hra hq hgw hbw
            generalize (if 0 < m then a else 0) = a' at *
            generalize (if 1 < m then b else 0) = b' at *
            generalize (if 2 < m then c else 0) = c' at *
            have r0 : wr.cell? ⟨w2.heap.size + 1, 0, none⟩ = some (.int .i64 k) := (cell_of_blk hr 0).1
            have r1 : wr.cell? ⟨w2.heap.size + 1, 1, none⟩ = some (.int .i64 0) := (cell_of_blk hr 1).1
            have r2 : wr.cell? ⟨w2.heap.size + 1, 2, none⟩ = some (.int .i64 a') := (cell_of_blk hr 2).1
            have r3 : wr.cell? ⟨w2.heap.size + 1, 3, none⟩ = some (.int .i64 b') := (cell_of_blk hr 3).1
            have r4 : wr.cell? ⟨w2.heap.size + 1, 4, none⟩ = some (.int .i64 c') := (cell_of_blk hr 4).1
            have r5 : wr.cell? ⟨w2.heap.size + 1, 5, none⟩ = some (.int .i64 i) := (cell_of_blk hr 5).1
            clear hr
            by_cases ed : d = 0
            · subst ed
              have HD : Hid (fieldP p false 0) := Lib.hid rfl
              by_cases ea : a' = a
              · subst ea
                by_cases eb : b' = b
                · subst eb
                  by_cases ec : c' = c
                  · subst ec
                    have HKC : Hid (R = true ↔ (k = 18 ∨ k = 19 → i < p.arrays.length ∧ (k = 18 ∨ (p.arrays.getD i.toNat arrNone).kind ≠ 1))) := Lib.hid (HR2.out.trans ⟨fun h => h.2.2.2.2, fun h => ⟨HD.out, rfl, rfl, rfl, h⟩⟩)
                    have hck := HCK.out
                    have d1 : wr.cell? ⟨M, 1, none⟩ = some (.slice AA p.arrays.length ac) := (cell_of_blk hck 1).1
                    clear HR2 hck
                    by_cases k18 : k = 18
                    · subst k18
                      by_cases il : i < p.arrays.length
                      · have hR : R = true := HKC.out.2 (fun _ => ⟨il, .inl rfl⟩)
                        subst hR
                        go_wp2_with fail
                        go_quiet (fail)
                        go_wp2_with fail
                        go_ret
                        exact ⟨rfl, ⟨HBW.out.os, HBW.out.tape, HBW.out.output, HBW.out.size, HBW.out.block⟩⟩
                      · have hR : R = false := by
                          cases hc : R
                          · rfl
                          · exact absurd (HKC.out.1 hc (.inl rfl)).1 il
                        subst hR
                        have qi : decide (i < (p.arrays.length : Int)) = false := by simpa using il
                        go_wp2_with fail
                        go_quiet (fail)
                        go_wp2_with fail
                        go_ret
                        exact ⟨rfl, ⟨HBW.out.os, HBW.out.tape, HBW.out.output, HBW.out.size, HBW.out.block⟩⟩
                    · have q18 : (k == 18) = false := by rw [beq_eq_false_iff_ne]; exact k18
                      by_cases k19 : k = 19
                      · subst k19
                        by_cases il : i < p.arrays.length
                        · obtain ⟨n, rfl⟩ : ∃ n : Nat, i = (n : Int) := ⟨i.toNat, by omega⟩
                          obtain ⟨ab, aoff, rfl, _, _, _, y2, _⟩ := arr_at HRA.out n (by omega)
                          have hR : R = ((p.arrays.getD n arrNone).kind != 1) := by
                            rw [Bool.eq_iff_iff, HKC.out, Int.toNat_natCast, bne_iff_ne]
                            constructor
                            · intro h; rcases (h (.inr rfl)).2 with h | h
                              · omega
                              · exact h
                            · intro h _; exact ⟨il, .inr h⟩
                          subst hR
                          generalize hy : (p.arrays.getD n arrNone).kind = y at *
                          have HY := Lib.hid hy
                          have n0 : (0 : Int) ≤ (n : Int) := by omega
                          have n1 : (n : Int) < (p.arrays.length : Int) := il
                          clear HKC HRA hy
                          go_wp2_with fail
                          go_quiet (fail)
                          go_wp2_with fail
                          go_ret
                          exact ⟨by rw [HY.out]; rfl, ⟨HBW.out.os, HBW.out.tape, HBW.out.output, HBW.out.size, HBW.out.block⟩⟩
                        · have hR : R = false := by
                            cases hc : R
                            · rfl
                            · exact absurd (HKC.out.1 hc (.inr rfl)).1 il
                          subst hR
                          have qi : decide (i < (p.arrays.length : Int)) = false := by simpa using il
                          go_wp2_with fail
                          go_quiet (fail)
                          go_wp2_with fail
                          go_ret
                          exact ⟨rfl, ⟨HBW.out.os, HBW.out.tape, HBW.out.output, HBW.out.size, HBW.out.block⟩⟩
                      · have q19 : (k == 19) = false := by rw [beq_eq_false_iff_ne]; exact k19
                        have hR : R = true := HKC.out.2 (fun h => by omega)
                        subst hR
                        go_wp2_with fail
                        go_ret
                        exact ⟨rfl, HBW.out⟩
                  · have q : (c' == c) = false := by rw [beq_eq_false_iff_ne]; exact ec
                    have hR : R = false := by
                      cases hc : R
                      · rfl
                      · obtain ⟨g0, g1, g2, g3, _⟩ := HR2.out.1 hc
                        exact absurd g3 ec
                    subst hR
                    clear HR2
                    go_wp2_with fail
                    go_ret
                    exact ⟨rfl, HBW.out⟩
                · have q : (b' == b) = false := by rw [beq_eq_false_iff_ne]; exact eb
                  have hR : R = false := by
                    cases hc : R
                    · rfl
                    · obtain ⟨g0, g1, g2, g3, _⟩ := HR2.out.1 hc
                      exact absurd g2 eb
                  subst hR
                  clear HR2
                  go_wp2_with fail
                  go_ret
                  exact ⟨rfl, HBW.out⟩
              · have q : (a' == a) = false := by rw [beq_eq_false_iff_ne]; exact ea
                have hR : R = false := by
                  cases hc : R
                  · rfl
                  · obtain ⟨g0, g1, g2, g3, _⟩ := HR2.out.1 hc
                    exact absurd g1 ea
                subst hR
                clear HR2
                go_wp2_with fail
                go_ret
                exact ⟨rfl, HBW.out⟩
            · have q : (0 == d) = false := by rw [beq_eq_false_iff_ne]; exact fun h => ed h.symm
              have hR : R = false := by
                cases hc : R
                · rfl
                · obtain ⟨g0, g1, g2, g3, _⟩ := HR2.out.1 hc
                  exact absurd g0 ed
              subst hR
              clear HR2
              go_wp2_with fail
              go_ret
              exact ⟨rfl, HBW.out⟩
      · go_enter Try.func26, Try.ntmps26
        go_wp2_with fail
        refine (HF.out _).mono ?_
        rintro e w2 ⟨rfl, hb⟩
        have hx := (hb.block w.heap.size (by simp)).trans (heap_alloc_new w _)
        have hs2 := hb.size
        rw [World.size_alloc] at hs2
        have hx3 := ((bnew w2 (.cells #[.bool true, .int .i64 (fs : Nat), .int .i64 0, .int .i64 fm, .bool true] 81)).block _ (lt_of_blk hx)).trans hx
        have hy3 := heap_alloc_new w2 (.cells #[.bool true, .int .i64 (fs : Nat), .int .i64 0, .int .i64 fm, .bool true] 81)
        have hb3 := bal (bch (bnew _ _) hb) (.cells #[.bool true, .int .i64 (fs : Nat), .int .i64 0, .int .i64 fm, .bool true] 81)
        have hs3 : (w2.alloc (.cells #[.bool true, .int .i64 (fs : Nat), .int .i64 0, .int .i64 fm, .bool true] 81)).heap.size = w2.heap.size + 1 := by simp
        have HB3 := Lib.hid hb3
        have HX3 := Lib.hid hx3
        have HY3 := Lib.hid hy3
        have o0 : (w2.alloc (.cells #[.bool true, .int .i64 (fs : Nat), .int .i64 0, .int .i64 fm, .bool true] 81)).cell? ⟨w.heap.size, 0, none⟩ = some (.int .i64 k) := (cell_of_blk hx3 0).1
        have o1 : (w2.alloc (.cells #[.bool true, .int .i64 (fs : Nat), .int .i64 0, .int .i64 fm, .bool true] 81)).cell? ⟨w.heap.size, 1, none⟩ = some (.int .i64 d) := (cell_of_blk hx3 1).1
        have o2 : (w2.alloc (.cells #[.bool true, .int .i64 (fs : Nat), .int .i64 0, .int .i64 fm, .bool true] 81)).cell? ⟨w.heap.size, 2, none⟩ = some (.int .i64 a) := (cell_of_blk hx3 2).1
        have o3 : (w2.alloc (.cells #[.bool true, .int .i64 (fs : Nat), .int .i64 0, .int .i64 fm, .bool true] 81)).cell? ⟨w.heap.size, 3, none⟩ = some (.int .i64 b) := (cell_of_blk hx3 3).1
        have o4 : (w2.alloc (.cells #[.bool true, .int .i64 (fs : Nat), .int .i64 0, .int .i64 fm, .bool true] 81)).cell? ⟨w.heap.size, 4, none⟩ = some (.int .i64 c) := (cell_of_blk hx3 4).1
        have o5 : (w2.alloc (.cells #[.bool true, .int .i64 (fs : Nat), .int .i64 0, .int .i64 fm, .bool true] 81)).cell? ⟨w.heap.size, 5, none⟩ = some (.int .i64 i) := (cell_of_blk hx3 5).1
        clear hb hx hx3 hy3 hb3
        go_wp2_with fail
        refine (HW.out _).mono ?_
        rintro e w' ⟨rfl, rfl⟩
        generalize w2.alloc (.cells #[.bool true, .int .i64 (fs : Nat), .int .i64 0, .int .i64 fm, .bool true] 81) = w3 at *
        have hx4 := heap_alloc_new w3 (.cells #[.int .i64 k, .int .i64 d, .int .i64 0, .int .i64 0, .int .i64 0, .int .i64 i] 46)
        have hb4 := bnew w3 (.cells #[.int .i64 k, .int .i64 d, .int .i64 0, .int .i64 0, .int .i64 0, .int .i64 i] 46)
        have HX4 := Lib.hid hx4
        have HB4 := Lib.hid hb4
        have f0 : w3.cell? ⟨w2.heap.size, 0, none⟩ = some (.bool true) := (cell_of_blk HY3.out 0).1
        have hx := (hb4.block _ (lt_of_blk HX3.out)).trans HX3.out
        have HX := Lib.hid hx
        have p0 : (w3.alloc (.cells #[.int .i64 k, .int .i64 d, .int .i64 0, .int .i64 0, .int .i64 0, .int .i64 i] 46)).cell? ⟨w.heap.size, 0, none⟩ = some (.int .i64 k) := (cell_of_blk hx 0).1
        have p1 : (w3.alloc (.cells #[.int .i64 k, .int .i64 d, .int .i64 0, .int .i64 0, .int .i64 0, .int .i64 i] 46)).cell? ⟨w.heap.size, 1, none⟩ = some (.int .i64 d) := (cell_of_blk hx 1).1
        have p2 : (w3.alloc (.cells #[.int .i64 k, .int .i64 d, .int .i64 0, .int .i64 0, .int .i64 0, .int .i64 i] 46)).cell? ⟨w.heap.size, 2, none⟩ = some (.int .i64 a) := (cell_of_blk hx 2).1
        have p3 : (w3.alloc (.cells #[.int .i64 k, .int .i64 d, .int .i64 0, .int .i64 0, .int .i64 0, .int .i64 i] 46)).cell? ⟨w.heap.size, 3, none⟩ = some (.int .i64 b) := (cell_of_blk hx 3).1
        have p4 : (w3.alloc (.cells #[.int .i64 k, .int .i64 d, .int .i64 0, .int .i64 0, .int .i64 0, .int .i64 i] 46)).cell? ⟨w.heap.size, 4, none⟩ = some (.int .i64 c) := (cell_of_blk hx 4).1
        have p5 : (w3.alloc (.cells #[.int .i64 k, .int .i64 d, .int .i64 0, .int .i64 0, .int .i64 0, .int .i64 i] 46)).cell? ⟨w.heap.size, 5, none⟩ = some (.int .i64 i) := (cell_of_blk hx 5).1
        have pz : (w3.alloc (.cells #[.int .i64 k, .int .i64 0, .int .i64 0, .int .i64 0, .int .i64 0, .int .i64 i] 46)).cell? ⟨w.heap.size, 1, none⟩ = some (.int .i64 d) := (cell_of_blk (((bnew w3 _).block _ (lt_of_blk HX3.out)).trans HX3.out) 1).1
        clear hx4 hb4 hx
        go_wp2_with fail
        refine (HU.out _).mono ?_
        rintro e w5 ⟨g, rfl, hg, hge, hb5⟩
        have HX5 := Lib.hid ((hb5.block _ (lt_of_blk HX.out)).trans HX.out)
        have HR5 : Hid (w5.heap[w2.heap.size + 1]? = some (.cells (restCells k d a b c i 0) 46 (0, 0))) := Lib.hid (by rw [← hs3]; exact (hb5.block _ (lt_of_blk HX4.out)).trans HX4.out)
        have HF5 := Lib.hid ((hb5.block _ (lt_of_blk ((HB4.out.block _ (lt_of_blk HY3.out)).trans HY3.out))).trans ((HB4.out.block _ (lt_of_blk HY3.out)).trans HY3.out))
        have HB5 := Lib.hid (bch (bch HB3.out HB4.out) hb5)
        have HG5 := Lib.hid hg
        have hgne : w2.heap.size + 1 < g := by rw [World.size_alloc] at hge; omega
        clear hb5 hg pz p0 p1 p2 p3 p4 p5 o0 o1 o2 o3 o4 o5 f0
        go_wp2_with fail
        have hwsz : w.heap.size < w2.heap.size + 1 := by omega
        have hMne : M ≠ w2.heap.size + 1 := by omega
        go_loopw [38] (fun j wr => ∃ m : Nat, m ≤ fs ∧ j = .int .i64 m ∧ wr.heap[w2.heap.size + 1]? = some (.cells (restCells k d a b c i m) 46 (0, 0)) ∧ w5.grownBy wr (some (w2.heap.size + 1)) ∧ ∀ q, q < m → isTemp p (srcOf a b c q)) (fun j _ => fs - (intOf j).toNat)
        case atStart => exact ⟨0, by omega, rfl, HR5.out, World.grownBy.refl _ _, fun q hq => by omega⟩
        case round =>
          obtain ⟨m, hm, rfl, hr, hgw, hq⟩ := hrel
          have hbw : Below w.heap.size w wr := HB5.out.grown hgw HB5.out.size (fun b e => by injection e with e; omega)
          have HCK := Lib.hid (HC.out wr hbw)
          by_cases hlt : m < fs
          · have m3 : m = 0 ∨ m = 1 ∨ m = 2 := by omega
            have hgc := (hgw.block g (lt_of_blk HG5.out) (by intro e; injection e with e; omega)).trans HG5.out
            rcases m3 with rfl | rfl | rfl
            · have t0 : wr.cell? ⟨g, 0, none⟩ = some (.int .i64 a) := (cell_of_blk hgc 0).1
              have HT1 := Lib.hid (HT.out a wr HCK.out)
              have z0 : wr.cell? ⟨w2.heap.size + 1, 2, none⟩ = some (.int .i64 0) := (cell_of_blk hr 2).1
              have z1 : wr.frozen? ⟨w2.heap.size + 1, 2, none⟩ = false := (cell_of_blk hr 2).2
              by_cases ht : isTemp p a
              · rw [decide_eq_true ht] at HT1
                have HN := Lib.hid (blk_set hr 2 (.int .i64 a))
                have HNG := Lib.hid (grown_setCell wr ⟨w2.heap.size + 1, 2, none⟩ (.int .i64 a))
                have HGW := Lib.hid hgw
                have HQ : Hid (∀ q, q < 0 + 1 → isTemp p (srcOf a b c q)) := Lib.hid (fun q h => by
                  rcases Nat.lt_or_ge q 0 with h3 | h3
                  · exact hq q h3
                  · obtain rfl : q = 0 := by omega
                    exact ht)
                clear hgc hr hgw hq hbw
                go_wp2_with fail
                refine HT1.out.mono ?_
                rintro e w' ⟨rfl, rfl⟩
                go_wp2_with fail
                go_roundw
                case rel => exact ⟨0 + 1, by omega, by go_num, HN.out, grown_two HGW.out HNG.out, HQ.out⟩
                case measure => simp [intOf]; omega
              · rw [decide_eq_false ht] at HT1
                have hR : R = false := by
                  rw [← hA]; apply decide_eq_false; rw [HP.out]
                  intro h
                  have h3 := h.2.2.2.1
                  rw [decide_eq_true hlt] at h3
                  exact ht h3
                subst hR
                have HBW := Lib.hid hbw
                clear hgc hr hgw hq hbw hA
                go_wp2_with fail
                refine HT1.out.mono ?_
                rintro e w' ⟨rfl, rfl⟩
                go_wp2_with fail
                go_ret
                exact ⟨rfl, HBW.out⟩
            · have t0 : wr.cell? ⟨g, 1, none⟩ = some (.int .i64 b) := (cell_of_blk hgc 1).1
              have HT1 := Lib.hid (HT.out b wr HCK.out)
              have z0 : wr.cell? ⟨w2.heap.size + 1, 3, none⟩ = some (.int .i64 0) := (cell_of_blk hr 3).1
              have z1 : wr.frozen? ⟨w2.heap.size + 1, 3, none⟩ = false := (cell_of_blk hr 3).2
              by_cases ht : isTemp p b
              · rw [decide_eq_true ht] at HT1
                have HN := Lib.hid (blk_set hr 3 (.int .i64 b))
                have HNG := Lib.hid (grown_setCell wr ⟨w2.heap.size + 1, 3, none⟩ (.int .i64 b))
                have HGW := Lib.hid hgw
                have HQ : Hid (∀ q, q < 1 + 1 → isTemp p (srcOf a b c q)) := Lib.hid (fun q h => by
                  rcases Nat.lt_or_ge q 1 with h3 | h3
                  · exact hq q h3
                  · obtain rfl : q = 1 := by omega
                    exact ht)
                clear hgc hr hgw hq hbw
                go_wp2_with fail
                refine HT1.out.mono ?_
                rintro e w' ⟨rfl, rfl⟩
                go_wp2_with fail
                go_roundw
                case rel => exact ⟨1 + 1, by omega, by go_num, HN.out, grown_two HGW.out HNG.out, HQ.out⟩
                case measure => simp [intOf]; omega
              · rw [decide_eq_false ht] at HT1
                have hR : R = false := by
                  rw [← hA]; apply decide_eq_false; rw [HP.out]
                  intro h
                  have h3 := h.2.2.2.2.1
                  rw [decide_eq_true hlt] at h3
                  exact ht h3
                subst hR
                have HBW := Lib.hid hbw
                clear hgc hr hgw hq hbw hA
                go_wp2_with fail
                refine HT1.out.mono ?_
                rintro e w' ⟨rfl, rfl⟩
                go_wp2_with fail
                go_ret
                exact ⟨rfl, HBW.out⟩
            · have t0 : wr.cell? ⟨g, 2, none⟩ = some (.int .i64 c) := (cell_of_blk hgc 2).1
              have HT1 := Lib.hid (HT.out c wr HCK.out)
              have z0 : wr.cell? ⟨w2.heap.size + 1, 4, none⟩ = some (.int .i64 0) := (cell_of_blk hr 4).1
              have z1 : wr.frozen? ⟨w2.heap.size + 1, 4, none⟩ = false := (cell_of_blk hr 4).2
              by_cases ht : isTemp p c
              · rw [decide_eq_true ht] at HT1
                have HN := Lib.hid (blk_set hr 4 (.int .i64 c))
                have HNG := Lib.hid (grown_setCell wr ⟨w2.heap.size + 1, 4, none⟩ (.int .i64 c))
                have HGW := Lib.hid hgw
                have HQ : Hid (∀ q, q < 2 + 1 → isTemp p (srcOf a b c q)) := Lib.hid (fun q h => by
                  rcases Nat.lt_or_ge q 2 with h3 | h3
                  · exact hq q h3
                  · obtain rfl : q = 2 := by omega
                    exact ht)
                clear hgc hr hgw hq hbw
                go_wp2_with fail
                refine HT1.out.mono ?_
                rintro e w' ⟨rfl, rfl⟩
                go_wp2_with fail
                go_roundw
                case rel => exact ⟨2 + 1, by omega, by go_num, HN.out, grown_two HGW.out HNG.out, HQ.out⟩
                case measure => simp [intOf]; omega
              · rw [decide_eq_false ht] at HT1
                have hR : R = false := by
                  rw [← hA]; apply decide_eq_false; rw [HP.out]
                  intro h
                  have h3 := h.2.2.2.2.2.1
                  rw [decide_eq_true hlt] at h3
                  exact ht h3
                subst hR
                have HBW := Lib.hid hbw
                clear hgc hr hgw hq hbw hA
                go_wp2_with fail
                refine HT1.out.mono ?_
                rintro e w' ⟨rfl, rfl⟩
                go_wp2_with fail
                go_ret
                exact ⟨rfl, HBW.out⟩
          · obtain rfl : m = fs := by omega
            have hxo := (hgw.block w.heap.size (lt_of_blk HX5.out) (by intro e; injection e with e; omega)).trans HX5.out
            have hxf := (hgw.block w2.heap.size (lt_of_blk HF5.out) (by intro e; injection e with e; omega)).trans HF5.out
            have e0 := field_iff p 0 m a (fun h => hq 0 h)
            have e1 := field_iff p 1 m b (fun h => hq 1 h)
            have e2 := field_iff p 2 m c (fun h => hq 2 h)
            have hR2 : R = true ↔ (fieldP p true d ∧ (if 0 < m then a else 0) = a ∧ (if 1 < m then b else 0) = b ∧ (if 2 < m then c else 0) = c ∧ (k = 18 ∨ k = 19 → i < p.arrays.length ∧ (k = 18 ∨ (p.arrays.getD i.toNat arrNone).kind ≠ 1))) := by
              rw [← hA, decide_eq_true_iff, HP.out, e0, e1, e2]
              constructor
              · rintro ⟨_, _, h⟩; exact h
              · intro h; exact ⟨by first | trivial | rfl, hrg, h⟩
            have HR2 := Lib.hid hR2
            have HBW := Lib.hid hbw
            have hra := HR.out.below hbw (Nat.le_refl _)
            have HRA := Lib.hid hra
            unfold restCells at hr
            have f0 : wr.cell? ⟨w2.heap.size, 0, none⟩ = some (.bool true) := (cell_of_blk hxf 0).1
            have o0 : wr.cell? ⟨w.heap.size, 0, none⟩ = some (.int .i64 k) := (cell_of_blk hxo 0).1
            have o1 : wr.cell? ⟨w.heap.size, 1, none⟩ = some (.int .i64 d) := (cell_of_blk hxo 1).1
            have o2 : wr.cell? ⟨w.heap.size, 2, none⟩ = some (.int .i64 a) := (cell_of_blk hxo 2).1
            have o3 : wr.cell? ⟨w.heap.size, 3, none⟩ = some (.int .i64 b) := (cell_of_blk hxo 3).1
            have o4 : wr.cell? ⟨w.heap.size, 4, none⟩ = some (.int .i64 c) := (cell_of_blk hxo 4).1
            have o5 : wr.cell? ⟨w.heap.size, 5, none⟩ = some (.int .i64 i) := (cell_of_blk hxo 5).1
            clear e0 e1 e2 hR2 hA hxo hxf hra hq hgw hbw
            generalize (if 0 < m then a else 0) = a' at *
            generalize (if 1 < m then b else 0) = b' at *
            generalize (if 2 < m then c else 0) = c' at *
            have r0 : wr.cell? ⟨w2.heap.size + 1, 0, none⟩ = some (.int .i64 k) := (cell_of_blk hr 0).1
            have r1 : wr.cell? ⟨w2.heap.size + 1, 1, none⟩ = some (.int .i64 d) := (cell_of_blk hr 1).1
            have r2 : wr.cell? ⟨w2.heap.size + 1, 2, none⟩ = some (.int .i64 a') := (cell_of_blk hr 2).1
            have r3 : wr.cell? ⟨w2.heap.size + 1, 3, none⟩ = some (.int .i64 b') := (cell_of_blk hr 3).1
            have r4 : wr.cell? ⟨w2.heap.size + 1, 4, none⟩ = some (.int .i64 c') := (cell_of_blk hr 4).1
            have r5 : wr.cell? ⟨w2.heap.size + 1, 5, none⟩ = some (.int .i64 i) := (cell_of_blk hr 5).1
            clear hr
            by_cases ea : a' = a
            · subst ea
              by_cases eb : b' = b
              · subst eb
                by_cases ec : c' = c
                · subst ec
                  have HT1 := Lib.hid (HT.out d wr HCK.out)
                  by_cases hd : isTemp p d
                  · rw [decide_eq_true hd] at HT1
                    have HD : Hid (fieldP p true d) := Lib.hid hd
                    have HKC : Hid (R = true ↔ (k = 18 ∨ k = 19 → i < p.arrays.length ∧ (k = 18 ∨ (p.arrays.getD i.toNat arrNone).kind ≠ 1))) := Lib.hid (HR2.out.trans ⟨fun h => h.2.2.2.2, fun h => ⟨HD.out, rfl, rfl, rfl, h⟩⟩)
                    have hck := HCK.out
                    have d1 : wr.cell? ⟨M, 1, none⟩ = some (.slice AA p.arrays.length ac) := (cell_of_blk hck 1).1
                    clear HR2 hck
                    by_cases k18 : k = 18
                    · subst k18
                      by_cases il : i < p.arrays.length
                      · have hR : R = true := HKC.out.2 (fun _ => ⟨il, .inl rfl⟩)
                        subst hR
                        go_wp2_with (refine HT1.out.mono ?_; rintro e w' ⟨rfl, rfl⟩)
                        go_quiet (fail)
                        go_wp2_with fail
                        go_ret
                        exact ⟨rfl, ⟨HBW.out.os, HBW.out.tape, HBW.out.output, HBW.out.size, HBW.out.block⟩⟩
                      · have hR : R = false := by
                          cases hc : R
                          · rfl
                          · exact absurd (HKC.out.1 hc (.inl rfl)).1 il
                        subst hR
                        have qi : decide (i < (p.arrays.length : Int)) = false := by simpa using il
                        go_wp2_with (refine HT1.out.mono ?_; rintro e w' ⟨rfl, rfl⟩)
                        go_quiet (fail)
                        go_wp2_with fail
                        go_ret
                        exact ⟨rfl, ⟨HBW.out.os, HBW.out.tape, HBW.out.output, HBW.out.size, HBW.out.block⟩⟩
                    · have q18 : (k == 18) = false := by rw [beq_eq_false_iff_ne]; exact k18
                      by_cases k19 : k = 19
                      · subst k19
                        by_cases il : i < p.arrays.length
                        · obtain ⟨n, rfl⟩ : ∃ n : Nat, i = (n : Int) := ⟨i.toNat, by omega⟩
                          obtain ⟨ab, aoff, rfl, _, _, _, y2, _⟩ := arr_at HRA.out n (by omega)
                          have hR : R = ((p.arrays.getD n arrNone).kind != 1) := by
                            rw [Bool.eq_iff_iff, HKC.out, Int.toNat_natCast, bne_iff_ne]
                            constructor
                            · intro h; rcases (h (.inr rfl)).2 with h | h
                              · omega
                              · exact h
                            · intro h _; exact ⟨il, .inr h⟩
                          subst hR
                          generalize hy : (p.arrays.getD n arrNone).kind = y at *
                          have HY := Lib.hid hy
                          have n0 : (0 : Int) ≤ (n : Int) := by omega
                          have n1 : (n : Int) < (p.arrays.length : Int) := il
                          clear HKC HRA hy
                          go_wp2_with (refine HT1.out.mono ?_; rintro e w' ⟨rfl, rfl⟩)
                          go_quiet (fail)
                          go_wp2_with fail
                          go_ret
                          exact ⟨by rw [HY.out]; rfl, ⟨HBW.out.os, HBW.out.tape, HBW.out.output, HBW.out.size, HBW.out.block⟩⟩
                        · have hR : R = false := by
                            cases hc : R
                            · rfl
                            · exact absurd (HKC.out.1 hc (.inr rfl)).1 il
                          subst hR
                          have qi : decide (i < (p.arrays.length : Int)) = false := by simpa using il
                          go_wp2_with (refine HT1.out.mono ?_; rintro e w' ⟨rfl, rfl⟩)
                          go_quiet (fail)
                          go_wp2_with fail
                          go_ret
                          exact ⟨rfl, ⟨HBW.out.os, HBW.out.tape, HBW.out.output, HBW.out.size, HBW.out.block⟩⟩
                      · have q19 : (k == 19) = false := by rw [beq_eq_false_iff_ne]; exact k19
                        have hR : R = true := HKC.out.2 (fun h => by omega)
                        subst hR
                        go_wp2_with (refine HT1.out.mono ?_; rintro e w' ⟨rfl, rfl⟩)
                        go_ret
                        exact ⟨rfl, HBW.out⟩
                  · rw [decide_eq_false hd] at HT1
                    have hR : R = false := by
                      cases hc : R
                      · rfl
                      · exact absurd (HR2.out.1 hc).1 hd
                    subst hR
                    clear HR2
                    go_wp2_with (refine HT1.out.mono ?_; rintro e w' ⟨rfl, rfl⟩)
                    go_ret
                    exact ⟨rfl, HBW.out⟩
                · have q : (c' == c) = false := by rw [beq_eq_false_iff_ne]; exact ec
                  have hR : R = false := by
                    cases hc : R
                    · rfl
                    · obtain ⟨g0, g1, g2, g3, _⟩ := HR2.out.1 hc
                      exact absurd g3 ec
                  subst hR
                  clear HR2
                  go_wp2_with fail
                  go_ret
                  exact ⟨rfl, HBW.out⟩
              · have q : (b' == b) = false := by rw [beq_eq_false_iff_ne]; exact eb
                have hR : R = false := by
                  cases hc : R
                  · rfl
                  · obtain ⟨g0, g1, g2, g3, _⟩ := HR2.out.1 hc
                    exact absurd g2 eb
                subst hR
                clear HR2
                go_wp2_with fail
                go_ret
                exact ⟨rfl, HBW.out⟩
            · have q : (a' == a) = false := by rw [beq_eq_false_iff_ne]; exact ea
              have hR : R = false := by
                cases hc : R
                · rfl
                · obtain ⟨g0, g1, g2, g3, _⟩ := HR2.out.1 hc
                  exact absurd g1 ea
              subst hR
              clear HR2
              go_wp2_with fail
              go_ret
              exact ⟨rfl, HBW.out⟩
    · have HW : Hid (∀ W, Calls Try.prog 24 #[.int .i64 i, .int .i64 0, .int .i64 fm] W fun e w' => e = .returned (.bool false) ∧ w' = W) := Lib.hid (fun W => (ir_within i 0 fm W).mono fun e w' ⟨h1, h2⟩ => ⟨by rw [h1, decide_eq_false hrg], h2.symm⟩)
      have hR : R = false := by rw [← hA]; apply decide_eq_false; rw [HP.out]; exact fun h => hrg h.2.1
      subst hR
      clear hA hrg
      go_enter Try.func26, Try.ntmps26
      go_wp2_with fail
      refine (HF.out _).mono ?_
      rintro e w2 ⟨rfl, hb⟩
      have hx := (hb.block w.heap.size (by simp)).trans (heap_alloc_new w _)
      have hs2 := hb.size
      rw [World.size_alloc] at hs2
      have hx3 := ((bnew w2 (.cells #[.bool fd, .int .i64 (fs : Nat), .int .i64 0, .int .i64 fm, .bool true] 81)).block _ (lt_of_blk hx)).trans hx
      have hy3 := heap_alloc_new w2 (.cells #[.bool fd, .int .i64 (fs : Nat), .int .i64 0, .int .i64 fm, .bool true] 81)
      have hb3 := bal (bch (bnew _ _) hb) (.cells #[.bool fd, .int .i64 (fs : Nat), .int .i64 0, .int .i64 fm, .bool true] 81)
      have hs3 : (w2.alloc (.cells #[.bool fd, .int .i64 (fs : Nat), .int .i64 0, .int .i64 fm, .bool true] 81)).heap.size = w2.heap.size + 1 := by simp
      have HB3 := Lib.hid hb3
      have HX3 := Lib.hid hx3
      have HY3 := Lib.hid hy3
      have o0 : (w2.alloc (.cells #[.bool fd, .int .i64 (fs : Nat), .int .i64 0, .int .i64 fm, .bool true] 81)).cell? ⟨w.heap.size, 0, none⟩ = some (.int .i64 k) := (cell_of_blk hx3 0).1
      have o1 : (w2.alloc (.cells #[.bool fd, .int .i64 (fs : Nat), .int .i64 0, .int .i64 fm, .bool true] 81)).cell? ⟨w.heap.size, 1, none⟩ = some (.int .i64 d) := (cell_of_blk hx3 1).1
      have o2 : (w2.alloc (.cells #[.bool fd, .int .i64 (fs : Nat), .int .i64 0, .int .i64 fm, .bool true] 81)).cell? ⟨w.heap.size, 2, none⟩ = some (.int .i64 a) := (cell_of_blk hx3 2).1
      have o3 : (w2.alloc (.cells #[.bool fd, .int .i64 (fs : Nat), .int .i64 0, .int .i64 fm, .bool true] 81)).cell? ⟨w.heap.size, 3, none⟩ = some (.int .i64 b) := (cell_of_blk hx3 3).1
      have o4 : (w2.alloc (.cells #[.bool fd, .int .i64 (fs : Nat), .int .i64 0, .int .i64 fm, .bool true] 81)).cell? ⟨w.heap.size, 4, none⟩ = some (.int .i64 c) := (cell_of_blk hx3 4).1
      have o5 : (w2.alloc (.cells #[.bool fd, .int .i64 (fs : Nat), .int .i64 0, .int .i64 fm, .bool true] 81)).cell? ⟨w.heap.size, 5, none⟩ = some (.int .i64 i) := (cell_of_blk hx3 5).1
      clear hb hx hx3 hy3 hb3
      go_wp2_with fail
      refine (HW.out _).mono ?_
      rintro e w' ⟨rfl, rfl⟩
      go_wp2_with fail
      go_ret
      exact ⟨rfl, HB3.out⟩
end Go.Proofs.Ythkobddggoojlaa
