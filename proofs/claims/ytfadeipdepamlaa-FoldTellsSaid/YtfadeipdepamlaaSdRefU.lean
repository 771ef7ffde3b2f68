/- Parts of a proof. No condition but those that each theorem names. -/
import Derived.WalkKit
import Derived.OpenShut
import Derived.Below
import Derived.Lib.Hide
import Derived.Laws.OwnMore
import Derived.Deep.QuietTactic
import Derived.Deep.AppendLies
import Derived.ProofKit
import Derived.SizedLaws
import Derived.Test.YtfadeipdepamlaaProg
import Derived.Handy
import Derived.Deep.RegionHeld3
import Derived.BigQuiet
import Derived.Maps.AppendAt
import Derived.StillTailTactics
import Derived.Laws.CopyOwn
import Derived.Lib.BufferWrite
import Derived.OrdersHeld
import Derived.RegionTactic
import Derived.Deep.DeepCutAuto
import Derived.Test.YtfadeipdepamlaaSdG0e0
import Derived.Test.YtfadeipdepamlaaSdG0e1
import Derived.Test.YtfadeipdepamlaaSdIr
import Derived.Test.YtfadeipdepamlaaSdG1e2
import Derived.Test.YtfadeipdepamlaaSdG2e5
import Derived.Test.YtfadeipdepamlaaSdG1e9
import Derived.Test.YtfadeipdepamlaaSdG2e15
namespace Go.Proofs.Ytfadeipdepamlaa
open Go.RowKit
set_option linter.unusedVariables false
def srcsOf (o : Opn) : List Int := [o.a, o.b, o.c].take (fSrc o.kind)
theorem int_push {w0 w : World} {H B : Nat} {v : Value} {n : Nat} {ys : List Value} (hO : w.ownsRow B 3 1 v n ys) (hB : Below H w0 w) (hH : H ≤ B) (hn : n ≤ 2000000) (hb : B ≤ w.heap.size) (hs : H ≤ w.heap.size) (y : Int) :
    ∃ v' w', (Builtin.append_ #[68, 68] 68 #[v, .slice (some ⟨w.heap.size, 0, none⟩) 1 1]).run Try.prog (w.alloc (.cells #[.int .i64 y] 3)) = .ok v' w' ∧
      w'.ownsRow B 3 1 v' (n + 1) (ys ++ [.int .i64 y]) ∧ Below H w0 w' ∧ (∀ g x, g < B → w.heap[g]? = some x → w'.heap[g]? = some x) ∧ B ≤ w'.heap.size := by
  obtain ⟨v', w', h1, h2, h3⟩ := run_append_int w B v n ys hO y hn hb
  have hlt := fun b e => (hO.lt b e).1
  refine ⟨v', w', h1, h2, (hB.alloc hs _).grown h3 (by simp; omega) (fun b e => by have := hlt b e; omega), fun g x hg hx => ?_, by have := h3.size; simp at this; omega⟩
  exact (h3.block g (by simp; omega) (fun e => by have := hlt g e.symm; omega)).trans (((bnew w _).block g (by omega)).trans hx)
theorem ref_Makes (o : Opn) (w : World) : Calls Try.prog 37 #[.agg #[.int .i64 o.kind, .int .i64 o.dst, .int .i64 o.a, .int .i64 o.b, .int .i64 o.c, .int .i64 o.imm]] w fun e w' => e = .returned (.bool (fDst o.kind)) ∧ Below w.heap.size w w' := by
  obtain ⟨k, d, a, b, c, i⟩ := o
  simp only
  have HLT := Lib.hid (fun W => ref_letters k W)
  obtain ⟨_, _, h100, _, _, _, _, _, _, hsz⟩ := lets_tell k
  generalize lets k = L at *
  have HHS := Lib.hid (fun W => ref_has L 100 hsz W)
  rw [h100] at HHS
  clear h100
  generalize fDst k = fd at *
  go_enter Try.func37, Try.ntmps37
  go_wp2_with fail
  refine (HLT.out _).mono ?_
  rintro e w2 ⟨rfl, hb⟩
  go_wp2_with fail
  refine (HHS.out _).mono ?_
  rintro e w3 ⟨rfl, rfl⟩
  go_wp2_with fail
  go_ret
  exact ⟨rfl, bch (bnew _ _) hb⟩
set_option maxHeartbeats 4000000 in
set_option maxRecDepth 100000 in
theorem ref_uses_0 (k d a b c i : Int) (L : ByteArray) (Lsz : L.size ≤ 1000000) (h97 : hasC L 97 = false) (h98 : hasC L 98 = false) (h99 : hasC L 99 = false) (hLT : ∀ W, Calls Try.prog 51 #[.int .i64 k] W fun e w' => e = .returned (.string L) ∧ Below W.heap.size W w') (w : World) :
    Calls Try.prog 35 #[.agg #[.int .i64 k, .int .i64 d, .int .i64 a, .int .i64 b, .int .i64 c, .int .i64 i]] w fun e w' => ∃ A cc, e = .returned (.slice A 0 cc) ∧ Below w.heap.size w w' ∧ w'.ownsRow w.heap.size 3 1 (.slice A 0 cc) 0 ([].map (.int .i64 ·)) := by
  have HLT := Lib.hid hLT
  have HA := Lib.hid (fun W => ref_has L 97 Lsz W)
  have HB := Lib.hid (fun W => ref_has L 98 Lsz W)
  have HC := Lib.hid (fun W => ref_has L 99 Lsz W)
  rw [h97] at HA
  rw [h98] at HB
  rw [h99] at HC
  clear hLT h97 h98 h99
  have hx := heap_alloc_new w (.cells #[.int .i64 k, .int .i64 d, .int .i64 a, .int .i64 b, .int .i64 c, .int .i64 i] 41)
  have hlw : (w.alloc (.cells #[.int .i64 k, .int .i64 d, .int .i64 a, .int .i64 b, .int .i64 c, .int .i64 i] 41)).heap.size = w.heap.size + 1 := by simp
  have HX := Lib.hid hx
  have HLW := Lib.hid hlw
  clear hx hlw
  go_enter Try.func35, Try.ntmps35
  go_wp2_with fail
  refine (HLT.out _).mono ?_
  rintro e w2 ⟨rfl, hb⟩
  have HX2 := Lib.hid ((hb.block _ (lt_of_blk HX.out)).trans HX.out)
  have HB2 := Lib.hid (bch (bnew _ _) hb)
  have HS2 : Hid (w.heap.size + 1 ≤ w2.heap.size) := Lib.hid (by have h1 := hb.size; have h2 := HLW.out; omega)
  have HO2 : Hid (w2.ownsRow (w.heap.size + 1) 3 1 (.slice none 0 0) 0 []) := Lib.hid (World.ownsRow_nil _ _ _ _)
  clear hb
  go_wp2_with fail
  refine (HA.out _).mono ?_
  rintro e wz0 ⟨rfl, rfl⟩
  go_wp2_with fail
  refine (HB.out _).mono ?_
  rintro e wz1 ⟨rfl, rfl⟩
  go_wp2_with fail
  refine (HC.out _).mono ?_
  rintro e wz2 ⟨rfl, rfl⟩
  go_wp2_with fail
  go_ret
  exact ⟨none, 0, rfl, HB2.out, own_more HO2.out (by omega)⟩
set_option maxHeartbeats 4000000 in
set_option maxRecDepth 100000 in
theorem ref_uses_1 (k d a b c i : Int) (L : ByteArray) (Lsz : L.size ≤ 1000000) (h97 : hasC L 97 = true) (h98 : hasC L 98 = false) (h99 : hasC L 99 = false) (hLT : ∀ W, Calls Try.prog 51 #[.int .i64 k] W fun e w' => e = .returned (.string L) ∧ Below W.heap.size W w') (w : World) :
    Calls Try.prog 35 #[.agg #[.int .i64 k, .int .i64 d, .int .i64 a, .int .i64 b, .int .i64 c, .int .i64 i]] w fun e w' => ∃ A cc, e = .returned (.slice A 1 cc) ∧ Below w.heap.size w w' ∧ w'.ownsRow w.heap.size 3 1 (.slice A 1 cc) 1 ([a].map (.int .i64 ·)) := by
  have HLT := Lib.hid hLT
  have HA := Lib.hid (fun W => ref_has L 97 Lsz W)
  have HB := Lib.hid (fun W => ref_has L 98 Lsz W)
  have HC := Lib.hid (fun W => ref_has L 99 Lsz W)
  rw [h97] at HA
  rw [h98] at HB
  rw [h99] at HC
  clear hLT h97 h98 h99
  have hx := heap_alloc_new w (.cells #[.int .i64 k, .int .i64 d, .int .i64 a, .int .i64 b, .int .i64 c, .int .i64 i] 41)
  have hlw : (w.alloc (.cells #[.int .i64 k, .int .i64 d, .int .i64 a, .int .i64 b, .int .i64 c, .int .i64 i] 41)).heap.size = w.heap.size + 1 := by simp
  have HX := Lib.hid hx
  have HLW := Lib.hid hlw
  clear hx hlw
  go_enter Try.func35, Try.ntmps35
  go_wp2_with fail
  refine (HLT.out _).mono ?_
  rintro e w2 ⟨rfl, hb⟩
  have HX2 := Lib.hid ((hb.block _ (lt_of_blk HX.out)).trans HX.out)
  have HB2 := Lib.hid (bch (bnew _ _) hb)
  have HS2 : Hid (w.heap.size + 1 ≤ w2.heap.size) := Lib.hid (by have h1 := hb.size; have h2 := HLW.out; omega)
  have HO2 : Hid (w2.ownsRow (w.heap.size + 1) 3 1 (.slice none 0 0) 0 []) := Lib.hid (World.ownsRow_nil _ _ _ _)
  clear hb
  go_wp2_with fail
  refine (HA.out _).mono ?_
  rintro e wz0 ⟨rfl, rfl⟩
  obtain ⟨v3, w3, hrun, p1, p2, p3, p4⟩ := int_push HO2.out HB2.out (by omega) (by omega) HS2.out (by have := HS2.out; omega) a
  obtain ⟨g3, c3, rfl⟩ := own_form p1
  have HRUN3 := Lib.hid hrun
  have HO3 := Lib.hid p1
  have HB3 := Lib.hid p2
  have HX3 := Lib.hid (p3 _ _ (by omega) HX2.out)
  have HS3 := Lib.hid p4
  have cc0 : w2.cell? ⟨w.heap.size, 2, none⟩ = some (.int .i64 a) := (cell_of_blk HX2.out 2).1
  clear hrun p1 p2 p3 p4
  go_upto_region 5 with ((at_builtin; refine wpList_app rfl (.tmp 10) (.tmp 13) 68 rfl HRUN3.out rfl rfl ?_))
  clear cc0
  go_wp2_with fail
  refine (HB.out _).mono ?_
  rintro e wz1 ⟨rfl, rfl⟩
  go_wp2_with fail
  refine (HC.out _).mono ?_
  rintro e wz2 ⟨rfl, rfl⟩
  go_wp2_with fail
  go_ret
  exact ⟨_, _, rfl, HB3.out, own_more HO3.out (by omega)⟩
set_option maxHeartbeats 4000000 in
set_option maxRecDepth 100000 in
theorem ref_uses_2 (k d a b c i : Int) (L : ByteArray) (Lsz : L.size ≤ 1000000) (h97 : hasC L 97 = true) (h98 : hasC L 98 = true) (h99 : hasC L 99 = false) (hLT : ∀ W, Calls Try.prog 51 #[.int .i64 k] W fun e w' => e = .returned (.string L) ∧ Below W.heap.size W w') (w : World) :
    Calls Try.prog 35 #[.agg #[.int .i64 k, .int .i64 d, .int .i64 a, .int .i64 b, .int .i64 c, .int .i64 i]] w fun e w' => ∃ A cc, e = .returned (.slice A 2 cc) ∧ Below w.heap.size w w' ∧ w'.ownsRow w.heap.size 3 1 (.slice A 2 cc) 2 ([a, b].map (.int .i64 ·)) := by
  have HLT := Lib.hid hLT
  have HA := Lib.hid (fun W => ref_has L 97 Lsz W)
  have HB := Lib.hid (fun W => ref_has L 98 Lsz W)
  have HC := Lib.hid (fun W => ref_has L 99 Lsz W)
  rw [h97] at HA
  rw [h98] at HB
  rw [h99] at HC
  clear hLT h97 h98 h99
  have hx := heap_alloc_new w (.cells #[.int .i64 k, .int .i64 d, .int .i64 a, .int .i64 b, .int .i64 c, .int .i64 i] 41)
  have hlw : (w.alloc (.cells #[.int .i64 k, .int .i64 d, .int .i64 a, .int .i64 b, .int .i64 c, .int .i64 i] 41)).heap.size = w.heap.size + 1 := by simp
  have HX := Lib.hid hx
  have HLW := Lib.hid hlw
  clear hx hlw
  go_enter Try.func35, Try.ntmps35
  go_wp2_with fail
  refine (HLT.out _).mono ?_
  rintro e w2 ⟨rfl, hb⟩
  have HX2 := Lib.hid ((hb.block _ (lt_of_blk HX.out)).trans HX.out)
  have HB2 := Lib.hid (bch (bnew _ _) hb)
  have HS2 : Hid (w.heap.size + 1 ≤ w2.heap.size) := Lib.hid (by have h1 := hb.size; have h2 := HLW.out; omega)
  have HO2 : Hid (w2.ownsRow (w.heap.size + 1) 3 1 (.slice none 0 0) 0 []) := Lib.hid (World.ownsRow_nil _ _ _ _)
  clear hb
  go_wp2_with fail
  refine (HA.out _).mono ?_
  rintro e wz0 ⟨rfl, rfl⟩
  obtain ⟨v3, w3, hrun, p1, p2, p3, p4⟩ := int_push HO2.out HB2.out (by omega) (by omega) HS2.out (by have := HS2.out; omega) a
  obtain ⟨g3, c3, rfl⟩ := own_form p1
  have HRUN3 := Lib.hid hrun
  have HO3 := Lib.hid p1
  have HB3 := Lib.hid p2
  have HX3 := Lib.hid (p3 _ _ (by omega) HX2.out)
  have HS3 := Lib.hid p4
  have cc0 : w2.cell? ⟨w.heap.size, 2, none⟩ = some (.int .i64 a) := (cell_of_blk HX2.out 2).1
  clear hrun p1 p2 p3 p4
  go_upto_region 5 with ((at_builtin; refine wpList_app rfl (.tmp 10) (.tmp 13) 68 rfl HRUN3.out rfl rfl ?_))
  clear cc0
  go_wp2_with fail
  refine (HB.out _).mono ?_
  rintro e wz1 ⟨rfl, rfl⟩
  obtain ⟨v4, w4, hrun, p1, p2, p3, p4⟩ := int_push HO3.out HB3.out (by omega) (by omega) HS3.out (by have := HS3.out; omega) b
  obtain ⟨g4, c4, rfl⟩ := own_form p1
  have HRUN4 := Lib.hid hrun
  have HO4 := Lib.hid p1
  have HB4 := Lib.hid p2
  have HX4 := Lib.hid (p3 _ _ (by omega) HX3.out)
  have HS4 := Lib.hid p4
  have cc1 : w3.cell? ⟨w.heap.size, 3, none⟩ = some (.int .i64 b) := (cell_of_blk HX3.out 3).1
  clear hrun p1 p2 p3 p4
  go_upto_region 7 with ((at_builtin; refine wpList_app rfl (.tmp 17) (.tmp 20) 68 rfl HRUN4.out rfl rfl ?_))
  clear cc1
  go_wp2_with fail
  refine (HC.out _).mono ?_
  rintro e wz2 ⟨rfl, rfl⟩
  go_wp2_with fail
  go_ret
  exact ⟨_, _, rfl, HB4.out, own_more HO4.out (by omega)⟩
set_option maxHeartbeats 4000000 in
set_option maxRecDepth 100000 in
theorem ref_uses_3 (k d a b c i : Int) (L : ByteArray) (Lsz : L.size ≤ 1000000) (h97 : hasC L 97 = true) (h98 : hasC L 98 = true) (h99 : hasC L 99 = true) (hLT : ∀ W, Calls Try.prog 51 #[.int .i64 k] W fun e w' => e = .returned (.string L) ∧ Below W.heap.size W w') (w : World) :
    Calls Try.prog 35 #[.agg #[.int .i64 k, .int .i64 d, .int .i64 a, .int .i64 b, .int .i64 c, .int .i64 i]] w fun e w' => ∃ A cc, e = .returned (.slice A 3 cc) ∧ Below w.heap.size w w' ∧ w'.ownsRow w.heap.size 3 1 (.slice A 3 cc) 3 ([a, b, c].map (.int .i64 ·)) := by
  have HLT := Lib.hid hLT
  have HA := Lib.hid (fun W => ref_has L 97 Lsz W)
  have HB := Lib.hid (fun W => ref_has L 98 Lsz W)
  have HC := Lib.hid (fun W => ref_has L 99 Lsz W)
  rw [h97] at HA
  rw [h98] at HB
  rw [h99] at HC
  clear hLT h97 h98 h99
  have hx := heap_alloc_new w (.cells #[.int .i64 k, .int .i64 d, .int .i64 a, .int .i64 b, .int .i64 c, .int .i64 i] 41)
  have hlw : (w.alloc (.cells #[.int .i64 k, .int .i64 d, .int .i64 a, .int .i64 b, .int .i64 c, .int .i64 i] 41)).heap.size = w.heap.size + 1 := by simp
  have HX := Lib.hid hx
  have HLW := Lib.hid hlw
  clear hx hlw
  go_enter Try.func35, Try.ntmps35
  go_wp2_with fail
  refine (HLT.out _).mono ?_
  rintro e w2 ⟨rfl, hb⟩
  have HX2 := Lib.hid ((hb.block _ (lt_of_blk HX.out)).trans HX.out)
  have HB2 := Lib.hid (bch (bnew _ _) hb)
  have HS2 : Hid (w.heap.size + 1 ≤ w2.heap.size) := Lib.hid (by have h1 := hb.size; have h2 := HLW.out; omega)
  have HO2 : Hid (w2.ownsRow (w.heap.size + 1) 3 1 (.slice none 0 0) 0 []) := Lib.hid (World.ownsRow_nil _ _ _ _)
  clear hb
  go_wp2_with fail
  refine (HA.out _).mono ?_
  rintro e wz0 ⟨rfl, rfl⟩
  obtain ⟨v3, w3, hrun, p1, p2, p3, p4⟩ := int_push HO2.out HB2.out (by omega) (by omega) HS2.out (by have := HS2.out; omega) a
  obtain ⟨g3, c3, rfl⟩ := own_form p1
  have HRUN3 := Lib.hid hrun
  have HO3 := Lib.hid p1
  have HB3 := Lib.hid p2
  have HX3 := Lib.hid (p3 _ _ (by omega) HX2.out)
  have HS3 := Lib.hid p4
  have cc0 : w2.cell? ⟨w.heap.size, 2, none⟩ = some (.int .i64 a) := (cell_of_blk HX2.out 2).1
  clear hrun p1 p2 p3 p4
  go_upto_region 5 with ((at_builtin; refine wpList_app rfl (.tmp 10) (.tmp 13) 68 rfl HRUN3.out rfl rfl ?_))
  clear cc0
  go_wp2_with fail
  refine (HB.out _).mono ?_
  rintro e wz1 ⟨rfl, rfl⟩
  obtain ⟨v4, w4, hrun, p1, p2, p3, p4⟩ := int_push HO3.out HB3.out (by omega) (by omega) HS3.out (by have := HS3.out; omega) b
  obtain ⟨g4, c4, rfl⟩ := own_form p1
  have HRUN4 := Lib.hid hrun
  have HO4 := Lib.hid p1
  have HB4 := Lib.hid p2
  have HX4 := Lib.hid (p3 _ _ (by omega) HX3.out)
  have HS4 := Lib.hid p4
  have cc1 : w3.cell? ⟨w.heap.size, 3, none⟩ = some (.int .i64 b) := (cell_of_blk HX3.out 3).1
  clear hrun p1 p2 p3 p4
  go_upto_region 7 with ((at_builtin; refine wpList_app rfl (.tmp 17) (.tmp 20) 68 rfl HRUN4.out rfl rfl ?_))
  clear cc1
  go_wp2_with fail
  refine (HC.out _).mono ?_
  rintro e wz2 ⟨rfl, rfl⟩
  obtain ⟨v5, w5, hrun, p1, p2, p3, p4⟩ := int_push HO4.out HB4.out (by omega) (by omega) HS4.out (by have := HS4.out; omega) c
  obtain ⟨g5, c5, rfl⟩ := own_form p1
  have HRUN5 := Lib.hid hrun
  have HO5 := Lib.hid p1
  have HB5 := Lib.hid p2
  have HX5 := Lib.hid (p3 _ _ (by omega) HX4.out)
  have HS5 := Lib.hid p4
  have cc2 : w4.cell? ⟨w.heap.size, 4, none⟩ = some (.int .i64 c) := (cell_of_blk HX4.out 4).1
  clear hrun p1 p2 p3 p4
  go_upto_region 9 with ((at_builtin; refine wpList_app rfl (.tmp 24) (.tmp 27) 68 rfl HRUN5.out rfl rfl ?_))
  clear cc2
  go_wp2_with fail
  go_ret
  exact ⟨_, _, rfl, HB5.out, own_more HO5.out (by omega)⟩
theorem ref_Uses (o : Opn) (w : World) : Calls Try.prog 35 #[.agg #[.int .i64 o.kind, .int .i64 o.dst, .int .i64 o.a, .int .i64 o.b, .int .i64 o.c, .int .i64 o.imm]] w fun e w' => ∃ A cc, e = .returned (.slice A (fSrc o.kind) cc) ∧ Below w.heap.size w w' ∧ w'.ownsRow w.heap.size 3 1 (.slice A (fSrc o.kind) cc) (fSrc o.kind) ((srcsOf o).map (.int .i64 ·)) := by
  obtain ⟨k, d, a, b, c, i⟩ := o
  obtain ⟨_, _, _, h97, h98, h99, _, _, _, hsz⟩ := lets_tell k
  have hLT := fun W => ref_letters k W
  unfold srcsOf
  simp only
  generalize lets k = L at *
  have hn : fSrc k = 0 ∨ fSrc k = 1 ∨ fSrc k = 2 ∨ fSrc k = 3 := by unfold fSrc; split <;> (try split) <;> (try split) <;> simp
  generalize fSrc k = n at *
  rcases hn with rfl | rfl | rfl | rfl
  · exact ref_uses_0 k d a b c i L hsz h97 h98 h99 hLT w
  · exact ref_uses_1 k d a b c i L hsz h97 h98 h99 hLT w
  · exact ref_uses_2 k d a b c i L hsz h97 h98 h99 hLT w
  · exact ref_uses_3 k d a b c i L hsz h97 h98 h99 hLT w
end Go.Proofs.Ytfadeipdepamlaa
