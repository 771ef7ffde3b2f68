/- Parts of a proof, joined. No condition but those that each theorem names. -/
import Derived.WalkKit
import Derived.OpenShut
import Derived.Below
import Derived.Lib.Hide
import Derived.Laws.OwnMore
import Derived.Deep.QuietTactic
import Derived.Deep.AppendLies
import Derived.ProofKit
import Derived.SizedLaws
import Derived.Test.YthkobddggoojlaaProg
import Derived.Handy
import Derived.Deep.RegionHeld3
import Derived.BigQuiet
import Derived.Maps.AppendAt
import Derived.Maps.RangeWalk
import Derived.Maps.OwnSet
import Derived.StillTailTactics
import Derived.Laws.CopyOwn
import Derived.Lib.BufferWrite
import Derived.OrdersHeld
import Derived.RegionTactic
import Derived.Deep.DeepCutAuto
import Derived.Test.YthkobddggoojlaaTdG0e0
import Derived.Test.YthkobddggoojlaaTdG0e1
import Derived.Test.YthkobddggoojlaaTdIr
import Derived.Test.YthkobddggoojlaaTdG1e4
import Derived.Test.YthkobddggoojlaaTdIrC
import Derived.Test.YthkobddggoojlaaTdG2e5
import Derived.Test.YthkobddggoojlaaTdG2e6
import Derived.Test.YthkobddggoojlaaTdG1e5
import Derived.Test.YthkobddggoojlaaTdG0e13
import Derived.Test.YthkobddggoojlaaTdG2e15
import Derived.Test.YthkobddggoojlaaTdG1e2
import Derived.Test.YthkobddggoojlaaTdTdD
import Derived.Test.YthkobddggoojlaaTdTrB
import Derived.Test.YthkobddggoojlaaTdTmA
import Derived.Test.YthkobddggoojlaaTdG4e16
namespace Go.Proofs.Ythkobddggoojlaa
open Go.RowKit
set_option linter.unusedVariables false
set_option maxRecDepth 100000 in
set_option maxHeartbeats 1000000 in
theorem tidy_named_leads (l : List Blk) (hl : TdOk l) (hn : l.length ≤ 1048576) (T G V cap : Nat) (bad : List Nat) (s : List Bool) (ovs : List Value) (t : Trm) (ht : tdOkT l.length t) (w : World) (hT : TiBox w T G V cap l.length) (h : TmAt w G V bad l s ovs) :
    Calls Try.prog 14 #[trmVal t, .func (.func 15) #[.pointer (some ⟨T, 0, none⟩)] #[]] w fun e w' => e = .returned (trmVal (tdNam (tdLeads l) t)) ∧ Below w.heap.size w w' := by
  have HC := Lib.hid (fun k (hk : tdLab l.length k) W (hb : Below w.heap.size w W) => tidy_leads l hl hn T G V cap bad s ovs k hk W (hT.below hb) (h.below hb))
  clear h hT hl
  unfold trmVal
  have HX0 := Lib.hid (heap_alloc_new w (.cells #[.int .i64 t.kind, .int .i64 t.a, .int .i64 t.yes, .int .i64 t.no] 38))
  have HB0 := Lib.hid (bnew w (.cells #[.int .i64 t.kind, .int .i64 t.a, .int .i64 t.yes, .int .i64 t.no] 38))
  have hb1 := bnew (w.alloc (.cells #[.int .i64 t.kind, .int .i64 t.a, .int .i64 t.yes, .int .i64 t.no] 38)) (.cells #[.int .i64 0, .int .i64 0, .int .i64 0, .int .i64 0] 38)
  have HR1 := Lib.hid (heap_alloc_new (w.alloc (.cells #[.int .i64 t.kind, .int .i64 t.a, .int .i64 t.yes, .int .i64 t.no] 38)) (.cells #[.int .i64 0, .int .i64 0, .int .i64 0, .int .i64 0] 38))
  have HX1 := Lib.hid ((hb1.block _ (lt_of_blk HX0.out)).trans HX0.out)
  have HB1 := Lib.hid (bch HB0.out hb1)
  rw [World.size_alloc] at HR1
  generalize hPO : (fun (e : Ending) (w' : World) => e = .returned (.agg #[.int .i64 (tdNam (tdLeads l) t).kind, .int .i64 (tdNam (tdLeads l) t).a, .int .i64 (tdNam (tdLeads l) t).yes, .int .i64 (tdNam (tdLeads l) t).no]) ∧ Below w.heap.size w w') = PO
  have HPO := Lib.hid hPO
  obtain ⟨tk, ta, ty, tn⟩ := t
  simp only at HX1 HR1 HB1
  unfold tdOkT at ht
  simp only at ht
  clear hPO hb1 HB0 HX0
  go_enter Try.func14, Try.ntmps14
  go_upto_region 1 with (fail)
  generalize (w.alloc (.cells #[.int .i64 tk, .int .i64 ta, .int .i64 ty, .int .i64 tn] 38)).alloc (.cells #[.int .i64 0, .int .i64 0, .int .i64 0, .int .i64 0] 38) = w1 at *
  obtain ⟨q0, f0⟩ := cell_of_blk HX1.out 0
  obtain ⟨q2, f2⟩ := cell_of_blk HX1.out 2
  rcases ht with ⟨rfl, hy⟩ | ⟨rfl, hy, hn2⟩ | rfl
  · have HL1 := Lib.hid hy
    have HE : Hid (tdNam (tdLeads l) ⟨1, ta, ty, tn⟩ = ⟨1, ta, (tdLeads l) ty, tn⟩) := Lib.hid (by simp [tdNam])
    clear hy
    go_wp2_with fail
    refine (HC.out ty HL1.out _ HB1.out).mono ?_
    rintro e w2 ⟨rfl, hb2⟩
    have HB2 := Lib.hid (bch HB1.out hb2)
    have HX2 := Lib.hid ((hb2.block _ (lt_of_blk HX1.out)).trans HX1.out)
    have HR2 := Lib.hid ((hb2.block _ (lt_of_blk HR1.out)).trans HR1.out)
    have HX4 := Lib.hid (blk_set HX2.out 2 (.int .i64 (tdLeads l ty)))
    have HR4 := Lib.hid (blk_far HR2.out ⟨w.heap.size, 2, none⟩ (.int .i64 (tdLeads l ty)) (by show w.heap.size ≠ w.heap.size + 1; omega))
    have HB4 := Lib.hid (HB2.out.setCell (p := ⟨w.heap.size, 2, none⟩) (Nat.le_refl _) (.int .i64 (tdLeads l ty)))
    clear hb2 q0 q2 f0 f2
    obtain ⟨q2, f2⟩ := cell_of_blk HX2.out 2
    go_upto_region 6 with (fail)
    clear q2 f2
    generalize w2.setCell ⟨w.heap.size, 2, none⟩ (.int .i64 (tdLeads l ty)) = w4 at *
    obtain ⟨z0, z1, z2, z3⟩ : w4.cell? ⟨w.heap.size, 0, none⟩ = some (.int .i64 1) ∧ True ∧ True ∧ True := ⟨(cell_of_blk HX4.out 0).1, trivial, trivial, trivial⟩
    clear z0 z1 z2 z3
    obtain ⟨z0, z1, z2, z3, zf⟩ : w4.cell? ⟨w.heap.size, 0, none⟩ = some (.int .i64 1) ∧ w4.cell? ⟨w.heap.size, 1, none⟩ = some (.int .i64 ta) ∧ w4.cell? ⟨w.heap.size, 2, none⟩ = some (.int .i64 (tdLeads l ty)) ∧ w4.cell? ⟨w.heap.size, 3, none⟩ = some (.int .i64 tn) ∧ True := ⟨(cell_of_blk HX4.out 0).1, (cell_of_blk HX4.out 1).1, (cell_of_blk HX4.out 2).1, (cell_of_blk HX4.out 3).1, trivial⟩
    obtain ⟨q0, f0⟩ := cell_of_blk HR4.out 0
    obtain ⟨q1, f1⟩ := cell_of_blk HR4.out 1
    obtain ⟨q2, f2⟩ := cell_of_blk HR4.out 2
    obtain ⟨q3, f3⟩ := cell_of_blk HR4.out 3
    go_wp2_with fail
    clear z0 z1 z2 z3 q0 q1 q2 q3 f0 f1 f2 f3
    have HR7 := Lib.hid (blk_set (blk_set (blk_set (blk_set HR4.out 0 (.int .i64 1)) 1 (.int .i64 ta)) 2 (.int .i64 (tdLeads l ty))) 3 (.int .i64 tn))
    have HB7 := Lib.hid ((((HB4.out.setCell (p := ⟨w.heap.size + 1, 0, none⟩) (Nat.le_succ _) (.int .i64 1)).setCell (p := ⟨w.heap.size + 1, 1, none⟩) (Nat.le_succ _) (.int .i64 ta)).setCell (p := ⟨w.heap.size + 1, 2, none⟩) (Nat.le_succ _) (.int .i64 (tdLeads l ty))).setCell (p := ⟨w.heap.size + 1, 3, none⟩) (Nat.le_succ _) (.int .i64 tn))
    generalize (((w4.setCell ⟨w.heap.size + 1, 0, none⟩ (.int .i64 1)).setCell ⟨w.heap.size + 1, 1, none⟩ (.int .i64 ta)).setCell ⟨w.heap.size + 1, 2, none⟩ (.int .i64 (tdLeads l ty))).setCell ⟨w.heap.size + 1, 3, none⟩ (.int .i64 tn) = w9 at *
    have k0 : w9.cell? ⟨w.heap.size + 1, 0, none⟩ = some (.int .i64 1) := (cell_of_blk HR7.out 0).1
    have k1 : w9.cell? ⟨w.heap.size + 1, 1, none⟩ = some (.int .i64 ta) := (cell_of_blk HR7.out 1).1
    have k2 : w9.cell? ⟨w.heap.size + 1, 2, none⟩ = some (.int .i64 (tdLeads l ty)) := (cell_of_blk HR7.out 2).1
    have k3 : w9.cell? ⟨w.heap.size + 1, 3, none⟩ = some (.int .i64 tn) := (cell_of_blk HR7.out 3).1
    refine bodyPost_ret (v := .agg #[.int .i64 1, .int .i64 ta, .int .i64 (tdLeads l ty), .int .i64 tn]) (by simp [results, Try.results14, go_sem, k0, k1, k2, k3]; try rfl) rfl ?_
    rw [← HPO.out]
    exact ⟨by rw [HE.out], HB7.out⟩
  · have HL1 := Lib.hid hy
    have HL2 := Lib.hid hn2
    have HE : Hid (tdNam (tdLeads l) ⟨2, ta, ty, tn⟩ = ⟨2, ta, (tdLeads l) ty, (tdLeads l) tn⟩) := Lib.hid (by simp [tdNam])
    clear hy hn2
    go_upto_region 5 with (fail)
    have HB1d := Lib.hid (bdr HB1.out)
    have HBd := HB1d
    have HX1d : Hid (w1.drew.heap[w.heap.size]? = some (.cells #[.int .i64 2, .int .i64 ta, .int .i64 ty, .int .i64 tn] 38 (0, 0))) := Lib.hid HX1.out
    have HR1d : Hid (w1.drew.heap[w.heap.size + 1]? = some (.cells #[.int .i64 0, .int .i64 0, .int .i64 0, .int .i64 0] 38 (0, 0))) := Lib.hid HR1.out
    have hS0 : w1.drew.cell? ⟨w.heap.size, 3, none⟩ = some (.int .i64 tn) := (cell_of_blk HX1d.out 3).1
    replace q2 : w1.drew.cell? ⟨w.heap.size, 2, none⟩ = some (.int .i64 ty) := q2
    refine wp_region_L (fun w' => w'.cell? ⟨w.heap.size, 3, none⟩ = some (.int .i64 tn)) 11 (by kernel_rfl) ?_
    refine wpAnyL_take (i := 0) (some 16) (.func (.func 15) #[.pointer (some ⟨T, 0, none⟩)] #[]) rfl rfl (by kernel_rfl) (by kernel_rfl) (by kernel_rfl) (by kernel_rfl) (fun _ _ _ h => h) (by rfl) ?hv0 hS0 ?rest0
    case hv0 =>
      intro wz hSz
      go_simp
    try simp only [Act.put, List.setIfInBounds_toArray, List.set_cons_zero, List.set_cons_succ]
    refine wpAnyL_take (i := 1) (some 17) (.pointer (some ⟨w.heap.size, 2, none⟩)) rfl rfl (by kernel_rfl) (by kernel_rfl) (by kernel_rfl) (by kernel_rfl) (fun _ _ _ h => h) (by rfl) ?hv1 hS0 ?rest1
    case hv1 =>
      intro wz hSz
      go_simp
    try simp only [Act.put, List.setIfInBounds_toArray, List.set_cons_zero, List.set_cons_succ]
    refine wpAnyL_take (i := 4) (some 20) (.func (.func 15) #[.pointer (some ⟨T, 0, none⟩)] #[]) rfl rfl (by kernel_rfl) (by kernel_rfl) (by kernel_rfl) (by kernel_rfl) (fun _ _ _ h => h) (by rfl) ?hv4 hS0 ?rest4
    case hv4 =>
      intro wz hSz
      go_simp
    try simp only [Act.put, List.setIfInBounds_toArray, List.set_cons_zero, List.set_cons_succ]
    refine wpAnyL_take (i := 5) (some 21) (.pointer (some ⟨w.heap.size, 3, none⟩)) rfl rfl (by kernel_rfl) (by kernel_rfl) (by kernel_rfl) (by kernel_rfl) (fun _ _ _ h => h) (by rfl) ?hv5 hS0 ?rest5
    case hv5 =>
      intro wz hSz
      go_simp
    try simp only [Act.put, List.setIfInBounds_toArray, List.set_cons_zero, List.set_cons_succ]
    refine wpAnyL_take (i := 6) (some 22) (.int .i64 tn) rfl rfl (by kernel_rfl) (by kernel_rfl) (by kernel_rfl) (by kernel_rfl) (fun _ _ _ h => h) (by rfl) ?hv6 hS0 ?rest6
    case hv6 =>
      intro wz hSz
      go_simp
    try simp only [Act.put, List.setIfInBounds_toArray, List.set_cons_zero, List.set_cons_succ]
    refine wpAnyL_one (i := 2) (by kernel_rfl) rfl ?_
    intro K hK
    rw [if_pos (by rfl)]
    go_simp
    refine hK.out _ _ (fun _ => hS0) ?_
    clear hK
    try simp only [Act.put, List.setIfInBounds_toArray, List.set_cons_zero, List.set_cons_succ]
    refine wpAnyL_one (i := 3) (by kernel_rfl) rfl ?_
    intro K hK
    rw [if_pos (by rfl)]
    go_simp
    refine (HC.out ty HL1.out _ HBd.out).mono ?_
    rintro e w2 ⟨rfl, hb2⟩
    have HB2 := Lib.hid (bch HB1d.out hb2)
    have HX2 := Lib.hid ((hb2.block _ (lt_of_blk HX1d.out)).trans HX1d.out)
    have HR2 := Lib.hid ((hb2.block _ (lt_of_blk HR1d.out)).trans HR1d.out)
    have hS2 := (cell_of_blk HX2.out 3).1
    clear hb2
    refine hK.out _ _ (fun _ => hS2) ?_
    clear hK
    try simp only [Act.put, List.setIfInBounds_toArray, List.set_cons_zero, List.set_cons_succ]
    refine wpAnyL_take (i := 8) (some 24) (.pointer (some ⟨w.heap.size, 2, none⟩)) rfl rfl (by kernel_rfl) (by kernel_rfl) (by kernel_rfl) (by kernel_rfl) (fun _ _ _ h => h) (by rfl) ?hv8 hS2 ?rest8
    case hv8 =>
      intro wz hSz
      go_simp
    try simp only [Act.put, List.setIfInBounds_toArray, List.set_cons_zero, List.set_cons_succ]
    refine wpAnyL_one (i := 7) (by kernel_rfl) rfl ?_
    intro K hK
    rw [if_pos (by rfl)]
    go_simp
    refine (HC.out tn HL2.out _ HB2.out).mono ?_
    rintro e w3 ⟨rfl, hb3⟩
    have HB3 := Lib.hid (bch HB2.out hb3)
    have HX3 := Lib.hid ((hb3.block _ (lt_of_blk HX2.out)).trans HX2.out)
    have HR3 := Lib.hid ((hb3.block _ (lt_of_blk HR2.out)).trans HR2.out)
    have hS3 := (cell_of_blk HX3.out 3).1
    clear hb3
    refine hK.out _ _ (fun _ => hS3) ?_
    clear hK
    try simp only [Act.put, List.setIfInBounds_toArray, List.set_cons_zero, List.set_cons_succ]
    have HX4 := Lib.hid (blk_set HX3.out 2 (.int .i64 (tdLeads l ty)))
    have HR4 := Lib.hid (blk_far HR3.out ⟨w.heap.size, 2, none⟩ (.int .i64 (tdLeads l ty)) (by show w.heap.size ≠ w.heap.size + 1; omega))
    have HB4 := Lib.hid (HB3.out.setCell (p := ⟨w.heap.size, 2, none⟩) (Nat.le_refl _) (.int .i64 (tdLeads l ty)))
    have hS4 := (cell_of_blk HX4.out 3).1
    clear q2 f2
    obtain ⟨q2, f2⟩ := cell_of_blk HX3.out 2
    refine wpAnyL_one (i := 9) (by kernel_rfl) rfl ?_
    intro K hK
    rw [if_pos (by rfl)]
    go_simp
    refine hK.out _ _ (fun _ => hS4) ?_
    clear hK
    try simp only [Act.put, List.setIfInBounds_toArray, List.set_cons_zero, List.set_cons_succ]
    clear q2 f2
    generalize w3.setCell ⟨w.heap.size, 2, none⟩ (.int .i64 (tdLeads l ty)) = w4 at *
    obtain ⟨q3, f3⟩ := cell_of_blk HX4.out 3
    refine wpAnyL_one (i := 10) (by kernel_rfl) rfl ?_
    intro K hK
    rw [if_pos (by rfl)]
    go_simp
    refine hK.out _ _ (fun _ => hS4) ?_
    clear hK
    try simp only [Act.put, List.setIfInBounds_toArray, List.set_cons_zero, List.set_cons_succ]
    refine wpAnyL_one (i := 11) (by kernel_rfl) rfl ?_
    intro K hK
    rw [if_pos (by rfl)]
    go_simp
    refine hK.out _ _ (fun h => absurd rfl h) ?_
    clear hK
    refine wpAnyL_done (by kernel_rfl) ?_ _
    have HX5 := Lib.hid (blk_set HX4.out 3 (.int .i64 (tdLeads l tn)))
    have HR5 := Lib.hid (blk_far HR4.out ⟨w.heap.size, 3, none⟩ (.int .i64 (tdLeads l tn)) (by show w.heap.size ≠ w.heap.size + 1; omega))
    have HB5 := Lib.hid (HB4.out.setCell (p := ⟨w.heap.size, 3, none⟩) (Nat.le_refl _) (.int .i64 (tdLeads l tn)))
    clear q0 f0 q3 f3 hS0 hS2 hS3 hS4
    generalize w4.setCell ⟨w.heap.size, 3, none⟩ (.int .i64 (tdLeads l tn)) = w5 at *
    obtain ⟨z0, z1, z2, z3, zf⟩ : w5.cell? ⟨w.heap.size, 0, none⟩ = some (.int .i64 2) ∧ w5.cell? ⟨w.heap.size, 1, none⟩ = some (.int .i64 ta) ∧ w5.cell? ⟨w.heap.size, 2, none⟩ = some (.int .i64 (tdLeads l ty)) ∧ w5.cell? ⟨w.heap.size, 3, none⟩ = some (.int .i64 (tdLeads l tn)) ∧ True := ⟨(cell_of_blk HX5.out 0).1, (cell_of_blk HX5.out 1).1, (cell_of_blk HX5.out 2).1, (cell_of_blk HX5.out 3).1, trivial⟩
    obtain ⟨q0, f0⟩ := cell_of_blk HR5.out 0
    obtain ⟨q1, f1⟩ := cell_of_blk HR5.out 1
    obtain ⟨q2, f2⟩ := cell_of_blk HR5.out 2
    obtain ⟨q3, f3⟩ := cell_of_blk HR5.out 3
    go_wp2_with fail
    clear z0 z1 z2 z3 q0 q1 q2 q3 f0 f1 f2 f3
    have HR7 := Lib.hid (blk_set (blk_set (blk_set (blk_set HR5.out 0 (.int .i64 2)) 1 (.int .i64 ta)) 2 (.int .i64 (tdLeads l ty))) 3 (.int .i64 (tdLeads l tn)))
    have HB7 := Lib.hid ((((HB5.out.setCell (p := ⟨w.heap.size + 1, 0, none⟩) (Nat.le_succ _) (.int .i64 2)).setCell (p := ⟨w.heap.size + 1, 1, none⟩) (Nat.le_succ _) (.int .i64 ta)).setCell (p := ⟨w.heap.size + 1, 2, none⟩) (Nat.le_succ _) (.int .i64 (tdLeads l ty))).setCell (p := ⟨w.heap.size + 1, 3, none⟩) (Nat.le_succ _) (.int .i64 (tdLeads l tn)))
    generalize (((w5.setCell ⟨w.heap.size + 1, 0, none⟩ (.int .i64 2)).setCell ⟨w.heap.size + 1, 1, none⟩ (.int .i64 ta)).setCell ⟨w.heap.size + 1, 2, none⟩ (.int .i64 (tdLeads l ty))).setCell ⟨w.heap.size + 1, 3, none⟩ (.int .i64 (tdLeads l tn)) = w9 at *
    have k0 : w9.cell? ⟨w.heap.size + 1, 0, none⟩ = some (.int .i64 2) := (cell_of_blk HR7.out 0).1
    have k1 : w9.cell? ⟨w.heap.size + 1, 1, none⟩ = some (.int .i64 ta) := (cell_of_blk HR7.out 1).1
    have k2 : w9.cell? ⟨w.heap.size + 1, 2, none⟩ = some (.int .i64 (tdLeads l ty)) := (cell_of_blk HR7.out 2).1
    have k3 : w9.cell? ⟨w.heap.size + 1, 3, none⟩ = some (.int .i64 (tdLeads l tn)) := (cell_of_blk HR7.out 3).1
    refine bodyPost_ret (v := .agg #[.int .i64 2, .int .i64 ta, .int .i64 (tdLeads l ty), .int .i64 (tdLeads l tn)]) (by simp [results, Try.results14, go_sem, k0, k1, k2, k3]; try rfl) rfl ?_
    rw [← HPO.out]
    exact ⟨by rw [HE.out], HB7.out⟩
  · have HE : Hid (tdNam (tdLeads l) ⟨3, ta, ty, tn⟩ = ⟨3, ta, ty, tn⟩) := Lib.hid (by simp [tdNam])
    clear q2 f2
    go_upto_region 6 with (fail)
    clear q0 f0
    obtain ⟨z0, z1, z2, z3, zf⟩ : w1.cell? ⟨w.heap.size, 0, none⟩ = some (.int .i64 3) ∧ w1.cell? ⟨w.heap.size, 1, none⟩ = some (.int .i64 ta) ∧ w1.cell? ⟨w.heap.size, 2, none⟩ = some (.int .i64 ty) ∧ w1.cell? ⟨w.heap.size, 3, none⟩ = some (.int .i64 tn) ∧ True := ⟨(cell_of_blk HX1.out 0).1, (cell_of_blk HX1.out 1).1, (cell_of_blk HX1.out 2).1, (cell_of_blk HX1.out 3).1, trivial⟩
    obtain ⟨q0, f0⟩ := cell_of_blk HR1.out 0
    obtain ⟨q1, f1⟩ := cell_of_blk HR1.out 1
    obtain ⟨q2, f2⟩ := cell_of_blk HR1.out 2
    obtain ⟨q3, f3⟩ := cell_of_blk HR1.out 3
    go_wp2_with fail
    clear z0 z1 z2 z3 q0 q1 q2 q3 f0 f1 f2 f3
    have HR7 := Lib.hid (blk_set (blk_set (blk_set (blk_set HR1.out 0 (.int .i64 3)) 1 (.int .i64 ta)) 2 (.int .i64 ty)) 3 (.int .i64 tn))
    have HB7 := Lib.hid ((((HB1.out.setCell (p := ⟨w.heap.size + 1, 0, none⟩) (Nat.le_succ _) (.int .i64 3)).setCell (p := ⟨w.heap.size + 1, 1, none⟩) (Nat.le_succ _) (.int .i64 ta)).setCell (p := ⟨w.heap.size + 1, 2, none⟩) (Nat.le_succ _) (.int .i64 ty)).setCell (p := ⟨w.heap.size + 1, 3, none⟩) (Nat.le_succ _) (.int .i64 tn))
    generalize (((w1.setCell ⟨w.heap.size + 1, 0, none⟩ (.int .i64 3)).setCell ⟨w.heap.size + 1, 1, none⟩ (.int .i64 ta)).setCell ⟨w.heap.size + 1, 2, none⟩ (.int .i64 ty)).setCell ⟨w.heap.size + 1, 3, none⟩ (.int .i64 tn) = w9 at *
    have k0 : w9.cell? ⟨w.heap.size + 1, 0, none⟩ = some (.int .i64 3) := (cell_of_blk HR7.out 0).1
    have k1 : w9.cell? ⟨w.heap.size + 1, 1, none⟩ = some (.int .i64 ta) := (cell_of_blk HR7.out 1).1
    have k2 : w9.cell? ⟨w.heap.size + 1, 2, none⟩ = some (.int .i64 ty) := (cell_of_blk HR7.out 2).1
    have k3 : w9.cell? ⟨w.heap.size + 1, 3, none⟩ = some (.int .i64 tn) := (cell_of_blk HR7.out 3).1
    refine bodyPost_ret (v := .agg #[.int .i64 3, .int .i64 ta, .int .i64 ty, .int .i64 tn]) (by simp [results, Try.results14, go_sem, k0, k1, k2, k3]; try rfl) rfl ?_
    rw [← HPO.out]
    exact ⟨by rw [HE.out], HB7.out⟩
/-- Numbers told by a row of them. -/
def tdAtx (xs : List Int) (k : Int) : Int := if k = -1 then -1 else xs.getD k.toNat 0
set_option maxHeartbeats 1000000 in
theorem tidy_number (xs : List Int) (B AT : Nat) (k : Int) (hk : tdLab xs.length k) (w : World) (hB : w.heap[B]? = some (.cells #[.slice (some ⟨AT, 0, none⟩) xs.length xs.length] 72 (0, 0))) (hA : w.heap[AT]? = some (.cells (ints xs) 3 (0, 0))) :
    Calls Try.prog 36 #[.int .i64 k, .pointer (some ⟨B, 0, none⟩)] w fun e w' => e = .returned (.int .i64 (tdAtx xs k)) ∧ Below w.heap.size w w' := by
  generalize hPO : (fun (e : Ending) (w' : World) => e = .returned (.int .i64 (tdAtx xs k)) ∧ Below w.heap.size w w') = PO
  have HPO := Lib.hid hPO
  have q0 := (cell_of_blk hB 0).1
  clear hPO hB
  unfold tdLab at hk
  go_enter Try.func36, Try.ntmps36
  by_cases hm : k = -1
  · subst hm
    clear hk hA
    go_wp2_with fail
    rw [← HPO.out]
    exact ⟨rfl, Below.refl _ _⟩
  · obtain ⟨m, rfl⟩ : ∃ m : Nat, k = (m : Int) := ⟨k.toNat, by omega⟩
    have hml : m < xs.length := by omega
    have m0 : (0 : Int) ≤ (m : Int) := by omega
    have m1 : (m : Int) < (xs.length : Int) := by omega
    have q : ((m : Int) == -1) = false := by rw [beq_eq_false_iff_ne]; exact hm
    have z0 := (cell_of_blk hA m).1
    rw [ints_get xs m hml] at z0
    have HE : Hid (tdAtx xs (m : Int) = xs.getD m 0) := Lib.hid (by unfold tdAtx; rw [if_neg hm]; rfl)
    generalize xs.getD m 0 = x at *
    clear hk hA hm
    go_wp2_with fail
    rw [← HPO.out]
    exact ⟨by rw [HE.out]; rfl, Below.refl _ _⟩
set_option maxRecDepth 100000 in
set_option maxHeartbeats 1000000 in
theorem tidy_named_numbers (xs : List Int) (B AT : Nat) (t : Trm) (ht : tdOkT xs.length t) (w : World) (hB : w.heap[B]? = some (.cells #[.slice (some ⟨AT, 0, none⟩) xs.length xs.length] 72 (0, 0))) (hA : w.heap[AT]? = some (.cells (ints xs) 3 (0, 0))) :
    Calls Try.prog 14 #[trmVal t, .func (.func 36) #[] #[.pointer (some ⟨B, 0, none⟩)]] w fun e w' => e = .returned (trmVal (tdNam (tdAtx xs) t)) ∧ Below w.heap.size w w' := by
  have HC := Lib.hid (fun k (hk : tdLab xs.length k) W (hb : Below w.heap.size w W) => tidy_number xs B AT k hk W ((hb.block _ (lt_of_blk hB)).trans hB) ((hb.block _ (lt_of_blk hA)).trans hA))
  clear hA hB
  unfold trmVal
  have HX0 := Lib.hid (heap_alloc_new w (.cells #[.int .i64 t.kind, .int .i64 t.a, .int .i64 t.yes, .int .i64 t.no] 38))
  have HB0 := Lib.hid (bnew w (.cells #[.int .i64 t.kind, .int .i64 t.a, .int .i64 t.yes, .int .i64 t.no] 38))
  have hb1 := bnew (w.alloc (.cells #[.int .i64 t.kind, .int .i64 t.a, .int .i64 t.yes, .int .i64 t.no] 38)) (.cells #[.int .i64 0, .int .i64 0, .int .i64 0, .int .i64 0] 38)
  have HR1 := Lib.hid (heap_alloc_new (w.alloc (.cells #[.int .i64 t.kind, .int .i64 t.a, .int .i64 t.yes, .int .i64 t.no] 38)) (.cells #[.int .i64 0, .int .i64 0, .int .i64 0, .int .i64 0] 38))
  have HX1 := Lib.hid ((hb1.block _ (lt_of_blk HX0.out)).trans HX0.out)
  have HB1 := Lib.hid (bch HB0.out hb1)
  rw [World.size_alloc] at HR1
  generalize hPO : (fun (e : Ending) (w' : World) => e = .returned (.agg #[.int .i64 (tdNam (tdAtx xs) t).kind, .int .i64 (tdNam (tdAtx xs) t).a, .int .i64 (tdNam (tdAtx xs) t).yes, .int .i64 (tdNam (tdAtx xs) t).no]) ∧ Below w.heap.size w w') = PO
  have HPO := Lib.hid hPO
  obtain ⟨tk, ta, ty, tn⟩ := t
  simp only at HX1 HR1 HB1
  unfold tdOkT at ht
  simp only at ht
  clear hPO hb1 HB0 HX0
  go_enter Try.func14, Try.ntmps14
  go_upto_region 1 with (fail)
  generalize (w.alloc (.cells #[.int .i64 tk, .int .i64 ta, .int .i64 ty, .int .i64 tn] 38)).alloc (.cells #[.int .i64 0, .int .i64 0, .int .i64 0, .int .i64 0] 38) = w1 at *
  obtain ⟨q0, f0⟩ := cell_of_blk HX1.out 0
  obtain ⟨q2, f2⟩ := cell_of_blk HX1.out 2
  rcases ht with ⟨rfl, hy⟩ | ⟨rfl, hy, hn2⟩ | rfl
  · have HL1 := Lib.hid hy
    have HE : Hid (tdNam (tdAtx xs) ⟨1, ta, ty, tn⟩ = ⟨1, ta, (tdAtx xs) ty, tn⟩) := Lib.hid (by simp [tdNam])
    clear hy
    go_wp2_with fail
    refine (HC.out ty HL1.out _ HB1.out).mono ?_
    rintro e w2 ⟨rfl, hb2⟩
    have HB2 := Lib.hid (bch HB1.out hb2)
    have HX2 := Lib.hid ((hb2.block _ (lt_of_blk HX1.out)).trans HX1.out)
    have HR2 := Lib.hid ((hb2.block _ (lt_of_blk HR1.out)).trans HR1.out)
    have HX4 := Lib.hid (blk_set HX2.out 2 (.int .i64 (tdAtx xs ty)))
    have HR4 := Lib.hid (blk_far HR2.out ⟨w.heap.size, 2, none⟩ (.int .i64 (tdAtx xs ty)) (by show w.heap.size ≠ w.heap.size + 1; omega))
    have HB4 := Lib.hid (HB2.out.setCell (p := ⟨w.heap.size, 2, none⟩) (Nat.le_refl _) (.int .i64 (tdAtx xs ty)))
    clear hb2 q0 q2 f0 f2
    obtain ⟨q2, f2⟩ := cell_of_blk HX2.out 2
    go_upto_region 6 with (fail)
    clear q2 f2
    generalize w2.setCell ⟨w.heap.size, 2, none⟩ (.int .i64 (tdAtx xs ty)) = w4 at *
    obtain ⟨z0, z1, z2, z3⟩ : w4.cell? ⟨w.heap.size, 0, none⟩ = some (.int .i64 1) ∧ True ∧ True ∧ True := ⟨(cell_of_blk HX4.out 0).1, trivial, trivial, trivial⟩
    clear z0 z1 z2 z3
    obtain ⟨z0, z1, z2, z3, zf⟩ : w4.cell? ⟨w.heap.size, 0, none⟩ = some (.int .i64 1) ∧ w4.cell? ⟨w.heap.size, 1, none⟩ = some (.int .i64 ta) ∧ w4.cell? ⟨w.heap.size, 2, none⟩ = some (.int .i64 (tdAtx xs ty)) ∧ w4.cell? ⟨w.heap.size, 3, none⟩ = some (.int .i64 tn) ∧ True := ⟨(cell_of_blk HX4.out 0).1, (cell_of_blk HX4.out 1).1, (cell_of_blk HX4.out 2).1, (cell_of_blk HX4.out 3).1, trivial⟩
    obtain ⟨q0, f0⟩ := cell_of_blk HR4.out 0
    obtain ⟨q1, f1⟩ := cell_of_blk HR4.out 1
    obtain ⟨q2, f2⟩ := cell_of_blk HR4.out 2
    obtain ⟨q3, f3⟩ := cell_of_blk HR4.out 3
    go_wp2_with fail
    clear z0 z1 z2 z3 q0 q1 q2 q3 f0 f1 f2 f3
    have HR7 := Lib.hid (blk_set (blk_set (blk_set (blk_set HR4.out 0 (.int .i64 1)) 1 (.int .i64 ta)) 2 (.int .i64 (tdAtx xs ty))) 3 (.int .i64 tn))
    have HB7 := Lib.hid ((((HB4.out.setCell (p := ⟨w.heap.size + 1, 0, none⟩) (Nat.le_succ _) (.int .i64 1)).setCell (p := ⟨w.heap.size + 1, 1, none⟩) (Nat.le_succ _) (.int .i64 ta)).setCell (p := ⟨w.heap.size + 1, 2, none⟩) (Nat.le_succ _) (.int .i64 (tdAtx xs ty))).setCell (p := ⟨w.heap.size + 1, 3, none⟩) (Nat.le_succ _) (.int .i64 tn))
    generalize (((w4.setCell ⟨w.heap.size + 1, 0, none⟩ (.int .i64 1)).setCell ⟨w.heap.size + 1, 1, none⟩ (.int .i64 ta)).setCell ⟨w.heap.size + 1, 2, none⟩ (.int .i64 (tdAtx xs ty))).setCell ⟨w.heap.size + 1, 3, none⟩ (.int .i64 tn) = w9 at *
    have k0 : w9.cell? ⟨w.heap.size + 1, 0, none⟩ = some (.int .i64 1) := (cell_of_blk HR7.out 0).1
    have k1 : w9.cell? ⟨w.heap.size + 1, 1, none⟩ = some (.int .i64 ta) := (cell_of_blk HR7.out 1).1
    have k2 : w9.cell? ⟨w.heap.size + 1, 2, none⟩ = some (.int .i64 (tdAtx xs ty)) := (cell_of_blk HR7.out 2).1
    have k3 : w9.cell? ⟨w.heap.size + 1, 3, none⟩ = some (.int .i64 tn) := (cell_of_blk HR7.out 3).1
    refine bodyPost_ret (v := .agg #[.int .i64 1, .int .i64 ta, .int .i64 (tdAtx xs ty), .int .i64 tn]) (by simp [results, Try.results14, go_sem, k0, k1, k2, k3]; try rfl) rfl ?_
    rw [← HPO.out]
    exact ⟨by rw [HE.out], HB7.out⟩
  · have HL1 := Lib.hid hy
    have HL2 := Lib.hid hn2
    have HE : Hid (tdNam (tdAtx xs) ⟨2, ta, ty, tn⟩ = ⟨2, ta, (tdAtx xs) ty, (tdAtx xs) tn⟩) := Lib.hid (by simp [tdNam])
    clear hy hn2
    go_upto_region 5 with (fail)
    have HB1d := Lib.hid (bdr HB1.out)
    have HBd := HB1d
    have HX1d : Hid (w1.drew.heap[w.heap.size]? = some (.cells #[.int .i64 2, .int .i64 ta, .int .i64 ty, .int .i64 tn] 38 (0, 0))) := Lib.hid HX1.out
    have HR1d : Hid (w1.drew.heap[w.heap.size + 1]? = some (.cells #[.int .i64 0, .int .i64 0, .int .i64 0, .int .i64 0] 38 (0, 0))) := Lib.hid HR1.out
    have hS0 : w1.drew.cell? ⟨w.heap.size, 3, none⟩ = some (.int .i64 tn) := (cell_of_blk HX1d.out 3).1
    replace q2 : w1.drew.cell? ⟨w.heap.size, 2, none⟩ = some (.int .i64 ty) := q2
    refine wp_region_L (fun w' => w'.cell? ⟨w.heap.size, 3, none⟩ = some (.int .i64 tn)) 11 (by kernel_rfl) ?_
    refine wpAnyL_take (i := 0) (some 16) (.func (.func 36) #[] #[.pointer (some ⟨B, 0, none⟩)]) rfl rfl (by kernel_rfl) (by kernel_rfl) (by kernel_rfl) (by kernel_rfl) (fun _ _ _ h => h) (by rfl) ?hv0 hS0 ?rest0
    case hv0 =>
      intro wz hSz
      go_simp
    try simp only [Act.put, List.setIfInBounds_toArray, List.set_cons_zero, List.set_cons_succ]
    refine wpAnyL_take (i := 1) (some 17) (.pointer (some ⟨w.heap.size, 2, none⟩)) rfl rfl (by kernel_rfl) (by kernel_rfl) (by kernel_rfl) (by kernel_rfl) (fun _ _ _ h => h) (by rfl) ?hv1 hS0 ?rest1
    case hv1 =>
      intro wz hSz
      go_simp
    try simp only [Act.put, List.setIfInBounds_toArray, List.set_cons_zero, List.set_cons_succ]
    refine wpAnyL_take (i := 4) (some 20) (.func (.func 36) #[] #[.pointer (some ⟨B, 0, none⟩)]) rfl rfl (by kernel_rfl) (by kernel_rfl) (by kernel_rfl) (by kernel_rfl) (fun _ _ _ h => h) (by rfl) ?hv4 hS0 ?rest4
    case hv4 =>
      intro wz hSz
      go_simp
    try simp only [Act.put, List.setIfInBounds_toArray, List.set_cons_zero, List.set_cons_succ]
    refine wpAnyL_take (i := 5) (some 21) (.pointer (some ⟨w.heap.size, 3, none⟩)) rfl rfl (by kernel_rfl) (by kernel_rfl) (by kernel_rfl) (by kernel_rfl) (fun _ _ _ h => h) (by rfl) ?hv5 hS0 ?rest5
    case hv5 =>
      intro wz hSz
      go_simp
    try simp only [Act.put, List.setIfInBounds_toArray, List.set_cons_zero, List.set_cons_succ]
    refine wpAnyL_take (i := 6) (some 22) (.int .i64 tn) rfl rfl (by kernel_rfl) (by kernel_rfl) (by kernel_rfl) (by kernel_rfl) (fun _ _ _ h => h) (by rfl) ?hv6 hS0 ?rest6
    case hv6 =>
      intro wz hSz
      go_simp
    try simp only [Act.put, List.setIfInBounds_toArray, List.set_cons_zero, List.set_cons_succ]
    refine wpAnyL_one (i := 2) (by kernel_rfl) rfl ?_
    intro K hK
    rw [if_pos (by rfl)]
    go_simp
    refine hK.out _ _ (fun _ => hS0) ?_
    clear hK
    try simp only [Act.put, List.setIfInBounds_toArray, List.set_cons_zero, List.set_cons_succ]
    refine wpAnyL_one (i := 3) (by kernel_rfl) rfl ?_
    intro K hK
    rw [if_pos (by rfl)]
    go_simp
    refine (HC.out ty HL1.out _ HBd.out).mono ?_
    rintro e w2 ⟨rfl, hb2⟩
    have HB2 := Lib.hid (bch HB1d.out hb2)
    have HX2 := Lib.hid ((hb2.block _ (lt_of_blk HX1d.out)).trans HX1d.out)
    have HR2 := Lib.hid ((hb2.block _ (lt_of_blk HR1d.out)).trans HR1d.out)
    have hS2 := (cell_of_blk HX2.out 3).1
    clear hb2
    refine hK.out _ _ (fun _ => hS2) ?_
    clear hK
    try simp only [Act.put, List.setIfInBounds_toArray, List.set_cons_zero, List.set_cons_succ]
    refine wpAnyL_take (i := 8) (some 24) (.pointer (some ⟨w.heap.size, 2, none⟩)) rfl rfl (by kernel_rfl) (by kernel_rfl) (by kernel_rfl) (by kernel_rfl) (fun _ _ _ h => h) (by rfl) ?hv8 hS2 ?rest8
    case hv8 =>
      intro wz hSz
      go_simp
    try simp only [Act.put, List.setIfInBounds_toArray, List.set_cons_zero, List.set_cons_succ]
    refine wpAnyL_one (i := 7) (by kernel_rfl) rfl ?_
    intro K hK
    rw [if_pos (by rfl)]
    go_simp
    refine (HC.out tn HL2.out _ HB2.out).mono ?_
    rintro e w3 ⟨rfl, hb3⟩
    have HB3 := Lib.hid (bch HB2.out hb3)
    have HX3 := Lib.hid ((hb3.block _ (lt_of_blk HX2.out)).trans HX2.out)
    have HR3 := Lib.hid ((hb3.block _ (lt_of_blk HR2.out)).trans HR2.out)
    have hS3 := (cell_of_blk HX3.out 3).1
    clear hb3
    refine hK.out _ _ (fun _ => hS3) ?_
    clear hK
    try simp only [Act.put, List.setIfInBounds_toArray, List.set_cons_zero, List.set_cons_succ]
    have HX4 := Lib.hid (blk_set HX3.out 2 (.int .i64 (tdAtx xs ty)))
    have HR4 := Lib.hid (blk_far HR3.out ⟨w.heap.size, 2, none⟩ (.int .i64 (tdAtx xs ty)) (by show w.heap.size ≠ w.heap.size + 1; omega))
    have HB4 := Lib.hid (HB3.out.setCell (p := ⟨w.heap.size, 2, none⟩) (Nat.le_refl _) (.int .i64 (tdAtx xs ty)))
    have hS4 := (cell_of_blk HX4.out 3).1
    clear q2 f2
    obtain ⟨q2, f2⟩ := cell_of_blk HX3.out 2
    refine wpAnyL_one (i := 9) (by kernel_rfl) rfl ?_
    intro K hK
    rw [if_pos (by rfl)]
    go_simp
    refine hK.out _ _ (fun _ => hS4) ?_
    clear hK
    try simp only [Act.put, List.setIfInBounds_toArray, List.set_cons_zero, List.set_cons_succ]
    clear q2 f2
    generalize w3.setCell ⟨w.heap.size, 2, none⟩ (.int .i64 (tdAtx xs ty)) = w4 at *
    obtain ⟨q3, f3⟩ := cell_of_blk HX4.out 3
    refine wpAnyL_one (i := 10) (by kernel_rfl) rfl ?_
    intro K hK
    rw [if_pos (by rfl)]
    go_simp
    refine hK.out _ _ (fun _ => hS4) ?_
    clear hK
    try simp only [Act.put, List.setIfInBounds_toArray, List.set_cons_zero, List.set_cons_succ]
    refine wpAnyL_one (i := 11) (by kernel_rfl) rfl ?_
    intro K hK
    rw [if_pos (by rfl)]
    go_simp
    refine hK.out _ _ (fun h => absurd rfl h) ?_
    clear hK
    refine wpAnyL_done (by kernel_rfl) ?_ _
    have HX5 := Lib.hid (blk_set HX4.out 3 (.int .i64 (tdAtx xs tn)))
    have HR5 := Lib.hid (blk_far HR4.out ⟨w.heap.size, 3, none⟩ (.int .i64 (tdAtx xs tn)) (by show w.heap.size ≠ w.heap.size + 1; omega))
    have HB5 := Lib.hid (HB4.out.setCell (p := ⟨w.heap.size, 3, none⟩) (Nat.le_refl _) (.int .i64 (tdAtx xs tn)))
    clear q0 f0 q3 f3 hS0 hS2 hS3 hS4
    generalize w4.setCell ⟨w.heap.size, 3, none⟩ (.int .i64 (tdAtx xs tn)) = w5 at *
    obtain ⟨z0, z1, z2, z3, zf⟩ : w5.cell? ⟨w.heap.size, 0, none⟩ = some (.int .i64 2) ∧ w5.cell? ⟨w.heap.size, 1, none⟩ = some (.int .i64 ta) ∧ w5.cell? ⟨w.heap.size, 2, none⟩ = some (.int .i64 (tdAtx xs ty)) ∧ w5.cell? ⟨w.heap.size, 3, none⟩ = some (.int .i64 (tdAtx xs tn)) ∧ True := ⟨(cell_of_blk HX5.out 0).1, (cell_of_blk HX5.out 1).1, (cell_of_blk HX5.out 2).1, (cell_of_blk HX5.out 3).1, trivial⟩
    obtain ⟨q0, f0⟩ := cell_of_blk HR5.out 0
    obtain ⟨q1, f1⟩ := cell_of_blk HR5.out 1
    obtain ⟨q2, f2⟩ := cell_of_blk HR5.out 2
    obtain ⟨q3, f3⟩ := cell_of_blk HR5.out 3
    go_wp2_with fail
    clear z0 z1 z2 z3 q0 q1 q2 q3 f0 f1 f2 f3
    have HR7 := Lib.hid (blk_set (blk_set (blk_set (blk_set HR5.out 0 (.int .i64 2)) 1 (.int .i64 ta)) 2 (.int .i64 (tdAtx xs ty))) 3 (.int .i64 (tdAtx xs tn)))
    have HB7 := Lib.hid ((((HB5.out.setCell (p := ⟨w.heap.size + 1, 0, none⟩) (Nat.le_succ _) (.int .i64 2)).setCell (p := ⟨w.heap.size + 1, 1, none⟩) (Nat.le_succ _) (.int .i64 ta)).setCell (p := ⟨w.heap.size + 1, 2, none⟩) (Nat.le_succ _) (.int .i64 (tdAtx xs ty))).setCell (p := ⟨w.heap.size + 1, 3, none⟩) (Nat.le_succ _) (.int .i64 (tdAtx xs tn)))
    generalize (((w5.setCell ⟨w.heap.size + 1, 0, none⟩ (.int .i64 2)).setCell ⟨w.heap.size + 1, 1, none⟩ (.int .i64 ta)).setCell ⟨w.heap.size + 1, 2, none⟩ (.int .i64 (tdAtx xs ty))).setCell ⟨w.heap.size + 1, 3, none⟩ (.int .i64 (tdAtx xs tn)) = w9 at *
    have k0 : w9.cell? ⟨w.heap.size + 1, 0, none⟩ = some (.int .i64 2) := (cell_of_blk HR7.out 0).1
    have k1 : w9.cell? ⟨w.heap.size + 1, 1, none⟩ = some (.int .i64 ta) := (cell_of_blk HR7.out 1).1
    have k2 : w9.cell? ⟨w.heap.size + 1, 2, none⟩ = some (.int .i64 (tdAtx xs ty)) := (cell_of_blk HR7.out 2).1
    have k3 : w9.cell? ⟨w.heap.size + 1, 3, none⟩ = some (.int .i64 (tdAtx xs tn)) := (cell_of_blk HR7.out 3).1
    refine bodyPost_ret (v := .agg #[.int .i64 2, .int .i64 ta, .int .i64 (tdAtx xs ty), .int .i64 (tdAtx xs tn)]) (by simp [results, Try.results14, go_sem, k0, k1, k2, k3]; try rfl) rfl ?_
    rw [← HPO.out]
    exact ⟨by rw [HE.out], HB7.out⟩
  · have HE : Hid (tdNam (tdAtx xs) ⟨3, ta, ty, tn⟩ = ⟨3, ta, ty, tn⟩) := Lib.hid (by simp [tdNam])
    clear q2 f2
    go_upto_region 6 with (fail)
    clear q0 f0
    obtain ⟨z0, z1, z2, z3, zf⟩ : w1.cell? ⟨w.heap.size, 0, none⟩ = some (.int .i64 3) ∧ w1.cell? ⟨w.heap.size, 1, none⟩ = some (.int .i64 ta) ∧ w1.cell? ⟨w.heap.size, 2, none⟩ = some (.int .i64 ty) ∧ w1.cell? ⟨w.heap.size, 3, none⟩ = some (.int .i64 tn) ∧ True := ⟨(cell_of_blk HX1.out 0).1, (cell_of_blk HX1.out 1).1, (cell_of_blk HX1.out 2).1, (cell_of_blk HX1.out 3).1, trivial⟩
    obtain ⟨q0, f0⟩ := cell_of_blk HR1.out 0
    obtain ⟨q1, f1⟩ := cell_of_blk HR1.out 1
    obtain ⟨q2, f2⟩ := cell_of_blk HR1.out 2
    obtain ⟨q3, f3⟩ := cell_of_blk HR1.out 3
    go_wp2_with fail
    clear z0 z1 z2 z3 q0 q1 q2 q3 f0 f1 f2 f3
    have HR7 := Lib.hid (blk_set (blk_set (blk_set (blk_set HR1.out 0 (.int .i64 3)) 1 (.int .i64 ta)) 2 (.int .i64 ty)) 3 (.int .i64 tn))
    have HB7 := Lib.hid ((((HB1.out.setCell (p := ⟨w.heap.size + 1, 0, none⟩) (Nat.le_succ _) (.int .i64 3)).setCell (p := ⟨w.heap.size + 1, 1, none⟩) (Nat.le_succ _) (.int .i64 ta)).setCell (p := ⟨w.heap.size + 1, 2, none⟩) (Nat.le_succ _) (.int .i64 ty)).setCell (p := ⟨w.heap.size + 1, 3, none⟩) (Nat.le_succ _) (.int .i64 tn))
    generalize (((w1.setCell ⟨w.heap.size + 1, 0, none⟩ (.int .i64 3)).setCell ⟨w.heap.size + 1, 1, none⟩ (.int .i64 ta)).setCell ⟨w.heap.size + 1, 2, none⟩ (.int .i64 ty)).setCell ⟨w.heap.size + 1, 3, none⟩ (.int .i64 tn) = w9 at *
    have k0 : w9.cell? ⟨w.heap.size + 1, 0, none⟩ = some (.int .i64 3) := (cell_of_blk HR7.out 0).1
    have k1 : w9.cell? ⟨w.heap.size + 1, 1, none⟩ = some (.int .i64 ta) := (cell_of_blk HR7.out 1).1
    have k2 : w9.cell? ⟨w.heap.size + 1, 2, none⟩ = some (.int .i64 ty) := (cell_of_blk HR7.out 2).1
    have k3 : w9.cell? ⟨w.heap.size + 1, 3, none⟩ = some (.int .i64 tn) := (cell_of_blk HR7.out 3).1
    refine bodyPost_ret (v := .agg #[.int .i64 3, .int .i64 ta, .int .i64 ty, .int .i64 tn]) (by simp [results, Try.results14, go_sem, k0, k1, k2, k3]; try rfl) rfl ?_
    rw [← HPO.out]
    exact ⟨by rw [HE.out], HB7.out⟩
end Go.Proofs.Ythkobddggoojlaa
namespace Go.Proofs.Ythkobddggoojlaa
open Go.RowKit
set_option linter.unusedVariables false
theorem int_pushT {w0 w : World} {H B : Nat} {v : Value} {n : Nat} {ys : List Value} (hO : w.ownsRow B 3 1 v n ys) (hB : Below H w0 w) (hH : H ≤ B) (hn : n ≤ 2000000) (hb : B ≤ w.heap.size) (hs : H ≤ w.heap.size) (y : Int) :
    ∃ v' w', (Builtin.append_ #[72, 72] 72 #[v, .slice (some ⟨w.heap.size, 0, none⟩) 1 1]).run Try.prog (w.alloc (.cells #[.int .i64 y] 3)) = .ok v' w' ∧
      w'.ownsRow B 3 1 v' (n + 1) (ys ++ [.int .i64 y]) ∧ Below H w0 w' ∧ (∀ g x, g < B → w.heap[g]? = some x → w'.heap[g]? = some x) ∧ B ≤ w'.heap.size := by
  obtain ⟨v', w', h1, h2, h3⟩ := run_append_int w B v n ys hO y hn hb
  have hlt := fun b e => (hO.lt b e).1
  refine ⟨v', w', h1, h2, (hB.alloc hs _).grown h3 (by simp; omega) (fun b e => by have := hlt b e; omega), fun g x hg hx => ?_, by have := h3.size; simp at this; omega⟩
  exact (h3.block g (by simp; omega) (fun e => by have := hlt g e.symm; omega)).trans (((bnew w _).block g (by omega)).trans hx)
/-- The names that have come, in the cell that is captured. -/
def TgSt (H B L : Nat) (w0 w : World) (ys : List Int) : Prop := (∃ v, w.heap[L]? = some (.cells #[v] 72 (0, 0)) ∧ w.ownsRow B 3 1 v ys.length (ys.map (.int .i64 ·))) ∧ Below H w0 w ∧ H ≤ L ∧ L < B ∧ B ≤ w.heap.size
theorem TgSt.drew {H B L : Nat} {w0 w : World} {ys : List Int} (h : TgSt H B L w0 w ys) : TgSt H B L w0 w.drew ys := ⟨h.1, bdr h.2.1, h.2.2.1, h.2.2.2.1, h.2.2.2.2⟩
theorem TgSt.far {H B L : Nat} {w0 w : World} {ys : List Int} (h : TgSt H B L w0 w ys) (q : Addr) (u : Value) (h1 : q.block < B) (h2 : q.block ≠ L) (h3 : H ≤ q.block) : TgSt H B L w0 (w.setCell q u) ys := by
  obtain ⟨⟨v, h4, h5⟩, h6, h7, h8, h9⟩ := h
  exact ⟨⟨v, blk_far h4 q u h2, own_setCell h5 q u h1⟩, h6.setCell h3 _, h7, h8, by simpa [World.setCell] using h9⟩
set_option maxRecDepth 100000 in
set_option maxHeartbeats 1000000 in
theorem tidy_target (k : Int) {H B L : Nat} {w0 w : World} {ys : List Int} (hn : ys.length ≤ 2) (h : TgSt H B L w0 w ys) :
    Calls Try.prog 52 #[.int .i64 k, .pointer (some ⟨L, 0, none⟩)] w fun e w' => e = .returned (.int .i64 k) ∧ TgSt H B L w0 w' (ys ++ tdOne k) ∧ (∀ g x, g < B → g ≠ L → w.heap[g]? = some x → w'.heap[g]? = some x) := by
  obtain ⟨⟨v, h4, h5⟩, h6, h7, h8, h9⟩ := h
  generalize hPO : (fun (e : Ending) (w' : World) => e = .returned (.int .i64 k) ∧ TgSt H B L w0 w' (ys ++ tdOne k) ∧ (∀ g x, g < B → g ≠ L → w.heap[g]? = some x → w'.heap[g]? = some x)) = PO
  have HPO := Lib.hid hPO
  have H9 := Lib.hid h9
  by_cases hm : k = -1
  · subst hm
    have HT : Hid (TgSt H B L w0 w (ys ++ tdOne (-1))) := Lib.hid (by unfold tdOne; rw [if_pos rfl, List.append_nil]; exact ⟨⟨v, h4, h5⟩, h6, h7, h8, h9⟩)
    clear hPO h4 h5 h6 h7 h8 h9
    go_enter Try.func52, Try.ntmps52
    go_wp2_with fail
    rw [← HPO.out]
    exact ⟨rfl, HT.out, fun g x _ _ h => h⟩
  · have q : (k != -1) = true := by rw [bne_iff_ne]; exact hm
    obtain ⟨v', w', hrun, p1, p2, p3, p4⟩ := int_pushT h5 h6 (by omega) (by omega) h9 (by omega) k
    obtain ⟨g3, c3, rfl⟩ := own_form p1
    generalize hlen : ys.length + 1 = len at *
    generalize hv' : Value.slice (some ⟨g3, 0, none⟩) len c3 = v' at *
    have HRUN := Lib.hid hrun
    have HT : Hid (TgSt H B L w0 (w'.setCell ⟨L, 0, none⟩ v') (ys ++ tdOne k)) := Lib.hid (by
      refine ⟨⟨v', by have := blk_set (p3 L _ h8 h4) 0 v'; exact this, ?_⟩, p2.setCell h7 _, h7, h8, by simpa [World.setCell] using p4⟩
      unfold tdOne
      rw [if_neg hm, List.map_append, List.length_append]
      show (w'.setCell ⟨L, 0, none⟩ v').ownsRow B 3 1 v' (ys.length + 1) _
      rw [hlen]
      exact own_setCell p1 _ _ h8)
    have HF : Hid (∀ g x, g < B → g ≠ L → w.heap[g]? = some x → (w'.setCell ⟨L, 0, none⟩ v').heap[g]? = some x) := Lib.hid (fun g x h1 h2 h3 => blk_far (p3 g x h1 h3) _ _ (fun e => h2 e.symm))
    obtain ⟨q0, f0⟩ := cell_of_blk h4 0
    obtain ⟨r0, g0⟩ := cell_of_blk (p3 L _ h8 h4) 0
    clear hPO h4 h5 h6 h7 h8 h9 p1 p2 p3 p4 hm H9 hrun hlen
    subst hv'
    go_enter Try.func52, Try.ntmps52
    go_wp2_with ((at_builtin; refine wpList_app rfl (.tmp 6) (.tmp 8) 72 rfl HRUN.out rfl rfl ?_))
    rw [← HPO.out]
    exact ⟨rfl, HT.out, HF.out⟩
set_option maxRecDepth 100000 in
set_option maxHeartbeats 1000000 in
theorem tidy_named_targets (n : Nat) (t : Trm) (ht : tdOkT n t) (L H0 : Nat) (w0 w : World) (hL : w.heap[L]? = some (.cells #[.slice none 0 0] 72 (0, 0))) (hH : H0 ≤ L) (hB0 : Below H0 w0 w) :
    Calls Try.prog 14 #[trmVal t, .func (.func 52) #[] #[.pointer (some ⟨L, 0, none⟩)]] w fun e w' => (∃ v, e = .returned v) ∧ TgSt H0 (w.heap.size + 2) L w0 w' (tdTg t) := by
  unfold trmVal
  have hLs := lt_of_blk hL
  have HNL : Hid (w.heap.size ≠ L) := Lib.hid (by omega)
  have HNL1 : Hid (w.heap.size + 1 ≠ L) := Lib.hid (by omega)
  have HHH : Hid (H0 ≤ w.heap.size) := Lib.hid (by omega)
  have HHH1 : Hid (H0 ≤ w.heap.size + 1) := Lib.hid (by omega)
  have HX0 := Lib.hid (heap_alloc_new w (.cells #[.int .i64 t.kind, .int .i64 t.a, .int .i64 t.yes, .int .i64 t.no] 38))
  have hb0 := bnew w (.cells #[.int .i64 t.kind, .int .i64 t.a, .int .i64 t.yes, .int .i64 t.no] 38)
  have hb1 := bnew (w.alloc (.cells #[.int .i64 t.kind, .int .i64 t.a, .int .i64 t.yes, .int .i64 t.no] 38)) (.cells #[.int .i64 0, .int .i64 0, .int .i64 0, .int .i64 0] 38)
  have HR1 := Lib.hid (heap_alloc_new (w.alloc (.cells #[.int .i64 t.kind, .int .i64 t.a, .int .i64 t.yes, .int .i64 t.no] 38)) (.cells #[.int .i64 0, .int .i64 0, .int .i64 0, .int .i64 0] 38))
  have HX1 := Lib.hid ((hb1.block _ (lt_of_blk HX0.out)).trans HX0.out)
  have HS1 : Hid (TgSt H0 (w.heap.size + 2) L w0 ((w.alloc (.cells #[.int .i64 t.kind, .int .i64 t.a, .int .i64 t.yes, .int .i64 t.no] 38)).alloc (.cells #[.int .i64 0, .int .i64 0, .int .i64 0, .int .i64 0] 38)) []) := Lib.hid ⟨⟨_, ((bch hb0 hb1).block _ hLs).trans hL, World.ownsRow_nil _ _ _ _⟩, (hB0.alloc (by omega) _).alloc (by simp; omega) _, hH, by omega, by simp⟩
  rw [World.size_alloc] at HR1
  generalize hPO : (fun (e : Ending) (w' : World) => (∃ v, e = .returned v) ∧ TgSt H0 (w.heap.size + 2) L w0 w' (tdTg t)) = PO
  have HPO := Lib.hid hPO
  obtain ⟨tk, ta, ty, tn⟩ := t
  simp only at HX1 HR1 HS1
  unfold tdOkT at ht
  simp only at ht
  clear hPO hb1 HX0 hb0 hL hB0 hH hLs
  go_enter Try.func14, Try.ntmps14
  go_upto_region 1 with (fail)
  generalize (w.alloc (.cells #[.int .i64 tk, .int .i64 ta, .int .i64 ty, .int .i64 tn] 38)).alloc (.cells #[.int .i64 0, .int .i64 0, .int .i64 0, .int .i64 0] 38) = w1 at *
  obtain ⟨q0, f0⟩ := cell_of_blk HX1.out 0
  obtain ⟨q2, f2⟩ := cell_of_blk HX1.out 2
  rcases ht with ⟨rfl, hy⟩ | ⟨rfl, hy, hn2⟩ | rfl
  · have HE : Hid (tdTg ⟨1, ta, ty, tn⟩ = [] ++ tdOne ty) := Lib.hid (by simp [tdTg])
    clear hy
    go_wp2_with fail
    refine (tidy_target ty (ys := []) (Nat.zero_le _) HS1.out).mono ?_
    rintro e w2 ⟨rfl, hs2, hf2⟩
    have HS2 := Lib.hid hs2
    have HX2 := Lib.hid (hf2 w.heap.size _ (by omega) HNL.out HX1.out)
    have HR2 := Lib.hid (hf2 (w.heap.size + 1) _ (by omega) HNL1.out HR1.out)
    clear hs2 hf2
    have HX4 := Lib.hid (blk_set HX2.out 2 (.int .i64 ty))
    have HR4 := Lib.hid (blk_far HR2.out ⟨w.heap.size, 2, none⟩ (.int .i64 ty) (by show w.heap.size ≠ w.heap.size + 1; omega))
    have HS4 := Lib.hid (HS2.out.far ⟨w.heap.size, 2, none⟩ (.int .i64 ty) (by show w.heap.size < w.heap.size + 2; omega) HNL.out HHH.out)
    clear q0 q2 f0 f2
    obtain ⟨q2, f2⟩ := cell_of_blk HX2.out 2
    go_upto_region 6 with (fail)
    clear q2 f2
    generalize w2.setCell ⟨w.heap.size, 2, none⟩ (.int .i64 ty) = w4 at *
    obtain ⟨z0, z1, z2, z3, zf⟩ : w4.cell? ⟨w.heap.size, 0, none⟩ = some (.int .i64 1) ∧ w4.cell? ⟨w.heap.size, 1, none⟩ = some (.int .i64 ta) ∧ w4.cell? ⟨w.heap.size, 2, none⟩ = some (.int .i64 ty) ∧ w4.cell? ⟨w.heap.size, 3, none⟩ = some (.int .i64 tn) ∧ True := ⟨(cell_of_blk HX4.out 0).1, (cell_of_blk HX4.out 1).1, (cell_of_blk HX4.out 2).1, (cell_of_blk HX4.out 3).1, trivial⟩
    obtain ⟨q0, f0⟩ := cell_of_blk HR4.out 0
    obtain ⟨q1, f1⟩ := cell_of_blk HR4.out 1
    obtain ⟨q2, f2⟩ := cell_of_blk HR4.out 2
    obtain ⟨q3, f3⟩ := cell_of_blk HR4.out 3
    go_wp2_with fail
    clear z0 z1 z2 z3 q0 q1 q2 q3 f0 f1 f2 f3
    have HR7 := Lib.hid (blk_set (blk_set (blk_set (blk_set HR4.out 0 (.int .i64 1)) 1 (.int .i64 ta)) 2 (.int .i64 ty)) 3 (.int .i64 tn))
    have HS7 := Lib.hid ((((HS4.out.far ⟨w.heap.size + 1, 0, none⟩ (.int .i64 1) (Nat.lt_succ_self _) HNL1.out HHH1.out).far ⟨w.heap.size + 1, 1, none⟩ (.int .i64 ta) (Nat.lt_succ_self _) HNL1.out HHH1.out).far ⟨w.heap.size + 1, 2, none⟩ (.int .i64 ty) (Nat.lt_succ_self _) HNL1.out HHH1.out).far ⟨w.heap.size + 1, 3, none⟩ (.int .i64 tn) (Nat.lt_succ_self _) HNL1.out HHH1.out)
    generalize (((w4.setCell ⟨w.heap.size + 1, 0, none⟩ (.int .i64 1)).setCell ⟨w.heap.size + 1, 1, none⟩ (.int .i64 ta)).setCell ⟨w.heap.size + 1, 2, none⟩ (.int .i64 ty)).setCell ⟨w.heap.size + 1, 3, none⟩ (.int .i64 tn) = w9 at *
    have k0 : w9.cell? ⟨w.heap.size + 1, 0, none⟩ = some (.int .i64 1) := (cell_of_blk HR7.out 0).1
    have k1 : w9.cell? ⟨w.heap.size + 1, 1, none⟩ = some (.int .i64 ta) := (cell_of_blk HR7.out 1).1
    have k2 : w9.cell? ⟨w.heap.size + 1, 2, none⟩ = some (.int .i64 ty) := (cell_of_blk HR7.out 2).1
    have k3 : w9.cell? ⟨w.heap.size + 1, 3, none⟩ = some (.int .i64 tn) := (cell_of_blk HR7.out 3).1
    refine bodyPost_ret (v := .agg #[.int .i64 1, .int .i64 ta, .int .i64 ty, .int .i64 tn]) (by simp [results, Try.results14, go_sem, k0, k1, k2, k3]; try rfl) rfl ?_
    rw [← HPO.out]
    exact ⟨⟨_, rfl⟩, by rw [HE.out]; exact HS7.out⟩
  · have HE : Hid (tdTg ⟨2, ta, ty, tn⟩ = [] ++ tdOne ty ++ tdOne tn) := Lib.hid (by simp [tdTg])
    clear hy hn2
    go_upto_region 5 with (fail)
    have HX1d : Hid (w1.drew.heap[w.heap.size]? = some (.cells #[.int .i64 2, .int .i64 ta, .int .i64 ty, .int .i64 tn] 38 (0, 0))) := Lib.hid HX1.out
    have HR1d : Hid (w1.drew.heap[w.heap.size + 1]? = some (.cells #[.int .i64 0, .int .i64 0, .int .i64 0, .int .i64 0] 38 (0, 0))) := Lib.hid HR1.out
    have HS1d := Lib.hid HS1.out.drew
    have hS0 : w1.drew.cell? ⟨w.heap.size, 3, none⟩ = some (.int .i64 tn) := (cell_of_blk HX1d.out 3).1
    replace q2 : w1.drew.cell? ⟨w.heap.size, 2, none⟩ = some (.int .i64 ty) := q2
    refine wp_region_L (fun w' => w'.cell? ⟨w.heap.size, 3, none⟩ = some (.int .i64 tn)) 11 (by kernel_rfl) ?_
    refine wpAnyL_take (i := 0) (some 16) (.func (.func 52) #[] #[.pointer (some ⟨L, 0, none⟩)]) rfl rfl (by kernel_rfl) (by kernel_rfl) (by kernel_rfl) (by kernel_rfl) (fun _ _ _ h => h) (by rfl) ?hv0 hS0 ?rest0
    case hv0 =>
      intro wz hSz
      go_simp
    try simp only [Act.put, List.setIfInBounds_toArray, List.set_cons_zero, List.set_cons_succ]
    refine wpAnyL_take (i := 1) (some 17) (.pointer (some ⟨w.heap.size, 2, none⟩)) rfl rfl (by kernel_rfl) (by kernel_rfl) (by kernel_rfl) (by kernel_rfl) (fun _ _ _ h => h) (by rfl) ?hv1 hS0 ?rest1
    case hv1 =>
      intro wz hSz
      go_simp
    try simp only [Act.put, List.setIfInBounds_toArray, List.set_cons_zero, List.set_cons_succ]
    refine wpAnyL_take (i := 4) (some 20) (.func (.func 52) #[] #[.pointer (some ⟨L, 0, none⟩)]) rfl rfl (by kernel_rfl) (by kernel_rfl) (by kernel_rfl) (by kernel_rfl) (fun _ _ _ h => h) (by rfl) ?hv4 hS0 ?rest4
    case hv4 =>
      intro wz hSz
      go_simp
    try simp only [Act.put, List.setIfInBounds_toArray, List.set_cons_zero, List.set_cons_succ]
    refine wpAnyL_take (i := 5) (some 21) (.pointer (some ⟨w.heap.size, 3, none⟩)) rfl rfl (by kernel_rfl) (by kernel_rfl) (by kernel_rfl) (by kernel_rfl) (fun _ _ _ h => h) (by rfl) ?hv5 hS0 ?rest5
    case hv5 =>
      intro wz hSz
      go_simp
    try simp only [Act.put, List.setIfInBounds_toArray, List.set_cons_zero, List.set_cons_succ]
    refine wpAnyL_take (i := 6) (some 22) (.int .i64 tn) rfl rfl (by kernel_rfl) (by kernel_rfl) (by kernel_rfl) (by kernel_rfl) (fun _ _ _ h => h) (by rfl) ?hv6 hS0 ?rest6
    case hv6 =>
      intro wz hSz
      go_simp
    try simp only [Act.put, List.setIfInBounds_toArray, List.set_cons_zero, List.set_cons_succ]
    refine wpAnyL_one (i := 2) (by kernel_rfl) rfl ?_
    intro K hK
    rw [if_pos (by rfl)]
    go_simp
    refine hK.out _ _ (fun _ => hS0) ?_
    clear hK
    try simp only [Act.put, List.setIfInBounds_toArray, List.set_cons_zero, List.set_cons_succ]
    refine wpAnyL_one (i := 3) (by kernel_rfl) rfl ?_
    intro K hK
    rw [if_pos (by rfl)]
    go_simp
    refine (tidy_target ty (ys := []) (Nat.zero_le _) HS1d.out).mono ?_
    rintro e w2 ⟨rfl, hs2, hf2⟩
    have HS2 := Lib.hid hs2
    have HX2 := Lib.hid (hf2 w.heap.size _ (by omega) HNL.out HX1d.out)
    have HR2 := Lib.hid (hf2 (w.heap.size + 1) _ (by omega) HNL1.out HR1d.out)
    clear hs2 hf2
    have hS2 := (cell_of_blk HX2.out 3).1
    refine hK.out _ _ (fun _ => hS2) ?_
    clear hK
    try simp only [Act.put, List.setIfInBounds_toArray, List.set_cons_zero, List.set_cons_succ]
    refine wpAnyL_take (i := 8) (some 24) (.pointer (some ⟨w.heap.size, 2, none⟩)) rfl rfl (by kernel_rfl) (by kernel_rfl) (by kernel_rfl) (by kernel_rfl) (fun _ _ _ h => h) (by rfl) ?hv8 hS2 ?rest8
    case hv8 =>
      intro wz hSz
      go_simp
    try simp only [Act.put, List.setIfInBounds_toArray, List.set_cons_zero, List.set_cons_succ]
    refine wpAnyL_one (i := 7) (by kernel_rfl) rfl ?_
    intro K hK
    rw [if_pos (by rfl)]
    go_simp
    refine (tidy_target tn (ys := [] ++ tdOne ty) (by unfold tdOne; split <;> simp) HS2.out).mono ?_
    rintro e w3 ⟨rfl, hs3, hf3⟩
    have HS3 := Lib.hid hs3
    have HX3 := Lib.hid (hf3 w.heap.size _ (by omega) HNL.out HX2.out)
    have HR3 := Lib.hid (hf3 (w.heap.size + 1) _ (by omega) HNL1.out HR2.out)
    clear hs3 hf3
    have hS3 := (cell_of_blk HX3.out 3).1
    refine hK.out _ _ (fun _ => hS3) ?_
    clear hK
    try simp only [Act.put, List.setIfInBounds_toArray, List.set_cons_zero, List.set_cons_succ]
    have HX4 := Lib.hid (blk_set HX3.out 2 (.int .i64 ty))
    have HR4 := Lib.hid (blk_far HR3.out ⟨w.heap.size, 2, none⟩ (.int .i64 ty) (by show w.heap.size ≠ w.heap.size + 1; omega))
    have HS4 := Lib.hid (HS3.out.far ⟨w.heap.size, 2, none⟩ (.int .i64 ty) (by show w.heap.size < w.heap.size + 2; omega) HNL.out HHH.out)
    have hS4 := (cell_of_blk HX4.out 3).1
    clear q2 f2
    obtain ⟨q2, f2⟩ := cell_of_blk HX3.out 2
    refine wpAnyL_one (i := 9) (by kernel_rfl) rfl ?_
    intro K hK
    rw [if_pos (by rfl)]
    go_simp
    refine hK.out _ _ (fun _ => hS4) ?_
    clear hK
    try simp only [Act.put, List.setIfInBounds_toArray, List.set_cons_zero, List.set_cons_succ]
    clear q2 f2
    generalize w3.setCell ⟨w.heap.size, 2, none⟩ (.int .i64 ty) = w4 at *
    obtain ⟨q3, f3⟩ := cell_of_blk HX4.out 3
    refine wpAnyL_one (i := 10) (by kernel_rfl) rfl ?_
    intro K hK
    rw [if_pos (by rfl)]
    go_simp
    refine hK.out _ _ (fun _ => hS4) ?_
    clear hK
    try simp only [Act.put, List.setIfInBounds_toArray, List.set_cons_zero, List.set_cons_succ]
    refine wpAnyL_one (i := 11) (by kernel_rfl) rfl ?_
    intro K hK
    rw [if_pos (by rfl)]
    go_simp
    refine hK.out _ _ (fun h => absurd rfl h) ?_
    clear hK
    refine wpAnyL_done (by kernel_rfl) ?_ _
    have HX5 := Lib.hid (blk_set HX4.out 3 (.int .i64 tn))
    have HR5 := Lib.hid (blk_far HR4.out ⟨w.heap.size, 3, none⟩ (.int .i64 tn) (by show w.heap.size ≠ w.heap.size + 1; omega))
    have HS5 := Lib.hid (HS4.out.far ⟨w.heap.size, 3, none⟩ (.int .i64 tn) (by show w.heap.size < w.heap.size + 2; omega) HNL.out HHH.out)
    clear q0 f0 q3 f3 hS0 hS2 hS3 hS4
    generalize w4.setCell ⟨w.heap.size, 3, none⟩ (.int .i64 tn) = w5 at *
    obtain ⟨z0, z1, z2, z3, zf⟩ : w5.cell? ⟨w.heap.size, 0, none⟩ = some (.int .i64 2) ∧ w5.cell? ⟨w.heap.size, 1, none⟩ = some (.int .i64 ta) ∧ w5.cell? ⟨w.heap.size, 2, none⟩ = some (.int .i64 ty) ∧ w5.cell? ⟨w.heap.size, 3, none⟩ = some (.int .i64 tn) ∧ True := ⟨(cell_of_blk HX5.out 0).1, (cell_of_blk HX5.out 1).1, (cell_of_blk HX5.out 2).1, (cell_of_blk HX5.out 3).1, trivial⟩
    obtain ⟨q0, f0⟩ := cell_of_blk HR5.out 0
    obtain ⟨q1, f1⟩ := cell_of_blk HR5.out 1
    obtain ⟨q2, f2⟩ := cell_of_blk HR5.out 2
    obtain ⟨q3, f3⟩ := cell_of_blk HR5.out 3
    go_wp2_with fail
    clear z0 z1 z2 z3 q0 q1 q2 q3 f0 f1 f2 f3
    have HR7 := Lib.hid (blk_set (blk_set (blk_set (blk_set HR5.out 0 (.int .i64 2)) 1 (.int .i64 ta)) 2 (.int .i64 ty)) 3 (.int .i64 tn))
    have HS7 := Lib.hid ((((HS5.out.far ⟨w.heap.size + 1, 0, none⟩ (.int .i64 2) (Nat.lt_succ_self _) HNL1.out HHH1.out).far ⟨w.heap.size + 1, 1, none⟩ (.int .i64 ta) (Nat.lt_succ_self _) HNL1.out HHH1.out).far ⟨w.heap.size + 1, 2, none⟩ (.int .i64 ty) (Nat.lt_succ_self _) HNL1.out HHH1.out).far ⟨w.heap.size + 1, 3, none⟩ (.int .i64 tn) (Nat.lt_succ_self _) HNL1.out HHH1.out)
    generalize (((w5.setCell ⟨w.heap.size + 1, 0, none⟩ (.int .i64 2)).setCell ⟨w.heap.size + 1, 1, none⟩ (.int .i64 ta)).setCell ⟨w.heap.size + 1, 2, none⟩ (.int .i64 ty)).setCell ⟨w.heap.size + 1, 3, none⟩ (.int .i64 tn) = w9 at *
    have k0 : w9.cell? ⟨w.heap.size + 1, 0, none⟩ = some (.int .i64 2) := (cell_of_blk HR7.out 0).1
    have k1 : w9.cell? ⟨w.heap.size + 1, 1, none⟩ = some (.int .i64 ta) := (cell_of_blk HR7.out 1).1
    have k2 : w9.cell? ⟨w.heap.size + 1, 2, none⟩ = some (.int .i64 ty) := (cell_of_blk HR7.out 2).1
    have k3 : w9.cell? ⟨w.heap.size + 1, 3, none⟩ = some (.int .i64 tn) := (cell_of_blk HR7.out 3).1
    refine bodyPost_ret (v := .agg #[.int .i64 2, .int .i64 ta, .int .i64 ty, .int .i64 tn]) (by simp [results, Try.results14, go_sem, k0, k1, k2, k3]; try rfl) rfl ?_
    rw [← HPO.out]
    exact ⟨⟨_, rfl⟩, by rw [HE.out]; exact HS7.out⟩
  · have HE : Hid (tdTg ⟨3, ta, ty, tn⟩ = []) := Lib.hid (by simp [tdTg])
    clear q2 f2
    go_upto_region 6 with (fail)
    clear q0 f0
    obtain ⟨z0, z1, z2, z3, zf⟩ : w1.cell? ⟨w.heap.size, 0, none⟩ = some (.int .i64 3) ∧ w1.cell? ⟨w.heap.size, 1, none⟩ = some (.int .i64 ta) ∧ w1.cell? ⟨w.heap.size, 2, none⟩ = some (.int .i64 ty) ∧ w1.cell? ⟨w.heap.size, 3, none⟩ = some (.int .i64 tn) ∧ True := ⟨(cell_of_blk HX1.out 0).1, (cell_of_blk HX1.out 1).1, (cell_of_blk HX1.out 2).1, (cell_of_blk HX1.out 3).1, trivial⟩
    obtain ⟨q0, f0⟩ := cell_of_blk HR1.out 0
    obtain ⟨q1, f1⟩ := cell_of_blk HR1.out 1
    obtain ⟨q2, f2⟩ := cell_of_blk HR1.out 2
    obtain ⟨q3, f3⟩ := cell_of_blk HR1.out 3
    go_wp2_with fail
    clear z0 z1 z2 z3 q0 q1 q2 q3 f0 f1 f2 f3
    have HR7 := Lib.hid (blk_set (blk_set (blk_set (blk_set HR1.out 0 (.int .i64 3)) 1 (.int .i64 ta)) 2 (.int .i64 ty)) 3 (.int .i64 tn))
    have HS7 := Lib.hid ((((HS1.out.far ⟨w.heap.size + 1, 0, none⟩ (.int .i64 3) (Nat.lt_succ_self _) HNL1.out HHH1.out).far ⟨w.heap.size + 1, 1, none⟩ (.int .i64 ta) (Nat.lt_succ_self _) HNL1.out HHH1.out).far ⟨w.heap.size + 1, 2, none⟩ (.int .i64 ty) (Nat.lt_succ_self _) HNL1.out HHH1.out).far ⟨w.heap.size + 1, 3, none⟩ (.int .i64 tn) (Nat.lt_succ_self _) HNL1.out HHH1.out)
    generalize (((w1.setCell ⟨w.heap.size + 1, 0, none⟩ (.int .i64 3)).setCell ⟨w.heap.size + 1, 1, none⟩ (.int .i64 ta)).setCell ⟨w.heap.size + 1, 2, none⟩ (.int .i64 ty)).setCell ⟨w.heap.size + 1, 3, none⟩ (.int .i64 tn) = w9 at *
    have k0 : w9.cell? ⟨w.heap.size + 1, 0, none⟩ = some (.int .i64 3) := (cell_of_blk HR7.out 0).1
    have k1 : w9.cell? ⟨w.heap.size + 1, 1, none⟩ = some (.int .i64 ta) := (cell_of_blk HR7.out 1).1
    have k2 : w9.cell? ⟨w.heap.size + 1, 2, none⟩ = some (.int .i64 ty) := (cell_of_blk HR7.out 2).1
    have k3 : w9.cell? ⟨w.heap.size + 1, 3, none⟩ = some (.int .i64 tn) := (cell_of_blk HR7.out 3).1
    refine bodyPost_ret (v := .agg #[.int .i64 3, .int .i64 ta, .int .i64 ty, .int .i64 tn]) (by simp [results, Try.results14, go_sem, k0, k1, k2, k3]; try rfl) rfl ?_
    rw [← HPO.out]
    exact ⟨⟨_, rfl⟩, by rw [HE.out]; exact HS7.out⟩
set_option maxRecDepth 100000 in
set_option maxHeartbeats 1000000 in
theorem tidy_targets (n : Nat) (t : Trm) (ht : tdOkT n t) (w : World) : Calls Try.prog 33 #[trmVal t] w fun e w' => ∃ A c, e = .returned (.slice A (tdTg t).length c) ∧ Below w.heap.size w w' ∧ w'.ownsRow w.heap.size 3 1 (.slice A (tdTg t).length c) (tdTg t).length ((tdTg t).map (.int .i64 ·)) := by
  have HC := Lib.hid (fun L H0 w0 W hL hH hB => tidy_named_targets n t ht L H0 w0 W hL hH hB)
  unfold trmVal at HC ⊢
  generalize hPO : (fun (e : Ending) (w' : World) => ∃ A c, e = .returned (.slice A (tdTg t).length c) ∧ Below w.heap.size w w' ∧ w'.ownsRow w.heap.size 3 1 (.slice A (tdTg t).length c) (tdTg t).length ((tdTg t).map (.int .i64 ·))) = PO
  have HPO := Lib.hid hPO
  generalize tdTg t = ys at *
  obtain ⟨tk, ta, ty, tn⟩ := t
  simp only at HC
  have HX := Lib.hid (heap_alloc_new w (.cells #[.int .i64 tk, .int .i64 ta, .int .i64 ty, .int .i64 tn] 38))
  have hb0 := bnew w (.cells #[.int .i64 tk, .int .i64 ta, .int .i64 ty, .int .i64 tn] 38)
  have hb1 := bnew (w.alloc (.cells #[.int .i64 tk, .int .i64 ta, .int .i64 ty, .int .i64 tn] 38)) (.cells #[.slice none 0 0] 72)
  have HL := Lib.hid (heap_alloc_new (w.alloc (.cells #[.int .i64 tk, .int .i64 ta, .int .i64 ty, .int .i64 tn] 38)) (.cells #[.slice none 0 0] 72))
  have HX1 := Lib.hid ((hb1.block _ (lt_of_blk HX.out)).trans HX.out)
  have HB1 := Lib.hid (bch hb0 hb1)
  rw [World.size_alloc] at HL
  clear hPO hb0 hb1 ht HX
  go_enter Try.func33, Try.ntmps33
  go_upto_region 2 with (fail)
  generalize (w.alloc (.cells #[.int .i64 tk, .int .i64 ta, .int .i64 ty, .int .i64 tn] 38)).alloc (.cells #[.slice none 0 0] 72) = w1 at *
  obtain ⟨q0, f0⟩ := cell_of_blk HX1.out 0
  obtain ⟨q1, f1⟩ := cell_of_blk HX1.out 1
  obtain ⟨q2, f2⟩ := cell_of_blk HX1.out 2
  obtain ⟨q3, f3⟩ := cell_of_blk HX1.out 3
  go_wp2_with fail
  refine (HC.out (w.heap.size + 1) w.heap.size w w1 HL.out (Nat.le_succ _) HB1.out).mono ?_
  rintro e w2 ⟨⟨v0, rfl⟩, ⟨v, h4, h5⟩, h6, h7, h8, h9⟩
  obtain ⟨A, cap, rfl⟩ := own_len h5
  have HO := Lib.hid h5
  have HB := Lib.hid h6
  have HSZ := Lib.hid HB1.out.size
  have k0 := (cell_of_blk h4 0).1
  clear q0 q1 q2 q3 f0 f1 f2 f3 h4 h5 h6 h7 h8 h9
  go_wp2_with fail
  rw [← HPO.out]
  exact ⟨A, cap, rfl, HB.out, own_more HO.out (by have := HSZ.out; omega)⟩
end Go.Proofs.Ythkobddggoojlaa
