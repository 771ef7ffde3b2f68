/- Parts of a proof. No condition but those that each theorem names. -/
import Derived.WalkKit
import Derived.OpenShut
import Derived.Below
import Derived.Lib.Hide
import Derived.Laws.OwnMore
import Derived.Deep.QuietTactic
import Derived.Deep.AppendLies
import Derived.ProofKit
import Derived.SizedLaws
import Derived.Test.YthkobddggoojlaaProg
import Derived.Handy
import Derived.Deep.RegionHeld3
import Derived.BigQuiet
import Derived.Maps.AppendAt
import Derived.Maps.RangeWalk
import Derived.Maps.OwnSet
import Derived.StillTailTactics
import Derived.Laws.CopyOwn
import Derived.Lib.BufferWrite
import Derived.OrdersHeld
import Derived.RegionTactic
import Derived.Deep.DeepCutAuto
import Derived.Test.YthkobddggoojlaaTeG0e0
import Derived.Test.YthkobddggoojlaaTeG0e1
import Derived.Test.YthkobddggoojlaaTeG0e2
import Derived.Test.YthkobddggoojlaaTeG0e4
import Derived.Test.YthkobddggoojlaaTeIrC
import Derived.Test.YthkobddggoojlaaTeG1e6
import Derived.Test.YthkobddggoojlaaTeG1e7
import Derived.Test.YthkobddggoojlaaTeG0e6
import Derived.Test.YthkobddggoojlaaTeG0e14
import Derived.Test.YthkobddggoojlaaTeG1e16
import Derived.Test.YthkobddggoojlaaTeG1e19
import Derived.Test.YthkobddggoojlaaTeG1e17
namespace Go.Proofs.Ythkobddggoojlaa
open Go.RowKit
set_option linter.unusedVariables false
set_option maxRecDepth 100000 in
set_option maxHeartbeats 1000000 in
theorem tidy_named_leads (l : List Blk) (hl : TdOk l) (hn : l.length ≤ 1048576) (T G V cap : Nat) (bad : List Nat) (s : List Bool) (ovs : List Value) (t : Trm) (ht : tdOkT l.length t) (w : World) (hT : TiBox w T G V cap l.length) (h : TmAt w G V bad l s ovs) :
    Calls Try.prog 14 #[trmVal t, .func (.func 15) #[.pointer (some ⟨T, 0, none⟩)] #[]] w fun e w' => e = .returned (trmVal (tdNam (tdLeads l) t)) ∧ Below w.heap.size w w' := by
  have HC := Lib.hid (fun k (hk : tdLab l.length k) W (hb : Below w.heap.size w W) => tidy_leads l hl hn T G V cap bad s ovs k hk W (hT.below hb) (h.below hb))
  clear h hT hl
  unfold trmVal
  have HX0 := Lib.hid (heap_alloc_new w (.cells #[.int .i64 t.kind, .int .i64 t.a, .int .i64 t.yes, .int .i64 t.no] 38))
  have HB0 := Lib.hid (bnew w (.cells #[.int .i64 t.kind, .int .i64 t.a, .int .i64 t.yes, .int .i64 t.no] 38))
  have hb1 := bnew (w.alloc (.cells #[.int .i64 t.kind, .int .i64 t.a, .int .i64 t.yes, .int .i64 t.no] 38)) (.cells #[.int .i64 0, .int .i64 0, .int .i64 0, .int .i64 0] 38)
  have HR1 := Lib.hid (heap_alloc_new (w.alloc (.cells #[.int .i64 t.kind, .int .i64 t.a, .int .i64 t.yes, .int .i64 t.no] 38)) (.cells #[.int .i64 0, .int .i64 0, .int .i64 0, .int .i64 0] 38))
  have HX1 := Lib.hid ((hb1.block _ (lt_of_blk HX0.out)).trans HX0.out)
  have HB1 := Lib.hid (bch HB0.out hb1)
  rw [World.size_alloc] at HR1
  generalize hPO : (fun (e : Ending) (w' : World) => e = .returned (.agg #[.int .i64 (tdNam (tdLeads l) t).kind, .int .i64 (tdNam (tdLeads l) t).a, .int .i64 (tdNam (tdLeads l) t).yes, .int .i64 (tdNam (tdLeads l) t).no]) ∧ Below w.heap.size w w') = PO
  have HPO := Lib.hid hPO
  obtain ⟨tk, ta, ty, tn⟩ := t
  simp only at HX1 HR1 HB1
  unfold tdOkT at ht
  simp only at ht
  clear hPO hb1 HB0 HX0
  go_enter Try.func14, Try.ntmps14
  go_upto_region 1 with (fail)
  generalize (w.alloc (.cells #[.int .i64 tk, .int .i64 ta, .int .i64 ty, .int .i64 tn] 38)).alloc (.cells #[.int .i64 0, .int .i64 0, .int .i64 0, .int .i64 0] 38) = w1 at *
  obtain ⟨q0, f0⟩ := cell_of_blk HX1.out 0
  obtain ⟨q2, f2⟩ := cell_of_blk HX1.out 2
  rcases ht with ⟨rfl, hy⟩ | ⟨rfl, hy, hn2⟩ | rfl
  · have HL1 := Lib.hid hy
    have HE : Hid (tdNam (tdLeads l) ⟨1, ta, ty, tn⟩ = ⟨1, ta, (tdLeads l) ty, tn⟩) := Lib.hid (by simp [tdNam])
    clear hy
    go_wp2_with fail
    refine (HC.out ty HL1.out _ HB1.out).mono ?_
    rintro e w2 ⟨rfl, hb2⟩
    have HB2 := Lib.hid (bch HB1.out hb2)
    have HX2 := Lib.hid ((hb2.block _ (lt_of_blk HX1.out)).trans HX1.out)
    have HR2 := Lib.hid ((hb2.block _ (lt_of_blk HR1.out)).trans HR1.out)
    have HX4 := Lib.hid (blk_set HX2.out 2 (.int .i64 (tdLeads l ty)))
    have HR4 := Lib.hid (blk_far HR2.out ⟨w.heap.size, 2, none⟩ (.int .i64 (tdLeads l ty)) (by show w.heap.size ≠ w.heap.size + 1; omega))
    have HB4 := Lib.hid (HB2.out.setCell (p := ⟨w.heap.size, 2, none⟩) (Nat.le_refl _) (.int .i64 (tdLeads l ty)))
    clear hb2 q0 q2 f0 f2
    obtain ⟨q2, f2⟩ := cell_of_blk HX2.out 2
    go_upto_region 6 with (fail)
    clear q2 f2
    generalize w2.setCell ⟨w.heap.size, 2, none⟩ (.int .i64 (tdLeads l ty)) = w4 at *
    obtain ⟨z0, z1, z2, z3⟩ : w4.cell? ⟨w.heap.size, 0, none⟩ = some (.int .i64 1) ∧ True ∧ True ∧ True := ⟨(cell_of_blk HX4.out 0).1, trivial, trivial, trivial⟩
    clear z0 z1 z2 z3
    obtain ⟨z0, z1, z2, z3, zf⟩ : w4.cell? ⟨w.heap.size, 0, none⟩ = some (.int .i64 1) ∧ w4.cell? ⟨w.heap.size, 1, none⟩ = some (.int .i64 ta) ∧ w4.cell? ⟨w.heap.size, 2, none⟩ = some (.int .i64 (tdLeads l ty)) ∧ w4.cell? ⟨w.heap.size, 3, none⟩ = some (.int .i64 tn) ∧ True := ⟨(cell_of_blk HX4.out 0).1, (cell_of_blk HX4.out 1).1, (cell_of_blk HX4.out 2).1, (cell_of_blk HX4.out 3).1, trivial⟩
    obtain ⟨q0, f0⟩ := cell_of_blk HR4.out 0
    obtain ⟨q1, f1⟩ := cell_of_blk HR4.out 1
    obtain ⟨q2, f2⟩ := cell_of_blk HR4.out 2
    obtain ⟨q3, f3⟩ := cell_of_blk HR4.out 3
    go_wp2_with fail
    clear z0 z1 z2 z3 q0 q1 q2 q3 f0 f1 f2 f3
    have HR7 := Lib.hid (blk_set (blk_set (blk_set (blk_set HR4.out 0 (.int .i64 1)) 1 (.int .i64 ta)) 2 (.int .i64 (tdLeads l ty))) 3 (.int .i64 tn))
    have HB7 := Lib.hid ((((HB4.out.setCell (p := ⟨w.heap.size + 1, 0, none⟩) (Nat.le_succ _) (.int .i64 1)).setCell (p := ⟨w.heap.size + 1, 1, none⟩) (Nat.le_succ _) (.int .i64 ta)).setCell (p := ⟨w.heap.size + 1, 2, none⟩) (Nat.le_succ _) (.int .i64 (tdLeads l ty))).setCell (p := ⟨w.heap.size + 1, 3, none⟩) (Nat.le_succ _) (.int .i64 tn))
    generalize (((w4.setCell ⟨w.heap.size + 1, 0, none⟩ (.int .i64 1)).setCell ⟨w.heap.size + 1, 1, none⟩ (.int .i64 ta)).setCell ⟨w.heap.size + 1, 2, none⟩ (.int .i64 (tdLeads l ty))).setCell ⟨w.heap.size + 1, 3, none⟩ (.int .i64 tn) = w9 at *
    have k0 : w9.cell? ⟨w.heap.size + 1, 0, none⟩ = some (.int .i64 1) := (cell_of_blk HR7.out 0).1
    have k1 : w9.cell? ⟨w.heap.size + 1, 1, none⟩ = some (.int .i64 ta) := (cell_of_blk HR7.out 1).1
    have k2 : w9.cell? ⟨w.heap.size + 1, 2, none⟩ = some (.int .i64 (tdLeads l ty)) := (cell_of_blk HR7.out 2).1
    have k3 : w9.cell? ⟨w.heap.size + 1, 3, none⟩ = some (.int .i64 tn) := (cell_of_blk HR7.out 3).1
    refine bodyPost_ret (v := .agg #[.int .i64 1, .int .i64 ta, .int .i64 (tdLeads l ty), .int .i64 tn]) (by simp [results, Try.results14, go_sem, k0, k1, k2, k3]; try rfl) rfl ?_
    rw [← HPO.out]
    exact ⟨by rw [HE.out], HB7.out⟩
  · have HL1 := Lib.hid hy
    have HL2 := Lib.hid hn2
    have HE : Hid (tdNam (tdLeads l) ⟨2, ta, ty, tn⟩ = ⟨2, ta, (tdLeads l) ty, (tdLeads l) tn⟩) := Lib.hid (by simp [tdNam])
    clear hy hn2
    go_upto_region 5 with (fail)
    have HB1d := Lib.hid (bdr HB1.out)
    have HBd := HB1d
    have HX1d : Hid (w1.drew.heap[w.heap.size]? = some (.cells #[.int .i64 2, .int .i64 ta, .int .i64 ty, .int .i64 tn] 38 (0, 0))) := Lib.hid HX1.out
    have HR1d : Hid (w1.drew.heap[w.heap.size + 1]? = some (.cells #[.int .i64 0, .int .i64 0, .int .i64 0, .int .i64 0] 38 (0, 0))) := Lib.hid HR1.out
    have hS0 : w1.drew.cell? ⟨w.heap.size, 3, none⟩ = some (.int .i64 tn) := (cell_of_blk HX1d.out 3).1
    replace q2 : w1.drew.cell? ⟨w.heap.size, 2, none⟩ = some (.int .i64 ty) := q2
    refine wp_region_L (fun w' => w'.cell? ⟨w.heap.size, 3, none⟩ = some (.int .i64 tn)) 11 (by kernel_rfl) ?_
    refine wpAnyL_take (i := 0) (some 16) (.func (.func 15) #[.pointer (some ⟨T, 0, none⟩)] #[]) rfl rfl (by kernel_rfl) (by kernel_rfl) (by kernel_rfl) (by kernel_rfl) (fun _ _ _ h => h) (by rfl) ?hv0 hS0 ?rest0
    case hv0 =>
      intro wz hSz
      go_simp
    try simp only [Act.put, List.setIfInBounds_toArray, List.set_cons_zero, List.set_cons_succ]
    refine wpAnyL_take (i := 1) (some 17) (.pointer (some ⟨w.heap.size, 2, none⟩)) rfl rfl (by kernel_rfl) (by kernel_rfl) (by kernel_rfl) (by kernel_rfl) (fun _ _ _ h => h) (by rfl) ?hv1 hS0 ?rest1
    case hv1 =>
      intro wz hSz
      go_simp
    try simp only [Act.put, List.setIfInBounds_toArray, List.set_cons_zero, List.set_cons_succ]
    refine wpAnyL_take (i := 4) (some 20) (.func (.func 15) #[.pointer (some ⟨T, 0, none⟩)] #[]) rfl rfl (by kernel_rfl) (by kernel_rfl) (by kernel_rfl) (by kernel_rfl) (fun _ _ _ h => h) (by rfl) ?hv4 hS0 ?rest4
    case hv4 =>
      intro wz hSz
      go_simp
    try simp only [Act.put, List.setIfInBounds_toArray, List.set_cons_zero, List.set_cons_succ]
    refine wpAnyL_take (i := 5) (some 21) (.pointer (some ⟨w.heap.size, 3, none⟩)) rfl rfl (by kernel_rfl) (by kernel_rfl) (by kernel_rfl) (by kernel_rfl) (fun _ _ _ h => h) (by rfl) ?hv5 hS0 ?rest5
    case hv5 =>
      intro wz hSz
      go_simp
    try simp only [Act.put, List.setIfInBounds_toArray, List.set_cons_zero, List.set_cons_succ]
    refine wpAnyL_take (i := 6) (some 22) (.int .i64 tn) rfl rfl (by kernel_rfl) (by kernel_rfl) (by kernel_rfl) (by kernel_rfl) (fun _ _ _ h => h) (by rfl) ?hv6 hS0 ?rest6
    case hv6 =>
      intro wz hSz
      go_simp
    try simp only [Act.put, List.setIfInBounds_toArray, List.set_cons_zero, List.set_cons_succ]
    refine wpAnyL_one (i := 2) (by kernel_rfl) rfl ?_
    intro K hK
    rw [if_pos (by rfl)]
    go_simp
    refine hK.out _ _ (fun _ => hS0) ?_
    clear hK
    try simp only [Act.put, List.setIfInBounds_toArray, List.set_cons_zero, List.set_cons_succ]
    refine wpAnyL_one (i := 3) (by kernel_rfl) rfl ?_
    intro K hK
    rw [if_pos (by rfl)]
    go_simp
    refine (HC.out ty HL1.out _ HBd.out).mono ?_
    rintro e w2 ⟨rfl, hb2⟩
    have HB2 := Lib.hid (bch HB1d.out hb2)
    have HX2 := Lib.hid ((hb2.block _ (lt_of_blk HX1d.out)).trans HX1d.out)
    have HR2 := Lib.hid ((hb2.block _ (lt_of_blk HR1d.out)).trans HR1d.out)
    have hS2 := (cell_of_blk HX2.out 3).1
    clear hb2
    refine hK.out _ _ (fun _ => hS2) ?_
    clear hK
    try simp only [Act.put, List.setIfInBounds_toArray, List.set_cons_zero, List.set_cons_succ]
    refine wpAnyL_take (i := 8) (some 24) (.pointer (some ⟨w.heap.size, 2, none⟩)) rfl rfl (by kernel_rfl) (by kernel_rfl) (by kernel_rfl) (by kernel_rfl) (fun _ _ _ h => h) (by rfl) ?hv8 hS2 ?rest8
    case hv8 =>
      intro wz hSz
      go_simp
    try simp only [Act.put, List.setIfInBounds_toArray, List.set_cons_zero, List.set_cons_succ]
    refine wpAnyL_one (i := 7) (by kernel_rfl) rfl ?_
    intro K hK
    rw [if_pos (by rfl)]
    go_simp
    refine (HC.out tn HL2.out _ HB2.out).mono ?_
    rintro e w3 ⟨rfl, hb3⟩
    have HB3 := Lib.hid (bch HB2.out hb3)
    have HX3 := Lib.hid ((hb3.block _ (lt_of_blk HX2.out)).trans HX2.out)
    have HR3 := Lib.hid ((hb3.block _ (lt_of_blk HR2.out)).trans HR2.out)
    have hS3 := (cell_of_blk HX3.out 3).1
    clear hb3
    refine hK.out _ _ (fun _ => hS3) ?_
    clear hK
    try simp only [Act.put, List.setIfInBounds_toArray, List.set_cons_zero, List.set_cons_succ]
    have HX4 := Lib.hid (blk_set HX3.out 2 (.int .i64 (tdLeads l ty)))
    have HR4 := Lib.hid (blk_far HR3.out ⟨w.heap.size, 2, none⟩ (.int .i64 (tdLeads l ty)) (by show w.heap.size ≠ w.heap.size + 1; omega))
    have HB4 := Lib.hid (HB3.out.setCell (p := ⟨w.heap.size, 2, none⟩) (Nat.le_refl _) (.int .i64 (tdLeads l ty)))
    have hS4 := (cell_of_blk HX4.out 3).1
    clear q2 f2
    obtain ⟨q2, f2⟩ := cell_of_blk HX3.out 2
    refine wpAnyL_one (i := 9) (by kernel_rfl) rfl ?_
    intro K hK
    rw [if_pos (by rfl)]
    go_simp
    refine hK.out _ _ (fun _ => hS4) ?_
    clear hK
    try simp only [Act.put, List.setIfInBounds_toArray, List.set_cons_zero, List.set_cons_succ]
    clear q2 f2
    generalize w3.setCell ⟨w.heap.size, 2, none⟩ (.int .i64 (tdLeads l ty)) = w4 at *
    obtain ⟨q3, f3⟩ := cell_of_blk HX4.out 3
    refine wpAnyL_one (i := 10) (by kernel_rfl) rfl ?_
    intro K hK
    rw [if_pos (by rfl)]
    go_simp
    refine hK.out _ _ (fun _ => hS4) ?_
    clear hK
    try simp only [Act.put, List.setIfInBounds_toArray, List.set_cons_zero, List.set_cons_succ]
    refine wpAnyL_one (i := 11) (by kernel_rfl) rfl ?_
    intro K hK
    rw [if_pos (by rfl)]
    go_simp
    refine hK.out _ _ (fun h => absurd rfl h) ?_
    clear hK
    refine wpAnyL_done (by kernel_rfl) ?_ _
    have HX5 := Lib.hid (blk_set HX4.out 3 (.int .i64 (tdLeads l tn)))
    have HR5 := Lib.hid (blk_far HR4.out ⟨w.heap.size, 3, none⟩ (.int .i64 (tdLeads l tn)) (by show w.heap.size ≠ w.heap.size + 1; omega))
    have HB5 := Lib.hid (HB4.out.setCell (p := ⟨w.heap.size, 3, none⟩) (Nat.le_refl _) (.int .i64 (tdLeads l tn)))
    clear q0 f0 q3 f3 hS0 hS2 hS3 hS4
    generalize w4.setCell ⟨w.heap.size, 3, none⟩ (.int .i64 (tdLeads l tn)) = w5 at *
    obtain ⟨z0, z1, z2, z3, zf⟩ : w5.cell? ⟨w.heap.size, 0, none⟩ = some (.int .i64 2) ∧ w5.cell? ⟨w.heap.size, 1, none⟩ = some (.int .i64 ta) ∧ w5.cell? ⟨w.heap.size, 2, none⟩ = some (.int .i64 (tdLeads l ty)) ∧ w5.cell? ⟨w.heap.size, 3, none⟩ = some (.int .i64 (tdLeads l tn)) ∧ True := ⟨(cell_of_blk HX5.out 0).1, (cell_of_blk HX5.out 1).1, (cell_of_blk HX5.out 2).1, (cell_of_blk HX5.out 3).1, trivial⟩
    obtain ⟨q0, f0⟩ := cell_of_blk HR5.out 0
    obtain ⟨q1, f1⟩ := cell_of_blk HR5.out 1
    obtain ⟨q2, f2⟩ := cell_of_blk HR5.out 2
    obtain ⟨q3, f3⟩ := cell_of_blk HR5.out 3
    go_wp2_with fail
    clear z0 z1 z2 z3 q0 q1 q2 q3 f0 f1 f2 f3
    have HR7 := Lib.hid (blk_set (blk_set (blk_set (blk_set HR5.out 0 (.int .i64 2)) 1 (.int .i64 ta)) 2 (.int .i64 (tdLeads l ty))) 3 (.int .i64 (tdLeads l tn)))
    have HB7 := Lib.hid ((((HB5.out.setCell (p := ⟨w.heap.size + 1, 0, none⟩) (Nat.le_succ _) (.int .i64 2)).setCell (p := ⟨w.heap.size + 1, 1, none⟩) (Nat.le_succ _) (.int .i64 ta)).setCell (p := ⟨w.heap.size + 1, 2, none⟩) (Nat.le_succ _) (.int .i64 (tdLeads l ty))).setCell (p := ⟨w.heap.size + 1, 3, none⟩) (Nat.le_succ _) (.int .i64 (tdLeads l tn)))
    generalize (((w5.setCell ⟨w.heap.size + 1, 0, none⟩ (.int .i64 2)).setCell ⟨w.heap.size + 1, 1, none⟩ (.int .i64 ta)).setCell ⟨w.heap.size + 1, 2, none⟩ (.int .i64 (tdLeads l ty))).setCell ⟨w.heap.size + 1, 3, none⟩ (.int .i64 (tdLeads l tn)) = w9 at *
    have k0 : w9.cell? ⟨w.heap.size + 1, 0, none⟩ = some (.int .i64 2) := (cell_of_blk HR7.out 0).1
    have k1 : w9.cell? ⟨w.heap.size + 1, 1, none⟩ = some (.int .i64 ta) := (cell_of_blk HR7.out 1).1
    have k2 : w9.cell? ⟨w.heap.size + 1, 2, none⟩ = some (.int .i64 (tdLeads l ty)) := (cell_of_blk HR7.out 2).1
    have k3 : w9.cell? ⟨w.heap.size + 1, 3, none⟩ = some (.int .i64 (tdLeads l tn)) := (cell_of_blk HR7.out 3).1
    refine bodyPost_ret (v := .agg #[.int .i64 2, .int .i64 ta, .int .i64 (tdLeads l ty), .int .i64 (tdLeads l tn)]) (by simp [results, Try.results14, go_sem, k0, k1, k2, k3]; try rfl) rfl ?_
    rw [← HPO.out]
    exact ⟨by rw [HE.out], HB7.out⟩
  · have HE : Hid (tdNam (tdLeads l) ⟨3, ta, ty, tn⟩ = ⟨3, ta, ty, tn⟩) := Lib.hid (by simp [tdNam])
    clear q2 f2
    go_upto_region 6 with (fail)
    clear q0 f0
    obtain ⟨z0, z1, z2, z3, zf⟩ : w1.cell? ⟨w.heap.size, 0, none⟩ = some (.int .i64 3) ∧ w1.cell? ⟨w.heap.size, 1, none⟩ = some (.int .i64 ta) ∧ w1.cell? ⟨w.heap.size, 2, none⟩ = some (.int .i64 ty) ∧ w1.cell? ⟨w.heap.size, 3, none⟩ = some (.int .i64 tn) ∧ True := ⟨(cell_of_blk HX1.out 0).1, (cell_of_blk HX1.out 1).1, (cell_of_blk HX1.out 2).1, (cell_of_blk HX1.out 3).1, trivial⟩
    obtain ⟨q0, f0⟩ := cell_of_blk HR1.out 0
    obtain ⟨q1, f1⟩ := cell_of_blk HR1.out 1
    obtain ⟨q2, f2⟩ := cell_of_blk HR1.out 2
    obtain ⟨q3, f3⟩ := cell_of_blk HR1.out 3
    go_wp2_with fail
    clear z0 z1 z2 z3 q0 q1 q2 q3 f0 f1 f2 f3
    have HR7 := Lib.hid (blk_set (blk_set (blk_set (blk_set HR1.out 0 (.int .i64 3)) 1 (.int .i64 ta)) 2 (.int .i64 ty)) 3 (.int .i64 tn))
    have HB7 := Lib.hid ((((HB1.out.setCell (p := ⟨w.heap.size + 1, 0, none⟩) (Nat.le_succ _) (.int .i64 3)).setCell (p := ⟨w.heap.size + 1, 1, none⟩) (Nat.le_succ _) (.int .i64 ta)).setCell (p := ⟨w.heap.size + 1, 2, none⟩) (Nat.le_succ _) (.int .i64 ty)).setCell (p := ⟨w.heap.size + 1, 3, none⟩) (Nat.le_succ _) (.int .i64 tn))
    generalize (((w1.setCell ⟨w.heap.size + 1, 0, none⟩ (.int .i64 3)).setCell ⟨w.heap.size + 1, 1, none⟩ (.int .i64 ta)).setCell ⟨w.heap.size + 1, 2, none⟩ (.int .i64 ty)).setCell ⟨w.heap.size + 1, 3, none⟩ (.int .i64 tn) = w9 at *
    have k0 : w9.cell? ⟨w.heap.size + 1, 0, none⟩ = some (.int .i64 3) := (cell_of_blk HR7.out 0).1
    have k1 : w9.cell? ⟨w.heap.size + 1, 1, none⟩ = some (.int .i64 ta) := (cell_of_blk HR7.out 1).1
    have k2 : w9.cell? ⟨w.heap.size + 1, 2, none⟩ = some (.int .i64 ty) := (cell_of_blk HR7.out 2).1
    have k3 : w9.cell? ⟨w.heap.size + 1, 3, none⟩ = some (.int .i64 tn) := (cell_of_blk HR7.out 3).1
    refine bodyPost_ret (v := .agg #[.int .i64 3, .int .i64 ta, .int .i64 ty, .int .i64 tn]) (by simp [results, Try.results14, go_sem, k0, k1, k2, k3]; try rfl) rfl ?_
    rw [← HPO.out]
    exact ⟨by rw [HE.out], HB7.out⟩
/-- Numbers told by a row of them. -/
def tdAtx (xs : List Int) (k : Int) : Int := if k = -1 then -1 else xs.getD k.toNat 0
set_option maxHeartbeats 1000000 in
theorem tidy_number (xs : List Int) (B AT : Nat) (k : Int) (hk : tdLab xs.length k) (w : World) (hB : w.heap[B]? = some (.cells #[.slice (some ⟨AT, 0, none⟩) xs.length xs.length] 72 (0, 0))) (hA : w.heap[AT]? = some (.cells (ints xs) 3 (0, 0))) :
    Calls Try.prog 36 #[.int .i64 k, .pointer (some ⟨B, 0, none⟩)] w fun e w' => e = .returned (.int .i64 (tdAtx xs k)) ∧ Below w.heap.size w w' := by
  generalize hPO : (fun (e : Ending) (w' : World) => e = .returned (.int .i64 (tdAtx xs k)) ∧ Below w.heap.size w w') = PO
  have HPO := Lib.hid hPO
  have q0 := (cell_of_blk hB 0).1
  clear hPO hB
  unfold tdLab at hk
  go_enter Try.func36, Try.ntmps36
  by_cases hm : k = -1
  · subst hm
    clear hk hA
    go_wp2_with fail
    rw [← HPO.out]
    exact ⟨rfl, Below.refl _ _⟩
  · obtain ⟨m, rfl⟩ : ∃ m : Nat, k = (m : Int) := ⟨k.toNat, by omega⟩
    have hml : m < xs.length := by omega
    have m0 : (0 : Int) ≤ (m : Int) := by omega
    have m1 : (m : Int) < (xs.length : Int) := by omega
    have q : ((m : Int) == -1) = false := by rw [beq_eq_false_iff_ne]; exact hm
    have z0 := (cell_of_blk hA m).1
    rw [ints_get xs m hml] at z0
    have HE : Hid (tdAtx xs (m : Int) = xs.getD m 0) := Lib.hid (by unfold tdAtx; rw [if_neg hm]; rfl)
    generalize xs.getD m 0 = x at *
    clear hk hA hm
    go_wp2_with fail
    rw [← HPO.out]
    exact ⟨by rw [HE.out]; rfl, Below.refl _ _⟩
set_option maxRecDepth 100000 in
set_option maxHeartbeats 1000000 in
theorem tidy_named_numbers (xs : List Int) (B AT : Nat) (t : Trm) (ht : tdOkT xs.length t) (w : World) (hB : w.heap[B]? = some (.cells #[.slice (some ⟨AT, 0, none⟩) xs.length xs.length] 72 (0, 0))) (hA : w.heap[AT]? = some (.cells (ints xs) 3 (0, 0))) :
    Calls Try.prog 14 #[trmVal t, .func (.func 36) #[] #[.pointer (some ⟨B, 0, none⟩)]] w fun e w' => e = .returned (trmVal (tdNam (tdAtx xs) t)) ∧ Below w.heap.size w w' := by
  have HC := Lib.hid (fun k (hk : tdLab xs.length k) W (hb : Below w.heap.size w W) => tidy_number xs B AT k hk W ((hb.block _ (lt_of_blk hB)).trans hB) ((hb.block _ (lt_of_blk hA)).trans hA))
  clear hA hB
  unfold trmVal
  have HX0 := Lib.hid (heap_alloc_new w (.cells #[.int .i64 t.kind, .int .i64 t.a, .int .i64 t.yes, .int .i64 t.no] 38))
  have HB0 := Lib.hid (bnew w (.cells #[.int .i64 t.kind, .int .i64 t.a, .int .i64 t.yes, .int .i64 t.no] 38))
  have hb1 := bnew (w.alloc (.cells #[.int .i64 t.kind, .int .i64 t.a, .int .i64 t.yes, .int .i64 t.no] 38)) (.cells #[.int .i64 0, .int .i64 0, .int .i64 0, .int .i64 0] 38)
  have HR1 := Lib.hid (heap_alloc_new (w.alloc (.cells #[.int .i64 t.kind, .int .i64 t.a, .int .i64 t.yes, .int .i64 t.no] 38)) (.cells #[.int .i64 0, .int .i64 0, .int .i64 0, .int .i64 0] 38))
  have HX1 := Lib.hid ((hb1.block _ (lt_of_blk HX0.out)).trans HX0.out)
  have HB1 := Lib.hid (bch HB0.out hb1)
  rw [World.size_alloc] at HR1
  generalize hPO : (fun (e : Ending) (w' : World) => e = .returned (.agg #[.int .i64 (tdNam (tdAtx xs) t).kind, .int .i64 (tdNam (tdAtx xs) t).a, .int .i64 (tdNam (tdAtx xs) t).yes, .int .i64 (tdNam (tdAtx xs) t).no]) ∧ Below w.heap.size w w') = PO
  have HPO := Lib.hid hPO
  obtain ⟨tk, ta, ty, tn⟩ := t
  simp only at HX1 HR1 HB1
  unfold tdOkT at ht
  simp only at ht
  clear hPO hb1 HB0 HX0
  go_enter Try.func14, Try.ntmps14
  go_upto_region 1 with (fail)
  generalize (w.alloc (.cells #[.int .i64 tk, .int .i64 ta, .int .i64 ty, .int .i64 tn] 38)).alloc (.cells #[.int .i64 0, .int .i64 0, .int .i64 0, .int .i64 0] 38) = w1 at *
  obtain ⟨q0, f0⟩ := cell_of_blk HX1.out 0
  obtain ⟨q2, f2⟩ := cell_of_blk HX1.out 2
  rcases ht with ⟨rfl, hy⟩ | ⟨rfl, hy, hn2⟩ | rfl
  · have HL1 := Lib.hid hy
    have HE : Hid (tdNam (tdAtx xs) ⟨1, ta, ty, tn⟩ = ⟨1, ta, (tdAtx xs) ty, tn⟩) := Lib.hid (by simp [tdNam])
    clear hy
    go_wp2_with fail
    refine (HC.out ty HL1.out _ HB1.out).mono ?_
    rintro e w2 ⟨rfl, hb2⟩
    have HB2 := Lib.hid (bch HB1.out hb2)
    have HX2 := Lib.hid ((hb2.block _ (lt_of_blk HX1.out)).trans HX1.out)
    have HR2 := Lib.hid ((hb2.block _ (lt_of_blk HR1.out)).trans HR1.out)
    have HX4 := Lib.hid (blk_set HX2.out 2 (.int .i64 (tdAtx xs ty)))
    have HR4 := Lib.hid (blk_far HR2.out ⟨w.heap.size, 2, none⟩ (.int .i64 (tdAtx xs ty)) (by show w.heap.size ≠ w.heap.size + 1; omega))
    have HB4 := Lib.hid (HB2.out.setCell (p := ⟨w.heap.size, 2, none⟩) (Nat.le_refl _) (.int .i64 (tdAtx xs ty)))
    clear hb2 q0 q2 f0 f2
    obtain ⟨q2, f2⟩ := cell_of_blk HX2.out 2
    go_upto_region 6 with (fail)
    clear q2 f2
    generalize w2.setCell ⟨w.heap.size, 2, none⟩ (.int .i64 (tdAtx xs ty)) = w4 at *
    obtain ⟨z0, z1, z2, z3⟩ : w4.cell? ⟨w.heap.size, 0, none⟩ = some (.int .i64 1) ∧ True ∧ True ∧ True := ⟨(cell_of_blk HX4.out 0).1, trivial, trivial, trivial⟩
    clear z0 z1 z2 z3
    obtain ⟨z0, z1, z2, z3, zf⟩ : w4.cell? ⟨w.heap.size, 0, none⟩ = some (.int .i64 1) ∧ w4.cell? ⟨w.heap.size, 1, none⟩ = some (.int .i64 ta) ∧ w4.cell? ⟨w.heap.size, 2, none⟩ = some (.int .i64 (tdAtx xs ty)) ∧ w4.cell? ⟨w.heap.size, 3, none⟩ = some (.int .i64 tn) ∧ True := ⟨(cell_of_blk HX4.out 0).1, (cell_of_blk HX4.out 1).1, (cell_of_blk HX4.out 2).1, (cell_of_blk HX4.out 3).1, trivial⟩
    obtain ⟨q0, f0⟩ := cell_of_blk HR4.out 0
    obtain ⟨q1, f1⟩ := cell_of_blk HR4.out 1
    obtain ⟨q2, f2⟩ := cell_of_blk HR4.out 2
    obtain ⟨q3, f3⟩ := cell_of_blk HR4.out 3
    go_wp2_with fail
    clear z0 z1 z2 z3 q0 q1 q2 q3 f0 f1 f2 f3
    have HR7 := Lib.hid (blk_set (blk_set (blk_set (blk_set HR4.out 0 (.int .i64 1)) 1 (.int .i64 ta)) 2 (.int .i64 (tdAtx xs ty))) 3 (.int .i64 tn))
    have HB7 := Lib.hid ((((HB4.out.setCell (p := ⟨w.heap.size + 1, 0, none⟩) (Nat.le_succ _) (.int .i64 1)).setCell (p := ⟨w.heap.size + 1, 1, none⟩) (Nat.le_succ _) (.int .i64 ta)).setCell (p := ⟨w.heap.size + 1, 2, none⟩) (Nat.le_succ _) (.int .i64 (tdAtx xs ty))).setCell (p := ⟨w.heap.size + 1, 3, none⟩) (Nat.le_succ _) (.int .i64 tn))
    generalize (((w4.setCell ⟨w.heap.size + 1, 0, none⟩ (.int .i64 1)).setCell ⟨w.heap.size + 1, 1, none⟩ (.int .i64 ta)).setCell ⟨w.heap.size + 1, 2, none⟩ (.int .i64 (tdAtx xs ty))).setCell ⟨w.heap.size + 1, 3, none⟩ (.int .i64 tn) = w9 at *
    have k0 : w9.cell? ⟨w.heap.size + 1, 0, none⟩ = some (.int .i64 1) := (cell_of_blk HR7.out 0).1
    have k1 : w9.cell? ⟨w.heap.size + 1, 1, none⟩ = some (.int .i64 ta) := (cell_of_blk HR7.out 1).1
    have k2 : w9.cell? ⟨w.heap.size + 1, 2, none⟩ = some (.int .i64 (tdAtx xs ty)) := (cell_of_blk HR7.out 2).1
    have k3 : w9.cell? ⟨w.heap.size + 1, 3, none⟩ = some (.int .i64 tn) := (cell_of_blk HR7.out 3).1
    refine bodyPost_ret (v := .agg #[.int .i64 1, .int .i64 ta, .int .i64 (tdAtx xs ty), .int .i64 tn]) (by simp [results, Try.results14, go_sem, k0, k1, k2, k3]; try rfl) rfl ?_
    rw [← HPO.out]
    exact ⟨by rw [HE.out], HB7.out⟩
  · have HL1 := Lib.hid hy
    have HL2 := Lib.hid hn2
    have HE : Hid (tdNam (tdAtx xs) ⟨2, ta, ty, tn⟩ = ⟨2, ta, (tdAtx xs) ty, (tdAtx xs) tn⟩) := Lib.hid (by simp [tdNam])
    clear hy hn2
    go_upto_region 5 with (fail)
    have HB1d := Lib.hid (bdr HB1.out)
    have HBd := HB1d
    have HX1d : Hid (w1.drew.heap[w.heap.size]? = some (.cells #[.int .i64 2, .int .i64 ta, .int .i64 ty, .int .i64 tn] 38 (0, 0))) := Lib.hid HX1.out
    have HR1d : Hid (w1.drew.heap[w.heap.size + 1]? = some (.cells #[.int .i64 0, .int .i64 0, .int .i64 0, .int .i64 0] 38 (0, 0))) := Lib.hid HR1.out
    have hS0 : w1.drew.cell? ⟨w.heap.size, 3, none⟩ = some (.int .i64 tn) := (cell_of_blk HX1d.out 3).1
    replace q2 : w1.drew.cell? ⟨w.heap.size, 2, none⟩ = some (.int .i64 ty) := q2
    refine wp_region_L (fun w' => w'.cell? ⟨w.heap.size, 3, none⟩ = some (.int .i64 tn)) 11 (by kernel_rfl) ?_
    refine wpAnyL_take (i := 0) (some 16) (.func (.func 36) #[] #[.pointer (some ⟨B, 0, none⟩)]) rfl rfl (by kernel_rfl) (by kernel_rfl) (by kernel_rfl) (by kernel_rfl) (fun _ _ _ h => h) (by rfl) ?hv0 hS0 ?rest0
    case hv0 =>
      intro wz hSz
      go_simp
    try simp only [Act.put, List.setIfInBounds_toArray, List.set_cons_zero, List.set_cons_succ]
    refine wpAnyL_take (i := 1) (some 17) (.pointer (some ⟨w.heap.size, 2, none⟩)) rfl rfl (by kernel_rfl) (by kernel_rfl) (by kernel_rfl) (by kernel_rfl) (fun _ _ _ h => h) (by rfl) ?hv1 hS0 ?rest1
    case hv1 =>
      intro wz hSz
      go_simp
    try simp only [Act.put, List.setIfInBounds_toArray, List.set_cons_zero, List.set_cons_succ]
    refine wpAnyL_take (i := 4) (some 20) (.func (.func 36) #[] #[.pointer (some ⟨B, 0, none⟩)]) rfl rfl (by kernel_rfl) (by kernel_rfl) (by kernel_rfl) (by kernel_rfl) (fun _ _ _ h => h) (by rfl) ?hv4 hS0 ?rest4
    case hv4 =>
      intro wz hSz
      go_simp
    try simp only [Act.put, List.setIfInBounds_toArray, List.set_cons_zero, List.set_cons_succ]
    refine wpAnyL_take (i := 5) (some 21) (.pointer (some ⟨w.heap.size, 3, none⟩)) rfl rfl (by kernel_rfl) (by kernel_rfl) (by kernel_rfl) (by kernel_rfl) (fun _ _ _ h => h) (by rfl) ?hv5 hS0 ?rest5
    case hv5 =>
      intro wz hSz
      go_simp
    try simp only [Act.put, List.setIfInBounds_toArray, List.set_cons_zero, List.set_cons_succ]
    refine wpAnyL_take (i := 6) (some 22) (.int .i64 tn) rfl rfl (by kernel_rfl) (by kernel_rfl) (by kernel_rfl) (by kernel_rfl) (fun _ _ _ h => h) (by rfl) ?hv6 hS0 ?rest6
    case hv6 =>
      intro wz hSz
      go_simp
    try simp only [Act.put, List.setIfInBounds_toArray, List.set_cons_zero, List.set_cons_succ]
    refine wpAnyL_one (i := 2) (by kernel_rfl) rfl ?_
    intro K hK
    rw [if_pos (by rfl)]
    go_simp
    refine hK.out _ _ (fun _ => hS0) ?_
    clear hK
    try simp only [Act.put, List.setIfInBounds_toArray, List.set_cons_zero, List.set_cons_succ]
    refine wpAnyL_one (i := 3) (by kernel_rfl) rfl ?_
    intro K hK
    rw [if_pos (by rfl)]
    go_simp
    refine (HC.out ty HL1.out _ HBd.out).mono ?_
    rintro e w2 ⟨rfl, hb2⟩
    have HB2 := Lib.hid (bch HB1d.out hb2)
    have HX2 := Lib.hid ((hb2.block _ (lt_of_blk HX1d.out)).trans HX1d.out)
    have HR2 := Lib.hid ((hb2.block _ (lt_of_blk HR1d.out)).trans HR1d.out)
    have hS2 := (cell_of_blk HX2.out 3).1
    clear hb2
    refine hK.out _ _ (fun _ => hS2) ?_
    clear hK
    try simp only [Act.put, List.setIfInBounds_toArray, List.set_cons_zero, List.set_cons_succ]
    refine wpAnyL_take (i := 8) (some 24) (.pointer (some ⟨w.heap.size, 2, none⟩)) rfl rfl (by kernel_rfl) (by kernel_rfl) (by kernel_rfl) (by kernel_rfl) (fun _ _ _ h => h) (by rfl) ?hv8 hS2 ?rest8
    case hv8 =>
      intro wz hSz
      go_simp
    try simp only [Act.put, List.setIfInBounds_toArray, List.set_cons_zero, List.set_cons_succ]
    refine wpAnyL_one (i := 7) (by kernel_rfl) rfl ?_
    intro K hK
    rw [if_pos (by rfl)]
    go_simp
    refine (HC.out tn HL2.out _ HB2.out).mono ?_
    rintro e w3 ⟨rfl, hb3⟩
    have HB3 := Lib.hid (bch HB2.out hb3)
    have HX3 := Lib.hid ((hb3.block _ (lt_of_blk HX2.out)).trans HX2.out)
    have HR3 := Lib.hid ((hb3.block _ (lt_of_blk HR2.out)).trans HR2.out)
    have hS3 := (cell_of_blk HX3.out 3).1
    clear hb3
    refine hK.out _ _ (fun _ => hS3) ?_
    clear hK
    try simp only [Act.put, List.setIfInBounds_toArray, List.set_cons_zero, List.set_cons_succ]
    have HX4 := Lib.hid (blk_set HX3.out 2 (.int .i64 (tdAtx xs ty)))
    have HR4 := Lib.hid (blk_far HR3.out ⟨w.heap.size, 2, none⟩ (.int .i64 (tdAtx xs ty)) (by show w.heap.size ≠ w.heap.size + 1; omega))
    have HB4 := Lib.hid (HB3.out.setCell (p := ⟨w.heap.size, 2, none⟩) (Nat.le_refl _) (.int .i64 (tdAtx xs ty)))
    have hS4 := (cell_of_blk HX4.out 3).1
    clear q2 f2
    obtain ⟨q2, f2⟩ := cell_of_blk HX3.out 2
    refine wpAnyL_one (i := 9) (by kernel_rfl) rfl ?_
    intro K hK
    rw [if_pos (by rfl)]
    go_simp
    refine hK.out _ _ (fun _ => hS4) ?_
    clear hK
    try simp only [Act.put, List.setIfInBounds_toArray, List.set_cons_zero, List.set_cons_succ]
    clear q2 f2
    generalize w3.setCell ⟨w.heap.size, 2, none⟩ (.int .i64 (tdAtx xs ty)) = w4 at *
    obtain ⟨q3, f3⟩ := cell_of_blk HX4.out 3
    refine wpAnyL_one (i := 10) (by kernel_rfl) rfl ?_
    intro K hK
    rw [if_pos (by rfl)]
    go_simp
    refine hK.out _ _ (fun _ => hS4) ?_
    clear hK
    try simp only [Act.put, List.setIfInBounds_toArray, List.set_cons_zero, List.set_cons_succ]
    refine wpAnyL_one (i := 11) (by kernel_rfl) rfl ?_
    intro K hK
    rw [if_pos (by rfl)]
    go_simp
    refine hK.out _ _ (fun h => absurd rfl h) ?_
    clear hK
    refine wpAnyL_done (by kernel_rfl) ?_ _
    have HX5 := Lib.hid (blk_set HX4.out 3 (.int .i64 (tdAtx xs tn)))
    have HR5 := Lib.hid (blk_far HR4.out ⟨w.heap.size, 3, none⟩ (.int .i64 (tdAtx xs tn)) (by show w.heap.size ≠ w.heap.size + 1; omega))
    have HB5 := Lib.hid (HB4.out.setCell (p := ⟨w.heap.size, 3, none⟩) (Nat.le_refl _) (.int .i64 (tdAtx xs tn)))
    clear q0 f0 q3 f3 hS0 hS2 hS3 hS4
    generalize w4.setCell ⟨w.heap.size, 3, none⟩ (.int .i64 (tdAtx xs tn)) = w5 at *
    obtain ⟨z0, z1, z2, z3, zf⟩ : w5.cell? ⟨w.heap.size, 0, none⟩ = some (.int .i64 2) ∧ w5.cell? ⟨w.heap.size, 1, none⟩ = some (.int .i64 ta) ∧ w5.cell? ⟨w.heap.size, 2, none⟩ = some (.int .i64 (tdAtx xs ty)) ∧ w5.cell? ⟨w.heap.size, 3, none⟩ = some (.int .i64 (tdAtx xs tn)) ∧ True := ⟨(cell_of_blk HX5.out 0).1, (cell_of_blk HX5.out 1).1, (cell_of_blk HX5.out 2).1, (cell_of_blk HX5.out 3).1, trivial⟩
    obtain ⟨q0, f0⟩ := cell_of_blk HR5.out 0
    obtain ⟨q1, f1⟩ := cell_of_blk HR5.out 1
    obtain ⟨q2, f2⟩ := cell_of_blk HR5.out 2
    obtain ⟨q3, f3⟩ := cell_of_blk HR5.out 3
    go_wp2_with fail
    clear z0 z1 z2 z3 q0 q1 q2 q3 f0 f1 f2 f3
    have HR7 := Lib.hid (blk_set (blk_set (blk_set (blk_set HR5.out 0 (.int .i64 2)) 1 (.int .i64 ta)) 2 (.int .i64 (tdAtx xs ty))) 3 (.int .i64 (tdAtx xs tn)))
    have HB7 := Lib.hid ((((HB5.out.setCell (p := ⟨w.heap.size + 1, 0, none⟩) (Nat.le_succ _) (.int .i64 2)).setCell (p := ⟨w.heap.size + 1, 1, none⟩) (Nat.le_succ _) (.int .i64 ta)).setCell (p := ⟨w.heap.size + 1, 2, none⟩) (Nat.le_succ _) (.int .i64 (tdAtx xs ty))).setCell (p := ⟨w.heap.size + 1, 3, none⟩) (Nat.le_succ _) (.int .i64 (tdAtx xs tn)))
    generalize (((w5.setCell ⟨w.heap.size + 1, 0, none⟩ (.int .i64 2)).setCell ⟨w.heap.size + 1, 1, none⟩ (.int .i64 ta)).setCell ⟨w.heap.size + 1, 2, none⟩ (.int .i64 (tdAtx xs ty))).setCell ⟨w.heap.size + 1, 3, none⟩ (.int .i64 (tdAtx xs tn)) = w9 at *
    have k0 : w9.cell? ⟨w.heap.size + 1, 0, none⟩ = some (.int .i64 2) := (cell_of_blk HR7.out 0).1
    have k1 : w9.cell? ⟨w.heap.size + 1, 1, none⟩ = some (.int .i64 ta) := (cell_of_blk HR7.out 1).1
    have k2 : w9.cell? ⟨w.heap.size + 1, 2, none⟩ = some (.int .i64 (tdAtx xs ty)) := (cell_of_blk HR7.out 2).1
    have k3 : w9.cell? ⟨w.heap.size + 1, 3, none⟩ = some (.int .i64 (tdAtx xs tn)) := (cell_of_blk HR7.out 3).1
    refine bodyPost_ret (v := .agg #[.int .i64 2, .int .i64 ta, .int .i64 (tdAtx xs ty), .int .i64 (tdAtx xs tn)]) (by simp [results, Try.results14, go_sem, k0, k1, k2, k3]; try rfl) rfl ?_
    rw [← HPO.out]
    exact ⟨by rw [HE.out], HB7.out⟩
  · have HE : Hid (tdNam (tdAtx xs) ⟨3, ta, ty, tn⟩ = ⟨3, ta, ty, tn⟩) := Lib.hid (by simp [tdNam])
    clear q2 f2
    go_upto_region 6 with (fail)
    clear q0 f0
    obtain ⟨z0, z1, z2, z3, zf⟩ : w1.cell? ⟨w.heap.size, 0, none⟩ = some (.int .i64 3) ∧ w1.cell? ⟨w.heap.size, 1, none⟩ = some (.int .i64 ta) ∧ w1.cell? ⟨w.heap.size, 2, none⟩ = some (.int .i64 ty) ∧ w1.cell? ⟨w.heap.size, 3, none⟩ = some (.int .i64 tn) ∧ True := ⟨(cell_of_blk HX1.out 0).1, (cell_of_blk HX1.out 1).1, (cell_of_blk HX1.out 2).1, (cell_of_blk HX1.out 3).1, trivial⟩
    obtain ⟨q0, f0⟩ := cell_of_blk HR1.out 0
    obtain ⟨q1, f1⟩ := cell_of_blk HR1.out 1
    obtain ⟨q2, f2⟩ := cell_of_blk HR1.out 2
    obtain ⟨q3, f3⟩ := cell_of_blk HR1.out 3
    go_wp2_with fail
    clear z0 z1 z2 z3 q0 q1 q2 q3 f0 f1 f2 f3
    have HR7 := Lib.hid (blk_set (blk_set (blk_set (blk_set HR1.out 0 (.int .i64 3)) 1 (.int .i64 ta)) 2 (.int .i64 ty)) 3 (.int .i64 tn))
    have HB7 := Lib.hid ((((HB1.out.setCell (p := ⟨w.heap.size + 1, 0, none⟩) (Nat.le_succ _) (.int .i64 3)).setCell (p := ⟨w.heap.size + 1, 1, none⟩) (Nat.le_succ _) (.int .i64 ta)).setCell (p := ⟨w.heap.size + 1, 2, none⟩) (Nat.le_succ _) (.int .i64 ty)).setCell (p := ⟨w.heap.size + 1, 3, none⟩) (Nat.le_succ _) (.int .i64 tn))
    generalize (((w1.setCell ⟨w.heap.size + 1, 0, none⟩ (.int .i64 3)).setCell ⟨w.heap.size + 1, 1, none⟩ (.int .i64 ta)).setCell ⟨w.heap.size + 1, 2, none⟩ (.int .i64 ty)).setCell ⟨w.heap.size + 1, 3, none⟩ (.int .i64 tn) = w9 at *
    have k0 : w9.cell? ⟨w.heap.size + 1, 0, none⟩ = some (.int .i64 3) := (cell_of_blk HR7.out 0).1
    have k1 : w9.cell? ⟨w.heap.size + 1, 1, none⟩ = some (.int .i64 ta) := (cell_of_blk HR7.out 1).1
    have k2 : w9.cell? ⟨w.heap.size + 1, 2, none⟩ = some (.int .i64 ty) := (cell_of_blk HR7.out 2).1
    have k3 : w9.cell? ⟨w.heap.size + 1, 3, none⟩ = some (.int .i64 tn) := (cell_of_blk HR7.out 3).1
    refine bodyPost_ret (v := .agg #[.int .i64 3, .int .i64 ta, .int .i64 ty, .int .i64 tn]) (by simp [results, Try.results14, go_sem, k0, k1, k2, k3]; try rfl) rfl ?_
    rw [← HPO.out]
    exact ⟨by rw [HE.out], HB7.out⟩
end Go.Proofs.Ythkobddggoojlaa
