/- Parts of a proof. No condition but those that each theorem names. -/
import Derived.WalkKit
import Derived.OpenShut
import Derived.Below
import Derived.Lib.Hide
import Derived.Laws.OwnMore
import Derived.Deep.QuietTactic
import Derived.Deep.AppendLies
import Derived.ProofKit
import Derived.SizedLaws
import Derived.Test.YthkobddggoojlaaProg
import Derived.Handy
import Derived.Deep.RegionHeld3
import Derived.BigQuiet
import Derived.Maps.AppendAt
import Derived.Maps.RangeWalk
import Derived.Maps.OwnSet
import Derived.StillTailTactics
import Derived.Laws.CopyOwn
import Derived.Lib.BufferWrite
import Derived.OrdersHeld
import Derived.RegionTactic
import Derived.Deep.DeepCutAuto
import Derived.RangeFuncNested
import Derived.RangeFuncBound
import Derived.RangeFuncCalls
import Derived.RangeFuncLeaves
import Derived.OwnWalkIn
import Derived.TacticsInMore
import Derived.LoopNIn
import Derived.LoopIn
import Derived.Shelf.Abstract
import Derived.Shelf.RegionOpen
import Derived.OrdersIn
import Derived.TacticsIn
import Derived.Sort.CutIn
import Derived.Test.YthkobddggoojlaaTeG0e0
import Derived.Test.YthkobddggoojlaaTeG0e1
import Derived.Test.YthkobddggoojlaaTeG0e2
import Derived.Test.YthkobddggoojlaaTeG0e4
import Derived.Test.YthkobddggoojlaaTeIrC
import Derived.Test.YthkobddggoojlaaTeG1e6
import Derived.Test.YthkobddggoojlaaTeG1e7
import Derived.Test.YthkobddggoojlaaTeG1e12
import Derived.Test.YthkobddggoojlaaTeG1e16
import Derived.Test.YthkobddggoojlaaTeG0e15
import Derived.Test.YthkobddggoojlaaTeG1e19
import Derived.Test.YthkobddggoojlaaTeG1e17
import Derived.Test.YthkobddggoojlaaTeG1e20
import Derived.Test.YthkobddggoojlaaTeG1e21
import Derived.Test.YthkobddggoojlaaTeTiB
import Derived.Test.YthkobddggoojlaaTeG3e22
import Derived.Test.YthkobddggoojlaaTeG3e24
namespace Go.Proofs.Ythkobddggoojlaa
open Go Go.RowKit
set_option linter.unusedVariables false
attribute [local go_sem] Oper.semAt_some
set_option maxRecDepth 100000 in
set_option maxHeartbeats 2000000 in
theorem tidy_numbered (l : List Blk) (hl : TdOk l) (hn : l.length ≤ 1048576) (T G V cap : Nat) (bad : List Nat) (s : List Bool) (hs : s.length = l.length) (hcl : TdClosed l s) (ovs : List Value) (w : World) (hT : TiBox w T G V cap l.length) (h : TmAt w G V bad l (tdNot s) ovs) :
    Calls Try.prog 18 #[.pointer (some ⟨T, 0, none⟩)] w fun e w' => ∃ v ovs', e = .returned v ∧ Below w.heap.size w w' ∧ RoAt w' w.heap.size w.heap.size [] v (tdOut l s l.length) ovs' := by
  have HM := Lib.hid h
  have HT := Lib.hid hT
  have HL := Lib.hid hl
  have HCL := Lib.hid hcl
  have HS := Lib.hid hs
  have hmk := run_make_ints l.length (by omega)
  generalize hPO : (fun (e : Ending) (w' : World) => ∃ v ovs', e = .returned v ∧ Below w.heap.size w w' ∧ RoAt w' w.heap.size w.heap.size [] v (tdOut l s l.length) ovs') = PO
  have HPO := Lib.hid hPO
  have b1 := bnew w (.cells #[.pointer (some ⟨T, 0, none⟩)] 47)
  have t0 := (hT.below b1).cells.1
  clear h hT hl hPO hs hcl
  have b2 := bnew (w.alloc (.cells #[.pointer (some ⟨T, 0, none⟩)] 47)) (.cells (ints (List.replicate l.length 0)) 3)
  have b3 := bnew ((w.alloc (.cells #[.pointer (some ⟨T, 0, none⟩)] 47)).alloc (.cells (ints (List.replicate l.length 0)) 3)) (.cells #[.slice (some ⟨w.heap.size + 1, 0, none⟩) l.length l.length] 72)
  have b4 := bnew (((w.alloc (.cells #[.pointer (some ⟨T, 0, none⟩)] 47)).alloc (.cells (ints (List.replicate l.length 0)) 3)).alloc (.cells #[.slice (some ⟨w.heap.size + 1, 0, none⟩) l.length l.length] 72)) (.cells #[.int .i64 0] 3)
  have h1 := ((bch (bch b2 b3) b4).block _ (lt_of_blk (heap_alloc_new w (.cells #[.pointer (some ⟨T, 0, none⟩)] 47)))).trans (heap_alloc_new w (.cells #[.pointer (some ⟨T, 0, none⟩)] 47))
  have h2 := ((bch b3 b4).block _ (lt_of_blk (heap_alloc_new (w.alloc (.cells #[.pointer (some ⟨T, 0, none⟩)] 47)) (.cells (ints (List.replicate l.length 0)) 3)))).trans (heap_alloc_new (w.alloc (.cells #[.pointer (some ⟨T, 0, none⟩)] 47)) (.cells (ints (List.replicate l.length 0)) 3))
  have h3 := (b4.block _ (lt_of_blk (heap_alloc_new ((w.alloc (.cells #[.pointer (some ⟨T, 0, none⟩)] 47)).alloc (.cells (ints (List.replicate l.length 0)) 3)) (.cells #[.slice (some ⟨w.heap.size + 1, 0, none⟩) l.length l.length] 72)))).trans (heap_alloc_new ((w.alloc (.cells #[.pointer (some ⟨T, 0, none⟩)] 47)).alloc (.cells (ints (List.replicate l.length 0)) 3)) (.cells #[.slice (some ⟨w.heap.size + 1, 0, none⟩) l.length l.length] 72))
  have h4 := heap_alloc_new (((w.alloc (.cells #[.pointer (some ⟨T, 0, none⟩)] 47)).alloc (.cells (ints (List.replicate l.length 0)) 3)).alloc (.cells #[.slice (some ⟨w.heap.size + 1, 0, none⟩) l.length l.length] 72)) (.cells #[.int .i64 0] 3)
  have hbb := bch (bch (bch b1 b2) b3) b4
  have hsz : ((((w.alloc (.cells #[.pointer (some ⟨T, 0, none⟩)] 47)).alloc (.cells (ints (List.replicate l.length 0)) 3)).alloc (.cells #[.slice (some ⟨w.heap.size + 1, 0, none⟩) l.length l.length] 72)).alloc (.cells #[.int .i64 0] 3)).heap.size = w.heap.size + 1 + 1 + 1 + 1 := by simp
  simp only [World.size_alloc] at h2 h3 h4
  have x0 := (cell_of_blk h1 0).1
  clear b1 b2 b3 b4
  refine (callsIn_wide (n := 6)).1 ?_
  refine callsIn_of_wp_marks Try.func18 rfl trivial ?_ rfl
  simp only [Try.ntmps18, List.size_toArray, List.length_cons, List.length_nil, Nat.reduceAdd, Nat.reduceSub, Array.replicate_succ, Array.replicate_zero, List.push_toArray, List.append_toArray, List.nil_append, List.cons_append]
  gi_wp2
  generalize ((((w.alloc (.cells #[.pointer (some ⟨T, 0, none⟩)] 47)).alloc (.cells (ints (List.replicate l.length 0)) 3)).alloc (.cells #[.slice (some ⟨w.heap.size + 1, 0, none⟩) l.length l.length] 72)).alloc (.cells #[.int .i64 0] 3)) = W0 at *
  have HN0 : Hid (NuSt l.length s T w 0 W0) := Lib.hid ⟨hbb, h1, h3, h4, List.replicate l.length 0, List.length_replicate, h2, fun j hj => absurd hj (Nat.not_lt_zero j)⟩
  have HSZ := Lib.hid hsz
  clear h1 h2 h3 h4 hbb hsz t0 x0
  refine wpIn_rangeThere rfl (by omega) (gf := 35) (N := l.length) (bd := #[.pointer (some ⟨T, 0, none⟩)]) (lb := #[]) rfl trivial (enters_of Try.func35 (by kernel_rfl) rfl) (tidy_there 5 (by omega) T G V cap l.length hn) rfl
    (NuSt l.length s T w) (fun k W W' h hk => h.kept (by have := HSZ.out; omega) hk) HN0.out (fun k W h => ⟨HT.out.below h.bel, tdNot s, by rw [tdNot_len]; exact HS.out, (HM.out.below h.bel).flag⟩) (fun k W W' b hf hk => TiFl.kept hf hk) ?skip
    (fun k => { tmps := #[.pointer (some ⟨T, 0, none⟩), .pointer (some ⟨w.heap.size, 0, none⟩), .slice none 0 0, .pointer (some ⟨w.heap.size + 1 + 1, 0, none⟩), .pointer (some ⟨w.heap.size + 1 + 1 + 1, 0, none⟩), .int .i64 (k : Int), undef, undef, undef, .pointer (some ⟨T, 0, none⟩), .pointer (some ⟨T, 0, none⟩), .pointer (some ⟨T, 0, none⟩), .slice (some ⟨G, 0, none⟩) l.length cap, .int .i64 l.length, .slice (some ⟨w.heap.size + 1, 0, none⟩) l.length l.length, .pointer (some ⟨T, 0, none⟩), .func (.func 35) #[.pointer (some ⟨T, 0, none⟩)] #[], .int .i64 (k : Int), undef, undef, undef, undef, undef, undef, undef, undef, undef, undef, undef, undef, undef, undef, undef, undef, undef, undef, undef, undef, undef, undef, undef, undef, undef, undef], defers := [] }) ?assign ?body ?done
  case skip =>
    intro k W h hk hf
    obtain ⟨_, hg⟩ := hf.of (HM.out.below h.bel).flag
    rw [tdNot_getD s k (by rw [HS.out]; exact hk)] at hg
    exact h.skip (by rw [HS.out]; exact hk) (by revert hg; cases s.getD k false <;> simp)
  case assign =>
    intro l' k W K hK
    gi_wp2
    exact hK
  case body =>
    intro l' k W R D hk hi hf hD hR hRc
    obtain ⟨_, hg⟩ := hf.of (HM.out.below hi.bel).flag
    rw [tdNot_getD s k (by rw [HS.out]; exact hk)] at hg
    have HG : Hid (s.getD k false = true) := Lib.hid (by revert hg; cases s.getD k false <;> simp)
    obtain ⟨xs, r1, r2, r3⟩ := hi.row
    have hrk : tdRank s k ≤ k := by unfold tdRank; exact Nat.le_trans List.count_le_length (List.length_take_le k s)
    have hrs : tdRank s (k + 1) = tdRank s k + 1 := by rw [tdRank_succ s k (by rw [HS.out]; exact hk), HG.out]; rfl
    have HNX : Hid (NuSt l.length s T w (k + 1) ((W.setCell ⟨w.heap.size + 1, k, none⟩ (.int .i64 (tdRank s k : Nat))).setCell ⟨w.heap.size + 1 + 1 + 1, 0, none⟩ (.int .i64 ((tdRank s k : Nat) + 1)))) := Lib.hid (by
      have r4 := blk_set r2 k (.int .i64 (tdRank s k : Nat))
      rw [ints_set] at r4
      refine ⟨(hi.bel.setCell (p := ⟨w.heap.size + 1, k, none⟩) (Nat.le_succ _) _).setCell (p := ⟨w.heap.size + 1 + 1 + 1, 0, none⟩) (by show w.heap.size ≤ w.heap.size + 1 + 1 + 1; omega) _, ?_, ?_, ?_, xs.set k (tdRank s k : Nat), by rw [List.length_set]; exact r1, ?_, fun j hj hsj => ?_⟩
      · exact blk_far (blk_far hi.box _ _ (by show w.heap.size + 1 ≠ w.heap.size; omega)) _ _ (by show w.heap.size + 1 + 1 + 1 ≠ w.heap.size; omega)
      · exact blk_far (blk_far hi.cel _ _ (by show w.heap.size + 1 ≠ w.heap.size + 1 + 1; omega)) _ _ (by show w.heap.size + 1 + 1 + 1 ≠ w.heap.size + 1 + 1; omega)
      · rw [hrs]
        have r5 := blk_set (blk_far hi.num ⟨w.heap.size + 1, k, none⟩ (.int .i64 (tdRank s k : Nat)) (by show w.heap.size + 1 ≠ w.heap.size + 1 + 1 + 1; omega)) 0 (.int .i64 ((tdRank s k : Nat) + 1))
        exact r5
      · exact blk_far r4 _ _ (by show w.heap.size + 1 + 1 + 1 ≠ w.heap.size + 1; omega)
      · rw [getD_setB xs k j _ 0 (by omega)]
        by_cases e : j = k
        · rw [if_pos e, e]
        · rw [if_neg e]; exact r3 j (by omega) hsj)
    have HDF := Lib.hid (blk_far (blk_far hD ⟨w.heap.size + 1, k, none⟩ (.int .i64 (tdRank s k : Nat)) (by show w.heap.size + 1 ≠ W0.heap.size; have := HSZ.out; omega)) ⟨w.heap.size + 1 + 1 + 1, 0, none⟩ (.int .i64 ((tdRank s k : Nat) + 1)) (by show w.heap.size + 1 + 1 + 1 ≠ W0.heap.size; have := HSZ.out; omega))
    have HRF := Lib.hid (blk_far (blk_far hR ⟨w.heap.size + 1, k, none⟩ (.int .i64 (tdRank s k : Nat)) (by show w.heap.size + 1 ≠ W0.heap.size + 1; have := HSZ.out; omega)) ⟨w.heap.size + 1 + 1 + 1, 0, none⟩ (.int .i64 ((tdRank s k : Nat) + 1)) (by show w.heap.size + 1 + 1 + 1 ≠ W0.heap.size + 1; have := HSZ.out; omega))
    have q0 := (cell_of_blk hi.cel 0).1
    obtain ⟨q1, q2⟩ := cell_of_blk hi.num 0
    obtain ⟨z0, z1⟩ := cell_of_blk r2 k
    rw [ints_get xs k (by omega)] at z0
    have k0 : (0 : Int) ≤ (k : Int) := by omega
    have k1 : (k : Int) < (l.length : Int) := by omega
    have hrb : tdRank s k ≤ 1048576 := by omega
    clear hi hf hD hR hRc hg r1 r2 r3 hrk hrs
    generalize tdRank s k = rk at *
    gi_wp2
    exact ⟨HNX.out, HDF.out, HRF.out⟩
  case done =>
    intro W hi hD
    have HI := Lib.hid hi
    have HDD := Lib.hid hD
    clear hi hD
    have bA := bnew W (.cells #[.slice none 0 0] 23)
    have hA := heap_alloc_new W (.cells #[.slice none 0 0] 23)
    have hbx := (bA.block _ (lt_of_blk HI.out.box)).trans HI.out.box
    have hd1 := (bA.block _ (lt_of_blk HDD.out)).trans HDD.out
    have hsA : (W.alloc (.cells #[.slice none 0 0] 23)).heap.size = W.heap.size + 1 := World.size_alloc _ _
    obtain ⟨xs, r1, r2, r3⟩ := HI.out.row
    have x0 := (cell_of_blk hbx 0).1
    gi_wp2
    clear x0
    generalize W.alloc (.cells #[.slice none 0 0] 23) = W1 at *
    have hOB := lt_of_blk (HDD.out)
    have HOB : Hid (w.heap.size + 1 + 1 + 1 < W.heap.size ∧ W0.heap.size < W.heap.size) := Lib.hid ⟨by have := HSZ.out; omega, hOB⟩
    have HV0 : Hid (NvSt l.length l s T w W.heap.size xs 0 W1) := Lib.hid ⟨bch HI.out.bel bA, hbx, (bA.block _ (lt_of_blk HI.out.cel)).trans HI.out.cel, (bA.block _ (lt_of_blk r2)).trans r2, _, [], hA, RoAt.nil_ _ _ _ _⟩
    have HXS : Hid (xs.length = l.length) := Lib.hid r1
    have HRK : Hid (∀ j, j < l.length → s.getD j false = true → xs.getD j 0 = (tdRank s j : Nat)) := Lib.hid r3
    have HSA := Lib.hid hsA
    have HD1 := Lib.hid hd1
    clear bA hA hbx hsA r1 r2 r3 hOB hd1
    generalize W.heap.size = OB at *
    refine wpIn_rangeThere rfl (by omega) (gf := 35) (N := l.length) (bd := #[.pointer (some ⟨T, 0, none⟩)]) (lb := #[]) rfl trivial (enters_of Try.func35 (by kernel_rfl) rfl) (tidy_there 5 (by omega) T G V cap l.length hn) rfl
      (fun k W' => NvSt l.length l s T w OB xs k W' ∧ W'.heap[W0.heap.size]? = some (.deferred (some []))) (fun k W2 W3 h hk => ⟨h.1.kept (by have := HSA.out; have := HOB.out.1; omega) hk, (hk.1.block _ (by have := HSA.out; have := HOB.out.2; omega)).trans h.2⟩) ⟨HV0.out, HD1.out⟩
      (fun k W h => ⟨HT.out.below h.1.bel, tdNot s, by rw [tdNot_len]; exact HS.out, (HM.out.below h.1.bel).flag⟩) (fun k W W' b hf hk => TiFl.kept hf hk) ?skip2
      (fun k => { tmps := #[.pointer (some ⟨T, 0, none⟩), .pointer (some ⟨w.heap.size, 0, none⟩), .slice none 0 0, .pointer (some ⟨w.heap.size + 1 + 1, 0, none⟩), .pointer (some ⟨w.heap.size + 1 + 1 + 1, 0, none⟩), undef, .pointer (some ⟨OB, 0, none⟩), .int .i64 (k : Int), undef, .pointer (some ⟨T, 0, none⟩), .pointer (some ⟨T, 0, none⟩), .pointer (some ⟨T, 0, none⟩), .slice (some ⟨G, 0, none⟩) l.length cap, .int .i64 l.length, .slice (some ⟨w.heap.size + 1, 0, none⟩) l.length l.length, .pointer (some ⟨T, 0, none⟩), .func (.func 35) #[.pointer (some ⟨T, 0, none⟩)] #[], undef, undef, undef, undef, undef, undef, undef, .pointer (some ⟨T, 0, none⟩), .func (.func 35) #[.pointer (some ⟨T, 0, none⟩)] #[], .int .i64 (k : Int), undef, undef, undef, undef, undef, undef, undef, undef, undef, undef, undef, undef, undef, undef, undef, undef, undef], defers := [] }) ?assign2 ?body2 ?done2
    case skip2 =>
      intro k W2 h hk hf
      obtain ⟨_, hg⟩ := hf.of (HM.out.below h.1.bel).flag
      rw [tdNot_getD s k (by rw [HS.out]; exact hk)] at hg
      exact ⟨h.1.skip (by revert hg; cases s.getD k false <;> simp), h.2⟩
    case assign2 =>
      intro l' k W K hK
      gi_wp2
      exact hK
    case body2 =>
      intro l' k W2 R D hk hi hf hD hR hRc
      obtain ⟨hi, hDa⟩ := hi
      have hm2 := HM.out.below hi.bel
      obtain ⟨_, hg⟩ := hf.of hm2.flag
      rw [tdNot_getD s k (by rw [HS.out]; exact hk)] at hg
      have HG : Hid (s.getD k false = true) := Lib.hid (by revert hg; cases s.getD k false <;> simp)
      obtain ⟨OA, oc, hov, hops, y0, y1, y2, y3, y4, _⟩ := HM.out.cells k hk
      have hgv := HM.out.gv
      have hok := HL.out _ (getD_memI l k blkNone hk)
      have hcc := HCL.out k HG.out
      have hout : tdOut l s (k + 1) = tdOut l s k ++ [⟨(l.getD k blkNone).ops, tdNam (tdNum s) (l.getD k blkNone).term⟩] := by
        show tdOut l s k ++ _ = _
        rw [HG.out, if_pos rfl]
      have hnam : tdNam (tdAtx xs) (l.getD k blkNone).term = tdNam (tdNum s) (l.getD k blkNone).term := tdNam_congr (fun x hx => by
        obtain ⟨a0, a1⟩ := tdTg_lab hok hx
        unfold tdAtx tdNum
        rw [if_neg (by omega), if_neg (by omega), HRK.out x.toNat (by omega) (hcc x hx)]) (by unfold tdAtx tdNum; rfl)
      have hcall := fun W hB hA => tidy_named_numbers xs (w.heap.size + 1 + 1) (w.heap.size + 1) (l.getD k blkNone).term (by rw [HXS.out]; exact hok) W (by rw [HXS.out]; exact hB) hA
      rw [hnam] at hcall
      have hlen : (tdOut l s k).length ≤ 1048576 := by
        have h1 := tdOut_len l s k (by rw [HS.out]; omega)
        have h2 : tdRank s k ≤ k := by unfold tdRank; exact Nat.le_trans List.count_le_length (List.length_take_le k s)
        omega
      have HLEN := Lib.hid hlen
      generalize tdNam (tdNum s) (l.getD k blkNone).term = t2 at *
      generalize l.getD k blkNone = bk at *
      obtain ⟨ops, trm⟩ := bk
      obtain ⟨tk, ta, ty, tn⟩ := trm
      obtain ⟨uk, ua, uy, un⟩ := t2
      unfold trmVal at hcall
      simp only at y0 y1 y2 y3 y4 hops hout hcall
      have HCALL := Lib.hid hcall
      have HOUT := Lib.hid hout
      have HOPS := Lib.hid hops
      obtain ⟨v, ovs2, o1, o2⟩ := hi.out
      obtain ⟨VA, vc, rfl⟩ := ownN_len o2.row
      have HI2 := Lib.hid hi
      have HO1 := Lib.hid o1
      have HO2 := Lib.hid o2
      have HD2 := Lib.hid hD
      have HR2 := Lib.hid hR
      have HDa := Lib.hid hDa
      replace y0 := (hi.bel.cell (p := ⟨G, k * 5, none⟩) hgv.1).trans y0
      replace y1 := (hi.bel.cell (p := ⟨G, k * 5 + 1, none⟩) hgv.1).trans y1
      replace y2 := (hi.bel.cell (p := ⟨G, k * 5 + 2, none⟩) hgv.1).trans y2
      replace y3 := (hi.bel.cell (p := ⟨G, k * 5 + 3, none⟩) hgv.1).trans y3
      replace y4 := (hi.bel.cell (p := ⟨G, k * 5 + 4, none⟩) hgv.1).trans y4
      have t0 := (HT.out.below hi.bel).cells.1
      have x0 := (cell_of_blk hi.box 0).1
      have k0 : (0 : Int) ≤ (k : Int) := by omega
      have k1 : (k : Int) < (l.length : Int) := by omega
      have b3 := bnew W2 (.cells #[.slice OA ops.length oc, .int .i64 tk, .int .i64 ta, .int .i64 ty, .int .i64 tn] 40)
      have HX3 := Lib.hid (heap_alloc_new W2 (.cells #[.slice OA ops.length oc, .int .i64 tk, .int .i64 ta, .int .i64 ty, .int .i64 tn] 40))
      have HB3 := Lib.hid b3
      have HBB : Hid (OB + 1 < W2.heap.size ∧ W0.heap.size < OB ∧ W1.heap.size + 1 < W2.heap.size) := Lib.hid ⟨by have := lt_of_blk hD; have := HSA.out; omega, HOB.out.2, lt_of_blk hR⟩
      clear hov hops hgv hok hcc hout hnam hcall hlen o1 o2 hi hm2 hf hg hD hR hRc hDa b3
      gi_upto_region 11 with (fail)
      clear y0 y1 y2 y3 y4 t0 x0
      generalize W2.alloc (.cells #[.slice OA ops.length oc, .int .i64 tk, .int .i64 ta, .int .i64 ty, .int .i64 tn] 40) = w3 at *
      obtain ⟨c0, f0⟩ := cell_of_blk HX3.out 0
      obtain ⟨c1, f1⟩ := cell_of_blk HX3.out 1
      obtain ⟨c2, f2⟩ := cell_of_blk HX3.out 2
      obtain ⟨c3, f3⟩ := cell_of_blk HX3.out 3
      obtain ⟨c4, f4⟩ := cell_of_blk HX3.out 4
      gi_wp2
      refine ⟨trivial, ?_⟩
      refine (CallsIn.inRound l' (callsIn_wide.2 (HCALL.out w3 ((HB3.out.block _ (lt_of_blk HI2.out.cel)).trans HI2.out.cel) ((HB3.out.block _ (lt_of_blk HI2.out.row)).trans HI2.out.row)))).mono ?_
      rintro e w4 ⟨rfl, hb4⟩
      have HB4 := Lib.hid (bch HB3.out hb4)
      have HX4 := Lib.hid ((hb4.block _ (lt_of_blk HX3.out)).trans HX3.out)
      clear hb4 c0 c1 c2 c3 c4 f0 f1 f2 f3 f4
      obtain ⟨c1, f1⟩ := cell_of_blk HX4.out 1
      obtain ⟨c2, f2⟩ := cell_of_blk HX4.out 2
      obtain ⟨c3, f3⟩ := cell_of_blk HX4.out 3
      obtain ⟨c4, f4⟩ := cell_of_blk HX4.out 4
      gi_upto_region 12 with (fail)
      clear c1 c2 c3 c4 f1 f2 f3 f4
      have HX5 := Lib.hid (blk_set (blk_set (blk_set (blk_set HX4.out 1 (.int .i64 uk)) 2 (.int .i64 ua)) 3 (.int .i64 uy)) 4 (.int .i64 un))
      have HB5 := Lib.hid ((((HB4.out.setCell (p := ⟨W2.heap.size, 1, none⟩) (Nat.le_refl _) (.int .i64 uk)).setCell (p := ⟨W2.heap.size, 2, none⟩) (Nat.le_refl _) (.int .i64 ua)).setCell (p := ⟨W2.heap.size, 3, none⟩) (Nat.le_refl _) (.int .i64 uy)).setCell (p := ⟨W2.heap.size, 4, none⟩) (Nat.le_refl _) (.int .i64 un))
      generalize (((w4.setCell ⟨W2.heap.size, 1, none⟩ (.int .i64 uk)).setCell ⟨W2.heap.size, 2, none⟩ (.int .i64 ua)).setCell ⟨W2.heap.size, 3, none⟩ (.int .i64 uy)).setCell ⟨W2.heap.size, 4, none⟩ (.int .i64 un) = w5 at *
      have hwW := HI2.out.bel.size
      have hro5 := HO2.out.below hwW HB5.out
      have hov5 := HOPS.out.below (HI2.out.bel.trans (HB5.out.mono hwW)) (Nat.le_refl _)
      have hsz5 := HB5.out.size
      obtain ⟨A6, c6, w6, hrun, hro6, hb6⟩ := RoAt.push (w0 := w5) hro5 hov5 (OpFar.nil_ _ _) (by have := HOB.out.1; omega) (by have := HBB.out; have := HSA.out; omega) (by have := HLEN.out; omega) (Below.refl _ _) ⟨uk, ua, uy, un⟩
      have keep : ∀ g x, g < OB + 3 → g ≠ OB → W2.heap[g]? = some x → (w6.setCell ⟨OB, 0, none⟩ (.slice A6 ((tdOut l s k).length + 1) c6)).heap[g]? = some x := fun g x h1 h2 h3 => blk_far ((hb6.block g h1).trans ((HB5.out.block g (lt_of_blk h3)).trans h3)) _ _ (fun e => h2 e.symm)
      have ho6 : w6.heap[OB]? = some (.cells #[.slice VA (tdOut l s k).length vc] 23 (0, 0)) := (hb6.block OB (by omega)).trans ((HB5.out.block _ (lt_of_blk HO1.out)).trans HO1.out)
      have hrow6 := hro6.row.lt
      have HEND : Hid (NvSt l.length l s T w OB xs (k + 1) (w6.setCell ⟨OB, 0, none⟩ (.slice A6 ((tdOut l s k).length + 1) c6))) := Lib.hid (by
        have hob := HOB.out.1
        refine ⟨(HI2.out.bel.trans ((HB5.out.mono hwW).trans (hb6.mono (by omega)))).setCell (p := ⟨OB, 0, none⟩) (by show w.heap.size ≤ OB; omega) _, keep _ _ (by omega) (by omega) HI2.out.box, keep _ _ (by omega) (by omega) HI2.out.cel, keep _ _ (by omega) (by omega) HI2.out.row, .slice A6 ((tdOut l s k).length + 1) c6, ovs2 ++ [.slice OA ops.length oc], blk_set ho6 0 (.slice A6 ((tdOut l s k).length + 1) c6), ?_⟩
        rw [HOUT.out]
        refine RoAt.setOther hro6 _ _ (fun e => ?_) (Or.inl (by show w.heap.size ≤ OB; omega))
        have h9 : OB + 3 ≤ OB := (hrow6 OB e).1
        omega)
      have HDa6 := Lib.hid (keep _ _ (by have := HOB.out.2; omega) (by have := HOB.out.2; omega) HDa.out)
      have HD6 := Lib.hid (keep _ _ (by have := HSA.out; omega) (by have := HSA.out; omega) HD2.out)
      have HR6 := Lib.hid (keep _ _ (by have := HSA.out; omega) (by have := HSA.out; omega) HR2.out)
      obtain ⟨r0, g0⟩ := cell_of_blk ho6 0
      have q0 := (cell_of_blk ((HB5.out.block _ (lt_of_blk HO1.out)).trans HO1.out) 0).1
      have c0 := (cell_of_blk HX5.out 0).1
      have c1 := (cell_of_blk HX5.out 1).1
      have c2 := (cell_of_blk HX5.out 2).1
      have c3 := (cell_of_blk HX5.out 3).1
      have c4 := (cell_of_blk HX5.out 4).1
      clear keep hrow6 ho6 hro5 hov5 hsz5 hwW hb6 hro6
      generalize (tdOut l s k).length = LQ at *
      generalize hLQ : LQ + 1 = LQ1 at *
      have HRUN := Lib.hid hrun
      clear hrun hLQ
      gi_wp2_with ((gi_at_builtin; refine wpListIn_app rfl (.tmp 39) (.tmp 41) 23 rfl HRUN.out rfl rfl ?_))
      exact ⟨⟨HEND.out, HDa6.out⟩, HD6.out, HR6.out⟩
    case done2 =>
      intro W2 hi hD
      obtain ⟨hi, hDa⟩ := hi
      have HI2 := Lib.hid hi
      have HD2 := Lib.hid hD
      have HDa := Lib.hid hDa
      obtain ⟨v, ovs2, o1, o2⟩ := hi.out
      obtain ⟨VA, vc, rfl⟩ := ownN_len o2.row
      have HO2 := Lib.hid o2
      have q0 := (cell_of_blk o1 0).1
      clear hi hD hDa o1 o2
      gi_wp2
      have hne : W1.heap.size ≠ W0.heap.size := by have := HSA.out; have := HOB.out.2; omega
      refine ⟨by simp, .inl ⟨_, _, rfl, run_takeDeferred HD2.out, ?_⟩⟩
      refine ⟨by simp, .inl ⟨_, _, rfl, run_takeDeferred ((World.putObj_heap_other (fun e => hne e.symm)).trans HDa.out), ?_⟩⟩
      refine ⟨_, results_tmp rfl _ _ _, ?_⟩
      rw [← HPO.out]
      have k1 := LoopKept.putObj HD2.out rfl (show OB + 1 ≤ W1.heap.size by have := HSA.out; omega) (.deferred none)
      have k2 := LoopKept.putObj (W := W2.putObj W1.heap.size (.deferred none)) (l := W0.heap.size) ((World.putObj_heap_other (fun e => hne e.symm)).trans HDa.out) rfl (show w.heap.size ≤ W0.heap.size by have := HSZ.out; omega) (.deferred none)
      refine ⟨_, ovs2, rfl, (HI2.out.bel.trans (k1.1.mono (by have := HOB.out.1; omega))).trans k2.1, HO2.out.len, own_more (ownsRow_loop (ownsRow_loop HO2.out.row k1) k2) (by have := HOB.out.1; omega), fun i ov b h3 h4 => ⟨((HO2.out.ops i ov b h3 h4).1.below (k1.1.mono (by have := HOB.out.1; omega)) (Nat.le_refl _)).below k2.1 (Nat.le_refl _), (HO2.out.ops i ov b h3 h4).2⟩⟩
end Go.Proofs.Ythkobddggoojlaa
