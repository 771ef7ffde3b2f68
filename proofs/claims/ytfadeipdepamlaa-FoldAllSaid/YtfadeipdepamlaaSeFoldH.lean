/- Parts of a proof. No condition but those that each theorem names. -/
import Derived.WalkKit
import Derived.OpenShut
import Derived.Below
import Derived.Lib.Hide
import Derived.Laws.OwnMore
import Derived.Deep.QuietTactic
import Derived.Deep.AppendLies
import Derived.ProofKit
import Derived.SizedLaws
import Derived.Test.YtfadeipdepamlaaProg
import Derived.Handy
import Derived.Deep.RegionHeld3
import Derived.BigQuiet
import Derived.Maps.AppendAt
import Derived.Maps.RangeWalk
import Derived.Maps.OwnSet
import Derived.StillTailTactics
import Derived.Laws.CopyOwn
import Derived.Lib.BufferWrite
import Derived.OrdersHeld
import Derived.RegionTactic
import Derived.Deep.DeepCutAuto
import Derived.Test.YtfadeipdepamlaaSeG0e0
import Derived.Test.YtfadeipdepamlaaSeG0e1
import Derived.Test.YtfadeipdepamlaaSeG0e2
import Derived.Test.YtfadeipdepamlaaSeG0e4
import Derived.Test.YtfadeipdepamlaaSeIrC
import Derived.Test.YtfadeipdepamlaaSeIrF
import Derived.Test.YtfadeipdepamlaaSeG1e5
import Derived.Test.YtfadeipdepamlaaSeG1e6
import Derived.Test.YtfadeipdepamlaaSeG1e10
import Derived.Test.YtfadeipdepamlaaSeG0e11
import Derived.Test.YtfadeipdepamlaaSeG1e13
import Derived.Test.YtfadeipdepamlaaSeG1e14
import Derived.Test.YtfadeipdepamlaaSeFoldM
import Derived.Test.YtfadeipdepamlaaSeFoldA
import Derived.Test.YtfadeipdepamlaaSeFoldG
namespace Go.Proofs.Ytfadeipdepamlaa
open Go.RowKit Go.Maps
set_option linter.unusedVariables false
theorem MapAt.of_block {w w' : World} {b n : Nat} {f : Int → Option Int} (h : MapAt w b n f) (he : ∀ x, w.heap[b]? = some x → w'.heap[b]? = some x) : MapAt w' b n f := by
  obtain ⟨D, ⟨es, c, hb, rest⟩, hg⟩ := h
  exact ⟨D, ⟨es, c, he _ hb, rest⟩, hg⟩
theorem BlksAt.map {w w' : World} {B : Nat} {v : Value} {bs : List Blk} {ovs : List Value} (h : BlksAt w B v bs ovs) {b n : Nat} {f : Int → Option Int} (hm : MapAt w b n f) (hg : w.grownBy w' (some b)) : BlksAt w' B v bs ovs :=
  ⟨h.len, h.row.kept hg (own_not_map h.row hm), fun i ov bk h1 h2 => ⟨(h.ops i ov bk h1 h2).1.kept hg (own_not_map (h.ops i ov bk h1 h2).1 hm), (h.ops i ov bk h1 h2).2⟩⟩
set_option maxRecDepth 100000 in
set_option maxHeartbeats 4000000 in
theorem fold_Fold_bad (p : Ir) (av bv : Value) (hf : p.fine) (he : irErr p ≠ 0) (w : World) (hI : IrRep w w.heap.size p av bv) :
    Calls Try.prog 13 #[irVal p av bv] w (PassPost irZero (irErr p) w) := by
  have HC := Lib.hid (fun W h => ir_Check p av bv hf W h)
  have HI := Lib.hid hI
  have q : (irErr p != 0) = true := by rw [bne_iff_ne]; exact he
  unfold irVal at *
  generalize irErr p = fe at *
  have hx0 := alloc_last _ _ (alloc_size w (.cells #[.int .i64 p.temps, av, bv, .int .i64 p.inp, .int .i64 p.out] 25) rfl) (.cells #[.int .i64 0, .slice none 0 0, .slice none 0 0, .int .i64 0, .int .i64 0] 25)
  have hb1 := bal (bnew w (.cells #[.int .i64 p.temps, av, bv, .int .i64 p.inp, .int .i64 p.out] 25)) (.cells #[.int .i64 0, .slice none 0 0, .slice none 0 0, .int .i64 0, .int .i64 0] 25)
  clear hI he hf
  go_enter Try.func13, Try.ntmps13
  go_wp2_with fail
  refine (HC.out _ (HI.out.next hb1)).mono ?_
  rintro e w2 ⟨rfl, hb2⟩
  have hx := (hb2.block _ (lt_of_blk hx0)).trans hx0
  have HB := Lib.hid (bch hb1 hb2)
  obtain ⟨r0, s0⟩ := cell_of_blk hx 0
  obtain ⟨r1, s1⟩ := cell_of_blk hx 1
  obtain ⟨r2, s2⟩ := cell_of_blk hx 2
  obtain ⟨r3, s3⟩ := cell_of_blk hx 3
  obtain ⟨r4, s4⟩ := cell_of_blk hx 4
  clear hx0 hb1 hb2
  go_wp2_with fail
  have hr7 := blk_set (blk_set (blk_set (blk_set (blk_set hx 0 (.int .i64 0)) 1 (.slice none 0 0)) 2 (.slice none 0 0)) 3 (.int .i64 0)) 4 (.int .i64 0)
  have hB7 := ((((HB.out.setCell (p := ⟨w.heap.size + 1, 0, none⟩) (by show w.heap.size ≤ w.heap.size + 1; omega) (.int .i64 0)).setCell (p := ⟨w.heap.size + 1, 1, none⟩) (by show w.heap.size ≤ w.heap.size + 1; omega) (.slice none 0 0)).setCell (p := ⟨w.heap.size + 1, 2, none⟩) (by show w.heap.size ≤ w.heap.size + 1; omega) (.slice none 0 0)).setCell (p := ⟨w.heap.size + 1, 3, none⟩) (by show w.heap.size ≤ w.heap.size + 1; omega) (.int .i64 0)).setCell (p := ⟨w.heap.size + 1, 4, none⟩) (by show w.heap.size ≤ w.heap.size + 1; omega) (.int .i64 0)
  generalize ((((w2.setCell ⟨w.heap.size + 1, 0, none⟩ (.int .i64 0)).setCell ⟨w.heap.size + 1, 1, none⟩ (.slice none 0 0)).setCell ⟨w.heap.size + 1, 2, none⟩ (.slice none 0 0)).setCell ⟨w.heap.size + 1, 3, none⟩ (.int .i64 0)).setCell ⟨w.heap.size + 1, 4, none⟩ (.int .i64 0) = w7 at *
  have k0 : w7.cell? ⟨w.heap.size + 1, 0, none⟩ = some (.int .i64 0) := (cell_of_blk hr7 0).1
  have k1 : w7.cell? ⟨w.heap.size + 1, 1, none⟩ = some (.slice none 0 0) := (cell_of_blk hr7 1).1
  have k2 : w7.cell? ⟨w.heap.size + 1, 2, none⟩ = some (.slice none 0 0) := (cell_of_blk hr7 2).1
  have k3 : w7.cell? ⟨w.heap.size + 1, 3, none⟩ = some (.int .i64 0) := (cell_of_blk hr7 3).1
  have k4 : w7.cell? ⟨w.heap.size + 1, 4, none⟩ = some (.int .i64 0) := (cell_of_blk hr7 4).1
  clear hr7 hx r0 r1 r2 r3 r4 s0 s1 s2 s3 s4
  refine bodyPost_ret (by simp [results, Try.results13, go_sem, k0, k1, k2, k3, k4]; try rfl) rfl ?_
  exact ⟨none, 0, none, 0, rfl, ⟨SlRep.nil_ _ _, SlRep.nil_ _ _⟩, hB7⟩
set_option maxRecDepth 100000 in
set_option maxHeartbeats 8000000 in
theorem fold_Fold (p : Ir) (av bv : Value) (hf : p.fine) (he : irErr p = 0) (w : World) (hI : IrRep w w.heap.size p av bv) :
    Calls Try.prog 13 #[irVal p av bv] w (PassPost (fdIr p) 0 w) := by
  have HC := Lib.hid (fun W h => ir_Check p av bv hf W h)
  rw [he] at HC
  obtain ⟨hng, hm⟩ := irErr_ok he
  unfold greatP at hng
  have hrs := railSum_nonneg p.arrays
  have hn1 : p.arrays.length ≤ 1048576 := by omega
  have hn2 : p.blocks.length ≤ 1048576 := by omega
  have HOPS : Hid (∀ k, k < p.blocks.length → (p.blocks.getD k blkNone).ops.length ≤ 1048576) := Lib.hid (fun k hk => by
    have h1 := opsSum_step p.blocks k hk
    have h2 := opsSum_take p.blocks (k + 1)
    omega)
  have HFB : Hid (∀ b ∈ p.blocks, b.fine) := Lib.hid hf.2.2.2.2.2.2
  have HQB : Hid (∀ b ∈ p.blocks, (fdBlk b).fine) := Lib.hid (fun b hb => (fd_fine he hf).2.2.2.2.2.2 _ (List.mem_map_of_mem hb))
  have hmm := @run_makeMap Try.prog
  obtain ⟨AA, ac, rfl, hac⟩ := hI.1.form
  obtain ⟨BA, bc, rfl, hbc⟩ := hI.2.form
  have HI := Lib.hid hI
  unfold irVal at *
  obtain ⟨hx0, hx1⟩ : ((w.alloc (.cells #[.int .i64 p.temps, (.slice AA p.arrays.length ac), .slice BA p.blocks.length bc, .int .i64 p.inp, .int .i64 p.out] 25)).alloc (.cells #[.int .i64 0, .slice none 0 0, .slice none 0 0, .int .i64 0, .int .i64 0] 25)).heap[w.heap.size]? = some (.cells #[.int .i64 p.temps, (.slice AA p.arrays.length ac), .slice BA p.blocks.length bc, .int .i64 p.inp, .int .i64 p.out] 25 (0, 0)) ∧
      ((w.alloc (.cells #[.int .i64 p.temps, (.slice AA p.arrays.length ac), .slice BA p.blocks.length bc, .int .i64 p.inp, .int .i64 p.out] 25)).alloc (.cells #[.int .i64 0, .slice none 0 0, .slice none 0 0, .int .i64 0, .int .i64 0] 25)).heap[w.heap.size + 1]? = some (.cells #[.int .i64 0, .slice none 0 0, .slice none 0 0, .int .i64 0, .int .i64 0] 25 (0, 0)) := by
    have e := alloc_size w (.cells #[.int .i64 p.temps, (.slice AA p.arrays.length ac), .slice BA p.blocks.length bc, .int .i64 p.inp, .int .i64 p.out] 25) rfl
    exact ⟨alloc_old (alloc_last w _ rfl _) _, alloc_last _ _ e _⟩
  have hz1 : ((w.alloc (.cells #[.int .i64 p.temps, (.slice AA p.arrays.length ac), .slice BA p.blocks.length bc, .int .i64 p.inp, .int .i64 p.out] 25)).alloc (.cells #[.int .i64 0, .slice none 0 0, .slice none 0 0, .int .i64 0, .int .i64 0] 25)).heap.size = w.heap.size + 1 + 1 := alloc_size _ _ (alloc_size w _ rfl)
  have hb1 := bal (bnew w (.cells #[.int .i64 p.temps, (.slice AA p.arrays.length ac), .slice BA p.blocks.length bc, .int .i64 p.inp, .int .i64 p.out] 25)) (.cells #[.int .i64 0, .slice none 0 0, .slice none 0 0, .int .i64 0, .int .i64 0] 25)
  generalize hPO : PassPost (fdIr p) 0 w = PO
  have HPO := Lib.hid hPO
  clear hng hrs hI hm he hf hPO
  go_enter Try.func13, Try.ntmps13
  go_wp2_with fail
  generalize (w.alloc (.cells #[.int .i64 p.temps, (.slice AA p.arrays.length ac), .slice BA p.blocks.length bc, .int .i64 p.inp, .int .i64 p.out] 25)).alloc (.cells #[.int .i64 0, .slice none 0 0, .slice none 0 0, .int .i64 0, .int .i64 0] 25) = w0 at *
  refine (HC.out _ (HI.out.next hb1)).mono ?_
  rintro e w1 ⟨rfl, hb2⟩
  have HX0 := Lib.hid ((hb2.block _ (lt_of_blk hx0)).trans hx0)
  have HX1 := Lib.hid ((hb2.block _ (lt_of_blk hx1)).trans hx1)
  have HZ1 : Hid (w.heap.size + 1 + 1 ≤ w1.heap.size) := Lib.hid (by have := hb2.size; omega)
  have HB1 := Lib.hid (bch hb1 hb2)
  have HRA := Lib.hid ((HI.out.next hb1).next hb2).1
  have HRB := Lib.hid HI.out.2
  clear hx0 hx1 hz1 hb1 hb2
  obtain ⟨c0, c1, c2, c3, c4, f2⟩ := ir_cells_at HX0.out
  go_upto_region 5 with (fail)
  clear c0 c1 c2 c3 c4 f2
  have hm1 := map_made w1
  have hs1 := alloc_size w1 (.map #[] 0) rfl
  have hbb := bal (bnew w1 (.map #[] 0)) (.cells #[.map (some w1.heap.size)] 51)
  have HFO : Hid (FoAt ((w1.alloc (.map #[] 0)).alloc (.cells #[.map (some w1.heap.size)] 51)) (w1.heap.size + 1) w1.heap.size 0 (fun _ => none)) := Lib.hid ⟨alloc_last _ _ hs1 _, hm1.below (bnew _ _)⟩
  have HSB : Hid (((w1.alloc (.map #[] 0)).alloc (.cells #[.map (some w1.heap.size)] 51)).heap.size = w1.heap.size + 1 + 1) := Lib.hid (alloc_size _ _ hs1)
  have HBB := Lib.hid hbb
  have HX00 := HX0
  have HX11 := HX1
  have HX0 := Lib.hid ((hbb.block _ (lt_of_blk HX0.out)).trans HX0.out)
  have HX1 := Lib.hid ((hbb.block _ (lt_of_blk HX1.out)).trans HX1.out)
  clear hm1 hs1 hbb
  generalize (w1.alloc (.map #[] 0)).alloc (.cells #[.map (some w1.heap.size)] 51) = wb at *
  obtain ⟨c0, c1, c2, c3, c4, f2⟩ := ir_cells_at HX0.out
  go_wp2_with fail
  clear c0 c1 c2 c3 c4 f2
  go_loopw [6, 21] (fun vl vi wr => ∃ (k : Nat) (ovs : List Value), k ≤ p.blocks.length ∧ vi = .int .i64 k ∧ BlksAt wr wb.heap.size vl ((p.blocks.take k).map fdBlk) ovs ∧ Below w1.heap.size w1 wr ∧ wb.heap.size ≤ wr.heap.size ∧ ∃ (n : Nat) (f : Int → Option Int), FoAt wr (w1.heap.size + 1) w1.heap.size n f) (fun _ vi _ => p.blocks.length - (intOf vi).toNat)
  case atStart => exact ⟨0, [], Nat.zero_le _, rfl, BlksAt.nil_ _ _, HBB.out, Nat.le_refl _, 0, _, HFO.out⟩
  case round =>
    obtain ⟨k, ovs, hk, rfl, hBA, hBW, hws, mn, mf, hFO⟩ := hrel
    have HFW := Lib.hid hFO
    have HWS := Lib.hid hws
    have hX0b := lt_of_blk HX0.out
    clear hFO hws hX0b
    have HBA := Lib.hid hBA
    have HBW := Lib.hid hBW
    have hz1 := HZ1.out
    have hxr := (hBW.block w.heap.size (by omega)).trans HX00.out
    have HXR := Lib.hid hxr
    obtain ⟨LA, lc, rfl⟩ := ownN_len hBA.row
    clear hBA hBW hxr
    by_cases hlt : k < p.blocks.length
    · obtain ⟨b, off, rfl, hb0, OA, oc, hops, hoc, x0, x1, x2, x3, x4⟩ := blk_at HRB.out k hlt
      have hbw := HB1.out.trans (HBW.out.mono HB1.out.size)
      have hcw : ∀ o, wr.cell? ⟨b, o, none⟩ = w.cell? ⟨b, o, none⟩ := fun o => hbw.cell (p := ⟨b, o, none⟩) hb0
      rw [← hcw] at x0 x1 x2 x3 x4
      have hops1 := HOPS.out k hlt
      have hfb := HFB.out _ (getD_memI p.blocks k blkNone hlt)
      have hqb := HQB.out _ (getD_memI p.blocks k blkNone hlt)
      have HTK := Lib.hid (map_take_succ fdBlk p.blocks k blkNone hlt)
      have hopsw := hops.below hbw (Nat.le_refl _)
      have hlo := fdList_len (p.blocks.getD k blkNone).ops
      generalize p.blocks.getD k blkNone = bk at *
      have HBL := Lib.hid (fun W h1 h2 => fold_block (w1.heap.size + 1) w1.heap.size mn mf OA oc bk hfb hqb hops1 W h1 h2)
      obtain ⟨ops, trm⟩ := bk
      obtain ⟨tk, ta, ty, tn⟩ := trm
      simp only at hops hoc x0 x1 x2 x3 x4 hops1 HBL hopsw hlo
      have k0 : (0 : Int) ≤ (k : Int) := by omega
      have k1 : (k : Int) < (p.blocks.length : Int) := by omega
      have hbA := bnew wr (.cells #[.slice OA ops.length oc, .int .i64 tk, .int .i64 ta, .int .i64 ty, .int .i64 tn] 39)
      have HbA := Lib.hid hbA
      have HOA := Lib.hid ((hopsw.below (B := w.heap.size) (C := w.heap.size) ((HbA.out.mono hbw.size)) (Nat.le_refl _)))
      have HSW := Lib.hid hbw.size
      have HQ : Hid (fdBlk ⟨ops, tk, ta, ty, tn⟩ = ⟨(fdList ops).2, fdTrm (fdList ops).1 ⟨tk, ta, ty, tn⟩⟩) := Lib.hid rfl
      generalize fdBlk ⟨ops, tk, ta, ty, tn⟩ = q at *
      unfold FbPost at HBL
      have hlo2 : q.ops.length = ops.length := by rw [HQ.out]; exact hlo
      have HFA := Lib.hid (HFW.out.below HbA.out)
      clear hcw hbw hbA hops hopsw hlo HQ hqb hfb
      obtain ⟨qops, qk, qa, qy, qn⟩ := q
      simp only at HBL hlo2
      go_wp2_with fail
      refine (HBL.out _ HFA.out (HOA.out.keep (by have := HbA.out.size; have := HSW.out; omega) (fun _ _ => rfl))).mono ?_
      rintro e w3 ⟨QA, qc, mn', mf', rfl, hqo, hg3, hfo3⟩
      clear x0 x1 x2 x3 x4
      have hBv := (HBA.out.below HbA.out).map HFA.out.mp hg3
      have hlk : ((p.blocks.take k).map fdBlk).length = k := by simp; omega
      have hszq := HBW.out.size
      have hszv := hg3.size
      have hszA := HbA.out.size
      have hwsz := HWS.out
      have hsb := HSB.out
      have hB3 : Below w1.heap.size w1 w3 := (HBW.out.trans (HbA.out.mono hszq)).grown hg3 (by omega) (fun r hr => by injection hr with hr; omega)
      obtain ⟨v', w9, hrun, g1', g2', _, _, gk⟩ := hBv.push hqo (by omega) (fun r hr => by
        intro e9
        have h1 := (hqo.lt r hr).1
        have h2 := (HBA.out.row.lt r e9).2
        omega) (by omega) (by rw [hlk]; omega) ⟨qk, qa, qy, qn⟩
      rw [hlk, hlo2] at hrun
      have HRUN := Lib.hid hrun
      have HG1 := Lib.hid g1'
      have HG2 := Lib.hid (g2' hB3 (by omega))
      have HG4 : Hid (wb.heap.size ≤ w9.heap.size) := Lib.hid (by have := (g2' (Below.refl w3.heap.size w3 |>.mono (show wb.heap.size ≤ w3.heap.size by omega)) (Nat.le_refl _)).size; omega)
      have hvn : ∀ g, g < wb.heap.size → (Value.slice LA ((p.blocks.take k).map fdBlk).length lc).ownBlock ≠ some g := fun g hg e => by have := (hBv.row.lt g e).1; omega
      have HG5 : Hid (FoAt w9 (w1.heap.size + 1) w1.heap.size mn' mf') := Lib.hid ⟨gk hfo3.box (hvn _ (by omega)), hfo3.mp.of_block (fun x hx => gk hx (hvn _ (by omega)))⟩
      clear hrun g1' g2' gk hBv hqo hg3 hfo3 hvn hB3 hlk hszq hszv hszA hwsz hsb
      go_wp2_with (at_builtin; refine wpList_app rfl (.tmp 25) (.tmp 29) 23 rfl HRUN.out rfl rfl ?_)
      go_roundw
      case rel => exact ⟨k + 1, _, by omega, by go_num, by rw [HTK.out]; exact HG1.out, HG2.out, HG4.out, _, _, HG5.out⟩
      case measure => simp [intOf]; omega
    · obtain rfl : k = p.blocks.length := by omega
      have hBF := HBA.out
      rw [List.take_length] at hBF
      have hlb : (p.blocks.map fdBlk).length = p.blocks.length := List.length_map ..
      have hLA : BlksAt wr wb.heap.size (.slice LA p.blocks.length lc) (p.blocks.map fdBlk) ovs := by
        have h := hBF; simp only [List.length_map] at h; exact h
      have hxf := blk_set HXR.out 2 (.slice LA p.blocks.length lc)
      have hr1 := (HBW.out.block _ (lt_of_blk HX11.out)).trans HX11.out
      have hwsz := HWS.out
      have hsb := HSB.out
      have hr5 := blk_far hr1 ⟨w.heap.size, 2, none⟩ (.slice LA p.blocks.length lc) (by show w.heap.size ≠ w.heap.size + 1; omega)
      have hB5 := ((HB1.out.trans (HBW.out.mono HB1.out.size)).setCell (p := ⟨w.heap.size, 2, none⟩) (Nat.le_refl _) (.slice LA p.blocks.length lc))
      have hlow : ∀ i, (⟨w.heap.size, i, none⟩ : Addr).block < wb.heap.size := fun i => by show w.heap.size < _; omega
      have hbl5 := hLA.setLow ⟨w.heap.size, 2, none⟩ (.slice LA p.blocks.length lc) (hlow 2)
      have hse : (wr.setCell ⟨w.heap.size, 2, none⟩ (.slice LA p.blocks.length lc)).heap.size = wr.heap.size := by simp [World.setCell]
      have hra5 : SlRep arrEnc (wr.setCell ⟨w.heap.size, 2, none⟩ (.slice LA p.blocks.length lc)) w.heap.size (.slice AA p.arrays.length ac) p.arrays := HI.out.1.below hB5 (Nat.le_refl _)
      obtain ⟨c0, c1, c2, c3, c4, f2⟩ := ir_cells_at HXR.out
      obtain ⟨g0, g1, g2, g3, g4, g5⟩ := ir_cells_at hxf
      have f1 := (cell_of_blk hxf 1).2
      have HXF := Lib.hid hxf
      have HR5 := Lib.hid hr5
      have HB5 := Lib.hid hB5
      have HBL5 := Lib.hid hbl5
      have HRA5 := Lib.hid hra5
      have HSE := Lib.hid hse
      clear hxf hr1 hr5 hB5 hbl5 hra5 hBF hLA hse
      go_upto_region 12 with (fail)
      clear c0 c1 c2 c3 c4 f2
      generalize wr.setCell ⟨w.heap.size, 2, none⟩ (.slice LA p.blocks.length lc) = w5 at *
      obtain ⟨NA, nc, w6, hrun, how, hb6⟩ := run_copy_arr w5 AA ac w.heap.size p.arrays HRA5.out hn1
      have HRUN := Lib.hid hrun
      have hx6 := (hb6.block _ (lt_of_blk HXF.out)).trans HXF.out
      have hr6 := (hb6.block _ (lt_of_blk HR5.out)).trans HR5.out
      have hB6 := HB5.out.trans (hb6.mono HB5.out.size)
      have hbl6 := HBL5.out.below hb6
      have hx7 := blk_set hx6 1 (.slice NA p.arrays.length nc)
      have hr7 := blk_far hr6 ⟨w.heap.size, 1, none⟩ (.slice NA p.arrays.length nc) (by show w.heap.size ≠ w.heap.size + 1; omega)
      have hB7 := hB6.setCell (p := ⟨w.heap.size, 1, none⟩) (Nat.le_refl _) (.slice NA p.arrays.length nc)
      have hbl7 := hbl6.setLow ⟨w.heap.size, 1, none⟩ (.slice NA p.arrays.length nc) (hlow 1)
      have how7 := own_setCell how ⟨w.heap.size, 1, none⟩ (.slice NA p.arrays.length nc) (by show w.heap.size < w5.heap.size; have := HB5.out.size; have := HSE.out; have := HBW.out.size; omega)
      obtain ⟨h0, h1, h2, h3, h4, h5⟩ := ir_cells_at hx6
      have h6 := (cell_of_blk hx6 1).2
      obtain ⟨j0, j1, j2, j3, j4, j5⟩ := ir_cells_at hx7
      obtain ⟨r0, s0⟩ := cell_of_blk hr7 0
      obtain ⟨r1, s1⟩ := cell_of_blk hr7 1
      obtain ⟨r2, s2⟩ := cell_of_blk hr7 2
      obtain ⟨r3, s3⟩ := cell_of_blk hr7 3
      obtain ⟨r4, s4⟩ := cell_of_blk hr7 4
      have HX7 := Lib.hid hx7
      have HR7 := Lib.hid hr7
      have HB7 := Lib.hid hB7
      have HBL7 := Lib.hid hbl7
      have HOW7 := Lib.hid how7
      clear hrun hx6 hr6 hB6 hbl6 hx7 hr7 hB7 hbl7 how7 how hb6
      go_upto_region 13 with ((at_builtin; refine wpList_app rfl (.const (.slice none 0 0)) (.tmp 35) 22 rfl HRUN.out rfl rfl ?_))
      clear g0 g1 g2 g3 g4 g5 f1 h0 h1 h2 h3 h4 h5 h6
      generalize w6.setCell ⟨w.heap.size, 1, none⟩ (.slice NA p.arrays.length nc) = w7 at *
      go_wp2_with fail
      have hr8 := blk_set (blk_set (blk_set (blk_set (blk_set HR7.out 0 (.int .i64 p.temps)) 1 (.slice NA p.arrays.length nc)) 2 (.slice LA p.blocks.length lc)) 3 (.int .i64 p.inp)) 4 (.int .i64 p.out)
      have hB8 := ((((HB7.out.setCell (p := ⟨w.heap.size + 1, 0, none⟩) (by show w.heap.size ≤ w.heap.size + 1; omega) (.int .i64 p.temps)).setCell (p := ⟨w.heap.size + 1, 1, none⟩) (by show w.heap.size ≤ w.heap.size + 1; omega) (.slice NA p.arrays.length nc)).setCell (p := ⟨w.heap.size + 1, 2, none⟩) (by show w.heap.size ≤ w.heap.size + 1; omega) (.slice LA p.blocks.length lc)).setCell (p := ⟨w.heap.size + 1, 3, none⟩) (by show w.heap.size ≤ w.heap.size + 1; omega) (.int .i64 p.inp)).setCell (p := ⟨w.heap.size + 1, 4, none⟩) (by show w.heap.size ≤ w.heap.size + 1; omega) (.int .i64 p.out)
      have hlow2 : w.heap.size + 1 < wb.heap.size := by omega
      have hl8 := ((((HBL7.out.setLow ⟨w.heap.size + 1, 0, none⟩ (.int .i64 p.temps) hlow2).setLow ⟨w.heap.size + 1, 1, none⟩ (.slice NA p.arrays.length nc) hlow2).setLow ⟨w.heap.size + 1, 2, none⟩ (.slice LA p.blocks.length lc) hlow2).setLow ⟨w.heap.size + 1, 3, none⟩ (.int .i64 p.inp) hlow2).setLow ⟨w.heap.size + 1, 4, none⟩ (.int .i64 p.out) hlow2
      have hlow5 : w.heap.size + 1 < w5.heap.size := by have := HSE.out; have := HBW.out.size; omega
      have ho8 := own_setCell (own_setCell (own_setCell (own_setCell (own_setCell HOW7.out ⟨w.heap.size + 1, 0, none⟩ (.int .i64 p.temps) hlow5) ⟨w.heap.size + 1, 1, none⟩ (.slice NA p.arrays.length nc) hlow5) ⟨w.heap.size + 1, 2, none⟩ (.slice LA p.blocks.length lc) hlow5) ⟨w.heap.size + 1, 3, none⟩ (.int .i64 p.inp) hlow5) ⟨w.heap.size + 1, 4, none⟩ (.int .i64 p.out) hlow5
      generalize ((((w7.setCell ⟨w.heap.size + 1, 0, none⟩ (.int .i64 p.temps)).setCell ⟨w.heap.size + 1, 1, none⟩ (.slice NA p.arrays.length nc)).setCell ⟨w.heap.size + 1, 2, none⟩ (.slice LA p.blocks.length lc)).setCell ⟨w.heap.size + 1, 3, none⟩ (.int .i64 p.inp)).setCell ⟨w.heap.size + 1, 4, none⟩ (.int .i64 p.out) = w8 at *
      have k0 : w8.cell? ⟨w.heap.size + 1, 0, none⟩ = some (.int .i64 p.temps) := (cell_of_blk hr8 0).1
      have k1 : w8.cell? ⟨w.heap.size + 1, 1, none⟩ = some (.slice NA p.arrays.length nc) := (cell_of_blk hr8 1).1
      have k2 : w8.cell? ⟨w.heap.size + 1, 2, none⟩ = some (.slice LA p.blocks.length lc) := (cell_of_blk hr8 2).1
      have k3 : w8.cell? ⟨w.heap.size + 1, 3, none⟩ = some (.int .i64 p.inp) := (cell_of_blk hr8 3).1
      have k4 : w8.cell? ⟨w.heap.size + 1, 4, none⟩ = some (.int .i64 p.out) := (cell_of_blk hr8 4).1
      clear hr8 r0 r1 r2 r3 r4 s0 s1 s2 s3 s4 j0 j1 j2 j3 j4 j5
      refine bodyPost_ret (by simp [results, Try.results13, go_sem, k0, k1, k2, k3, k4]; try rfl) rfl ?_
      rw [← HPO.out]
      have hrb := hl8.rep
      have hra := slRep_arrs (Nat.le_refl _) ho8
      have hfin : IrRep w8 w8.heap.size (fdIr p) (.slice NA p.arrays.length nc) (.slice LA p.blocks.length lc) := ⟨hra, hrb⟩
      refine ⟨NA, nc, LA, lc, ?_, ?_, hB8⟩
      · show _ = Ending.returned (.tuple #[.agg #[.int .i64 p.temps, .slice NA p.arrays.length nc, .slice LA (p.blocks.map fdBlk).length lc, .int .i64 p.inp, .int .i64 p.out], .int .i64 0])
        rw [hlb]
      · show IrRep w8 w8.heap.size (fdIr p) (.slice NA p.arrays.length nc) (.slice LA (p.blocks.map fdBlk).length lc)
        rw [hlb]; exact hfin
end Go.Proofs.Ytfadeipdepamlaa
