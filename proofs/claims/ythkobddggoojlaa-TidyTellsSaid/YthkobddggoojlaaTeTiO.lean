/- Parts of a proof. No condition but those that each theorem names. -/
import Derived.WalkKit
import Derived.OpenShut
import Derived.Below
import Derived.Lib.Hide
import Derived.Laws.OwnMore
import Derived.Deep.QuietTactic
import Derived.Deep.AppendLies
import Derived.ProofKit
import Derived.SizedLaws
import Derived.Test.YthkobddggoojlaaProg
import Derived.Handy
import Derived.Deep.RegionHeld3
import Derived.BigQuiet
import Derived.Maps.AppendAt
import Derived.Maps.RangeWalk
import Derived.Maps.OwnSet
import Derived.StillTailTactics
import Derived.Laws.CopyOwn
import Derived.Lib.BufferWrite
import Derived.OrdersHeld
import Derived.RegionTactic
import Derived.Deep.DeepCutAuto
import Derived.RangeFuncNested
import Derived.RangeFuncBound
import Derived.RangeFuncCalls
import Derived.RangeFuncLeaves
import Derived.OwnWalkIn
import Derived.TacticsInMore
import Derived.LoopNIn
import Derived.LoopIn
import Derived.Shelf.Abstract
import Derived.Shelf.RegionOpen
import Derived.OrdersIn
import Derived.TacticsIn
import Derived.Sort.CutIn
import Derived.Test.YthkobddggoojlaaTeG0e0
import Derived.Test.YthkobddggoojlaaTeG0e1
import Derived.Test.YthkobddggoojlaaTeG0e2
import Derived.Test.YthkobddggoojlaaTeG0e3
import Derived.Test.YthkobddggoojlaaTeG0e4
import Derived.Test.YthkobddggoojlaaTeIrC
import Derived.Test.YthkobddggoojlaaTeG2e5
import Derived.Test.YthkobddggoojlaaTeG1e6
import Derived.Test.YthkobddggoojlaaTeG1e7
import Derived.Test.YthkobddggoojlaaTeG0e6
import Derived.Test.YthkobddggoojlaaTeG0e13
import Derived.Test.YthkobddggoojlaaTeG0e14
import Derived.Test.YthkobddggoojlaaTeG1e15
import Derived.Test.YthkobddggoojlaaTeG1e16
import Derived.Test.YthkobddggoojlaaTeG0e15
import Derived.Test.YthkobddggoojlaaTeG1e18
import Derived.Test.YthkobddggoojlaaTeG1e19
import Derived.Test.YthkobddggoojlaaTeG1e17
import Derived.Test.YthkobddggoojlaaTeG1e20
import Derived.Test.YthkobddggoojlaaTeTiB
import Derived.Test.YthkobddggoojlaaTeTmC
import Derived.Test.YthkobddggoojlaaTeG3e17
import Derived.Test.YthkobddggoojlaaTeG3e24
import Derived.Test.YthkobddggoojlaaTeTiJ
import Derived.Test.YthkobddggoojlaaTeG3e25
namespace Go.Proofs.Ythkobddggoojlaa
open Go.RowKit
set_option linter.unusedVariables false
theorem irErr_pos {p : Ir} (he : irErr p = 0) : 0 < p.blocks.length := (ir_tdOk he).2
/-- Two operations may come up. -/
theorem wpAnyL_two {P : Program} {ops : Array Oper} {Q : Exit → Act → World → Prop} {md : Region.Mode} {S : World → Prop} {L : Nat} {i j : Nat} {oi oj : Oper} {n : Nat} {listed : Array Bool} {a : Act} {w : World} (hr : Region.ready md ops listed = [i, j]) (hi : ops[i]? = some oi) (hj : ops[j]? = some oj)
    (h1 : ∀ K : Act → World → Prop, RowKit.Hid (∀ a' w', (i ≠ L → S w') → wpAnyL P md ops Q S L n (listed.setIfInBounds i true) a' w' → K a' w') → if Region.wanted oi (yielded ops a.tmps) = true then Oper.wp P oi a w K Q else K (a.put oi.dst undef) w)
    (h2 : ∀ K : Act → World → Prop, RowKit.Hid (∀ a' w', (j ≠ L → S w') → wpAnyL P md ops Q S L n (listed.setIfInBounds j true) a' w' → K a' w') → if Region.wanted oj (yielded ops a.tmps) = true then Oper.wp P oj a w K Q else K (a.put oj.dst undef) w) : wpAnyL P md ops Q S L (n + 1) listed a w := by
  refine ⟨fun h0 => (by rw [hr] at h0; cases h0), fun m hm => ?_⟩
  rw [hr] at hm
  rcases List.mem_cons.1 hm with rfl | hm
  · exact wpOp_step hi fun K hK => h1 K (show RowKit.Hid _ from fun a' w' h1 h2 => hK a' w' ⟨h1, h2⟩)
  · obtain rfl := List.mem_singleton.1 hm
    exact wpOp_step hj fun K hK => h2 K (show RowKit.Hid _ from fun a' w' h1 h2 => hK a' w' ⟨h1, h2⟩)
/-- What stands when the tidier is made. -/
structure TdA (p : Ir) (w1 : World) (T G V cap : Nat) (ovs : List Value) (W : World) : Prop where
  box : TiBox W T G V cap p.blocks.length
  tm : TmAt W G V [G, V] p.blocks (List.replicate p.blocks.length false) ovs
  bel : Below w1.heap.size w1 W
  le : w1.heap.size ≤ G ∧ w1.heap.size ≤ V ∧ w1.heap.size ≤ T
  ne : G ≠ V ∧ T ≠ G ∧ T ≠ V
theorem TdA.below {p : Ir} {w1 W W' : World} {T G V cap : Nat} {ovs : List Value} (h : TdA p w1 T G V cap ovs W) (hb : Below W.heap.size W W') : TdA p w1 T G V cap ovs W' := ⟨h.box.below hb, h.tm.below hb, h.bel.trans (hb.mono h.bel.size), h.le, h.ne⟩
theorem TdA.made {p : Ir} {w w1 W : World} {A : Option Addr} {cap V : Nat} {ovs : List Value} (h0 : 0 < p.blocks.length) (hw : w.heap.size ≤ w1.heap.size) (hb : Below w1.heap.size w1 W) (hr : RoAt W w1.heap.size w.heap.size [] (.slice A p.blocks.length cap) p.blocks ovs) (hV : w1.heap.size ≤ V) (hv : W.heap[V]? = some (.cells (bools (List.replicate p.blocks.length false)) 4 (0, 0))) :
    ∃ G, A = some ⟨G, 0, none⟩ ∧ TdA p w1 W.heap.size G V cap ovs (W.alloc (.cells #[.slice (some ⟨G, 0, none⟩) p.blocks.length cap, .slice (some ⟨V, 0, none⟩) p.blocks.length p.blocks.length] 49)) := by
  obtain ⟨G, e, h1, h2, h3, h4⟩ := hr.tm hw hb.size h0 hv hV [] (fun r hr => by cases hr)
  have hgv := h4.gv
  have ht := bnew W (.cells #[.slice (some ⟨G, 0, none⟩) p.blocks.length cap, .slice (some ⟨V, 0, none⟩) p.blocks.length p.blocks.length] 49)
  exact ⟨G, e, heap_alloc_new W _, h4.below ht, hb.trans (ht.mono hb.size), ⟨h1, hV, hb.size⟩, h3, by omega, by omega⟩
set_option maxRecDepth 100000 in
set_option maxHeartbeats 1000000 in
theorem tidy_Tidy (p : Ir) (av bv : Value) (hf : p.fine) (he : irErr p = 0) (s0 : List Bool) (hs0 : TdIn (tdStr p.blocks) s0) (w : World) (hI : IrRep w w.heap.size p av bv) :
    Calls Try.prog 8 #[irVal p av bv] w (PassPost (tdIr p s0) 0 w) := by
  have HC := Lib.hid (fun W h => ir_Check p av bv hf W h)
  rw [he] at HC
  obtain ⟨hng, hm⟩ := irErr_ok he
  unfold greatP at hng
  have hrs := railSum_nonneg p.arrays
  have hn1 : p.arrays.length ≤ 1048576 := by omega
  have hn2 : p.blocks.length ≤ 1048576 := by omega
  have HOPS : Hid (∀ k, k < p.blocks.length → (p.blocks.getD k blkNone).ops.length ≤ 1048576) := Lib.hid (fun k hk => by
    have h1 := opsSum_step p.blocks k hk
    have h2 := opsSum_take p.blocks (k + 1)
    omega)
  have HFB : Hid (∀ b ∈ p.blocks, b.fine) := Lib.hid hf.2.2.2.2.2.2
  obtain ⟨AA, ac, rfl, hac⟩ := hI.1.form
  obtain ⟨BA, bc, rfl, hbc⟩ := hI.2.form
  have HI := Lib.hid hI
  unfold irVal at *
  obtain ⟨hx0, hx1⟩ : ((w.alloc (.cells #[.int .i64 p.temps, (.slice AA p.arrays.length ac), .slice BA p.blocks.length bc, .int .i64 p.inp, .int .i64 p.out] 25)).alloc (.cells #[.int .i64 0, .slice none 0 0, .slice none 0 0, .int .i64 0, .int .i64 0] 25)).heap[w.heap.size]? = some (.cells #[.int .i64 p.temps, (.slice AA p.arrays.length ac), .slice BA p.blocks.length bc, .int .i64 p.inp, .int .i64 p.out] 25 (0, 0)) ∧
      ((w.alloc (.cells #[.int .i64 p.temps, (.slice AA p.arrays.length ac), .slice BA p.blocks.length bc, .int .i64 p.inp, .int .i64 p.out] 25)).alloc (.cells #[.int .i64 0, .slice none 0 0, .slice none 0 0, .int .i64 0, .int .i64 0] 25)).heap[w.heap.size + 1]? = some (.cells #[.int .i64 0, .slice none 0 0, .slice none 0 0, .int .i64 0, .int .i64 0] 25 (0, 0)) := by
    have e := alloc_size w (.cells #[.int .i64 p.temps, (.slice AA p.arrays.length ac), .slice BA p.blocks.length bc, .int .i64 p.inp, .int .i64 p.out] 25) rfl
    exact ⟨alloc_old (alloc_last w _ rfl _) _, alloc_last _ _ e _⟩
  have hz1 : ((w.alloc (.cells #[.int .i64 p.temps, (.slice AA p.arrays.length ac), .slice BA p.blocks.length bc, .int .i64 p.inp, .int .i64 p.out] 25)).alloc (.cells #[.int .i64 0, .slice none 0 0, .slice none 0 0, .int .i64 0, .int .i64 0] 25)).heap.size = w.heap.size + 1 + 1 := alloc_size _ _ (alloc_size w _ rfl)
  have hb1 := bal (bnew w (.cells #[.int .i64 p.temps, (.slice AA p.arrays.length ac), .slice BA p.blocks.length bc, .int .i64 p.inp, .int .i64 p.out] 25)) (.cells #[.int .i64 0, .slice none 0 0, .slice none 0 0, .int .i64 0, .int .i64 0] 25)
  generalize hPO : PassPost (tdIr p s0) 0 w = PO
  have HPO := Lib.hid hPO
  have HSTW := Lib.hid (tdW_start he hs0)
  have HOKB : Hid (TdOk p.blocks) := Lib.hid (ir_tdOk he).1
  have HP0 : Hid (0 < p.blocks.length) := Lib.hid (irErr_pos he)
  clear hng hrs hI hm he hf hPO
  go_enter Try.func8, Try.ntmps8
  go_wp2_with fail
  generalize (w.alloc (.cells #[.int .i64 p.temps, (.slice AA p.arrays.length ac), .slice BA p.blocks.length bc, .int .i64 p.inp, .int .i64 p.out] 25)).alloc (.cells #[.int .i64 0, .slice none 0 0, .slice none 0 0, .int .i64 0, .int .i64 0] 25) = w0 at *
  refine (HC.out _ (HI.out.next hb1)).mono ?_
  rintro e w1 ⟨rfl, hb2⟩
  have HX0 := Lib.hid ((hb2.block _ (lt_of_blk hx0)).trans hx0)
  have HX1 := Lib.hid ((hb2.block _ (lt_of_blk hx1)).trans hx1)
  have HZ1 : Hid (w.heap.size + 1 + 1 ≤ w1.heap.size) := Lib.hid (by have := hb2.size; omega)
  have HB1 := Lib.hid (bch hb1 hb2)
  have HRA := Lib.hid ((HI.out.next hb1).next hb2).1
  have HRB := Lib.hid HI.out.2
  clear hx0 hx1 hz1 hb1 hb2
  obtain ⟨c0, c1, c2, c3, c4, f2⟩ := ir_cells_at HX0.out
  clear c0 c1 c3 c4
  go_upto_region 4 with (fail)
  have hS0 : w1.drew.cell? ⟨w.heap.size, 2, none⟩ = some (.slice BA p.blocks.length bc) := c2
  have HRB1 : Hid (SlRep blkEnc w1.drew w.heap.size (.slice BA p.blocks.length bc) p.blocks) := Lib.hid (HRB.out.below (bdr HB1.out) (Nat.le_refl _))
  refine wp_mono (Q := (fun e a W => e = .normal ∧ ∃ (T G V cap : Nat) (ovs : List Value), a = { tmps := #[.agg #[.int .i64 p.temps, .slice AA p.arrays.length ac, .slice BA p.blocks.length bc, .int .i64 p.inp, .int .i64 p.out], .pointer (some ⟨w.heap.size, 0, none⟩), .pointer (some ⟨w.heap.size + 1, 0, none⟩), .int .i64 0, .int .i64 0, .pointer (some ⟨T, 0, none⟩), undef, undef, undef, undef, undef, undef, undef, undef, .agg #[.int .i64 p.temps, .slice AA p.arrays.length ac, .slice BA p.blocks.length bc, .int .i64 p.inp, .int .i64 p.out], .int .i64 0, .int .i64 0, .bool false, undef, undef, .pointer (some ⟨w.heap.size, 2, none⟩), .slice BA p.blocks.length bc, .slice (some ⟨G, 0, none⟩) p.blocks.length cap, .pointer (some ⟨w.heap.size, 2, none⟩), .slice BA p.blocks.length bc, .int .i64 p.blocks.length, .slice (some ⟨V, 0, none⟩) p.blocks.length p.blocks.length, .agg #[.slice (some ⟨G, 0, none⟩) p.blocks.length cap, .slice (some ⟨V, 0, none⟩) p.blocks.length p.blocks.length], .pointer (some ⟨T, 0, none⟩), undef, undef, undef, undef, undef, undef, undef, undef, undef, undef, undef, undef, undef, undef, undef, undef, undef, undef, undef, undef, undef, undef, undef, undef, undef, undef, undef, undef, undef, undef, undef, undef, undef, undef, undef, undef, undef, undef, undef, undef, undef, undef, undef, undef, undef, undef, undef, undef, undef, undef, undef, undef, undef, undef, undef, undef, undef, undef, undef, undef, undef, undef, undef, undef, undef, undef, undef, undef, undef, undef, undef, undef, undef, undef, undef], defers := [] } ∧ TdA p w1 T G V cap ovs W)) ?regA ?contA
  case regA =>
    refine wp_region_L (fun w' => w'.cell? ⟨w.heap.size, 2, none⟩ = some (.slice BA p.blocks.length bc)) 99 (by kernel_rfl) ?_
    refine wpAnyL_take (i := 0) (some 20) (.pointer (some ⟨w.heap.size, 2, none⟩)) rfl rfl (by kernel_rfl) (by kernel_rfl) (by kernel_rfl) (by kernel_rfl) (fun _ _ _ h => by cases h.1) (by rfl) ?hv0 hS0 ?rest0
    case hv0 =>
      intro wz hSz
      go_simp
    try simp only [Act.put, List.setIfInBounds_toArray, List.set_cons_zero, List.set_cons_succ]
    refine wpAnyL_take (i := 1) (some 21) (.slice BA p.blocks.length bc) rfl rfl (by kernel_rfl) (by kernel_rfl) (by kernel_rfl) (by kernel_rfl) (fun _ _ _ h => by cases h.1) (by rfl) ?hv1 hS0 ?rest1
    case hv1 =>
      intro wz hSz
      go_simp
    try simp only [Act.put, List.setIfInBounds_toArray, List.set_cons_zero, List.set_cons_succ]
    refine wpAnyL_take (i := 3) (some 23) (.pointer (some ⟨w.heap.size, 2, none⟩)) rfl rfl (by kernel_rfl) (by kernel_rfl) (by kernel_rfl) (by kernel_rfl) (fun _ _ _ h => by cases h.1) (by rfl) ?hv3 hS0 ?rest3
    case hv3 =>
      intro wz hSz
      go_simp
    try simp only [Act.put, List.setIfInBounds_toArray, List.set_cons_zero, List.set_cons_succ]
    refine wpAnyL_take (i := 4) (some 24) (.slice BA p.blocks.length bc) rfl rfl (by kernel_rfl) (by kernel_rfl) (by kernel_rfl) (by kernel_rfl) (fun _ _ _ h => by cases h.1) (by rfl) ?hv4 hS0 ?rest4
    case hv4 =>
      intro wz hSz
      go_simp
    try simp only [Act.put, List.setIfInBounds_toArray, List.set_cons_zero, List.set_cons_succ]
    refine wpAnyL_take (i := 5) (some 25) (.int .i64 p.blocks.length) rfl rfl (by kernel_rfl) (by kernel_rfl) (by kernel_rfl) (by kernel_rfl) (fun _ _ _ h => by cases h.1) (by rfl) ?hv5 hS0 ?rest5
    case hv5 =>
      intro wz hSz
      go_simp
    try simp only [Act.put, List.setIfInBounds_toArray, List.set_cons_zero, List.set_cons_succ]
    refine wpAnyL_two (i := 2) (j := 6) (by kernel_rfl) rfl rfl ?_ ?_
    · intro K hK
      obtain ⟨ovs, AA2, cc, w2, hrun, hb2, how, hol, hos⟩ := run_app_blks w1.drew BA bc w.heap.size p.blocks HRB1.out HP0.out hn2
      have HRUN := Lib.hid hrun
      clear hrun
      have hS2 : w2.cell? ⟨w.heap.size, 2, none⟩ = some (.slice BA p.blocks.length bc) := (hb2.cell (p := ⟨w.heap.size, 2, none⟩) (lt_of_blk HX0.out)).trans hS0
      refine step_app rfl (.const (.slice none 0 0)) (.tmp 21) 23 (by rfl) HRUN.out (by rfl) (by rfl) ?_
      refine hK.out _ _ (fun _ => hS2) ?_
      clear hK
      try simp only [Act.put, List.setIfInBounds_toArray]
      have hmk := run_make_bools p.blocks.length (by omega) w2
      have hb3 := bnew w2 (.cells (bools (List.replicate p.blocks.length false)) 4)
      have hv3 := heap_alloc_new w2 (.cells (bools (List.replicate p.blocks.length false)) 4)
      have hS3 : (w2.alloc (.cells (bools (List.replicate p.blocks.length false)) 4)).cell? ⟨w.heap.size, 2, none⟩ = some (.slice BA p.blocks.length bc) := (hb3.cell (p := ⟨w.heap.size, 2, none⟩) (Nat.lt_of_lt_of_le (lt_of_blk HX0.out) hb2.size)).trans hS2
      have hw01 := HB1.out.size
      have hro : RoAt w2 w1.heap.size w.heap.size [] (.slice AA2 p.blocks.length cc) p.blocks ovs := ⟨hol, how, fun i ov b h1 h2 => ⟨(hos i ov b h1 h2).below hb2 hw01, OpFar.nil_ _ _⟩⟩
      have hro3 := hro.below (Nat.le_trans hw01 hb2.size) hb3
      have hbel := ((bdr (Below.refl _ w1)).trans hb2).trans (hb3.mono hb2.size)
      refine wpAnyL_one (i := 6) (by kernel_rfl) rfl ?_
      intro K hK
      rw [if_pos (by rfl)]
      go_simp
      refine hK.out _ _ (fun _ => hS3) ?_
      clear hK hmk
      try simp only [Act.put, List.setIfInBounds_toArray, List.set_cons_zero, List.set_cons_succ]
      obtain ⟨G, rfl, hA⟩ := TdA.made (w := w) (V := w2.heap.size) HP0.out HB1.out.size hbel hro3 hb2.size hv3
      rw [World.size_alloc] at hA
      refine wpAnyL_one (i := 7) (by kernel_rfl) rfl ?_
      intro K hK
      rw [if_pos (by rfl)]
      go_simp
      refine hK.out _ _ (fun _ => hS3) ?_
      clear hK
      try simp only [Act.put, List.setIfInBounds_toArray, List.set_cons_zero, List.set_cons_succ]
      refine wpAnyL_one (i := 8) (by kernel_rfl) rfl ?_
      intro K hK
      rw [if_pos (by rfl)]
      go_simp
      refine hK.out _ _ (fun _ => (bnew _ _ |>.cell (p := ⟨w.heap.size, 2, none⟩) (Nat.lt_of_lt_of_le (lt_of_blk HX0.out) (Below.size hbel))).trans hS3) ?_
      clear hK
      try simp only [Act.put, List.setIfInBounds_toArray, List.set_cons_zero, List.set_cons_succ]
      refine wpAnyL_one (i := 9) (by kernel_rfl) rfl ?_
      intro K hK
      rw [if_pos (by rfl)]
      go_simp
      refine hK.out _ _ (fun _ => (bnew _ _ |>.cell (p := ⟨w.heap.size, 2, none⟩) (Nat.lt_of_lt_of_le (lt_of_blk HX0.out) (Below.size hbel))).trans hS3) ?_
      clear hK
      try simp only [Act.put, List.setIfInBounds_toArray, List.set_cons_zero, List.set_cons_succ]
      refine wpAnyL_done (by kernel_rfl) ?_ _
      exact ⟨rfl, _, G, _, _, ovs, rfl, hA⟩
    · intro K hK
      have hmk := run_make_bools p.blocks.length (by omega) w1.drew
      have hb3 : Below w1.drew.heap.size w1.drew (w1.alloc (.cells (bools (List.replicate p.blocks.length false)) 4)).drew := bnew w1.drew (.cells (bools (List.replicate p.blocks.length false)) 4)
      have hv3 : (w1.alloc (.cells (bools (List.replicate p.blocks.length false)) 4)).drew.heap[w1.heap.size]? = some (.cells (bools (List.replicate p.blocks.length false)) 4 (0, 0)) := heap_alloc_new w1.drew (.cells (bools (List.replicate p.blocks.length false)) 4)
      have hS3 : (w1.alloc (.cells (bools (List.replicate p.blocks.length false)) 4)).drew.cell? ⟨w.heap.size, 2, none⟩ = some (.slice BA p.blocks.length bc) := (hb3.cell (p := ⟨w.heap.size, 2, none⟩) (lt_of_blk HX0.out)).trans hS0
      rw [if_pos (by rfl)]
      go_simp
      refine hK.out _ _ (fun _ => hS3) ?_
      clear hK hmk
      try simp only [Act.put, List.setIfInBounds_toArray, List.set_cons_zero, List.set_cons_succ]
      have hw01 := HB1.out.size
      have hsr3 := HRB1.out.below hb3 hw01
      generalize (w1.alloc (.cells (bools (List.replicate p.blocks.length false)) 4)).drew = wb at *
      obtain ⟨ovs, AA2, cc, w2, hrun, hb2, how, hol, hos⟩ := run_app_blks wb BA bc w.heap.size p.blocks hsr3 HP0.out hn2
      have HRUN := Lib.hid hrun
      clear hrun
      have hS2 : w2.cell? ⟨w.heap.size, 2, none⟩ = some (.slice BA p.blocks.length bc) := (hb2.cell (p := ⟨w.heap.size, 2, none⟩) (Nat.lt_of_lt_of_le (lt_of_blk HX0.out) hb3.size)).trans hS3
      have hb3s : w1.heap.size ≤ wb.heap.size := hb3.size
      have hro3 : RoAt w2 w1.heap.size w.heap.size [] (.slice AA2 p.blocks.length cc) p.blocks ovs := ⟨hol, own_more how hb3s, fun i ov b h1 h2 => ⟨(hos i ov b h1 h2).below hb2 (Nat.le_trans hw01 hb3s), OpFar.nil_ _ _⟩⟩
      have hv4 := (hb2.block _ (lt_of_blk hv3)).trans hv3
      have hbel : Below w1.heap.size w1 w2 := ((bdr (Below.refl _ w1)).trans hb3).trans (hb2.mono hb3s)
      refine wpAnyL_one (i := 2) (by kernel_rfl) rfl ?_
      intro K hK
      refine step_app rfl (.const (.slice none 0 0)) (.tmp 21) 23 (by rfl) HRUN.out (by rfl) (by rfl) ?_
      refine hK.out _ _ (fun _ => hS2) ?_
      clear hK
      try simp only [Act.put, List.setIfInBounds_toArray]
      obtain ⟨G, rfl, hA⟩ := TdA.made (w := w) (V := w1.heap.size) HP0.out HB1.out.size hbel hro3 (Nat.le_refl _) hv4
      refine wpAnyL_one (i := 7) (by kernel_rfl) rfl ?_
      intro K hK
      rw [if_pos (by rfl)]
      go_simp
      refine hK.out _ _ (fun _ => hS2) ?_
      clear hK
      try simp only [Act.put, List.setIfInBounds_toArray, List.set_cons_zero, List.set_cons_succ]
      refine wpAnyL_one (i := 8) (by kernel_rfl) rfl ?_
      intro K hK
      rw [if_pos (by rfl)]
      go_simp
      refine hK.out _ _ (fun _ => (bnew _ _ |>.cell (p := ⟨w.heap.size, 2, none⟩) (Nat.lt_of_lt_of_le (lt_of_blk HX0.out) (Below.size hbel))).trans hS2) ?_
      clear hK
      try simp only [Act.put, List.setIfInBounds_toArray, List.set_cons_zero, List.set_cons_succ]
      refine wpAnyL_one (i := 9) (by kernel_rfl) rfl ?_
      intro K hK
      rw [if_pos (by rfl)]
      go_simp
      refine hK.out _ _ (fun _ => (bnew _ _ |>.cell (p := ⟨w.heap.size, 2, none⟩) (Nat.lt_of_lt_of_le (lt_of_blk HX0.out) (Below.size hbel))).trans hS2) ?_
      clear hK
      try simp only [Act.put, List.setIfInBounds_toArray, List.set_cons_zero, List.set_cons_succ]
      refine wpAnyL_done (by kernel_rfl) ?_ _
      exact ⟨rfl, _, G, _, _, ovs, rfl, hA⟩
  case contA =>
    rintro e a W ⟨rfl, T, G, V, cap, ovs, rfl, hA⟩
    obtain ⟨c0, c1, c2, c3, c4, f2⟩ := ir_cells_at ((hA.bel.block _ (lt_of_blk HX0.out)).trans HX0.out)
    have HA := Lib.hid hA
    clear hA
    go_wp2_with fail
    clear c0 c1 c2 c3 c4 f2
    go_loopw [32] (fun vi wr => ∃ (k : Nat) (ovs : List Value), k ≤ p.blocks.length ∧ vi = .int .i64 k ∧ TdA p w1 T G V cap ovs wr) (fun vi _ => p.blocks.length - (intOf vi).toNat)
    case atStart => exact ⟨0, ovs, Nat.zero_le _, rfl, HA.out⟩
    case round =>
      obtain ⟨k, ov, hk, rfl, ha⟩ := hrel
      have HAr := Lib.hid ha
      clear ha
      by_cases hlt : k < p.blocks.length
      · obtain ⟨b, off, rfl, hb0, OA, oc, hops, hoc, x0, x1, x2, x3, x4⟩ := blk_at HRB.out k hlt
        have hbw := HB1.out.trans (HAr.out.bel.mono HB1.out.size)
        have hcw : ∀ o, wr.cell? ⟨b, o, none⟩ = w.cell? ⟨b, o, none⟩ := fun o => hbw.cell (p := ⟨b, o, none⟩) hb0
        rw [← hcw] at x0 x1 x2 x3 x4
        have hops1 := HOPS.out k hlt
        obtain ⟨bk, hbk⟩ : ∃ bk, p.blocks.getD k blkNone = bk := ⟨_, rfl⟩
        rw [hbk] at hops hoc x0 x1 x2 x3 x4 hops1
        have HBK := Lib.hid hbk
        obtain ⟨ops, trm⟩ := bk
        obtain ⟨tk, ta, ty, tn⟩ := trm
        simp only at hops hoc x0 x1 x2 x3 x4 hops1
        have k0 : (0 : Int) ≤ (k : Int) := by omega
        have k1 : (k : Int) < (p.blocks.length : Int) := by omega
        have hbA := bnew wr (.cells #[.slice OA ops.length oc, .int .i64 tk, .int .i64 ta, .int .i64 ty, .int .i64 tn] 40)
        have HXA := Lib.hid (heap_alloc_new wr (.cells #[.slice OA ops.length oc, .int .i64 tk, .int .i64 ta, .int .i64 ty, .int .i64 tn] 40))
        have hopA := (hops.below hbw (Nat.le_refl _)).keep (B' := (wr.alloc (.cells #[.slice OA ops.length oc, .int .i64 tk, .int .i64 ta, .int .i64 ty, .int .i64 tn] 40)).heap.size) (w' := wr.alloc (.cells #[.slice OA ops.length oc, .int .i64 tk, .int .i64 ta, .int .i64 ty, .int .i64 tn] 40)) (by have := hbw.size; have := hbA.size; omega) (fun q hq => hbA.cell (Nat.lt_of_lt_of_le hq hbw.size))
        have htA := HAr.out.tm.below hbA
        have HBA := Lib.hid hbA
        generalize hwa : wr.alloc (.cells #[.slice OA ops.length oc, .int .i64 tk, .int .i64 ta, .int .i64 ty, .int .i64 tn] 40) = wa at *
        obtain ⟨AA1, cc1, w5, hrun, how, hb5⟩ := htA.app1 k hlt (by rw [hbk]; exact hops1) (by rw [hbk]; exact hopA)
        rw [hbk] at hrun how
        simp only at hrun how
        have HRUN := Lib.hid hrun
        have HOW := Lib.hid how
        have HB5 := Lib.hid hb5
        have HTA := Lib.hid htA
        have y0 := (cell_of_blk HXA.out 0).1
        subst hwa
        clear hrun how hb5 htA hopA hops hbw hcw hbk hbA hops1 hoc
        go_upto_region 9 with (at_builtin; refine wpList_app rfl (.const (.slice none 0 0)) (.tmp 38) 36 rfl HRUN.out rfl rfl ?_)
        clear x0 x1 x2 x3 x4 y0
        have hb5d := bch HBA.out (bdr HB5.out)
        have hbox := HAr.out.box.below hb5d
        have hX5 := ((bdr HB5.out).block _ (lt_of_blk HXA.out)).trans HXA.out
        have hS0 : w5.drew.cell? ⟨T, 0, none⟩ = some (.slice (some ⟨G, 0, none⟩) p.blocks.length cap) ∧ w5.drew.cell? ⟨wr.heap.size, 1, none⟩ = some (.int .i64 tk) ∧ w5.drew.cell? ⟨wr.heap.size, 2, none⟩ = some (.int .i64 ta) ∧ w5.drew.cell? ⟨wr.heap.size, 3, none⟩ = some (.int .i64 ty) ∧ w5.drew.cell? ⟨wr.heap.size, 4, none⟩ = some (.int .i64 tn) := ⟨hbox.cells.1, (cell_of_blk hX5 1).1, (cell_of_blk hX5 2).1, (cell_of_blk hX5 3).1, (cell_of_blk hX5 4).1⟩
        have HT5 := Lib.hid (HTA.out.below (bdr HB5.out))
        have HB5d := Lib.hid (HAr.out.bel.trans (hb5d.mono HAr.out.bel.size))
        have HBX := Lib.hid hbox
        have HOWd := Lib.hid HOW.out.drew
        have HOWl := Lib.hid HOW.out.lt
        obtain ⟨OM, ocm, _, _, u0, u1, u2, u3, u4, uf⟩ := HT5.out.cells k hlt
        have f0 := uf (k * 5)
        have f1 := uf (k * 5 + 1)
        have f2 := uf (k * 5 + 2)
        have f3 := uf (k * 5 + 3)
        have f4 := uf (k * 5 + 4)
        clear hb5d hbox hX5 uf
        refine wp_region_L (fun w' => w'.cell? ⟨T, 0, none⟩ = some (.slice (some ⟨G, 0, none⟩) p.blocks.length cap) ∧ w'.cell? ⟨wr.heap.size, 1, none⟩ = some (.int .i64 tk) ∧ w'.cell? ⟨wr.heap.size, 2, none⟩ = some (.int .i64 ta) ∧ w'.cell? ⟨wr.heap.size, 3, none⟩ = some (.int .i64 ty) ∧ w'.cell? ⟨wr.heap.size, 4, none⟩ = some (.int .i64 tn)) 10 (by kernel_rfl) ?_
        generalize w5.drew = wd at *
        refine wpAnyL_take (i := 0) (some 40) (.pointer (some ⟨T, 0, none⟩)) rfl rfl (by kernel_rfl) (by kernel_rfl) (by kernel_rfl) (by kernel_rfl) (fun _ _ _ h => h) (by rfl) ?hx0 hS0 ?rx0
        case hx0 =>
          intro wz hSz
          obtain ⟨z0, z1, z2, z3, z4⟩ := hSz
          go_simp
        try simp only [Act.put, List.setIfInBounds_toArray, List.set_cons_zero, List.set_cons_succ]
        refine wpAnyL_take (i := 1) (some 41) (.pointer (some ⟨T, 0, none⟩)) rfl rfl (by kernel_rfl) (by kernel_rfl) (by kernel_rfl) (by kernel_rfl) (fun _ _ _ h => h) (by rfl) ?hx1 hS0 ?rx1
        case hx1 =>
          intro wz hSz
          obtain ⟨z0, z1, z2, z3, z4⟩ := hSz
          go_simp
        try simp only [Act.put, List.setIfInBounds_toArray, List.set_cons_zero, List.set_cons_succ]
        refine wpAnyL_take (i := 2) (some 42) (.pointer (some ⟨T, 0, none⟩)) rfl rfl (by kernel_rfl) (by kernel_rfl) (by kernel_rfl) (by kernel_rfl) (fun _ _ _ h => h) (by rfl) ?hx2 hS0 ?rx2
        case hx2 =>
          intro wz hSz
          obtain ⟨z0, z1, z2, z3, z4⟩ := hSz
          go_simp
        try simp only [Act.put, List.setIfInBounds_toArray, List.set_cons_zero, List.set_cons_succ]
        refine wpAnyL_take (i := 3) (some 43) (.slice (some ⟨G, 0, none⟩) p.blocks.length cap) rfl rfl (by kernel_rfl) (by kernel_rfl) (by kernel_rfl) (by kernel_rfl) (fun _ _ _ h => h) (by rfl) ?hx3 hS0 ?rx3
        case hx3 =>
          intro wz hSz
          obtain ⟨z0, z1, z2, z3, z4⟩ := hSz
          go_simp
        try simp only [Act.put, List.setIfInBounds_toArray, List.set_cons_zero, List.set_cons_succ]
        refine wpAnyL_take (i := 4) (some 44) (.int .i64 k) rfl rfl (by kernel_rfl) (by kernel_rfl) (by kernel_rfl) (by kernel_rfl) (fun _ _ _ h => h) (by rfl) ?hx4 hS0 ?rx4
        case hx4 =>
          intro wz hSz
          obtain ⟨z0, z1, z2, z3, z4⟩ := hSz
          go_simp
        try simp only [Act.put, List.setIfInBounds_toArray, List.set_cons_zero, List.set_cons_succ]
        refine wpAnyL_take (i := 5) (some 45) (.slice AA1 ops.length cc1) rfl rfl (by kernel_rfl) (by kernel_rfl) (by kernel_rfl) (by kernel_rfl) (fun _ _ _ h => h) (by rfl) ?hx5 hS0 ?rx5
        case hx5 =>
          intro wz hSz
          obtain ⟨z0, z1, z2, z3, z4⟩ := hSz
          go_simp
        try simp only [Act.put, List.setIfInBounds_toArray, List.set_cons_zero, List.set_cons_succ]
        refine wpAnyL_take (i := 6) (some 46) (.pointer (some ⟨wr.heap.size, 1, none⟩)) rfl rfl (by kernel_rfl) (by kernel_rfl) (by kernel_rfl) (by kernel_rfl) (fun _ _ _ h => h) (by rfl) ?hx6 hS0 ?rx6
        case hx6 =>
          intro wz hSz
          obtain ⟨z0, z1, z2, z3, z4⟩ := hSz
          go_simp
        try simp only [Act.put, List.setIfInBounds_toArray, List.set_cons_zero, List.set_cons_succ]
        refine wpAnyL_take (i := 7) (some 47) (.agg #[.int .i64 tk, .int .i64 ta, .int .i64 ty, .int .i64 tn]) rfl rfl (by kernel_rfl) (by kernel_rfl) (by kernel_rfl) (by kernel_rfl) (fun _ _ _ h => h) (by rfl) ?hx7 hS0 ?rx7
        case hx7 =>
          intro wz hSz
          obtain ⟨z0, z1, z2, z3, z4⟩ := hSz
          go_simp
        try simp only [Act.put, List.setIfInBounds_toArray, List.set_cons_zero, List.set_cons_succ]
        refine wpAnyL_take (i := 8) (some 48) (.agg #[.slice AA1 ops.length cc1, .int .i64 tk, .int .i64 ta, .int .i64 ty, .int .i64 tn]) rfl rfl (by kernel_rfl) (by kernel_rfl) (by kernel_rfl) (by kernel_rfl) (fun _ _ _ h => h) (by rfl) ?hx8 hS0 ?rx8
        case hx8 =>
          intro wz hSz
          obtain ⟨z0, z1, z2, z3, z4⟩ := hSz
          go_simp
        try simp only [Act.put, List.setIfInBounds_toArray, List.set_cons_zero, List.set_cons_succ]
        refine wpAnyL_one (i := 9) (by kernel_rfl) rfl ?_
        intro K hK
        rw [if_pos (by rfl)]
        go_simp
        refine hK.out _ _ (fun _ => hS0) ?_
        clear hK
        try simp only [Act.put, List.setIfInBounds_toArray, List.set_cons_zero, List.set_cons_succ]
        refine wpAnyL_one (i := 10) (by kernel_rfl) rfl ?_
        intro K hK
        rw [if_pos (by rfl)]
        go_simp
        refine hK.out _ _ (fun h => absurd rfl h) ?_
        clear hK
        refine wpAnyL_done (by kernel_rfl) ?_ _
        have hlo := HOWl.out
        have hgv := HAr.out.tm.gv
        obtain ⟨w6, hw6, ht6, hb6, hs6, hk6⟩ := HT5.out.put HAr.out.ne.1 hlt ⟨ops, ⟨tk, ta, ty, tn⟩⟩ (slRep_ops (Nat.le_refl _) HOWd.out) (fun a m cc e9 _ hm9 => by
          have h9 := (hlo a.block (by rw [e9]; rfl)).1
          have h10 := HBA.out.size
          rcases List.mem_cons.1 hm9 with h11 | h11
          · omega
          · have h12 := List.mem_singleton.1 h11; omega)
        have hset : p.blocks.set k ⟨ops, ⟨tk, ta, ty, tn⟩⟩ = p.blocks := by
          rw [← HBK.out]
          refine List.ext_getElem (by rw [List.length_set]) (fun i h1 h2 => ?_)
          rw [List.getElem_set]
          split
          · rename_i e; subst e; rw [List.getD_eq_getElem?_getD, List.getElem?_eq_getElem h2]; rfl
          · rfl
        rw [hset] at ht6
        have HEND : Hid (∃ ov, TdA p w1 T G V cap ov w6) := Lib.hid ⟨_, hk6 _ _ HAr.out.ne.2.1 HBX.out, ht6, hb6 HAr.out.le.1 HB5d.out, HAr.out.le, HAr.out.ne⟩
        simp only at hw6
        clear hlo hgv ht6 hb6 hs6 hk6 hset u0 u1 u2 u3 u4 f0 f1 f2 f3 f4 hS0
        rw [hw6]
        clear hw6
        go_wp2_with fail
        go_roundw
        case rel => exact HEND.out.elim fun ov h => ⟨k + 1, ov, by omega, by go_num, h⟩
        case measure => simp [intOf]; omega
      · obtain rfl : k = p.blocks.length := by omega
        have b0 := HAr.out.box.cells.1
        obtain ⟨cur, hmk, htr⟩ := run_make_trms p.blocks.length (by omega) (fun i => tdNam (tdLeads p.blocks) (p.blocks.getD i blkNone).term) wr
        have HTR := Lib.hid htr
        have hbm := bnew wr (.cells cur 38)
        have HBM := Lib.hid hbm
        have b1 := (HAr.out.box.below hbm).cells.1
        clear htr hbm
        go_wp2_with fail
        generalize hwm : wr.alloc (.cells cur 38) = wm at *
        clear hmk b0 b1 hwm
        generalize wr = wL at *
        go_loopw [62] (fun vi wo => ∃ k : Nat, k ≤ p.blocks.length ∧ vi = .int .i64 k ∧ TrmAt wo wL.heap.size p.blocks.length (fun i => tdNam (tdLeads p.blocks) (p.blocks.getD i blkNone).term) k ∧ Below wL.heap.size wL wo) (fun vi _ => p.blocks.length - (intOf vi).toNat)
        case atStart => exact ⟨0, Nat.zero_le _, rfl, HTR.out, HBM.out⟩
        case round =>
          obtain ⟨k, hk, rfl, htr, hbo⟩ := hrel
          have HTr := Lib.hid htr
          have HBo := Lib.hid hbo
          have HAk := Lib.hid (HAr.out.below hbo)
          clear htr hbo
          by_cases hlt : k < p.blocks.length
          · obtain ⟨OA, oc, _, hops, y0, y1, y2, y3, y4, _⟩ := HAk.out.tm.cells k hlt
            obtain ⟨bk, hbk⟩ : ∃ bk, p.blocks.getD k blkNone = bk := ⟨_, rfl⟩
            have hok := HOKB.out _ (getD_memI p.blocks k blkNone hlt)
            rw [hbk] at y0 y1 y2 y3 y4 hops hok
            have HFK : Hid (tdNam (tdLeads p.blocks) (p.blocks.getD k blkNone).term = tdNam (tdLeads p.blocks) bk.term) := Lib.hid (by rw [hbk])
            have HPUT := Lib.hid (fun W (h : TrmAt W wL.heap.size p.blocks.length (fun i => tdNam (tdLeads p.blocks) (p.blocks.getD i blkNone).term) k) => h.put hlt)
            simp only [HFK.out] at HPUT
            have hcall := fun W (hb : Below wr.heap.size wr W) => tidy_named_leads p.blocks HOKB.out hn2 T G V cap [G, V] _ ov bk.term hok W (HAk.out.box.below hb) (HAk.out.tm.below hb)
            obtain ⟨ops, trm⟩ := bk
            simp only at y0 y1 y2 y3 y4 hops hcall HPUT
            generalize tdNam (tdLeads p.blocks) trm = t2 at *
            obtain ⟨tk, ta, ty, tn⟩ := trm
            obtain ⟨uk, ua, uy, un⟩ := t2
            unfold trmVal at hcall
            simp only at y0 y1 y2 y3 y4 hcall HPUT
            have HC := Lib.hid hcall
            have k0 : (0 : Int) ≤ (k : Int) := by omega
            have k1 : (k : Int) < (p.blocks.length : Int) := by omega
            have HXA := Lib.hid (heap_alloc_new wr (.cells #[.slice OA ops.length oc, .int .i64 tk, .int .i64 ta, .int .i64 ty, .int .i64 tn] 40))
            have HBA := Lib.hid (bnew wr (.cells #[.slice OA ops.length oc, .int .i64 tk, .int .i64 ta, .int .i64 ty, .int .i64 tn] 40))
            clear hcall hok hbk hops HFK
            go_upto_region 15 with (fail)
            clear y0 y1 y2 y3 y4
            generalize wr.alloc (.cells #[.slice OA ops.length oc, .int .i64 tk, .int .i64 ta, .int .i64 ty, .int .i64 tn] 40) = wa at *
            obtain ⟨c0, f0⟩ := cell_of_blk HXA.out 0
            obtain ⟨c1, f1⟩ := cell_of_blk HXA.out 1
            obtain ⟨c2, f2⟩ := cell_of_blk HXA.out 2
            obtain ⟨c3, f3⟩ := cell_of_blk HXA.out 3
            obtain ⟨c4, f4⟩ := cell_of_blk HXA.out 4
            go_wp2_with fail
            refine (HC.out wa HBA.out).mono ?_
            rintro e w4 ⟨rfl, hb4⟩
            have HB4 := Lib.hid (bch HBA.out hb4)
            have ht4 := HTr.out.below HB4.out
            obtain ⟨⟨v0, l0⟩, g0⟩ := ht4.live k 0 hlt (by omega)
            obtain ⟨⟨v1, l1⟩, g1⟩ := ht4.live k 1 hlt (by omega)
            obtain ⟨⟨v2, l2⟩, g2⟩ := ht4.live k 2 hlt (by omega)
            obtain ⟨⟨v3, l3⟩, g3⟩ := ht4.live k 3 hlt (by omega)
            rw [Nat.add_zero] at l0 g0
            have HP4 := Lib.hid (HPUT.out w4 ht4)
            have HBN := Lib.hid (((((HBo.out.trans (HB4.out.mono HBo.out.size)).setCell (p := ⟨wL.heap.size, k * 4, none⟩) (Nat.le_refl _) (.int .i64 uk)).setCell (p := ⟨wL.heap.size, k * 4 + 1, none⟩) (Nat.le_refl _) (.int .i64 ua)).setCell (p := ⟨wL.heap.size, k * 4 + 2, none⟩) (Nat.le_refl _) (.int .i64 uy)).setCell (p := ⟨wL.heap.size, k * 4 + 3, none⟩) (Nat.le_refl _) (.int .i64 un))
            clear hb4 ht4 c0 c1 c2 c3 c4 f0 f1 f2 f3 f4
            go_wp2_with fail
            go_roundw
            case rel => exact ⟨k + 1, by omega, by go_num, HP4.out, HBN.out⟩
            case measure => simp [intOf]; omega
          · obtain rfl : k = p.blocks.length := by omega
            have HQ : Hid (wL.heap.size ≠ G ∧ w1.heap.size ≤ wL.heap.size) := Lib.hid (by have := HAr.out.tm.gv; have := HAr.out.bel.size; omega)
            generalize hff : (fun i => tdNam (tdLeads p.blocks) (p.blocks.getD i blkNone).term) = f at HTr
            have HF : Hid (∀ i, i < p.blocks.length → (tdStr p.blocks).getD i blkNone = ⟨(p.blocks.getD i blkNone).ops, f i⟩) := Lib.hid (fun i hi => by rw [← hff]; exact tdStr_at p.blocks i hi)
            clear hff
            go_wp2_with fail
            generalize wr = wM at *
            go_loopw [78] (fun vi wo => ∃ (k : Nat) (l' : List Blk) (ov' : List Value), k ≤ p.blocks.length ∧ vi = .int .i64 k ∧ l'.length = p.blocks.length ∧ (∀ i, i < p.blocks.length → l'.getD i blkNone = if i < k then ⟨(p.blocks.getD i blkNone).ops, f i⟩ else p.blocks.getD i blkNone) ∧ TiBox wo T G V cap p.blocks.length ∧ TmAt wo G V [G, V] l' (List.replicate p.blocks.length false) ov' ∧ TrmAt wo wL.heap.size p.blocks.length f p.blocks.length ∧ Below w1.heap.size w1 wo) (fun vi _ => p.blocks.length - (intOf vi).toNat)
            case atStart => exact ⟨0, p.blocks, ov, Nat.zero_le _, rfl, rfl, fun i hi => by rw [if_neg (Nat.not_lt_zero i)], HAk.out.box, HAk.out.tm, HTr.out, HAk.out.bel⟩
            case round =>
              obtain ⟨k, l', ov', hk, rfl, hll, hl, hbx, htm, htr, hbl⟩ := hrel
              have HLL := Lib.hid hll
              have HL := Lib.hid hl
              have HBX := Lib.hid hbx
              have HTM := Lib.hid htm
              have HTR := Lib.hid htr
              have HBE := Lib.hid hbl
              clear hll hl hbx htm htr hbl
              by_cases hlt : k < p.blocks.length
              · obtain ⟨x0, x1, x2, x3⟩ := HTR.out.cell k hlt
                obtain ⟨tr, htr⟩ : ∃ tr, f k = tr := ⟨_, rfl⟩
                rw [htr] at x0 x1 x2 x3
                have HTK := Lib.hid htr
                obtain ⟨tk, ta, ty, tn⟩ := tr
                simp only at x0 x1 x2 x3
                have k0 : (0 : Int) ≤ (k : Int) := by omega
                have k1 : (k : Int) < (p.blocks.length : Int) := by omega
                have HXA := Lib.hid (heap_alloc_new wr (.cells #[.int .i64 tk, .int .i64 ta, .int .i64 ty, .int .i64 tn] 38))
                have HBA := Lib.hid (bnew wr (.cells #[.int .i64 tk, .int .i64 ta, .int .i64 ty, .int .i64 tn] 38))
                clear htr
                go_upto_region 20 with (fail)
                clear x0 x1 x2 x3
                generalize wr.alloc (.cells #[.int .i64 tk, .int .i64 ta, .int .i64 ty, .int .i64 tn] 38) = wa at *
                have hbd := bdr HBA.out
                have HBX5 := Lib.hid (HBX.out.below hbd)
                have hX5 := ((bdr (Below.refl _ wa)).block _ (lt_of_blk HXA.out)).trans HXA.out
                have hS0 : wa.drew.cell? ⟨T, 0, none⟩ = some (.slice (some ⟨G, 0, none⟩) p.blocks.length cap) ∧ wa.drew.cell? ⟨wr.heap.size, 0, none⟩ = some (.int .i64 tk) ∧ wa.drew.cell? ⟨wr.heap.size, 1, none⟩ = some (.int .i64 ta) ∧ wa.drew.cell? ⟨wr.heap.size, 2, none⟩ = some (.int .i64 ty) ∧ wa.drew.cell? ⟨wr.heap.size, 3, none⟩ = some (.int .i64 tn) := ⟨HBX5.out.cells.1, (cell_of_blk hX5 0).1, (cell_of_blk hX5 1).1, (cell_of_blk hX5 2).1, (cell_of_blk hX5 3).1⟩
                have HT5 := Lib.hid (HTM.out.below hbd)
                have HB5d := Lib.hid (HBE.out.trans (hbd.mono HBE.out.size))
                have HR5 := Lib.hid (HTR.out.below hbd)
                obtain ⟨OM, ocm, _, _, u0, u1, u2, u3, u4, uf⟩ := HT5.out.cells k (by rw [HLL.out]; exact hlt)
                have f0 := uf (k * 5)
                have f1 := uf (k * 5 + 1)
                have f2 := uf (k * 5 + 2)
                have f3 := uf (k * 5 + 3)
                have f4 := uf (k * 5 + 4)
                clear hbd hX5 uf
                refine wp_region_L (fun w' => w'.cell? ⟨T, 0, none⟩ = some (.slice (some ⟨G, 0, none⟩) p.blocks.length cap) ∧ w'.cell? ⟨wr.heap.size, 0, none⟩ = some (.int .i64 tk) ∧ w'.cell? ⟨wr.heap.size, 1, none⟩ = some (.int .i64 ta) ∧ w'.cell? ⟨wr.heap.size, 2, none⟩ = some (.int .i64 ty) ∧ w'.cell? ⟨wr.heap.size, 3, none⟩ = some (.int .i64 tn)) 8 (by kernel_rfl) ?_
                generalize wa.drew = wd at *
                refine wpAnyL_take (i := 0) (some 83) (.pointer (some ⟨T, 0, none⟩)) rfl rfl (by kernel_rfl) (by kernel_rfl) (by kernel_rfl) (by kernel_rfl) (fun _ _ _ h => h) (by rfl) ?ha0 hS0 ?ra0
                case ha0 =>
                  intro wz hSz
                  obtain ⟨z0, z1, z2, z3, z4⟩ := hSz
                  go_simp
                try simp only [Act.put, List.setIfInBounds_toArray, List.set_cons_zero, List.set_cons_succ]
                refine wpAnyL_take (i := 1) (some 84) (.pointer (some ⟨T, 0, none⟩)) rfl rfl (by kernel_rfl) (by kernel_rfl) (by kernel_rfl) (by kernel_rfl) (fun _ _ _ h => h) (by rfl) ?ha1 hS0 ?ra1
                case ha1 =>
                  intro wz hSz
                  obtain ⟨z0, z1, z2, z3, z4⟩ := hSz
                  go_simp
                try simp only [Act.put, List.setIfInBounds_toArray, List.set_cons_zero, List.set_cons_succ]
                refine wpAnyL_take (i := 2) (some 85) (.pointer (some ⟨T, 0, none⟩)) rfl rfl (by kernel_rfl) (by kernel_rfl) (by kernel_rfl) (by kernel_rfl) (fun _ _ _ h => h) (by rfl) ?ha2 hS0 ?ra2
                case ha2 =>
                  intro wz hSz
                  obtain ⟨z0, z1, z2, z3, z4⟩ := hSz
                  go_simp
                try simp only [Act.put, List.setIfInBounds_toArray, List.set_cons_zero, List.set_cons_succ]
                refine wpAnyL_take (i := 3) (some 86) (.slice (some ⟨G, 0, none⟩) p.blocks.length cap) rfl rfl (by kernel_rfl) (by kernel_rfl) (by kernel_rfl) (by kernel_rfl) (fun _ _ _ h => h) (by rfl) ?ha3 hS0 ?ra3
                case ha3 =>
                  intro wz hSz
                  obtain ⟨z0, z1, z2, z3, z4⟩ := hSz
                  go_simp
                try simp only [Act.put, List.setIfInBounds_toArray, List.set_cons_zero, List.set_cons_succ]
                refine wpAnyL_take (i := 4) (some 87) (.int .i64 k) rfl rfl (by kernel_rfl) (by kernel_rfl) (by kernel_rfl) (by kernel_rfl) (fun _ _ _ h => h) (by rfl) ?ha4 hS0 ?ra4
                case ha4 =>
                  intro wz hSz
                  obtain ⟨z0, z1, z2, z3, z4⟩ := hSz
                  go_simp
                try simp only [Act.put, List.setIfInBounds_toArray, List.set_cons_zero, List.set_cons_succ]
                refine wpAnyL_take (i := 5) (some 88) (.agg #[.int .i64 tk, .int .i64 ta, .int .i64 ty, .int .i64 tn]) rfl rfl (by kernel_rfl) (by kernel_rfl) (by kernel_rfl) (by kernel_rfl) (fun _ _ _ h => h) (by rfl) ?ha5 hS0 ?ra5
                case ha5 =>
                  intro wz hSz
                  obtain ⟨z0, z1, z2, z3, z4⟩ := hSz
                  go_simp
                try simp only [Act.put, List.setIfInBounds_toArray, List.set_cons_zero, List.set_cons_succ]
                refine wpAnyL_one (i := 6) (by kernel_rfl) rfl ?_
                intro K hK
                rw [if_pos (by rfl)]
                go_simp
                refine hK.out _ _ (fun _ => hS0) ?_
                clear hK
                try simp only [Act.put, List.setIfInBounds_toArray, List.set_cons_zero, List.set_cons_succ]
                refine wpAnyL_one (i := 7) (by kernel_rfl) rfl ?_
                intro K hK
                rw [if_pos (by rfl)]
                go_simp
                refine hK.out _ _ (fun _ => hS0) ?_
                clear hK
                try simp only [Act.put, List.setIfInBounds_toArray, List.set_cons_zero, List.set_cons_succ]
                refine wpAnyL_one (i := 8) (by kernel_rfl) rfl ?_
                intro K hK
                rw [if_pos (by rfl)]
                go_simp
                refine hK.out _ _ (fun h => absurd rfl h) ?_
                clear hK
                refine wpAnyL_done (by kernel_rfl) ?_ _
                obtain ⟨w6, hw6, ⟨ov6, ht6⟩, hb6, hs6, hk6⟩ := HT5.out.putT HAr.out.ne.1 (k := k) (by rw [HLL.out]; exact hlt) ⟨tk, ta, ty, tn⟩
                have HEND : Hid (∃ (l2 : List Blk) (ov2 : List Value), l2.length = p.blocks.length ∧ (∀ i, i < p.blocks.length → l2.getD i blkNone = if i < k + 1 then ⟨(p.blocks.getD i blkNone).ops, f i⟩ else p.blocks.getD i blkNone) ∧ TiBox w6 T G V cap p.blocks.length ∧ TmAt w6 G V [G, V] l2 (List.replicate p.blocks.length false) ov2 ∧ TrmAt w6 wL.heap.size p.blocks.length f p.blocks.length ∧ Below w1.heap.size w1 w6) := by
                  refine Lib.hid ⟨_, ov6, by rw [List.length_set]; exact HLL.out, fun i hi => ?_, hk6 _ _ HAr.out.ne.2.1 HBX5.out, ht6, ?_, hb6 HAr.out.le.1 HB5d.out⟩
                  · have hlen := HLL.out
                    by_cases e : i = k
                    · subst e
                      rw [if_pos (Nat.lt_succ_self i), List.getD_eq_getElem?_getD, List.getElem?_set_self (by rw [hlen]; exact hi)]
                      have h1 := HL.out i hi
                      rw [if_neg (Nat.lt_irrefl i)] at h1
                      rw [h1, HTK.out]
                      rfl
                    · rw [List.getD_eq_getElem?_getD, List.getElem?_set_ne (Ne.symm e), ← List.getD_eq_getElem?_getD, HL.out i hi]
                      by_cases e2 : i < k
                      · rw [if_pos e2, if_pos (by omega)]
                      · rw [if_neg e2, if_neg (by omega)]
                  · obtain ⟨cur, q1, q2⟩ := HR5.out
                    exact ⟨cur, hk6 _ _ HQ.out.1 q1, q2⟩
                simp only at hw6
                clear ht6 hb6 hs6 hk6 u0 u1 u2 u3 u4 f0 f1 f2 f3 f4 hS0
                rw [hw6]
                clear hw6
                go_wp2_with fail
                go_roundw
                case rel => exact HEND.out.elim fun l2 h => h.elim fun ov2 h => ⟨k + 1, l2, ov2, by omega, by go_num, h⟩
                case measure => simp [intOf]; omega
              · obtain rfl : k = p.blocks.length := by omega
                have hl0 : l' = tdStr p.blocks := by
                  refine List.ext_getElem (by rw [HLL.out, tdStr_len]) fun i h1 h2 => ?_
                  have hi : i < p.blocks.length := by rw [HLL.out] at h1; exact h1
                  have h3 := HL.out i hi
                  rw [if_pos hi, ← HF.out i hi, List.getD_eq_getElem?_getD, List.getElem?_eq_getElem h1, List.getD_eq_getElem?_getD, List.getElem?_eq_getElem h2] at h3
                  exact h3
                subst hl0
                clear HLL HL HF HQ
                have HCR : Hid (∀ W ov, Below w1.heap.size w1 W → TiBox W T G V cap p.blocks.length → TmAt W G V [G, V] (tdStr p.blocks) (List.replicate p.blocks.length false) ov → Calls Try.prog 16 #[.pointer (some ⟨T, 0, none⟩)] W fun e w' => (∃ v, e = .returned v) ∧ ReSt W w1.heap.size V w1 (tdNot s0) w') := Lib.hid (fun W ov h1 h2 h3 =>
                  tidy_reach (tdStr p.blocks) (tdStr_ok HOKB.out) (by rw [tdStr_len]; exact hn2) (by rw [tdStr_len]; exact HP0.out) T G V cap HAr.out.ne.1 HAr.out.ne.2.2 [G, V] _ (by rw [tdStr_len, List.length_replicate]) ov w1.heap.size HAr.out.le.2.1 w1 W h1 (by rw [tdStr_len]; exact h2) h3 s0 hs0)
                obtain ⟨lz, hlz⟩ : ∃ lz, (tdZ p s0).1 = lz := ⟨_, rfl⟩
                obtain ⟨sz, hsz⟩ : ∃ sz, (tdZ p s0).2 = sz := ⟨_, rfl⟩
                have HWZ : Hid (TdW (tdCnt (tdStr p.blocks) s0) p.blocks.length 1048576 lz sz) := Lib.hid (by
                  have h := tdW_all HSTW.out p.blocks.length
                  rw [← hlz, ← hsz]
                  exact h)
                have HCJ : Hid (∀ W ov, TiBox W T G V cap p.blocks.length → TmAt W G V [G, V] (tdStr p.blocks) (tdNot s0) ov → Calls Try.prog 17 #[.pointer (some ⟨T, 0, none⟩)] W fun e w' => (∃ v, e = .returned v) ∧ ∃ NB A cl, JoM W T G V cap p.blocks.length NB A [G, V] cl lz sz w') := Lib.hid (fun W ov h1 h2 => by
                  have h := tidy_join (tdStr p.blocks) s0 _ rfl (by rw [tdStr_len]; exact HSTW.out) (by rw [tdStr_len]; exact hn2) T G V cap HAr.out.ne.1 HAr.out.ne.2.1 HAr.out.ne.2.2 [G, V] ov W (fun r hr => by
                    have h9 := h2.gv
                    rcases List.mem_cons.1 hr with h11 | h11
                    · omega
                    · have h12 := List.mem_singleton.1 h11; omega) (by rw [tdStr_len]; exact h1) h2
                  rw [tdStr_len] at h
                  rw [← hlz, ← hsz]
                  exact h)
                obtain ⟨qb, hqb⟩ : ∃ qb, tdOut lz sz p.blocks.length = qb := ⟨_, rfl⟩
                have HQB : Hid (tdIr p s0 = ⟨p.temps, p.arrays, qb, p.inp, p.out⟩) := Lib.hid (by unfold tdIr; rw [hlz, hsz, hqb])
                have HCN : Hid (∀ W ov, TiBox W T G V cap p.blocks.length → TmAt W G V [G, V] lz (tdNot sz) ov → Calls Try.prog 18 #[.pointer (some ⟨T, 0, none⟩)] W fun e w' => ∃ v ovs', e = .returned v ∧ Below W.heap.size W w' ∧ RoAt w' W.heap.size W.heap.size [] v qb ovs') := Lib.hid (fun W ov h1 h2 => by
                  have h := tidy_numbered lz HWZ.out.inv.ok (by rw [HWZ.out.len]; exact hn2) T G V cap [G, V] sz HWZ.out.inv.len HWZ.out.inv.closed ov W (by rw [HWZ.out.len]; exact h1) h2
                  rw [HWZ.out.len, hqb] at h
                  exact h)
                clear hlz hsz hqb HWZ HSTW
                go_wp2_with fail
                refine (HCR.out wr ov' HBE.out HBX.out HTM.out).mono ?_
                rintro e wA ⟨⟨vA, rfl⟩, hre⟩
                have HTA := Lib.hid (HTM.out.at_ HAr.out.ne.1 hre.flag hre.oth hre.siz)
                have HXA := Lib.hid (hre.oth T _ HAr.out.ne.2.2 HBX.out)
                have HBA := Lib.hid hre.bel
                clear hre
                go_wp2_with fail
                refine (HCJ.out wA ov' HXA.out HTA.out).mono ?_
                rintro e wB ⟨⟨vB, rfl⟩, NB, AB, cl, hjo⟩
                obtain ⟨ovB, htB⟩ := hjo.tm
                have HTB := Lib.hid htB
                have HXB := Lib.hid hjo.tbx
                have HBB := Lib.hid (HBA.out.trans (hjo.bel HAr.out.le.1 HAr.out.le.2.1 HBA.out.size))
                clear hjo htB
                go_wp2_with fail
                refine (HCN.out wB ovB HXB.out HTB.out).mono ?_
                rintro e wN ⟨v, ovN, rfl, hbN, hro⟩
                obtain ⟨LA, lc, rfl⟩ := ownN_len hro.row
                have hbX := HBB.out.trans (hbN.mono HBB.out.size)
                have hz1 := HZ1.out
                have hs1 := HBB.out.size
                have hs2 := hbN.size
                have hxr := (hbX.block w.heap.size (by omega)).trans HX0.out
                have hxr1 := (hbX.block (w.heap.size + 1) (by omega)).trans HX1.out
                have hxf := blk_set hxr 2 (.slice LA qb.length lc)
                have hr5 := blk_far hxr1 ⟨w.heap.size, 2, none⟩ (.slice LA qb.length lc) (by show w.heap.size ≠ w.heap.size + 1; omega)
                have hB5 := (HB1.out.trans (hbX.mono HB1.out.size)).setCell (p := ⟨w.heap.size, 2, none⟩) (Nat.le_refl _) (.slice LA qb.length lc)
                have hnv : ∀ g, g < wB.heap.size → (Value.slice LA qb.length lc).ownBlock ≠ some g := fun g hg e => by have := (hro.row.lt g e).1; omega
                have hro5 := RoAt.setFive hro ⟨w.heap.size, 2, none⟩ (.slice LA qb.length lc) (hnv _ (by show w.heap.size < _; omega)) hxr (by simp)
                have hra5 : SlRep arrEnc (wN.setCell ⟨w.heap.size, 2, none⟩ (.slice LA qb.length lc)) w.heap.size (.slice AA p.arrays.length ac) p.arrays := HI.out.1.below hB5 (Nat.le_refl _)
                have hse : (wN.setCell ⟨w.heap.size, 2, none⟩ (.slice LA qb.length lc)).heap.size = wN.heap.size := by simp [World.setCell]
                obtain ⟨c0, c1, c2, c3, c4, f2⟩ := ir_cells_at hxr
                obtain ⟨g0, g1, g2, g3, g4, g5⟩ := ir_cells_at hxf
                have f1 := (cell_of_blk hxf 1).2
                have HXF := Lib.hid hxf
                have HR5 := Lib.hid hr5
                have HB5 := Lib.hid hB5
                have HRO5 := Lib.hid hro5
                have HRA5 := Lib.hid hra5
                have HNV := Lib.hid hnv
                have HSE := Lib.hid hse
                have HSB : Hid (w.heap.size + 1 < wB.heap.size ∧ wB.heap.size ≤ wN.heap.size) := Lib.hid (by omega)
                clear hxr hxr1 hxf hr5 hB5 hnv hro5 hra5 hbX hz1 hse hs1 hs2 hbN hro
                go_upto_region 25 with (fail)
                clear c0 c1 c2 c3 c4 f2
                generalize wN.setCell ⟨w.heap.size, 2, none⟩ (.slice LA qb.length lc) = w5 at *
                obtain ⟨NA, nc, w6, hrun, how, hb6⟩ := run_copy_arr w5 AA ac w.heap.size p.arrays HRA5.out hn1
                have HRUN := Lib.hid hrun
                have hz5 : wB.heap.size ≤ w5.heap.size := by have := HSE.out; have := HSB.out; omega
                have hz6 : w.heap.size + 1 < wB.heap.size := HSB.out.1
                have hx6 := (hb6.block _ (lt_of_blk HXF.out)).trans HXF.out
                have hr6 := (hb6.block _ (lt_of_blk HR5.out)).trans HR5.out
                have hB6 := HB5.out.trans (hb6.mono HB5.out.size)
                have hro6 := RoAt.below HRO5.out hz5 hb6
                have hx7 := blk_set hx6 1 (.slice NA p.arrays.length nc)
                have hr7 := blk_far hr6 ⟨w.heap.size, 1, none⟩ (.slice NA p.arrays.length nc) (by show w.heap.size ≠ w.heap.size + 1; omega)
                have hB7 := hB6.setCell (p := ⟨w.heap.size, 1, none⟩) (Nat.le_refl _) (.slice NA p.arrays.length nc)
                have hro7 := RoAt.setFive hro6 ⟨w.heap.size, 1, none⟩ (.slice NA p.arrays.length nc) (HNV.out _ (by show w.heap.size < _; omega)) hx6 (by simp)
                have how7 := own_setCell how ⟨w.heap.size, 1, none⟩ (.slice NA p.arrays.length nc) (by show w.heap.size < w5.heap.size; omega)
                obtain ⟨h0, h1, h2, h3, h4, h5⟩ := ir_cells_at hx6
                have h6 := (cell_of_blk hx6 1).2
                obtain ⟨j0, j1, j2, j3, j4, j5⟩ := ir_cells_at hx7
                obtain ⟨r0, s0'⟩ := cell_of_blk hr7 0
                obtain ⟨r1, s1⟩ := cell_of_blk hr7 1
                obtain ⟨r2, s2⟩ := cell_of_blk hr7 2
                obtain ⟨r3, s3⟩ := cell_of_blk hr7 3
                obtain ⟨r4, s4⟩ := cell_of_blk hr7 4
                have HR7 := Lib.hid hr7
                have HB7 := Lib.hid hB7
                have HRO7 := Lib.hid hro7
                have HOW7 := Lib.hid how7
                have HZ5 := Lib.hid hz5
                have HZ7 : Hid (wB.heap.size ≤ (w6.setCell ⟨w.heap.size, 1, none⟩ (.slice NA p.arrays.length nc)).heap.size) := Lib.hid (by have := hb6.size; simp [World.setCell]; omega)
                clear hrun hx6 hr6 hB6 hro6 hx7 hr7 hB7 hro7 how7 how hb6 hz5 hz6
                go_upto_region 26 with ((at_builtin; refine wpList_app rfl (.const (.slice none 0 0)) (.tmp 100) 22 rfl HRUN.out rfl rfl ?_))
                clear g0 g1 g2 g3 g4 g5 f1 h0 h1 h2 h3 h4 h5 h6
                generalize w6.setCell ⟨w.heap.size, 1, none⟩ (.slice NA p.arrays.length nc) = w7 at *
                go_wp2_with fail
                have hlow2 : w.heap.size + 1 < wB.heap.size := HSB.out.1
                have hnr := HNV.out (w.heap.size + 1) hlow2
                have q0 := HR7.out
                have q1 := blk_set q0 0 (.int .i64 p.temps)
                have q2 := blk_set q1 1 (.slice NA p.arrays.length nc)
                have q3 := blk_set q2 2 (.slice LA qb.length lc)
                have q4 := blk_set q3 3 (.int .i64 p.inp)
                have hr8 := blk_set q4 4 (.int .i64 p.out)
                have hB8 := ((((HB7.out.setCell (p := ⟨w.heap.size + 1, 0, none⟩) (by show w.heap.size ≤ w.heap.size + 1; omega) (.int .i64 p.temps)).setCell (p := ⟨w.heap.size + 1, 1, none⟩) (by show w.heap.size ≤ w.heap.size + 1; omega) (.slice NA p.arrays.length nc)).setCell (p := ⟨w.heap.size + 1, 2, none⟩) (by show w.heap.size ≤ w.heap.size + 1; omega) (.slice LA qb.length lc)).setCell (p := ⟨w.heap.size + 1, 3, none⟩) (by show w.heap.size ≤ w.heap.size + 1; omega) (.int .i64 p.inp)).setCell (p := ⟨w.heap.size + 1, 4, none⟩) (by show w.heap.size ≤ w.heap.size + 1; omega) (.int .i64 p.out)
                have hl8 := ((((HRO7.out.setFive ⟨w.heap.size + 1, 0, none⟩ (.int .i64 p.temps) hnr q0 (by simp)).setFive ⟨w.heap.size + 1, 1, none⟩ (.slice NA p.arrays.length nc) hnr q1 (by simp)).setFive ⟨w.heap.size + 1, 2, none⟩ (.slice LA qb.length lc) hnr q2 (by simp)).setFive ⟨w.heap.size + 1, 3, none⟩ (.int .i64 p.inp) hnr q3 (by simp)).setFive ⟨w.heap.size + 1, 4, none⟩ (.int .i64 p.out) hnr q4 (by simp)
                have hlow5 : w.heap.size + 1 < w5.heap.size := by have := HZ5.out; omega
                have ho8 := own_setCell (own_setCell (own_setCell (own_setCell (own_setCell HOW7.out ⟨w.heap.size + 1, 0, none⟩ (.int .i64 p.temps) hlow5) ⟨w.heap.size + 1, 1, none⟩ (.slice NA p.arrays.length nc) hlow5) ⟨w.heap.size + 1, 2, none⟩ (.slice LA qb.length lc) hlow5) ⟨w.heap.size + 1, 3, none⟩ (.int .i64 p.inp) hlow5) ⟨w.heap.size + 1, 4, none⟩ (.int .i64 p.out) hlow5
                have hs8 : wB.heap.size ≤ (((((w7.setCell ⟨w.heap.size + 1, 0, none⟩ (.int .i64 p.temps)).setCell ⟨w.heap.size + 1, 1, none⟩ (.slice NA p.arrays.length nc)).setCell ⟨w.heap.size + 1, 2, none⟩ (.slice LA qb.length lc)).setCell ⟨w.heap.size + 1, 3, none⟩ (.int .i64 p.inp)).setCell ⟨w.heap.size + 1, 4, none⟩ (.int .i64 p.out)).heap.size := by
                  have h1 := HZ7.out
                  simp [World.setCell] at h1 ⊢
                  omega
                clear q0 q1 q2 q3 q4
                generalize ((((w7.setCell ⟨w.heap.size + 1, 0, none⟩ (.int .i64 p.temps)).setCell ⟨w.heap.size + 1, 1, none⟩ (.slice NA p.arrays.length nc)).setCell ⟨w.heap.size + 1, 2, none⟩ (.slice LA qb.length lc)).setCell ⟨w.heap.size + 1, 3, none⟩ (.int .i64 p.inp)).setCell ⟨w.heap.size + 1, 4, none⟩ (.int .i64 p.out) = w8 at *
                have k0 : w8.cell? ⟨w.heap.size + 1, 0, none⟩ = some (.int .i64 p.temps) := (cell_of_blk hr8 0).1
                have k1 : w8.cell? ⟨w.heap.size + 1, 1, none⟩ = some (.slice NA p.arrays.length nc) := (cell_of_blk hr8 1).1
                have k2 : w8.cell? ⟨w.heap.size + 1, 2, none⟩ = some (.slice LA qb.length lc) := (cell_of_blk hr8 2).1
                have k3 : w8.cell? ⟨w.heap.size + 1, 3, none⟩ = some (.int .i64 p.inp) := (cell_of_blk hr8 3).1
                have k4 : w8.cell? ⟨w.heap.size + 1, 4, none⟩ = some (.int .i64 p.out) := (cell_of_blk hr8 4).1
                clear hr8 r0 r1 r2 r3 r4 s0' s1 s2 s3 s4 j0 j1 j2 j3 j4 j5
                refine bodyPost_ret (by simp [results, Try.results8, go_sem, k0, k1, k2, k3, k4]; try rfl) rfl ?_
                rw [← HPO.out, HQB.out]
                have hrb := hl8.rep hs8
                have hra := slRep_arrs (Nat.le_refl _) ho8
                exact ⟨NA, nc, LA, lc, rfl, ⟨hra, hrb⟩, hB8⟩
end Go.Proofs.Ythkobddggoojlaa
