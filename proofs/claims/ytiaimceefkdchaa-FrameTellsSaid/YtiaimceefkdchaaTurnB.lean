/- Contract of hauberklaw17.Turned. No condition but those that the theorem names. -/
import Derived.Test.YtiaimceefkdchaaTurnA
namespace Go.Proofs.Ytiaimceefkdchaa
open Go.RowKit
set_option linter.unusedVariables false
def TnPost (p : Ir) (av : Value) (w : World) (e : Ending) (w' : World) : Prop := ∃ bv ovs, e = .returned (irVal (turnIr p) av bv) ∧ BlksAt w' w.heap.size bv (p.blocks.map (turnBlk p)) ovs ∧ Below w.heap.size w w'
theorem map_take_succ {T U : Type} (f : T → U) (l : List T) (k : Nat) (d : T) (h : k < l.length) : (l.take (k + 1)).map f = (l.take k).map f ++ [f (l.getD k d)] := by
  rw [take_succ_getD l k d h, List.map_append]; rfl
theorem op_cells_at {w : World} {g : Nat} {k d a b c i : Int} (h : w.heap[g]? = some (.cells #[.int .i64 k, .int .i64 d, .int .i64 a, .int .i64 b, .int .i64 c, .int .i64 i] 58 (0, 0))) :
    w.cell? ⟨g, 0, none⟩ = some (.int .i64 k) ∧ w.cell? ⟨g, 1, none⟩ = some (.int .i64 d) ∧ w.cell? ⟨g, 2, none⟩ = some (.int .i64 a) ∧ w.cell? ⟨g, 3, none⟩ = some (.int .i64 b) ∧ w.cell? ⟨g, 4, none⟩ = some (.int .i64 c) ∧ w.cell? ⟨g, 5, none⟩ = some (.int .i64 i) ∧
    w.frozen? ⟨g, 1, none⟩ = false ∧ w.frozen? ⟨g, 2, none⟩ = false ∧ w.frozen? ⟨g, 3, none⟩ = false ∧ w.frozen? ⟨g, 4, none⟩ = false :=
  ⟨(cell_of_blk h 0).1, (cell_of_blk h 1).1, (cell_of_blk h 2).1, (cell_of_blk h 3).1, (cell_of_blk h 4).1, (cell_of_blk h 5).1, (cell_of_blk h 1).2, (cell_of_blk h 2).2, (cell_of_blk h 3).2, (cell_of_blk h 4).2⟩
theorem ir_cells_at {w : World} {g : Nat} {t : Int} {a b : Value} {i o : Int} (h : w.heap[g]? = some (.cells #[.int .i64 t, a, b, .int .i64 i, .int .i64 o] 25 (0, 0))) :
    w.cell? ⟨g, 0, none⟩ = some (.int .i64 t) ∧ w.cell? ⟨g, 1, none⟩ = some a ∧ w.cell? ⟨g, 2, none⟩ = some b ∧ w.cell? ⟨g, 3, none⟩ = some (.int .i64 i) ∧ w.cell? ⟨g, 4, none⟩ = some (.int .i64 o) ∧ w.frozen? ⟨g, 2, none⟩ = false :=
  ⟨(cell_of_blk h 0).1, (cell_of_blk h 1).1, (cell_of_blk h 2).1, (cell_of_blk h 3).1, (cell_of_blk h 4).1, (cell_of_blk h 2).2⟩
theorem BlksAt.setLow {w : World} {B : Nat} {v : Value} {bs : List Blk} {ovs : List Value} (h : BlksAt w B v bs ovs) (q : Addr) (u : Value) (hq : q.block < B) : BlksAt (w.setCell q u) B v bs ovs :=
  ⟨h.len, own_setCell h.row q u hq, fun i ov b h1 h2 => ⟨own_setCell (h.ops i ov b h1 h2).1 q u hq, (h.ops i ov b h1 h2).2⟩⟩
theorem BlksAt.more {w : World} {B B' : Nat} {v : Value} {bs : List Blk} {ovs : List Value} (h : BlksAt w B v bs ovs) (hB : B' ≤ B) : BlksAt w B' v bs ovs :=
  ⟨h.len, own_more h.row hB, fun i ov b h1 h2 => ⟨own_more (h.ops i ov b h1 h2).1 hB, (h.ops i ov b h1 h2).2⟩⟩
theorem blk_cells_at {w : World} {g : Nat} {v : Value} {k a y n : Int} (h : w.heap[g]? = some (.cells #[v, .int .i64 k, .int .i64 a, .int .i64 y, .int .i64 n] 55 (0, 0))) :
    w.cell? ⟨g, 0, none⟩ = some v ∧ w.cell? ⟨g, 1, none⟩ = some (.int .i64 k) ∧ w.cell? ⟨g, 2, none⟩ = some (.int .i64 a) ∧ w.cell? ⟨g, 3, none⟩ = some (.int .i64 y) ∧ w.cell? ⟨g, 4, none⟩ = some (.int .i64 n) ∧ w.frozen? ⟨g, 0, none⟩ = false ∧ w.frozen? ⟨g, 2, none⟩ = false :=
  ⟨(cell_of_blk h 0).1, (cell_of_blk h 1).1, (cell_of_blk h 2).1, (cell_of_blk h 3).1, (cell_of_blk h 4).1, (cell_of_blk h 0).2, (cell_of_blk h 2).2⟩
set_option maxRecDepth 100000 in
set_option maxHeartbeats 4000000 in
theorem law17_Turned (p : Ir) (av bv : Value) (he : irErr p = 0) (w : World) (hI : IrRep w w.heap.size p av bv) :
    Calls Try.prog 44 #[irVal p av bv] w (TnPost p av w) := by
  obtain ⟨hng, hm⟩ := irErr_ok he
  obtain ⟨⟨_, _, hT0, _⟩, _, hbl⟩ := hm
  have HBL := Lib.hid hbl
  unfold greatP at hng
  have hrs := railSum_nonneg p.arrays
  have hT1 : p.temps ≤ 1048576 := by omega
  have hn2 : p.blocks.length ≤ 1048576 := by omega
  have HOPS : Hid (∀ k, k < p.blocks.length → (p.blocks.getD k blkNone).ops.length ≤ 1048576) := Lib.hid (fun k hk => by
    have h1 := opsSum_step p.blocks k hk
    have h2 := opsSum_take p.blocks (k + 1)
    omega)
  obtain ⟨hRA, hRB⟩ := hI
  obtain ⟨AA, ac, rfl, hac⟩ := hRA.form
  obtain ⟨BA, bc, rfl, hbc⟩ := hRB.form
  have HRB := Lib.hid hRB
  have HTN := Lib.hid (fun th t ht W => law17_turned p (.slice AA p.arrays.length ac) (.slice BA p.blocks.length bc) th t ⟨hT0, hT1⟩ ht W)
  have HU := Lib.hid (fun o W => ir_Uses o W)
  have HMK := Lib.hid (fun o W => ir_Makes o W)
  unfold irVal at HTN ⊢
  unfold opVal at HU HMK
  unfold TnPost irVal
  obtain ⟨hx0, hx1⟩ : ((w.alloc (.cells #[.int .i64 p.temps, (.slice AA p.arrays.length ac), .slice BA p.blocks.length bc, .int .i64 p.inp, .int .i64 p.out] 25)).alloc (.cells #[.int .i64 0, .slice none 0 0, .slice none 0 0, .int .i64 0, .int .i64 0] 25)).heap[w.heap.size]? = some (.cells #[.int .i64 p.temps, (.slice AA p.arrays.length ac), .slice BA p.blocks.length bc, .int .i64 p.inp, .int .i64 p.out] 25 (0, 0)) ∧
      ((w.alloc (.cells #[.int .i64 p.temps, (.slice AA p.arrays.length ac), .slice BA p.blocks.length bc, .int .i64 p.inp, .int .i64 p.out] 25)).alloc (.cells #[.int .i64 0, .slice none 0 0, .slice none 0 0, .int .i64 0, .int .i64 0] 25)).heap[w.heap.size + 1]? = some (.cells #[.int .i64 0, .slice none 0 0, .slice none 0 0, .int .i64 0, .int .i64 0] 25 (0, 0)) := by
    have e := alloc_size w (.cells #[.int .i64 p.temps, (.slice AA p.arrays.length ac), .slice BA p.blocks.length bc, .int .i64 p.inp, .int .i64 p.out] 25) rfl
    exact ⟨alloc_old (alloc_last w _ rfl _) _, alloc_last _ _ e _⟩
  have hz1 : ((w.alloc (.cells #[.int .i64 p.temps, (.slice AA p.arrays.length ac), .slice BA p.blocks.length bc, .int .i64 p.inp, .int .i64 p.out] 25)).alloc (.cells #[.int .i64 0, .slice none 0 0, .slice none 0 0, .int .i64 0, .int .i64 0] 25)).heap.size = w.heap.size + 1 + 1 := alloc_size _ _ (alloc_size w _ rfl)
  have hb1 := bal (bnew w (.cells #[.int .i64 p.temps, (.slice AA p.arrays.length ac), .slice BA p.blocks.length bc, .int .i64 p.inp, .int .i64 p.out] 25)) (.cells #[.int .i64 0, .slice none 0 0, .slice none 0 0, .int .i64 0, .int .i64 0] 25)
  clear hng hrs hRA hRB hbl he
  go_enter Try.func44, Try.ntmps44
  go_wp2_with fail
  generalize (w.alloc (.cells #[.int .i64 p.temps, (.slice AA p.arrays.length ac), .slice BA p.blocks.length bc, .int .i64 p.inp, .int .i64 p.out] 25)).alloc (.cells #[.int .i64 0, .slice none 0 0, .slice none 0 0, .int .i64 0, .int .i64 0] 25) = w1 at *
  have HX0 := Lib.hid hx0
  have HX1 := Lib.hid hx1
  have HZ1 := Lib.hid hz1
  have HB1 := Lib.hid hb1
  clear hx0 hx1 hz1 hb1
  go_loopw [3, 4] (fun vl vi wr => ∃ (k : Nat) (ovs : List Value), k ≤ p.blocks.length ∧ vi = .int .i64 k ∧ BlksAt wr w1.heap.size vl ((p.blocks.take k).map (turnBlk p)) ovs ∧ Below w1.heap.size w1 wr) (fun _ vi _ => p.blocks.length - (intOf vi).toNat)
  case atStart => exact ⟨0, [], Nat.zero_le _, rfl, BlksAt.nil_ _ _, Below.refl _ _⟩
  case round =>
    obtain ⟨k, ovs, hk, rfl, hBA, hBW⟩ := hrel
    have HBA := Lib.hid hBA
    have HBW := Lib.hid hBW
    have hxr := (hBW.block w.heap.size (by rw [HZ1.out]; omega)).trans HX0.out
    obtain ⟨c0, c1, c2, c3, c4, f2⟩ := ir_cells_at hxr
    have HXR := Lib.hid hxr
    obtain ⟨LA, lc, rfl⟩ := ownN_len hBA.row
    clear hBA hBW hxr
    by_cases hlt : k < p.blocks.length
    · obtain ⟨b, off, rfl, hb0, OA, oc, hops, hoc, x0, x1, x2, x3, x4⟩ := blk_at HRB.out k hlt
      have hbw := HB1.out.trans (HBW.out.mono HB1.out.size)
      have hcw : ∀ o, wr.cell? ⟨b, o, none⟩ = w.cell? ⟨b, o, none⟩ := fun o => hbw.cell (p := ⟨b, o, none⟩) hb0
      rw [← hcw] at x0 x1 x2 x3 x4
      have hops1 := HOPS.out k hlt
      obtain ⟨hop, htrm⟩ := HBL.out _ (getD_memI p.blocks k blkNone hlt)
      have HTK := Lib.hid (map_take_succ (turnBlk p) p.blocks k blkNone hlt)
      have HTM := Lib.hid htrm
      have HOP := Lib.hid hop
      generalize p.blocks.getD k blkNone = bk at *
      obtain ⟨ops, trm⟩ := bk
      obtain ⟨tk, ta, ty, tn⟩ := trm
      simp only at hops hoc x0 x1 x2 x3 x4 hops1
      have k0 : (0 : Int) ≤ (k : Int) := by omega
      have k1 : (k : Int) < (p.blocks.length : Int) := by omega
      have hbA := bnew wr (.cells #[.slice OA ops.length oc, .int .i64 tk, .int .i64 ta, .int .i64 ty, .int .i64 tn] 55)
      have hxA := heap_alloc_new wr (.cells #[.slice OA ops.length oc, .int .i64 tk, .int .i64 ta, .int .i64 ty, .int .i64 tn] 55)
      have hzA := alloc_size wr (.cells #[.slice OA ops.length oc, .int .i64 tk, .int .i64 ta, .int .i64 ty, .int .i64 tn] 55) rfl
      have HbA := Lib.hid hbA
      have HxA := Lib.hid hxA
      have HzA := Lib.hid hzA
      have HOA := Lib.hid hops
      clear hcw hbw hbA hxA hzA hops hop htrm
      go_wp2_with fail
      generalize wr.alloc (.cells #[.slice OA ops.length oc, .int .i64 tk, .int .i64 ta, .int .i64 ty, .int .i64 tn] 55) = wA at *
      obtain ⟨wq, rfl⟩ : ∃ wq : World, wq = wr := ⟨_, rfl⟩
      clear x0 x1 x2 x3 x4 c0 c1 c2 c3 c4 f2
      go_loopw [6, 7] (fun vo vj wr => ∃ (j : Nat), j ≤ ops.length ∧ vj = .int .i64 j ∧ wr.ownsRow (wq.heap.size + 1) 58 6 vo ((ops.take j).map (turnOp p)).length (opsCells ((ops.take j).map (turnOp p))) ∧ Below (wq.heap.size + 1) wA wr) (fun _ vj _ => ops.length - (intOf vj).toNat)
      case atStart => exact ⟨0, Nat.zero_le _, rfl, World.ownsRow_nil _ _ _ _, Below.refl _ _⟩
      case round =>
        obtain ⟨j, hj, rfl, hOW, hBJ⟩ := hrel
        have HOW := Lib.hid hOW
        have HBJ := Lib.hid hBJ
        obtain ⟨PA, pc, rfl⟩ := ownN_len hOW
        have hxb := (hBJ.block wq.heap.size (by omega)).trans HxA.out
        have HXB := Lib.hid hxb
        have b0 : wr.cell? ⟨wq.heap.size, 0, none⟩ = some (.slice OA ops.length oc) := (cell_of_blk hxb 0).1
        by_cases hjl : j < ops.length
        · obtain ⟨ob, ooff, rfl, hob, y0, y1, y2, y3, y4, y5⟩ := op_at HOA.out j hjl
          have hWq := HbA.out.trans (HBJ.out.mono (show wq.heap.size ≤ wq.heap.size + 1 by omega))
          have hbw := HB1.out.trans ((HBW.out.trans (hWq.mono HBW.out.size)).mono HB1.out.size)
          have hcw : ∀ o, wr.cell? ⟨ob, o, none⟩ = w.cell? ⟨ob, o, none⟩ := fun o => hbw.cell (p := ⟨ob, o, none⟩) hob
          rw [← hcw] at y0 y1 y2 y3 y4 y5
          have hxr := (hWq.block w.heap.size (lt_of_blk HXR.out)).trans HXR.out
          have HXW := Lib.hid hxr
          obtain ⟨ho1, ho2, ho4, ho5, ho6, ho7, ho8⟩ := HOP.out _ (getD_memI ops j opNone hjl)
          have HTJ := Lib.hid (map_take_succ (turnOp p) ops j opNone hjl)
          have j0 : (0 : Int) ≤ (j : Int) := by omega
          have j1 : (j : Int) < (ops.length : Int) := by omega
          generalize ops.getD j opNone = o at *
          clear hcw hbw hWq hxb hOW hBJ hxr ho1 ho2 ho8
          have hb5 := bnew wr (.cells #[.int .i64 o.kind, .int .i64 o.dst, .int .i64 o.a, .int .i64 o.b, .int .i64 o.c, .int .i64 o.imm] 58)
          have hx5 := heap_alloc_new wr (.cells #[.int .i64 o.kind, .int .i64 o.dst, .int .i64 o.a, .int .i64 o.b, .int .i64 o.c, .int .i64 o.imm] 58)
          have HI5 := Lib.hid ((hb5.block _ (lt_of_blk HXW.out)).trans HXW.out)
          have HB5 := Lib.hid (HBJ.out.trans (hb5.mono (show wq.heap.size + 1 ≤ wr.heap.size by have h := HBJ.out.size; rw [HzA.out] at h; exact h)))
          have HS5 := Lib.hid hb5
          have HX5 := Lib.hid hx5
          clear hb5 hx5
          go_wp2_with fail
          generalize wr.alloc (.cells #[.int .i64 o.kind, .int .i64 o.dst, .int .i64 o.a, .int .i64 o.b, .int .i64 o.c, .int .i64 o.imm] 58) = w5 at *
          refine (HU.out o _).mono ?_
          rintro e w6 ⟨g, rfl, _, _, hb6⟩
          have hI6 := (hb6.block _ (lt_of_blk HI5.out)).trans HI5.out
          have hX6 := (hb6.block _ (lt_of_blk HX5.out)).trans HX5.out
          have HI6 := Lib.hid hI6
          have HX6 := Lib.hid hX6
          have HS6 := Lib.hid (bch HS5.out hb6)
          have HB6 := Lib.hid (HB5.out.trans (hb6.mono (show wq.heap.size + 1 ≤ w5.heap.size by have h := HB5.out.size; rw [HzA.out] at h; exact h)))
          have hn3 := fSrc_le o.kind
          have HTO : Hid (turnOp p o = ⟨o.kind, turnT p (fDst o.kind) o.dst, turnT p (decide (0 < fSrc o.kind)) o.a, turnT p (decide (1 < fSrc o.kind)) o.b, turnT p (decide (2 < fSrc o.kind)) o.c, o.imm⟩) := Lib.hid rfl
          generalize fSrc o.kind = n at *
          have HD : Hid (fDst o.kind = true → 0 ≤ o.dst ∧ o.dst < p.temps) := Lib.hid (fun h => by rw [h] at ho4; exact ho4)
          clear hb6 y0 y1 y2 y3 y4 y5 b0
          go_wp2_with fail
          refine wp_region_L (fun w' => w'.heap[w.heap.size]? = some (.cells #[.int .i64 p.temps, (.slice AA p.arrays.length ac), .slice (some ⟨b, off, none⟩) p.blocks.length bc, .int .i64 p.inp, .int .i64 p.out] 25 (0, 0)) ∧ w'.heap[wr.heap.size]? = some (.cells #[.int .i64 o.kind, .int .i64 o.dst, .int .i64 o.a, .int .i64 o.b, .int .i64 o.c, .int .i64 o.imm] 58 (0, 0)) ∧ Below w6.heap.size w6 w') 7 (by kernel_rfl) ?_
          have hS0 : (w6.drew.heap[w.heap.size]? = some (.cells #[.int .i64 p.temps, (.slice AA p.arrays.length ac), .slice (some ⟨b, off, none⟩) p.blocks.length bc, .int .i64 p.inp, .int .i64 p.out] 25 (0, 0)) ∧ w6.drew.heap[wr.heap.size]? = some (.cells #[.int .i64 o.kind, .int .i64 o.dst, .int .i64 o.a, .int .i64 o.b, .int .i64 o.c, .int .i64 o.imm] 58 (0, 0)) ∧ Below w6.heap.size w6 w6.drew) := ⟨hI6, hX6, Below.drew (Below.refl _ _)⟩
          refine wpAnyL_take (i := 0) (some 37) (.agg #[.int .i64 p.temps, (.slice AA p.arrays.length ac), .slice (some ⟨b, off, none⟩) p.blocks.length bc, .int .i64 p.inp, .int .i64 p.out]) rfl rfl (by kernel_rfl) (by kernel_rfl) (by kernel_rfl) (by kernel_rfl) (fun _ _ _ h => h) (by rfl) ?hv0 (by assumption) ?rest0
          case hv0 =>
            intro wz hSz
            obtain ⟨z1, z2, _⟩ := hSz
            obtain ⟨c0, c1, c2, c3, c4, f2⟩ := ir_cells_at z1
            obtain ⟨d0, d1, d2, d3, d4, d5, f1, f2', f3, f4⟩ := op_cells_at z2
            go_simp
          simp only [Act.put, List.setIfInBounds_toArray, List.set_cons_zero, List.set_cons_succ]
          refine wpAnyL_take (i := 1) (some 38) (.agg #[.int .i64 o.kind, .int .i64 o.dst, .int .i64 o.a, .int .i64 o.b, .int .i64 o.c, .int .i64 o.imm]) rfl rfl (by kernel_rfl) (by kernel_rfl) (by kernel_rfl) (by kernel_rfl) (fun _ _ _ h => h) (by rfl) ?hv1 (by assumption) ?rest1
          case hv1 =>
            intro wz hSz
            obtain ⟨z1, z2, _⟩ := hSz
            obtain ⟨c0, c1, c2, c3, c4, f2⟩ := ir_cells_at z1
            obtain ⟨d0, d1, d2, d3, d4, d5, f1, f2', f3, f4⟩ := op_cells_at z2
            go_simp
          simp only [Act.put, List.setIfInBounds_toArray, List.set_cons_zero, List.set_cons_succ]
          refine wpAnyL_take (i := 3) (some 40) (.pointer (some ⟨wr.heap.size, 1, none⟩)) rfl rfl (by kernel_rfl) (by kernel_rfl) (by kernel_rfl) (by kernel_rfl) (fun _ _ _ h => h) (by rfl) ?hv3 (by assumption) ?rest3
          case hv3 =>
            intro wz hSz
            obtain ⟨z1, z2, _⟩ := hSz
            obtain ⟨c0, c1, c2, c3, c4, f2⟩ := ir_cells_at z1
            obtain ⟨d0, d1, d2, d3, d4, d5, f1, f2', f3, f4⟩ := op_cells_at z2
            go_simp
          simp only [Act.put, List.setIfInBounds_toArray, List.set_cons_zero, List.set_cons_succ]
          refine wpAnyL_take (i := 4) (some 41) (.int .i64 o.dst) rfl rfl (by kernel_rfl) (by kernel_rfl) (by kernel_rfl) (by kernel_rfl) (fun _ _ _ h => h) (by rfl) ?hv4 (by assumption) ?rest4
          case hv4 =>
            intro wz hSz
            obtain ⟨z1, z2, _⟩ := hSz
            obtain ⟨c0, c1, c2, c3, c4, f2⟩ := ir_cells_at z1
            obtain ⟨d0, d1, d2, d3, d4, d5, f1, f2', f3, f4⟩ := op_cells_at z2
            go_simp
          simp only [Act.put, List.setIfInBounds_toArray, List.set_cons_zero, List.set_cons_succ]
          refine wpAnyL_one (i := 2) (by kernel_rfl) rfl ?_
          intro K hK
          rw [if_pos (by rfl)]
          go_simp
          refine (HMK.out o _).mono ?_
          rintro e w7 ⟨rfl, hb7⟩
          have hS7 : (w7.heap[w.heap.size]? = some (.cells #[.int .i64 p.temps, (.slice AA p.arrays.length ac), .slice (some ⟨b, off, none⟩) p.blocks.length bc, .int .i64 p.inp, .int .i64 p.out] 25 (0, 0)) ∧ w7.heap[wr.heap.size]? = some (.cells #[.int .i64 o.kind, .int .i64 o.dst, .int .i64 o.a, .int .i64 o.b, .int .i64 o.c, .int .i64 o.imm] 58 (0, 0)) ∧ Below w6.heap.size w6 w7) := ⟨(hb7.block _ (lt_of_blk hI6)).trans hI6, (hb7.block _ (lt_of_blk hX6)).trans hX6, hS0.2.2.trans hb7⟩
          refine hK.out _ _ (fun _ => hS7) ?_
          clear hK hb7
          refine wpAnyL_one (i := 5) (by kernel_rfl) rfl ?_
          intro K2 hK2
          rw [if_pos (by rfl)]
          go_simp
          refine (HTN.out (fDst o.kind) o.dst HD.out _).mono ?_
          rintro e w8 ⟨rfl, hb8⟩
          have hS8 : (w8.heap[w.heap.size]? = some (.cells #[.int .i64 p.temps, (.slice AA p.arrays.length ac), .slice (some ⟨b, off, none⟩) p.blocks.length bc, .int .i64 p.inp, .int .i64 p.out] 25 (0, 0)) ∧ w8.heap[wr.heap.size]? = some (.cells #[.int .i64 o.kind, .int .i64 o.dst, .int .i64 o.a, .int .i64 o.b, .int .i64 o.c, .int .i64 o.imm] 58 (0, 0)) ∧ Below w6.heap.size w6 w8) := ⟨(hb8.block _ (lt_of_blk hS7.1)).trans hS7.1, (hb8.block _ (lt_of_blk hS7.2.1)).trans hS7.2.1, hS7.2.2.trans (hb8.mono hS7.2.2.size)⟩
          refine hK2.out _ _ (fun _ => hS8) ?_
          clear hK2 hb8
          refine wpAnyL_one (i := 6) (by kernel_rfl) rfl ?_
          intro K3 hK3
          rw [if_pos (by rfl)]
          go_simp
          refine hK3.out _ _ (fun _ => hS8) ?_
          clear hK3
          obtain ⟨hI8, hX8, hB8⟩ := hS8
          obtain ⟨d0, d1, d2, d3, d4, d5, f1, f2', f3, f4⟩ := op_cells_at hX8
          refine wpAnyL_one (i := 7) (by kernel_rfl) rfl ?_
          intro K4 hK4
          rw [if_pos (by rfl)]
          go_simp
          refine hK4.out _ _ (fun h => absurd rfl h) ?_
          clear hK4
          refine wpAnyL_done (by kernel_rfl) ?_ _
          have hX9 : (w8.setCell ⟨wr.heap.size, 1, none⟩ (.int .i64 (turnT p (fDst o.kind) o.dst))).heap[wr.heap.size]? = some (.cells #[.int .i64 o.kind, .int .i64 (turnT p (fDst o.kind) o.dst), .int .i64 o.a, .int .i64 o.b, .int .i64 o.c, .int .i64 o.imm] 58 (0, 0)) := blk_set hX8 1 _
          have hS9 := (HS6.out.trans (hB8.mono HS6.out.size)).setCell (p := ⟨wr.heap.size, 1, none⟩) (Nat.le_refl _) (.int .i64 (turnT p (fDst o.kind) o.dst))
          generalize w8.setCell ⟨wr.heap.size, 1, none⟩ (.int .i64 (turnT p (fDst o.kind) o.dst)) = v0 at *
          generalize turnT p (fDst o.kind) o.dst = td at *
          have HX0 := Lib.hid hX9
          have HS0 := Lib.hid hS9
          clear d0 d1 d2 d3 d4 d5 f1 f2' f3 f4 hI8 hX8 hB8 hX9 hS9 hI6 hX6 hS0 hS7
          obtain ⟨s0, hs0⟩ : ∃ s, decide (0 < n) = s := ⟨_, rfl⟩
          obtain ⟨s1, hs1⟩ : ∃ s, decide (1 < n) = s := ⟨_, rfl⟩
          obtain ⟨s2, hs2⟩ : ∃ s, decide (2 < n) = s := ⟨_, rfl⟩
          have hq0 : decide ((0 : Int) < (n : Int)) = s0 := by rw [← hs0]; simp
          have hq1 : decide ((1 : Int) < (n : Int)) = s1 := by rw [← hs1, decide_eq_decide]; omega
          have hq2 : decide ((2 : Int) < (n : Int)) = s2 := by rw [← hs2, decide_eq_decide]; omega
          rw [hs0] at ho5
          rw [hs1] at ho6
          rw [hs2] at ho7
          rw [hs0, hs1, hs2] at HTO
          have HA := Lib.hid (fun (h : s0 = true) => (show 0 ≤ o.a ∧ o.a < p.temps by rw [h] at ho5; exact ho5))
          have HBB := Lib.hid (fun (h : s1 = true) => (show 0 ≤ o.b ∧ o.b < p.temps by rw [h] at ho6; exact ho6))
          have HCC := Lib.hid (fun (h : s2 = true) => (show 0 ≤ o.c ∧ o.c < p.temps by rw [h] at ho7; exact ho7))
          clear ho4 ho5 ho6 ho7
          obtain ⟨i0, i1, i2, i3, i4, if2⟩ := ir_cells_at ((HS0.out.block _ (lt_of_blk HXW.out)).trans HXW.out)
          obtain ⟨d0, d1, d2, d3, d4, d5, f1, f2', f3, f4⟩ := op_cells_at HX0.out
          go_wp2_with fail
          refine (HTN.out s0 o.a HA.out _).mono ?_
          rintro e u1 ⟨rfl, hu1⟩
          have hXu := (hu1.block _ (lt_of_blk HX0.out)).trans HX0.out
          have hSu := HS0.out.trans (hu1.mono HS0.out.size)
          clear i0 i1 i2 i3 i4 if2 d0 d1 d2 d3 d4 d5 f1 f2' f3 f4 HX0 HS0 hu1
          generalize turnT p s0 o.a = ta_ at *
          obtain ⟨_, _, d2, d3, d4, _, _, f2', f3, f4⟩ := op_cells_at hXu
          have hXv : (u1.setCell ⟨wr.heap.size, 2, none⟩ (.int .i64 ta_)).heap[wr.heap.size]? = some (.cells #[.int .i64 o.kind, .int .i64 td, .int .i64 ta_, .int .i64 o.b, .int .i64 o.c, .int .i64 o.imm] 58 (0, 0)) := blk_set hXu 2 _
          have hSv := (hSu.setCell (p := ⟨wr.heap.size, 2, none⟩) (Nat.le_refl _) (.int .i64 ta_))
          obtain ⟨i0, i1, i2, i3, i4, if2⟩ := ir_cells_at ((hSv.block _ (lt_of_blk HXW.out)).trans HXW.out)
          obtain ⟨e0, e1, e2, e3, e4, e5, g1, g2, g3, g4⟩ := op_cells_at hXv
          have HX0 := Lib.hid hXv
          have HS0 := Lib.hid hSv
          clear hXu hSu hXv hSv
          go_wp2_with fail
          clear d2 d3 d4 f2' f3 f4
          generalize (u1.setCell ⟨wr.heap.size, 2, none⟩ (.int .i64 ta_)) = v0 at *
          have d0 := e0
          have d1 := e1
          have d2 := e2
          have d3 := e3
          have d4 := e4
          have d5 := e5
          have f1 := g1
          have f2' := g2
          have f3 := g3
          have f4 := g4
          clear e0 e1 e2 e3 e4 e5 g1 g2 g3 g4
          refine (HTN.out s1 o.b HBB.out _).mono ?_
          rintro e u1 ⟨rfl, hu1⟩
          have hXu := (hu1.block _ (lt_of_blk HX0.out)).trans HX0.out
          have hSu := HS0.out.trans (hu1.mono HS0.out.size)
          clear i0 i1 i2 i3 i4 if2 d0 d1 d2 d3 d4 d5 f1 f2' f3 f4 HX0 HS0 hu1
          generalize turnT p s1 o.b = tb_ at *
          obtain ⟨_, _, d2, d3, d4, _, _, f2', f3, f4⟩ := op_cells_at hXu
          have hXv : (u1.setCell ⟨wr.heap.size, 3, none⟩ (.int .i64 tb_)).heap[wr.heap.size]? = some (.cells #[.int .i64 o.kind, .int .i64 td, .int .i64 ta_, .int .i64 tb_, .int .i64 o.c, .int .i64 o.imm] 58 (0, 0)) := blk_set hXu 3 _
          have hSv := (hSu.setCell (p := ⟨wr.heap.size, 3, none⟩) (Nat.le_refl _) (.int .i64 tb_))
          obtain ⟨i0, i1, i2, i3, i4, if2⟩ := ir_cells_at ((hSv.block _ (lt_of_blk HXW.out)).trans HXW.out)
          obtain ⟨e0, e1, e2, e3, e4, e5, g1, g2, g3, g4⟩ := op_cells_at hXv
          have HX0 := Lib.hid hXv
          have HS0 := Lib.hid hSv
          clear hXu hSu hXv hSv
          go_wp2_with fail
          clear d2 d3 d4 f2' f3 f4
          generalize (u1.setCell ⟨wr.heap.size, 3, none⟩ (.int .i64 tb_)) = v0 at *
          have d0 := e0
          have d1 := e1
          have d2 := e2
          have d3 := e3
          have d4 := e4
          have d5 := e5
          have f1 := g1
          have f2' := g2
          have f3 := g3
          have f4 := g4
          clear e0 e1 e2 e3 e4 e5 g1 g2 g3 g4
          refine (HTN.out s2 o.c HCC.out _).mono ?_
          rintro e u1 ⟨rfl, hu1⟩
          have hXu := (hu1.block _ (lt_of_blk HX0.out)).trans HX0.out
          have hSu := HS0.out.trans (hu1.mono HS0.out.size)
          clear i0 i1 i2 i3 i4 if2 d0 d1 d2 d3 d4 d5 f1 f2' f3 f4 HX0 HS0 hu1
          generalize turnT p s2 o.c = tc_ at *
          obtain ⟨_, _, d2, d3, d4, _, _, f2', f3, f4⟩ := op_cells_at hXu
          have hXv : (u1.setCell ⟨wr.heap.size, 4, none⟩ (.int .i64 tc_)).heap[wr.heap.size]? = some (.cells #[.int .i64 o.kind, .int .i64 td, .int .i64 ta_, .int .i64 tb_, .int .i64 tc_, .int .i64 o.imm] 58 (0, 0)) := blk_set hXu 4 _
          have hSv := (hSu.setCell (p := ⟨wr.heap.size, 4, none⟩) (Nat.le_refl _) (.int .i64 tc_))
          obtain ⟨i0, i1, i2, i3, i4, if2⟩ := ir_cells_at ((hSv.block _ (lt_of_blk HXW.out)).trans HXW.out)
          obtain ⟨e0, e1, e2, e3, e4, e5, g1, g2, g3, g4⟩ := op_cells_at hXv
          have HX0 := Lib.hid hXv
          have HS0 := Lib.hid hSv
          clear hXu hSu hXv hSv
          have hlj : ((ops.take j).map (turnOp p)).length = j := by simp; omega
          have hsz5 : wq.heap.size + 1 ≤ wr.heap.size := by have h := HBJ.out.size; rw [HzA.out] at h; exact h
          have how5 := own_below HOW.out HS0.out
          obtain ⟨v', w9, hrun, g1', g2', g3'⟩ := run_append_op (u1.setCell ⟨wr.heap.size, 4, none⟩ (.int .i64 tc_)) (wq.heap.size + 1) _ _ how5 ⟨o.kind, td, ta_, tb_, tc_, o.imm⟩ (by rw [hlj]; omega) (by have := HS0.out.size; omega)
          have hse : (u1.setCell ⟨wr.heap.size, 4, none⟩ (.int .i64 tc_)).heap.size = u1.heap.size := by simp [World.setCell]
          have hse2 := HS0.out.size
          rw [hlj, hse] at hrun
          rw [hse] at hse2
          have HRUN := Lib.hid hrun
          have HG1 := Lib.hid g1'
          have HB9 := Lib.hid (((HBJ.out.trans (HS0.out.mono hsz5)).alloc (show wq.heap.size + 1 ≤ (u1.setCell ⟨wr.heap.size, 4, none⟩ (.int .i64 tc_)).heap.size by rw [hse]; omega) _).grown g2' (by rw [alloc_size _ _ hse]; omega) (fun r hr => (how5.lt r hr).1))
          clear hrun g1' g2' g3' how5 hlj hse hse2
          go_wp2_with (at_builtin; refine wpList_app rfl (.tmp 65) (.tmp 67) 51 rfl HRUN.out rfl rfl ?_)
          go_roundw
          case rel => exact ⟨j + 1, by omega, by go_num, by rw [HTJ.out, HTO.out]; exact HG1.out, HB9.out⟩
          case measure => simp [intOf]; omega
        · obtain rfl : j = ops.length := by omega
          have how := HOW.out
          rw [List.take_length] at how
          have hlj : (ops.map (turnOp p)).length = ops.length := by simp
          have hWq := HbA.out.trans (HBJ.out.mono (show wq.heap.size ≤ wq.heap.size + 1 by omega))
          obtain ⟨q0, q1, q2, q3, q4, q5, q6⟩ := blk_cells_at hxb
          have hxs : (wr.setCell ⟨wq.heap.size, 0, none⟩ (.slice PA ops.length pc)).heap[wq.heap.size]? = some (.cells #[.slice PA ops.length pc, .int .i64 tk, .int .i64 ta, .int .i64 ty, .int .i64 tn] 55 (0, 0)) := blk_set hxb 0 _
          have hWs := hWq.setCell (p := ⟨wq.heap.size, 0, none⟩) (Nat.le_refl _) (.slice PA ops.length pc)
          have hos := own_setCell how ⟨wq.heap.size, 0, none⟩ (.slice PA ops.length pc) (by show wq.heap.size < wq.heap.size + 1; omega)
          obtain ⟨i0, i1, i2, i3, i4, if2⟩ := ir_cells_at ((hWs.block _ (lt_of_blk HXR.out)).trans HXR.out)
          obtain ⟨s0, s1, s2, s3, s4, s5, s6⟩ := blk_cells_at hxs
          have HXS := Lib.hid hxs
          have HWS := Lib.hid hWs
          have HOS := Lib.hid hos
          have HTT : Hid ((tk == 2) = true → 0 ≤ ta ∧ ta < p.temps) := Lib.hid (fun h => by
            have h2 : tk = 2 := by simpa using h
            rcases HTM.out with ⟨h3, _⟩ | ⟨_, h3, _⟩ | ⟨h3, _⟩
            · simp only at h3; omega
            · exact h3
            · simp only at h3; omega)
          have HTQ : Hid (turnBlk p ⟨ops, tk, ta, ty, tn⟩ = ⟨ops.map (turnOp p), tk, turnT p (tk == 2) ta, ty, tn⟩) := Lib.hid rfl
          obtain ⟨sk, hsk⟩ : ∃ s, (tk == 2) = s := ⟨_, rfl⟩
          rw [hsk] at HTT HTQ
          clear how hWq hxs hWs hos hOW hBJ hlj
          go_wp2_with fail
          refine (HTN.out sk ta HTT.out _).mono ?_
          rintro e u1 ⟨rfl, hu1⟩
          have hXu := (hu1.block _ (lt_of_blk HXS.out)).trans HXS.out
          have hSu := HWS.out.trans (hu1.mono HWS.out.size)
          have hOu := own_below HOS.out hu1
          clear i0 i1 i2 i3 i4 if2 s0 s1 s2 s3 s4 s5 s6 q0 q1 q2 q3 q4 q5 q6 hxb hu1 b0
          generalize turnT p sk ta = tt at *
          obtain ⟨s0, s1, s2, s3, s4, s5, s6⟩ := blk_cells_at hXu
          have hXv : (u1.setCell ⟨wq.heap.size, 2, none⟩ (.int .i64 tt)).heap[wq.heap.size]? = some (.cells #[.slice PA ops.length pc, .int .i64 tk, .int .i64 tt, .int .i64 ty, .int .i64 tn] 55 (0, 0)) := blk_set hXu 2 _
          have hSv := hSu.setCell (p := ⟨wq.heap.size, 2, none⟩) (Nat.le_refl _) (.int .i64 tt)
          have hOv := own_setCell hOu ⟨wq.heap.size, 2, none⟩ (.int .i64 tt) (by show wq.heap.size < wq.heap.size + 1; omega)
          obtain ⟨e0, e1, e2, e3, e4, e5, e6⟩ := blk_cells_at hXv
          have hBv := HBA.out.below hSv
          have hse : (u1.setCell ⟨wq.heap.size, 2, none⟩ (.int .i64 tt)).heap.size = u1.heap.size := by simp [World.setCell]
          have hlk : ((p.blocks.take k).map (turnBlk p)).length = k := by simp; omega
          have hlj : (ops.map (turnOp p)).length = ops.length := by simp
          have hszq := HBW.out.size
          have hszv := hSv.size
          obtain ⟨v', w9, hrun, g1', g2', _⟩ := hBv.push hOv (by omega) (fun r hr => by
            intro e9
            have h1 := (hOv.lt r hr).1
            have h2 := (HBA.out.row.lt r e9).2
            omega) (by omega) (by rw [hlk]; omega) ⟨tk, tt, ty, tn⟩
          rw [hlk, hlj, hse] at hrun
          have HRUN := Lib.hid hrun
          have HG1 := Lib.hid g1'
          have HG2 := Lib.hid (g2' (HBW.out.trans (hSv.mono hszq)) (Nat.le_refl _))
          clear hrun g1' g2' hXu hSu hOu hXv hSv hOv hBv hse hlk hlj hszq hszv
          go_wp2_with (at_builtin; refine wpList_app rfl (.tmp 82) (.tmp 84) 23 rfl HRUN.out rfl rfl ?_)
          go_roundw
          case rel => exact ⟨k + 1, _, by omega, by go_num, by rw [HTK.out, HTQ.out]; exact HG1.out, HG2.out⟩
          case measure => simp [intOf]; omega
    · obtain rfl : k = p.blocks.length := by omega
      have hBF := HBA.out
      rw [List.take_length] at hBF
      have hxf : (wr.setCell ⟨w.heap.size, 2, none⟩ (.slice LA p.blocks.length lc)).heap[w.heap.size]? = some (.cells #[.int .i64 p.temps, (.slice AA p.arrays.length ac), .slice LA p.blocks.length lc, .int .i64 p.inp, .int .i64 p.out] 25 (0, 0)) := blk_set HXR.out 2 _
      have hr1 := (HBW.out.block (w.heap.size + 1) (by rw [HZ1.out]; omega)).trans HX1.out
      have hB5 := ((HB1.out.trans (HBW.out.mono HB1.out.size)).setCell (p := ⟨w.heap.size, 2, none⟩) (Nat.le_refl _) (.slice LA p.blocks.length lc))
      have hbl5 := hBF.setLow ⟨w.heap.size, 2, none⟩ (.slice LA p.blocks.length lc) (by show w.heap.size < _; rw [HZ1.out]; omega)
      have hr5 := ((grown_setCell wr ⟨w.heap.size, 2, none⟩ (.slice LA p.blocks.length lc)).block (w.heap.size + 1) (lt_of_blk hr1) (fun e => by injection e with e; have e2 : w.heap.size + 1 = w.heap.size := e; omega)).trans hr1
      obtain ⟨c0, c1, c2, c3, c4, f2⟩ := ir_cells_at HXR.out
      obtain ⟨g0, g1, g2, g3, g4, g5⟩ := ir_cells_at hxf
      have r0 := cell_of_blk hr5 0
      have r1 := cell_of_blk hr5 1
      have r2 := cell_of_blk hr5 2
      have r3 := cell_of_blk hr5 3
      have r4 := cell_of_blk hr5 4
      obtain ⟨r0, t0⟩ := r0
      obtain ⟨r1, t1⟩ := r1
      obtain ⟨r2, t2⟩ := r2
      obtain ⟨r3, t3⟩ := r3
      obtain ⟨r4, t4⟩ := r4
      have HR5 := Lib.hid hr5
      have HB5 := Lib.hid hB5
      have HBL5 := Lib.hid hbl5
      clear hr5 hB5 hbl5 hr1 hBF hxf
      go_wp2_with fail
      generalize wr.setCell ⟨w.heap.size, 2, none⟩ (.slice LA p.blocks.length lc) = w5 at *
      have hr6 := blk_set (blk_set (blk_set (blk_set (blk_set HR5.out 0 (.int .i64 p.temps)) 1 (.slice AA p.arrays.length ac)) 2 (.slice LA p.blocks.length lc)) 3 (.int .i64 p.inp)) 4 (.int .i64 p.out)
      have hB6 := ((((HB5.out.setCell (p := ⟨w.heap.size + 1, 0, none⟩) (by show w.heap.size ≤ w.heap.size + 1; omega) (.int .i64 p.temps)).setCell (p := ⟨w.heap.size + 1, 1, none⟩) (by show w.heap.size ≤ w.heap.size + 1; omega) (.slice AA p.arrays.length ac)).setCell (p := ⟨w.heap.size + 1, 2, none⟩) (by show w.heap.size ≤ w.heap.size + 1; omega) (.slice LA p.blocks.length lc)).setCell (p := ⟨w.heap.size + 1, 3, none⟩) (by show w.heap.size ≤ w.heap.size + 1; omega) (.int .i64 p.inp)).setCell (p := ⟨w.heap.size + 1, 4, none⟩) (by show w.heap.size ≤ w.heap.size + 1; omega) (.int .i64 p.out)
      have hlow : w.heap.size + 1 < w1.heap.size := by rw [HZ1.out]; omega
      have hl6 := ((((HBL5.out.setLow ⟨w.heap.size + 1, 0, none⟩ (.int .i64 p.temps) hlow).setLow ⟨w.heap.size + 1, 1, none⟩ (.slice AA p.arrays.length ac) hlow).setLow ⟨w.heap.size + 1, 2, none⟩ (.slice LA p.blocks.length lc) hlow).setLow ⟨w.heap.size + 1, 3, none⟩ (.int .i64 p.inp) hlow).setLow ⟨w.heap.size + 1, 4, none⟩ (.int .i64 p.out) hlow
      generalize ((((w5.setCell ⟨w.heap.size + 1, 0, none⟩ (.int .i64 p.temps)).setCell ⟨w.heap.size + 1, 1, none⟩ (.slice AA p.arrays.length ac)).setCell ⟨w.heap.size + 1, 2, none⟩ (.slice LA p.blocks.length lc)).setCell ⟨w.heap.size + 1, 3, none⟩ (.int .i64 p.inp)).setCell ⟨w.heap.size + 1, 4, none⟩ (.int .i64 p.out) = w6 at *
      have k0 : w6.cell? ⟨w.heap.size + 1, 0, none⟩ = some (.int .i64 p.temps) := (cell_of_blk hr6 0).1
      have k1 : w6.cell? ⟨w.heap.size + 1, 1, none⟩ = some (.slice AA p.arrays.length ac) := (cell_of_blk hr6 1).1
      have k2 : w6.cell? ⟨w.heap.size + 1, 2, none⟩ = some (.slice LA p.blocks.length lc) := (cell_of_blk hr6 2).1
      have k3 : w6.cell? ⟨w.heap.size + 1, 3, none⟩ = some (.int .i64 p.inp) := (cell_of_blk hr6 3).1
      have k4 : w6.cell? ⟨w.heap.size + 1, 4, none⟩ = some (.int .i64 p.out) := (cell_of_blk hr6 4).1
      clear hr6 g0 g1 g2 g3 g4 g5 r0 r1 r2 r3 r4 t0 t1 t2 t3 t4 c0 c1 c2 c3 c4 f2
      refine bodyPost_ret (v := .agg #[.int .i64 p.temps, (.slice AA p.arrays.length ac), .slice LA p.blocks.length lc, .int .i64 p.inp, .int .i64 p.out]) (by simp [results, Try.results44, go_sem, k0, k1, k2, k3, k4]; try rfl) rfl ?_
      exact ⟨.slice LA p.blocks.length lc, ovs, rfl, by have h := hl6.more (show w.heap.size ≤ w1.heap.size by omega); rw [List.length_map] at h; exact h, hB6⟩
end Go.Proofs.Ytiaimceefkdchaa
