/- Parts of a proof. No condition but those that each theorem names. -/
import Derived.WalkKit
import Derived.OpenShut
import Derived.Below
import Derived.Lib.Hide
import Derived.Laws.OwnMore
import Derived.Deep.QuietTactic
import Derived.Deep.AppendLies
import Derived.ProofKit
import Derived.SizedLaws
import Derived.Test.YtfadeipdepamlaaProg
import Derived.Handy
import Derived.Deep.RegionHeld3
import Derived.BigQuiet
import Derived.Maps.AppendAt
import Derived.Maps.RangeWalk
import Derived.Maps.OwnSet
import Derived.StillTailTactics
import Derived.Laws.CopyOwn
import Derived.Lib.BufferWrite
import Derived.OrdersHeld
import Derived.RegionTactic
import Derived.Deep.DeepCutAuto
import Derived.Test.YtfadeipdepamlaaSdG0e0
import Derived.Test.YtfadeipdepamlaaSdG0e1
import Derived.Test.YtfadeipdepamlaaSdIr
import Derived.Test.YtfadeipdepamlaaSdG1e2
import Derived.Test.YtfadeipdepamlaaSdG1e4
import Derived.Test.YtfadeipdepamlaaSdIrC
import Derived.Test.YtfadeipdepamlaaSdG2e5
import Derived.Test.YtfadeipdepamlaaSdG2e6
import Derived.Test.YtfadeipdepamlaaSdG2e10
import Derived.Test.YtfadeipdepamlaaSdG0e11
import Derived.Test.YtfadeipdepamlaaSdG2e13
import Derived.Test.YtfadeipdepamlaaSdCopB
import Derived.Test.YtfadeipdepamlaaSdG3e14
namespace Go.Proofs.Ytfadeipdepamlaa
open Go.RowKit Go.Maps
set_option linter.unusedVariables false
def BlPost (b : Blk) (w : World) (e : Ending) (w' : World) : Prop :=
  ∃ A c, e = .returned (.agg #[.slice A b.ops.length c, .int .i64 b.term.kind, .int .i64 b.term.a, .int .i64 b.term.yes, .int .i64 b.term.no]) ∧ w'.ownsRow w.heap.size 41 6 (.slice A b.ops.length c) b.ops.length (opsCells b.ops) ∧ Below w.heap.size w w'
def MapR (f : Int → Option Int) : Prop := ∀ k v, f k = some v → IntR v
theorem cpOf_r {f : Int → Option Int} (h : MapR f) {t : Int} (ht : IntR t) : IntR (cpOf f t) := by
  unfold cpOf
  cases e : f t with
  | none => exact ht
  | some v => exact h t v e
theorem cpOp_fine {f : Int → Option Int} (h : MapR f) {o : Opn} (ho : o.fine) : (cpOp f o).fine := by
  obtain ⟨h1, h2, h3, h4, h5, h6⟩ := ho
  refine ⟨h1, h2, ?_, ?_, ?_, h6⟩ <;> (unfold cpOp; simp only; split)
  · exact cpOf_r h h3
  · exact h3
  · exact cpOf_r h h4
  · exact h4
  · exact cpOf_r h h5
  · exact h5
theorem cpForget_r {f : Int → Option Int} (h : MapR f) (t : Int) : MapR (cpForget f t) := by
  intro k v e
  unfold cpForget at e
  split at e
  · cases e
  · split at e
    · cases e
    · exact h k v e
theorem cpMap_r {f : Int → Option Int} (h : MapR f) {o : Opn} (ho : o.fine) : MapR (cpMap f o) := by
  unfold cpMap
  split
  · split
    · intro k v e
      unfold upd at e
      split at e
      · injection e with e; subst e; exact ho.2.2.1
      · exact cpForget_r h _ k v e
    · exact cpForget_r h _
  · exact h
theorem cpList_r (l : List Opn) (hl : ∀ o ∈ l, o.fine) : MapR (cpList l).1 := by
  have : ∀ (l : List Opn) (s : (Int → Option Int) × List Opn), MapR s.1 → (∀ o ∈ l, o.fine) → MapR (l.foldl cpStep s).1 := by
    intro l
    induction l with
    | nil => intro s h _; exact h
    | cons o l ih =>
      intro s h hl
      rw [List.foldl_cons]
      exact ih _ (cpMap_r h (cpOp_fine h (hl o (by simp)))) (fun x hx => hl x (by simp [hx]))
  exact this l _ (fun k v e => by cases e) hl
set_option maxRecDepth 100000 in
set_option maxHeartbeats 8000000 in
theorem cop_block (OA : Option Addr) (oc : Nat) (b : Blk) (hf : b.fine) (hn : b.ops.length ≤ 1048576) (w : World) (hO : SlRep opEnc w w.heap.size (.slice OA b.ops.length oc) b.ops) :
    Calls Try.prog 16 #[.agg #[.slice OA b.ops.length oc, .int .i64 b.term.kind, .int .i64 b.term.a, .int .i64 b.term.yes, .int .i64 b.term.no]] w (BlPost (cpBlk b) w) := by
  obtain ⟨ops, trm⟩ := b
  obtain ⟨tk, ta, ty, tn⟩ := trm
  obtain ⟨_, hfo, _, hta, _, _⟩ := hf
  simp only at hn hfo hta hO ⊢
  have HO := Lib.hid hO
  have HFO := Lib.hid hfo
  have HFR := Lib.hid (fun k => cpList_r (ops.take k) (fun o ho => hfo o (List.mem_of_mem_take ho)))
  have HTA := Lib.hid (intR_lit hta)
  obtain ⟨a1, a2, a3, a4, a5, a6⟩ := alloc4 w (.cells #[.slice OA ops.length oc, .int .i64 tk, .int .i64 ta, .int .i64 ty, .int .i64 tn] 39) (.cells #[.slice none 0 0, .int .i64 0, .int .i64 0, .int .i64 0, .int .i64 0] 39) (.map #[] 0) (.cells #[.slice none 0 0, .int .i64 0, .int .i64 0, .int .i64 0, .int .i64 0] 39)
  have hmap : MapAt ((((w.alloc (.cells #[.slice OA ops.length oc, .int .i64 tk, .int .i64 ta, .int .i64 ty, .int .i64 tn] 39)).alloc (.cells #[.slice none 0 0, .int .i64 0, .int .i64 0, .int .i64 0, .int .i64 0] 39)).alloc (.map #[] 0)).alloc (.cells #[.slice none 0 0, .int .i64 0, .int .i64 0, .int .i64 0, .int .i64 0] 39)) (w.heap.size + 1 + 1) 0 (cpList (ops.take 0)).1 := by
    have e2 := alloc_size _ (.cells #[.slice none 0 0, .int .i64 0, .int .i64 0, .int .i64 0, .int .i64 0] 39) (alloc_size w (.cells #[.slice OA ops.length oc, .int .i64 tk, .int .i64 ta, .int .i64 ty, .int .i64 tn] 39) rfl)
    have h := map_made ((w.alloc (.cells #[.slice OA ops.length oc, .int .i64 tk, .int .i64 ta, .int .i64 ty, .int .i64 tn] 39)).alloc (.cells #[.slice none 0 0, .int .i64 0, .int .i64 0, .int .i64 0, .int .i64 0] 39))
    rw [e2] at h
    exact h.below (bnew _ _)
  have hcp : CpAt w w.heap.size ((((w.alloc (.cells #[.slice OA ops.length oc, .int .i64 tk, .int .i64 ta, .int .i64 ty, .int .i64 tn] 39)).alloc (.cells #[.slice none 0 0, .int .i64 0, .int .i64 0, .int .i64 0, .int .i64 0] 39)).alloc (.map #[] 0)).alloc (.cells #[.slice none 0 0, .int .i64 0, .int .i64 0, .int .i64 0, .int .i64 0] 39)) #[.slice OA ops.length oc, .int .i64 tk, .int .i64 ta, .int .i64 ty, .int .i64 tn] (.slice none 0 0) [] (cpList (ops.take 0)).1 0 := ⟨a1, a2, hmap, a4, World.ownsRow_nil _ _ _ _, a6, by rw [a5]; omega⟩
  have HCP := Lib.hid hcp
  have HPL : Hid (∀ f' l', cpList ops = (f', l') → cpBlk ⟨ops, tk, ta, ty, tn⟩ = ⟨l', tk, if tk = 2 then cpOf f' ta else ta, ty, tn⟩) := Lib.hid (fun f' l' e => by unfold cpBlk cpTrm; simp only; rw [e])
  have hmm := @run_makeMap Try.prog
  generalize hPO : BlPost (cpBlk ⟨ops, tk, ta, ty, tn⟩) w = PO
  have HPO := Lib.hid hPO
  clear hPO hmap hcp a1 a2 a3 a4 a5 a6 hfo hta hO
  go_enter Try.func16, Try.ntmps16
  go_wp2_with fail
  generalize (((w.alloc (.cells #[.slice OA ops.length oc, .int .i64 tk, .int .i64 ta, .int .i64 ty, .int .i64 tn] 39)).alloc (.cells #[.slice none 0 0, .int .i64 0, .int .i64 0, .int .i64 0, .int .i64 0] 39)).alloc (.map #[] 0)).alloc (.cells #[.slice none 0 0, .int .i64 0, .int .i64 0, .int .i64 0, .int .i64 0] 39) = w4 at *
  go_loopw [11] (fun vi wr => ∃ (k n : Nat) (ov : Value), k ≤ ops.length ∧ n ≤ k ∧ vi = .int .i64 k ∧ CpAt w w.heap.size wr #[.slice OA ops.length oc, .int .i64 tk, .int .i64 ta, .int .i64 ty, .int .i64 tn] ov (cpList (ops.take k)).2 (cpList (ops.take k)).1 n) (fun vi _ => ops.length - (intOf vi).toNat)
  case atStart => exact ⟨0, 0, _, Nat.zero_le _, Nat.le_refl _, rfl, HCP.out⟩
  case round =>
    obtain ⟨k, n, ov, hk, hnk, rfl, hC⟩ := hrel
    have HC := Lib.hid hC
    by_cases hlt : k < ops.length
    · obtain ⟨ob, ooff, rfl, hob, x0, x1, x2, x3, x4, x5⟩ := op_at (HO.out.below hC.bel (Nat.le_refl _)) k hlt
      have hff := HFO.out _ (getD_memI ops k opNone hlt)
      have HSN : Hid (cpList (ops.take (k + 1)) = cpStep (cpList (ops.take k)) (ops.getD k opNone)) := Lib.hid (by rw [take_succ_getD ops k opNone hlt, cpList_snoc])
      have hlen := cpList_len (ops.take k)
      rw [List.length_take, Nat.min_eq_left hk] at hlen
      have HR := Lib.hid (HFR.out k)
      have k0 : (0 : Int) ≤ (k : Int) := by omega
      have k1 : (k : Int) < (ops.length : Int) := by omega
      generalize ops.getD k opNone = o at *
      generalize cpList (ops.take k) = S at *
      obtain ⟨f, l⟩ := S
      unfold cpStep at HSN
      have HOPC := Lib.hid (fun W h => cop_op (w.heap.size + 1 + 1) n f o hff W h)
      have hfc := cpOp_fine HR.out hff
      unfold opVal CopPost at HOPC
      unfold opVal at HOPC
      have hlen2 : l.length = k := hlen
      have HMK := Lib.hid (fun W => ir_Makes (cpOp f o) W)
      unfold opVal at HMK
      have hfc2 := cpMap_r HR.out hfc
      generalize cpOp f o = q at *
      have HC1 := Lib.hid (HC.out.below (bnew wr (.cells #[.int .i64 o.kind, .int .i64 o.dst, .int .i64 o.a, .int .i64 o.b, .int .i64 o.c, .int .i64 o.imm] 41)))
      have hX1 := heap_alloc_new wr (.cells #[.int .i64 o.kind, .int .i64 o.dst, .int .i64 o.a, .int .i64 o.b, .int .i64 o.c, .int .i64 o.imm] 41)
      have HB1 := Lib.hid (bnew wr (.cells #[.int .i64 o.kind, .int .i64 o.dst, .int .i64 o.a, .int .i64 o.b, .int .i64 o.c, .int .i64 o.imm] 41))
      have HSZ : Hid (w.heap.size + 4 ≤ wr.heap.size) := Lib.hid HC.out.siz
      have HNE : Hid (ov.ownBlock ≠ some wr.heap.size) := Lib.hid (fun e => by have := (HC.out.row.lt _ e).2; omega)
      have HFQ := Lib.hid hfc
      clear hC hff hfc hfc2
      go_wp2_with fail
      generalize wr.alloc (.cells #[.int .i64 o.kind, .int .i64 o.dst, .int .i64 o.a, .int .i64 o.b, .int .i64 o.c, .int .i64 o.imm] 41) = w1 at *
      refine (HOPC.out _ HC1.out.mp).mono ?_
      rintro e w2 ⟨rfl, hb2⟩
      have hX2 := (hb2.block _ (lt_of_blk hX1)).trans hX1
      have HC2 := Lib.hid (HC1.out.below hb2)
      have hC6 := ((((((HC2.out).setOther ⟨wr.heap.size, 0, none⟩ (.int .i64 q.kind) HSZ.out HNE.out).setOther ⟨wr.heap.size, 1, none⟩ (.int .i64 q.dst) HSZ.out HNE.out).setOther ⟨wr.heap.size, 2, none⟩ (.int .i64 q.a) HSZ.out HNE.out).setOther ⟨wr.heap.size, 3, none⟩ (.int .i64 q.b) HSZ.out HNE.out).setOther ⟨wr.heap.size, 4, none⟩ (.int .i64 q.c) HSZ.out HNE.out).setOther ⟨wr.heap.size, 5, none⟩ (.int .i64 q.imm) HSZ.out HNE.out
      have hX6 : ((((((w2.setCell ⟨wr.heap.size, 0, none⟩ (.int .i64 q.kind)).setCell ⟨wr.heap.size, 1, none⟩ (.int .i64 q.dst)).setCell ⟨wr.heap.size, 2, none⟩ (.int .i64 q.a)).setCell ⟨wr.heap.size, 3, none⟩ (.int .i64 q.b)).setCell ⟨wr.heap.size, 4, none⟩ (.int .i64 q.c)).setCell ⟨wr.heap.size, 5, none⟩ (.int .i64 q.imm)).heap[wr.heap.size]? = some (.cells #[.int .i64 q.kind, .int .i64 q.dst, .int .i64 q.a, .int .i64 q.b, .int .i64 q.c, .int .i64 q.imm] 41 (0, 0)) := blk_set (blk_set (blk_set (blk_set (blk_set (blk_set (hX2) 0 (.int .i64 q.kind)) 1 (.int .i64 q.dst)) 2 (.int .i64 q.a)) 3 (.int .i64 q.b)) 4 (.int .i64 q.c)) 5 (.int .i64 q.imm)
      obtain ⟨d0, f0⟩ := cell_of_blk hX2 0
      obtain ⟨d1, f1⟩ := cell_of_blk hX2 1
      obtain ⟨d2, f2⟩ := cell_of_blk hX2 2
      obtain ⟨d3, f3⟩ := cell_of_blk hX2 3
      obtain ⟨d4, f4⟩ := cell_of_blk hX2 4
      obtain ⟨d5, f5⟩ := cell_of_blk hX2 5
      clear hX1 hb2 x0 x1 x2 x3 x4 x5
      have HX6 := Lib.hid hX6
      have HC6 := Lib.hid hC6
      clear hX6 hC6 hX2
      go_upto_region 7 with (fail)
      clear d0 d1 d2 d3 d4 d5 f0 f1 f2 f3 f4 f5
      have hse : ((((((w2.setCell ⟨wr.heap.size, 0, none⟩ (.int .i64 q.kind)).setCell ⟨wr.heap.size, 1, none⟩ (.int .i64 q.dst)).setCell ⟨wr.heap.size, 2, none⟩ (.int .i64 q.a)).setCell ⟨wr.heap.size, 3, none⟩ (.int .i64 q.b)).setCell ⟨wr.heap.size, 4, none⟩ (.int .i64 q.c)).setCell ⟨wr.heap.size, 5, none⟩ (.int .i64 q.imm)).heap.size = w2.heap.size := by simp [World.setCell]
      generalize (((((w2.setCell ⟨wr.heap.size, 0, none⟩ (.int .i64 q.kind)).setCell ⟨wr.heap.size, 1, none⟩ (.int .i64 q.dst)).setCell ⟨wr.heap.size, 2, none⟩ (.int .i64 q.a)).setCell ⟨wr.heap.size, 3, none⟩ (.int .i64 q.b)).setCell ⟨wr.heap.size, 4, none⟩ (.int .i64 q.c)).setCell ⟨wr.heap.size, 5, none⟩ (.int .i64 q.imm) = w6 at *
      obtain ⟨QA, qc, rfl⟩ := ownN_len HC6.out.row
      have o0 := (cell_of_blk HC6.out.bO 0).1
      obtain ⟨e0, e1, e2, e3, e4, e5, _, _, _, _⟩ := op_cells_at HX6.out
      obtain ⟨v', w3, hrun, p1, p2, hC8, hK8, ⟨VA, vc, rfl⟩, _⟩ := HC6.out.push q (by omega)
      have hX8 := hK8 HX6.out HSZ.out HNE.out
      rw [hlen2] at hrun o0 p1 hC8 hX8
      have HRUN := Lib.hid hrun
      have HC8 := Lib.hid hC8
      have HX8 := Lib.hid hX8
      obtain ⟨g0, g1, g2, g3, g4, g5, _, _, _, _⟩ := op_cells_at hX8
      clear hrun hC8 hX8 hK8 hse
      go_wp2_with (at_builtin; refine wpList_app rfl (.tmp 19) (.tmp 21) 34 rfl HRUN.out rfl rfl ?_)
      clear e0 e1 e2 e3 e4 e5 o0 p1 p2 HRUN
      generalize w3.setCell ⟨w.heap.size + 1 + 1 + 1, 0, none⟩ (.slice VA (k + 1) vc) = w8 at *
      refine (HMK.out _).mono ?_
      rintro e w9 ⟨rfl, hb9⟩
      have HC9 := Lib.hid (HC8.out.below hb9)
      have hX9 := (hb9.block _ (lt_of_blk HX8.out)).trans HX8.out
      clear g0 g1 g2 g3 g4 g5 hb9
      obtain ⟨g0, g1, g2, g3, g4, g5, _, _, _, _⟩ := op_cells_at hX9
      have HX9 := Lib.hid hX9
      clear hX9
      by_cases hmk : fDst q.kind = true
      · rw [hmk]
        have hfg := HFQ.out.2.1
        go_wp2_with fail
        refine (cop_forget (w.heap.size + 1 + 1) n f q.dst (intR_lit hfg) _ HC9.out.mp).mono ?_
        rintro e w10 ⟨rfl, hm10, hg10⟩
        have HC10 := Lib.hid (HC9.out.map hg10 hm10)
        have hX10 := (hg10.block _ (lt_of_blk HX9.out) (fun e => by injection e with e; have h4 := HSZ.out; omega)).trans HX9.out
        clear g0 g1 g2 g3 g4 g5 hm10 hg10
        obtain ⟨g0, g1, g2, g3, g4, g5, _, _, _, _⟩ := op_cells_at hX10
        clear hX10
        by_cases hk2 : q.kind = 2
        · have q2 : (q.kind == 2) = true := by rw [beq_iff_eq]; exact hk2
          by_cases had : q.a = q.dst
          · have qad : (q.a != q.dst) = false := by rw [bne_eq_false_iff_eq]; exact had
            have hcm : cpMap f q = cpForget f q.dst := by unfold cpMap; rw [if_pos hmk, if_neg (fun h => h.2 had)]
            have HSN2 : Hid (cpList (ops.take (k + 1)) = (cpForget f q.dst, l ++ [q])) := Lib.hid (by rw [← hcm]; exact HSN.out)
            have HAD := Lib.hid had
            clear hk2 had hcm hmk
            go_wp2_with fail
            go_roundw
            case rel => exact ⟨k + 1, n, _, by omega, by omega, by go_num, by rw [HSN2.out]; exact HC10.out⟩
            case measure => simp [intOf]; omega
          · have qad : (q.a != q.dst) = true := by rw [bne_iff_ne]; exact had
            have hcm : cpMap f q = upd (cpForget f q.dst) q.dst q.a := by unfold cpMap; rw [if_pos hmk, if_pos ⟨hk2, had⟩]
            have HSN2 : Hid (cpList (ops.take (k + 1)) = (upd (cpForget f q.dst) q.dst q.a, l ++ [q])) := Lib.hid (by rw [← hcm]; exact HSN.out)
            have hwa := intR_lit HFQ.out.2.2.1
            obtain ⟨D, hown, hget⟩ := HC10.out.mp
            have hisM := hown.isMap
            have HGET := Lib.hid hget
            clear hk2 had hcm hmk hget
            go_wp2_with (first
              | (at_mapUpdate; refine wpList_mapUpdate_own _ rfl _ _ _ 61 rfl 3 3 law3 Try.underlying61 _ (w.heap.size + 1 + 1) n _ rfl hown (by unfold maxLen; omega) _ _ _ rfl rfl (keyOf_int_mk Try.underlying3 (intR_lit hfg)) _ [] (plainElem_int Try.underlying3 hwa) ?_; intro w11 hown11 hgrow11)
              | go_in)
            have HC11 := Lib.hid (HC10.out.map hgrow11 ⟨_, hown11, fun j => by rw [mget_put hisM, HGET.out j]⟩)
            go_roundw
            case rel => exact ⟨k + 1, n + 1, _, by omega, by omega, by go_num, by rw [HSN2.out]; exact HC11.out⟩
            case measure => simp [intOf]; omega
        · have q2 : (q.kind == 2) = false := by rw [beq_eq_false_iff_ne]; exact hk2
          have hcm : cpMap f q = cpForget f q.dst := by unfold cpMap; rw [if_pos hmk, if_neg (fun h => hk2 h.1)]
          have HSN2 : Hid (cpList (ops.take (k + 1)) = (cpForget f q.dst, l ++ [q])) := Lib.hid (by rw [← hcm]; exact HSN.out)
          clear hk2 hcm hmk
          go_wp2_with fail
          go_roundw
          case rel => exact ⟨k + 1, n, _, by omega, by omega, by go_num, by rw [HSN2.out]; exact HC10.out⟩
          case measure => simp [intOf]; omega
      · have hmk2 : fDst q.kind = false := by simpa using hmk
        have hcm : cpMap f q = f := by unfold cpMap; rw [if_neg hmk]
        have HSN2 : Hid (cpList (ops.take (k + 1)) = (f, l ++ [q])) := Lib.hid (by rw [← hcm]; exact HSN.out)
        rw [hmk2]
        clear hmk hmk2 hcm
        go_wp2_with fail
        go_roundw
        case rel => exact ⟨k + 1, n, _, by omega, by omega, by go_num, by rw [HSN2.out]; exact HC9.out⟩
        case measure => simp [intOf]; omega
    · obtain rfl : k = ops.length := by omega
      have hlen := cpList_len ops
      rw [List.take_length] at hC
      clear HC
      generalize cpList ops = S at *
      obtain ⟨f, l⟩ := S
      have hpl := HPL.out f l rfl
      rw [hpl] at HPO
      have hlen : l.length = ops.length := hlen
      obtain ⟨QA, qc, rfl⟩ := ownN_len hC.row
      have hC : CpAt w w.heap.size wr #[.slice OA ops.length oc, .int .i64 tk, .int .i64 ta, .int .i64 ty, .int .i64 tn] (.slice QA l.length qc) l f n := hC
      have HC := Lib.hid hC
      obtain ⟨x0, x1, x2, x3, x4, _, _⟩ := blk_cells_at hC.bX
      obtain ⟨y1, t1⟩ := cell_of_blk hC.bO 1
      obtain ⟨y2, t2⟩ := cell_of_blk hC.bO 2
      obtain ⟨y3, t3⟩ := cell_of_blk hC.bO 3
      obtain ⟨y4, t4⟩ := cell_of_blk hC.bO 4
      clear hC hpl
      go_upto_region 14 with (fail)
      have hO5 := blk_set (blk_set (blk_set (blk_set HC.out.bO 1 (.int .i64 tk)) 2 (.int .i64 ta)) 3 (.int .i64 ty)) 4 (.int .i64 tn)
      have hX5 := blk_far (blk_far (blk_far (blk_far HC.out.bX ⟨w.heap.size + 1 + 1 + 1, 1, none⟩ (.int .i64 tk) (by show w.heap.size + 1 + 1 + 1 ≠ w.heap.size; omega)) ⟨w.heap.size + 1 + 1 + 1, 2, none⟩ (.int .i64 ta) (by show w.heap.size + 1 + 1 + 1 ≠ w.heap.size; omega)) ⟨w.heap.size + 1 + 1 + 1, 3, none⟩ (.int .i64 ty) (by show w.heap.size + 1 + 1 + 1 ≠ w.heap.size; omega)) ⟨w.heap.size + 1 + 1 + 1, 4, none⟩ (.int .i64 tn) (by show w.heap.size + 1 + 1 + 1 ≠ w.heap.size; omega)
      have hR5 := blk_far (blk_far (blk_far (blk_far HC.out.bR ⟨w.heap.size + 1 + 1 + 1, 1, none⟩ (.int .i64 tk) (by show w.heap.size + 1 + 1 + 1 ≠ w.heap.size + 1; omega)) ⟨w.heap.size + 1 + 1 + 1, 2, none⟩ (.int .i64 ta) (by show w.heap.size + 1 + 1 + 1 ≠ w.heap.size + 1; omega)) ⟨w.heap.size + 1 + 1 + 1, 3, none⟩ (.int .i64 ty) (by show w.heap.size + 1 + 1 + 1 ≠ w.heap.size + 1; omega)) ⟨w.heap.size + 1 + 1 + 1, 4, none⟩ (.int .i64 tn) (by show w.heap.size + 1 + 1 + 1 ≠ w.heap.size + 1; omega)
      have hM5 := (((HC.out.mp.setCell ⟨w.heap.size + 1 + 1 + 1, 1, none⟩ (.int .i64 tk) (by show w.heap.size + 1 + 1 + 1 ≠ w.heap.size + 1 + 1; omega)).setCell ⟨w.heap.size + 1 + 1 + 1, 2, none⟩ (.int .i64 ta) (by show w.heap.size + 1 + 1 + 1 ≠ w.heap.size + 1 + 1; omega)).setCell ⟨w.heap.size + 1 + 1 + 1, 3, none⟩ (.int .i64 ty) (by show w.heap.size + 1 + 1 + 1 ≠ w.heap.size + 1 + 1; omega)).setCell ⟨w.heap.size + 1 + 1 + 1, 4, none⟩ (.int .i64 tn) (by show w.heap.size + 1 + 1 + 1 ≠ w.heap.size + 1 + 1; omega)
      have hW5 := own_setCell (own_setCell (own_setCell (own_setCell HC.out.row ⟨w.heap.size + 1 + 1 + 1, 1, none⟩ (.int .i64 tk) (by show w.heap.size + 1 + 1 + 1 < w.heap.size + 4; omega)) ⟨w.heap.size + 1 + 1 + 1, 2, none⟩ (.int .i64 ta) (by show w.heap.size + 1 + 1 + 1 < w.heap.size + 4; omega)) ⟨w.heap.size + 1 + 1 + 1, 3, none⟩ (.int .i64 ty) (by show w.heap.size + 1 + 1 + 1 < w.heap.size + 4; omega)) ⟨w.heap.size + 1 + 1 + 1, 4, none⟩ (.int .i64 tn) (by show w.heap.size + 1 + 1 + 1 < w.heap.size + 4; omega)
      have hB5 := (((HC.out.bel.setCell (p := ⟨w.heap.size + 1 + 1 + 1, 1, none⟩) (by show w.heap.size ≤ w.heap.size + 1 + 1 + 1; omega) (.int .i64 tk)).setCell (p := ⟨w.heap.size + 1 + 1 + 1, 2, none⟩) (by show w.heap.size ≤ w.heap.size + 1 + 1 + 1; omega) (.int .i64 ta)).setCell (p := ⟨w.heap.size + 1 + 1 + 1, 3, none⟩) (by show w.heap.size ≤ w.heap.size + 1 + 1 + 1; omega) (.int .i64 ty)).setCell (p := ⟨w.heap.size + 1 + 1 + 1, 4, none⟩) (by show w.heap.size ≤ w.heap.size + 1 + 1 + 1; omega) (.int .i64 tn)
      clear x0 x1 x2 x3 x4 y1 y2 y3 y4 t1 t2 t3 t4
      generalize (((wr.setCell ⟨w.heap.size + 1 + 1 + 1, 1, none⟩ (.int .i64 tk)).setCell ⟨w.heap.size + 1 + 1 + 1, 2, none⟩ (.int .i64 ta)).setCell ⟨w.heap.size + 1 + 1 + 1, 3, none⟩ (.int .i64 ty)).setCell ⟨w.heap.size + 1 + 1 + 1, 4, none⟩ (.int .i64 tn) = w5 at *
      have HW5 := Lib.hid hW5
      have HR5 := Lib.hid hR5
      have HB5 := Lib.hid hB5
      have HM5 := Lib.hid hM5
      clear hM5 hW5 hR5 hB5
      by_cases hk2 : tk = 2
      · have q2 : (tk == 2) = true := by rw [beq_iff_eq]; exact hk2
        rw [if_pos hk2] at HPO
        obtain ⟨x0, x1, x2, x3, x4, _, _⟩ := blk_cells_at hX5
        obtain ⟨y2, t2⟩ := cell_of_blk hO5 2
        have HO5 := Lib.hid hO5
        clear hX5 hO5 hk2
        go_wp2_with fail
        refine (cop_of (w.heap.size + 1 + 1) n f ta HTA.out _ HM5.out).mono ?_
        rintro e w6 ⟨rfl, rfl⟩
        go_upto_region 16 with (fail)
        have hO6 := blk_set HO5.out 2 (.int .i64 (cpOf f ta))
        have hR6 := blk_far HR5.out ⟨w.heap.size + 1 + 1 + 1, 2, none⟩ (.int .i64 (cpOf f ta)) (by show w.heap.size + 1 + 1 + 1 ≠ w.heap.size + 1; omega)
        have hW6 := own_setCell HW5.out ⟨w.heap.size + 1 + 1 + 1, 2, none⟩ (.int .i64 (cpOf f ta)) (by show w.heap.size + 1 + 1 + 1 < w.heap.size + 4; omega)
        have hB6 := HB5.out.setCell (p := ⟨w.heap.size + 1 + 1 + 1, 2, none⟩) (by show w.heap.size ≤ w.heap.size + 1 + 1 + 1; omega) (.int .i64 (cpOf f ta))
        clear x0 x1 x2 x3 x4 y2 t2
        generalize w5.setCell ⟨w.heap.size + 1 + 1 + 1, 2, none⟩ (.int .i64 (cpOf f ta)) = w6 at *
        generalize cpOf f ta = tb at *
        have HW6 := Lib.hid hW6
        have HR6 := Lib.hid hR6
        have HB6 := Lib.hid hB6
        obtain ⟨y0, y1, y2, y3, y4, _, _⟩ := blk_cells_at hO6
        unfold zBlk at hR6 HR6
        obtain ⟨r0, s0⟩ := cell_of_blk hR6 0
        obtain ⟨r1, s1⟩ := cell_of_blk hR6 1
        obtain ⟨r2, s2⟩ := cell_of_blk hR6 2
        obtain ⟨r3, s3⟩ := cell_of_blk hR6 3
        obtain ⟨r4, s4⟩ := cell_of_blk hR6 4
        clear hW6 hR6 hB6 hO6
        go_wp2_with fail
        have hr7 := blk_set (blk_set (blk_set (blk_set (blk_set HR6.out 0 (.slice QA ops.length qc)) 1 (.int .i64 tk)) 2 (.int .i64 tb)) 3 (.int .i64 ty)) 4 (.int .i64 tn)
        have hB7 := ((((HB6.out.setCell (p := ⟨w.heap.size + 1, 0, none⟩) (by show w.heap.size ≤ w.heap.size + 1; omega) (.slice QA ops.length qc)).setCell (p := ⟨w.heap.size + 1, 1, none⟩) (by show w.heap.size ≤ w.heap.size + 1; omega) (.int .i64 tk)).setCell (p := ⟨w.heap.size + 1, 2, none⟩) (by show w.heap.size ≤ w.heap.size + 1; omega) (.int .i64 tb)).setCell (p := ⟨w.heap.size + 1, 3, none⟩) (by show w.heap.size ≤ w.heap.size + 1; omega) (.int .i64 ty)).setCell (p := ⟨w.heap.size + 1, 4, none⟩) (by show w.heap.size ≤ w.heap.size + 1; omega) (.int .i64 tn)
        have hlo : w.heap.size + 1 < w.heap.size + 4 := by omega
        have hW7 := own_setCell (own_setCell (own_setCell (own_setCell (own_setCell HW6.out ⟨w.heap.size + 1, 0, none⟩ (.slice QA ops.length qc) hlo) ⟨w.heap.size + 1, 1, none⟩ (.int .i64 tk) hlo) ⟨w.heap.size + 1, 2, none⟩ (.int .i64 tb) hlo) ⟨w.heap.size + 1, 3, none⟩ (.int .i64 ty) hlo) ⟨w.heap.size + 1, 4, none⟩ (.int .i64 tn) hlo
        generalize ((((w6.setCell ⟨w.heap.size + 1, 0, none⟩ (.slice QA ops.length qc)).setCell ⟨w.heap.size + 1, 1, none⟩ (.int .i64 tk)).setCell ⟨w.heap.size + 1, 2, none⟩ (.int .i64 tb)).setCell ⟨w.heap.size + 1, 3, none⟩ (.int .i64 ty)).setCell ⟨w.heap.size + 1, 4, none⟩ (.int .i64 tn) = w7 at *
        have k0 : w7.cell? ⟨w.heap.size + 1, 0, none⟩ = some (.slice QA ops.length qc) := (cell_of_blk hr7 0).1
        have k1 : w7.cell? ⟨w.heap.size + 1, 1, none⟩ = some (.int .i64 tk) := (cell_of_blk hr7 1).1
        have k2 : w7.cell? ⟨w.heap.size + 1, 2, none⟩ = some (.int .i64 tb) := (cell_of_blk hr7 2).1
        have k3 : w7.cell? ⟨w.heap.size + 1, 3, none⟩ = some (.int .i64 ty) := (cell_of_blk hr7 3).1
        have k4 : w7.cell? ⟨w.heap.size + 1, 4, none⟩ = some (.int .i64 tn) := (cell_of_blk hr7 4).1
        clear hr7 r0 r1 r2 r3 r4 s0 s1 s2 s3 s4 y0 y1 y2 y3 y4
        refine bodyPost_ret (v := .agg #[.slice QA ops.length qc, .int .i64 tk, .int .i64 tb, .int .i64 ty, .int .i64 tn]) (by simp [results, Try.results16, go_sem, k0, k1, k2, k3, k4]; try rfl) rfl ?_
        rw [← HPO.out]
        refine ⟨QA, qc, ?_, own_more hW7 (by omega), hB7⟩
        show _ = Ending.returned (.agg #[.slice QA l.length qc, .int .i64 tk, .int .i64 tb, .int .i64 ty, .int .i64 tn])
        rw [hlen]
      · have q2 : (tk == 2) = false := by rw [beq_eq_false_iff_ne]; exact hk2
        rw [if_neg hk2] at HPO
        obtain ⟨x0, x1, x2, x3, x4, _, _⟩ := blk_cells_at hX5
        have HO5 := Lib.hid hO5
        clear hX5 hO5 hk2
        go_upto_region 16 with (fail)
        have hO6 := HO5.out
        have hR6 := HR5.out
        have HW6 := HW5
        have HB6 := HB5
        clear x0 x1 x2 x3 x4
        unfold zBlk at hR6
        have HR6 := Lib.hid hR6
        obtain ⟨y0, y1, y2, y3, y4, _, _⟩ := blk_cells_at hO6
        obtain ⟨r0, s0⟩ := cell_of_blk hR6 0
        obtain ⟨r1, s1⟩ := cell_of_blk hR6 1
        obtain ⟨r2, s2⟩ := cell_of_blk hR6 2
        obtain ⟨r3, s3⟩ := cell_of_blk hR6 3
        obtain ⟨r4, s4⟩ := cell_of_blk hR6 4
        clear hR6 hO6
        go_wp2_with fail
        have hr7 := blk_set (blk_set (blk_set (blk_set (blk_set HR6.out 0 (.slice QA ops.length qc)) 1 (.int .i64 tk)) 2 (.int .i64 ta)) 3 (.int .i64 ty)) 4 (.int .i64 tn)
        have hB7 := ((((HB6.out.setCell (p := ⟨w.heap.size + 1, 0, none⟩) (by show w.heap.size ≤ w.heap.size + 1; omega) (.slice QA ops.length qc)).setCell (p := ⟨w.heap.size + 1, 1, none⟩) (by show w.heap.size ≤ w.heap.size + 1; omega) (.int .i64 tk)).setCell (p := ⟨w.heap.size + 1, 2, none⟩) (by show w.heap.size ≤ w.heap.size + 1; omega) (.int .i64 ta)).setCell (p := ⟨w.heap.size + 1, 3, none⟩) (by show w.heap.size ≤ w.heap.size + 1; omega) (.int .i64 ty)).setCell (p := ⟨w.heap.size + 1, 4, none⟩) (by show w.heap.size ≤ w.heap.size + 1; omega) (.int .i64 tn)
        have hlo : w.heap.size + 1 < w.heap.size + 4 := by omega
        have hW7 := own_setCell (own_setCell (own_setCell (own_setCell (own_setCell HW6.out ⟨w.heap.size + 1, 0, none⟩ (.slice QA ops.length qc) hlo) ⟨w.heap.size + 1, 1, none⟩ (.int .i64 tk) hlo) ⟨w.heap.size + 1, 2, none⟩ (.int .i64 ta) hlo) ⟨w.heap.size + 1, 3, none⟩ (.int .i64 ty) hlo) ⟨w.heap.size + 1, 4, none⟩ (.int .i64 tn) hlo
        generalize ((((w5.setCell ⟨w.heap.size + 1, 0, none⟩ (.slice QA ops.length qc)).setCell ⟨w.heap.size + 1, 1, none⟩ (.int .i64 tk)).setCell ⟨w.heap.size + 1, 2, none⟩ (.int .i64 ta)).setCell ⟨w.heap.size + 1, 3, none⟩ (.int .i64 ty)).setCell ⟨w.heap.size + 1, 4, none⟩ (.int .i64 tn) = w7 at *
        have k0 : w7.cell? ⟨w.heap.size + 1, 0, none⟩ = some (.slice QA ops.length qc) := (cell_of_blk hr7 0).1
        have k1 : w7.cell? ⟨w.heap.size + 1, 1, none⟩ = some (.int .i64 tk) := (cell_of_blk hr7 1).1
        have k2 : w7.cell? ⟨w.heap.size + 1, 2, none⟩ = some (.int .i64 ta) := (cell_of_blk hr7 2).1
        have k3 : w7.cell? ⟨w.heap.size + 1, 3, none⟩ = some (.int .i64 ty) := (cell_of_blk hr7 3).1
        have k4 : w7.cell? ⟨w.heap.size + 1, 4, none⟩ = some (.int .i64 tn) := (cell_of_blk hr7 4).1
        clear hr7 r0 r1 r2 r3 r4 s0 s1 s2 s3 s4 y0 y1 y2 y3 y4
        refine bodyPost_ret (v := .agg #[.slice QA ops.length qc, .int .i64 tk, .int .i64 ta, .int .i64 ty, .int .i64 tn]) (by simp [results, Try.results16, go_sem, k0, k1, k2, k3, k4]; try rfl) rfl ?_
        rw [← HPO.out]
        refine ⟨QA, qc, ?_, own_more hW7 (by omega), hB7⟩
        show _ = Ending.returned (.agg #[.slice QA l.length qc, .int .i64 tk, .int .i64 ta, .int .i64 ty, .int .i64 tn])
        rw [hlen]
end Go.Proofs.Ytfadeipdepamlaa
