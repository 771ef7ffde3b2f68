/- Parts of a proof. No condition but those that each theorem names. -/
import Derived.WalkKit
import Derived.OpenShut
import Derived.Below
import Derived.Lib.Hide
import Derived.Laws.OwnMore
import Derived.Deep.QuietTactic
import Derived.Deep.AppendLies
import Derived.ProofKit
import Derived.SizedLaws
import Derived.Test.YthkobddggoojlaaProg
import Derived.Handy
import Derived.Deep.RegionHeld3
import Derived.BigQuiet
import Derived.Maps.AppendAt
import Derived.Maps.RangeWalk
import Derived.Maps.OwnSet
import Derived.StillTailTactics
import Derived.Laws.CopyOwn
import Derived.Lib.BufferWrite
import Derived.OrdersHeld
import Derived.RegionTactic
import Derived.Deep.DeepCutAuto
import Derived.Test.YthkobddggoojlaaTeG0e0
import Derived.Test.YthkobddggoojlaaTeG0e1
import Derived.Test.YthkobddggoojlaaTeG0e2
import Derived.Test.YthkobddggoojlaaTeG0e4
import Derived.Test.YthkobddggoojlaaTeIrC
import Derived.Test.YthkobddggoojlaaTeG1e6
import Derived.Test.YthkobddggoojlaaTeG1e7
import Derived.Test.YthkobddggoojlaaTeG1e16
import Derived.Test.YthkobddggoojlaaTeG0e15
import Derived.Test.YthkobddggoojlaaTeG1e18
import Derived.Test.YthkobddggoojlaaTeG1e19
import Derived.Test.YthkobddggoojlaaTeG1e17
import Derived.Test.YthkobddggoojlaaTeTmC
namespace Go.Proofs.Ythkobddggoojlaa
open Go.RowKit
set_option linter.unusedVariables false
def sliceLen : Value → Nat
  | .slice _ n _ => n
  | _ => 0
set_option maxRecDepth 100000 in
set_option maxHeartbeats 2000000 in
theorem tidy_reach (l : List Blk) (hl : TdOk l) (hn : l.length ≤ 1048576) (hp : 0 < l.length) (T G V cap : Nat) (hGV : G ≠ V) (hTV : T ≠ V) (bad : List Nat) (s : List Bool) (hs : s.length = l.length) (ovs : List Value) (H : Nat) (hH : H ≤ V) (w0 w : World) (hb0 : Below H w0 w) (hT : TiBox w T G V cap l.length) (h : TmAt w G V bad l s ovs) (s0 : List Bool) (hs0 : TdIn l s0) :
    Calls Try.prog 16 #[.pointer (some ⟨T, 0, none⟩)] w fun e w' => (∃ v, e = .returned v) ∧ ReSt w H V w0 (tdNot s0) w' := by
  have HM := Lib.hid h
  have HT := Lib.hid hT
  have hVw : V < w.heap.size := h.gv.2
  have HVW := Lib.hid hVw
  have HHV := Lib.hid hH
  have HR0 : Hid (ReSt w H V w0 s w) := Lib.hid ⟨h.flag, hb0, fun q x _ h => h, Nat.le_refl _⟩
  have HTI : Hid (∀ wr g, ReSt w H V w0 g wr → TiBox wr T G V cap l.length) := Lib.hid (fun wr g hr => hr.oth T _ hTV hT)
  have HMI := Lib.hid (fun wr g (hr : ReSt w H V w0 g wr) => h.at_ hGV hr.flag hr.oth hr.siz)
  have HTG := Lib.hid (fun (x : Nat) (hx : x < l.length) W => tidy_targets l.length (l.getD x blkNone).term (hl _ (getD_memI l x blkNone hx)) W)
  have HDS := Lib.hid (TdDo.start hp)
  have HSK := Lib.hid (fun ys x g h hx => @TdDo.skip l ys x g h hx)
  have HST := Lib.hid (fun ys x g h hx => @TdDo.step l hl ys x g h hx)
  have HDN := Lib.hid (fun g h => (@TdDo.done l hl hp g h).uniq hs0)
  generalize hPO : (fun (e : Ending) (w' : World) => (∃ v, e = .returned v) ∧ ReSt w H V w0 (tdNot s0) w') = PO
  have HPO := Lib.hid hPO
  have HS := Lib.hid hs
  unfold trmVal at HTG
  clear h hT hl hPO hb0 hs0 hs hp
  have t1 := HT.out.cells.2
  go_enter Try.func16, Try.ntmps16
  go_wp2_with fail
  clear t1
  go_loopw [10] (fun vi wr => ∃ (k : Nat) (g : List Bool), k ≤ l.length ∧ vi = .int .i64 k ∧ g.length = l.length ∧ (∀ j, j < k → g.getD j false = true) ∧ ReSt w H V w0 g wr) (fun vi _ => l.length - (intOf vi).toNat)
  case atStart => exact ⟨0, s, Nat.zero_le _, rfl, HS.out, fun j hj => absurd hj (Nat.not_lt_zero j), HR0.out⟩
  case round =>
    obtain ⟨k, g, hk, rfl, hgl, hgk, hr⟩ := hrel
    have HR := Lib.hid hr
    have HGK := Lib.hid hgk
    have HGL := Lib.hid hgl
    clear hgk hr
    by_cases hkl : k < l.length
    · have t1 := (HTI.out wr g HR.out).cells.2
      have k0 : (0 : Int) ≤ (k : Int) := by omega
      have k1 : (k : Int) < (l.length : Int) := by omega
      obtain ⟨z0, z1⟩ := cell_of_blk HR.out.flag k
      rw [bools_at (show k < g.length by omega)] at z0
      have HR2 := Lib.hid (HR.out.set HHV.out k true)
      clear hgl
      go_wp2_with fail
      go_roundw
      case rel => exact ⟨k + 1, g.set k true, by omega, by go_num, by rw [List.length_set]; exact HGL.out, fun j hj => by
        rw [getD_setB g k j true false (by have := HGL.out; omega)]
        split
        · rfl
        · exact HGK.out j (by omega), HR2.out⟩
      case measure => simp [intOf]; omega
    · obtain rfl : k = l.length := by omega
      have hg : g = List.replicate l.length true := by
        refine List.ext_getElem (by rw [List.length_replicate]; exact hgl) (fun i h1 h2 => ?_)
        have := HGK.out i (by omega)
        rw [List.getD_eq_getElem?_getD, List.getElem?_eq_getElem h1] at this
        rw [List.getElem_replicate]; exact this
      subst hg
      have HR1 := Lib.hid (HR.out.below HHV.out (bnew wr (.cells #[.int .i64 0] 3)))
      have HO1 : Hid ((wr.alloc (.cells #[.int .i64 0] 3)).ownsRow w.heap.size 3 1 (.slice (some ⟨wr.heap.size, 0, none⟩) 1 1) 1 (([0] : List Int).map (.int .i64 ·))) := Lib.hid ⟨rfl, Or.inr ⟨wr.heap.size, 1, #[.int .i64 0], rfl, HR.out.siz, heap_alloc_new wr _, Nat.le_refl _, by unfold maxLen; omega, rfl, rfl⟩⟩
      clear hgl HGK HGL
      go_wp2_with fail
      generalize wr.alloc (.cells #[.int .i64 0] 3) = w1 at *
      generalize wr.heap.size = AA at *
      generalize List.replicate l.length true = g0 at *
      go_loopw [3] (fun vt wo => ∃ (todo : List Int) (g : List Bool) (A : Option Addr) (c : Nat), vt = .slice A todo.length c ∧ TdDo l todo g ∧ ReSt w H V w0 g wo ∧ wo.ownsRow w.heap.size 3 1 (.slice A todo.length c) todo.length (todo.map (.int .i64 ·))) (fun vt wo => 3 * trs wo V + sliceLen vt)
      case atStart => exact ⟨[0], g0, _, _, rfl, HDS.out, HR1.out, HO1.out⟩
      case round =>
        obtain ⟨todo, g, A, c, rfl, hd, hr, ho⟩ := hrel
        rcases List.eq_nil_or_concat todo with rfl | ⟨ys, x, rfl⟩
        · have HE := Lib.hid (HDN.out g hd)
          have HF := Lib.hid hr
          clear hd hr ho
          go_wp2_with fail
          go_end0
          rw [← HPO.out]
          exact ⟨⟨_, rfl⟩, by rw [← HE.out, tdNot_not]; exact HF.out⟩
        · rw [List.concat_eq_append] at hd ho ⊢
          have HD := Lib.hid hd
          have HR2 := Lib.hid hr
          have HTR := Lib.hid (trs_of hr.flag)
          obtain ⟨x0, x1, _⟩ := hd.has x (by simp)
          have hnum := hd.num
          have hgl := hd.len
          have hll : (ys ++ [x]).length = ys.length + 1 := by simp
          rw [hll] at ho hnum ⊢
          rw [List.map_append] at ho
          obtain ⟨gA, cA, e⟩ := own_form ho
          injection e with e1 e2 e3
          subst e1 e3
          have HOP := Lib.hid (own_pop (by simp) ho)
          have hcap := own_cap ho
          have q0 := own_last (by simp) ho
          obtain ⟨m, rfl⟩ : ∃ m : Nat, x = (m : Int) := ⟨x.toNat, by omega⟩
          have hml : m < l.length := by omega
          have m0 : (0 : Int) ≤ (m : Int) := by omega
          have m1 : (m : Int) < (l.length : Int) := by omega
          have t1 := (HTI.out _ g hr).cells.2
          obtain ⟨z0, z1⟩ := cell_of_blk hr.flag m
          rw [bools_at (show m < g.length by omega)] at z0
          have hys : ys.length ≤ 2097153 := by omega
          have HYS := Lib.hid hys
          obtain ⟨LN, hLN⟩ : ∃ LN, LN = ys.length := ⟨_, rfl⟩
          rw [← hLN] at hys q0 ⊢
          have HLN := Lib.hid hLN
          have hlt : (LN : Int) < (LN : Int) + 1 := by omega
          have hlc : (LN : Int) ≤ (c : Int) := by omega
          have hgg := getD_in g m true false (by omega)
          rw [← hLN] at HOP
          clear hd hr ho hnum hll hLN x0 x1 hgl hcap
          cases hf : g.getD m false with
          | false =>
            rw [hf] at z0
            have HF : Hid (g.getD (m : Int).toNat true = false) := Lib.hid (by rw [Int.toNat_natCast, hgg]; exact hf)
            clear hf hgg
            go_wp2_with fail
            have HEL := HLN.out
            exact ⟨⟨ys, g, some ⟨gA, 0, none⟩, c, by rw [HEL], HSK.out ys m g HD.out HF.out, HR2.out, by rw [← HEL]; exact HOP.out⟩, by show _ + LN < _ + (LN + 1); omega⟩
          | true =>
            rw [hf] at z0
            have HF : Hid (g.getD (m : Int).toNat true = true) := Lib.hid (by rw [Int.toNat_natCast, hgg]; exact hf)
            have HF2 := Lib.hid hf
            clear hf hgg
            go_upto_region 11 with (fail)
            have HR4 := Lib.hid (HR2.out.set HHV.out m false)
            have HOP4 := Lib.hid (own_setCell HOP.out ⟨V, m, none⟩ (.bool false) HVW.out)
            have HTR4 := Lib.hid (trs_of HR4.out.flag)
            clear z0 z1 q0 t1
            generalize wr.setCell ⟨V, m, none⟩ (.bool false) = w4 at *
            obtain ⟨OA, oc, _, _, y0, y1, y2, y3, y4, _⟩ := (HMI.out w4 _ HR4.out).cells m hml
            have t0 := (HTI.out _ _ HR4.out).cells.1
            have hst := HST.out ys m g HD.out HF.out
            have HCL : Hid (tdTrues (g.set m false) + 1 = tdTrues g) := Lib.hid (tdTrues_clear g m (by have := HD.out.len; omega) HF2.out)
            have HTL := Lib.hid (tdTg_len (l.getD m blkNone).term)
            rw [Int.toNat_natCast] at hst
            have HTGm := Lib.hid (fun W => HTG.out m hml W)
            have HSTm := Lib.hid hst
            clear hst
            generalize l.getD m blkNone = bk at *
            obtain ⟨ops, trm⟩ := bk
            obtain ⟨tk, ta, ty, tn⟩ := trm
            simp only at y0 y1 y2 y3 y4 HTGm HSTm HTL
            generalize tdTg ⟨tk, ta, ty, tn⟩ = tg at *
            go_wp2_with fail
            refine (HTGm.out _).mono ?_
            rintro e w5 ⟨A5, c5, rfl, hb5, ho5⟩
            have hop5 := own_below HOP4.out hb5
            have hrun5 := run_append_intsT w5 w.heap.size (.slice (some ⟨gA, 0, none⟩) LN c) ys (by rw [← HLN.out]; exact hop5) A5 c5 w5.heap.size tg (slRep_intsF rfl (Nat.le_refl _) ho5) (by have := HYS.out; have := HTL.out; omega) (by have := hb5.size; have := HR4.out.siz; omega)
            obtain ⟨v6, w6, hrun, ho6, hg6⟩ := hrun5
            have HR6 := Lib.hid ((HR4.out.below HHV.out hb5).grown HHV.out HVW.out hg6 (fun r e => (hop5.lt r e).1))
            have HTR6 := Lib.hid (trs_of HR6.out.flag)
            obtain ⟨A6, c6, rfl⟩ := own_len ho6
            have HRUN := Lib.hid hrun
            have HO6 := Lib.hid ho6
            clear hop5 hrun hg6 ho6 hb5 ho5 y0 y1 y2 y3 y4 t0
            have hL2 : (ys ++ tg).length = LN + tg.length := by rw [List.length_append, HLN.out]
            have HL2 := Lib.hid hL2
            rw [hL2] at HRUN
            clear hL2
            generalize hTL : LN + tg.length = L2 at *
            have HTL2 := Lib.hid hTL
            clear hTL
            go_wp2_with ((at_builtin; refine wpList_app rfl (.tmp 49) (.tmp 58) 72 rfl HRUN.out rfl rfl ?_))
            refine ⟨⟨ys ++ tg, g.set m false, A6, c6, by rw [HL2.out], HSTm.out, HR6.out, HO6.out⟩, ?_⟩
            show 3 * trs w6 V + L2 < 3 * trs wr V + (LN + 1)
            have a1 := HTR.out
            have a2 := HTR6.out
            have a3 := HCL.out
            have a4 := HTL2.out
            have a5 := HTL.out
            omega
end Go.Proofs.Ythkobddggoojlaa
