/- Parts of a proof. No condition but those that each theorem names. -/
import Derived.WalkKit
import Derived.OpenShut
import Derived.Below
import Derived.Lib.Hide
import Derived.Laws.OwnMore
import Derived.Deep.QuietTactic
import Derived.Deep.AppendLies
import Derived.ProofKit
import Derived.SizedLaws
import Derived.Test.YthkobddggoojlaaProg
import Derived.Handy
import Derived.Deep.RegionHeld3
import Derived.BigQuiet
import Derived.Maps.AppendAt
import Derived.Maps.RangeWalk
import Derived.Maps.OwnSet
import Derived.StillTailTactics
import Derived.Laws.CopyOwn
import Derived.Lib.BufferWrite
import Derived.OrdersHeld
import Derived.RegionTactic
import Derived.Deep.DeepCutAuto
import Derived.RangeFuncNested
import Derived.RangeFuncBound
import Derived.RangeFuncCalls
import Derived.RangeFuncLeaves
import Derived.OwnWalkIn
import Derived.TacticsInMore
import Derived.LoopNIn
import Derived.LoopIn
import Derived.Shelf.Abstract
import Derived.Shelf.RegionOpen
import Derived.OrdersIn
import Derived.TacticsIn
import Derived.Test.YthkobddggoojlaaTeG0e0
import Derived.Test.YthkobddggoojlaaTeG0e1
import Derived.Test.YthkobddggoojlaaTeG0e2
import Derived.Test.YthkobddggoojlaaTeG0e4
import Derived.Test.YthkobddggoojlaaTeG1e6
import Derived.Test.YthkobddggoojlaaTeG1e7
import Derived.Test.YthkobddggoojlaaTeG0e8
import Derived.Test.YthkobddggoojlaaTeG0e6
import Derived.Test.YthkobddggoojlaaTeG1e16
import Derived.Test.YthkobddggoojlaaTeG0e15
import Derived.Test.YthkobddggoojlaaTeG1e18
import Derived.Test.YthkobddggoojlaaTeG1e19
import Derived.Test.YthkobddggoojlaaTeG1e17
import Derived.Test.YthkobddggoojlaaTeG1e20
import Derived.Test.YthkobddggoojlaaTeG1e21
import Derived.Test.YthkobddggoojlaaTeTmC
import Derived.Test.YthkobddggoojlaaTeG3e22
import Derived.Test.YthkobddggoojlaaTeG0e23
import Derived.Test.YthkobddggoojlaaTeG3e24
namespace Go.Proofs.Ythkobddggoojlaa
open Go Go.RowKit
set_option linter.unusedVariables false
attribute [local go_sem] Oper.semAt_some
theorem tdCan_no {cnt : Int → Nat} {l : List Blk} {k : Nat} {t : Trm} (ht : (l.getD k blkNone).term = t) (h : t.kind ≠ 1 ∨ t.yes = k ∨ t.yes = 0 ∨ t.yes = -1 ∨ cnt t.yes ≠ 1) : tdCan cnt l k = false := by
  unfold tdCan tdTo
  rw [ht]
  rcases h with h | h | h | h | h
  · rw [decide_eq_false h]; rfl
  · rw [decide_eq_true h]; simp
  · rw [decide_eq_true h]; simp
  · rw [decide_eq_true h]; simp
  · rw [decide_eq_false h]; simp
theorem tdCan_yes {cnt : Int → Nat} {l : List Blk} {k : Nat} {t : Trm} (ht : (l.getD k blkNone).term = t) (h1 : t.kind = 1) (h2 : t.yes ≠ k) (h3 : t.yes ≠ 0) (h4 : t.yes ≠ -1) (h5 : cnt t.yes = 1) : tdCan cnt l k = true := by
  unfold tdCan tdTo
  rw [ht, decide_eq_true h1, decide_eq_false h2, decide_eq_false h3, decide_eq_false h4, decide_eq_true h5]; rfl
set_option maxRecDepth 100000 in
set_option maxHeartbeats 2000000 in
theorem tidy_join (l0 : List Blk) (s0 : List Bool) (cnt : Int → Nat) (hcnt : cnt = tdCnt l0 s0) (hw0 : TdW cnt l0.length 1048576 l0 s0) (hn : l0.length ≤ 1048576) (T G V cap : Nat) (hGV : G ≠ V) (hTG : T ≠ G) (hTV : T ≠ V) (bad : List Nat) (ovs : List Value) (w : World) (hbad : ∀ r ∈ bad, r < w.heap.size) (hT : TiBox w T G V cap l0.length) (h : TmAt w G V bad l0 (tdNot s0) ovs) :
    Calls Try.prog 17 #[.pointer (some ⟨T, 0, none⟩)] w fun e w' => (∃ v, e = .returned v) ∧ ∃ NB A cl, JoM w T G V cap l0.length NB A bad cl (tdJoinTo cnt (l0, s0) l0.length).1 (tdJoinTo cnt (l0, s0) l0.length).2 w' := by
  have HM := Lib.hid h
  have HT := Lib.hid hT
  have HW0 := Lib.hid hw0
  have HBAD := Lib.hid hbad
  have HGV := Lib.hid hGV
  have HTG := Lib.hid hTG
  have HTV := Lib.hid hTV
  have hs0 : s0.length = l0.length := hw0.inv.len
  have HS0 := Lib.hid hs0
  have hgv := h.gv
  have HGVS := Lib.hid hgv
  have hTs := lt_of_blk hT
  have HTS := Lib.hid hTs
  have hb0 := bnew w (.cells #[.pointer (some ⟨T, 0, none⟩)] 47)
  have HX1 := Lib.hid (heap_alloc_new w (.cells #[.pointer (some ⟨T, 0, none⟩)] 47))
  have HB1 := Lib.hid hb0
  have HCO := Lib.hid (fun W (hb : Below w.heap.size w W) => tidy_counts l0 hw0.inv.ok hn T G V cap bad s0 hs0 ovs W (hT.below hb) (h.below hb))
  generalize hPO : (fun (e : Ending) (w' : World) => (∃ v, e = .returned v) ∧ ∃ NB A cl, JoM w T G V cap l0.length NB A bad cl (tdJoinTo cnt (l0, s0) l0.length).1 (tdJoinTo cnt (l0, s0) l0.length).2 w') = PO
  have HPO := Lib.hid hPO
  have HCNT := Lib.hid hcnt
  clear h hT hw0 hPO hb0 hbad hGV hTG hTV hs0 hgv hTs hcnt
  refine (callsIn_wide (n := 6)).1 ?_
  refine callsIn_of_wp_marks Try.func17 rfl trivial ?_ rfl
  simp only [Try.ntmps17, List.size_toArray, List.length_cons, List.length_nil, Nat.reduceAdd, Nat.reduceSub, Array.replicate_succ, Array.replicate_zero, List.push_toArray, List.append_toArray, List.nil_append, List.cons_append]
  gi_wp2
  refine ⟨trivial, ?_⟩
  refine (callsIn_wide.2 (HCO.out _ HB1.out)).mono ?_
  rintro e w2 ⟨A, cl, rfl, hA, hcl, hrow, hcv, hb2⟩
  have hbx := (hb2.block _ (lt_of_blk HX1.out)).trans HX1.out
  have x0 := (cell_of_blk (((bnew w2 (.cells #[.slice (some ⟨A, 0, none⟩) l0.length l0.length] 72)).block _ (lt_of_blk hbx)).trans hbx) 0).1
  gi_wp2
  clear x0
  rw [World.size_alloc] at hA
  have HA := Lib.hid hA
  have hbb := bch HB1.out hb2
  have hb3 := bnew w2 (.cells #[.slice (some ⟨A, 0, none⟩) l0.length l0.length] 72)
  have hc3 := heap_alloc_new w2 (.cells #[.slice (some ⟨A, 0, none⟩) l0.length l0.length] 72)
  have hsz : (w2.alloc (.cells #[.slice (some ⟨A, 0, none⟩) l0.length l0.length] 72)).heap.size = w2.heap.size + 1 := World.size_alloc _ _
  generalize w2.alloc (.cells #[.slice (some ⟨A, 0, none⟩) l0.length l0.length] 72) = W0 at *
  have hbb3 := bch hbb hb3
  obtain ⟨NB, hNB⟩ : ∃ NB, NB = w2.heap.size := ⟨_, rfl⟩
  rw [← hNB] at hc3 hsz ⊢
  have hJ0 : JoM w T G V cap l0.length NB A bad cl l0 s0 W0 := ⟨⟨ovs, HM.out.below hbb3⟩, HT.out.below hbb3, (hb3.block _ (lt_of_blk hbx)).trans hbx, hc3, (hb3.block _ (lt_of_blk hrow)).trans hrow, fun q x _ _ h3 => (hbb3.block _ (lt_of_blk h3)).trans h3, hbb3.size, hbb3.os, hbb3.tape, hbb3.output⟩
  have HAW : Hid (w.heap.size < A) := Lib.hid (by have := HA.out; omega)
  have HNBw : Hid (w.heap.size < NB ∧ A < NB) := Lib.hid ⟨by have := hb2.size; rw [World.size_alloc] at this; omega, by have := lt_of_blk hrow; omega⟩
  have HJ0 := Lib.hid hJ0
  have HSZ := Lib.hid hsz
  have HCL := Lib.hid hcl
  have HCV := Lib.hid hcv
  clear hA hcl hrow hcv hb2 hbx hbb hb3 hc3 hsz hbb3 hJ0 hNB
  refine wpIn_rangeThere rfl (by omega) (gf := 35) (N := l0.length) (bd := #[.pointer (some ⟨T, 0, none⟩)]) (lb := #[]) rfl trivial (enters_of Try.func35 (by kernel_rfl) rfl) (tidy_there 5 (by omega) T G V cap l0.length hn) rfl
    (fun k W => JoM w T G V cap l0.length NB A bad cl (tdJoinTo cnt (l0, s0) k).1 (tdJoinTo cnt (l0, s0) k).2 W) (fun k W W' h hk => h.loop (by have := HSZ.out; have := HNBw.out.1; omega) hk) HJ0.out
    (fun k W h => ⟨h.tbx, tdNot (tdJoinTo cnt (l0, s0) k).2, by rw [tdNot_len, (tdW_all HW0.out k).inv.len, (tdW_all HW0.out k).len], h.tm.elim fun _ ht => ht.flag⟩) (fun k W W' b hf hk => TiFl.kept hf hk) ?skip
    (fun k => { tmps := #[.pointer (some ⟨T, 0, none⟩), .pointer (some ⟨w.heap.size, 0, none⟩), .pointer (some ⟨NB, 0, none⟩), .int .i64 (k : Int), undef, undef, .pointer (some ⟨T, 0, none⟩), .slice (some ⟨A, 0, none⟩) l0.length l0.length, .pointer (some ⟨T, 0, none⟩), .func (.func 35) #[.pointer (some ⟨T, 0, none⟩)] #[], .int .i64 (k : Int), undef, undef, undef, undef, undef, undef, undef, undef, undef, undef, undef, undef, undef, undef, undef, undef, undef, undef, undef, undef, undef, undef, undef, undef, undef, undef, undef, undef, undef, undef, undef, undef, undef, undef, undef, undef, undef, undef, undef, undef, undef, undef, undef, undef, undef, undef, undef, undef, undef, undef, undef, undef, undef, undef, undef, undef, undef, undef, undef, undef, undef, undef, undef, undef, undef, undef, undef, undef, undef, undef, undef, undef, undef, undef, undef, undef, undef], defers := [] }) ?assign ?body ?done
  case skip =>
    intro k W h hk hf
    obtain ⟨ov, ht⟩ := h.tm
    have hwk := tdW_all HW0.out k
    obtain ⟨_, hg⟩ := hf.of ht.flag
    rw [tdNot_getD _ k (by rw [hwk.inv.len, hwk.len]; exact hk)] at hg
    have hg : (tdJoinTo cnt (l0, s0) k).2.getD k false = false := by revert hg; cases (tdJoinTo cnt (l0, s0) k).2.getD k false <;> simp
    show JoM w T G V cap l0.length NB A bad cl (tdRow cnt ((tdJoinTo cnt (l0, s0) k).1, (tdJoinTo cnt (l0, s0) k).2) k).1 (tdRow cnt ((tdJoinTo cnt (l0, s0) k).1, (tdJoinTo cnt (l0, s0) k).2) k).2 W
    rw [tdRow_out hg]
    exact h
  case assign =>
    intro l' k W K hK
    gi_wp2
    exact hK
  case body =>
    intro l' k W R D hk hi hf hD hR hRc
    obtain ⟨ov, ht⟩ := hi.tm
    have hwk := tdW_all HW0.out k
    obtain ⟨_, hg⟩ := hf.of ht.flag
    rw [tdNot_getD _ k (by rw [hwk.inv.len, hwk.len]; exact hk)] at hg
    have hg : (tdJoinTo cnt (l0, s0) k).2.getD k false = true := by revert hg; cases (tdJoinTo cnt (l0, s0) k).2.getD k false <;> simp
    have HI := Lib.hid hi
    have HG := Lib.hid hg
    have HWK := Lib.hid hwk
    have HD := Lib.hid hD
    have HR := Lib.hid hR
    have HZ : Hid (tdRow cnt ((tdJoinTo cnt (l0, s0) k).1, (tdJoinTo cnt (l0, s0) k).2) k = tdJoinTo cnt (l0, s0) (k + 1)) := Lib.hid rfl
    have k0 : (0 : Int) ≤ (k : Int) := by omega
    have k1 : (k : Int) < (l0.length : Int) := by omega
    clear hi hwk hf hg hD hR hRc ht
    generalize (tdJoinTo cnt (l0, s0) k).1 = l1 at *
    generalize (tdJoinTo cnt (l0, s0) k).2 = s1 at *
    gi_wp2
    gi_loopw [4, 5] (fun vc vo wr => ∃ (l : List Blk) (s : List Bool), TdW cnt l0.length 1048576 l s ∧ s.getD k false = true ∧ JoM w T G V cap l0.length NB A bad cl l s wr ∧ Hid (tdRow cnt (l, s) k = tdJoinTo cnt (l0, s0) (k + 1)) ∧ wr.heap[W0.heap.size]? = some D ∧ wr.heap[W0.heap.size + 1]? = some R) (fun _ _ wr => fls wr V)
    case atStart => exact ⟨l1, s1, HWK.out, HG.out, HI.out, HZ, HD.out, HR.out⟩
    case round =>
      obtain ⟨l, s, hw, hsk, hj, HRW, hDr, hRr⟩ := hrel
      have HW := Lib.hid hw
      have HSK := Lib.hid hsk
      have HJ := Lib.hid hj
      have HDr := Lib.hid hDr
      have HRr := Lib.hid hRr
      obtain ⟨ov, ht⟩ := hj.tm
      have hkl : k < l.length := by rw [hw.len]; exact hk
      obtain ⟨OA, oc, hov, hops, y0, y1, y2, y3, y4, yf⟩ := ht.cells k hkl
      have t0 := hj.tbx.cells.1
      have x0 := (cell_of_blk hj.box 0).1
      have HMT := Lib.hid ht
      obtain ⟨bk, hbk⟩ : ∃ bk, l.getD k blkNone = bk := ⟨_, rfl⟩
      have hok : tdOkT l.length (l.getD k blkNone).term := hw.inv.ok _ (getD_memI l k blkNone hkl)
      rw [hw.len] at hok
      rw [hbk] at y0 y1 y2 y3 y4 hops hok
      have HBK := Lib.hid hbk
      obtain ⟨pops, trm⟩ := bk
      obtain ⟨tk, ta, ty, tn⟩ := trm
      simp only at y0 y1 y2 y3 y4 hok hops
      have HTM : Hid ((l.getD k blkNone).term = ⟨tk, ta, ty, tn⟩) := Lib.hid (by rw [hbk])
      have HOPS := Lib.hid hops
      clear hw hsk hj hDr hRr ht hov hbk hops
      by_cases hk1 : tk = 1
      · subst hk1
        have hlab : tdLab l0.length ty := by
          rcases hok with ⟨_, h⟩ | ⟨h, _⟩ | h
          · exact h
          · cases h
          · cases h
        obtain ⟨b0, b1⟩ := hlab
        clear hok
        by_cases h2 : ty = (k : Int)
        · have HNC := Lib.hid (tdCan_no (cnt := cnt) HTM.out (Or.inr (Or.inl h2)))
          have q2 : (ty == (k : Int)) = true := by rw [beq_iff_eq]; exact h2
          clear h2
          have hze := HRW.out
          rw [tdRow_end HNC.out] at hze
          have HEND : Hid (JoM w T G V cap l0.length NB A bad cl (tdJoinTo cnt (l0, s0) (k + 1)).1 (tdJoinTo cnt (l0, s0) (k + 1)).2 wr) := Lib.hid (by rw [← hze]; exact HJ.out)
          clear hze
          gi_wp2
          exact ⟨HEND.out, HDr.out, HRr.out⟩
        · have q2 : (ty == (k : Int)) = false := by rw [beq_eq_false_iff_ne]; exact h2
          by_cases h3 : ty = 0
          · have HNC := Lib.hid (tdCan_no (cnt := cnt) HTM.out (Or.inr (Or.inr (Or.inl h3))))
            have q3 : (ty == 0) = true := by rw [beq_iff_eq]; exact h3
            clear h2 h3
            have hze := HRW.out
            rw [tdRow_end HNC.out] at hze
            have HEND : Hid (JoM w T G V cap l0.length NB A bad cl (tdJoinTo cnt (l0, s0) (k + 1)).1 (tdJoinTo cnt (l0, s0) (k + 1)).2 wr) := Lib.hid (by rw [← hze]; exact HJ.out)
            clear hze
            gi_wp2
            exact ⟨HEND.out, HDr.out, HRr.out⟩
          · have q3 : (ty == 0) = false := by rw [beq_eq_false_iff_ne]; exact h3
            by_cases h4 : ty = -1
            · have HNC := Lib.hid (tdCan_no (cnt := cnt) HTM.out (Or.inr (Or.inr (Or.inr (Or.inl h4)))))
              have q4 : (ty == -1) = true := by rw [beq_iff_eq]; exact h4
              clear h2 h3 h4
              have hze := HRW.out
              rw [tdRow_end HNC.out] at hze
              have HEND : Hid (JoM w T G V cap l0.length NB A bad cl (tdJoinTo cnt (l0, s0) (k + 1)).1 (tdJoinTo cnt (l0, s0) (k + 1)).2 wr) := Lib.hid (by rw [← hze]; exact HJ.out)
              clear hze
              gi_wp2
              exact ⟨HEND.out, HDr.out, HRr.out⟩
            · have q4 : (ty == -1) = false := by rw [beq_eq_false_iff_ne]; exact h4
              obtain ⟨c, rfl⟩ : ∃ c : Nat, ty = (c : Int) := ⟨ty.toNat, by omega⟩
              have hcl : c < l0.length := by omega
              have c0 : (0 : Int) ≤ (c : Int) := by omega
              have c1 : (c : Int) < (l0.length : Int) := by omega
              have n0 := (cell_of_blk HJ.out.cel 0).1
              have n1 := (cell_of_blk HJ.out.row c).1
              rw [ints_get cl c (by rw [HCL.out]; exact hcl), HCV.out c hcl] at n1
              by_cases h5 : cnt (c : Int) = 1
              · have HYC := Lib.hid (tdCan_yes (cnt := cnt) HTM.out rfl h2 h3 h4 h5)
                rw [← HCNT.out, h5] at n1
                have hto : tdTo l k = (c : Int) := by unfold tdTo; rw [HTM.out]
                have HST2 := Lib.hid (tdRow_step HW.out.inv HSK.out HYC.out)
                have HW2 := Lib.hid (HW.out.put HSK.out HYC.out)
                have HTR := Lib.hid (HW.out.inv.trues HSK.out HYC.out)
                obtain ⟨c', ec, hcm, hc0, hcl', hml, hcs, _⟩ := HW.out.inv.only HSK.out HYC.out
                obtain rfl : c' = c := by rw [hto] at ec; omega
                have hput : tdPut l k = l.set k ⟨(l.getD k blkNone).ops ++ (l.getD (tdTo l k).toNat blkNone).ops, (l.getD (tdTo l k).toNat blkNone).term⟩ := rfl
                have htwo := HW.out.two HSK.out hcs hcm
                have hone := HW.out.one HSK.out
                rw [ec, Int.toNat_natCast] at hput HST2 HW2 HTR
                rw [hput] at HST2 HW2
                obtain ⟨bq, hbq⟩ : ∃ x, l.getD c' blkNone = x := ⟨_, rfl⟩
                have hbk := HBK.out
                rw [hbk, hbq] at HST2 HW2 htwo
                rw [hbk] at hone
                have HBQ := Lib.hid hbq
                obtain ⟨AA1, cc1, w7, hrun, how, hb7⟩ := HMT.out.app1 k hkl (by rw [hbk]; exact hone) (by rw [hbk]; exact HOPS.out)
                rw [hbk] at hrun how
                have HTWO := Lib.hid htwo
                have HCM := Lib.hid hcm
                have HCS := Lib.hid hcs
                have HCLL := Lib.hid hcl'
                have HRUN := Lib.hid hrun
                have HOW := Lib.hid how
                have HB7 := Lib.hid hb7
                clear hto ec hc0 hml hput hone hbq hbk hrun how hb7 htwo hcm hcs hcl' h2 h3 h4 h5
                simp only at HRUN HOW
                gi_wp2_with ((gi_at_builtin; refine wpListIn_app rfl (.const (.slice none 0 0)) (.tmp 55) 36 rfl HRUN.out rfl rfl ?_))
                clear y0 y1 y2 y3 y4 t0 x0 n0 n1
                have hb7d := bdr HB7.out
                have HJ7 := Lib.hid (HJ.out.below hb7d)
                have ht7 := HMT.out.below hb7d
                obtain ⟨OC, occ, hovc, hopsc, y0, y1, y2, y3, y4, yf⟩ := ht7.cells c' HCLL.out
                have hgv := HMT.out.gv
                obtain ⟨AA2, cc2, w8, hrun2, how2, hb8, ht8⟩ := ht7.app2 (B := wr.heap.size) hgv.1 hgv.2 hb7d.size HOW.out.drew (fun r hr => HMT.out.old2 hb7d (HOW.out.lt r hr).1) c' HCLL.out (by rw [HBQ.out]; exact Nat.le_trans HTWO.out (by omega)) hopsc
                rw [HBQ.out] at hrun2 how2 y0 y1 y2 y3 y4
                obtain ⟨qops, qt⟩ := bq
                obtain ⟨qk, qa, qy, qn⟩ := qt
                simp only at hrun2 how2 y0 y1 y2 y3 y4
                have c0' := (cell_of_blk HJ7.out.box 0).1
                have t0' := HJ7.out.tbx.cells.1
                have hS0 : w7.drew.cell? ⟨w.heap.size, 0, none⟩ = some (.pointer (some ⟨T, 0, none⟩)) ∧ w7.drew.cell? ⟨T, 0, none⟩ = some (.slice (some ⟨G, 0, none⟩) l0.length cap) ∧ w7.drew.cell? ⟨G, c' * 5, none⟩ = some (.slice OC qops.length occ) ∧ w7.drew.cell? ⟨G, c' * 5 + 1, none⟩ = some (.int .i64 qk) ∧ w7.drew.cell? ⟨G, c' * 5 + 2, none⟩ = some (.int .i64 qa) ∧ w7.drew.cell? ⟨G, c' * 5 + 3, none⟩ = some (.int .i64 qy) ∧ w7.drew.cell? ⟨G, c' * 5 + 4, none⟩ = some (.int .i64 qn) ∧ True := ⟨c0', t0', y0, y1, y2, y3, y4, trivial⟩
                have hG8 : ∀ j, w8.cell? ⟨G, j, none⟩ = w7.drew.cell? ⟨G, j, none⟩ := fun j => hb8.cell (p := ⟨G, j, none⟩) hgv.1
                have hb78 := hb7d.trans hb8
                have HJ8 := Lib.hid (HJ.out.below hb78)
                have hS2 : w8.cell? ⟨w.heap.size, 0, none⟩ = some (.pointer (some ⟨T, 0, none⟩)) ∧ w8.cell? ⟨T, 0, none⟩ = some (.slice (some ⟨G, 0, none⟩) l0.length cap) ∧ w8.cell? ⟨G, c' * 5, none⟩ = some (.slice OC qops.length occ) ∧ w8.cell? ⟨G, c' * 5 + 1, none⟩ = some (.int .i64 qk) ∧ w8.cell? ⟨G, c' * 5 + 2, none⟩ = some (.int .i64 qa) ∧ w8.cell? ⟨G, c' * 5 + 3, none⟩ = some (.int .i64 qy) ∧ w8.cell? ⟨G, c' * 5 + 4, none⟩ = some (.int .i64 qn) ∧ True := ⟨(cell_of_blk HJ8.out.box 0).1, HJ8.out.tbx.cells.1, (hG8 _).trans y0, (hG8 _).trans y1, (hG8 _).trans y2, (hG8 _).trans y3, (hG8 _).trans y4, trivial⟩
                obtain ⟨LN, hLN⟩ : ∃ n, (pops ++ qops).length = n := ⟨_, rfl⟩
                rw [hLN] at hrun2
                have HLN := Lib.hid hLN
                have HRUN2 := Lib.hid hrun2
                have HOW2 := Lib.hid how2
                have HT8 := Lib.hid ht8
                have HB78 := Lib.hid hb78
                clear hrun2 how2 ht8 hb78 hLN hovc hopsc y0 y1 y2 y3 y4 hG8 hb8 ht7 hb7d c0' t0' hgv
                obtain ⟨OM, ocm, _, _, u0, u1, u2, u3, u4, uf⟩ := HT8.out.cells k hkl
                have f0 := uf (k * 5)
                have f1 := uf (k * 5 + 1)
                have f2 := uf (k * 5 + 2)
                have f3 := uf (k * 5 + 3)
                have f4 := uf (k * 5 + 4)
                refine wpIn_region_L (fun w' => w'.cell? ⟨w.heap.size, 0, none⟩ = some (.pointer (some ⟨T, 0, none⟩)) ∧ w'.cell? ⟨T, 0, none⟩ = some (.slice (some ⟨G, 0, none⟩) l0.length cap) ∧ w'.cell? ⟨G, c' * 5, none⟩ = some (.slice OC qops.length occ) ∧ w'.cell? ⟨G, c' * 5 + 1, none⟩ = some (.int .i64 qk) ∧ w'.cell? ⟨G, c' * 5 + 2, none⟩ = some (.int .i64 qa) ∧ w'.cell? ⟨G, c' * 5 + 3, none⟩ = some (.int .i64 qy) ∧ w'.cell? ⟨G, c' * 5 + 4, none⟩ = some (.int .i64 qn) ∧ True) 25 (by kernel_rfl) ?_
                refine wpAnyI_take (i := 0) (some 57) (.pointer (some ⟨T, 0, none⟩)) (fun _ => trivial) (by kernel_rfl) rfl rfl (by kernel_rfl) (by kernel_rfl) (by kernel_rfl) (by kernel_rfl) (fun _ _ _ h => h) (by rfl) ?hv0 hS0 ?rest0
                case hv0 =>
                  intro wz hSz
                  obtain ⟨y0, y1, y2, y3, y4, y5, y6, y7⟩ := hSz
                  go_simp
                try simp only [Act.put, List.setIfInBounds_toArray, List.set_cons_zero, List.set_cons_succ]
                refine wpAnyI_take (i := 1) (some 58) (.pointer (some ⟨T, 0, none⟩)) (fun _ => trivial) (by kernel_rfl) rfl rfl (by kernel_rfl) (by kernel_rfl) (by kernel_rfl) (by kernel_rfl) (fun _ _ _ h => h) (by rfl) ?hv1 hS0 ?rest1
                case hv1 =>
                  intro wz hSz
                  obtain ⟨y0, y1, y2, y3, y4, y5, y6, y7⟩ := hSz
                  go_simp
                try simp only [Act.put, List.setIfInBounds_toArray, List.set_cons_zero, List.set_cons_succ]
                refine wpAnyI_take (i := 2) (some 59) (.pointer (some ⟨T, 0, none⟩)) (fun _ => trivial) (by kernel_rfl) rfl rfl (by kernel_rfl) (by kernel_rfl) (by kernel_rfl) (by kernel_rfl) (fun _ _ _ h => h) (by rfl) ?hv2 hS0 ?rest2
                case hv2 =>
                  intro wz hSz
                  obtain ⟨y0, y1, y2, y3, y4, y5, y6, y7⟩ := hSz
                  go_simp
                try simp only [Act.put, List.setIfInBounds_toArray, List.set_cons_zero, List.set_cons_succ]
                refine wpAnyI_take (i := 3) (some 60) (.slice (some ⟨G, 0, none⟩) l0.length cap) (fun _ => trivial) (by kernel_rfl) rfl rfl (by kernel_rfl) (by kernel_rfl) (by kernel_rfl) (by kernel_rfl) (fun _ _ _ h => h) (by rfl) ?hv3 hS0 ?rest3
                case hv3 =>
                  intro wz hSz
                  obtain ⟨y0, y1, y2, y3, y4, y5, y6, y7⟩ := hSz
                  go_simp
                try simp only [Act.put, List.setIfInBounds_toArray, List.set_cons_zero, List.set_cons_succ]
                refine wpAnyI_take (i := 4) (some 61) (.int .i64 k) (fun _ => trivial) (by kernel_rfl) rfl rfl (by kernel_rfl) (by kernel_rfl) (by kernel_rfl) (by kernel_rfl) (fun _ _ _ h => h) (by rfl) ?hv4 hS0 ?rest4
                case hv4 =>
                  intro wz hSz
                  obtain ⟨y0, y1, y2, y3, y4, y5, y6, y7⟩ := hSz
                  go_simp
                try simp only [Act.put, List.setIfInBounds_toArray, List.set_cons_zero, List.set_cons_succ]
                refine wpAnyI_take (i := 5) (some 62) (.slice AA1 pops.length cc1) (fun _ => trivial) (by kernel_rfl) rfl rfl (by kernel_rfl) (by kernel_rfl) (by kernel_rfl) (by kernel_rfl) (fun _ _ _ h => h) (by rfl) ?hv5 hS0 ?rest5
                case hv5 =>
                  intro wz hSz
                  obtain ⟨y0, y1, y2, y3, y4, y5, y6, y7⟩ := hSz
                  go_simp
                try simp only [Act.put, List.setIfInBounds_toArray, List.set_cons_zero, List.set_cons_succ]
                refine wpAnyI_take (i := 6) (some 63) (.pointer (some ⟨T, 0, none⟩)) (fun _ => trivial) (by kernel_rfl) rfl rfl (by kernel_rfl) (by kernel_rfl) (by kernel_rfl) (by kernel_rfl) (fun _ _ _ h => h) (by rfl) ?hv6 hS0 ?rest6
                case hv6 =>
                  intro wz hSz
                  obtain ⟨y0, y1, y2, y3, y4, y5, y6, y7⟩ := hSz
                  go_simp
                try simp only [Act.put, List.setIfInBounds_toArray, List.set_cons_zero, List.set_cons_succ]
                refine wpAnyI_take (i := 7) (some 64) (.pointer (some ⟨T, 0, none⟩)) (fun _ => trivial) (by kernel_rfl) rfl rfl (by kernel_rfl) (by kernel_rfl) (by kernel_rfl) (by kernel_rfl) (fun _ _ _ h => h) (by rfl) ?hv7 hS0 ?rest7
                case hv7 =>
                  intro wz hSz
                  obtain ⟨y0, y1, y2, y3, y4, y5, y6, y7⟩ := hSz
                  go_simp
                try simp only [Act.put, List.setIfInBounds_toArray, List.set_cons_zero, List.set_cons_succ]
                refine wpAnyI_take (i := 8) (some 65) (.pointer (some ⟨T, 0, none⟩)) (fun _ => trivial) (by kernel_rfl) rfl rfl (by kernel_rfl) (by kernel_rfl) (by kernel_rfl) (by kernel_rfl) (fun _ _ _ h => h) (by rfl) ?hv8 hS0 ?rest8
                case hv8 =>
                  intro wz hSz
                  obtain ⟨y0, y1, y2, y3, y4, y5, y6, y7⟩ := hSz
                  go_simp
                try simp only [Act.put, List.setIfInBounds_toArray, List.set_cons_zero, List.set_cons_succ]
                refine wpAnyI_take (i := 9) (some 66) (.slice (some ⟨G, 0, none⟩) l0.length cap) (fun _ => trivial) (by kernel_rfl) rfl rfl (by kernel_rfl) (by kernel_rfl) (by kernel_rfl) (by kernel_rfl) (fun _ _ _ h => h) (by rfl) ?hv9 hS0 ?rest9
                case hv9 =>
                  intro wz hSz
                  obtain ⟨y0, y1, y2, y3, y4, y5, y6, y7⟩ := hSz
                  go_simp
                try simp only [Act.put, List.setIfInBounds_toArray, List.set_cons_zero, List.set_cons_succ]
                refine wpAnyI_take (i := 10) (some 67) (.int .i64 c') (fun _ => trivial) (by kernel_rfl) rfl rfl (by kernel_rfl) (by kernel_rfl) (by kernel_rfl) (by kernel_rfl) (fun _ _ _ h => h) (by rfl) ?hv10 hS0 ?rest10
                case hv10 =>
                  intro wz hSz
                  obtain ⟨y0, y1, y2, y3, y4, y5, y6, y7⟩ := hSz
                  go_simp
                try simp only [Act.put, List.setIfInBounds_toArray, List.set_cons_zero, List.set_cons_succ]
                refine wpAnyI_take (i := 11) (some 68) (.pointer (some ⟨G, c' * 5, none⟩)) (fun _ => trivial) (by kernel_rfl) rfl rfl (by kernel_rfl) (by kernel_rfl) (by kernel_rfl) (by kernel_rfl) (fun _ _ _ h => h) (by rfl) ?hv11 hS0 ?rest11
                case hv11 =>
                  intro wz hSz
                  obtain ⟨y0, y1, y2, y3, y4, y5, y6, y7⟩ := hSz
                  go_simp
                try simp only [Act.put, List.setIfInBounds_toArray, List.set_cons_zero, List.set_cons_succ]
                refine wpAnyI_take (i := 12) (some 69) (.pointer (some ⟨G, c' * 5, none⟩)) (fun _ => trivial) (by kernel_rfl) rfl rfl (by kernel_rfl) (by kernel_rfl) (by kernel_rfl) (by kernel_rfl) (fun _ _ _ h => h) (by rfl) ?hv12 hS0 ?rest12
                case hv12 =>
                  intro wz hSz
                  obtain ⟨y0, y1, y2, y3, y4, y5, y6, y7⟩ := hSz
                  go_simp
                try simp only [Act.put, List.setIfInBounds_toArray, List.set_cons_zero, List.set_cons_succ]
                refine wpAnyI_take (i := 13) (some 70) (.slice OC qops.length occ) (fun _ => trivial) (by kernel_rfl) rfl rfl (by kernel_rfl) (by kernel_rfl) (by kernel_rfl) (by kernel_rfl) (fun _ _ _ h => h) (by rfl) ?hv13 hS0 ?rest13
                case hv13 =>
                  intro wz hSz
                  obtain ⟨y0, y1, y2, y3, y4, y5, y6, y7⟩ := hSz
                  go_simp
                try simp only [Act.put, List.setIfInBounds_toArray, List.set_cons_zero, List.set_cons_succ]
                refine wpAnyI_take (i := 15) (some 72) (.pointer (some ⟨T, 0, none⟩)) (fun _ => trivial) (by kernel_rfl) rfl rfl (by kernel_rfl) (by kernel_rfl) (by kernel_rfl) (by kernel_rfl) (fun _ _ _ h => h) (by rfl) ?hv15 hS0 ?rest15
                case hv15 =>
                  intro wz hSz
                  obtain ⟨y0, y1, y2, y3, y4, y5, y6, y7⟩ := hSz
                  go_simp
                try simp only [Act.put, List.setIfInBounds_toArray, List.set_cons_zero, List.set_cons_succ]
                refine wpAnyI_take (i := 16) (some 73) (.pointer (some ⟨T, 0, none⟩)) (fun _ => trivial) (by kernel_rfl) rfl rfl (by kernel_rfl) (by kernel_rfl) (by kernel_rfl) (by kernel_rfl) (fun _ _ _ h => h) (by rfl) ?hv16 hS0 ?rest16
                case hv16 =>
                  intro wz hSz
                  obtain ⟨y0, y1, y2, y3, y4, y5, y6, y7⟩ := hSz
                  go_simp
                try simp only [Act.put, List.setIfInBounds_toArray, List.set_cons_zero, List.set_cons_succ]
                refine wpAnyI_take (i := 17) (some 74) (.pointer (some ⟨T, 0, none⟩)) (fun _ => trivial) (by kernel_rfl) rfl rfl (by kernel_rfl) (by kernel_rfl) (by kernel_rfl) (by kernel_rfl) (fun _ _ _ h => h) (by rfl) ?hv17 hS0 ?rest17
                case hv17 =>
                  intro wz hSz
                  obtain ⟨y0, y1, y2, y3, y4, y5, y6, y7⟩ := hSz
                  go_simp
                try simp only [Act.put, List.setIfInBounds_toArray, List.set_cons_zero, List.set_cons_succ]
                refine wpAnyI_take (i := 18) (some 75) (.slice (some ⟨G, 0, none⟩) l0.length cap) (fun _ => trivial) (by kernel_rfl) rfl rfl (by kernel_rfl) (by kernel_rfl) (by kernel_rfl) (by kernel_rfl) (fun _ _ _ h => h) (by rfl) ?hv18 hS0 ?rest18
                case hv18 =>
                  intro wz hSz
                  obtain ⟨y0, y1, y2, y3, y4, y5, y6, y7⟩ := hSz
                  go_simp
                try simp only [Act.put, List.setIfInBounds_toArray, List.set_cons_zero, List.set_cons_succ]
                refine wpAnyI_take (i := 19) (some 76) (.int .i64 c') (fun _ => trivial) (by kernel_rfl) rfl rfl (by kernel_rfl) (by kernel_rfl) (by kernel_rfl) (by kernel_rfl) (fun _ _ _ h => h) (by rfl) ?hv19 hS0 ?rest19
                case hv19 =>
                  intro wz hSz
                  obtain ⟨y0, y1, y2, y3, y4, y5, y6, y7⟩ := hSz
                  go_simp
                try simp only [Act.put, List.setIfInBounds_toArray, List.set_cons_zero, List.set_cons_succ]
                refine wpAnyI_take (i := 20) (some 77) (.pointer (some ⟨G, c' * 5, none⟩)) (fun _ => trivial) (by kernel_rfl) rfl rfl (by kernel_rfl) (by kernel_rfl) (by kernel_rfl) (by kernel_rfl) (fun _ _ _ h => h) (by rfl) ?hv20 hS0 ?rest20
                case hv20 =>
                  intro wz hSz
                  obtain ⟨y0, y1, y2, y3, y4, y5, y6, y7⟩ := hSz
                  go_simp
                try simp only [Act.put, List.setIfInBounds_toArray, List.set_cons_zero, List.set_cons_succ]
                refine wpAnyI_take (i := 21) (some 78) (.pointer (some ⟨G, c' * 5 + 1, none⟩)) (fun _ => trivial) (by kernel_rfl) rfl rfl (by kernel_rfl) (by kernel_rfl) (by kernel_rfl) (by kernel_rfl) (fun _ _ _ h => h) (by rfl) ?hv21 hS0 ?rest21
                case hv21 =>
                  intro wz hSz
                  obtain ⟨y0, y1, y2, y3, y4, y5, y6, y7⟩ := hSz
                  go_simp
                try simp only [Act.put, List.setIfInBounds_toArray, List.set_cons_zero, List.set_cons_succ]
                refine wpAnyI_take (i := 22) (some 79) (.agg #[.int .i64 qk, .int .i64 qa, .int .i64 qy, .int .i64 qn]) (fun _ => trivial) (by kernel_rfl) rfl rfl (by kernel_rfl) (by kernel_rfl) (by kernel_rfl) (by kernel_rfl) (fun _ _ _ h => h) (by rfl) ?hv22 hS0 ?rest22
                case hv22 =>
                  intro wz hSz
                  obtain ⟨y0, y1, y2, y3, y4, y5, y6, y7⟩ := hSz
                  go_simp
                try simp only [Act.put, List.setIfInBounds_toArray]
                refine wpAnyI_one (i := 14) (by kernel_rfl) rfl (by rfl) ?_
                intro K hK
                refine step_appI (.tmp 62) (.tmp 70) 36 (by rfl) HRUN2.out (by rfl) (by rfl) ?_
                refine hK.out _ _ (fun _ => hS2) ?_
                clear hK
                try simp only [Act.put, List.setIfInBounds_toArray, List.set_cons_zero, List.set_cons_succ]
                refine wpAnyI_one (i := 23) (by kernel_rfl) rfl (by rfl) ?_
                intro K hK
                go_simp
                refine hK.out _ _ (fun _ => hS2) ?_
                clear hK
                try simp only [Act.put, List.setIfInBounds_toArray, List.set_cons_zero, List.set_cons_succ]
                refine wpAnyI_one (i := 24) (by kernel_rfl) rfl (by rfl) ?_
                intro K hK
                go_simp
                refine hK.out _ _ (fun _ => hS2) ?_
                clear hK
                try simp only [Act.put, List.setIfInBounds_toArray, List.set_cons_zero, List.set_cons_succ]
                refine wpAnyI_one (i := 25) (by kernel_rfl) rfl (by rfl) ?_
                intro K hK
                go_simp
                refine hK.out _ _ (fun h => absurd rfl h) ?_
                clear hK
                refine wpAnyI_done (by kernel_rfl) ?_ _
                have hlo := HOW2.out.lt
                have hfar : OpFar bad (.slice AA2 (pops ++ qops).length cc2) (pops ++ qops) := fun a n cc e9 _ hm9 => by
                  have h9 := (hlo a.block (by rw [e9]; rfl)).1
                  have h10 := HBAD.out _ hm9
                  have h11 := HJ.out.siz
                  omega
                have hrp := slRep_ops (Nat.le_refl _) HOW2.out
                obtain ⟨w9, hw9, ht9, hbb9, hsz9, hk9⟩ := HT8.out.put HGV.out hkl ⟨pops ++ qops, ⟨qk, qa, qy, qn⟩⟩ (by show SlRep opEnc w8 w8.heap.size (.slice AA2 (pops ++ qops).length cc2) (pops ++ qops); exact hrp) hfar
                have HJ9 := Lib.hid (HJ8.out.put HTG.out HGVS.out.1 HNBw.out.1 HAW.out ht9 hbb9 hsz9 hk9)
                have HJF := Lib.hid (HJ9.out.flag HGV.out HTV.out HGVS.out.2 HNBw.out.1 HAW.out c')
                have HD9 := Lib.hid (hk9 _ _ (by have := HSZ.out; have := HNBw.out.1; have := HGVS.out.1; omega) ((HB78.out.block _ (lt_of_blk HDr.out)).trans HDr.out))
                have HR9 := Lib.hid (hk9 _ _ (by have := HSZ.out; have := HNBw.out.1; have := HGVS.out.1; omega) ((HB78.out.block _ (lt_of_blk HRr.out)).trans HRr.out))
                have HDF := Lib.hid (blk_far HD9.out ⟨V, c', none⟩ (.bool true) (by show V ≠ W0.heap.size; have := HSZ.out; have := HNBw.out.1; have := HGVS.out.2; omega))
                have HRF := Lib.hid (blk_far HR9.out ⟨V, c', none⟩ (.bool true) (by show V ≠ W0.heap.size + 1; have := HSZ.out; have := HNBw.out.1; have := HGVS.out.2; omega))
                have hsl : s.length = l0.length := by rw [HW.out.inv.len, HW.out.len]
                have hfl := ht9.flag
                have v0 := (cell_of_blk ht9.flag c').1
                rw [bools_at (show c' < (tdNot s).length by rw [tdNot_len, hsl]; exact hcl)] at v0
                have v1 := (cell_of_blk ht9.flag c').2
                have e0 := (cell_of_blk HJ9.out.box 0).1
                have e1 := HJ9.out.tbx.cells.2
                simp only at hw9
                rw [HLN.out] at hw9
                have HFL := Lib.hid (fls_of HMT.out.flag)
                have HFF : Hid (fls (w9.setCell ⟨V, c', none⟩ (.bool true)) V + tdTrues (tdNot (s.set c' false)) = (tdNot (s.set c' false)).length) := Lib.hid (HJF.out.tm.elim fun _ h => fls_of h.flag)
                have HTT : Hid (tdTrues (tdNot (s.set c' false)) = tdTrues (tdNot s) + 1) := Lib.hid (by
                  rw [tdNot_set, Bool.not_false]
                  refine tdTrues_set _ _ (by rw [tdNot_len, hsl]; exact hcl) ?_
                  rw [getD_in _ _ _ false (by rw [tdNot_len, hsl]; exact hcl), tdNot_getD s c' (by rw [hsl]; exact hcl), HCS.out]; rfl)
                have HSL := Lib.hid hsl
                clear hlo hfar hrp ht9 hbb9 hsz9 hk9 hfl u0 u1 u2 u3 u4 f0 f1 f2 f3 f4 hS0 hS2 uf hsl
                rw [hw9]
                clear hw9
                gi_wp2
                refine ⟨⟨_, _, HW2.out, ?_, HJF.out, Lib.hid (HST2.out.symm.trans HRW.out), HDF.out, HRF.out⟩, ?_⟩
                · rw [getD_setB s c' k false false (by rw [HSL.out]; exact hcl), if_neg (fun e => HCM.out e.symm)]; exact HSK.out
                · have a1 := HFL.out
                  have a2 := HFF.out
                  have a3 := HTT.out
                  rw [tdNot_len] at a1
                  rw [tdNot_len, List.length_set] at a2
                  omega
              · have HNC := Lib.hid (tdCan_no (cnt := cnt) HTM.out (Or.inr (Or.inr (Or.inr (Or.inr h5)))))
                rw [← HCNT.out] at n1
                have q5 : (((cnt (c : Int) : Nat) : Int) != 1) = true := by rw [bne_iff_ne]; omega
                generalize ((cnt (c : Int) : Nat) : Int) = cc at *
                clear h2 h3 h4 h5
                have hze := HRW.out
                rw [tdRow_end HNC.out] at hze
                have HEND : Hid (JoM w T G V cap l0.length NB A bad cl (tdJoinTo cnt (l0, s0) (k + 1)).1 (tdJoinTo cnt (l0, s0) (k + 1)).2 wr) := Lib.hid (by rw [← hze]; exact HJ.out)
                clear hze
                gi_wp2
                exact ⟨HEND.out, HDr.out, HRr.out⟩
      · have HNC := Lib.hid (tdCan_no (cnt := cnt) HTM.out (Or.inl hk1))
        have q1 : (tk == 1) = false := by rw [beq_eq_false_iff_ne]; exact hk1
        clear hk1 hok
        have hze := HRW.out
        rw [tdRow_end HNC.out] at hze
        have HEND : Hid (JoM w T G V cap l0.length NB A bad cl (tdJoinTo cnt (l0, s0) (k + 1)).1 (tdJoinTo cnt (l0, s0) (k + 1)).2 wr) := Lib.hid (by rw [← hze]; exact HJ.out)
        clear hze
        gi_wp2
        exact ⟨HEND.out, HDr.out, HRr.out⟩
  case done =>
    intro W hi hD
    have HI := Lib.hid hi
    have hDD := hD
    clear hi
    gi_wp2
    refine ⟨by simp, .inl ⟨_, _, rfl, run_takeDeferred hDD, ?_⟩⟩
    refine ⟨_, results_none rfl _ _ _, ?_⟩
    rw [← HPO.out]
    exact ⟨⟨_, rfl⟩, NB, A, cl, HI.out.loop (B := W0.heap.size) (by have := HSZ.out; have := HNBw.out.1; omega) (LoopKept.putObj hDD rfl (Nat.le_refl _) (.deferred none))⟩
end Go.Proofs.Ythkobddggoojlaa
