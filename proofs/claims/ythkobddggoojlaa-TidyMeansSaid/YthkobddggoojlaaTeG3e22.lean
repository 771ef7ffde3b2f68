/- Parts of a proof. No condition but those that each theorem names. -/
import Derived.WalkKit
import Derived.OpenShut
import Derived.Below
import Derived.Lib.Hide
import Derived.Laws.OwnMore
import Derived.Deep.QuietTactic
import Derived.Deep.AppendLies
import Derived.ProofKit
import Derived.SizedLaws
import Derived.Test.YthkobddggoojlaaProg
import Derived.Handy
import Derived.Deep.RegionHeld3
import Derived.BigQuiet
import Derived.Maps.AppendAt
import Derived.Maps.RangeWalk
import Derived.Maps.OwnSet
import Derived.StillTailTactics
import Derived.Laws.CopyOwn
import Derived.Lib.BufferWrite
import Derived.OrdersHeld
import Derived.RegionTactic
import Derived.Deep.DeepCutAuto
import Derived.RangeFuncNested
import Derived.RangeFuncBound
import Derived.RangeFuncCalls
import Derived.RangeFuncLeaves
import Derived.OwnWalkIn
import Derived.TacticsInMore
import Derived.LoopNIn
import Derived.LoopIn
import Derived.Shelf.Abstract
import Derived.Shelf.RegionOpen
import Derived.Test.YthkobddggoojlaaTeG0e0
import Derived.Test.YthkobddggoojlaaTeG0e1
import Derived.Test.YthkobddggoojlaaTeG0e2
import Derived.Test.YthkobddggoojlaaTeG0e4
import Derived.Test.YthkobddggoojlaaTeIrC
import Derived.Test.YthkobddggoojlaaTeG1e6
import Derived.Test.YthkobddggoojlaaTeG1e7
import Derived.Test.YthkobddggoojlaaTeG0e8
import Derived.Test.YthkobddggoojlaaTeG1e12
import Derived.Test.YthkobddggoojlaaTeG1e16
import Derived.Test.YthkobddggoojlaaTeG0e15
import Derived.Test.YthkobddggoojlaaTeG1e18
import Derived.Test.YthkobddggoojlaaTeG1e19
import Derived.Test.YthkobddggoojlaaTeG1e17
import Derived.Test.YthkobddggoojlaaTeG1e20
import Derived.Test.YthkobddggoojlaaTeG1e21
import Derived.Test.YthkobddggoojlaaTeTmC
namespace Go.Proofs.Ythkobddggoojlaa
open Go Go.RowKit
set_option linter.unusedVariables false
attribute [local go_sem] Oper.semAt_some
theorem bools_inj {a b : List Bool} (h : bools a = bools b) : a = b := by
  unfold bools at h
  have h1 := congrArg Array.toList h
  simp only at h1
  have h2 : ∀ (a b : List Bool), a.map Value.bool = b.map Value.bool → a = b := by
    intro a
    induction a with
    | nil => intro b h; cases b with
      | nil => rfl
      | cons y b => cases h
    | cons x a ih => intro b h; cases b with
      | nil => cases h
      | cons y b =>
        rw [List.map_cons, List.map_cons] at h
        injection h with e1 e2
        injection e1 with e1
        rw [e1, ih b e2]
  exact h2 a b h1
theorem TiFl.of {V : Nat} {W : World} {k : Nat} {b : Bool} {g : List Bool} (h : TiFl V W k b) (hg : W.heap[V]? = some (.cells (bools g) 4 (0, 0))) : k < g.length ∧ g.getD k false = b := by
  obtain ⟨s, h1, h2, h3⟩ := h
  rw [hg] at h1
  injection h1 with h1
  injection h1 with h1
  obtain rfl := bools_inj h1
  exact ⟨h2, h3⟩
theorem own_get {w : World} {base t c n i : Nat} {A : Option Addr} {ys : List Value} (h : w.ownsRow base t 1 (.slice A n c) n ys) (hi : i < n) : ∃ g, A = some ⟨g, 0, none⟩ ∧ w.cell? ⟨g, i, none⟩ = ys[i]? := by
  have h2 := h
  obtain ⟨_, h1 | ⟨g', cap', cur, e, _⟩⟩ := h
  · omega
  · injection e with e1 e2 e3
    subst e1 e3
    exact ⟨g', rfl, h2.cellAt i (by omega)⟩
/-- What holds between two places while names are counted. -/
structure CoSt (l : List Blk) (s : List Bool) (T : Nat) (w : World) (k : Nat) (W : World) : Prop where
  bel : Below w.heap.size w W
  box : W.heap[w.heap.size]? = some (.cells #[.pointer (some ⟨T, 0, none⟩)] 47 (0, 0))
  cel : W.heap[w.heap.size + 1 + 1]? = some (.cells #[.slice (some ⟨w.heap.size + 1, 0, none⟩) l.length l.length] 72 (0, 0))
  row : ∃ cl : List Int, cl.length = l.length ∧ W.heap[w.heap.size + 1]? = some (.cells (ints cl) 3 (0, 0)) ∧ ∀ j, j < l.length → cl.getD j 0 = (tdSum (tdNm l s (j : Int)) k : Nat)
theorem CoSt.kept {l : List Blk} {s : List Bool} {T k B : Nat} {w W W' : World} (h : CoSt l s T w k W) (hB : w.heap.size ≤ B) (hk : LoopKept B W W') : CoSt l s T w k W' := by
  obtain ⟨cl, h1, h2, h3⟩ := h.row
  exact ⟨h.bel.trans (hk.1.mono hB), hk.2 _ _ h.box rfl, hk.2 _ _ h.cel rfl, cl, h1, hk.2 _ _ h2 rfl, h3⟩
set_option maxRecDepth 100000 in
set_option maxHeartbeats 2000000 in
theorem tidy_counts (l : List Blk) (hl : TdOk l) (hn : l.length ≤ 1048576) (T G V cap : Nat) (bad : List Nat) (s : List Bool) (hs : s.length = l.length) (ovs : List Value) (w : World) (hT : TiBox w T G V cap l.length) (h : TmAt w G V bad l (tdNot s) ovs) :
    Calls Try.prog 34 #[.pointer (some ⟨T, 0, none⟩)] w fun e w' => ∃ (A : Nat) (cl : List Int), e = .returned (.slice (some ⟨A, 0, none⟩) l.length l.length) ∧ w.heap.size ≤ A ∧ cl.length = l.length ∧ w'.heap[A]? = some (.cells (ints cl) 3 (0, 0)) ∧ (∀ j, j < l.length → cl.getD j 0 = (tdCnt l s (j : Int) : Nat)) ∧ Below w.heap.size w w' := by
  have HM := Lib.hid h
  have HT := Lib.hid hT
  have HTG := Lib.hid (fun (x : Nat) (hx : x < l.length) W => tidy_targets l.length (l.getD x blkNone).term (hl _ (getD_memI l x blkNone hx)) W)
  have hmk := run_make_ints l.length (by omega)
  have HS := Lib.hid hs
  have HLAB : ∀ k, k < l.length → Hid (∀ x ∈ tdTg (l.getD k blkNone).term, 0 ≤ x ∧ x < l.length) := fun k hk => Lib.hid (fun x hx => tdTg_lab (hl _ (getD_memI l k blkNone hk)) hx)
  generalize hPO : (fun (e : Ending) (w' : World) => ∃ (A : Nat) (cl : List Int), e = .returned (.slice (some ⟨A, 0, none⟩) l.length l.length) ∧ w.heap.size ≤ A ∧ cl.length = l.length ∧ w'.heap[A]? = some (.cells (ints cl) 3 (0, 0)) ∧ (∀ j, j < l.length → cl.getD j 0 = (tdCnt l s (j : Int) : Nat)) ∧ Below w.heap.size w w') = PO
  have HPO := Lib.hid hPO
  unfold trmVal at HTG
  have hb0 := bnew w (.cells #[.pointer (some ⟨T, 0, none⟩)] 47)
  have t0 := (hT.below hb0).cells.1
  clear h hT hl hPO hs hb0
  refine (callsIn_wide (n := 6)).1 ?_
  refine callsIn_of_wp_marks Try.func34 rfl trivial ?_ rfl
  simp only [Try.ntmps34, List.size_toArray, List.length_cons, List.length_nil, Nat.reduceAdd, Nat.reduceSub, Array.replicate_succ, Array.replicate_zero, List.push_toArray, List.append_toArray, List.nil_append, List.cons_append]
  gi_wp2
  have h1 := heap_alloc_new w (.cells #[.pointer (some ⟨T, 0, none⟩)] 47)
  have h2 := heap_alloc_new (w.alloc (.cells #[.pointer (some ⟨T, 0, none⟩)] 47)) (.cells (ints (List.replicate l.length 0)) 3)
  have h3 := heap_alloc_new ((w.alloc (.cells #[.pointer (some ⟨T, 0, none⟩)] 47)).alloc (.cells (ints (List.replicate l.length 0)) 3)) (.cells #[.slice (some ⟨w.heap.size + 1, 0, none⟩) l.length l.length] 72)
  have b1 := bnew w (.cells #[.pointer (some ⟨T, 0, none⟩)] 47)
  have b2 := bnew (w.alloc (.cells #[.pointer (some ⟨T, 0, none⟩)] 47)) (.cells (ints (List.replicate l.length 0)) 3)
  have b3 := bnew ((w.alloc (.cells #[.pointer (some ⟨T, 0, none⟩)] 47)).alloc (.cells (ints (List.replicate l.length 0)) 3)) (.cells #[.slice (some ⟨w.heap.size + 1, 0, none⟩) l.length l.length] 72)
  have h1' := (bch b2 b3).block _ (lt_of_blk h1) |>.trans h1
  have h2' := (b3.block _ (lt_of_blk h2)).trans h2
  have hbb := bch (bch b1 b2) b3
  have hsz : (((w.alloc (.cells #[.pointer (some ⟨T, 0, none⟩)] 47)).alloc (.cells (ints (List.replicate l.length 0)) 3)).alloc (.cells #[.slice (some ⟨w.heap.size + 1, 0, none⟩) l.length l.length] 72)).heap.size = w.heap.size + 1 + 1 + 1 := by simp
  simp only [World.size_alloc] at h2' h3
  generalize ((w.alloc (.cells #[.pointer (some ⟨T, 0, none⟩)] 47)).alloc (.cells (ints (List.replicate l.length 0)) 3)).alloc (.cells #[.slice (some ⟨w.heap.size + 1, 0, none⟩) l.length l.length] 72) = W0 at *
  have HC0 : Hid (CoSt l s T w 0 W0) := Lib.hid ⟨hbb, h1', h3, List.replicate l.length 0, List.length_replicate, h2', fun j hj => by rw [List.getD_eq_getElem?_getD, List.getElem?_replicate, if_pos hj]; rfl⟩
  have HSZ := Lib.hid hsz
  clear h1 h2 h3 b1 b2 b3 h1' h2' hbb hsz t0
  have HTI : Hid (∀ k W, CoSt l s T w k W → TiBox W T G V cap l.length) := Lib.hid (fun k W h => HT.out.below h.bel)
  have HMI : Hid (∀ k W, CoSt l s T w k W → TmAt W G V bad l (tdNot s) ovs) := Lib.hid (fun k W h => HM.out.below h.bel)
  refine wpIn_rangeThere rfl (by omega) (gf := 35) (N := l.length) (bd := #[.pointer (some ⟨T, 0, none⟩)]) (lb := #[]) rfl trivial (enters_of Try.func35 (by kernel_rfl) rfl) (tidy_there 5 (by omega) T G V cap l.length hn) rfl
    (CoSt l s T w) (fun k W W' h hk => h.kept (by have := HSZ.out; omega) hk) HC0.out (fun k W h => ⟨HTI.out k W h, tdNot s, by rw [tdNot_len]; exact HS.out, (HMI.out k W h).flag⟩) (fun k W W' b hf hk => TiFl.kept hf hk) ?skip
    (fun k => { tmps := #[.pointer (some ⟨T, 0, none⟩), .pointer (some ⟨w.heap.size, 0, none⟩), .slice none 0 0, .pointer (some ⟨w.heap.size + 1 + 1, 0, none⟩), .int .i64 (k : Int), undef, undef, .pointer (some ⟨T, 0, none⟩), .pointer (some ⟨T, 0, none⟩), .pointer (some ⟨T, 0, none⟩), .slice (some ⟨G, 0, none⟩) l.length cap, .int .i64 l.length, .slice (some ⟨w.heap.size + 1, 0, none⟩) l.length l.length, .pointer (some ⟨T, 0, none⟩), .func (.func 35) #[.pointer (some ⟨T, 0, none⟩)] #[], .int .i64 (k : Int), undef, undef, undef, undef, undef, undef, undef, undef, undef, undef, undef, undef, undef, undef, undef, undef, undef, undef, undef, undef, undef, undef], defers := [] }) ?assign ?body ?done
  case skip =>
    rintro k W ⟨hb, hx, hc, cl, h1, h2, h3⟩ hk ⟨s', hV, hl', hf⟩
    obtain ⟨_, hg⟩ := TiFl.of ⟨s', hV, hl', hf⟩ (HM.out.below hb).flag
    rw [tdNot_getD s k (by rw [HS.out]; exact hk)] at hg
    have hg : s.getD k false = false := by revert hg; cases s.getD k false <;> simp
    refine ⟨hb, hx, hc, cl, h1, h2, fun j hj => ?_⟩
    have hz : tdNm l s (j : Int) k = 0 := by unfold tdNm; rw [hg]; rfl
    have he : tdSum (tdNm l s (j : Int)) (k + 1) = tdSum (tdNm l s (j : Int)) k + tdNm l s (j : Int) k := rfl
    rw [h3 j hj, he, hz, Nat.add_zero]
  case assign =>
    intro l' k W K hK
    gi_wp2
    exact hK
  case body =>
    intro l' k W R D hk hi hf hD hR hRc
    have hTW := HTI.out k W hi
    have hMW := HMI.out k W hi
    obtain ⟨_, hg⟩ := hf.of hMW.flag
    rw [tdNot_getD s k (by rw [HS.out]; exact hk)] at hg
    have HG : Hid (s.getD k false = true) := Lib.hid (by revert hg; cases s.getD k false <;> simp)
    obtain ⟨OA, oc, _, _, y0, y1, y2, y3, y4, _⟩ := hMW.cells k hk
    have t0 := hTW.cells.1
    have x0 := (cell_of_blk hi.box 0).1
    have HI := Lib.hid hi
    have HTGm := Lib.hid (fun W => HTG.out k hk W)
    have HNM : Hid (∀ x, tdNm l s x k = (tdTg (l.getD k blkNone).term).count x) := Lib.hid (fun x => by unfold tdNm; rw [if_pos HG.out])
    have HLB : Hid (∀ x ∈ tdTg (l.getD k blkNone).term, 0 ≤ x ∧ x < l.length) := HLAB k hk
    have HTL := Lib.hid (tdTg_len (l.getD k blkNone).term)
    have k0 : (0 : Int) ≤ (k : Int) := by omega
    have k1 : (k : Int) < (l.length : Int) := by omega
    have HD := Lib.hid hD
    have HR := Lib.hid hR
    clear hi hTW hMW hf hg hD hR hRc
    generalize l.getD k blkNone = bk at *
    obtain ⟨ops, trm⟩ := bk
    obtain ⟨tk, ta, ty, tn⟩ := trm
    simp only at y0 y1 y2 y3 y4 HTGm HTL HNM HLB
    generalize tdTg ⟨tk, ta, ty, tn⟩ = tg at *
    gi_wp2
    refine ⟨trivial, ?_⟩
    refine (CallsIn.inRound l' (callsIn_wide.2 (HTGm.out _))).mono ?_
    rintro e w5 ⟨A5, c5, rfl, hb5, ho5⟩
    obtain ⟨cl, c1, c2, c3⟩ := HI.out.row
    have HW5 : Hid (∃ cl : List Int, cl.length = l.length ∧ w5.heap[w.heap.size + 1]? = some (.cells (ints cl) 3 (0, 0)) ∧ ∀ j, j < l.length → cl.getD j 0 = ((tdSum (tdNm l s (j : Int)) k + (tg.take 0).count (j : Int) : Nat) : Int)) := Lib.hid ⟨cl, c1, (hb5.block _ (lt_of_blk c2)).trans c2, fun j hj => by rw [c3 j hj]; simp⟩
    have HB5 := Lib.hid (bch HI.out.bel hb5)
    have HX5 := Lib.hid ((hb5.block _ (lt_of_blk HI.out.box)).trans HI.out.box)
    have HC5 := Lib.hid ((hb5.block _ (lt_of_blk HI.out.cel)).trans HI.out.cel)
    have HD5 := Lib.hid ((hb5.block _ (lt_of_blk HD.out)).trans HD.out)
    have HR5 := Lib.hid ((hb5.block _ (lt_of_blk HR.out)).trans HR.out)
    have HO5 := Lib.hid ho5
    have HW1 : Hid (w.heap.size + 1 + 1 < W.heap.size) := Lib.hid (lt_of_blk HI.out.cel)
    clear hb5 ho5 c1 c2 c3 y0 y1 y2 y3 y4 t0 x0
    generalize htl : tg.length = TL at *
    have HTLL := Lib.hid htl
    clear htl
    gi_wp2
    gi_loopw [26] (fun vi wr => ∃ i : Nat, i ≤ TL ∧ vi = .int .i64 i ∧ (∃ cl : List Int, cl.length = l.length ∧ wr.heap[w.heap.size + 1]? = some (.cells (ints cl) 3 (0, 0)) ∧ ∀ j, j < l.length → cl.getD j 0 = ((tdSum (tdNm l s (j : Int)) k + (tg.take i).count (j : Int) : Nat) : Int)) ∧ Below w.heap.size w wr ∧
      wr.heap[w.heap.size]? = some (.cells #[.pointer (some ⟨T, 0, none⟩)] 47 (0, 0)) ∧ wr.heap[w.heap.size + 1 + 1]? = some (.cells #[.slice (some ⟨w.heap.size + 1, 0, none⟩) l.length l.length] 72 (0, 0)) ∧ wr.heap[W0.heap.size]? = some D ∧ wr.heap[W0.heap.size + 1]? = some R ∧ wr.ownsRow W.heap.size 3 1 (.slice A5 TL c5) TL (tg.map (.int .i64 ·)))
      (fun vi _ => TL - (intOf vi).toNat)
    case atStart => exact ⟨0, Nat.zero_le _, rfl, HW5.out, HB5.out, HX5.out, HC5.out, HD5.out, HR5.out, HO5.out⟩
    case round =>
      obtain ⟨i, hi, rfl, ⟨cl, c1, c2, c3⟩, hb, hx, hc, hD, hR, ho⟩ := hrel
      have HB := Lib.hid hb
      have HX := Lib.hid hx
      have HCC := Lib.hid hc
      have HDr := Lib.hid hD
      have HRr := Lib.hid hR
      have HO := Lib.hid ho
      have H1 := Lib.hid c1
      have H2 := Lib.hid c2
      have H3 := Lib.hid c3
      clear hb hx hc hD hR
      by_cases hil : i < TL
      · obtain ⟨gA, rfl, hget⟩ := own_get ho hil
        have hti : i < tg.length := by rw [HTLL.out]; exact hil
        rw [List.getElem?_map, List.getElem?_eq_getElem hti] at hget
        obtain ⟨x0, x1⟩ := HLB.out (tg[i]) (List.getElem_mem hti)
        have htk : tg.take (i + 1) = tg.take i ++ [tg[i]] := by rw [List.take_add_one, List.getElem?_eq_getElem hti]; rfl
        generalize tg[i] = x at *
        obtain ⟨m, rfl⟩ : ∃ m : Nat, x = (m : Int) := ⟨x.toNat, by omega⟩
        have hget : wr.cell? ⟨gA, i, none⟩ = some (.int .i64 (m : Int)) := hget
        have hml : m < l.length := by omega
        have m0 : (0 : Int) ≤ (m : Int) := by omega
        have m1 : (m : Int) < (l.length : Int) := by omega
        have i0 : (0 : Int) ≤ (i : Int) := by omega
        have i1 : (i : Int) < (TL : Int) := by omega
        have q0 := (cell_of_blk HCC.out 0).1
        obtain ⟨z0, z1⟩ := cell_of_blk c2 m
        rw [ints_get cl m (by omega), c3 m hml] at z0
        have hcm : (tg.take i).count (m : Int) ≤ 2 := by
          have a1 := List.count_le_length (l := tg.take i) (a := (m : Int))
          have a2 := List.length_take_le i tg
          have a3 := HTL.out
          have a4 := HTLL.out
          omega
        have hsm : tdSum (tdNm l s (m : Int)) k ≤ 2 * k := tdSum_nm_le l s (m : Int) k
        have hcnt : tdSum (tdNm l s (m : Int)) k + (tg.take i).count (m : Int) ≤ 3000000 := by omega
        obtain ⟨y, hy⟩ : ∃ y, y = tdSum (tdNm l s (m : Int)) k + (tg.take i).count (m : Int) := ⟨_, rfl⟩
        rw [← hy] at z0 hcnt
        have HY := Lib.hid hy
        have h2 := blk_set H2.out m (.int .i64 ((y : Int) + 1))
        rw [ints_set] at h2
        have HW2 : Hid (∃ cl : List Int, cl.length = l.length ∧ (wr.setCell ⟨w.heap.size + 1, m, none⟩ (.int .i64 ((y : Int) + 1))).heap[w.heap.size + 1]? = some (.cells (ints cl) 3 (0, 0)) ∧ ∀ j, j < l.length → cl.getD j 0 = ((tdSum (tdNm l s (j : Int)) k + (tg.take (i + 1)).count (j : Int) : Nat) : Int)) := Lib.hid ⟨cl.set m ((y : Int) + 1), by rw [List.length_set]; exact c1, h2, fun j hj => by
          rw [getD_setB cl m j _ 0 (by omega), htk, List.count_append, List.count_singleton]
          by_cases e : j = m
          · subst e
            rw [if_pos rfl, hy, if_pos (by simp)]
            omega
          · rw [if_neg e, c3 j hj, if_neg (by rw [beq_iff_eq]; omega)]
            omega⟩
        have HB2 := Lib.hid (HB.out.setCell (p := ⟨w.heap.size + 1, m, none⟩) (Nat.le_succ _) (.int .i64 ((y : Int) + 1)))
        have HX2 := Lib.hid (blk_far HX.out ⟨w.heap.size + 1, m, none⟩ (.int .i64 ((y : Int) + 1)) (by show w.heap.size + 1 ≠ w.heap.size; omega))
        have HC2 := Lib.hid (blk_far HCC.out ⟨w.heap.size + 1, m, none⟩ (.int .i64 ((y : Int) + 1)) (by show w.heap.size + 1 ≠ w.heap.size + 1 + 1; omega))
        have HD2 := Lib.hid (blk_far HDr.out ⟨w.heap.size + 1, m, none⟩ (.int .i64 ((y : Int) + 1)) (by show w.heap.size + 1 ≠ W0.heap.size; have := HSZ.out; omega))
        have HR2 := Lib.hid (blk_far HRr.out ⟨w.heap.size + 1, m, none⟩ (.int .i64 ((y : Int) + 1)) (by show w.heap.size + 1 ≠ W0.heap.size + 1; have := HSZ.out; omega))
        have HO2 := Lib.hid (own_setCell HO.out ⟨w.heap.size + 1, m, none⟩ (.int .i64 ((y : Int) + 1)) (by show w.heap.size + 1 < W.heap.size; have := HW1.out; omega))
        have hTL2 : TL ≤ 2 := by have := HTL.out; have := HTLL.out; omega
        clear ho c1 c2 c3 hti x0 x1 htk hcm hsm hy h2
        gi_wp2
        refine ⟨⟨i + 1, by omega, by go_num, HW2.out, HB2.out, HX2.out, HC2.out, HD2.out, HR2.out, HO2.out⟩, by simp [intOf]; omega⟩
      · obtain rfl : i = TL := by omega
        have HEND : Hid (CoSt l s T w (k + 1) wr) := Lib.hid ⟨HB.out, HX.out, HCC.out, cl, c1, c2, fun j hj => by
          have he : tdSum (tdNm l s (j : Int)) (k + 1) = tdSum (tdNm l s (j : Int)) k + tdNm l s (j : Int) k := rfl
          rw [c3 j hj, he, HNM.out, List.take_of_length_le (Nat.le_of_eq HTLL.out)]⟩
        clear ho c1 c2 c3
        gi_wp2
        exact ⟨HEND.out, HDr.out, HRr.out⟩
  case done =>
    intro W hi hD
    have HI := Lib.hid hi
    have hDD := hD
    have q0 := (cell_of_blk hi.cel 0).1
    clear hi
    gi_wp2
    refine ⟨by simp, .inl ⟨_, _, rfl, run_takeDeferred hDD, ?_⟩⟩
    refine ⟨_, results_tmp rfl _ _ _, ?_⟩
    rw [← HPO.out]
    have hf := HI.out.kept (B := W0.heap.size) (by have := HSZ.out; omega) (LoopKept.putObj hDD rfl (Nat.le_refl _) (.deferred none))
    obtain ⟨cl, c1, c2, c3⟩ := hf.row
    exact ⟨w.heap.size + 1, cl, rfl, Nat.le_succ _, c1, c2, c3, hf.bel⟩
end Go.Proofs.Ythkobddggoojlaa
