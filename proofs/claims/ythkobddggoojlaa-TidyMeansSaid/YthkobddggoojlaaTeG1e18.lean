/- Parts of a proof. No condition but those that each theorem names. -/
import Derived.WalkKit
import Derived.OpenShut
import Derived.Below
import Derived.Lib.Hide
import Derived.Laws.OwnMore
import Derived.Deep.QuietTactic
import Derived.Deep.AppendLies
import Derived.ProofKit
import Derived.SizedLaws
import Derived.Test.YthkobddggoojlaaProg
import Derived.Handy
import Derived.Deep.RegionHeld3
import Derived.BigQuiet
import Derived.Maps.AppendAt
import Derived.StillTailTactics
import Derived.Deep.DeepCutAuto
import Derived.Test.YthkobddggoojlaaTeG0e0
import Derived.Test.YthkobddggoojlaaTeG0e2
import Derived.Test.YthkobddggoojlaaTeG0e4
import Derived.Test.YthkobddggoojlaaTeIrC
import Derived.Test.YthkobddggoojlaaTeG1e6
namespace Go.Proofs.Ythkobddggoojlaa
open Go.RowKit
set_option linter.unusedVariables false
def bools (s : List Bool) : Array Value := (s.map Value.bool).toArray
theorem bools_at {s : List Bool} {i : Nat} (h : i < s.length) : (bools s)[i]? = some (.bool (s.getD i false)) := by
  unfold bools
  rw [List.getElem?_toArray, List.getElem?_map, List.getD_eq_getElem?_getD, List.getElem?_eq_getElem h]; rfl
theorem bools_set (s : List Bool) (i : Nat) (b : Bool) : (bools s).setIfInBounds i (.bool b) = bools (s.set i b) := by
  unfold bools
  rw [List.setIfInBounds_toArray, List.map_set]
theorem bool_info : (Try.prog.info? 4).map (fun i => (i.zero, i.size, i.bytes)) = some (some (.bool false), 1, 1) := by kernel_rfl
theorem bools_zero (n : Nat) : madeCells (Value.bool false).cells (n * 1) = bools (List.replicate n false) := by
  unfold madeCells bools
  apply Array.ext_getElem?
  intro j
  by_cases hj : j < n
  · simp [hj, Value.cells, Nat.mod_one]
  · simp [hj]
theorem run_make_bools (n : Nat) (hn : n ≤ 2000000) (W : World) : (Instr.makeSlice 35 (.int .i64 (n : Int)) (.int .i64 (n : Int))).run Try.prog W = .ok (.slice (some ⟨W.heap.size, 0, none⟩) n n) (W.alloc (.cells (bools (List.replicate n false)) 4)) := by
  obtain ⟨i0, hi, hz0, hz1, hz2⟩ := info_parts bool_info
  have h := run_make (P := Try.prog) W 35 4 i0 (.bool false) Try.underlying35 hi hz0 .i64 .i64 (n : Int) (n : Int) (by omega) (by omega) (by rw [hz2]; omega) (by omega)
  rw [hz1] at h
  simp only [Int.toNat_natCast] at h
  rw [bools_zero] at h
  exact h
/-- How many flags of a row stand down. -/
def isF : Value → Bool
  | .bool b => !b
  | _ => false
def fls (w : World) (S : Nat) : Nat := match w.heap[S]? with
  | some (.cells cs _ _) => cs.toList.countP isF
  | _ => 0
theorem countF (s : List Bool) : s.countP (fun b => !b) + tdTrues s = s.length := by
  unfold tdTrues
  induction s with
  | nil => rfl
  | cons b s ih =>
    rw [List.countP_cons, List.count_cons, List.length_cons, ← ih]
    cases b <;> simp <;> omega
theorem fls_of {w : World} {S : Nat} {s : List Bool} {t : TypeId} {o : Nat × Nat} (h : w.heap[S]? = some (.cells (bools s) t o)) : fls w S + tdTrues s = s.length := by
  unfold fls
  rw [h]
  show (bools s).toList.countP isF + _ = _
  unfold bools
  rw [← countF s]
  congr 1
  show (s.map Value.bool).countP isF = _
  rw [List.countP_map]; rfl
set_option maxRecDepth 100000 in
set_option maxHeartbeats 4000000 in
theorem ref23_leads (l : List Blk) (hl : TdOk l) (hn : l.length ≤ 1048576) (A : Option Addr) (c : Nat) (k : Int) (hk : tdLab l.length k) (w : World) (h : SlRep blkEnc w w.heap.size (.slice A l.length c) l) :
    Calls Try.prog 41 #[.slice A l.length c, .int .i64 k] w fun e w' => e = .returned (.int .i64 (tdLeads l k)) ∧ Below w.heap.size w w' := by
  have HL := Lib.hid h
  have hmk := run_make_bools l.length (by omega)
  have HV0 := Lib.hid (heap_alloc_new w (.cells (bools (List.replicate l.length false)) 4))
  have HB0 := Lib.hid (bnew w (.cells (bools (List.replicate l.length false)) 4))
  have HPL := Lib.hid (tdPath_lab hl hk)
  have HSS := Lib.hid (fun j s h hs => @TdSeen.stop l k j s h hs)
  have HSR := Lib.hid (fun j s h a b d => @TdSeen.ring l k j s h a b d)
  have HST := Lib.hid (fun j s h a b d e => @TdSeen.step l k j s h a b d e)
  have HS0 := Lib.hid (TdSeen.start l k)
  have HPS : Hid (∀ j, tdStop l (tdPath l j k) = false → tdPath l (j + 1) k = tdNext l (tdPath l j k)) := Lib.hid (fun j hj => by rw [tdPath_succ, tdStep_go hj])
  generalize hPO : (fun (e : Ending) (w' : World) => e = .returned (.int .i64 (tdLeads l k)) ∧ Below w.heap.size w w') = PO
  have HPO := Lib.hid hPO
  clear h hl hk hPO
  go_enter Try.func41, Try.ntmps41
  go_wp2_with fail
  generalize w.alloc (.cells (bools (List.replicate l.length false)) 4) = w1 at *
  go_loopw [6] (fun vi wr => ∃ (j : Nat) (s : List Bool), vi = .int .i64 (tdPath l j k) ∧ TdSeen l k j s ∧ wr.heap[w.heap.size]? = some (.cells (bools s) 4 (0, 0)) ∧ Below w.heap.size w wr) (fun _ wr => fls wr w.heap.size)
  case atStart => exact ⟨0, _, rfl, HS0.out, HV0.out, HB0.out⟩
  case round =>
    obtain ⟨j, s, rfl, hs, hv, hb⟩ := hrel
    have HS := Lib.hid hs
    have HV := Lib.hid hv
    have HB := Lib.hid hb
    have hlab := HPL.out j
    have HNX := Lib.hid (HPS.out j)
    have HSS1 := Lib.hid (HSS.out j s hs)
    have HSR1 := Lib.hid (HSR.out j s hs)
    have HST1 := Lib.hid (HST.out j s hs)
    have hsl := hs.len
    have HTP : Hid (tdPath l j k = tdPath l j k) := Lib.hid rfl
    clear hs hv hb
    generalize hx : tdPath l j k = x at *
    obtain ⟨x0, x1⟩ := hlab
    by_cases hm : x = -1
    · subst hm
      have e := HSS1.out (by rfl)
      go_wp2_with fail
      rw [← HPO.out]
      exact ⟨by rw [e], HB.out⟩
    · have hx0 : 0 ≤ x := by omega
      obtain ⟨m, rfl⟩ : ∃ m : Nat, x = (m : Int) := ⟨x.toNat, by omega⟩
      have hml : m < l.length := by omega
      have m0 : (0 : Int) ≤ (m : Int) := by omega
      have m1 : (m : Int) < (l.length : Int) := by omega
      obtain ⟨b, off, rfl, hb0, OA, oc, hops, hoc, y0, y1, y2, y3, y4⟩ := blk_at (HL.out.below HB.out (Nat.le_refl _)) m hml
      have hst : tdStop l (m : Int) = !tdDet (l.getD m blkNone) := by unfold tdStop; rw [decide_eq_false hm]; rfl
      have hnx : tdNext l (m : Int) = (l.getD m blkNone).term.yes := rfl
      rw [hnx, hst] at HNX
      rw [hst] at HSS1 HSR1 HST1
      unfold tdDet at HNX HSS1 HSR1 HST1
      have hbz : b ≠ w.heap.size := by omega
      generalize l.getD m blkNone = bk at *
      obtain ⟨ops, trm⟩ := bk
      obtain ⟨tk, ta, ty, tn⟩ := trm
      simp only at y0 y1 y2 y3 y4 HNX HSS1 HSR1 HST1
      have z0 := (cell_of_blk HV.out m).1
      have z1 := (cell_of_blk HV.out m).2
      rw [bools_at (show m < s.length by omega)] at z0
      simp only [Int.toNat_natCast] at HSR1 HST1
      clear hops hx hm x0 hst hnx
      cases ops with
      | cons o ops =>
        have e := HSS1.out (by simp)
        have hq : ((ops.length : Int) + 1 == 0) = false := by rw [beq_eq_false_iff_ne]; omega
        have hq2 : (((o :: ops).length : Int) == 0) = false := by rw [beq_eq_false_iff_ne]; simp; omega
        go_wp2_with fail
        rw [← HPO.out]
        exact ⟨by rw [e], HB.out⟩
      | nil =>
        by_cases hk1 : tk = 1
        · subst hk1
          cases hf : s.getD m false with
          | true =>
            rw [hf] at z0
            have e := HSR1.out (by omega) (by simp) hf
            clear hf
            go_wp2_with fail
            rw [← HPO.out]
            exact ⟨by rw [e], HB.out⟩
          | false =>
            rw [hf] at z0
            have hs2 := HST1.out (by omega) (by omega) (by simp) hf
            have hy := HNX.out (by simp)
            have hv2 := blk_set HV.out m (.bool true)
            rw [bools_set] at hv2
            have HS2 := Lib.hid hs2
            have HV2 := Lib.hid hv2
            have HB2 := Lib.hid (HB.out.setCell (p := ⟨w.heap.size, m, none⟩) (Nat.le_refl _) (.bool true))
            have HF := Lib.hid hf
            have HY := Lib.hid hy
            have y3' : (wr.setCell ⟨w.heap.size, m, none⟩ (.bool true)).cell? ⟨b, off + m * 5 + 3, none⟩ = some (.int .i64 ty) := by rw [← y3]; exact (HB2.out.cell (p := ⟨b, off + m * 5 + 3, none⟩) hb0).trans ((HB.out.cell (p := ⟨b, off + m * 5 + 3, none⟩) hb0).symm)
            clear hs2 hv2 hf hy
            go_wp2_with fail
            go_roundw
            case rel => exact ⟨j + 1, _, by rw [HY.out], HS2.out, HV2.out, HB2.out⟩
            case measure =>
              have h1 := fls_of HV.out
              have h2 := fls_of HV2.out
              have h3 := HS2.out.num
              have h4 := HS2.out.len
              have h5 := HS.out.num
              have h6 := HS.out.len
              omega
        · have q : (tk == 1) = false := by rw [beq_eq_false_iff_ne]; exact hk1
          have e := HSS1.out (by simp [hk1])
          clear hk1
          go_wp2_with fail
          rw [← HPO.out]
          exact ⟨by rw [e], HB.out⟩
def tdNames (t : Trm) (k : Int) : Nat := (if t.kind ≠ 3 ∧ t.yes = k then 1 else 0) + (if t.kind = 2 ∧ t.no = k then 1 else 0)
theorem ref23_names (t : Trm) (k : Int) (w : World) : Calls Try.prog 42 #[trmVal t, .int .i64 k] w fun e w' => e = .returned (.int .i64 (tdNames t k : Nat)) ∧ Below w.heap.size w w' := by
  have hx := heap_alloc_new w (.cells #[.int .i64 t.kind, .int .i64 t.a, .int .i64 t.yes, .int .i64 t.no] 38)
  have hb := bnew w (.cells #[.int .i64 t.kind, .int .i64 t.a, .int .i64 t.yes, .int .i64 t.no] 38)
  have HB := Lib.hid hb
  have HX := Lib.hid hx
  generalize hPO : (fun (e : Ending) (w' : World) => e = .returned (.int .i64 (tdNames t k : Nat)) ∧ Below w.heap.size w w') = PO
  have HPO := Lib.hid hPO
  unfold trmVal
  clear hx hb hPO
  have c0 : (w.alloc (.cells #[.int .i64 t.kind, .int .i64 t.a, .int .i64 t.yes, .int .i64 t.no] 38)).cell? ⟨w.heap.size, 0, none⟩ = some (.int .i64 t.kind) := (cell_of_blk HX.out 0).1
  have c2 : (w.alloc (.cells #[.int .i64 t.kind, .int .i64 t.a, .int .i64 t.yes, .int .i64 t.no] 38)).cell? ⟨w.heap.size, 2, none⟩ = some (.int .i64 t.yes) := (cell_of_blk HX.out 2).1
  have c3 : (w.alloc (.cells #[.int .i64 t.kind, .int .i64 t.a, .int .i64 t.yes, .int .i64 t.no] 38)).cell? ⟨w.heap.size, 3, none⟩ = some (.int .i64 t.no) := (cell_of_blk HX.out 3).1
  obtain ⟨tk, ta, ty, tn⟩ := t
  simp only at c0 c2 c3 HB
  go_enter Try.func42, Try.ntmps42
  go_upto_region 1 with (fail)
  generalize w.alloc (.cells #[.int .i64 tk, .int .i64 ta, .int .i64 ty, .int .i64 tn] 38) = w1 at *
  by_cases h3 : tk = 3
  · subst h3
    go_wp2_with fail
    rw [← HPO.out]
    exact ⟨by rfl, HB.out⟩
  · have q3 : (tk != 3) = true := by rw [bne_iff_ne]; exact h3
    by_cases h2 : tk = 2
    · subst h2
      by_cases hy : ty = k
      · have qy : (ty == k) = true := by rw [beq_iff_eq]; exact hy
        by_cases hn : tn = k
        · have qn : (tn == k) = true := by rw [beq_iff_eq]; exact hn
          have HE : Hid (tdNames ⟨2, ta, ty, tn⟩ k = 2) := Lib.hid (by unfold tdNames; simp [hy, hn])
          clear hy hn h3
          go_wp2_with fail
          rw [← HPO.out]
          exact ⟨by rw [HE.out]; rfl, HB.out⟩
        · have qn : (tn == k) = false := by rw [beq_eq_false_iff_ne]; exact hn
          have HE : Hid (tdNames ⟨2, ta, ty, tn⟩ k = 1) := Lib.hid (by unfold tdNames; simp [hy, hn])
          clear hy hn h3
          go_wp2_with fail
          rw [← HPO.out]
          exact ⟨by rw [HE.out]; rfl, HB.out⟩
      · have qy : (ty == k) = false := by rw [beq_eq_false_iff_ne]; exact hy
        by_cases hn : tn = k
        · have qn : (tn == k) = true := by rw [beq_iff_eq]; exact hn
          have HE : Hid (tdNames ⟨2, ta, ty, tn⟩ k = 1) := Lib.hid (by unfold tdNames; simp [hy, hn])
          clear hy hn h3
          go_wp2_with fail
          rw [← HPO.out]
          exact ⟨by rw [HE.out]; rfl, HB.out⟩
        · have qn : (tn == k) = false := by rw [beq_eq_false_iff_ne]; exact hn
          have HE : Hid (tdNames ⟨2, ta, ty, tn⟩ k = 0) := Lib.hid (by unfold tdNames; simp [hy, hn])
          clear hy hn h3
          go_wp2_with fail
          rw [← HPO.out]
          exact ⟨by rw [HE.out]; rfl, HB.out⟩
    · have q2 : (tk == 2) = false := by rw [beq_eq_false_iff_ne]; exact h2
      by_cases hy : ty = k
      · have qy : (ty == k) = true := by rw [beq_iff_eq]; exact hy
        have HE : Hid (tdNames ⟨tk, ta, ty, tn⟩ k = 1) := Lib.hid (by unfold tdNames; simp [hy, h2, h3])
        clear hy h2 h3
        go_wp2_with fail
        rw [← HPO.out]
        exact ⟨by rw [HE.out]; rfl, HB.out⟩
      · have qy : (ty == k) = false := by rw [beq_eq_false_iff_ne]; exact hy
        have HE : Hid (tdNames ⟨tk, ta, ty, tn⟩ k = 0) := Lib.hid (by unfold tdNames; simp [hy, h2])
        clear hy h2 h3
        go_wp2_with fail
        rw [← HPO.out]
        exact ⟨by rw [HE.out]; rfl, HB.out⟩
end Go.Proofs.Ythkobddggoojlaa
