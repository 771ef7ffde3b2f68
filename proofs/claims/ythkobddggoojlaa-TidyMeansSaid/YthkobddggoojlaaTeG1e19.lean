/- Parts of a proof, joined. No condition but those that each theorem names. -/
import Derived.WalkKit
import Derived.OpenShut
import Derived.Below
import Derived.Lib.Hide
import Derived.Laws.OwnMore
import Derived.Deep.QuietTactic
import Derived.Deep.AppendLies
import Derived.ProofKit
import Derived.SizedLaws
import Derived.Test.YthkobddggoojlaaProg
import Derived.Handy
import Derived.Deep.RegionHeld3
import Derived.BigQuiet
import Derived.Maps.AppendAt
import Derived.StillTailTactics
import Derived.Laws.CopyOwn
import Derived.Lib.BufferWrite
import Derived.OrdersHeld
import Derived.RegionTactic
import Derived.Deep.DeepCutAuto
import Derived.Test.YthkobddggoojlaaTeG0e0
import Derived.Test.YthkobddggoojlaaTeG0e1
import Derived.Test.YthkobddggoojlaaTeG0e2
import Derived.Test.YthkobddggoojlaaTeG0e4
import Derived.Test.YthkobddggoojlaaTeIrC
import Derived.Test.YthkobddggoojlaaTeG1e6
import Derived.Test.YthkobddggoojlaaTeG1e12
import Derived.Test.YthkobddggoojlaaTeG1e15
import Derived.Test.YthkobddggoojlaaTeG1e18
namespace Go.Proofs.Ythkobddggoojlaa
open Go.RowKit
set_option linter.unusedVariables false
/-- Operations that lie in none of these blocks. -/
def OpFar (bad : List Nat) (ov : Value) (ops : List Opn) : Prop := ∀ a n c, ov = .slice (some a) n c → ops ≠ [] → a.block ∉ bad
theorem OpFar.nil_ (ov : Value) (ops : List Opn) : OpFar [] ov ops := fun a n c _ _ => by simp
/-- A list of blocks of the call's own (from block B on); their operations lie below C, and in none of the blocks bad. -/
structure RoAt (w : World) (B C : Nat) (bad : List Nat) (v : Value) (bs : List Blk) (ovs : List Value) : Prop where
  len : ovs.length = bs.length
  row : w.ownsRow B 40 5 v bs.length (blkRow ovs bs)
  ops : ∀ (i : Nat) (ov : Value) (b : Blk), ovs[i]? = some ov → bs[i]? = some b → SlRep opEnc w C ov b.ops ∧ OpFar bad ov b.ops
theorem RoAt.nil_ (w : World) (B C : Nat) (bad : List Nat) : RoAt w B C bad (.slice none 0 0) [] [] := ⟨rfl, World.ownsRow_nil _ _ _ _, fun i ov b h => by simp at h⟩
theorem SlRep.far {w : World} {T : Type} {n : Nat} {f : T → List Value} {hf : ∀ t, (f t).length = n} {v : Value} {xs : List T} {B : Nat} (h : SlRep (flatEnc n f hf) w B v xs) (q : Addr) (u : Value) (hne : ∀ a m c, v = .slice (some a) m c → xs ≠ [] → a.block ≠ q.block) : SlRep (flatEnc n f hf) (w.setCell q u) B v xs := by
  obtain ⟨A, c, e, hc, hx⟩ := h
  refine ⟨A, c, e, hc, fun k x hk => ?_⟩
  obtain ⟨b, off, es, e1, hb, hr, hcell⟩ := hx k x hk
  refine ⟨b, off, es, e1, hb, hr, fun j v' hj => ?_⟩
  have hb2 : b ≠ q.block := by
    have := hne ⟨b, off, none⟩ _ c (by rw [e, e1]) (by intro e9; rw [e9] at hk; simp at hk)
    exact this
  rw [World.cell?_of_block (Below.heap_setCell w q u b hb2)]
  exact hcell j v' hj
section
variable {w w' w0 : World} {B C : Nat} {bad : List Nat} {v : Value} {bs : List Blk} {ovs : List Value}
theorem RoAt.below (h : RoAt w B C bad v bs ovs) (hC : C ≤ w.heap.size) (hb : Below w.heap.size w w') : RoAt w' B C bad v bs ovs :=
  ⟨h.len, own_below h.row hb, fun i ov b h1 h2 => ⟨(h.ops i ov b h1 h2).1.below hb hC, (h.ops i ov b h1 h2).2⟩⟩
theorem RoAt.setOther (h : RoAt w B C bad v bs ovs) (q : Addr) (u : Value) (hv : v.ownBlock ≠ some q.block) (hq : C ≤ q.block ∨ q.block ∈ bad) : RoAt (w.setCell q u) B C bad v bs ovs := by
  refine ⟨h.len, h.row.kept (grown_setCell w q u) ?_, fun i ov b h1 h2 => ⟨?_, (h.ops i ov b h1 h2).2⟩⟩
  · cases hw : v.ownBlock with
    | none => exact Or.inl rfl
    | some r => exact Or.inr (fun e => hv (hw.trans e))
  · obtain ⟨a, f⟩ := h.ops i ov b h1 h2
    rcases hq with hq | hq
    · exact a.below ((Below.refl C w).setCell hq u) (Nat.le_refl _)
    · exact SlRep.far a q u (fun x m c e hne e9 => f x m c e hne (e9 ▸ hq))
theorem RoAt.push (h : RoAt w B C bad v bs ovs) {A : Option Addr} {c : Nat} {ops : List Opn} (hov : SlRep opEnc w C (.slice A ops.length c) ops) (hfar : OpFar bad (.slice A ops.length c) ops)
    (hCB : C ≤ B) (hB : B ≤ w.heap.size) (hn : bs.length ≤ 2000000) (hw : Below B w0 w) (t : Trm) :
    ∃ A' c' w', (Builtin.append_ #[23, 23] 23 #[v, .slice (some ⟨w.heap.size, 0, none⟩) 1 1]).run Try.prog (w.alloc (.cells #[.slice A ops.length c, .int .i64 t.kind, .int .i64 t.a, .int .i64 t.yes, .int .i64 t.no] 40)) = .ok (.slice A' (bs.length + 1) c') w' ∧
      RoAt w' B C bad (.slice A' (bs.length + 1) c') (bs ++ [⟨ops, t⟩]) (ovs ++ [.slice A ops.length c]) ∧ Below B w0 w' := by
  obtain ⟨v', w', a1, a2, a3, _⟩ := run_append_blk w B v bs.length (blkRow ovs bs) h.row A ops.length c t hn hB
  have hlt := h.row.lt
  have hbw : Below B w w' := ((Below.refl B w).alloc hB _).grown a3 (by simp; omega) (fun r hr => (hlt r hr).1)
  obtain ⟨A', c', rfl⟩ := ownN_len a2
  refine ⟨A', c', w', a1, ⟨by simp [h.len], ?_, fun i ov b h1 h2 => ?_⟩, hw.trans hbw⟩
  · rw [blkRow_snoc _ _ h.len, List.length_append]
    exact a2
  · by_cases hi : i < ovs.length
    · rw [List.getElem?_append_left hi] at h1
      rw [List.getElem?_append_left (by rw [← h.len]; exact hi)] at h2
      exact ⟨(h.ops i ov b h1 h2).1.below hbw hCB, (h.ops i ov b h1 h2).2⟩
    · have hi2 : i < (ovs ++ [Value.slice A ops.length c]).length := (List.getElem?_eq_some_iff.1 h1).1
      rw [List.length_append, List.length_singleton] at hi2
      obtain rfl : i = ovs.length := by omega
      rw [List.getElem?_append_right (Nat.le_refl _), Nat.sub_self] at h1
      rw [h.len, List.getElem?_append_right (Nat.le_refl _), Nat.sub_self] at h2
      simp at h1 h2
      subst h1 h2
      exact ⟨hov.below hbw hCB, hfar⟩
theorem RoAt.rep (h : RoAt w B C bad v bs ovs) (hC : C ≤ w.heap.size) : SlRep blkEnc w w.heap.size v bs := by
  refine slRep_own (E := blkEnc) (base := B) (t := 40) bs (List.zipWith (fun (ov : Value) (b : Blk) => blkCells ov b.term) ovs bs) (fun i x hx => ?_) ?_ (Nat.le_refl _) h.row
  · have hi : i < bs.length := (List.getElem?_eq_some_iff.1 hx).1
    have ho : ovs[i]? = some (ovs[i]'(by rw [h.len]; exact hi)) := List.getElem?_eq_getElem _
    refine ⟨blkCells (ovs[i]'(by rw [h.len]; exact hi)) x.term, ?_, _, rfl, (h.ops i _ x ho hx).1.keep hC (fun _ _ => rfl)⟩
    rw [List.getElem?_zipWith, ho, hx]
  · intro es he
    obtain ⟨i, hi, rfl⟩ := List.getElem_of_mem he
    rw [List.getElem_zipWith]; rfl
end
theorem tdStr_take (l : List Blk) (k : Nat) (h : k < l.length) : (tdStr l).take (k + 1) = (tdStr l).take k ++ [⟨(l.getD k blkNone).ops, tdNam (tdLeads l) (l.getD k blkNone).term⟩] := by
  rw [take_succ_getD (tdStr l) k blkNone (by rw [tdStr_len]; exact h), tdStr_at l k h]
def StrPost (C : Nat) (l : List Blk) (w : World) (e : Ending) (w' : World) : Prop := ∃ A c ovs, e = .returned (.slice A l.length c) ∧ RoAt w' w.heap.size C [] (.slice A l.length c) (tdStr l) ovs ∧ Below w.heap.size w w'
set_option maxRecDepth 100000 in
set_option maxHeartbeats 16000000 in
theorem ref23_straight (l : List Blk) (hl : TdOk l) (hn : l.length ≤ 1048576) (A : Option Addr) (c : Nat) (C : Nat) (w : World) (hC : C ≤ w.heap.size) (h : SlRep blkEnc w C (.slice A l.length c) l) :
    Calls Try.prog 20 #[.slice A l.length c] w (StrPost C l w) := by
  have HL := Lib.hid h
  have HC := Lib.hid hC
  have HLD := Lib.hid (fun k hk W h => ref23_leads l hl hn A c k hk W h)
  have HOK := Lib.hid (fun k hk => hl.at_ k hk)
  have HTK := Lib.hid (tdStr_take l)
  have HSL := Lib.hid (tdStr_len l)
  generalize hPO : StrPost C l w = PO
  have HPO := Lib.hid hPO
  clear h hl hPO hC
  go_enter Try.func20, Try.ntmps20
  go_wp2_with fail
  go_loopw [3, 4] (fun vo vi wr => ∃ (m : Nat) (ovs : List Value), m ≤ l.length ∧ vi = .int .i64 m ∧ Below w.heap.size w wr ∧ RoAt wr w.heap.size C [] vo ((tdStr l).take m) ovs) (fun _ vi _ => l.length - (intOf vi).toNat)
  case atStart => exact ⟨0, [], Nat.zero_le _, rfl, Below.refl _ _, RoAt.nil_ _ _ _ _⟩
  case round =>
    obtain ⟨m, ovs, hm, rfl, hb, hro⟩ := hrel
    have HB := Lib.hid hb
    have hlk : ((tdStr l).take m).length = m := by rw [List.length_take, HSL.out]; omega
    obtain ⟨RA, rc, rfl⟩ := ownN_len hro.row
    rw [hlk] at hro ⊢
    have HRO := Lib.hid hro
    have HLK := Lib.hid hlk
    clear hb hro hlk
    by_cases hlt : m < l.length
    · obtain ⟨b, off, rfl, hb0, OA, oc, hops, hoc, y0, y1, y2, y3, y4⟩ := blk_at (HL.out.below HB.out HC.out) m hlt
      have hok := HOK.out m hlt
      have HTM := Lib.hid (HTK.out m hlt)
      have m0 : (0 : Int) ≤ (m : Int) := by omega
      have m1 : (m : Int) < (l.length : Int) := by omega
      generalize l.getD m blkNone = bk at *
      obtain ⟨ops, trm⟩ := bk
      obtain ⟨tk, ta, ty, tn⟩ := trm
      simp only at hops hoc y0 y1 y2 y3 y4 hok HTM
      have HOP := Lib.hid hops
      have hbn := bnew wr (.cells #[.slice OA ops.length oc, .int .i64 tk, .int .i64 ta, .int .i64 ty, .int .i64 tn] 40)
      have HX := Lib.hid (heap_alloc_new wr (.cells #[.slice OA ops.length oc, .int .i64 tk, .int .i64 ta, .int .i64 ty, .int .i64 tn] 40))
      have HB1 := Lib.hid (HB.out.alloc HB.out.size (.cells #[.slice OA ops.length oc, .int .i64 tk, .int .i64 ta, .int .i64 ty, .int .i64 tn] 40))
      have HRO1 := Lib.hid (HRO.out.below (Nat.le_trans HC.out HB.out.size) hbn)
      have HOP1 := Lib.hid (HOP.out.below hbn (Nat.le_trans HC.out HB.out.size))
      have HL1 := Lib.hid ((HL.out.below HB1.out HC.out).keep (Nat.le_trans HC.out HB1.out.size) (fun _ _ => rfl))
      have HXW : Hid (w.heap.size ≤ wr.heap.size) := Lib.hid HB.out.size
      have HXV : Hid ((Value.slice RA m rc).ownBlock ≠ some wr.heap.size) := Lib.hid (fun e => by have := (HRO.out.row.lt _ e).2; omega)
      clear hops hbn
      go_upto_region 6 with (fail)
      clear y0 y1 y2 y3 y4
      generalize wr.alloc (.cells #[.slice OA ops.length oc, .int .i64 tk, .int .i64 ta, .int .i64 ty, .int .i64 tn] 40) = w1 at *
      generalize wr.heap.size = X at *
      rcases hok with ⟨hk, h1⟩ | ⟨hk, h1, h2⟩ | hk
      · have hk : tk = 1 := hk
        subst hk
        clear HOK
        by_cases hy : 0 ≤ ty
        · have hlab := h1
          clear h1
          obtain ⟨c0, c1, c2, c3, c4, f3, f4⟩ := blk_cells_at HX.out
          go_wp2_with fail
          clear c0 c1 c2 c3 c4 f3 f4
          refine (HLD.out ty (by exact hlab) _ HL1.out).mono ?_
          rintro e w2 ⟨rfl, hb⟩
          have hx := blk_set ((hb.block _ (lt_of_blk HX.out)).trans HX.out) 3 (.int .i64 (tdLeads l ty))
          have hx0 := (hb.block _ (lt_of_blk HX.out)).trans HX.out
          have hs1 := HB1.out.size
          have hB := (HB1.out.trans (hb.mono hs1)).setCell (p := ⟨X, 3, none⟩) HXW.out (.int .i64 (tdLeads l ty))
          have hR := (HRO1.out.below (Nat.le_trans HC.out hs1) hb).setOther ⟨X, 3, none⟩ (.int .i64 (tdLeads l ty)) HXV.out (Or.inl (Nat.le_trans HC.out HXW.out))
          have hO := (HOP1.out.below hb (Nat.le_trans HC.out hs1)).below ((Below.refl w.heap.size w2).setCell (p := ⟨X, 3, none⟩) HXW.out (.int .i64 (tdLeads l ty))) HC.out
          obtain ⟨c0, c1, c2, c3, c4, f3, f4⟩ := blk_cells_at hx0
          have ff := (cell_of_blk hx0 3).2
          clear hx0 hb hs1
          go_upto_region 8 with (fail)
          clear c0 c1 c2 c3 c4 f3 f4 ff
          generalize w2.setCell ⟨X, 3, none⟩ (.int .i64 (tdLeads l ty)) = w3 at *
          replace HX := Lib.hid hx
          replace HB1 := Lib.hid hB
          replace HRO1 := Lib.hid hR
          replace HOP1 := Lib.hid hO
          replace HL1 := Lib.hid ((HL.out.below HB1.out HC.out).keep (Nat.le_trans HC.out HB1.out.size) (fun _ _ => rfl))
          clear hx hB hR hO
          have HE : Hid (tdNam (tdLeads l) ⟨1, ta, ty, tn⟩ = ⟨1, ta, tdLeads l ty, tn⟩) := Lib.hid (by rfl)
          rw [HE.out] at HTM
          obtain ⟨NA, nc, w9, hrun, hr9, hb9⟩ := HRO1.out.push HOP1.out (OpFar.nil_ _ _) HC.out HB1.out.size (by rw [HLK.out]; omega) HB1.out ⟨1, ta, tdLeads l ty, tn⟩
          rw [HLK.out] at hrun hr9
          have HRUN := Lib.hid hrun
          have HR9 := Lib.hid hr9
          have HB9 := Lib.hid hb9
          obtain ⟨c0, c1, c2, c3, c4, f3, f4⟩ := blk_cells_at HX.out
          clear hrun hr9 hb9
          go_wp2_with (at_builtin; refine wpList_app rfl (.tmp 50) (.tmp 52) 23 rfl HRUN.out rfl rfl ?_)
          go_roundw
          case rel => exact ⟨m + 1, _, by omega, by go_num, HB9.out, by rw [HTM.out]; exact HR9.out⟩
          case measure => simp [intOf]; omega
        · have hym : ty = -1 := by have h9 : -1 ≤ ty := h1.1; omega
          have HLY : Hid (tdLeads l ty = ty) := Lib.hid (by rw [hym, tdLeads_none])
          clear h1 hym
          have HE : Hid (tdNam (tdLeads l) ⟨1, ta, ty, tn⟩ = ⟨1, ta, ty, tn⟩) := Lib.hid (by unfold tdNam; rw [if_pos rfl]; simp only [HLY.out])
          rw [HE.out] at HTM
          obtain ⟨NA, nc, w9, hrun, hr9, hb9⟩ := HRO1.out.push HOP1.out (OpFar.nil_ _ _) HC.out HB1.out.size (by rw [HLK.out]; omega) HB1.out ⟨1, ta, ty, tn⟩
          rw [HLK.out] at hrun hr9
          have HRUN := Lib.hid hrun
          have HR9 := Lib.hid hr9
          have HB9 := Lib.hid hb9
          obtain ⟨c0, c1, c2, c3, c4, f3, f4⟩ := blk_cells_at HX.out
          clear hrun hr9 hb9
          go_wp2_with (at_builtin; refine wpList_app rfl (.tmp 50) (.tmp 52) 23 rfl HRUN.out rfl rfl ?_)
          go_roundw
          case rel => exact ⟨m + 1, _, by omega, by go_num, HB9.out, by rw [HTM.out]; exact HR9.out⟩
          case measure => simp [intOf]; omega
      · have hk : tk = 2 := hk
        subst hk
        clear HOK
        by_cases hy : 0 ≤ ty
        · have hlab := h1
          clear h1
          obtain ⟨c0, c1, c2, c3, c4, f3, f4⟩ := blk_cells_at HX.out
          go_wp2_with fail
          clear c0 c1 c2 c3 c4 f3 f4
          refine (HLD.out ty (by exact hlab) _ HL1.out).mono ?_
          rintro e w2 ⟨rfl, hb⟩
          have hx := blk_set ((hb.block _ (lt_of_blk HX.out)).trans HX.out) 3 (.int .i64 (tdLeads l ty))
          have hx0 := (hb.block _ (lt_of_blk HX.out)).trans HX.out
          have hs1 := HB1.out.size
          have hB := (HB1.out.trans (hb.mono hs1)).setCell (p := ⟨X, 3, none⟩) HXW.out (.int .i64 (tdLeads l ty))
          have hR := (HRO1.out.below (Nat.le_trans HC.out hs1) hb).setOther ⟨X, 3, none⟩ (.int .i64 (tdLeads l ty)) HXV.out (Or.inl (Nat.le_trans HC.out HXW.out))
          have hO := (HOP1.out.below hb (Nat.le_trans HC.out hs1)).below ((Below.refl w.heap.size w2).setCell (p := ⟨X, 3, none⟩) HXW.out (.int .i64 (tdLeads l ty))) HC.out
          obtain ⟨c0, c1, c2, c3, c4, f3, f4⟩ := blk_cells_at hx0
          have ff := (cell_of_blk hx0 3).2
          clear hx0 hb hs1
          go_upto_region 8 with (fail)
          clear c0 c1 c2 c3 c4 f3 f4 ff
          generalize w2.setCell ⟨X, 3, none⟩ (.int .i64 (tdLeads l ty)) = w3 at *
          replace HX := Lib.hid hx
          replace HB1 := Lib.hid hB
          replace HRO1 := Lib.hid hR
          replace HOP1 := Lib.hid hO
          replace HL1 := Lib.hid ((HL.out.below HB1.out HC.out).keep (Nat.le_trans HC.out HB1.out.size) (fun _ _ => rfl))
          clear hx hB hR hO
          by_cases hz : 0 ≤ tn
          · have hlab2 := h2
            clear h2
            obtain ⟨c0, c1, c2, c3, c4, f3, f4⟩ := blk_cells_at HX.out
            go_wp2_with fail
            clear c0 c1 c2 c3 c4 f3 f4
            refine (HLD.out tn (by exact hlab2) _ HL1.out).mono ?_
            rintro e w4 ⟨rfl, hb⟩
            have hx := blk_set ((hb.block _ (lt_of_blk HX.out)).trans HX.out) 4 (.int .i64 (tdLeads l tn))
            have hx0 := (hb.block _ (lt_of_blk HX.out)).trans HX.out
            have hs1 := HB1.out.size
            have hB := (HB1.out.trans (hb.mono hs1)).setCell (p := ⟨X, 4, none⟩) HXW.out (.int .i64 (tdLeads l tn))
            have hR := (HRO1.out.below (Nat.le_trans HC.out hs1) hb).setOther ⟨X, 4, none⟩ (.int .i64 (tdLeads l tn)) HXV.out (Or.inl (Nat.le_trans HC.out HXW.out))
            have hO := (HOP1.out.below hb (Nat.le_trans HC.out hs1)).below ((Below.refl w.heap.size w4).setCell (p := ⟨X, 4, none⟩) HXW.out (.int .i64 (tdLeads l tn))) HC.out
            obtain ⟨c0, c1, c2, c3, c4, f3, f4⟩ := blk_cells_at hx0
            have ff := (cell_of_blk hx0 4).2
            clear hx0 hb hs1
            go_upto_region 10 with (fail)
            clear c0 c1 c2 c3 c4 f3 f4 ff
            generalize w4.setCell ⟨X, 4, none⟩ (.int .i64 (tdLeads l tn)) = w5 at *
            replace HX := Lib.hid hx
            replace HB1 := Lib.hid hB
            replace HRO1 := Lib.hid hR
            replace HOP1 := Lib.hid hO
            replace HL1 := Lib.hid ((HL.out.below HB1.out HC.out).keep (Nat.le_trans HC.out HB1.out.size) (fun _ _ => rfl))
            clear hx hB hR hO
            have HE : Hid (tdNam (tdLeads l) ⟨2, ta, ty, tn⟩ = ⟨2, ta, tdLeads l ty, tdLeads l tn⟩) := Lib.hid (by unfold tdNam; rw [if_neg (by simp), if_pos rfl])
            rw [HE.out] at HTM
            obtain ⟨NA, nc, w9, hrun, hr9, hb9⟩ := HRO1.out.push HOP1.out (OpFar.nil_ _ _) HC.out HB1.out.size (by rw [HLK.out]; omega) HB1.out ⟨2, ta, tdLeads l ty, tdLeads l tn⟩
            rw [HLK.out] at hrun hr9
            have HRUN := Lib.hid hrun
            have HR9 := Lib.hid hr9
            have HB9 := Lib.hid hb9
            obtain ⟨c0, c1, c2, c3, c4, f3, f4⟩ := blk_cells_at HX.out
            clear hrun hr9 hb9
            go_wp2_with (at_builtin; refine wpList_app rfl (.tmp 50) (.tmp 52) 23 rfl HRUN.out rfl rfl ?_)
            go_roundw
            case rel => exact ⟨m + 1, _, by omega, by go_num, HB9.out, by rw [HTM.out]; exact HR9.out⟩
            case measure => simp [intOf]; omega
          · have hzm : tn = -1 := by have h9 : -1 ≤ tn := h2.1; omega
            have HLZ : Hid (tdLeads l tn = tn) := Lib.hid (by rw [hzm, tdLeads_none])
            clear h2 hzm
            have HE : Hid (tdNam (tdLeads l) ⟨2, ta, ty, tn⟩ = ⟨2, ta, tdLeads l ty, tn⟩) := Lib.hid (by unfold tdNam; rw [if_neg (by simp), if_pos rfl]; simp only [HLZ.out])
            rw [HE.out] at HTM
            obtain ⟨NA, nc, w9, hrun, hr9, hb9⟩ := HRO1.out.push HOP1.out (OpFar.nil_ _ _) HC.out HB1.out.size (by rw [HLK.out]; omega) HB1.out ⟨2, ta, tdLeads l ty, tn⟩
            rw [HLK.out] at hrun hr9
            have HRUN := Lib.hid hrun
            have HR9 := Lib.hid hr9
            have HB9 := Lib.hid hb9
            obtain ⟨c0, c1, c2, c3, c4, f3, f4⟩ := blk_cells_at HX.out
            clear hrun hr9 hb9
            go_wp2_with (at_builtin; refine wpList_app rfl (.tmp 50) (.tmp 52) 23 rfl HRUN.out rfl rfl ?_)
            go_roundw
            case rel => exact ⟨m + 1, _, by omega, by go_num, HB9.out, by rw [HTM.out]; exact HR9.out⟩
            case measure => simp [intOf]; omega
        · have hym : ty = -1 := by have h9 : -1 ≤ ty := h1.1; omega
          have HLY : Hid (tdLeads l ty = ty) := Lib.hid (by rw [hym, tdLeads_none])
          clear h1 hym
          by_cases hz : 0 ≤ tn
          · have hlab2 := h2
            clear h2
            obtain ⟨c0, c1, c2, c3, c4, f3, f4⟩ := blk_cells_at HX.out
            go_wp2_with fail
            clear c0 c1 c2 c3 c4 f3 f4
            refine (HLD.out tn (by exact hlab2) _ HL1.out).mono ?_
            rintro e w4 ⟨rfl, hb⟩
            have hx := blk_set ((hb.block _ (lt_of_blk HX.out)).trans HX.out) 4 (.int .i64 (tdLeads l tn))
            have hx0 := (hb.block _ (lt_of_blk HX.out)).trans HX.out
            have hs1 := HB1.out.size
            have hB := (HB1.out.trans (hb.mono hs1)).setCell (p := ⟨X, 4, none⟩) HXW.out (.int .i64 (tdLeads l tn))
            have hR := (HRO1.out.below (Nat.le_trans HC.out hs1) hb).setOther ⟨X, 4, none⟩ (.int .i64 (tdLeads l tn)) HXV.out (Or.inl (Nat.le_trans HC.out HXW.out))
            have hO := (HOP1.out.below hb (Nat.le_trans HC.out hs1)).below ((Below.refl w.heap.size w4).setCell (p := ⟨X, 4, none⟩) HXW.out (.int .i64 (tdLeads l tn))) HC.out
            obtain ⟨c0, c1, c2, c3, c4, f3, f4⟩ := blk_cells_at hx0
            have ff := (cell_of_blk hx0 4).2
            clear hx0 hb hs1
            go_upto_region 10 with (fail)
            clear c0 c1 c2 c3 c4 f3 f4 ff
            generalize w4.setCell ⟨X, 4, none⟩ (.int .i64 (tdLeads l tn)) = w5 at *
            replace HX := Lib.hid hx
            replace HB1 := Lib.hid hB
            replace HRO1 := Lib.hid hR
            replace HOP1 := Lib.hid hO
            replace HL1 := Lib.hid ((HL.out.below HB1.out HC.out).keep (Nat.le_trans HC.out HB1.out.size) (fun _ _ => rfl))
            clear hx hB hR hO
            have HE : Hid (tdNam (tdLeads l) ⟨2, ta, ty, tn⟩ = ⟨2, ta, ty, tdLeads l tn⟩) := Lib.hid (by unfold tdNam; rw [if_neg (by simp), if_pos rfl]; simp only [HLY.out])
            rw [HE.out] at HTM
            obtain ⟨NA, nc, w9, hrun, hr9, hb9⟩ := HRO1.out.push HOP1.out (OpFar.nil_ _ _) HC.out HB1.out.size (by rw [HLK.out]; omega) HB1.out ⟨2, ta, ty, tdLeads l tn⟩
            rw [HLK.out] at hrun hr9
            have HRUN := Lib.hid hrun
            have HR9 := Lib.hid hr9
            have HB9 := Lib.hid hb9
            obtain ⟨c0, c1, c2, c3, c4, f3, f4⟩ := blk_cells_at HX.out
            clear hrun hr9 hb9
            go_wp2_with (at_builtin; refine wpList_app rfl (.tmp 50) (.tmp 52) 23 rfl HRUN.out rfl rfl ?_)
            go_roundw
            case rel => exact ⟨m + 1, _, by omega, by go_num, HB9.out, by rw [HTM.out]; exact HR9.out⟩
            case measure => simp [intOf]; omega
          · have hzm : tn = -1 := by have h9 : -1 ≤ tn := h2.1; omega
            have HLZ : Hid (tdLeads l tn = tn) := Lib.hid (by rw [hzm, tdLeads_none])
            clear h2 hzm
            have HE : Hid (tdNam (tdLeads l) ⟨2, ta, ty, tn⟩ = ⟨2, ta, ty, tn⟩) := Lib.hid (by unfold tdNam; rw [if_neg (by simp), if_pos rfl]; simp only [HLY.out, HLZ.out])
            rw [HE.out] at HTM
            obtain ⟨NA, nc, w9, hrun, hr9, hb9⟩ := HRO1.out.push HOP1.out (OpFar.nil_ _ _) HC.out HB1.out.size (by rw [HLK.out]; omega) HB1.out ⟨2, ta, ty, tn⟩
            rw [HLK.out] at hrun hr9
            have HRUN := Lib.hid hrun
            have HR9 := Lib.hid hr9
            have HB9 := Lib.hid hb9
            obtain ⟨c0, c1, c2, c3, c4, f3, f4⟩ := blk_cells_at HX.out
            clear hrun hr9 hb9
            go_wp2_with (at_builtin; refine wpList_app rfl (.tmp 50) (.tmp 52) 23 rfl HRUN.out rfl rfl ?_)
            go_roundw
            case rel => exact ⟨m + 1, _, by omega, by go_num, HB9.out, by rw [HTM.out]; exact HR9.out⟩
            case measure => simp [intOf]; omega
      · have hk : tk = 3 := hk
        subst hk
        clear HOK
        have HE : Hid (tdNam (tdLeads l) ⟨3, ta, ty, tn⟩ = ⟨3, ta, ty, tn⟩) := Lib.hid (by rfl)
        rw [HE.out] at HTM
        obtain ⟨NA, nc, w9, hrun, hr9, hb9⟩ := HRO1.out.push HOP1.out (OpFar.nil_ _ _) HC.out HB1.out.size (by rw [HLK.out]; omega) HB1.out ⟨3, ta, ty, tn⟩
        rw [HLK.out] at hrun hr9
        have HRUN := Lib.hid hrun
        have HR9 := Lib.hid hr9
        have HB9 := Lib.hid hb9
        obtain ⟨c0, c1, c2, c3, c4, f3, f4⟩ := blk_cells_at HX.out
        clear hrun hr9 hb9
        go_wp2_with (at_builtin; refine wpList_app rfl (.tmp 50) (.tmp 52) 23 rfl HRUN.out rfl rfl ?_)
        go_roundw
        case rel => exact ⟨m + 1, _, by omega, by go_num, HB9.out, by rw [HTM.out]; exact HR9.out⟩
        case measure => simp [intOf]; omega
    · obtain rfl : m = l.length := by omega
      have htk : (tdStr l).take l.length = tdStr l := List.take_of_length_le (by rw [HSL.out]; exact Nat.le_refl _)
      rw [htk] at HRO
      go_wp2_with fail
      rw [← HPO.out]
      exact ⟨RA, rc, ovs, rfl, HRO.out, HB.out⟩
end Go.Proofs.Ythkobddggoojlaa
namespace Go.Proofs.Ythkobddggoojlaa
open Go.RowKit
set_option linter.unusedVariables false
theorem count_one (a b : Int) : List.count b (tdOne a) = if a ≠ -1 ∧ a = b then 1 else 0 := by
  unfold tdOne
  by_cases h : a = -1
  · rw [if_pos h, if_neg (fun h2 => h2.1 h)]; rfl
  · rw [if_neg h]
    by_cases e : a = b
    · subst e; simp [h]
    · simp [e]
theorem tdNames_count {n : Nat} {t : Trm} (h : tdOkT n t) {k : Int} (hk : 0 ≤ k) : tdNames t k = (tdTg t).count k := by
  have key : ∀ y : Int, (if y ≠ -1 ∧ y = k then 1 else 0) = (if y = k then 1 else 0) := fun y => by
    by_cases e : y = k
    · rw [if_pos ⟨by omega, e⟩, if_pos e]
    · rw [if_neg (fun h => e h.2), if_neg e]
  unfold tdNames tdTg
  rcases h with ⟨h1, _⟩ | ⟨h1, _⟩ | h1
  · simp only [h1, if_true, count_one, key]
    by_cases e : t.yes = k <;> simp [e]
  · have hk1 : ¬ t.kind = 1 := by omega
    rw [if_neg hk1, if_pos h1, List.count_append, count_one, count_one, key, key]
    by_cases e : t.yes = k <;> by_cases e2 : t.no = k <;> simp [h1, e, e2]
  · simp [h1]
theorem tdNames_pos {n : Nat} {t : Trm} (h : tdOkT n t) {k : Int} (hk : 0 ≤ k) : 0 < tdNames t k ↔ k ∈ tdTg t := by rw [tdNames_count h hk, List.count_pos_iff]
def boolN : Value → Nat
  | .bool true => 1
  | _ => 0
/-- Flags of blocks to which there is a way. -/
structure TdSome (l : List Blk) (s : List Bool) : Prop where
  len : s.length = l.length
  zero : s.getD 0 false = true
  way : ∀ k, s.getD k false = true → TdReach l k
theorem TdSome.start {l : List Blk} (h : 0 < l.length) : TdSome l ((List.replicate l.length false).set 0 true) := by
  have hlen : 0 < (List.replicate l.length false).length := by rw [List.length_replicate]; exact h
  refine ⟨by rw [List.length_set, List.length_replicate], by rw [getD_setB _ 0 0 true false hlen, if_pos rfl], fun k hk => ?_⟩
  rw [getD_setB _ 0 k true false hlen] at hk
  by_cases e : k = 0
  · rw [e]; exact TdReach.zero
  · rw [if_neg e, List.getD_eq_getElem?_getD, List.getElem?_replicate] at hk
    split at hk <;> simp at hk
theorem TdSome.put {l : List Blk} {s : List Bool} (h : TdSome l s) {i k : Nat} (hi : s.getD i false = true) (hk : (k : Int) ∈ tdTg (l.getD i blkNone).term) (hkl : k < l.length) : TdSome l (s.set k true) := by
  have hl : k < s.length := by rw [h.len]; exact hkl
  refine ⟨by rw [List.length_set]; exact h.len, ?_, fun j hj => ?_⟩
  · rw [getD_setB s k 0 true false hl]
    split
    · rfl
    · exact h.zero
  · rw [getD_setB s k j true false hl] at hj
    by_cases e : j = k
    · subst e; exact TdReach.step i (j : Int) (h.way i hi) hk
    · rw [if_neg e] at hj; exact h.way j hj
theorem TdSome.in_ {l : List Blk} {s : List Bool} (h : TdSome l s) (hc : TdClosed l s) : TdIn l s := tdIn_of h.len h.zero hc h.way
/-- Closed as far as block i. -/
def TdUpto (l : List Blk) (s : List Bool) (i : Nat) : Prop := ∀ i', i' < i → s.getD i' false = true → ∀ x ∈ tdTg (l.getD i' blkNone).term, s.getD x.toNat false = true
def TdPart (l : List Blk) (s : List Bool) (i k : Nat) : Prop := s.getD i false = true → ∀ x ∈ tdTg (l.getD i blkNone).term, x < k → s.getD x.toNat false = true
def TdMid (l : List Blk) (s0 s : List Bool) (mo : Bool) (i : Nat) : Prop := (mo = false → s = s0 ∧ TdUpto l s i) ∧ (mo = true → tdTrues s0 < tdTrues s)
def TdInn (l : List Blk) (s0 s : List Bool) (mo : Bool) (i k : Nat) : Prop := (mo = false → s = s0 ∧ TdUpto l s i ∧ TdPart l s i k) ∧ (mo = true → tdTrues s0 < tdTrues s)
theorem TdMid.inn {l : List Blk} {s0 s : List Bool} {mo : Bool} {i : Nat} (h : TdMid l s0 s mo i) (hl : TdOk l) (hi : i < l.length) : TdInn l s0 s mo i 0 :=
  ⟨fun hm => ⟨(h.1 hm).1, (h.1 hm).2, fun _ x hx h0 => by have := tdTg_lab (hl.at_ i hi) hx; omega⟩, h.2⟩
theorem TdInn.out {l : List Blk} {s0 s : List Bool} {mo : Bool} {i k : Nat} (h : TdInn l s0 s mo i k) (hl : TdOk l) (hi : i < l.length) (hk : l.length ≤ k ∨ s.getD i false = false) : TdMid l s0 s mo (i + 1) :=
  ⟨fun hm => ⟨(h.1 hm).1, fun i' hi' hs x hx => by
    by_cases e : i' = i
    · subst e
      rcases hk with hk | hk
      · exact (h.1 hm).2.2 hs x hx (by have := tdTg_lab (hl.at_ i' hi) hx; omega)
      · rw [hk] at hs; cases hs
    · exact (h.1 hm).2.1 i' (by omega) hs x hx⟩, h.2⟩
theorem TdInn.skip {l : List Blk} {s0 s : List Bool} {mo : Bool} {i k : Nat} (h : TdInn l s0 s mo i k) (hk : s.getD k false = true ∨ (k : Int) ∉ tdTg (l.getD i blkNone).term) : TdInn l s0 s mo i (k + 1) :=
  ⟨fun hm => ⟨(h.1 hm).1, (h.1 hm).2.1, fun hs x hx hlt => by
    by_cases e : x = (k : Int)
    · subst e
      rcases hk with hk | hk
      · exact hk
      · exact absurd hx hk
    · exact (h.1 hm).2.2 hs x hx (by omega)⟩, h.2⟩
theorem TdInn.set {l : List Blk} {s0 s : List Bool} {mo : Bool} {i k : Nat} (h : TdInn l s0 s mo i k) (hk : k < s.length) (hf : s.getD k false = false) : TdInn l s0 (s.set k true) true i (k + 1) := by
  refine ⟨fun hm => (by cases hm), fun _ => ?_⟩
  have h1 := tdTrues_set s k hk (by rw [List.getD_eq_getElem?_getD, List.getElem?_eq_getElem hk] at hf ⊢; exact hf)
  cases hmo : mo with
  | true => have := h.2 hmo; omega
  | false => rw [(h.1 hmo).1] at h1 ⊢; omega
set_option maxRecDepth 100000 in
set_option maxHeartbeats 8000000 in
theorem ref23_Reached (l : List Blk) (hl : TdOk l) (hn : l.length ≤ 1048576) (h0 : 0 < l.length) (A : Option Addr) (c : Nat) (w : World) (h : SlRep blkEnc w w.heap.size (.slice A l.length c) l) :
    Calls Try.prog 21 #[.slice A l.length c] w fun e w' => e = .returned (.slice (some ⟨w.heap.size, 0, none⟩) l.length l.length) ∧ (∃ s, TdIn l s ∧ w'.heap[w.heap.size]? = some (.cells (bools s) 4 (0, 0))) ∧ Below w.heap.size w w' := by
  have HL := Lib.hid h
  have hmk := run_make_bools l.length (by omega)
  have HV0 := Lib.hid (heap_alloc_new w (.cells (bools (List.replicate l.length false)) 4))
  have HB0 := Lib.hid (bnew w (.cells (bools (List.replicate l.length false)) 4))
  have HSTART := Lib.hid (TdSome.start h0)
  have HPUT := Lib.hid (fun s i k h a b d => @TdSome.put l s h i k a b d)
  have HIN := Lib.hid (fun s (h : TdSome l s) d => h.in_ d)
  have HMI := Lib.hid (fun s0 s mo i (h : TdMid l s0 s mo i) d => h.inn hl d)
  have HIO := Lib.hid (fun s0 s mo i k (h : TdInn l s0 s mo i k) d e => h.out hl d e)
  have HNP := Lib.hid (fun i (hi : i < l.length) (k : Int) hk => tdNames_pos (hl.at_ i hi) (k := k) hk)
  have HNM := Lib.hid (fun t k W => ref23_names t k W)
  have l0 : (0 : Int) < (l.length : Int) := by omega
  generalize hPO : (fun (e : Ending) (w' : World) => e = .returned (.slice (some ⟨w.heap.size, 0, none⟩) l.length l.length) ∧ (∃ s, TdIn l s ∧ w'.heap[w.heap.size]? = some (.cells (bools s) 4 (0, 0))) ∧ Below w.heap.size w w') = PO
  have HPO := Lib.hid hPO
  clear h hl hPO
  go_enter Try.func21, Try.ntmps21
  go_upto_region 2 with (fail)
  generalize w.alloc (.cells (bools (List.replicate l.length false)) 4) = w1 at *
  obtain ⟨z0, z1⟩ := cell_of_blk HV0.out 0
  rw [bools_at (by rw [List.length_replicate]; exact h0)] at z0
  have HV1 := Lib.hid (blk_set HV0.out 0 (.bool true))
  rw [bools_set] at HV1
  have HB1 := Lib.hid (HB0.out.setCell (p := ⟨w.heap.size, 0, none⟩) (Nat.le_refl _) (.bool true))
  go_upto_region 3 with (fail)
  clear z0 z1 HV0 HB0
  generalize w1.setCell ⟨w.heap.size, 0, none⟩ (.bool true) = w2 at *
  go_wp2_with fail
  go_loopw [4] (fun vm wr => ∃ (mo : Bool) (s : List Bool), vm = .bool mo ∧ TdSome l s ∧ wr.heap[w.heap.size]? = some (.cells (bools s) 4 (0, 0)) ∧ Below w.heap.size w wr ∧ Hid (mo = false → TdClosed l s)) (fun vm wr => 2 * fls wr w.heap.size + boolN vm)
  case atStart => exact ⟨true, _, rfl, HSTART.out, HV1.out, HB1.out, Lib.hid (fun h => by cases h)⟩
  case round =>
    obtain ⟨mo, s0, rfl, hs, hv, hb, HC⟩ := hrel
    have HS0 := Lib.hid hs
    have HV := Lib.hid hv
    have HB := Lib.hid hb
    clear hs hv hb
    cases mo with
    | false =>
      go_wp2_with fail
      rw [← HPO.out]
      exact ⟨rfl, ⟨s0, HIN.out s0 HS0.out (HC.out (by first | rfl | trivial)), HV.out⟩, HB.out⟩
    | true =>
      have HF0 := Lib.hid (fls_of HV.out)
      generalize hfl : fls wr w.heap.size = F0 at *
      clear hfl
      generalize wr = wo at *
      go_wp2_with fail
      go_loopw [4, 5] (fun vm vi wr => ∃ (mo : Bool) (s : List Bool) (i : Nat), vm = .bool mo ∧ vi = .int .i64 i ∧ i ≤ l.length ∧ TdSome l s ∧ wr.heap[w.heap.size]? = some (.cells (bools s) 4 (0, 0)) ∧ Below w.heap.size w wr ∧ Hid (TdMid l s0 s mo i)) (fun _ vi _ => l.length - (intOf vi).toNat)
      case atStart => exact ⟨false, s0, 0, rfl, rfl, Nat.zero_le _, HS0.out, HV.out, HB.out, Lib.hid ⟨fun _ => ⟨rfl, fun i' h => by omega⟩, fun h => by cases h⟩⟩
      case round =>
        obtain ⟨mo, s, i, rfl, rfl, hi, hs, hv, hb, HM⟩ := hrel
        have HS := Lib.hid hs
        have HVm := Lib.hid hv
        have HBm := Lib.hid hb
        clear hs hv hb
        by_cases hil : i < l.length
        · have i0 : (0 : Int) ≤ (i : Int) := by omega
          have i1 : (i : Int) < (l.length : Int) := by omega
          have HIS := Lib.hid (HMI.out s0 s mo i HM.out hil)
          go_wp2_with fail
          go_loopw [4, 6] (fun vm vk wr => ∃ (mo : Bool) (s : List Bool) (k : Nat), vm = .bool mo ∧ vk = .int .i64 k ∧ k ≤ l.length ∧ TdSome l s ∧ wr.heap[w.heap.size]? = some (.cells (bools s) 4 (0, 0)) ∧ Below w.heap.size w wr ∧ Hid (TdInn l s0 s mo i k)) (fun _ vk _ => l.length - (intOf vk).toNat)
          case atStart => exact ⟨mo, s, 0, rfl, rfl, Nat.zero_le _, HS.out, HVm.out, HBm.out, HIS⟩
          case round =>
            obtain ⟨mo, s, k, rfl, rfl, hk, hs, hv, hb, HI⟩ := hrel
            have hsl := hs.len
            have HS := Lib.hid hs
            have HVk := Lib.hid hv
            have HBk := Lib.hid hb
            have z0 := (cell_of_blk hv i).1
            rw [bools_at (show i < s.length by omega)] at z0
            clear hs hv hb
            by_cases hkl : k < l.length
            · have k0 : (0 : Int) ≤ (k : Int) := by omega
              have k1 : (k : Int) < (l.length : Int) := by omega
              obtain ⟨y0, y0f⟩ := cell_of_blk HVk.out k
              rw [bools_at (show k < s.length by omega)] at y0
              cases hsi : s.getD i false with
              | false =>
                rw [hsi] at z0
                have HMN := Lib.hid (HIO.out s0 s mo i k HI.out hil (Or.inr hsi))
                clear hsi
                go_wp2_with fail
                go_roundw
                case rel => exact ⟨mo, s, i + 1, rfl, by go_num, by omega, HS.out, HVk.out, HBk.out, HMN⟩
                case measure => simp [intOf]; omega
              | true =>
                rw [hsi] at z0
                have HSI := Lib.hid hsi
                cases hsk : s.getD k false with
                | true =>
                  rw [hsk] at y0
                  have HNX := Lib.hid (HI.out.skip (Or.inl hsk))
                  clear hsk hsi
                  go_wp2_with fail
                  go_roundw
                  case rel => exact ⟨mo, s, k + 1, rfl, by go_num, by omega, HS.out, HVk.out, HBk.out, HNX⟩
                  case measure => simp [intOf]; omega
                | false =>
                  rw [hsk] at y0
                  have HSK := Lib.hid hsk
                  obtain ⟨b, off, rfl, hb0, OA, oc, hops, hoc, x0, x1, x2, x3, x4⟩ := blk_at (HL.out.below HBk.out (Nat.le_refl _)) i hil
                  have HNPI := Lib.hid (HNP.out i hil (k : Int) k0)
                  have HPI := Lib.hid (fun h => HPUT.out s i k HS.out HSI.out h hkl)
                  have HSKIP := Lib.hid (fun h => HI.out.skip (Or.inr h))
                  have HSETI := Lib.hid (HI.out.set (show k < s.length by omega) hsk)
                  generalize hbk : (l.getD i blkNone).term = trm at *
                  obtain ⟨tk, ta, ty, tn⟩ := trm
                  have HNMI := Lib.hid (fun W => HNM.out ⟨tk, ta, ty, tn⟩ (k : Int) W)
                  unfold trmVal at HNMI
                  simp only at HNMI x1 x2 x3 x4
                  clear hops hsk hsi hbk
                  go_wp2_with fail
                  refine (HNMI.out _).mono ?_
                  rintro e w5 ⟨rfl, hb5⟩
                  have HV5 := Lib.hid ((hb5.block _ (lt_of_blk HVk.out)).trans HVk.out)
                  have HB5 := Lib.hid (bch HBk.out hb5)
                  obtain ⟨u0, u0f⟩ := cell_of_blk HV5.out k
                  clear hb5 x0 x1 x2 x3 x4 z0 y0 y0f
                  by_cases hp : 0 < tdNames ⟨tk, ta, ty, tn⟩ (k : Int)
                  · have hmem := HNPI.out.1 hp
                    have HP2 := Lib.hid (HPI.out hmem)
                    have hv6 := blk_set HV5.out k (.bool true)
                    rw [bools_set] at hv6
                    have HV6 := Lib.hid hv6
                    have HB6 := Lib.hid (HB5.out.setCell (p := ⟨w.heap.size, k, none⟩) (Nat.le_refl _) (.bool true))
                    have hp2 : (0 : Int) < ((tdNames ⟨tk, ta, ty, tn⟩ (k : Int) : Nat) : Int) := by omega
                    generalize tdNames ⟨tk, ta, ty, tn⟩ (k : Int) = nn at *
                    clear hmem hv6
                    rw [bools_at (show k < s.length by omega)] at u0
                    go_wp2_with fail
                    go_roundw
                    case rel => exact ⟨true, _, k + 1, rfl, by go_num, by omega, HP2.out, HV6.out, HB6.out, HSETI⟩
                    case measure => simp [intOf]; omega
                  · have HP2 := Lib.hid (HSKIP.out (fun h => hp (HNPI.out.2 h)))
                    have hp2 : ¬ (0 : Int) < ((tdNames ⟨tk, ta, ty, tn⟩ (k : Int) : Nat) : Int) := by omega
                    generalize tdNames ⟨tk, ta, ty, tn⟩ (k : Int) = nn at *
                    go_wp2_with fail
                    go_roundw
                    case rel => exact ⟨mo, s, k + 1, rfl, by go_num, by omega, HS.out, HV5.out, HB5.out, HP2⟩
                    case measure => simp [intOf]; omega
            · obtain rfl : k = l.length := by omega
              have HMN := Lib.hid (HIO.out s0 s mo i l.length HI.out hil (Or.inl (Nat.le_refl _)))
              go_wp2_with fail
              go_roundw
              case rel => exact ⟨mo, s, i + 1, rfl, by go_num, by omega, HS.out, HVk.out, HBk.out, HMN⟩
              case measure => simp [intOf]; omega
        · obtain rfl : i = l.length := by omega
          have HCL : Hid (mo = false → TdClosed l s) := Lib.hid (fun hm i' hi' x hx => (HM.out.1 hm).2 i' (by have := flag_lt hi'; rw [HS.out.len] at this; exact this) hi' x hx)
          go_wp2_with fail
          go_roundw
          case rel => exact ⟨mo, s, rfl, HS.out, HVm.out, HBm.out, HCL⟩
          case measure =>
            have h1 := fls_of HVm.out
            have h2 := HF0.out
            have h3 := HS.out.len
            have h4 := HS0.out.len
            cases mo with
            | true =>
              have h5 := HM.out.2 rfl
              simp [boolN]; omega
            | false =>
              have h5 := (HM.out.1 rfl).1
              rw [h5] at h1
              simp [boolN]; omega
end Go.Proofs.Ythkobddggoojlaa
namespace Go.Proofs.Ythkobddggoojlaa
open Go.RowKit
set_option linter.unusedVariables false
theorem tdTg_len (t : Trm) : (tdTg t).length ≤ 2 := by
  have h : ∀ k, (tdOne k).length ≤ 1 := fun k => by unfold tdOne; split <;> simp
  unfold tdTg
  split
  · have := h t.yes; omega
  · split
    · rw [List.length_append]
      have := h t.yes
      have := h t.no
      omega
    · simp
theorem tdNm_le (l : List Blk) (s : List Bool) (x : Int) (i : Nat) : tdNm l s x i ≤ 2 := by
  unfold tdNm
  split
  · have h1 := tdTg_len (l.getD i blkNone).term
    have h2 : (tdTg (l.getD i blkNone).term).count x ≤ (tdTg (l.getD i blkNone).term).length := List.count_le_length
    omega
  · omega
theorem tdSum_nm_le (l : List Blk) (s : List Bool) (x : Int) : ∀ i, tdSum (tdNm l s x) i ≤ 2 * i
  | 0 => Nat.le_refl _
  | i + 1 => by
    have h1 := tdSum_nm_le l s x i
    have h2 := tdNm_le l s x i
    show tdSum (tdNm l s x) i + tdNm l s x i ≤ _
    omega
def OnlyPost (l : List Blk) (s : List Bool) (b : Nat) (w : World) (e : Ending) (w' : World) : Prop := e = .returned (.int .i64 (if tdCan (tdCnt l s) l b = true then tdTo l b else -1)) ∧ Below w.heap.size w w'
set_option maxRecDepth 100000 in
set_option maxHeartbeats 8000000 in
theorem ref23_only (l : List Blk) (hl : TdOk l) (hn : l.length ≤ 1048576) (s : List Bool) (hs : s.length = l.length) (A : Option Addr) (c : Nat) (b : Nat) (hb : b < l.length) (V : Nat) (w : World) (h : SlRep blkEnc w w.heap.size (.slice A l.length c) l) (hv : w.heap[V]? = some (.cells (bools s) 4 (0, 0))) :
    Calls Try.prog 22 #[.slice A l.length c, .slice (some ⟨V, 0, none⟩) l.length l.length, .int .i64 (b : Int)] w (OnlyPost l s b w) := by
  have HL := Lib.hid h
  have HV := Lib.hid hv
  have HNM := Lib.hid (fun t k W => ref23_names t k W)
  have HNC := Lib.hid (fun i (hi : i < l.length) (k : Int) (hk : 0 ≤ k) => tdNames_count (hl.at_ i hi) hk)
  have HLB : Hid (tdOkT l.length (l.getD b blkNone).term) := Lib.hid (hl.at_ b hb)
  have hcan : tdCan (tdCnt l s) l b = (decide ((l.getD b blkNone).term.kind = 1) && (!decide (tdTo l b = b) && (!decide (tdTo l b = 0) && (!decide (tdTo l b = -1) && decide (tdCnt l s (tdTo l b) = 1))))) := rfl
  have hto : tdTo l b = (l.getD b blkNone).term.yes := rfl
  have hsum : tdCnt l s (tdTo l b) = tdSum (tdNm l s (tdTo l b)) l.length := rfl
  generalize hPO : OnlyPost l s b w = PO
  have HPO := Lib.hid hPO
  obtain ⟨gb, off, e, hb0, OA, oc, hops, hoc, x0, x1, x2, x3, x4⟩ := blk_at h b hb
  subst e
  have b0 : (0 : Int) ≤ (b : Int) := by omega
  have b1 : (b : Int) < (l.length : Int) := by omega
  rw [← hto] at x3
  generalize hcc : tdTo l b = cc at *
  have HTO := Lib.hid hcc
  clear hcc
  have hki : (l.getD b blkNone).term.kind = (l.getD b blkNone).term.kind := rfl
  generalize hkk : (l.getD b blkNone).term.kind = kk at *
  have HCAN := Lib.hid hcan
  have HSUM := Lib.hid hsum
  have hc1 : kk = 1 → -1 ≤ cc := fun hk => by
    rcases HLB.out with ⟨_, hx⟩ | ⟨hx, _⟩ | hx
    · rw [← hto] at hx; exact hx.1
    · rw [hkk] at hx; omega
    · rw [hkk] at hx; omega
  clear h hv hl hPO hops hcan hsum hki x0 x2 x4
  by_cases hk : kk = 1
  · subst hk
    have hcm := hc1 rfl
    by_cases hcb : cc = (b : Int)
    · have qb : (cc == (b : Int)) = true := by rw [beq_iff_eq]; exact hcb
      have HE : Hid (tdCan (tdCnt l s) l b = false) := Lib.hid (by rw [HCAN.out]; simp [hcb])
      clear hcb hkk hc1 hto
      go_enter Try.func22, Try.ntmps22
      go_wp2_with fail
      rw [← HPO.out]
      exact ⟨by rw [HE.out]; rfl, Below.refl _ _⟩
    · have qb : (cc == (b : Int)) = false := by rw [beq_eq_false_iff_ne]; exact hcb
      by_cases hcz : cc ≤ 0
      · have HE : Hid (tdCan (tdCnt l s) l b = false) := Lib.hid (by
          rw [HCAN.out]
          have h9 : cc = 0 ∨ cc = -1 := by omega
          rcases h9 with h9 | h9 <;> simp [h9])
        clear hcb hkk hc1 hto
        go_enter Try.func22, Try.ntmps22
        go_wp2_with fail
        rw [← HPO.out]
        exact ⟨by rw [HE.out]; rfl, Below.refl _ _⟩
      · have hcp : 0 < cc := by omega
        have HE : Hid (tdCan (tdCnt l s) l b = decide (tdSum (tdNm l s cc) l.length = 1)) := Lib.hid (by
          rw [HCAN.out, HSUM.out, decide_eq_false hcb, decide_eq_false (show ¬ cc = 0 by omega), decide_eq_false (show ¬ cc = -1 by omega)]; rfl)
        have HCP := Lib.hid hcp
        have HBD := Lib.hid (fun i => tdSum_nm_le l s cc i)
        have HCX := Lib.hid hcz
        clear hcb hkk hc1 hto hcm
        go_enter Try.func22, Try.ntmps22
        go_wp2_with fail
        clear x1 x3 hcz
        go_loopw [8, 9] (fun vn vi wr => ∃ i : Nat, i ≤ l.length ∧ vn = .int .i64 (tdSum (tdNm l s cc) i : Nat) ∧ vi = .int .i64 i ∧ Below w.heap.size w wr) (fun _ vi _ => l.length - (intOf vi).toNat)
        case atStart => exact ⟨0, Nat.zero_le _, rfl, rfl, Below.refl _ _⟩
        case round =>
          obtain ⟨i, hi, rfl, rfl, hbw⟩ := hrel
          have HB := Lib.hid hbw
          have hbd := HBD.out i
          by_cases hil : i < l.length
          · have hvw := (hbw.block _ (lt_of_blk HV.out)).trans HV.out
            have z0 := (cell_of_blk hvw i).1
            rw [bools_at (show i < s.length by omega)] at z0
            have hst : tdSum (tdNm l s cc) (i + 1) = tdSum (tdNm l s cc) i + tdNm l s cc i := rfl
            have hnm : tdNm l s cc i = if s.getD i false = true then (tdTg (l.getD i blkNone).term).count cc else 0 := rfl
            have hnl := tdNm_le l s cc i
            have i0 : (0 : Int) ≤ (i : Int) := by omega
            have i1 : (i : Int) < (l.length : Int) := by omega
            cases hsi : s.getD i false with
            | false =>
              rw [hsi] at z0 hnm
              have HST : Hid (tdSum (tdNm l s cc) (i + 1) = tdSum (tdNm l s cc) i) := Lib.hid (by rw [hst, hnm]; rfl)
              generalize tdSum (tdNm l s cc) i = S0 at *
              clear hsi hnm hst hbw hvw
              go_wp2_with fail
              go_roundw
              case rel => exact ⟨i + 1, by omega, by rw [HST.out], by go_num, HB.out⟩
              case measure => simp [intOf]; omega
            | true =>
              rw [hsi, if_pos rfl, ← HNC.out i hil cc (by have := HCP.out; omega)] at hnm
              rw [hsi] at z0
              obtain ⟨gi, offi, e, hgi, OAi, oci, hopsi, hoci, y0, y1, y2, y3, y4⟩ := blk_at (HL.out.below hbw (Nat.le_refl _)) i hil
              injection e with e
              injection e with e1 e2
              subst e1 e2
              rw [hnm] at hst hnl
              generalize hbk : (l.getD i blkNone).term = trm at *
              obtain ⟨tk, ta, ty, tn⟩ := trm
              have HNMI := Lib.hid (fun W => HNM.out ⟨tk, ta, ty, tn⟩ cc W)
              unfold trmVal at HNMI
              simp only at HNMI y1 y2 y3 y4
              have HST := Lib.hid hst
              generalize tdNames ⟨tk, ta, ty, tn⟩ cc = nn at *
              generalize tdSum (tdNm l s cc) i = S0 at *
              clear hsi hnm hst hbw hvw hopsi hbk
              go_wp2_with fail
              refine (HNMI.out _).mono ?_
              rintro e w5 ⟨rfl, hb5⟩
              go_wp2_with fail
              go_roundw
              case rel => exact ⟨i + 1, by omega, by rw [HST.out]; go_num, by go_num, bch HB.out hb5⟩
              case measure => simp [intOf]; omega
          · obtain rfl : i = l.length := by omega
            generalize tdSum (tdNm l s cc) l.length = S0 at *
            by_cases h1 : S0 = 1
            · subst h1
              have HE3 : Hid (tdCan (tdCnt l s) l b = true) := Lib.hid (by rw [HE.out]; simp)
              go_wp2_with fail
              rw [← HPO.out]
              exact ⟨by rw [HE3.out, if_pos rfl, HTO.out], HB.out⟩
            · have q : (((S0 : Nat) : Int) != 1) = true := by rw [bne_iff_ne]; omega
              have HE2 : Hid (tdCan (tdCnt l s) l b = false) := Lib.hid (by rw [HE.out]; exact decide_eq_false h1)
              clear h1
              go_wp2_with fail
              rw [← HPO.out]
              exact ⟨by rw [HE2.out]; rfl, HB.out⟩
  · have q : (kk != 1) = true := by rw [bne_iff_ne]; exact hk
    have HE : Hid (tdCan (tdCnt l s) l b = false) := Lib.hid (by rw [HCAN.out, decide_eq_false hk]; rfl)
    clear hk hkk hc1 hto
    go_enter Try.func22, Try.ntmps22
    go_wp2_with fail
    rw [← HPO.out]
    exact ⟨by rw [HE.out]; rfl, Below.refl _ _⟩
end Go.Proofs.Ythkobddggoojlaa
