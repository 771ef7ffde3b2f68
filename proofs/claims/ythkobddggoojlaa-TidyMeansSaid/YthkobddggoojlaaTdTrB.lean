/- Parts of a proof. No condition but those that each theorem names. -/
import Derived.WalkKit
import Derived.OpenShut
import Derived.Below
import Derived.Lib.Hide
import Derived.Laws.OwnMore
import Derived.Deep.QuietTactic
import Derived.Deep.AppendLies
import Derived.ProofKit
import Derived.SizedLaws
import Derived.Test.YthkobddggoojlaaProg
import Derived.Handy
import Derived.Deep.RegionHeld3
import Derived.BigQuiet
import Derived.Maps.AppendAt
import Derived.StillTailTactics
import Derived.Laws.CopyOwn
import Derived.Lib.BufferWrite
import Derived.OrdersHeld
import Derived.RegionTactic
import Derived.Deep.DeepCutAuto
import Derived.Test.YthkobddggoojlaaTdG0e0
import Derived.Test.YthkobddggoojlaaTdG0e1
import Derived.Test.YthkobddggoojlaaTdIr
import Derived.Test.YthkobddggoojlaaTdG1e2
import Derived.Test.YthkobddggoojlaaTdG1e4
import Derived.Test.YthkobddggoojlaaTdIrC
import Derived.Test.YthkobddggoojlaaTdG2e5
import Derived.Test.YthkobddggoojlaaTdG2e11
import Derived.Test.YthkobddggoojlaaTdG2e14
import Derived.Test.YthkobddggoojlaaTdTdD
import Derived.Test.YthkobddggoojlaaTdG2e17
namespace Go.Proofs.Ythkobddggoojlaa
open Go.RowKit
set_option linter.unusedVariables false
/-- Operations that lie in none of these blocks. -/
def OpFar (bad : List Nat) (ov : Value) (ops : List Opn) : Prop := ∀ a n c, ov = .slice (some a) n c → ops ≠ [] → a.block ∉ bad
theorem OpFar.nil_ (ov : Value) (ops : List Opn) : OpFar [] ov ops := fun a n c _ _ => by simp
/-- A list of blocks of the call's own (from block B on); their operations lie below C, and in none of the blocks bad. -/
structure RoAt (w : World) (B C : Nat) (bad : List Nat) (v : Value) (bs : List Blk) (ovs : List Value) : Prop where
  len : ovs.length = bs.length
  row : w.ownsRow B 40 5 v bs.length (blkRow ovs bs)
  ops : ∀ (i : Nat) (ov : Value) (b : Blk), ovs[i]? = some ov → bs[i]? = some b → SlRep opEnc w C ov b.ops ∧ OpFar bad ov b.ops
theorem RoAt.nil_ (w : World) (B C : Nat) (bad : List Nat) : RoAt w B C bad (.slice none 0 0) [] [] := ⟨rfl, World.ownsRow_nil _ _ _ _, fun i ov b h => by simp at h⟩
theorem SlRep.far {w : World} {T : Type} {n : Nat} {f : T → List Value} {hf : ∀ t, (f t).length = n} {v : Value} {xs : List T} {B : Nat} (h : SlRep (flatEnc n f hf) w B v xs) (q : Addr) (u : Value) (hne : ∀ a m c, v = .slice (some a) m c → xs ≠ [] → a.block ≠ q.block) : SlRep (flatEnc n f hf) (w.setCell q u) B v xs := by
  obtain ⟨A, c, e, hc, hx⟩ := h
  refine ⟨A, c, e, hc, fun k x hk => ?_⟩
  obtain ⟨b, off, es, e1, hb, hr, hcell⟩ := hx k x hk
  refine ⟨b, off, es, e1, hb, hr, fun j v' hj => ?_⟩
  have hb2 : b ≠ q.block := by
    have := hne ⟨b, off, none⟩ _ c (by rw [e, e1]) (by intro e9; rw [e9] at hk; simp at hk)
    exact this
  rw [World.cell?_of_block (Below.heap_setCell w q u b hb2)]
  exact hcell j v' hj
section
variable {w w' w0 : World} {B C : Nat} {bad : List Nat} {v : Value} {bs : List Blk} {ovs : List Value}
theorem RoAt.below (h : RoAt w B C bad v bs ovs) (hC : C ≤ w.heap.size) (hb : Below w.heap.size w w') : RoAt w' B C bad v bs ovs :=
  ⟨h.len, own_below h.row hb, fun i ov b h1 h2 => ⟨(h.ops i ov b h1 h2).1.below hb hC, (h.ops i ov b h1 h2).2⟩⟩
theorem RoAt.setOther (h : RoAt w B C bad v bs ovs) (q : Addr) (u : Value) (hv : v.ownBlock ≠ some q.block) (hq : C ≤ q.block ∨ q.block ∈ bad) : RoAt (w.setCell q u) B C bad v bs ovs := by
  refine ⟨h.len, h.row.kept (grown_setCell w q u) ?_, fun i ov b h1 h2 => ⟨?_, (h.ops i ov b h1 h2).2⟩⟩
  · cases hw : v.ownBlock with
    | none => exact Or.inl rfl
    | some r => exact Or.inr (fun e => hv (hw.trans e))
  · obtain ⟨a, f⟩ := h.ops i ov b h1 h2
    rcases hq with hq | hq
    · exact a.below ((Below.refl C w).setCell hq u) (Nat.le_refl _)
    · exact SlRep.far a q u (fun x m c e hne e9 => f x m c e hne (e9 ▸ hq))
theorem RoAt.push (h : RoAt w B C bad v bs ovs) {A : Option Addr} {c : Nat} {ops : List Opn} (hov : SlRep opEnc w C (.slice A ops.length c) ops) (hfar : OpFar bad (.slice A ops.length c) ops)
    (hCB : C ≤ B) (hB : B ≤ w.heap.size) (hn : bs.length ≤ 2000000) (hw : Below B w0 w) (t : Trm) :
    ∃ A' c' w', (Builtin.append_ #[23, 23] 23 #[v, .slice (some ⟨w.heap.size, 0, none⟩) 1 1]).run Try.prog (w.alloc (.cells #[.slice A ops.length c, .int .i64 t.kind, .int .i64 t.a, .int .i64 t.yes, .int .i64 t.no] 40)) = .ok (.slice A' (bs.length + 1) c') w' ∧
      RoAt w' B C bad (.slice A' (bs.length + 1) c') (bs ++ [⟨ops, t⟩]) (ovs ++ [.slice A ops.length c]) ∧ Below B w0 w' := by
  obtain ⟨v', w', a1, a2, a3, _⟩ := run_append_blk w B v bs.length (blkRow ovs bs) h.row A ops.length c t hn hB
  have hlt := h.row.lt
  have hbw : Below B w w' := ((Below.refl B w).alloc hB _).grown a3 (by simp; omega) (fun r hr => (hlt r hr).1)
  obtain ⟨A', c', rfl⟩ := ownN_len a2
  refine ⟨A', c', w', a1, ⟨by simp [h.len], ?_, fun i ov b h1 h2 => ?_⟩, hw.trans hbw⟩
  · rw [blkRow_snoc _ _ h.len, List.length_append]
    exact a2
  · by_cases hi : i < ovs.length
    · rw [List.getElem?_append_left hi] at h1
      rw [List.getElem?_append_left (by rw [← h.len]; exact hi)] at h2
      exact ⟨(h.ops i ov b h1 h2).1.below hbw hCB, (h.ops i ov b h1 h2).2⟩
    · have hi2 : i < (ovs ++ [Value.slice A ops.length c]).length := (List.getElem?_eq_some_iff.1 h1).1
      rw [List.length_append, List.length_singleton] at hi2
      obtain rfl : i = ovs.length := by omega
      rw [List.getElem?_append_right (Nat.le_refl _), Nat.sub_self] at h1
      rw [h.len, List.getElem?_append_right (Nat.le_refl _), Nat.sub_self] at h2
      simp at h1 h2
      subst h1 h2
      exact ⟨hov.below hbw hCB, hfar⟩
theorem RoAt.rep (h : RoAt w B C bad v bs ovs) (hC : C ≤ w.heap.size) : SlRep blkEnc w w.heap.size v bs := by
  refine slRep_own (E := blkEnc) (base := B) (t := 40) bs (List.zipWith (fun (ov : Value) (b : Blk) => blkCells ov b.term) ovs bs) (fun i x hx => ?_) ?_ (Nat.le_refl _) h.row
  · have hi : i < bs.length := (List.getElem?_eq_some_iff.1 hx).1
    have ho : ovs[i]? = some (ovs[i]'(by rw [h.len]; exact hi)) := List.getElem?_eq_getElem _
    refine ⟨blkCells (ovs[i]'(by rw [h.len]; exact hi)) x.term, ?_, _, rfl, (h.ops i _ x ho hx).1.keep hC (fun _ _ => rfl)⟩
    rw [List.getElem?_zipWith, ho, hx]
  · intro es he
    obtain ⟨i, hi, rfl⟩ := List.getElem_of_mem he
    rw [List.getElem_zipWith]; rfl
end
theorem tdStr_take (l : List Blk) (k : Nat) (h : k < l.length) : (tdStr l).take (k + 1) = (tdStr l).take k ++ [⟨(l.getD k blkNone).ops, tdNam (tdLeads l) (l.getD k blkNone).term⟩] := by
  rw [take_succ_getD (tdStr l) k blkNone (by rw [tdStr_len]; exact h), tdStr_at l k h]
def StrPost (C : Nat) (l : List Blk) (w : World) (e : Ending) (w' : World) : Prop := ∃ A c ovs, e = .returned (.slice A l.length c) ∧ RoAt w' w.heap.size C [] (.slice A l.length c) (tdStr l) ovs ∧ Below w.heap.size w w'
set_option maxRecDepth 100000 in
set_option maxHeartbeats 16000000 in
theorem ref23_straight (l : List Blk) (hl : TdOk l) (hn : l.length ≤ 1048576) (A : Option Addr) (c : Nat) (C : Nat) (w : World) (hC : C ≤ w.heap.size) (h : SlRep blkEnc w C (.slice A l.length c) l) :
    Calls Try.prog 20 #[.slice A l.length c] w (StrPost C l w) := by
  have HL := Lib.hid h
  have HC := Lib.hid hC
  have HLD := Lib.hid (fun k hk W h => ref23_leads l hl hn A c k hk W h)
  have HOK := Lib.hid (fun k hk => hl.at_ k hk)
  have HTK := Lib.hid (tdStr_take l)
  have HSL := Lib.hid (tdStr_len l)
  generalize hPO : StrPost C l w = PO
  have HPO := Lib.hid hPO
  clear h hl hPO hC
  go_enter Try.func20, Try.ntmps20
  go_wp2_with fail
  go_loopw [3, 4] (fun vo vi wr => ∃ (m : Nat) (ovs : List Value), m ≤ l.length ∧ vi = .int .i64 m ∧ Below w.heap.size w wr ∧ RoAt wr w.heap.size C [] vo ((tdStr l).take m) ovs) (fun _ vi _ => l.length - (intOf vi).toNat)
  case atStart => exact ⟨0, [], Nat.zero_le _, rfl, Below.refl _ _, RoAt.nil_ _ _ _ _⟩
  case round =>
    obtain ⟨m, ovs, hm, rfl, hb, hro⟩ := hrel
    have HB := Lib.hid hb
    have hlk : ((tdStr l).take m).length = m := by rw [List.length_take, HSL.out]; omega
    obtain ⟨RA, rc, rfl⟩ := ownN_len hro.row
    rw [hlk] at hro ⊢
    have HRO := Lib.hid hro
    have HLK := Lib.hid hlk
    clear hb hro hlk
    by_cases hlt : m < l.length
    · obtain ⟨b, off, rfl, hb0, OA, oc, hops, hoc, y0, y1, y2, y3, y4⟩ := blk_at (HL.out.below HB.out HC.out) m hlt
      have hok := HOK.out m hlt
      have HTM := Lib.hid (HTK.out m hlt)
      have m0 : (0 : Int) ≤ (m : Int) := by omega
      have m1 : (m : Int) < (l.length : Int) := by omega
      generalize l.getD m blkNone = bk at *
      obtain ⟨ops, trm⟩ := bk
      obtain ⟨tk, ta, ty, tn⟩ := trm
      simp only at hops hoc y0 y1 y2 y3 y4 hok HTM
      have HOP := Lib.hid hops
      have hbn := bnew wr (.cells #[.slice OA ops.length oc, .int .i64 tk, .int .i64 ta, .int .i64 ty, .int .i64 tn] 40)
      have HX := Lib.hid (heap_alloc_new wr (.cells #[.slice OA ops.length oc, .int .i64 tk, .int .i64 ta, .int .i64 ty, .int .i64 tn] 40))
      have HB1 := Lib.hid (HB.out.alloc HB.out.size (.cells #[.slice OA ops.length oc, .int .i64 tk, .int .i64 ta, .int .i64 ty, .int .i64 tn] 40))
      have HRO1 := Lib.hid (HRO.out.below (Nat.le_trans HC.out HB.out.size) hbn)
      have HOP1 := Lib.hid (HOP.out.below hbn (Nat.le_trans HC.out HB.out.size))
      have HL1 := Lib.hid ((HL.out.below HB1.out HC.out).keep (Nat.le_trans HC.out HB1.out.size) (fun _ _ => rfl))
      have HXW : Hid (w.heap.size ≤ wr.heap.size) := Lib.hid HB.out.size
      have HXV : Hid ((Value.slice RA m rc).ownBlock ≠ some wr.heap.size) := Lib.hid (fun e => by have := (HRO.out.row.lt _ e).2; omega)
      clear hops hbn
      go_upto_region 6 with (fail)
      clear y0 y1 y2 y3 y4
      generalize wr.alloc (.cells #[.slice OA ops.length oc, .int .i64 tk, .int .i64 ta, .int .i64 ty, .int .i64 tn] 40) = w1 at *
      generalize wr.heap.size = X at *
      rcases hok with ⟨hk, h1⟩ | ⟨hk, h1, h2⟩ | hk
      · have hk : tk = 1 := hk
        subst hk
        clear HOK
        by_cases hy : 0 ≤ ty
        · have hlab := h1
          clear h1
          obtain ⟨c0, c1, c2, c3, c4, f3, f4⟩ := blk_cells_at HX.out
          go_wp2_with fail
          clear c0 c1 c2 c3 c4 f3 f4
          refine (HLD.out ty (by exact hlab) _ HL1.out).mono ?_
          rintro e w2 ⟨rfl, hb⟩
          have hx := blk_set ((hb.block _ (lt_of_blk HX.out)).trans HX.out) 3 (.int .i64 (tdLeads l ty))
          have hx0 := (hb.block _ (lt_of_blk HX.out)).trans HX.out
          have hs1 := HB1.out.size
          have hB := (HB1.out.trans (hb.mono hs1)).setCell (p := ⟨X, 3, none⟩) HXW.out (.int .i64 (tdLeads l ty))
          have hR := (HRO1.out.below (Nat.le_trans HC.out hs1) hb).setOther ⟨X, 3, none⟩ (.int .i64 (tdLeads l ty)) HXV.out (Or.inl (Nat.le_trans HC.out HXW.out))
          have hO := (HOP1.out.below hb (Nat.le_trans HC.out hs1)).below ((Below.refl w.heap.size w2).setCell (p := ⟨X, 3, none⟩) HXW.out (.int .i64 (tdLeads l ty))) HC.out
          obtain ⟨c0, c1, c2, c3, c4, f3, f4⟩ := blk_cells_at hx0
          have ff := (cell_of_blk hx0 3).2
          clear hx0 hb hs1
          go_upto_region 8 with (fail)
          clear c0 c1 c2 c3 c4 f3 f4 ff
          generalize w2.setCell ⟨X, 3, none⟩ (.int .i64 (tdLeads l ty)) = w3 at *
          replace HX := Lib.hid hx
          replace HB1 := Lib.hid hB
          replace HRO1 := Lib.hid hR
          replace HOP1 := Lib.hid hO
          replace HL1 := Lib.hid ((HL.out.below HB1.out HC.out).keep (Nat.le_trans HC.out HB1.out.size) (fun _ _ => rfl))
          clear hx hB hR hO
          have HE : Hid (tdNam (tdLeads l) ⟨1, ta, ty, tn⟩ = ⟨1, ta, tdLeads l ty, tn⟩) := Lib.hid (by rfl)
          rw [HE.out] at HTM
          obtain ⟨NA, nc, w9, hrun, hr9, hb9⟩ := HRO1.out.push HOP1.out (OpFar.nil_ _ _) HC.out HB1.out.size (by rw [HLK.out]; omega) HB1.out ⟨1, ta, tdLeads l ty, tn⟩
          rw [HLK.out] at hrun hr9
          have HRUN := Lib.hid hrun
          have HR9 := Lib.hid hr9
          have HB9 := Lib.hid hb9
          obtain ⟨c0, c1, c2, c3, c4, f3, f4⟩ := blk_cells_at HX.out
          clear hrun hr9 hb9
          go_wp2_with (at_builtin; refine wpList_app rfl (.tmp 50) (.tmp 52) 23 rfl HRUN.out rfl rfl ?_)
          go_roundw
          case rel => exact ⟨m + 1, _, by omega, by go_num, HB9.out, by rw [HTM.out]; exact HR9.out⟩
          case measure => simp [intOf]; omega
        · have hym : ty = -1 := by have h9 : -1 ≤ ty := h1.1; omega
          have HLY : Hid (tdLeads l ty = ty) := Lib.hid (by rw [hym, tdLeads_none])
          clear h1 hym
          have HE : Hid (tdNam (tdLeads l) ⟨1, ta, ty, tn⟩ = ⟨1, ta, ty, tn⟩) := Lib.hid (by unfold tdNam; rw [if_pos rfl]; simp only [HLY.out])
          rw [HE.out] at HTM
          obtain ⟨NA, nc, w9, hrun, hr9, hb9⟩ := HRO1.out.push HOP1.out (OpFar.nil_ _ _) HC.out HB1.out.size (by rw [HLK.out]; omega) HB1.out ⟨1, ta, ty, tn⟩
          rw [HLK.out] at hrun hr9
          have HRUN := Lib.hid hrun
          have HR9 := Lib.hid hr9
          have HB9 := Lib.hid hb9
          obtain ⟨c0, c1, c2, c3, c4, f3, f4⟩ := blk_cells_at HX.out
          clear hrun hr9 hb9
          go_wp2_with (at_builtin; refine wpList_app rfl (.tmp 50) (.tmp 52) 23 rfl HRUN.out rfl rfl ?_)
          go_roundw
          case rel => exact ⟨m + 1, _, by omega, by go_num, HB9.out, by rw [HTM.out]; exact HR9.out⟩
          case measure => simp [intOf]; omega
      · have hk : tk = 2 := hk
        subst hk
        clear HOK
        by_cases hy : 0 ≤ ty
        · have hlab := h1
          clear h1
          obtain ⟨c0, c1, c2, c3, c4, f3, f4⟩ := blk_cells_at HX.out
          go_wp2_with fail
          clear c0 c1 c2 c3 c4 f3 f4
          refine (HLD.out ty (by exact hlab) _ HL1.out).mono ?_
          rintro e w2 ⟨rfl, hb⟩
          have hx := blk_set ((hb.block _ (lt_of_blk HX.out)).trans HX.out) 3 (.int .i64 (tdLeads l ty))
          have hx0 := (hb.block _ (lt_of_blk HX.out)).trans HX.out
          have hs1 := HB1.out.size
          have hB := (HB1.out.trans (hb.mono hs1)).setCell (p := ⟨X, 3, none⟩) HXW.out (.int .i64 (tdLeads l ty))
          have hR := (HRO1.out.below (Nat.le_trans HC.out hs1) hb).setOther ⟨X, 3, none⟩ (.int .i64 (tdLeads l ty)) HXV.out (Or.inl (Nat.le_trans HC.out HXW.out))
          have hO := (HOP1.out.below hb (Nat.le_trans HC.out hs1)).below ((Below.refl w.heap.size w2).setCell (p := ⟨X, 3, none⟩) HXW.out (.int .i64 (tdLeads l ty))) HC.out
          obtain ⟨c0, c1, c2, c3, c4, f3, f4⟩ := blk_cells_at hx0
          have ff := (cell_of_blk hx0 3).2
          clear hx0 hb hs1
          go_upto_region 8 with (fail)
          clear c0 c1 c2 c3 c4 f3 f4 ff
          generalize w2.setCell ⟨X, 3, none⟩ (.int .i64 (tdLeads l ty)) = w3 at *
          replace HX := Lib.hid hx
          replace HB1 := Lib.hid hB
          replace HRO1 := Lib.hid hR
          replace HOP1 := Lib.hid hO
          replace HL1 := Lib.hid ((HL.out.below HB1.out HC.out).keep (Nat.le_trans HC.out HB1.out.size) (fun _ _ => rfl))
          clear hx hB hR hO
          by_cases hz : 0 ≤ tn
          · have hlab2 := h2
            clear h2
            obtain ⟨c0, c1, c2, c3, c4, f3, f4⟩ := blk_cells_at HX.out
            go_wp2_with fail
            clear c0 c1 c2 c3 c4 f3 f4
            refine (HLD.out tn (by exact hlab2) _ HL1.out).mono ?_
            rintro e w4 ⟨rfl, hb⟩
            have hx := blk_set ((hb.block _ (lt_of_blk HX.out)).trans HX.out) 4 (.int .i64 (tdLeads l tn))
            have hx0 := (hb.block _ (lt_of_blk HX.out)).trans HX.out
            have hs1 := HB1.out.size
            have hB := (HB1.out.trans (hb.mono hs1)).setCell (p := ⟨X, 4, none⟩) HXW.out (.int .i64 (tdLeads l tn))
            have hR := (HRO1.out.below (Nat.le_trans HC.out hs1) hb).setOther ⟨X, 4, none⟩ (.int .i64 (tdLeads l tn)) HXV.out (Or.inl (Nat.le_trans HC.out HXW.out))
            have hO := (HOP1.out.below hb (Nat.le_trans HC.out hs1)).below ((Below.refl w.heap.size w4).setCell (p := ⟨X, 4, none⟩) HXW.out (.int .i64 (tdLeads l tn))) HC.out
            obtain ⟨c0, c1, c2, c3, c4, f3, f4⟩ := blk_cells_at hx0
            have ff := (cell_of_blk hx0 4).2
            clear hx0 hb hs1
            go_upto_region 10 with (fail)
            clear c0 c1 c2 c3 c4 f3 f4 ff
            generalize w4.setCell ⟨X, 4, none⟩ (.int .i64 (tdLeads l tn)) = w5 at *
            replace HX := Lib.hid hx
            replace HB1 := Lib.hid hB
            replace HRO1 := Lib.hid hR
            replace HOP1 := Lib.hid hO
            replace HL1 := Lib.hid ((HL.out.below HB1.out HC.out).keep (Nat.le_trans HC.out HB1.out.size) (fun _ _ => rfl))
            clear hx hB hR hO
            have HE : Hid (tdNam (tdLeads l) ⟨2, ta, ty, tn⟩ = ⟨2, ta, tdLeads l ty, tdLeads l tn⟩) := Lib.hid (by unfold tdNam; rw [if_neg (by simp), if_pos rfl])
            rw [HE.out] at HTM
            obtain ⟨NA, nc, w9, hrun, hr9, hb9⟩ := HRO1.out.push HOP1.out (OpFar.nil_ _ _) HC.out HB1.out.size (by rw [HLK.out]; omega) HB1.out ⟨2, ta, tdLeads l ty, tdLeads l tn⟩
            rw [HLK.out] at hrun hr9
            have HRUN := Lib.hid hrun
            have HR9 := Lib.hid hr9
            have HB9 := Lib.hid hb9
            obtain ⟨c0, c1, c2, c3, c4, f3, f4⟩ := blk_cells_at HX.out
            clear hrun hr9 hb9
            go_wp2_with (at_builtin; refine wpList_app rfl (.tmp 50) (.tmp 52) 23 rfl HRUN.out rfl rfl ?_)
            go_roundw
            case rel => exact ⟨m + 1, _, by omega, by go_num, HB9.out, by rw [HTM.out]; exact HR9.out⟩
            case measure => simp [intOf]; omega
          · have hzm : tn = -1 := by have h9 : -1 ≤ tn := h2.1; omega
            have HLZ : Hid (tdLeads l tn = tn) := Lib.hid (by rw [hzm, tdLeads_none])
            clear h2 hzm
            have HE : Hid (tdNam (tdLeads l) ⟨2, ta, ty, tn⟩ = ⟨2, ta, tdLeads l ty, tn⟩) := Lib.hid (by unfold tdNam; rw [if_neg (by simp), if_pos rfl]; simp only [HLZ.out])
            rw [HE.out] at HTM
            obtain ⟨NA, nc, w9, hrun, hr9, hb9⟩ := HRO1.out.push HOP1.out (OpFar.nil_ _ _) HC.out HB1.out.size (by rw [HLK.out]; omega) HB1.out ⟨2, ta, tdLeads l ty, tn⟩
            rw [HLK.out] at hrun hr9
            have HRUN := Lib.hid hrun
            have HR9 := Lib.hid hr9
            have HB9 := Lib.hid hb9
            obtain ⟨c0, c1, c2, c3, c4, f3, f4⟩ := blk_cells_at HX.out
            clear hrun hr9 hb9
            go_wp2_with (at_builtin; refine wpList_app rfl (.tmp 50) (.tmp 52) 23 rfl HRUN.out rfl rfl ?_)
            go_roundw
            case rel => exact ⟨m + 1, _, by omega, by go_num, HB9.out, by rw [HTM.out]; exact HR9.out⟩
            case measure => simp [intOf]; omega
        · have hym : ty = -1 := by have h9 : -1 ≤ ty := h1.1; omega
          have HLY : Hid (tdLeads l ty = ty) := Lib.hid (by rw [hym, tdLeads_none])
          clear h1 hym
          by_cases hz : 0 ≤ tn
          · have hlab2 := h2
            clear h2
            obtain ⟨c0, c1, c2, c3, c4, f3, f4⟩ := blk_cells_at HX.out
            go_wp2_with fail
            clear c0 c1 c2 c3 c4 f3 f4
            refine (HLD.out tn (by exact hlab2) _ HL1.out).mono ?_
            rintro e w4 ⟨rfl, hb⟩
            have hx := blk_set ((hb.block _ (lt_of_blk HX.out)).trans HX.out) 4 (.int .i64 (tdLeads l tn))
            have hx0 := (hb.block _ (lt_of_blk HX.out)).trans HX.out
            have hs1 := HB1.out.size
            have hB := (HB1.out.trans (hb.mono hs1)).setCell (p := ⟨X, 4, none⟩) HXW.out (.int .i64 (tdLeads l tn))
            have hR := (HRO1.out.below (Nat.le_trans HC.out hs1) hb).setOther ⟨X, 4, none⟩ (.int .i64 (tdLeads l tn)) HXV.out (Or.inl (Nat.le_trans HC.out HXW.out))
            have hO := (HOP1.out.below hb (Nat.le_trans HC.out hs1)).below ((Below.refl w.heap.size w4).setCell (p := ⟨X, 4, none⟩) HXW.out (.int .i64 (tdLeads l tn))) HC.out
            obtain ⟨c0, c1, c2, c3, c4, f3, f4⟩ := blk_cells_at hx0
            have ff := (cell_of_blk hx0 4).2
            clear hx0 hb hs1
            go_upto_region 10 with (fail)
            clear c0 c1 c2 c3 c4 f3 f4 ff
            generalize w4.setCell ⟨X, 4, none⟩ (.int .i64 (tdLeads l tn)) = w5 at *
            replace HX := Lib.hid hx
            replace HB1 := Lib.hid hB
            replace HRO1 := Lib.hid hR
            replace HOP1 := Lib.hid hO
            replace HL1 := Lib.hid ((HL.out.below HB1.out HC.out).keep (Nat.le_trans HC.out HB1.out.size) (fun _ _ => rfl))
            clear hx hB hR hO
            have HE : Hid (tdNam (tdLeads l) ⟨2, ta, ty, tn⟩ = ⟨2, ta, ty, tdLeads l tn⟩) := Lib.hid (by unfold tdNam; rw [if_neg (by simp), if_pos rfl]; simp only [HLY.out])
            rw [HE.out] at HTM
            obtain ⟨NA, nc, w9, hrun, hr9, hb9⟩ := HRO1.out.push HOP1.out (OpFar.nil_ _ _) HC.out HB1.out.size (by rw [HLK.out]; omega) HB1.out ⟨2, ta, ty, tdLeads l tn⟩
            rw [HLK.out] at hrun hr9
            have HRUN := Lib.hid hrun
            have HR9 := Lib.hid hr9
            have HB9 := Lib.hid hb9
            obtain ⟨c0, c1, c2, c3, c4, f3, f4⟩ := blk_cells_at HX.out
            clear hrun hr9 hb9
            go_wp2_with (at_builtin; refine wpList_app rfl (.tmp 50) (.tmp 52) 23 rfl HRUN.out rfl rfl ?_)
            go_roundw
            case rel => exact ⟨m + 1, _, by omega, by go_num, HB9.out, by rw [HTM.out]; exact HR9.out⟩
            case measure => simp [intOf]; omega
          · have hzm : tn = -1 := by have h9 : -1 ≤ tn := h2.1; omega
            have HLZ : Hid (tdLeads l tn = tn) := Lib.hid (by rw [hzm, tdLeads_none])
            clear h2 hzm
            have HE : Hid (tdNam (tdLeads l) ⟨2, ta, ty, tn⟩ = ⟨2, ta, ty, tn⟩) := Lib.hid (by unfold tdNam; rw [if_neg (by simp), if_pos rfl]; simp only [HLY.out, HLZ.out])
            rw [HE.out] at HTM
            obtain ⟨NA, nc, w9, hrun, hr9, hb9⟩ := HRO1.out.push HOP1.out (OpFar.nil_ _ _) HC.out HB1.out.size (by rw [HLK.out]; omega) HB1.out ⟨2, ta, ty, tn⟩
            rw [HLK.out] at hrun hr9
            have HRUN := Lib.hid hrun
            have HR9 := Lib.hid hr9
            have HB9 := Lib.hid hb9
            obtain ⟨c0, c1, c2, c3, c4, f3, f4⟩ := blk_cells_at HX.out
            clear hrun hr9 hb9
            go_wp2_with (at_builtin; refine wpList_app rfl (.tmp 50) (.tmp 52) 23 rfl HRUN.out rfl rfl ?_)
            go_roundw
            case rel => exact ⟨m + 1, _, by omega, by go_num, HB9.out, by rw [HTM.out]; exact HR9.out⟩
            case measure => simp [intOf]; omega
      · have hk : tk = 3 := hk
        subst hk
        clear HOK
        have HE : Hid (tdNam (tdLeads l) ⟨3, ta, ty, tn⟩ = ⟨3, ta, ty, tn⟩) := Lib.hid (by rfl)
        rw [HE.out] at HTM
        obtain ⟨NA, nc, w9, hrun, hr9, hb9⟩ := HRO1.out.push HOP1.out (OpFar.nil_ _ _) HC.out HB1.out.size (by rw [HLK.out]; omega) HB1.out ⟨3, ta, ty, tn⟩
        rw [HLK.out] at hrun hr9
        have HRUN := Lib.hid hrun
        have HR9 := Lib.hid hr9
        have HB9 := Lib.hid hb9
        obtain ⟨c0, c1, c2, c3, c4, f3, f4⟩ := blk_cells_at HX.out
        clear hrun hr9 hb9
        go_wp2_with (at_builtin; refine wpList_app rfl (.tmp 50) (.tmp 52) 23 rfl HRUN.out rfl rfl ?_)
        go_roundw
        case rel => exact ⟨m + 1, _, by omega, by go_num, HB9.out, by rw [HTM.out]; exact HR9.out⟩
        case measure => simp [intOf]; omega
    · obtain rfl : m = l.length := by omega
      have htk : (tdStr l).take l.length = tdStr l := List.take_of_length_le (by rw [HSL.out]; exact Nat.le_refl _)
      rw [htk] at HRO
      go_wp2_with fail
      rw [← HPO.out]
      exact ⟨RA, rc, ovs, rfl, HRO.out, HB.out⟩
end Go.Proofs.Ythkobddggoojlaa
