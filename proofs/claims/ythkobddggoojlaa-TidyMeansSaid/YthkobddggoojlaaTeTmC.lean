/- Parts of a proof. No condition but those that each theorem names. -/
import Derived.WalkKit
import Derived.OpenShut
import Derived.Below
import Derived.Lib.Hide
import Derived.Laws.OwnMore
import Derived.Deep.QuietTactic
import Derived.Deep.AppendLies
import Derived.ProofKit
import Derived.SizedLaws
import Derived.Test.YthkobddggoojlaaProg
import Derived.Handy
import Derived.Deep.RegionHeld3
import Derived.BigQuiet
import Derived.Maps.AppendAt
import Derived.Maps.RangeWalk
import Derived.Maps.OwnSet
import Derived.StillTailTactics
import Derived.Laws.CopyOwn
import Derived.Lib.BufferWrite
import Derived.OrdersHeld
import Derived.RegionTactic
import Derived.Deep.DeepCutAuto
import Derived.Test.YthkobddggoojlaaTeG0e0
import Derived.Test.YthkobddggoojlaaTeG0e1
import Derived.Test.YthkobddggoojlaaTeG0e2
import Derived.Test.YthkobddggoojlaaTeG0e4
import Derived.Test.YthkobddggoojlaaTeIrC
import Derived.Test.YthkobddggoojlaaTeG1e6
import Derived.Test.YthkobddggoojlaaTeG1e7
import Derived.Test.YthkobddggoojlaaTeG0e8
import Derived.Test.YthkobddggoojlaaTeG1e12
import Derived.Test.YthkobddggoojlaaTeG0e13
import Derived.Test.YthkobddggoojlaaTeG1e15
import Derived.Test.YthkobddggoojlaaTeG1e16
import Derived.Test.YthkobddggoojlaaTeG0e15
import Derived.Test.YthkobddggoojlaaTeG1e18
import Derived.Test.YthkobddggoojlaaTeG1e19
import Derived.Test.YthkobddggoojlaaTeG1e17
import Derived.Test.YthkobddggoojlaaTeG2e15
namespace Go.Proofs.Ythkobddggoojlaa
open Go.RowKit
set_option linter.unusedVariables false
/-- What holds of blocks while they are put behind each other. -/
structure TdW (cnt : Int → Nat) (n M : Nat) (l : List Blk) (s : List Bool) : Prop where
  inv : TdInv cnt l s
  len : l.length = n
  sum : tdSum (tdOps l s) n ≤ M
theorem tdOps_put {cnt : Int → Nat} {l : List Blk} {s : List Bool} {m n : Nat} (hi : TdInv cnt l s) (hn : l.length = n) (hm : s.getD m false = true) (hc : tdCan cnt l m = true) : tdSum (tdOps (tdPut l m) (s.set (tdTo l m).toNat false)) n = tdSum (tdOps l s) n := by
  obtain ⟨c, e, hck, _, hcl, hkl, hcs, _⟩ := hi.only hm hc
  have hat := tdPut_at (l := l) hkl
  rw [e, Int.toNat_natCast] at hat ⊢
  have hcl2 : c < s.length := by rw [hi.len]; exact hcl
  have hmc : ¬ m = c := fun h => hck h.symm
  refine (tdSum_two (k := m) (c := c) (by omega) (by omega) (fun h => hck h.symm) (fun i h7 h8 => ?_) ?_).symm
  · unfold tdOps
    rw [hat, if_neg h7, getD_setB s c i false false hcl2, if_neg h8]
  · unfold tdOps
    rw [hat, hat, if_pos rfl, if_neg hck, getD_setB s c m false false hcl2, getD_setB s c c false false hcl2]
    simp only [if_neg hmc, hm, hcs, if_true, eq_self, Bool.false_eq_true, if_false, List.length_append, Nat.add_zero]
theorem TdW.put {cnt : Int → Nat} {n M m : Nat} {l : List Blk} {s : List Bool} (h : TdW cnt n M l s) (hm : s.getD m false = true) (hc : tdCan cnt l m = true) : TdW cnt n M (tdPut l m) (s.set (tdTo l m).toNat false) :=
  ⟨h.inv.put hm hc, by rw [tdPut_len]; exact h.len, by rw [tdOps_put h.inv h.len hm hc]; exact h.sum⟩
theorem TdW.one {cnt : Int → Nat} {n M k : Nat} {l : List Blk} {s : List Bool} (h : TdW cnt n M l s) (hk : s.getD k false = true) : (l.getD k blkNone).ops.length ≤ M := by
  have h1 := tdSum_le (f := tdOps l s) (k := k) (n := n) (by rw [← h.len]; exact h.inv.lt hk)
  unfold tdOps at h1
  rw [if_pos hk] at h1
  have := h.sum
  unfold tdOps at this
  omega
theorem TdW.two {cnt : Int → Nat} {n M k c : Nat} {l : List Blk} {s : List Bool} (h : TdW cnt n M l s) (hk : s.getD k false = true) (hc : s.getD c false = true) (hkc : c ≠ k) : (l.getD k blkNone).ops.length + (l.getD c blkNone).ops.length ≤ M := by
  have h1 := tdSum_pull (tdOps l s) k n (by rw [← h.len]; exact h.inv.lt hk)
  have h2 := tdSum_le (f := fun i => if i = k then 0 else tdOps l s i) (k := c) (n := n) (by rw [← h.len]; exact h.inv.lt hc)
  simp only [if_neg hkc] at h2
  have h3 := h.sum
  unfold tdOps at h1 h2 h3
  rw [if_pos hk] at h1
  rw [if_pos hc] at h2
  omega
/-- What is made of block m, whether it is there or not. -/
def tdRow (cnt : Int → Nat) (z : List Blk × List Bool) (m : Nat) : List Blk × List Bool := if z.2.getD m false = true then tdGo cnt (tdTrues z.2) z m else z
theorem tdJoin_row (cnt : Int → Nat) (z : List Blk × List Bool) (m : Nat) : tdJoinTo cnt z (m + 1) = tdRow cnt (tdJoinTo cnt z m) m := rfl
theorem tdRow_out {cnt : Int → Nat} {l : List Blk} {s : List Bool} {m : Nat} (h : s.getD m false = false) : tdRow cnt (l, s) m = (l, s) := by unfold tdRow; rw [if_neg (by rw [h]; simp)]
theorem tdRow_end {cnt : Int → Nat} {l : List Blk} {s : List Bool} {m : Nat} (h : tdCan cnt l m = false) : tdRow cnt (l, s) m = (l, s) := by
  unfold tdRow
  split
  · exact tdGo_end (z := (l, s)) h _
  · rfl
theorem tdRow_step {cnt : Int → Nat} {l : List Blk} {s : List Bool} {m : Nat} (h : TdInv cnt l s) (hm : s.getD m false = true) (hc : tdCan cnt l m = true) : tdRow cnt (l, s) m = tdRow cnt (tdPut l m, s.set (tdTo l m).toNat false) m := by
  unfold tdRow
  rw [if_pos hm, if_pos (h.keep hm hc)]
  exact tdGo_step h hm hc
theorem TdInv.can {cnt : Int → Nat} {l : List Blk} {s : List Bool} {m : Nat} (h : TdInv cnt l s) (hm : s.getD m false = true) : tdCan (tdCnt l s) l m = tdCan cnt l m := by
  unfold tdCan
  by_cases hk : (l.getD m blkNone).term.kind = 1
  · by_cases h1 : tdTo l m = -1
    · simp [h1]
    · have hmem : tdTo l m ∈ tdTg (l.getD m blkNone).term := by rw [tdTg_jump hk h1]; simp
      have h2 := h.here hm hmem
      have h3 := h.cnt (tdTo l m).toNat h2.2.2
      have e : (((tdTo l m).toNat : Nat) : Int) = tdTo l m := by omega
      rw [e] at h3
      rw [h3]
  · rw [decide_eq_false hk]; rfl
theorem tdW_start {p : Ir} (he : irErr p = 0) {s : List Bool} (hs : TdIn (tdStr p.blocks) s) : TdW (tdCnt (tdStr p.blocks) s) p.blocks.length 1048576 (tdStr p.blocks) s := by
  obtain ⟨hl, hn⟩ := ir_tdOk he
  obtain ⟨hng, _⟩ := irErr_ok he
  refine ⟨td_inv (tdStr_ok hl) (by rw [tdStr_len]; exact hn) hs, tdStr_len _, ?_⟩
  have h1 := opsSum_tdSum p.blocks p.blocks.length (Nat.le_refl _)
  rw [List.take_length] at h1
  have h2 : tdSum (tdOps (tdStr p.blocks) s) p.blocks.length ≤ tdSum (fun i => (p.blocks.getD i blkNone).ops.length) p.blocks.length := by
    refine tdSum_mono _ fun i hi => ?_
    unfold tdOps
    split
    · rw [tdStr_at _ i hi]; exact Nat.le_refl _
    · exact Nat.zero_le _
  unfold greatP at hng
  omega
theorem tdW_all {cnt : Int → Nat} {n M : Nat} {l : List Blk} {s : List Bool} (h : TdW cnt n M l s) (m : Nat) : TdW cnt n M (tdJoinTo cnt (l, s) m).1 (tdJoinTo cnt (l, s) m).2 := by
  have h2 := (tdJoin_all (cnt := cnt) (fun m z => z.1.length = n ∧ tdSum (tdOps z.1 z.2) n ≤ M) l s h.inv ⟨h.len, h.sum⟩ (fun m z h _ => h)
    (fun m l' s' hi hm hc ⟨a, b⟩ => ⟨by rw [tdPut_len]; exact a, by
      show tdSum (tdOps (tdPut l' m) (s'.set (tdTo l' m).toNat false)) n ≤ M
      rw [tdOps_put hi a hm hc]; exact b⟩) (fun m l' s' _ _ _ h => h) m)
  exact ⟨h2.1, h2.2.1, h2.2.2⟩
/-- How many flags of a row stand. -/
def isT : Value → Bool
  | .bool b => b
  | _ => false
def trs (w : World) (S : Nat) : Nat := match w.heap[S]? with
  | some (.cells cs _ _) => cs.toList.countP isT
  | _ => 0
theorem trs_of {w : World} {S : Nat} {s : List Bool} {t : TypeId} {o : Nat × Nat} (h : w.heap[S]? = some (.cells (bools s) t o)) : trs w S = tdTrues s := by
  unfold trs
  rw [h]
  show (bools s).toList.countP isT = _
  unfold bools tdTrues
  show (s.map Value.bool).countP isT = _
  rw [List.countP_map]
  unfold List.count
  congr 1
  funext b
  cases b <;> rfl
/-- How many blocks ahead of y are there, among the first k. -/
def clt (s : List Bool) (y : Int) : Nat → Nat
  | 0 => 0
  | k + 1 => clt s y k + (if s.getD k false = true ∧ (k : Int) < y then 1 else 0)
theorem clt_rank (s : List Bool) (y : Int) : ∀ k, k ≤ s.length → clt s y k = tdRank s (min k y.toNat)
  | 0, _ => by rw [Nat.zero_min]; rfl
  | k + 1, h => by
    show clt s y k + _ = _
    rw [clt_rank s y k (by omega)]
    by_cases hy : (k : Int) < y
    · rw [Nat.min_eq_left (by omega), Nat.min_eq_left (by omega), tdRank_succ s k (by omega)]
      cases s.getD k false <;> simp [hy]
    · rw [if_neg (fun h => hy h.2), Nat.min_eq_right (by omega), Nat.min_eq_right (by omega)]; rfl
theorem clt_le (s : List Bool) (y : Int) : ∀ k, clt s y k ≤ k
  | 0 => Nat.le_refl _
  | k + 1 => by
    have := clt_le s y k
    show clt s y k + _ ≤ _
    split <;> omega
theorem clt_num {s : List Bool} {y : Int} (h0 : 0 ≤ y) (h1 : y < s.length) : ((clt s y s.length : Nat) : Int) = tdNum s y := by
  rw [clt_rank s y s.length (Nat.le_refl _), Nat.min_eq_right (by omega), tdNum_of h0]
set_option maxRecDepth 100000 in
set_option maxHeartbeats 4000000 in
theorem ref23_Tidy_bad (p : Ir) (av bv : Value) (hf : p.fine) (he : irErr p ≠ 0) (w : World) (hI : IrRep w w.heap.size p av bv) :
    Calls Try.prog 9 #[irVal p av bv] w (PassPost irZero (irErr p) w) := by
  have HC := Lib.hid (fun W h => ref_Check p av bv hf W h)
  have HI := Lib.hid hI
  have q : (irErr p != 0) = true := by rw [bne_iff_ne]; exact he
  unfold irVal at *
  generalize irErr p = fe at *
  have hx0 := alloc_last _ _ (alloc_size w (.cells #[.int .i64 p.temps, av, bv, .int .i64 p.inp, .int .i64 p.out] 25) rfl) (.cells #[.int .i64 0, .slice none 0 0, .slice none 0 0, .int .i64 0, .int .i64 0] 25)
  have hb1 := bal (bnew w (.cells #[.int .i64 p.temps, av, bv, .int .i64 p.inp, .int .i64 p.out] 25)) (.cells #[.int .i64 0, .slice none 0 0, .slice none 0 0, .int .i64 0, .int .i64 0] 25)
  clear hI he hf
  go_enter Try.func9, Try.ntmps9
  go_wp2_with fail
  refine (HC.out _ (HI.out.next hb1)).mono ?_
  rintro e w2 ⟨rfl, hb2⟩
  have hx := (hb2.block _ (lt_of_blk hx0)).trans hx0
  have HB := Lib.hid (bch hb1 hb2)
  obtain ⟨r0, s0⟩ := cell_of_blk hx 0
  obtain ⟨r1, s1⟩ := cell_of_blk hx 1
  obtain ⟨r2, s2⟩ := cell_of_blk hx 2
  obtain ⟨r3, s3⟩ := cell_of_blk hx 3
  obtain ⟨r4, s4⟩ := cell_of_blk hx 4
  clear hx0 hb1 hb2
  go_wp2_with fail
  have hr7 := blk_set (blk_set (blk_set (blk_set (blk_set hx 0 (.int .i64 0)) 1 (.slice none 0 0)) 2 (.slice none 0 0)) 3 (.int .i64 0)) 4 (.int .i64 0)
  have hB7 := ((((HB.out.setCell (p := ⟨w.heap.size + 1, 0, none⟩) (by show w.heap.size ≤ w.heap.size + 1; omega) (.int .i64 0)).setCell (p := ⟨w.heap.size + 1, 1, none⟩) (by show w.heap.size ≤ w.heap.size + 1; omega) (.slice none 0 0)).setCell (p := ⟨w.heap.size + 1, 2, none⟩) (by show w.heap.size ≤ w.heap.size + 1; omega) (.slice none 0 0)).setCell (p := ⟨w.heap.size + 1, 3, none⟩) (by show w.heap.size ≤ w.heap.size + 1; omega) (.int .i64 0)).setCell (p := ⟨w.heap.size + 1, 4, none⟩) (by show w.heap.size ≤ w.heap.size + 1; omega) (.int .i64 0)
  generalize ((((w2.setCell ⟨w.heap.size + 1, 0, none⟩ (.int .i64 0)).setCell ⟨w.heap.size + 1, 1, none⟩ (.slice none 0 0)).setCell ⟨w.heap.size + 1, 2, none⟩ (.slice none 0 0)).setCell ⟨w.heap.size + 1, 3, none⟩ (.int .i64 0)).setCell ⟨w.heap.size + 1, 4, none⟩ (.int .i64 0) = w7 at *
  have k0 : w7.cell? ⟨w.heap.size + 1, 0, none⟩ = some (.int .i64 0) := (cell_of_blk hr7 0).1
  have k1 : w7.cell? ⟨w.heap.size + 1, 1, none⟩ = some (.slice none 0 0) := (cell_of_blk hr7 1).1
  have k2 : w7.cell? ⟨w.heap.size + 1, 2, none⟩ = some (.slice none 0 0) := (cell_of_blk hr7 2).1
  have k3 : w7.cell? ⟨w.heap.size + 1, 3, none⟩ = some (.int .i64 0) := (cell_of_blk hr7 3).1
  have k4 : w7.cell? ⟨w.heap.size + 1, 4, none⟩ = some (.int .i64 0) := (cell_of_blk hr7 4).1
  clear hr7 hx r0 r1 r2 r3 r4 s0 s1 s2 s3 s4
  refine bodyPost_ret (by simp [results, Try.results9, go_sem, k0, k1, k2, k3, k4]; try rfl) rfl ?_
  exact ⟨none, 0, none, 0, rfl, ⟨SlRep.nil_ _ _, SlRep.nil_ _ _⟩, hB7⟩
set_option maxRecDepth 100000 in
set_option maxHeartbeats 8000000 in
theorem ref23_Tidy (p : Ir) (av bv : Value) (hf : p.fine) (he : irErr p = 0) (s0 : List Bool) (hs0 : TdIn (tdStr p.blocks) s0) (w : World) (hI : IrRep w w.heap.size p av bv) :
    Calls Try.prog 9 #[irVal p av bv] w (PassPost (tdIr p s0) 0 w) := by
  have HC := Lib.hid (fun W h => ref_Check p av bv hf W h)
  rw [he] at HC
  obtain ⟨hng, hm⟩ := irErr_ok he
  obtain ⟨hlo, hln⟩ := ir_tdOk he
  unfold greatP at hng
  have hrs := railSum_nonneg p.arrays
  have hn1 : p.arrays.length ≤ 1048576 := by omega
  have hn2 : p.blocks.length ≤ 1048576 := by omega
  have HST := Lib.hid (fun A c C W hC h => ref23_straight p.blocks hlo hn2 A c C W hC h)
  have HRE := Lib.hid (fun A c W h => ref23_Reached (tdStr p.blocks) (tdStr_ok hlo) (by rw [tdStr_len]; exact hn2) (by rw [tdStr_len]; exact hln) A c W h)
  have HON := Lib.hid (fun (l : List Blk) (s : List Bool) cnt M (h : TdW cnt p.blocks.length M l s) A c b hb V W h1 h2 => ref23_only l h.inv.ok (by rw [h.len]; exact hn2) s h.inv.len A c b hb V W h1 h2)
  have HSL := Lib.hid (tdStr_len p.blocks)
  have HUQ := Lib.hid (fun s (h : TdIn (tdStr p.blocks) s) => h.uniq hs0)
  have HW0 := Lib.hid (tdW_all (tdW_start he hs0))
  have HZ : Hid (∀ m, tdJoinTo (tdCnt (tdStr p.blocks) s0) (tdStr p.blocks, s0) (m + 1) = tdRow (tdCnt (tdStr p.blocks) s0) (tdJoinTo (tdCnt (tdStr p.blocks) s0) (tdStr p.blocks, s0) m) m) := Lib.hid (fun m => tdJoin_row _ _ m)
  have hq : tdIr p s0 = ⟨p.temps, p.arrays, tdOut (tdZ p s0).1 (tdZ p s0).2 p.blocks.length, p.inp, p.out⟩ := rfl
  have hz : tdZ p s0 = tdJoinTo (tdCnt (tdStr p.blocks) s0) (tdStr p.blocks, s0) p.blocks.length := rfl
  obtain ⟨AA, ac, rfl, hac⟩ := hI.1.form
  obtain ⟨BA, bc, rfl, hbc⟩ := hI.2.form
  have HI := Lib.hid hI
  unfold irVal at *
  obtain ⟨hx0, hx1⟩ : ((w.alloc (.cells #[.int .i64 p.temps, (.slice AA p.arrays.length ac), .slice BA p.blocks.length bc, .int .i64 p.inp, .int .i64 p.out] 25)).alloc (.cells #[.int .i64 0, .slice none 0 0, .slice none 0 0, .int .i64 0, .int .i64 0] 25)).heap[w.heap.size]? = some (.cells #[.int .i64 p.temps, (.slice AA p.arrays.length ac), .slice BA p.blocks.length bc, .int .i64 p.inp, .int .i64 p.out] 25 (0, 0)) ∧
      ((w.alloc (.cells #[.int .i64 p.temps, (.slice AA p.arrays.length ac), .slice BA p.blocks.length bc, .int .i64 p.inp, .int .i64 p.out] 25)).alloc (.cells #[.int .i64 0, .slice none 0 0, .slice none 0 0, .int .i64 0, .int .i64 0] 25)).heap[w.heap.size + 1]? = some (.cells #[.int .i64 0, .slice none 0 0, .slice none 0 0, .int .i64 0, .int .i64 0] 25 (0, 0)) := by
    have e := alloc_size w (.cells #[.int .i64 p.temps, (.slice AA p.arrays.length ac), .slice BA p.blocks.length bc, .int .i64 p.inp, .int .i64 p.out] 25) rfl
    exact ⟨alloc_old (alloc_last w _ rfl _) _, alloc_last _ _ e _⟩
  have hz1 : ((w.alloc (.cells #[.int .i64 p.temps, (.slice AA p.arrays.length ac), .slice BA p.blocks.length bc, .int .i64 p.inp, .int .i64 p.out] 25)).alloc (.cells #[.int .i64 0, .slice none 0 0, .slice none 0 0, .int .i64 0, .int .i64 0] 25)).heap.size = w.heap.size + 1 + 1 := alloc_size _ _ (alloc_size w _ rfl)
  have hb1 := bal (bnew w (.cells #[.int .i64 p.temps, (.slice AA p.arrays.length ac), .slice BA p.blocks.length bc, .int .i64 p.inp, .int .i64 p.out] 25)) (.cells #[.int .i64 0, .slice none 0 0, .slice none 0 0, .int .i64 0, .int .i64 0] 25)
  generalize hPO : PassPost (tdIr p s0) 0 w = PO
  have HPO := Lib.hid hPO
  rw [hq, hz] at HPO
  have hzl : tdJoinTo (tdCnt (tdStr p.blocks) s0) (tdStr p.blocks, s0) 0 = (tdStr p.blocks, s0) := rfl
  generalize tdCnt (tdStr p.blocks) s0 = cnt at *
  clear hng hrs hI hm he hf hPO hq hz hs0 hlo
  go_enter Try.func9, Try.ntmps9
  go_wp2_with fail
  generalize (w.alloc (.cells #[.int .i64 p.temps, (.slice AA p.arrays.length ac), .slice BA p.blocks.length bc, .int .i64 p.inp, .int .i64 p.out] 25)).alloc (.cells #[.int .i64 0, .slice none 0 0, .slice none 0 0, .int .i64 0, .int .i64 0] 25) = w0 at *
  refine (HC.out _ (HI.out.next hb1)).mono ?_
  rintro e w1 ⟨rfl, hb2⟩
  have HX0 := Lib.hid ((hb2.block _ (lt_of_blk hx0)).trans hx0)
  have HX1 := Lib.hid ((hb2.block _ (lt_of_blk hx1)).trans hx1)
  have HZ1 : Hid (w.heap.size + 1 + 1 ≤ w1.heap.size) := Lib.hid (by have := hb2.size; omega)
  have HB1 := Lib.hid (bch hb1 hb2)
  have HRB := Lib.hid (HI.out.2.below HB1.out (Nat.le_refl _))
  have HBAD : Hid (∀ r ∈ [w.heap.size, w.heap.size + 1], w.heap.size ≤ r) := Lib.hid (fun r hr => by simp at hr; omega)
  clear hx0 hx1 hz1 hb1 hb2
  obtain ⟨c0, c1, c2, c3, c4, f2⟩ := ir_cells_at HX0.out
  go_wp2_with fail
  refine (HST.out _ _ _ _ HB1.out.size HRB.out).mono ?_
  rintro e w2 ⟨SA, sc, ovs0, rfl, hro, hb3⟩
  have HB2 := Lib.hid hb3
  have HRO := Lib.hid hro
  clear hro hb3 c0 c1 c2 c3 c4 f2
  have hlr := (HRO.out.rep (Nat.le_trans HB1.out.size HB2.out.size))
  rw [← HSL.out] at hlr
  replace HRE := Lib.hid (HRE.out SA sc w2 hlr)
  rw [HSL.out] at HRE
  clear hlr
  go_wp2_with fail
  refine HRE.out.mono ?_
  rintro e w3 ⟨rfl, ⟨s, hsi, hv⟩, hb4⟩
  obtain rfl := HUQ.out s hsi
  have hro3 := HRO.out.below (Nat.le_trans HB1.out.size HB2.out.size) hb4
  rw [← HSL.out] at hro3
  obtain ⟨G, e, hG, hgc, hgv, htm⟩ := hro3.tm HB1.out.size (by have := HB2.out.size; have := hb4.size; omega) (by rw [HSL.out]; exact hln) hv HB2.out.size [w.heap.size, w.heap.size + 1] HBAD.out
  subst e
  rw [HSL.out] at hgc
  have HTM := Lib.hid htm
  have HB3 := Lib.hid (bch HB2.out hb4)
  have HGC := Lib.hid hgc
  have HGV : Hid (G ≠ w2.heap.size) := Lib.hid hgv
  have HGL : Hid (w1.heap.size ≤ G ∧ w1.heap.size ≤ w2.heap.size) := Lib.hid ⟨hG, HB2.out.size⟩
  clear hsi hv hb4 hro3 hG hgc hgv htm HRO HRE HUQ
  generalize w2.heap.size = V at *
  have HMB : Hid (w.heap.size ∈ G :: V :: [w.heap.size, w.heap.size + 1] ∧ w.heap.size + 1 ∈ G :: V :: [w.heap.size, w.heap.size + 1] ∧ ∀ r ∈ G :: V :: [w.heap.size, w.heap.size + 1], r = G ∨ r = V ∨ r ≤ w.heap.size + 1) := Lib.hid ⟨by simp, by simp, fun r hr => by simp at hr; omega⟩
  generalize G :: V :: [w.heap.size, w.heap.size + 1] = bad at *
  have l0 : (0 : Int) < (p.blocks.length : Int) := by omega
  go_wp2_with fail
  go_loopw [7] (fun vi wr => ∃ (m : Nat) (ovs : List Value), m ≤ p.blocks.length ∧ vi = .int .i64 m ∧ TmAt wr G V bad (tdJoinTo cnt (tdStr p.blocks, s) m).1 (tdJoinTo cnt (tdStr p.blocks, s) m).2 ovs ∧ Below w1.heap.size w1 wr) (fun vi _ => p.blocks.length - (intOf vi).toNat)
  case atStart => exact ⟨0, ovs0, Nat.zero_le _, rfl, by rw [hzl]; exact HTM.out, HB3.out⟩
  case round =>
    obtain ⟨m, ovs, hm, rfl, htm, hbw⟩ := hrel
    have HB := Lib.hid hbw
    have HTM := Lib.hid htm
    clear htm hbw
    by_cases hlt : m < p.blocks.length
    · have m0 : (0 : Int) ≤ (m : Int) := by omega
      have m1 : (m : Int) < (p.blocks.length : Int) := by omega
      have HWm := Lib.hid (HW0.out m)
      have HZm := Lib.hid (HZ.out m)
      generalize hZ : tdJoinTo cnt (tdStr p.blocks, s) (m + 1) = Z at *
      have HJ := Lib.hid hZ
      clear hZ
      generalize tdJoinTo cnt (tdStr p.blocks, s) m = z at *
      obtain ⟨l1, s1⟩ := z
      simp only at HTM HWm
      go_wp2_with fail
      go_loopw [8, 9] (fun vc vo wr => ∃ (l : List Blk) (s : List Bool) (ovs : List Value), TdW cnt p.blocks.length 1048576 l s ∧ TmAt wr G V bad l s ovs ∧ Below w1.heap.size w1 wr ∧ Hid (tdRow cnt (l, s) m = Z)) (fun _ _ wr => trs wr V)
      case atStart => exact ⟨l1, s1, ovs, HWm.out, HTM.out, HB.out, Lib.hid HZm.out.symm⟩
      case round =>
        obtain ⟨l, sf, ov, hw, htm, hbw, HRW⟩ := hrel
        have HW := Lib.hid hw
        have HT := Lib.hid htm
        have HBw := Lib.hid hbw
        have hsl : sf.length = p.blocks.length := by rw [hw.inv.len, hw.len]
        have z0 := (cell_of_blk htm.flag m).1
        rw [bools_at (show m < sf.length by omega)] at z0
        clear hw htm hbw
        cases hsm : sf.getD m false with
        | false =>
          rw [hsm] at z0
          have hze := HRW.out
          rw [tdRow_out hsm] at hze
          have HZE := Lib.hid hze
          clear hsm hze
          go_wp2_with fail
          go_roundw
          case rel => exact ⟨m + 1, ov, by omega, by go_num, by rw [HJ.out, ← HZE.out]; exact HT.out, HBw.out⟩
          case measure => simp [intOf]; omega
        | true =>
          rw [hsm] at z0
          have HSM := Lib.hid hsm
          have hlen := HW.out.len
          have hcan := HW.out.inv.can hsm
          have hrep := fun W (h : TmAt W G V bad l sf ov) => h.rep sc (by rw [hlen]; exact HGC.out)
          rw [hlen] at hrep
          have HRP := Lib.hid hrep
          have HO := Lib.hid (fun W h1 h2 => HON.out l sf cnt 1048576 HW.out (some ⟨G, 0, none⟩) sc m (by rw [hlen]; exact hlt) V W h1 h2)
          rw [hlen] at HO
          unfold OnlyPost at HO
          rw [hcan] at HO
          clear hsm hlen hcan hrep
          cases hcc : tdCan cnt l m with
          | false =>
            rw [hcc] at HO
            simp only [Bool.false_eq_true, if_false] at HO
            have hze := HRW.out
            rw [tdRow_end hcc] at hze
            have HZE := Lib.hid hze
            clear hcc hze
            go_wp2_with fail
            refine (HO.out _ (HRP.out _ HT.out) HT.out.flag).mono ?_
            rintro e w5 ⟨rfl, hb5⟩
            have hs5 := HBw.out.size
            have HB5 := Lib.hid (HBw.out.trans (hb5.mono hs5))
            have HT5 := Lib.hid (HT.out.below hb5)
            clear hb5 hs5
            go_wp2_with fail
            go_roundw
            case rel => exact ⟨m + 1, ov, by omega, by go_num, by rw [HJ.out, ← HZE.out]; exact HT5.out, HB5.out⟩
            case measure => simp [intOf]; omega
          | true =>
            rw [hcc] at HO
            simp only [if_true] at HO
            have HST2 := Lib.hid (tdRow_step HW.out.inv HSM.out hcc)
            have HW2 := Lib.hid (HW.out.put HSM.out hcc)
            have HTR := Lib.hid (HW.out.inv.trues HSM.out hcc)
            obtain ⟨c, ec, hcm, hc0, hcl, hml, hcs, _⟩ := HW.out.inv.only HSM.out hcc
            have hcc1 := (tdCan_of hcc).1
            have hput : tdPut l m = l.set m ⟨(l.getD m blkNone).ops ++ (l.getD (tdTo l m).toNat blkNone).ops, (l.getD (tdTo l m).toNat blkNone).term⟩ := rfl
            rw [ec, Int.toNat_natCast] at HST2 HW2 HTR
            rw [ec] at HO
            rw [ec, Int.toNat_natCast] at hput
            have htwo := HW.out.two HSM.out hcs hcm
            have hone := HW.out.one HSM.out
            have cp : (0 : Int) < (c : Int) := by omega
            have cn0 : (0 : Int) ≤ (c : Int) := by omega
            have cl : (c : Int) < (p.blocks.length : Int) := by rw [← HW.out.len]; omega
            have hcl' : c < p.blocks.length := by omega
            have hme : (m : Int) < (p.blocks.length : Int) := by omega
            rw [hput] at HST2 HW2
            obtain ⟨bm, hbm⟩ : ∃ x, l.getD m blkNone = x := ⟨_, rfl⟩
            obtain ⟨bq, hbq⟩ : ∃ x, l.getD c blkNone = x := ⟨_, rfl⟩
            rw [hbm, hbq] at HST2 HW2 htwo
            rw [hbm] at hone
            have HBM := Lib.hid hbm
            have HBQ := Lib.hid hbq
            clear hcc hcc1 hput ec hc0 hbm hbq
            go_wp2_with fail
            refine (HO.out _ (HRP.out _ HT.out) HT.out.flag).mono ?_
            rintro e w5 ⟨rfl, hb5⟩
            have hs5 := HBw.out.size
            have HB5 := Lib.hid (HBw.out.trans (hb5.mono hs5))
            have HT5 := Lib.hid (HT.out.below hb5)
            clear hb5 hs5 z0
            go_wp2_with fail
            refine (HO.out _ (HRP.out _ HT5.out) HT5.out.flag).mono ?_
            rintro e w6 ⟨rfl, hb6⟩
            have hs6 := HB5.out.size
            have HB6 := Lib.hid (HB5.out.trans (hb6.mono hs6))
            have HT6 := Lib.hid (HT5.out.below hb6)
            clear hb6 hs6
            obtain ⟨OA, oc, hov, hops, x0, x1, x2, x3, x4, xf⟩ := HT6.out.cells m hml
            obtain ⟨AA1, cc1, w7, hrun, how, hb7⟩ := HT6.out.app1 m hml (by rw [HBM.out]; omega) hops
            rw [HBM.out] at hrun how x0 x1 x2 x3 x4
            have HRUN := Lib.hid hrun
            have HOW := Lib.hid how
            have HT7 := Lib.hid (HT6.out.below hb7)
            have HB7' := Lib.hid hb7
            have HB7 := Lib.hid (bch HB6.out hb7)
            clear hrun how hb7 hov hops
            go_upto_region 13 with (at_builtin; refine wpList_app rfl (.tmp 48) (.tmp 53) 36 rfl HRUN.out rfl rfl ?_)
            clear x0 x1 x2 x3 x4 xf
            obtain ⟨OC, occ, hovc, hopsc, x0, x1, x2, x3, x4, xf⟩ := HT7.out.cells c hcl
            obtain ⟨AA2, cc2, w8, hrun2, how2, hb8, ht8⟩ := HT7.out.app2 (HT6.out.gv.1) (HT6.out.gv.2) HB7'.out.size HOW.out (fun r hr => HT6.out.old (HOW.out.lt r hr).1) c hcl (by rw [HBQ.out]; omega) hopsc
            rw [HBQ.out] at hrun2 how2 x0 x1 x2 x3 x4
            obtain ⟨LN, hLN⟩ : ∃ n, (bm.ops ++ bq.ops).length = n := ⟨_, rfl⟩
            rw [hLN] at hrun2
            have HLN := Lib.hid hLN
            clear hLN
            have HRUN2 := Lib.hid hrun2
            have HOW2 := Lib.hid how2
            have HT8 := Lib.hid ht8
            have hs6 := HB6.out.size
            have HB8 := Lib.hid (HB7.out.trans (hb8.mono (by omega)))
            clear hrun2 how2 hb8 ht8 hovc hopsc hs6
            go_upto_region 14 with (at_builtin; refine wpList_app rfl (.tmp 55) (.tmp 60) 36 rfl HRUN2.out rfl rfl ?_)
            clear x0 x1 x2 x3 x4 xf
            have hlo := HOW2.out.lt
            have hgv6 := HT6.out.gv
            have hz16 := HZ1.out
            have hs16 := HB6.out.size
            have hfar : OpFar bad (.slice AA2 (bm.ops ++ bq.ops).length cc2) (bm.ops ++ bq.ops) := fun a n cc e9 _ hm9 => by
              have h9 := (hlo a.block (by rw [e9]; rfl)).1
              have h10 := HMB.out.2.2 _ hm9
              omega
            obtain ⟨w9, hw9, ht9, hbb9, hsz9, _⟩ := HT8.out.put HGV.out hml ⟨bm.ops ++ bq.ops, bq.term⟩ (slRep_ops (Nat.le_refl _) HOW2.out) hfar
            have HT9 := Lib.hid ht9
            have HB9 := Lib.hid (hbb9 HGL.out.1 HB8.out)
            have HTF := Lib.hid (ht9.setFlag HGV.out c false)
            have HBF := Lib.hid (HB9.out.setCell (p := ⟨V, c, none⟩) HGL.out.2 (.bool false))
            obtain ⟨OC, occ, hovc, hopsc, x0, x1, x2, x3, x4, xf⟩ := HT8.out.cells c hcl
            obtain ⟨OM, ocm, _, _, u0, u1, u2, u3, u4, _⟩ := HT8.out.cells m hml
            rw [HBQ.out] at hovc hopsc x0 x1 x2 x3 x4
            rw [HBM.out] at u0 u1 u2 u3 u4
            have f0 := xf (m * 5)
            have f1 := xf (m * 5 + 1)
            have f2 := xf (m * 5 + 2)
            have f3 := xf (m * 5 + 3)
            have f4 := xf (m * 5 + 4)
            have v0 := (cell_of_blk HT9.out.flag c).1
            rw [bools_at (show c < sf.length by omega)] at v0
            have v1 := (cell_of_blk HT9.out.flag c).2
            clear hlo hgv6 hz16 hs16 hfar ht9 hbb9 hsz9 hovc hopsc xf
            rw [HLN.out] at hw9
            simp only at hw9
            go_upto_region 15 with (fail)
            clear x0 x1 x2 x3 x4 u0 u1 u2 u3 u4 f0 f1 f2 f3 f4 hw9
            go_wp2_with fail
            go_roundw
            case rel => exact ⟨_, _, _, HW2.out, HTF.out, HBF.out, Lib.hid (HST2.out.symm.trans HRW.out)⟩
            case measure =>
              have h1 := trs_of HTF.out.flag
              have h2 := trs_of HT.out.flag
              have h3 := HTR.out
              omega
    · obtain rfl : m = p.blocks.length := by omega
      have HWn := Lib.hid (HW0.out p.blocks.length)
      generalize tdJoinTo cnt (tdStr p.blocks, s) p.blocks.length = z at *
      obtain ⟨lz, sz⟩ := z
      simp only at HTM HWn HPO
      have HLZ : Hid (lz.length = p.blocks.length) := Lib.hid HWn.out.len
      have HSZ : Hid (sz.length = p.blocks.length) := Lib.hid (by rw [HWn.out.inv.len, HWn.out.len])
      have HBp := Lib.hid HB.out
      have HTp := Lib.hid HTM.out
      clear HB HTM HZ HW0 HON
      generalize wr = wp at *
      go_wp2_with fail
      go_loopw [10, 11] (fun vo vi wr => ∃ (i : Nat) (ovs2 : List Value), i ≤ p.blocks.length ∧ vi = .int .i64 i ∧ Below wp.heap.size wp wr ∧ RoAt wr wp.heap.size wp.heap.size bad vo (tdOut lz sz i) ovs2) (fun _ vi _ => p.blocks.length - (intOf vi).toNat)
      case atStart => exact ⟨0, [], Nat.zero_le _, rfl, Below.refl _ _, RoAt.nil_ _ _ _ _⟩
      case round =>
        obtain ⟨i, ovs2, hi, rfl, hb, hro⟩ := hrel
        obtain ⟨RA, rc, rfl⟩ := ownN_len hro.row
        have hle : (tdOut lz sz i).length ≤ p.blocks.length := by
          rw [tdOut_len lz sz i (by rw [HSZ.out]; exact hi)]
          have h1 := tdRank_le sz (p.blocks.length - i) i
          rw [show i + (p.blocks.length - i) = sz.length by rw [HSZ.out]; omega, tdRank_len] at h1
          have h2 := tdTrues_le sz
          rw [HSZ.out] at h2
          omega
        have HB := Lib.hid hb
        have HRO := Lib.hid hro
        have HLE := Lib.hid hle
        obtain ⟨Ln, hLn⟩ : ∃ x, (tdOut lz sz i).length = x := ⟨_, rfl⟩
        rw [hLn] at HRO ⊢
        have HLN2 := Lib.hid hLn
        clear hb hro hle hLn
        by_cases hil : i < p.blocks.length
        · have i0 : (0 : Int) ≤ (i : Int) := by omega
          have i1 : (i : Int) < (p.blocks.length : Int) := by omega
          have hT := HTp.out.below HB.out
          have z0 := (cell_of_blk hT.flag i).1
          rw [bools_at (show i < sz.length by rw [HSZ.out]; exact hil)] at z0
          clear hT
          cases hsi : sz.getD i false with
          | false =>
            rw [hsi] at z0
            have HTO : Hid (tdOut lz sz (i + 1) = tdOut lz sz i) := Lib.hid (by show tdOut lz sz i ++ _ = _; rw [if_neg (by rw [hsi]; simp), List.append_nil])
            clear hsi
            go_wp2_with fail
            go_roundw
            case rel => exact ⟨i + 1, ovs2, by omega, by go_num, HB.out, by rw [HTO.out]; exact HRO.out⟩
            case measure => simp [intOf]; omega
          | true =>
            rw [hsi] at z0
            have HTO : Hid (tdOut lz sz (i + 1) = tdOut lz sz i ++ [⟨(lz.getD i blkNone).ops, tdNam (tdNum sz) (lz.getD i blkNone).term⟩]) := Lib.hid (by show tdOut lz sz i ++ _ = _; rw [if_pos hsi])
            have HOKI := Lib.hid (HWn.out.inv.ok.at_ i (by rw [HLZ.out]; exact hil))
            rw [HLZ.out] at HOKI
            obtain ⟨OA, oc, hov, hops, x0, x1, x2, x3, x4, _⟩ := HTp.out.cells i (by rw [HLZ.out]; exact hil)
            have HFAR := Lib.hid (HTp.out.ops i _ _ hov (getD_some lz i blkNone (by rw [HLZ.out]; exact hil))).2
            have hcw : ∀ o, wr.cell? ⟨G, o, none⟩ = wp.cell? ⟨G, o, none⟩ := fun o => HB.out.cell (p := ⟨G, o, none⟩) HTp.out.gv.1
            rw [← hcw] at x0 x1 x2 x3 x4
            have HOP := Lib.hid (hops.below HB.out (Nat.le_refl _))
            generalize lz.getD i blkNone = bz at *
            obtain ⟨ops, trm⟩ := bz
            obtain ⟨tk, ta, ty, tn⟩ := trm
            simp only at x0 x1 x2 x3 x4 HTO HOKI HFAR HOP
            have hbn := bnew wr (.cells #[.slice OA ops.length oc, .int .i64 tk, .int .i64 ta, .int .i64 ty, .int .i64 tn] 40)
            have HX := Lib.hid (heap_alloc_new wr (.cells #[.slice OA ops.length oc, .int .i64 tk, .int .i64 ta, .int .i64 ty, .int .i64 tn] 40))
            have HB1 := Lib.hid (HB.out.alloc HB.out.size (.cells #[.slice OA ops.length oc, .int .i64 tk, .int .i64 ta, .int .i64 ty, .int .i64 tn] 40))
            have HRO1' := Lib.hid (RoAt.below HRO.out HB.out.size hbn)
            have HOP1 := Lib.hid (HOP.out.below hbn HB.out.size)
            have HXW : Hid (wp.heap.size ≤ wr.heap.size) := Lib.hid HB.out.size
            have HXV : Hid ((Value.slice RA Ln rc).ownBlock ≠ some wr.heap.size) := Lib.hid (fun e => by have := (HRO.out.row.lt _ e).2; omega)
            have HRO1 := HRO1'
            clear hov hops hcw hbn hsi HRO1'
            go_upto_region 22 with (fail)
            clear x0 x1 x2 x3 x4
            generalize wr.alloc (.cells #[.slice OA ops.length oc, .int .i64 tk, .int .i64 ta, .int .i64 ty, .int .i64 tn] 40) = w1 at *
            generalize wr.heap.size = X at *
            have HTX := Lib.hid (HTp.out.below HB1.out)
            obtain ⟨c0, c1, c2, c3, c4, f3, f4⟩ := blk_cells_at HX.out
            clear c0 c1 c2 f3 f4 z0
            go_wp2_with fail
            go_loop [13, 14, 15] (fun vy vn vk => ∃ k : Nat, k ≤ p.blocks.length ∧ vy = .int .i64 (clt sz ty k : Nat) ∧ vn = .int .i64 (clt sz tn k : Nat) ∧ vk = .int .i64 k) (fun _ _ vk => p.blocks.length - (intOf vk).toNat)
            case atStart => exact ⟨0, Nat.zero_le _, rfl, rfl, rfl⟩
            case round =>
              obtain ⟨k, hk, rfl, rfl, rfl⟩ := hrel
              by_cases hkl : k < p.blocks.length
              · have k0 : (0 : Int) ≤ (k : Int) := by omega
                have k1 : (k : Int) < (p.blocks.length : Int) := by omega
                have y0 := (cell_of_blk HTX.out.flag k).1
                rw [bools_at (show k < sz.length by rw [HSZ.out]; exact hkl)] at y0
                have hcy := clt_le sz ty k
                have hcn := clt_le sz tn k
                have hsy : clt sz ty (k + 1) = clt sz ty k + (if sz.getD k false = true ∧ (k : Int) < ty then 1 else 0) := rfl
                have hsn : clt sz tn (k + 1) = clt sz tn k + (if sz.getD k false = true ∧ (k : Int) < tn then 1 else 0) := rfl
                cases hsk : sz.getD k false with
                | false =>
                  rw [hsk] at y0 hsy hsn
                  have HSY : Hid (clt sz ty (k + 1) = clt sz ty k) := Lib.hid (by rw [hsy]; simp)
                  have HSN : Hid (clt sz tn (k + 1) = clt sz tn k) := Lib.hid (by rw [hsn]; simp)
                  generalize clt sz ty k = A1 at *
                  generalize clt sz tn k = A2 at *
                  clear hsy hsn hsk
                  go_wp2_with fail
                  go_round
                  case rel => exact ⟨k + 1, by omega, by rw [HSY.out], by rw [HSN.out], by go_num⟩
                  case measure => simp [intOf]; omega
                | true =>
                  rw [hsk] at y0 hsy hsn
                  by_cases hy : (k : Int) < ty
                  · have HSY : Hid (clt sz ty (k + 1) = clt sz ty k + 1) := Lib.hid (by rw [hsy, if_pos ⟨rfl, hy⟩])
                    by_cases hn : (k : Int) < tn
                    · have HSN : Hid (clt sz tn (k + 1) = clt sz tn k + 1) := Lib.hid (by rw [hsn, if_pos ⟨rfl, hn⟩])
                      generalize clt sz ty k = A1 at *
                      generalize clt sz tn k = A2 at *
                      clear hsy hsn hsk
                      go_wp2_with fail
                      go_round
                      case rel => exact ⟨k + 1, by omega, by rw [HSY.out]; go_num, by rw [HSN.out]; go_num, by go_num⟩
                      case measure => simp [intOf]; omega
                    · have HSN : Hid (clt sz tn (k + 1) = clt sz tn k) := Lib.hid (by rw [hsn, if_neg (fun h => hn h.2)]; rfl)
                      generalize clt sz ty k = A1 at *
                      generalize clt sz tn k = A2 at *
                      clear hsy hsn hsk
                      go_wp2_with fail
                      go_round
                      case rel => exact ⟨k + 1, by omega, by rw [HSY.out]; go_num, by rw [HSN.out], by go_num⟩
                      case measure => simp [intOf]; omega
                  · have HSY : Hid (clt sz ty (k + 1) = clt sz ty k) := Lib.hid (by rw [hsy, if_neg (fun h => hy h.2)]; rfl)
                    by_cases hn : (k : Int) < tn
                    · have HSN : Hid (clt sz tn (k + 1) = clt sz tn k + 1) := Lib.hid (by rw [hsn, if_pos ⟨rfl, hn⟩])
                      generalize clt sz ty k = A1 at *
                      generalize clt sz tn k = A2 at *
                      clear hsy hsn hsk
                      go_wp2_with fail
                      go_round
                      case rel => exact ⟨k + 1, by omega, by rw [HSY.out], by rw [HSN.out]; go_num, by go_num⟩
                      case measure => simp [intOf]; omega
                    · have HSN : Hid (clt sz tn (k + 1) = clt sz tn k) := Lib.hid (by rw [hsn, if_neg (fun h => hn h.2)]; rfl)
                      generalize clt sz ty k = A1 at *
                      generalize clt sz tn k = A2 at *
                      clear hsy hsn hsk
                      go_wp2_with fail
                      go_round
                      case rel => exact ⟨k + 1, by omega, by rw [HSY.out], by rw [HSN.out], by go_num⟩
                      case measure => simp [intOf]; omega
              · obtain rfl : k = p.blocks.length := by omega
                have HNUM : Hid ((0 ≤ ty → ty < (p.blocks.length : Int) → tdNum sz ty = ((clt sz ty p.blocks.length : Nat) : Int)) ∧ (0 ≤ tn → tn < (p.blocks.length : Int) → tdNum sz tn = ((clt sz tn p.blocks.length : Nat) : Int))) := Lib.hid (by
                  have h1 := fun y a b => @clt_num sz y a b
                  rw [HSZ.out] at h1
                  exact ⟨fun a b => (h1 ty a b).symm, fun a b => (h1 tn a b).symm⟩)
                clear c3 c4
                have hnums := HNUM.out
                generalize hY : ((clt sz ty p.blocks.length : Nat) : Int) = Y at *
                generalize hN : ((clt sz tn p.blocks.length : Nat) : Int) = N at *
                have HYY := Lib.hid hnums
                clear hY hN hnums HNUM
                rcases HOKI.out with ⟨hk, h1⟩ | ⟨hk, h1, h2⟩ | hk
                · have hk : tk = 1 := hk
                  subst hk
                  by_cases hy : 0 ≤ ty
                  · have HNY : Hid (tdNum sz ty = Y) := Lib.hid (HYY.out.1 hy h1.2)
                    clear h1
                    obtain ⟨c0, c1, c2, c3, c4, f3, f4⟩ := blk_cells_at HX.out
                    have ff := (cell_of_blk HX.out 3).2
                    go_upto_region 32 with (fail)
                    clear c0 c1 c2 c3 c4 f3 f4 ff
                    have hx := blk_set HX.out 3 (.int .i64 Y)
                    have hB := HB1.out.setCell (p := ⟨X, 3, none⟩) HXW.out (.int .i64 Y)
                    have hR := HRO1.out.setOther ⟨X, 3, none⟩ (.int .i64 Y) HXV.out (Or.inl HXW.out)
                    have hO := HOP1.out.below ((Below.refl wp.heap.size w1).setCell (p := ⟨X, 3, none⟩) HXW.out (.int .i64 Y)) (Nat.le_refl _)
                    generalize w1.setCell ⟨X, 3, none⟩ (.int .i64 Y) = w2 at *
                    replace HX := Lib.hid hx
                    replace HB1 := Lib.hid hB
                    replace HRO1 := Lib.hid hR
                    replace HOP1 := Lib.hid hO
                    clear hx hB hR hO
                    have HE : Hid (tdNam (tdNum sz) ⟨1, ta, ty, tn⟩ = ⟨1, ta, Y, tn⟩) := Lib.hid (by unfold tdNam; rw [if_pos rfl]; simp only [HNY.out])
                    rw [HE.out] at HTO
                    obtain ⟨NA, nc, w9, hrun, hr9, hb9⟩ := HRO1.out.push HOP1.out HFAR.out (Nat.le_refl _) HB1.out.size (by have := HLE.out; omega) HB1.out ⟨1, ta, Y, tn⟩
                    rw [HLN2.out] at hrun hr9
                    have HRUN := Lib.hid hrun
                    have HR9 := Lib.hid hr9
                    have HB9 := Lib.hid hb9
                    obtain ⟨c0, c1, c2, c3, c4, f3, f4⟩ := blk_cells_at HX.out
                    clear hrun hr9 hb9
                    go_wp2_with (at_builtin; refine wpList_app rfl (.tmp 148) (.tmp 150) 23 rfl HRUN.out rfl rfl ?_)
                    go_roundw
                    case rel => exact ⟨i + 1, _, by omega, by go_num, HB9.out, by rw [HTO.out]; exact HR9.out⟩
                    case measure => simp [intOf]; omega
                  · have hym : ty = -1 := by have h9 : -1 ≤ ty := h1.1; omega
                    have HNY : Hid (tdNum sz ty = ty) := Lib.hid (by rw [hym]; rfl)
                    clear h1 hym
                    have HE : Hid (tdNam (tdNum sz) ⟨1, ta, ty, tn⟩ = ⟨1, ta, ty, tn⟩) := Lib.hid (by unfold tdNam; rw [if_pos rfl]; simp only [HNY.out])
                    rw [HE.out] at HTO
                    obtain ⟨NA, nc, w9, hrun, hr9, hb9⟩ := HRO1.out.push HOP1.out HFAR.out (Nat.le_refl _) HB1.out.size (by have := HLE.out; omega) HB1.out ⟨1, ta, ty, tn⟩
                    rw [HLN2.out] at hrun hr9
                    have HRUN := Lib.hid hrun
                    have HR9 := Lib.hid hr9
                    have HB9 := Lib.hid hb9
                    obtain ⟨c0, c1, c2, c3, c4, f3, f4⟩ := blk_cells_at HX.out
                    clear hrun hr9 hb9
                    go_wp2_with (at_builtin; refine wpList_app rfl (.tmp 148) (.tmp 150) 23 rfl HRUN.out rfl rfl ?_)
                    go_roundw
                    case rel => exact ⟨i + 1, _, by omega, by go_num, HB9.out, by rw [HTO.out]; exact HR9.out⟩
                    case measure => simp [intOf]; omega
                · have hk : tk = 2 := hk
                  subst hk
                  by_cases hy : 0 ≤ ty
                  · have HNY : Hid (tdNum sz ty = Y) := Lib.hid (HYY.out.1 hy h1.2)
                    clear h1
                    obtain ⟨c0, c1, c2, c3, c4, f3, f4⟩ := blk_cells_at HX.out
                    have ff := (cell_of_blk HX.out 3).2
                    go_upto_region 32 with (fail)
                    clear c0 c1 c2 c3 c4 f3 f4 ff
                    have hx := blk_set HX.out 3 (.int .i64 Y)
                    have hB := HB1.out.setCell (p := ⟨X, 3, none⟩) HXW.out (.int .i64 Y)
                    have hR := HRO1.out.setOther ⟨X, 3, none⟩ (.int .i64 Y) HXV.out (Or.inl HXW.out)
                    have hO := HOP1.out.below ((Below.refl wp.heap.size w1).setCell (p := ⟨X, 3, none⟩) HXW.out (.int .i64 Y)) (Nat.le_refl _)
                    generalize w1.setCell ⟨X, 3, none⟩ (.int .i64 Y) = w2 at *
                    replace HX := Lib.hid hx
                    replace HB1 := Lib.hid hB
                    replace HRO1 := Lib.hid hR
                    replace HOP1 := Lib.hid hO
                    clear hx hB hR hO
                    by_cases hz : 0 ≤ tn
                    · have HNN : Hid (tdNum sz tn = N) := Lib.hid (HYY.out.2 hz h2.2)
                      clear h2
                      obtain ⟨c0, c1, c2, c3, c4, f3, f4⟩ := blk_cells_at HX.out
                      have ff := (cell_of_blk HX.out 4).2
                      go_upto_region 34 with (fail)
                      clear c0 c1 c2 c3 c4 f3 f4 ff
                      have hx := blk_set HX.out 4 (.int .i64 N)
                      have hB := HB1.out.setCell (p := ⟨X, 4, none⟩) HXW.out (.int .i64 N)
                      have hR := HRO1.out.setOther ⟨X, 4, none⟩ (.int .i64 N) HXV.out (Or.inl HXW.out)
                      have hO := HOP1.out.below ((Below.refl wp.heap.size w2).setCell (p := ⟨X, 4, none⟩) HXW.out (.int .i64 N)) (Nat.le_refl _)
                      generalize w2.setCell ⟨X, 4, none⟩ (.int .i64 N) = w3 at *
                      replace HX := Lib.hid hx
                      replace HB1 := Lib.hid hB
                      replace HRO1 := Lib.hid hR
                      replace HOP1 := Lib.hid hO
                      clear hx hB hR hO
                      have HE : Hid (tdNam (tdNum sz) ⟨2, ta, ty, tn⟩ = ⟨2, ta, Y, N⟩) := Lib.hid (by unfold tdNam; rw [if_neg (by simp), if_pos rfl]; simp only [HNY.out, HNN.out])
                      rw [HE.out] at HTO
                      obtain ⟨NA, nc, w9, hrun, hr9, hb9⟩ := HRO1.out.push HOP1.out HFAR.out (Nat.le_refl _) HB1.out.size (by have := HLE.out; omega) HB1.out ⟨2, ta, Y, N⟩
                      rw [HLN2.out] at hrun hr9
                      have HRUN := Lib.hid hrun
                      have HR9 := Lib.hid hr9
                      have HB9 := Lib.hid hb9
                      obtain ⟨c0, c1, c2, c3, c4, f3, f4⟩ := blk_cells_at HX.out
                      clear hrun hr9 hb9
                      go_wp2_with (at_builtin; refine wpList_app rfl (.tmp 148) (.tmp 150) 23 rfl HRUN.out rfl rfl ?_)
                      go_roundw
                      case rel => exact ⟨i + 1, _, by omega, by go_num, HB9.out, by rw [HTO.out]; exact HR9.out⟩
                      case measure => simp [intOf]; omega
                    · have hnm : tn = -1 := by have h9 : -1 ≤ tn := h2.1; omega
                      have HNN : Hid (tdNum sz tn = tn) := Lib.hid (by rw [hnm]; rfl)
                      clear h2 hnm
                      have HE : Hid (tdNam (tdNum sz) ⟨2, ta, ty, tn⟩ = ⟨2, ta, Y, tn⟩) := Lib.hid (by unfold tdNam; rw [if_neg (by simp), if_pos rfl]; simp only [HNY.out, HNN.out])
                      rw [HE.out] at HTO
                      obtain ⟨NA, nc, w9, hrun, hr9, hb9⟩ := HRO1.out.push HOP1.out HFAR.out (Nat.le_refl _) HB1.out.size (by have := HLE.out; omega) HB1.out ⟨2, ta, Y, tn⟩
                      rw [HLN2.out] at hrun hr9
                      have HRUN := Lib.hid hrun
                      have HR9 := Lib.hid hr9
                      have HB9 := Lib.hid hb9
                      obtain ⟨c0, c1, c2, c3, c4, f3, f4⟩ := blk_cells_at HX.out
                      clear hrun hr9 hb9
                      go_wp2_with (at_builtin; refine wpList_app rfl (.tmp 148) (.tmp 150) 23 rfl HRUN.out rfl rfl ?_)
                      go_roundw
                      case rel => exact ⟨i + 1, _, by omega, by go_num, HB9.out, by rw [HTO.out]; exact HR9.out⟩
                      case measure => simp [intOf]; omega
                  · have hym : ty = -1 := by have h9 : -1 ≤ ty := h1.1; omega
                    have HNY : Hid (tdNum sz ty = ty) := Lib.hid (by rw [hym]; rfl)
                    clear h1 hym
                    by_cases hz : 0 ≤ tn
                    · have HNN : Hid (tdNum sz tn = N) := Lib.hid (HYY.out.2 hz h2.2)
                      clear h2
                      obtain ⟨c0, c1, c2, c3, c4, f3, f4⟩ := blk_cells_at HX.out
                      have ff := (cell_of_blk HX.out 4).2
                      go_upto_region 34 with (fail)
                      clear c0 c1 c2 c3 c4 f3 f4 ff
                      have hx := blk_set HX.out 4 (.int .i64 N)
                      have hB := HB1.out.setCell (p := ⟨X, 4, none⟩) HXW.out (.int .i64 N)
                      have hR := HRO1.out.setOther ⟨X, 4, none⟩ (.int .i64 N) HXV.out (Or.inl HXW.out)
                      have hO := HOP1.out.below ((Below.refl wp.heap.size w1).setCell (p := ⟨X, 4, none⟩) HXW.out (.int .i64 N)) (Nat.le_refl _)
                      generalize w1.setCell ⟨X, 4, none⟩ (.int .i64 N) = w3 at *
                      replace HX := Lib.hid hx
                      replace HB1 := Lib.hid hB
                      replace HRO1 := Lib.hid hR
                      replace HOP1 := Lib.hid hO
                      clear hx hB hR hO
                      have HE : Hid (tdNam (tdNum sz) ⟨2, ta, ty, tn⟩ = ⟨2, ta, ty, N⟩) := Lib.hid (by unfold tdNam; rw [if_neg (by simp), if_pos rfl]; simp only [HNY.out, HNN.out])
                      rw [HE.out] at HTO
                      obtain ⟨NA, nc, w9, hrun, hr9, hb9⟩ := HRO1.out.push HOP1.out HFAR.out (Nat.le_refl _) HB1.out.size (by have := HLE.out; omega) HB1.out ⟨2, ta, ty, N⟩
                      rw [HLN2.out] at hrun hr9
                      have HRUN := Lib.hid hrun
                      have HR9 := Lib.hid hr9
                      have HB9 := Lib.hid hb9
                      obtain ⟨c0, c1, c2, c3, c4, f3, f4⟩ := blk_cells_at HX.out
                      clear hrun hr9 hb9
                      go_wp2_with (at_builtin; refine wpList_app rfl (.tmp 148) (.tmp 150) 23 rfl HRUN.out rfl rfl ?_)
                      go_roundw
                      case rel => exact ⟨i + 1, _, by omega, by go_num, HB9.out, by rw [HTO.out]; exact HR9.out⟩
                      case measure => simp [intOf]; omega
                    · have hnm : tn = -1 := by have h9 : -1 ≤ tn := h2.1; omega
                      have HNN : Hid (tdNum sz tn = tn) := Lib.hid (by rw [hnm]; rfl)
                      clear h2 hnm
                      have HE : Hid (tdNam (tdNum sz) ⟨2, ta, ty, tn⟩ = ⟨2, ta, ty, tn⟩) := Lib.hid (by unfold tdNam; rw [if_neg (by simp), if_pos rfl]; simp only [HNY.out, HNN.out])
                      rw [HE.out] at HTO
                      obtain ⟨NA, nc, w9, hrun, hr9, hb9⟩ := HRO1.out.push HOP1.out HFAR.out (Nat.le_refl _) HB1.out.size (by have := HLE.out; omega) HB1.out ⟨2, ta, ty, tn⟩
                      rw [HLN2.out] at hrun hr9
                      have HRUN := Lib.hid hrun
                      have HR9 := Lib.hid hr9
                      have HB9 := Lib.hid hb9
                      obtain ⟨c0, c1, c2, c3, c4, f3, f4⟩ := blk_cells_at HX.out
                      clear hrun hr9 hb9
                      go_wp2_with (at_builtin; refine wpList_app rfl (.tmp 148) (.tmp 150) 23 rfl HRUN.out rfl rfl ?_)
                      go_roundw
                      case rel => exact ⟨i + 1, _, by omega, by go_num, HB9.out, by rw [HTO.out]; exact HR9.out⟩
                      case measure => simp [intOf]; omega
                · have hk : tk = 3 := hk
                  subst hk
                  have HE : Hid (tdNam (tdNum sz) ⟨3, ta, ty, tn⟩ = ⟨3, ta, ty, tn⟩) := Lib.hid (by rfl)
                  rw [HE.out] at HTO
                  obtain ⟨NA, nc, w9, hrun, hr9, hb9⟩ := HRO1.out.push HOP1.out HFAR.out (Nat.le_refl _) HB1.out.size (by have := HLE.out; omega) HB1.out ⟨3, ta, ty, tn⟩
                  rw [HLN2.out] at hrun hr9
                  have HRUN := Lib.hid hrun
                  have HR9 := Lib.hid hr9
                  have HB9 := Lib.hid hb9
                  obtain ⟨c0, c1, c2, c3, c4, f3, f4⟩ := blk_cells_at HX.out
                  clear hrun hr9 hb9
                  go_wp2_with (at_builtin; refine wpList_app rfl (.tmp 148) (.tmp 150) 23 rfl HRUN.out rfl rfl ?_)
                  go_roundw
                  case rel => exact ⟨i + 1, _, by omega, by go_num, HB9.out, by rw [HTO.out]; exact HR9.out⟩
                  case measure => simp [intOf]; omega
        · obtain rfl : i = p.blocks.length := by omega
          generalize tdOut lz sz p.blocks.length = qb at *
          have HBA := Lib.hid (HB1.out.trans ((HBp.out.trans (HB.out.mono HBp.out.size)).mono HB1.out.size))
          have hw1p : w1.heap.size ≤ wp.heap.size := HBp.out.size
          have hz1 := HZ1.out
          have hbX := HBp.out.trans (HB.out.mono HBp.out.size)
          have hxr := (hbX.block w.heap.size (by omega)).trans HX0.out
          have hxr1 := (hbX.block (w.heap.size + 1) (by omega)).trans HX1.out
          have hxf := blk_set hxr 2 (.slice RA Ln rc)
          have hr5 := blk_far hxr1 ⟨w.heap.size, 2, none⟩ (.slice RA Ln rc) (by show w.heap.size ≠ w.heap.size + 1; omega)
          have hB5 := HBA.out.setCell (p := ⟨w.heap.size, 2, none⟩) (Nat.le_refl _) (.slice RA Ln rc)
          have hnv : ∀ g, g < wp.heap.size → (Value.slice RA Ln rc).ownBlock ≠ some g := fun g hg e => by have := (HRO.out.row.lt g e).1; omega
          have hro5 := RoAt.setOther HRO.out ⟨w.heap.size, 2, none⟩ (.slice RA Ln rc) (hnv _ (by show w.heap.size < _; omega)) (Or.inr HMB.out.1)
          have hsz5 : (wr.setCell ⟨w.heap.size, 2, none⟩ (.slice RA Ln rc)).heap.size = wr.heap.size := by simp [World.setCell]
          obtain ⟨c0, c1, c2, c3, c4, f2⟩ := ir_cells_at hxr
          obtain ⟨g0, g1, g2, g3, g4, g5⟩ := ir_cells_at hxf
          have f1 := (cell_of_blk hxf 1).2
          have HR5 := Lib.hid hr5
          have HB5 := Lib.hid hB5
          have HRO5 := Lib.hid hro5
          have HNV := Lib.hid hnv
          have HSZ5 := Lib.hid hsz5
          have HWP : Hid (w.heap.size + 1 < wp.heap.size) := Lib.hid (by omega)
          have HWS := Lib.hid HB.out.size
          clear hxr hxr1 hxf hr5 hB5 hnv hro5 hsz5 hbX hw1p hz1
          go_upto_region 36 with (fail)
          clear c0 c1 c2 c3 c4 f2
          generalize wr.setCell ⟨w.heap.size, 2, none⟩ (.slice RA Ln rc) = w7 at *
          obtain ⟨r0, s0⟩ := cell_of_blk HR5.out 0
          obtain ⟨r1, s1⟩ := cell_of_blk HR5.out 1
          obtain ⟨r2, s2⟩ := cell_of_blk HR5.out 2
          obtain ⟨r3, s3⟩ := cell_of_blk HR5.out 3
          obtain ⟨r4, s4⟩ := cell_of_blk HR5.out 4
          go_wp2_with fail
          have hr8 := blk_set (blk_set (blk_set (blk_set (blk_set HR5.out 0 (.int .i64 p.temps)) 1 (.slice AA p.arrays.length ac)) 2 (.slice RA Ln rc)) 3 (.int .i64 p.inp)) 4 (.int .i64 p.out)
          have hB8 := ((((HB5.out.setCell (p := ⟨w.heap.size + 1, 0, none⟩) (by show w.heap.size ≤ w.heap.size + 1; omega) (.int .i64 p.temps)).setCell (p := ⟨w.heap.size + 1, 1, none⟩) (by show w.heap.size ≤ w.heap.size + 1; omega) (.slice AA p.arrays.length ac)).setCell (p := ⟨w.heap.size + 1, 2, none⟩) (by show w.heap.size ≤ w.heap.size + 1; omega) (.slice RA Ln rc)).setCell (p := ⟨w.heap.size + 1, 3, none⟩) (by show w.heap.size ≤ w.heap.size + 1; omega) (.int .i64 p.inp)).setCell (p := ⟨w.heap.size + 1, 4, none⟩) (by show w.heap.size ≤ w.heap.size + 1; omega) (.int .i64 p.out)
          have hnr := HNV.out (w.heap.size + 1) HWP.out
          have hl8 := ((((HRO5.out.setOther ⟨w.heap.size + 1, 0, none⟩ (.int .i64 p.temps) hnr (Or.inr HMB.out.2.1)).setOther ⟨w.heap.size + 1, 1, none⟩ (.slice AA p.arrays.length ac) hnr (Or.inr HMB.out.2.1)).setOther ⟨w.heap.size + 1, 2, none⟩ (.slice RA Ln rc) hnr (Or.inr HMB.out.2.1)).setOther ⟨w.heap.size + 1, 3, none⟩ (.int .i64 p.inp) hnr (Or.inr HMB.out.2.1)).setOther ⟨w.heap.size + 1, 4, none⟩ (.int .i64 p.out) hnr (Or.inr HMB.out.2.1)
          have hs8 : wp.heap.size ≤ (((((w7.setCell ⟨w.heap.size + 1, 0, none⟩ (.int .i64 p.temps)).setCell ⟨w.heap.size + 1, 1, none⟩ (.slice AA p.arrays.length ac)).setCell ⟨w.heap.size + 1, 2, none⟩ (.slice RA Ln rc)).setCell ⟨w.heap.size + 1, 3, none⟩ (.int .i64 p.inp)).setCell ⟨w.heap.size + 1, 4, none⟩ (.int .i64 p.out)).heap.size := by
            have h1 := HSZ5.out
            have h2 := HWS.out
            simp [World.setCell] at h1 ⊢
            omega
          generalize ((((w7.setCell ⟨w.heap.size + 1, 0, none⟩ (.int .i64 p.temps)).setCell ⟨w.heap.size + 1, 1, none⟩ (.slice AA p.arrays.length ac)).setCell ⟨w.heap.size + 1, 2, none⟩ (.slice RA Ln rc)).setCell ⟨w.heap.size + 1, 3, none⟩ (.int .i64 p.inp)).setCell ⟨w.heap.size + 1, 4, none⟩ (.int .i64 p.out) = w8 at *
          have k0 : w8.cell? ⟨w.heap.size + 1, 0, none⟩ = some (.int .i64 p.temps) := (cell_of_blk hr8 0).1
          have k1 : w8.cell? ⟨w.heap.size + 1, 1, none⟩ = some (.slice AA p.arrays.length ac) := (cell_of_blk hr8 1).1
          have k2 : w8.cell? ⟨w.heap.size + 1, 2, none⟩ = some (.slice RA Ln rc) := (cell_of_blk hr8 2).1
          have k3 : w8.cell? ⟨w.heap.size + 1, 3, none⟩ = some (.int .i64 p.inp) := (cell_of_blk hr8 3).1
          have k4 : w8.cell? ⟨w.heap.size + 1, 4, none⟩ = some (.int .i64 p.out) := (cell_of_blk hr8 4).1
          clear hr8 r0 r1 r2 r3 r4 s0 s1 s2 s3 s4 g0 g1 g2 g3 g4 g5 f1
          refine bodyPost_ret (by simp [results, Try.results9, go_sem, k0, k1, k2, k3, k4]; try rfl) rfl ?_
          rw [← HPO.out]
          have hrb := hl8.rep hs8
          have hra : SlRep arrEnc w8 w8.heap.size (.slice AA p.arrays.length ac) p.arrays := (HI.out.1.below hB8 (Nat.le_refl _)).keep hB8.size (fun _ _ => rfl)
          have hln2 := HLN2.out
          subst hln2
          exact ⟨AA, ac, RA, rc, rfl, ⟨hra, hrb⟩, hB8⟩
end Go.Proofs.Ythkobddggoojlaa
