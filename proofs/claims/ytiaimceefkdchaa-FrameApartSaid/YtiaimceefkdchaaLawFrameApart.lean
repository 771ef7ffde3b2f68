/- The Go function FrameApart returns true on every input and leaves its arguments as they were. No condition. -/
import Derived.Test.YtiaimceefkdchaaRows
import Derived.WalkKit
import Derived.ProofKit
import Derived.OpenShut
import Derived.Test.YtiaimceefkdchaaLawKit
import Derived.SizedLaws
import Derived.Test.YtiaimceefkdchaaApartM
import Derived.Test.YtiaimceefkdchaaFrameL
namespace Go.Proofs.Ytiaimceefkdchaa.frameApart
open Go.ChangeShapes Go.WideShapes Go.ChangeAt Go.RowKit
set_option linter.unusedVariables false

def boolVals (l : List Bool) : Array Value := (l.map Value.bool).toArray
theorem bool_info : (Try.prog.info? 4).map (fun i => (i.zero, i.size, i.bytes)) = some (some (.bool false), 1, 1) := by kernel_rfl
theorem made_bools (n : Nat) : madeCells (Value.bool false).cells (n * 1) = boolVals (List.replicate n false) := by
  unfold madeCells boolVals
  apply Array.ext_getElem?
  intro j
  by_cases hj : j < n
  · simp [hj, Value.cells, Nat.mod_one]
  · simp [hj]
theorem run_make_bools (n : Nat) (hn : n ≤ 2000000) (W : World) : (Instr.makeSlice 33 (.int .i64 (n : Int)) (.int .i64 (n : Int))).run Try.prog W = .ok (.slice (some ⟨W.heap.size, 0, none⟩) n n) (W.alloc (.cells (boolVals (List.replicate n false)) 4)) := by
  obtain ⟨i0, hi, hz0, hz1, hz2⟩ := info_parts bool_info
  have h := run_make (P := Try.prog) W 33 4 i0 (.bool false) Try.underlying33 hi hz0 .i64 .i64 (n : Int) (n : Int) (by omega) (by omega) (by rw [hz2]; omega) (by omega)
  rw [hz1] at h
  simp only [Int.toNat_natCast] at h
  rw [made_bools] at h
  exact h
/-- Marks in a row of truths: whatever is marked, P holds of it. -/
def MarkAt (w : World) (g n : Nat) (P : Int → Prop) : Prop := ∃ l : List Bool, l.length = n ∧ w.heap[g]? = some (.cells (boolVals l) 4 (0, 0)) ∧ ∀ k : Nat, l[k]? = some true → P k
theorem mark_new (w : World) (n : Nat) (P : Int → Prop) : MarkAt (w.alloc (.cells (boolVals (List.replicate n false)) 4)) w.heap.size n P :=
  ⟨List.replicate n false, by simp, heap_alloc_new w _, fun k h => by rw [List.getElem?_replicate] at h; split at h <;> simp at h⟩
theorem mark_mono {w : World} {g n : Nat} {P Q : Int → Prop} (h : MarkAt w g n P) (hq : ∀ k, P k → Q k) : MarkAt w g n Q := by
  obtain ⟨l, h1, h2, h3⟩ := h
  exact ⟨l, h1, h2, fun k hk => hq _ (h3 k hk)⟩
theorem mark_cell {w : World} {g n : Nat} {P : Int → Prop} (h : MarkAt w g n P) (k : Nat) (hk : k < n) (hp : ¬ P k) : w.cell? ⟨g, k, none⟩ = some (.bool false) ∧ w.frozen? ⟨g, k, none⟩ = false := by
  obtain ⟨l, h1, h2, h3⟩ := h
  obtain ⟨c, f⟩ := cell_of_blk h2 k
  refine ⟨c.trans ?_, f⟩
  have hl : l[k]? = some l[k] := List.getElem?_eq_getElem (by omega)
  have : l[k] = false := by
    cases hb : l[k] with
    | false => rfl
    | true => rw [hb] at hl; exact absurd (h3 k hl) hp
  unfold boolVals
  simp [hl, this]
theorem mark_set {w : World} {g n : Nat} {P : Int → Prop} (h : MarkAt w g n P) (k : Nat) : MarkAt (w.setCell ⟨g, k, none⟩ (.bool true)) g n (fun x => P x ∨ x = k) := by
  obtain ⟨l, h1, h2, h3⟩ := h
  refine ⟨l.set k true, by simpa using h1, ?_, fun j hj => ?_⟩
  · have := blk_set h2 k (.bool true)
    rw [this]
    unfold boolVals
    simp [List.map_set]
  · by_cases e : j = k
    · exact .inr (by rw [e])
    · rw [List.getElem?_set_ne (fun h => e h.symm)] at hj
      exact .inl (h3 j hj)
theorem heap_alloc_size (w : World) (o : Obj) : (w.alloc o).heap.size = w.heap.size + 1 := by simp
theorem MarkAt.alloc_ {w : World} {g n : Nat} {P : Int → Prop} (h : MarkAt w g n P) (o : Obj) : MarkAt (w.alloc o) g n P := by
  obtain ⟨l, h1, h2, h3⟩ := h
  exact ⟨l, h1, ((bnew w o).block g (lt_of_blk h2)).trans h2, h3⟩
theorem mark_below {w w' : World} {g n : Nat} {P : Int → Prop} (h : MarkAt w g n P) (hb : Below (g + 1) w w') : MarkAt w' g n P := by
  obtain ⟨l, h1, h2, h3⟩ := h
  exact ⟨l, h1, (hb.block g (by omega)).trans h2, h3⟩
set_option maxRecDepth 100000 in
set_option maxHeartbeats 4000000 in
theorem bad (p : Ir) (av bv : Value) (hf : p.fine) (w : World) (hI : IrRep w w.heap.size p av bv) (he : frErr p ≠ 0) :
    Calls Try.prog 3 #[irVal p av bv] w fun e w' => e = .returned (.bool true) ∧ Below w.heap.size w w' := by
  have HOF := Lib.hid (fun W h => frame_Of p av bv hf W h)
  have HI0 := Lib.hid hI
  have hl : frLay p = ⟨0, [], 0⟩ := by unfold frLay; rw [if_neg he]
  unfold FrPost at HOF
  rw [hl] at HOF
  have q : (frErr p != 0) = true := by rw [bne_iff_ne]; exact he
  unfold irVal frCells at *
  generalize frErr p = fe at *
  have HLV := Lib.hid (fun W => law26_lives W)
  clear hI hl he
  go_enter Try.func3, Try.ntmps3
  go_wp2_with fail
  refine (HOF.out _ (HI0.out.next (bnew _ _))).mono ?_
  rintro e w2 ⟨fv, rfl, hb, ho⟩
  obtain ⟨A, cap, rfl⟩ := own_len ho
  have HB := Lib.hid (bch (bnew _ _) hb)
  clear hb ho
  go_wp2_with fail
  refine (HLV.out _).mono ?_
  rintro e w3 ⟨rfl, hb3⟩
  have HB3 := Lib.hid (bch (bal HB.out _) hb3)
  clear hb3
  go_wp2_with fail
  go_ret
  exact ⟨rfl, HB3.out⟩
theorem sz_facts (p : Ir) (he : frErr p = 0) : 0 ≤ p.temps ∧ 0 ≤ p.out ∧ p.out ≤ 65536 ∧ (frGo p p.arrays).2 ≤ 65536 ∧ (frGo p p.arrays).2 % 4 = 0 ∧ 4 + 4 * p.temps + p.out ≤ (frGo p p.arrays).2 ∧ (frGo p p.arrays).1.length = p.arrays.length ∧ p.arrays.length ≤ 1048576 ∧
    (∀ a ∈ p.arrays, shapedP a ∧ (a.kind = 0 ∨ a.kind = 1 ∨ a.kind = 2)) ∧ (∀ a ∈ p.arrays, 0 ≤ a.off ∧ a.off ≤ 65536) := by
  have hir : irErr p = 0 := by
    unfold frErr at he
    by_cases h : irErr p = 0
    · exact h
    · rw [if_pos h] at he; exact absurd he h
  obtain ⟨hng, hm⟩ := irErr_ok hir
  obtain ⟨⟨⟨hi0, hi1, hi2⟩, ⟨ho0, ho1, ho2⟩, hT0, _⟩, hae, _⟩ := hm
  have hall := arrEnd_all p.inp p.out p.arrays 0 hae
  have hoff := arrEnd_off p.inp p.out hi1 ho1 p.arrays 0 (by omega) hae
  have hsz : (frGo p p.arrays).2 = frImg p + p.out + railSum p.arrays := by
    unfold frGo; rw [frGo_size p _ _ hall]
  have himg : frImg p = 4 + 4 * p.temps := rfl
  have hr4 : ∀ l : List Arr, railSum l % 4 = 0 := by
    intro l
    induction l with
    | nil => rfl
    | cons a l ih =>
      rw [railSum]
      unfold railBytes room up4
      split <;> (try split) <;> omega
  have h4 := hr4 p.arrays
  have hrn := railSum_nonneg p.arrays
  have h6 : ¬ 65536 < (frGo p p.arrays).2 := by
    intro h
    unfold frErr at he
    rw [if_neg (by simpa using hir), if_pos h] at he
    exact absurd he (by decide)
  have hlen : (frGo p p.arrays).1.length = p.arrays.length := by unfold frGo; rw [frGo_len]; simp
  unfold greatP at hng
  exact ⟨hT0, ho0, ho1, by omega, by omega, by omega, hlen, by omega, hall, hoff⟩
set_option maxRecDepth 100000 in
set_option maxHeartbeats 8000000 in
theorem good (p : Ir) (av bv : Value) (hf : p.fine) (w : World) (hI : IrRep w w.heap.size p av bv) (he : frErr p = 0) :
    Calls Try.prog 3 #[irVal p av bv] w fun e w' => e = .returned (.bool true) ∧ Below w.heap.size w w' := by
  have HOF := Lib.hid (fun W h => frame_Of p av bv hf W h)
  have HI0 := Lib.hid hI
  have HLV := Lib.hid (fun W => law26_lives W)
  have HAP := Lib.hid (apart_at p he)
  obtain ⟨hT0, ho0, ho1, hs1, hs2, hs3, hlen, hn1, hall, hoff⟩ := sz_facts p he
  have HLA := Lib.hid (lay_at p hall)
  have HALL := Lib.hid hall
  have HOFF := Lib.hid hoff
  have hl : frLay p = ⟨4 + 4 * p.temps, (frGo p p.arrays).1, (frGo p p.arrays).2⟩ := by unfold frLay; rw [if_pos he]; rfl
  unfold FrPost at HOF
  rw [hl, he] at HOF
  simp only [hlen] at HOF
  have HAP2 : Hid (∀ (i : Nat), i < p.arrays.length → ¬(p.arrays.getD i arrNone).kind = 1 → layP p i + bytesAt p i ≤ (frGo p p.arrays).2) := Lib.hid (fun i h1 h2 => (HAP.out i h1 h2).high)
  generalize (frGo p p.arrays).1 = ls at *
  generalize (frGo p p.arrays).2 = sz at *
  obtain ⟨n, rfl⟩ : ∃ n : Nat, sz = (n : Int) := ⟨sz.toNat, by omega⟩
  obtain ⟨hRA, hRB⟩ := hI
  obtain ⟨AA, ac, rfl, hac⟩ := hRA.form
  have HRA := Lib.hid hRA
  have HIMG : Hid (frImg p = 4 + 4 * p.temps) := Lib.hid rfl
  have HS2 := Lib.hid hs2
  have hq0 : ((n : Int) % 4 != 0) = false := by rw [bne_eq_false_iff_eq]; exact hs2
  have hmk := run_make_bools n (by omega)
  unfold irVal frCells at *
  clear hall hoff hl hlen hRA hRB he hf hs2
  go_enter Try.func3, Try.ntmps3
  go_wp2_with fail
  refine (HOF.out _ (HI0.out.next (bnew _ _))).mono ?_
  rintro e w2 ⟨fv, rfl, hb, ho⟩
  obtain ⟨FA, cap, rfl⟩ := own_len ho
  have hx := (hb.block w.heap.size (by simp)).trans (heap_alloc_new w _)
  have HB := Lib.hid (bch (bnew _ _) hb)
  have hM : w.heap.size < w2.heap.size := by have := hb.size; simp at this; omega
  have hx3 := ((bnew w2 (.cells #[.int .i64 (4 + 4 * p.temps), .slice FA p.arrays.length cap, .int .i64 n] 28)).block _ hM).trans hx
  have hy3 := heap_alloc_new w2 (.cells #[.int .i64 (4 + 4 * p.temps), .slice FA p.arrays.length cap, .int .i64 n] 28)
  have ho3 := ho.alloc (.cells #[.int .i64 (4 + 4 * p.temps), .slice FA p.arrays.length cap, .int .i64 n] 28)
  have hb3 := bal HB.out (.cells #[.int .i64 (4 + 4 * p.temps), .slice FA p.arrays.length cap, .int .i64 n] 28)
  have hs3z : (w2.alloc (.cells #[.int .i64 (4 + 4 * p.temps), .slice FA p.arrays.length cap, .int .i64 n] 28)).heap.size = w2.heap.size + 1 := by simp
  have c1 : (w2.alloc (.cells #[.int .i64 (4 + 4 * p.temps), .slice FA p.arrays.length cap, .int .i64 n] 28)).cell? ⟨w.heap.size, 1, none⟩ = some (.slice AA p.arrays.length ac) := (cell_of_blk hx3 1).1
  have f1 : (w2.alloc (.cells #[.int .i64 (4 + 4 * p.temps), .slice FA p.arrays.length cap, .int .i64 n] 28)).cell? ⟨w2.heap.size, 1, none⟩ = some (.slice FA p.arrays.length cap) := (cell_of_blk hy3 1).1
  have f2 : (w2.alloc (.cells #[.int .i64 (4 + 4 * p.temps), .slice FA p.arrays.length cap, .int .i64 n] 28)).cell? ⟨w2.heap.size, 2, none⟩ = some (.int .i64 n) := (cell_of_blk hy3 2).1
  clear hx hb ho
  go_wp2_with fail
  generalize w2.alloc (.cells #[.int .i64 (4 + 4 * p.temps), .slice FA p.arrays.length cap, .int .i64 n] 28) = w3 at *
  have HX3 := Lib.hid hx3
  have HY3 := Lib.hid hy3
  have HO3 := Lib.hid ho3
  have HB3 := Lib.hid hb3
  have hw4 : Below w3.heap.size w3 (w3.alloc (.cells (boolVals (List.replicate n false)) 4)) := bnew _ _
  have hm4 : MarkAt (w3.alloc (.cells (boolVals (List.replicate n false)) 4)) w3.heap.size n (fun x => x < ((0 : Nat) : Int)) := mark_new _ _ _
  have HS3 := Lib.hid hs3z
  rw [hs3z] at hw4 hm4
  clear hx3 hy3 ho3 hb3 c1 f1 f2 hmk hq0 hs3z
  generalize w3.alloc (.cells (boolVals (List.replicate n false)) 4) = w4 at *
  have HW4 := Lib.hid hw4
  have HM4 := Lib.hid hm4
  clear hw4 hm4
  go_loopw [6] (fun t wr => ∃ k : Nat, (k : Int) ≤ p.temps + 1 ∧ t = .int .i64 ((k : Int) - 1) ∧ Below (w2.heap.size + 1) w3 wr ∧ MarkAt wr (w2.heap.size + 1) n (fun x => x < ((4 * k : Nat) : Int))) (fun t _ => (p.temps - intOf t).toNat)
  case atStart => exact ⟨0, by omega, rfl, HW4.out, HM4.out⟩
  case round =>
    obtain ⟨k, hk, rfl, hK, hMk⟩ := hrel
    have hx := (hK.block w.heap.size (by omega)).trans HX3.out
    have hy := (hK.block w2.heap.size (by omega)).trans HY3.out
    have c0 : wr.cell? ⟨w.heap.size, 0, none⟩ = some (.int .i64 p.temps) := (cell_of_blk hx 0).1
    have c1 : wr.cell? ⟨w.heap.size, 1, none⟩ = some (.slice AA p.arrays.length ac) := (cell_of_blk hx 1).1
    have f2 : wr.cell? ⟨w2.heap.size, 2, none⟩ = some (.int .i64 n) := (cell_of_blk hy 2).1
    have HK := Lib.hid hK
    have HMK := Lib.hid hMk
    clear hx hy hK hMk
    by_cases hlt : (k : Int) - 1 < p.temps
    · obtain ⟨u0, v0⟩ := mark_cell HMK.out (4 * k) (by omega) (by omega)
      obtain ⟨u1, v1⟩ := mark_cell HMK.out (4 * k + 1) (by omega) (by omega)
      obtain ⟨u2, v2⟩ := mark_cell HMK.out (4 * k + 2) (by omega) (by omega)
      obtain ⟨u3, v3⟩ := mark_cell HMK.out (4 * k + 3) (by omega) (by omega)
      have hM5 := mark_mono (mark_set (mark_set (mark_set (mark_set HMK.out (4 * k)) (4 * k + 1)) (4 * k + 2)) (4 * k + 3)) (Q := fun x => x < ((4 * (k + 1) : Nat) : Int)) (fun x hx => by omega)
      have HM5 := Lib.hid hM5
      have HB5 : Hid (Below (w2.heap.size + 1) w3 ((((wr.setCell ⟨w2.heap.size + 1, 4 * k, none⟩ (.bool true)).setCell ⟨w2.heap.size + 1, 4 * k + 1, none⟩ (.bool true)).setCell ⟨w2.heap.size + 1, 4 * k + 2, none⟩ (.bool true)).setCell ⟨w2.heap.size + 1, 4 * k + 3, none⟩ (.bool true))) := Lib.hid ((((HK.out.setCell (by simp) _).setCell (by simp) _).setCell (by simp) _).setCell (by simp) _)
      clear hM5
      have HTM : Hid (∀ W, 1 ≤ k → Calls Try.prog 21 #[.int .i64 ((k : Int) - 1)] W fun e w' => e = .returned (.int .i64 ((4 * k : Nat) : Int)) ∧ W = w') := Lib.hid (fun W h1 => by
        have h := frame_Temp ((k : Int) - 1) W
        unfold fTemp at h
        rw [if_pos (by omega), show 4 + 4 * ((k : Int) - 1) = ((4 * k : Nat) : Int) by omega] at h
        exact h)
      have hm : ((4 * k : Nat) : Int) + 4 ≤ (n : Int) := by omega
      by_cases hk0 : k = 0
      · subst hk0
        simp only [Nat.mul_zero, Nat.zero_add] at u0 v0 u1 v1 u2 v2 u3 v3 HM5 HB5 hm
        rw [show ((0 : Nat) : Int) - 1 = -1 from rfl] at hlt ⊢
        have hn4 : (4 : Int) ≤ (n : Int) := by omega
        clear hk hm HTM
        go_wp2_with fail
        go_roundw
        case rel => exact ⟨1, by omega, rfl, HB5.out, HM5.out⟩
        case measure => simp [intOf]; omega
      · have hm4 : ((4 * k : Nat) : Int) % 4 = 0 := by omega
        have q4 : (((4 * k : Nat) : Int) % 4 != 0) = false := by rw [bne_eq_false_iff_eq]; exact hm4
        have hk1 : 0 ≤ (k : Int) - 1 := by omega
        have hT1 : p.temps ≤ 20000 := by omega
        have HK0 := Lib.hid hk0
        have HKM : Hid ((4 * k : Nat) = 4 * k) := Lib.hid rfl
        clear hm4 hk0
        generalize h4k : 4 * k = m at *
        clear h4k
        generalize ht : (k : Int) - 1 = t at *
        have HT := Lib.hid ht
        clear ht
        go_wp2_with fail
        refine (HTM.out _ (by have := HK0.out; omega)).mono ?_
        rintro e w5 ⟨rfl, rfl⟩
        go_wp2_with fail
        go_roundw
        case rel => exact ⟨k + 1, by have := HT.out; omega, by rw [← HT.out]; go_num, HB5.out, HM5.out⟩
        case measure => have := HT.out; simp [intOf]; omega
    · have hm5 := mark_mono HMK.out (Q := usedP p 0) (fun x hx => Or.inl (by rw [HIMG.out]; omega))
      have HM5 := Lib.hid hm5
      clear hm5 HMK hk
      go_wp2_with fail
      clear hlt
      obtain ⟨wo, rfl⟩ : ∃ wo : World, wo = wr := ⟨_, rfl⟩
      clear c0 c1 f2
      go_loopw [8] (fun i wr => ∃ k : Nat, k ≤ p.arrays.length ∧ i = .int .i64 k ∧ Below (w2.heap.size + 1) w3 wr ∧ MarkAt wr (w2.heap.size + 1) n (usedP p k)) (fun i _ => p.arrays.length - (intOf i).toNat)
      case atStart => exact ⟨0, by omega, rfl, HK.out, HM5.out⟩
      case round =>
        obtain ⟨k, hk, rfl, hK, hMk⟩ := hrel
        have hx := (hK.block w.heap.size (by omega)).trans HX3.out
        have hy := (hK.block w2.heap.size (by omega)).trans HY3.out
        have c1 : wr.cell? ⟨w.heap.size, 1, none⟩ = some (.slice AA p.arrays.length ac) := (cell_of_blk hx 1).1
        have HX := Lib.hid hx
        have HY := Lib.hid hy
        have HKK := Lib.hid hK
        have HMK := Lib.hid hMk
        have HKK3 := Lib.hid (hK.mono (show w3.heap.size ≤ w2.heap.size + 1 by rw [HS3.out]; omega))
        clear hx hy hK hMk
        by_cases hlt : k < p.arrays.length
        · obtain ⟨b, off, rfl, hb0, x0, x1, x2, x3⟩ := arr_at (HRA.out.below (bch HB3.out HKK3.out) (Nat.le_refl _)) k hlt
          obtain ⟨n1, hn1e⟩ : ∃ n1, p.arrays.length = n1 + 1 := ⟨p.arrays.length - 1, by omega⟩
          have hown : w3.ownsRow (w.heap.size + 1) 3 1 (.slice FA p.arrays.length cap) p.arrays.length (List.map (fun x => Value.int .i64 x) ls) := by have h := HO3.out; simp only [heap_alloc_size] at h; exact h
          obtain ⟨gv, cv, hform⟩ : ∃ g c, Value.slice FA p.arrays.length cap = .slice (some ⟨g, 0, none⟩) p.arrays.length c := by
            have h := hown
            rw [hn1e] at h ⊢
            exact own_form h
          injection hform with hfa _ hcc
          subst hfa hcc
          clear hn1e
          have hgl := (hown.lt gv rfl).2
          rw [HS3.out] at hgl
          have hcl := hown.cellAt k (by omega)
          rw [List.getElem?_map, HLA.out k hlt] at hcl
          have x4 : wr.cell? ⟨gv, k, none⟩ = some (.int .i64 (layP p k)) := (HKK.out.cell (p := ⟨gv, k, none⟩) hgl).trans hcl
          have hsh := HALL.out _ (getD_memI p.arrays k arrNone hlt)
          have hofs := HOFF.out _ (getD_memI p.arrays k arrNone hlt)
          have HAPK : Hid ((p.arrays.getD k arrNone).kind ≠ 1 → 0 < bytesAt p k ∧ 0 ≤ layP p k ∧ layP p k % 4 = 0 ∧ layP p k + bytesAt p k ≤ (n : Int) ∧ (∀ x, layP p k ≤ x → x < layP p k + bytesAt p k → ¬ usedP p k x) ∧ ((p.arrays.getD k arrNone).kind = 0 → ∀ x, layP p k ≤ x → ¬ (frImg p ≤ x ∧ x < frImg p + p.out))) :=
            Lib.hid (fun h => ⟨(HAP.out k hlt h).pos, (HAP.out k hlt h).low, (HAP.out k hlt h).four, HAP2.out k hlt h, (HAP.out k hlt h).free, (HAP.out k hlt h).img⟩)
          have HUS : Hid (∀ x, usedP p k x → usedP p (k + 1) x) := Lib.hid (fun x hx => by
            rcases hx with hx | ⟨j, h1, h2⟩
            · exact .inl hx
            · exact .inr ⟨j, by omega, h2⟩)
          have HUN : Hid ((p.arrays.getD k arrNone).kind ≠ 1 → ∀ x, layP p k ≤ x → x < layP p k + bytesAt p k → usedP p (k + 1) x) := Lib.hid (fun h x h1 h2 => .inr ⟨k, by omega, h, h1, h2⟩)
          have hlay1 : (p.arrays.getD k arrNone).kind = 1 → layP p k = (p.arrays.getD k arrNone).off := fun h => by unfold layP; rw [if_pos h]
          have hlay2 : (p.arrays.getD k arrNone).kind = 2 → layP p k = 4 + 4 * p.temps + (p.arrays.getD k arrNone).off := fun h => by unfold layP; rw [if_neg (by omega), if_pos h]; rfl
          have hby : bytesAt p k = (p.arrays.getD k arrNone).elem * (p.arrays.getD k arrNone).len := rfl
          generalize p.arrays.getD k arrNone = ar at *
          obtain ⟨e, l, ak, o⟩ := ar
          simp only at x0 x1 x2 x3 hofs hsh hlay1 hlay2 hby HUN HAPK
          obtain ⟨ho1', ho2'⟩ := hofs
          have k0 : (0 : Int) ≤ (k : Int) := by omega
          have k1 : (k : Int) < (p.arrays.length : Int) := by omega
          have hUlt : w2.heap.size + 1 < wr.heap.size := by obtain ⟨_, _, h, _⟩ := HMK.out; exact lt_of_blk h
          have bx : ∀ q : Addr, q.block < wr.heap.size → (wr.alloc (.cells #[.int .i64 e, .int .i64 l, .int .i64 ak, .int .i64 o] 36)).cell? q = wr.cell? q := fun q hq => (bnew wr _).cell hq
          have y1 : (wr.alloc (.cells #[.int .i64 e, .int .i64 l, .int .i64 ak, .int .i64 o] 36)).cell? ⟨w2.heap.size, 1, none⟩ = some (.slice (some ⟨gv, 0, none⟩) p.arrays.length cap) := (bx _ (by show w2.heap.size < _; omega)).trans (cell_of_blk HY.out 1).1
          have y2 : (wr.alloc (.cells #[.int .i64 e, .int .i64 l, .int .i64 ak, .int .i64 o] 36)).cell? ⟨w2.heap.size, 2, none⟩ = some (.int .i64 n) := (bx _ (by show w2.heap.size < _; omega)).trans (cell_of_blk HY.out 2).1
          have y0 : (wr.alloc (.cells #[.int .i64 e, .int .i64 l, .int .i64 ak, .int .i64 o] 36)).cell? ⟨w2.heap.size, 0, none⟩ = some (.int .i64 (4 + 4 * p.temps)) := (bx _ (by show w2.heap.size < _; omega)).trans (cell_of_blk HY.out 0).1
          have y4 : (wr.alloc (.cells #[.int .i64 e, .int .i64 l, .int .i64 ak, .int .i64 o] 36)).cell? ⟨gv, k, none⟩ = some (.int .i64 (layP p k)) := (bx _ (by show gv < _; omega)).trans x4
          have hmA := HMK.out.alloc_ (.cells #[.int .i64 e, .int .i64 l, .int .i64 ak, .int .i64 o] 36)
          have hbA : Below (w2.heap.size + 1) w3 (wr.alloc (.cells #[.int .i64 e, .int .i64 l, .int .i64 ak, .int .i64 o] 36)) := HKK.out.alloc (by omega) _
          have HMA := Lib.hid hmA
          have HBA := Lib.hid hbA
          clear bx x4 hcl hown hgl hmA hbA
          by_cases hk1 : ak = 1
          · subst hk1
            obtain hl1 := hlay1 rfl
            rw [hl1] at y4
            clear hlay1 hlay2 hl1 hby hsh
            go_wp2_with fail
            go_roundw
            case rel => exact ⟨k + 1, by omega, by go_num, HBA.out, mark_mono HMA.out HUS.out⟩
            case measure => simp [intOf]; omega
          · have q1 : (ak == 1) = false := by rw [beq_eq_false_iff_ne]; exact hk1
            have hne : ak ≠ 1 := hk1
            obtain ⟨a1, a2, a3, a4, a5, a6⟩ := HAPK.out hne
            have hsk := hsh.2
            obtain ⟨⟨h2, h3, h4⟩, _⟩ := hsh
            simp only at h2 h3 h4
            have hN : wrap64 (e * l) = e * l ∧ 1 ≤ e * l ∧ e * l ≤ 65536 := by rcases h2 with h2 | h2 <;> rw [h2] <;> unfold wrap64 <;> omega
            have HUNK := Lib.hid (HUN.out hne)
            have a5m := a5 (layP p k) (by omega) (by omega)
            have hA6 : ak = 0 → 4 + 4 * p.temps + p.out ≤ layP p k := fun h0 => by
              have h6 := a6 h0 (layP p k) (by omega)
              have h5 : ¬ layP p k < frImg p := fun h => a5m (.inl h)
              rw [HIMG.out] at h5 h6
              omega
            have HA5 := Lib.hid a5
            rw [hby] at a1 a4 HA5 HUNK
            clear a5 a6 hby a5m HAPK HUN h2 h3 h4 hlay1
            obtain ⟨e1, hN1, hN2⟩ := hN
            generalize hgn : e * l = y at *
            have e2 : wrap64 (e * l) = y := by rw [hgn]; exact e1
            clear hgn e1
            generalize layP p k = la at *
            obtain ⟨m, rfl⟩ : ∃ m : Nat, la = (m : Int) := ⟨la.toNat, by omega⟩
            have q4 : ((m : Int) % 4 != 0) = false := by rw [bne_eq_false_iff_eq]; exact a3
            have HA3 := Lib.hid a3
            clear a3
            by_cases hk2 : ak = 2
            · subst hk2
              have hq2 : ((m : Int) != 4 + 4 * p.temps + o) = false := by rw [bne_eq_false_iff_eq]; exact hlay2 rfl
              clear hlay2 hA6 hsk
              have hAx := heap_alloc_new wr (.cells #[.int .i64 e, .int .i64 l, .int .i64 2, .int .i64 o] 36)
              go_wp2_with fail
              generalize wr.alloc (.cells #[.int .i64 e, .int .i64 l, .int .i64 2, .int .i64 o] 36) = wA at *
              obtain ⟨wq, rfl⟩ : ∃ wq : World, wq = wr := ⟨_, rfl⟩
              have HAX := Lib.hid hAx
              clear hAx x0 x1 x2 x3 y0 y1 y2 y4 c1 q4
              go_loopw [11] (fun kk wr => ∃ j : Nat, m ≤ j ∧ (j : Int) ≤ m + y ∧ kk = .int .i64 j ∧ Below (w2.heap.size + 1) w3 wr ∧ MarkAt wr (w2.heap.size + 1) n (fun x => usedP p k x ∨ ((m : Int) ≤ x ∧ x < (j : Int))) ∧ wr.heap[wq.heap.size]? = some (.cells #[.int .i64 e, .int .i64 l, .int .i64 2, .int .i64 o] 36 (0, 0))) (fun kk _ => (m + y - intOf kk).toNat)
              case atStart => exact ⟨m, by omega, by omega, rfl, HBA.out, mark_mono HMA.out (fun x hx => .inl hx), HAX.out⟩
              case round =>
                obtain ⟨j, hj1, hj2, rfl, hK, hM, hA⟩ := hrel
                have hx := (hK.block w.heap.size (by omega)).trans HX3.out
                have hy := (hK.block w2.heap.size (by omega)).trans HY3.out
                have c4 : wr.cell? ⟨w.heap.size, 4, none⟩ = some (.int .i64 p.out) := (cell_of_blk hx 4).1
                have f0 : wr.cell? ⟨w2.heap.size, 0, none⟩ = some (.int .i64 (4 + 4 * p.temps)) := (cell_of_blk hy 0).1
                have a0 := (cell_of_blk hA 0).1
                have a1' := (cell_of_blk hA 1).1
                have a2' := (cell_of_blk hA 2).1
                by_cases hlt2 : (j : Int) < m + y
                · obtain ⟨u0, v0⟩ := mark_cell hM j (by omega) (by
                    rintro (h | h)
                    · exact HA5.out j (by omega) hlt2 h
                    · omega)
                  have HM2 := Lib.hid (mark_mono (mark_set hM j) (Q := fun x => usedP p k x ∨ ((m : Int) ≤ x ∧ x < ((j + 1 : Nat) : Int))) (fun x hx => by
                    rcases hx with (hx | hx) | hx
                    · exact .inl hx
                    · exact .inr (by omega)
                    · exact .inr (by omega)))
                  have HB2 := Lib.hid (hK.setCell (p := ⟨w2.heap.size + 1, j, none⟩) (Nat.le_refl _) (.bool true))
                  have HA2 := Lib.hid ((Below.heap_setCell wr ⟨w2.heap.size + 1, j, none⟩ (.bool true) wq.heap.size (by show wq.heap.size ≠ w2.heap.size + 1; omega)).trans hA)
                  have hj0 : (0 : Int) ≤ (j : Int) := by omega
                  have hjn : (j : Int) < (n : Int) := by omega
                  clear hx hy hK hM hA
                  go_wp2_with fail
                  go_roundw
                  case rel => exact ⟨j + 1, by omega, by omega, by go_num, HB2.out, HM2.out, HA2.out⟩
                  case measure => simp [intOf]; omega
                · have HK2 := Lib.hid hK
                  have HM2 := Lib.hid (mark_mono hM (Q := usedP p (k + 1)) (fun x hx => by
                    rcases hx with hx | hx
                    · exact HUS.out x hx
                    · exact HUNK.out x (by omega) (by omega)))
                  clear hx hy hK hM hA
                  go_wp2_with fail
                  go_roundw
                  case rel => exact ⟨k + 1, by omega, by go_num, HK2.out, HM2.out⟩
                  case measure => simp [intOf]; omega
            · have q2 : (ak == 2) = false := by rw [beq_eq_false_iff_ne]; exact hk2
              obtain rfl : ak = 0 := by omega
              have hA60 := hA6 rfl
              clear hlay2 hA6 hsk
              have hAx := heap_alloc_new wr (.cells #[.int .i64 e, .int .i64 l, .int .i64 0, .int .i64 o] 36)
              go_wp2_with fail
              generalize wr.alloc (.cells #[.int .i64 e, .int .i64 l, .int .i64 0, .int .i64 o] 36) = wA at *
              obtain ⟨wq, rfl⟩ : ∃ wq : World, wq = wr := ⟨_, rfl⟩
              have HAX := Lib.hid hAx
              clear hAx x0 x1 x2 x3 y0 y1 y2 y4 c1 q4
              go_loopw [11] (fun kk wr => ∃ j : Nat, m ≤ j ∧ (j : Int) ≤ m + y ∧ kk = .int .i64 j ∧ Below (w2.heap.size + 1) w3 wr ∧ MarkAt wr (w2.heap.size + 1) n (fun x => usedP p k x ∨ ((m : Int) ≤ x ∧ x < (j : Int))) ∧ wr.heap[wq.heap.size]? = some (.cells #[.int .i64 e, .int .i64 l, .int .i64 0, .int .i64 o] 36 (0, 0))) (fun kk _ => (m + y - intOf kk).toNat)
              case atStart => exact ⟨m, by omega, by omega, rfl, HBA.out, mark_mono HMA.out (fun x hx => .inl hx), HAX.out⟩
              case round =>
                obtain ⟨j, hj1, hj2, rfl, hK, hM, hA⟩ := hrel
                have hx := (hK.block w.heap.size (by omega)).trans HX3.out
                have hy := (hK.block w2.heap.size (by omega)).trans HY3.out
                have c4 : wr.cell? ⟨w.heap.size, 4, none⟩ = some (.int .i64 p.out) := (cell_of_blk hx 4).1
                have f0 : wr.cell? ⟨w2.heap.size, 0, none⟩ = some (.int .i64 (4 + 4 * p.temps)) := (cell_of_blk hy 0).1
                have a0 := (cell_of_blk hA 0).1
                have a1' := (cell_of_blk hA 1).1
                have a2' := (cell_of_blk hA 2).1
                by_cases hlt2 : (j : Int) < m + y
                · obtain ⟨u0, v0⟩ := mark_cell hM j (by omega) (by
                    rintro (h | h)
                    · exact HA5.out j (by omega) hlt2 h
                    · omega)
                  have HM2 := Lib.hid (mark_mono (mark_set hM j) (Q := fun x => usedP p k x ∨ ((m : Int) ≤ x ∧ x < ((j + 1 : Nat) : Int))) (fun x hx => by
                    rcases hx with (hx | hx) | hx
                    · exact .inl hx
                    · exact .inr (by omega)
                    · exact .inr (by omega)))
                  have HB2 := Lib.hid (hK.setCell (p := ⟨w2.heap.size + 1, j, none⟩) (Nat.le_refl _) (.bool true))
                  have HA2 := Lib.hid ((Below.heap_setCell wr ⟨w2.heap.size + 1, j, none⟩ (.bool true) wq.heap.size (by show wq.heap.size ≠ w2.heap.size + 1; omega)).trans hA)
                  have hj0 : (0 : Int) ≤ (j : Int) := by omega
                  have hjn : (j : Int) < (n : Int) := by omega
                  have q7 : decide (4 + 4 * p.temps ≤ (j : Int)) = true := by simp; omega
                  have q8 : decide ((j : Int) < 4 + 4 * p.temps + p.out) = false := by simp; omega
                  clear hx hy hK hM hA
                  go_wp2_with fail
                  go_roundw
                  case rel => exact ⟨j + 1, by omega, by omega, by go_num, HB2.out, HM2.out, HA2.out⟩
                  case measure => simp [intOf]; omega
                · have HK2 := Lib.hid hK
                  have HM2 := Lib.hid (mark_mono hM (Q := usedP p (k + 1)) (fun x hx => by
                    rcases hx with hx | hx
                    · exact HUS.out x hx
                    · exact HUNK.out x (by omega) (by omega)))
                  clear hx hy hK hM hA
                  go_wp2_with fail
                  go_roundw
                  case rel => exact ⟨k + 1, by omega, by go_num, HK2.out, HM2.out⟩
                  case measure => simp [intOf]; omega
        · have HKE := Lib.hid (bch HB3.out HKK3.out)
          clear HMK
          go_wp2_with fail
          refine (HLV.out _).mono ?_
          rintro e w9 ⟨rfl, hb9⟩
          have HB9 := Lib.hid (bch HKE.out hb9)
          clear hb9
          go_wp2_with fail
          go_ret
          exact ⟨rfl, HB9.out⟩
set_option maxHeartbeats 8000000 in
theorem walk (p : Ir) (av bv : Value) (v0 : Value) (hv : v0 = irVal p av bv) (hf : p.fine) (w : World) (hI : IrRep w w.heap.size p av bv) :
    Calls Try.prog 3 #[v0] w fun e w' => e = .returned (.bool true) ∧ Below w.heap.size w w' := by
  subst hv
  by_cases he : frErr p = 0
  · exact good p av bv hf w hI he
  · exact bad p av bv hf w hI he

theorem own : ownKnob Try.prog.godebug = none := by kernel_rfl
set_option maxRecDepth 100000 in
theorem lifted (os : Os) (started : os.Started) (H : Type) (enc : TypeId × Value → H) :
    ReturnsInHanded {} Try.checked os 3 .any (Rows.frameApartSpec.pre6 enc Try.prog Try.f3 Rows.frameApartRow.domain false) (Rows.frameApartSpec.post enc Try.prog Try.f3 false true false false) := by
  refine returnsInHanded_of_change_sized (C := Try.checked) own started (by kernel_rfl) Try.func3
    (ChangeSpec.witness6 (enc := enc) (C := Try.checked) false ⟨#[], #[.agg #[.int .i64 0, .slice none 0 0, .slice none 0 0, .int .i64 0, .int .i64 0]], []⟩ 8 (by kernel_rfl) (by kernel_rfl) (by kernel_rfl) (by kernel_rfl)) ?_
  intro W base args ds gs before hval0 hW hcnd hsz _
  have hval : ∀ (j : Nat) t v, Try.f3.params[j]? = some t → args[j]? = some v → Value.okWide Try.prog W .any base t v := hval0
  have hW' := hW
  obtain ⟨p, q, hA0, hV, rfl, hfz, hnd⟩ := hW
  have hA : DataW.TrodAll enc Try.prog W 0 (fun _ => true) true Try.f3.params.toList args.toList ds p := hA0
  rw [Try.params3] at hA hval
  obtain ⟨v0, vs0, d0, ds0, p0, q0, hargs, rfl, rfl, h0, r0⟩ := trodAll_cons hA
  obtain ⟨rfl, rfl, rfl⟩ := trodAll_nil r0
  obtain rfl : args = #[v0] := by cases args; simp_all
  obtain ⟨rfl, rfl⟩ := trodVars_none hV
  clear hA0 hval0
  obtain ⟨p, av, bv, hv, hI, hf⟩ := open_ir (hval 0 25 v0 rfl rfl) h0 (fun x hx => by simpa using hW'.lt x (by simp [hx])) (weights_of hsz 0 rfl rfl)
  refine (walk p av bv v0 hv hf W hI).mono fun e W' ⟨he, hg⟩ => ?_
  subst he
  exact ⟨_, rfl, law_post (by kernel_rfl) (by kernel_rfl) rfl (by kernel_rfl) Try.underlying4 rfl hW' hg⟩

theorem proved : Rows.FrameApartSaid :=
  OpenClaim.holds_of_wide 3 Try.f3 rfl rfl rfl rfl rfl rfl rfl ⟨rfl, rfl, rfl, rfl, rfl⟩ rfl rfl rfl rfl rfl (by kernel_rfl) Try.func3 (by kernel_rfl)
    (of_decide_eq_true (by kernel_rfl)) (by unfold Func.isWrapper; first | (rw [if_pos (by decide +kernel)]; kernel_rfl) | (rw [if_neg (by decide +kernel)]; exact ⟨rfl, rfl⟩))
    (fun os started H enc _ => lifted os started H enc)
#print axioms proved
end Go.Proofs.Ytiaimceefkdchaa.frameApart
