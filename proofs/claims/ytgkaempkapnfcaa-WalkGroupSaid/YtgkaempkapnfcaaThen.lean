/- Contracts of walk.Then and walk.Back: of walks in whole numbers. No condition. -/
import Derived.Test.YtgkaempkapnfcaaWalkOf
import Derived.Deep.RegionHeld3
namespace Go.Proofs.Ytgkaempkapnfcaa
open Go.RowKit

/-- A walk that may be. -/
def Wk.may (a : Wk) : Prop := -1099511627776 ≤ a.re ∧ a.re ≤ 1099511627776 ∧ -1099511627776 ≤ a.im ∧ a.im ≤ 1099511627776 ∧ a.t < 4
/-- One walk behind another one. -/
def Wk.then (a b : Wk) : Wk := ⟨a.re + (cosI a.t * b.re - sinI a.t * b.im), a.im + (cosI a.t * b.im + sinI a.t * b.re), (a.t + b.t) % 4⟩
theorem mayB_yes {a : Wk} (h : a.may) : mayB a.re a.im (a.t : Int) = true := by
  obtain ⟨h1, h2, h3, h4, h5⟩ := h
  unfold mayB; simp; omega
theorem rot_bound (k : Nat) (x y M : Int) (hx : -M ≤ x ∧ x ≤ M) (hy : -M ≤ y ∧ y ≤ M) (hM : 0 ≤ M) : (cosI k * x).natAbs ≤ M.natAbs ∧ (sinI k * y).natAbs ≤ M.natAbs ∧ (cosI k * x - sinI k * y).natAbs ≤ M.natAbs ∧ (cosI k * y + sinI k * x).natAbs ≤ M.natAbs ∧ (cosI k * y).natAbs ≤ M.natAbs ∧ (sinI k * x).natAbs ≤ M.natAbs := by
  have h := cos_sin k
  unfold cosI sinI
  split <;> simp <;> omega
theorem heap_two (w : World) (x y z : Obj) : ((w.alloc x).alloc y |>.alloc z).heap.size = w.heap.size + 1 + 1 + 1 ∧ Below w.heap.size w ((w.alloc x).alloc y |>.alloc z) ∧ ((w.alloc x).alloc y |>.alloc z).heap[w.heap.size]? = some x ∧
    ((w.alloc x).alloc y |>.alloc z).heap[w.heap.size + 1]? = some y ∧ ((w.alloc x).alloc y |>.alloc z).heap[w.heap.size + 1 + 1]? = some z := by
  refine ⟨by simp, (((Below.refl _ _).alloc (Nat.le_refl _) _).alloc (by simp) _).alloc (by simp; omega) _, ?_, ?_, ?_⟩
  · rw [Below.heap_alloc _ _ _ (by simp; omega), Below.heap_alloc _ _ _ (by simp)]; exact heap_alloc_new w _
  · rw [Below.heap_alloc _ _ _ (by simp)]; have := heap_alloc_new (w.alloc x) y; simpa using this
  · have := heap_alloc_new ((w.alloc x).alloc y) z; simpa using this
theorem heap_twob (w : World) (x y : Obj) : ((w.alloc x).alloc y).heap.size = w.heap.size + 1 + 1 ∧ Below w.heap.size w ((w.alloc x).alloc y) ∧ ((w.alloc x).alloc y).heap[w.heap.size]? = some x ∧ ((w.alloc x).alloc y).heap[w.heap.size + 1]? = some y := by
  refine ⟨by simp, ((Below.refl _ _).alloc (Nat.le_refl _) _).alloc (by simp) _, ?_, ?_⟩
  · rw [Below.heap_alloc _ _ _ (by simp)]; exact heap_alloc_new w _
  · have := heap_alloc_new (w.alloc x) y; simpa using this
theorem walk_Then_yes (a b : Wk) (ha : a.may) (hb : b.may) (w : World) :
    Calls Try.prog 60 #[wkVal a, wkVal b] w fun e w' => e = .returned (wkVal (a.then b)) ∧ Below w.heap.size w w' := by
  obtain ⟨a1, a2, ak⟩ := a
  obtain ⟨b1, b2, bk⟩ := b
  have hma := mayB_yes ha
  have hmb := mayB_yes hb
  obtain ⟨ha1, ha2, ha3, ha4, ha5⟩ := ha
  obtain ⟨hb1, hb2, hb3, hb4, hb5⟩ := hb
  simp only at hma hmb ha1 ha2 ha3 ha4 ha5 hb1 hb2 hb3 hb4 hb5
  have hr := rot_bound ak b1 b2 1099511627776 ⟨by omega, by omega⟩ ⟨by omega, by omega⟩ (by decide)
  have e0 : (1099511627776 : Int).natAbs = 1099511627776 := rfl
  rw [e0] at hr
  obtain ⟨r1, i1, g1, f1, f2⟩ := cmul_run (isF_uRe ak ha5) (isF_uIm ak ha5) (IsF.ofInt (n := b1) (by unfold big; omega)) (IsF.ofInt (n := b2) (by unfold big; omega)) (by unfold big; omega) (by unfold big; omega) (by unfold big; omega) (by unfold big; omega) (by unfold big; omega) (by unfold big; omega)
  obtain ⟨r2, i2, g2, f3, f4⟩ := csum_run (IsF.ofInt (n := a1) (by unfold big; omega)) (IsF.ofInt (n := a2) (by unfold big; omega)) f1 f2 (by unfold big; omega) (by unfold big; omega)
  obtain ⟨r3, i3, g3, f5, f6⟩ := turn_run ha5 (isF_uRe ak ha5) (isF_uIm ak ha5) bk hb5
  have hn1 : (a1 + (cosI ak * b1 - sinI ak * b2)).natAbs < big := by unfold big; omega
  have hn2 : (a2 + (cosI ak * b2 + sinI ak * b1)).natAbs < big := by unfold big; omega
  have hk : (ak + bk) % 4 < 4 := by omega
  have HA := Lib.hid (fun W => walk_at r2 i2 r3 i3 _ _ _ hk f3 f4 f5 f6 hn1 hn2 W)
  clear hr e0 f1 f2 f3 f4 f5 f6 hn1 hn2 hk
  unfold wkVal Wk.then
  simp only
  go_enter Try.func60, Try.ntmps60
  go_wp2_with fail
  have hv0 := heap_two w (Obj.cells #[Value.int IntKind.i64 a1, Value.int IntKind.i64 a2, Value.int IntKind.i64 (ak : Int)] 30) (Obj.cells #[Value.int IntKind.i64 b1, Value.int IntKind.i64 b2, Value.int IntKind.i64 (bk : Int)] 30) (Obj.cells #[Value.int IntKind.i64 0, Value.int IntKind.i64 0, Value.int IntKind.i64 0] 30)
  generalize ((w.alloc (Obj.cells #[Value.int IntKind.i64 a1, Value.int IntKind.i64 a2, Value.int IntKind.i64 (ak : Int)] 30)).alloc (Obj.cells #[Value.int IntKind.i64 b1, Value.int IntKind.i64 b2, Value.int IntKind.i64 (bk : Int)] 30)).alloc (Obj.cells #[Value.int IntKind.i64 0, Value.int IntKind.i64 0, Value.int IntKind.i64 0] 30) = W1 at *
  obtain ⟨hz, hbw, hx0, hx1, hx2⟩ := hv0
  have HX := Lib.hid (⟨hbw, hz⟩ : Below w.heap.size w W1 ∧ W1.heap.size = w.heap.size + 1 + 1 + 1)
  have HX0 := Lib.hid hx0
  have HX1 := Lib.hid hx1
  have HX2 := Lib.hid hx2
  have hlt0 : w.heap.size < W1.heap.size := by omega
  have hlt1 : w.heap.size + 1 < W1.heap.size := by omega
  have hlt2 : w.heap.size + 1 + 1 < W1.heap.size := by omega
  clear hz hbw hx0 hx1 hx2
  refine (walk_may _ _ _ _).mono ?_
  rintro e w2 ⟨rfl, hb2⟩
  rw [hma]
  have y1 := (hb2.block _ hlt1).trans HX1.out
  have c0 := (cell_of_blk y1 0).1
  have c1 := (cell_of_blk y1 1).1
  have c2 := (cell_of_blk y1 2).1
  simp only [List.getElem?_toArray, List.getElem?_cons_zero, List.getElem?_cons_succ] at c0 c1 c2
  have HB2 := Lib.hid hb2
  clear y1 hb2
  go_wp2_with fail
  refine (walk_may _ _ _ _).mono ?_
  rintro e w3 ⟨rfl, hb3⟩
  rw [hmb]
  have HB3 := Lib.hid (bch HB2.out hb3)
  have y0 := (HB3.out.block _ hlt0).trans HX0.out
  have y1 := (HB3.out.block _ hlt1).trans HX1.out
  have d0 := (cell_of_blk y0 0).1
  have d1 := (cell_of_blk y0 1).1
  have d2 := (cell_of_blk y0 2).1
  have e0 := (cell_of_blk y1 0).1
  have e1 := (cell_of_blk y1 1).1
  have e2 := (cell_of_blk y1 2).1
  simp only [List.getElem?_toArray, List.getElem?_cons_zero, List.getElem?_cons_succ] at d0 d1 d2 e0 e1 e2
  clear y0 y1 hb3 c0 c1 c2 HB2
  go_wp2_with (go_at_call 70; refine (walk_unit ak ha5 _).mono ?_; rintro e w' ⟨rfl, rfl⟩)
  have keep : ∀ a b : World, Below W1.heap.size W1 a → Below a.heap.size a b → Below W1.heap.size W1 b := fun a b h k => bch h k
  have KEEP := Lib.hid keep
  clear keep
  have hs : ∀ w', Below (w.heap.size + 1 + 1) W1 w' → (w'.cell? ⟨w.heap.size, 0, none⟩ = some (.int .i64 a1) ∧ w'.cell? ⟨w.heap.size, 1, none⟩ = some (.int .i64 a2) ∧ w'.cell? ⟨w.heap.size, 2, none⟩ = some (.int .i64 (ak : Int)) ∧ w'.cell? ⟨w.heap.size + 1, 0, none⟩ = some (.int .i64 b1) ∧ w'.cell? ⟨w.heap.size + 1, 1, none⟩ = some (.int .i64 b2) ∧ w'.cell? ⟨w.heap.size + 1, 2, none⟩ = some (.int .i64 (bk : Int)) ∧ Below (w.heap.size + 1 + 1) W1 w') := by
    intro w' hb
    have y0 := (hb.block _ (by omega)).trans HX0.out
    have y1 := (hb.block _ (by omega)).trans HX1.out
    exact ⟨(cell_of_blk y0 0).1, (cell_of_blk y0 1).1, (cell_of_blk y0 2).1, (cell_of_blk y1 0).1, (cell_of_blk y1 1).1, (cell_of_blk y1 2).1, hb⟩
  have HS := Lib.hid hs
  clear hs
  have hW3 := HB3.out
  go_region_held3 (fun w' => w'.cell? ⟨w.heap.size, 0, none⟩ = some (.int .i64 a1) ∧ w'.cell? ⟨w.heap.size, 1, none⟩ = some (.int .i64 a2) ∧ w'.cell? ⟨w.heap.size, 2, none⟩ = some (.int .i64 (ak : Int)) ∧ w'.cell? ⟨w.heap.size + 1, 0, none⟩ = some (.int .i64 b1) ∧ w'.cell? ⟨w.heap.size + 1, 1, none⟩ = some (.int .i64 b2) ∧ w'.cell? ⟨w.heap.size + 1, 2, none⟩ = some (.int .i64 (bk : Int)) ∧ Below (w.heap.size + 1 + 1) W1 w')
    (first | exact HS.out _ (by first | exact Below.mono hW3 (by omega) | exact Below.mono (Below.drew hW3) (by omega) | exact Below.mono (by assumption : Below W1.heap.size W1 _) (by omega) | exact Below.setCell (p := ⟨w.heap.size + 1 + 1, 2, none⟩) (Below.setCell (p := ⟨w.heap.size + 1 + 1, 1, none⟩) (Below.setCell (p := ⟨w.heap.size + 1 + 1, 0, none⟩) (Below.mono HB6 (by show w.heap.size + 1 + 1 ≤ _; omega)) (Nat.le_refl _) _) (Nat.le_refl _) _) (Nat.le_refl _) _))
    (first | (go_at_call 74; refine (walk_place _ _ _ _).mono ?_; rintro e w4 ⟨rfl, hb4⟩; have HB4 := KEEP.out _ _ (by first | assumption | exact Below.drew (by assumption)) hb4) | (go_at_call 70; refine (walk_unit bk hb5 _).mono ?_; rintro e w5 ⟨rfl, rfl⟩) | (go_at_call 71; refine (HA.out _).mono ?_; rintro e w6 ⟨rfl, hb6⟩; have HB6 := KEEP.out _ _ (by first | assumption | exact Below.drew (by assumption)) hb6; have z2 := (HB6.block _ hlt2).trans HX2.out; have q0 := (cell_of_blk z2 0).1; have q1 := (cell_of_blk z2 1).1; have q2 := (cell_of_blk z2 2).1; have t0 := (cell_of_blk z2 0).2; have t1 := (cell_of_blk z2 1).2; have t2 := (cell_of_blk z2 2).2; have Z2 := Lib.hid z2; clear z2; simp only [List.getElem?_toArray, List.getElem?_cons_zero, List.getElem?_cons_succ] at q0 q1 q2))
  go_wp2
  have hk2 : (((ak : Int) + (bk : Int)) % 4) = (((ak + bk) % 4 : Nat) : Int) := by omega
  rw [hk2]
  generalize a1 + (cosI ak * b1 - sinI ak * b2) = x1 at *
  generalize a2 + (cosI ak * b2 + sinI ak * b1) = x2 at *
  generalize (ak + bk) % 4 = x3 at *
  have hfin : Below w.heap.size w (((w6.setCell ⟨w.heap.size + 1 + 1, 0, none⟩ (.int .i64 x1)).setCell ⟨w.heap.size + 1 + 1, 1, none⟩ (.int .i64 x2)).setCell ⟨w.heap.size + 1 + 1, 2, none⟩ (.int .i64 (x3 : Int))) :=
    (((bch HX.out.1 HB6).setCell (by simp; omega) _).setCell (by simp; omega) _).setCell (by simp; omega) _
  have hblk := blk_set (blk_set (blk_set Z2.out 0 (.int .i64 x1)) 1 (.int .i64 x2)) 2 (.int .i64 (x3 : Int))
  generalize ((w6.setCell ⟨w.heap.size + 1 + 1, 0, none⟩ (.int .i64 x1)).setCell ⟨w.heap.size + 1 + 1, 1, none⟩ (.int .i64 x2)).setCell ⟨w.heap.size + 1 + 1, 2, none⟩ (.int .i64 (x3 : Int)) = W3 at *
  have r0 : W3.cell? ⟨w.heap.size + 1 + 1, 0, none⟩ = some (.int .i64 x1) := (cell_of_blk hblk 0).1
  have r1 : W3.cell? ⟨w.heap.size + 1 + 1, 1, none⟩ = some (.int .i64 x2) := (cell_of_blk hblk 1).1
  have r2 : W3.cell? ⟨w.heap.size + 1 + 1, 2, none⟩ = some (.int .i64 (x3 : Int)) := (cell_of_blk hblk 2).1
  exact bodyPost_ret (v := .agg #[.int .i64 x1, .int .i64 x2, .int .i64 (x3 : Int)]) (by simp [results, Try.results60, go_sem, r0, r1, r2]) rfl ⟨rfl, hfin⟩
end Go.Proofs.Ytgkaempkapnfcaa
