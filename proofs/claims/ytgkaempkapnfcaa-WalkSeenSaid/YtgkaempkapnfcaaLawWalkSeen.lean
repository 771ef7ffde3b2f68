/- The Go function WalkSeen returns true on every input and leaves its arguments as they were. No condition. -/
import Derived.Test.YtgkaempkapnfcaaRows
import Derived.WalkKit
import Derived.ProofKit
import Derived.OpenShut
import Derived.Test.YtgkaempkapnfcaaLawKit
import Derived.SizedLaws
import Derived.Test.YtgkaempkapnfcaaEvOpen
import Derived.Test.YtgkaempkapnfcaaLives36
import Derived.Test.YtgkaempkapnfcaaFirst
import Derived.Test.YtgkaempkapnfcaaJoinM
import Derived.Test.YtgkaempkapnfcaaBack
import Derived.Test.YtgkaempkapnfcaaInv
namespace Go.Proofs.Ytgkaempkapnfcaa.walkSeen
open Go.ChangeShapes Go.WideShapes Go.ChangeAt Go.RowKit
set_option linter.unusedVariables false

theorem great (A : Option Addr) (c : Nat) (xs : List Ev) (B : Option Addr) (d : Nat) (ys : List Ev) (hg : 100000 < xs.length ∨ 100000 < ys.length) (w : World) :
    Calls Try.prog 12 #[.slice A xs.length c, .slice B ys.length d] w fun e w' => e = .returned (.bool true) ∧ Below w.heap.size w w' := by
  by_cases h1 : 100000 < xs.length
  · have q1 : (100000 : Int) < (xs.length : Int) := by omega
    clear h1 hg
    go_enter Try.func12, Try.ntmps12
    go_wp2_with (go_at_call 52; refine (law36_lives _).mono ?_; rintro e w1 ⟨rfl, hb1⟩)
    go_ret
    exact ⟨rfl, hb1⟩
  · have q1 : (xs.length : Int) ≤ 100000 := by omega
    have q2 : (100000 : Int) < (ys.length : Int) := by omega
    clear h1 hg
    go_enter Try.func12, Try.ntmps12
    go_wp2_with (go_at_call 52; refine (law36_lives _).mono ?_; rintro e w1 ⟨rfl, hb1⟩)
    go_ret
    exact ⟨rfl, hb1⟩
theorem then_cancel (a c d : Wk) (ha : a.t < 4) (hc : c.t < 4) (hd : d.t < 4) (h : a.then c = a.then d) : c = d := by
  have hb : a.back.t < 4 := by unfold Wk.back; simp only; omega
  have h1 : a.back.then (a.then c) = a.back.then (a.then d) := by rw [h]
  rw [← then_assoc _ _ _ hb ha hc, ← then_assoc _ _ _ hb ha hd, back_then a ha, none_then c hc, none_then d hd] at h1
  exact h1
theorem bcell {W w1 : World} (hb : Below W.heap.size W w1) : (∀ b o, b < W.heap.size → w1.cell? ⟨b, o, none⟩ = W.cell? ⟨b, o, none⟩) ∧ (∀ b o, b < W.heap.size → w1.frozen? ⟨b, o, none⟩ = W.frozen? ⟨b, o, none⟩) :=
  ⟨fun b o h => hb.cell (p := ⟨b, o, none⟩) h, fun b o h => hb.frozen (p := ⟨b, o, none⟩) h⟩
theorem eql_w (a1 a2 a3 b1 b2 b3 : Int) (h : ¬ (a1 = b1 ∧ a2 = b2 ∧ a3 = b3)) (W : World) : (binOp .eql 30 (.agg #[.int .i64 a1, .int .i64 a2, .int .i64 a3]) (.agg #[.int .i64 b1, .int .i64 b2, .int .i64 b3])).run Try.prog W = .ok (.bool false) W := by
  have e : (a1 == b1 && (a2 == b2 && a3 == b3)) = false := by
    rw [Bool.eq_false_iff]
    simp only [ne_eq, Bool.and_eq_true, beq_iff_eq]
    exact h
  simp [go_sem]
  simpa using e
theorem wkVal_inj {a b : Wk} {x y z x' y' z' : Int} (h : wkVal a = .agg #[.int .i64 x, .int .i64 y, .int .i64 z]) (h' : wkVal b = .agg #[.int .i64 x', .int .i64 y', .int .i64 z']) : a = b ↔ x = x' ∧ y = y' ∧ z = z' := by
  obtain ⟨r, i, t⟩ := a
  obtain ⟨r', i', t'⟩ := b
  unfold wkVal at h h'
  simp only [Value.agg.injEq, Array.mk.injEq, List.cons.injEq, Value.int.injEq, true_and, and_true] at h h'
  obtain ⟨rfl, rfl, rfl⟩ := h
  obtain ⟨rfl, rfl, rfl⟩ := h'
  simp only [Wk.mk.injEq]
  omega
/-- What the calls of the law's last statements tell. -/
def SeenTells (xs ys : List Ev) (n : Nat) (xr xi xt yr yi yt pr pi pt cr ci ct dr di dt : Int) : Prop :=
  (wkVal (wkOf xs) = .agg #[.int .i64 xr, .int .i64 xi, .int .i64 xt] ∧ wkVal (wkOf ys) = .agg #[.int .i64 yr, .int .i64 yi, .int .i64 yt] ∧ wkVal (wkOf (xs.take n)) = .agg #[.int .i64 pr, .int .i64 pi, .int .i64 pt] ∧ wkVal (wkOf (xs.drop n)) = .agg #[.int .i64 cr, .int .i64 ci, .int .i64 ct] ∧ wkVal (wkOf (ys.drop n)) = .agg #[.int .i64 dr, .int .i64 di, .int .i64 dt]) ∧
  (∀ W, Calls Try.prog 60 #[.agg #[.int .i64 pr, .int .i64 pi, .int .i64 pt], .agg #[.int .i64 cr, .int .i64 ci, .int .i64 ct]] W fun e W' => e = .returned (.agg #[.int .i64 xr, .int .i64 xi, .int .i64 xt]) ∧ Below W.heap.size W W') ∧ (∀ W, Calls Try.prog 60 #[.agg #[.int .i64 pr, .int .i64 pi, .int .i64 pt], .agg #[.int .i64 dr, .int .i64 di, .int .i64 dt]] W fun e W' => e = .returned (.agg #[.int .i64 yr, .int .i64 yi, .int .i64 yt]) ∧ Below W.heap.size W W') ∧ ((xr = yr ∧ xi = yi ∧ xt = yt) ↔ (cr = dr ∧ ci = di ∧ ct = dt))
theorem seen_tell (xs ys : List Ev) (hx : xs.length ≤ 100000) (hy : ys.length ≤ 100000) (n : Nat) (hn : xs.take n = ys.take n) : ∃ xr xi xt yr yi yt pr pi pt cr ci ct dr di dt, SeenTells xs ys n xr xi xt yr yi yt pr pi pt cr ci ct dr di dt := by
  have mp := wkOf_may (xs.take n) (by rw [List.length_take]; omega)
  have mc := wkOf_may (xs.drop n) (by rw [List.length_drop]; omega)
  have md := wkOf_may (ys.drop n) (by rw [List.length_drop]; omega)
  have ex : wkOf xs = (wkOf (xs.take n)).then (wkOf (xs.drop n)) := by rw [← wkOf_append, List.take_append_drop]
  have ey : wkOf ys = (wkOf (xs.take n)).then (wkOf (ys.drop n)) := by rw [hn, ← wkOf_append, List.take_append_drop]
  have t1 := fun W => walk_Then_yes (wkOf (xs.take n)) (wkOf (xs.drop n)) mp mc W
  have t2 := fun W => walk_Then_yes (wkOf (xs.take n)) (wkOf (ys.drop n)) mp md W
  rw [← ex] at t1
  rw [← ey] at t2
  have hiff : wkOf xs = wkOf ys ↔ wkOf (xs.drop n) = wkOf (ys.drop n) := by
    constructor
    · intro h
      rw [ex, ey] at h
      exact then_cancel _ _ _ mp.2.2.2.2 mc.2.2.2.2 md.2.2.2.2 h
    · intro h; rw [ex, ey, h]
  have i1 := wkVal_inj (a := wkOf xs) (b := wkOf ys) rfl rfl
  have i2 := wkVal_inj (a := wkOf (xs.drop n)) (b := wkOf (ys.drop n)) rfl rfl
  rw [i1, i2] at hiff
  exact ⟨_, _, _, _, _, _, _, _, _, _, _, _, _, _, _, ⟨rfl, rfl, rfl, rfl, rfl⟩, t1, t2, hiff⟩
set_option maxHeartbeats 4000000 in
theorem small (A : Option Addr) (c : Nat) (xs : List Ev) (B : Option Addr) (d : Nat) (ys : List Ev) (hx : xs.length ≤ 100000) (hy : ys.length ≤ 100000) (hc : xs.length ≤ c) (hd : ys.length ≤ d) (w : World) (hA : EvSl w w.heap.size A xs) (hB : EvSl w w.heap.size B ys) :
    Calls Try.prog 12 #[.slice A xs.length c, .slice B ys.length d] w fun e w' => e = .returned (.bool true) ∧ Below w.heap.size w w' := by
  have q1 : (xs.length : Int) ≤ 100000 := by omega
  have q2 : (ys.length : Int) ≤ 100000 := by omega
  have HA := Lib.hid hA
  have HBB := Lib.hid hB
  clear hA hB
  go_enter Try.func12, Try.ntmps12
  go_wp2_with fail
  refine (leak_First A B c d xs ys _ HA.out HBB.out hx hy).mono ?_
  rintro e w0 ⟨r, hr, rfl, m, rfl⟩
  have HA0 : Hid (EvSl (w.drewN m) (w.drewN m).heap.size A xs) := HA
  have HBB0 : Hid (EvSl (w.drewN m) (w.drewN m).heap.size B ys) := HBB
  have HB0 : Hid (Below w.heap.size w (w.drewN m)) := Lib.hid ⟨rfl, rfl, rfl, Nat.le_refl _, fun _ _ => rfl⟩
  clear HA HBB
  generalize w.drewN m = w0 at *
  have hr2 : ∃ n : Nat, xs.take n = ys.take n ∧ (r = -1 ∧ xs = ys ∨ r = (n : Int) ∧ n ≤ xs.length ∧ n ≤ ys.length) := by
    rcases hr with ⟨h1, h2⟩ | ⟨n, h1, h2, h3, h4⟩
    · exact ⟨0, rfl, Or.inl ⟨h1, h2⟩⟩
    · exact ⟨n, h4, Or.inr ⟨h1, h2, h3⟩⟩
  obtain ⟨n, hn, hcase⟩ := hr2
  obtain ⟨xr, xi, xt, yr, yi, yt, pr, pi, pt, cr, ci, ct, dr, di, dt, ⟨ex, ey, ep, ec, ed⟩, t1, t2, hiff⟩ := seen_tell xs ys hx hy n hn
  have EX := Lib.hid ex
  have EY := Lib.hid ey
  have EP := Lib.hid ep
  have EC := Lib.hid ec
  have ED := Lib.hid ed
  have T1 := Lib.hid t1
  have T2 := Lib.hid t2
  have HI := Lib.hid hiff
  have HCASE := Lib.hid hcase
  clear ex ey ep ec ed t1 t2 hiff hr hn hcase
  go_wp2_with fail
  refine (walk_Of A c xs _ HA0.out (by omega)).mono ?_
  rintro e w1 ⟨rfl, hb1⟩
  rw [EX.out]
  have HB1 := Lib.hid (HB0.out.trans (hb1.mono HB0.out.size))
  have HA1 := Lib.hid ((HA0.out.below hb1 (Nat.le_refl _)).more hb1.size)
  have HBB1 := Lib.hid ((HBB0.out.below hb1 (Nat.le_refl _)).more hb1.size)
  clear hb1
  go_wp2_with fail
  refine (walk_Of B d ys _ HBB1.out (by omega)).mono ?_
  rintro e w2 ⟨rfl, hb2⟩
  rw [EY.out]
  have HB2 := Lib.hid (bch HB1.out hb2)
  have HA2 := Lib.hid ((HA1.out.below hb2 (Nat.le_refl _)).more hb2.size)
  have HBB2 := Lib.hid ((HBB1.out.below hb2 (Nat.le_refl _)).more hb2.size)
  clear hb2
  go_upto_region 5 with (fail)
  obtain ⟨hs3, hb3, hx3, hy3⟩ := heap_twob w2 (.cells #[.int .i64 xr, .int .i64 xi, .int .i64 xt] 30) (.cells #[.int .i64 yr, .int .i64 yi, .int .i64 yt] 30)
  generalize (w2.alloc (.cells #[.int .i64 xr, .int .i64 xi, .int .i64 xt] 30)).alloc (.cells #[.int .i64 yr, .int .i64 yi, .int .i64 yt] 30) = W3 at *
  have HA3 := Lib.hid ((HA2.out.below hb3 (Nat.le_refl _)).more hb3.size)
  have HBB3 := Lib.hid ((HBB2.out.below hb3 (Nat.le_refl _)).more hb3.size)
  have HB3 := Lib.hid (bch HB2.out hb3)
  have HX3 := Lib.hid hx3
  have HY3 := Lib.hid hy3
  have xc := cell_of_blk hx3
  have yc := cell_of_blk hy3
  have x0 : W3.cell? ⟨w2.heap.size, 0, none⟩ = some (.int .i64 xr) := (xc 0).1
  have x1 : W3.cell? ⟨w2.heap.size, 1, none⟩ = some (.int .i64 xi) := (xc 1).1
  have x2 : W3.cell? ⟨w2.heap.size, 2, none⟩ = some (.int .i64 xt) := (xc 2).1
  have y0 : W3.cell? ⟨w2.heap.size + 1, 0, none⟩ = some (.int .i64 yr) := (yc 0).1
  have y1 : W3.cell? ⟨w2.heap.size + 1, 1, none⟩ = some (.int .i64 yi) := (yc 1).1
  have y2 : W3.cell? ⟨w2.heap.size + 1, 2, none⟩ = some (.int .i64 yt) := (yc 2).1
  clear hs3 hb3 hx3 hy3 xc yc
  rcases HCASE.out with ⟨hr, hxy⟩ | ⟨hr, hnx, hny⟩
  · subst hr
    have hxe : wkVal (wkOf xs) = wkVal (wkOf ys) := by rw [hxy]
    rw [EX.out, EY.out] at hxe
    simp only [Value.agg.injEq, Array.mk.injEq, List.cons.injEq, Value.int.injEq, true_and, and_true] at hxe
    obtain ⟨rfl, rfl, rfl⟩ := hxe
    clear hxy
    go_wp2_with (go_at_call 52; refine (law36_lives _).mono ?_; rintro e w9 ⟨rfl, hb9⟩)
    go_ret
    exact ⟨rfl, bch HB3.out hb9⟩
  · subst hr
    have i1 : (n : Int) ≤ (xs.length : Int) := by omega
    have i2 : (n : Int) ≤ (ys.length : Int) := by omega
    have i0 : (0 : Int) ≤ (n : Int) := by omega
    have i3 : (n : Int) ≤ (c : Int) := by omega
    have i4 : (n : Int) ≤ (d : Int) := by omega
    go_wp2_with fail
    refine (walk_Of_at A c n (xs.take n) (by rw [List.length_take]; omega) _ (evSl_take HA3.out n) (by rw [List.length_take]; omega)).mono ?_
    rintro e w5 ⟨rfl, hb5⟩
    rw [EP.out]
    have HB5 := Lib.hid (bch HB3.out hb5)
    have HA5 := Lib.hid ((HA3.out.below hb5 (Nat.le_refl _)).more hb5.size)
    have HBB5 := Lib.hid ((HBB3.out.below hb5 (Nat.le_refl _)).more hb5.size)
    have HX5 := Lib.hid ((hb5.block _ (lt_of_blk HX3.out)).trans HX3.out)
    have HY5 := Lib.hid ((hb5.block _ (lt_of_blk HY3.out)).trans HY3.out)
    clear hb5 x0 x1 x2 y0 y1 y2
    go_upto_region 10 with (fail)
    have hp6 := heap_alloc_new w5 (.cells #[.int .i64 pr, .int .i64 pi, .int .i64 pt] 30)
    have hx6 := (Below.heap_alloc w5 (.cells #[.int .i64 pr, .int .i64 pi, .int .i64 pt] 30) _ (lt_of_blk HX5.out)).trans HX5.out
    have hy6 := (Below.heap_alloc w5 (.cells #[.int .i64 pr, .int .i64 pi, .int .i64 pt] 30) _ (lt_of_blk HY5.out)).trans HY5.out
    have hn6 : Below w5.heap.size w5 (w5.alloc (.cells #[.int .i64 pr, .int .i64 pi, .int .i64 pt] 30)) := (Below.refl _ _).alloc (Nat.le_refl _) _
    generalize w5.alloc (.cells #[.int .i64 pr, .int .i64 pi, .int .i64 pt] 30) = W6 at *
    have HP6 := Lib.hid hp6
    have HX6 := Lib.hid hx6
    have HY6 := Lib.hid hy6
    have HB6 := Lib.hid (bch HB5.out hn6)
    have HA6 := (HA5.out.below hn6 (Nat.le_refl _)).more hn6.size
    have HBB6 := (HBB5.out.below hn6 (Nat.le_refl _)).more hn6.size
    clear hp6 hx6 hy6 hn6
    have hs1 : ∀ W, (Instr.slice 28 (.slice A xs.length c) (some (.int .i64 (n : Int))) none none).run Try.prog W = .ok (.slice (if c = n then A else A.map (·.add (n * 4))) (xs.length - n) (c - n)) W := by
      intro W
      simp [go_sem, i0, i1]
    have hs2 : ∀ W, (Instr.slice 28 (.slice B ys.length d) (some (.int .i64 (n : Int))) none none).run Try.prog W = .ok (.slice (if d = n then B else B.map (·.add (n * 4))) (ys.length - n) (d - n)) W := by
      intro W
      simp [go_sem, i0, i2]
    have hO1 : ∀ W, Below W6.heap.size W6 W → Calls Try.prog 49 #[.slice (if c = n then A else A.map (·.add (n * 4))) (xs.length - n) (c - n)] W fun e W' => e = .returned (.agg #[.int .i64 cr, .int .i64 ci, .int .i64 ct]) ∧ Below W.heap.size W W' := by
      intro W hW
      have h := walk_Of_at _ (c - n) (xs.length - n) (xs.drop n) (by rw [List.length_drop]) W (evSl_drop ((HA6.below hW (Nat.le_refl _)).more hW.size) n c hc) (by rw [List.length_drop]; omega)
      rw [EC.out] at h
      exact h
    have hO2 : ∀ W, Below W6.heap.size W6 W → Calls Try.prog 49 #[.slice (if d = n then B else B.map (·.add (n * 4))) (ys.length - n) (d - n)] W fun e W' => e = .returned (.agg #[.int .i64 dr, .int .i64 di, .int .i64 dt]) ∧ Below W.heap.size W W' := by
      intro W hW
      have h := walk_Of_at _ (d - n) (ys.length - n) (ys.drop n) (by rw [List.length_drop]) W (evSl_drop ((HBB6.below hW (Nat.le_refl _)).more hW.size) n d hd) (by rw [List.length_drop]; omega)
      rw [ED.out] at h
      exact h
    generalize (if c = n then A else A.map (·.add (n * 4))) = A' at *
    generalize (if d = n then B else B.map (·.add (n * 4))) = B' at *
    generalize xs.length - n = m1 at *
    generalize ys.length - n = m2 at *
    have HO1 := Lib.hid hO1
    have HO2 := Lib.hid hO2
    have hw6 := Below.refl W6.heap.size W6
    clear hO1 hO2 HA6 HBB6
    go_cut [9, 10] (fun s9 s10 wx => ∃ g h : Nat, s9 = .pointer (some ⟨g, 0, none⟩) ∧ s10 = .pointer (some ⟨h, 0, none⟩) ∧ wx.cell? ⟨g, 0, none⟩ = some (.int .i64 cr) ∧ wx.cell? ⟨g, 1, none⟩ = some (.int .i64 ci) ∧ wx.cell? ⟨g, 2, none⟩ = some (.int .i64 ct) ∧ wx.cell? ⟨h, 0, none⟩ = some (.int .i64 dr) ∧ wx.cell? ⟨h, 1, none⟩ = some (.int .i64 di) ∧ wx.cell? ⟨h, 2, none⟩ = some (.int .i64 dt) ∧ Below W6.heap.size W6 wx)
    case first =>
      refine region_inv (by kernel_rfl) (by kernel_rfl) (fun a0 L a w => ∃ (u49 u50 u51 u52 u53 u54 u55 u56 u9 u10 : Value) (g9 g10 : Nat) (p9_0 p9_1 p9_2 p10_0 p10_1 p10_2 : Value), a = ((((((((((a0.put (some 49) u49).put (some 50) u50).put (some 51) u51).put (some 52) u52).put (some 53) u53).put (some 54) u54).put (some 55) u55).put (some 56) u56).put (some 9) u9).put (some 10) u10) ∧ Below W6.heap.size W6 w ∧ (Up L 0 → u49 = .slice A xs.length c) ∧ (Up L 1 → u50 = .int .i64 (n : Int)) ∧ (Up L 2 → u51 = .slice A' m1 (c - n)) ∧ (Up L 3 → u52 = .agg #[.int .i64 cr, .int .i64 ci, .int .i64 ct]) ∧ (Up L 4 → u53 = .slice B ys.length d) ∧ (Up L 5 → u54 = .int .i64 (n : Int)) ∧ (Up L 6 → u55 = .slice B' m2 (d - n)) ∧ (Up L 7 → u56 = .agg #[.int .i64 dr, .int .i64 di, .int .i64 dt]) ∧ (Up L 8 → u9 = .pointer (some ⟨g9, 0, none⟩) ∧ W6.heap.size ≤ g9 ∧ w.heap[g9]? = some (.cells #[p9_0, p9_1, p9_2] 30 (0, 0))) ∧ (Up L 9 → u10 = .pointer (some ⟨g10, 0, none⟩) ∧ W6.heap.size ≤ g10 ∧ w.heap[g10]? = some (.cells #[p10_0, p10_1, p10_2] 30 (0, 0))) ∧ (Up L 10 → Up L 8 ∧ p9_0 = .int .i64 cr ∧ p9_1 = .int .i64 ci ∧ p9_2 = .int .i64 ct) ∧ (Up L 11 → Up L 9 ∧ p10_0 = .int .i64 dr ∧ p10_1 = .int .i64 di ∧ p10_2 = .int .i64 dt) ∧ (Up L 8 → Up L 9 → g9 ≠ g10)) ?h0 ?hs ?hend
      case h0 =>
        refine ⟨undef, undef, undef, undef, undef, undef, undef, undef, undef, undef, 0, 0, undef, undef, undef, undef, undef, undef, ?ha, Below.drew (by assumption), fun h => absurd h (by unfold Up; decide), fun h => absurd h (by unfold Up; decide), fun h => absurd h (by unfold Up; decide), fun h => absurd h (by unfold Up; decide), fun h => absurd h (by unfold Up; decide), fun h => absurd h (by unfold Up; decide), fun h => absurd h (by unfold Up; decide), fun h => absurd h (by unfold Up; decide), fun h => absurd h (by unfold Up; decide), fun h => absurd h (by unfold Up; decide), fun h => absurd h (by unfold Up; decide), fun h => absurd h (by unfold Up; decide), fun h => absurd h (by unfold Up; decide)⟩
        case ha => simp only [Act.put, List.setIfInBounds_toArray, List.set_cons_zero, List.set_cons_succ]
      case hs =>
        refine Steps.cons_ ?_ (Steps.cons_ ?_ (Steps.cons_ ?_ (Steps.cons_ ?_ (Steps.cons_ ?_ (Steps.cons_ ?_ (Steps.cons_ ?_ (Steps.cons_ ?_ (Steps.cons_ ?_ (Steps.cons_ ?_ (Steps.cons_ ?_ (Steps.cons_ ?_ (Steps.nil_))))))))))))
        · rintro L a w ⟨u49, u50, u51, u52, u53, u54, u55, u56, u9, u10, g9, g10, p9_0, p9_1, p9_2, p10_0, p10_1, p10_2, rfl, hB, f0, f1, f2, f3, f4, f5, f6, f7, f8, f9, f10, f11, d0_1⟩ hnu hd K' hK
          clear hd
          clear f0
          have Hf1 := Lib.hid f1
          clear f1
          have Hf2 := Lib.hid f2
          clear f2
          have Hf3 := Lib.hid f3
          clear f3
          have Hf4 := Lib.hid f4
          clear f4
          have Hf5 := Lib.hid f5
          clear f5
          have Hf6 := Lib.hid f6
          clear f6
          have Hf7 := Lib.hid f7
          clear f7
          have Hf8 := Lib.hid f8
          clear f8
          have Hf9 := Lib.hid f9
          clear f9
          have Hf10 := Lib.hid f10
          clear f10
          have Hf11 := Lib.hid f11
          clear f11
          have Hd0_1 := Lib.hid d0_1
          clear d0_1
          have HB := Lib.hid hB
          clear hB
          try clear hd
          simp only [Act.put, List.setIfInBounds_toArray, List.set_cons_zero, List.set_cons_succ]
          go_simp
          have f1 := Hf1.out
          have f2 := Hf2.out
          have f3 := Hf3.out
          have f4 := Hf4.out
          have f5 := Hf5.out
          have f6 := Hf6.out
          have f7 := Hf7.out
          have f8 := Hf8.out
          have f9 := Hf9.out
          have f10 := Hf10.out
          have f11 := Hf11.out
          have d0_1 := Hd0_1.out
          refine hK.out _ _ ⟨(.slice A xs.length c), u50, u51, u52, u53, u54, u55, u56, u9, u10, g9, g10, p9_0, p9_1, p9_2, p10_0, p10_1, p10_2, ?ha, HB.out, fun _ => rfl, fun h => f1 (up_set (by decide) h), fun h => f2 (up_set (by decide) h), fun h => f3 (up_set (by decide) h), fun h => f4 (up_set (by decide) h), fun h => f5 (up_set (by decide) h), fun h => f6 (up_set (by decide) h), fun h => f7 (up_set (by decide) h), fun h => f8 (up_set (by decide) h), fun h => f9 (up_set (by decide) h), fun h => ⟨up_keep (f10 (up_set (by decide) h)).1, (f10 (up_set (by decide) h)).2⟩, fun h => ⟨up_keep (f11 (up_set (by decide) h)).1, (f11 (up_set (by decide) h)).2⟩, fun h1 h2 => d0_1 (up_set (by decide) h1) (up_set (by decide) h2)⟩
          case ha => simp only [Act.put, List.setIfInBounds_toArray, List.set_cons_zero, List.set_cons_succ]
        · rintro L a w ⟨u49, u50, u51, u52, u53, u54, u55, u56, u9, u10, g9, g10, p9_0, p9_1, p9_2, p10_0, p10_1, p10_2, rfl, hB, f0, f1, f2, f3, f4, f5, f6, f7, f8, f9, f10, f11, d0_1⟩ hnu hd K' hK
          clear hd
          have Hf0 := Lib.hid f0
          clear f0
          clear f1
          have Hf2 := Lib.hid f2
          clear f2
          have Hf3 := Lib.hid f3
          clear f3
          have Hf4 := Lib.hid f4
          clear f4
          have Hf5 := Lib.hid f5
          clear f5
          have Hf6 := Lib.hid f6
          clear f6
          have Hf7 := Lib.hid f7
          clear f7
          have Hf8 := Lib.hid f8
          clear f8
          have Hf9 := Lib.hid f9
          clear f9
          have Hf10 := Lib.hid f10
          clear f10
          have Hf11 := Lib.hid f11
          clear f11
          have Hd0_1 := Lib.hid d0_1
          clear d0_1
          have HB := Lib.hid hB
          clear hB
          try clear hd
          simp only [Act.put, List.setIfInBounds_toArray, List.set_cons_zero, List.set_cons_succ]
          go_simp
          have f0 := Hf0.out
          have f2 := Hf2.out
          have f3 := Hf3.out
          have f4 := Hf4.out
          have f5 := Hf5.out
          have f6 := Hf6.out
          have f7 := Hf7.out
          have f8 := Hf8.out
          have f9 := Hf9.out
          have f10 := Hf10.out
          have f11 := Hf11.out
          have d0_1 := Hd0_1.out
          refine hK.out _ _ ⟨u49, (.int .i64 (n : Int)), u51, u52, u53, u54, u55, u56, u9, u10, g9, g10, p9_0, p9_1, p9_2, p10_0, p10_1, p10_2, ?ha, HB.out, fun h => f0 (up_set (by decide) h), fun _ => rfl, fun h => f2 (up_set (by decide) h), fun h => f3 (up_set (by decide) h), fun h => f4 (up_set (by decide) h), fun h => f5 (up_set (by decide) h), fun h => f6 (up_set (by decide) h), fun h => f7 (up_set (by decide) h), fun h => f8 (up_set (by decide) h), fun h => f9 (up_set (by decide) h), fun h => ⟨up_keep (f10 (up_set (by decide) h)).1, (f10 (up_set (by decide) h)).2⟩, fun h => ⟨up_keep (f11 (up_set (by decide) h)).1, (f11 (up_set (by decide) h)).2⟩, fun h1 h2 => d0_1 (up_set (by decide) h1) (up_set (by decide) h2)⟩
          case ha => simp only [Act.put, List.setIfInBounds_toArray, List.set_cons_zero, List.set_cons_succ]
        · rintro L a w ⟨u49, u50, u51, u52, u53, u54, u55, u56, u9, u10, g9, g10, p9_0, p9_1, p9_2, p10_0, p10_1, p10_2, rfl, hB, f0, f1, f2, f3, f4, f5, f6, f7, f8, f9, f10, f11, d0_1⟩ hnu hd K' hK
          simp [Region.binds] at hd
          have e49 := f0 (by simp [hd])
          subst e49
          have e50 := f1 (by simp [hd])
          subst e50
          have Hf0 := Lib.hid f0
          clear f0
          have Hf1 := Lib.hid f1
          clear f1
          clear f2
          have Hf3 := Lib.hid f3
          clear f3
          have Hf4 := Lib.hid f4
          clear f4
          have Hf5 := Lib.hid f5
          clear f5
          have Hf6 := Lib.hid f6
          clear f6
          have Hf7 := Lib.hid f7
          clear f7
          have Hf8 := Lib.hid f8
          clear f8
          have Hf9 := Lib.hid f9
          clear f9
          have Hf10 := Lib.hid f10
          clear f10
          have Hf11 := Lib.hid f11
          clear f11
          have Hd0_1 := Lib.hid d0_1
          clear d0_1
          have HB := Lib.hid hB
          clear hB
          try clear hd
          simp only [Act.put, List.setIfInBounds_toArray, List.set_cons_zero, List.set_cons_succ]
          go_simp
          have f0 := Hf0.out
          have f1 := Hf1.out
          have f3 := Hf3.out
          have f4 := Hf4.out
          have f5 := Hf5.out
          have f6 := Hf6.out
          have f7 := Hf7.out
          have f8 := Hf8.out
          have f9 := Hf9.out
          have f10 := Hf10.out
          have f11 := Hf11.out
          have d0_1 := Hd0_1.out
          refine hK.out _ _ ⟨(.slice A xs.length c), (.int .i64 (n : Int)), (.slice A' m1 (c - n)), u52, u53, u54, u55, u56, u9, u10, g9, g10, p9_0, p9_1, p9_2, p10_0, p10_1, p10_2, ?ha, HB.out, fun _ => rfl, fun _ => rfl, fun _ => rfl, fun h => f3 (up_set (by decide) h), fun h => f4 (up_set (by decide) h), fun h => f5 (up_set (by decide) h), fun h => f6 (up_set (by decide) h), fun h => f7 (up_set (by decide) h), fun h => f8 (up_set (by decide) h), fun h => f9 (up_set (by decide) h), fun h => ⟨up_keep (f10 (up_set (by decide) h)).1, (f10 (up_set (by decide) h)).2⟩, fun h => ⟨up_keep (f11 (up_set (by decide) h)).1, (f11 (up_set (by decide) h)).2⟩, fun h1 h2 => d0_1 (up_set (by decide) h1) (up_set (by decide) h2)⟩
          case ha => simp only [Act.put, List.setIfInBounds_toArray, List.set_cons_zero, List.set_cons_succ]
        · rintro L a w ⟨u49, u50, u51, u52, u53, u54, u55, u56, u9, u10, g9, g10, p9_0, p9_1, p9_2, p10_0, p10_1, p10_2, rfl, hB, f0, f1, f2, f3, f4, f5, f6, f7, f8, f9, f10, f11, d0_1⟩ hnu hd K' hK
          simp [Region.binds] at hd
          have e51 := f2 (by simp [hd])
          subst e51
          have Hf0 := Lib.hid f0
          clear f0
          have Hf1 := Lib.hid f1
          clear f1
          have Hf2 := Lib.hid f2
          clear f2
          clear f3
          have Hf4 := Lib.hid f4
          clear f4
          have Hf5 := Lib.hid f5
          clear f5
          have Hf6 := Lib.hid f6
          clear f6
          have Hf7 := Lib.hid f7
          clear f7
          have Hf8 := Lib.hid f8
          clear f8
          have Hf9 := Lib.hid f9
          clear f9
          have Hf10 := Lib.hid f10
          clear f10
          have Hf11 := Lib.hid f11
          clear f11
          have Hd0_1 := Lib.hid d0_1
          clear d0_1
          have HB := Lib.hid hB
          clear hB
          try clear hd
          simp only [Act.put, List.setIfInBounds_toArray, List.set_cons_zero, List.set_cons_succ]
          go_simp
          refine (HO1.out _ HB.out).mono ?_
          rintro e w' ⟨rfl, hb⟩
          have f0 := Hf0.out
          have f1 := Hf1.out
          have f2 := Hf2.out
          have f4 := Hf4.out
          have f5 := Hf5.out
          have f6 := Hf6.out
          have f7 := Hf7.out
          have f8 := Hf8.out
          have f9 := Hf9.out
          have f10 := Hf10.out
          have f11 := Hf11.out
          have d0_1 := Hd0_1.out
          refine hK.out _ _ ⟨u49, u50, (.slice A' m1 (c - n)), (.agg #[.int .i64 cr, .int .i64 ci, .int .i64 ct]), u53, u54, u55, u56, u9, u10, g9, g10, p9_0, p9_1, p9_2, p10_0, p10_1, p10_2, ?ha, bch HB.out hb, fun h => f0 (up_set (by decide) h), fun h => f1 (up_set (by decide) h), fun _ => rfl, fun _ => rfl, fun h => f4 (up_set (by decide) h), fun h => f5 (up_set (by decide) h), fun h => f6 (up_set (by decide) h), fun h => f7 (up_set (by decide) h), fun h => let ⟨x1, x2, x3⟩ := f8 (up_set (by decide) h); ⟨x1, x2, (hb.block _ (lt_of_blk x3)).trans x3⟩, fun h => let ⟨x1, x2, x3⟩ := f9 (up_set (by decide) h); ⟨x1, x2, (hb.block _ (lt_of_blk x3)).trans x3⟩, fun h => ⟨up_keep (f10 (up_set (by decide) h)).1, (f10 (up_set (by decide) h)).2⟩, fun h => ⟨up_keep (f11 (up_set (by decide) h)).1, (f11 (up_set (by decide) h)).2⟩, fun h1 h2 => d0_1 (up_set (by decide) h1) (up_set (by decide) h2)⟩
          case ha => simp only [Act.put, List.setIfInBounds_toArray, List.set_cons_zero, List.set_cons_succ]
        · rintro L a w ⟨u49, u50, u51, u52, u53, u54, u55, u56, u9, u10, g9, g10, p9_0, p9_1, p9_2, p10_0, p10_1, p10_2, rfl, hB, f0, f1, f2, f3, f4, f5, f6, f7, f8, f9, f10, f11, d0_1⟩ hnu hd K' hK
          clear hd
          have Hf0 := Lib.hid f0
          clear f0
          have Hf1 := Lib.hid f1
          clear f1
          have Hf2 := Lib.hid f2
          clear f2
          have Hf3 := Lib.hid f3
          clear f3
          clear f4
          have Hf5 := Lib.hid f5
          clear f5
          have Hf6 := Lib.hid f6
          clear f6
          have Hf7 := Lib.hid f7
          clear f7
          have Hf8 := Lib.hid f8
          clear f8
          have Hf9 := Lib.hid f9
          clear f9
          have Hf10 := Lib.hid f10
          clear f10
          have Hf11 := Lib.hid f11
          clear f11
          have Hd0_1 := Lib.hid d0_1
          clear d0_1
          have HB := Lib.hid hB
          clear hB
          try clear hd
          simp only [Act.put, List.setIfInBounds_toArray, List.set_cons_zero, List.set_cons_succ]
          go_simp
          have f0 := Hf0.out
          have f1 := Hf1.out
          have f2 := Hf2.out
          have f3 := Hf3.out
          have f5 := Hf5.out
          have f6 := Hf6.out
          have f7 := Hf7.out
          have f8 := Hf8.out
          have f9 := Hf9.out
          have f10 := Hf10.out
          have f11 := Hf11.out
          have d0_1 := Hd0_1.out
          refine hK.out _ _ ⟨u49, u50, u51, u52, (.slice B ys.length d), u54, u55, u56, u9, u10, g9, g10, p9_0, p9_1, p9_2, p10_0, p10_1, p10_2, ?ha, HB.out, fun h => f0 (up_set (by decide) h), fun h => f1 (up_set (by decide) h), fun h => f2 (up_set (by decide) h), fun h => f3 (up_set (by decide) h), fun _ => rfl, fun h => f5 (up_set (by decide) h), fun h => f6 (up_set (by decide) h), fun h => f7 (up_set (by decide) h), fun h => f8 (up_set (by decide) h), fun h => f9 (up_set (by decide) h), fun h => ⟨up_keep (f10 (up_set (by decide) h)).1, (f10 (up_set (by decide) h)).2⟩, fun h => ⟨up_keep (f11 (up_set (by decide) h)).1, (f11 (up_set (by decide) h)).2⟩, fun h1 h2 => d0_1 (up_set (by decide) h1) (up_set (by decide) h2)⟩
          case ha => simp only [Act.put, List.setIfInBounds_toArray, List.set_cons_zero, List.set_cons_succ]
        · rintro L a w ⟨u49, u50, u51, u52, u53, u54, u55, u56, u9, u10, g9, g10, p9_0, p9_1, p9_2, p10_0, p10_1, p10_2, rfl, hB, f0, f1, f2, f3, f4, f5, f6, f7, f8, f9, f10, f11, d0_1⟩ hnu hd K' hK
          clear hd
          have Hf0 := Lib.hid f0
          clear f0
          have Hf1 := Lib.hid f1
          clear f1
          have Hf2 := Lib.hid f2
          clear f2
          have Hf3 := Lib.hid f3
          clear f3
          have Hf4 := Lib.hid f4
          clear f4
          clear f5
          have Hf6 := Lib.hid f6
          clear f6
          have Hf7 := Lib.hid f7
          clear f7
          have Hf8 := Lib.hid f8
          clear f8
          have Hf9 := Lib.hid f9
          clear f9
          have Hf10 := Lib.hid f10
          clear f10
          have Hf11 := Lib.hid f11
          clear f11
          have Hd0_1 := Lib.hid d0_1
          clear d0_1
          have HB := Lib.hid hB
          clear hB
          try clear hd
          simp only [Act.put, List.setIfInBounds_toArray, List.set_cons_zero, List.set_cons_succ]
          go_simp
          have f0 := Hf0.out
          have f1 := Hf1.out
          have f2 := Hf2.out
          have f3 := Hf3.out
          have f4 := Hf4.out
          have f6 := Hf6.out
          have f7 := Hf7.out
          have f8 := Hf8.out
          have f9 := Hf9.out
          have f10 := Hf10.out
          have f11 := Hf11.out
          have d0_1 := Hd0_1.out
          refine hK.out _ _ ⟨u49, u50, u51, u52, u53, (.int .i64 (n : Int)), u55, u56, u9, u10, g9, g10, p9_0, p9_1, p9_2, p10_0, p10_1, p10_2, ?ha, HB.out, fun h => f0 (up_set (by decide) h), fun h => f1 (up_set (by decide) h), fun h => f2 (up_set (by decide) h), fun h => f3 (up_set (by decide) h), fun h => f4 (up_set (by decide) h), fun _ => rfl, fun h => f6 (up_set (by decide) h), fun h => f7 (up_set (by decide) h), fun h => f8 (up_set (by decide) h), fun h => f9 (up_set (by decide) h), fun h => ⟨up_keep (f10 (up_set (by decide) h)).1, (f10 (up_set (by decide) h)).2⟩, fun h => ⟨up_keep (f11 (up_set (by decide) h)).1, (f11 (up_set (by decide) h)).2⟩, fun h1 h2 => d0_1 (up_set (by decide) h1) (up_set (by decide) h2)⟩
          case ha => simp only [Act.put, List.setIfInBounds_toArray, List.set_cons_zero, List.set_cons_succ]
        · rintro L a w ⟨u49, u50, u51, u52, u53, u54, u55, u56, u9, u10, g9, g10, p9_0, p9_1, p9_2, p10_0, p10_1, p10_2, rfl, hB, f0, f1, f2, f3, f4, f5, f6, f7, f8, f9, f10, f11, d0_1⟩ hnu hd K' hK
          simp [Region.binds] at hd
          have e53 := f4 (by simp [hd])
          subst e53
          have e54 := f5 (by simp [hd])
          subst e54
          have Hf0 := Lib.hid f0
          clear f0
          have Hf1 := Lib.hid f1
          clear f1
          have Hf2 := Lib.hid f2
          clear f2
          have Hf3 := Lib.hid f3
          clear f3
          have Hf4 := Lib.hid f4
          clear f4
          have Hf5 := Lib.hid f5
          clear f5
          clear f6
          have Hf7 := Lib.hid f7
          clear f7
          have Hf8 := Lib.hid f8
          clear f8
          have Hf9 := Lib.hid f9
          clear f9
          have Hf10 := Lib.hid f10
          clear f10
          have Hf11 := Lib.hid f11
          clear f11
          have Hd0_1 := Lib.hid d0_1
          clear d0_1
          have HB := Lib.hid hB
          clear hB
          try clear hd
          simp only [Act.put, List.setIfInBounds_toArray, List.set_cons_zero, List.set_cons_succ]
          go_simp
          have f0 := Hf0.out
          have f1 := Hf1.out
          have f2 := Hf2.out
          have f3 := Hf3.out
          have f4 := Hf4.out
          have f5 := Hf5.out
          have f7 := Hf7.out
          have f8 := Hf8.out
          have f9 := Hf9.out
          have f10 := Hf10.out
          have f11 := Hf11.out
          have d0_1 := Hd0_1.out
          refine hK.out _ _ ⟨u49, u50, u51, u52, (.slice B ys.length d), (.int .i64 (n : Int)), (.slice B' m2 (d - n)), u56, u9, u10, g9, g10, p9_0, p9_1, p9_2, p10_0, p10_1, p10_2, ?ha, HB.out, fun h => f0 (up_set (by decide) h), fun h => f1 (up_set (by decide) h), fun h => f2 (up_set (by decide) h), fun h => f3 (up_set (by decide) h), fun _ => rfl, fun _ => rfl, fun _ => rfl, fun h => f7 (up_set (by decide) h), fun h => f8 (up_set (by decide) h), fun h => f9 (up_set (by decide) h), fun h => ⟨up_keep (f10 (up_set (by decide) h)).1, (f10 (up_set (by decide) h)).2⟩, fun h => ⟨up_keep (f11 (up_set (by decide) h)).1, (f11 (up_set (by decide) h)).2⟩, fun h1 h2 => d0_1 (up_set (by decide) h1) (up_set (by decide) h2)⟩
          case ha => simp only [Act.put, List.setIfInBounds_toArray, List.set_cons_zero, List.set_cons_succ]
        · rintro L a w ⟨u49, u50, u51, u52, u53, u54, u55, u56, u9, u10, g9, g10, p9_0, p9_1, p9_2, p10_0, p10_1, p10_2, rfl, hB, f0, f1, f2, f3, f4, f5, f6, f7, f8, f9, f10, f11, d0_1⟩ hnu hd K' hK
          simp [Region.binds] at hd
          have e55 := f6 (by simp [hd])
          subst e55
          have Hf0 := Lib.hid f0
          clear f0
          have Hf1 := Lib.hid f1
          clear f1
          have Hf2 := Lib.hid f2
          clear f2
          have Hf3 := Lib.hid f3
          clear f3
          have Hf4 := Lib.hid f4
          clear f4
          have Hf5 := Lib.hid f5
          clear f5
          have Hf6 := Lib.hid f6
          clear f6
          clear f7
          have Hf8 := Lib.hid f8
          clear f8
          have Hf9 := Lib.hid f9
          clear f9
          have Hf10 := Lib.hid f10
          clear f10
          have Hf11 := Lib.hid f11
          clear f11
          have Hd0_1 := Lib.hid d0_1
          clear d0_1
          have HB := Lib.hid hB
          clear hB
          try clear hd
          simp only [Act.put, List.setIfInBounds_toArray, List.set_cons_zero, List.set_cons_succ]
          go_simp
          refine (HO2.out _ HB.out).mono ?_
          rintro e w' ⟨rfl, hb⟩
          have f0 := Hf0.out
          have f1 := Hf1.out
          have f2 := Hf2.out
          have f3 := Hf3.out
          have f4 := Hf4.out
          have f5 := Hf5.out
          have f6 := Hf6.out
          have f8 := Hf8.out
          have f9 := Hf9.out
          have f10 := Hf10.out
          have f11 := Hf11.out
          have d0_1 := Hd0_1.out
          refine hK.out _ _ ⟨u49, u50, u51, u52, u53, u54, (.slice B' m2 (d - n)), (.agg #[.int .i64 dr, .int .i64 di, .int .i64 dt]), u9, u10, g9, g10, p9_0, p9_1, p9_2, p10_0, p10_1, p10_2, ?ha, bch HB.out hb, fun h => f0 (up_set (by decide) h), fun h => f1 (up_set (by decide) h), fun h => f2 (up_set (by decide) h), fun h => f3 (up_set (by decide) h), fun h => f4 (up_set (by decide) h), fun h => f5 (up_set (by decide) h), fun _ => rfl, fun _ => rfl, fun h => let ⟨x1, x2, x3⟩ := f8 (up_set (by decide) h); ⟨x1, x2, (hb.block _ (lt_of_blk x3)).trans x3⟩, fun h => let ⟨x1, x2, x3⟩ := f9 (up_set (by decide) h); ⟨x1, x2, (hb.block _ (lt_of_blk x3)).trans x3⟩, fun h => ⟨up_keep (f10 (up_set (by decide) h)).1, (f10 (up_set (by decide) h)).2⟩, fun h => ⟨up_keep (f11 (up_set (by decide) h)).1, (f11 (up_set (by decide) h)).2⟩, fun h1 h2 => d0_1 (up_set (by decide) h1) (up_set (by decide) h2)⟩
          case ha => simp only [Act.put, List.setIfInBounds_toArray, List.set_cons_zero, List.set_cons_succ]
        · rintro L a w ⟨u49, u50, u51, u52, u53, u54, u55, u56, u9, u10, g9, g10, p9_0, p9_1, p9_2, p10_0, p10_1, p10_2, rfl, hB, f0, f1, f2, f3, f4, f5, f6, f7, f8, f9, f10, f11, d0_1⟩ hnu hd K' hK
          clear hd
          have Hf0 := Lib.hid f0
          clear f0
          have Hf1 := Lib.hid f1
          clear f1
          have Hf2 := Lib.hid f2
          clear f2
          have Hf3 := Lib.hid f3
          clear f3
          have Hf4 := Lib.hid f4
          clear f4
          have Hf5 := Lib.hid f5
          clear f5
          have Hf6 := Lib.hid f6
          clear f6
          have Hf7 := Lib.hid f7
          clear f7
          clear f8
          have Hf9 := Lib.hid f9
          clear f9
          have Hf10 := Lib.hid f10
          clear f10
          have Hf11 := Lib.hid f11
          clear f11
          have Hd0_1 := Lib.hid d0_1
          clear d0_1
          have HB := Lib.hid hB
          clear hB
          try clear hd
          simp only [Act.put, List.setIfInBounds_toArray, List.set_cons_zero, List.set_cons_succ]
          go_simp
          have f0 := Hf0.out
          have f1 := Hf1.out
          have f2 := Hf2.out
          have f3 := Hf3.out
          have f4 := Hf4.out
          have f5 := Hf5.out
          have f6 := Hf6.out
          have f7 := Hf7.out
          have f9 := Hf9.out
          have f10 := Hf10.out
          have f11 := Hf11.out
          have d0_1 := Hd0_1.out
          refine hK.out _ _ ⟨u49, u50, u51, u52, u53, u54, u55, u56, (.pointer (some ⟨w.heap.size, 0, none⟩)), u10, w.heap.size, g10, (.int .i64 0), (.int .i64 0), (.int .i64 0), p10_0, p10_1, p10_2, ?ha, bal HB.out (.cells #[.int .i64 0, .int .i64 0, .int .i64 0] 30), fun h => f0 (up_set (by decide) h), fun h => f1 (up_set (by decide) h), fun h => f2 (up_set (by decide) h), fun h => f3 (up_set (by decide) h), fun h => f4 (up_set (by decide) h), fun h => f5 (up_set (by decide) h), fun h => f6 (up_set (by decide) h), fun h => f7 (up_set (by decide) h), fun _ => ⟨rfl, HB.out.size, heap_alloc_new w (.cells #[.int .i64 0, .int .i64 0, .int .i64 0] 30)⟩, fun h => let ⟨x1, x2, x3⟩ := f9 (up_set (by decide) h); ⟨x1, x2, (Below.heap_alloc w (.cells #[.int .i64 0, .int .i64 0, .int .i64 0] 30) _ (lt_of_blk x3)).trans x3⟩, fun h => absurd (f10 (up_set (by decide) h)).1 hnu, fun h => ⟨up_keep (f11 (up_set (by decide) h)).1, (f11 (up_set (by decide) h)).2⟩, fun _ h => by have := lt_of_blk (f9 (up_set (by decide) h)).2.2; omega⟩
          case ha => simp only [Act.put, List.setIfInBounds_toArray, List.set_cons_zero, List.set_cons_succ]
        · rintro L a w ⟨u49, u50, u51, u52, u53, u54, u55, u56, u9, u10, g9, g10, p9_0, p9_1, p9_2, p10_0, p10_1, p10_2, rfl, hB, f0, f1, f2, f3, f4, f5, f6, f7, f8, f9, f10, f11, d0_1⟩ hnu hd K' hK
          clear hd
          have Hf0 := Lib.hid f0
          clear f0
          have Hf1 := Lib.hid f1
          clear f1
          have Hf2 := Lib.hid f2
          clear f2
          have Hf3 := Lib.hid f3
          clear f3
          have Hf4 := Lib.hid f4
          clear f4
          have Hf5 := Lib.hid f5
          clear f5
          have Hf6 := Lib.hid f6
          clear f6
          have Hf7 := Lib.hid f7
          clear f7
          have Hf8 := Lib.hid f8
          clear f8
          clear f9
          have Hf10 := Lib.hid f10
          clear f10
          have Hf11 := Lib.hid f11
          clear f11
          have Hd0_1 := Lib.hid d0_1
          clear d0_1
          have HB := Lib.hid hB
          clear hB
          try clear hd
          simp only [Act.put, List.setIfInBounds_toArray, List.set_cons_zero, List.set_cons_succ]
          go_simp
          have f0 := Hf0.out
          have f1 := Hf1.out
          have f2 := Hf2.out
          have f3 := Hf3.out
          have f4 := Hf4.out
          have f5 := Hf5.out
          have f6 := Hf6.out
          have f7 := Hf7.out
          have f8 := Hf8.out
          have f10 := Hf10.out
          have f11 := Hf11.out
          have d0_1 := Hd0_1.out
          refine hK.out _ _ ⟨u49, u50, u51, u52, u53, u54, u55, u56, u9, (.pointer (some ⟨w.heap.size, 0, none⟩)), g9, w.heap.size, p9_0, p9_1, p9_2, (.int .i64 0), (.int .i64 0), (.int .i64 0), ?ha, bal HB.out (.cells #[.int .i64 0, .int .i64 0, .int .i64 0] 30), fun h => f0 (up_set (by decide) h), fun h => f1 (up_set (by decide) h), fun h => f2 (up_set (by decide) h), fun h => f3 (up_set (by decide) h), fun h => f4 (up_set (by decide) h), fun h => f5 (up_set (by decide) h), fun h => f6 (up_set (by decide) h), fun h => f7 (up_set (by decide) h), fun h => let ⟨x1, x2, x3⟩ := f8 (up_set (by decide) h); ⟨x1, x2, (Below.heap_alloc w (.cells #[.int .i64 0, .int .i64 0, .int .i64 0] 30) _ (lt_of_blk x3)).trans x3⟩, fun _ => ⟨rfl, HB.out.size, heap_alloc_new w (.cells #[.int .i64 0, .int .i64 0, .int .i64 0] 30)⟩, fun h => ⟨up_keep (f10 (up_set (by decide) h)).1, (f10 (up_set (by decide) h)).2⟩, fun h => absurd (f11 (up_set (by decide) h)).1 hnu, fun h _ => by have := lt_of_blk (f8 (up_set (by decide) h)).2.2; omega⟩
          case ha => simp only [Act.put, List.setIfInBounds_toArray, List.set_cons_zero, List.set_cons_succ]
        · rintro L a w ⟨u49, u50, u51, u52, u53, u54, u55, u56, u9, u10, g9, g10, p9_0, p9_1, p9_2, p10_0, p10_1, p10_2, rfl, hB, f0, f1, f2, f3, f4, f5, f6, f7, f8, f9, f10, f11, d0_1⟩ hnu hd K' hK
          simp [Region.binds] at hd
          have HU : Up L 8 := by simp [hd]
          have q9 := f8 (by simp [hd])
          have e9 := q9.1
          have b9 := q9.2.1
          have m9 := q9.2.2
          clear q9
          subst e9
          have e52 := f3 (by simp [hd])
          subst e52
          have Hf0 := Lib.hid f0
          clear f0
          have Hf1 := Lib.hid f1
          clear f1
          have Hf2 := Lib.hid f2
          clear f2
          have Hf3 := Lib.hid f3
          clear f3
          have Hf4 := Lib.hid f4
          clear f4
          have Hf5 := Lib.hid f5
          clear f5
          have Hf6 := Lib.hid f6
          clear f6
          have Hf7 := Lib.hid f7
          clear f7
          have Hf8 := Lib.hid f8
          clear f8
          have Hf9 := Lib.hid f9
          clear f9
          clear f10
          have Hf11 := Lib.hid f11
          clear f11
          have Hd0_1 := Lib.hid d0_1
          clear d0_1
          have HB := Lib.hid hB
          clear hB
          try clear hd
          have c0 : w.cell? ⟨g9, 0, none⟩ = some p9_0 := (cell_of_blk m9 0).1
          have z0 : w.frozen? ⟨g9, 0, none⟩ = false := (cell_of_blk m9 0).2
          have c1 : w.cell? ⟨g9, 1, none⟩ = some p9_1 := (cell_of_blk m9 1).1
          have z1 : w.frozen? ⟨g9, 1, none⟩ = false := (cell_of_blk m9 1).2
          have c2 : w.cell? ⟨g9, 2, none⟩ = some p9_2 := (cell_of_blk m9 2).1
          have z2 : w.frozen? ⟨g9, 2, none⟩ = false := (cell_of_blk m9 2).2
          have M := Lib.hid m9
          have Bq := Lib.hid b9
          clear m9 b9
          simp only [Act.put, List.setIfInBounds_toArray, List.set_cons_zero, List.set_cons_succ]
          go_simp
          have f0 := Hf0.out
          have f1 := Hf1.out
          have f2 := Hf2.out
          have f3 := Hf3.out
          have f4 := Hf4.out
          have f5 := Hf5.out
          have f6 := Hf6.out
          have f7 := Hf7.out
          have f8 := Hf8.out
          have f9 := Hf9.out
          have f11 := Hf11.out
          have d0_1 := Hd0_1.out
          refine hK.out _ _ ⟨u49, u50, u51, (.agg #[.int .i64 cr, .int .i64 ci, .int .i64 ct]), u53, u54, u55, u56, (.pointer (some ⟨g9, 0, none⟩)), u10, g9, g10, (.int .i64 cr), (.int .i64 ci), (.int .i64 ct), p10_0, p10_1, p10_2, ?ha, ((((((HB.out).setCell Bq.out _)).setCell Bq.out _)).setCell Bq.out _), fun h => f0 (up_set (by decide) h), fun h => f1 (up_set (by decide) h), fun h => f2 (up_set (by decide) h), fun _ => rfl, fun h => f4 (up_set (by decide) h), fun h => f5 (up_set (by decide) h), fun h => f6 (up_set (by decide) h), fun h => f7 (up_set (by decide) h), fun _ => ⟨rfl, Bq.out, ?hown⟩, fun h => ?ho9, fun _ => ⟨up_keep HU, rfl, rfl, rfl⟩, fun h => ⟨up_keep (f11 (up_set (by decide) h)).1, (f11 (up_set (by decide) h)).2⟩, fun h1 h2 => d0_1 (up_set (by decide) h1) (up_set (by decide) h2)⟩
          case ha => simp only [Act.put, List.setIfInBounds_toArray, List.set_cons_zero, List.set_cons_succ]
          case hown => exact (blk_set (blk_set (blk_set M.out 0 (.int .i64 cr)) 1 (.int .i64 ci)) 2 (.int .i64 ct))
          case ho9 =>
            have x1 := (f9 (up_set (by decide) h)).1
            have x2 := (f9 (up_set (by decide) h)).2.1
            have x3 := (f9 (up_set (by decide) h)).2.2
            exact ⟨x1, x2, (Below.heap_setCell _ _ _ _ ((d0_1 HU (up_set (by decide) h)).symm)).trans ((Below.heap_setCell _ _ _ _ ((d0_1 HU (up_set (by decide) h)).symm)).trans ((Below.heap_setCell _ _ _ _ ((d0_1 HU (up_set (by decide) h)).symm)).trans (x3)))⟩
        · rintro L a w ⟨u49, u50, u51, u52, u53, u54, u55, u56, u9, u10, g9, g10, p9_0, p9_1, p9_2, p10_0, p10_1, p10_2, rfl, hB, f0, f1, f2, f3, f4, f5, f6, f7, f8, f9, f10, f11, d0_1⟩ hnu hd K' hK
          simp [Region.binds] at hd
          have HU : Up L 9 := by simp [hd]
          have q10 := f9 (by simp [hd])
          have e10 := q10.1
          have b10 := q10.2.1
          have m10 := q10.2.2
          clear q10
          subst e10
          have e56 := f7 (by simp [hd])
          subst e56
          have Hf0 := Lib.hid f0
          clear f0
          have Hf1 := Lib.hid f1
          clear f1
          have Hf2 := Lib.hid f2
          clear f2
          have Hf3 := Lib.hid f3
          clear f3
          have Hf4 := Lib.hid f4
          clear f4
          have Hf5 := Lib.hid f5
          clear f5
          have Hf6 := Lib.hid f6
          clear f6
          have Hf7 := Lib.hid f7
          clear f7
          have Hf8 := Lib.hid f8
          clear f8
          have Hf9 := Lib.hid f9
          clear f9
          have Hf10 := Lib.hid f10
          clear f10
          clear f11
          have Hd0_1 := Lib.hid d0_1
          clear d0_1
          have HB := Lib.hid hB
          clear hB
          try clear hd
          have c0 : w.cell? ⟨g10, 0, none⟩ = some p10_0 := (cell_of_blk m10 0).1
          have z0 : w.frozen? ⟨g10, 0, none⟩ = false := (cell_of_blk m10 0).2
          have c1 : w.cell? ⟨g10, 1, none⟩ = some p10_1 := (cell_of_blk m10 1).1
          have z1 : w.frozen? ⟨g10, 1, none⟩ = false := (cell_of_blk m10 1).2
          have c2 : w.cell? ⟨g10, 2, none⟩ = some p10_2 := (cell_of_blk m10 2).1
          have z2 : w.frozen? ⟨g10, 2, none⟩ = false := (cell_of_blk m10 2).2
          have M := Lib.hid m10
          have Bq := Lib.hid b10
          clear m10 b10
          simp only [Act.put, List.setIfInBounds_toArray, List.set_cons_zero, List.set_cons_succ]
          go_simp
          have f0 := Hf0.out
          have f1 := Hf1.out
          have f2 := Hf2.out
          have f3 := Hf3.out
          have f4 := Hf4.out
          have f5 := Hf5.out
          have f6 := Hf6.out
          have f7 := Hf7.out
          have f8 := Hf8.out
          have f9 := Hf9.out
          have f10 := Hf10.out
          have d0_1 := Hd0_1.out
          refine hK.out _ _ ⟨u49, u50, u51, u52, u53, u54, u55, (.agg #[.int .i64 dr, .int .i64 di, .int .i64 dt]), u9, (.pointer (some ⟨g10, 0, none⟩)), g9, g10, p9_0, p9_1, p9_2, (.int .i64 dr), (.int .i64 di), (.int .i64 dt), ?ha, ((((((HB.out).setCell Bq.out _)).setCell Bq.out _)).setCell Bq.out _), fun h => f0 (up_set (by decide) h), fun h => f1 (up_set (by decide) h), fun h => f2 (up_set (by decide) h), fun h => f3 (up_set (by decide) h), fun h => f4 (up_set (by decide) h), fun h => f5 (up_set (by decide) h), fun h => f6 (up_set (by decide) h), fun _ => rfl, fun h => ?ho8, fun _ => ⟨rfl, Bq.out, ?hown⟩, fun h => ⟨up_keep (f10 (up_set (by decide) h)).1, (f10 (up_set (by decide) h)).2⟩, fun _ => ⟨up_keep HU, rfl, rfl, rfl⟩, fun h1 h2 => d0_1 (up_set (by decide) h1) (up_set (by decide) h2)⟩
          case ha => simp only [Act.put, List.setIfInBounds_toArray, List.set_cons_zero, List.set_cons_succ]
          case hown => exact (blk_set (blk_set (blk_set M.out 0 (.int .i64 dr)) 1 (.int .i64 di)) 2 (.int .i64 dt))
          case ho8 =>
            have x1 := (f8 (up_set (by decide) h)).1
            have x2 := (f8 (up_set (by decide) h)).2.1
            have x3 := (f8 (up_set (by decide) h)).2.2
            exact ⟨x1, x2, (Below.heap_setCell _ _ _ _ (d0_1 (up_set (by decide) h) HU)).trans ((Below.heap_setCell _ _ _ _ (d0_1 (up_set (by decide) h) HU)).trans ((Below.heap_setCell _ _ _ _ (d0_1 (up_set (by decide) h) HU)).trans (x3)))⟩
      case hend =>
        rintro L a w ⟨u49, u50, u51, u52, u53, u54, u55, u56, u9, u10, g9, g10, p9_0, p9_1, p9_2, p10_0, p10_1, p10_2, rfl, hB, f0, f1, f2, f3, f4, f5, f6, f7, f8, f9, f10, f11, d0_1⟩ hall
        have e49 := f0 (hall 0 (by decide))
        subst e49
        have e50 := f1 (hall 1 (by decide))
        subst e50
        have e51 := f2 (hall 2 (by decide))
        subst e51
        have e52 := f3 (hall 3 (by decide))
        subst e52
        have e53 := f4 (hall 4 (by decide))
        subst e53
        have e54 := f5 (hall 5 (by decide))
        subst e54
        have e55 := f6 (hall 6 (by decide))
        subst e55
        have e56 := f7 (hall 7 (by decide))
        subst e56
        have e9 := (f8 (hall 8 (by decide))).1
        have m9 := (f8 (hall 8 (by decide))).2.2
        subst e9
        have e10 := (f9 (hall 9 (by decide))).1
        have m10 := (f9 (hall 9 (by decide))).2.2
        subst e10
        have s10 := (f10 (hall 10 (by decide))).2
        obtain ⟨rfl, rfl, rfl⟩ := s10
        have s11 := (f11 (hall 11 (by decide))).2
        obtain ⟨rfl, rfl, rfl⟩ := s11
        simp only [Act.put, List.setIfInBounds_toArray, List.set_cons_zero, List.set_cons_succ]
        go_wp2_with fail
        go_meet
        exact ⟨_, _, rfl, rfl, (cell_of_blk m9 0).1, (cell_of_blk m9 1).1, (cell_of_blk m9 2).1, (cell_of_blk m10 0).1, (cell_of_blk m10 1).1, (cell_of_blk m10 2).1, hB⟩
    case rest =>
      obtain ⟨g, h, rfl, rfl, d0, d1, d2, e0, e1, e2, hbc⟩ := hcut
      have hx := (hbc.block _ (lt_of_blk HX6.out)).trans HX6.out
      have hy := (hbc.block _ (lt_of_blk HY6.out)).trans HY6.out
      have hp := (hbc.block _ (lt_of_blk HP6.out)).trans HP6.out
      have HBC := Lib.hid (bch HB6.out hbc)
      have HXC := Lib.hid hx
      have HYC := Lib.hid hy
      have HPC := Lib.hid hp
      have lg := World.block_lt_of_cell? _ _ d0
      have lh := World.block_lt_of_cell? _ _ e0
      simp only at lg lh
      clear hx hy hp hbc
      by_cases he : cr = dr ∧ ci = di ∧ ct = dt
      · have hxy := HI.out.2 he
        obtain ⟨rfl, rfl, rfl⟩ := he
        obtain ⟨rfl, rfl, rfl⟩ := hxy
        have hS : ∀ w', Below wc.heap.size wc w' → (w'.cell? ⟨w2.heap.size, 0, none⟩ = some (.int .i64 xr) ∧ w'.cell? ⟨w2.heap.size, 1, none⟩ = some (.int .i64 xi) ∧ w'.cell? ⟨w2.heap.size, 2, none⟩ = some (.int .i64 xt) ∧ w'.cell? ⟨w2.heap.size + 1, 0, none⟩ = some (.int .i64 xr) ∧ w'.cell? ⟨w2.heap.size + 1, 1, none⟩ = some (.int .i64 xi) ∧ w'.cell? ⟨w2.heap.size + 1, 2, none⟩ = some (.int .i64 xt) ∧ w'.cell? ⟨w5.heap.size, 0, none⟩ = some (.int .i64 pr) ∧ w'.cell? ⟨w5.heap.size, 1, none⟩ = some (.int .i64 pi) ∧ w'.cell? ⟨w5.heap.size, 2, none⟩ = some (.int .i64 pt) ∧ w'.cell? ⟨g, 0, none⟩ = some (.int .i64 cr) ∧ w'.cell? ⟨g, 1, none⟩ = some (.int .i64 ci) ∧ w'.cell? ⟨g, 2, none⟩ = some (.int .i64 ct) ∧ w'.cell? ⟨h, 0, none⟩ = some (.int .i64 cr) ∧ w'.cell? ⟨h, 1, none⟩ = some (.int .i64 ci) ∧ w'.cell? ⟨h, 2, none⟩ = some (.int .i64 ct) ∧ Below wc.heap.size wc w') := by
          intro w' hb
          have zx := (hb.block _ (lt_of_blk HXC.out)).trans HXC.out
          have zy := (hb.block _ (lt_of_blk HYC.out)).trans HYC.out
          have zp := (hb.block _ (lt_of_blk HPC.out)).trans HPC.out
          exact ⟨(cell_of_blk zx 0).1, (cell_of_blk zx 1).1, (cell_of_blk zx 2).1, (cell_of_blk zy 0).1, (cell_of_blk zy 1).1, (cell_of_blk zy 2).1, (cell_of_blk zp 0).1, (cell_of_blk zp 1).1, (cell_of_blk zp 2).1, (hb.cell (p := ⟨g, 0, none⟩) lg).trans d0, (hb.cell (p := ⟨g, 1, none⟩) lg).trans d1, (hb.cell (p := ⟨g, 2, none⟩) lg).trans d2, (hb.cell (p := ⟨h, 0, none⟩) lh).trans e0, (hb.cell (p := ⟨h, 1, none⟩) lh).trans e1, (hb.cell (p := ⟨h, 2, none⟩) lh).trans e2, hb⟩
        have HS := Lib.hid hS
        have keep : ∀ a b : World, Below wc.heap.size wc a → Below a.heap.size a b → Below wc.heap.size wc b := fun a b h k => bch h k
        have KEEP := Lib.hid keep
        have hwS := Below.refl wc.heap.size wc
        clear hS keep d0 d1 d2 e0 e1 e2
        go_wp2_with fail
        go_region_held3 (fun w' => w'.cell? ⟨w2.heap.size, 0, none⟩ = some (.int .i64 xr) ∧ w'.cell? ⟨w2.heap.size, 1, none⟩ = some (.int .i64 xi) ∧ w'.cell? ⟨w2.heap.size, 2, none⟩ = some (.int .i64 xt) ∧ w'.cell? ⟨w2.heap.size + 1, 0, none⟩ = some (.int .i64 xr) ∧ w'.cell? ⟨w2.heap.size + 1, 1, none⟩ = some (.int .i64 xi) ∧ w'.cell? ⟨w2.heap.size + 1, 2, none⟩ = some (.int .i64 xt) ∧ w'.cell? ⟨w5.heap.size, 0, none⟩ = some (.int .i64 pr) ∧ w'.cell? ⟨w5.heap.size, 1, none⟩ = some (.int .i64 pi) ∧ w'.cell? ⟨w5.heap.size, 2, none⟩ = some (.int .i64 pt) ∧ w'.cell? ⟨g, 0, none⟩ = some (.int .i64 cr) ∧ w'.cell? ⟨g, 1, none⟩ = some (.int .i64 ci) ∧ w'.cell? ⟨g, 2, none⟩ = some (.int .i64 ct) ∧ w'.cell? ⟨h, 0, none⟩ = some (.int .i64 cr) ∧ w'.cell? ⟨h, 1, none⟩ = some (.int .i64 ci) ∧ w'.cell? ⟨h, 2, none⟩ = some (.int .i64 ct) ∧ Below wc.heap.size wc w')
            (first | exact HS.out _ (by first | assumption | exact Below.drew (by assumption)))
            (first
              | (go_at_call 60; ((with_reducible refine (T1.out _).mono ?_); rintro e w8 ⟨rfl, hb⟩; have G1 := KEEP.out _ _ (by first | assumption | exact Below.drew (by assumption)) hb; clear hb))
              | (go_at_call 60; ((with_reducible refine (T2.out _).mono ?_); rintro e w9 ⟨rfl, hb⟩; have G2 := KEEP.out _ _ (by first | assumption | exact Below.drew (by assumption)) hb; clear hb))
              | (go_at_call 52; ((with_reducible refine (law36_lives _).mono ?_); rintro e w10 ⟨rfl, hb⟩; have G3 := KEEP.out _ _ (by first | assumption | exact Below.drew (by assumption)) hb; clear hb)))
        all_goals
          go_wp2_with fail
          go_ret
          exact ⟨rfl, bch HBC.out G3⟩
      · have hxy := fun h => he (HI.out.1 h)
        have q1 := eql_w xr xi xt yr yi yt hxy
        have q2 := eql_w cr ci ct dr di dt he
        clear he hxy
        have hS : ∀ w', Below wc.heap.size wc w' → (w'.cell? ⟨w2.heap.size, 0, none⟩ = some (.int .i64 xr) ∧ w'.cell? ⟨w2.heap.size, 1, none⟩ = some (.int .i64 xi) ∧ w'.cell? ⟨w2.heap.size, 2, none⟩ = some (.int .i64 xt) ∧ w'.cell? ⟨w2.heap.size + 1, 0, none⟩ = some (.int .i64 yr) ∧ w'.cell? ⟨w2.heap.size + 1, 1, none⟩ = some (.int .i64 yi) ∧ w'.cell? ⟨w2.heap.size + 1, 2, none⟩ = some (.int .i64 yt) ∧ w'.cell? ⟨w5.heap.size, 0, none⟩ = some (.int .i64 pr) ∧ w'.cell? ⟨w5.heap.size, 1, none⟩ = some (.int .i64 pi) ∧ w'.cell? ⟨w5.heap.size, 2, none⟩ = some (.int .i64 pt) ∧ w'.cell? ⟨g, 0, none⟩ = some (.int .i64 cr) ∧ w'.cell? ⟨g, 1, none⟩ = some (.int .i64 ci) ∧ w'.cell? ⟨g, 2, none⟩ = some (.int .i64 ct) ∧ w'.cell? ⟨h, 0, none⟩ = some (.int .i64 dr) ∧ w'.cell? ⟨h, 1, none⟩ = some (.int .i64 di) ∧ w'.cell? ⟨h, 2, none⟩ = some (.int .i64 dt) ∧ Below wc.heap.size wc w') := by
          intro w' hb
          have zx := (hb.block _ (lt_of_blk HXC.out)).trans HXC.out
          have zy := (hb.block _ (lt_of_blk HYC.out)).trans HYC.out
          have zp := (hb.block _ (lt_of_blk HPC.out)).trans HPC.out
          exact ⟨(cell_of_blk zx 0).1, (cell_of_blk zx 1).1, (cell_of_blk zx 2).1, (cell_of_blk zy 0).1, (cell_of_blk zy 1).1, (cell_of_blk zy 2).1, (cell_of_blk zp 0).1, (cell_of_blk zp 1).1, (cell_of_blk zp 2).1, (hb.cell (p := ⟨g, 0, none⟩) lg).trans d0, (hb.cell (p := ⟨g, 1, none⟩) lg).trans d1, (hb.cell (p := ⟨g, 2, none⟩) lg).trans d2, (hb.cell (p := ⟨h, 0, none⟩) lh).trans e0, (hb.cell (p := ⟨h, 1, none⟩) lh).trans e1, (hb.cell (p := ⟨h, 2, none⟩) lh).trans e2, hb⟩
        have HS := Lib.hid hS
        have keep : ∀ a b : World, Below wc.heap.size wc a → Below a.heap.size a b → Below wc.heap.size wc b := fun a b h k => bch h k
        have KEEP := Lib.hid keep
        have hwS := Below.refl wc.heap.size wc
        clear hS keep d0 d1 d2 e0 e1 e2
        go_wp2_with fail
        go_region_held3 (fun w' => w'.cell? ⟨w2.heap.size, 0, none⟩ = some (.int .i64 xr) ∧ w'.cell? ⟨w2.heap.size, 1, none⟩ = some (.int .i64 xi) ∧ w'.cell? ⟨w2.heap.size, 2, none⟩ = some (.int .i64 xt) ∧ w'.cell? ⟨w2.heap.size + 1, 0, none⟩ = some (.int .i64 yr) ∧ w'.cell? ⟨w2.heap.size + 1, 1, none⟩ = some (.int .i64 yi) ∧ w'.cell? ⟨w2.heap.size + 1, 2, none⟩ = some (.int .i64 yt) ∧ w'.cell? ⟨w5.heap.size, 0, none⟩ = some (.int .i64 pr) ∧ w'.cell? ⟨w5.heap.size, 1, none⟩ = some (.int .i64 pi) ∧ w'.cell? ⟨w5.heap.size, 2, none⟩ = some (.int .i64 pt) ∧ w'.cell? ⟨g, 0, none⟩ = some (.int .i64 cr) ∧ w'.cell? ⟨g, 1, none⟩ = some (.int .i64 ci) ∧ w'.cell? ⟨g, 2, none⟩ = some (.int .i64 ct) ∧ w'.cell? ⟨h, 0, none⟩ = some (.int .i64 dr) ∧ w'.cell? ⟨h, 1, none⟩ = some (.int .i64 di) ∧ w'.cell? ⟨h, 2, none⟩ = some (.int .i64 dt) ∧ Below wc.heap.size wc w')
            (first | exact HS.out _ (by first | assumption | exact Below.drew (by assumption)))
            (first
              | (go_at_call 60; ((with_reducible refine (T1.out _).mono ?_); rintro e w8 ⟨rfl, hb⟩; have G1 := KEEP.out _ _ (by first | assumption | exact Below.drew (by assumption)) hb; clear hb))
              | (go_at_call 60; ((with_reducible refine (T2.out _).mono ?_); rintro e w9 ⟨rfl, hb⟩; have G2 := KEEP.out _ _ (by first | assumption | exact Below.drew (by assumption)) hb; clear hb))
              | (go_at_call 52; ((with_reducible refine (law36_lives _).mono ?_); rintro e w10 ⟨rfl, hb⟩; have G3 := KEEP.out _ _ (by first | assumption | exact Below.drew (by assumption)) hb; clear hb)))
        all_goals
          go_wp2_with fail
          go_ret
          exact ⟨rfl, bch HBC.out G3⟩

set_option maxHeartbeats 8000000 in
theorem walk (A : Option Addr) (c : Nat) (xs : List Ev) (v0 : Value) (hv : v0 = .slice A xs.length c) (B : Option Addr) (d : Nat) (ys : List Ev) (v1 : Value) (hv1 : v1 = .slice B ys.length d)
    (hc : xs.length ≤ c) (hd : ys.length ≤ d) (w : World) (hA : EvSl w w.heap.size A xs) (hB : EvSl w w.heap.size B ys) :
    Calls Try.prog 12 #[v0, v1] w fun e w' => e = .returned (.bool true) ∧ Below w.heap.size w w' := by
  subst hv hv1
  by_cases hg : 100000 < xs.length ∨ 100000 < ys.length
  · exact great A c xs B d ys hg w
  · exact small A c xs B d ys (by omega) (by omega) hc hd w hA hB

theorem own : ownKnob Try.prog.godebug = none := by kernel_rfl
set_option maxRecDepth 100000 in
theorem lifted (os : Os) (started : os.Started) (H : Type) (enc : TypeId × Value → H) :
    ReturnsInHanded {} Try.checked os 12 .any (Rows.walkSeenSpec.pre6 enc Try.prog Try.f12 Rows.walkSeenRow.domain false) (Rows.walkSeenSpec.post enc Try.prog Try.f12 false true false false) := by
  refine returnsInHanded_of_change_sized (C := Try.checked) own started (by kernel_rfl) Try.func12
    (ChangeSpec.witness6 (enc := enc) (C := Try.checked) false ⟨#[], #[.slice none 0 0, .slice none 0 0], []⟩ 8 (by kernel_rfl) (by kernel_rfl) (by kernel_rfl) (by kernel_rfl)) ?_
  intro W base args ds gs before hval0 hW hcnd hsz _
  have hval : ∀ (j : Nat) t v, Try.f12.params[j]? = some t → args[j]? = some v → Value.okWide Try.prog W .any base t v := hval0
  have hW' := hW
  obtain ⟨p, q, hA0, hV, rfl, hfz, hnd⟩ := hW
  have hA : DataW.TrodAll enc Try.prog W 0 (fun _ => true) true Try.f12.params.toList args.toList ds p := hA0
  rw [Try.params12] at hA hval
  obtain ⟨v0, vs0, d0, ds0, p0, q0, hargs, rfl, rfl, h0, r0⟩ := trodAll_cons hA
  obtain ⟨v1, vs1, d1, ds1, p1, q1, rfl, rfl, rfl, h1, r1⟩ := trodAll_cons r0
  obtain ⟨rfl, rfl, rfl⟩ := trodAll_nil r1
  obtain rfl : args = #[v0, v1] := by cases args; simp_all
  obtain ⟨rfl, rfl⟩ := trodVars_none hV
  clear hA0 hval0
  obtain ⟨A, c, xs, hv, hc1, _, hc2, hE⟩ := open_events (hval 0 28 v0 rfl rfl) h0 (fun x hx => by simpa using hW'.lt x (by simp [hx])) (weights_of hsz 0 rfl rfl)
  obtain ⟨B, d, ys, hv1, hd1, _, hd2, hF⟩ := open_events (hval 1 28 v1 rfl rfl) h1 (fun x hx => by simpa using hW'.lt x (by simp [hx])) (weights_of hsz 1 rfl rfl)
  refine (walk A c xs v0 hv B d ys v1 hv1 hc1 hd1 W hE hF).mono fun e W' ⟨he, hg⟩ => ?_
  subst he
  exact ⟨_, rfl, law_post (by kernel_rfl) (by kernel_rfl) rfl (by kernel_rfl) Try.underlying4 rfl hW' hg⟩

theorem proved : Rows.WalkSeenSaid :=
  OpenClaim.holds_of_wide 12 Try.f12 rfl rfl rfl rfl rfl rfl rfl ⟨rfl, rfl, rfl, rfl, rfl⟩ rfl rfl rfl rfl rfl (by kernel_rfl) Try.func12 (by kernel_rfl)
    (of_decide_eq_true (by kernel_rfl)) (by unfold Func.isWrapper; first | (rw [if_pos (by decide +kernel)]; kernel_rfl) | (rw [if_neg (by decide +kernel)]; exact ⟨rfl, rfl⟩))
    (fun os started H enc _ => lifted os started H enc)
#print axioms proved
end Go.Proofs.Ytgkaempkapnfcaa.walkSeen
