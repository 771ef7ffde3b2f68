/- The Go function WalkJoins returns true on every input and leaves its arguments as they were. No condition. -/
import Derived.Test.YtgkaempkapnfcaaRows
import Derived.WalkKit
import Derived.ProofKit
import Derived.OpenShut
import Derived.Test.YtgkaempkapnfcaaLawKit
import Derived.SizedLaws
import Derived.Test.YtgkaempkapnfcaaEvOpen
import Derived.Test.YtgkaempkapnfcaaLives36
import Derived.Test.YtgkaempkapnfcaaApp
import Derived.Test.YtgkaempkapnfcaaJoinM
import Derived.Test.YtgkaempkapnfcaaBack
namespace Go.Proofs.Ytgkaempkapnfcaa.walkJoins
open Go.ChangeShapes Go.WideShapes Go.ChangeAt Go.RowKit
set_option linter.unusedVariables false

theorem great (A : Option Addr) (c : Nat) (xs : List Ev) (B : Option Addr) (d : Nat) (ys : List Ev) (hg : 100000 < xs.length ∨ 100000 < ys.length) (w : World) :
    Calls Try.prog 10 #[.slice A xs.length c, .slice B ys.length d] w fun e w' => e = .returned (.bool true) ∧ Below w.heap.size w w' := by
  by_cases h1 : 100000 < xs.length
  · have q1 : (100000 : Int) < (xs.length : Int) := by omega
    clear h1 hg
    go_enter Try.func10, Try.ntmps10
    go_wp2_with (go_at_call 52; refine (law36_lives _).mono ?_; rintro e w1 ⟨rfl, hb1⟩)
    go_ret
    exact ⟨rfl, hb1⟩
  · have q1 : (xs.length : Int) ≤ 100000 := by omega
    have q2 : (100000 : Int) < (ys.length : Int) := by omega
    clear h1 hg
    go_enter Try.func10, Try.ntmps10
    go_wp2_with (go_at_call 52; refine (law36_lives _).mono ?_; rintro e w1 ⟨rfl, hb1⟩)
    go_ret
    exact ⟨rfl, hb1⟩
/-- What the calls of the law's last statement tell. -/
def JoinTells (xs ys : List Ev) (xr xi xt yr yi yt zr zi zt br bi bt : Int) : Prop :=
  (wkVal (wkOf xs) = .agg #[.int .i64 xr, .int .i64 xi, .int .i64 xt] ∧ wkVal (wkOf ys) = .agg #[.int .i64 yr, .int .i64 yi, .int .i64 yt] ∧ wkVal (wkOf (xs ++ ys)) = .agg #[.int .i64 zr, .int .i64 zi, .int .i64 zt]) ∧
  (∀ W, Calls Try.prog 60 #[.agg #[.int .i64 xr, .int .i64 xi, .int .i64 xt], .agg #[.int .i64 yr, .int .i64 yi, .int .i64 yt]] W fun e W' => e = .returned (.agg #[.int .i64 zr, .int .i64 zi, .int .i64 zt]) ∧ Below W.heap.size W W') ∧ (∀ W, Calls Try.prog 61 #[.agg #[.int .i64 xr, .int .i64 xi, .int .i64 xt]] W fun e W' => e = .returned (.agg #[.int .i64 br, .int .i64 bi, .int .i64 bt]) ∧ Below W.heap.size W W') ∧ (∀ W, Calls Try.prog 60 #[.agg #[.int .i64 xr, .int .i64 xi, .int .i64 xt], .agg #[.int .i64 br, .int .i64 bi, .int .i64 bt]] W fun e W' => e = .returned (.agg #[.int .i64 0, .int .i64 0, .int .i64 0]) ∧ Below W.heap.size W W') ∧ (∀ W, Calls Try.prog 60 #[.agg #[.int .i64 br, .int .i64 bi, .int .i64 bt], .agg #[.int .i64 xr, .int .i64 xi, .int .i64 xt]] W fun e W' => e = .returned (.agg #[.int .i64 0, .int .i64 0, .int .i64 0]) ∧ Below W.heap.size W W')
theorem joins_tell (xs ys : List Ev) (hx : xs.length ≤ 100000) (hy : ys.length ≤ 100000) : ∃ xr xi xt yr yi yt zr zi zt br bi bt, JoinTells xs ys xr xi xt yr yi yt zr zi zt br bi bt := by
  have mx := wkOf_may xs (by omega)
  have my := wkOf_may ys (by omega)
  have hb := back_bound (wkOf xs) 1099511627776 ⟨mx.1, mx.2.1, mx.2.2.1, mx.2.2.2.1⟩ (by decide)
  have mb : (wkOf xs).back.may := ⟨hb.1, hb.2.1, hb.2.2.1, hb.2.2.2.1, hb.2.2.2.2⟩
  have t1 := fun W => walk_Then_yes (wkOf xs) (wkOf ys) mx my W
  have t2 := fun W => walk_Back_yes (wkOf xs) mx W
  have t3 := fun W => walk_Then_yes (wkOf xs) (wkOf xs).back mx mb W
  have t4 := fun W => walk_Then_yes (wkOf xs).back (wkOf xs) mb mx W
  rw [then_back _ mx.2.2.2.2] at t3
  rw [back_then _ mx.2.2.2.2] at t4
  rw [← wkOf_append] at t1
  exact ⟨_, _, _, _, _, _, _, _, _, _, _, _, ⟨rfl, rfl, rfl⟩, t1, t2, t3, t4⟩
set_option maxHeartbeats 4000000 in
theorem small (A : Option Addr) (c : Nat) (xs : List Ev) (B : Option Addr) (d : Nat) (ys : List Ev) (hx : xs.length ≤ 100000) (hy : ys.length ≤ 100000) (w : World) (hA : EvSl w w.heap.size A xs) (hB : EvSl w w.heap.size B ys) :
    Calls Try.prog 10 #[.slice A xs.length c, .slice B ys.length d] w fun e w' => e = .returned (.bool true) ∧ Below w.heap.size w w' := by
  obtain ⟨xr, xi, xt, yr, yi, yt, zr, zi, zt, br, bi, bt, ⟨ex, ey, ez⟩, t1, t2, t3, t4⟩ := joins_tell xs ys hx hy
  have EX := Lib.hid ex
  have EY := Lib.hid ey
  have EZ := Lib.hid ez
  have T1 := Lib.hid t1
  have T2 := Lib.hid t2
  have T3 := Lib.hid t3
  have T4 := Lib.hid t4
  clear ex ey ez t1 t2 t3 t4
  have q1 : (xs.length : Int) ≤ 100000 := by omega
  have q2 : (ys.length : Int) ≤ 100000 := by omega
  have HA := Lib.hid hA
  have HBB := Lib.hid hB
  clear hA hB
  go_enter Try.func10, Try.ntmps10
  go_wp2_with fail
  refine (walk_Of A c xs _ HA.out (by omega)).mono ?_
  rintro e w1 ⟨rfl, hb1⟩
  rw [EX.out]
  have HB1 := Lib.hid hb1
  have HA1 := Lib.hid ((HA.out.below hb1 (Nat.le_refl _)).more hb1.size)
  have HBB1 := Lib.hid ((HBB.out.below hb1 (Nat.le_refl _)).more hb1.size)
  clear hb1
  go_wp2_with fail
  refine (walk_Of B d ys _ HBB1.out (by omega)).mono ?_
  rintro e w2 ⟨rfl, hb2⟩
  rw [EY.out]
  have HB2 := Lib.hid (bch HB1.out hb2)
  have HA2 := Lib.hid ((HA1.out.below hb2 (Nat.le_refl _)).more hb2.size)
  have HBB2 := Lib.hid ((HBB1.out.below hb2 (Nat.le_refl _)).more hb2.size)
  clear hb2
  go_upto_region 4 with (fail)
  obtain ⟨hs3, hb3, hx3, hy3⟩ := heap_twob w2 (.cells #[.int .i64 xr, .int .i64 xi, .int .i64 xt] 30) (.cells #[.int .i64 yr, .int .i64 yi, .int .i64 yt] 30)
  generalize (w2.alloc (.cells #[.int .i64 xr, .int .i64 xi, .int .i64 xt] 30)).alloc (.cells #[.int .i64 yr, .int .i64 yi, .int .i64 yt] 30) = W3 at *
  have HA3 := (HA2.out.below hb3 (Nat.le_refl _)).more hb3.size
  have HBB3 := (HBB2.out.below hb3 (Nat.le_refl _)).more hb3.size
  have HB3 := Lib.hid (bch HB2.out hb3)
  have hO := World.ownsRow_made (base := W3.heap.size) (e := 55) (size := 4) W3 #[] 0 (Nat.le_refl _) (by decide) rfl
  have hn4 : Below W3.heap.size W3 (W3.alloc (.cells #[] 55)) := (Below.refl _ _).alloc (Nat.le_refl _) _
  obtain ⟨v4, w5, hr4, ho4, hg4, hat4⟩ := run_append_ev (W3.alloc (.cells #[] 55)) W3.heap.size _ 0 [] hO A c xs (HA3.below hn4 (Nat.le_refl _)) (by omega) hn4.size
  have hn5 : Below W3.heap.size W3 w5 := hn4.grown hg4 hn4.size (by intro k hk; simp [Value.ownBlock] at hk; omega)
  obtain ⟨v5, w6, hr5, ho5, hg5, hat5⟩ := run_append_ev w5 W3.heap.size v4 (0 + xs.length) ([] ++ evFlat xs) ho4 B d ys (HBB3.below hn5 (Nat.le_refl _)) (by omega) hn5.size
  have hn6 : Below W3.heap.size W3 w6 := hn5.grown hg5 hn5.size (by
    intro k hk
    rcases hat4 with h | h
    · rw [h] at hk; simp [Value.ownBlock] at hk; omega
    · rw [h] at hk; simp at hk; omega)
  have hv5 : ∃ A5 c5, v5 = .slice A5 (xs ++ ys).length c5 := by
    rcases ho5.2 with ⟨e, h0⟩ | ⟨g, cap, cur, e, _⟩
    · exact ⟨none, 0, by rw [e, List.length_append]; congr 1; omega⟩
    · exact ⟨_, _, by rw [e, List.length_append]; congr 1; omega⟩
  obtain ⟨A5, c5, rfl⟩ := hv5
  have ho6 : w6.ownsRow W3.heap.size 55 4 (.slice A5 (xs ++ ys).length c5) (xs ++ ys).length (evFlat (xs ++ ys)) := by
    have e : evFlat (xs ++ ys) = [] ++ evFlat xs ++ evFlat ys := by simp [evFlat]
    rw [e]
    have e2 : (xs ++ ys).length = 0 + xs.length + ys.length := by rw [List.length_append]; omega
    rw [e2] at ho5 ⊢
    exact ho5
  have HE6 := Lib.hid (evSl_own ho6)
  have HN6 := Lib.hid hn6
  have HX3 := Lib.hid hx3
  have HY3 := Lib.hid hy3
  have HS3 := Lib.hid hs3
  clear HA3 HBB3 hO ho4 hg4 hat4 hn5 ho5 hg5 hat5 hn6 ho6 hn4 hb3 hx3 hy3 hs3
  have HR4 := Lib.hid hr4
  have HR5 := Lib.hid hr5
  clear hr4 hr5
  generalize hL : xs ++ ys = L at *
  go_wp2_with (first
    | (at_builtin; refine wpList_app rfl (.tmp 21) (.tmp 22) 28 rfl HR4.out rfl rfl ?_)
    | (at_builtin; refine wpList_app rfl (.tmp 23) (.tmp 24) 28 rfl HR5.out rfl rfl ?_))
  refine (walk_Of A5 c5 L _ HE6.out (by rw [← hL, List.length_append]; omega)).mono ?_
  rintro e w7 ⟨rfl, hb7⟩
  rw [EZ.out]
  have hn7 := bch HN6.out hb7
  clear hb7 hL
  go_wp2_with fail
  have hx := (hn7.block _ (by have := HS3.out; omega)).trans HX3.out
  have hy := (hn7.block _ (by have := HS3.out; omega)).trans HY3.out
  have hx8 := (Below.heap_alloc w7 (.cells #[.int .i64 zr, .int .i64 zi, .int .i64 zt] 30) _ (lt_of_blk hx)).trans hx
  have hy8 := (Below.heap_alloc w7 (.cells #[.int .i64 zr, .int .i64 zi, .int .i64 zt] 30) _ (lt_of_blk hy)).trans hy
  have hz8 := heap_alloc_new w7 (.cells #[.int .i64 zr, .int .i64 zi, .int .i64 zt] 30)
  have HB8 := Lib.hid (bal (bch HB3.out hn7) (.cells #[.int .i64 zr, .int .i64 zi, .int .i64 zt] 30))
  generalize w7.alloc (.cells #[.int .i64 zr, .int .i64 zi, .int .i64 zt] 30) = W8 at *
  have HX8 := Lib.hid hx8
  have HY8 := Lib.hid hy8
  have HZ8 := Lib.hid hz8
  clear hx hy hx8 hy8 hz8 hn7
  have hS : ∀ w', Below W8.heap.size W8 w' → (w'.cell? ⟨w2.heap.size, 0, none⟩ = some (.int .i64 xr) ∧ w'.cell? ⟨w2.heap.size, 1, none⟩ = some (.int .i64 xi) ∧ w'.cell? ⟨w2.heap.size, 2, none⟩ = some (.int .i64 xt) ∧ w'.cell? ⟨w2.heap.size + 1, 0, none⟩ = some (.int .i64 yr) ∧ w'.cell? ⟨w2.heap.size + 1, 1, none⟩ = some (.int .i64 yi) ∧ w'.cell? ⟨w2.heap.size + 1, 2, none⟩ = some (.int .i64 yt) ∧ w'.cell? ⟨w7.heap.size, 0, none⟩ = some (.int .i64 zr) ∧ w'.cell? ⟨w7.heap.size, 1, none⟩ = some (.int .i64 zi) ∧ w'.cell? ⟨w7.heap.size, 2, none⟩ = some (.int .i64 zt) ∧ Below W8.heap.size W8 w') := by
    intro w' hb
    have y0q := (hb.block _ (lt_of_blk HX8.out)).trans HX8.out
    have y1q := (hb.block _ (lt_of_blk HY8.out)).trans HY8.out
    have y2q := (hb.block _ (lt_of_blk HZ8.out)).trans HZ8.out
    exact ⟨(cell_of_blk y0q 0).1, (cell_of_blk y0q 1).1, (cell_of_blk y0q 2).1, (cell_of_blk y1q 0).1, (cell_of_blk y1q 1).1, (cell_of_blk y1q 2).1, (cell_of_blk y2q 0).1, (cell_of_blk y2q 1).1, (cell_of_blk y2q 2).1, hb⟩
  have HS := Lib.hid hS
  have keep : ∀ a b : World, Below W8.heap.size W8 a → Below a.heap.size a b → Below W8.heap.size W8 b := fun a b h k => bch h k
  have KEEP := Lib.hid keep
  have hwS := Below.refl W8.heap.size W8
  clear hS keep
  go_region_held3 (fun w' => w'.cell? ⟨w2.heap.size, 0, none⟩ = some (.int .i64 xr) ∧ w'.cell? ⟨w2.heap.size, 1, none⟩ = some (.int .i64 xi) ∧ w'.cell? ⟨w2.heap.size, 2, none⟩ = some (.int .i64 xt) ∧ w'.cell? ⟨w2.heap.size + 1, 0, none⟩ = some (.int .i64 yr) ∧ w'.cell? ⟨w2.heap.size + 1, 1, none⟩ = some (.int .i64 yi) ∧ w'.cell? ⟨w2.heap.size + 1, 2, none⟩ = some (.int .i64 yt) ∧ w'.cell? ⟨w7.heap.size, 0, none⟩ = some (.int .i64 zr) ∧ w'.cell? ⟨w7.heap.size, 1, none⟩ = some (.int .i64 zi) ∧ w'.cell? ⟨w7.heap.size, 2, none⟩ = some (.int .i64 zt) ∧ Below W8.heap.size W8 w')
      (first | exact HS.out _ (by first | assumption | exact Below.drew (by assumption)))
      (first
        | (go_at_call 60; ((with_reducible refine (T1.out _).mono ?_); rintro e w8 ⟨rfl, hb⟩; have G1 := KEEP.out _ _ (by first | assumption | exact Below.drew (by assumption)) hb; clear hb))
        | (go_at_call 61; ((with_reducible refine (T2.out _).mono ?_); rintro e w9 ⟨rfl, hb⟩; have G2 := KEEP.out _ _ (by first | assumption | exact Below.drew (by assumption)) hb; clear hb))
        | (go_at_call 60; ((with_reducible refine (T3.out _).mono ?_); rintro e w10 ⟨rfl, hb⟩; have G3 := KEEP.out _ _ (by first | assumption | exact Below.drew (by assumption)) hb; clear hb))
        | (go_at_call 60; ((with_reducible refine (T4.out _).mono ?_); rintro e w11 ⟨rfl, hb⟩; have G4 := KEEP.out _ _ (by first | assumption | exact Below.drew (by assumption)) hb; clear hb))
        | (go_at_call 52; ((with_reducible refine (law36_lives _).mono ?_); rintro e w12 ⟨rfl, hb⟩; have G5 := KEEP.out _ _ (by first | assumption | exact Below.drew (by assumption)) hb; clear hb)))
  all_goals
    go_wp2_with fail
    go_ret
    exact ⟨rfl, bch HB8.out G5⟩
set_option maxHeartbeats 8000000 in
theorem walk (A : Option Addr) (c : Nat) (xs : List Ev) (v0 : Value) (hv : v0 = .slice A xs.length c) (B : Option Addr) (d : Nat) (ys : List Ev) (v1 : Value) (hv1 : v1 = .slice B ys.length d)
    (hn : xs.length ≤ 4398046511104) (hm : ys.length ≤ 4398046511104) (w : World) (hA : EvSl w w.heap.size A xs) (hB : EvSl w w.heap.size B ys) :
    Calls Try.prog 10 #[v0, v1] w fun e w' => e = .returned (.bool true) ∧ Below w.heap.size w w' := by
  subst hv hv1
  by_cases hg : 100000 < xs.length ∨ 100000 < ys.length
  · exact great A c xs B d ys hg w
  · exact small A c xs B d ys (by omega) (by omega) w hA hB

theorem own : ownKnob Try.prog.godebug = none := by kernel_rfl
set_option maxRecDepth 100000 in
theorem lifted (os : Os) (started : os.Started) (H : Type) (enc : TypeId × Value → H) :
    ReturnsInHanded {} Try.checked os 10 .any (Rows.walkJoinsSpec.pre6 enc Try.prog Try.f10 Rows.walkJoinsRow.domain false) (Rows.walkJoinsSpec.post enc Try.prog Try.f10 false true false false) := by
  refine returnsInHanded_of_change_sized (C := Try.checked) own started (by kernel_rfl) Try.func10
    (ChangeSpec.witness6 (enc := enc) (C := Try.checked) false ⟨#[], #[.slice none 0 0, .slice none 0 0], []⟩ 8 (by kernel_rfl) (by kernel_rfl) (by kernel_rfl) (by kernel_rfl)) ?_
  intro W base args ds gs before hval0 hW hcnd hsz _
  have hval : ∀ (j : Nat) t v, Try.f10.params[j]? = some t → args[j]? = some v → Value.okWide Try.prog W .any base t v := hval0
  have hW' := hW
  obtain ⟨p, q, hA0, hV, rfl, hfz, hnd⟩ := hW
  have hA : DataW.TrodAll enc Try.prog W 0 (fun _ => true) true Try.f10.params.toList args.toList ds p := hA0
  rw [Try.params10] at hA hval
  obtain ⟨v0, vs0, d0, ds0, p0, q0, hargs, rfl, rfl, h0, r0⟩ := trodAll_cons hA
  obtain ⟨v1, vs1, d1, ds1, p1, q1, rfl, rfl, rfl, h1, r1⟩ := trodAll_cons r0
  obtain ⟨rfl, rfl, rfl⟩ := trodAll_nil r1
  obtain rfl : args = #[v0, v1] := by cases args; simp_all
  obtain ⟨rfl, rfl⟩ := trodVars_none hV
  clear hA0 hval0
  obtain ⟨A, c, xs, hv, hc1, _, hc2, hE⟩ := open_events (hval 0 28 v0 rfl rfl) h0 (fun x hx => by simpa using hW'.lt x (by simp [hx])) (weights_of hsz 0 rfl rfl)
  obtain ⟨B, d, ys, hv1, hd1, _, hd2, hF⟩ := open_events (hval 1 28 v1 rfl rfl) h1 (fun x hx => by simpa using hW'.lt x (by simp [hx])) (weights_of hsz 1 rfl rfl)
  refine (walk A c xs v0 hv B d ys v1 hv1 (by omega) (by omega) W hE hF).mono fun e W' ⟨he, hg⟩ => ?_
  subst he
  exact ⟨_, rfl, law_post (by kernel_rfl) (by kernel_rfl) rfl (by kernel_rfl) Try.underlying4 rfl hW' hg⟩

theorem proved : Rows.WalkJoinsSaid :=
  OpenClaim.holds_of_wide 10 Try.f10 rfl rfl rfl rfl rfl rfl rfl ⟨rfl, rfl, rfl, rfl, rfl⟩ rfl rfl rfl rfl rfl (by kernel_rfl) Try.func10 (by kernel_rfl)
    (of_decide_eq_true (by kernel_rfl)) (by unfold Func.isWrapper; first | (rw [if_pos (by decide +kernel)]; kernel_rfl) | (rw [if_neg (by decide +kernel)]; exact ⟨rfl, rfl⟩))
    (fun os started H enc _ => lifted os started H enc)
#print axioms proved
end Go.Proofs.Ytgkaempkapnfcaa.walkJoins
