/- The Go function IrMore returns true on every input and leaves its arguments as they were. No condition. -/
import Derived.Test.YtiaimceefkdchaaRows
import Derived.WalkKit
import Derived.ProofKit
import Derived.OpenShut
import Derived.Test.YtiaimceefkdchaaLawKit
import Derived.SizedLaws
import Derived.Test.YtiaimceefkdchaaRunL
namespace Go.Proofs.Ytiaimceefkdchaa.irMore
open Go.ChangeShapes Go.WideShapes Go.ChangeAt Go.RowKit
set_option linter.unusedVariables false

theorem far (p : Ir) (av bv : Value) (input : ByteArray) (budget more : Int) (h : budget < 0 ∨ (0 ≤ budget ∧ 3000 < budget) ∨ (0 ≤ budget ∧ budget ≤ 3000 ∧ more < 0) ∨ (0 ≤ budget ∧ budget ≤ 3000 ∧ 0 ≤ more ∧ 3000 < more)) (w : World) : Calls Try.prog 11 #[irVal p av bv, .string input, .int .i64 budget, .int .i64 more] w fun e w' => e = .returned (.bool true) ∧ Below w.heap.size w w' := by
  unfold irVal
  rcases h with h | ⟨h1, h⟩ | ⟨h1, h2, h⟩ | ⟨h1, h2, h3, h⟩
  all_goals
    go_enter Try.func11, Try.ntmps11
    go_wp2_with fail
    refine (law17_lives _).mono ?_
    rintro e w2 ⟨rfl, hb2⟩
    go_wp2_with fail
    go_ret
    exact ⟨rfl, bch (bnew _ _) hb2⟩
theorem more_law (p : Ir) (input : ByteArray) (b m : Int) (h0 : 0 ≤ b) (h1 : b ≤ 3000) (h2 : 0 ≤ m) (h3 : m ≤ 3000) :
    ((irRun p input b).2 = 20 ∧ (irRun p input b).1 = ⟨#[]⟩ ∧ ((irRun p input (b + m)).2 = 0 ∨ (irRun p input (b + m)).2 = 19 ∨ (irRun p input (b + m)).2 = 20)) ∨ ((irRun p input b).2 ≠ 20 ∧ irRun p input (b + m) = irRun p input b) := by
  by_cases he : irErr p = 0
  · by_cases hi : (input.size : Int) = p.inp
    · rw [irRun_go he hi h0 (by omega), irRun_go he hi (show 0 ≤ b + m by omega) (by omega), show (b + m).toNat = b.toNat + m.toNat by omega]
      rcases runP_more p m.toNat b.toNat 0 0 (startP p input) with h | h
      · rcases runP_errs p b.toNat 0 0 (startP p input) with g | g | g
        · right; exact ⟨by rw [g]; decide, h.symm⟩
        · right; exact ⟨by rw [g]; decide, h.symm⟩
        · left
          rw [← h, g]
          exact ⟨rfl, rfl, Or.inr (Or.inr rfl)⟩
      · left
        rw [h]
        refine ⟨rfl, rfl, ?_⟩
        rcases runP_errs p (b.toNat + m.toNat) 0 0 (startP p input) with g | g | g
        · exact Or.inl g
        · exact Or.inr (Or.inl g)
        · right; right; rw [g]
    · rw [irRun_size he hi, irRun_size he hi]
      right
      exact ⟨by decide, rfl⟩
  · rw [irRun_bad he, irRun_bad he]
    right
    refine ⟨?_, rfl⟩
    rcases irErr_vals p with h | h | h <;> rw [h] <;> decide
set_option maxRecDepth 100000 in
set_option maxHeartbeats 4000000 in
theorem near (p : Ir) (av bv : Value) (hf : p.fine) (input : ByteArray) (hsz : input.size ≤ maxLen) (budget more : Int) (h0 : 0 ≤ budget) (h1 : budget ≤ 3000) (h2 : 0 ≤ more) (h3 : more ≤ 3000) (w : World) (hI : IrRep w w.heap.size p av bv) :
    Calls Try.prog 11 #[irVal p av bv, .string input, .int .i64 budget, .int .i64 more] w fun e w' => e = .returned (.bool true) ∧ Below w.heap.size w w' := by
  have HR := Lib.hid (fun b W h => ir_Run p av bv hf input hsz b W h)
  have hml := more_law p input budget more h0 h1 h2 h3
  have HRA := Lib.hid (fun W h => HR.out budget W h)
  have HRB := Lib.hid (fun W h => HR.out (budget + more) W h)
  have HI := Lib.hid hI
  unfold maxLen at hsz
  generalize irRun p input budget = r1 at *
  generalize irRun p input (budget + more) = r2 at *
  obtain ⟨s1, e1⟩ := r1
  obtain ⟨s2, e2⟩ := r2
  unfold irVal RunPost at *
  (try simp only at hml)
  (try simp only at HRA)
  (try simp only at HRB)
  have hx := heap_alloc_new w (.cells #[.int .i64 p.temps, av, bv, .int .i64 p.inp, .int .i64 p.out] 25)
  have hb := bnew w (.cells #[.int .i64 p.temps, av, bv, .int .i64 p.inp, .int .i64 p.out] 25)
  have HIW := Lib.hid (HI.out.next hb)
  clear HR hI
  rcases hml with ⟨rfl, rfl, hf2⟩ | ⟨hne, heq⟩
  · rcases hf2 with rfl | rfl | rfl
    all_goals
      go_enter Try.func11, Try.ntmps11
      go_wp2_with fail
      generalize w.alloc (.cells #[.int .i64 p.temps, av, bv, .int .i64 p.inp, .int .i64 p.out] 25) = w1 at *
      have HX := Lib.hid hx
      have HB := Lib.hid hb
      refine (HRA.out _ HIW.out).mono ?_
      rintro e w2 ⟨rfl, hb2⟩
      have hx2 := (hb2.block _ (lt_of_blk HX.out)).trans HX.out
      have c0 : w2.cell? ⟨w.heap.size, 0, none⟩ = some (.int .i64 p.temps) := (cell_of_blk hx2 0).1
      have c1 : w2.cell? ⟨w.heap.size, 1, none⟩ = some av := (cell_of_blk hx2 1).1
      have c2 : w2.cell? ⟨w.heap.size, 2, none⟩ = some bv := (cell_of_blk hx2 2).1
      have c3 : w2.cell? ⟨w.heap.size, 3, none⟩ = some (.int .i64 p.inp) := (cell_of_blk hx2 3).1
      have c4 : w2.cell? ⟨w.heap.size, 4, none⟩ = some (.int .i64 p.out) := (cell_of_blk hx2 4).1
      have HIW2 := Lib.hid (HIW.out.next hb2)
      have HB2 := Lib.hid (bch HB.out hb2)
      clear hx hb hb2 hx2
      go_wp2_with fail
      refine (HRB.out _ HIW2.out).mono ?_
      rintro e w3 ⟨rfl, hb3⟩
      have HB3 := Lib.hid (bch HB2.out hb3)
      clear hb3
      go_wp2_with fail
      refine (law17_lives _).mono ?_
      rintro e w4 ⟨rfl, hb4⟩
      have HB4 := Lib.hid (bch HB3.out hb4)
      clear hb4
      go_wp2_with fail
      go_ret
      exact ⟨rfl, HB4.out⟩
  · injection heq with q1 q2
    subst q1 q2
    have q20 : (e2 == 20) = false := by rw [beq_eq_false_iff_ne]; exact hne
    have qee : (e2 == e2) = true := by simp
    clear hne
    go_enter Try.func11, Try.ntmps11
    go_wp2_with fail
    generalize w.alloc (.cells #[.int .i64 p.temps, av, bv, .int .i64 p.inp, .int .i64 p.out] 25) = w1 at *
    have HX := Lib.hid hx
    have HB := Lib.hid hb
    refine (HRA.out _ HIW.out).mono ?_
    rintro e w2 ⟨rfl, hb2⟩
    have hx2 := (hb2.block _ (lt_of_blk HX.out)).trans HX.out
    have c0 : w2.cell? ⟨w.heap.size, 0, none⟩ = some (.int .i64 p.temps) := (cell_of_blk hx2 0).1
    have c1 : w2.cell? ⟨w.heap.size, 1, none⟩ = some av := (cell_of_blk hx2 1).1
    have c2 : w2.cell? ⟨w.heap.size, 2, none⟩ = some bv := (cell_of_blk hx2 2).1
    have c3 : w2.cell? ⟨w.heap.size, 3, none⟩ = some (.int .i64 p.inp) := (cell_of_blk hx2 3).1
    have c4 : w2.cell? ⟨w.heap.size, 4, none⟩ = some (.int .i64 p.out) := (cell_of_blk hx2 4).1
    have HIW2 := Lib.hid (HIW.out.next hb2)
    have HB2 := Lib.hid (bch HB.out hb2)
    clear hx hb hb2 hx2
    go_wp2_with fail
    refine (HRB.out _ HIW2.out).mono ?_
    rintro e w3 ⟨rfl, hb3⟩
    have HB3 := Lib.hid (bch HB2.out hb3)
    clear hb3
    go_wp2_with fail
    refine (law17_lives _).mono ?_
    rintro e w4 ⟨rfl, hb4⟩
    have HB4 := Lib.hid (bch HB3.out hb4)
    clear hb4
    go_wp2_with fail
    go_ret
    exact ⟨rfl, HB4.out⟩
set_option maxHeartbeats 8000000 in
theorem walk (p : Ir) (av bv : Value) (v0 : Value) (hv : v0 = irVal p av bv) (hf : p.fine) (input : ByteArray) (hsz : input.size ≤ maxLen) (budget : Int) (more : Int) (w : World) (hI : IrRep w w.heap.size p av bv) :
    Calls Try.prog 11 #[v0, .string input, .int .i64 budget, .int .i64 more] w fun e w' => e = .returned (.bool true) ∧ Below w.heap.size w w' := by
  subst hv
  by_cases h : 0 ≤ budget ∧ budget ≤ 3000 ∧ 0 ≤ more ∧ more ≤ 3000
  · exact near p av bv hf input hsz budget more h.1 h.2.1 h.2.2.1 h.2.2.2 w hI
  · exact far p av bv input budget more (by omega) w

theorem own : ownKnob Try.prog.godebug = none := by kernel_rfl
set_option maxRecDepth 100000 in
theorem lifted (os : Os) (started : os.Started) (H : Type) (enc : TypeId × Value → H) :
    ReturnsInHanded {} Try.checked os 11 .any (Rows.irMoreSpec.pre6 enc Try.prog Try.f11 Rows.irMoreRow.domain false) (Rows.irMoreSpec.post enc Try.prog Try.f11 false true false false) := by
  refine returnsInHanded_of_change_sized (C := Try.checked) own started (by kernel_rfl) Try.func11
    (ChangeSpec.witness6 (enc := enc) (C := Try.checked) false ⟨#[], #[.agg #[.int .i64 0, .slice none 0 0, .slice none 0 0, .int .i64 0, .int .i64 0], .string ⟨#[]⟩, .int .i64 0, .int .i64 0], []⟩ 8 (by kernel_rfl) (by kernel_rfl) (by kernel_rfl) (by kernel_rfl)) ?_
  intro W base args ds gs before hval0 hW hcnd hsz _
  have hval : ∀ (j : Nat) t v, Try.f11.params[j]? = some t → args[j]? = some v → Value.okWide Try.prog W .any base t v := hval0
  have hW' := hW
  obtain ⟨p, q, hA0, hV, rfl, hfz, hnd⟩ := hW
  have hA : DataW.TrodAll enc Try.prog W 0 (fun _ => true) true Try.f11.params.toList args.toList ds p := hA0
  rw [Try.params11] at hA hval
  obtain ⟨v0, vs0, d0, ds0, p0, q0, hargs, rfl, rfl, h0, r0⟩ := trodAll_cons hA
  obtain ⟨v1, vs1, d1, ds1, p1, q1, rfl, rfl, rfl, h1, r1⟩ := trodAll_cons r0
  obtain ⟨v2, vs2, d2, ds2, p2, q2, rfl, rfl, rfl, h2, r2⟩ := trodAll_cons r1
  obtain ⟨v3, vs3, d3, ds3, p3, q3, rfl, rfl, rfl, h3, r3⟩ := trodAll_cons r2
  obtain ⟨rfl, rfl, rfl⟩ := trodAll_nil r3
  obtain rfl : args = #[v0, v1, v2, v3] := by cases args; simp_all
  obtain ⟨rfl, rfl⟩ := trodVars_none hV
  clear hA0 hval0
  obtain ⟨p, av, bv, hv, hI, hf⟩ := open_ir (hval 0 25 v0 rfl rfl) h0 (fun x hx => by simpa using hW'.lt x (by simp [hx])) (weights_of hsz 0 rfl rfl)
  obtain ⟨input, rfl, rfl, rfl, w1⟩ := Go.ChangeMaps.open_string Try.underlying9 (hval 1 9 v1 rfl rfl) h1
  obtain ⟨budget, rfl, rfl, rfl, w2⟩ := open_int Try.underlying3 (hval 2 3 v2 rfl rfl) h2
  obtain ⟨more, rfl, rfl, rfl, w3⟩ := open_int Try.underlying3 (hval 3 3 v3 rfl rfl) h3
  refine (walk p av bv v0 hv hf input w1 budget more W hI).mono fun e W' ⟨he, hg⟩ => ?_
  subst he
  exact ⟨_, rfl, law_post (by kernel_rfl) (by kernel_rfl) rfl (by kernel_rfl) Try.underlying4 rfl hW' hg⟩

theorem proved : Rows.IrMoreSaid :=
  OpenClaim.holds_of_wide 11 Try.f11 rfl rfl rfl rfl rfl rfl rfl ⟨rfl, rfl, rfl, rfl, rfl⟩ rfl rfl rfl rfl rfl (by kernel_rfl) Try.func11 (by kernel_rfl)
    (of_decide_eq_true (by kernel_rfl)) (by unfold Func.isWrapper; first | (rw [if_pos (by decide +kernel)]; kernel_rfl) | (rw [if_neg (by decide +kernel)]; exact ⟨rfl, rfl⟩))
    (fun os started H enc _ => lifted os started H enc)
#print axioms proved
end Go.Proofs.Ytiaimceefkdchaa.irMore
