/- The Go function MemoryPlays returns true on every input and leaves its arguments as they were. No condition. -/
import Derived.Test.YtgipelnjbpkfjaaRows
import Derived.WalkKit
import Derived.ProofKit
import Derived.OpenShut
import Derived.Test.YtgipelnjbpkfjaaLawKit
import Derived.SizedLaws
import Derived.Test.YtgipelnjbpkfjaaRefPlay
namespace Go.Proofs.Ytgipelnjbpkfjaa.memoryPlays
open Go.ChangeShapes Go.WideShapes Go.ChangeAt Go.RowKit
set_option linter.unusedVariables false

theorem great (i o r : Int) (flash input : ByteArray) (A : Option Addr) (c : Nat) (xs : List St) (hl : 60 < xs.length) (w : World) : Calls Try.prog 10 #[startVal i o r flash input, .slice A xs.length c] w fun e w' => e = .returned (.bool true) ∧ Below w.heap.size w w' := by
  have q1 : (60 : Int) < (xs.length : Int) := by omega
  unfold startVal
  clear hl
  go_enter Try.func10, Try.ntmps10
  go_wp2_with (go_at_call 28; refine (law07_lives _).mono ?_; rintro e w1 ⟨rfl, hb1⟩)
  go_ret
  exact ⟨rfl, bch ((Below.refl _ _).alloc (Nat.le_refl _) _) hb1⟩
theorem no (i o r : Int) (hr : -9223372036854775808 ≤ r ∧ r ≤ 9223372036854775807) (flash input : ByteArray) (A : Option Addr) (c : Nat) (xs : List St) (hl : xs.length ≤ 60) (he : newErr i o r flash.size input.size ≠ 0) (w : World) : Calls Try.prog 10 #[startVal i o r flash input, .slice A xs.length c] w fun e w' => e = .returned (.bool true) ∧ Below w.heap.size w w' := by
  have q1 : (xs.length : Int) ≤ 60 := by omega
  have HN := Lib.hid (mem_New_no i o r flash input he)
  have HRN := Lib.hid (fun W => ref07_New i o r flash input hr W)
  have hq : (newErr i o r flash.size input.size != 0) = true := by rw [bne_iff_ne]; exact he
  generalize newErr i o r flash.size input.size = ne at *
  unfold startVal at *
  clear hl he hr
  go_enter Try.func10, Try.ntmps10
  go_wp2_with fail
  refine (HN.out _).mono ?_
  rintro e w1 ⟨rfl, hb1⟩
  have hx := (hb1.block w.heap.size (by simp)).trans (heap_alloc_new w _)
  have c0 : w1.cell? ⟨w.heap.size, 0, none⟩ = some (.int .i64 i) := (cell_of_blk hx 0).1
  have c1 : w1.cell? ⟨w.heap.size, 1, none⟩ = some (.int .i64 o) := (cell_of_blk hx 1).1
  have c2 : w1.cell? ⟨w.heap.size, 2, none⟩ = some (.int .i64 r) := (cell_of_blk hx 2).1
  have c3 : w1.cell? ⟨w.heap.size, 3, none⟩ = some (.string flash) := (cell_of_blk hx 3).1
  have c4 : w1.cell? ⟨w.heap.size, 4, none⟩ = some (.string input) := (cell_of_blk hx 4).1
  have HB1 := Lib.hid (bch ((Below.refl _ _).alloc (Nat.le_refl _) _) hb1)
  clear hb1 hx
  go_wp2_with fail
  refine (HRN.out _).mono ?_
  rintro e w2 ⟨rfl, hb2⟩
  have HB2 := Lib.hid (bch HB1.out hb2)
  clear hb2 c0 c1 c2 c3 c4
  go_wp2_with (go_at_call 28; refine (law07_lives _).mono ?_; rintro e w3 ⟨rfl, hb3⟩)
  go_ret
  exact ⟨rfl, bch HB2.out hb3⟩
theorem ans_at : ∀ (l : List (Int × Int)) (k : Nat), k < l.length → (ansCells l)[k * 2]? = some (.int .i64 (l.getD k (0, 0)).1) ∧ (ansCells l)[k * 2 + 1]? = some (.int .i64 (l.getD k (0, 0)).2)
  | [], k, h => by simp at h
  | p :: l, 0, h => ⟨rfl, rfl⟩
  | p :: l, k + 1, h => by
    have ih := ans_at l k (by simpa using h)
    rw [show (k + 1) * 2 = k * 2 + 2 by omega]
    exact ih
theorem own_ans {w : World} {base : Nat} {v : Value} {n : Nat} {l : List (Int × Int)} (h : w.ownsRow base 73 2 v n (ansCells l)) (hl : l.length = n) (k : Nat) (hk : k < n) :
    ∃ g cap, v = .slice (some ⟨g, 0, none⟩) n cap ∧ w.cell? ⟨g, k * 2, none⟩ = some (.int .i64 (l.getD k (0, 0)).1) ∧ w.cell? ⟨g, k * 2 + 1, none⟩ = some (.int .i64 (l.getD k (0, 0)).2) := by
  obtain ⟨a1, a2⟩ := ans_at l k (by omega)
  have h0 := h
  rcases h.2 with ⟨_, h2⟩ | ⟨g, cap, cur, rfl, _⟩
  · omega
  · exact ⟨g, cap, rfl, (h0.cellAt (k * 2) (by omega)).trans a1, (h0.cellAt (k * 2 + 1) (by omega)).trans a2⟩
theorem own_len {w : World} {base : Nat} {v : Value} {n : Nat} {ys : List Value} (h : w.ownsRow base 73 2 v n ys) : ∃ A cap, v = .slice A n cap := by
  rcases h.2 with ⟨rfl, rfl⟩ | ⟨g, cap, cur, rfl, _⟩
  · exact ⟨none, 0, rfl⟩
  · exact ⟨_, cap, rfl⟩
set_option maxHeartbeats 4000000 in
set_option maxRecDepth 100000 in
theorem good (i o r : Int) (hr : -9223372036854775808 ≤ r ∧ r ≤ 9223372036854775807) (flash input : ByteArray) (A : Option Addr) (c : Nat) (xs : List St) (hc : xs.length ≤ c) (hl : xs.length ≤ 60) (hI : ∀ x ∈ xs, x.a ≤ 9223372036854775807) (hck : mmCheck i o r flash.size = 0) (hin : (input.size : Int) = i) (w : World) (hA : StSl w w.heap.size A xs) :
    Calls Try.prog 10 #[startVal i o r flash input, .slice A xs.length c] w fun e w' => e = .returned (.bool true) ∧ Below w.heap.size w w' := by
  have q1 : (xs.length : Int) ≤ 60 := by omega
  have hne : newErr i o r flash.size input.size = 0 := by unfold newErr; rw [if_neg (by omega), if_neg (by omega)]
  have HRN := Lib.hid (fun W => ref07_New i o r flash input hr W)
  rw [hne] at HRN
  have HRP := Lib.hid (fun W h => ref07_Play i o r flash input A c xs hr hck hin hI (by omega) hc W h)
  have hpl := playAns_len i o r flash.size xs (startBs i o r flash input)
  have HCK := Lib.hid hck
  have HIN := Lib.hid hin
  have HA := Lib.hid hA
  have HI := Lib.hid hI
  unfold RPlayPost at HRP
  have HPLAY := Lib.hid (fun M gb (h : w.heap.size ≤ gb) W h1 h2 => law07_play M gb i o r flash.size (startBs i o r flash input) hck A c xs w.heap.size h (by omega) hI W h1 h2)
  unfold PlayPost PlayRel at HPLAY
  unfold startVal at *
  generalize playAns i o r flash.size (startBs i o r flash input) xs = l at *
  generalize playBs i o r flash.size (startBs i o r flash input) xs = pb at *
  have HPL := Lib.hid hpl
  clear hck hin hA hI hl hr hne hpl
  go_enter Try.func10, Try.ntmps10
  go_wp2_with fail
  refine (mem_New_yes i o r flash input HCK.out HIN.out _).mono ?_
  rintro e w1 ⟨M, gb, rfl, hm, hge, hb1⟩
  have hge1 : w.heap.size + 1 ≤ gb := by simpa using hge
  have hx := (hb1.block w.heap.size (by simp)).trans (heap_alloc_new w _)
  have HX1 := Lib.hid hx
  have c0 : w1.cell? ⟨w.heap.size, 0, none⟩ = some (.int .i64 i) := (cell_of_blk hx 0).1
  have c1 : w1.cell? ⟨w.heap.size, 1, none⟩ = some (.int .i64 o) := (cell_of_blk hx 1).1
  have c2 : w1.cell? ⟨w.heap.size, 2, none⟩ = some (.int .i64 r) := (cell_of_blk hx 2).1
  have c3 : w1.cell? ⟨w.heap.size, 3, none⟩ = some (.string flash) := (cell_of_blk hx 3).1
  have c4 : w1.cell? ⟨w.heap.size, 4, none⟩ = some (.string input) := (cell_of_blk hx 4).1
  have HM1 : Hid (MemAt w1 M gb i o r flash.size (startBs i o r flash input)) := Lib.hid hm
  have HB1 := Lib.hid (bch ((Below.refl _ _).alloc (Nat.le_refl _) _) hb1)
  clear hm hb1 hx hge
  go_wp2_with fail
  refine (HRN.out _).mono ?_
  rintro e w2 ⟨rfl, hb2⟩
  have HX2 := Lib.hid ((hb2.block _ (lt_of_blk HX1.out)).trans HX1.out)
  have HM2 : Hid (MemAt w2.drew M gb i o r flash.size (startBs i o r flash input)) := Lib.hid (show MemAt w2 M gb i o r flash.size (startBs i o r flash input) from HM1.out.below hb2)
  have HB2 := Lib.hid (bch HB1.out hb2)
  have HGR : Hid (∀ w', w2.grownBy w' (some gb) → Below w.heap.size w w') := Lib.hid (fun w' hg => HB2.out.grown hg HB2.out.size (fun b e => by injection e with e; omega))
  have HSL : Hid (∀ w', w2.grownBy w' (some gb) → StSl w' w'.heap.size A xs) := Lib.hid (fun w' hg => (HA.out.below (HGR.out w' hg) (Nat.le_refl _)).more (HGR.out w' hg).size)
  have HSA : Hid (StSl w2.drew w.heap.size A xs) := Lib.hid (show StSl w2 w.heap.size A xs from HA.out.below HB2.out (Nat.le_refl _))
  have HS : Hid (∀ w', w2.grownBy w' (some gb) → (w'.cell? ⟨w.heap.size, 0, none⟩ = some (.int .i64 i) ∧ w'.cell? ⟨w.heap.size, 1, none⟩ = some (.int .i64 o) ∧ w'.cell? ⟨w.heap.size, 2, none⟩ = some (.int .i64 r) ∧ w'.cell? ⟨w.heap.size, 3, none⟩ = some (.string flash) ∧ w'.cell? ⟨w.heap.size, 4, none⟩ = some (.string input) ∧ w2.grownBy w' (some gb))) := Lib.hid (by
    intro w' hg
    have hx := (hg.block w.heap.size (lt_of_blk HX2.out) (by intro e; injection e with e; omega)).trans HX2.out
    exact ⟨(cell_of_blk hx 0).1, (cell_of_blk hx 1).1, (cell_of_blk hx 2).1, (cell_of_blk hx 3).1, (cell_of_blk hx 4).1, hg⟩)
  have hw0 : w2.grownBy w2 (some gb) := World.grownBy.refl w2 _
  clear hb2 c0 c1 c2 c3 c4
  go_wp2_with fail
  go_region_held3 (fun w' => w'.cell? ⟨w.heap.size, 0, none⟩ = some (.int .i64 i) ∧ w'.cell? ⟨w.heap.size, 1, none⟩ = some (.int .i64 o) ∧ w'.cell? ⟨w.heap.size, 2, none⟩ = some (.int .i64 r) ∧ w'.cell? ⟨w.heap.size, 3, none⟩ = some (.string flash) ∧ w'.cell? ⟨w.heap.size, 4, none⟩ = some (.string input) ∧ w2.grownBy w' (some gb))
    (exact HS.out _ (by first | assumption | exact kept_drew (by assumption)))
    (first
      | (go_at_call 31; refine (HPLAY.out M gb (by omega) _ HSA.out HM2.out).mono ?_; rintro e w3 ⟨va, rfl, hk3, hm3, ho3⟩; have G3 : w2.grownBy w3 (some gb) := ⟨hk3.os, hk3.tape, hk3.output, hk3.size, hk3.block⟩)
      | (go_at_call 32; refine (HRP.out _ (HSL.out _ (by first | assumption | exact kept_drew (by assumption)))).mono ?_; rintro e w4 ⟨vb, rfl, hb4, ho4⟩; have G4 := kept_below (by assumption) hb4))
  have hoa := ho3.kept (row := none) ⟨hb4.os, hb4.tape, hb4.output, hb4.size, fun j hj _ => hb4.block j hj⟩ (by cases hv : va.ownBlock <;> simp)
  obtain ⟨Aa, ca, rfl⟩ := own_len hoa
  obtain ⟨Ab, cb, rfl⟩ := own_len ho4
  have HOA := Lib.hid hoa
  have HOB := Lib.hid ho4
  have HB4 : Hid (Below w.heap.size w w4) := Lib.hid (HGR.out w4 G4)
  clear hoa ho3 ho4 hb4 hm3 hk3 G3 G4 hw0
  go_wp2_with fail
  go_loopw [9] (fun j wr => ∃ k : Nat, k ≤ xs.length ∧ j = .int .i64 k ∧ Below w4.heap.size w4 wr) (fun j _ => xs.length - (intOf j).toNat)
  case atStart => exact ⟨0, by omega, rfl, Below.refl _ _⟩
  case round =>
    obtain ⟨k, hk, rfl, hK⟩ := hrel
    by_cases hlt : k < xs.length
    · have hgr : w4.grownBy wr none := ⟨hK.os, hK.tape, hK.output, hK.size, fun j hj _ => hK.block j hj⟩
      obtain ⟨ga, cap, ea, x1, x2⟩ := own_ans (HOA.out.kept (row := none) hgr (by cases hv : (Value.slice Aa xs.length ca).ownBlock <;> simp)) HPL.out k hlt
      injection ea with ea ea1 ea2
      subst ea ea2
      obtain ⟨gb2, cap, eb, y1, y2⟩ := own_ans (HOB.out.kept (row := none) hgr (by cases hv : (Value.slice Ab xs.length cb).ownBlock <;> simp)) HPL.out k hlt
      injection eb with eb eb1 eb2
      subst eb eb2
      generalize l.getD k (0, 0) = p at *
      obtain ⟨p1, p2⟩ := p
      simp only at x1 x2 y1 y2
      have k0 : (0 : Int) ≤ (k : Int) := by omega
      have k1 : (k : Int) < (xs.length : Int) := by omega
      have HK := Lib.hid hK
      clear hgr hK
      go_wp2_with fail
      go_quiet (fail)
      go_wp2_with fail
      go_roundw
      case rel => exact ⟨k + 1, by omega, by go_num, ⟨HK.out.os, HK.out.tape, HK.out.output, HK.out.size, HK.out.block⟩⟩
      case measure => simp [intOf]; omega
    · obtain rfl : k = xs.length := by omega
      have HK := Lib.hid (hK)
      clear hK
      go_wp2_with (go_at_call 28; refine (law07_lives _).mono ?_; rintro e w5 ⟨rfl, hb5⟩)
      go_ret
      exact ⟨rfl, bch (HB4.out.trans (HK.out.mono HB4.out.size)) hb5⟩
set_option maxHeartbeats 8000000 in
theorem walk (i o r : Int) (hr : -9223372036854775808 ≤ r ∧ r ≤ 9223372036854775807) (flash input : ByteArray) (v0 : Value) (hv : v0 = startVal i o r flash input) (A : Option Addr) (c : Nat) (xs : List St) (v1 : Value) (hv1 : v1 = .slice A xs.length c) (hc : xs.length ≤ c) (hI : ∀ x ∈ xs, x.a ≤ 9223372036854775807) (w : World) (hA : StSl w w.heap.size A xs) :
    Calls Try.prog 10 #[v0, v1] w fun e w' => e = .returned (.bool true) ∧ Below w.heap.size w w' := by
  subst hv hv1
  by_cases hl : 60 < xs.length
  · exact great i o r flash input A c xs hl w
  · by_cases he : newErr i o r flash.size input.size = 0
    · have h1 : mmCheck i o r flash.size = 0 ∧ (input.size : Int) = i := by
        unfold newErr at he
        by_cases h2 : mmCheck i o r flash.size = 0
        · rw [if_neg (by simpa using h2)] at he
          by_cases h3 : (input.size : Int) = i
          · exact ⟨h2, h3⟩
          · rw [if_pos h3] at he; exact absurd he (by decide)
        · rw [if_pos h2] at he; exact absurd he h2
      exact good i o r hr flash input A c xs hc (by omega) hI h1.1 h1.2 w hA
    · exact no i o r hr flash input A c xs (by omega) he w

theorem own : ownKnob Try.prog.godebug = none := by kernel_rfl
set_option maxRecDepth 100000 in
theorem lifted (os : Os) (started : os.Started) (H : Type) (enc : TypeId × Value → H) :
    ReturnsInHanded {} Try.checked os 10 .any (Rows.memoryPlaysSpec.pre6 enc Try.prog Try.f10 Rows.memoryPlaysRow.domain false) (Rows.memoryPlaysSpec.post enc Try.prog Try.f10 false true false false) := by
  refine returnsInHanded_of_change_sized (C := Try.checked) own started (by kernel_rfl) Try.func10
    (ChangeSpec.witness6 (enc := enc) (C := Try.checked) false ⟨#[], #[.agg #[.int .i64 0, .int .i64 0, .int .i64 0, .string ⟨#[]⟩, .string ⟨#[]⟩], .slice none 0 0], []⟩ 8 (by kernel_rfl) (by kernel_rfl) (by kernel_rfl) (by kernel_rfl)) ?_
  intro W base args ds gs before hval0 hW hcnd hsz _
  have hval : ∀ (j : Nat) t v, Try.f10.params[j]? = some t → args[j]? = some v → Value.okWide Try.prog W .any base t v := hval0
  have hW' := hW
  obtain ⟨p, q, hA0, hV, rfl, hfz, hnd⟩ := hW
  have hA : DataW.TrodAll enc Try.prog W 0 (fun _ => true) true Try.f10.params.toList args.toList ds p := hA0
  rw [Try.params10] at hA hval
  obtain ⟨v0, vs0, d0, ds0, p0, q0, hargs, rfl, rfl, h0, r0⟩ := trodAll_cons hA
  obtain ⟨v1, vs1, d1, ds1, p1, q1, rfl, rfl, rfl, h1, r1⟩ := trodAll_cons r0
  obtain ⟨rfl, rfl, rfl⟩ := trodAll_nil r1
  obtain rfl : args = #[v0, v1] := by cases args; simp_all
  obtain ⟨rfl, rfl⟩ := trodVars_none hV
  clear hA0 hval0
  obtain ⟨i, o, r, flash, input, hv, _, _, hr, _, _⟩ := open_start (hval 0 63 v0 rfl rfl) h0 (fun x hx => by simpa using hW'.lt x (by simp [hx])) (weights_of hsz 0 rfl rfl)
  obtain ⟨A, c, xs, hv1, hc1, _, hc2, hE, hI⟩ := open_steps (hval 1 64 v1 rfl rfl) h1 (fun x hx => by simpa using hW'.lt x (by simp [hx])) (weights_of hsz 1 rfl rfl)
  refine (walk i o r hr flash input v0 hv A c xs v1 hv1 hc1 hI W hE).mono fun e W' ⟨he, hg⟩ => ?_
  subst he
  exact ⟨_, rfl, law_post (by kernel_rfl) (by kernel_rfl) rfl (by kernel_rfl) Try.underlying4 rfl hW' hg⟩

theorem proved : Rows.MemoryPlaysSaid :=
  OpenClaim.holds_of_wide 10 Try.f10 rfl rfl rfl rfl rfl rfl rfl ⟨rfl, rfl, rfl, rfl, rfl⟩ rfl rfl rfl rfl rfl (by kernel_rfl) Try.func10 (by kernel_rfl)
    (of_decide_eq_true (by kernel_rfl)) (by unfold Func.isWrapper; first | (rw [if_pos (by decide +kernel)]; kernel_rfl) | (rw [if_neg (by decide +kernel)]; exact ⟨rfl, rfl⟩))
    (fun os started H enc _ => lifted os started H enc)
#print axioms proved
end Go.Proofs.Ytgipelnjbpkfjaa.memoryPlays
