/- The Go function MemoryKeeps returns true on every input and leaves its arguments as they were. No condition. -/
import Derived.Test.YtgipelnjbpkfjaaRows
import Derived.WalkKit
import Derived.ProofKit
import Derived.OpenShut
import Derived.Test.YtgipelnjbpkfjaaLawKit
import Derived.SizedLaws
import Derived.Test.YtgipelnjbpkfjaaKeeps2
import Derived.Test.YtgipelnjbpkfjaaByteAt
namespace Go.Proofs.Ytgipelnjbpkfjaa.memoryKeeps
open Go.ChangeShapes Go.WideShapes Go.ChangeAt Go.RowKit
set_option linter.unusedVariables false

theorem alloc_new2 (w : World) (x y : Obj) : ((w.alloc x).alloc y).heap[w.heap.size + 1]? = some y := by
  have h := heap_alloc_new (w.alloc x) y
  rwa [show (w.alloc x).heap.size = w.heap.size + 1 by simp] at h
theorem great (i o r : Int) (flash input : ByteArray) (A : Option Addr) (c : Nat) (xs : List St) (x : St) (b : Int) (hl : 60 < xs.length) (w : World) : Calls Try.prog 11 #[startVal i o r flash input, .slice A xs.length c, stVal x, .int .i64 b] w fun e w' => e = .returned (.bool true) ∧ Below w.heap.size w w' := by
  have q1 : (60 : Int) < (xs.length : Int) := by omega
  unfold startVal stVal
  clear hl
  go_enter Try.func11, Try.ntmps11
  go_wp2_with (go_at_call 28; refine (law07_lives _).mono ?_; rintro e w1 ⟨rfl, hb1⟩)
  go_ret
  exact ⟨rfl, bch (((Below.refl _ _).alloc (Nat.le_refl _) _).alloc (by simp) _) hb1⟩
theorem no (i o r : Int) (flash input : ByteArray) (A : Option Addr) (c : Nat) (xs : List St) (x : St) (b : Int) (hl : xs.length ≤ 60) (he : newErr i o r flash.size input.size ≠ 0) (w : World) : Calls Try.prog 11 #[startVal i o r flash input, .slice A xs.length c, stVal x, .int .i64 b] w fun e w' => e = .returned (.bool true) ∧ Below w.heap.size w w' := by
  have q1 : (xs.length : Int) ≤ 60 := by omega
  have HN := Lib.hid (mem_New_no i o r flash input he)
  have hq : (newErr i o r flash.size input.size != 0) = true := by rw [bne_iff_ne]; exact he
  generalize newErr i o r flash.size input.size = ne at *
  unfold startVal stVal
  clear hl he
  go_enter Try.func11, Try.ntmps11
  go_wp2_with fail
  refine (HN.out _).mono ?_
  rintro e w1 ⟨rfl, hb1⟩
  have HB1 := Lib.hid (bch (((Below.refl _ _).alloc (Nat.le_refl _) _).alloc (by simp) _) hb1)
  clear hb1
  go_wp2_with (go_at_call 28; refine (law07_lives _).mono ?_; rintro e w2 ⟨rfl, hb2⟩)
  go_ret
  exact ⟨rfl, bch HB1.out hb2⟩
set_option maxRecDepth 100000 in
set_option maxHeartbeats 4000000 in
theorem good (i o r : Int) (flash input : ByteArray) (hil : input.size ≤ reachBytes) (A : Option Addr) (c : Nat) (xs : List St) (x : St) (b : Int) (hx : x.a ≤ 9223372036854775807) (hb : b ≤ 9223372036854775807) (hl : xs.length ≤ 60) (hI : ∀ x ∈ xs, x.a ≤ 9223372036854775807) (hck : mmCheck i o r flash.size = 0) (hin : (input.size : Int) = i) (w : World) (hA : StSl w w.heap.size A xs) :
    Calls Try.prog 11 #[startVal i o r flash input, .slice A xs.length c, stVal x, .int .i64 b] w fun e w' => e = .returned (.bool true) ∧ Below w.heap.size w w' := by
  have q1 : (xs.length : Int) ≤ 60 := by omega
  have HCK := Lib.hid hck
  have HIN := Lib.hid hin
  have HA := Lib.hid hA
  have HI := Lib.hid hI
  have hbl := play_len i o r flash input hck hin xs
  generalize hbs : playBs i o r flash.size (memInit flash input (rgAll i o r flash.size)) xs = bs at *
  have HBS := Lib.hid hbs
  have HBL := Lib.hid hbl
  obtain ⟨xk, xa, xn, xv⟩ := x
  simp only at hx
  have HC : (storeErr i o r flash.size xa xn ≠ 0 ∧ loadRes i o r flash.size (storeBs i o r flash.size bs xa xn xv) b 1 = loadRes i o r flash.size bs b 1) ∨
      (storeErr i o r flash.size xa xn = 0 ∧ loadRes i o r flash.size (storeBs i o r flash.size bs xa xn xv) xa xn = (if xn = 1 then xv % 256 else xv % 4294967296, 0) ∧ (xn = 1 ∨ xn = 4) ∧ 0 ≤ xa ∧
        ((xa ≤ b ∧ b < xa + xn ∧ loadRes i o r flash.size (storeBs i o r flash.size bs xa xn xv) b 1 = (xv % 4294967296 / 2 ^ (8 * (b - xa).toNat) % 256, 0)) ∨ ((b < xa ∨ xa + xn ≤ b) ∧ loadRes i o r flash.size (storeBs i o r flash.size bs xa xn xv) b 1 = loadRes i o r flash.size bs b 1))) := by
    by_cases hs : storeErr i o r flash.size xa xn = 0
    · right
      obtain ⟨h0, _, h14⟩ := found_range hck hs
      refine ⟨hs, keeps_same xa xn xv bs hbl hs, h14, h0, ?_⟩
      by_cases hin2 : xa ≤ b ∧ b < xa + xn
      · exact Or.inl ⟨hin2.1, hin2.2, keeps_byte xa xn xv b bs hck hbl hs hin2.1 hin2.2⟩
      · exact Or.inr ⟨by omega, keeps_far xa xn xv b bs hbl (by omega)⟩
    · exact Or.inl ⟨hs, keeps_far xa xn xv b bs hbl (Or.inl hs)⟩
  have he := load_err i o r flash.size (storeBs i o r flash.size bs xa xn xv) bs b 1
  have HL1 := Lib.hid (fun M gb W (h : MemAt W M gb i o r flash.size bs) => mem_Load M gb i o r flash.size b 1 bs hck hb W h)
  have HST := Lib.hid (fun M gb W (h : MemAt W M gb i o r flash.size bs) => mem_Store M gb i o r flash.size xa xn xv bs hck hx W h)
  have HL2 := Lib.hid (fun M gb W (h : MemAt W M gb i o r flash.size (storeBs i o r flash.size bs xa xn xv)) => mem_Load M gb i o r flash.size b 1 _ hck hb W h)
  have HL3 := Lib.hid (fun M gb W (h : MemAt W M gb i o r flash.size (storeBs i o r flash.size bs xa xn xv)) => mem_Load M gb i o r flash.size xa xn _ hck hx W h)
  generalize storeErr i o r flash.size xa xn = se at *
  generalize storeBs i o r flash.size bs xa xn xv = bs' at *
  generalize loadRes i o r flash.size bs b 1 = U at *
  generalize loadRes i o r flash.size bs' b 1 = N at *
  generalize loadRes i o r flash.size bs' xa xn = V at *
  obtain ⟨wv, we⟩ := U
  obtain ⟨nv, ne⟩ := N
  obtain ⟨vv, ve⟩ := V
  simp only at he
  subst he
  simp only [Prod.mk.injEq, and_true] at HC
  have HC := Lib.hid HC
  unfold pairVal at HL1 HL2 HL3
  unfold startVal stVal
  clear hck hin hA hI hbs hbl hl hx
  go_enter Try.func11, Try.ntmps11
  go_wp2_with fail
  refine (mem_New_yes i o r flash input HCK.out HIN.out _).mono ?_
  rintro e w1 ⟨M, gb, rfl, hm, hge, hb1⟩
  have hge1 : w.heap.size + 2 ≤ gb := by simpa using hge
  have hx := (hb1.block (w.heap.size + 1) (by simp)).trans (alloc_new2 w _ _)
  have HX1 := Lib.hid hx
  have HM1 := Lib.hid hm
  have HB1 := Lib.hid (bch (((Below.refl _ _).alloc (Nat.le_refl _) _).alloc (by simp) _) hb1)
  have HA1 := Lib.hid (HA.out.below (bch (((Below.refl _ _).alloc (Nat.le_refl _) _).alloc (by simp) _) hb1) (Nat.le_refl _))
  clear hm hb1 hx hge
  go_wp2_with fail
  refine (law07_play M gb i o r flash.size _ HCK.out A c xs w.heap.size (by omega) (by omega) HI.out _ HA1.out HM1.out).mono ?_
  rintro e w2 ⟨v, rfl, hk2, hm2, _⟩
  have hm2 : MemAt w2 M gb i o r flash.size bs := by rw [← HBS.out]; exact hm2
  have hx := (hk2.block (w.heap.size + 1) (lt_of_blk HX1.out) (by intro e; injection e with e; omega)).trans HX1.out
  have HX2 := Lib.hid hx
  have HM2 := Lib.hid hm2
  have HB2 := Lib.hid (HB1.out.grown hk2 HB1.out.size (fun b e => by injection e with e; omega))
  clear hk2 hm2 hx
  go_wp2_with fail
  refine (HL1.out M gb _ HM2.out).mono ?_
  rintro e w3 ⟨rfl, hb3⟩
  have hx := (hb3.block _ (lt_of_blk HX2.out)).trans HX2.out
  have HX3 := Lib.hid hx
  have HM3 := Lib.hid (HM2.out.below hb3)
  have HB3 := Lib.hid (bch HB2.out hb3)
  have c1 : w3.cell? ⟨w.heap.size + 1, 1, none⟩ = some (.int .i64 xa) := (cell_of_blk hx 1).1
  have c2 : w3.cell? ⟨w.heap.size + 1, 2, none⟩ = some (.int .i64 xn) := (cell_of_blk hx 2).1
  have c3 : w3.cell? ⟨w.heap.size + 1, 3, none⟩ = some (.int .i64 xv) := (cell_of_blk hx 3).1
  clear hb3 hx
  go_wp2_with fail
  refine (HST.out M gb _ HM3.out).mono ?_
  rintro e w4 ⟨rfl, hm4, hk4⟩
  have hx := (hk4.block (w.heap.size + 1) (lt_of_blk HX3.out) (by intro e; injection e with e; omega)).trans HX3.out
  have HX4 := Lib.hid hx
  have HM4 := Lib.hid hm4
  have HB4 := Lib.hid (HB3.out.grown hk4 HB3.out.size (fun b e => by injection e with e; omega))
  clear hm4 hk4 hx c1 c2 c3
  go_wp2_with fail
  refine (HL2.out M gb _ HM4.out).mono ?_
  rintro e w5 ⟨rfl, hb5⟩
  have hx := (hb5.block _ (lt_of_blk HX4.out)).trans HX4.out
  have HX5 := Lib.hid hx
  have HM5 := Lib.hid (HM4.out.below hb5)
  have HB5 := Lib.hid (bch HB4.out hb5)
  have c1 : w5.cell? ⟨w.heap.size + 1, 1, none⟩ = some (.int .i64 xa) := (cell_of_blk hx 1).1
  have c2 : w5.cell? ⟨w.heap.size + 1, 2, none⟩ = some (.int .i64 xn) := (cell_of_blk hx 2).1
  clear hb5 hx
  go_wp2_with fail
  refine (HL3.out M gb _ HM5.out).mono ?_
  rintro e w6 ⟨rfl, hb6⟩
  have hx := (hb6.block _ (lt_of_blk HX5.out)).trans HX5.out
  have HB6 := Lib.hid (bch HB5.out hb6)
  have c1 : w6.cell? ⟨w.heap.size + 1, 1, none⟩ = some (.int .i64 xa) := (cell_of_blk hx 1).1
  have c2 : w6.cell? ⟨w.heap.size + 1, 2, none⟩ = some (.int .i64 xn) := (cell_of_blk hx 2).1
  have c3 : w6.cell? ⟨w.heap.size + 1, 3, none⟩ = some (.int .i64 xv) := (cell_of_blk hx 3).1
  clear hb6 hx HX1 HX2 HX3 HX4 HX5 HM1 HM2 HM3 HM4 HM5 HB1 HB2 HB3 HB4 HB5 HL1 HL2 HL3 HST HA HA1 HI HCK HIN HBS HBL
  rcases HC.out with ⟨hs, hn⟩ | ⟨hs, ⟨hv, hve⟩, h14, h0, hc⟩
  · obtain rfl := hn
    have q2 : (se == 0) = false := by rw [beq_eq_false_iff_ne]; exact hs
    clear hs HC
    go_wp2_with (go_at_call 28; refine (law07_lives _).mono ?_; rintro e w7 ⟨rfl, hb7⟩)
    go_ret
    exact ⟨rfl, bch HB6.out hb7⟩
  · subst hs hve
    have qv : 0 ≤ vv ∧ (xn = 1 → (vv != bits .and .i64 xv 255) = false) ∧ (xn = 4 → (vv != bits .and .i64 xv 4294967295) = false) := by
      rw [and_255, and_ones, hv]
      refine ⟨by split <;> omega, fun h => ?_, fun h => ?_⟩
      · rw [if_pos h]; exact bne_self_eq_false _
      · rw [if_neg (by omega)]; exact bne_self_eq_false _
    obtain ⟨qv0, qv1, qv4⟩ := qv
    rcases hc with ⟨hc1, hc2, hnv, hne⟩ | ⟨hc, hn⟩
    · subst hne
      have e0 : wrap64 (b - xa) = b - xa := by unfold wrap64; omega
      have e1 : b - xa < xn := by omega
      have e2 : (8 * (b - xa)).toNat = 8 * (b - xa).toNat := by omega
      have e3 : 0 ≤ b - xa := by omega
      rcases h14 with rfl | rfl
      · have q4 := qv1 rfl
        obtain rfl : b = xa := by omega
        obtain rfl : nv = bits .and .i64 vv 255 := by
          rw [and_255, hnv, hv, Int.sub_self]
          show xv % 4294967296 / 1 % 256 = xv % 256 % 256
          omega
        clear qv1 qv4 HC hv hnv hb hc2 e1 e2 e3
        have e0 : wrap64 (b - b) = 0 := by unfold wrap64; omega
        go_wp2_with (go_at_call 28; refine (law07_lives _).mono ?_; rintro e w7 ⟨rfl, hb7⟩)
        go_ret
        exact ⟨rfl, bch HB6.out hb7⟩
      · have q4 := qv4 rfl
        obtain rfl : nv = bits .and .i64 (vv / 2 ^ (8 * (b - xa)).toNat) 255 := by
          rw [and_255, hnv, hv, e2]
          rfl
        clear qv1 qv4 HC hv hnv hb hc2 e2
        go_wp2_with (go_at_call 28; refine (law07_lives _).mono ?_; rintro e w7 ⟨rfl, hb7⟩)
        go_ret
        exact ⟨rfl, bch HB6.out hb7⟩
    · obtain rfl := hn
      have hc3 : b < xa ∨ (xa ≤ b ∧ wrap64 (b - xa) = b - xa ∧ xn ≤ b - xa) := by unfold wrap64; omega
      rcases h14 with rfl | rfl
      · have q4 := qv1 rfl
        clear hc HC hv qv1 qv4 hb
        rcases hc3 with hlt | ⟨hle, hw, hge⟩
        all_goals
          go_wp2_with (go_at_call 28; refine (law07_lives _).mono ?_; rintro e w7 ⟨rfl, hb7⟩)
          go_ret
          exact ⟨rfl, bch HB6.out hb7⟩
      · have q4 := qv4 rfl
        clear hc HC hv qv1 qv4 hb
        rcases hc3 with hlt | ⟨hle, hw, hge⟩
        all_goals
          go_wp2_with (go_at_call 28; refine (law07_lives _).mono ?_; rintro e w7 ⟨rfl, hb7⟩)
          go_ret
          exact ⟨rfl, bch HB6.out hb7⟩
set_option maxHeartbeats 8000000 in
theorem walk (i o r : Int) (flash input : ByteArray) (v0 : Value) (hv : v0 = startVal i o r flash input) (hfl : flash.size ≤ reachBytes) (hil : input.size ≤ reachBytes) (A : Option Addr) (c : Nat) (xs : List St) (v1 : Value) (hv1 : v1 = .slice A xs.length c) (hI : ∀ x ∈ xs, x.a ≤ 9223372036854775807) (x : St) (v2 : Value) (hv2 : v2 = stVal x) (hx : x.a ≤ 9223372036854775807) (b : Int) (hb : b ≤ 9223372036854775807) (w : World) (hA : StSl w w.heap.size A xs) :
    Calls Try.prog 11 #[v0, v1, v2, .int .i64 b] w fun e w' => e = .returned (.bool true) ∧ Below w.heap.size w w' := by
  subst hv hv1 hv2
  by_cases hl : 60 < xs.length
  · exact great i o r flash input A c xs x b hl w
  · by_cases he : newErr i o r flash.size input.size = 0
    · have h1 : mmCheck i o r flash.size = 0 ∧ (input.size : Int) = i := by
        unfold newErr at he
        by_cases h2 : mmCheck i o r flash.size = 0
        · rw [if_neg (by simpa using h2)] at he
          by_cases h3 : (input.size : Int) = i
          · exact ⟨h2, h3⟩
          · rw [if_pos h3] at he; exact absurd he (by decide)
        · rw [if_pos h2] at he; exact absurd he h2
      exact good i o r flash input hil A c xs x b hx hb (by omega) hI h1.1 h1.2 w hA
    · exact no i o r flash input A c xs x b (by omega) he w

theorem own : ownKnob Try.prog.godebug = none := by kernel_rfl
set_option maxRecDepth 100000 in
theorem lifted (os : Os) (started : os.Started) (H : Type) (enc : TypeId × Value → H) :
    ReturnsInHanded {} Try.checked os 11 .any (Rows.memoryKeepsSpec.pre6 enc Try.prog Try.f11 Rows.memoryKeepsRow.domain false) (Rows.memoryKeepsSpec.post enc Try.prog Try.f11 false true false false) := by
  refine returnsInHanded_of_change_sized (C := Try.checked) own started (by kernel_rfl) Try.func11
    (ChangeSpec.witness6 (enc := enc) (C := Try.checked) false ⟨#[], #[.agg #[.int .i64 0, .int .i64 0, .int .i64 0, .string ⟨#[]⟩, .string ⟨#[]⟩], .slice none 0 0, .agg #[.int .i64 0, .int .i64 0, .int .i64 0, .int .i64 0], .int .i64 0], []⟩ 8 (by kernel_rfl) (by kernel_rfl) (by kernel_rfl) (by kernel_rfl)) ?_
  intro W base args ds gs before hval0 hW hcnd hsz _
  have hval : ∀ (j : Nat) t v, Try.f11.params[j]? = some t → args[j]? = some v → Value.okWide Try.prog W .any base t v := hval0
  have hW' := hW
  obtain ⟨p, q, hA0, hV, rfl, hfz, hnd⟩ := hW
  have hA : DataW.TrodAll enc Try.prog W 0 (fun _ => true) true Try.f11.params.toList args.toList ds p := hA0
  rw [Try.params11] at hA hval
  obtain ⟨v0, vs0, d0, ds0, p0, q0, hargs, rfl, rfl, h0, r0⟩ := trodAll_cons hA
  obtain ⟨v1, vs1, d1, ds1, p1, q1, rfl, rfl, rfl, h1, r1⟩ := trodAll_cons r0
  obtain ⟨v2, vs2, d2, ds2, p2, q2, rfl, rfl, rfl, h2, r2⟩ := trodAll_cons r1
  obtain ⟨v3, vs3, d3, ds3, p3, q3, rfl, rfl, rfl, h3, r3⟩ := trodAll_cons r2
  obtain ⟨rfl, rfl, rfl⟩ := trodAll_nil r3
  obtain rfl : args = #[v0, v1, v2, v3] := by cases args; simp_all
  obtain ⟨rfl, rfl⟩ := trodVars_none hV
  clear hA0 hval0
  obtain ⟨i, o, r, flash, input, hv, _, _, _, hfl, hil⟩ := open_start (hval 0 63 v0 rfl rfl) h0 (fun x hx => by simpa using hW'.lt x (by simp [hx])) (weights_of hsz 0 rfl rfl)
  obtain ⟨A, c, xs, hv1, hc1, _, hc2, hE, hI⟩ := open_steps (hval 1 64 v1 rfl rfl) h1 (fun x hx => by simpa using hW'.lt x (by simp [hx])) (weights_of hsz 1 rfl rfl)
  obtain ⟨x, hv2, hx⟩ := open_step (hval 2 76 v2 rfl rfl) h2 (fun x hx => by simpa using hW'.lt x (by simp [hx])) (weights_of hsz 2 rfl rfl)
  obtain ⟨b, rfl, rfl, rfl, w3⟩ := open_int Try.underlying3 (hval 3 3 v3 rfl rfl) h3
  refine (walk i o r flash input v0 hv hfl hil A c xs v1 hv1 hI x v2 hv2 hx b (i64_wf w3).2 W hE).mono fun e W' ⟨he, hg⟩ => ?_
  subst he
  exact ⟨_, rfl, law_post (by kernel_rfl) (by kernel_rfl) rfl (by kernel_rfl) Try.underlying4 rfl hW' hg⟩

theorem proved : Rows.MemoryKeepsSaid :=
  OpenClaim.holds_of_wide 11 Try.f11 rfl rfl rfl rfl rfl rfl rfl ⟨rfl, rfl, rfl, rfl, rfl⟩ rfl rfl rfl rfl rfl (by kernel_rfl) Try.func11 (by kernel_rfl)
    (of_decide_eq_true (by kernel_rfl)) (by unfold Func.isWrapper; first | (rw [if_pos (by decide +kernel)]; kernel_rfl) | (rw [if_neg (by decide +kernel)]; exact ⟨rfl, rfl⟩))
    (fun os started H enc _ => lifted os started H enc)
#print axioms proved
end Go.Proofs.Ytgipelnjbpkfjaa.memoryKeeps
