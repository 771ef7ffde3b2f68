/- The Go function ImageBack returns true on every input and leaves its arguments as they were. No condition. -/
import Derived.Test.YtgipelnjbpkfjaaRows
import Derived.WalkKit
import Derived.ProofKit
import Derived.OpenShut
import Derived.Test.YtgipelnjbpkfjaaLawKit
import Derived.SizedLaws
import Derived.Test.YtgipelnjbpkfjaaHdOpen
import Derived.Test.YtgipelnjbpkfjaaLives6
namespace Go.Proofs.Ytgipelnjbpkfjaa.imageBack
open Go.ChangeShapes Go.WideShapes Go.ChangeAt Go.RowKit
set_option linter.unusedVariables false

theorem eql_same (a : Hd) (W : World) : (binOp .eql 49 (hdVal a) (hdVal a)).run Try.prog W = .ok (.bool true) W := by
  unfold hdVal
  simp [go_sem]
theorem eql_not (a b : Hd) (h : a ≠ b) (W : World) : (binOp .eql 49 (hdVal a) (hdVal b)).run Try.prog W = .ok (.bool false) W := by
  have e : (a.reset == b.reset && (a.handler == b.handler && (a.i == b.i && (a.o == b.o && (a.r == b.r && a.mode == b.mode))))) = false := by
    obtain ⟨a1, a2, a3, a4, a5, a6⟩ := a
    obtain ⟨b1, b2, b3, b4, b5, b6⟩ := b
    simp only [Hd.mk.injEq, ne_eq, not_and] at h
    rw [Bool.eq_false_iff]
    simp only [ne_eq, Bool.and_eq_true, beq_iff_eq, not_and]
    exact h
  unfold hdVal
  simp [go_sem]
  simpa using e
theorem long (h : Hd) (code : ByteArray) (at0 to0 : Int) (hl : 10000 < code.size) (w : World) : Calls Try.prog 9 #[hdVal h, .string code, .int .i64 at0, .int .i64 to0] w fun e w' => e = .returned (.bool true) ∧ Below w.heap.size w w' := by
  obtain ⟨rs, hd, i, o, r, md⟩ := h
  unfold hdVal
  simp only
  have hq : (10000 : Int) < (code.size : Int) := by omega
  clear hl
  go_enter Try.func9, Try.ntmps9
  go_wp2_with fail
  refine (law06_lives _).mono ?_
  rintro e w1 ⟨rfl, hb1⟩
  go_wp2_with fail
  go_ret
  exact ⟨rfl, bch ((Below.refl _ _).alloc (Nat.le_refl _) _) hb1⟩
theorem bad (h : Hd) (code : ByteArray) (at0 to0 : Int) (hl : code.size ≤ 10000) (he : (imgBuild h code).2 ≠ 0) (w : World) : Calls Try.prog 9 #[hdVal h, .string code, .int .i64 at0, .int .i64 to0] w fun e w' => e = .returned (.bool true) ∧ Below w.heap.size w w' := by
  have HA := Lib.hid (image_Build h code (by omega))
  have HO := Lib.hid (law06_own h)
  have hn := build_no h code he
  generalize imgBuild h code = U at *
  obtain ⟨u, n⟩ := U
  simp only at hn he
  subst hn
  have hq2 : (n != 0) = true := by rw [bne_iff_ne]; exact he
  obtain ⟨rs, hd, i, o, r, md⟩ := h
  unfold hdVal at *
  simp only at HA HO ⊢
  have hq : (code.size : Int) ≤ 10000 := by omega
  clear hl he
  go_enter Try.func9, Try.ntmps9
  go_wp2_with fail
  refine (HO.out _).mono ?_
  rintro e w1 ⟨rfl, hb1⟩
  have HB1 := Lib.hid (bch ((Below.refl _ _).alloc (Nat.le_refl _) _) hb1)
  clear hb1
  go_wp2_with fail
  refine (HA.out _).mono ?_
  rintro e w2 ⟨rfl, hb2⟩
  have HB2 := Lib.hid (bch HB1.out hb2)
  clear hb2
  go_wp2_with fail
  refine (law06_lives _).mono ?_
  rintro e w3 ⟨rfl, hb3⟩
  go_wp2_with fail
  go_ret
  exact ⟨rfl, bch HB2.out hb3⟩
theorem conv1 (src dst e t : TypeId) (hs : Try.prog.underlying src = some (.slice e)) (he : Try.prog.underlying e = some (.int .u8)) (hd : Try.prog.underlying dst = some .string) (w : World) (b : Nat) :
    (convert src dst (.slice (some ⟨w.heap.size, 0, none⟩) 1 1)).run Try.prog (w.alloc (.cells #[.int .u8 (b : Int)] t)) =
      .ok (.string ⟨#[UInt8.ofNat b]⟩) (w.alloc (.cells #[.int .u8 (b : Int)] t)) := by
  rw [run_convert_bytes_string _ _ _ e _ _ _ hs he hd, run_bytesToString _ _ _ _ [(b : Int)]]
  · rfl
  · simp [go_sem, loadCells]
/-- What one byte laid anew makes of an image. -/
def BackPack (S T : ByteArray) (h y : Hd) (g : Int) (at0 to0 : Int) (k b sk : Nat) : Prop :=
  (wrap64 ((IntKind.u64.wrap at0).tmod 64) = (k : Int) ∧ k < 64) ∧ ((IntKind.u64.wrap to0).tmod 256 % 256 = (b : Int) ∧ b < 256) ∧ ((S.extract 0 k ++ ⟨#[UInt8.ofNat b]⟩) ++ S.extract (k + 1) S.size = T ∧ T.size = S.size) ∧
  imgParse T = (y, g) ∧ (∀ W, (Instr.index 9 (.string S) (.int .i64 (k : Int))).run Try.prog W = .ok (.int .u8 (sk : Int)) W) ∧
  (g = 0 → imgBuild y (T.extract 64 T.size) = (T, 0) ∧ (b = sk ↔ y = h)) ∧ (g ≠ 0 → y = hd0 ∧ b ≠ sk)
theorem back_one (h : Hd) (code : ByteArray) (he : (imgBuild h code).2 = 0) (at0 to0 : Int) : ∃ T y g k b sk, BackPack (imgBuild h code).1 T h y g at0 to0 k b sk := by
  have hs := build_size h code he
  have h1 : wrap64 ((IntKind.u64.wrap at0).tmod 64) = (((at0 % 18446744073709551616 % 64).toNat : Nat) : Int) := by
    rw [u64_tmod, wrap64_small _ (by omega) (by omega)]; omega
  have h2 : (IntKind.u64.wrap to0).tmod 256 % 256 = (((to0 % 18446744073709551616 % 256).toNat : Nat) : Int) := by
    rw [u64_tmod]; omega
  have k64 : (at0 % 18446744073709551616 % 64).toNat < 64 := by omega
  have b256 : (to0 % 18446744073709551616 % 256).toNat < 256 := by omega
  generalize (at0 % 18446744073709551616 % 64).toNat = k at *
  generalize (to0 % 18446744073709551616 % 256).toNat = b at *
  have hk : k < (imgBuild h code).1.size := by omega
  refine ⟨byteAnew (imgBuild h code).1 k (UInt8.ofNat b), (imgParse (byteAnew (imgBuild h code).1 k (UInt8.ofNat b))).1, (imgParse (byteAnew (imgBuild h code).1 k (UInt8.ofNat b))).2, k, b, ((imgBuild h code).1[k]).toNat,
    ⟨h1, k64⟩, ⟨h2, b256⟩, ⟨rfl, byteAnew_size _ _ _ hk⟩, rfl, ?_, ?_, ?_⟩
  · intro W
    have := run_index_string W 9 (imgBuild h code).1 .i64 (k : Int) Try.underlying9
    rw [this, dif_pos ⟨by omega, by omega⟩]
    rfl
  · intro hg
    have hy := back_yes h code he k k64 (UInt8.ofNat b) hk hg
    refine ⟨(parse_ok _ hg).2, ?_⟩
    rw [← hy]
    constructor
    · intro e; rw [e]; simp
    · intro e; rw [← e, ofNat_toNat _ b256]
  · intro hg
    refine ⟨parse_no _ hg, ?_⟩
    intro e
    refine back_no h code he k (UInt8.ofNat b) hk hg ?_
    rw [e]; simp
set_option maxRecDepth 100000 in
set_option maxHeartbeats 8000000 in
theorem good (h : Hd) (code : ByteArray) (at0 to0 : Int) (hl : code.size ≤ 10000) (he : (imgBuild h code).2 = 0) (w : World) : Calls Try.prog 9 #[hdVal h, .string code, .int .i64 at0, .int .i64 to0] w fun e w' => e = .returned (.bool true) ∧ Below w.heap.size w w' := by
  have HA := Lib.hid (image_Build h code (by omega))
  have HO := Lib.hid (law06_own h)
  have HP := Lib.hid (image_Parse (imgBuild h code).1)
  have hpb := parse_build h code he
  have hs := build_size h code he
  obtain ⟨T, y, g, k, b, sk, hk, hb, ht, hpt, hix, hyes, hno⟩ := back_one h code he at0 to0
  rw [hpb] at HP
  rw [he] at HA
  generalize (imgBuild h code).1 = S at *
  have HYES := Lib.hid hyes
  have HNO := Lib.hid hno
  obtain ⟨ht, hts⟩ := ht
  have HT := Lib.hid ht
  have HPT := Lib.hid (image_Parse T)
  rw [hpt] at HPT
  obtain ⟨hk, hk64⟩ := hk
  obtain ⟨hbb, hb256⟩ := hb
  have hS1 : S.size ≤ 10064 := by omega
  have hT1 : (64 : Int) ≤ (T.size : Int) := by omega
  have hkS : (k : Int) + 1 ≤ (S.size : Int) := by omega
  have hx1 : (S.extract 0 k).size ≤ 64 := by rw [ByteArray.size_extract]; omega
  have hx2 : (S.extract (k + 1) S.size).size ≤ 10064 := by rw [ByteArray.size_extract]; omega
  have q4 : ((k : Nat) : Int).toNat = k := by omega
  have q5 : ((k : Int) + 1).toNat = k + 1 := by omega
  have hs1 : ∀ W, (Instr.slice 9 (.string S) none (some (.int .i64 (k : Int))) none).run Try.prog W = .ok (.string (S.extract 0 k)) W := by
    intro W
    rw [run_slice_string_h W 9 S Try.underlying9 .i64 (k : Int) (by omega) (by omega), q4]
  have hs2 : ∀ W, (Instr.slice 9 (.string S) (some (.int .i64 ((k : Int) + 1))) none none).run Try.prog W = .ok (.string (S.extract (k + 1) S.size)) W := by
    intro W
    rw [run_slice_string_l W 9 S Try.underlying9 .i64 ((k : Int) + 1) (by omega) (by omega), q5]
  clear q4 q5
  have ha1 : ∀ W, (binOp .add 9 (.string (S.extract 0 k)) (.string ⟨#[UInt8.ofNat b]⟩)).run Try.prog W = .ok (.string (S.extract 0 k ++ ⟨#[UInt8.ofNat b]⟩)) W := by
    intro W
    have hx3 : (S.extract 0 k).size + (⟨#[UInt8.ofNat b]⟩ : ByteArray).size ≤ maxLen := by
      rw [show (⟨#[UInt8.ofNat b]⟩ : ByteArray).size = 1 from rfl]; unfold maxLen; omega
    simp [go_sem]
    omega
  have ha2 : ∀ W, (binOp .add 9 (.string (S.extract 0 k ++ ⟨#[UInt8.ofNat b]⟩)) (.string (S.extract (k + 1) S.size))).run Try.prog W = .ok (.string T) W := by
    intro W
    have hx4 : (S.extract 0 k ++ ⟨#[UInt8.ofNat b]⟩).size + (S.extract (k + 1) S.size).size ≤ maxLen := by
      rw [ByteArray.size_append, show (⟨#[UInt8.ofNat b]⟩ : ByteArray).size = 1 from rfl]; unfold maxLen; omega
    rw [← HT.out]
    simp [go_sem]
    omega
  have HBT := Lib.hid (image_Build y (T.extract 64 T.size) (by rw [ByteArray.size_extract]; omega))
  clear hyes hno ht hpt hts
  have HEQ : y ≠ h → Hid (∀ W, (binOp .eql 49 (hdVal y) (hdVal h)).run Try.prog W = .ok (.bool false) W) := fun e => Lib.hid (fun W => eql_not y h e W)
  have HEQ2 := Lib.hid HEQ
  clear HEQ
  have hq3 : ((S.size : Int) != 64 + (code.size : Int)) = false := by rw [bne_eq_false_iff_eq]; omega
  have hsum : IntKind.i64.wrap (64 + (code.size : Int)) = 64 + (code.size : Int) := by rw [wrapi64]; exact wrap64_small _ (by omega) (by omega)
  have hsum2 : IntKind.i64.wrap ((k : Int) + 1) = (k : Int) + 1 := by rw [wrapi64]; exact wrap64_small _ (by omega) (by omega)
  obtain ⟨rs, hd, i, o, r, md⟩ := h
  unfold hdVal at *
  obtain ⟨y0, y1, y2, y3, y4, y5⟩ := y
  simp only at HA HO HP HPT HBT ⊢
  have hq : (code.size : Int) ≤ 10000 := by omega
  clear hl he hpb hs
  go_enter Try.func9, Try.ntmps9
  go_wp2_with fail
  refine (HO.out _).mono ?_
  rintro e w1 ⟨rfl, hb1⟩
  have hx := (hb1.block w.heap.size (by simp)).trans (heap_alloc_new w _)
  have HX := Lib.hid hx
  have hlt := lt_of_blk hx
  have HB1 := Lib.hid (bch ((Below.refl _ _).alloc (Nat.le_refl _) _) hb1)
  clear hb1 hx
  go_wp2_with fail
  refine (HA.out _).mono ?_
  rintro e w2 ⟨rfl, hb2⟩
  have HB2 := Lib.hid (bch HB1.out hb2)
  have HX2 := Lib.hid ((hb2.block _ hlt).trans HX.out)
  clear hb2 hlt
  go_wp2_with fail
  refine (HP.out _).mono ?_
  rintro e w3 ⟨rfl, hb3⟩
  have hx := (hb3.block _ (lt_of_blk HX2.out)).trans HX2.out
  have hlt := lt_of_blk hx
  have HX3 := Lib.hid hx
  have HB3 := Lib.hid (bch HB2.out hb3)
  clear hb3 hx
  go_wp2_with fail
  have hx := (Below.heap_alloc w3 (Obj.cells #[Value.int .i64 rs, Value.int .i64 hd, Value.int .i64 i, Value.int .i64 o, Value.int .i64 r, Value.int .i64 md] 49) _ hlt).trans HX3.out
  have hy := heap_alloc_new w3 (Obj.cells #[Value.int .i64 rs, Value.int .i64 hd, Value.int .i64 i, Value.int .i64 o, Value.int .i64 r, Value.int .i64 md] 49)
  have hb4 : Below w.heap.size w (w3.alloc (Obj.cells #[Value.int .i64 rs, Value.int .i64 hd, Value.int .i64 i, Value.int .i64 o, Value.int .i64 r, Value.int .i64 md] 49)) := bal HB3.out _
  generalize w3.alloc (Obj.cells #[Value.int .i64 rs, Value.int .i64 hd, Value.int .i64 i, Value.int .i64 o, Value.int .i64 r, Value.int .i64 md] 49) = W1 at *
  have HB4 := Lib.hid hb4
  have HXX := Lib.hid hx
  have HYY := Lib.hid hy
  clear hb4 hlt hx hy
  have hS : ∀ w', Below W1.heap.size W1 w' → (w'.cell? ⟨w.heap.size, 0, none⟩ = some (.int .i64 rs) ∧ w'.cell? ⟨w.heap.size, 1, none⟩ = some (.int .i64 hd) ∧ w'.cell? ⟨w.heap.size, 2, none⟩ = some (.int .i64 i) ∧ w'.cell? ⟨w.heap.size, 3, none⟩ = some (.int .i64 o) ∧ w'.cell? ⟨w.heap.size, 4, none⟩ = some (.int .i64 r) ∧ w'.cell? ⟨w.heap.size, 5, none⟩ = some (.int .i64 md) ∧ w'.cell? ⟨w3.heap.size, 0, none⟩ = some (.int .i64 rs) ∧ w'.cell? ⟨w3.heap.size, 1, none⟩ = some (.int .i64 hd) ∧ w'.cell? ⟨w3.heap.size, 2, none⟩ = some (.int .i64 i) ∧ w'.cell? ⟨w3.heap.size, 3, none⟩ = some (.int .i64 o) ∧ w'.cell? ⟨w3.heap.size, 4, none⟩ = some (.int .i64 r) ∧ w'.cell? ⟨w3.heap.size, 5, none⟩ = some (.int .i64 md) ∧ Below W1.heap.size W1 w') := by
    intro w' hb
    have y0q := (hb.block _ (lt_of_blk HXX.out)).trans HXX.out
    have y1q := (hb.block _ (lt_of_blk HYY.out)).trans HYY.out
    exact ⟨(cell_of_blk y0q 0).1, (cell_of_blk y0q 1).1, (cell_of_blk y0q 2).1, (cell_of_blk y0q 3).1, (cell_of_blk y0q 4).1, (cell_of_blk y0q 5).1, (cell_of_blk y1q 0).1, (cell_of_blk y1q 1).1, (cell_of_blk y1q 2).1, (cell_of_blk y1q 3).1, (cell_of_blk y1q 4).1, (cell_of_blk y1q 5).1, hb⟩
  have HS := Lib.hid hS
  have keep : ∀ a b : World, Below W1.heap.size W1 a → Below a.heap.size a b → Below W1.heap.size W1 b := fun a b h k => bch h k
  have KEEP := Lib.hid keep
  have hwS := Below.refl W1.heap.size W1
  clear hS keep
  go_region_held3 (fun w' => w'.cell? ⟨w.heap.size, 0, none⟩ = some (.int .i64 rs) ∧ w'.cell? ⟨w.heap.size, 1, none⟩ = some (.int .i64 hd) ∧ w'.cell? ⟨w.heap.size, 2, none⟩ = some (.int .i64 i) ∧ w'.cell? ⟨w.heap.size, 3, none⟩ = some (.int .i64 o) ∧ w'.cell? ⟨w.heap.size, 4, none⟩ = some (.int .i64 r) ∧ w'.cell? ⟨w.heap.size, 5, none⟩ = some (.int .i64 md) ∧ w'.cell? ⟨w3.heap.size, 0, none⟩ = some (.int .i64 rs) ∧ w'.cell? ⟨w3.heap.size, 1, none⟩ = some (.int .i64 hd) ∧ w'.cell? ⟨w3.heap.size, 2, none⟩ = some (.int .i64 i) ∧ w'.cell? ⟨w3.heap.size, 3, none⟩ = some (.int .i64 o) ∧ w'.cell? ⟨w3.heap.size, 4, none⟩ = some (.int .i64 r) ∧ w'.cell? ⟨w3.heap.size, 5, none⟩ = some (.int .i64 md) ∧ Below W1.heap.size W1 w')
    (first | exact HS.out _ (by first | assumption | exact Below.drew (by assumption)))
    (first | (go_at_call 24; refine (HO.out _).mono ?_; rintro e w4 ⟨rfl, hb⟩; have HB5 := KEEP.out _ _ (by first | assumption | exact Below.drew (by assumption)) hb))
  all_goals
    have hy := (HB5.block _ (lt_of_blk HYY.out)).trans HYY.out
    have HZ := Lib.hid hy
    have HB6 := Lib.hid (bch HB4.out HB5)
    clear hy HB5 hwS KEEP
    go_wp2_with fail
    rw [hk, hbb]
    have hcv : (convert 60 9 (.slice (some ⟨w4.heap.size, 0, none⟩) 1 1)).run Try.prog (w4.drew.alloc (.cells #[.int .u8 (b : Int)] 5)) = .ok (.string ⟨#[UInt8.ofNat b]⟩) (w4.drew.alloc (.cells #[.int .u8 (b : Int)] 5)) := conv1 60 9 5 5 Try.underlying60 Try.underlying5 Try.underlying9 w4.drew b
    have hcv2 : (convert 60 9 (.slice (some ⟨w4.heap.size, 0, none⟩) 1 1)).run Try.prog (w4.alloc (.cells #[.int .u8 (b : Int)] 5)).drew = .ok (.string ⟨#[UInt8.ofNat b]⟩) (w4.alloc (.cells #[.int .u8 (b : Int)] 5)).drew := conv1 60 9 5 5 Try.underlying60 Try.underlying5 Try.underlying9 w4.drew b
    go_region_with (fail)
    clear hk hbb hsum hsum2 ha1 ha2 hs1 hs2
    go_wp2_with fail
    try rw [HT.out]
    refine (HPT.out _).mono ?_
    rintro e w5 ⟨rfl, hb5⟩
    have HZ5 := Lib.hid ((hb5.block _ (by simp; have := lt_of_blk HZ.out; omega)).trans ((Below.heap_alloc w4 _ _ (lt_of_blk HZ.out)).trans HZ.out))
    have HB7 := Lib.hid (bch (bal HB6.out _).drew hb5)
    clear hb5 hcv hcv2
    by_cases hg : g = 0
    · obtain ⟨hbt, hiff⟩ := HYES.out hg
      rw [hbt] at HBT
      subst hg
      simp only at HBT
      have HIFF := Lib.hid hiff
      clear hbt hiff
      go_wp2_with fail
      have hx := (Below.heap_alloc w5 (Obj.cells #[Value.int .i64 y0, Value.int .i64 y1, Value.int .i64 y2, Value.int .i64 y3, Value.int .i64 y4, Value.int .i64 y5] 49) _ (lt_of_blk HZ5.out)).trans HZ5.out
      have hy := heap_alloc_new w5 (Obj.cells #[Value.int .i64 y0, Value.int .i64 y1, Value.int .i64 y2, Value.int .i64 y3, Value.int .i64 y4, Value.int .i64 y5] 49)
      have hb8 : Below w.heap.size w (w5.alloc (Obj.cells #[Value.int .i64 y0, Value.int .i64 y1, Value.int .i64 y2, Value.int .i64 y3, Value.int .i64 y4, Value.int .i64 y5] 49)) := bal HB7.out _
      generalize w5.alloc (Obj.cells #[Value.int .i64 y0, Value.int .i64 y1, Value.int .i64 y2, Value.int .i64 y3, Value.int .i64 y4, Value.int .i64 y5] 49) = W2 at *
      have HB8 := Lib.hid hb8
      have HXX2 := Lib.hid hx
      have HYY2 := Lib.hid hy
      clear hb8 hx hy HS
      by_cases hyh : (⟨y0, y1, y2, y3, y4, y5⟩ : Hd) = ⟨rs, hd, i, o, r, md⟩
      · have hbs := HIFF.out.2 hyh
        simp only [Hd.mk.injEq] at hyh
        obtain ⟨rfl, rfl, rfl, rfl, rfl, rfl⟩ := hyh
        subst hbs
        have hS : ∀ w', Below W2.heap.size W2 w' → (w'.cell? ⟨w3.heap.size, 0, none⟩ = some (.int .i64 y0) ∧ w'.cell? ⟨w3.heap.size, 1, none⟩ = some (.int .i64 y1) ∧ w'.cell? ⟨w3.heap.size, 2, none⟩ = some (.int .i64 y2) ∧ w'.cell? ⟨w3.heap.size, 3, none⟩ = some (.int .i64 y3) ∧ w'.cell? ⟨w3.heap.size, 4, none⟩ = some (.int .i64 y4) ∧ w'.cell? ⟨w3.heap.size, 5, none⟩ = some (.int .i64 y5) ∧ w'.cell? ⟨w5.heap.size, 0, none⟩ = some (.int .i64 y0) ∧ w'.cell? ⟨w5.heap.size, 1, none⟩ = some (.int .i64 y1) ∧ w'.cell? ⟨w5.heap.size, 2, none⟩ = some (.int .i64 y2) ∧ w'.cell? ⟨w5.heap.size, 3, none⟩ = some (.int .i64 y3) ∧ w'.cell? ⟨w5.heap.size, 4, none⟩ = some (.int .i64 y4) ∧ w'.cell? ⟨w5.heap.size, 5, none⟩ = some (.int .i64 y5) ∧ Below W2.heap.size W2 w') := by
          intro w' hb
          have y0q := (hb.block _ (lt_of_blk HXX2.out)).trans HXX2.out
          have y1q := (hb.block _ (lt_of_blk HYY2.out)).trans HYY2.out
          exact ⟨(cell_of_blk y0q 0).1, (cell_of_blk y0q 1).1, (cell_of_blk y0q 2).1, (cell_of_blk y0q 3).1, (cell_of_blk y0q 4).1, (cell_of_blk y0q 5).1, (cell_of_blk y1q 0).1, (cell_of_blk y1q 1).1, (cell_of_blk y1q 2).1, (cell_of_blk y1q 3).1, (cell_of_blk y1q 4).1, (cell_of_blk y1q 5).1, hb⟩
        have HS := Lib.hid hS
        have keep : ∀ a b : World, Below W2.heap.size W2 a → Below a.heap.size a b → Below W2.heap.size W2 b := fun a b h k => bch h k
        have KEEP := Lib.hid keep
        have hwS := Below.refl W2.heap.size W2
        clear hS keep
        go_region_held3 (fun w' => w'.cell? ⟨w3.heap.size, 0, none⟩ = some (.int .i64 y0) ∧ w'.cell? ⟨w3.heap.size, 1, none⟩ = some (.int .i64 y1) ∧ w'.cell? ⟨w3.heap.size, 2, none⟩ = some (.int .i64 y2) ∧ w'.cell? ⟨w3.heap.size, 3, none⟩ = some (.int .i64 y3) ∧ w'.cell? ⟨w3.heap.size, 4, none⟩ = some (.int .i64 y4) ∧ w'.cell? ⟨w3.heap.size, 5, none⟩ = some (.int .i64 y5) ∧ w'.cell? ⟨w5.heap.size, 0, none⟩ = some (.int .i64 y0) ∧ w'.cell? ⟨w5.heap.size, 1, none⟩ = some (.int .i64 y1) ∧ w'.cell? ⟨w5.heap.size, 2, none⟩ = some (.int .i64 y2) ∧ w'.cell? ⟨w5.heap.size, 3, none⟩ = some (.int .i64 y3) ∧ w'.cell? ⟨w5.heap.size, 4, none⟩ = some (.int .i64 y4) ∧ w'.cell? ⟨w5.heap.size, 5, none⟩ = some (.int .i64 y5) ∧ Below W2.heap.size W2 w')
          (first | exact HS.out _ (by first | assumption | exact Below.drew (by assumption)))
          (first | (go_at_call 23; refine (HBT.out _).mono ?_; rintro e w6 ⟨rfl, hb⟩; have HB9 := KEEP.out _ _ (by first | assumption | exact Below.drew (by assumption)) hb))
        go_wp2_with fail
        go_region_held3 (fun w' => w'.cell? ⟨w3.heap.size, 0, none⟩ = some (.int .i64 y0) ∧ w'.cell? ⟨w3.heap.size, 1, none⟩ = some (.int .i64 y1) ∧ w'.cell? ⟨w3.heap.size, 2, none⟩ = some (.int .i64 y2) ∧ w'.cell? ⟨w3.heap.size, 3, none⟩ = some (.int .i64 y3) ∧ w'.cell? ⟨w3.heap.size, 4, none⟩ = some (.int .i64 y4) ∧ w'.cell? ⟨w3.heap.size, 5, none⟩ = some (.int .i64 y5) ∧ w'.cell? ⟨w5.heap.size, 0, none⟩ = some (.int .i64 y0) ∧ w'.cell? ⟨w5.heap.size, 1, none⟩ = some (.int .i64 y1) ∧ w'.cell? ⟨w5.heap.size, 2, none⟩ = some (.int .i64 y2) ∧ w'.cell? ⟨w5.heap.size, 3, none⟩ = some (.int .i64 y3) ∧ w'.cell? ⟨w5.heap.size, 4, none⟩ = some (.int .i64 y4) ∧ w'.cell? ⟨w5.heap.size, 5, none⟩ = some (.int .i64 y5) ∧ Below W2.heap.size W2 w')
          (first | exact HS.out _ (by first | assumption | exact Below.drew (by assumption)))
          (first | (go_at_call 22; refine (law06_lives _).mono ?_; rintro e w7 ⟨rfl, hb⟩; have HB10 := KEEP.out _ _ (by first | assumption | exact Below.drew (by assumption)) hb))
        go_wp2_with fail
        go_ret
        exact ⟨rfl, bch HB8.out HB10⟩
      · have hbs : b ≠ sk := fun e => hyh (HIFF.out.1 e)
        have heq := (HEQ2.out hyh).out
        have hbq : ((b : Int) == (sk : Int)) = false := by rw [beq_eq_false_iff_ne]; omega
        have hbq2 : (b == sk) = false := by rw [beq_eq_false_iff_ne]; omega
        clear hyh hbs
        try simp only at heq
        have hS : ∀ w', Below W2.heap.size W2 w' → (w'.cell? ⟨w3.heap.size, 0, none⟩ = some (.int .i64 rs) ∧ w'.cell? ⟨w3.heap.size, 1, none⟩ = some (.int .i64 hd) ∧ w'.cell? ⟨w3.heap.size, 2, none⟩ = some (.int .i64 i) ∧ w'.cell? ⟨w3.heap.size, 3, none⟩ = some (.int .i64 o) ∧ w'.cell? ⟨w3.heap.size, 4, none⟩ = some (.int .i64 r) ∧ w'.cell? ⟨w3.heap.size, 5, none⟩ = some (.int .i64 md) ∧ w'.cell? ⟨w5.heap.size, 0, none⟩ = some (.int .i64 y0) ∧ w'.cell? ⟨w5.heap.size, 1, none⟩ = some (.int .i64 y1) ∧ w'.cell? ⟨w5.heap.size, 2, none⟩ = some (.int .i64 y2) ∧ w'.cell? ⟨w5.heap.size, 3, none⟩ = some (.int .i64 y3) ∧ w'.cell? ⟨w5.heap.size, 4, none⟩ = some (.int .i64 y4) ∧ w'.cell? ⟨w5.heap.size, 5, none⟩ = some (.int .i64 y5) ∧ Below W2.heap.size W2 w') := by
          intro w' hb
          have y0q := (hb.block _ (lt_of_blk HXX2.out)).trans HXX2.out
          have y1q := (hb.block _ (lt_of_blk HYY2.out)).trans HYY2.out
          exact ⟨(cell_of_blk y0q 0).1, (cell_of_blk y0q 1).1, (cell_of_blk y0q 2).1, (cell_of_blk y0q 3).1, (cell_of_blk y0q 4).1, (cell_of_blk y0q 5).1, (cell_of_blk y1q 0).1, (cell_of_blk y1q 1).1, (cell_of_blk y1q 2).1, (cell_of_blk y1q 3).1, (cell_of_blk y1q 4).1, (cell_of_blk y1q 5).1, hb⟩
        have HS := Lib.hid hS
        have keep : ∀ a b : World, Below W2.heap.size W2 a → Below a.heap.size a b → Below W2.heap.size W2 b := fun a b h k => bch h k
        have KEEP := Lib.hid keep
        have hwS := Below.refl W2.heap.size W2
        clear hS keep
        go_region_held3 (fun w' => w'.cell? ⟨w3.heap.size, 0, none⟩ = some (.int .i64 rs) ∧ w'.cell? ⟨w3.heap.size, 1, none⟩ = some (.int .i64 hd) ∧ w'.cell? ⟨w3.heap.size, 2, none⟩ = some (.int .i64 i) ∧ w'.cell? ⟨w3.heap.size, 3, none⟩ = some (.int .i64 o) ∧ w'.cell? ⟨w3.heap.size, 4, none⟩ = some (.int .i64 r) ∧ w'.cell? ⟨w3.heap.size, 5, none⟩ = some (.int .i64 md) ∧ w'.cell? ⟨w5.heap.size, 0, none⟩ = some (.int .i64 y0) ∧ w'.cell? ⟨w5.heap.size, 1, none⟩ = some (.int .i64 y1) ∧ w'.cell? ⟨w5.heap.size, 2, none⟩ = some (.int .i64 y2) ∧ w'.cell? ⟨w5.heap.size, 3, none⟩ = some (.int .i64 y3) ∧ w'.cell? ⟨w5.heap.size, 4, none⟩ = some (.int .i64 y4) ∧ w'.cell? ⟨w5.heap.size, 5, none⟩ = some (.int .i64 y5) ∧ Below W2.heap.size W2 w')
          (first | exact HS.out _ (by first | assumption | exact Below.drew (by assumption)))
          (first | (go_at_call 23; refine (HBT.out _).mono ?_; rintro e w6 ⟨rfl, hb⟩; have HB9 := KEEP.out _ _ (by first | assumption | exact Below.drew (by assumption)) hb))
        go_wp2_with fail
        go_region_held3 (fun w' => w'.cell? ⟨w3.heap.size, 0, none⟩ = some (.int .i64 rs) ∧ w'.cell? ⟨w3.heap.size, 1, none⟩ = some (.int .i64 hd) ∧ w'.cell? ⟨w3.heap.size, 2, none⟩ = some (.int .i64 i) ∧ w'.cell? ⟨w3.heap.size, 3, none⟩ = some (.int .i64 o) ∧ w'.cell? ⟨w3.heap.size, 4, none⟩ = some (.int .i64 r) ∧ w'.cell? ⟨w3.heap.size, 5, none⟩ = some (.int .i64 md) ∧ w'.cell? ⟨w5.heap.size, 0, none⟩ = some (.int .i64 y0) ∧ w'.cell? ⟨w5.heap.size, 1, none⟩ = some (.int .i64 y1) ∧ w'.cell? ⟨w5.heap.size, 2, none⟩ = some (.int .i64 y2) ∧ w'.cell? ⟨w5.heap.size, 3, none⟩ = some (.int .i64 y3) ∧ w'.cell? ⟨w5.heap.size, 4, none⟩ = some (.int .i64 y4) ∧ w'.cell? ⟨w5.heap.size, 5, none⟩ = some (.int .i64 y5) ∧ Below W2.heap.size W2 w')
          (first | exact HS.out _ (by first | assumption | exact Below.drew (by assumption)))
          (first | (go_at_call 22; refine (law06_lives _).mono ?_; rintro e w7 ⟨rfl, hb⟩; have HB10 := KEEP.out _ _ (by first | assumption | exact Below.drew (by assumption)) hb))
        go_wp2_with fail
        go_ret
        exact ⟨rfl, bch HB8.out HB10⟩
    · obtain ⟨hy0, hne⟩ := HNO.out hg
      have hgq : (g == 0) = false := by rw [beq_eq_false_iff_ne]; exact hg
      have hbq : ((b : Int) != (sk : Int)) = true := by rw [bne_iff_ne]; omega
      have hbq2 : (b != sk) = true := by rw [bne_iff_ne]; omega
      clear hg hne
      unfold hd0 at hy0
      simp only [Hd.mk.injEq] at hy0
      obtain ⟨rfl, rfl, rfl, rfl, rfl, rfl⟩ := hy0
      go_wp2_with fail
      refine (law06_lives _).mono ?_
      rintro e w6 ⟨rfl, hb6⟩
      go_wp2_with fail
      go_ret
      exact ⟨rfl, bch (bal HB7.out _) hb6⟩
set_option maxHeartbeats 8000000 in
theorem walk (h : Hd) (hw : h.wide) (v0 : Value) (hv : v0 = hdVal h) (code : ByteArray) (at0 to0 : Int) (w : World) :
    Calls Try.prog 9 #[v0, .string code, .int .i64 at0, .int .i64 to0] w fun e w' => e = .returned (.bool true) ∧ Below w.heap.size w w' := by
  subst hv
  by_cases hl : 10000 < code.size
  · exact long h code at0 to0 hl w
  · by_cases he : (imgBuild h code).2 = 0
    · exact good h code at0 to0 (by omega) he w
    · exact bad h code at0 to0 (by omega) he w

theorem own : ownKnob Try.prog.godebug = none := by kernel_rfl
set_option maxRecDepth 100000 in
theorem lifted (os : Os) (started : os.Started) (H : Type) (enc : TypeId × Value → H) :
    ReturnsInHanded {} Try.checked os 9 .any (Rows.imageBackSpec.pre6 enc Try.prog Try.f9 Rows.imageBackRow.domain false) (Rows.imageBackSpec.post enc Try.prog Try.f9 false true false false) := by
  refine returnsInHanded_of_change_sized (C := Try.checked) own started (by kernel_rfl) Try.func9
    (ChangeSpec.witness6 (enc := enc) (C := Try.checked) false ⟨#[], #[.agg #[.int .i64 0, .int .i64 0, .int .i64 0, .int .i64 0, .int .i64 0, .int .i64 0], .string ⟨#[]⟩, .int .i64 0, .int .i64 0], []⟩ 8 (by kernel_rfl) (by kernel_rfl) (by kernel_rfl) (by kernel_rfl)) ?_
  intro W base args ds gs before hval0 hW hcnd hsz _
  have hval : ∀ (j : Nat) t v, Try.f9.params[j]? = some t → args[j]? = some v → Value.okWide Try.prog W .any base t v := hval0
  have hW' := hW
  obtain ⟨p, q, hA0, hV, rfl, hfz, hnd⟩ := hW
  have hA : DataW.TrodAll enc Try.prog W 0 (fun _ => true) true Try.f9.params.toList args.toList ds p := hA0
  rw [Try.params9] at hA hval
  obtain ⟨v0, vs0, d0, ds0, p0, q0, hargs, rfl, rfl, h0, r0⟩ := trodAll_cons hA
  obtain ⟨v1, vs1, d1, ds1, p1, q1, rfl, rfl, rfl, h1, r1⟩ := trodAll_cons r0
  obtain ⟨v2, vs2, d2, ds2, p2, q2, rfl, rfl, rfl, h2, r2⟩ := trodAll_cons r1
  obtain ⟨v3, vs3, d3, ds3, p3, q3, rfl, rfl, rfl, h3, r3⟩ := trodAll_cons r2
  obtain ⟨rfl, rfl, rfl⟩ := trodAll_nil r3
  obtain rfl : args = #[v0, v1, v2, v3] := by cases args; simp_all
  obtain ⟨rfl, rfl⟩ := trodVars_none hV
  clear hA0 hval0
  obtain ⟨h, hv, hw⟩ := open_head (hval 0 46 v0 rfl rfl) h0 (fun x hx => by simpa using hW'.lt x (by simp [hx])) (weights_of hsz 0 rfl rfl)
  obtain ⟨code, rfl, rfl, rfl, w1⟩ := Go.ChangeMaps.open_string Try.underlying9 (hval 1 9 v1 rfl rfl) h1
  obtain ⟨at0, rfl, rfl, rfl, w2⟩ := open_int Try.underlying3 (hval 2 3 v2 rfl rfl) h2
  obtain ⟨to0, rfl, rfl, rfl, w3⟩ := open_int Try.underlying3 (hval 3 3 v3 rfl rfl) h3
  refine (walk h hw v0 hv code at0 to0 W).mono fun e W' ⟨he, hg⟩ => ?_
  subst he
  exact ⟨_, rfl, law_post (by kernel_rfl) (by kernel_rfl) rfl (by kernel_rfl) Try.underlying4 rfl hW' hg⟩

theorem proved : Rows.ImageBackSaid :=
  OpenClaim.holds_of_wide 9 Try.f9 rfl rfl rfl rfl rfl rfl rfl ⟨rfl, rfl, rfl, rfl, rfl⟩ rfl rfl rfl rfl rfl (by kernel_rfl) Try.func9 (by kernel_rfl)
    (of_decide_eq_true (by kernel_rfl)) (by unfold Func.isWrapper; first | (rw [if_pos (by decide +kernel)]; kernel_rfl) | (rw [if_neg (by decide +kernel)]; exact ⟨rfl, rfl⟩))
    (fun os started H enc _ => lifted os started H enc)
#print axioms proved
end Go.Proofs.Ytgipelnjbpkfjaa.imageBack
