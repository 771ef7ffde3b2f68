/- Contracts of hauberklaw06.own and lives: it returns true; what lay below the heap's old size is as it was. -/
import Derived.Test.YtgipelnjbpkfjaaParse6
namespace Go.Proofs.Ytgipelnjbpkfjaa
open Go.RowKit

theorem law06_own (h : Hd) (w : World) : Calls Try.prog 24 #[hdVal h] w fun e w' => e = .returned (hdVal h) ∧ Below w.heap.size w w' := by
  obtain ⟨rs, hd, i, o, r, md⟩ := h
  unfold hdVal
  simp only
  go_enter Try.func24, Try.ntmps24
  go_wp2_with fail
  refine bodyPost_ret (v := .agg #[.int .i64 rs, .int .i64 hd, .int .i64 i, .int .i64 o, .int .i64 r, .int .i64 md]) (by simp [results, Try.results24, go_sem]) rfl ⟨rfl, ?_⟩
  exact ((Below.refl _ _).alloc (Nat.le_refl _) _).alloc (by simp) _
def liveHd : Hd := ⟨64, 66, 0, 0, 4, 0⟩
def liveCode : ByteArray := ⟨#[254, 231, 254, 231]⟩
theorem live_ok : (imgBuild liveHd liveCode).2 = 0 := by decide +kernel
theorem live_size : (imgBuild liveHd liveCode).1.size = 68 := build_size _ _ live_ok
theorem live_at (W : World) : (Instr.index 9 (.string (imgBuild liveHd liveCode).1) (.int .i64 4)).run Try.prog W = .ok (.int .u8 65) W := by kernel_rfl
theorem law06_lives (w : World) : Calls Try.prog 22 #[] w fun e w' => e = .returned (.bool true) ∧ Below w.heap.size w w' := by
  have hB := fun W => image_Build liveHd liveCode (by decide) W
  have hix := live_at
  have hsz : ((((imgBuild liveHd liveCode).1.size : Nat) : Int) == 68) = true := by rw [live_size]; rfl
  have hp := parse_build liveHd liveCode live_ok
  rw [live_ok] at hB
  generalize (imgBuild liveHd liveCode).1 = S at *
  have HB := Lib.hid hB
  have HP := Lib.hid hp
  clear hB hp
  unfold liveCode liveHd hdVal at HB
  unfold liveHd at HP
  simp only at HB
  go_enter Try.func22, Try.ntmps22
  go_wp2_with fail
  refine (HB.out _).mono ?_
  rintro e w1 ⟨rfl, hb1⟩
  have HB1 := Lib.hid hb1
  clear hb1
  go_wp2_with fail
  refine (image_Parse S _).mono ?_
  rintro e w2 ⟨rfl, hb2⟩
  have HB2 := Lib.hid (bch HB1.out hb2)
  clear hb2
  rw [HP.out]
  unfold hdVal
  go_wp2_with fail
  go_ret
  exact ⟨rfl, bal HB2.out _⟩
end Go.Proofs.Ytgipelnjbpkfjaa
