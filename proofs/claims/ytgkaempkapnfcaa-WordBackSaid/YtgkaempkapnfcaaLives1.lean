/- The contract of hauberklaw01.lives: it returns true, and the world is as it was. -/
import Derived.Test.YtgkaempkapnfcaaRefB
namespace Go.Proofs.Ytgkaempkapnfcaa
open Go.RowKit
theorem law1_lives (w : World) : Calls Try.prog 25 #[] w fun e w' => e = .returned (.bool true) ∧ w = w' := by
  have h1 : (((wLess 1 2 : Nat) : Int) == 4294967295) = true := by decide
  have h2 : (((wRor 1 1 : Nat) : Int) == 2147483648) = true := by decide
  have h3 : (((wHigh 4294967295 4294967295 : Nat) : Int) == 4294967294) = true := by decide
  go_enter Try.func25, Try.ntmps25
  go_wp2_with (first | (go_at_call 48; refine (word_Less _ _ _).mono ?_; rintro e w' ⟨rfl, rfl⟩) | (go_at_call 42; refine (word_Ror _ _ _).mono ?_; rintro e w' ⟨rfl, rfl⟩) | (go_at_call 21; refine (word_High _ _ _).mono ?_; rintro e w' ⟨rfl, rfl⟩))
  go_ret
  exact ⟨rfl, rfl⟩
end Go.Proofs.Ytgkaempkapnfcaa
