/- The contract of leak.First over events: where two lists differ first; and cut slices of events. No condition but those that each theorem names. -/
import Derived.Test.YtgkaempkapnfcaaGroupM
import Derived.Deep.QuietTactic
import Derived.BigQuiet
namespace Go.Proofs.Ytgkaempkapnfcaa
open Go.RowKit

/-- Where two lists differ first, as a number, or -1. -/
def FirstIs (xs ys : List Ev) (r : Int) : Prop := (r = -1 ∧ xs = ys) ∨ ∃ n : Nat, r = (n : Int) ∧ n ≤ xs.length ∧ n ≤ ys.length ∧ xs.take n = ys.take n
def mn2 (x y : Int) : Int := if y < x then y else x
theorem run_mn2 (P : Program) (ts : Array TypeId) (t : TypeId) (W : World) (a b : Int) : (Builtin.min_ ts t #[.int .i64 a, .int .i64 b]).run P W = .ok (.int .i64 (mn2 a b)) W := by
  simp [Builtin.min_, Builtin.min2]; rfl
theorem take_same (xs ys : List Ev) (k : Nat) (h : ∀ j, j < k → xs.getD j evNone = ys.getD j evNone) (h1 : k ≤ xs.length) (h2 : k ≤ ys.length) : xs.take k = ys.take k := by
  apply List.ext_getElem
  · simp; omega
  · intro i hi1 hi2
    have := h i (by simp at hi1; omega)
    simp only [List.getElem_take]
    simpa [List.getD, List.getElem?_eq_getElem (show i < xs.length by simp at hi1; omega), List.getElem?_eq_getElem (show i < ys.length by simp at hi2; omega)] using this
def FirstPost (xs ys : List Ev) (w : World) (e : Ending) (w' : World) : Prop := ∃ r : Int, FirstIs xs ys r ∧ e = .returned (.int .i64 r) ∧ ∃ n, w' = w.drewN n
theorem neq_same (a : Ev) (W : World) : (binOp .neq 55 (.agg #[.int .i64 a.kind, .int .i64 a.pc, .int .i64 a.addr, .int .i64 a.cyc]) (.agg #[.int .i64 a.kind, .int .i64 a.pc, .int .i64 a.addr, .int .i64 a.cyc])).run Try.prog W = .ok (.bool false) W := by
  simp [go_sem]
theorem neq_not (a b : Ev) (h : a ≠ b) (W : World) : (binOp .neq 55 (.agg #[.int .i64 a.kind, .int .i64 a.pc, .int .i64 a.addr, .int .i64 a.cyc]) (.agg #[.int .i64 b.kind, .int .i64 b.pc, .int .i64 b.addr, .int .i64 b.cyc])).run Try.prog W = .ok (.bool true) W := by
  have e : (a.kind == b.kind && (a.pc == b.pc && (a.addr == b.addr && a.cyc == b.cyc))) = false := by
    obtain ⟨a1, a2, a3, a4⟩ := a
    obtain ⟨b1, b2, b3, b4⟩ := b
    simp only [Ev.mk.injEq, ne_eq, not_and] at h
    rw [Bool.eq_false_iff]
    simp only [ne_eq, Bool.and_eq_true, beq_iff_eq, not_and]
    exact h
  simp [go_sem]
  simpa using e
theorem leak_first (A B : Option Addr) (c d : Nat) (xs ys : List Ev) (w : World) (hA : EvSl w w.heap.size A xs) (hB : EvSl w w.heap.size B ys) (hn : xs.length ≤ 100000) (hm : ys.length ≤ 100000) :
    Calls Try.prog 75 #[.slice A xs.length c, .slice B ys.length d] w (FirstPost xs ys w) := by
  have hmin := run_mn2 Try.prog
  have hm1 : mn2 (xs.length : Int) (ys.length : Int) ≤ (xs.length : Int) := by unfold mn2; split <;> omega
  have hm2 : mn2 (xs.length : Int) (ys.length : Int) ≤ (ys.length : Int) := by unfold mn2; split <;> omega
  have hm3 : xs.length ≤ ys.length → mn2 (xs.length : Int) (ys.length : Int) = (xs.length : Int) := by unfold mn2; intro h; rw [if_neg (by omega)]
  have hm4 : ys.length ≤ xs.length → mn2 (xs.length : Int) (ys.length : Int) = (ys.length : Int) := by unfold mn2; intro h; split <;> omega
  have hm0 : 0 ≤ mn2 (xs.length : Int) (ys.length : Int) := by unfold mn2; split <;> omega
  generalize hM : mn2 (xs.length : Int) (ys.length : Int) = M at *
  have hmn : ∀ W ts t, (Builtin.min_ ts t #[.int .i64 (xs.length : Int), .int .i64 (ys.length : Int)]).run Try.prog W = .ok (.int .i64 M) W := fun W ts t => by rw [hmin, hM]
  obtain ⟨m, rfl⟩ := Int.eq_ofNat_of_zero_le hm0
  have HA := Lib.hid hA
  have HB := Lib.hid hB
  have HM3 := Lib.hid hm3
  have HM4 := Lib.hid hm4
  clear hA hB hm3 hm4 hmin hM hm0
  go_enter Try.func75, Try.ntmps75
  go_wp2_with fail
  go_loopw [11] (fun j wr => ∃ k : Nat, k ≤ m ∧ j = .int .i64 k ∧ (∃ n, wr = w.drewN n) ∧ Hid (∀ i, i < k → xs.getD i evNone = ys.getD i evNone)) (fun j _ => m - (intOf j).toNat)
  case atStart => exact ⟨0, by omega, rfl, ⟨0, rfl⟩, Lib.hid (fun i hi => by omega)⟩
  case round =>
    obtain ⟨k, hk, rfl, ⟨n, rfl⟩, HK⟩ := hrel
    by_cases hlt : k < m
    · have hne : xs ≠ [] := by intro e; rw [e] at hm1; simp at hm1; omega
      have hne' : ys ≠ [] := by intro e; rw [e] at hm2; simp at hm2; omega
      obtain ⟨b, off, rfl, hl1, hcell⟩ := HA.out hne
      obtain ⟨h0, h1, h2, h3⟩ := hcell k (by omega)
      obtain ⟨b', off', rfl, hl2, hcell2⟩ := HB.out hne'
      obtain ⟨g0, g1, g2, g3⟩ := hcell2 k (by omega)
      have i0 : (0 : Int) ≤ (k : Int) := by omega
      have i1 : (k : Int) < (xs.length : Int) := by omega
      have i2 : (k : Int) < (ys.length : Int) := by omega
      clear hcell hcell2 hne hne'
      by_cases he : xs.getD k evNone = ys.getD k evNone
      · have hn := fun i (hi : i < k + 1) => (show xs.getD i evNone = ys.getD i evNone from (Nat.lt_or_ge i k).elim (fun h => HK.out i h) (fun h => (show i = k by omega) ▸ he))
        have HN := Lib.hid hn
        rw [← he] at g0 g1 g2 g3
        clear he hn
        have hq := neq_same (xs.getD k evNone)
        generalize xs.getD k evNone = x at h0 h1 h2 h3 g0 g1 g2 g3 hq
        obtain ⟨x0, x1, x2, x3⟩ := x
        simp only at h0 h1 h2 h3 g0 g1 g2 g3 hq
        go_wp2_with fail
        go_quiet (fail)
        go_wp2_with fail
        go_roundw
        case rel => exact ⟨k + 1, by omega, by go_num, ⟨_, rfl⟩, HN⟩
        case measure => simp [intOf]; omega
      · have hq := neq_not _ _ he
        have HT := Lib.hid (take_same xs ys k HK.out (by omega) (by omega))
        clear he
        generalize xs.getD k evNone = x at h0 h1 h2 h3 hq
        generalize ys.getD k evNone = y at g0 g1 g2 g3 hq
        obtain ⟨x0, x1, x2, x3⟩ := x
        obtain ⟨y0, y1, y2, y3⟩ := y
        simp only at h0 h1 h2 h3 g0 g1 g2 g3 hq
        go_wp2_with fail
        go_quiet (fail)
        go_wp2_with fail
        go_ret
        exact ⟨(k : Int), Or.inr ⟨k, rfl, by omega, by omega, HT.out⟩, rfl, _, by rw [World.drewN_drewN]⟩
    · obtain rfl : k = m := by omega
      have HT := Lib.hid (take_same xs ys k HK.out (by omega) (by omega))
      by_cases hl : xs.length = ys.length
      · have h3 := HM3.out (by omega)
        have hxy : xs = ys := by
          have h := HT.out
          rw [List.take_of_length_le (by omega), List.take_of_length_le (by omega)] at h
          exact h
        have HXY := Lib.hid hxy
        have hq : ((xs.length : Int) != (ys.length : Int)) = false := by rw [bne_eq_false_iff_eq]; omega
        have hq2 : (xs.length != ys.length) = false := by rw [bne_eq_false_iff_eq]; exact hl
        clear hl h3 hxy
        go_wp2_with fail
        go_ret
        exact ⟨-1, Or.inl ⟨rfl, HXY.out⟩, rfl, _, rfl⟩
      · have hq : ((xs.length : Int) != (ys.length : Int)) = true := by rw [bne_iff_ne]; omega
        have hq2 : (xs.length != ys.length) = true := by rw [bne_iff_ne]; exact hl
        clear hl
        go_wp2_with fail
        go_ret
        exact ⟨(k : Int), Or.inr ⟨k, rfl, by omega, by omega, HT.out⟩, rfl, _, rfl⟩
theorem leak_First (A B : Option Addr) (c d : Nat) (xs ys : List Ev) (w : World) (hA : EvSl w w.heap.size A xs) (hB : EvSl w w.heap.size B ys) (hn : xs.length ≤ 100000) (hm : ys.length ≤ 100000) :
    Calls Try.prog 63 #[.slice A xs.length c, .slice B ys.length d] w (FirstPost xs ys w) := by
  have HA := Lib.hid hA
  have HB := Lib.hid hB
  clear hA hB
  go_enter Try.func63, Try.ntmps63
  go_wp2_with fail
  refine (leak_first A B c d xs ys _ HA.out HB.out hn hm).mono ?_
  rintro e w' ⟨r, hr, rfl, n, rfl⟩
  have HR := Lib.hid hr
  clear hr
  go_wp2_with fail
  go_ret
  exact ⟨r, HR.out, rfl, n, rfl⟩
theorem walk_Of_at (A : Option Addr) (c m : Nat) (xs : List Ev) (hm : xs.length = m) (w : World) (hA : EvSl w w.heap.size A xs) (hn : xs.length ≤ 17592186044416) :
    Calls Try.prog 49 #[.slice A m c] w fun e w' => e = .returned (wkVal (wkOf xs)) ∧ Below w.heap.size w w' := by
  subst hm; exact walk_Of A c xs w hA hn
theorem evSl_take {w : World} {B : Nat} {A : Option Addr} {xs : List Ev} (h : EvSl w B A xs) (n : Nat) : EvSl w B A (xs.take n) := by
  intro hne
  have hx : xs ≠ [] := by intro e; rw [e] at hne; simp at hne
  obtain ⟨b, off, e, h1, h2⟩ := h hx
  refine ⟨b, off, e, h1, fun k hk => ?_⟩
  rw [List.length_take] at hk
  have e2 : (xs.take n).getD k evNone = xs.getD k evNone := by
    simp only [List.getD]; rw [List.getElem?_take, if_pos (by omega)]
  rw [e2]; exact h2 k (by omega)
theorem evSl_drop {w : World} {B : Nat} {A : Option Addr} {xs : List Ev} (h : EvSl w B A xs) (n c : Nat) (hc : xs.length ≤ c) : EvSl w B (if c = n then A else A.map (·.add (n * 4))) (xs.drop n) := by
  intro hne
  have hx : xs ≠ [] := by intro e; rw [e] at hne; simp at hne
  have hl : n < xs.length := by
    refine Decidable.byContradiction fun hh => hne ?_
    exact List.drop_of_length_le (by omega)
  obtain ⟨b, off, e, h1, h2⟩ := h hx
  subst e
  rw [if_neg (by omega)]
  have ha : ((⟨b, off, none⟩ : Addr).add (n * 4)) = ⟨b, off + n * 4, none⟩ := by
    unfold Addr.add; split
    · rename_i h; rw [h]; rfl
    · rfl
  refine ⟨b, off + n * 4, by rw [Option.map_some, ha], h1, fun k hk => ?_⟩
  rw [List.length_drop] at hk
  have e2 : (xs.drop n).getD k evNone = xs.getD (n + k) evNone := by
    simp only [List.getD]; rw [List.getElem?_drop]
  have h3 := h2 (n + k) (by omega)
  rw [e2, show off + n * 4 + k * 4 = off + (n + k) * 4 by omega]
  exact h3
end Go.Proofs.Ytgkaempkapnfcaa
