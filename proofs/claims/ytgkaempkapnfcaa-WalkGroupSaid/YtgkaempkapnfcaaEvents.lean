/- Lists of events: as data, as cells, and what a walk makes of them in whole numbers. -/
import Derived.Test.YtgkaempkapnfcaaWalk2
namespace Go.Proofs.Ytgkaempkapnfcaa
open Go.RowKit

/-- Two steps of growth, one behind the other. -/
theorem bch {a b c : World} (h : Below a.heap.size a b) (k : Below b.heap.size b c) : Below a.heap.size a c := h.trans (k.mono h.size)

structure Ev where
  kind : Int
  pc : Int
  addr : Int
  cyc : Int
def evCells (e : Ev) : List Value := [.int .i64 e.kind, .int .i64 e.pc, .int .i64 e.addr, .int .i64 e.cyc]
def evNone : Ev := ⟨0, 0, 0, 0⟩
/-- From this address on lie these events, below block B. -/
def EvAt (w : World) (B b off : Nat) (xs : List Ev) : Prop :=
  b < B ∧ ∀ k, k < xs.length → w.cell? ⟨b, off + k * 4, none⟩ = some (.int .i64 (xs.getD k evNone).kind) ∧ w.cell? ⟨b, off + k * 4 + 1, none⟩ = some (.int .i64 (xs.getD k evNone).pc) ∧
    w.cell? ⟨b, off + k * 4 + 2, none⟩ = some (.int .i64 (xs.getD k evNone).addr) ∧ w.cell? ⟨b, off + k * 4 + 3, none⟩ = some (.int .i64 (xs.getD k evNone).cyc)
/-- The slice's address is that of these events. -/
def EvSl (w : World) (B : Nat) (A : Option Addr) (xs : List Ev) : Prop := xs ≠ [] → ∃ b off, A = some ⟨b, off, none⟩ ∧ EvAt w B b off xs
theorem EvAt.below {w w' : World} {B b off : Nat} {xs : List Ev} (h : EvAt w B b off xs) {B' : Nat} (hb : Below B' w w') (hB : B ≤ B') : EvAt w' B b off xs := by
  refine ⟨h.1, fun k hk => ?_⟩
  obtain ⟨h0, h1, h2, h3⟩ := h.2 k hk
  have hlt : b < B' := Nat.lt_of_lt_of_le h.1 hB
  exact ⟨(hb.cell hlt).trans h0, (hb.cell hlt).trans h1, (hb.cell hlt).trans h2, (hb.cell hlt).trans h3⟩
theorem EvSl.below {w w' : World} {B : Nat} {A : Option Addr} {xs : List Ev} (h : EvSl w B A xs) {B' : Nat} (hb : Below B' w w') (hB : B ≤ B') : EvSl w' B A xs :=
  fun hne => let ⟨b, off, e, ha⟩ := h hne; ⟨b, off, e, ha.below hb hB⟩
theorem EvSl.more {w : World} {B B' : Nat} {A : Option Addr} {xs : List Ev} (h : EvSl w B A xs) (hB : B ≤ B') : EvSl w B' A xs :=
  fun hne => let ⟨b, off, e, ha⟩ := h hne; ⟨b, off, e, ⟨Nat.lt_of_lt_of_le ha.1 hB, ha.2⟩⟩

/-- How far one event leads, and how many quarter turns it turns. -/
def evC (e : Ev) : Int := e.cyc % 256
def evT (e : Ev) : Nat := ((e.pc % 4294967296 / 2 + e.kind) % 4).toNat
/-- A walk in whole numbers. -/
structure Wk where
  re : Int
  im : Int
  t : Nat
def Wk.step (s : Wk) (e : Ev) : Wk := ⟨s.re + evC e * cosI s.t, s.im + evC e * sinI s.t, (s.t + evT e) % 4⟩
def wkNone : Wk := ⟨0, 0, 0⟩
def wkOf (xs : List Ev) : Wk := xs.foldl Wk.step wkNone
def wkVal (s : Wk) : Value := .agg #[.int .i64 s.re, .int .i64 s.im, .int .i64 (s.t : Int)]
theorem evC_lt (e : Ev) : 0 ≤ evC e ∧ evC e < 256 := by unfold evC; omega
theorem evT_lt (e : Ev) : evT e < 4 := by unfold evT; omega
theorem cos_sin (k : Nat) : (cosI k = 0 ∨ cosI k = 1 ∨ cosI k = -1) ∧ (sinI k = 0 ∨ sinI k = 1 ∨ sinI k = -1) := by
  unfold cosI sinI; split <;> simp
theorem wkOf_take_succ (xs : List Ev) (k : Nat) (h : k < xs.length) : wkOf (xs.take (k + 1)) = (wkOf (xs.take k)).step (xs.getD k evNone) := by
  unfold wkOf
  rw [List.take_succ_eq_append_getElem h, List.foldl_append]
  simp [List.getD, List.getElem?_eq_getElem h]
theorem wkOf_inv (xs : List Ev) : (wkOf xs).t < 4 ∧ (wkOf xs).re.natAbs ≤ 255 * xs.length ∧ (wkOf xs).im.natAbs ≤ 255 * xs.length := by
  have key : ∀ (l : List Ev) (s : Wk) (n : Nat), s.t < 4 → s.re.natAbs ≤ 255 * n → s.im.natAbs ≤ 255 * n → (l.foldl Wk.step s).t < 4 ∧ (l.foldl Wk.step s).re.natAbs ≤ 255 * (n + l.length) ∧ (l.foldl Wk.step s).im.natAbs ≤ 255 * (n + l.length) := by
    intro l
    induction l with
    | nil => intro s n h1 h2 h3; exact ⟨h1, h2, h3⟩
    | cons e l ih =>
      intro s n h1 h2 h3
      have hc := evC_lt e
      have hs := cos_sin s.t
      have := ih (s.step e) (n + 1) (by unfold Wk.step; simp only; omega)
        (by unfold Wk.step; simp only; rcases hs.1 with h | h | h <;> rw [h] <;> omega)
        (by unfold Wk.step; simp only; rcases hs.2 with h | h | h <;> rw [h] <;> omega)
      simp only [List.foldl_cons, List.length_cons]
      rw [show n + (l.length + 1) = n + 1 + l.length by omega]
      exact this
  have := key xs wkNone 0 (by decide) (by decide) (by decide)
  simpa [wkOf] using this
end Go.Proofs.Ytgkaempkapnfcaa
