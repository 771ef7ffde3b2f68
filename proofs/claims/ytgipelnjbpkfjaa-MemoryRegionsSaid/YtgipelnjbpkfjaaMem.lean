/- A memory: what its blocks hold; contracts of find. No condition but those that each theorem names. -/
import Derived.Test.YtgipelnjbpkfjaaFind2
import Derived.Test.YtgipelnjbpkfjaaLives5
import Derived.Test.YtgipelnjbpkfjaaWb
namespace Go.Proofs.Ytgipelnjbpkfjaa
open Go.RowKit

def rgNth (i o r f : Int) (k : Nat) : Rg := (mmRegions i o r f).getD k rgNone
/-- How many bytes a region has, where they begin in the block of all bytes, and how many there are in all. -/
def rgLen (i o r f : Int) (k : Nat) : Nat := (rgNth i o r f k).len.toNat
def rgOff (i o r f : Int) : Nat → Nat
  | 0 => 0
  | k + 1 => rgOff i o r f k + rgLen i o r f k
def rgAll (i o r f : Int) : Nat := rgOff i o r f 7
def byteVals (bs : List UInt8) : Array Value := (bs.map fun b => Value.int .u8 (b.toNat : Int)).toArray
/-- A memory at block M, its bytes at block gb. -/
def MemAt (w : World) (M gb : Nat) (i o r f : Int) (bs : List UInt8) : Prop :=
  ∃ (gl gs cap : Nat) (cs : Array Value), w.heap[M]? = some (.cells #[.slice (some ⟨gl, 0, none⟩) 7 7, .slice (some ⟨gs, 0, none⟩) 7 cap] 103 (0, 0)) ∧
    w.heap[gl]? = some (.cells (rgCells i o r f) 37 (0, 0)) ∧ w.heap[gs]? = some (.cells cs 60 (0, 0)) ∧
    (∀ k, k < 7 → cs[k]? = some (.slice (some ⟨gb, rgOff i o r f k, none⟩) (rgLen i o r f k) (rgAll i o r f - rgOff i o r f k))) ∧
    w.heap[gb]? = some (.cells (byteVals bs) 5 (0, 0)) ∧ bs.length = rgAll i o r f ∧ 7 ≤ cap
theorem MemAt.below {w w' : World} {M gb : Nat} {i o r f : Int} {bs : List UInt8} (h : MemAt w M gb i o r f bs) (hb : Below w.heap.size w w') : MemAt w' M gb i o r f bs := by
  obtain ⟨gl, gs, cap, cs, h1, h2, h3, h4, h5, h6, h7⟩ := h
  exact ⟨gl, gs, cap, cs, (hb.block _ (lt_of_blk h1)).trans h1, (hb.block _ (lt_of_blk h2)).trans h2, (hb.block _ (lt_of_blk h3)).trans h3, h4, (hb.block _ (lt_of_blk h5)).trans h5, h6, h7⟩
/-- The place of an access: region k, from the byte p of it on. -/
def Access (i o r f a n : Int) (write : Bool) (k p : Nat) : Prop := mmFind (mmRegions i o r f) a n write = ((k : Int), 0) ∧ k < 7 ∧ a - (rgNth i o r f k).base = (p : Int) ∧ (p : Int) + n ≤ (rgNth i o r f k).len ∧ (n = 1 ∨ n = 4)
theorem mmSeek_ok (a n : Int) (write : Bool) : ∀ (xs : List Rg) (j : Nat) (p : Int × Int), mmSeek a n write xs j = p → p.2 = 0 → ∃ k : Nat, p.1 = ((j + k : Nat) : Int) ∧ k < xs.length ∧ hasB (xs.getD k rgNone) a n = true
  | [], j, p, h, h0 => by
    unfold mmSeek at h; rw [← h] at h0; simp at h0
  | x :: xs, j, p, h, h0 => by
    unfold mmSeek at h
    by_cases hb : hasB x a n = true
    · rw [if_pos hb] at h
      split at h
      · rw [← h] at h0; simp at h0
      · exact ⟨0, by rw [← h]; rfl, by simp, by simpa using hb⟩
    · rw [if_neg hb] at h
      obtain ⟨k, h1, h2, h3⟩ := mmSeek_ok a n write xs (j + 1) p h h0
      exact ⟨k + 1, by rw [h1]; congr 1; omega, by simp; omega, by simpa using h3⟩
theorem find_access (i o r f a n : Int) (write : Bool) (h : (mmFind (mmRegions i o r f) a n write).2 = 0) : ∃ k p, Access i o r f a n write k p := by
  have hn : n = 1 ∨ n = 4 := by
    refine Decidable.byContradiction fun hh => ?_
    unfold mmFind at h
    rw [if_pos (by omega)] at h
    simp at h
  have hs : mmSeek a n write (mmRegions i o r f) 0 = mmFind (mmRegions i o r f) a n write := by
    unfold mmFind at *
    rw [if_neg (by omega)] at *
    split at h
    · simp at h
    · rename_i h1; rw [if_neg h1]
  obtain ⟨k, h1, h2, h3⟩ := mmSeek_ok a n write _ 0 _ hs h
  have h4 : k < 7 := h2
  unfold hasB at h3
  simp only [Bool.and_eq_true, decide_eq_true_eq] at h3
  refine ⟨k, (a - (rgNth i o r f k).base).toNat, ?_, h4, ?_, ?_, hn⟩
  · refine Prod.ext ?_ h
    rw [h1]; simp
  · show a - ((mmRegions i o r f).getD k rgNone).base = _
    unfold rgNth; omega
  · unfold rgNth; omega
theorem rgOff_step (i o r f : Int) (k : Nat) : rgOff i o r f (k + 1) = rgOff i o r f k + rgLen i o r f k := rfl
theorem rgOff_le (i o r f : Int) (k : Nat) (hk : k < 7) : rgOff i o r f k + rgLen i o r f k ≤ rgAll i o r f := by
  unfold rgAll
  have e : k = 0 ∨ k = 1 ∨ k = 2 ∨ k = 3 ∨ k = 4 ∨ k = 5 ∨ k = 6 := by omega
  rcases e with rfl | rfl | rfl | rfl | rfl | rfl | rfl <;> simp only [rgOff] <;> omega
theorem mmFind_at (i o r f a n : Int) (write : Bool) (k p : Nat) (h : Access i o r f a n write k p) : pairVal (mmFind (mmRegions i o r f) a n write) = .tuple #[.int .i64 (k : Int), .int .i64 0] := by rw [h.1]; rfl
theorem run_cut (gb off len cap p n : Nat) (h : p + n ≤ len) (hc : len ≤ cap) (hn : 0 < n) (W : World) :
    (Instr.slice 60 (.slice (some ⟨gb, off, none⟩) len cap) (some (.int .i64 (p : Int))) (some (.int .i64 ((p : Int) + (n : Int)))) none).run Try.prog W = .ok (.slice (some ⟨gb, off + p, none⟩) n (cap - p)) W := by
  have q0 : (0 : Int) ≤ (p : Int) := by omega
  have q1 : (p : Int) ≤ (p : Int) + (n : Int) := by omega
  have q2 : (p : Int) + (n : Int) ≤ (cap : Int) := by omega
  have q3 : ((p : Int) + (n : Int)).toNat = p + n := by omega
  have q4 : cap ≠ p := by omega
  have q5 : p + n - p = n := by omega
  simp [go_sem, q0, q1, q2, q3, q4, q5, Addr.add]
theorem mem_find_nil (a n : Int) (write : Bool) (w : World) : Calls Try.prog 51 #[.pointer none, .int .i64 a, .int .i64 n, .bool write] w fun e w' =>
    e = .returned (.tuple #[.slice none 0 0, .int .i64 1]) ∧ w = w' := by
  go_enter Try.func51, Try.ntmps51
  go_wp2_with fail
  go_ret2
  exact ⟨rfl, rfl⟩
theorem mem_find_no (M gb : Nat) (i o r f a n : Int) (write : Bool) (bs : List UInt8) (hck : mmCheck i o r f = 0) (ha : a ≤ 9223372036854775807) (he : (mmFind (mmRegions i o r f) a n write).2 ≠ 0) (w : World) (h : MemAt w M gb i o r f bs) :
    Calls Try.prog 51 #[.pointer (some ⟨M, 0, none⟩), .int .i64 a, .int .i64 n, .bool write] w fun e w' =>
    e = .returned (.tuple #[.slice none 0 0, .int .i64 (mmFind (mmRegions i o r f) a n write).2]) ∧ Below w.heap.size w w' := by
  obtain ⟨gl, gs, cap, cs, h1, h2, h3, h4, h5, h6, h7⟩ := h
  have HF := Lib.hid (memmap_Find (some ⟨gl, 0, none⟩) 7 (mmRegions i o r f) a n write (by show (7 : Nat) ≤ _; decide) (fine_of i o r f hck) ha w (rgSl_of h2))
  have c0 : w.cell? ⟨M, 0, none⟩ = some (.slice (some ⟨gl, 0, none⟩) 7 7) := (cell_of_blk h1 0).1
  unfold pairVal at HF
  generalize mmFind (mmRegions i o r f) a n write = U at *
  obtain ⟨k, e⟩ := U
  simp only at HF he ⊢
  have hq : (e != 0) = true := by rw [bne_iff_ne]; exact he
  clear h1 h2 h3 h4 h5 h6 h7 he
  go_enter Try.func51, Try.ntmps51
  go_wp2_with fail
  refine HF.out.mono ?_
  rintro e w2 ⟨rfl, hb⟩
  go_wp2_with fail
  go_ret2
  exact ⟨rfl, hb⟩
theorem mem_find_yes (M gb : Nat) (i o r f a : Int) (m : Nat) (write : Bool) (bs : List UInt8) (hck : mmCheck i o r f = 0) (ha : a ≤ 9223372036854775807) (k p : Nat) (hacc : Access i o r f a (m : Int) write k p) (w : World) (h : MemAt w M gb i o r f bs) :
    Calls Try.prog 51 #[.pointer (some ⟨M, 0, none⟩), .int .i64 a, .int .i64 (m : Int), .bool write] w fun e w' =>
    e = .returned (.tuple #[.slice (some ⟨gb, rgOff i o r f k + p, none⟩) m (rgAll i o r f - rgOff i o r f k - p), .int .i64 0]) ∧ Below w.heap.size w w' := by
  have hM := Lib.hid h
  obtain ⟨gl, gs, cap, cs, h1, h2, h3, h4, h5, h6, h7⟩ := h
  have hfine := fine_of i o r f hck
  have HF := Lib.hid (memmap_Find (some ⟨gl, 0, none⟩) 7 (mmRegions i o r f) a (m : Int) write (by show (7 : Nat) ≤ _; decide) hfine ha w (rgSl_of h2))
  rw [mmFind_at i o r f a m write k p hacc] at HF
  obtain ⟨_, hk, hp, hl, hn⟩ := hacc
  have hle := rgOff_le i o r f k hk
  have hxf : (rgNth i o r f k).fine := hfine _ (by
    unfold rgNth
    have hlt : k < (mmRegions i o r f).length := hk
    rw [List.getD, List.getElem?_eq_getElem hlt]; exact List.getElem_mem hlt)
  have hlen : rgLen i o r f k = (rgNth i o r f k).len.toNat := rfl
  have hcut := run_cut gb (rgOff i o r f k) (rgLen i o r f k) (rgAll i o r f - rgOff i o r f k) p m (by omega) (by omega) (by omega)
  have c0 : w.cell? ⟨M, 0, none⟩ = some (.slice (some ⟨gl, 0, none⟩) 7 7) := (cell_of_blk h1 0).1
  have H1 := Lib.hid h1
  have H2 := Lib.hid h2
  have H3 := Lib.hid h3
  have H4 := Lib.hid (h4 k hk)
  obtain ⟨hx1, hx2, _, hfine2⟩ := hxf
  have hm : (m : Int) ≤ 4 := by omega
  have hpb : (p : Int) ≤ 1099511627776 := by have := hfine2; omega
  clear h1 h2 h3 h4 h5 h6 h7 hle hlen hl hn hfine hfine2
  go_enter Try.func51, Try.ntmps51
  go_wp2_with fail
  refine HF.out.mono ?_
  rintro e w2 ⟨rfl, hb⟩
  have g1 := (hb.block _ (lt_of_blk H1.out)).trans H1.out
  have g2 := (hb.block _ (lt_of_blk H2.out)).trans H2.out
  have g3 := (hb.block _ (lt_of_blk H3.out)).trans H3.out
  have c0 : w2.cell? ⟨M, 0, none⟩ = some (.slice (some ⟨gl, 0, none⟩) 7 7) := (cell_of_blk g1 0).1
  have c1 : w2.cell? ⟨M, 1, none⟩ = some (.slice (some ⟨gs, 0, none⟩) 7 cap) := (cell_of_blk g1 1).1
  obtain ⟨b, off, e, hrg⟩ := rgSl_of g2 (by simp [mmRegions])
  injection e with e
  injection e with e1 e2 _
  subst e1 e2
  obtain ⟨x0, _, _⟩ := hrg.2 k hk
  rw [Nat.zero_add] at x0
  have c2 : w2.cell? ⟨gs, k, none⟩ = _ := (cell_of_blk g3 k).1.trans H4.out
  change w2.cell? ⟨gl, k * 3, none⟩ = some (.int .i64 (rgNth i o r f k).base) at x0
  generalize (rgNth i o r f k).base = xb at *
  generalize hOff : rgOff i o r f k = off at *
  generalize rgLen i o r f k = len at *
  generalize hTot : rgAll i o r f = tot at *
  have HOFF := Lib.hid hOff
  have HTOT := Lib.hid hTot
  clear hOff hTot
  have k0 : (0 : Int) ≤ (k : Int) := by omega
  have k7 : (k : Int) < 7 := by omega
  have HB := Lib.hid hb
  clear g1 g2 g3 hb hrg H1 H2 H3 H4 HF hM
  go_wp2_with fail
  go_ret2
  refine ⟨?_, HB.out⟩
  rw [HOFF.out, HTOT.out]
  rfl
end Go.Proofs.Ytgipelnjbpkfjaa
