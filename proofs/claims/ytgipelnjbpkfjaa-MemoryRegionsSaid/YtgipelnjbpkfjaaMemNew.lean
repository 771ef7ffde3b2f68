/- The contract of memory.New: a memory of zeros, the flash and the input laid in front, or the error. -/
import Derived.Test.YtgipelnjbpkfjaaMemLoad
import Derived.Deep.RegionHeld3
import Derived.Deep.AppendLies
import Derived.Deep.DeepCutAuto
import Derived.Deep.RegionLaw
import Derived.Laws.CopyOwn
namespace Go.Proofs.Ytgipelnjbpkfjaa
open Go.RowKit

/-- New's error. -/
def newErr (i o r f n : Int) : Int := if mmCheck i o r f ≠ 0 then mmCheck i o r f else if n ≠ i then 2 else 0
theorem mem_New_no (i o r : Int) (flash input : ByteArray) (he : newErr i o r flash.size input.size ≠ 0) (w : World) :
    Calls Try.prog 29 #[.agg #[.int .i64 i, .int .i64 o, .int .i64 r], .string flash, .string input] w fun e w' =>
    e = .returned (.tuple #[.pointer none, .int .i64 (newErr i o r flash.size input.size)]) ∧ Below w.heap.size w w' := by
  by_cases hc : mmCheck i o r flash.size = 0
  · have hn : (input.size : Int) ≠ i := by
      intro e
      unfold newErr at he
      rw [if_neg (by simpa using hc), if_neg (by simpa using e)] at he
      exact he rfl
    rw [show newErr i o r flash.size input.size = 2 by unfold newErr; rw [if_neg (by simpa using hc), if_pos hn]]
    have HC := Lib.hid hc
    have hq : ((input.size : Int) != i) = true := by rw [bne_iff_ne]; exact hn
    clear hc hn he
    go_enter Try.func29, Try.ntmps29
    go_wp2_with fail
    refine (memmap_Regions_yes i o r flash.size HC.out _).mono ?_
    rintro e w2 ⟨g, rfl, hg, hge, hb⟩
    have hx := (hb.block w.heap.size (by simp)).trans (heap_alloc_new w _)
    have c0 : w2.cell? ⟨w.heap.size, 0, none⟩ = some (.int .i64 i) := (cell_of_blk hx 0).1
    have HB := Lib.hid (bch ((Below.refl _ _).alloc (Nat.le_refl _) _) hb)
    clear hb hx hg hge
    go_wp2_with fail
    go_ret2
    exact ⟨rfl, HB.out⟩
  · rw [show newErr i o r flash.size input.size = mmCheck i o r flash.size by unfold newErr; rw [if_pos hc]]
    have hq : (mmCheck i o r flash.size != 0) = true := by rw [bne_iff_ne]; exact hc
    have HC := Lib.hid hc
    clear hc he
    go_enter Try.func29, Try.ntmps29
    go_wp2_with fail
    refine (memmap_Regions_no i o r flash.size HC.out _).mono ?_
    rintro e w2 ⟨rfl, hb⟩
    go_wp2_with fail
    go_ret2
    exact ⟨rfl, bch ((Below.refl _ _).alloc (Nat.le_refl _) _) hb⟩
theorem rgLen_cast (i o r : Int) (f : Nat) (hck : mmCheck i o r f = 0) (k : Nat) (hk : k < 7) : ((rgLen i o r f k : Nat) : Int) = (rgNth i o r f k).len ∧ rgLen i o r f k ≤ 262144 := by
  unfold mmCheck szBad at hck
  split at hck
  · simp at hck
  · split at hck
    · simp at hck
    · unfold rgLen rgNth mmRegions
      have e : k = 0 ∨ k = 1 ∨ k = 2 ∨ k = 3 ∨ k = 4 ∨ k = 5 ∨ k = 6 := by omega
      rcases e with rfl | rfl | rfl | rfl | rfl | rfl | rfl <;> simp <;> omega
theorem rgOff_bound (i o r : Int) (f : Nat) (hck : mmCheck i o r f = 0) : ∀ k, k ≤ 7 → rgOff i o r f k ≤ 262144 * k
  | 0, _ => by simp [rgOff]
  | k + 1, h => by
    have h1 := rgOff_bound i o r f hck k (by omega)
    have h2 := (rgLen_cast i o r f hck k (by omega)).2
    simp only [rgOff]; omega
/-- The slices of all regions' bytes, as far as the k-th. -/
def rgSlices (i o r f : Int) (gb k : Nat) : List Value := (List.range k).map fun j => .slice (some ⟨gb, rgOff i o r f j, none⟩) (rgLen i o r f j) (rgAll i o r f - rgOff i o r f j)
theorem byte_info : (Try.prog.info? 5).map (fun i => (i.zero, i.size, i.bytes)) = some (some (.int .u8 0), 1, 1) := by kernel_rfl
theorem slice_info : (Try.prog.info? 60).map (fun i => (i.zero, i.size, i.bytes)) = some (some (.slice none 0 0), 1, 24) := by kernel_rfl
theorem made_bytes (n : Nat) : madeCells (Value.int .u8 0).cells (n * 1) = byteVals (List.replicate n 0) := by
  unfold madeCells byteVals
  apply Array.ext_getElem?
  intro j
  by_cases hj : j < n
  · simp [hj, Value.cells, Nat.mod_one]
  · simp [hj]
theorem run_make_bytes (n : Nat) (hn : n ≤ 2000000) (W : World) : (Instr.makeSlice 60 (.int .i64 (n : Int)) (.int .i64 (n : Int))).run Try.prog W = .ok (.slice (some ⟨W.heap.size, 0, none⟩) n n) (W.alloc (.cells (byteVals (List.replicate n 0)) 5)) := by
  obtain ⟨i0, hi, hz0, hz1, hz2⟩ := info_parts byte_info
  have h := run_make (P := Try.prog) W 60 5 i0 (.int .u8 0) Try.underlying60 hi hz0 .i64 .i64 (n : Int) (n : Int) (by omega) (by omega) (by rw [hz2]; omega) (by omega)
  rw [hz1] at h
  simp only [Int.toNat_natCast] at h
  rw [made_bytes] at h
  exact h
/-- What stands after k rounds of New's second loop. -/
def NewRel (w : World) (M gl gb : Nat) (i o r f : Int) (k : Nat) (w' : World) : Prop :=
  Below w.heap.size w w' ∧ (∃ v, w'.heap[M]? = some (.cells #[.slice (some ⟨gl, 0, none⟩) 7 7, v] 103 (0, 0)) ∧ w'.ownsRow (gb + 1) 60 1 v k (rgSlices i o r f gb k)) ∧
    w'.heap[gb]? = some (.cells (byteVals (List.replicate (rgAll i o r f) 0)) 5 (0, 0)) ∧ w'.heap[gl]? = some (.cells (rgCells i o r f) 37 (0, 0)) ∧ M < gb ∧ gl < M ∧ w.heap.size ≤ M
def restVal (i o r f : Int) (gb k : Nat) : Value := .slice (some ⟨gb, if k = 7 then rgOff i o r f 6 else rgOff i o r f k, none⟩) (rgAll i o r f - rgOff i o r f k) (rgAll i o r f - rgOff i o r f k)
theorem rgSlices_succ (i o r f : Int) (gb k : Nat) : rgSlices i o r f gb (k + 1) = rgSlices i o r f gb k ++ [.slice (some ⟨gb, rgOff i o r f k, none⟩) (rgLen i o r f k) (rgAll i o r f - rgOff i o r f k)] := by
  unfold rgSlices
  rw [List.range_succ, List.map_append]; rfl
theorem blk_set {w : World} {g : Nat} {cs : Array Value} {t : TypeId} (h : w.heap[g]? = some (.cells cs t (0, 0))) (i : Nat) (u : Value) : (w.setCell ⟨g, i, none⟩ u).heap[g]? = some (.cells (cs.setIfInBounds i u) t (0, 0)) := by
  simp [World.setCell, Array.getElem?_modify, h]
theorem splice_vals (bs l : List UInt8) (o n : Nat) : (List.take o (byteVals bs).toList ++ Lib.byteCells l ++ List.drop n (byteVals bs).toList).toArray = byteVals (List.take o bs ++ (l ++ List.drop n bs)) := by
  rw [byteVals_list]
  unfold byteVals Lib.byteCells
  simp
theorem after_append {W5 W w1 : World} {v : Value} {gb g : Nat} {x : Obj} (hW : ∀ b, b < W5.heap.size → W.heap[b]? = W5.heap[b]?) (hWs : W.heap.size = W5.heap.size + 1) (hgrow : W.grownBy w1 v.ownBlock) (hol : ∀ b, v.ownBlock = some b → gb + 1 ≤ b) (h : W5.heap[g]? = some x) (hg : g ≤ gb) : w1.heap[g]? = some x := by
  have hlt := lt_of_blk h
  refine (hgrow.block g (by omega) (fun e => ?_)).trans ((hW g hlt).trans h)
  have := hol g e.symm
  omega
theorem rgOff_4 (i o r : Int) (f : Nat) (k : Nat) (hk : k < 7) : rgOff i o r f k + 4 ≤ rgAll i o r f := by
  have h6 : rgLen i o r f 6 = 4 := rfl
  unfold rgAll
  have e : k = 0 ∨ k = 1 ∨ k = 2 ∨ k = 3 ∨ k = 4 ∨ k = 5 ∨ k = 6 := by omega
  rcases e with rfl | rfl | rfl | rfl | rfl | rfl | rfl <;> simp only [rgOff, h6] <;> omega
theorem rgOff_5 (i o r : Int) (f : Nat) (k : Nat) (hk : k < 6) : rgOff i o r f k + rgLen i o r f k + 4 ≤ rgAll i o r f := rgOff_4 i o r f (k + 1) (by omega)
theorem grown_setCell (w : World) (p : Addr) (u : Value) : w.grownBy (w.setCell p u) (some p.block) :=
  ⟨rfl, rfl, rfl, by simp [World.setCell], fun k _ hne => Below.heap_setCell w p u k (fun e => hne (by rw [e]))⟩
theorem own_setCell {w : World} {base : Nat} {e : TypeId} {size : Nat} {v : Value} {n : Nat} {xs : List Value} (h : w.ownsRow base e size v n xs) (p : Addr) (u : Value) (hp : p.block < base) : (w.setCell p u).ownsRow base e size v n xs := by
  refine h.kept (grown_setCell w p u) ?_
  cases hv : v.ownBlock with
  | none => exact .inl rfl
  | some b => exact .inr (fun e => by have := (h.lt b hv).1; injection e with e; omega)
theorem run_head (gb off m len : Nat) (h : len ≤ m) (W : World) : (Instr.slice 60 (.slice (some ⟨gb, off, none⟩) m m) none (some (.int .i64 (len : Int))) none).run Try.prog W = .ok (.slice (some ⟨gb, off, none⟩) len m) W := by
  have q0 : (0 : Int) ≤ (len : Int) := by omega
  have q1 : (len : Int) ≤ (m : Int) := by omega
  simp [go_sem, q0, q1, Addr.add]
theorem run_tail (gb off m len : Nat) (h : len ≤ m) (W : World) : (Instr.slice 60 (.slice (some ⟨gb, off, none⟩) m m) (some (.int .i64 (len : Int))) none none).run Try.prog W = .ok (.slice (some ⟨gb, if m = len then off else off + len, none⟩) (m - len) (m - len)) W := by
  have q0 : (0 : Int) ≤ (len : Int) := by omega
  have q1 : (len : Int) ≤ (m : Int) := by omega
  by_cases he : m = len
  · subst he
    simp [go_sem, q0]
  · rw [if_neg he]
    simp [go_sem, q0, q1, Addr.add, he]
/-- The bytes of a memory at its beginning. -/
def memInit (flash input : ByteArray) (n : Nat) : List UInt8 := flash.data.toList ++ (input.data.toList ++ List.replicate (n - flash.size - input.size) 0)
def NewPost (i o r : Int) (flash input : ByteArray) (w : World) (e : Ending) (w' : World) : Prop :=
  ∃ M gb : Nat, e = .returned (.tuple #[.pointer (some ⟨M, 0, none⟩), .int .i64 0]) ∧ MemAt w' M gb i o r flash.size (memInit flash input (rgAll i o r flash.size)) ∧ w.heap.size ≤ gb ∧ Below w.heap.size w w'
set_option maxRecDepth 100000 in
set_option maxHeartbeats 4000000 in
theorem mem_New_yes (i o r : Int) (flash input : ByteArray) (hck : mmCheck i o r flash.size = 0) (hin : (input.size : Int) = i) (w : World) :
    Calls Try.prog 29 #[.agg #[.int .i64 i, .int .i64 o, .int .i64 r], .string flash, .string input] w (NewPost i o r flash input w) := by
  have HC := Lib.hid hck
  have HLEN := Lib.hid (rgLen_cast i o r flash.size hck)
  have HOB := Lib.hid (rgOff_bound i o r flash.size hck)
  have HIN := Lib.hid hin
  have hq : ((input.size : Int) != i) = false := by rw [bne_eq_false_iff_eq]; exact hin
  clear hck hin
  go_enter Try.func29, Try.ntmps29
  go_wp2_with fail
  refine (memmap_Regions_yes i o r flash.size HC.out _).mono ?_
  rintro e w2 ⟨gl, rfl, hg, hge, hb⟩
  have hx := (hb.block w.heap.size (by simp)).trans (heap_alloc_new w _)
  have c0 : w2.cell? ⟨w.heap.size, 0, none⟩ = some (.int .i64 i) := (cell_of_blk hx 0).1
  have HB := Lib.hid (bch ((Below.refl _ _).alloc (Nat.le_refl _) _) hb)
  have HG := Lib.hid hg
  have HRS := Lib.hid (rgSl_of hg)
  clear hb hx hg hge
  go_wp2_with fail
  go_loopw [10, 34] (fun s j wr => ∃ k : Nat, k ≤ 7 ∧ j = .int .i64 k ∧ s = .int .i64 ((rgOff i o r flash.size k : Nat) : Int) ∧ Below w2.heap.size w2 wr) (fun _ j _ => 7 - (intOf j).toNat)
  case atStart => exact ⟨0, by omega, rfl, rfl, Below.refl _ _⟩
  case round =>
    obtain ⟨k, hk, rfl, rfl, hBw⟩ := hrel
    by_cases hlt : k < 7
    · obtain ⟨b, off, e, hrg⟩ := HRS.out (by simp [mmRegions])
      injection e with e
      injection e with e1 e2 _
      subst e1 e2
      obtain ⟨x0, x1, x2⟩ := hrg.2 k hlt
      rw [Nat.zero_add] at x0 x1 x2
      rw [← hBw.cell hrg.1] at x0 x1 x2
      obtain ⟨hl1, hl2⟩ := HLEN.out k hlt
      have ho := HOB.out k (by omega)
      have hstep : ((rgOff i o r flash.size (k + 1) : Nat) : Int) = (rgOff i o r flash.size k : Nat) + (rgLen i o r flash.size k : Nat) := by simp only [rgOff]; omega
      change wr.cell? ⟨gl, k * 3, none⟩ = some (.int .i64 (rgNth i o r flash.size k).base) at x0
      change wr.cell? ⟨gl, k * 3 + 1, none⟩ = some (.int .i64 (rgNth i o r flash.size k).len) at x1
      change wr.cell? ⟨gl, k * 3 + 2, none⟩ = some (.bool (rgNth i o r flash.size k).write) at x2
      rw [← hl1] at x1
      generalize (rgNth i o r flash.size k).base = xb at x0
      generalize (rgNth i o r flash.size k).write = xw at x2
      have HS := Lib.hid hstep
      have HBw := Lib.hid hBw
      have k0 : (0 : Int) ≤ (k : Int) := by omega
      have k7 : (k : Int) < 7 := by omega
      generalize rgOff i o r flash.size k = sum at *
      generalize rgLen i o r flash.size k = len at *
      have hs1 : (sum : Int) ≤ 1835008 := by omega
      have hs2 : (len : Int) ≤ 262144 := by omega
      clear hrg hl1 hl2 ho hstep hBw
      go_wp2_with fail
      go_roundw
      case rel => exact ⟨k + 1, by omega, by go_num, by rw [HS.out], bal HBw.out _⟩
      case measure => simp [intOf]; omega
    · obtain rfl : k = 7 := by omega
      have HBw := Lib.hid hBw
      clear hBw
      have htb : rgOff i o r flash.size 7 ≤ 2000000 := by have := HOB.out 7 (by omega); omega
      have hmk := run_make_bytes (rgOff i o r flash.size 7) htb
      have hgl2 : gl < w2.heap.size := lt_of_blk HG.out
      have hwr : w2.heap.size ≤ wr.heap.size := HBw.out.size
      have hgr : wr.heap[gl]? = some (.cells (rgCells i o r flash.size) 37 (0, 0)) := (HBw.out.block _ hgl2).trans HG.out
      go_upto_region 14 with (fail)
      have hn0 : NewRel w wr.heap.size gl (wr.heap.size + 1) i o r flash.size 0 ((wr.alloc (.cells #[.slice (some ⟨gl, 0, none⟩) 7 7, .slice none 0 0] 103)).alloc (.cells (byteVals (List.replicate (rgOff i o r flash.size 7) 0)) 5)) := by
        refine ⟨bal (bal (bch HB.out HBw.out) _) _, ⟨.slice none 0 0, (Below.heap_alloc _ _ _ (by simp)).trans (heap_alloc_new wr _), World.ownsRow_nil _ _ _ _⟩, ?_, ?_, by omega, by omega, ?_⟩
        · have := heap_alloc_new (wr.alloc (.cells #[.slice (some ⟨gl, 0, none⟩) 7 7, .slice none 0 0] 103)) (.cells (byteVals (List.replicate (rgOff i o r flash.size 7) 0)) 5)
          rw [show (wr.alloc (.cells #[.slice (some ⟨gl, 0, none⟩) 7 7, .slice none 0 0] 103)).heap.size = wr.heap.size + 1 by simp] at this
          exact this
        · exact (Below.heap_alloc _ _ _ (by simp; omega)).trans ((Below.heap_alloc _ _ _ (by omega)).trans hgr)
        · have := HB.out.size; omega
      generalize (wr.alloc (.cells #[.slice (some ⟨gl, 0, none⟩) 7 7, .slice none 0 0] 103)).alloc (.cells (byteVals (List.replicate (rgOff i o r flash.size 7) 0)) 5) = W4 at *
      have HN0 := Lib.hid hn0
      have hr0 : Value.slice (some ⟨wr.heap.size + 1, 0, none⟩) (rgOff i o r flash.size 7) (rgOff i o r flash.size 7) = restVal i o r flash.size (wr.heap.size + 1) 0 := by
        unfold restVal rgAll; simp [rgOff]
      rw [hr0]
      generalize hgb : wr.heap.size + 1 = gb at *
      have HGB := Lib.hid hgb
      generalize wr.heap.size = M at *
      clear hn0 hr0 hgr hwr hgl2 hmk htb hgb HBw HG HRS HB c0
      go_wp2_with fail
      go_loopw [14, 50] (fun rest j w' => ∃ k : Nat, k ≤ 7 ∧ j = .int .i64 k ∧ rest = restVal i o r flash.size gb k ∧ NewRel w M gl gb i o r flash.size k w') (fun _ j _ => 7 - (intOf j).toNat)
      case atStart => exact ⟨0, by omega, rfl, rfl, HN0.out⟩
      case round =>
        obtain ⟨k, hk7, rfl, rfl, hrel⟩ := hrel
        by_cases hlt7 : k < 7
        · obtain ⟨hBw, ⟨v, hM, hown⟩, hgbB, hglB, hMg, hgM, hwM⟩ := hrel
          obtain ⟨b, off, e, hrg⟩ := rgSl_of hglB (by simp [mmRegions])
          injection e with e
          injection e with e1 e2 _
          subst e1 e2
          obtain ⟨x0, x1, x2⟩ := hrg.2 k hlt7
          rw [Nat.zero_add] at x0 x1 x2
          obtain ⟨hl1, hl2⟩ := HLEN.out k hlt7
          change wr.cell? ⟨gl, k * 3, none⟩ = some (.int .i64 (rgNth i o r flash.size k).base) at x0
          change wr.cell? ⟨gl, k * 3 + 1, none⟩ = some (.int .i64 (rgNth i o r flash.size k).len) at x1
          change wr.cell? ⟨gl, k * 3 + 2, none⟩ = some (.bool (rgNth i o r flash.size k).write) at x2
          rw [← hl1] at x1
          generalize (rgNth i o r flash.size k).base = xb at x0
          generalize (rgNth i o r flash.size k).write = xw at x2
          have hl3 := rgOff_4 i o r flash.size k hlt7
          have hl4 := rgOff_le i o r flash.size k hlt7
          have hh := run_head gb (rgOff i o r flash.size k) (rgAll i o r flash.size - rgOff i o r flash.size k) (rgLen i o r flash.size k) (by omega)
          have ht := run_tail gb (rgOff i o r flash.size k) (rgAll i o r flash.size - rgOff i o r flash.size k) (rgLen i o r flash.size k) (by omega)
          have hr1 : restVal i o r flash.size gb k = .slice (some ⟨gb, rgOff i o r flash.size k, none⟩) (rgAll i o r flash.size - rgOff i o r flash.size k) (rgAll i o r flash.size - rgOff i o r flash.size k) := by
            unfold restVal; rw [if_neg (by omega)]
          have hr2 : Value.slice (some ⟨gb, if rgAll i o r flash.size - rgOff i o r flash.size k = rgLen i o r flash.size k then rgOff i o r flash.size k else rgOff i o r flash.size k + rgLen i o r flash.size k, none⟩) (rgAll i o r flash.size - rgOff i o r flash.size k - rgLen i o r flash.size k) (rgAll i o r flash.size - rgOff i o r flash.size k - rgLen i o r flash.size k) = restVal i o r flash.size gb (k + 1) := by
            unfold restVal
            by_cases h6 : k = 6
            · subst h6
              have h7 : rgAll i o r flash.size = rgOff i o r flash.size 6 + rgLen i o r flash.size 6 := rfl
              rw [if_pos (by omega), if_pos rfl, rgOff_step i o r flash.size 6, Nat.sub_add_eq]
            · have h5 := rgOff_5 i o r flash.size k (by omega)
              rw [if_neg (by omega), if_neg (by omega), rgOff_step i o r flash.size k, Nat.sub_add_eq]
          rw [hr1]
          have HR2 := Lib.hid hr2
          have hss := rgSlices_succ i o r flash.size gb k
          have HSS := Lib.hid hss
          generalize rgAll i o r flash.size - rgOff i o r flash.size k = m at *
          generalize rgOff i o r flash.size k = off at *
          generalize rgLen i o r flash.size k = len at *
          have k0 : (0 : Int) ≤ (k : Int) := by omega
          have k7 : (k : Int) < 7 := by omega
          have hMlt := lt_of_blk hM
          have hgblt := lt_of_blk hgbB
          have hgllt := lt_of_blk hglB
          have c1 : wr.cell? ⟨M, 1, none⟩ = some v := (cell_of_blk hM 1).1
          have hownlt := hown.lt
          have HM := Lib.hid hM
          have HGBB := Lib.hid hgbB
          have HGLB := Lib.hid hglB
          have HOWN := Lib.hid hown
          have HOL := Lib.hid hownlt
          have HBw := Lib.hid hBw
          have HHH := Lib.hid hh
          have HTT := Lib.hid ht
          clear hrg hl1 hl2 hl3 hl4 hr1 hr2 hss hM hgbB hglB hown hownlt hBw hh ht c1
          go_upto_region 17 with (fail)
          have hbx := heap_alloc_new wr (Obj.cells #[Value.int IntKind.i64 xb, Value.int IntKind.i64 (len : Int), Value.bool xw] 37)
          have hM5 := (Below.heap_alloc wr (Obj.cells #[Value.int IntKind.i64 xb, Value.int IntKind.i64 (len : Int), Value.bool xw] 37) M hMlt).trans HM.out
          have hgb5 := (Below.heap_alloc wr (Obj.cells #[Value.int IntKind.i64 xb, Value.int IntKind.i64 (len : Int), Value.bool xw] 37) gb hgblt).trans HGBB.out
          have hgl5 := (Below.heap_alloc wr (Obj.cells #[Value.int IntKind.i64 xb, Value.int IntKind.i64 (len : Int), Value.bool xw] 37) gl hgllt).trans HGLB.out
          have hown5 := HOWN.out.alloc (Obj.cells #[Value.int IntKind.i64 xb, Value.int IntKind.i64 (len : Int), Value.bool xw] 37)
          have hb5 := HBw.out.alloc HBw.out.size (Obj.cells #[Value.int IntKind.i64 xb, Value.int IntKind.i64 (len : Int), Value.bool xw] 37)
          have hz5 : (wr.alloc (Obj.cells #[Value.int IntKind.i64 xb, Value.int IntKind.i64 (len : Int), Value.bool xw] 37)).heap.size = wr.heap.size + 1 := by simp
          generalize wr.alloc (Obj.cells #[Value.int IntKind.i64 xb, Value.int IntKind.i64 (len : Int), Value.bool xw] 37) = W5 at *
          generalize wr.heap.size = BX at *
          have c1 : W5.cell? ⟨M, 1, none⟩ = some v := (cell_of_blk hM5 1).1
          have c2 : W5.cell? ⟨BX, 1, none⟩ = some (.int .i64 (len : Int)) := (cell_of_blk hbx 1).1
          have c1a : ∀ o, (W5.alloc o).drew.cell? ⟨M, 1, none⟩ = some v := fun o => (cell_of_blk ((Below.heap_alloc W5 o M (lt_of_blk hM5)).trans hM5) 1).1
          have c2a : ∀ o, (W5.alloc o).drew.cell? ⟨BX, 1, none⟩ = some (.int .i64 (len : Int)) := fun o => (cell_of_blk ((Below.heap_alloc W5 o BX (lt_of_blk hbx)).trans hbx) 1).1
          have c1b : ∀ o, (W5.alloc o).cell? ⟨M, 1, none⟩ = some v := fun o => c1a o
          have c2b : ∀ o, (W5.alloc o).cell? ⟨BX, 1, none⟩ = some (.int .i64 (len : Int)) := fun o => c2a o
          have HM5 := Lib.hid hM5
          have HGB5 := Lib.hid hgb5
          have HGL5 := Lib.hid hgl5
          have HO5 := Lib.hid hown5
          have HB5 := Lib.hid hb5
          have HZ5 := Lib.hid hz5
          obtain ⟨i0, hi, hz0, hz1, hz2⟩ := info_parts slice_info
          have HI0 := Lib.hid hi
          have HI1 := Lib.hid hz0
          have HI2 := Lib.hid hz1
          have HI3 := Lib.hid hz2
          have hh := HHH.out
          have hB1 : ∀ w', (W5.alloc (.cells #[.slice (some ⟨gb, off, none⟩) len m] 60)).drew.grownBy w' v.ownBlock → w'.cell? ⟨BX, 1, none⟩ = some (.int .i64 (len : Int)) := by
            intro w' hg
            have h1 := (Below.heap_alloc W5 (.cells #[.slice (some ⟨gb, off, none⟩) len m] 60) BX (lt_of_blk hbx)).trans hbx
            have h2 := (hg.block BX (by have := lt_of_blk hbx; simp; omega) (fun e => by have := (HOL.out BX e.symm).2; omega)).trans h1
            exact (cell_of_blk h2 1).1
          have B1 := Lib.hid hB1
          clear hbx hM5 hgb5 hgl5 hown5 hb5 hz5 hi hz0 hz1 hz2 x0 x1 x2 hB1
          go_region_law ((refine step_append_lies _ (by rfl) _ _ _ (by rfl) (gb + 1) 60 i0 (.slice none 0 0) 1 24 Try.underlying101 HI0.out HI1.out HI2.out HI3.out rfl (by decide) v k (rgSlices i o r flash.size gb k) (by rfl) (HO5.out.alloc _) ⟨W5.heap.size, 0, none⟩ 1 1 [.slice (some ⟨gb, off, none⟩) len m] (by rfl) rfl (World.news_of_block (heap_alloc_new _ _)) (by simp [Value.oneCell']) (by decide) (by unfold maxLen; omega) (by omega) (by have := lt_of_blk HGB5.out; simp; omega) (W5.heap.size + 1) (by simp) ?_; intro g cap w1 hown1 hgrow hat hlt; have m1 := after_append (by intro b hb; exact Below.heap_alloc W5 _ b hb) (by simp) hgrow (fun b e => (HO5.out.lt b e).1) HM5.out (by omega); have m2 := after_append (by intro b hb; exact Below.heap_alloc W5 _ b hb) (by simp) hgrow (fun b e => (HO5.out.lt b e).1) HGB5.out (Nat.le_refl _); have m3 := after_append (by intro b hb; exact Below.heap_alloc W5 _ b hb) (by simp) hgrow (fun b e => (HO5.out.lt b e).1) HGL5.out (by omega); have hb1 := (Below.drew (HB5.out.alloc HB5.out.size (.cells #[.slice (some ⟨gb, off, none⟩) len m] 60))).grown hgrow (by have := HB5.out.size; simp; omega) (fun b e => by have := (HO5.out.lt b e).1; omega); have s1 : w1.cell? ⟨M, 1, none⟩ = some v := (cell_of_blk m1 1).1; have s2 : w1.frozen? ⟨M, 1, none⟩ = false := (cell_of_blk m1 1).2))
          all_goals
            have hnr : NewRel w M gl gb i o r flash.size (k + 1) (w1.setCell ⟨M, 1, none⟩ (.slice (some ⟨g, 0, none⟩) (k + 1) cap)) := by
              refine ⟨hb1.setCell (by omega) _, ⟨_, blk_set m1 1 _, ?_⟩, ?_, ?_, hMg, hgM, hwM⟩
              · rw [HSS.out]
                exact own_setCell hown1 _ _ (by simp only; omega)
              · exact (Below.heap_setCell _ _ _ _ (by simp only; omega)).trans m2
              · exact (Below.heap_setCell _ _ _ _ (by simp only; omega)).trans m3
            have HNR := Lib.hid hnr
            have ht := HTT.out
            have hr3 := HR2.out
            generalize (if m = len then off else off + len) = off' at ht hr3
            have HR3 := Lib.hid hr3
            clear hr3
            have b1 : W5.cell? ⟨BX, 1, none⟩ = some (.int .i64 (len : Int)) := c2
            clear c1 c2 c1a c1b c2a c2b hh b1
            have b1 : w1.cell? ⟨BX, 1, none⟩ = some (.int .i64 (len : Int)) := B1.out w1 hgrow
            go_wp2_with fail
            go_roundw
            case rel => exact ⟨.slice (some ⟨gb, off', none⟩) (m - len) (m - len), .pointer (some ⟨BX, 0, none⟩), .int .i64 ((k : Int) + 1), ⟨k + 1, by omega, by go_num, HR3.out, HNR.out⟩, rfl, rfl, rfl⟩
            case measure => simp [intOf]; omega
        · obtain rfl : k = 7 := by omega
          obtain ⟨hBw, ⟨v, hM, hown⟩, hgbB, hglB, hMg, hgM, hwM⟩ := hrel
          have hv : ∃ gs cap, v = .slice (some ⟨gs, 0, none⟩) 7 cap := by
            rcases hown.2 with ⟨_, h0⟩ | ⟨gs, cap, cur, e, _⟩
            · exact absurd h0 (by decide)
            · exact ⟨gs, cap, e⟩
          obtain ⟨gs, cap, rfl⟩ := hv
          have hcs := hown.cells (g := gs) rfl
          have c0 : wr.cell? ⟨M, 1, none⟩ = some (.slice (some ⟨gs, 0, none⟩) 7 cap) := (cell_of_blk hM 1).1
          have c1 : wr.cell? ⟨gs, 0, none⟩ = some (.slice (some ⟨gb, rgOff i o r flash.size 0, none⟩) (rgLen i o r flash.size 0) (rgAll i o r flash.size - rgOff i o r flash.size 0)) := hcs 0 _ rfl
          have c2 : wr.cell? ⟨gs, 1, none⟩ = some (.slice (some ⟨gb, rgOff i o r flash.size 1, none⟩) (rgLen i o r flash.size 1) (rgAll i o r flash.size - rgOff i o r flash.size 1)) := hcs 1 _ rfl
          have hlen0 : rgLen i o r flash.size 0 = flash.size := by show ((flash.size : Int)).toNat = _; omega
          have hlen1 : rgLen i o r flash.size 1 = input.size := by have := HIN.out; show i.toNat = _; omega
          have hoff0 : rgOff i o r flash.size 0 = 0 := rfl
          have hoff1 : rgOff i o r flash.size 1 = flash.size := by rw [rgOff_step i o r flash.size 0, hoff0, hlen0]; omega
          have hsum := rgOff_le i o r flash.size 1 (by decide)
          rw [hoff1, hlen1] at hsum
          have hcur : (byteVals (List.replicate (rgAll i o r flash.size) 0)).size = rgAll i o r flash.size := by unfold byteVals; simp
          have hfl : flash.data.toList.length = flash.size := by rw [Array.length_toList, ByteArray.size_data]
          have hil : input.data.toList.length = input.size := by rw [Array.length_toList, ByteArray.size_data]
          have hcp := run_copy_str (P := Try.prog) wr 60 9 3 5 gb (rgOff i o r flash.size 0) (rgLen i o r flash.size 0) (rgAll i o r flash.size - rgOff i o r flash.size 0) flash.size flash _ 5 Try.underlying60 (by kernel_rfl) hgbB (by rw [hlen0]; exact Nat.min_self _) (by rw [hcur, hoff0]; omega)
          rw [splice_vals] at hcp
          have hX1 : List.take (rgOff i o r flash.size 0) (List.replicate (rgAll i o r flash.size) (0 : UInt8)) ++ (List.take flash.size flash.data.toList ++ List.drop (rgOff i o r flash.size 0 + flash.size) (List.replicate (rgAll i o r flash.size) 0)) = flash.data.toList ++ List.replicate (rgAll i o r flash.size - flash.size) 0 := by
            rw [hoff0, List.take_of_length_le (l := flash.data.toList) (by omega)]
            simp
          rw [hX1] at hcp
          have far : ∀ (W : World) (X : Array Value) {g t : Nat} {x : Array Value}, W.heap[gb]? = some (.cells X 5 (0, 0)) → W.heap[g]? = some (.cells x t (0, 0)) → t ≠ 5 → g ≠ gb := by
            intro W X g t x h5 h ht e
            subst e
            rw [h] at h5
            injection h5 with h5
            injection h5 with _ h5 _
            exact ht h5
          have hown' := hown.2
          have hcap0 : 7 ≤ cap := by
            rcases hown' with ⟨_, h0⟩ | ⟨g, cap2, cur, e, _, _, h3, _⟩
            · exact absurd h0 (by decide)
            · simp only [Value.slice.injEq] at e
              omega
          obtain ⟨gs2, cap2, cur, hve, _, hgs, hcap, _, _, htake⟩ : ∃ g cap cur, Value.slice (some ⟨gs, 0, none⟩) 7 cap = .slice (some ⟨g, 0, none⟩) 7 cap ∧ gb + 1 ≤ g ∧ wr.heap[g]? = some (.cells cur 60 (0, 0)) ∧ 7 ≤ cap ∧ cap ≤ maxLen ∧ cur.size = cap * 1 ∧ cur.toList.take (7 * 1) = rgSlices i o r flash.size gb 7 := by
            rcases hown' with ⟨_, h0⟩ | ⟨g, cap2, cur, e, h1, h2, h3, h4, h5, h6⟩
            · exact absurd h0 (by decide)
            · injection e with e1 e2 e3
              injection e1 with e1
              injection e1 with e1
              subst e1 e3
              exact ⟨gs, cap, cur, rfl, h1, h2, h3, h4, h5, h6⟩
          injection hve with e1 _ e3
          injection e1 with e1
          injection e1 with e1 _ _
          subst e1
          try subst e3
          have hb5 : (wr.setRow gb (byteVals (flash.data.toList ++ List.replicate (rgAll i o r flash.size - flash.size) 0))).heap[gb]? = some (.cells (byteVals (flash.data.toList ++ List.replicate (rgAll i o r flash.size - flash.size) 0)) 5 (0, 0)) := setRow_at hgbB
          have nM := far wr _ hgbB hM (by decide)
          have nL := far wr _ hgbB hglB (by decide)
          have nS := far wr _ hgbB hgs (by decide)
          have hcp2 := run_copy_str (P := Try.prog) _ 60 9 3 5 gb (rgOff i o r flash.size 1) (rgLen i o r flash.size 1) (rgAll i o r flash.size - rgOff i o r flash.size 1) input.size input _ 5 Try.underlying60 (by kernel_rfl) hb5 (by rw [hlen1]; exact Nat.min_self _) (by
            have e : (byteVals (flash.data.toList ++ List.replicate (rgAll i o r flash.size - flash.size) 0)).size = rgAll i o r flash.size := by unfold byteVals; simp; omega
            rw [e, hoff1]; exact hsum)
          rw [splice_vals] at hcp2
          have hX2 : List.take (rgOff i o r flash.size 1) (flash.data.toList ++ List.replicate (rgAll i o r flash.size - flash.size) (0 : UInt8)) ++ (List.take input.size input.data.toList ++ List.drop (rgOff i o r flash.size 1 + input.size) (flash.data.toList ++ List.replicate (rgAll i o r flash.size - flash.size) 0)) = memInit flash input (rgAll i o r flash.size) := by
            rw [hoff1, List.take_of_length_le (l := input.data.toList) (by omega), List.take_append_of_le_length (by omega), List.take_of_length_le (l := flash.data.toList) (by omega), List.drop_append, List.drop_of_length_le (l := flash.data.toList) (by omega)]
            unfold memInit
            simp [hfl]
          rw [hX2] at hcp2
          have hm5 := (setRow_far (cs' := byteVals (flash.data.toList ++ List.replicate (rgAll i o r flash.size - flash.size) 0)) nM).trans hM
          have hl5 := (setRow_far (cs' := byteVals (flash.data.toList ++ List.replicate (rgAll i o r flash.size - flash.size) 0)) nL).trans hglB
          have hs5 := (setRow_far (cs' := byteVals (flash.data.toList ++ List.replicate (rgAll i o r flash.size - flash.size) 0)) nS).trans hgs
          have hw5 := below_setRow hBw (show w.heap.size ≤ gb by omega) (byteVals (flash.data.toList ++ List.replicate (rgAll i o r flash.size - flash.size) 0))
          generalize wr.setRow gb (byteVals (flash.data.toList ++ List.replicate (rgAll i o r flash.size - flash.size) 0)) = w5 at *
          have hpost : MemAt (w5.setRow gb (byteVals (memInit flash input (rgAll i o r flash.size)))) M gb i o r flash.size (memInit flash input (rgAll i o r flash.size)) := by
            refine ⟨gl, gs, cap, cur, (setRow_far nM).trans hm5, (setRow_far nL).trans hl5, (setRow_far nS).trans hs5, ?_, setRow_at hb5, ?_, hcap0⟩
            · intro k hk
              have h1 : (cur.toList.take (7 * 1))[k]? = some (.slice (some ⟨gb, rgOff i o r flash.size k, none⟩) (rgLen i o r flash.size k) (rgAll i o r flash.size - rgOff i o r flash.size k)) := by
                rw [htake]; unfold rgSlices; simp [hk]
              rw [List.getElem?_take, if_pos (by omega)] at h1
              simpa using h1
            · unfold memInit
              simp only [List.length_append, List.length_replicate, hfl, hil]; omega
          have HPOST := Lib.hid hpost
          have HW6 := Lib.hid (below_setRow hw5 (show w.heap.size ≤ gb by omega) (byteVals (memInit flash input (rgAll i o r flash.size))))
          have hwgb : w.heap.size ≤ gb := by omega
          have d0 : w5.cell? ⟨M, 1, none⟩ = some (.slice (some ⟨gs, 0, none⟩) 7 cap) := (cell_of_blk hm5 1).1
          have d2 : w5.cell? ⟨gs, 1, none⟩ = some (.slice (some ⟨gb, rgOff i o r flash.size 1, none⟩) (rgLen i o r flash.size 1) (rgAll i o r flash.size - rgOff i o r flash.size 1)) := by
            have h1 := (cell_of_blk hs5 1).1
            have h2 := (cell_of_blk hgs 1).1
            rw [h1, ← h2]; exact c2
          have HCP1 := Lib.hid hcp
          have HCP2 := Lib.hid hcp2
          clear hlen0 hlen1 hoff0 hoff1 hsum hcur hfl hil hcp hX1 far hown' hgs hcap hcap0 htake hb5 nM nL nS hcp2 hX2 hm5 hl5 hs5 hw5 hpost hcs hM hown hgbB hglB hBw
          go_wp2_with (first
            | (with_reducible refine wpList_cpy rfl (.tmp 77) (.tmp 78) 60 9 rfl HCP1.out rfl rfl ?_)
            | (with_reducible refine wpList_cpy rfl (.tmp 85) (.tmp 86) 60 9 rfl HCP2.out rfl rfl ?_))
          go_ret2
          exact ⟨M, gb, rfl, HPOST.out, hwgb, HW6.out⟩
end Go.Proofs.Ytgipelnjbpkfjaa
