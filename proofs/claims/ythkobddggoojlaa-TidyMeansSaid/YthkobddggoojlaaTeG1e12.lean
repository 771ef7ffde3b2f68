/- Parts of a proof. No condition but those that each theorem names. -/
import Derived.WalkKit
import Derived.OpenShut
import Derived.Below
import Derived.Lib.Hide
import Derived.Laws.OwnMore
import Derived.Deep.QuietTactic
import Derived.Deep.AppendLies
import Derived.ProofKit
import Derived.SizedLaws
import Derived.Test.YthkobddggoojlaaProg
import Derived.Handy
import Derived.Deep.RegionHeld3
import Derived.BigQuiet
import Derived.Maps.AppendAt
import Derived.StillTailTactics
import Derived.Test.YthkobddggoojlaaTeG0e0
import Derived.Test.YthkobddggoojlaaTeG0e2
import Derived.Test.YthkobddggoojlaaTeIrC
import Derived.Test.YthkobddggoojlaaTeG1e6
namespace Go.Proofs.Ythkobddggoojlaa
open Go.RowKit
set_option linter.unusedVariables false
theorem ints_zero (n : Nat) : madeCells (Value.int .i64 0).cells (n * 1) = ints (List.replicate n 0) := by
  unfold madeCells ints
  apply Array.ext_getElem?
  intro j
  by_cases hj : j < n
  · simp [hj, Value.cells, Nat.mod_one]
  · simp [hj]
theorem run_make_ints (n : Nat) (hn : n ≤ 2000000) (W : World) : (Instr.makeSlice 72 (.int .i64 (n : Int)) (.int .i64 (n : Int))).run Try.prog W = .ok (.slice (some ⟨W.heap.size, 0, none⟩) n n) (W.alloc (.cells (ints (List.replicate n 0)) 3)) := by
  obtain ⟨i0, hi, hz0, hz1, hz2⟩ := info_parts int_info
  have h := run_make (P := Try.prog) W 72 3 i0 (.int .i64 0) Try.underlying72 hi hz0 .i64 .i64 (n : Int) (n : Int) (by omega) (by omega) (by rw [hz2]; omega) (by omega)
  rw [hz1] at h
  simp only [Int.toNat_natCast] at h
  rw [ints_zero] at h
  exact h
theorem slice_info : (Try.prog.info? 72).map (fun i => (i.zero, i.size, i.bytes)) = some (some (.slice none 0 0), 1, 24) := by kernel_rfl
theorem run_append_row (w : World) (base : Nat) (v : Value) (n : Nat) (ys : List Value) (hown : w.ownsRow base 72 1 v n ys) (A : Option Addr) (l c : Nat) (hn : n ≤ 2000000) (hbase : base ≤ w.heap.size) :
    ∃ v' w', (Builtin.append_ #[85, 85] 85 #[v, .slice (some ⟨w.heap.size, 0, none⟩) 1 1]).run Try.prog (w.alloc (.cells #[.slice A l c] 72)) = .ok v' w' ∧
      w'.ownsRow base 72 1 v' (n + 1) (ys ++ [.slice A l c]) ∧ (w.alloc (.cells #[.slice A l c] 72)).grownBy w' v.ownBlock ∧ (v'.ownBlock = v.ownBlock ∨ v'.ownBlock = some (w.heap.size + 1)) := by
  obtain ⟨i0, hi, hz0, hz1, hz2⟩ := info_parts slice_info
  obtain ⟨v', w', h1, h2, h3, h4⟩ := run_append_own_at (P := Try.prog) (w.alloc (.cells #[.slice A l c] 72)) base 85 85 72 i0 _ 1 24 Try.underlying85 hi hz0 hz1 hz2 rfl (by omega) v n ys (hown.alloc _) ⟨w.heap.size, 0, none⟩ 1 1 [.slice A l c] rfl (World.news_of_block (heap_alloc_new w _)) (by intro u hu; simp at hu; rcases hu with rfl; rfl) (by unfold maxLen; omega) (by omega) (by simp; omega)
  refine ⟨v', w', h1, h2, h3, ?_⟩
  have e : (w.alloc (.cells #[.slice A l c] 72)).heap.size = w.heap.size + 1 := by simp
  rw [e] at h4
  exact h4.2
theorem rowVals_push (gs : List Nat) (lens : List Nat) (g n : Nat) (h : gs.length = lens.length) : rowVals (gs ++ [g]) (lens ++ [n]) = rowVals gs lens ++ [iSl g n] := by
  unfold rowVals
  rw [List.length_append, List.length_singleton, List.range_succ, List.map_append]
  congr 1
  · apply List.map_congr_left
    intro i hi
    have hi := List.mem_range.1 hi
    rw [List.getD_eq_getElem?_getD, List.getD_eq_getElem?_getD, List.getD_eq_getElem?_getD, List.getD_eq_getElem?_getD, List.getElem?_append_left hi, List.getElem?_append_left (by omega)]
  · simp only [List.map_cons, List.map_nil]
    rw [List.getD_eq_getElem?_getD, List.getD_eq_getElem?_getD, List.getElem?_append_right (Nat.le_refl _), List.getElem?_append_right (by omega), h]
    simp
section
variable {w : World} {B M gt : Nat} {gs : List Nat} {aav : Value} {p : Ir} {av bv : Value} {ts : List Int} {mem : List (List Int)}
/-- One array more: its block g, the one-cell block of the append, the row, and the run's own block. -/
theorem RunAt.push (h : RunAt w B M gt gs aav p av bv ⟨ts, mem⟩) {g : Nat} {l : List Int} (hB : B ≤ w.heap.size) (hg : w.heap[g]? = some (.cells (ints l) 3 (0, 0))) (hgB : B ≤ g) (hgM : g ≠ M) (hgt : g ≠ gt) (hgs : g ∉ gs) (hgr : aav.ownBlock ≠ some g) (hn : gs.length ≤ 2000000) :
    ∃ v' w', (Builtin.append_ #[85, 85] 85 #[aav, .slice (some ⟨w.heap.size, 0, none⟩) 1 1]).run Try.prog (w.alloc (.cells #[iSl g l.length] 72)) = .ok v' w' ∧
      w'.cell? ⟨M, 6, none⟩ = some aav ∧ w'.frozen? ⟨M, 6, none⟩ = false ∧ RunAt (w'.setCell ⟨M, 6, none⟩ v') B M gt (gs ++ [g]) v' p av bv ⟨ts, mem ++ [l]⟩ ∧ (∀ {C W}, Below C W w → C ≤ B → Below C W (w'.setCell ⟨M, 6, none⟩ v')) ∧
      (∃ A c, v' = .slice A (gs.length + 1) c) := by
  obtain ⟨h1, h2, h3, h4, h5, h6, h7, h8, h9, h10, h11, h12⟩ := h
  obtain ⟨v', w', a1, a2, a3, a4⟩ := run_append_row w B aav gs.length (rowVals gs (mem.map List.length)) h3 (some ⟨g, 0, none⟩) l.length l.length hn hB
  have hold : ∀ b x, w.heap[b]? = some x → aav.ownBlock ≠ some b → w'.heap[b]? = some x := by
    intro b x hb hne
    have hlt := lt_of_blk hb
    refine (a3.block b (by simp; omega) (fun e => hne e.symm)).trans (((bnew w _).block b hlt).trans hb)
  have hrM : aav.ownBlock ≠ some M := fun e => (h12 M e).1 rfl
  have hrt : aav.ownBlock ≠ some gt := fun e => (h12 gt e).2.1 rfl
  have hrg : ∀ q ∈ gs, aav.ownBlock ≠ some q := fun q hq e => (h12 q e).2.2 hq
  have k1 := hold M _ h1 hrM
  have hg' := hold g _ hg hgr
  have hset := grown_setCell w' ⟨M, 6, none⟩ v'
  have hr' : ∀ r, v'.ownBlock = some r → r ≠ M ∧ r ≠ gt ∧ r ∉ gs ++ [g] := by
    intro r hr
    rcases a4 with a4 | a4
    · rw [a4] at hr
      obtain ⟨q1, q2, q3⟩ := h12 r hr
      refine ⟨q1, q2, ?_⟩
      rw [List.mem_append, List.mem_singleton]
      rintro (hm | rfl)
      · exact q3 hm
      · exact hgr hr
    · rw [a4] at hr
      injection hr with hr
      subst hr
      have m1 := lt_of_blk h1
      have m2 := lt_of_blk h2
      have m3 := lt_of_blk hg
      refine ⟨by omega, by omega, ?_⟩
      rw [List.mem_append, List.mem_singleton]
      rintro (hm | hm)
      · obtain ⟨i, hi, hie⟩ := List.getElem_of_mem hm
        have := lt_of_blk (h4 i hi)
        rw [List.getD_eq_getElem?_getD, List.getElem?_eq_getElem hi] at this
        simp at this
        omega
      · omega
  refine ⟨v', w', a1, (cell_of_blk k1 6).1, (cell_of_blk k1 6).2, ?_, ?_, ?_⟩
  · refine ⟨?_, (hset.block _ (lt_of_blk (hold gt _ h2 hrt)) (fun e => by injection e with e; exact h9 e)).trans (hold gt _ h2 hrt), ?_, ?_, by simp only [List.length_append, h5]; rfl, h6, h7, ?_, h9, ?_, ?_, hr'⟩
    · rw [blk_set k1 6 v']; rfl
    · rw [List.map_append, List.length_append]
      show World.ownsRow _ _ _ _ _ _ (rowVals (gs ++ [g]) (mem.map List.length ++ [l.length]))
      rw [rowVals_push _ _ _ _ (by simp [h5])]
      refine a2.kept hset ?_
      cases hv : v'.ownBlock with
      | none => exact .inl rfl
      | some r => exact .inr (fun e => by injection e with e; exact (hr' r hv).1 e)
    · intro i hi
      simp only
      rw [List.length_append, List.length_singleton] at hi
      by_cases e : i < gs.length
      · have e1 : (gs ++ [g]).getD i 0 = gs.getD i 0 := by rw [List.getD_eq_getElem?_getD, List.getElem?_append_left e, List.getD_eq_getElem?_getD]
        have e2 : (mem ++ [l]).getD i [] = mem.getD i [] := by rw [List.getD_eq_getElem?_getD, List.getElem?_append_left (by simp only at h5; omega), List.getD_eq_getElem?_getD]
        rw [e1, e2]
        have hm := getD_memI gs i 0 e
        have := hold _ _ (h4 i e) (hrg _ hm)
        exact (hset.block _ (lt_of_blk this) (fun e => by injection e with e; exact (h10 _ hm).1 e)).trans this
      · obtain rfl : i = gs.length := by omega
        have e1 : (gs ++ [g]).getD gs.length 0 = g := by rw [List.getD_eq_getElem?_getD, List.getElem?_append_right (Nat.le_refl _)]; simp
        have e2 : (mem ++ [l]).getD gs.length [] = l := by simp only at h5; rw [h5, List.getD_eq_getElem?_getD, List.getElem?_append_right (Nat.le_refl _)]; simp
        rw [e1, e2]
        exact (hset.block _ (lt_of_blk hg') (fun e => by injection e with e; exact hgM e)).trans hg'
    · intro q hq
      rcases List.mem_append.1 hq with hq | hq
      · exact h8 q hq
      · rw [List.mem_singleton.1 hq]; exact hgB
    · intro q hq
      rcases List.mem_append.1 hq with hq | hq
      · exact h10 q hq
      · rw [List.mem_singleton.1 hq]; exact ⟨hgM, hgt⟩
    · rw [List.nodup_append]
      refine ⟨h11, by simp, ?_⟩
      intro a ha b hb
      rw [List.mem_singleton.1 hb]
      rintro rfl
      exact hgs ha
  · intro C W hb hC
    have hs := hb.size
    have hBw := lt_of_blk h1
    have b1 := hb.alloc (show C ≤ w.heap.size by omega) (.cells #[iSl g l.length] 72)
    have b2 := b1.grown a3 (show C ≤ _ by simp; omega) (fun r hr => by have := (h3.lt r hr).1; omega)
    exact b2.grown hset (by have := a3.size; simp at this; omega) (fun r hr => by injection hr with hr; have e : M = r := hr; omega)
  · obtain ⟨A, c, e⟩ := own_len a2
    exact ⟨A, c, e⟩
end
theorem fill_step (f : Nat → Int) (n i : Nat) (h : i < n) : ((List.range i).map f ++ List.replicate (n - i) 0).set i (f i) = (List.range (i + 1)).map f ++ List.replicate (n - (i + 1)) 0 := by
  rw [List.set_append_right _ _ (by simp), List.range_succ, List.map_append, List.append_assoc]
  congr 1
  rw [List.length_map, List.length_range, Nat.sub_self, show n - i = (n - (i + 1)) + 1 by omega, List.replicate_succ, List.set_cons_zero]
  rfl
/-- An input's array lies within the input. -/
theorem arrEnd_in (inp out : Int) : ∀ (l : List Arr) (en : Int), (arrEnd inp out l en).isSome = true → ∀ a ∈ l, a.kind = 1 → 0 ≤ a.off ∧ a.off + a.elem * a.len ≤ inp
  | [], en, h, a, ha, _ => by simp at ha
  | x :: l, en, h, a, ha, hk => by
    unfold arrEnd at h
    cases hs : arrStep inp out en x with
    | none => rw [hs] at h; simp at h
    | some e =>
      rw [hs] at h
      rcases List.mem_cons.1 ha with rfl | ha
      · unfold arrStep at hs
        split at hs
        · cases hs
        · split at hs
          · omega
          · split at hs
            · omega
            · cases hs
      · exact arrEnd_in inp out l e h a ha hk
theorem extract_four (s : ByteArray) (k : Nat) (h : k + 4 ≤ s.size) : s.extract k (k + 4) = ⟨#[s.data.toList.getD k 0, s.data.toList.getD (k + 1) 0, s.data.toList.getD (k + 2) 0, s.data.toList.getD (k + 3) 0]⟩ := by
  have hl : s.data.toList.length = s.size := by simp
  have e : (s.extract k (k + 4)).data.toList = [s.data.toList.getD k 0, s.data.toList.getD (k + 1) 0, s.data.toList.getD (k + 2) 0, s.data.toList.getD (k + 3) 0] := by
    simp only [ByteArray.data_extract, Array.toList_extract, List.extract_eq_take_drop]
    rw [show k + 4 - k = 4 by omega]
    apply List.ext_getElem?
    intro i
    rw [List.getElem?_take]
    split
    · rename_i hi
      have e4 : i = 0 ∨ i = 1 ∨ i = 2 ∨ i = 3 := by omega
      rw [List.getElem?_drop, getD_some s.data.toList (k + i) 0 (by omega)]
      rcases e4 with rfl | rfl | rfl | rfl <;> rfl
    · rw [List.getElem?_eq_none (by simp; omega)]
  have : (s.extract k (k + 4)).data = #[s.data.toList.getD k 0, s.data.toList.getD (k + 1) 0, s.data.toList.getD (k + 2) 0, s.data.toList.getD (k + 3) 0] := by rw [← Array.toList_inj]; exact e
  cases hx : s.extract k (k + 4) with
  | mk d => rw [hx] at this; rw [← this]
end Go.Proofs.Ythkobddggoojlaa
