/- Parts of a proof, joined. No condition but those that each theorem names. -/
import Derived.WalkKit
import Derived.OpenShut
import Derived.Below
import Derived.Lib.Hide
import Derived.Laws.OwnMore
import Derived.Deep.QuietTactic
import Derived.Deep.AppendLies
import Derived.ProofKit
import Derived.SizedLaws
import Derived.Test.YthkobddggoojlaaProg
import Derived.Handy
import Derived.Deep.RegionHeld3
import Derived.BigQuiet
import Derived.Maps.AppendAt
import Derived.Maps.RangeWalk
import Derived.Maps.OwnSet
import Derived.StillTailTactics
import Derived.Laws.CopyOwn
import Derived.Lib.BufferWrite
import Derived.OrdersHeld
import Derived.RegionTactic
import Derived.Deep.DeepCutAuto
import Derived.Test.YthkobddggoojlaaTdG0e0
import Derived.Test.YthkobddggoojlaaTdG0e1
import Derived.Test.YthkobddggoojlaaTdIr
import Derived.Test.YthkobddggoojlaaTdG1e2
import Derived.Test.YthkobddggoojlaaTdIrC
import Derived.Test.YthkobddggoojlaaTdIrF
import Derived.Test.YthkobddggoojlaaTdG2e5
import Derived.Test.YthkobddggoojlaaTdG2e6
import Derived.Test.YthkobddggoojlaaTdG1e12
import Derived.Test.YthkobddggoojlaaTdG2e14
import Derived.Test.YthkobddggoojlaaTdTmA
import Derived.Test.YthkobddggoojlaaTdG1e4
import Derived.Test.YthkobddggoojlaaTdTdD
import Derived.Test.YthkobddggoojlaaTdTrB
import Derived.Test.YthkobddggoojlaaTdG1e9
import Derived.Test.YthkobddggoojlaaTdG2e15
import Derived.Test.YthkobddggoojlaaTdG1e14
import Derived.Test.YthkobddggoojlaaTdG2e17
import Derived.Test.YthkobddggoojlaaTdTrC
import Derived.Test.YthkobddggoojlaaTdG4e20
import Derived.Test.YthkobddggoojlaaTdG2e16
namespace Go.Proofs.Ythkobddggoojlaa
open Go.RowKit
set_option linter.unusedVariables false
set_option maxRecDepth 100000 in
set_option maxHeartbeats 4000000 in
theorem tidy_Tidy_bad (p : Ir) (av bv : Value) (hf : p.fine) (he : irErr p ≠ 0) (w : World) (hI : IrRep w w.heap.size p av bv) :
    Calls Try.prog 8 #[irVal p av bv] w (PassPost irZero (irErr p) w) := by
  have HC := Lib.hid (fun W h => ir_Check p av bv hf W h)
  have HI := Lib.hid hI
  have q : (irErr p != 0) = true := by rw [bne_iff_ne]; exact he
  unfold irVal at *
  generalize irErr p = fe at *
  have hx0 := alloc_last _ _ (alloc_size w (.cells #[.int .i64 p.temps, av, bv, .int .i64 p.inp, .int .i64 p.out] 25) rfl) (.cells #[.int .i64 0, .slice none 0 0, .slice none 0 0, .int .i64 0, .int .i64 0] 25)
  have hb1 := bal (bnew w (.cells #[.int .i64 p.temps, av, bv, .int .i64 p.inp, .int .i64 p.out] 25)) (.cells #[.int .i64 0, .slice none 0 0, .slice none 0 0, .int .i64 0, .int .i64 0] 25)
  clear hI he hf
  go_enter Try.func8, Try.ntmps8
  go_wp2_with fail
  refine (HC.out _ (HI.out.next hb1)).mono ?_
  rintro e w2 ⟨rfl, hb2⟩
  have hx := (hb2.block _ (lt_of_blk hx0)).trans hx0
  have HB := Lib.hid (bch hb1 hb2)
  obtain ⟨r0, s0⟩ := cell_of_blk hx 0
  obtain ⟨r1, s1⟩ := cell_of_blk hx 1
  obtain ⟨r2, s2⟩ := cell_of_blk hx 2
  obtain ⟨r3, s3⟩ := cell_of_blk hx 3
  obtain ⟨r4, s4⟩ := cell_of_blk hx 4
  clear hx0 hb1 hb2
  go_wp2_with fail
  have hr7 := blk_set (blk_set (blk_set (blk_set (blk_set hx 0 (.int .i64 0)) 1 (.slice none 0 0)) 2 (.slice none 0 0)) 3 (.int .i64 0)) 4 (.int .i64 0)
  have hB7 := ((((HB.out.setCell (p := ⟨w.heap.size + 1, 0, none⟩) (by show w.heap.size ≤ w.heap.size + 1; omega) (.int .i64 0)).setCell (p := ⟨w.heap.size + 1, 1, none⟩) (by show w.heap.size ≤ w.heap.size + 1; omega) (.slice none 0 0)).setCell (p := ⟨w.heap.size + 1, 2, none⟩) (by show w.heap.size ≤ w.heap.size + 1; omega) (.slice none 0 0)).setCell (p := ⟨w.heap.size + 1, 3, none⟩) (by show w.heap.size ≤ w.heap.size + 1; omega) (.int .i64 0)).setCell (p := ⟨w.heap.size + 1, 4, none⟩) (by show w.heap.size ≤ w.heap.size + 1; omega) (.int .i64 0)
  generalize ((((w2.setCell ⟨w.heap.size + 1, 0, none⟩ (.int .i64 0)).setCell ⟨w.heap.size + 1, 1, none⟩ (.slice none 0 0)).setCell ⟨w.heap.size + 1, 2, none⟩ (.slice none 0 0)).setCell ⟨w.heap.size + 1, 3, none⟩ (.int .i64 0)).setCell ⟨w.heap.size + 1, 4, none⟩ (.int .i64 0) = w7 at *
  have k0 : w7.cell? ⟨w.heap.size + 1, 0, none⟩ = some (.int .i64 0) := (cell_of_blk hr7 0).1
  have k1 : w7.cell? ⟨w.heap.size + 1, 1, none⟩ = some (.slice none 0 0) := (cell_of_blk hr7 1).1
  have k2 : w7.cell? ⟨w.heap.size + 1, 2, none⟩ = some (.slice none 0 0) := (cell_of_blk hr7 2).1
  have k3 : w7.cell? ⟨w.heap.size + 1, 3, none⟩ = some (.int .i64 0) := (cell_of_blk hr7 3).1
  have k4 : w7.cell? ⟨w.heap.size + 1, 4, none⟩ = some (.int .i64 0) := (cell_of_blk hr7 4).1
  clear hr7 hx r0 r1 r2 r3 r4 s0 s1 s2 s3 s4
  refine bodyPost_ret (by simp [results, Try.results8, go_sem, k0, k1, k2, k3, k4]; try rfl) rfl ?_
  exact ⟨none, 0, none, 0, rfl, ⟨SlRep.nil_ _ _, SlRep.nil_ _ _⟩, hB7⟩
end Go.Proofs.Ythkobddggoojlaa
namespace Go.Proofs.Ythkobddggoojlaa
open Go.RowKit
set_option linter.unusedVariables false
/-- What lies at place i of rows of one width, told by the place. -/
theorem flatten_back (m : Nat) (hm : 0 < m) : ∀ (cs : List (List Value)), (∀ es ∈ cs, es.length = m) → ∀ (i : Nat) (u : Value), cs.flatten[i]? = some u → ∃ es, cs[i / m]? = some es ∧ es[i % m]? = some u
  | [], _, i, u, h => by simp at h
  | c :: cs, hl, i, u, h => by
    have hc : c.length = m := hl c (by simp)
    rw [List.flatten_cons] at h
    by_cases hi : i < m
    · rw [List.getElem?_append_left (by omega)] at h
      exact ⟨c, by rw [Nat.div_eq_of_lt hi]; rfl, by rw [Nat.mod_eq_of_lt hi]; exact h⟩
    · rw [List.getElem?_append_right (by omega), hc] at h
      obtain ⟨es, h1, h2⟩ := flatten_back m hm cs (fun es he => hl es (by simp [he])) (i - m) u h
      have e : i = (i - m) + m := by omega
      refine ⟨es, ?_, ?_⟩
      · rw [e, Nat.add_div_right _ hm]; simpa using h1
      · rw [e, Nat.add_mod_right]; simpa using h2
theorem run_app_blks (w : World) (A : Option Addr) (c B : Nat) (l : List Blk) (h : SlRep blkEnc w B (.slice A l.length c) l) (hl : 0 < l.length) (hn : l.length ≤ 1048576) :
    ∃ (ovs : List Value) (AA : Option Addr) (cc : Nat) (w' : World), (Builtin.append_ #[23, 23] 23 #[.slice none 0 0, .slice A l.length c]).run Try.prog w = .ok (.slice AA l.length cc) w' ∧
      Below w.heap.size w w' ∧ w'.ownsRow w.heap.size 40 5 (.slice AA l.length cc) l.length (blkRow ovs l) ∧ ovs.length = l.length ∧ ∀ (i : Nat) (ov : Value) (b : Blk), ovs[i]? = some ov → l[i]? = some b → SlRep opEnc w B ov b.ops := by
  obtain ⟨A', c', e, hc, hx⟩ := h
  injection e with e
  subst e
  obtain ⟨b0, off, es0, e0, hb0, _⟩ := hx 0 (l[0]'hl) (List.getElem?_eq_getElem hl)
  subst e0
  obtain ⟨ovs, hovs⟩ : ∃ ovs : List Value, ovs = (List.range l.length).map (fun k => (w.cell? ⟨b0, off + k * 5, none⟩).getD undef) := ⟨_, rfl⟩
  have hlen : ovs.length = l.length := by rw [hovs, List.length_map, List.length_range]
  have key : ∀ (k : Nat) (t : Blk), l[k]? = some t → ∃ ov, ovs[k]? = some ov ∧ SlRep opEnc w B ov t.ops ∧ ∀ (j : Nat) (u : Value), (blkCells ov t.term)[j]? = some u → w.cell? ⟨b0, off + k * 5 + j, none⟩ = some u := by
    intro k t hk
    obtain ⟨b1, off1, es, e1, _, ⟨ov, he, hs⟩, hcell⟩ := hx k t hk
    injection e1 with e1
    injection e1 with e1 e2
    subst e1 e2 he
    have hk2 := (List.getElem?_eq_some_iff.1 hk).1
    have h0 := hcell 0 ov rfl
    refine ⟨ov, ?_, hs, hcell⟩
    rw [hovs, List.getElem?_map, List.getElem?_range hk2]
    show some ((w.cell? ⟨b0, off + k * 5, none⟩).getD undef) = _
    have h0 : w.cell? ⟨b0, off + k * 5, none⟩ = some ov := h0
    rw [h0]; rfl
  have hrl : (blkRow ovs l).length = l.length * 5 := by
    unfold blkRow
    rw [List.length_flatten]
    have : ∀ (a : List Value) (b : List Blk), a.length = b.length → ((List.zipWith (fun ov (x : Blk) => blkCells ov x.term) a b).map List.length).sum = b.length * 5 := by
      intro a
      induction a with
      | nil => intro b hb; cases b with
        | nil => rfl
        | cons y b => cases hb
      | cons x a ih => intro b hb; cases b with
        | nil => cases hb
        | cons y b =>
          rw [List.zipWith_cons_cons, List.map_cons, List.sum_cons, ih b (by simpa using hb), List.length_cons]
          show 5 + _ = _
          omega
    exact this ovs l hlen
  have hcells : ∀ (j : Nat) (u : Value), (blkRow ovs l)[j]? = some u → w.cell? ((⟨b0, off, none⟩ : Addr).add j) = some u ∧ u.oneCell' = true := by
    intro j u hu
    obtain ⟨es, h1, h2⟩ := flatten_back 5 (by omega) _ (fun es he => by
      obtain ⟨i, hi, rfl⟩ := List.getElem_of_mem he
      rw [List.getElem_zipWith]; rfl) j u hu
    rw [List.getElem?_zipWith] at h1
    cases ho : ovs[j / 5]? with
    | none => rw [ho] at h1; simp at h1
    | some ov =>
      cases hk : l[j / 5]? with
      | none => rw [ho, hk] at h1; simp at h1
      | some t =>
        rw [ho, hk] at h1
        injection h1 with h1
        subst h1
        obtain ⟨ov2, g1, g2, g3⟩ := key (j / 5) t hk
        rw [ho] at g1
        injection g1 with g1
        subst g1
        refine ⟨?_, ?_⟩
        · rw [addr_add, show off + j = off + j / 5 * 5 + j % 5 by have := Nat.div_add_mod j 5; omega]
          exact g3 _ u h2
        · obtain ⟨oA, oc, e9, _⟩ := g2
          subst e9
          have hj : j % 5 < 5 := Nat.mod_lt _ (by omega)
          generalize j % 5 = r at *
          match r, hj, h2 with
          | 0, _, h2 => injection h2 with h2; subst h2; rfl
          | 1, _, h2 => injection h2 with h2; subst h2; rfl
          | 2, _, h2 => injection h2 with h2; subst h2; rfl
          | 3, _, h2 => injection h2 with h2; subst h2; rfl
          | 4, _, h2 => injection h2 with h2; subst h2; rfl
  obtain ⟨i0, hi, hz0, hz1, hz2⟩ := info_parts blk_info
  obtain ⟨v', w', a1, a2, a3, _, _⟩ := run_append_own_at (P := Try.prog) (w := w) w.heap.size 23 23 40 i0 _ 5 56 Try.underlying23 hi hz0 hz1 hz2 rfl (by omega) (.slice none 0 0) 0 [] (World.ownsRow_nil _ _ _ _) ⟨b0, off, none⟩ l.length c (blkRow ovs l) hrl (fun j u hu => (hcells j u hu).1) (fun u hu => by
    obtain ⟨j, hj, rfl⟩ := List.getElem_of_mem hu
    exact (hcells j _ (List.getElem?_eq_getElem hj)).2) (by unfold maxLen; omega) (by omega) (Nat.le_refl _)
  rw [Nat.zero_add, List.nil_append] at a2
  obtain ⟨AA, cc, rfl⟩ := ownN_len a2
  refine ⟨ovs, AA, cc, w', a1, (Below.refl _ _).grown a3 (Nat.le_refl _) (fun r hr => by cases hr), a2, hlen, fun i ov b h1 h2 => ?_⟩
  obtain ⟨ov2, g1, g2, _⟩ := key i b h2
  rw [h1] at g1
  injection g1 with g1
  subst g1
  exact g2
end Go.Proofs.Ythkobddggoojlaa
namespace Go.Proofs.Ythkobddggoojlaa
open Go.RowKit
set_option linter.unusedVariables false
/-- A cell stored as it was. -/
theorem setCell_same {w : World} {g i : Nat} {cs : Array Value} {t : TypeId} {v : Value} (h : w.heap[g]? = some (.cells cs t (0, 0))) (hv : cs[i]? = some v) : w.setCell ⟨g, i, none⟩ v = w := by
  have hcs : cs.setIfInBounds i v = cs := by
    apply Array.ext_getElem?
    intro j
    rw [Array.getElem?_setIfInBounds]
    split
    · rename_i e
      subst e
      rw [if_pos (Array.getElem?_eq_some_iff.1 hv).1, hv]
    · rfl
  have hh : (w.setCell ⟨g, i, none⟩ v).heap = w.heap := by
    apply Array.ext_getElem?
    intro j
    by_cases e : j = g
    · subst e
      rw [blk_set h i v, h, hcs]
    · exact Below.heap_setCell w ⟨g, i, none⟩ v j e
  have : w.setCell ⟨g, i, none⟩ v = { w with heap := (w.setCell ⟨g, i, none⟩ v).heap } := rfl
  rw [this, hh]
/-- Block k's end is stored anew. -/
theorem TmAt.putT {w : World} {G V : Nat} {bad : List Nat} {l : List Blk} {s : List Bool} {ovs : List Value} (h : TmAt w G V bad l s ovs) (hGV : G ≠ V) {k : Nat} (hk : k < l.length) (t : Trm) :
    ∃ w5, (((w.setCell ⟨G, k * 5 + 1, none⟩ (.int .i64 t.kind)).setCell ⟨G, k * 5 + 2, none⟩ (.int .i64 t.a)).setCell ⟨G, k * 5 + 3, none⟩ (.int .i64 t.yes)).setCell ⟨G, k * 5 + 4, none⟩ (.int .i64 t.no) = w5 ∧
      (∃ ovs', TmAt w5 G V bad (l.set k ⟨(l.getD k blkNone).ops, t⟩) s ovs') ∧ (∀ {B : Nat} {w0 : World}, B ≤ G → Below B w0 w → Below B w0 w5) ∧ w5.heap.size = w.heap.size ∧ (∀ g x, g ≠ G → w.heap[g]? = some x → w5.heap[g]? = some x) := by
  obtain ⟨OA, oc, hov, hops⟩ := h.ov k hk
  obtain ⟨cur, h1, _, h3⟩ := h.row
  have h0 := h3 k _ _ hov (getD_some l k blkNone hk) 0 _ rfl
  obtain ⟨w5, e, ht, hb, hs, hk5⟩ := h.put hGV hk ⟨(l.getD k blkNone).ops, t⟩ hops (h.ops k _ _ hov (getD_some l k blkNone hk)).2
  have hsame : w.setCell ⟨G, k * 5, none⟩ (.slice OA (l.getD k blkNone).ops.length oc) = w := setCell_same h1 h0
  simp only [hsame] at e
  exact ⟨w5, e, ⟨_, ht⟩, hb, hs, hk5⟩
/-- Of a row of n ends the first k are told. -/
def TrmAt (W : World) (Q n : Nat) (f : Nat → Trm) (k : Nat) : Prop := ∃ cur, W.heap[Q]? = some (.cells cur 38 (0, 0)) ∧ cur.size = n * 4 ∧ ∀ (i j : Nat) (u : Value), i < k → (trmCells (f i))[j]? = some u → cur[i * 4 + j]? = some u
theorem TrmAt.below {W W' : World} {Q n k : Nat} {f : Nat → Trm} (h : TrmAt W Q n f k) (hb : Below W.heap.size W W') : TrmAt W' Q n f k := by
  obtain ⟨cur, h1, h2⟩ := h
  exact ⟨cur, (hb.block _ (lt_of_blk h1)).trans h1, h2⟩
theorem TrmAt.cell {W : World} {Q n k : Nat} {f : Nat → Trm} (h : TrmAt W Q n f k) (i : Nat) (hi : i < k) : W.cell? ⟨Q, i * 4, none⟩ = some (.int .i64 (f i).kind) ∧ W.cell? ⟨Q, i * 4 + 1, none⟩ = some (.int .i64 (f i).a) ∧ W.cell? ⟨Q, i * 4 + 2, none⟩ = some (.int .i64 (f i).yes) ∧ W.cell? ⟨Q, i * 4 + 3, none⟩ = some (.int .i64 (f i).no) := by
  obtain ⟨cur, h1, h2, h3⟩ := h
  exact ⟨(cell_of_blk h1 _).1.trans (h3 i 0 _ hi rfl), (cell_of_blk h1 _).1.trans (h3 i 1 _ hi rfl), (cell_of_blk h1 _).1.trans (h3 i 2 _ hi rfl), (cell_of_blk h1 _).1.trans (h3 i 3 _ hi rfl)⟩
theorem TrmAt.live {W : World} {Q n k : Nat} {f : Nat → Trm} (h : TrmAt W Q n f k) (i j : Nat) (hi : i < n) (hj : j < 4) : (∃ u, W.cell? ⟨Q, i * 4 + j, none⟩ = some u) ∧ W.frozen? ⟨Q, i * 4 + j, none⟩ = false := by
  obtain ⟨cur, h1, h2, h3⟩ := h
  have hlt : i * 4 + j < cur.size := by omega
  exact ⟨⟨cur[i * 4 + j], (cell_of_blk h1 _).1.trans (Array.getElem?_eq_getElem hlt)⟩, (cell_of_blk h1 _).2⟩
theorem TrmAt.put {W : World} {Q n k : Nat} {f : Nat → Trm} (h : TrmAt W Q n f k) (hk : k < n) : TrmAt ((((W.setCell ⟨Q, k * 4, none⟩ (.int .i64 (f k).kind)).setCell ⟨Q, k * 4 + 1, none⟩ (.int .i64 (f k).a)).setCell ⟨Q, k * 4 + 2, none⟩ (.int .i64 (f k).yes)).setCell ⟨Q, k * 4 + 3, none⟩ (.int .i64 (f k).no)) Q n f (k + 1) := by
  obtain ⟨cur, h1, h2, h3⟩ := h
  refine ⟨_, blk_set (blk_set (blk_set (blk_set h1 (k * 4) (.int .i64 (f k).kind)) (k * 4 + 1) (.int .i64 (f k).a)) (k * 4 + 2) (.int .i64 (f k).yes)) (k * 4 + 3) (.int .i64 (f k).no), by simp only [Array.size_setIfInBounds]; exact h2, fun i j u hi hu => ?_⟩
  have hj : j < 4 := (List.getElem?_eq_some_iff.1 hu).1
  simp only [Array.getElem?_setIfInBounds, Array.size_setIfInBounds]
  by_cases e : i = k
  · subst e
    match j, hj, hu with
    | 0, _, hu => rw [if_neg (by omega), if_neg (by omega), if_neg (by omega), if_pos (by omega), if_pos (by omega)]; exact hu
    | 1, _, hu => rw [if_neg (by omega), if_neg (by omega), if_pos rfl, if_pos (by omega)]; exact hu
    | 2, _, hu => rw [if_neg (by omega), if_pos rfl, if_pos (by omega)]; exact hu
    | 3, _, hu => rw [if_pos rfl, if_pos (by omega)]; exact hu
  · rw [if_neg (by omega), if_neg (by omega), if_neg (by omega), if_neg (by omega)]
    exact h3 i j u (by omega) hu
/-- No operations lie in a block of fewer than six cells. -/
theorem ops_not5 {w : World} {B : Nat} {v : Value} {ops : List Opn} (h : SlRep opEnc w B v ops) {q : Nat} {cs : Array Value} {t : TypeId} (hq : w.heap[q]? = some (.cells cs t (0, 0))) (hs : cs.size ≤ 5) (a : Addr) (m c : Nat) (hv : v = .slice (some a) m c) (hne : ops ≠ []) : a.block ≠ q := by
  obtain ⟨A, c1, e, _, hx⟩ := h
  obtain ⟨x, hx0⟩ : ∃ x, ops[0]? = some x := by
    cases ops with
    | nil => exact absurd rfl hne
    | cons x xs => exact ⟨x, rfl⟩
  obtain ⟨b, off, es, e1, hb, hr, hcell⟩ := hx 0 x hx0
  have hes : es = opCells x := hr
  have h5 := hcell 5 (.int .i64 x.imm) (by rw [hes]; rfl)
  rw [e1] at e
  rw [e] at hv
  have hab : (⟨b, off, none⟩ : Addr) = a := by injection hv with h1; injection h1
  rw [← hab]
  intro e9
  have e9 : b = q := e9
  subst e9
  rw [(cell_of_blk hq _).1, Array.getElem?_eq_none (by omega)] at h5
  cases h5
/-- A store into a block of fewer than six cells leaves the blocks as they were. -/
theorem RoAt.setFive {w : World} {B C : Nat} {v : Value} {bs : List Blk} {ovs : List Value} (h : RoAt w B C [] v bs ovs) (q : Addr) (u : Value) (hv : v.ownBlock ≠ some q.block) {cs : Array Value} {t : TypeId} (hq : w.heap[q.block]? = some (.cells cs t (0, 0))) (hs : cs.size ≤ 5) : RoAt (w.setCell q u) B C [] v bs ovs := by
  refine ⟨h.len, h.row.kept (grown_setCell w q u) ?_, fun i ov b h1 h2 => ⟨?_, (h.ops i ov b h1 h2).2⟩⟩
  · cases hw : v.ownBlock with
    | none => exact Or.inl rfl
    | some r => exact Or.inr (fun e => hv (hw.trans e))
  · have a := (h.ops i ov b h1 h2).1
    exact SlRep.far a q u (fun x m c e hne => ops_not5 a hq hs x m c e hne)
theorem trm_info : (Try.prog.info? 38).map (fun i => (i.zero, i.size, i.bytes)) = some (some (.agg #[.int .i64 0, .int .i64 0, .int .i64 0, .int .i64 0]), 4, 32) := by kernel_rfl
theorem run_make_trms (n : Nat) (hn : n ≤ 2000000) (f : Nat → Trm) (W : World) : ∃ cur, (Instr.makeSlice 50 (.int .i64 (n : Int)) (.int .i64 (n : Int))).run Try.prog W = .ok (.slice (some ⟨W.heap.size, 0, none⟩) n n) (W.alloc (.cells cur 38)) ∧ TrmAt (W.alloc (.cells cur 38)) W.heap.size n f 0 := by
  obtain ⟨i0, hi, hz0, hz1, hz2⟩ := info_parts trm_info
  have h := run_make (P := Try.prog) W 50 38 i0 _ Try.underlying50 hi hz0 .i64 .i64 (n : Int) (n : Int) (by omega) (by omega) (by rw [hz2]; omega) (by omega)
  rw [hz1] at h
  simp only [Int.toNat_natCast] at h
  exact ⟨_, h, _, heap_alloc_new W _, size_madeCells _ _, fun i j u hi => absurd hi (Nat.not_lt_zero i)⟩
end Go.Proofs.Ythkobddggoojlaa
namespace Go.Proofs.Ythkobddggoojlaa
open Go.RowKit
set_option linter.unusedVariables false
/-- The tidier's own block. -/
def TiBox (w : World) (T G V cap n : Nat) : Prop := w.heap[T]? = some (.cells #[.slice (some ⟨G, 0, none⟩) n cap, .slice (some ⟨V, 0, none⟩) n n] 49 (0, 0))
theorem TiBox.below {w w' : World} {T G V cap n : Nat} (h : TiBox w T G V cap n) (hb : Below w.heap.size w w') : TiBox w' T G V cap n := (hb.block _ (lt_of_blk h)).trans h
theorem TiBox.cells {w : World} {T G V cap n : Nat} (h : TiBox w T G V cap n) : w.cell? ⟨T, 0, none⟩ = some (.slice (some ⟨G, 0, none⟩) n cap) ∧ w.cell? ⟨T, 1, none⟩ = some (.slice (some ⟨V, 0, none⟩) n n) := ⟨(cell_of_blk h 0).1, (cell_of_blk h 1).1⟩
def blkVal (OA : Option Addr) (oc : Nat) (b : Blk) : Value := .agg #[.slice OA b.ops.length oc, .int .i64 b.term.kind, .int .i64 b.term.a, .int .i64 b.term.yes, .int .i64 b.term.no]
theorem tidy_detour (OA : Option Addr) (oc : Nat) (b : Blk) (w : World) : Calls Try.prog 32 #[blkVal OA oc b] w fun e w' => e = .returned (.bool (tdDet b)) ∧ Below w.heap.size w w' := by
  unfold blkVal
  have HX := Lib.hid (heap_alloc_new w (.cells #[.slice OA b.ops.length oc, .int .i64 b.term.kind, .int .i64 b.term.a, .int .i64 b.term.yes, .int .i64 b.term.no] 40))
  have HB := Lib.hid (bnew w (.cells #[.slice OA b.ops.length oc, .int .i64 b.term.kind, .int .i64 b.term.a, .int .i64 b.term.yes, .int .i64 b.term.no] 40))
  have HD : Hid (tdDet b = (b.ops.isEmpty && decide (b.term.kind = 1))) := Lib.hid rfl
  generalize hPO : (fun (e : Ending) (w' : World) => e = .returned (.bool (tdDet b)) ∧ Below w.heap.size w w') = PO
  have HPO := Lib.hid hPO
  clear hPO
  obtain ⟨ops, trm⟩ := b
  obtain ⟨tk, ta, ty, tn⟩ := trm
  simp only at HX HB HD
  go_enter Try.func32, Try.ntmps32
  go_upto_region 1 with (fail)
  generalize w.alloc (.cells #[.slice OA ops.length oc, .int .i64 tk, .int .i64 ta, .int .i64 ty, .int .i64 tn] 40) = w1 at *
  obtain ⟨c0, c1, c2, c3, c4, f3, f4⟩ := blk_cells_at HX.out
  cases ops with
  | cons o ops =>
    have hq2 : (((o :: ops).length : Int) == 0) = false := by rw [beq_eq_false_iff_ne]; simp; omega
    have hq : ((ops.length : Int) + 1 == 0) = false := by rw [beq_eq_false_iff_ne]; omega
    go_wp2_with fail
    rw [← HPO.out]
    exact ⟨by rw [HD.out]; rfl, HB.out⟩
  | nil =>
    by_cases hk : tk = 1
    · subst hk
      go_wp2_with fail
      rw [← HPO.out]
      exact ⟨by rw [HD.out]; rfl, HB.out⟩
    · have q : (tk == 1) = false := by rw [beq_eq_false_iff_ne]; exact hk
      have HD2 : Hid (tdDet ⟨[], tk, ta, ty, tn⟩ = false) := Lib.hid (by rw [HD.out, decide_eq_false hk]; rfl)
      clear hk
      go_wp2_with fail
      rw [← HPO.out]
      exact ⟨by rw [HD2.out]; rfl, HB.out⟩
set_option maxRecDepth 100000 in
set_option maxHeartbeats 1000000 in
theorem tidy_leads (l : List Blk) (hl : TdOk l) (hn : l.length ≤ 1048576) (T G V cap : Nat) (bad : List Nat) (s : List Bool) (ovs : List Value) (k : Int) (hk : tdLab l.length k) (w : World) (hT : TiBox w T G V cap l.length) (h : TmAt w G V bad l s ovs) :
    Calls Try.prog 15 #[.pointer (some ⟨T, 0, none⟩), .int .i64 k] w fun e w' => e = .returned (.int .i64 (tdLeads l k)) ∧ Below w.heap.size w w' := by
  have HM := Lib.hid h
  have HT := Lib.hid hT
  have HPL := Lib.hid (tdPath_lab hl hk)
  have HDE := Lib.hid (fun OA oc b W => tidy_detour OA oc b W)
  have HSS : Hid (∀ j, j ≤ l.length → tdStop l (tdPath l j k) = true → tdLeads l k = tdPath l j k) := Lib.hid (fun j hj h => tdLeads_stop hj h)
  have HNO : Hid (tdStop l (tdPath l l.length k) = false → tdLeads l k = k) := Lib.hid (fun h => by unfold tdLeads; rw [h]; rfl)
  have HPS : Hid (∀ j, tdStop l (tdPath l j k) = false → tdPath l (j + 1) k = tdNext l (tdPath l j k)) := Lib.hid (fun j hj => by rw [tdPath_succ, tdStep_go hj])
  generalize hPO : (fun (e : Ending) (w' : World) => e = .returned (.int .i64 (tdLeads l k)) ∧ Below w.heap.size w w') = PO
  have HPO := Lib.hid hPO
  unfold blkVal at HDE
  clear h hT hl hk hPO
  have t0 := HT.out.cells.1
  go_enter Try.func15, Try.ntmps15
  go_wp2_with fail
  clear t0
  go_loopw [5, 12] (fun vk vi wr => ∃ i : Nat, i ≤ l.length ∧ vk = .int .i64 (tdPath l i k) ∧ vi = .int .i64 i ∧ Below w.heap.size w wr) (fun _ vi _ => l.length - (intOf vi).toNat)
  case atStart => exact ⟨0, Nat.zero_le _, rfl, rfl, Below.refl _ _⟩
  case round =>
    obtain ⟨i, hi, rfl, rfl, hb⟩ := hrel
    have HB := Lib.hid hb
    have HTw := Lib.hid (HT.out.below hb)
    have HMw := Lib.hid (HM.out.below hb)
    have t0 := HTw.out.cells.1
    have hlab := HPL.out i
    have HSI := Lib.hid (HSS.out i hi)
    have HNX := Lib.hid (HPS.out i)
    clear hb
    by_cases hil : i < l.length
    · have HIL := Lib.hid hil
      generalize tdPath l i k = x at *
      obtain ⟨x0, x1⟩ := hlab
      by_cases hm : x = -1
      · subst hm
        have e := HSI.out rfl
        have HE := Lib.hid e
        clear e
        go_wp2_with fail
        rw [← HPO.out]
        exact ⟨by rw [HE.out]; rfl, HB.out⟩
      · obtain ⟨m, rfl⟩ : ∃ m : Nat, x = (m : Int) := ⟨x.toNat, by omega⟩
        have hml : m < l.length := by omega
        have m0 : (0 : Int) ≤ (m : Int) := by omega
        have m1 : (m : Int) < (l.length : Int) := by omega
        have qm : ((m : Int) == -1) = false := by rw [beq_eq_false_iff_ne]; exact hm
        have hst : tdStop l (m : Int) = !tdDet (l.getD m blkNone) := by unfold tdStop; rw [decide_eq_false hm]; rfl
        have hnx : tdNext l (m : Int) = (l.getD m blkNone).term.yes := rfl
        obtain ⟨OA, oc, hov, hops, y0, y1, y2, y3, y4, _⟩ := HMw.out.cells m hml
        rw [hst] at HSI HNX
        rw [hnx] at HNX
        have HDB := Lib.hid (fun OA oc W => HDE.out OA oc (l.getD m blkNone) W)
        generalize hbk : l.getD m blkNone = bk at *
        have HBK := Lib.hid hbk
        obtain ⟨ops, trm⟩ := bk
        obtain ⟨tk, ta, ty, tn⟩ := trm
        simp only at y0 y1 y2 y3 y4 HDB HNX
        clear hst hnx hov hops hm x0 hbk
        go_wp2_with fail
        refine (HDB.out OA oc _).mono ?_
        rintro e w2 ⟨rfl, hb2⟩
        have hs := HB.out.size
        have HB2 := Lib.hid (HB.out.trans (hb2.mono hs))
        have HT2 := Lib.hid (HTw.out.below hb2)
        have HM2 := Lib.hid (HMw.out.below hb2)
        clear hb2 hs y0 y1 y2 y3 y4 t0
        cases hd : tdDet ⟨ops, tk, ta, ty, tn⟩ with
        | false =>
          have HE := Lib.hid (HSI.out (by rw [hd]; rfl))
          clear hd
          go_wp2_with fail
          rw [← HPO.out]
          exact ⟨by rw [HE.out]; rfl, HB2.out⟩
        | true =>
          have HE := Lib.hid (HNX.out (by rw [hd]; rfl))
          have t0 := HT2.out.cells.1
          obtain ⟨OA2, oc2, _, _, _, _, _, y3, _, _⟩ := HM2.out.cells m hml
          rw [HBK.out] at y3
          simp only at y3
          clear hd
          go_wp2_with fail
          go_roundw
          case rel => exact ⟨i + 1, HIL.out, by rw [HE.out], by go_num, HB2.out⟩
          case measure => simp [intOf]; omega
    · obtain rfl : i = l.length := by omega
      have HIL := HNO
      generalize tdPath l l.length k = x at *
      obtain ⟨x0, x1⟩ := hlab
      by_cases hm : x = -1
      · subst hm
        have HE := Lib.hid (HSI.out rfl)
        go_wp2_with fail
        rw [← HPO.out]
        exact ⟨by rw [HE.out]; rfl, HB.out⟩
      · obtain ⟨m, rfl⟩ : ∃ m : Nat, x = (m : Int) := ⟨x.toNat, by omega⟩
        have hml : m < l.length := by omega
        have m0 : (0 : Int) ≤ (m : Int) := by omega
        have m1 : (m : Int) < (l.length : Int) := by omega
        have qm : ((m : Int) == -1) = false := by rw [beq_eq_false_iff_ne]; exact hm
        have hst : tdStop l (m : Int) = !tdDet (l.getD m blkNone) := by unfold tdStop; rw [decide_eq_false hm]; rfl
        obtain ⟨OA, oc, hov, hops, y0, y1, y2, y3, y4, _⟩ := HMw.out.cells m hml
        rw [hst] at HSI HIL
        have HDB := Lib.hid (fun OA oc W => HDE.out OA oc (l.getD m blkNone) W)
        generalize hbk : l.getD m blkNone = bk at *
        obtain ⟨ops, trm⟩ := bk
        obtain ⟨tk, ta, ty, tn⟩ := trm
        simp only at y0 y1 y2 y3 y4 HDB
        clear hst hov hops hm x0 hbk
        go_wp2_with fail
        refine (HDB.out OA oc _).mono ?_
        rintro e w2 ⟨rfl, hb2⟩
        have hs := HB.out.size
        have HB2 := Lib.hid (HB.out.trans (hb2.mono hs))
        clear hb2 hs y0 y1 y2 y3 y4 t0
        cases hd : tdDet ⟨ops, tk, ta, ty, tn⟩ with
        | false =>
          have HE := Lib.hid (HSI.out (by rw [hd]; rfl))
          clear hd
          go_wp2_with fail
          rw [← HPO.out]
          exact ⟨by rw [HE.out]; rfl, HB2.out⟩
        | true =>
          have HE := Lib.hid (HIL.out (by rw [hd]; rfl))
          clear hd
          go_wp2_with fail
          rw [← HPO.out]
          exact ⟨by rw [HE.out]; rfl, HB2.out⟩
end Go.Proofs.Ythkobddggoojlaa
namespace Go.Proofs.Ythkobddggoojlaa
open Go.RowKit
set_option linter.unusedVariables false
def tdNot (s : List Bool) : List Bool := s.map (fun b => !b)
theorem tdNot_len (s : List Bool) : (tdNot s).length = s.length := by simp [tdNot]
theorem tdNot_getD (s : List Bool) (k : Nat) (hk : k < s.length) : (tdNot s).getD k false = !(s.getD k false) := by
  unfold tdNot
  rw [List.getD_eq_getElem?_getD, List.getD_eq_getElem?_getD, List.getElem?_map, List.getElem?_eq_getElem hk]; rfl
theorem tdNot_set (s : List Bool) (k : Nat) (b : Bool) : tdNot (s.set k b) = (tdNot s).set k (!b) := by unfold tdNot; rw [List.map_set]
theorem tdNot_not (s : List Bool) : tdNot (tdNot s) = s := by
  unfold tdNot
  rw [List.map_map]
  have : ((fun b => !b) ∘ fun b : Bool => !b) = id := by funext b; cases b <;> rfl
  rw [this, List.map_id]
/-- What is left to be done while ways are followed: g tells what is gone. -/
structure TdDo (l : List Blk) (todo : List Int) (g : List Bool) : Prop where
  len : g.length = l.length
  has : ∀ x ∈ todo, 0 ≤ x ∧ x < l.length ∧ TdReach l x.toNat
  zero : g.getD 0 true = false ∨ (0 : Int) ∈ todo
  way : ∀ k, g.getD k true = false → TdReach l k
  kids : ∀ i, g.getD i true = false → ∀ x ∈ tdTg (l.getD i blkNone).term, g.getD x.toNat true = false ∨ x ∈ todo
  num : todo.length + 2 * tdTrues g ≤ 1 + 2 * l.length
theorem TdDo.start {l : List Blk} (h : 0 < l.length) : TdDo l [0] (List.replicate l.length true) := by
  have hno : ∀ k, (List.replicate l.length true).getD k true = true := fun k => by
    rw [List.getD_eq_getElem?_getD, List.getElem?_replicate]; split <;> rfl
  refine ⟨List.length_replicate, fun x hx => ?_, Or.inr (by simp), fun k hk => ?_, fun i hi => ?_, ?_⟩
  · obtain rfl := List.mem_singleton.1 hx
    exact ⟨by omega, by omega, TdReach.zero⟩
  · rw [hno] at hk; cases hk
  · rw [hno] at hi; cases hi
  · have := tdTrues_le (List.replicate l.length true)
    rw [List.length_replicate] at this
    simp only [List.length_singleton]; omega
theorem TdDo.skip {l : List Blk} {ys : List Int} {x : Int} {g : List Bool} (h : TdDo l (ys ++ [x]) g) (hx : g.getD x.toNat true = false) : TdDo l ys g := by
  have h0 := (h.has x (by simp)).1
  refine ⟨h.len, fun y hy => h.has y (by simp [hy]), ?_, h.way, fun i hi y hy => ?_, ?_⟩
  · rcases h.zero with h1 | h1
    · exact Or.inl h1
    · rcases List.mem_append.1 h1 with h2 | h2
      · exact Or.inr h2
      · obtain rfl := List.mem_singleton.1 h2; exact Or.inl hx
  · rcases h.kids i hi y hy with h1 | h1
    · exact Or.inl h1
    · rcases List.mem_append.1 h1 with h2 | h2
      · exact Or.inr h2
      · obtain rfl := List.mem_singleton.1 h2; exact Or.inl hx
  · have := h.num
    rw [List.length_append, List.length_singleton] at this
    omega
theorem TdDo.step {l : List Blk} (hl : TdOk l) {ys : List Int} {x : Int} {g : List Bool} (h : TdDo l (ys ++ [x]) g) (hx : g.getD x.toNat true = true) : TdDo l (ys ++ tdTg (l.getD x.toNat blkNone).term) (g.set x.toNat false) := by
  obtain ⟨x0, x1, hr⟩ := h.has x (by simp)
  have hg : x.toNat < g.length := by rw [h.len]; omega
  have hok : tdOkT l.length (l.getD x.toNat blkNone).term := hl _ (getD_memI l x.toNat blkNone (by omega))
  have hold : ∀ i, g.getD i true = false → (g.set x.toNat false).getD i true = false := fun i hi => by
    rw [getD_setB g x.toNat i false true hg]; split
    · rfl
    · exact hi
  have hnew : (g.set x.toNat false).getD x.toNat true = false := by rw [getD_setB g x.toNat _ false true hg, if_pos rfl]
  refine ⟨by rw [List.length_set]; exact h.len, fun y hy => ?_, ?_, fun k hk => ?_, fun i hi y hy => ?_, ?_⟩
  · rcases List.mem_append.1 hy with h1 | h1
    · exact h.has y (by simp [h1])
    · obtain ⟨a, b⟩ := tdTg_lab hok h1
      exact ⟨a, b, TdReach.step _ y hr h1⟩
  · rcases h.zero with h1 | h1
    · exact Or.inl (hold 0 h1)
    · rcases List.mem_append.1 h1 with h2 | h2
      · exact Or.inr (by simp [h2])
      · obtain rfl := List.mem_singleton.1 h2; exact Or.inl hnew
  · rw [getD_setB g x.toNat k false true hg] at hk
    by_cases e : k = x.toNat
    · rw [e]; exact hr
    · rw [if_neg e] at hk; exact h.way k hk
  · rw [getD_setB g x.toNat i false true hg] at hi
    by_cases e : i = x.toNat
    · rw [e] at hy; exact Or.inr (List.mem_append.2 (Or.inr hy))
    · rw [if_neg e] at hi
      rcases h.kids i hi y hy with h1 | h1
      · exact Or.inl (hold _ h1)
      · rcases List.mem_append.1 h1 with h2 | h2
        · exact Or.inr (by simp [h2])
        · obtain rfl := List.mem_singleton.1 h2; exact Or.inl hnew
  · have h1 := h.num
    have h2 := tdTrues_clear g x.toNat hg (by rw [List.getD_eq_getElem?_getD, List.getElem?_eq_getElem hg] at hx ⊢; exact hx)
    have h3 := tdTg_len (l.getD x.toNat blkNone).term
    rw [List.length_append, List.length_singleton] at h1
    rw [List.length_append]
    omega
theorem TdDo.done {l : List Blk} (hl : TdOk l) (h0 : 0 < l.length) {g : List Bool} (h : TdDo l [] g) : TdIn l (tdNot g) := by
  have hg : ∀ k, (tdNot g).getD k false = true ↔ g.getD k true = false := fun k => by
    unfold tdNot
    rw [List.getD_eq_getElem?_getD, List.getD_eq_getElem?_getD, List.getElem?_map]
    cases g[k]? with
    | none => simp
    | some b => cases b <;> simp
  refine tdIn_of (by rw [tdNot_len]; exact h.len) ?_ (fun i hi x hx => ?_) (fun k hk => h.way k ((hg k).1 hk))
  · rcases h.zero with h1 | h1
    · exact (hg 0).2 h1
    · cases h1
  · rcases h.kids i ((hg i).1 hi) x hx with h1 | h1
    · exact (hg _).2 h1
    · cases h1
/-- A list of the call's own, less its last. -/
theorem own_pop {w : World} {base t g cap n : Nat} {ys : List Value} {u : Value} (hn : ys.length = n) (h : w.ownsRow base t 1 (.slice (some ⟨g, 0, none⟩) (n + 1) cap) (n + 1) (ys ++ [u])) : w.ownsRow base t 1 (.slice (some ⟨g, 0, none⟩) n cap) n ys := by
  obtain ⟨_, h1 | ⟨g', cap', cur, e, h2, h3, h4, h5, h6, h7⟩⟩ := h
  · cases h1.1
  · injection e with e1 e2 e3
    subst e3
    injection e1 with e1
    injection e1 with e1
    subst e1
    refine ⟨by rw [hn, Nat.mul_one], Or.inr ⟨g, cap, cur, rfl, h2, h3, by omega, h5, h6, ?_⟩⟩
    have h8 := congrArg (List.take n) h7
    rw [List.take_take, Nat.mul_one, Nat.min_eq_left (Nat.le_succ n), List.take_append_of_le_length (by omega), List.take_of_length_le (Nat.le_of_eq hn)] at h8
    rw [Nat.mul_one]; exact h8
theorem own_last {w : World} {base t g cap n : Nat} {ys : List Value} {u : Value} (hn : ys.length = n) (h : w.ownsRow base t 1 (.slice (some ⟨g, 0, none⟩) (n + 1) cap) (n + 1) (ys ++ [u])) : w.cell? ⟨g, n, none⟩ = some u := by
  rw [h.cellAt n (by omega), List.getElem?_append_right (by omega), hn, Nat.sub_self]; rfl
theorem own_cap {w : World} {base t g cap n : Nat} {ys : List Value} (h : w.ownsRow base t 1 (.slice (some ⟨g, 0, none⟩) (n + 1) cap) (n + 1) ys) : n + 1 ≤ cap := by
  obtain ⟨_, h1 | ⟨g', cap', cur, e, h2, h3, h4, h5, h6, h7⟩⟩ := h
  · cases h1.1
  · injection e with e1 e2 e3
    subst e3
    exact h4
theorem getD_in {T : Type} (l : List T) (k : Nat) (a b : T) (h : k < l.length) : l.getD k a = l.getD k b := by
  rw [List.getD_eq_getElem?_getD, List.getD_eq_getElem?_getD, List.getElem?_eq_getElem h]; rfl
/-- Ints behind a list of ints that the call owns. -/
theorem run_append_intsT (w : World) (base : Nat) (v : Value) (ys : List Int) (hown : w.ownsRow base 3 1 v ys.length (ys.map (.int .i64 ·))) (A : Option Addr) (c B : Nat) (l : List Int) (h : SlRep intEncF w B (.slice A l.length c) l) (hn : ys.length + l.length ≤ 8000000) (hbase : base ≤ w.heap.size) :
    ∃ v' w', (Builtin.append_ #[72, 72] 72 #[v, .slice A l.length c]).run Try.prog w = .ok v' w' ∧ w'.ownsRow base 3 1 v' (ys ++ l).length ((ys ++ l).map (.int .i64 ·)) ∧ w.grownBy w' v.ownBlock := by
  obtain ⟨i0, hi, hz0, hz1, hz2⟩ := info_parts int_info
  obtain ⟨v', w', h1, h2, h3, _⟩ := run_append_src (P := Try.prog) 1 (fun x : Int => [.int .i64 x]) (fun _ => rfl) (by omega) (fun t u hu => by obtain rfl := List.mem_singleton.1 hu; rfl) 72 3 i0 _ 8 Try.underlying72 hi hz0 hz1 hz2 rfl w base v ys.length _ hown A c B l h (by unfold maxLen; omega) (by omega) hbase
  refine ⟨v', w', h1, ?_, h3⟩
  rw [List.length_append, List.map_append]
  have e : l.flatMap (fun x : Int => [Value.int .i64 x]) = l.map (.int .i64 ·) := by
    clear h1 h2 h3 h hn
    induction l with
    | nil => rfl
    | cons x l ih => rw [List.flatMap_cons, ih]; rfl
  rw [e] at h2
  exact h2
/-- Nothing that lay is turned but the flags. -/
structure ReSt (w : World) (H V : Nat) (w0 : World) (g : List Bool) (wr : World) : Prop where
  flag : wr.heap[V]? = some (.cells (bools g) 4 (0, 0))
  bel : Below H w0 wr
  oth : ∀ (q : Nat) (x : Obj), q ≠ V → w.heap[q]? = some x → wr.heap[q]? = some x
  siz : w.heap.size ≤ wr.heap.size
theorem ReSt.below {w w0 wr w2 : World} {H V : Nat} {g : List Bool} (h : ReSt w H V w0 g wr) (hH : H ≤ V) (hb : Below wr.heap.size wr w2) : ReSt w H V w0 g w2 :=
  ⟨(hb.block _ (lt_of_blk h.flag)).trans h.flag, h.bel.trans (hb.mono (by have := lt_of_blk h.flag; omega)), fun q x h1 h2 => (hb.block _ (lt_of_blk (h.oth q x h1 h2))).trans (h.oth q x h1 h2), by have := hb.size; have := h.siz; omega⟩
theorem ReSt.set {w w0 wr : World} {H V : Nat} {g : List Bool} (h : ReSt w H V w0 g wr) (hH : H ≤ V) (i : Nat) (b : Bool) : ReSt w H V w0 (g.set i b) (wr.setCell ⟨V, i, none⟩ (.bool b)) := by
  have h1 := blk_set h.flag i (.bool b)
  rw [bools_set] at h1
  exact ⟨h1, h.bel.setCell (p := ⟨V, i, none⟩) hH _, fun q x h2 h3 => blk_far (h.oth q x h2 h3) _ _ (fun e => h2 e.symm), by simpa [World.setCell] using h.siz⟩
theorem ReSt.grown {w w0 wr w2 : World} {H V : Nat} {g : List Bool} {row : Option Nat} (h : ReSt w H V w0 g wr) (hH : H ≤ V) (hV : V < w.heap.size) (hg : wr.grownBy w2 row) (hr : ∀ r, row = some r → w.heap.size ≤ r) : ReSt w H V w0 g w2 := by
  refine ⟨(hg.block V (lt_of_blk h.flag) (fun e => by have := hr V e.symm; omega)).trans h.flag, h.bel.grown hg (by have := lt_of_blk h.flag; omega) (fun r e => by have := hr r e; omega), fun q x h1 h2 => ?_, by have := hg.size; have := h.siz; omega⟩
  exact (hg.block q (lt_of_blk (h.oth q x h1 h2)) (fun e => by have := hr q e.symm; have := lt_of_blk h2; omega)).trans (h.oth q x h1 h2)
/-- The blocks as they lie with other flags. -/
theorem TmAt.at_ {w wr : World} {G V : Nat} {bad : List Nat} {l : List Blk} {s g : List Bool} {ovs : List Value} (h : TmAt w G V bad l s ovs) (hGV : G ≠ V) (hV : wr.heap[V]? = some (.cells (bools g) 4 (0, 0))) (ho : ∀ (q : Nat) (x : Obj), q ≠ V → w.heap[q]? = some x → wr.heap[q]? = some x) (hs : w.heap.size ≤ wr.heap.size) : TmAt wr G V bad l g ovs := by
  obtain ⟨cur, h1, h2⟩ := h.row
  refine ⟨h.len, ⟨cur, ho G _ hGV h1, h2⟩, fun i ov b h3 h4 => ?_, h.gin, h.vin, hV⟩
  obtain ⟨⟨A, c, e, hc, hx⟩, f⟩ := h.ops i ov b h3 h4
  refine ⟨⟨A, c, e, hc, fun k t hk => ?_⟩, f⟩
  obtain ⟨bb, off, es, e1, hb, hr, hcell⟩ := hx k t hk
  have hbV : bb ≠ V := fun e9 => f ⟨bb, off, none⟩ _ c (by rw [e, e1]) (by intro e8; rw [e8] at hk; simp at hk) (e9 ▸ h.vin)
  refine ⟨bb, off, es, e1, by omega, hr, fun j u hj => ?_⟩
  have hb2 : w.heap[bb]? = some w.heap[bb] := Array.getElem?_eq_getElem hb
  rw [World.cell?_of_block ((ho bb _ hbV hb2).trans hb2.symm)]
  exact hcell j u hj
end Go.Proofs.Ythkobddggoojlaa
