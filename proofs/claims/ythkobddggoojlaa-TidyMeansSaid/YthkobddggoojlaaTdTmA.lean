/- Parts of a proof. No condition but those that each theorem names. -/
import Derived.WalkKit
import Derived.OpenShut
import Derived.Below
import Derived.Lib.Hide
import Derived.Laws.OwnMore
import Derived.Deep.QuietTactic
import Derived.Deep.AppendLies
import Derived.ProofKit
import Derived.SizedLaws
import Derived.Test.YthkobddggoojlaaProg
import Derived.Handy
import Derived.Deep.RegionHeld3
import Derived.BigQuiet
import Derived.Maps.AppendAt
import Derived.Maps.RangeWalk
import Derived.Maps.OwnSet
import Derived.StillTailTactics
import Derived.Laws.CopyOwn
import Derived.Lib.BufferWrite
import Derived.OrdersHeld
import Derived.RegionTactic
import Derived.Deep.DeepCutAuto
import Derived.Test.YthkobddggoojlaaTdG0e0
import Derived.Test.YthkobddggoojlaaTdIr
import Derived.Test.YthkobddggoojlaaTdG1e2
import Derived.Test.YthkobddggoojlaaTdG1e4
import Derived.Test.YthkobddggoojlaaTdIrC
import Derived.Test.YthkobddggoojlaaTdG2e5
import Derived.Test.YthkobddggoojlaaTdG2e6
import Derived.Test.YthkobddggoojlaaTdG2e15
import Derived.Test.YthkobddggoojlaaTdG2e14
import Derived.Test.YthkobddggoojlaaTdTdD
import Derived.Test.YthkobddggoojlaaTdG2e17
import Derived.Test.YthkobddggoojlaaTdTrB
namespace Go.Proofs.Ythkobddggoojlaa
open Go.RowKit
set_option linter.unusedVariables false
structure TmAt (w : World) (G V : Nat) (bad : List Nat) (l : List Blk) (s : List Bool) (ovs : List Value) : Prop where
  len : ovs.length = l.length
  row : ∃ cur, w.heap[G]? = some (.cells cur 40 (0, 0)) ∧ l.length * 5 ≤ cur.size ∧ ∀ (i : Nat) (ov : Value) (b : Blk), ovs[i]? = some ov → l[i]? = some b → ∀ (j : Nat) (u : Value), (blkCells ov b.term)[j]? = some u → cur[i * 5 + j]? = some u
  ops : ∀ (i : Nat) (ov : Value) (b : Blk), ovs[i]? = some ov → l[i]? = some b → SlRep opEnc w w.heap.size ov b.ops ∧ OpFar bad ov b.ops
  gin : G ∈ bad
  vin : V ∈ bad
  flag : w.heap[V]? = some (.cells (bools s) 4 (0, 0))
section
variable {w w' : World} {G V : Nat} {bad : List Nat} {l : List Blk} {s : List Bool} {ovs : List Value}
theorem TmAt.below (h : TmAt w G V bad l s ovs) (hb : Below w.heap.size w w') : TmAt w' G V bad l s ovs := by
  obtain ⟨cur, h1, h2⟩ := h.row
  exact ⟨h.len, ⟨cur, (hb.block _ (lt_of_blk h1)).trans h1, h2⟩, fun i ov b h3 h4 => ⟨(h.ops i ov b h3 h4).1.next hb, (h.ops i ov b h3 h4).2⟩, h.gin, h.vin, (hb.block _ (lt_of_blk h.flag)).trans h.flag⟩
theorem TmAt.gv (h : TmAt w G V bad l s ovs) : G < w.heap.size ∧ V < w.heap.size := by
  obtain ⟨cur, h1, _⟩ := h.row
  exact ⟨lt_of_blk h1, lt_of_blk h.flag⟩
theorem TmAt.ov (h : TmAt w G V bad l s ovs) (k : Nat) (hk : k < l.length) : ∃ OA oc, ovs[k]? = some (.slice OA (l.getD k blkNone).ops.length oc) ∧ SlRep opEnc w w.heap.size (.slice OA (l.getD k blkNone).ops.length oc) (l.getD k blkNone).ops := by
  have h1 : ovs[k]? = some (ovs[k]'(by rw [h.len]; exact hk)) := List.getElem?_eq_getElem _
  have h2 := getD_some l k blkNone hk
  obtain ⟨h3, _⟩ := h.ops k _ _ h1 h2
  obtain ⟨OA, oc, e, _⟩ := h3.form
  rw [e] at h1 h3
  exact ⟨OA, oc, h1, h3⟩
/-- The cells of one block. -/
theorem TmAt.cells (h : TmAt w G V bad l s ovs) (k : Nat) (hk : k < l.length) : ∃ OA oc, ovs[k]? = some (.slice OA (l.getD k blkNone).ops.length oc) ∧ SlRep opEnc w w.heap.size (.slice OA (l.getD k blkNone).ops.length oc) (l.getD k blkNone).ops ∧
    w.cell? ⟨G, k * 5, none⟩ = some (.slice OA (l.getD k blkNone).ops.length oc) ∧ w.cell? ⟨G, k * 5 + 1, none⟩ = some (.int .i64 (l.getD k blkNone).term.kind) ∧ w.cell? ⟨G, k * 5 + 2, none⟩ = some (.int .i64 (l.getD k blkNone).term.a) ∧
    w.cell? ⟨G, k * 5 + 3, none⟩ = some (.int .i64 (l.getD k blkNone).term.yes) ∧ w.cell? ⟨G, k * 5 + 4, none⟩ = some (.int .i64 (l.getD k blkNone).term.no) ∧ (∀ j, w.frozen? ⟨G, j, none⟩ = false) := by
  obtain ⟨OA, oc, h1, h2⟩ := h.ov k hk
  obtain ⟨cur, h3, h4, h5⟩ := h.row
  have h6 := h5 k _ _ h1 (getD_some l k blkNone hk)
  have hc := fun (j : Nat) (u : Value) (hu : (blkCells (.slice OA (l.getD k blkNone).ops.length oc) (l.getD k blkNone).term)[j]? = some u) => (cell_of_blk h3 (k * 5 + j)).1.trans (h6 j u hu)
  exact ⟨OA, oc, h1, h2, hc 0 _ rfl, hc 1 _ rfl, hc 2 _ rfl, hc 3 _ rfl, hc 4 _ rfl, fun j => (cell_of_blk h3 j).2⟩
theorem TmAt.rep (h : TmAt w G V bad l s ovs) (c : Nat) (hc : l.length ≤ c) : SlRep blkEnc w w.heap.size (.slice (some ⟨G, 0, none⟩) l.length c) l := by
  refine ⟨some ⟨G, 0, none⟩, c, rfl, hc, fun k x hk => ?_⟩
  have hkl : k < l.length := (List.getElem?_eq_some_iff.1 hk).1
  have h1 : ovs[k]? = some (ovs[k]'(by rw [h.len]; exact hkl)) := List.getElem?_eq_getElem _
  obtain ⟨cur, h3, _, h5⟩ := h.row
  refine ⟨G, 0, blkCells (ovs[k]'(by rw [h.len]; exact hkl)) x.term, rfl, lt_of_blk h3, ⟨_, rfl, (h.ops k _ x h1 hk).1⟩, fun j u hu => ?_⟩
  rw [Nat.zero_add]
  exact (cell_of_blk h3 _).1.trans (h5 k _ x h1 hk j u hu)
theorem TmAt.setFlag (h : TmAt w G V bad l s ovs) (hGV : G ≠ V) (i : Nat) (b : Bool) : TmAt (w.setCell ⟨V, i, none⟩ (.bool b)) G V bad l (s.set i b) ovs := by
  obtain ⟨cur, h1, h2⟩ := h.row
  refine ⟨h.len, ⟨cur, blk_far h1 _ _ (by show V ≠ G; exact fun e => hGV e.symm), h2⟩, fun j ov bk h3 h4 => ?_, h.gin, h.vin, ?_⟩
  · obtain ⟨a, f⟩ := h.ops j ov bk h3 h4
    refine ⟨?_, f⟩
    have hs : (w.setCell ⟨V, i, none⟩ (.bool b)).heap.size = w.heap.size := by simp [World.setCell]
    rw [hs]
    exact SlRep.far a ⟨V, i, none⟩ _ (fun x m c e hne e9 => f x m c e hne (e9 ▸ h.vin))
  · have := blk_set h.flag i (.bool b)
    rw [bools_set] at this
    exact this
/-- A copy of a block's operations. -/
theorem TmAt.app1 (h : TmAt w G V bad l s ovs) (k : Nat) (hk : k < l.length) (hn : (l.getD k blkNone).ops.length ≤ 1048576) {OA : Option Addr} {oc : Nat} (ho : SlRep opEnc w w.heap.size (.slice OA (l.getD k blkNone).ops.length oc) (l.getD k blkNone).ops) :
    ∃ AA cc w1, (Builtin.append_ #[36, 36] 36 #[.slice none 0 0, .slice OA (l.getD k blkNone).ops.length oc]).run Try.prog w = .ok (.slice AA (l.getD k blkNone).ops.length cc) w1 ∧
      w1.ownsRow w.heap.size 46 6 (.slice AA (l.getD k blkNone).ops.length cc) (l.getD k blkNone).ops.length (opsCells (l.getD k blkNone).ops) ∧ Below w.heap.size w w1 := by
  obtain ⟨AA, cc, w1, a1, a2, a3, _⟩ := run_append_ops w w.heap.size (.slice none 0 0) [] (World.ownsRow_nil _ _ _ _) OA oc w.heap.size _ ho (by rw [List.length_nil]; omega) (Nat.le_refl _)
  rw [List.nil_append] at a1 a2
  exact ⟨AA, cc, w1, a1, a2, (Below.refl _ _).grown a3 (Nat.le_refl _) (fun r hr => by cases hr)⟩
/-- Operations behind a list of the call's own that lies elsewhere. -/
theorem TmAt.app2 (h : TmAt w G V bad l s ovs) {B : Nat} (hG : G < B) (hV : V < B) (hB : B ≤ w.heap.size) {v : Value} {ys : List Opn} (hv : w.ownsRow B 46 6 v ys.length (opsCells ys)) (hd : ∀ r, v.ownBlock = some r → ∀ (i : Nat) (ov : Value) (b : Blk), ovs[i]? = some ov → l[i]? = some b → b.ops ≠ [] → ∀ a n c, ov = .slice (some a) n c → a.block ≠ r) (c : Nat) (hc : c < l.length) (hn : ys.length + (l.getD c blkNone).ops.length ≤ 2000000) {OA : Option Addr} {oc : Nat} (ho : SlRep opEnc w w.heap.size (.slice OA (l.getD c blkNone).ops.length oc) (l.getD c blkNone).ops) :
    ∃ AA cc w1, (Builtin.append_ #[36, 36] 36 #[v, .slice OA (l.getD c blkNone).ops.length oc]).run Try.prog w = .ok (.slice AA (ys ++ (l.getD c blkNone).ops).length cc) w1 ∧
      w1.ownsRow B 46 6 (.slice AA (ys ++ (l.getD c blkNone).ops).length cc) (ys ++ (l.getD c blkNone).ops).length (opsCells (ys ++ (l.getD c blkNone).ops)) ∧ Below B w w1 ∧ TmAt w1 G V bad l s ovs := by
  obtain ⟨AA, cc, w1, a1, a2, a3, _⟩ := run_append_ops w B v ys hv OA oc w.heap.size _ ho hn hB
  have hb : Below B w w1 := (Below.refl B w).grown a3 hB (fun r hr => (hv.lt r hr).1)
  obtain ⟨cur, h1, h2⟩ := h.row
  refine ⟨AA, cc, w1, a1, a2, hb, h.len, ⟨cur, (hb.block _ hG).trans h1, h2⟩, fun i ov b h3 h4 => ⟨?_, (h.ops i ov b h3 h4).2⟩, h.gin, h.vin, (hb.block _ hV).trans h.flag⟩
  obtain ⟨A, c', e, hc', hx⟩ := (h.ops i ov b h3 h4).1
  refine ⟨A, c', e, hc', fun k x hk => ?_⟩
  obtain ⟨bb, off, es, e1, hbb, hr, hcell⟩ := hx k x hk
  refine ⟨bb, off, es, e1, by have := hb.size; omega, hr, fun j u hj => ?_⟩
  have hne := fun r hr9 => hd r hr9 i ov b h3 h4 (by intro e9; rw [e9] at hk; simp at hk) ⟨bb, off, none⟩ _ c' (by rw [e, e1])
  rw [World.cell?_of_block (a3.block bb hbb (fun e9 => hne bb e9.symm rfl))]
  exact hcell j u hj
/-- Operations lie in elder blocks than one that is new. -/
theorem TmAt.old (h : TmAt w G V bad l s ovs) {r : Nat} (hr : w.heap.size ≤ r) (i : Nat) (ov : Value) (b : Blk) (h1 : ovs[i]? = some ov) (h2 : l[i]? = some b) (hne : b.ops ≠ []) (a : Addr) (n c : Nat) (e : ov = .slice (some a) n c) : a.block ≠ r := by
  obtain ⟨A, c', e1, _, hx⟩ := (h.ops i ov b h1 h2).1
  rw [e] at e1
  injection e1 with e1
  obtain ⟨bb, off, es, e2, hbb, _⟩ := hx 0 _ (List.getElem?_eq_getElem (List.length_pos_iff.2 hne))
  rw [← e1] at e2
  injection e2 with e2
  subst e2
  show bb ≠ r
  omega
/-- Five cells of one block anew. -/
theorem cells5 {cur : Array Value} {k : Nat} (hk : k * 5 + 5 ≤ cur.size) (v0 v1 v2 v3 v4 : Value) (i : Nat) : (((((cur.setIfInBounds (k * 5) v0).setIfInBounds (k * 5 + 1) v1).setIfInBounds (k * 5 + 2) v2).setIfInBounds (k * 5 + 3) v3).setIfInBounds (k * 5 + 4) v4)[i]? =
    if i = k * 5 then some v0 else if i = k * 5 + 1 then some v1 else if i = k * 5 + 2 then some v2 else if i = k * 5 + 3 then some v3 else if i = k * 5 + 4 then some v4 else cur[i]? := by
  simp only [Array.getElem?_setIfInBounds, Array.size_setIfInBounds]
  by_cases h4 : k * 5 + 4 = i
  · subst h4
    rw [if_pos rfl, if_pos (by omega), if_neg (by omega), if_neg (by omega), if_neg (by omega), if_neg (by omega), if_pos rfl]
  · rw [if_neg h4]
    by_cases h3 : k * 5 + 3 = i
    · subst h3
      rw [if_pos rfl, if_pos (by omega), if_neg (by omega), if_neg (by omega), if_neg (by omega), if_pos rfl]
    · rw [if_neg h3]
      by_cases h2 : k * 5 + 2 = i
      · subst h2
        rw [if_pos rfl, if_pos (by omega), if_neg (by omega), if_neg (by omega), if_pos rfl]
      · rw [if_neg h2]
        by_cases h1 : k * 5 + 1 = i
        · subst h1
          rw [if_pos rfl, if_pos (by omega), if_neg (by omega), if_pos rfl]
        · rw [if_neg h1]
          by_cases h0 : k * 5 = i
          · subst h0
            rw [if_pos rfl, if_pos (by omega), if_pos rfl]
          · rw [if_neg h0, if_neg (by omega), if_neg (by omega), if_neg (by omega), if_neg (by omega), if_neg (by omega)]
/-- Block k is stored anew. -/
theorem TmAt.put (h : TmAt w G V bad l s ovs) (hGV : G ≠ V) {k : Nat} (hk : k < l.length) (b : Blk) {A : Option Addr} {c : Nat} (ho : SlRep opEnc w w.heap.size (.slice A b.ops.length c) b.ops) (hf : OpFar bad (.slice A b.ops.length c) b.ops) :
    ∃ w5, ((((w.setCell ⟨G, k * 5, none⟩ (.slice A b.ops.length c)).setCell ⟨G, k * 5 + 1, none⟩ (.int .i64 b.term.kind)).setCell ⟨G, k * 5 + 2, none⟩ (.int .i64 b.term.a)).setCell ⟨G, k * 5 + 3, none⟩ (.int .i64 b.term.yes)).setCell ⟨G, k * 5 + 4, none⟩ (.int .i64 b.term.no) = w5 ∧
      TmAt w5 G V bad (l.set k b) s (ovs.set k (.slice A b.ops.length c)) ∧ (∀ {B : Nat} {w0 : World}, B ≤ G → Below B w0 w → Below B w0 w5) ∧ w5.heap.size = w.heap.size ∧ (∀ g x, g ≠ G → w.heap[g]? = some x → w5.heap[g]? = some x) := by
  obtain ⟨cur, h1, h2, h3⟩ := h.row
  have hsz : ∀ (W : World) (q : Addr) (u : Value), (W.setCell q u).heap.size = W.heap.size := fun W q u => by simp [World.setCell]
  refine ⟨_, rfl, ⟨by rw [List.length_set, List.length_set]; exact h.len, ⟨_, blk_set (blk_set (blk_set (blk_set (blk_set h1 (k * 5) (.slice A b.ops.length c)) (k * 5 + 1) (.int .i64 b.term.kind)) (k * 5 + 2) (.int .i64 b.term.a)) (k * 5 + 3) (.int .i64 b.term.yes)) (k * 5 + 4) (.int .i64 b.term.no), ?_, ?_⟩, ?_, h.gin, h.vin, ?_⟩, ?_, ?_, ?_⟩
  · rw [List.length_set]; simp only [Array.size_setIfInBounds]; exact h2
  · intro i ov bk h4 h5 j u hu
    have hj : j < 5 := by have := (List.getElem?_eq_some_iff.1 hu).1; exact this
    rw [cells5 (by omega)]
    by_cases e : i = k
    · subst e
      rw [List.getElem?_set_self (by rw [h.len]; exact hk)] at h4
      rw [List.getElem?_set_self hk] at h5
      injection h4 with h4
      injection h5 with h5
      subst h4 h5
      match j, hj, hu with
      | 0, _, hu => rw [Nat.add_zero, if_pos rfl]; exact hu
      | 1, _, hu => rw [if_neg (by omega), if_pos rfl]; exact hu
      | 2, _, hu => rw [if_neg (by omega), if_neg (by omega), if_pos rfl]; exact hu
      | 3, _, hu => rw [if_neg (by omega), if_neg (by omega), if_neg (by omega), if_pos rfl]; exact hu
      | 4, _, hu => rw [if_neg (by omega), if_neg (by omega), if_neg (by omega), if_neg (by omega), if_pos rfl]; exact hu
    · rw [List.getElem?_set_ne (fun e9 => e e9.symm)] at h4 h5
      rw [if_neg (by omega), if_neg (by omega), if_neg (by omega), if_neg (by omega), if_neg (by omega)]
      exact h3 i ov bk h4 h5 j u hu
  · intro i ov bk h4 h5
    have key : ∀ {ov' : Value} {ops : List Opn}, SlRep opEnc w w.heap.size ov' ops → OpFar bad ov' ops → SlRep opEnc (((((w.setCell ⟨G, k * 5, none⟩ (.slice A b.ops.length c)).setCell ⟨G, k * 5 + 1, none⟩ (.int .i64 b.term.kind)).setCell ⟨G, k * 5 + 2, none⟩ (.int .i64 b.term.a)).setCell ⟨G, k * 5 + 3, none⟩ (.int .i64 b.term.yes)).setCell ⟨G, k * 5 + 4, none⟩ (.int .i64 b.term.no)) (((((w.setCell ⟨G, k * 5, none⟩ (.slice A b.ops.length c)).setCell ⟨G, k * 5 + 1, none⟩ (.int .i64 b.term.kind)).setCell ⟨G, k * 5 + 2, none⟩ (.int .i64 b.term.a)).setCell ⟨G, k * 5 + 3, none⟩ (.int .i64 b.term.yes)).setCell ⟨G, k * 5 + 4, none⟩ (.int .i64 b.term.no)).heap.size ov' ops := by
      intro ov' ops a f
      rw [hsz, hsz, hsz, hsz, hsz]
      have g : ∀ (x : Addr) m c, ov' = .slice (some x) m c → ops ≠ [] → x.block ≠ G := fun x m c e hne e9 => f x m c e hne (e9 ▸ h.gin)
      exact SlRep.far (SlRep.far (SlRep.far (SlRep.far (SlRep.far a _ _ g) _ _ g) _ _ g) _ _ g) _ _ g
    by_cases e : i = k
    · subst e
      rw [List.getElem?_set_self (by rw [h.len]; exact hk)] at h4
      rw [List.getElem?_set_self hk] at h5
      injection h4 with h4
      injection h5 with h5
      subst h4 h5
      exact ⟨key ho hf, hf⟩
    · rw [List.getElem?_set_ne (fun e9 => e e9.symm)] at h4 h5
      obtain ⟨a, f⟩ := h.ops i ov bk h4 h5
      exact ⟨key a f, f⟩
  · exact blk_far (blk_far (blk_far (blk_far (blk_far h.flag _ _ hGV) _ _ hGV) _ _ hGV) _ _ hGV) _ _ hGV
  · intro B w0 hB hb
    exact ((((hb.setCell hB _).setCell hB _).setCell hB _).setCell hB _).setCell hB _
  · rw [hsz, hsz, hsz, hsz, hsz]
  · intro g x hg hx
    exact blk_far (blk_far (blk_far (blk_far (blk_far hx _ _ (fun e => hg e.symm)) _ _ (fun e => hg e.symm)) _ _ (fun e => hg e.symm)) _ _ (fun e => hg e.symm)) _ _ (fun e => hg e.symm)
end
/-- Rows that a call made, as the blocks that are put behind each other lie. -/
theorem RoAt.tm {w : World} {B C V : Nat} {A : Option Addr} {c : Nat} {l : List Blk} {ovs : List Value} {s : List Bool} (h : RoAt w B C [] (.slice A l.length c) l ovs) (hC : C ≤ B) (hB : B ≤ w.heap.size) (hl : 0 < l.length) (hv : w.heap[V]? = some (.cells (bools s) 4 (0, 0))) (hV : B ≤ V) (bad : List Nat) (hbad : ∀ r ∈ bad, C ≤ r) :
    ∃ G, A = some ⟨G, 0, none⟩ ∧ B ≤ G ∧ l.length ≤ c ∧ G ≠ V ∧ TmAt w G V (G :: V :: bad) l s ovs := by
  obtain ⟨hlen, hr⟩ := h.row
  rcases hr with ⟨_, h0⟩ | ⟨g, cap, cur, e, hb, hg, hnc, _, hsz, htk⟩
  · omega
  · injection e with e1 e2 e3
    subst e1 e3
    have hgv : g ≠ V := fun e9 => by
      rw [e9, hv] at hg
      injection hg with hg
      injection hg with _ hg
      revert hg
      decide
    refine ⟨g, rfl, hb, hnc, hgv, h.len, ⟨cur, hg, ?_, fun i ov b h1 h2 j u hu => ?_⟩, fun i ov b h1 h2 => ?_, by simp, by simp, hv⟩
    · rw [hsz]; exact Nat.mul_le_mul_right _ hnc
    · have hj : j < 5 := (List.getElem?_eq_some_iff.1 hu).1
      have hi : i < l.length := (List.getElem?_eq_some_iff.1 h2).1
      have h3 : (blkRow ovs l)[i * 5 + j]? = some u := by
        refine flatten_at 5 _ (fun es he => ?_) i (blkCells ov b.term) (by rw [List.getElem?_zipWith, h1, h2]) j u hu
        obtain ⟨x, hx, rfl⟩ := List.getElem_of_mem he
        rw [List.getElem_zipWith]; rfl
      rw [← htk] at h3
      rw [List.getElem?_take] at h3
      split at h3
      · rw [← Array.getElem?_toList]; exact h3
      · cases h3
    · have h3 := (h.ops i ov b h1 h2).1
      refine ⟨h3.keep (by omega) (fun _ _ => rfl), fun a n cc e9 hne => ?_⟩
      obtain ⟨A', c', e4, _, hx⟩ := h3
      rw [e4] at e9
      injection e9 with e9
      have h0 : 0 < b.ops.length := List.length_pos_iff.2 hne
      obtain ⟨bb, off, es, e5, hbb, _⟩ := hx 0 _ (List.getElem?_eq_getElem h0)
      rw [e9] at e5
      injection e5 with e5
      subst e5
      intro hm
      have hm : bb ∈ g :: V :: bad := hm
      rcases List.mem_cons.1 hm with hm | hm
      · omega
      · rcases List.mem_cons.1 hm with hm | hm
        · omega
        · have := hbad bb hm; omega
end Go.Proofs.Ythkobddggoojlaa
