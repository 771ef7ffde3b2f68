/- Parts of a proof, joined. No condition but those that each theorem names. -/
import Derived.WalkKit
import Derived.OpenShut
import Derived.Below
import Derived.Lib.Hide
import Derived.Laws.OwnMore
import Derived.Deep.QuietTactic
import Derived.Deep.AppendLies
import Derived.ProofKit
import Derived.SizedLaws
import Derived.Test.YthkobddggoojlaaProg
import Derived.Handy
import Derived.Deep.RegionHeld3
import Derived.BigQuiet
import Derived.Maps.AppendAt
import Derived.Maps.RangeWalk
import Derived.Maps.OwnSet
import Derived.StillTailTactics
import Derived.Laws.CopyOwn
import Derived.Lib.BufferWrite
import Derived.OrdersHeld
import Derived.RegionTactic
import Derived.Deep.DeepCutAuto
import Derived.Test.YthkobddggoojlaaTeG0e0
import Derived.Test.YthkobddggoojlaaTeG0e2
import Derived.Test.YthkobddggoojlaaTeG0e4
import Derived.Test.YthkobddggoojlaaTeIrC
import Derived.Test.YthkobddggoojlaaTeG1e6
import Derived.Test.YthkobddggoojlaaTeG1e7
import Derived.Test.YthkobddggoojlaaTeG1e16
import Derived.Test.YthkobddggoojlaaTeG1e15
import Derived.Test.YthkobddggoojlaaTeG1e18
import Derived.Test.YthkobddggoojlaaTeG1e19
import Derived.Test.YthkobddggoojlaaTeG0e1
import Derived.Test.YthkobddggoojlaaTeG0e6
import Derived.Test.YthkobddggoojlaaTeG0e14
import Derived.Test.YthkobddggoojlaaTeG0e10
import Derived.Test.YthkobddggoojlaaTeG0e15
namespace Go.Proofs.Ythkobddggoojlaa
open Go.RowKit
set_option linter.unusedVariables false
structure TmAt (w : World) (G V : Nat) (bad : List Nat) (l : List Blk) (s : List Bool) (ovs : List Value) : Prop where
  len : ovs.length = l.length
  row : ∃ cur, w.heap[G]? = some (.cells cur 40 (0, 0)) ∧ l.length * 5 ≤ cur.size ∧ ∀ (i : Nat) (ov : Value) (b : Blk), ovs[i]? = some ov → l[i]? = some b → ∀ (j : Nat) (u : Value), (blkCells ov b.term)[j]? = some u → cur[i * 5 + j]? = some u
  ops : ∀ (i : Nat) (ov : Value) (b : Blk), ovs[i]? = some ov → l[i]? = some b → SlRep opEnc w w.heap.size ov b.ops ∧ OpFar bad ov b.ops
  gin : G ∈ bad
  vin : V ∈ bad
  flag : w.heap[V]? = some (.cells (bools s) 4 (0, 0))
section
variable {w w' : World} {G V : Nat} {bad : List Nat} {l : List Blk} {s : List Bool} {ovs : List Value}
theorem TmAt.below (h : TmAt w G V bad l s ovs) (hb : Below w.heap.size w w') : TmAt w' G V bad l s ovs := by
  obtain ⟨cur, h1, h2⟩ := h.row
  exact ⟨h.len, ⟨cur, (hb.block _ (lt_of_blk h1)).trans h1, h2⟩, fun i ov b h3 h4 => ⟨(h.ops i ov b h3 h4).1.next hb, (h.ops i ov b h3 h4).2⟩, h.gin, h.vin, (hb.block _ (lt_of_blk h.flag)).trans h.flag⟩
theorem TmAt.gv (h : TmAt w G V bad l s ovs) : G < w.heap.size ∧ V < w.heap.size := by
  obtain ⟨cur, h1, _⟩ := h.row
  exact ⟨lt_of_blk h1, lt_of_blk h.flag⟩
theorem TmAt.ov (h : TmAt w G V bad l s ovs) (k : Nat) (hk : k < l.length) : ∃ OA oc, ovs[k]? = some (.slice OA (l.getD k blkNone).ops.length oc) ∧ SlRep opEnc w w.heap.size (.slice OA (l.getD k blkNone).ops.length oc) (l.getD k blkNone).ops := by
  have h1 : ovs[k]? = some (ovs[k]'(by rw [h.len]; exact hk)) := List.getElem?_eq_getElem _
  have h2 := getD_some l k blkNone hk
  obtain ⟨h3, _⟩ := h.ops k _ _ h1 h2
  obtain ⟨OA, oc, e, _⟩ := h3.form
  rw [e] at h1 h3
  exact ⟨OA, oc, h1, h3⟩
/-- The cells of one block. -/
theorem TmAt.cells (h : TmAt w G V bad l s ovs) (k : Nat) (hk : k < l.length) : ∃ OA oc, ovs[k]? = some (.slice OA (l.getD k blkNone).ops.length oc) ∧ SlRep opEnc w w.heap.size (.slice OA (l.getD k blkNone).ops.length oc) (l.getD k blkNone).ops ∧
    w.cell? ⟨G, k * 5, none⟩ = some (.slice OA (l.getD k blkNone).ops.length oc) ∧ w.cell? ⟨G, k * 5 + 1, none⟩ = some (.int .i64 (l.getD k blkNone).term.kind) ∧ w.cell? ⟨G, k * 5 + 2, none⟩ = some (.int .i64 (l.getD k blkNone).term.a) ∧
    w.cell? ⟨G, k * 5 + 3, none⟩ = some (.int .i64 (l.getD k blkNone).term.yes) ∧ w.cell? ⟨G, k * 5 + 4, none⟩ = some (.int .i64 (l.getD k blkNone).term.no) ∧ (∀ j, w.frozen? ⟨G, j, none⟩ = false) := by
  obtain ⟨OA, oc, h1, h2⟩ := h.ov k hk
  obtain ⟨cur, h3, h4, h5⟩ := h.row
  have h6 := h5 k _ _ h1 (getD_some l k blkNone hk)
  have hc := fun (j : Nat) (u : Value) (hu : (blkCells (.slice OA (l.getD k blkNone).ops.length oc) (l.getD k blkNone).term)[j]? = some u) => (cell_of_blk h3 (k * 5 + j)).1.trans (h6 j u hu)
  exact ⟨OA, oc, h1, h2, hc 0 _ rfl, hc 1 _ rfl, hc 2 _ rfl, hc 3 _ rfl, hc 4 _ rfl, fun j => (cell_of_blk h3 j).2⟩
theorem TmAt.rep (h : TmAt w G V bad l s ovs) (c : Nat) (hc : l.length ≤ c) : SlRep blkEnc w w.heap.size (.slice (some ⟨G, 0, none⟩) l.length c) l := by
  refine ⟨some ⟨G, 0, none⟩, c, rfl, hc, fun k x hk => ?_⟩
  have hkl : k < l.length := (List.getElem?_eq_some_iff.1 hk).1
  have h1 : ovs[k]? = some (ovs[k]'(by rw [h.len]; exact hkl)) := List.getElem?_eq_getElem _
  obtain ⟨cur, h3, _, h5⟩ := h.row
  refine ⟨G, 0, blkCells (ovs[k]'(by rw [h.len]; exact hkl)) x.term, rfl, lt_of_blk h3, ⟨_, rfl, (h.ops k _ x h1 hk).1⟩, fun j u hu => ?_⟩
  rw [Nat.zero_add]
  exact (cell_of_blk h3 _).1.trans (h5 k _ x h1 hk j u hu)
theorem TmAt.setFlag (h : TmAt w G V bad l s ovs) (hGV : G ≠ V) (i : Nat) (b : Bool) : TmAt (w.setCell ⟨V, i, none⟩ (.bool b)) G V bad l (s.set i b) ovs := by
  obtain ⟨cur, h1, h2⟩ := h.row
  refine ⟨h.len, ⟨cur, blk_far h1 _ _ (by show V ≠ G; exact fun e => hGV e.symm), h2⟩, fun j ov bk h3 h4 => ?_, h.gin, h.vin, ?_⟩
  · obtain ⟨a, f⟩ := h.ops j ov bk h3 h4
    refine ⟨?_, f⟩
    have hs : (w.setCell ⟨V, i, none⟩ (.bool b)).heap.size = w.heap.size := by simp [World.setCell]
    rw [hs]
    exact SlRep.far a ⟨V, i, none⟩ _ (fun x m c e hne e9 => f x m c e hne (e9 ▸ h.vin))
  · have := blk_set h.flag i (.bool b)
    rw [bools_set] at this
    exact this
/-- A copy of a block's operations. -/
theorem TmAt.app1 (h : TmAt w G V bad l s ovs) (k : Nat) (hk : k < l.length) (hn : (l.getD k blkNone).ops.length ≤ 1048576) {OA : Option Addr} {oc : Nat} (ho : SlRep opEnc w w.heap.size (.slice OA (l.getD k blkNone).ops.length oc) (l.getD k blkNone).ops) :
    ∃ AA cc w1, (Builtin.append_ #[36, 36] 36 #[.slice none 0 0, .slice OA (l.getD k blkNone).ops.length oc]).run Try.prog w = .ok (.slice AA (l.getD k blkNone).ops.length cc) w1 ∧
      w1.ownsRow w.heap.size 46 6 (.slice AA (l.getD k blkNone).ops.length cc) (l.getD k blkNone).ops.length (opsCells (l.getD k blkNone).ops) ∧ Below w.heap.size w w1 := by
  obtain ⟨AA, cc, w1, a1, a2, a3, _⟩ := run_append_ops w w.heap.size (.slice none 0 0) [] (World.ownsRow_nil _ _ _ _) OA oc w.heap.size _ ho (by rw [List.length_nil]; omega) (Nat.le_refl _)
  rw [List.nil_append] at a1 a2
  exact ⟨AA, cc, w1, a1, a2, (Below.refl _ _).grown a3 (Nat.le_refl _) (fun r hr => by cases hr)⟩
/-- Operations behind a list of the call's own that lies elsewhere. -/
theorem TmAt.app2 (h : TmAt w G V bad l s ovs) {B : Nat} (hG : G < B) (hV : V < B) (hB : B ≤ w.heap.size) {v : Value} {ys : List Opn} (hv : w.ownsRow B 46 6 v ys.length (opsCells ys)) (hd : ∀ r, v.ownBlock = some r → ∀ (i : Nat) (ov : Value) (b : Blk), ovs[i]? = some ov → l[i]? = some b → b.ops ≠ [] → ∀ a n c, ov = .slice (some a) n c → a.block ≠ r) (c : Nat) (hc : c < l.length) (hn : ys.length + (l.getD c blkNone).ops.length ≤ 2000000) {OA : Option Addr} {oc : Nat} (ho : SlRep opEnc w w.heap.size (.slice OA (l.getD c blkNone).ops.length oc) (l.getD c blkNone).ops) :
    ∃ AA cc w1, (Builtin.append_ #[36, 36] 36 #[v, .slice OA (l.getD c blkNone).ops.length oc]).run Try.prog w = .ok (.slice AA (ys ++ (l.getD c blkNone).ops).length cc) w1 ∧
      w1.ownsRow B 46 6 (.slice AA (ys ++ (l.getD c blkNone).ops).length cc) (ys ++ (l.getD c blkNone).ops).length (opsCells (ys ++ (l.getD c blkNone).ops)) ∧ Below B w w1 ∧ TmAt w1 G V bad l s ovs := by
  obtain ⟨AA, cc, w1, a1, a2, a3, _⟩ := run_append_ops w B v ys hv OA oc w.heap.size _ ho hn hB
  have hb : Below B w w1 := (Below.refl B w).grown a3 hB (fun r hr => (hv.lt r hr).1)
  obtain ⟨cur, h1, h2⟩ := h.row
  refine ⟨AA, cc, w1, a1, a2, hb, h.len, ⟨cur, (hb.block _ hG).trans h1, h2⟩, fun i ov b h3 h4 => ⟨?_, (h.ops i ov b h3 h4).2⟩, h.gin, h.vin, (hb.block _ hV).trans h.flag⟩
  obtain ⟨A, c', e, hc', hx⟩ := (h.ops i ov b h3 h4).1
  refine ⟨A, c', e, hc', fun k x hk => ?_⟩
  obtain ⟨bb, off, es, e1, hbb, hr, hcell⟩ := hx k x hk
  refine ⟨bb, off, es, e1, by have := hb.size; omega, hr, fun j u hj => ?_⟩
  have hne := fun r hr9 => hd r hr9 i ov b h3 h4 (by intro e9; rw [e9] at hk; simp at hk) ⟨bb, off, none⟩ _ c' (by rw [e, e1])
  rw [World.cell?_of_block (a3.block bb hbb (fun e9 => hne bb e9.symm rfl))]
  exact hcell j u hj
/-- Operations lie in elder blocks than one that is new. -/
theorem TmAt.old (h : TmAt w G V bad l s ovs) {r : Nat} (hr : w.heap.size ≤ r) (i : Nat) (ov : Value) (b : Blk) (h1 : ovs[i]? = some ov) (h2 : l[i]? = some b) (hne : b.ops ≠ []) (a : Addr) (n c : Nat) (e : ov = .slice (some a) n c) : a.block ≠ r := by
  obtain ⟨A, c', e1, _, hx⟩ := (h.ops i ov b h1 h2).1
  rw [e] at e1
  injection e1 with e1
  obtain ⟨bb, off, es, e2, hbb, _⟩ := hx 0 _ (List.getElem?_eq_getElem (List.length_pos_iff.2 hne))
  rw [← e1] at e2
  injection e2 with e2
  subst e2
  show bb ≠ r
  omega
/-- Five cells of one block anew. -/
theorem cells5 {cur : Array Value} {k : Nat} (hk : k * 5 + 5 ≤ cur.size) (v0 v1 v2 v3 v4 : Value) (i : Nat) : (((((cur.setIfInBounds (k * 5) v0).setIfInBounds (k * 5 + 1) v1).setIfInBounds (k * 5 + 2) v2).setIfInBounds (k * 5 + 3) v3).setIfInBounds (k * 5 + 4) v4)[i]? =
    if i = k * 5 then some v0 else if i = k * 5 + 1 then some v1 else if i = k * 5 + 2 then some v2 else if i = k * 5 + 3 then some v3 else if i = k * 5 + 4 then some v4 else cur[i]? := by
  simp only [Array.getElem?_setIfInBounds, Array.size_setIfInBounds]
  by_cases h4 : k * 5 + 4 = i
  · subst h4
    rw [if_pos rfl, if_pos (by omega), if_neg (by omega), if_neg (by omega), if_neg (by omega), if_neg (by omega), if_pos rfl]
  · rw [if_neg h4]
    by_cases h3 : k * 5 + 3 = i
    · subst h3
      rw [if_pos rfl, if_pos (by omega), if_neg (by omega), if_neg (by omega), if_neg (by omega), if_pos rfl]
    · rw [if_neg h3]
      by_cases h2 : k * 5 + 2 = i
      · subst h2
        rw [if_pos rfl, if_pos (by omega), if_neg (by omega), if_neg (by omega), if_pos rfl]
      · rw [if_neg h2]
        by_cases h1 : k * 5 + 1 = i
        · subst h1
          rw [if_pos rfl, if_pos (by omega), if_neg (by omega), if_pos rfl]
        · rw [if_neg h1]
          by_cases h0 : k * 5 = i
          · subst h0
            rw [if_pos rfl, if_pos (by omega), if_pos rfl]
          · rw [if_neg h0, if_neg (by omega), if_neg (by omega), if_neg (by omega), if_neg (by omega), if_neg (by omega)]
/-- Block k is stored anew. -/
theorem TmAt.put (h : TmAt w G V bad l s ovs) (hGV : G ≠ V) {k : Nat} (hk : k < l.length) (b : Blk) {A : Option Addr} {c : Nat} (ho : SlRep opEnc w w.heap.size (.slice A b.ops.length c) b.ops) (hf : OpFar bad (.slice A b.ops.length c) b.ops) :
    ∃ w5, ((((w.setCell ⟨G, k * 5, none⟩ (.slice A b.ops.length c)).setCell ⟨G, k * 5 + 1, none⟩ (.int .i64 b.term.kind)).setCell ⟨G, k * 5 + 2, none⟩ (.int .i64 b.term.a)).setCell ⟨G, k * 5 + 3, none⟩ (.int .i64 b.term.yes)).setCell ⟨G, k * 5 + 4, none⟩ (.int .i64 b.term.no) = w5 ∧
      TmAt w5 G V bad (l.set k b) s (ovs.set k (.slice A b.ops.length c)) ∧ (∀ {B : Nat} {w0 : World}, B ≤ G → Below B w0 w → Below B w0 w5) ∧ w5.heap.size = w.heap.size ∧ (∀ g x, g ≠ G → w.heap[g]? = some x → w5.heap[g]? = some x) := by
  obtain ⟨cur, h1, h2, h3⟩ := h.row
  have hsz : ∀ (W : World) (q : Addr) (u : Value), (W.setCell q u).heap.size = W.heap.size := fun W q u => by simp [World.setCell]
  refine ⟨_, rfl, ⟨by rw [List.length_set, List.length_set]; exact h.len, ⟨_, blk_set (blk_set (blk_set (blk_set (blk_set h1 (k * 5) (.slice A b.ops.length c)) (k * 5 + 1) (.int .i64 b.term.kind)) (k * 5 + 2) (.int .i64 b.term.a)) (k * 5 + 3) (.int .i64 b.term.yes)) (k * 5 + 4) (.int .i64 b.term.no), ?_, ?_⟩, ?_, h.gin, h.vin, ?_⟩, ?_, ?_, ?_⟩
  · rw [List.length_set]; simp only [Array.size_setIfInBounds]; exact h2
  · intro i ov bk h4 h5 j u hu
    have hj : j < 5 := by have := (List.getElem?_eq_some_iff.1 hu).1; exact this
    rw [cells5 (by omega)]
    by_cases e : i = k
    · subst e
      rw [List.getElem?_set_self (by rw [h.len]; exact hk)] at h4
      rw [List.getElem?_set_self hk] at h5
      injection h4 with h4
      injection h5 with h5
      subst h4 h5
      match j, hj, hu with
      | 0, _, hu => rw [Nat.add_zero, if_pos rfl]; exact hu
      | 1, _, hu => rw [if_neg (by omega), if_pos rfl]; exact hu
      | 2, _, hu => rw [if_neg (by omega), if_neg (by omega), if_pos rfl]; exact hu
      | 3, _, hu => rw [if_neg (by omega), if_neg (by omega), if_neg (by omega), if_pos rfl]; exact hu
      | 4, _, hu => rw [if_neg (by omega), if_neg (by omega), if_neg (by omega), if_neg (by omega), if_pos rfl]; exact hu
    · rw [List.getElem?_set_ne (fun e9 => e e9.symm)] at h4 h5
      rw [if_neg (by omega), if_neg (by omega), if_neg (by omega), if_neg (by omega), if_neg (by omega)]
      exact h3 i ov bk h4 h5 j u hu
  · intro i ov bk h4 h5
    have key : ∀ {ov' : Value} {ops : List Opn}, SlRep opEnc w w.heap.size ov' ops → OpFar bad ov' ops → SlRep opEnc (((((w.setCell ⟨G, k * 5, none⟩ (.slice A b.ops.length c)).setCell ⟨G, k * 5 + 1, none⟩ (.int .i64 b.term.kind)).setCell ⟨G, k * 5 + 2, none⟩ (.int .i64 b.term.a)).setCell ⟨G, k * 5 + 3, none⟩ (.int .i64 b.term.yes)).setCell ⟨G, k * 5 + 4, none⟩ (.int .i64 b.term.no)) (((((w.setCell ⟨G, k * 5, none⟩ (.slice A b.ops.length c)).setCell ⟨G, k * 5 + 1, none⟩ (.int .i64 b.term.kind)).setCell ⟨G, k * 5 + 2, none⟩ (.int .i64 b.term.a)).setCell ⟨G, k * 5 + 3, none⟩ (.int .i64 b.term.yes)).setCell ⟨G, k * 5 + 4, none⟩ (.int .i64 b.term.no)).heap.size ov' ops := by
      intro ov' ops a f
      rw [hsz, hsz, hsz, hsz, hsz]
      have g : ∀ (x : Addr) m c, ov' = .slice (some x) m c → ops ≠ [] → x.block ≠ G := fun x m c e hne e9 => f x m c e hne (e9 ▸ h.gin)
      exact SlRep.far (SlRep.far (SlRep.far (SlRep.far (SlRep.far a _ _ g) _ _ g) _ _ g) _ _ g) _ _ g
    by_cases e : i = k
    · subst e
      rw [List.getElem?_set_self (by rw [h.len]; exact hk)] at h4
      rw [List.getElem?_set_self hk] at h5
      injection h4 with h4
      injection h5 with h5
      subst h4 h5
      exact ⟨key ho hf, hf⟩
    · rw [List.getElem?_set_ne (fun e9 => e e9.symm)] at h4 h5
      obtain ⟨a, f⟩ := h.ops i ov bk h4 h5
      exact ⟨key a f, f⟩
  · exact blk_far (blk_far (blk_far (blk_far (blk_far h.flag _ _ hGV) _ _ hGV) _ _ hGV) _ _ hGV) _ _ hGV
  · intro B w0 hB hb
    exact ((((hb.setCell hB _).setCell hB _).setCell hB _).setCell hB _).setCell hB _
  · rw [hsz, hsz, hsz, hsz, hsz]
  · intro g x hg hx
    exact blk_far (blk_far (blk_far (blk_far (blk_far hx _ _ (fun e => hg e.symm)) _ _ (fun e => hg e.symm)) _ _ (fun e => hg e.symm)) _ _ (fun e => hg e.symm)) _ _ (fun e => hg e.symm)
end
/-- Rows that a call made, as the blocks that are put behind each other lie. -/
theorem RoAt.tm {w : World} {B C V : Nat} {A : Option Addr} {c : Nat} {l : List Blk} {ovs : List Value} {s : List Bool} (h : RoAt w B C [] (.slice A l.length c) l ovs) (hC : C ≤ B) (hB : B ≤ w.heap.size) (hl : 0 < l.length) (hv : w.heap[V]? = some (.cells (bools s) 4 (0, 0))) (hV : B ≤ V) (bad : List Nat) (hbad : ∀ r ∈ bad, C ≤ r) :
    ∃ G, A = some ⟨G, 0, none⟩ ∧ B ≤ G ∧ l.length ≤ c ∧ G ≠ V ∧ TmAt w G V (G :: V :: bad) l s ovs := by
  obtain ⟨hlen, hr⟩ := h.row
  rcases hr with ⟨_, h0⟩ | ⟨g, cap, cur, e, hb, hg, hnc, _, hsz, htk⟩
  · omega
  · injection e with e1 e2 e3
    subst e1 e3
    have hgv : g ≠ V := fun e9 => by
      rw [e9, hv] at hg
      injection hg with hg
      injection hg with _ hg
      revert hg
      decide
    refine ⟨g, rfl, hb, hnc, hgv, h.len, ⟨cur, hg, ?_, fun i ov b h1 h2 j u hu => ?_⟩, fun i ov b h1 h2 => ?_, by simp, by simp, hv⟩
    · rw [hsz]; exact Nat.mul_le_mul_right _ hnc
    · have hj : j < 5 := (List.getElem?_eq_some_iff.1 hu).1
      have hi : i < l.length := (List.getElem?_eq_some_iff.1 h2).1
      have h3 : (blkRow ovs l)[i * 5 + j]? = some u := by
        refine flatten_at 5 _ (fun es he => ?_) i (blkCells ov b.term) (by rw [List.getElem?_zipWith, h1, h2]) j u hu
        obtain ⟨x, hx, rfl⟩ := List.getElem_of_mem he
        rw [List.getElem_zipWith]; rfl
      rw [← htk] at h3
      rw [List.getElem?_take] at h3
      split at h3
      · rw [← Array.getElem?_toList]; exact h3
      · cases h3
    · have h3 := (h.ops i ov b h1 h2).1
      refine ⟨h3.keep (by omega) (fun _ _ => rfl), fun a n cc e9 hne => ?_⟩
      obtain ⟨A', c', e4, _, hx⟩ := h3
      rw [e4] at e9
      injection e9 with e9
      have h0 : 0 < b.ops.length := List.length_pos_iff.2 hne
      obtain ⟨bb, off, es, e5, hbb, _⟩ := hx 0 _ (List.getElem?_eq_getElem h0)
      rw [e9] at e5
      injection e5 with e5
      subst e5
      intro hm
      have hm : bb ∈ g :: V :: bad := hm
      rcases List.mem_cons.1 hm with hm | hm
      · omega
      · rcases List.mem_cons.1 hm with hm | hm
        · omega
        · have := hbad bb hm; omega
end Go.Proofs.Ythkobddggoojlaa
namespace Go.Proofs.Ythkobddggoojlaa
open Go.RowKit
set_option linter.unusedVariables false
/-- What lies at place i of rows of one width, told by the place. -/
theorem flatten_back (m : Nat) (hm : 0 < m) : ∀ (cs : List (List Value)), (∀ es ∈ cs, es.length = m) → ∀ (i : Nat) (u : Value), cs.flatten[i]? = some u → ∃ es, cs[i / m]? = some es ∧ es[i % m]? = some u
  | [], _, i, u, h => by simp at h
  | c :: cs, hl, i, u, h => by
    have hc : c.length = m := hl c (by simp)
    rw [List.flatten_cons] at h
    by_cases hi : i < m
    · rw [List.getElem?_append_left (by omega)] at h
      exact ⟨c, by rw [Nat.div_eq_of_lt hi]; rfl, by rw [Nat.mod_eq_of_lt hi]; exact h⟩
    · rw [List.getElem?_append_right (by omega), hc] at h
      obtain ⟨es, h1, h2⟩ := flatten_back m hm cs (fun es he => hl es (by simp [he])) (i - m) u h
      have e : i = (i - m) + m := by omega
      refine ⟨es, ?_, ?_⟩
      · rw [e, Nat.add_div_right _ hm]; simpa using h1
      · rw [e, Nat.add_mod_right]; simpa using h2
theorem run_app_blks (w : World) (A : Option Addr) (c B : Nat) (l : List Blk) (h : SlRep blkEnc w B (.slice A l.length c) l) (hl : 0 < l.length) (hn : l.length ≤ 1048576) :
    ∃ (ovs : List Value) (AA : Option Addr) (cc : Nat) (w' : World), (Builtin.append_ #[23, 23] 23 #[.slice none 0 0, .slice A l.length c]).run Try.prog w = .ok (.slice AA l.length cc) w' ∧
      Below w.heap.size w w' ∧ w'.ownsRow w.heap.size 40 5 (.slice AA l.length cc) l.length (blkRow ovs l) ∧ ovs.length = l.length ∧ ∀ (i : Nat) (ov : Value) (b : Blk), ovs[i]? = some ov → l[i]? = some b → SlRep opEnc w B ov b.ops := by
  obtain ⟨A', c', e, hc, hx⟩ := h
  injection e with e
  subst e
  obtain ⟨b0, off, es0, e0, hb0, _⟩ := hx 0 (l[0]'hl) (List.getElem?_eq_getElem hl)
  subst e0
  obtain ⟨ovs, hovs⟩ : ∃ ovs : List Value, ovs = (List.range l.length).map (fun k => (w.cell? ⟨b0, off + k * 5, none⟩).getD undef) := ⟨_, rfl⟩
  have hlen : ovs.length = l.length := by rw [hovs, List.length_map, List.length_range]
  have key : ∀ (k : Nat) (t : Blk), l[k]? = some t → ∃ ov, ovs[k]? = some ov ∧ SlRep opEnc w B ov t.ops ∧ ∀ (j : Nat) (u : Value), (blkCells ov t.term)[j]? = some u → w.cell? ⟨b0, off + k * 5 + j, none⟩ = some u := by
    intro k t hk
    obtain ⟨b1, off1, es, e1, _, ⟨ov, he, hs⟩, hcell⟩ := hx k t hk
    injection e1 with e1
    injection e1 with e1 e2
    subst e1 e2 he
    have hk2 := (List.getElem?_eq_some_iff.1 hk).1
    have h0 := hcell 0 ov rfl
    refine ⟨ov, ?_, hs, hcell⟩
    rw [hovs, List.getElem?_map, List.getElem?_range hk2]
    show some ((w.cell? ⟨b0, off + k * 5, none⟩).getD undef) = _
    have h0 : w.cell? ⟨b0, off + k * 5, none⟩ = some ov := h0
    rw [h0]; rfl
  have hrl : (blkRow ovs l).length = l.length * 5 := by
    unfold blkRow
    rw [List.length_flatten]
    have : ∀ (a : List Value) (b : List Blk), a.length = b.length → ((List.zipWith (fun ov (x : Blk) => blkCells ov x.term) a b).map List.length).sum = b.length * 5 := by
      intro a
      induction a with
      | nil => intro b hb; cases b with
        | nil => rfl
        | cons y b => cases hb
      | cons x a ih => intro b hb; cases b with
        | nil => cases hb
        | cons y b =>
          rw [List.zipWith_cons_cons, List.map_cons, List.sum_cons, ih b (by simpa using hb), List.length_cons]
          show 5 + _ = _
          omega
    exact this ovs l hlen
  have hcells : ∀ (j : Nat) (u : Value), (blkRow ovs l)[j]? = some u → w.cell? ((⟨b0, off, none⟩ : Addr).add j) = some u ∧ u.oneCell' = true := by
    intro j u hu
    obtain ⟨es, h1, h2⟩ := flatten_back 5 (by omega) _ (fun es he => by
      obtain ⟨i, hi, rfl⟩ := List.getElem_of_mem he
      rw [List.getElem_zipWith]; rfl) j u hu
    rw [List.getElem?_zipWith] at h1
    cases ho : ovs[j / 5]? with
    | none => rw [ho] at h1; simp at h1
    | some ov =>
      cases hk : l[j / 5]? with
      | none => rw [ho, hk] at h1; simp at h1
      | some t =>
        rw [ho, hk] at h1
        injection h1 with h1
        subst h1
        obtain ⟨ov2, g1, g2, g3⟩ := key (j / 5) t hk
        rw [ho] at g1
        injection g1 with g1
        subst g1
        refine ⟨?_, ?_⟩
        · rw [addr_add, show off + j = off + j / 5 * 5 + j % 5 by have := Nat.div_add_mod j 5; omega]
          exact g3 _ u h2
        · obtain ⟨oA, oc, e9, _⟩ := g2
          subst e9
          have hj : j % 5 < 5 := Nat.mod_lt _ (by omega)
          generalize j % 5 = r at *
          match r, hj, h2 with
          | 0, _, h2 => injection h2 with h2; subst h2; rfl
          | 1, _, h2 => injection h2 with h2; subst h2; rfl
          | 2, _, h2 => injection h2 with h2; subst h2; rfl
          | 3, _, h2 => injection h2 with h2; subst h2; rfl
          | 4, _, h2 => injection h2 with h2; subst h2; rfl
  obtain ⟨i0, hi, hz0, hz1, hz2⟩ := info_parts blk_info
  obtain ⟨v', w', a1, a2, a3, _, _⟩ := run_append_own_at (P := Try.prog) (w := w) w.heap.size 23 23 40 i0 _ 5 56 Try.underlying23 hi hz0 hz1 hz2 rfl (by omega) (.slice none 0 0) 0 [] (World.ownsRow_nil _ _ _ _) ⟨b0, off, none⟩ l.length c (blkRow ovs l) hrl (fun j u hu => (hcells j u hu).1) (fun u hu => by
    obtain ⟨j, hj, rfl⟩ := List.getElem_of_mem hu
    exact (hcells j _ (List.getElem?_eq_getElem hj)).2) (by unfold maxLen; omega) (by omega) (Nat.le_refl _)
  rw [Nat.zero_add, List.nil_append] at a2
  obtain ⟨AA, cc, rfl⟩ := ownN_len a2
  refine ⟨ovs, AA, cc, w', a1, (Below.refl _ _).grown a3 (Nat.le_refl _) (fun r hr => by cases hr), a2, hlen, fun i ov b h1 h2 => ?_⟩
  obtain ⟨ov2, g1, g2, _⟩ := key i b h2
  rw [h1] at g1
  injection g1 with g1
  subst g1
  exact g2
end Go.Proofs.Ythkobddggoojlaa
namespace Go.Proofs.Ythkobddggoojlaa
open Go.RowKit
set_option linter.unusedVariables false
/-- A cell stored as it was. -/
theorem setCell_same {w : World} {g i : Nat} {cs : Array Value} {t : TypeId} {v : Value} (h : w.heap[g]? = some (.cells cs t (0, 0))) (hv : cs[i]? = some v) : w.setCell ⟨g, i, none⟩ v = w := by
  have hcs : cs.setIfInBounds i v = cs := by
    apply Array.ext_getElem?
    intro j
    rw [Array.getElem?_setIfInBounds]
    split
    · rename_i e
      subst e
      rw [if_pos (Array.getElem?_eq_some_iff.1 hv).1, hv]
    · rfl
  have hh : (w.setCell ⟨g, i, none⟩ v).heap = w.heap := by
    apply Array.ext_getElem?
    intro j
    by_cases e : j = g
    · subst e
      rw [blk_set h i v, h, hcs]
    · exact Below.heap_setCell w ⟨g, i, none⟩ v j e
  have : w.setCell ⟨g, i, none⟩ v = { w with heap := (w.setCell ⟨g, i, none⟩ v).heap } := rfl
  rw [this, hh]
/-- Block k's end is stored anew. -/
theorem TmAt.putT {w : World} {G V : Nat} {bad : List Nat} {l : List Blk} {s : List Bool} {ovs : List Value} (h : TmAt w G V bad l s ovs) (hGV : G ≠ V) {k : Nat} (hk : k < l.length) (t : Trm) :
    ∃ w5, (((w.setCell ⟨G, k * 5 + 1, none⟩ (.int .i64 t.kind)).setCell ⟨G, k * 5 + 2, none⟩ (.int .i64 t.a)).setCell ⟨G, k * 5 + 3, none⟩ (.int .i64 t.yes)).setCell ⟨G, k * 5 + 4, none⟩ (.int .i64 t.no) = w5 ∧
      (∃ ovs', TmAt w5 G V bad (l.set k ⟨(l.getD k blkNone).ops, t⟩) s ovs') ∧ (∀ {B : Nat} {w0 : World}, B ≤ G → Below B w0 w → Below B w0 w5) ∧ w5.heap.size = w.heap.size ∧ (∀ g x, g ≠ G → w.heap[g]? = some x → w5.heap[g]? = some x) := by
  obtain ⟨OA, oc, hov, hops⟩ := h.ov k hk
  obtain ⟨cur, h1, _, h3⟩ := h.row
  have h0 := h3 k _ _ hov (getD_some l k blkNone hk) 0 _ rfl
  obtain ⟨w5, e, ht, hb, hs, hk5⟩ := h.put hGV hk ⟨(l.getD k blkNone).ops, t⟩ hops (h.ops k _ _ hov (getD_some l k blkNone hk)).2
  have hsame : w.setCell ⟨G, k * 5, none⟩ (.slice OA (l.getD k blkNone).ops.length oc) = w := setCell_same h1 h0
  simp only [hsame] at e
  exact ⟨w5, e, ⟨_, ht⟩, hb, hs, hk5⟩
/-- Of a row of n ends the first k are told. -/
def TrmAt (W : World) (Q n : Nat) (f : Nat → Trm) (k : Nat) : Prop := ∃ cur, W.heap[Q]? = some (.cells cur 38 (0, 0)) ∧ cur.size = n * 4 ∧ ∀ (i j : Nat) (u : Value), i < k → (trmCells (f i))[j]? = some u → cur[i * 4 + j]? = some u
theorem TrmAt.below {W W' : World} {Q n k : Nat} {f : Nat → Trm} (h : TrmAt W Q n f k) (hb : Below W.heap.size W W') : TrmAt W' Q n f k := by
  obtain ⟨cur, h1, h2⟩ := h
  exact ⟨cur, (hb.block _ (lt_of_blk h1)).trans h1, h2⟩
theorem TrmAt.cell {W : World} {Q n k : Nat} {f : Nat → Trm} (h : TrmAt W Q n f k) (i : Nat) (hi : i < k) : W.cell? ⟨Q, i * 4, none⟩ = some (.int .i64 (f i).kind) ∧ W.cell? ⟨Q, i * 4 + 1, none⟩ = some (.int .i64 (f i).a) ∧ W.cell? ⟨Q, i * 4 + 2, none⟩ = some (.int .i64 (f i).yes) ∧ W.cell? ⟨Q, i * 4 + 3, none⟩ = some (.int .i64 (f i).no) := by
  obtain ⟨cur, h1, h2, h3⟩ := h
  exact ⟨(cell_of_blk h1 _).1.trans (h3 i 0 _ hi rfl), (cell_of_blk h1 _).1.trans (h3 i 1 _ hi rfl), (cell_of_blk h1 _).1.trans (h3 i 2 _ hi rfl), (cell_of_blk h1 _).1.trans (h3 i 3 _ hi rfl)⟩
theorem TrmAt.live {W : World} {Q n k : Nat} {f : Nat → Trm} (h : TrmAt W Q n f k) (i j : Nat) (hi : i < n) (hj : j < 4) : (∃ u, W.cell? ⟨Q, i * 4 + j, none⟩ = some u) ∧ W.frozen? ⟨Q, i * 4 + j, none⟩ = false := by
  obtain ⟨cur, h1, h2, h3⟩ := h
  have hlt : i * 4 + j < cur.size := by omega
  exact ⟨⟨cur[i * 4 + j], (cell_of_blk h1 _).1.trans (Array.getElem?_eq_getElem hlt)⟩, (cell_of_blk h1 _).2⟩
theorem TrmAt.put {W : World} {Q n k : Nat} {f : Nat → Trm} (h : TrmAt W Q n f k) (hk : k < n) : TrmAt ((((W.setCell ⟨Q, k * 4, none⟩ (.int .i64 (f k).kind)).setCell ⟨Q, k * 4 + 1, none⟩ (.int .i64 (f k).a)).setCell ⟨Q, k * 4 + 2, none⟩ (.int .i64 (f k).yes)).setCell ⟨Q, k * 4 + 3, none⟩ (.int .i64 (f k).no)) Q n f (k + 1) := by
  obtain ⟨cur, h1, h2, h3⟩ := h
  refine ⟨_, blk_set (blk_set (blk_set (blk_set h1 (k * 4) (.int .i64 (f k).kind)) (k * 4 + 1) (.int .i64 (f k).a)) (k * 4 + 2) (.int .i64 (f k).yes)) (k * 4 + 3) (.int .i64 (f k).no), by simp only [Array.size_setIfInBounds]; exact h2, fun i j u hi hu => ?_⟩
  have hj : j < 4 := (List.getElem?_eq_some_iff.1 hu).1
  simp only [Array.getElem?_setIfInBounds, Array.size_setIfInBounds]
  by_cases e : i = k
  · subst e
    match j, hj, hu with
    | 0, _, hu => rw [if_neg (by omega), if_neg (by omega), if_neg (by omega), if_pos (by omega), if_pos (by omega)]; exact hu
    | 1, _, hu => rw [if_neg (by omega), if_neg (by omega), if_pos rfl, if_pos (by omega)]; exact hu
    | 2, _, hu => rw [if_neg (by omega), if_pos rfl, if_pos (by omega)]; exact hu
    | 3, _, hu => rw [if_pos rfl, if_pos (by omega)]; exact hu
  · rw [if_neg (by omega), if_neg (by omega), if_neg (by omega), if_neg (by omega)]
    exact h3 i j u (by omega) hu
/-- No operations lie in a block of fewer than six cells. -/
theorem ops_not5 {w : World} {B : Nat} {v : Value} {ops : List Opn} (h : SlRep opEnc w B v ops) {q : Nat} {cs : Array Value} {t : TypeId} (hq : w.heap[q]? = some (.cells cs t (0, 0))) (hs : cs.size ≤ 5) (a : Addr) (m c : Nat) (hv : v = .slice (some a) m c) (hne : ops ≠ []) : a.block ≠ q := by
  obtain ⟨A, c1, e, _, hx⟩ := h
  obtain ⟨x, hx0⟩ : ∃ x, ops[0]? = some x := by
    cases ops with
    | nil => exact absurd rfl hne
    | cons x xs => exact ⟨x, rfl⟩
  obtain ⟨b, off, es, e1, hb, hr, hcell⟩ := hx 0 x hx0
  have hes : es = opCells x := hr
  have h5 := hcell 5 (.int .i64 x.imm) (by rw [hes]; rfl)
  rw [e1] at e
  rw [e] at hv
  have hab : (⟨b, off, none⟩ : Addr) = a := by injection hv with h1; injection h1
  rw [← hab]
  intro e9
  have e9 : b = q := e9
  subst e9
  rw [(cell_of_blk hq _).1, Array.getElem?_eq_none (by omega)] at h5
  cases h5
/-- A store into a block of fewer than six cells leaves the blocks as they were. -/
theorem RoAt.setFive {w : World} {B C : Nat} {v : Value} {bs : List Blk} {ovs : List Value} (h : RoAt w B C [] v bs ovs) (q : Addr) (u : Value) (hv : v.ownBlock ≠ some q.block) {cs : Array Value} {t : TypeId} (hq : w.heap[q.block]? = some (.cells cs t (0, 0))) (hs : cs.size ≤ 5) : RoAt (w.setCell q u) B C [] v bs ovs := by
  refine ⟨h.len, h.row.kept (grown_setCell w q u) ?_, fun i ov b h1 h2 => ⟨?_, (h.ops i ov b h1 h2).2⟩⟩
  · cases hw : v.ownBlock with
    | none => exact Or.inl rfl
    | some r => exact Or.inr (fun e => hv (hw.trans e))
  · have a := (h.ops i ov b h1 h2).1
    exact SlRep.far a q u (fun x m c e hne => ops_not5 a hq hs x m c e hne)
theorem trm_info : (Try.prog.info? 38).map (fun i => (i.zero, i.size, i.bytes)) = some (some (.agg #[.int .i64 0, .int .i64 0, .int .i64 0, .int .i64 0]), 4, 32) := by kernel_rfl
theorem run_make_trms (n : Nat) (hn : n ≤ 2000000) (f : Nat → Trm) (W : World) : ∃ cur, (Instr.makeSlice 50 (.int .i64 (n : Int)) (.int .i64 (n : Int))).run Try.prog W = .ok (.slice (some ⟨W.heap.size, 0, none⟩) n n) (W.alloc (.cells cur 38)) ∧ TrmAt (W.alloc (.cells cur 38)) W.heap.size n f 0 := by
  obtain ⟨i0, hi, hz0, hz1, hz2⟩ := info_parts trm_info
  have h := run_make (P := Try.prog) W 50 38 i0 _ Try.underlying50 hi hz0 .i64 .i64 (n : Int) (n : Int) (by omega) (by omega) (by rw [hz2]; omega) (by omega)
  rw [hz1] at h
  simp only [Int.toNat_natCast] at h
  exact ⟨_, h, _, heap_alloc_new W _, size_madeCells _ _, fun i j u hi => absurd hi (Nat.not_lt_zero i)⟩
end Go.Proofs.Ythkobddggoojlaa
namespace Go.Proofs.Ythkobddggoojlaa
open Go.RowKit
set_option linter.unusedVariables false
/-- The tidier's own block. -/
def TiBox (w : World) (T G V cap n : Nat) : Prop := w.heap[T]? = some (.cells #[.slice (some ⟨G, 0, none⟩) n cap, .slice (some ⟨V, 0, none⟩) n n] 49 (0, 0))
theorem TiBox.below {w w' : World} {T G V cap n : Nat} (h : TiBox w T G V cap n) (hb : Below w.heap.size w w') : TiBox w' T G V cap n := (hb.block _ (lt_of_blk h)).trans h
theorem TiBox.cells {w : World} {T G V cap n : Nat} (h : TiBox w T G V cap n) : w.cell? ⟨T, 0, none⟩ = some (.slice (some ⟨G, 0, none⟩) n cap) ∧ w.cell? ⟨T, 1, none⟩ = some (.slice (some ⟨V, 0, none⟩) n n) := ⟨(cell_of_blk h 0).1, (cell_of_blk h 1).1⟩
def blkVal (OA : Option Addr) (oc : Nat) (b : Blk) : Value := .agg #[.slice OA b.ops.length oc, .int .i64 b.term.kind, .int .i64 b.term.a, .int .i64 b.term.yes, .int .i64 b.term.no]
theorem tidy_detour (OA : Option Addr) (oc : Nat) (b : Blk) (w : World) : Calls Try.prog 32 #[blkVal OA oc b] w fun e w' => e = .returned (.bool (tdDet b)) ∧ Below w.heap.size w w' := by
  unfold blkVal
  have HX := Lib.hid (heap_alloc_new w (.cells #[.slice OA b.ops.length oc, .int .i64 b.term.kind, .int .i64 b.term.a, .int .i64 b.term.yes, .int .i64 b.term.no] 40))
  have HB := Lib.hid (bnew w (.cells #[.slice OA b.ops.length oc, .int .i64 b.term.kind, .int .i64 b.term.a, .int .i64 b.term.yes, .int .i64 b.term.no] 40))
  have HD : Hid (tdDet b = (b.ops.isEmpty && decide (b.term.kind = 1))) := Lib.hid rfl
  generalize hPO : (fun (e : Ending) (w' : World) => e = .returned (.bool (tdDet b)) ∧ Below w.heap.size w w') = PO
  have HPO := Lib.hid hPO
  clear hPO
  obtain ⟨ops, trm⟩ := b
  obtain ⟨tk, ta, ty, tn⟩ := trm
  simp only at HX HB HD
  go_enter Try.func32, Try.ntmps32
  go_upto_region 1 with (fail)
  generalize w.alloc (.cells #[.slice OA ops.length oc, .int .i64 tk, .int .i64 ta, .int .i64 ty, .int .i64 tn] 40) = w1 at *
  obtain ⟨c0, c1, c2, c3, c4, f3, f4⟩ := blk_cells_at HX.out
  cases ops with
  | cons o ops =>
    have hq2 : (((o :: ops).length : Int) == 0) = false := by rw [beq_eq_false_iff_ne]; simp; omega
    have hq : ((ops.length : Int) + 1 == 0) = false := by rw [beq_eq_false_iff_ne]; omega
    go_wp2_with fail
    rw [← HPO.out]
    exact ⟨by rw [HD.out]; rfl, HB.out⟩
  | nil =>
    by_cases hk : tk = 1
    · subst hk
      go_wp2_with fail
      rw [← HPO.out]
      exact ⟨by rw [HD.out]; rfl, HB.out⟩
    · have q : (tk == 1) = false := by rw [beq_eq_false_iff_ne]; exact hk
      have HD2 : Hid (tdDet ⟨[], tk, ta, ty, tn⟩ = false) := Lib.hid (by rw [HD.out, decide_eq_false hk]; rfl)
      clear hk
      go_wp2_with fail
      rw [← HPO.out]
      exact ⟨by rw [HD2.out]; rfl, HB.out⟩
set_option maxRecDepth 100000 in
set_option maxHeartbeats 1000000 in
theorem tidy_leads (l : List Blk) (hl : TdOk l) (hn : l.length ≤ 1048576) (T G V cap : Nat) (bad : List Nat) (s : List Bool) (ovs : List Value) (k : Int) (hk : tdLab l.length k) (w : World) (hT : TiBox w T G V cap l.length) (h : TmAt w G V bad l s ovs) :
    Calls Try.prog 15 #[.pointer (some ⟨T, 0, none⟩), .int .i64 k] w fun e w' => e = .returned (.int .i64 (tdLeads l k)) ∧ Below w.heap.size w w' := by
  have HM := Lib.hid h
  have HT := Lib.hid hT
  have HPL := Lib.hid (tdPath_lab hl hk)
  have HDE := Lib.hid (fun OA oc b W => tidy_detour OA oc b W)
  have HSS : Hid (∀ j, j ≤ l.length → tdStop l (tdPath l j k) = true → tdLeads l k = tdPath l j k) := Lib.hid (fun j hj h => tdLeads_stop hj h)
  have HNO : Hid (tdStop l (tdPath l l.length k) = false → tdLeads l k = k) := Lib.hid (fun h => by unfold tdLeads; rw [h]; rfl)
  have HPS : Hid (∀ j, tdStop l (tdPath l j k) = false → tdPath l (j + 1) k = tdNext l (tdPath l j k)) := Lib.hid (fun j hj => by rw [tdPath_succ, tdStep_go hj])
  generalize hPO : (fun (e : Ending) (w' : World) => e = .returned (.int .i64 (tdLeads l k)) ∧ Below w.heap.size w w') = PO
  have HPO := Lib.hid hPO
  unfold blkVal at HDE
  clear h hT hl hk hPO
  have t0 := HT.out.cells.1
  go_enter Try.func15, Try.ntmps15
  go_wp2_with fail
  clear t0
  go_loopw [5, 12] (fun vk vi wr => ∃ i : Nat, i ≤ l.length ∧ vk = .int .i64 (tdPath l i k) ∧ vi = .int .i64 i ∧ Below w.heap.size w wr) (fun _ vi _ => l.length - (intOf vi).toNat)
  case atStart => exact ⟨0, Nat.zero_le _, rfl, rfl, Below.refl _ _⟩
  case round =>
    obtain ⟨i, hi, rfl, rfl, hb⟩ := hrel
    have HB := Lib.hid hb
    have HTw := Lib.hid (HT.out.below hb)
    have HMw := Lib.hid (HM.out.below hb)
    have t0 := HTw.out.cells.1
    have hlab := HPL.out i
    have HSI := Lib.hid (HSS.out i hi)
    have HNX := Lib.hid (HPS.out i)
    clear hb
    by_cases hil : i < l.length
    · have HIL := Lib.hid hil
      generalize tdPath l i k = x at *
      obtain ⟨x0, x1⟩ := hlab
      by_cases hm : x = -1
      · subst hm
        have e := HSI.out rfl
        have HE := Lib.hid e
        clear e
        go_wp2_with fail
        rw [← HPO.out]
        exact ⟨by rw [HE.out]; rfl, HB.out⟩
      · obtain ⟨m, rfl⟩ : ∃ m : Nat, x = (m : Int) := ⟨x.toNat, by omega⟩
        have hml : m < l.length := by omega
        have m0 : (0 : Int) ≤ (m : Int) := by omega
        have m1 : (m : Int) < (l.length : Int) := by omega
        have qm : ((m : Int) == -1) = false := by rw [beq_eq_false_iff_ne]; exact hm
        have hst : tdStop l (m : Int) = !tdDet (l.getD m blkNone) := by unfold tdStop; rw [decide_eq_false hm]; rfl
        have hnx : tdNext l (m : Int) = (l.getD m blkNone).term.yes := rfl
        obtain ⟨OA, oc, hov, hops, y0, y1, y2, y3, y4, _⟩ := HMw.out.cells m hml
        rw [hst] at HSI HNX
        rw [hnx] at HNX
        have HDB := Lib.hid (fun OA oc W => HDE.out OA oc (l.getD m blkNone) W)
        generalize hbk : l.getD m blkNone = bk at *
        have HBK := Lib.hid hbk
        obtain ⟨ops, trm⟩ := bk
        obtain ⟨tk, ta, ty, tn⟩ := trm
        simp only at y0 y1 y2 y3 y4 HDB HNX
        clear hst hnx hov hops hm x0 hbk
        go_wp2_with fail
        refine (HDB.out OA oc _).mono ?_
        rintro e w2 ⟨rfl, hb2⟩
        have hs := HB.out.size
        have HB2 := Lib.hid (HB.out.trans (hb2.mono hs))
        have HT2 := Lib.hid (HTw.out.below hb2)
        have HM2 := Lib.hid (HMw.out.below hb2)
        clear hb2 hs y0 y1 y2 y3 y4 t0
        cases hd : tdDet ⟨ops, tk, ta, ty, tn⟩ with
        | false =>
          have HE := Lib.hid (HSI.out (by rw [hd]; rfl))
          clear hd
          go_wp2_with fail
          rw [← HPO.out]
          exact ⟨by rw [HE.out]; rfl, HB2.out⟩
        | true =>
          have HE := Lib.hid (HNX.out (by rw [hd]; rfl))
          have t0 := HT2.out.cells.1
          obtain ⟨OA2, oc2, _, _, _, _, _, y3, _, _⟩ := HM2.out.cells m hml
          rw [HBK.out] at y3
          simp only at y3
          clear hd
          go_wp2_with fail
          go_roundw
          case rel => exact ⟨i + 1, HIL.out, by rw [HE.out], by go_num, HB2.out⟩
          case measure => simp [intOf]; omega
    · obtain rfl : i = l.length := by omega
      have HIL := HNO
      generalize tdPath l l.length k = x at *
      obtain ⟨x0, x1⟩ := hlab
      by_cases hm : x = -1
      · subst hm
        have HE := Lib.hid (HSI.out rfl)
        go_wp2_with fail
        rw [← HPO.out]
        exact ⟨by rw [HE.out]; rfl, HB.out⟩
      · obtain ⟨m, rfl⟩ : ∃ m : Nat, x = (m : Int) := ⟨x.toNat, by omega⟩
        have hml : m < l.length := by omega
        have m0 : (0 : Int) ≤ (m : Int) := by omega
        have m1 : (m : Int) < (l.length : Int) := by omega
        have qm : ((m : Int) == -1) = false := by rw [beq_eq_false_iff_ne]; exact hm
        have hst : tdStop l (m : Int) = !tdDet (l.getD m blkNone) := by unfold tdStop; rw [decide_eq_false hm]; rfl
        obtain ⟨OA, oc, hov, hops, y0, y1, y2, y3, y4, _⟩ := HMw.out.cells m hml
        rw [hst] at HSI HIL
        have HDB := Lib.hid (fun OA oc W => HDE.out OA oc (l.getD m blkNone) W)
        generalize hbk : l.getD m blkNone = bk at *
        obtain ⟨ops, trm⟩ := bk
        obtain ⟨tk, ta, ty, tn⟩ := trm
        simp only at y0 y1 y2 y3 y4 HDB
        clear hst hov hops hm x0 hbk
        go_wp2_with fail
        refine (HDB.out OA oc _).mono ?_
        rintro e w2 ⟨rfl, hb2⟩
        have hs := HB.out.size
        have HB2 := Lib.hid (HB.out.trans (hb2.mono hs))
        clear hb2 hs y0 y1 y2 y3 y4 t0
        cases hd : tdDet ⟨ops, tk, ta, ty, tn⟩ with
        | false =>
          have HE := Lib.hid (HSI.out (by rw [hd]; rfl))
          clear hd
          go_wp2_with fail
          rw [← HPO.out]
          exact ⟨by rw [HE.out]; rfl, HB2.out⟩
        | true =>
          have HE := Lib.hid (HIL.out (by rw [hd]; rfl))
          clear hd
          go_wp2_with fail
          rw [← HPO.out]
          exact ⟨by rw [HE.out]; rfl, HB2.out⟩
end Go.Proofs.Ythkobddggoojlaa
namespace Go.Proofs.Ythkobddggoojlaa
open Go.RowKit
set_option linter.unusedVariables false
theorem int_pushT {w0 w : World} {H B : Nat} {v : Value} {n : Nat} {ys : List Value} (hO : w.ownsRow B 3 1 v n ys) (hB : Below H w0 w) (hH : H ≤ B) (hn : n ≤ 2000000) (hb : B ≤ w.heap.size) (hs : H ≤ w.heap.size) (y : Int) :
    ∃ v' w', (Builtin.append_ #[72, 72] 72 #[v, .slice (some ⟨w.heap.size, 0, none⟩) 1 1]).run Try.prog (w.alloc (.cells #[.int .i64 y] 3)) = .ok v' w' ∧
      w'.ownsRow B 3 1 v' (n + 1) (ys ++ [.int .i64 y]) ∧ Below H w0 w' ∧ (∀ g x, g < B → w.heap[g]? = some x → w'.heap[g]? = some x) ∧ B ≤ w'.heap.size := by
  obtain ⟨v', w', h1, h2, h3⟩ := run_append_int w B v n ys hO y hn hb
  have hlt := fun b e => (hO.lt b e).1
  refine ⟨v', w', h1, h2, (hB.alloc hs _).grown h3 (by simp; omega) (fun b e => by have := hlt b e; omega), fun g x hg hx => ?_, by have := h3.size; simp at this; omega⟩
  exact (h3.block g (by simp; omega) (fun e => by have := hlt g e.symm; omega)).trans (((bnew w _).block g (by omega)).trans hx)
/-- The names that have come, in the cell that is captured. -/
def TgSt (H B L : Nat) (w0 w : World) (ys : List Int) : Prop := (∃ v, w.heap[L]? = some (.cells #[v] 72 (0, 0)) ∧ w.ownsRow B 3 1 v ys.length (ys.map (.int .i64 ·))) ∧ Below H w0 w ∧ H ≤ L ∧ L < B ∧ B ≤ w.heap.size
theorem TgSt.drew {H B L : Nat} {w0 w : World} {ys : List Int} (h : TgSt H B L w0 w ys) : TgSt H B L w0 w.drew ys := ⟨h.1, bdr h.2.1, h.2.2.1, h.2.2.2.1, h.2.2.2.2⟩
theorem TgSt.far {H B L : Nat} {w0 w : World} {ys : List Int} (h : TgSt H B L w0 w ys) (q : Addr) (u : Value) (h1 : q.block < B) (h2 : q.block ≠ L) (h3 : H ≤ q.block) : TgSt H B L w0 (w.setCell q u) ys := by
  obtain ⟨⟨v, h4, h5⟩, h6, h7, h8, h9⟩ := h
  exact ⟨⟨v, blk_far h4 q u h2, own_setCell h5 q u h1⟩, h6.setCell h3 _, h7, h8, by simpa [World.setCell] using h9⟩
set_option maxRecDepth 100000 in
set_option maxHeartbeats 1000000 in
theorem tidy_target (k : Int) {H B L : Nat} {w0 w : World} {ys : List Int} (hn : ys.length ≤ 2) (h : TgSt H B L w0 w ys) :
    Calls Try.prog 52 #[.int .i64 k, .pointer (some ⟨L, 0, none⟩)] w fun e w' => e = .returned (.int .i64 k) ∧ TgSt H B L w0 w' (ys ++ tdOne k) ∧ (∀ g x, g < B → g ≠ L → w.heap[g]? = some x → w'.heap[g]? = some x) := by
  obtain ⟨⟨v, h4, h5⟩, h6, h7, h8, h9⟩ := h
  generalize hPO : (fun (e : Ending) (w' : World) => e = .returned (.int .i64 k) ∧ TgSt H B L w0 w' (ys ++ tdOne k) ∧ (∀ g x, g < B → g ≠ L → w.heap[g]? = some x → w'.heap[g]? = some x)) = PO
  have HPO := Lib.hid hPO
  have H9 := Lib.hid h9
  by_cases hm : k = -1
  · subst hm
    have HT : Hid (TgSt H B L w0 w (ys ++ tdOne (-1))) := Lib.hid (by unfold tdOne; rw [if_pos rfl, List.append_nil]; exact ⟨⟨v, h4, h5⟩, h6, h7, h8, h9⟩)
    clear hPO h4 h5 h6 h7 h8 h9
    go_enter Try.func52, Try.ntmps52
    go_wp2_with fail
    rw [← HPO.out]
    exact ⟨rfl, HT.out, fun g x _ _ h => h⟩
  · have q : (k != -1) = true := by rw [bne_iff_ne]; exact hm
    obtain ⟨v', w', hrun, p1, p2, p3, p4⟩ := int_pushT h5 h6 (by omega) (by omega) h9 (by omega) k
    obtain ⟨g3, c3, rfl⟩ := own_form p1
    generalize hlen : ys.length + 1 = len at *
    generalize hv' : Value.slice (some ⟨g3, 0, none⟩) len c3 = v' at *
    have HRUN := Lib.hid hrun
    have HT : Hid (TgSt H B L w0 (w'.setCell ⟨L, 0, none⟩ v') (ys ++ tdOne k)) := Lib.hid (by
      refine ⟨⟨v', by have := blk_set (p3 L _ h8 h4) 0 v'; exact this, ?_⟩, p2.setCell h7 _, h7, h8, by simpa [World.setCell] using p4⟩
      unfold tdOne
      rw [if_neg hm, List.map_append, List.length_append]
      show (w'.setCell ⟨L, 0, none⟩ v').ownsRow B 3 1 v' (ys.length + 1) _
      rw [hlen]
      exact own_setCell p1 _ _ h8)
    have HF : Hid (∀ g x, g < B → g ≠ L → w.heap[g]? = some x → (w'.setCell ⟨L, 0, none⟩ v').heap[g]? = some x) := Lib.hid (fun g x h1 h2 h3 => blk_far (p3 g x h1 h3) _ _ (fun e => h2 e.symm))
    obtain ⟨q0, f0⟩ := cell_of_blk h4 0
    obtain ⟨r0, g0⟩ := cell_of_blk (p3 L _ h8 h4) 0
    clear hPO h4 h5 h6 h7 h8 h9 p1 p2 p3 p4 hm H9 hrun hlen
    subst hv'
    go_enter Try.func52, Try.ntmps52
    go_wp2_with ((at_builtin; refine wpList_app rfl (.tmp 6) (.tmp 8) 72 rfl HRUN.out rfl rfl ?_))
    rw [← HPO.out]
    exact ⟨rfl, HT.out, HF.out⟩
set_option maxRecDepth 100000 in
set_option maxHeartbeats 1000000 in
theorem tidy_named_targets (n : Nat) (t : Trm) (ht : tdOkT n t) (L H0 : Nat) (w0 w : World) (hL : w.heap[L]? = some (.cells #[.slice none 0 0] 72 (0, 0))) (hH : H0 ≤ L) (hB0 : Below H0 w0 w) :
    Calls Try.prog 14 #[trmVal t, .func (.func 52) #[] #[.pointer (some ⟨L, 0, none⟩)]] w fun e w' => (∃ v, e = .returned v) ∧ TgSt H0 (w.heap.size + 2) L w0 w' (tdTg t) := by
  unfold trmVal
  have hLs := lt_of_blk hL
  have HNL : Hid (w.heap.size ≠ L) := Lib.hid (by omega)
  have HNL1 : Hid (w.heap.size + 1 ≠ L) := Lib.hid (by omega)
  have HHH : Hid (H0 ≤ w.heap.size) := Lib.hid (by omega)
  have HHH1 : Hid (H0 ≤ w.heap.size + 1) := Lib.hid (by omega)
  have HX0 := Lib.hid (heap_alloc_new w (.cells #[.int .i64 t.kind, .int .i64 t.a, .int .i64 t.yes, .int .i64 t.no] 38))
  have hb0 := bnew w (.cells #[.int .i64 t.kind, .int .i64 t.a, .int .i64 t.yes, .int .i64 t.no] 38)
  have hb1 := bnew (w.alloc (.cells #[.int .i64 t.kind, .int .i64 t.a, .int .i64 t.yes, .int .i64 t.no] 38)) (.cells #[.int .i64 0, .int .i64 0, .int .i64 0, .int .i64 0] 38)
  have HR1 := Lib.hid (heap_alloc_new (w.alloc (.cells #[.int .i64 t.kind, .int .i64 t.a, .int .i64 t.yes, .int .i64 t.no] 38)) (.cells #[.int .i64 0, .int .i64 0, .int .i64 0, .int .i64 0] 38))
  have HX1 := Lib.hid ((hb1.block _ (lt_of_blk HX0.out)).trans HX0.out)
  have HS1 : Hid (TgSt H0 (w.heap.size + 2) L w0 ((w.alloc (.cells #[.int .i64 t.kind, .int .i64 t.a, .int .i64 t.yes, .int .i64 t.no] 38)).alloc (.cells #[.int .i64 0, .int .i64 0, .int .i64 0, .int .i64 0] 38)) []) := Lib.hid ⟨⟨_, ((bch hb0 hb1).block _ hLs).trans hL, World.ownsRow_nil _ _ _ _⟩, (hB0.alloc (by omega) _).alloc (by simp; omega) _, hH, by omega, by simp⟩
  rw [World.size_alloc] at HR1
  generalize hPO : (fun (e : Ending) (w' : World) => (∃ v, e = .returned v) ∧ TgSt H0 (w.heap.size + 2) L w0 w' (tdTg t)) = PO
  have HPO := Lib.hid hPO
  obtain ⟨tk, ta, ty, tn⟩ := t
  simp only at HX1 HR1 HS1
  unfold tdOkT at ht
  simp only at ht
  clear hPO hb1 HX0 hb0 hL hB0 hH hLs
  go_enter Try.func14, Try.ntmps14
  go_upto_region 1 with (fail)
  generalize (w.alloc (.cells #[.int .i64 tk, .int .i64 ta, .int .i64 ty, .int .i64 tn] 38)).alloc (.cells #[.int .i64 0, .int .i64 0, .int .i64 0, .int .i64 0] 38) = w1 at *
  obtain ⟨q0, f0⟩ := cell_of_blk HX1.out 0
  obtain ⟨q2, f2⟩ := cell_of_blk HX1.out 2
  rcases ht with ⟨rfl, hy⟩ | ⟨rfl, hy, hn2⟩ | rfl
  · have HE : Hid (tdTg ⟨1, ta, ty, tn⟩ = [] ++ tdOne ty) := Lib.hid (by simp [tdTg])
    clear hy
    go_wp2_with fail
    refine (tidy_target ty (ys := []) (Nat.zero_le _) HS1.out).mono ?_
    rintro e w2 ⟨rfl, hs2, hf2⟩
    have HS2 := Lib.hid hs2
    have HX2 := Lib.hid (hf2 w.heap.size _ (by omega) HNL.out HX1.out)
    have HR2 := Lib.hid (hf2 (w.heap.size + 1) _ (by omega) HNL1.out HR1.out)
    clear hs2 hf2
    have HX4 := Lib.hid (blk_set HX2.out 2 (.int .i64 ty))
    have HR4 := Lib.hid (blk_far HR2.out ⟨w.heap.size, 2, none⟩ (.int .i64 ty) (by show w.heap.size ≠ w.heap.size + 1; omega))
    have HS4 := Lib.hid (HS2.out.far ⟨w.heap.size, 2, none⟩ (.int .i64 ty) (by show w.heap.size < w.heap.size + 2; omega) HNL.out HHH.out)
    clear q0 q2 f0 f2
    obtain ⟨q2, f2⟩ := cell_of_blk HX2.out 2
    go_upto_region 6 with (fail)
    clear q2 f2
    generalize w2.setCell ⟨w.heap.size, 2, none⟩ (.int .i64 ty) = w4 at *
    obtain ⟨z0, z1, z2, z3, zf⟩ : w4.cell? ⟨w.heap.size, 0, none⟩ = some (.int .i64 1) ∧ w4.cell? ⟨w.heap.size, 1, none⟩ = some (.int .i64 ta) ∧ w4.cell? ⟨w.heap.size, 2, none⟩ = some (.int .i64 ty) ∧ w4.cell? ⟨w.heap.size, 3, none⟩ = some (.int .i64 tn) ∧ True := ⟨(cell_of_blk HX4.out 0).1, (cell_of_blk HX4.out 1).1, (cell_of_blk HX4.out 2).1, (cell_of_blk HX4.out 3).1, trivial⟩
    obtain ⟨q0, f0⟩ := cell_of_blk HR4.out 0
    obtain ⟨q1, f1⟩ := cell_of_blk HR4.out 1
    obtain ⟨q2, f2⟩ := cell_of_blk HR4.out 2
    obtain ⟨q3, f3⟩ := cell_of_blk HR4.out 3
    go_wp2_with fail
    clear z0 z1 z2 z3 q0 q1 q2 q3 f0 f1 f2 f3
    have HR7 := Lib.hid (blk_set (blk_set (blk_set (blk_set HR4.out 0 (.int .i64 1)) 1 (.int .i64 ta)) 2 (.int .i64 ty)) 3 (.int .i64 tn))
    have HS7 := Lib.hid ((((HS4.out.far ⟨w.heap.size + 1, 0, none⟩ (.int .i64 1) (Nat.lt_succ_self _) HNL1.out HHH1.out).far ⟨w.heap.size + 1, 1, none⟩ (.int .i64 ta) (Nat.lt_succ_self _) HNL1.out HHH1.out).far ⟨w.heap.size + 1, 2, none⟩ (.int .i64 ty) (Nat.lt_succ_self _) HNL1.out HHH1.out).far ⟨w.heap.size + 1, 3, none⟩ (.int .i64 tn) (Nat.lt_succ_self _) HNL1.out HHH1.out)
    generalize (((w4.setCell ⟨w.heap.size + 1, 0, none⟩ (.int .i64 1)).setCell ⟨w.heap.size + 1, 1, none⟩ (.int .i64 ta)).setCell ⟨w.heap.size + 1, 2, none⟩ (.int .i64 ty)).setCell ⟨w.heap.size + 1, 3, none⟩ (.int .i64 tn) = w9 at *
    have k0 : w9.cell? ⟨w.heap.size + 1, 0, none⟩ = some (.int .i64 1) := (cell_of_blk HR7.out 0).1
    have k1 : w9.cell? ⟨w.heap.size + 1, 1, none⟩ = some (.int .i64 ta) := (cell_of_blk HR7.out 1).1
    have k2 : w9.cell? ⟨w.heap.size + 1, 2, none⟩ = some (.int .i64 ty) := (cell_of_blk HR7.out 2).1
    have k3 : w9.cell? ⟨w.heap.size + 1, 3, none⟩ = some (.int .i64 tn) := (cell_of_blk HR7.out 3).1
    refine bodyPost_ret (v := .agg #[.int .i64 1, .int .i64 ta, .int .i64 ty, .int .i64 tn]) (by simp [results, Try.results14, go_sem, k0, k1, k2, k3]; try rfl) rfl ?_
    rw [← HPO.out]
    exact ⟨⟨_, rfl⟩, by rw [HE.out]; exact HS7.out⟩
  · have HE : Hid (tdTg ⟨2, ta, ty, tn⟩ = [] ++ tdOne ty ++ tdOne tn) := Lib.hid (by simp [tdTg])
    clear hy hn2
    go_upto_region 5 with (fail)
    have HX1d : Hid (w1.drew.heap[w.heap.size]? = some (.cells #[.int .i64 2, .int .i64 ta, .int .i64 ty, .int .i64 tn] 38 (0, 0))) := Lib.hid HX1.out
    have HR1d : Hid (w1.drew.heap[w.heap.size + 1]? = some (.cells #[.int .i64 0, .int .i64 0, .int .i64 0, .int .i64 0] 38 (0, 0))) := Lib.hid HR1.out
    have HS1d := Lib.hid HS1.out.drew
    have hS0 : w1.drew.cell? ⟨w.heap.size, 3, none⟩ = some (.int .i64 tn) := (cell_of_blk HX1d.out 3).1
    replace q2 : w1.drew.cell? ⟨w.heap.size, 2, none⟩ = some (.int .i64 ty) := q2
    refine wp_region_L (fun w' => w'.cell? ⟨w.heap.size, 3, none⟩ = some (.int .i64 tn)) 11 (by kernel_rfl) ?_
    refine wpAnyL_take (i := 0) (some 16) (.func (.func 52) #[] #[.pointer (some ⟨L, 0, none⟩)]) rfl rfl (by kernel_rfl) (by kernel_rfl) (by kernel_rfl) (by kernel_rfl) (fun _ _ _ h => h) (by rfl) ?hv0 hS0 ?rest0
    case hv0 =>
      intro wz hSz
      go_simp
    try simp only [Act.put, List.setIfInBounds_toArray, List.set_cons_zero, List.set_cons_succ]
    refine wpAnyL_take (i := 1) (some 17) (.pointer (some ⟨w.heap.size, 2, none⟩)) rfl rfl (by kernel_rfl) (by kernel_rfl) (by kernel_rfl) (by kernel_rfl) (fun _ _ _ h => h) (by rfl) ?hv1 hS0 ?rest1
    case hv1 =>
      intro wz hSz
      go_simp
    try simp only [Act.put, List.setIfInBounds_toArray, List.set_cons_zero, List.set_cons_succ]
    refine wpAnyL_take (i := 4) (some 20) (.func (.func 52) #[] #[.pointer (some ⟨L, 0, none⟩)]) rfl rfl (by kernel_rfl) (by kernel_rfl) (by kernel_rfl) (by kernel_rfl) (fun _ _ _ h => h) (by rfl) ?hv4 hS0 ?rest4
    case hv4 =>
      intro wz hSz
      go_simp
    try simp only [Act.put, List.setIfInBounds_toArray, List.set_cons_zero, List.set_cons_succ]
    refine wpAnyL_take (i := 5) (some 21) (.pointer (some ⟨w.heap.size, 3, none⟩)) rfl rfl (by kernel_rfl) (by kernel_rfl) (by kernel_rfl) (by kernel_rfl) (fun _ _ _ h => h) (by rfl) ?hv5 hS0 ?rest5
    case hv5 =>
      intro wz hSz
      go_simp
    try simp only [Act.put, List.setIfInBounds_toArray, List.set_cons_zero, List.set_cons_succ]
    refine wpAnyL_take (i := 6) (some 22) (.int .i64 tn) rfl rfl (by kernel_rfl) (by kernel_rfl) (by kernel_rfl) (by kernel_rfl) (fun _ _ _ h => h) (by rfl) ?hv6 hS0 ?rest6
    case hv6 =>
      intro wz hSz
      go_simp
    try simp only [Act.put, List.setIfInBounds_toArray, List.set_cons_zero, List.set_cons_succ]
    refine wpAnyL_one (i := 2) (by kernel_rfl) rfl ?_
    intro K hK
    rw [if_pos (by rfl)]
    go_simp
    refine hK.out _ _ (fun _ => hS0) ?_
    clear hK
    try simp only [Act.put, List.setIfInBounds_toArray, List.set_cons_zero, List.set_cons_succ]
    refine wpAnyL_one (i := 3) (by kernel_rfl) rfl ?_
    intro K hK
    rw [if_pos (by rfl)]
    go_simp
    refine (tidy_target ty (ys := []) (Nat.zero_le _) HS1d.out).mono ?_
    rintro e w2 ⟨rfl, hs2, hf2⟩
    have HS2 := Lib.hid hs2
    have HX2 := Lib.hid (hf2 w.heap.size _ (by omega) HNL.out HX1d.out)
    have HR2 := Lib.hid (hf2 (w.heap.size + 1) _ (by omega) HNL1.out HR1d.out)
    clear hs2 hf2
    have hS2 := (cell_of_blk HX2.out 3).1
    refine hK.out _ _ (fun _ => hS2) ?_
    clear hK
    try simp only [Act.put, List.setIfInBounds_toArray, List.set_cons_zero, List.set_cons_succ]
    refine wpAnyL_take (i := 8) (some 24) (.pointer (some ⟨w.heap.size, 2, none⟩)) rfl rfl (by kernel_rfl) (by kernel_rfl) (by kernel_rfl) (by kernel_rfl) (fun _ _ _ h => h) (by rfl) ?hv8 hS2 ?rest8
    case hv8 =>
      intro wz hSz
      go_simp
    try simp only [Act.put, List.setIfInBounds_toArray, List.set_cons_zero, List.set_cons_succ]
    refine wpAnyL_one (i := 7) (by kernel_rfl) rfl ?_
    intro K hK
    rw [if_pos (by rfl)]
    go_simp
    refine (tidy_target tn (ys := [] ++ tdOne ty) (by unfold tdOne; split <;> simp) HS2.out).mono ?_
    rintro e w3 ⟨rfl, hs3, hf3⟩
    have HS3 := Lib.hid hs3
    have HX3 := Lib.hid (hf3 w.heap.size _ (by omega) HNL.out HX2.out)
    have HR3 := Lib.hid (hf3 (w.heap.size + 1) _ (by omega) HNL1.out HR2.out)
    clear hs3 hf3
    have hS3 := (cell_of_blk HX3.out 3).1
    refine hK.out _ _ (fun _ => hS3) ?_
    clear hK
    try simp only [Act.put, List.setIfInBounds_toArray, List.set_cons_zero, List.set_cons_succ]
    have HX4 := Lib.hid (blk_set HX3.out 2 (.int .i64 ty))
    have HR4 := Lib.hid (blk_far HR3.out ⟨w.heap.size, 2, none⟩ (.int .i64 ty) (by show w.heap.size ≠ w.heap.size + 1; omega))
    have HS4 := Lib.hid (HS3.out.far ⟨w.heap.size, 2, none⟩ (.int .i64 ty) (by show w.heap.size < w.heap.size + 2; omega) HNL.out HHH.out)
    have hS4 := (cell_of_blk HX4.out 3).1
    clear q2 f2
    obtain ⟨q2, f2⟩ := cell_of_blk HX3.out 2
    refine wpAnyL_one (i := 9) (by kernel_rfl) rfl ?_
    intro K hK
    rw [if_pos (by rfl)]
    go_simp
    refine hK.out _ _ (fun _ => hS4) ?_
    clear hK
    try simp only [Act.put, List.setIfInBounds_toArray, List.set_cons_zero, List.set_cons_succ]
    clear q2 f2
    generalize w3.setCell ⟨w.heap.size, 2, none⟩ (.int .i64 ty) = w4 at *
    obtain ⟨q3, f3⟩ := cell_of_blk HX4.out 3
    refine wpAnyL_one (i := 10) (by kernel_rfl) rfl ?_
    intro K hK
    rw [if_pos (by rfl)]
    go_simp
    refine hK.out _ _ (fun _ => hS4) ?_
    clear hK
    try simp only [Act.put, List.setIfInBounds_toArray, List.set_cons_zero, List.set_cons_succ]
    refine wpAnyL_one (i := 11) (by kernel_rfl) rfl ?_
    intro K hK
    rw [if_pos (by rfl)]
    go_simp
    refine hK.out _ _ (fun h => absurd rfl h) ?_
    clear hK
    refine wpAnyL_done (by kernel_rfl) ?_ _
    have HX5 := Lib.hid (blk_set HX4.out 3 (.int .i64 tn))
    have HR5 := Lib.hid (blk_far HR4.out ⟨w.heap.size, 3, none⟩ (.int .i64 tn) (by show w.heap.size ≠ w.heap.size + 1; omega))
    have HS5 := Lib.hid (HS4.out.far ⟨w.heap.size, 3, none⟩ (.int .i64 tn) (by show w.heap.size < w.heap.size + 2; omega) HNL.out HHH.out)
    clear q0 f0 q3 f3 hS0 hS2 hS3 hS4
    generalize w4.setCell ⟨w.heap.size, 3, none⟩ (.int .i64 tn) = w5 at *
    obtain ⟨z0, z1, z2, z3, zf⟩ : w5.cell? ⟨w.heap.size, 0, none⟩ = some (.int .i64 2) ∧ w5.cell? ⟨w.heap.size, 1, none⟩ = some (.int .i64 ta) ∧ w5.cell? ⟨w.heap.size, 2, none⟩ = some (.int .i64 ty) ∧ w5.cell? ⟨w.heap.size, 3, none⟩ = some (.int .i64 tn) ∧ True := ⟨(cell_of_blk HX5.out 0).1, (cell_of_blk HX5.out 1).1, (cell_of_blk HX5.out 2).1, (cell_of_blk HX5.out 3).1, trivial⟩
    obtain ⟨q0, f0⟩ := cell_of_blk HR5.out 0
    obtain ⟨q1, f1⟩ := cell_of_blk HR5.out 1
    obtain ⟨q2, f2⟩ := cell_of_blk HR5.out 2
    obtain ⟨q3, f3⟩ := cell_of_blk HR5.out 3
    go_wp2_with fail
    clear z0 z1 z2 z3 q0 q1 q2 q3 f0 f1 f2 f3
    have HR7 := Lib.hid (blk_set (blk_set (blk_set (blk_set HR5.out 0 (.int .i64 2)) 1 (.int .i64 ta)) 2 (.int .i64 ty)) 3 (.int .i64 tn))
    have HS7 := Lib.hid ((((HS5.out.far ⟨w.heap.size + 1, 0, none⟩ (.int .i64 2) (Nat.lt_succ_self _) HNL1.out HHH1.out).far ⟨w.heap.size + 1, 1, none⟩ (.int .i64 ta) (Nat.lt_succ_self _) HNL1.out HHH1.out).far ⟨w.heap.size + 1, 2, none⟩ (.int .i64 ty) (Nat.lt_succ_self _) HNL1.out HHH1.out).far ⟨w.heap.size + 1, 3, none⟩ (.int .i64 tn) (Nat.lt_succ_self _) HNL1.out HHH1.out)
    generalize (((w5.setCell ⟨w.heap.size + 1, 0, none⟩ (.int .i64 2)).setCell ⟨w.heap.size + 1, 1, none⟩ (.int .i64 ta)).setCell ⟨w.heap.size + 1, 2, none⟩ (.int .i64 ty)).setCell ⟨w.heap.size + 1, 3, none⟩ (.int .i64 tn) = w9 at *
    have k0 : w9.cell? ⟨w.heap.size + 1, 0, none⟩ = some (.int .i64 2) := (cell_of_blk HR7.out 0).1
    have k1 : w9.cell? ⟨w.heap.size + 1, 1, none⟩ = some (.int .i64 ta) := (cell_of_blk HR7.out 1).1
    have k2 : w9.cell? ⟨w.heap.size + 1, 2, none⟩ = some (.int .i64 ty) := (cell_of_blk HR7.out 2).1
    have k3 : w9.cell? ⟨w.heap.size + 1, 3, none⟩ = some (.int .i64 tn) := (cell_of_blk HR7.out 3).1
    refine bodyPost_ret (v := .agg #[.int .i64 2, .int .i64 ta, .int .i64 ty, .int .i64 tn]) (by simp [results, Try.results14, go_sem, k0, k1, k2, k3]; try rfl) rfl ?_
    rw [← HPO.out]
    exact ⟨⟨_, rfl⟩, by rw [HE.out]; exact HS7.out⟩
  · have HE : Hid (tdTg ⟨3, ta, ty, tn⟩ = []) := Lib.hid (by simp [tdTg])
    clear q2 f2
    go_upto_region 6 with (fail)
    clear q0 f0
    obtain ⟨z0, z1, z2, z3, zf⟩ : w1.cell? ⟨w.heap.size, 0, none⟩ = some (.int .i64 3) ∧ w1.cell? ⟨w.heap.size, 1, none⟩ = some (.int .i64 ta) ∧ w1.cell? ⟨w.heap.size, 2, none⟩ = some (.int .i64 ty) ∧ w1.cell? ⟨w.heap.size, 3, none⟩ = some (.int .i64 tn) ∧ True := ⟨(cell_of_blk HX1.out 0).1, (cell_of_blk HX1.out 1).1, (cell_of_blk HX1.out 2).1, (cell_of_blk HX1.out 3).1, trivial⟩
    obtain ⟨q0, f0⟩ := cell_of_blk HR1.out 0
    obtain ⟨q1, f1⟩ := cell_of_blk HR1.out 1
    obtain ⟨q2, f2⟩ := cell_of_blk HR1.out 2
    obtain ⟨q3, f3⟩ := cell_of_blk HR1.out 3
    go_wp2_with fail
    clear z0 z1 z2 z3 q0 q1 q2 q3 f0 f1 f2 f3
    have HR7 := Lib.hid (blk_set (blk_set (blk_set (blk_set HR1.out 0 (.int .i64 3)) 1 (.int .i64 ta)) 2 (.int .i64 ty)) 3 (.int .i64 tn))
    have HS7 := Lib.hid ((((HS1.out.far ⟨w.heap.size + 1, 0, none⟩ (.int .i64 3) (Nat.lt_succ_self _) HNL1.out HHH1.out).far ⟨w.heap.size + 1, 1, none⟩ (.int .i64 ta) (Nat.lt_succ_self _) HNL1.out HHH1.out).far ⟨w.heap.size + 1, 2, none⟩ (.int .i64 ty) (Nat.lt_succ_self _) HNL1.out HHH1.out).far ⟨w.heap.size + 1, 3, none⟩ (.int .i64 tn) (Nat.lt_succ_self _) HNL1.out HHH1.out)
    generalize (((w1.setCell ⟨w.heap.size + 1, 0, none⟩ (.int .i64 3)).setCell ⟨w.heap.size + 1, 1, none⟩ (.int .i64 ta)).setCell ⟨w.heap.size + 1, 2, none⟩ (.int .i64 ty)).setCell ⟨w.heap.size + 1, 3, none⟩ (.int .i64 tn) = w9 at *
    have k0 : w9.cell? ⟨w.heap.size + 1, 0, none⟩ = some (.int .i64 3) := (cell_of_blk HR7.out 0).1
    have k1 : w9.cell? ⟨w.heap.size + 1, 1, none⟩ = some (.int .i64 ta) := (cell_of_blk HR7.out 1).1
    have k2 : w9.cell? ⟨w.heap.size + 1, 2, none⟩ = some (.int .i64 ty) := (cell_of_blk HR7.out 2).1
    have k3 : w9.cell? ⟨w.heap.size + 1, 3, none⟩ = some (.int .i64 tn) := (cell_of_blk HR7.out 3).1
    refine bodyPost_ret (v := .agg #[.int .i64 3, .int .i64 ta, .int .i64 ty, .int .i64 tn]) (by simp [results, Try.results14, go_sem, k0, k1, k2, k3]; try rfl) rfl ?_
    rw [← HPO.out]
    exact ⟨⟨_, rfl⟩, by rw [HE.out]; exact HS7.out⟩
set_option maxRecDepth 100000 in
set_option maxHeartbeats 1000000 in
theorem tidy_targets (n : Nat) (t : Trm) (ht : tdOkT n t) (w : World) : Calls Try.prog 33 #[trmVal t] w fun e w' => ∃ A c, e = .returned (.slice A (tdTg t).length c) ∧ Below w.heap.size w w' ∧ w'.ownsRow w.heap.size 3 1 (.slice A (tdTg t).length c) (tdTg t).length ((tdTg t).map (.int .i64 ·)) := by
  have HC := Lib.hid (fun L H0 w0 W hL hH hB => tidy_named_targets n t ht L H0 w0 W hL hH hB)
  unfold trmVal at HC ⊢
  generalize hPO : (fun (e : Ending) (w' : World) => ∃ A c, e = .returned (.slice A (tdTg t).length c) ∧ Below w.heap.size w w' ∧ w'.ownsRow w.heap.size 3 1 (.slice A (tdTg t).length c) (tdTg t).length ((tdTg t).map (.int .i64 ·))) = PO
  have HPO := Lib.hid hPO
  generalize tdTg t = ys at *
  obtain ⟨tk, ta, ty, tn⟩ := t
  simp only at HC
  have HX := Lib.hid (heap_alloc_new w (.cells #[.int .i64 tk, .int .i64 ta, .int .i64 ty, .int .i64 tn] 38))
  have hb0 := bnew w (.cells #[.int .i64 tk, .int .i64 ta, .int .i64 ty, .int .i64 tn] 38)
  have hb1 := bnew (w.alloc (.cells #[.int .i64 tk, .int .i64 ta, .int .i64 ty, .int .i64 tn] 38)) (.cells #[.slice none 0 0] 72)
  have HL := Lib.hid (heap_alloc_new (w.alloc (.cells #[.int .i64 tk, .int .i64 ta, .int .i64 ty, .int .i64 tn] 38)) (.cells #[.slice none 0 0] 72))
  have HX1 := Lib.hid ((hb1.block _ (lt_of_blk HX.out)).trans HX.out)
  have HB1 := Lib.hid (bch hb0 hb1)
  rw [World.size_alloc] at HL
  clear hPO hb0 hb1 ht HX
  go_enter Try.func33, Try.ntmps33
  go_upto_region 2 with (fail)
  generalize (w.alloc (.cells #[.int .i64 tk, .int .i64 ta, .int .i64 ty, .int .i64 tn] 38)).alloc (.cells #[.slice none 0 0] 72) = w1 at *
  obtain ⟨q0, f0⟩ := cell_of_blk HX1.out 0
  obtain ⟨q1, f1⟩ := cell_of_blk HX1.out 1
  obtain ⟨q2, f2⟩ := cell_of_blk HX1.out 2
  obtain ⟨q3, f3⟩ := cell_of_blk HX1.out 3
  go_wp2_with fail
  refine (HC.out (w.heap.size + 1) w.heap.size w w1 HL.out (Nat.le_succ _) HB1.out).mono ?_
  rintro e w2 ⟨⟨v0, rfl⟩, ⟨v, h4, h5⟩, h6, h7, h8, h9⟩
  obtain ⟨A, cap, rfl⟩ := own_len h5
  have HO := Lib.hid h5
  have HB := Lib.hid h6
  have HSZ := Lib.hid HB1.out.size
  have k0 := (cell_of_blk h4 0).1
  clear q0 q1 q2 q3 f0 f1 f2 f3 h4 h5 h6 h7 h8 h9
  go_wp2_with fail
  rw [← HPO.out]
  exact ⟨A, cap, rfl, HB.out, own_more HO.out (by have := HSZ.out; omega)⟩
end Go.Proofs.Ythkobddggoojlaa
namespace Go.Proofs.Ythkobddggoojlaa
open Go.RowKit Go.Maps
set_option linter.unusedVariables false
end Go.Proofs.Ythkobddggoojlaa
namespace Go.Proofs.Ythkobddggoojlaa
open Go.RowKit
set_option linter.unusedVariables false
def intEncF : Enc Int := flatEnc 1 (fun x => [.int .i64 x]) (fun _ => rfl)
theorem slRep_intsF {w : World} {base B : Nat} {v : Value} {l : List Int} {n : Nat} (hn : l.length = n) (hB : w.heap.size ≤ B) (h : w.ownsRow base 3 1 v n (l.map (.int .i64 ·))) : SlRep intEncF w B v l := by
  subst hn
  refine slRep_own (E := intEncF) (base := base) (t := 3) l (l.map fun x => [.int .i64 x]) (fun i x hx => ⟨[.int .i64 x], by rw [List.getElem?_map, hx]; rfl, rfl⟩) ?_ hB ?_
  · intro es he
    obtain ⟨o, _, rfl⟩ := List.mem_map.1 he
    rfl
  · have e : (l.map fun x => [Value.int .i64 x]).flatten = l.map (.int .i64 ·) := by
      clear h
      induction l with
      | nil => rfl
      | cons x l ih => simp only [List.map_cons, List.flatten_cons, List.singleton_append, ih]
    rw [e]; exact h
/-- What the sources' values hold behind m of them. -/
structure FtSrc (f : Int → Option Int) (sl : List Int) (m : Nat) (v : Nat → Int) (all : Bool) : Prop where
  yes : all = true → ∀ j, j < m → f (sl.getD j 0) = some (v j)
  no : all = false → ∃ j, j < m ∧ f (sl.getD j 0) = none
  zero : ∀ j, m ≤ j → v j = 0
theorem FtSrc.start (f : Int → Option Int) (sl : List Int) : FtSrc f sl 0 (fun _ => 0) true := ⟨fun _ j h => (by omega), fun h => (by cases h), fun _ _ => rfl⟩
theorem FtSrc.step {f : Int → Option Int} {sl : List Int} {m : Nat} {v : Nat → Int} {all : Bool} (h : FtSrc f sl m v all) (x : Option Int) (hx : f (sl.getD m 0) = x) (n : Int) (hn : ∀ y, x = some y → n = y) : FtSrc f sl (m + 1) (fun j => if j = m then n else v j) (all && x.isSome) := by
  subst hx
  refine ⟨fun ha j hj => ?_, fun ha => ?_, fun j hj => ?_⟩
  · simp only [Bool.and_eq_true] at ha
    by_cases e : j = m
    · subst e
      simp only [if_true]
      cases hf : f (sl.getD j 0) with
      | none => rw [hf] at ha; cases ha.2
      | some y => rw [hn y hf]
    · simp only [if_neg e]
      exact h.yes ha.1 j (by omega)
  · cases hall : all with
    | false =>
      obtain ⟨j, hj, hf⟩ := h.no hall
      exact ⟨j, by omega, hf⟩
    | true =>
      rw [hall, Bool.true_and] at ha
      refine ⟨m, by omega, ?_⟩
      cases hf : f (sl.getD m 0) with
      | none => rfl
      | some y => rw [hf] at ha; cases ha
  · simp only [if_neg (show ¬ j = m by omega)]
    exact h.zero j (by omega)
end Go.Proofs.Ythkobddggoojlaa
namespace Go.Proofs.Ythkobddggoojlaa
open Go.RowKit
set_option linter.unusedVariables false
def tdNot (s : List Bool) : List Bool := s.map (fun b => !b)
theorem tdNot_len (s : List Bool) : (tdNot s).length = s.length := by simp [tdNot]
theorem tdNot_getD (s : List Bool) (k : Nat) (hk : k < s.length) : (tdNot s).getD k false = !(s.getD k false) := by
  unfold tdNot
  rw [List.getD_eq_getElem?_getD, List.getD_eq_getElem?_getD, List.getElem?_map, List.getElem?_eq_getElem hk]; rfl
theorem tdNot_set (s : List Bool) (k : Nat) (b : Bool) : tdNot (s.set k b) = (tdNot s).set k (!b) := by unfold tdNot; rw [List.map_set]
theorem tdNot_not (s : List Bool) : tdNot (tdNot s) = s := by
  unfold tdNot
  rw [List.map_map]
  have : ((fun b => !b) ∘ fun b : Bool => !b) = id := by funext b; cases b <;> rfl
  rw [this, List.map_id]
/-- What is left to be done while ways are followed: g tells what is gone. -/
structure TdDo (l : List Blk) (todo : List Int) (g : List Bool) : Prop where
  len : g.length = l.length
  has : ∀ x ∈ todo, 0 ≤ x ∧ x < l.length ∧ TdReach l x.toNat
  zero : g.getD 0 true = false ∨ (0 : Int) ∈ todo
  way : ∀ k, g.getD k true = false → TdReach l k
  kids : ∀ i, g.getD i true = false → ∀ x ∈ tdTg (l.getD i blkNone).term, g.getD x.toNat true = false ∨ x ∈ todo
  num : todo.length + 2 * tdTrues g ≤ 1 + 2 * l.length
theorem TdDo.start {l : List Blk} (h : 0 < l.length) : TdDo l [0] (List.replicate l.length true) := by
  have hno : ∀ k, (List.replicate l.length true).getD k true = true := fun k => by
    rw [List.getD_eq_getElem?_getD, List.getElem?_replicate]; split <;> rfl
  refine ⟨List.length_replicate, fun x hx => ?_, Or.inr (by simp), fun k hk => ?_, fun i hi => ?_, ?_⟩
  · obtain rfl := List.mem_singleton.1 hx
    exact ⟨by omega, by omega, TdReach.zero⟩
  · rw [hno] at hk; cases hk
  · rw [hno] at hi; cases hi
  · have := tdTrues_le (List.replicate l.length true)
    rw [List.length_replicate] at this
    simp only [List.length_singleton]; omega
theorem TdDo.skip {l : List Blk} {ys : List Int} {x : Int} {g : List Bool} (h : TdDo l (ys ++ [x]) g) (hx : g.getD x.toNat true = false) : TdDo l ys g := by
  have h0 := (h.has x (by simp)).1
  refine ⟨h.len, fun y hy => h.has y (by simp [hy]), ?_, h.way, fun i hi y hy => ?_, ?_⟩
  · rcases h.zero with h1 | h1
    · exact Or.inl h1
    · rcases List.mem_append.1 h1 with h2 | h2
      · exact Or.inr h2
      · obtain rfl := List.mem_singleton.1 h2; exact Or.inl hx
  · rcases h.kids i hi y hy with h1 | h1
    · exact Or.inl h1
    · rcases List.mem_append.1 h1 with h2 | h2
      · exact Or.inr h2
      · obtain rfl := List.mem_singleton.1 h2; exact Or.inl hx
  · have := h.num
    rw [List.length_append, List.length_singleton] at this
    omega
theorem TdDo.step {l : List Blk} (hl : TdOk l) {ys : List Int} {x : Int} {g : List Bool} (h : TdDo l (ys ++ [x]) g) (hx : g.getD x.toNat true = true) : TdDo l (ys ++ tdTg (l.getD x.toNat blkNone).term) (g.set x.toNat false) := by
  obtain ⟨x0, x1, hr⟩ := h.has x (by simp)
  have hg : x.toNat < g.length := by rw [h.len]; omega
  have hok : tdOkT l.length (l.getD x.toNat blkNone).term := hl _ (getD_memI l x.toNat blkNone (by omega))
  have hold : ∀ i, g.getD i true = false → (g.set x.toNat false).getD i true = false := fun i hi => by
    rw [getD_setB g x.toNat i false true hg]; split
    · rfl
    · exact hi
  have hnew : (g.set x.toNat false).getD x.toNat true = false := by rw [getD_setB g x.toNat _ false true hg, if_pos rfl]
  refine ⟨by rw [List.length_set]; exact h.len, fun y hy => ?_, ?_, fun k hk => ?_, fun i hi y hy => ?_, ?_⟩
  · rcases List.mem_append.1 hy with h1 | h1
    · exact h.has y (by simp [h1])
    · obtain ⟨a, b⟩ := tdTg_lab hok h1
      exact ⟨a, b, TdReach.step _ y hr h1⟩
  · rcases h.zero with h1 | h1
    · exact Or.inl (hold 0 h1)
    · rcases List.mem_append.1 h1 with h2 | h2
      · exact Or.inr (by simp [h2])
      · obtain rfl := List.mem_singleton.1 h2; exact Or.inl hnew
  · rw [getD_setB g x.toNat k false true hg] at hk
    by_cases e : k = x.toNat
    · rw [e]; exact hr
    · rw [if_neg e] at hk; exact h.way k hk
  · rw [getD_setB g x.toNat i false true hg] at hi
    by_cases e : i = x.toNat
    · rw [e] at hy; exact Or.inr (List.mem_append.2 (Or.inr hy))
    · rw [if_neg e] at hi
      rcases h.kids i hi y hy with h1 | h1
      · exact Or.inl (hold _ h1)
      · rcases List.mem_append.1 h1 with h2 | h2
        · exact Or.inr (by simp [h2])
        · obtain rfl := List.mem_singleton.1 h2; exact Or.inl hnew
  · have h1 := h.num
    have h2 := tdTrues_clear g x.toNat hg (by rw [List.getD_eq_getElem?_getD, List.getElem?_eq_getElem hg] at hx ⊢; exact hx)
    have h3 := tdTg_len (l.getD x.toNat blkNone).term
    rw [List.length_append, List.length_singleton] at h1
    rw [List.length_append]
    omega
theorem TdDo.done {l : List Blk} (hl : TdOk l) (h0 : 0 < l.length) {g : List Bool} (h : TdDo l [] g) : TdIn l (tdNot g) := by
  have hg : ∀ k, (tdNot g).getD k false = true ↔ g.getD k true = false := fun k => by
    unfold tdNot
    rw [List.getD_eq_getElem?_getD, List.getD_eq_getElem?_getD, List.getElem?_map]
    cases g[k]? with
    | none => simp
    | some b => cases b <;> simp
  refine tdIn_of (by rw [tdNot_len]; exact h.len) ?_ (fun i hi x hx => ?_) (fun k hk => h.way k ((hg k).1 hk))
  · rcases h.zero with h1 | h1
    · exact (hg 0).2 h1
    · cases h1
  · rcases h.kids i ((hg i).1 hi) x hx with h1 | h1
    · exact (hg _).2 h1
    · cases h1
/-- A list of the call's own, less its last. -/
theorem own_pop {w : World} {base t g cap n : Nat} {ys : List Value} {u : Value} (hn : ys.length = n) (h : w.ownsRow base t 1 (.slice (some ⟨g, 0, none⟩) (n + 1) cap) (n + 1) (ys ++ [u])) : w.ownsRow base t 1 (.slice (some ⟨g, 0, none⟩) n cap) n ys := by
  obtain ⟨_, h1 | ⟨g', cap', cur, e, h2, h3, h4, h5, h6, h7⟩⟩ := h
  · cases h1.1
  · injection e with e1 e2 e3
    subst e3
    injection e1 with e1
    injection e1 with e1
    subst e1
    refine ⟨by rw [hn, Nat.mul_one], Or.inr ⟨g, cap, cur, rfl, h2, h3, by omega, h5, h6, ?_⟩⟩
    have h8 := congrArg (List.take n) h7
    rw [List.take_take, Nat.mul_one, Nat.min_eq_left (Nat.le_succ n), List.take_append_of_le_length (by omega), List.take_of_length_le (Nat.le_of_eq hn)] at h8
    rw [Nat.mul_one]; exact h8
theorem own_last {w : World} {base t g cap n : Nat} {ys : List Value} {u : Value} (hn : ys.length = n) (h : w.ownsRow base t 1 (.slice (some ⟨g, 0, none⟩) (n + 1) cap) (n + 1) (ys ++ [u])) : w.cell? ⟨g, n, none⟩ = some u := by
  rw [h.cellAt n (by omega), List.getElem?_append_right (by omega), hn, Nat.sub_self]; rfl
theorem own_cap {w : World} {base t g cap n : Nat} {ys : List Value} (h : w.ownsRow base t 1 (.slice (some ⟨g, 0, none⟩) (n + 1) cap) (n + 1) ys) : n + 1 ≤ cap := by
  obtain ⟨_, h1 | ⟨g', cap', cur, e, h2, h3, h4, h5, h6, h7⟩⟩ := h
  · cases h1.1
  · injection e with e1 e2 e3
    subst e3
    exact h4
theorem getD_in {T : Type} (l : List T) (k : Nat) (a b : T) (h : k < l.length) : l.getD k a = l.getD k b := by
  rw [List.getD_eq_getElem?_getD, List.getD_eq_getElem?_getD, List.getElem?_eq_getElem h]; rfl
/-- Ints behind a list of ints that the call owns. -/
theorem run_append_intsT (w : World) (base : Nat) (v : Value) (ys : List Int) (hown : w.ownsRow base 3 1 v ys.length (ys.map (.int .i64 ·))) (A : Option Addr) (c B : Nat) (l : List Int) (h : SlRep intEncF w B (.slice A l.length c) l) (hn : ys.length + l.length ≤ 8000000) (hbase : base ≤ w.heap.size) :
    ∃ v' w', (Builtin.append_ #[72, 72] 72 #[v, .slice A l.length c]).run Try.prog w = .ok v' w' ∧ w'.ownsRow base 3 1 v' (ys ++ l).length ((ys ++ l).map (.int .i64 ·)) ∧ w.grownBy w' v.ownBlock := by
  obtain ⟨i0, hi, hz0, hz1, hz2⟩ := info_parts int_info
  obtain ⟨v', w', h1, h2, h3, _⟩ := run_append_src (P := Try.prog) 1 (fun x : Int => [.int .i64 x]) (fun _ => rfl) (by omega) (fun t u hu => by obtain rfl := List.mem_singleton.1 hu; rfl) 72 3 i0 _ 8 Try.underlying72 hi hz0 hz1 hz2 rfl w base v ys.length _ hown A c B l h (by unfold maxLen; omega) (by omega) hbase
  refine ⟨v', w', h1, ?_, h3⟩
  rw [List.length_append, List.map_append]
  have e : l.flatMap (fun x : Int => [Value.int .i64 x]) = l.map (.int .i64 ·) := by
    clear h1 h2 h3 h hn
    induction l with
    | nil => rfl
    | cons x l ih => rw [List.flatMap_cons, ih]; rfl
  rw [e] at h2
  exact h2
/-- Nothing that lay is turned but the flags. -/
structure ReSt (w : World) (H V : Nat) (w0 : World) (g : List Bool) (wr : World) : Prop where
  flag : wr.heap[V]? = some (.cells (bools g) 4 (0, 0))
  bel : Below H w0 wr
  oth : ∀ (q : Nat) (x : Obj), q ≠ V → w.heap[q]? = some x → wr.heap[q]? = some x
  siz : w.heap.size ≤ wr.heap.size
theorem ReSt.below {w w0 wr w2 : World} {H V : Nat} {g : List Bool} (h : ReSt w H V w0 g wr) (hH : H ≤ V) (hb : Below wr.heap.size wr w2) : ReSt w H V w0 g w2 :=
  ⟨(hb.block _ (lt_of_blk h.flag)).trans h.flag, h.bel.trans (hb.mono (by have := lt_of_blk h.flag; omega)), fun q x h1 h2 => (hb.block _ (lt_of_blk (h.oth q x h1 h2))).trans (h.oth q x h1 h2), by have := hb.size; have := h.siz; omega⟩
theorem ReSt.set {w w0 wr : World} {H V : Nat} {g : List Bool} (h : ReSt w H V w0 g wr) (hH : H ≤ V) (i : Nat) (b : Bool) : ReSt w H V w0 (g.set i b) (wr.setCell ⟨V, i, none⟩ (.bool b)) := by
  have h1 := blk_set h.flag i (.bool b)
  rw [bools_set] at h1
  exact ⟨h1, h.bel.setCell (p := ⟨V, i, none⟩) hH _, fun q x h2 h3 => blk_far (h.oth q x h2 h3) _ _ (fun e => h2 e.symm), by simpa [World.setCell] using h.siz⟩
theorem ReSt.grown {w w0 wr w2 : World} {H V : Nat} {g : List Bool} {row : Option Nat} (h : ReSt w H V w0 g wr) (hH : H ≤ V) (hV : V < w.heap.size) (hg : wr.grownBy w2 row) (hr : ∀ r, row = some r → w.heap.size ≤ r) : ReSt w H V w0 g w2 := by
  refine ⟨(hg.block V (lt_of_blk h.flag) (fun e => by have := hr V e.symm; omega)).trans h.flag, h.bel.grown hg (by have := lt_of_blk h.flag; omega) (fun r e => by have := hr r e; omega), fun q x h1 h2 => ?_, by have := hg.size; have := h.siz; omega⟩
  exact (hg.block q (lt_of_blk (h.oth q x h1 h2)) (fun e => by have := hr q e.symm; have := lt_of_blk h2; omega)).trans (h.oth q x h1 h2)
/-- The blocks as they lie with other flags. -/
theorem TmAt.at_ {w wr : World} {G V : Nat} {bad : List Nat} {l : List Blk} {s g : List Bool} {ovs : List Value} (h : TmAt w G V bad l s ovs) (hGV : G ≠ V) (hV : wr.heap[V]? = some (.cells (bools g) 4 (0, 0))) (ho : ∀ (q : Nat) (x : Obj), q ≠ V → w.heap[q]? = some x → wr.heap[q]? = some x) (hs : w.heap.size ≤ wr.heap.size) : TmAt wr G V bad l g ovs := by
  obtain ⟨cur, h1, h2⟩ := h.row
  refine ⟨h.len, ⟨cur, ho G _ hGV h1, h2⟩, fun i ov b h3 h4 => ?_, h.gin, h.vin, hV⟩
  obtain ⟨⟨A, c, e, hc, hx⟩, f⟩ := h.ops i ov b h3 h4
  refine ⟨⟨A, c, e, hc, fun k t hk => ?_⟩, f⟩
  obtain ⟨bb, off, es, e1, hb, hr, hcell⟩ := hx k t hk
  have hbV : bb ≠ V := fun e9 => f ⟨bb, off, none⟩ _ c (by rw [e, e1]) (by intro e8; rw [e8] at hk; simp at hk) (e9 ▸ h.vin)
  refine ⟨bb, off, es, e1, by omega, hr, fun j u hj => ?_⟩
  have hb2 : w.heap[bb]? = some w.heap[bb] := Array.getElem?_eq_getElem hb
  rw [World.cell?_of_block ((ho bb _ hbV hb2).trans hb2.symm)]
  exact hcell j u hj
end Go.Proofs.Ythkobddggoojlaa
