/- Parts of a proof. No condition but those that each theorem names. -/
import Derived.WalkKit
import Derived.OpenShut
import Derived.Below
import Derived.Lib.Hide
import Derived.Laws.OwnMore
import Derived.Deep.QuietTactic
import Derived.Deep.AppendLies
import Derived.ProofKit
import Derived.SizedLaws
import Derived.Test.YthkobddggoojlaaProg
import Derived.Handy
import Derived.Deep.RegionHeld3
import Derived.BigQuiet
import Derived.Maps.AppendAt
import Derived.StillTailTactics
import Derived.Laws.CopyOwn
import Derived.Lib.BufferWrite
import Derived.OrdersHeld
import Derived.RegionTactic
import Derived.Deep.DeepCutAuto
import Derived.Test.YthkobddggoojlaaTdG0e0
import Derived.Test.YthkobddggoojlaaTdG0e1
import Derived.Test.YthkobddggoojlaaTdIr
import Derived.Test.YthkobddggoojlaaTdG1e2
import Derived.Test.YthkobddggoojlaaTdG1e4
import Derived.Test.YthkobddggoojlaaTdIrC
import Derived.Test.YthkobddggoojlaaTdG2e5
import Derived.Test.YthkobddggoojlaaTdTdD
import Derived.Test.YthkobddggoojlaaTdG2e17
import Derived.Test.YthkobddggoojlaaTdTrB
namespace Go.Proofs.Ythkobddggoojlaa
open Go.RowKit
set_option linter.unusedVariables false
theorem count_one (a b : Int) : List.count b (tdOne a) = if a ≠ -1 ∧ a = b then 1 else 0 := by
  unfold tdOne
  by_cases h : a = -1
  · rw [if_pos h, if_neg (fun h2 => h2.1 h)]; rfl
  · rw [if_neg h]
    by_cases e : a = b
    · subst e; simp [h]
    · simp [e]
theorem tdNames_count {n : Nat} {t : Trm} (h : tdOkT n t) {k : Int} (hk : 0 ≤ k) : tdNames t k = (tdTg t).count k := by
  have key : ∀ y : Int, (if y ≠ -1 ∧ y = k then 1 else 0) = (if y = k then 1 else 0) := fun y => by
    by_cases e : y = k
    · rw [if_pos ⟨by omega, e⟩, if_pos e]
    · rw [if_neg (fun h => e h.2), if_neg e]
  unfold tdNames tdTg
  rcases h with ⟨h1, _⟩ | ⟨h1, _⟩ | h1
  · simp only [h1, if_true, count_one, key]
    by_cases e : t.yes = k <;> simp [e]
  · have hk1 : ¬ t.kind = 1 := by omega
    rw [if_neg hk1, if_pos h1, List.count_append, count_one, count_one, key, key]
    by_cases e : t.yes = k <;> by_cases e2 : t.no = k <;> simp [h1, e, e2]
  · simp [h1]
theorem tdNames_pos {n : Nat} {t : Trm} (h : tdOkT n t) {k : Int} (hk : 0 ≤ k) : 0 < tdNames t k ↔ k ∈ tdTg t := by rw [tdNames_count h hk, List.count_pos_iff]
def boolN : Value → Nat
  | .bool true => 1
  | _ => 0
/-- Flags of blocks to which there is a way. -/
structure TdSome (l : List Blk) (s : List Bool) : Prop where
  len : s.length = l.length
  zero : s.getD 0 false = true
  way : ∀ k, s.getD k false = true → TdReach l k
theorem TdSome.start {l : List Blk} (h : 0 < l.length) : TdSome l ((List.replicate l.length false).set 0 true) := by
  have hlen : 0 < (List.replicate l.length false).length := by rw [List.length_replicate]; exact h
  refine ⟨by rw [List.length_set, List.length_replicate], by rw [getD_setB _ 0 0 true false hlen, if_pos rfl], fun k hk => ?_⟩
  rw [getD_setB _ 0 k true false hlen] at hk
  by_cases e : k = 0
  · rw [e]; exact TdReach.zero
  · rw [if_neg e, List.getD_eq_getElem?_getD, List.getElem?_replicate] at hk
    split at hk <;> simp at hk
theorem TdSome.put {l : List Blk} {s : List Bool} (h : TdSome l s) {i k : Nat} (hi : s.getD i false = true) (hk : (k : Int) ∈ tdTg (l.getD i blkNone).term) (hkl : k < l.length) : TdSome l (s.set k true) := by
  have hl : k < s.length := by rw [h.len]; exact hkl
  refine ⟨by rw [List.length_set]; exact h.len, ?_, fun j hj => ?_⟩
  · rw [getD_setB s k 0 true false hl]
    split
    · rfl
    · exact h.zero
  · rw [getD_setB s k j true false hl] at hj
    by_cases e : j = k
    · subst e; exact TdReach.step i (j : Int) (h.way i hi) hk
    · rw [if_neg e] at hj; exact h.way j hj
theorem TdSome.in_ {l : List Blk} {s : List Bool} (h : TdSome l s) (hc : TdClosed l s) : TdIn l s := tdIn_of h.len h.zero hc h.way
/-- Closed as far as block i. -/
def TdUpto (l : List Blk) (s : List Bool) (i : Nat) : Prop := ∀ i', i' < i → s.getD i' false = true → ∀ x ∈ tdTg (l.getD i' blkNone).term, s.getD x.toNat false = true
def TdPart (l : List Blk) (s : List Bool) (i k : Nat) : Prop := s.getD i false = true → ∀ x ∈ tdTg (l.getD i blkNone).term, x < k → s.getD x.toNat false = true
def TdMid (l : List Blk) (s0 s : List Bool) (mo : Bool) (i : Nat) : Prop := (mo = false → s = s0 ∧ TdUpto l s i) ∧ (mo = true → tdTrues s0 < tdTrues s)
def TdInn (l : List Blk) (s0 s : List Bool) (mo : Bool) (i k : Nat) : Prop := (mo = false → s = s0 ∧ TdUpto l s i ∧ TdPart l s i k) ∧ (mo = true → tdTrues s0 < tdTrues s)
theorem TdMid.inn {l : List Blk} {s0 s : List Bool} {mo : Bool} {i : Nat} (h : TdMid l s0 s mo i) (hl : TdOk l) (hi : i < l.length) : TdInn l s0 s mo i 0 :=
  ⟨fun hm => ⟨(h.1 hm).1, (h.1 hm).2, fun _ x hx h0 => by have := tdTg_lab (hl.at_ i hi) hx; omega⟩, h.2⟩
theorem TdInn.out {l : List Blk} {s0 s : List Bool} {mo : Bool} {i k : Nat} (h : TdInn l s0 s mo i k) (hl : TdOk l) (hi : i < l.length) (hk : l.length ≤ k ∨ s.getD i false = false) : TdMid l s0 s mo (i + 1) :=
  ⟨fun hm => ⟨(h.1 hm).1, fun i' hi' hs x hx => by
    by_cases e : i' = i
    · subst e
      rcases hk with hk | hk
      · exact (h.1 hm).2.2 hs x hx (by have := tdTg_lab (hl.at_ i' hi) hx; omega)
      · rw [hk] at hs; cases hs
    · exact (h.1 hm).2.1 i' (by omega) hs x hx⟩, h.2⟩
theorem TdInn.skip {l : List Blk} {s0 s : List Bool} {mo : Bool} {i k : Nat} (h : TdInn l s0 s mo i k) (hk : s.getD k false = true ∨ (k : Int) ∉ tdTg (l.getD i blkNone).term) : TdInn l s0 s mo i (k + 1) :=
  ⟨fun hm => ⟨(h.1 hm).1, (h.1 hm).2.1, fun hs x hx hlt => by
    by_cases e : x = (k : Int)
    · subst e
      rcases hk with hk | hk
      · exact hk
      · exact absurd hx hk
    · exact (h.1 hm).2.2 hs x hx (by omega)⟩, h.2⟩
theorem TdInn.set {l : List Blk} {s0 s : List Bool} {mo : Bool} {i k : Nat} (h : TdInn l s0 s mo i k) (hk : k < s.length) (hf : s.getD k false = false) : TdInn l s0 (s.set k true) true i (k + 1) := by
  refine ⟨fun hm => (by cases hm), fun _ => ?_⟩
  have h1 := tdTrues_set s k hk (by rw [List.getD_eq_getElem?_getD, List.getElem?_eq_getElem hk] at hf ⊢; exact hf)
  cases hmo : mo with
  | true => have := h.2 hmo; omega
  | false => rw [(h.1 hmo).1] at h1 ⊢; omega
set_option maxRecDepth 100000 in
set_option maxHeartbeats 8000000 in
theorem ref23_Reached (l : List Blk) (hl : TdOk l) (hn : l.length ≤ 1048576) (h0 : 0 < l.length) (A : Option Addr) (c : Nat) (w : World) (h : SlRep blkEnc w w.heap.size (.slice A l.length c) l) :
    Calls Try.prog 21 #[.slice A l.length c] w fun e w' => e = .returned (.slice (some ⟨w.heap.size, 0, none⟩) l.length l.length) ∧ (∃ s, TdIn l s ∧ w'.heap[w.heap.size]? = some (.cells (bools s) 4 (0, 0))) ∧ Below w.heap.size w w' := by
  have HL := Lib.hid h
  have hmk := run_make_bools l.length (by omega)
  have HV0 := Lib.hid (heap_alloc_new w (.cells (bools (List.replicate l.length false)) 4))
  have HB0 := Lib.hid (bnew w (.cells (bools (List.replicate l.length false)) 4))
  have HSTART := Lib.hid (TdSome.start h0)
  have HPUT := Lib.hid (fun s i k h a b d => @TdSome.put l s h i k a b d)
  have HIN := Lib.hid (fun s (h : TdSome l s) d => h.in_ d)
  have HMI := Lib.hid (fun s0 s mo i (h : TdMid l s0 s mo i) d => h.inn hl d)
  have HIO := Lib.hid (fun s0 s mo i k (h : TdInn l s0 s mo i k) d e => h.out hl d e)
  have HNP := Lib.hid (fun i (hi : i < l.length) (k : Int) hk => tdNames_pos (hl.at_ i hi) (k := k) hk)
  have HNM := Lib.hid (fun t k W => ref23_names t k W)
  have l0 : (0 : Int) < (l.length : Int) := by omega
  generalize hPO : (fun (e : Ending) (w' : World) => e = .returned (.slice (some ⟨w.heap.size, 0, none⟩) l.length l.length) ∧ (∃ s, TdIn l s ∧ w'.heap[w.heap.size]? = some (.cells (bools s) 4 (0, 0))) ∧ Below w.heap.size w w') = PO
  have HPO := Lib.hid hPO
  clear h hl hPO
  go_enter Try.func21, Try.ntmps21
  go_upto_region 2 with (fail)
  generalize w.alloc (.cells (bools (List.replicate l.length false)) 4) = w1 at *
  obtain ⟨z0, z1⟩ := cell_of_blk HV0.out 0
  rw [bools_at (by rw [List.length_replicate]; exact h0)] at z0
  have HV1 := Lib.hid (blk_set HV0.out 0 (.bool true))
  rw [bools_set] at HV1
  have HB1 := Lib.hid (HB0.out.setCell (p := ⟨w.heap.size, 0, none⟩) (Nat.le_refl _) (.bool true))
  go_upto_region 3 with (fail)
  clear z0 z1 HV0 HB0
  generalize w1.setCell ⟨w.heap.size, 0, none⟩ (.bool true) = w2 at *
  go_wp2_with fail
  go_loopw [4] (fun vm wr => ∃ (mo : Bool) (s : List Bool), vm = .bool mo ∧ TdSome l s ∧ wr.heap[w.heap.size]? = some (.cells (bools s) 4 (0, 0)) ∧ Below w.heap.size w wr ∧ Hid (mo = false → TdClosed l s)) (fun vm wr => 2 * fls wr w.heap.size + boolN vm)
  case atStart => exact ⟨true, _, rfl, HSTART.out, HV1.out, HB1.out, Lib.hid (fun h => by cases h)⟩
  case round =>
    obtain ⟨mo, s0, rfl, hs, hv, hb, HC⟩ := hrel
    have HS0 := Lib.hid hs
    have HV := Lib.hid hv
    have HB := Lib.hid hb
    clear hs hv hb
    cases mo with
    | false =>
      go_wp2_with fail
      rw [← HPO.out]
      exact ⟨rfl, ⟨s0, HIN.out s0 HS0.out (HC.out (by first | rfl | trivial)), HV.out⟩, HB.out⟩
    | true =>
      have HF0 := Lib.hid (fls_of HV.out)
      generalize hfl : fls wr w.heap.size = F0 at *
      clear hfl
      generalize wr = wo at *
      go_wp2_with fail
      go_loopw [4, 5] (fun vm vi wr => ∃ (mo : Bool) (s : List Bool) (i : Nat), vm = .bool mo ∧ vi = .int .i64 i ∧ i ≤ l.length ∧ TdSome l s ∧ wr.heap[w.heap.size]? = some (.cells (bools s) 4 (0, 0)) ∧ Below w.heap.size w wr ∧ Hid (TdMid l s0 s mo i)) (fun _ vi _ => l.length - (intOf vi).toNat)
      case atStart => exact ⟨false, s0, 0, rfl, rfl, Nat.zero_le _, HS0.out, HV.out, HB.out, Lib.hid ⟨fun _ => ⟨rfl, fun i' h => by omega⟩, fun h => by cases h⟩⟩
      case round =>
        obtain ⟨mo, s, i, rfl, rfl, hi, hs, hv, hb, HM⟩ := hrel
        have HS := Lib.hid hs
        have HVm := Lib.hid hv
        have HBm := Lib.hid hb
        clear hs hv hb
        by_cases hil : i < l.length
        · have i0 : (0 : Int) ≤ (i : Int) := by omega
          have i1 : (i : Int) < (l.length : Int) := by omega
          have HIS := Lib.hid (HMI.out s0 s mo i HM.out hil)
          go_wp2_with fail
          go_loopw [4, 6] (fun vm vk wr => ∃ (mo : Bool) (s : List Bool) (k : Nat), vm = .bool mo ∧ vk = .int .i64 k ∧ k ≤ l.length ∧ TdSome l s ∧ wr.heap[w.heap.size]? = some (.cells (bools s) 4 (0, 0)) ∧ Below w.heap.size w wr ∧ Hid (TdInn l s0 s mo i k)) (fun _ vk _ => l.length - (intOf vk).toNat)
          case atStart => exact ⟨mo, s, 0, rfl, rfl, Nat.zero_le _, HS.out, HVm.out, HBm.out, HIS⟩
          case round =>
            obtain ⟨mo, s, k, rfl, rfl, hk, hs, hv, hb, HI⟩ := hrel
            have hsl := hs.len
            have HS := Lib.hid hs
            have HVk := Lib.hid hv
            have HBk := Lib.hid hb
            have z0 := (cell_of_blk hv i).1
            rw [bools_at (show i < s.length by omega)] at z0
            clear hs hv hb
            by_cases hkl : k < l.length
            · have k0 : (0 : Int) ≤ (k : Int) := by omega
              have k1 : (k : Int) < (l.length : Int) := by omega
              obtain ⟨y0, y0f⟩ := cell_of_blk HVk.out k
              rw [bools_at (show k < s.length by omega)] at y0
              cases hsi : s.getD i false with
              | false =>
                rw [hsi] at z0
                have HMN := Lib.hid (HIO.out s0 s mo i k HI.out hil (Or.inr hsi))
                clear hsi
                go_wp2_with fail
                go_roundw
                case rel => exact ⟨mo, s, i + 1, rfl, by go_num, by omega, HS.out, HVk.out, HBk.out, HMN⟩
                case measure => simp [intOf]; omega
              | true =>
                rw [hsi] at z0
                have HSI := Lib.hid hsi
                cases hsk : s.getD k false with
                | true =>
                  rw [hsk] at y0
                  have HNX := Lib.hid (HI.out.skip (Or.inl hsk))
                  clear hsk hsi
                  go_wp2_with fail
                  go_roundw
                  case rel => exact ⟨mo, s, k + 1, rfl, by go_num, by omega, HS.out, HVk.out, HBk.out, HNX⟩
                  case measure => simp [intOf]; omega
                | false =>
                  rw [hsk] at y0
                  have HSK := Lib.hid hsk
                  obtain ⟨b, off, rfl, hb0, OA, oc, hops, hoc, x0, x1, x2, x3, x4⟩ := blk_at (HL.out.below HBk.out (Nat.le_refl _)) i hil
                  have HNPI := Lib.hid (HNP.out i hil (k : Int) k0)
                  have HPI := Lib.hid (fun h => HPUT.out s i k HS.out HSI.out h hkl)
                  have HSKIP := Lib.hid (fun h => HI.out.skip (Or.inr h))
                  have HSETI := Lib.hid (HI.out.set (show k < s.length by omega) hsk)
                  generalize hbk : (l.getD i blkNone).term = trm at *
                  obtain ⟨tk, ta, ty, tn⟩ := trm
                  have HNMI := Lib.hid (fun W => HNM.out ⟨tk, ta, ty, tn⟩ (k : Int) W)
                  unfold trmVal at HNMI
                  simp only at HNMI x1 x2 x3 x4
                  clear hops hsk hsi hbk
                  go_wp2_with fail
                  refine (HNMI.out _).mono ?_
                  rintro e w5 ⟨rfl, hb5⟩
                  have HV5 := Lib.hid ((hb5.block _ (lt_of_blk HVk.out)).trans HVk.out)
                  have HB5 := Lib.hid (bch HBk.out hb5)
                  obtain ⟨u0, u0f⟩ := cell_of_blk HV5.out k
                  clear hb5 x0 x1 x2 x3 x4 z0 y0 y0f
                  by_cases hp : 0 < tdNames ⟨tk, ta, ty, tn⟩ (k : Int)
                  · have hmem := HNPI.out.1 hp
                    have HP2 := Lib.hid (HPI.out hmem)
                    have hv6 := blk_set HV5.out k (.bool true)
                    rw [bools_set] at hv6
                    have HV6 := Lib.hid hv6
                    have HB6 := Lib.hid (HB5.out.setCell (p := ⟨w.heap.size, k, none⟩) (Nat.le_refl _) (.bool true))
                    have hp2 : (0 : Int) < ((tdNames ⟨tk, ta, ty, tn⟩ (k : Int) : Nat) : Int) := by omega
                    generalize tdNames ⟨tk, ta, ty, tn⟩ (k : Int) = nn at *
                    clear hmem hv6
                    rw [bools_at (show k < s.length by omega)] at u0
                    go_wp2_with fail
                    go_roundw
                    case rel => exact ⟨true, _, k + 1, rfl, by go_num, by omega, HP2.out, HV6.out, HB6.out, HSETI⟩
                    case measure => simp [intOf]; omega
                  · have HP2 := Lib.hid (HSKIP.out (fun h => hp (HNPI.out.2 h)))
                    have hp2 : ¬ (0 : Int) < ((tdNames ⟨tk, ta, ty, tn⟩ (k : Int) : Nat) : Int) := by omega
                    generalize tdNames ⟨tk, ta, ty, tn⟩ (k : Int) = nn at *
                    go_wp2_with fail
                    go_roundw
                    case rel => exact ⟨mo, s, k + 1, rfl, by go_num, by omega, HS.out, HV5.out, HB5.out, HP2⟩
                    case measure => simp [intOf]; omega
            · obtain rfl : k = l.length := by omega
              have HMN := Lib.hid (HIO.out s0 s mo i l.length HI.out hil (Or.inl (Nat.le_refl _)))
              go_wp2_with fail
              go_roundw
              case rel => exact ⟨mo, s, i + 1, rfl, by go_num, by omega, HS.out, HVk.out, HBk.out, HMN⟩
              case measure => simp [intOf]; omega
        · obtain rfl : i = l.length := by omega
          have HCL : Hid (mo = false → TdClosed l s) := Lib.hid (fun hm i' hi' x hx => (HM.out.1 hm).2 i' (by have := flag_lt hi'; rw [HS.out.len] at this; exact this) hi' x hx)
          go_wp2_with fail
          go_roundw
          case rel => exact ⟨mo, s, rfl, HS.out, HVm.out, HBm.out, HCL⟩
          case measure =>
            have h1 := fls_of HVm.out
            have h2 := HF0.out
            have h3 := HS.out.len
            have h4 := HS0.out.len
            cases mo with
            | true =>
              have h5 := HM.out.2 rfl
              simp [boolN]; omega
            | false =>
              have h5 := (HM.out.1 rfl).1
              rw [h5] at h1
              simp [boolN]; omega
end Go.Proofs.Ythkobddggoojlaa
