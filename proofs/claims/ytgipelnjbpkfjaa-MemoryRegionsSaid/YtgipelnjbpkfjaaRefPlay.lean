/- Contract of the document's Play. No condition but those that each theorem names. -/
import Derived.Test.YtgipelnjbpkfjaaRefLoad
namespace Go.Proofs.Ytgipelnjbpkfjaa
open Go.RowKit
def RPlay (i o r : Int) (flash input : ByteArray) (w1 : World) (l : List St) (v : Value) (w' : World) : Prop :=
  Below w1.heap.size w1 w' ∧ w'.ownsRow w1.heap.size 73 2 v l.length (ansCells (playAns i o r flash.size (startBs i o r flash input) l))
def RPlayPost (i o r : Int) (flash input : ByteArray) (w : World) (l : List St) (e : Ending) (w' : World) : Prop := ∃ v, e = .returned v ∧ Below w.heap.size w w' ∧ w'.ownsRow w.heap.size 73 2 v l.length (ansCells (playAns i o r flash.size (startBs i o r flash input) l))
theorem run_take_st (b off n c k : Nat) (h : k ≤ c) (W : World) : (Instr.slice 64 (.slice (some ⟨b, off, none⟩) n c) none (some (.int .i64 (k : Int))) none).run Try.prog W = .ok (.slice (some ⟨b, off, none⟩) k c) W := by
  have q2 : (k : Int) ≤ (c : Int) := by omega
  simp [go_sem, q2]
theorem own_base {w : World} {B B' : Nat} {t n : Nat} {v : Value} {m : Nat} {ys : List Value} (h : w.ownsRow B t n v m ys) (hB : B' ≤ B) : w.ownsRow B' t n v m ys := by
  refine ⟨h.1, ?_⟩
  rcases h.2 with h2 | ⟨g, cap, cur, h2⟩
  · exact Or.inl h2
  · exact Or.inr ⟨g, cap, cur, h2.1, by have := h2.2.1; omega, h2.2.2⟩
theorem ref_step {w1 wr w2 : World} {v : Value} {k : Nat} {ys : List Value} (hO : wr.ownsRow w1.heap.size 73 2 v k ys) (hK : Below w1.heap.size w1 wr) (hk : k ≤ 1000) (hb2 : Below wr.heap.size wr w2) (x y : Int) :
    ∃ v' w3, (Builtin.append_ #[69, 69] 69 #[v, .slice (some ⟨w2.heap.size, 0, none⟩) 1 1]).run Try.prog (w2.alloc (.cells #[.int .i64 x, .int .i64 y] 73)) = .ok v' w3 ∧
      w3.ownsRow w1.heap.size 73 2 v' (k + 1) (ys ++ [.int .i64 x, .int .i64 y]) ∧ Below w1.heap.size w1 w2 ∧ Below w1.heap.size w1 (w2.alloc (.cells #[.int .i64 x, .int .i64 y] 73)) ∧ Below w1.heap.size w1 w3 := by
  have hO2 := hO.kept (row := none) ⟨hb2.os, hb2.tape, hb2.output, hb2.size, fun j hj _ => hb2.block j hj⟩ (by cases hv : v.ownBlock <;> simp)
  have G2 := bch hK hb2
  obtain ⟨v', w3, hrun, ho3, hg3⟩ := run_append_ans w2 w1.heap.size v k ys hO2 x y hk G2.size
  have G2a := bal G2 (.cells #[.int .i64 x, .int .i64 y] 73)
  exact ⟨v', w3, hrun, ho3, G2, G2a, G2a.grown hg3 G2a.size (fun j e => (hO2.lt j e).1)⟩
set_option maxRecDepth 100000 in
set_option maxHeartbeats 4000000 in
theorem ref07_Play (i o r : Int) (flash input : ByteArray) (A : Option Addr) (c : Nat) (xs : List St) (hr : -9223372036854775808 ≤ r ∧ r ≤ 9223372036854775807) (hck : mmCheck i o r flash.size = 0) (hin : (input.size : Int) = i) (hI : ∀ x ∈ xs, x.a ≤ 9223372036854775807) (hn : xs.length ≤ 100) (hc : xs.length ≤ c) (w : World) (hA : StSl w w.heap.size A xs) :
    Calls Try.prog 32 #[startVal i o r flash input, .slice A xs.length c] w (RPlayPost i o r flash input w xs) := by
  have HLD := Lib.hid (fun a n k (ha : a ≤ 9223372036854775807) W h => ref07_Load i o r flash input A c (xs.take k) a n hr hck hin ha (fun x hx => hI x (List.mem_of_mem_take hx)) (by rw [List.length_take]; omega) W h)
  have HFN := Lib.hid (fun a n write (ha : a ≤ 9223372036854775807) W => ref07_find i o r flash input a n write hr hck ha W)
  have HA := Lib.hid hA
  have HI := Lib.hid hI
  unfold startVal at HLD HFN ⊢
  clear hr hck hin hA hI
  go_enter Try.func32, Try.ntmps32
  go_wp2_with fail
  have hs1 : (w.alloc (.cells #[.int .i64 i, .int .i64 o, .int .i64 r, .string flash, .string input] 63)).heap.size = w.heap.size + 1 := by simp
  have hx1 := heap_alloc_new w (.cells #[.int .i64 i, .int .i64 o, .int .i64 r, .string flash, .string input] 63)
  have hb1 := bnew w (.cells #[.int .i64 i, .int .i64 o, .int .i64 r, .string flash, .string input] 63)
  generalize w.alloc (.cells #[.int .i64 i, .int .i64 o, .int .i64 r, .string flash, .string input] 63) = w1 at *
  have HX1 := Lib.hid hx1
  have HB1 := Lib.hid hb1
  have HR0 : Hid (RPlay i o r flash input w1 (xs.take 0) (.slice none 0 0) w1) := Lib.hid ⟨Below.refl _ _, World.ownsRow_nil _ _ _ _⟩
  clear hx1 hb1
  go_loopw [5, 6] (fun v j wr => ∃ k : Nat, k ≤ xs.length ∧ j = .int .i64 k ∧ RPlay i o r flash input w1 (xs.take k) v wr) (fun _ j _ => xs.length - (intOf j).toNat)
  case atStart => exact ⟨0, by omega, rfl, HR0.out⟩
  case round =>
    obtain ⟨k, hk, rfl, hrel⟩ := hrel
    by_cases hlt : k < xs.length
    · have hne : xs ≠ [] := by intro e; rw [e] at hlt; simp at hlt
      have hA0 := HA.out
      obtain ⟨b, off, rfl, hb0, hcell⟩ := HA.out hne
      obtain ⟨c0, c1, c2, c3⟩ := hcell k hlt
      obtain ⟨hK, hO⟩ := hrel
      have hS : ∀ w', Below w1.heap.size w1 w' → (w'.cell? ⟨w.heap.size, 0, none⟩ = some (.int .i64 i) ∧ w'.cell? ⟨w.heap.size, 1, none⟩ = some (.int .i64 o) ∧ w'.cell? ⟨w.heap.size, 2, none⟩ = some (.int .i64 r) ∧ w'.cell? ⟨w.heap.size, 3, none⟩ = some (.string flash) ∧ w'.cell? ⟨w.heap.size, 4, none⟩ = some (.string input) ∧
          w'.cell? ⟨b, off + k * 4 + 1, none⟩ = some (.int .i64 (xs.getD k stNone).a) ∧ w'.cell? ⟨b, off + k * 4 + 2, none⟩ = some (.int .i64 (xs.getD k stNone).n) ∧ Below w1.heap.size w1 w') := by
        intro w' hg
        have hx := (hg.block w.heap.size (by omega)).trans HX1.out
        have h1 : w'.cell? ⟨b, off + k * 4 + 1, none⟩ = w.cell? ⟨b, off + k * 4 + 1, none⟩ := (hg.cell (p := ⟨b, off + k * 4 + 1, none⟩) (show b < _ by omega)).trans (HB1.out.cell hb0)
        have h2 : w'.cell? ⟨b, off + k * 4 + 2, none⟩ = w.cell? ⟨b, off + k * 4 + 2, none⟩ := (hg.cell (p := ⟨b, off + k * 4 + 2, none⟩) (show b < _ by omega)).trans (HB1.out.cell hb0)
        exact ⟨(cell_of_blk hx 0).1, (cell_of_blk hx 1).1, (cell_of_blk hx 2).1, (cell_of_blk hx 3).1, (cell_of_blk hx 4).1, h1.trans c1, h2.trans c2, hg⟩
      have d0 : wr.cell? ⟨b, off + k * 4, none⟩ = some (.int .i64 (xs.getD k stNone).kind) := ((hK.cell (p := ⟨b, off + k * 4, none⟩) (show b < _ by omega)).trans (HB1.out.cell hb0)).trans c0
      have ht := st_take xs k hlt
      have hxa : (xs.getD k stNone).a ≤ 9223372036854775807 := HI.out _ (by rw [List.getD, List.getElem?_eq_getElem hlt]; exact List.getElem_mem hlt)
      have hlk : (xs.take k).length = k := by rw [List.length_take]; omega
      have hpa : ansCells (playAns i o r flash.size (startBs i o r flash input) (xs.take (k + 1))) = ansCells (playAns i o r flash.size (startBs i o r flash input) (xs.take k)) ++ [.int .i64 (stepAns i o r flash.size (playBs i o r flash.size (startBs i o r flash input) (xs.take k)) (xs.getD k stNone)).1, .int .i64 (stepAns i o r flash.size (playBs i o r flash.size (startBs i o r flash input) (xs.take k)) (xs.getD k stNone)).2] := by
        rw [ht, playAns_snoc]; unfold ansCells; rw [List.flatMap_append]; rfl
      rw [hlk] at hO
      have hHL := fun a n (ha : a ≤ 9223372036854775807) W (hW : Below w1.heap.size w1 W) => HLD.out a n k ha W ((hA0.below (bch HB1.out hW) (Nat.le_refl _)).more (bch HB1.out hW).size |>.take k)
      rw [hlk] at hHL
      have HPA := Lib.hid hpa
      have HLK1 : Hid ((xs.take (k + 1)).length = k + 1) := Lib.hid (by rw [List.length_take]; omega)
      have hcut := run_take_st b off xs.length c k (by omega)
      generalize ansCells (playAns i o r flash.size (startBs i o r flash input) (xs.take k)) = ys at *
      generalize playBs i o r flash.size (startBs i o r flash input) (xs.take k) = bk at *
      generalize xs.getD k stNone = x at *
      obtain ⟨xk, xa, xn, xv⟩ := x
      simp only at hS hxa d0
      have HS := Lib.hid hS
      have HO := Lib.hid hO
      have HK := Lib.hid hK
      have hw0 := hK
      have k0 : (0 : Int) ≤ (k : Int) := by omega
      have k1 : (k : Int) < (xs.length : Int) := by omega
      by_cases hk0 : xk = 0
      · subst hk0
        have HL := Lib.hid (hHL xa xn hxa)
        have hst : stepAns i o r flash.size bk ⟨0, xa, xn, xv⟩ = loadRes i o r flash.size bk xa xn := rfl
        rw [hst] at HPA
        generalize loadRes i o r flash.size bk xa xn = res at *
        obtain ⟨rv, re⟩ := res
        unfold pairVal at HL
        simp only at HL HPA
        clear hst hcell c0 c1 c2 c3 ht hlk hpa hS hO hK hne hHL hA0
        go_wp2_with fail
        go_region_held3 (fun w' => w'.cell? ⟨w.heap.size, 0, none⟩ = some (.int .i64 i) ∧ w'.cell? ⟨w.heap.size, 1, none⟩ = some (.int .i64 o) ∧ w'.cell? ⟨w.heap.size, 2, none⟩ = some (.int .i64 r) ∧ w'.cell? ⟨w.heap.size, 3, none⟩ = some (.string flash) ∧ w'.cell? ⟨w.heap.size, 4, none⟩ = some (.string input) ∧
          w'.cell? ⟨b, off + k * 4 + 1, none⟩ = some (.int .i64 xa) ∧ w'.cell? ⟨b, off + k * 4 + 2, none⟩ = some (.int .i64 xn) ∧ Below w1.heap.size w1 w')
          (exact HS.out _ (by first | assumption | exact bdrawn1 (by assumption)))
          ((go_at_call 49; refine (HL.out _ (by first | assumption | exact bdrawn1 (by assumption))).mono ?_; rintro e w2 ⟨rfl, hb2⟩; have G2 := bch (by first | assumption | exact bdrawn1 (by assumption)) hb2))
        have hb3 : Below wr.heap.size wr w2 := ⟨hb2.os, hb2.tape, hb2.output, hb2.size, hb2.block⟩
        obtain ⟨v', w3, hrun, ho3, _, _, G3⟩ := ref_step HO.out HK.out (by omega) hb3 rv re
        have hpr : RPlay i o r flash input w1 (xs.take (k + 1)) v' w3 := ⟨G3, by rw [HLK1.out, HPA.out]; exact ho3⟩
        have HPR := Lib.hid hpr
        have HRUN := Lib.hid hrun
        clear hrun ho3 hpr hb2 hb3 G2 G3
        go_wp2_with (at_builtin; refine wpList_app rfl (.tmp 39) (.tmp 43) 69 rfl HRUN.out rfl rfl ?_)
        go_roundw
        case rel => exact ⟨k + 1, by omega, by go_num, HPR.out⟩
        case measure => simp [intOf]; omega
      · have hq : (xk == 0) = false := by rw [beq_eq_false_iff_ne]; exact hk0
        have HST := Lib.hid (HFN.out xa xn true hxa)
        have hst : stepAns i o r flash.size bk ⟨xk, xa, xn, xv⟩ = (0, storeErr i o r flash.size xa xn) := by unfold stepAns; rw [if_neg hk0]
        rw [hst] at HPA
        have hse : storeErr i o r flash.size xa xn = (mmFind (mmRegions i o r flash.size) xa xn true).2 := rfl
        rw [← hse] at HST
        generalize storeErr i o r flash.size xa xn = se at *
        simp only at HPA
        have HSTEP : Hid (∀ w2, Below wr.drew.heap.size wr.drew w2 → _) := Lib.hid (fun w2 hg2 => ref_step (w2 := w2) HO.out HK.out (by omega) (show Below wr.heap.size wr w2 from ⟨hg2.os, hg2.tape, hg2.output, hg2.size, hg2.block⟩) 0 se)
        clear hst hk0 hse hcell c0 c1 c2 c3 ht hlk hpa hS hO hK hne hHL hA0
        go_wp2_with fail
        go_region_held3 (fun w' => w'.cell? ⟨w.heap.size, 0, none⟩ = some (.int .i64 i) ∧ w'.cell? ⟨w.heap.size, 1, none⟩ = some (.int .i64 o) ∧ w'.cell? ⟨w.heap.size, 2, none⟩ = some (.int .i64 r) ∧ w'.cell? ⟨w.heap.size, 3, none⟩ = some (.string flash) ∧ w'.cell? ⟨w.heap.size, 4, none⟩ = some (.string input) ∧
          w'.cell? ⟨b, off + k * 4 + 1, none⟩ = some (.int .i64 xa) ∧ w'.cell? ⟨b, off + k * 4 + 2, none⟩ = some (.int .i64 xn) ∧ Below w1.heap.size w1 w')
          (exact HS.out _ (by first | assumption | exact bdrawn1 (by assumption)))
          (first
            | (go_at_call 50; refine (HST.out _).mono ?_; rintro e w2 ⟨rfl, hg2⟩; obtain ⟨v', w3, hrun, ho3, G2, G2a, G3⟩ := HSTEP.out w2 hg2)
            | (refine step_app rfl (.tmp 45) (.tmp 59) 69 (by rfl) hrun (by rfl) (by rfl) ?_))
        have hpr : RPlay i o r flash input w1 (xs.take (k + 1)) v' w3 := ⟨G3, by rw [HLK1.out, HPA.out]; exact ho3⟩
        have HPR := Lib.hid hpr
        clear hrun ho3 G2 G2a G3 hg2 hpr
        go_wp2_with fail
        go_roundw
        case rel => exact ⟨k + 1, by omega, by go_num, HPR.out⟩
        case measure => simp [intOf]; omega
    · obtain rfl : k = xs.length := by omega
      rw [List.take_length] at hrel
      have HR := Lib.hid hrel
      clear hrel
      go_wp2_with fail
      go_ret
      exact ⟨_, rfl, bch HB1.out HR.out.1, own_base HR.out.2 HB1.out.size⟩
end Go.Proofs.Ytgipelnjbpkfjaa
