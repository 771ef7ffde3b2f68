/- Parts of a proof. No condition but those that each theorem names. -/
import Derived.Shelf.Strings.BuilderK
import Derived.Test.YtfibdoehmndinaaGreatDoorTfG0e22
namespace Go.Proofs.YtfibdoehmndinaaGreatDoor
open Go.RowKit
set_option maxRecDepth 100000
set_option linter.unusedVariables false
section
variable {g:Nat} {l:List UInt8} {w w0:World}
def BldK (w0:World) (g:Nat) (l:List UInt8) (w:World):Prop :=
 Lib.IsBuilderF 91 5 g g (Lib.byteCells l) w∧Below w0.heap.size w0 w∧w0.heap.size≤g∧g≤w.heap.size
theorem BldK.next {w':World} (h:BldK w0 g l w) (hb:Below w.heap.size w w'):BldK w0 g l w':=by
 have one:∀p,Lib.BuilderAtF 91 5 g g p (Lib.byteCells l) w→Lib.BuilderAtF 91 5 g g p (Lib.byteCells l) w':=by
  rintro p ⟨h1,v,h2,h3,h4⟩;have hg:w.grownBy w' none:=⟨hb.os,hb.tape,hb.output,hb.size,fun i hi _=>hb.block i hi⟩
  refine⟨h1,v,(hb.block g (zh h2)).trans h2,h3.kept hg ?_,h4⟩;cases hv:v.ownBlock
  · exact .inl rfl
  exact .inr (by simp)
 exact⟨h.1.imp (one _) (one _),bch h.2.1 hb,h.2.2.1,Nat.le_trans h.2.2.2 hb.size⟩
theorem BldL.toK (h:BldL w0 g l w):BldK w0 g l w:=⟨Lib.IsBuilderF.of h.1,h.2⟩
theorem zGQ (w0:World) (g:Nat) (l:List UInt8) (t:ByteArray) (w:World) (h:BldK w0 g l w) (hl:l.length+t.size≤140737488355328) :
  Calls Tryz.prog 25 #[.pointer (some ⟨g,0,none⟩),t] w fun e w'=>e=.returned (.tuple #[t.size,.nilIface])∧BldK w0 g (l++t.data.toList) w'∧Below g w w'∧Lib.OthersKept 5 (some g) w w':=by
 refine (Any.Builder_WriteString_k Tryz.bld166 Tryz.bldX g g _ t w h.1 ?_ h.2.2.2).mono ?_
 · rw[Lib.byteCells_length];exact hl
 rintro e w' ⟨rfl,h1,h2,h3⟩;rw[Lib.strCells_eq,←Lib.byteCells_append] at h1;exact⟨rfl,⟨Or.inr h1,h.2.1.trans (h2.mono h.2.2.1),h.2.2.1,Nat.le_trans h.2.2.2 h2.size⟩,h2,h3⟩
theorem ztz (w0:World) (g:Nat) (l:List UInt8) (w:World) (h:BldK w0 g l w) :
  Calls Tryz.prog 27 #[.pointer (some ⟨g,0,none⟩)] w fun e w'=>e=.returned (.string ⟨l.toArray⟩)∧Below w0.heap.size w0 w':=by
 refine (Any.Builder_String_any_f Tryz.bld169 Tryz.bldX g g l w h.1 h.2.2.2).mono ?_;rintro e w' ⟨rfl,h2⟩;exact⟨rfl,h.2.1.trans (h2.2.mono h.2.2.1)⟩
theorem BldK.obj (h:BldK w0 g l w):∃p v,w.heap[g]? = some (.cells #[p,v] 91 (0,0)):=by
 rcases h.1 with⟨_,v,h1,_⟩ | ⟨_,v,h1,_⟩
 · exact⟨_,v,h1⟩
 exact⟨_,v,h1⟩
end
end Go.Proofs.YtfibdoehmndinaaGreatDoor
