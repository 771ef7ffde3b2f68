/- Parts of a proof. No condition but those that each theorem names. -/
import Derived.Tactics2
import Derived.Test.YtfibdoehmndinaaGreatDoorTfG0e2
import Derived.Test.YtfibdoehmndinaaGreatDoorTfG0e3
namespace Go.Proofs.YtfibdoehmndinaaGreatDoor
open Go Go.RowKit
set_option linter.unusedVariables false
section
variable {P:Program} {ops:Array Oper} {Q:Exit→Act→World→Prop} {md:Region.Mode} {S:World→Prop} {L:Nat} {oi:Oper} {n:Nat} {listed:Array Bool} {a:Act} {w:World}
theorem tk (i d:Nat) (v:Value) (hv:∀w,S w→(execOp a.eval oi).run P w=.ok (.value v) w) (hS:S w)
  (h:zL4 P md ops Q S L n (listed.setIfInBounds i true) (a.put (some d) v) w) (hi:ops[i]? = some oi:=by rfl) (hd:oi.dst=some d:=by rfl)
  (hs:Region.noSelect ops=true:=by kernel_rfl) (hf:Region.free md ops listed i=true:=by kernel_rfl) (hr:(Region.ready md ops listed).contains i=true:=by kernel_rfl) (hw:zg4 md ops L i=true:=by kernel_rfl)
  (hQ:∀c a w,Q (.panic c) (a.put (some d) v) w→Q (.panic c) a w:=by exact fun _ _ _ h=>h) (hy:Region.wanted oi (yielded ops a.tmps)=true:=by rfl):zL4 P md ops Q S L (n+1) listed a w :=
 zM8 (some d) v hi hd hs hf hr hw hQ hy hv hS h
theorem tg (i d:Nat) (v:Value) (hS:S w)
  (h:zL4 P md ops Q S L n (listed.setIfInBounds i true) (a.put (some d) v) w) (hi:ops[i]? = some oi:=by rfl) (hd:oi.dst=some d:=by rfl)
  (hv:∀w,S w→(execOp a.eval oi).run P w=.ok (.value v) w:=by intro wz hSz;(try dsimp only at hSz);go_simp)
  (hs:Region.noSelect ops=true:=by kernel_rfl) (hf:Region.free md ops listed i=true:=by kernel_rfl) (hr:(Region.ready md ops listed).contains i=true:=by kernel_rfl) (hw:zg4 md ops L i=true:=by kernel_rfl)
  (hQ:∀c a w,Q (.panic c) (a.put (some d) v) w→Q (.panic c) a w:=by exact fun _ _ _ h=>h) (hy:Region.wanted oi (yielded ops a.tmps)=true:=by rfl):zL4 P md ops Q S L (n+1) listed a w :=
 zM8 (some d) v hi hd hs hf hr hw hQ hy hv hS h
theorem wD (h:Q .normal a w) (n:Nat) (hr:Region.ready md ops listed=[]:=by kernel_rfl):zL4 P md ops Q S L n listed a w:=zqr hr h n
theorem wL {id:Nat} (S:World→Prop) (L:Nat) (h:zL4 P .any ops Q S L ops.size (Array.replicate ops.size false) a w.drew) (hm:P.follows .mixedOrders=true:=by kernel_rfl):(Code.region id ops true).wp P Q a w:=z1a S L hm h
theorem tkn (i:Nat) (v:Value) (hv:∀w,S w→(execOp a.eval oi).run P w=.ok (.value v) w) (hS:S w)
  (h:zL4 P md ops Q S L n (listed.setIfInBounds i true) (a.put none v) w) (hi:ops[i]? = some oi:=by rfl) (hd:oi.dst=none:=by rfl)
  (hs:Region.noSelect ops=true:=by kernel_rfl) (hf:Region.free md ops listed i=true:=by kernel_rfl) (hr:(Region.ready md ops listed).contains i=true:=by kernel_rfl) (hw:zg4 md ops L i=true:=by kernel_rfl)
  (hQ:∀c a w,Q (.panic c) (a.put none v) w→Q (.panic c) a w:=by exact fun _ _ _ h=>h) (hy:Region.wanted oi (yielded ops a.tmps)=true:=by rfl):zL4 P md ops Q S L (n+1) listed a w :=
 zM8 none v hi hd hs hf hr hw hQ hy hv hS h
theorem wone (i:Nat) {n:Nat} {listed:Array Bool} {a:Act} {w:World} {oi:Oper}
  (h:∀K:Act→World→Prop,Jd (∀a' w',(i≠L→S w')→zL4 P md ops Q S L n (listed.setIfInBounds i true) a' w'→K a' w')→Oper.wp P oi a w K Q) (hr:Region.ready md ops listed=[i]:=by kernel_rfl) (hi:ops[i]? = some oi:=by rfl) (hw:Region.wanted oi (yielded ops a.tmps)=true:=by rfl):zL4 P md ops Q S L (n+1) listed a w :=
 zOF hr hi fun K hK=>by rw[if_pos hw];exact h K hK
abbrev oS (i d:Nat) (v:Value):Nat×Option Tmp×Option Value:=(i,some d,some v)
abbrev oN (i d:Nat):Nat×Option Tmp×Option Value:=(i,some d,none)
theorem tks (l:TkL) (k:Nat) {n:Nat} {listed:Array Bool} {a:Act} {w:World} (hr:∀w,S w→z9S P ops w l a) (hS:S w)
  (h:zL4 P md ops Q S L k (zW l listed) (zy l a) w) (hs:Region.noSelect ops=true:=by kernel_rfl) (hQ:∀d v c a w,Q (.panic c) (a.put (some d) v) w→Q (.panic c) a w:=by exact fun _ _ _ _ _ h=>h)
  (hn:n=l.length+k:=by rfl) (ht:z6y md ops L l listed=true:=by kernel_rfl) (hw:zeZ ops l a=true:=by kernel_rfl):zL4 P md ops Q S L n listed a w :=
 zY hs hQ l k hn ht hw hr hS h
end
section
variable {w:World} {g:Nat} {cs:Array Value} {t:TypeId}
theorem cb2 (h:w.heap[g]? = some (.cells cs t (0,0))) : (w.cell? ⟨g,0,none⟩=cs[0]?∧w.frozen? ⟨g,0,none⟩=false)∧w.cell? ⟨g,1,none⟩=cs[1]?∧w.frozen? ⟨g,1,none⟩=false:=⟨zz h 0,zz h 1⟩
theorem cb3 (h:w.heap[g]? = some (.cells cs t (0,0))) : (w.cell? ⟨g,0,none⟩=cs[0]?∧w.frozen? ⟨g,0,none⟩=false)∧(w.cell? ⟨g,1,none⟩=cs[1]?∧w.frozen? ⟨g,1,none⟩=false)∧w.cell? ⟨g,2,none⟩=cs[2]?∧w.frozen? ⟨g,2,none⟩=false:=⟨zz h 0,zz h 1,zz h 2⟩
theorem cb4 (h:w.heap[g]? = some (.cells cs t (0,0))) : (w.cell? ⟨g,0,none⟩=cs[0]?∧w.frozen? ⟨g,0,none⟩=false)∧(w.cell? ⟨g,1,none⟩=cs[1]?∧w.frozen? ⟨g,1,none⟩=false)∧(w.cell? ⟨g,2,none⟩=cs[2]?∧w.frozen? ⟨g,2,none⟩=false)∧w.cell? ⟨g,3,none⟩=cs[3]?∧w.frozen? ⟨g,3,none⟩=false:=⟨zz h 0,zz h 1,zz h 2,zz h 3⟩
theorem cb5 (h:w.heap[g]? = some (.cells cs t (0,0))) : (w.cell? ⟨g,0,none⟩=cs[0]?∧w.frozen? ⟨g,0,none⟩=false)∧(w.cell? ⟨g,1,none⟩=cs[1]?∧w.frozen? ⟨g,1,none⟩=false)∧(w.cell? ⟨g,2,none⟩=cs[2]?∧w.frozen? ⟨g,2,none⟩=false)∧(w.cell? ⟨g,3,none⟩=cs[3]?∧w.frozen? ⟨g,3,none⟩=false)∧w.cell? ⟨g,4,none⟩=cs[4]?∧w.frozen? ⟨g,4,none⟩=false:=⟨zz h 0,zz h 1,zz h 2,zz h 3,zz h 4⟩
theorem cb6 (h:w.heap[g]? = some (.cells cs t (0,0))) : (w.cell? ⟨g,0,none⟩=cs[0]?∧w.frozen? ⟨g,0,none⟩=false)∧(w.cell? ⟨g,1,none⟩=cs[1]?∧w.frozen? ⟨g,1,none⟩=false)∧(w.cell? ⟨g,2,none⟩=cs[2]?∧w.frozen? ⟨g,2,none⟩=false)∧(w.cell? ⟨g,3,none⟩=cs[3]?∧w.frozen? ⟨g,3,none⟩=false)∧(w.cell? ⟨g,4,none⟩=cs[4]?∧w.frozen? ⟨g,4,none⟩=false)∧w.cell? ⟨g,5,none⟩=cs[5]?∧w.frozen? ⟨g,5,none⟩=false:=⟨zz h 0,zz h 1,zz h 2,zz h 3,zz h 4,zz h 5⟩
theorem cb7 (h:w.heap[g]? = some (.cells cs t (0,0))) : (w.cell? ⟨g,0,none⟩=cs[0]?∧w.frozen? ⟨g,0,none⟩=false)∧(w.cell? ⟨g,1,none⟩=cs[1]?∧w.frozen? ⟨g,1,none⟩=false)∧(w.cell? ⟨g,2,none⟩=cs[2]?∧w.frozen? ⟨g,2,none⟩=false)∧(w.cell? ⟨g,3,none⟩=cs[3]?∧w.frozen? ⟨g,3,none⟩=false)∧(w.cell? ⟨g,4,none⟩=cs[4]?∧w.frozen? ⟨g,4,none⟩=false)∧(w.cell? ⟨g,5,none⟩=cs[5]?∧w.frozen? ⟨g,5,none⟩=false)∧w.cell? ⟨g,6,none⟩=cs[6]?∧w.frozen? ⟨g,6,none⟩=false:=⟨zz h 0,zz h 1,zz h 2,zz h 3,zz h 4,zz h 5,zz h 6⟩
theorem cb8 (h:w.heap[g]? = some (.cells cs t (0,0))) : (w.cell? ⟨g,0,none⟩=cs[0]?∧w.frozen? ⟨g,0,none⟩=false)∧(w.cell? ⟨g,1,none⟩=cs[1]?∧w.frozen? ⟨g,1,none⟩=false)∧(w.cell? ⟨g,2,none⟩=cs[2]?∧w.frozen? ⟨g,2,none⟩=false)∧(w.cell? ⟨g,3,none⟩=cs[3]?∧w.frozen? ⟨g,3,none⟩=false)∧(w.cell? ⟨g,4,none⟩=cs[4]?∧w.frozen? ⟨g,4,none⟩=false)∧(w.cell? ⟨g,5,none⟩=cs[5]?∧w.frozen? ⟨g,5,none⟩=false)∧(w.cell? ⟨g,6,none⟩=cs[6]?∧w.frozen? ⟨g,6,none⟩=false)∧w.cell? ⟨g,7,none⟩=cs[7]?∧w.frozen? ⟨g,7,none⟩=false:=⟨zz h 0,zz h 1,zz h 2,zz h 3,zz h 4,zz h 5,zz h 6,zz h 7⟩
theorem cb9 (h:w.heap[g]? = some (.cells cs t (0,0))) : (w.cell? ⟨g,0,none⟩=cs[0]?∧w.frozen? ⟨g,0,none⟩=false)∧(w.cell? ⟨g,1,none⟩=cs[1]?∧w.frozen? ⟨g,1,none⟩=false)∧(w.cell? ⟨g,2,none⟩=cs[2]?∧w.frozen? ⟨g,2,none⟩=false)∧(w.cell? ⟨g,3,none⟩=cs[3]?∧w.frozen? ⟨g,3,none⟩=false)∧(w.cell? ⟨g,4,none⟩=cs[4]?∧w.frozen? ⟨g,4,none⟩=false)∧(w.cell? ⟨g,5,none⟩=cs[5]?∧w.frozen? ⟨g,5,none⟩=false)∧(w.cell? ⟨g,6,none⟩=cs[6]?∧w.frozen? ⟨g,6,none⟩=false)∧(w.cell? ⟨g,7,none⟩=cs[7]?∧w.frozen? ⟨g,7,none⟩=false)∧w.cell? ⟨g,8,none⟩=cs[8]?∧w.frozen? ⟨g,8,none⟩=false:=⟨zz h 0,zz h 1,zz h 2,zz h 3,zz h 4,zz h 5,zz h 6,zz h 7,zz h 8⟩
end
end Go.Proofs.YtfibdoehmndinaaGreatDoor
