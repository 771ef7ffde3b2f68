/- Parts of a proof. No condition but those that each theorem names. -/
import Derived.OpenShut
import Derived.Below
import Derived.Lib.Hide
import Derived.Laws.OwnMore
import Derived.Deep.QuietTactic
import Derived.Deep.AppendLies
import Derived.Test.YtfibdoehmndinaaGreatDoorTfG0e0
namespace Go.Proofs.YtfibdoehmndinaaGreatDoor
open Go.RowKit
theorem bch {a b c:World} (h:Below a.heap.size a b) (k:Below b.heap.size b c):Below a.heap.size a c:=h.trans (k.mono h.size)
theorem bal {a w:World} (h:Below a.heap.size a w) (o:Obj):Below a.heap.size a (w.alloc o):=h.alloc h.size o
theorem bnew (w:World) (o:Obj):Below w.heap.size w (w.alloc o):=(Below.refl _ _).alloc (Nat.le_refl _) o
theorem zh {w:World} {g:Nat} {o:Obj} (h:w.heap[g]? = some o):g<w.heap.size:=by
 rcases Nat.lt_or_ge g w.heap.size with h1 | h1
 · exact h1
 · rw[Array.getElem?_eq_none h1] at h;cases h
theorem zz {w:World} {g:Nat} {cs:Array Value} {t:TypeId} (h:w.heap[g]? = some (.cells cs t (0,0))) (i:Nat):w.cell? ⟨g,i,none⟩=cs[i]?∧w.frozen? ⟨g,i,none⟩=false :=
 ⟨cell_of_row w g i cs t (0,0) h,by simp[World.frozen?,h]⟩
theorem zm3 {k:IntKind} {a b:Int} (h:a=b):Ending.returned (.int k a)=.returned (.int k b):=by rw[h]
theorem zI {a b:Bool} (h:a=b):Ending.returned (.bool a)=.returned (.bool b):=by rw[h]
structure Enc (T:Type) where
 size:Nat
 rep:World→Nat→List Value→T→Prop
 len:∀{w B es t},rep w B es t→es.length=size
 keep:∀{w w' B B' es t},rep w B es t→B≤B'→(∀p:Addr,p.block<B→w'.cell? p=w.cell? p)→rep w' B' es t
def zOe {T:Type} (n:Nat) (f:T→List Value) (h:∀t,(f t).length=n):Enc T :=
 ⟨n,fun _ _ es t=>es=f t,fun e=>by rw[e];exact h _,fun e _ _=>e⟩
section
variable {T:Type} (E:Enc T) {w w':World} {B B':Nat}
def zj (w:World) (B:Nat) (v:Value) (l:List T):Prop :=
 ∃A c,v=.slice A l.length c∧l.length≤c∧∀(k:Nat) (t:T),l[k]? = some t→∃b off es,A=some ⟨b,off,none⟩∧b<B∧E.rep w B es t ∧
  ∀(j:Nat) (u:Value),es[j]? = some u→w.cell? ⟨b,off+k*E.size+j,none⟩=some u
variable {E}
theorem zj.keep {v:Value} {l:List T} (h:zj E w B v l) (hB:B≤B') (hk:∀p:Addr,p.block<B→w'.cell? p=w.cell? p):zj E w' B' v l:=by
 obtain⟨A,c,e,hc,h⟩:=h;refine⟨A,c,e,hc,fun k t ht=>?_⟩;obtain⟨b,off,es,e1,h1,h2,h3⟩:=h k t ht;exact⟨b,off,es,e1,by omega,E.keep h2 hB hk,fun j u hu=>(hk _ h1).trans (h3 j u hu)⟩
theorem zj.below {v:Value} {l:List T} (h:zj E w B v l) {C:Nat} (hb:Below C w w') (hB:B≤C):zj E w' B v l :=
 h.keep (Nat.le_refl _) fun _ hp=>hb.cell (Nat.lt_of_lt_of_le hp hB)
theorem zj.next {v:Value} {l:List T} (h:zj E w w.heap.size v l) (hb:Below w.heap.size w w'):zj E w' w'.heap.size v l :=
 h.keep hb.size fun _ hp=>hb.cell hp
theorem zj.drew {v:Value} {l:List T} (h:zj E w B v l):zj E w.drew B v l:=h.keep (Nat.le_refl _) fun _ _=>rfl
theorem zj.nil_ (w:World) (B:Nat):zj E w B (.slice none 0 0) []:=⟨none,0,rfl,Nat.le_refl _,fun k t h=>by simp at h⟩
end
end Go.Proofs.YtfibdoehmndinaaGreatDoor
