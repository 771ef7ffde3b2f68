/- Parts of a proof, joined. No condition but those that each theorem names. -/
import Derived.Handy
import Derived.Test.YtfibdoehmndinaaGreatDoorTfG0e12
namespace Go.Proofs.YtfibdoehmndinaaGreatDoor
open Go.RowKit
set_option maxRecDepth 100000
set_option linter.unusedVariables false
section
variable {A:Option Addr} {a b:Value} {c d d' i:Nat} {l:List TTk} {q:Nat} {t:TypeId} {u:Value} {w w':World}
def zL (t:TTk):List Value:=[.int .i64 t.kind,.int .i64 t.pos,.int .i64 t.num,.string t.text]
def z6f:Enc TTk:=zOe 4 zL fun _=>rfl
def TkOk (l:List TTk):Prop:=l.length≤65537∧∀k,k<l.length→((zb2 l k).kind≠0→k+1<l.length)∧(zb2 l k).text.size≤65536∧0≤(zb2 l k).num∧(zb2 l k).num≤4294967295
structure PsAt (w:World) (q:Nat) (A:Option Addr) (c:Nat) (l:List TTk) (i d:Nat):Prop where
 blk:w.heap[q]? = some (.cells #[.slice A l.length c,i,d] 54 (0,0))
 tok:zj z6f w q (.slice A l.length c) l
 pos:i<l.length
 dep:d≤64
 ok:TkOk l
theorem PsAt.lt (h:PsAt w q A c l i d):q<w.heap.size:=zh h.blk
theorem PsAt.keep (h:PsAt w q A c l i d) {row:Option Nat} (hg:w.grownBy w' row) (hr:∀g,row=some g→q<g):PsAt w' q A c l i d:=by
 have hq:=h.lt;refine⟨?_,h.tok.keep (Nat.le_refl _) fun p hp=>World.cell?_of_block (hg.block _ (by omega) (fun e=>by have:=hr _ e.symm;omega)),h.pos,h.dep,h.ok⟩;rw[hg.block q hq (fun e=>by have:=hr _ e.symm;omega)];exact h.blk
theorem PsAt.below (h:PsAt w q A c l i d) (hb:Below w.heap.size w w'):PsAt w' q A c l i d:=h.keep (zeK (r:=none) hb) (by simp)
theorem PsAt.setX (h:PsAt w q A c l i d) {X:Nat} (hX:q<X) (k:Nat) (u:Value):PsAt (w.setCell ⟨X,k,none⟩ u) q A c l i d :=
 h.keep (zjV w ⟨X,k,none⟩ u) (fun g e=>by injection e with e;have e2:X=g:=e;omega)
def qS (q:Nat):Nat→Prop:=fun x=>x=q
theorem PsAt.put {i':Nat} (h:PsAt w q A c l i d) (hg:Kp (qS q) w w') (hb:w'.heap[q]? = some (.cells #[.slice A l.length c,i',d'] 54 (0,0))) (hi:i'<l.length) (hd:d'≤64):PsAt w' q A c l i' d' :=
 ⟨hb,h.tok.keep (Nat.le_refl _) fun p hp=>World.cell?_of_block (by
  have hlt:p.block<w.heap.size:=by have:=h.lt;omega
  rw[Array.getElem?_eq_getElem hlt]
  exact hg.blk _ _ (fun e=>by have e2:p.block=q:=e;omega) (Array.getElem?_eq_getElem hlt)),hi,hd,h.ok⟩
theorem zUc {c:Value} (h:w.heap[q]? = some (.cells #[a,b,c] t (0,0))):(w.setCell ⟨q,1,none⟩ u).heap[q]? = some (.cells #[a,u,c] t (0,0)):=by simpa using zPw h 1 u
theorem zms {c:Value} (h:w.heap[q]? = some (.cells #[a,b,c] t (0,0))):(w.setCell ⟨q,2,none⟩ u).heap[q]? = some (.cells #[a,b,u] t (0,0)):=by simpa using zPw h 2 u
theorem PsAt.put1 (h:PsAt w q A c l i d) (hi:i+1<l.length):PsAt (w.setCell ⟨q,1,none⟩ (.int .i64 ((i:Int)+1))) q A c l (i+1) d :=
 h.put ((Kp.refl (qS q) w).set _ (Or.inl rfl)) (zUc h.blk) hi h.dep
theorem PsAt.put2 (h:PsAt w q A c l i d) {v:Int} (hv:v=(d':Int)) (hd:d'≤64):PsAt (w.setCell ⟨q,2,none⟩ (.int .i64 v)) q A c l i d':=by
 subst hv;exact h.put ((Kp.refl (qS q) w).set _ (Or.inl rfl)) (zms h.blk) h.pos hd
def zci (E P:Int):Value:=.iface 50 (.agg #[.int .i64 E,.int .i64 P])
def zt {T:Type} (q:Nat) (A:Option Addr) (c:Nat) (l:List TTk) (R:World→Value→T→Prop) (i dd s:Nat) (r:PR T) (W:World) (e:Ending) (w':World):Prop:=match r with
 | some x=>(∃u,e=.returned u∧R w' u x.1)∧PsAt w' q A c l x.2.1 x.2.2∧Kp (qS q) W w'∧x.2.2=dd∧i+s≤x.2.1
 | none=>(∃E P,e=.panicked [{ v:=zci E P,recovered:=false }]∧E≠0)∧Kp (qS q) W w'
def zth (_:World) (_:Value) (_:Unit):Prop:=True
def RInt (_:World) (u:Value) (t:Int):Prop:=u=.int .i64 t
def RTk (_:World) (u:Value) (t:TTk):Prop:=u=.agg (zL t).toArray∧t.text.size≤65536∧0≤t.num∧t.num≤4294967295
def RTy (_:World) (u:Value) (t:TTy):Prop:=u=.agg #[.int .i64 t.elem,.int .i64 t.len,.int .i64 t.label]
def RPa (_:World) (u:Value) (t:TPa):Prop:=u=.agg (zRA t).toArray∧t.name.size≤65536
theorem zO6 {B:Nat} (h:zj z6f w B (.slice A l.length c) l) (k:Nat) (hk:k<l.length) :
  ∃b off,A=some ⟨b,off,none⟩∧b<B∧∀(j:Nat) (u:Value),(zL (zb2 l k))[j]? = some u→w.cell? ⟨b,off+k*4+j,none⟩=some u:=by
 obtain⟨A',c',e,_,hx⟩:=h;injection e with e1 e2 e3;subst e1;obtain⟨b,off,es,e4,hb,rfl,hcell⟩:=hx k _ (ztr l k zg6 hk);exact⟨b,off,e4,hb,hcell⟩
end
end Go.Proofs.YtfibdoehmndinaaGreatDoor
namespace Go.Proofs.YtfibdoehmndinaaGreatDoor
open Go Go.RowKit
set_option linter.unusedVariables false
theorem ppS {T U:Type} {q:Nat} {A:Option Addr} {c:Nat} {l:List TTk} {R:World→Value→T→Prop} {i dd s:Nat} {r:PR T} {W w:World} {e:Ending} {t:T} {j d:Nat} {f:T→Nat→Nat→PR U} {r0:PR U} (h:zt q A c l R i dd s r W e w) (hq:r=some (t,j,d)) (H:Jd (PB r f=r0)) :
  (∃u,e=.returned u∧R w u t)∧Jd (PsAt w q A c l j d)∧Kp (qS q) W w∧dd=d∧Jd (i+s≤j)∧Jd (f t j d=r0):=by
 subst hq;obtain⟨h1,h2,h3,h4,h5⟩:=h;exact⟨h1,hI h2,h3,h4.symm,hI h5,hI H.out⟩
theorem ppT {T:Type} {q:Nat} {A:Option Addr} {c:Nat} {l:List TTk} {R:World→Value→T→Prop} {i dd s:Nat} {r:PR T} {W w:World} {e:Ending} {t:T} {j d:Nat} (h:zt q A c l R i dd s r W e w) (hq:r=some (t,j,d)) :
  (∃u,e=.returned u∧R w u t)∧Jd (PsAt w q A c l j d)∧Kp (qS q) W w∧dd=d∧Jd (i+s≤j):=by
 subst hq;obtain⟨h1,h2,h3,h4,h5⟩:=h;exact⟨h1,hI h2,h3,h4.symm,hI h5⟩
end Go.Proofs.YtfibdoehmndinaaGreatDoor
