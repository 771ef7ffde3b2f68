/- Parts of a proof. No condition but those that each theorem names. -/
import Derived.OrdersHeld
import Derived.RegionTactic
import Derived.Laws.MakeOwn
import Derived.Test.YtfibdoehmndinaaGreatDoorTfG0e3
import Derived.Test.YtfibdoehmndinaaGreatDoorTfG0e6
namespace Go.Proofs.YtfibdoehmndinaaGreatDoor
open Go.RowKit
set_option maxRecDepth 100000
set_option linter.unusedVariables false
section
variable {A:Option Addr} {B:Nat} {T:Type} {c n:Nat} {w:World}
def exSm (x:TEx):Prop:=x.name.size≤65536∧x.args.length≤65536
def stSm (s:TSt):Prop:=s.name.size≤65536∧s.args.length≤65536∧s.body.length≤65536∧s.els.length≤65536
def fuSm (f:TFu):Prop:=f.name.size≤65536∧f.params.length≤65536∧f.body.length≤65536
def zem (x:TEx) (v:Value):List Value:=[.int .i64 x.kind,.int .i64 x.pos,.int .i64 x.num,.string x.name,v]
def zO:Nat→Enc TEx
 | 0=>⟨5,fun _ _ _ _=>False,fun h=>h.elim,fun h _ _=>h⟩
 | n+1=>⟨5,fun w B es t=>exSm t∧∃v,es=zem t v∧zj (zO n) w B v t.args,fun h=>by obtain⟨_,v,rfl,_⟩:=h;rfl,fun h hB hk=>by
  obtain⟨h0,v,e,h1⟩:=h
  exact⟨h0,v,e,h1.keep hB hk⟩⟩
theorem zWx (n:Nat):(zO n).size=5:=by cases n <;> rfl
def zRA (p:TPa):List Value:=[.int .i64 p.pos,.string p.name,.int .i64 p.ty.elem,.int .i64 p.ty.len,.int .i64 p.ty.label,.bool p.out]
def zGc:Enc TPa:=⟨6,fun _ _ es t=>t.name.size≤65536∧es=zRA t,fun h=>by obtain⟨_,rfl⟩:=h;rfl,fun h _ _=>h⟩
def zTK (s:TSt) (va vb ve:Value):List Value:=[.int .i64 s.kind,.int .i64 s.pos,.int .i64 s.most,.string s.name,.int .i64 s.ty.elem,.int .i64 s.ty.len,.int .i64 s.ty.label,va,vb,ve,.bool s.has]
def zM:Nat→Enc TSt
 | 0=>⟨11,fun _ _ _ _=>False,fun h=>h.elim,fun h _ _=>h⟩
 | n+1=>⟨11,fun w B es t=>stSm t∧∃va vb ve,es=zTK t va vb ve∧zj (zO n) w B va t.args∧zj (zM n) w B vb t.body∧zj (zM n) w B ve t.els,fun h=>by obtain⟨_,va,vb,ve,rfl,_⟩:=h;rfl,fun h hB hk=>by
  obtain⟨h0,va,vb,ve,e,h1,h2,h3⟩:=h
  exact⟨h0,va,vb,ve,e,h1.keep hB hk,h2.keep hB hk,h3.keep hB hk⟩⟩
theorem zYp (n:Nat):(zM n).size=11:=by cases n <;> rfl
def zPW (f:TFu) (vp vb:Value):List Value:=[.int .i64 f.pos,.string f.name,vp,.bool f.has,.int .i64 f.res.elem,.int .i64 f.res.len,.int .i64 f.res.label,vb]
def zHM (n:Nat):Enc TFu:=⟨8,fun w B es t=>fuSm t∧∃vp vb,es=zPW t vp vb∧zj zGc w B vp t.params∧zj (zM n) w B vb t.body,fun h=>by obtain⟨_,vp,vb,rfl,_⟩:=h;rfl,fun h hB hk=>by
 obtain⟨h0,vp,vb,e,h1,h2⟩:=h
 exact⟨h0,vp,vb,e,h1.keep hB hk,h2.keep hB hk⟩⟩
def zq:TEx:=.mk 0 0 0 ⟨#[]⟩ []
def zJ:TSt:=.mk 0 0 0 ⟨#[]⟩ ⟨0,0,0⟩ [] [] [] false
theorem ztr (l:List T) (k:Nat) (d:T) (h:k<l.length):l[k]? = some (l.getD k d):=by
 rw[List.getD_eq_getElem?_getD,List.getElem?_eq_getElem h];rfl
theorem zYA {l:List TEx} (h:zj (zO n) w B (.slice A l.length c) l) (k:Nat) (hk:k<l.length) :
  ∃m b off v,n=m+1∧A=some ⟨b,off,none⟩∧b<B∧exSm (l.getD k zq)∧zj (zO m) w B v (l.getD k zq).args ∧
   w.cell? ⟨b,off+k*5,none⟩=some (.int .i64 (l.getD k zq).kind)∧w.cell? ⟨b,off+k*5+1,none⟩=some (.int .i64 (l.getD k zq).pos)∧w.cell? ⟨b,off+k*5+2,none⟩=some (.int .i64 (l.getD k zq).num) ∧
   w.cell? ⟨b,off+k*5+3,none⟩=some (.string (l.getD k zq).name)∧w.cell? ⟨b,off+k*5+4,none⟩=some v:=by
 obtain⟨A',c',e,_,hx⟩:=h
 injection e with e1 e2 e3
 subst e1
 obtain⟨b,off,es,e4,hb,hr,hcell⟩:=hx k _ (ztr l k zq hk)
 cases n with
 | zero=>exact hr.elim
 | succ m =>
  obtain⟨h0,v,rfl,hv⟩:=hr
  exact⟨m,b,off,v,rfl,e4,hb,h0,hv,hcell 0 _ rfl,hcell 1 _ rfl,hcell 2 _ rfl,hcell 3 _ rfl,hcell 4 _ rfl⟩
theorem zM1 {l:List TSt} (h:zj (zM n) w B (.slice A l.length c) l) (k:Nat) (hk:k<l.length) :
  ∃m b off va vb ve,n=m+1∧A=some ⟨b,off,none⟩∧b<B∧stSm (l.getD k zJ)∧zj (zO m) w B va (l.getD k zJ).args∧zj (zM m) w B vb (l.getD k zJ).body∧zj (zM m) w B ve (l.getD k zJ).els ∧
   ∀(j:Nat) (u:Value),(zTK (l.getD k zJ) va vb ve)[j]? = some u→w.cell? ⟨b,off+k*11+j,none⟩=some u:=by
 obtain⟨A',c',e,_,hx⟩:=h
 injection e with e1 e2 e3
 subst e1
 obtain⟨b,off,es,e4,hb,hr,hcell⟩:=hx k _ (ztr l k zJ hk)
 cases n with
 | zero=>exact hr.elim
 | succ m =>
  obtain⟨h0,va,vb,ve,rfl,h1,h2,h3⟩:=hr
  exact⟨m,b,off,va,vb,ve,rfl,e4,hb,h0,h1,h2,h3,hcell⟩
def z12:TPa:=⟨0,⟨#[]⟩,⟨0,0,0⟩,false⟩
theorem zmg {l:List TPa} (h:zj zGc w B (.slice A l.length c) l) (k:Nat) (hk:k<l.length) :
  ∃b off,A=some ⟨b,off,none⟩∧b<B∧(l.getD k z12).name.size≤65536∧∀(j:Nat) (u:Value),(zRA (l.getD k z12))[j]? = some u→w.cell? ⟨b,off+k*6+j,none⟩=some u:=by
 obtain⟨A',c',e,_,hx⟩:=h;injection e with e1 e2 e3;subst e1;obtain⟨b,off,es,e4,hb,⟨h0,rfl⟩,hcell⟩:=hx k _ (ztr l k z12 hk);exact⟨b,off,e4,hb,h0,hcell⟩
theorem zj.shape {E:Enc T} {v:Value} {l:List T} (h:zj E w B v l):∃A c,v=.slice A l.length c∧l.length≤c:=by
 obtain⟨A,c,e,hc,_⟩:=h;exact⟨A,c,e,hc⟩
end
end Go.Proofs.YtfibdoehmndinaaGreatDoor
