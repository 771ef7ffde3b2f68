/- Parts of a proof, joined. No condition but those that each theorem names. -/
import Derived.Test.YtfibdoehmndinaaGreatDoorTfG0e8
import Derived.Test.YtfibdoehmndinaaGreatDoorTfG0e9
import Derived.Test.YtfibdoehmndinaaGreatDoorTfG0e10
namespace Go.Proofs.YtfibdoehmndinaaGreatDoor
open Go.RowKit
set_option maxRecDepth 100000
set_option linter.unusedVariables false
section
variable {B:Nat} {S:Nat→Prop} {W W':World} {a b:List Nat} {m m':TMem} {n:Nat}
structure Kp (S:Nat→Prop) (W W':World):Prop where
 os:W'.os=W.os
 tape:W'.tape=W.tape
 output:W'.output=W.output
 siz:W.heap.size≤W'.heap.size
 blk:∀(q:Nat) (x:Obj),¬S q→W.heap[q]? = some x→W'.heap[q]? = some x
theorem Kp.refl (S:Nat→Prop) (W:World):Kp S W W:=⟨rfl,rfl,rfl,Nat.le_refl _,fun _ _ _ h=>h⟩
theorem Kp.trans {S':Nat→Prop} {W'':World} (h:Kp S W W') (h':Kp S' W' W'') (hs:∀q,q<W.heap.size→S' q→S q):Kp S W W'' :=
 ⟨h'.os.trans h.os,h'.tape.trans h.tape,h'.output.trans h.output,Nat.le_trans h.siz h'.siz,fun q x hq hx=>h'.blk q x (fun h9=>hq (hs q (zh hx) h9)) (h.blk q x hq hx)⟩
theorem Kp.of_below (h:Below W.heap.size W W'):Kp S W W':=⟨h.os,h.tape,h.output,h.size,fun q x _ hx=>(h.block q (zh hx)).trans hx⟩
theorem Kp.below (h:Kp S W W') (hB:B≤W.heap.size) (hs:∀q,S q→B≤q):Below B W W':=by
 refine⟨h.os,h.tape,h.output,h.siz,fun q hq=>?_⟩;have h1:W.heap[q]? = some (W.heap[q]'(by omega)):=Array.getElem?_eq_getElem _;rw[h1];exact h.blk q _ (fun h9=>by have:=hs q h9;omega) h1
theorem Kp.set (h:Kp S W W') {a:Addr} (v:Value) (ha:S a.block∨W.heap.size≤a.block):Kp S W (W'.setCell a v):=by
 refine⟨h.os,h.tape,h.output,by simp[World.setCell];exact h.siz,fun q x hq hx=>?_⟩
 have hne:q≠a.block:=fun e=>by
  rcases ha with h1 | h1
  · exact hq (e ▸ h1)
  have:=zh hx;omega
 rw[Below.heap_setCell W' a v q hne];exact h.blk q x hq hx
theorem MapV.of_block {w w':World} {b:Nat} {f:ByteArray→Option Value} (h:MapV w b n f) (hk:∀x,w.heap[b]? = some x→w'.heap[b]? = some x):MapV w' b n f:=by
 obtain⟨D,⟨es,clock,h1,h2⟩,h3⟩:=h;exact⟨D,⟨es,clock,hk _ h1,h2⟩,h3⟩
structure ClOk (c:TCl):Prop where
 pos:0<c.l.length
 most:c.l.length≤1048576
 val:c.oct=true→∀v∈c.l,0≤v∧v<256
structure zHU (W:World) (B0:Nat) (bs:List Nat) (m:TMem):Prop where
 len:bs.length=m.length
 at_:∀(c:Nat) (a:TCl),m[c]? = some a→∃g,bs[c]? = some g∧B0≤g∧W.heap[g]? = some (zmX a)∧ClOk a
 inj:∀i j g:Nat,bs[i]? = some g→bs[j]? = some g→i=j
def Shp (m m':TMem):Prop:=∀(c:Nat) (a:TCl),m[c]? = some a→∃a',m'[c]? = some a'∧a'.oct=a.oct∧a'.l.length=a.l.length
theorem Shp.refl (m:TMem):Shp m m:=fun c a h=>⟨a,h,rfl,rfl⟩
theorem Shp.trans {m'':TMem} (h:Shp m m') (h':Shp m' m''):Shp m m'':=fun c a hc=>by
 obtain⟨a',h1,h2,h3⟩:=h c a hc
 obtain⟨a'',h4,h5,h6⟩:=h' c a' h1
 exact⟨a'',h4,h5.trans h2,h6.trans h3⟩
theorem zTX {a a':TCl} (h1:a'.oct=a.oct) (h2:a'.l.length=a.l.length) (g:Nat):zVt a' g=zVt a g:=by unfold zVt;rw[h1,h2]
def NmAt (W:World) (nb:Nat) (L:List ByteArray) (env:TEnv) (bs:List Nat) (m:TMem):Prop :=
 ∃fm,MapV W nb L.length fm∧(∀x,fm x≠none→x∈L)∧∀x,match env x with
  | none=>True
  | some c=>∃a g,m[c]? = some a∧bs[c]? = some g∧fm x=some (zVt a g)
def FnAt (W:World) (B fb N n:Nat) (F:ByteArray→Option TFu):Prop :=
 ∃fm,MapV W fb N fm∧∀x,match F x with
  | none=>True
  | some g=>fuSm g∧∃vp vb,fm x=some (.agg (zPW g vp vb).toArray)∧zj zGc W B vp g.params∧zj (zM n) W B vb g.body
def Pre (bs bs':List Nat):Prop:=∃e,bs'=bs++e
theorem Pre.refl (bs:List Nat):Pre bs bs:=⟨[],(List.append_nil _).symm⟩
theorem Pre.trans {c:List Nat} (h:Pre a b) (h':Pre b c):Pre a c:=by
 obtain⟨e,rfl⟩:=h;obtain⟨e',rfl⟩:=h';exact⟨e++e',List.append_assoc ..⟩
theorem Pre.at_ (h:Pre a b) {i g:Nat} (hi:a[i]? = some g):b[i]? = some g:=by
 obtain⟨e,rfl⟩:=h;rw[List.getElem?_append_left (List.getElem?_eq_some_iff.1 hi).1];exact hi
theorem NmAt.step {nb:Nat} {N:List ByteArray} {env:TEnv} {bs bs':List Nat} (h:NmAt W nb N env bs m) (hb:∀x,W.heap[nb]? = some x→W'.heap[nb]? = some x) (hp:Pre bs bs') (hs:Shp m m'):NmAt W' nb N env bs' m':=by
 obtain⟨fm,h1,h0,h2⟩:=h;refine⟨fm,h1.of_block hb,h0,fun x=>?_⟩;have h3:=h2 x;cases e:env x
 case none=>trivial
 rename_i c;rw[e] at h3;obtain⟨a,g,h4,h5,h6⟩:=h3;obtain⟨a',h7,h8,h9⟩:=hs c a h4;exact⟨a',g,h7,hp.at_ h5,by rw[zTX h8 h9];exact h6⟩
theorem FnAt.step {fb N:Nat} {F:ByteArray→Option TFu} (h:FnAt W B fb N n F) (hb:∀x,W.heap[fb]? = some x→W'.heap[fb]? = some x) (hB:Below B W W'):FnAt W' B fb N n F:=by
 obtain⟨fm,h1,h2⟩:=h;refine⟨fm,h1.of_block hb,fun x=>?_⟩;have h3:=h2 x;cases e:F x
 case none=>trivial
 rename_i g;rw[e] at h3;obtain⟨h0,vp,vb,h4,h5,h6⟩:=h3;exact⟨h0,vp,vb,h4,h5.below hB (Nat.le_refl _),h6.below hB (Nat.le_refl _)⟩
end
set_option maxHeartbeats 1000000
theorem zTj (w:World):(zeroValue 84).run Tryz.prog w=.ok .nilIface w:=by kernel_rfl
theorem NmAt.look {W:World} {nb:Nat} {N:List ByteArray} {env:TEnv} {bs:List Nat} {m:TMem} (h:NmAt W nb N env bs m) {x:ByteArray} (hx:x.size≤65536) {c:Nat} (hc:env x=some c) :
  ∃a g,m[c]? = some a∧bs[c]? = some g∧(Instr.lookup 80 (.map (some nb)) (.string x) false).run Tryz.prog W=.ok (zVt a g) W:=by
 obtain⟨fm,h1,_,h2⟩:=h;have h3:=h2 x;rw[hc] at h3;obtain⟨a,g,h4,h5,h6⟩:=h3;refine⟨a,g,h4,h5,?_⟩;have:=h1.look1 Tryz.underlying80 (zTj W) x (by unfold maxLen;omega);rw[h6] at this;exact this
def zDL:Value:=.iface 76 (.agg #[])
theorem zA7 (fr nb:Nat) (fv:Value) (name:ByteArray) (a:TCl) (g:Nat) (ha:ClOk a) (i:Nat) (hi:i<a.l.length) (w:World) (hf:w.heap[fr]? = some (.cells #[fv,.map (some nb)] 82 (0,0)))
  (hl:(Instr.lookup 80 (.map (some nb)) (.string name) false).run Tryz.prog w=.ok (zVt a g) w) :
  Calls Tryz.prog 71 #[.pointer (some ⟨fr,0,none⟩),name,i] w fun e w'=>e=.returned (zVt a g)∧w'=w:=by
 have z1:=(zz hf 1).1;have hm:=ha.most;obtain⟨o,l⟩:=a;simp only at hi hm;have k0:(i:Int)<(l.length:Int):=by omega
 clear ha hf;cases o
 case true=>unfold zVt at hl ⊢;simp only[if_true] at hl ⊢;go_enter Tryz.func71,Tryz.ntmps71;go_wp2_with fail;refine (zRS g l.length hm w).mono ?_;rintro e w2 ⟨rfl,hw⟩;have hw:=hw.symm;subst hw;go_wp2_with fail;go_ret;exact⟨rfl,rfl⟩
 unfold zVt at hl ⊢;simp only[Bool.false_eq_true,if_false] at hl ⊢;go_enter Tryz.func71,Tryz.ntmps71;go_wp2_with fail;refine (z5V g l.length hm w).mono ?_;rintro e w2 ⟨rfl,hw⟩;have hw:=hw.symm;subst hw;go_wp2_with fail;go_ret;exact⟨rfl,rfl⟩
theorem zG7 (fr nb:Nat) (fv:Value) (name:ByteArray) (a:TCl) (g:Nat) (ha:ClOk a) (i:Int) (hi:(a.l.length:Int)≤i) (w:World) (hf:w.heap[fr]? = some (.cells #[fv,.map (some nb)] 82 (0,0)))
  (hl:(Instr.lookup 80 (.map (some nb)) (.string name) false).run Tryz.prog w=.ok (zVt a g) w) :
  Calls Tryz.prog 71 #[.pointer (some ⟨fr,0,none⟩),name,i] w fun e w'=>e=.panicked [{ v:=zDL,recovered:=false }]∧w'=w:=by
 have z1:=(zz hf 1).1;have hm:=ha.most;obtain⟨o,l⟩:=a;simp only at hi hm;clear ha hf;unfold zDL;cases o
 case true=>unfold zVt at hl;simp only[if_true] at hl;go_enter Tryz.func71,Tryz.ntmps71;go_wp2_with fail;refine (zRS g l.length hm w).mono ?_;rintro e w2 ⟨rfl,hw⟩;have hw:=hw.symm;subst hw;go_wp2_with fail;exact⟨rfl,rfl,rfl⟩
 unfold zVt at hl;simp only[Bool.false_eq_true,if_false] at hl;go_enter Tryz.func71,Tryz.ntmps71;go_wp2_with fail;refine (z5V g l.length hm w).mono ?_;rintro e w2 ⟨rfl,hw⟩;have hw:=hw.symm;subst hw;go_wp2_with fail;exact⟨rfl,rfl,rfl⟩
section
variable {B B0:Nat} {F:ByteArray→Option TFu} {L:List ByteArray} {Nf:Nat} {W W' W1 W2:World} {b1 b2 bs bs':List Nat} {env env':TEnv} {fb fr:Nat} {m m' m1 m2:TMem} {n nb:Nat}
section
variable {p:Prop}
theorem uFG (h:p:=by
 rcases k.new g hg with h1 | h1
 · exact h.far g h1
 have:=h.nf.2.2.2;exact⟨by omega,by omega,by omega⟩):p:=h
end
def stIn (L:List ByteArray):Nat→TSt→Prop
 | 0,_=>False
 | n+1,.mk kind _ _ name _ _ body els _=>(kind=1∨kind=2∨kind=6→name∈L)∧(∀s∈body,stIn L n s)∧∀s∈els,stIn L n s
structure EvAt (W:World) (B B0 fr fb nb Nf n:Nat) (L:List ByteArray) (F:ByteArray→Option TFu) (env:TEnv) (bs:List Nat) (m:TMem):Prop where
 frm:W.heap[fr]? = some (.cells #[.map (some fb),.map (some nb)] 82 (0,0))
 nm:NmAt W nb L env bs m
 fn:FnAt W B fb Nf n F
 mem:zHU W B0 bs m
 far:∀g∈bs,g≠fr∧g≠fb∧g≠nb
 le:B≤B0∧B0≤W.heap.size
 nf:nb≠fb∧nb≠fr∧B0≤nb∧nb<W.heap.size
 src:∀x g,F x=some g→(∀p∈g.params,p.name∈L)∧∃d,∀s∈g.body,stIn L d s
 lim:L.length≤1048576
structure EvOk (W:World) (B0:Nat) (bs:List Nat) (m:TMem) (W':World) (bs':List Nat) (m':TMem):Prop where
 pre:Pre bs bs'
 new:∀g∈bs',g∈bs∨W.heap.size≤g
 mem:zHU W' B0 bs' m'
 shp:Shp m m'
 kp:Kp (fun q=>q∈bs) W W'
def zZ8 (W:World) (B0:Nat) (bs:List Nat) (m:TMem) (r:TR (Int×TMem)) (e:Ending) (W':World):Prop:=match r with
 | .ok q=>e=.returned (.int .i64 q.1)∧∃bs',EvOk W B0 bs m W' bs' q.2
 | .trap=>e=.panicked [{ v:=zDL,recovered:=false }]∧Below B0 W W'
 | .bad=>True
structure zNS (W:World) (B0 nb:Nat) (L:List ByteArray) (bs:List Nat) (m:TMem) (W':World) (env':TEnv) (bs':List Nat) (m':TMem):Prop where
 pre:Pre bs bs'
 new:∀g∈bs',g∈bs∨W.heap.size≤g
 mem:zHU W' B0 bs' m'
 nm:NmAt W' nb L env' bs' m'
 shp:Shp m m'
 kp:Kp (fun q=>q∈bs∨q=nb) W W'
def zse (W:World) (B0 nb:Nat) (L:List ByteArray) (bs:List Nat) (m:TMem) (r:TR (Int×TEnv×TMem)) (e:Ending) (W':World):Prop:=match r with
 | .ok q=>e=.returned (.int .i64 q.1)∧∃bs',zNS W B0 nb L bs m W' q.2.1 bs' q.2.2
 | .trap=>e=.panicked [{ v:=zDL,recovered:=false }]∧Below B0 W W'
 | .bad=>True
theorem zHU.mem_le (h:zHU W B0 bs m):∀g∈bs,B0≤g∧g<W.heap.size:=fun g hg=>by
 obtain⟨i,hi⟩:=List.mem_iff_getElem?.1 hg
 have hlt:i<m.length:=by rw[←h.len];exact (List.getElem?_eq_some_iff.1 hi).1
 obtain⟨g',h1,h2,h3,_⟩:=h.at_ i _ (List.getElem?_eq_getElem hlt)
 rw[hi] at h1
 cases h1
 exact⟨h2,zh h3⟩
theorem EvOk.below (h:EvOk W B0 bs m W' bs' m') (hm:zHU W B0 bs m) (hB:B0≤W.heap.size):Below B0 W W':=h.kp.below hB (fun q hq=>(hm.mem_le q hq).1)
theorem FnAt.lt {N:Nat} (h:FnAt W B fb N n F):fb<W.heap.size:=by obtain⟨fm,h1,_⟩:=h;exact h1.lt
theorem EvAt.step (h:EvAt W B B0 fr fb nb Nf n L F env bs m) (k:EvOk W B0 bs m W' bs' m'):EvAt W' B B0 fr fb nb Nf n L F env bs' m':=by
 have hb:=k.below h.mem h.le.2;have hfr:=zh h.frm;have hfb:=h.fn.lt;have hnot:∀q,(∀g∈bs,g≠q)→∀x,W.heap[q]? = some x→W'.heap[q]? = some x:=fun q hq x hx=>k.kp.blk q x (fun h9=>hq q h9 rfl) hx;refine⟨hnot fr (fun g hg=>(h.far g hg).1) _ h.frm,h.nm.step (hnot nb (fun g hg=>(h.far g hg).2.2)) k.pre k.shp,h.fn.step (hnot fb (fun g hg=>(h.far g hg).2.1)) (hb.mono h.le.1),k.mem,fun g hg=>?_,⟨h.le.1,Nat.le_trans h.le.2 k.kp.siz⟩,⟨h.nf.1,h.nf.2.1,h.nf.2.2.1,Nat.lt_of_lt_of_le h.nf.2.2.2 k.kp.siz⟩,h.src,h.lim⟩;exact uFG
theorem EvAt.stepS (h:EvAt W B B0 fr fb nb Nf n L F env bs m) (k:zNS W B0 nb L bs m W' env' bs' m'):EvAt W' B B0 fr fb nb Nf n L F env' bs' m':=by
 have hb:Below B0 W W':=k.kp.below h.le.2 (fun q hq=>by
  rcases hq with hq | hq
  · exact (h.mem.mem_le q hq).1
  rw[hq];exact h.nf.2.2.1)
 have hfr:=zh h.frm;have hfb:=h.fn.lt;have hnot:∀q,q≠nb→(∀g∈bs,g≠q)→∀x,W.heap[q]? = some x→W'.heap[q]? = some x:=fun q h8 hq x hx=>k.kp.blk q x (fun h9=>h9.elim (fun h9=>hq q h9 rfl) h8) hx;refine⟨hnot fr h.nf.2.1.symm (fun g hg=>(h.far g hg).1) _ h.frm,k.nm,h.fn.step (hnot fb h.nf.1.symm (fun g hg=>(h.far g hg).2.1)) (hb.mono h.le.1),k.mem,fun g hg=>?_,⟨h.le.1,Nat.le_trans h.le.2 k.kp.siz⟩,⟨h.nf.1,h.nf.2.1,h.nf.2.2.1,Nat.lt_of_lt_of_le h.nf.2.2.2 k.kp.siz⟩,h.src,h.lim⟩;exact uFG
theorem EvAt.belowS (h:EvAt W B B0 fr fb nb Nf n L F env bs m) (k:zNS W B0 nb L bs m W' env' bs' m'):Below B0 W W':=k.kp.below h.le.2 (fun q hq=>by
 rcases hq with hq | hq
 · exact (h.mem.mem_le q hq).1
 · rw[hq];exact h.nf.2.2.1)
theorem zHU.below (h:zHU W B0 bs m) (hb:Below W.heap.size W W'):zHU W' B0 bs m:=⟨h.len,fun c a hc=>by
 obtain⟨g,h1,h2,h3,h4⟩:=h.at_ c a hc
 exact⟨g,h1,h2,(hb.block g (zh h3)).trans h3,h4⟩,h.inj⟩
theorem EvAt.okS (h:EvAt W B B0 fr fb nb Nf n L F env bs m) (hb:Below W.heap.size W W'):zNS W B0 nb L bs m W' env bs m :=
 ⟨Pre.refl _,fun g hg=>Or.inl hg,h.mem.below hb,h.nm.step (fun x hx=>(hb.block _ (zh hx)).trans hx) (Pre.refl _) (Shp.refl _),Shp.refl _,Kp.of_below hb⟩
theorem EvAt.ok (h:EvAt W B B0 fr fb nb Nf n L F env bs m) (hb:Below W.heap.size W W'):EvOk W B0 bs m W' bs m :=
 ⟨Pre.refl _,fun g hg=>Or.inl hg,h.mem.below hb,Shp.refl _,Kp.of_below hb⟩
theorem zNS.trans {e1 e2:TEnv} (h:zNS W B0 nb L bs m W1 e1 b1 m1) (k:zNS W1 B0 nb L b1 m1 W2 e2 b2 m2):zNS W B0 nb L bs m W2 e2 b2 m2 :=
 ⟨h.pre.trans k.pre,fun g hg=>by
  rcases k.new g hg with h1 | h1
  · exact h.new g h1
  · exact Or.inr (Nat.le_trans h.kp.siz h1),k.mem,k.nm,h.shp.trans k.shp,h.kp.trans k.kp (fun q hq hs=>by
  rcases hs with hs | hs
  · rcases h.new q hs with h1 | h1
    · exact Or.inl h1
    omega
  · exact Or.inr hs)⟩
theorem EvOk.trans (h:EvOk W B0 bs m W1 b1 m1) (k:EvOk W1 B0 b1 m1 W2 b2 m2):EvOk W B0 bs m W2 b2 m2 :=
 ⟨h.pre.trans k.pre,fun g hg=>by
  rcases k.new g hg with h1 | h1
  · exact h.new g h1
  · exact Or.inr (Nat.le_trans h.kp.siz h1),k.mem,h.shp.trans k.shp,h.kp.trans k.kp (fun q hq hs=>by
  rcases h.new q hs with h1 | h1
  · exact h1
  · omega)⟩
structure zOI (k:Nat):Prop where
 val:∀B B0 fr fb nb Nf n d L F env bs m x v W,EvAt W B B0 fr fb nb Nf n L F env bs m→exSm x→zj (zO d) W B v x.args→tVal k F env m x≠.bad →
  Calls Tryz.prog 70 #[.pointer (some ⟨fr,0,none⟩),.agg (zem x v).toArray] W (zZ8 W B0 bs m (tVal k F env m x))
 call:∀B B0 fr fb nb Nf n d L F env bs m x v W,EvAt W B B0 fr fb nb Nf n L F env bs m→exSm x→zj (zO d) W B v x.args→zQ3 k F env m x.name x.args≠.bad →
  Calls Tryz.prog 72 #[.pointer (some ⟨fr,0,none⟩),.agg (zem x v).toArray] W (zZ8 W B0 bs m (zQ3 k F env m x.name x.args))
 block:∀B B0 fr fb nb Nf n d d' L F env bs m l v W,EvAt W B B0 fr fb nb Nf n L F env bs m→zj (zM d) W B v l→(∀s∈l,stIn L d' s)→l.length≤65536→zK k F env m l≠.bad →
  Calls Tryz.prog 24 #[.pointer (some ⟨fr,0,none⟩),v] W (zse W B0 nb L bs m (zK k F env m l))
 stmt:∀B B0 fr fb nb Nf n d d' L F env bs m s va vb ve W,EvAt W B B0 fr fb nb Nf n L F env bs m→stSm s→zj (zO d) W B va s.args→zj (zM d) W B vb s.body→zj (zM d) W B ve s.els→stIn L d' s→z8H k F env m s≠.bad →
  Calls Tryz.prog 47 #[.pointer (some ⟨fr,0,none⟩),.agg (zTK s va vb ve).toArray] W (zse W B0 nb L bs m (z8H k F env m s))
end
end Go.Proofs.YtfibdoehmndinaaGreatDoor
