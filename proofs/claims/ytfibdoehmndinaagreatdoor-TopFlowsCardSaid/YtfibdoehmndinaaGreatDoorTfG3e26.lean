/- Parts of a proof, joined. No condition but those that each theorem names. -/
import Derived.Test.YtfibdoehmndinaaGreatDoorTfG0e22
import Derived.Test.YtfibdoehmndinaaGreatDoorTfShpF
namespace Go.Proofs.YtfibdoehmndinaaGreatDoor
open Go.RowKit
set_option maxRecDepth 100000
set_option linter.unusedVariables false
set_option maxHeartbeats 1000000
theorem z4j {nm:ByteArray→Bool} {nc np:Nat} {fs:List TFu} {g:TFu} {K':TKs} (hc:zJx nc zN (fs++[g])=.ok K') (hp:∀f∈fs++[g],tpF nm np f=true)
  {B n:Nat} (hB:∀f∈fs++[g],sts f.body≤B) (hn:B+2+fs.length*(B+4)≤n) (a:ByteArray) (r:Int×TEnv×TMem)
  (hr:zK n (tFm zN (fs++[g])) (zQR a (zU g) zN []).1 (zQR a (zU g) zN []).2 g.body=.ok r) :
  ∀f∈zU g,f.out=true→∃c x,r.2.1 f.name=some c∧r.2.2[c]? = some x∧x.oct=decide (f.ty.elem=2)∧x.l.length=(z0s f.ty).toNat:=by
 have hF:=z9m (fs++[g]) zN K' zN (fun x=>rfl) hc;have hc2:=hc;rw[z3L] at hc2;obtain⟨K,h1,h2⟩:=TR.bind_ok hc2;obtain⟨K2,h3,h4⟩:=TR.bind_ok h2;cases h4;obtain⟨h5,⟨c,hK⟩,G,q,h6,h7,h8⟩:=zYL h3;have hg:zFG (tFm zN (fs++[g])) nm B (0+fs.length) K:=zrZ fs zN 0 K (fun x=>rfl) h1 (fun f hf=>⟨hB f (by simp[hf]),hp f (by simp[hf])⟩) (fun x k hk=>by rw[hF x,hK,zPn,if_neg (fun e=>by rw[e,h5] at hk;cases hk),hk];rfl)
 rw[Nat.zero_add] at hg;have hpg:=hp g (by simp);unfold tpF at hpg;simp only[Bool.and_eq_true,List.all_eq_true] at hpg;obtain⟨_,g1,g2,_⟩:=hpg;have hnames:(zU g).map (fun f=>(f.name,f.ty,f.out))=g.params.map (fun p=>(p.name,p.ty,p.out)):=by unfold zU;rw[zzO,List.map_map];rfl
 obtain⟨e1,L,he,hs⟩:=zQ0 (a:=a) (b:=a) (zU g) g.params zN G zN [] [] [] hnames (fun p hpp=>(g2 p hpp).2) h6 (fun _ _ _ _ _ _=>rfl) ET.none ⟨rfl,rfl,fun i lo h=>by simp at h⟩;have hBg:=hB g (by simp);cases n
 case zero=>omega
 rename_i n;have hst:=(z7e (tFm zN (fs++[g])) nm B n).stmt;unfold zK at hr
 have hb:=zpV (fc:=fun G last s=>zE nc K g G last s) (fs:=fun env m s=>z8H n (tFm zN (fs++[g])) env m s) (lab:=g.res.label) g.body false G q
  (fun s hsl=>hst nc np fs.length K g s hg (g1 s hsl) (by have:=zQV hsl;omega)) h7 _ L _ _ 0 0 he hs ⟨Int.le_refl _,by decide⟩ ⟨Int.le_refl _,by decide⟩ (fun _=>rfl)
 rcases hb with⟨b1,_⟩ | ⟨x,y,b1,b2,L2,e2,s2,q2,t2,_⟩
 · rw[b1] at hr;cases hr
 rw[b1] at hr;cases hr;have hsub:=zCG g.body false G q h7;have hat:=(z0G g.params zN G h6).2;intro f hf ho;have hm:(f.name,f.ty,f.out)∈g.params.map (fun p=>(p.name,p.ty,p.out)):=by rw[←hnames];exact List.mem_map.2 ⟨f,hf,rfl⟩
 obtain⟨p,hpp,hpe⟩:=List.mem_map.1 hm;simp only[Prod.mk.injEq] at hpe;obtain⟨p1,p2,p3⟩:=hpe;have h9:=hsub _ _ (hat p hpp);rw[p1] at h9;obtain⟨_,c,lo,k1,k2,k3⟩:=t2 _ _ h9;obtain⟨u,v,u1,u2,l1,l2,l3,l4,_⟩:=s2.at_ c lo k2;refine⟨c,u,k1,u1,?_,?_⟩
 · rw[l1,k3.oct,p2]
 have hz:=k3.size;simp only[p2] at hz;have hs1:=z3r (t:=f.ty);omega
theorem zNd {f:TFd} (s:ByteArray) (hk:zBp f):ClOk (sCl f s):=by
 obtain⟨k1,k2,k3,k4,k5⟩:=hk;have hm:z0s f.ty=max f.ty.len 1:=rfl;unfold sCl z25 z81;by_cases ho:f.out=true
 · rw[if_pos ho];by_cases he:f.ty.elem=2
   · have:=k3 (Or.inl he);rw[if_pos he];exact⟨by simp;omega,by simp;omega,fun _ v hv=>by obtain⟨_,rfl⟩:=List.mem_replicate.1 hv;omega⟩
   rw[if_neg he];exact⟨by simp;omega,by simp;omega,fun h=>by cases h⟩
 rw[if_neg ho];by_cases he:f.ty.elem=2
 · have:=k3 (Or.inl he);rw[if_pos he];exact⟨by simp;omega,by simp;omega,fun _ v hv=>by obtain⟨j,_,rfl⟩:=List.mem_map.1 hv;have:=z2K s (f.off.toNat+j);omega⟩
 rw[if_neg he];exact⟨by simp;omega,by simp;omega,fun h=>by cases h⟩
theorem z6Q (f:TFd) (s:ByteArray) (hk:zBp f) (ho:0≤f.off) (hs:f.off+z0s f.ty*zcI f.ty≤s.size) (hz:s.size≤1048576) (w:World) :
  Calls Tryz.prog 23 #[.agg #[f.name,f.ty.elem,f.ty.len,f.ty.label,f.out,f.off,f.size],s] w fun e w'=>∃g,e=.returned (zVt (z81 f s) g)∧w.heap.size≤g∧w'.heap[g]? = some (zmX (z81 f s))∧Below w.heap.size w w':=by
 obtain⟨k1,k2,k3,k4,k5⟩:=hk;have hm:z0s f.ty=max f.ty.len 1:=rfl;by_cases he:f.ty.elem=2
 · have hE:zcI f.ty=1:=by unfold zcI;rw[if_pos he]
   exact zuz f s he k4 k5 ho (by rw[hE] at hs;omega) hz w
 have hE:zcI f.ty=4:=by unfold zcI;rw[if_neg he]
 exact zKE f s he k4 k5 ho (by rw[hE] at hs;omega) hz w
theorem zOL (f:TFd) (a:TCl) (g:Nat) (ha:ClOk a) (ho:a.oct=decide (f.ty.elem=2)) (hl:a.l.length=(z0s f.ty).toNat) (hs:f.size=zZ f.ty) (hr:zZ f.ty≤65540) (w:World) (hg:w.heap[g]? = some (zmX a)) :
  Calls Tryz.prog 26 #[.agg #[f.name,f.ty.elem,f.ty.len,f.ty.label,f.out,f.off,f.size],zVt a g] w fun e w'=>e=.returned (.string ⟨(sWr f a).toArray⟩)∧Below w.heap.size w w':=by
 obtain⟨fn,⟨te,tl,tb⟩,fo,ff,fs⟩:=f;obtain⟨ao,l⟩:=a;simp only at ho hl hs hr ⊢;have hm:z0s ⟨te,tl,tb⟩=max tl 1:=rfl;have hwl:=zLu (f:=⟨fn,⟨te,tl,tb⟩,fo,ff,fs⟩) (c:=⟨ao,l⟩) hl hs;simp only at hwl;unfold sWr at hwl ⊢;simp only at hwl ⊢;have hp:=zPF ⟨te,tl,tb⟩;obtain⟨c,hc⟩:∃c,c=fs.toNat-(l.flatMap (z2i (decide (te=2)))).length:=⟨_,rfl⟩
 rw[←hc] at hwl ⊢;rw[List.length_append,List.length_replicate] at hwl;have hfs:fs=(((l.flatMap (z2i (decide (te=2)))).length+c:Nat):Int):=by rw[hwl];omega
 rw[hfs];have hmost:=ha.most;unfold zVt;unfold zmX at hg;subst ho;by_cases he:te=2
 · simp only[he,decide_true,if_true] at hg hwl ⊢;exact zGp fn 2 tl tb fo ff c l g rfl hmost (ha.val (by simp[he])) (by omega) w hg
 simp only[he,decide_false,Bool.false_eq_true,if_false] at hg hwl ⊢;exact zNh fn te tl tb fo ff c l g he hmost (by omega) w hg
set_option maxHeartbeats 2000000
theorem zJe:∀(l:List TFu) (F:ByteArray→Option TFu) (f:TFu),tFm F (l++[f])=zSy (tFm F l) f.name f
 | [],F,f=>rfl
 | g::l,F,f=>zJe l _ f
theorem zJh {T:Type} (l:List T) (k:Nat) (d:T) (h:k<l.length):l.take (k+1)=l.take k++[l.getD k d]:=by
 rw[List.take_succ_eq_append_getElem h,List.getD_eq_getElem?_getD,List.getElem?_eq_getElem h];rfl
theorem zDK (p:List TFu) (h:0<p.length):tFm zN p (p.getD (p.length-1) zg).name=some (p.getD (p.length-1) zg):=by
 have e:=zJh p (p.length-1) zg (by omega);rw[show p.length-1+1=p.length by omega,List.take_length] at e;generalize p.getD (p.length-1) zg=g at *;rw[e,zJe,zPn,if_pos rfl]
theorem MapV.obj {w:World} {b n:Nat} {f:ByteArray→Option Value} (h:MapV w b n f):∃o:Obj,w.heap[b]? = some o∧o.isCells=false:=by
 obtain⟨D,⟨es,clock,h1,_⟩,_⟩:=h;exact⟨_,h1,rfl⟩
section
variable {W W':World} {B B0 fr fb nb Nf n:Nat} {L:List ByteArray} {F:ByteArray→Option TFu} {env:TEnv} {bs:List Nat} {m:TMem}
theorem EvAt.below_ (h:EvAt W B B0 fr fb nb Nf n L F env bs m) (hb:Below W.heap.size W W'):EvAt W' B B0 fr fb nb Nf n L F env bs m:=h.step (h.ok hb)
theorem EvAt.belowG (h:EvAt W B B0 fr fb nb Nf n L F env bs m) {G:Nat} (hb:Below G W W') (h1:fr<G) (h2:fb<G) (h3:nb<G) (h4:∀g∈bs,g<G):EvAt W' B B0 fr fb nb Nf n L F env bs m :=
 ⟨(hb.block fr h1).trans h.frm,h.nm.step (fun x hx=>(hb.block nb h3).trans hx) (Pre.refl _) (Shp.refl _),h.fn.step (fun x hx=>(hb.block fb h2).trans hx) (hb.mono (by have:=h.le;have:=h.nf;omega)),
  ⟨h.mem.len,fun c a hc=>by
   obtain⟨g,k1,k2,k3,k4⟩:=h.mem.at_ c a hc
   exact⟨g,k1,k2,(hb.block g (h4 g (List.mem_of_getElem? k1))).trans k3,k4⟩,h.mem.inj⟩,
  h.far,⟨h.le.1,Nat.le_trans h.le.2 hb.size⟩,⟨h.nf.1,h.nf.2.1,h.nf.2.2.1,Nat.lt_of_lt_of_le h.nf.2.2.2 hb.size⟩,h.src,h.lim⟩
theorem EvAt.fnPut (h:EvAt W B B0 fr fb nb Nf n L F env bs m) (hN:Nf≤1048576) (hB:B≤fb) (hff:fb∉bs∧fb≠fr) {g:TFu} (hs:fuSm g) {vp vb:Value} (h1:zj zGc W B vp g.params) (h2:zj (zM n) W B vb g.body) (hsrc:(∀p∈g.params,p.name∈L)∧∃d,∀s∈g.body,stIn L d s) :
  ∃W',(Instr.mapUpdate 79 (.map (some fb)) (.string g.name) (.agg (zPW g vp vb).toArray)).run Tryz.prog W=.ok () W'∧W.grownBy W' (some fb)∧(∃o:Obj,W.heap[fb]? = some o∧o.isCells=false)∧EvAt W' B B0 fr fb nb (Nf+1) n L (zSy F g.name g) env bs m:=by
 obtain⟨fm,k1,k2⟩:=h.fn;obtain⟨W',r1,r2,r3⟩:=k1.store Tryz.underlying79 (by unfold maxLen;omega) g.name (.agg (zPW g vp vb).toArray) (by unfold maxLen;have:=hs.1;omega);have hblk:∀q y,q≠fb→W.heap[q]? = some y→W'.heap[q]? = some y:=fun q y hq hy=>(r3.block q (zh hy) (fun e=>hq (by injection e))).trans hy;have hbel:Below B W W':=(Below.refl B W).grown r3 (Nat.le_trans h.le.1 h.le.2) (fun j e=>by cases e;exact hB);refine⟨W',r1,r3,k1.obj,hblk fr _ hff.2.symm h.frm,h.nm.step (fun x hx=>hblk nb x h.nf.1 hx) (Pre.refl _) (Shp.refl _),⟨_,r2,fun x=>?_⟩,⟨h.mem.len,fun c a hc=>?_,h.mem.inj⟩,h.far,⟨h.le.1,Nat.le_trans h.le.2 r3.size⟩,⟨h.nf.1,h.nf.2.1,h.nf.2.2.1,Nat.lt_of_lt_of_le h.nf.2.2.2 r3.size⟩,fun x y hy=>?_,h.lim⟩
 · rw[zPn];by_cases e:x=g.name
   · rw[if_pos e];exact⟨hs,vp,vb,by simp only[if_pos e],h1.below hbel (Nat.le_refl _),h2.below hbel (Nat.le_refl _)⟩
   rw[if_neg e];have k3:=k2 x;cases en:F x
   case none=>trivial
   rename_i q;rw[en] at k3;obtain⟨k4,vp',vb',k5,k6,k7⟩:=k3;exact⟨k4,vp',vb',by simp only[if_neg e];exact k5,k6.below hbel (Nat.le_refl _),k7.below hbel (Nat.le_refl _)⟩
 · obtain⟨q,k3,k4,k5,k6⟩:=h.mem.at_ c a hc;exact⟨q,k3,k4,hblk q _ (fun e=>hff.1 (e ▸ List.mem_of_getElem? k3)) k5,k6⟩
 rw[zPn] at hy;by_cases e:x=g.name
 · rw[if_pos e] at hy;cases hy;exact hsrc
 rw[if_neg e] at hy;exact h.src x y hy
end
theorem zgB {PO:Ending→World→Prop} (k:Nat) (v:Value) (c:List PanicEntry) (a:Act) (w:World) (hk:(k != 4 && k != 5)=true) (h:bodyPostD Tryz.prog Tryz.f8 PO (.panic c) (a.put (some k) v) w):bodyPostD Tryz.prog Tryz.f8 PO (.panic c) a w:=by
 simp only[Bool.and_eq_true,bne_iff_ne] at hk;refine zmr ?_ _ _ _ h;show results _ (a.tmps.setIfInBounds k v)=_;unfold results;have h2:(a.tmps.setIfInBounds k v)[4]? = a.tmps[4]? := Array.getElem?_setIfInBounds_ne hk.1;have h3:(a.tmps.setIfInBounds k v)[5]? = a.tmps[5]? := Array.getElem?_setIfInBounds_ne hk.2;rw[Tryz.results8];simp[h2,h3]
def zz2 (w:World) (r:TR (List UInt8)) (e:Ending) (w':World):Prop:=Kp noS w w'∧match r with
 | .ok x=>e=.returned (.tuple #[.string ⟨x.toArray⟩,.int .i64 0])
 | .trap=>e=.returned (.tuple #[.string ⟨#[]⟩,.int .i64 19])
 | .bad=>True
structure EvIn (w:World) (n d:Nat) (L:List ByteArray) (p:List TFu) (A:Option Addr) (c k:Nat) (i o:Int) (s:ByteArray):Prop where
 chk:zJ2 w n d L p A c
 ok:zpD n p=true
 fds:zeL (zU (p.getD (p.length-1) zg)) i o
 siz:(s.size:Int)=i
 main:(p.getD (p.length-1) zg).name=zqL
 nms:∀f∈zU (p.getD (p.length-1) zg),f.name∈L∧f.name.size≤65536
 fin:evS k (tFm zN p) (zU (p.getD (p.length-1) zg)) (p.getD (p.length-1) zg).body s≠.bad
 cel:∀r,zK k (tFm zN p) (zQR s (zU (p.getD (p.length-1) zg)) zN []).1 (zQR s (zU (p.getD (p.length-1) zg)) zN []).2 (p.getD (p.length-1) zg).body=.ok r →
  ∀f∈zU (p.getD (p.length-1) zg),f.out=true→∃c x,r.2.1 f.name=some c∧r.2.2[c]? = some x∧x.oct=decide (f.ty.elem=2)∧x.l.length=(z0s f.ty).toNat
section
variable {A:Option Addr} {B:Nat} {L:List ByteArray} {T:Type} {c:Nat} {f:TFu} {n:Nat} {nm:ByteArray→Bool} {p:List TFu} {s:ByteArray} {t:TTy} {w:World}
theorem zj.mem {E:Enc T} {v:Value} {l:List T} (h:zj E w B v l) (t:T) (ht:t∈l):∃es,E.rep w B es t:=by
 obtain⟨A,c,e,hc,h⟩:=h;obtain⟨k,hk⟩:=List.mem_iff_getElem?.1 ht;obtain⟨b,off,es,e1,h1,h2,h3⟩:=h k t hk;exact⟨es,h2⟩
theorem z6c {f g:T→Nat} {K:Nat}:∀l:List T,(∀x∈l,f x≤K*g x)→lsum f l≤K*szL g l
 | [],_=>Nat.zero_le _
 | x::l,h=>by
  have h1:=h x (by simp)
  have h2:=z6c l (fun y hy=>h y (by simp[hy]))
  simp only[lsum,szL,Nat.mul_add];omega
theorem zMK:∀(n:Nat) (es:List Value) (x:TEx),(zO n).rep w B es x→2+ctX n x≤66000*szX x
 | 0,es,x,h=>h.elim
 | n+1,es,.mk kind pos num name args,h=>by
  obtain⟨⟨h0,_⟩,v,e,h1⟩:=h
  have h2:=z6c (f:=fun x=>2+ctX n x) (g:=szX) (K:=66000) args (fun x hx=>by obtain⟨es,hr⟩:=h1.mem x hx;exact zMK n es x hr)
  have h0:name.size≤65536:=h0
  rw[zMc]
  simp only[ctX]
  omega
theorem zn6:∀(n ln:Nat) (es:List Value) (x:TSt),(zM n).rep w B es x→ln+szS x≤70000→ln+3+ctS n ln x≤276000*szS x
 | 0,ln,es,x,h,_=>h.elim
 | n+1,ln,es,.mk kind pos most name ty args body els has,h,hd=>by
  obtain⟨⟨h0,_⟩,va,vb,ve,e,h1,h2,h3⟩:=h
  have h0:name.size≤65536:=h0
  rw[zTR] at hd ⊢
  have q1:=z6c (f:=fun x=>2+ctX n x) (g:=szX) (K:=66000) args (fun x hx=>by obtain⟨es,hr⟩:=h1.mem x hx;exact zMK n es x hr)
  have q2:=z6c (f:=fun s=>ln+3+ctS n (ln+1) s) (g:=szS) (K:=276000) body (fun x hx=>by
   obtain⟨es,hr⟩:=h2.mem x hx
   have:=z57 szS body x hx
   have:=zn6 n (ln+1) es x hr (by omega);omega)
  have q3:=z6c (f:=fun s=>ln+3+ctS n (ln+1) s) (g:=szS) (K:=276000) els (fun x hx=>by
   obtain⟨es,hr⟩:=h3.mem x hx
   have:=z57 szS els x hx
   have:=zn6 n (ln+1) es x hr (by omega);omega)
  simp only[ctS]
  omega
theorem zeD {es:List Value} (h:(zHM n).rep w B es f) (hd:szF f≤69990):ctF n f≤276000*szF f:=by
 obtain⟨⟨h0,_⟩,vp,vb,e,h1,h2⟩:=h;have e1:szF f=f.params.length+szL szS f.body+1:=by unfold szF;rw[znV]
 rw[e1] at hd ⊢;have q1:=z6c (f:=fun p:TPa=>50+p.name.size) (g:=fun _=>1) (K:=66000) f.params (fun x hx=>by obtain⟨es,hr⟩:=h1.mem x hx;have:=hr.1;omega);rw[zvn] at q1;have q2:=z6c (f:=fun s=>0+3+ctS n (0+1) s) (g:=szS) (K:=276000) f.body (fun x hx=>by obtain⟨es,hr⟩:=h2.mem x hx;have:=z57 szS f.body x hx;have:=zn6 n (0+1) es x hr (by omega);omega)
 unfold ctF ctB;omega
mutual
def nsS:TSt→List ByteArray
 | .mk _ _ _ name _ _ b e _=>name::(nsSs b++nsSs e)
def nsSs:List TSt→List ByteArray
 | []=>[]
 | s::l=>nsS s++nsSs l
end
mutual
theorem zaW:∀s:TSt,(nsS s).length≤szS s
 | .mk _ _ _ _ _ a b e _=>by
  have h1:=zW8 b
  have h2:=zW8 e
  simp only[nsS,szS,List.length_cons,List.length_append];omega
theorem zW8:∀l:List TSt,(nsSs l).length≤szSs l
 | []=>by simp[nsSs,szSs]
 | s::l=>by
  have h1:=zaW s
  have h2:=zW8 l
  simp only[nsSs,szSs,List.length_append];omega
end
theorem zbg:∀(l:List TSt) (s:TSt),s∈l→∀x∈nsS s,x∈nsSs l
 | [],s,h,_,_=>by cases h
 | t::l,s,h,x,hx=>by
  rw[nsSs,List.mem_append]
  rcases List.mem_cons.1 h with rfl | h
  · exact Or.inl hx
  · exact Or.inr (zbg l s h x hx)
theorem zuY:∀(d:Nat) (s:TSt),szS s≤d→(∀x∈nsS s,x∈L)→stIn L d s
 | 0,s,h,_=>by cases s;rw[zTR] at h;omega
 | d+1,.mk kind pos most name ty args body els has,h,hx=>by
  rw[zTR] at h
  rw[nsS] at hx
  refine⟨fun _=>hx name (by simp),fun s hs=>zuY d s (by have:=z57 szS _ _ hs;omega) fun x hxs=>hx x ?_,fun s hs=>zuY d s (by have:=z57 szS _ _ hs;omega) fun x hxs=>hx x ?_⟩
  · exact List.mem_cons_of_mem _ (List.mem_append_left _ (zbg _ s hs x hxs))
  · exact List.mem_cons_of_mem _ (List.mem_append_right _ (zbg _ s hs x hxs))
def nsF (f:TFu):List ByteArray:=f.params.map TPa.name++nsSs f.body
def nsP (p:List TFu):List ByteArray:=p.flatMap nsF
theorem z0n:∀p:List TFu,(nsP p).length≤szL szF p
 | []=>by simp[nsP]
 | f::p=>by
  have h1:=z0n p
  have h2:=zW8 f.body
  unfold nsP at *
  simp only[List.flatMap_cons,List.length_append,szL,nsF,List.length_map,szF];omega
theorem zY6 (hf:f∈p):(∀a∈f.params,a.name∈nsP p)∧∀s∈f.body,∀x∈nsS s,x∈nsP p :=
 ⟨fun a ha=>List.mem_flatMap.2 ⟨f,hf,List.mem_append_left _ (List.mem_map.2 ⟨a,ha,rfl⟩)⟩,fun s hs x hx=>List.mem_flatMap.2 ⟨f,hf,List.mem_append_right _ (zbg _ s hs x hx)⟩⟩
mutual
theorem z26:∀x:TEx,exd x≤2*szX x
 | .mk _ _ _ _ a=>by
  have:=zFC a
  simp only[exd,szX];omega
theorem zFC:∀l:List TEx,exds l≤2*szXs l
 | []=>by simp[exds,szXs]
 | x::l=>by
  have:=z26 x
  have:=zFC l
  simp only[exds,szXs];omega
end
mutual
theorem zlc:∀s:TSt,std s≤2*szS s
 | .mk _ _ _ _ _ a b e _=>by
  have:=zFC a
  have:=zeT b
  have:=zeT e
  simp only[std,szS];omega
theorem zeT:∀l:List TSt,sts l≤2*szSs l
 | []=>by simp[sts,szSs]
 | s::l=>by
  have:=zlc s
  have:=zeT l
  simp only[sts,szSs];omega
end
theorem zqu (s:ByteArray):∀(f i:Nat) (l:List TTk),zZd s f i=some l→l.length≤f
 | 0,i,l,h=>by cases h
 | f+1,i,l,h=>by
  unfold zZd at h
  split at h
  · cases h;simp
  · split at h
    · cases h
    rename_i r hr
    cases hq:zZd s f r.2
    case none=>rw[hq] at h;cases h
    rename_i l'
    rw[hq] at h
    cases h
    have:=zqu s f _ _ hq
    simp only[List.length_cons];omega
theorem ztV (h:zOx s=some p):szL szF p+p.length≤65537:=by
 obtain⟨l,h1,h2⟩:=z3n h
 have h3:∀q:List TFu,szL (fun f=>szF f+1) q=szL szF q+q.length:=fun q=>by
  induction q with
  | nil=>rfl
  | cons x q ih=>simp only[szL,List.length_cons];omega
 rw[h3] at h2;unfold lexS at h1;split at h1
 · cases h1
 have:=zqu s _ _ _ h1;omega
theorem zDI (f:TFu):1≤szF f:=by unfold szF;omega
theorem zdf {n:Int} {b:Bool} (h:z2m n b=true):0≤n∧n≤4294967295:=by
 unfold z2m at h;simp only[Bool.or_eq_true,Bool.and_eq_true,decide_eq_true_eq] at h;omega
theorem z7t (h:zQp t=true):0≤t.len∧t.len≤4294967295:=by
 unfold zQp at h;simp only[Bool.and_eq_true] at h;exact zdf h.2.1
theorem zTv:∀(n:Nat) (s:TSt),tpS nm n s=true→z5i n s
 | 0,s,h=>trivial
 | n+1,.mk kind pos most name ty args body els has,h=>by
  unfold tpS at h
  simp only[Bool.and_eq_true,List.all_eq_true] at h
  obtain⟨h1,h2,h3⟩:=h
  cases ea:zcC kind with
  | none=>rw[ea] at h1;cases h1
  | some sh =>
   rw[ea] at h1
   unfold tpS0 at h1
   simp only[Bool.and_eq_true] at h1
   obtain⟨_,a1,_,_,a2,_⟩:=h1
   have b1:=zdf a1
   have b2:0≤ty.len∧ty.len≤4294967295:=by
    split at a2
    · exact z7t a2
    unfold zEY at a2
    simp only[Bool.and_eq_true,decide_eq_true_eq] at a2
    omega
   exact⟨b1.1,b1.2,b2.1,b2.2,fun t ht=>zTv n t (h2 t ht),fun t ht=>zTv n t (h3 t ht)⟩
theorem zSZ:∀(ps:List TPa) (i o:Int),(z8E i o ps).fine
 | [],i,o=>zT _
 | p::ps,i,o=>by
  unfold z8E
  refine zLw fun _=>?_
  split
  · exact zSZ ps _ _
  · exact zSZ ps _ _
theorem zsK (p:List TFu):(zxP p).fine:=by
 unfold zxP;split
 · exact zY4
 exact zLw fun _=>zLw fun _=>zo (zSZ _ _ _) fun r _=>zLw fun _=>zT _
theorem z6i (hp:∀f∈p,tpF zR n f=true∧sts f.body≤n):(zor n p).fine:=zo (zVL p _ hp) fun K _=>zo (zsK p) fun _ _=>zT _
theorem zoQ (h:zJA n p=0):∀f∈p,tpF zR n f=true:=by
 have h:=zs7.1 h;unfold zWV at h;simp only[Bool.and_eq_true,List.all_eq_true] at h;exact h.1
theorem zrx (h:tpF nm n f=true):(∀s∈f.body,tpS nm n s=true)∧∀a∈f.params,zQp a.ty=true:=by
 unfold tpF at h;simp only[Bool.and_eq_true,List.all_eq_true] at h;exact⟨h.2.1,fun a ha=>(h.2.2.1 a ha).2⟩
def dpP (p:List TFu):Nat:=2*szL szF p+2
theorem zj3 (hf:f∈p):sts f.body≤dpP p:=by
 have h1:=zeT f.body;have h2:=z57 szF p f hf;have h3:szF f=f.params.length+szSs f.body+1:=rfl;unfold dpP;omega
theorem zDo (hp:zOx s=some p) (hs:SpaceTab w) (ht:PowTab w) (hr:zj fuE w w.heap.size (.slice A p.length c) p):zJ2 w (dpP p) (szL szF p) (nsP p) p A c:=by
 have h1:=ztV hp;have h2:=z0n p
 have h3:p.length≤szL szF p:=by
  rw[←zvn p];have:=z6c (f:=fun _:TFu=>1) (g:=szF) (K:=1) p (fun x _=>by have:=zDI x;omega)
  have e:∀q:List TFu,lsum (fun _=>1) q=szL (fun _=>1) q:=fun q=>by
   induction q with
   | nil=>rfl
   | cons x q ih=>simp only[lsum,szL];omega
  rw[e] at this;omega
 have hr2:zj (zHM (dpP p)) w w.heap.size (.slice A p.length c) p:=znO hr (by unfold dpP;omega);refine⟨hs,ht,hr2,by omega,by unfold dpP;omega,?_,by omega,fun f hf=>⟨(zY6 hf).1,fun t hts=>zuY _ t ?_ ((zY6 hf).2 t hts)⟩,fun hpe=>z6i fun f hf=>⟨zoQ hpe f hf,zj3 hf⟩,fun hpe f hf=>?_⟩
 · have:=z6c (f:=ctF (dpP p)) (g:=szF) (K:=276000) p (fun f hf=>by obtain⟨es,hre⟩:=hr2.mem f hf;exact zeD hre (by have:=z57 szF p f hf;omega))
   omega
 · have h4:=z57 szF p f hf;have h5:=z57 szS f.body t hts;have h6:szF f=f.params.length+szSs f.body+1:=rfl;rw[znV] at h6;omega
 have h4:=zrx (zoQ hpe f hf);exact⟨fun t hts=>zTv _ t (h4.1 t hts),fun a ha=>z7t (h4.2 a ha)⟩
theorem zUH:∀(l:List TFd) (i o:Int),zH i o (zH i o l).1=zH i o l
 | [],i,o=>rfl
 | f::l,i,o=>by
  by_cases h:f.out=true
  · have e:zH i o (f::l)=(⟨f.name,f.ty,f.out,o,zZ f.ty⟩::(zH i (min (o+zZ f.ty) 65537) l).1,(zH i (min (o+zZ f.ty) 65537) l).2):=by rw[zH,if_pos h]
    rw[e]
    simp only
    rw[zH,if_pos h]
    simp only
    rw[zUH l]
  · have e:zH i o (f::l)=(⟨f.name,f.ty,f.out,i,zZ f.ty⟩::(zH (min (i+zZ f.ty) 65537) o l).1,(zH (min (i+zZ f.ty) 65537) o l).2):=by rw[zH,if_neg h]
    rw[e]
    simp only
    rw[zH,if_neg h]
    simp only
    rw[zUH l]
theorem ztW (h:0≤t.len):zK7 t=zZ t:=by
 unfold zK7 zZ z0s zcI;by_cases h0:t.len=0
 · rw[if_pos h0,h0];split <;> omega
 rw[if_neg h0];by_cases h2:t.elem=2
 · rw[if_pos h2,if_pos h2];omega
 rw[if_neg h2,if_neg h2];omega
theorem zfC:∀(ps:List TPa) (i o:Int) (r:Int×Int),(∀p∈ps,0≤p.ty.len)→z8E i o ps=.ok r→(zH i o (ps.map sOfP)).2=r∧∀p∈ps,p.ty.elem≠1
 | [],i,o,r,_,h=>by cases h;exact⟨rfl,fun p hp=>by cases hp⟩
 | p::ps,i,o,r,hl,h=>by
  unfold z8E at h
  obtain⟨h1,h2⟩:=zP h
  have h1:p.ty.elem≠1:=by simpa using h1
  rw[ztW (hl p (by simp))] at h2
  rw[List.map_cons]
  by_cases ho:p.out=true
  · rw[if_pos ho] at h2
    obtain⟨a,b⟩:=zfC ps _ _ r (fun q hq=>hl q (by simp[hq])) h2
    refine⟨?_,fun q hq=>?_⟩
    · rw[zH,if_pos (show (sOfP p).out=true from ho)];exact a
    rcases List.mem_cons.1 hq with rfl | hq
    · exact h1
    exact b q hq
  · rw[if_neg ho] at h2
    obtain⟨a,b⟩:=zfC ps _ _ r (fun q hq=>hl q (by simp[hq])) h2
    refine⟨?_,fun q hq=>?_⟩
    · rw[zH,if_neg (show ¬(sOfP p).out=true from ho)];exact a
    rcases List.mem_cons.1 hq with rfl | hq
    · exact h1
    exact b q hq
theorem zid:∀(ps:List TPa) (G G':TGam),zUz G ps=.ok G'→∀p∈ps,(p.out=true→0<p.ty.len)∧p.ty.len≤16384
 | [],G,G',h=>fun p hp=>by cases hp
 | p::ps,G,G',h=>fun q hq=>by
  obtain⟨G1,p1,p2⟩:=TR.bind_ok h
  obtain⟨h1,p3⟩:=zP p2
  obtain⟨h2,p4⟩:=zP p3
  rcases List.mem_cons.1 hq with rfl | hq
  · refine⟨fun ho=>?_,by simpa using h2⟩
    rw[ho] at h1
    simpa using h1
  · exact zid ps _ _ p4 q hq
theorem z4M {d:Nat} (h:zJ2 w n d L p A c) (hk:zpD n p=true) (hB:∀f∈p,sts f.body≤n) :
  ∃i o,zeL (zU (p.getD (p.length-1) zg)) i o∧(∀w' s,zJ2 w' n d L p A c→(s.size:Int)=i→EvIn w' n d L p A c (n+2+p.length*(n+4)) i o s) ∧
   ∀a b,zsb (zU (p.getD (p.length-1) zg)) a b→RR (fun x y=>(x.length:Int)=o∧y.length=x.length∧∀f∈zU (p.getD (p.length-1) zg),f.out=true→f.ty.label=0→∀j:Nat,j<f.size.toNat→x.getD (f.off.toNat+j) 0=y.getD (f.off.toNat+j) 0)
    (evS (n+2+p.length*(n+4)) (tFm zN p) (zU (p.getD (p.length-1) zg)) (p.getD (p.length-1) zg).body a) (evS (n+2+p.length*(n+4)) (tFm zN p) (zU (p.getD (p.length-1) zg)) (p.getD (p.length-1) zg).body b):=by
 obtain⟨hpe,hpos⟩:=zoA hk
 have htp:=zoQ hpe
 have hk2:=hk
 unfold zpD at hk2
 rw[Bool.and_eq_true] at hk2
 obtain⟨_,hk2⟩:=hk2
 obtain⟨ct,hlk⟩:∃ct,zor n p=.ok ct:=by
  cases e:zor n p with
  | ok t=>exact⟨t,rfl⟩
  | trap=>rw[e] at hk2;cases hk2
  | bad=>rw[e] at hk2;cases hk2
 unfold zor at hlk
 obtain⟨K,hK,hlk⟩:=TR.bind_ok hlk
 obtain⟨_,hM,_⟩:=TR.bind_ok hlk
 have hgm:p.getD (p.length-1) zg∈p:=List.mem_of_getElem? (ztr p (p.length-1) zg (by omega))
 obtain⟨es,hsm,_⟩:=h.rep.mem _ hgm
 have hpr:∀a∈(p.getD (p.length-1) zg).params,a.name.size≤65536:=by
  obtain⟨es,_,vp,vb,_,h1,_⟩:=h.rep.mem _ hgm
  intro a ha
  obtain⟨_,h2⟩:=h1.mem a ha
  exact h2.1
 have hin:=(h.ins _ hgm).1
 have e:=zJh p (p.length-1) zg (by omega)
 rw[show p.length-1+1=p.length by omega,List.take_length] at e
 have hlen:(p.take (p.length-1)).length=p.length-1:=by rw[List.length_take];omega
 have hgl:p.getLast? = some (p.getD (p.length-1) zg):=by
  rw[List.getLast?_eq_getElem?]
  exact ztr p (p.length-1) zg (by omega)
 generalize hgg:p.getD (p.length-1) zg=g at *
 generalize p.take (p.length-1)=fs at *
 unfold zxP at hM
 rw[hgl] at hM
 simp only at hM
 obtain⟨hm1,hM⟩:=zP hM
 obtain⟨_,hM⟩:=zP hM
 obtain⟨⟨i,o⟩,hsum,hM⟩:=TR.bind_ok hM
 obtain⟨hm2,_⟩:=zP hM
 have hm1:g.name=zqL:=of_decide_eq_true hm1
 simp only[Bool.and_eq_true,decide_eq_true_eq] at hm2
 have hKK:=hK
 rw[e,z3L] at hKK
 obtain⟨K1,h1,h2⟩:=TR.bind_ok hKK
 obtain⟨K2,h3,h4⟩:=TR.bind_ok h2
 obtain⟨h5,_,G,q,h6,h7,h8⟩:=zYL h3
 have hkd:=(zrx (htp g hgm)).2
 obtain⟨hs1,hs2⟩:=zfC g.params 0 0 (i,o) (fun a ha=>(z7t (hkd a ha)).1) hsum
 have hpl:=zid g.params _ _ h6
 have hnames:(zU g).map (fun f=>(f.name,f.ty,f.out))=g.params.map (fun p=>(p.name,p.ty,p.out)):=by
  unfold zU
  rw[zzO,List.map_map];rfl
 have hfp:∀f∈zU g,∃a∈g.params,a.name=f.name∧a.ty=f.ty∧a.out=f.out:=fun f hf=>by
  have:(f.name,f.ty,f.out)∈(zU g).map (fun f=>(f.name,f.ty,f.out)):=List.mem_map.2 ⟨f,hf,rfl⟩
  rw[hnames] at this
  obtain⟨a,ha,hae⟩:=List.mem_map.1 this
  simp only[Prod.mk.injEq] at hae
  exact⟨a,ha,hae⟩
 have hfl:(zU g).length=g.params.length:=by
  have:=congrArg List.length hnames
  simpa using this
 have hfds:zeL (zU g) i o:=by
  refine⟨fun f hf=>?_,?_,hm2,by rw[hfl];exact hsm.2.1⟩
  · obtain⟨a,ha,_,et,eo⟩:=hfp f hf
    have k1:=hkd a ha
    have k2:=hpl a ha
    have k3:=hs2 a ha
    rw[et] at k1 k2 k3
    rw[eo] at k2
    unfold zQp at k1
    simp only[Bool.and_eq_true,Bool.or_eq_true,decide_eq_true_eq] at k1
    obtain⟨k4,k5,k6⟩:=k1
    have k7:=(zdf k5).1
    rw[if_neg k3] at k6
    unfold zBp
    by_cases e0:f.ty.elem=0
    · exact⟨Or.inl e0,k4,fun h=>by rcases h with h | h;omega;have:=k2.1 h;omega,k7,k2.2⟩
    rw[if_neg e0] at k6
    by_cases e2:f.ty.elem=2
    · rw[if_pos e2] at k6
      simp only[decide_eq_true_eq] at k6
      exact⟨Or.inr e2,k4,fun _=>by omega,k7,k2.2⟩
    rw[if_neg e2] at k6;cases k6
  · show zH 0 0 (zU g)=(zU g,i,o)
    unfold zU
    rw[zUH]
    exact Prod.ext rfl hs1
 have hBn:n+2+fs.length*(n+4)≤n+2+p.length*(n+4):=by
  have:fs.length*(n+4)≤p.length*(n+4):=Nat.mul_le_mul_right _ (by omega)
  omega
 have e65:(zH 0 0 (g.params.map sOfP)).2.2=o:=by rw[hs1]
 have hB2:∀f∈fs++[g],sts f.body≤n:=by rw[←e];exact hB
 have hT2:∀f∈fs++[g],tpF zR n f=true:=by rw[←e];exact htp
 have hK2:zJx n zN (fs++[g])=.ok K:=by rw[←e];exact hK
 have hflow:∀a b,zsb (zU g) a b→RR (fun x y=>(x.length:Int)=o∧y.length=x.length∧∀f∈zU g,f.out=true→f.ty.label=0→∀j:Nat,j<f.size.toNat→x.getD (f.off.toNat+j) 0=y.getD (f.off.toNat+j) 0)
   (evS (n+2+p.length*(n+4)) (tFm zN p) (zU g) g.body a) (evS (n+2+p.length*(n+4)) (tFm zN p) (zU g) g.body b):=fun a b hab=>by
  have:=zfy (nm:=zR) (nc:=n) (np:=n) (fs:=fs) (g:=g) (K':=K) hK2 hT2 (by rw[e65];exact hm2.2) (B:=n) (n:=n+2+p.length*(n+4)) hB2 hBn hab
  rw[e65,←e] at this
  exact this
 refine⟨i,o,hfds,fun w' s hc hs=>⟨hc,hk,hgg ▸ hfds,hs,hgg ▸ hm1,?_,?_,?_⟩,hflow⟩
 · rw[hgg]
   intro f hf
   obtain⟨a,ha,en,_⟩:=hfp f hf
   rw[←en]
   exact⟨hin a ha,hpr a ha⟩
 · rw[hgg]
   rcases hflow s s (fun _ _ _ _ _ _=>rfl) with⟨h9,_⟩ | ⟨x,_,h9,_⟩
   · rw[h9];intro hx;cases hx
   · rw[h9];intro hx;cases hx
 · rw[hgg]
   intro r hr
   rw[e] at hr
   rw[←e] at hr
   exact z4j (nm:=zR) (nc:=n) (np:=n) (fs:=fs) (g:=g) (K':=K) hK2 hT2 (B:=n) (n:=n+2+p.length*(n+4)) hB2 hBn s r (by rw[←e];exact hr)
end
set_option maxHeartbeats 1000000
def sEl (f:TFd) (s:ByteArray) (i:Nat):Int:=if f.ty.elem=2 then ((bAt s (f.off.toNat+i):Nat):Int) else z0N s (f.off.toNat+4*i)
def zUp (f:TFd) (s:ByteArray):List Int:=(List.range (z0s f.ty).toNat).map (sEl f s)
theorem zIV (f:TFd) (s:ByteArray):(zUp f s).length=(z0s f.ty).toNat:=by unfold zUp;rw[List.length_map,List.length_range]
theorem cat3 (s:ByteArray) (T n:Nat) (hn:n=1∨n=4) (h:T+n≤s.size):∃a b c d,s.extract T (T+n)++ByteArray.extract ⟨#[0,0,0]⟩ 0 (4-n)=⟨#[a,b,c,d]⟩∧((le4 a b c d:Nat):Int)=(if n=1 then ((bAt s T:Nat):Int) else z0N s T):=by
 rcases hn with rfl | rfl
 · refine⟨s.data.toList.getD T 0,0,0,0,?_,?_⟩
   · have hl:T<s.data.toList.length:=by simp;omega
     have e:s.extract T (T+1)=⟨#[s.data.toList.getD T 0]⟩:=by
      have e2:(s.extract T (T+1)).data=#[s.data.toList.getD T 0]:=by rw[←Array.toList_inj,ByteArray.data_extract,Array.toList_extract,List.extract_eq_take_drop,Nat.add_sub_cancel_left,List.drop_eq_getElem_cons hl,List.getD_eq_getElem?_getD,List.getElem?_eq_getElem hl];rfl
      cases hx:s.extract T (T+1) with
      | mk d=>rw[hx] at e2;rw[←e2]
     rw[e];rfl
   rw[if_pos rfl];unfold le4 bAt;simp
 refine⟨s.data.toList.getD T 0,s.data.toList.getD (T+1) 0,s.data.toList.getD (T+2) 0,s.data.toList.getD (T+3) 0,?_,?_⟩
 · rw[z6O s T h,show ByteArray.extract ⟨#[0,0,0]⟩ 0 (4-4)=ByteArray.empty by rfl,ByteArray.append_empty]
 rw[if_neg (by decide)];rfl
theorem zMG (n:Nat) (h:n=1∨n=4) (W:World):(Instr.slice 9 (.string ⟨#[0,0,0]⟩) none (some (.int .i64 ((4-n:Nat):Int))) none).run Tryz.prog W=.ok (.string (ByteArray.extract ⟨#[0,0,0]⟩ 0 (4-n))) W:=by
 have e:=run_slice_string (P:=Tryz.prog) W 9 ⟨#[0,0,0]⟩ .i64 .i64 0 ((4-n:Nat):Int) Tryz.underlying9 (by decide) (by omega) (by show ((4-n:Nat):Int)≤3;omega);rcases h with rfl | rfl <;> exact e
theorem z3w (f:TFd) (s:ByteArray) (w:World) (h0:0≤f.off) (h1:f.off+z0s f.ty*zcI f.ty≤s.size) (hz:s.size≤1048576) (hl:f.ty.len≤16384) :
  Calls Tryz.prog 28 #[.agg #[f.name,f.ty.elem,f.ty.len,f.ty.label,f.out,f.off,f.size],s] w (fun (e:Ending) (w':World)=>∃A c,e=.returned (.slice A (zUp f s).length c)∧zj intE (LoW w.heap.size w') w'.heap.size (.slice A (zUp f s).length c) (zUp f s)∧Kp noS w w'):=by
 obtain⟨m,hm⟩:∃m:Nat,z0s f.ty=m:=⟨(z0s f.ty).toNat,by unfold z0s;omega⟩
 obtain⟨n,hn,hne⟩:∃n:Nat,zcI f.ty=n∧(n=1∧f.ty.elem=2∨n=4∧f.ty.elem≠2):=by
  unfold zcI;by_cases h:f.ty.elem=2
  · exact⟨1,by rw[if_pos h];rfl,Or.inl ⟨rfl,h⟩⟩
  exact⟨4,by rw[if_neg h];rfl,Or.inr ⟨rfl,h⟩⟩
 have hn4:n=1∨n=4:=by rcases hne with h | h;exact Or.inl h.1;exact Or.inr h.1
 have hmm:m≤16384:=by have:z0s f.ty=max f.ty.len 1:=rfl;omega
 obtain⟨k,hk⟩:∃k:Nat,f.off=k:=⟨f.off.toNat,by omega⟩
 have hroom:k+m*n≤s.size:=by rw[hm,hn,hk,←Int.natCast_mul] at h1;omega
 have hel:∀i,i<m→∃a b c d,s.extract (k+i*n) (k+i*n+n)++ByteArray.extract ⟨#[0,0,0]⟩ 0 (4-n)=⟨#[a,b,c,d]⟩∧((le4 a b c d:Nat):Int)=sEl f s i:=fun i hi=>by
  have h2:(i+1)*n≤m*n:=Nat.mul_le_mul_right _ hi;rw[Nat.succ_mul] at h2;obtain⟨a,b,c,d,h3,h4⟩:=cat3 s (k+i*n) n hn4 (by omega);refine⟨a,b,c,d,h3,h4.trans ?_⟩;unfold sEl;rw[hk,Int.toNat_natCast];rcases hne with⟨rfl,h5⟩ | ⟨rfl,h5⟩
  · rw[if_pos rfl,if_pos h5,Nat.mul_one]
  rw[if_neg (by decide),if_neg h5,Nat.mul_comm i 4]
 have hse:zUp f s=(List.range m).map (sEl f s):=by unfold zUp;rw[hm,Int.toNat_natCast]
 generalize hvv:sEl f s=vv at *;generalize hPO:(fun (e:Ending) (w':World)=>∃A c,e=.returned (.slice A (zUp f s).length c)∧zj intE (LoW w.heap.size w') w'.heap.size (.slice A (zUp f s).length c) (zUp f s)∧Kp noS w w')=PO;rw[hse] at hPO;clear hse hne h1 h0 hl;obtain⟨fn,⟨te,tl,tb⟩,fo,ff,fs⟩:=f;simp only at hm hn hk ⊢;subst hk;have HPO:=hI hPO;have HEL:=hI hel;have HM:=hI hm;have HN:=hI hn;have HN4:=hI hn4;have HMM:=hI hmm;have HRM:=hI hroom;have HZ:=hI hz;have HF:=hI ((Frm.start (S:=noS) w (fun _ h=>h.elim)).alloc 43 [fn,te,tl,tb,fo,k,fs]);clear hPO hel hm hn hn4 hmm hroom hz hvv;go_enter Tryz.func28,Tryz.ntmps28;go_upto_region 1 with (fail);generalize w.alloc _=v at *;generalize w.heap.size=X at HF ⊢;have x_:=blk7 (HF.o.at_ 0 rfl);go_wp2_with fail;refine (z9g te tl tb _).mono ?_;rintro e v ⟨rfl,hb⟩;replace HF:=hI (HF.o.below hb);clear hb x_;rw[HN.o];obtain⟨x0,x1,x2,x3,x4,x5,x6⟩:=blk7 (HF.o.at_ 0 rfl);go_wp2_with fail;refine (zii te tl tb _).mono ?_;rintro e v ⟨rfl,hb⟩;replace HF:=hI (HF.o.below hb);clear hb x0 x1 x2 x3 x4 x5 x6;rw[HM.o];go_wp2_with fail;have HRW:Jd (RowF z1H noS w v 3 (.slice none 0 0) ((List.range 0).map vv) [(X, 43,[fn,te,tl,tb,fo,k,fs])] []):=hI (RowF.nil_ HF.o);clear HF;go_loopw [5,17] (fun vl vi wr=>∃i:Nat,i≤m∧vi=.int .i64 i∧Jd (RowF z1H noS w wr 3 vl ((List.range i).map vv) [(X, 43,[fn,te,tl,tb,fo,k,fs])] [])) (fun _ vi _=>m-(intOf vi).toNat)
 case atStart=>exact⟨0,Nat.zero_le _,rfl,HRW⟩
 case round =>
  clear HRW;obtain⟨i,hi,rfl,HRW⟩:=hrel;obtain⟨A',c',rfl⟩:=HRW.o.len;rw[List.length_map,List.length_range] at HRW ⊢;have HF:=hI HRW.o.frm;by_cases hlt:i<m
  case pos =>
   have HLT1:=hI hlt;obtain⟨ca,cb,cc,cd,hcat,hval⟩:=HEL.o i hlt;have h2:(i+1)*n≤m*n:=Nat.mul_le_mul_right _ hlt;rw[Nat.succ_mul] at h2;have hT:k+i*n+n≤s.size:=by have:=HRM.o;omega
   have hzz:=HZ.o;have hn9:=HN4.o;have hmul:(i:Int)*(n:Int)=((i*n:Nat):Int):=by rw[Int.natCast_mul]
   generalize i*n=P at *;have v0:IntKind.i64.wrap ((i:Int)*(n:Int))=(P:Int):=by rw[hmul,zF];unfold wrap64;omega
   have v2:IntKind.i64.wrap ((k:Int)+(P:Int))=((k+P:Nat):Int):=by rw[zF];unfold wrap64;omega
   have v3:IntKind.i64.wrap (((k+P:Nat):Int)+(n:Int))=((k+P:Nat):Int)+(n:Int):=by rw[zF];unfold wrap64;omega
   have v4:IntKind.i64.wrap (4-(n:Int))=((4-n:Nat):Int):=by rw[zF];unfold wrap64;omega
   have sl:∀W,(Instr.slice 9 (.string s) (some (.int .i64 ((k+P:Nat):Int))) (some (.int .i64 (((k+P:Nat):Int)+(n:Int)))) none).run Tryz.prog W=.ok (.string (s.extract (k+P) (k+P+n))) W:=fun W=>run_slice_string W 9 s .i64 .i64 _ _ Tryz.underlying9 (by omega) (by omega) (by omega);have sz:min (k+P+n) s.size-(k+P)+min (4-n) 3≤9223372036854775807:=by omega
   have s3:=zMG n hn9;have HCAT:=hI hcat;have HVAL:=hI hval;have HT:=hI hT;have k1:(i:Int)<(m:Int):=by omega
   clear hcat hval hT hlt hi h2 hzz hn9 hmul;have x_:=blk7 (HF.o.at_ 0 rfl);generalize k+P=TT at v2 v3 sl sz HCAT HT;go_wp2_with fail;clear x_;refine wL (fun w'=>w'.heap[X]? = some (.cells #[fn,te,tl,tb,fo,k,fs] 43 (0,0))) 99 ?_;clear HF;replace HRW:=hI HRW.o.drew;generalize wr.drew=v at *;have HF:=hI HRW.o.frm;refine tks [(oS 0 27 (.string s)),(oS 1 28 (.int .i64 ((TT:Nat):Int))),(oS 2 29 (.int .i64 ((TT:Nat):Int))),(oS 3 30 (.int .i64 (n:Int))),(oS 4 31 (.int .i64 ((TT:Int)+(n:Int)))),(oS 5 32 (.string (s.extract TT (TT+n)))),(oS 6 33 (.int .i64 (n:Int))),(oS 7 34 (.int .i64 ((4-n:Nat):Int))),(oS 8 35 (.string (ByteArray.extract ⟨#[0,0,0]⟩ 0 (4-n)))),(oS 9 36 (.string (s.extract TT (TT+n)++ByteArray.extract ⟨#[0,0,0]⟩ 0 (4-n))))] 6 ?_ (HF.o.at_ 0 rfl) ?_
   · intro wz hSz;have hXs:=hSz;exact uKV
   try simp only[zy,zW,Act.put,pA,pB,pC,Option.getD]
   refine wone 10 fun Kz hK=>?_;go_simp;rw[HCAT.o];refine (zrA ca cb cc cd _).mono ?_;rintro e wz ⟨rfl,hwz⟩;replace hwz:=hwz.symm;subst hwz;refine hK.o _ _ (fun _=>HF.o.at_ 0 rfl) ?_;clear hK;try simp only[Act.put,pA,pB,pC]
   refine tks [(oS 11 26 (.tuple #[.int .i64 ((le4 ca cb cc cd:Nat):Int),true])),(oS 12 38 (.int .i64 ((le4 ca cb cc cd:Nat):Int))),(oS 13 39 (.bool true)),(oS 14 9 (.int .i64 ((le4 ca cb cc cd:Nat):Int))),(oS 15 10 (.bool true))] 0 ?_ (HF.o.at_ 0 rfl) ?_
   · intro wz hSz;have hXs:=hSz;refine⟨zQ rfl ?_,zQ rfl ?_,zQ rfl ?_,zQ rfl ?_,zQ rfl ?_,trivial⟩;all_goals (simp only[Act.put,pA,pB,pC,Option.getD];go_simp)
   try simp only[zy,zW,Act.put,pA,pB,pC,Option.getD]
   refine wD ?_ _;rw[HVAL.o];clear v0 v2 v3 v4 sl s3 sz;have HRWt:=HRW;obtain⟨v9,v,hrun,hrow,hg⟩:=HRWt.o.app 44 (.int .i64 0) 1 8 rfl Tryz.underlying44 zEz rfl (by decide) (by decide) (by rw[List.length_map,List.length_range];have:=HLT1.o;have:=HMM.o;omega) (es:=[.int .i64 (vv i)]) (x:=vv i) (fun M B _=>rfl) rfl (by intro u hu;simp at hu;rw[hu];rfl);rw[show (List.range i).map vv++[vv i]=(List.range (i+1)).map vv by rw[List.range_succ,List.map_append];rfl] at hrow;obtain⟨A9,c9,rfl⟩:=hrow.len;rw[List.length_map,List.length_range] at hrow hrun;have HRUN:=hI hrun;have HRW9:=hI hrow;clear hrun hrow hg;have hz0:(0:Int)≤(i:Int):=by omega
   have hz1:(i:Int)<65537:=by have:=HLT1.o;have:=HMM.o;omega
   go_wp2_with (at_builtin;refine zEF rfl (.tmp 40) (.tmp 42) 44 rfl HRUN.o rfl rfl ?_);go_roundw
   case rel=>exact⟨i+1,HLT1.o,rfl,HRW9⟩
   case measure=>simp only[intOf];have:=HLT1.o;omega
  obtain rfl:i=m:=by omega
  clear hi hlt;go_wp2_with fail;rw[←HPO.o];have hd:=(HRW.o.done.less (List.nil_sublist _) (fun T hT=>hT))
  refine⟨A',c',by rw[List.length_map,List.length_range];rfl,?_,hd.kp⟩;rw[List.length_map,List.length_range];exact hd.tr _ (List.mem_cons_self ..)
end Go.Proofs.YtfibdoehmndinaaGreatDoor
namespace Go.Proofs.YtfibdoehmndinaaGreatDoor
open Go.RowKit Go.Shelf
set_option linter.unusedVariables false
set_option maxRecDepth 100000
set_option maxHeartbeats 1000000
section
variable {W:World}
attribute [local go_sem] Oper.semAt_some
def liE:Enc (List Int):=⟨1,fun w B es t=>∃v,es=[v]∧zj intE w B v t,fun h=>by obtain⟨v,rfl,_⟩:=h;rfl,fun h hB hk=>by obtain⟨v,e,h⟩:=h;exact⟨v,e,h.keep hB hk⟩⟩
theorem zZ3:zOH liE:=fun h hB hk=>by obtain⟨v,e,h⟩:=h;exact⟨v,e,h.some_ z1H hB hk⟩
theorem zu4:(Tryz.prog.info? 44).map (fun i=>(i.zero,i.size,i.bytes))=some (some (.slice none 0 0),1,24):=by kernel_rfl
theorem zjG {B:Nat} {W':World} {row:Option Nat} (hg:W.grownBy W' row) (hr:∀g,row=some g→∃o:Obj,W.heap[g]? = some o∧o.isCells=true):KeepsFrom B W W' :=
 ⟨hg.size,fun k o _ hk ho=>(hg.block k (zh hk) (fun e=>by
  obtain⟨o',h1,h2⟩:=hr k e.symm
  rw[hk] at h1;cases h1;rw[ho] at h2;cases h2)).trans hk⟩
theorem RowF.ownc {T:Type} {E:Enc T} {hE:zOH E} {w:World} {t:TypeId} {v:Value} {l:List T} {bs:List (Nat×TypeId×List Value)} {ts:List zOU} (h:RowF hE noS W w t v l bs ts) (g:Nat) (hg:v.ownBlock=some g):W.heap.size≤g∧∃cells,w.heap[g]? = some (.cells cells t (0,0)):=by
 refine⟨h.own g hg,?_⟩;rcases h with⟨rfl,_,_⟩ | ⟨g',cap,cells,cs,rfl,_,_,_,h⟩
 · cases hg
 obtain rfl:g'=g:=by simpa [Value.ownBlock] using hg
 exact⟨_,h.blk _ (List.mem_cons_self ..)⟩
theorem zWi (l:List TFd) (i o:Int) (A:Option Addr) (c:Nat) (s:ByteArray) (w:World) (h:zeL l i o) (hs:(s.size:Int)=o) (hx:zj zru w w.heap.size (.slice A l.length c) l) :
  Calls Tryz.prog 9 #[.slice A l.length c,s] w (fun (e:Ending) (w':World)=>∃A' c',e=.returned (.tuple #[.slice A' (sSel true l).length c',.int .i64 0])∧zj liE w' w'.heap.size (.slice A' (sSel true l).length c') ((sSel true l).map (fun f=>zUp f s))∧Kp noS w w'):=by
 have HXX:=hI hx;have HH:=hI h;have HSZ:=hI hs;have HF:=hI ((Frm.start (S:=noS) w (fun _ h=>h.elim)).alloc 9 [s]);generalize hPO:(fun (e:Ending) (w':World)=>∃A' c',e=.returned (.tuple #[.slice A' (sSel true l).length c',.int .i64 0])∧zj liE w' w'.heap.size (.slice A' (sSel true l).length c') ((sSel true l).map (fun f=>zUp f s))∧Kp noS w w')=PO;have HPO:=hI hPO;clear hx h hPO;refine (callsIn_wide (n:=9)).1 ?_;refine callsIn_of_wp_marks Tryz.func9 rfl trivial ?_ rfl;simp only[Tryz.ntmps9,List.size_toArray,List.length_cons,List.length_nil,Nat.reduceAdd,Nat.reduceSub,Array.replicate_succ,Array.replicate_zero,List.push_toArray,List.append_toArray,List.nil_append,List.cons_append];gi_wp2_with fail;generalize w.alloc _=v1 at *;generalize w.heap.size=XO at HF ⊢;refine⟨trivial,(callsIn_wide.2 (z3S l i o A c v1 HH.o (HXX.o.keep HF.o.kp.siz (fun a ha=>(kb HF.o.kp).cell ha)))).mono ?_⟩;rintro e v1 ⟨rfl,hk⟩;replace HF:=hI (HF.o.call hk);clear hk;have o0:=(zz (HF.o.at_ 0 rfl) 0).1;have q1:((s.size:Int) != o)=false:=by rw[hs];simp
 gi_wp2_with fail;clear o0 q1;replace HF:=hI (HF.o.alloc 37 [.slice none 0 0]);generalize v1.alloc _=v2 at *;generalize v1.heap.size=XV at HF ⊢;refine⟨trivial,(za2 Fence.wide 8 trivial rfl A l.length c true v2).mono ?_⟩;rintro e v1 ⟨rfl,hw4⟩;replace hw4:=hw4.symm;replace HF:=hI ((HF.o.alloc 30 [.slice A l.length c]).allocN (v2.heap.size+1) (by simp) 4 [true]);have hs4:v1.heap.size=v2.heap.size+1+1:=by rw[←hw4];simp
 rw[hw4] at HF;clear hw4;generalize v2.heap.size=XL at HF hs4 ⊢;have HS4:=hI hs4;clear hs4;gi_wp2_with fail;have hcl:=(zz (HF.o.at_ 1 rfl) 0).1;have hco:=(zz (HF.o.at_ 0 rfl) 0).1
 refine wpIn_rangeFunc_ownH rfl (by omega) (gf := 45) (lb:=#[.pointer (some ⟨XL,0,none⟩),.pointer (some ⟨XL+1,0,none⟩)]) rfl trivial (enters_of Tryz.func45 (by kernel_rfl) rfl)
  (zIK Fence.wide 8 trivial rfl (by omega) XL (XL+1) w.heap.size A l c true HH.o.len v1 (by have:=HS4.o;omega) (by have:=HS4.o;omega) HF.o.kp.siz hcl hco (HXX.o.keep (Nat.le_refl _) (fun a ha=>(kb HF.o.kp).cell ha)))
  (fun h h2=>h.trans h2) (KpB.put HF.o.kp.siz) (Below.refl _ _) (fun _=>rfl)
  (fun pre W=>∃v,RowF zZ3 noS w W 44 v ((pre.map (fun x=>x.1.1)).map (fun f=>zUp f s)) [(XL+1, 4,[true]),(XL, 30,[.slice A l.length c]),(XV, 37,[v]),(XO, 9,[s])] [])
  (fun cd pre W=>False)
  (fun s A B row hs hg hr=>by obtain⟨v,h⟩:=hs;exact⟨v,h.gr hg (fun r e=>⟨Nat.le_trans HF.o.kp.siz (hr r e).1,(hr r e).2⟩)⟩)
  (fun cd s A B row hs hg hr=>hs)
  ⟨_,RowF.nil_ HF.o⟩
  (fun x a' W=>∃Bx,W.heap[Bx]? = some (.cells #[x.1.1.name,x.1.1.ty.elem,x.1.1.ty.len,x.1.1.ty.label,x.1.1.out,x.1.1.off,x.1.1.size] 43 (0,0))∧a'={ tmps:=List.toArray (.slice A l.length c :: .string s::undef :: .pointer (some ⟨XO,0,none⟩) :: .slice none 0 0 :: .int .i64 0 :: .int .i64 i :: .int .i64 o :: .bool true :: .pointer (some ⟨XV,0,none⟩)::undef :: .pointer (some ⟨Bx,0,none⟩) :: .tuple #[i,o,true] :: .slice A l.length c :: .tuple #[i,o,true] :: .int .i64 i :: .int .i64 o :: .bool true :: .bool true :: .bool false :: .bool false :: .string s :: .int .i64 o :: .int .i64 o :: .bool false :: .bool false :: .slice A l.length c :: .func (.func 45) #[] #[.pointer (some ⟨XL,0,none⟩),.pointer (some ⟨XL+1,0,none⟩)] :: .int .i64 (x.1.2:Int) :: .agg #[x.1.1.name,x.1.1.ty.elem,x.1.1.ty.len,x.1.1.ty.label,x.1.1.out,x.1.1.off,x.1.1.size]::undef::undef::undef::undef::undef::undef::undef::[]),defers:=[] })
  (fun x a' _ X Y row hs hg hr=>by
   obtain⟨Bx,e1,e2⟩:=hs
   exact⟨Bx,(hg.block Bx (zh e1) (fun e=>by
    obtain⟨_,o',h1,h2⟩:=hr Bx e.symm
    rw[e1] at h1;cases h1;cases h2)).trans e1,e2⟩)
  ?assign ?body ?done ?stop
 case assign=>rintro lp pre x W K ⟨v,hR⟩ hK;dsimp only [znH];gi_wp2;exact hK _ _ ((KeepsOthers.alloc _ _).from _) (KpB.alloc hR.kp.siz _) ⟨v,hR.below (bnew _ _)⟩ ⟨W.heap.size,heap_alloc_new W _,rfl⟩
 case body =>
  rintro lp pre x a' v2 hl ⟨rr,hr⟩ ⟨v,hR⟩ ⟨Bx,hBx,rfl⟩ hlt;obtain⟨⟨⟨fn,⟨te,tl,tb⟩,fo,ff,fs⟩,kk⟩,hm,ho⟩:=x;simp only at hBx hm ho ⊢;obtain rfl:fo=true:=ho;obtain⟨A1,c1,hv⟩:=hR.len;subst hv;obtain⟨f1,f2,f3,f4,f5,f6⟩:=HH.o.at_ _ hm;have hmost:=HH.o.most;have hkd:=(HH.o.kind _ hm).2.2.2.2;have HE:=hI (fun W=>z3w ⟨fn,⟨te,tl,tb⟩,true,ff,fs⟩ s W f1 (by rw[if_pos rfl] at f2;omega) (by omega) hkd);have hlen9:((pre.map (fun x=>x.1.1)).map (fun f=>zUp f s)).length≤2000000:=by rw[List.length_map,List.length_map];have:=HH.o.len;omega
  have happ:(((pre++[(⟨(⟨fn,⟨te,tl,tb⟩,true,ff,fs⟩,kk),hm,rfl⟩:SX true l)]).map (fun x=>x.1.1)).map (fun f=>zUp f s))=((pre.map (fun x=>x.1.1)).map (fun f=>zUp f s))++[zUp ⟨fn,⟨te,tl,tb⟩,true,ff,fs⟩ s]:=by simp
  have HLEN:=hI hlen9;have HAPP:=hI happ;clear happ hlen9 f2 f3 f4 f5 f6 hmost hkd;generalize ((pre.map (fun x=>x.1.1)).map (fun f=>zUp f s))=L at *;generalize zUp ⟨fn,⟨te,tl,tb⟩,true,ff,fs⟩ s=el at *;simp only at HE;have HRW:=hI hR;have HBX:=hI hBx;have HG:=hI (Frm.start (S:=noS) v2 (fun _ h=>h.elim));have HZ:=hI hR.kp.siz;have HC0:=hI (zz (hR.at_ 0 rfl) 0).1;obtain⟨XM,hXM⟩:∃X,XL+1=X:=⟨_,rfl⟩
  rw[hXM] at HRW HC0 ⊢;clear hR hBx hl hr hlt HF hcl hco;obtain⟨k,hkk⟩:∃k,L.length=k:=⟨_,rfl⟩
  rw[hkk] at HRW;have HKK:=hI hkk;clear hkk;gi_wp2_with fail;refine zaK (fun a' w'=>(∃v,RowF zZ3 noS w w' 44 v (L++[el]) [(XM, 4,[.bool true]),(XL, 30,[.slice A l.length c]),(XV, 37,[v]),(XO, 9,[.string s])] [])∧KeepsFrom v1.heap.size v2 w'∧KpB w.heap.size XM v2 w') (fun w'=>w'.heap[XV]? = some (.cells #[.slice A1 k c1] 37 (0,0))∧w'.heap[XO]? = some (.cells #[.string s] 9 (0,0))∧w'.heap[Bx]? = some (.cells #[.string fn,.int .i64 te,.int .i64 tl,.int .i64 tb,.bool true,.int .i64 ff,.int .i64 fs] 43 (0,0))) 6 (by kernel_rfl) (by kernel_rfl) ?_ ?_
  · replace HRW:=hI HRW.o.drew;replace HG:=hI HG.o.drew;have HBD:Jd (v2.drew.heap[Bx]? = _):=hI HBX.o;replace HBX:=HBD;clear HBD;generalize v2.drew=v2 at *;refine tks [(oS 0 30 (.slice A1 k c1)),(oS 1 31 (.agg #[fn,te,tl,tb,true,ff,fs])),(oS 2 32 (.string s))] 4 ?_ ⟨HRW.o.at_ 2 rfl,HRW.o.at_ 3 rfl,HBX.o⟩ ?_
    · intro wz hSz;obtain⟨z1,z2,z3⟩:=hSz;have y0:=(zz z1 0).1;have y1:=(zz z2 0).1;have x0:=(zz z3 0).1;have x1:=(zz z3 1).1;have x2:=(zz z3 2).1;have x3:=(zz z3 3).1;have x4:=(zz z3 4).1;have x5:=(zz z3 5).1;have x6:=(zz z3 6).1;exact uIy
    try simp only[zy,zW,Act.put,pA,pB,pC,Option.getD]
    refine wone 3 fun Kz hK=>?_;go_simp;refine (HE.o v2).mono ?_;rintro e v2 ⟨A2,c2,rfl,hT,hk⟩;generalize hell:el.length=m at *;replace HRW:=hI (HRW.o.callT hk (slT z1H (.slice A2 m c2) el) hT);replace HG:=hI (HG.o.call hk);replace HBX:=hI (hk.blk Bx _ (fun h=>h.elim) HBX.o);clear hT hk hell;refine hK.o _ _ (fun _=>⟨HRW.o.at_ 2 rfl,HRW.o.at_ 3 rfl,HBX.o⟩) ?_;clear hK;try simp only[zy,zW,Act.put,pA,pB,pC,Option.getD]
    obtain⟨v9,v3,hrun,hrow,hg⟩:=HRW.o.app 37 (.slice none 0 0) 1 24 rfl Tryz.underlying37 zu4 rfl (by decide) (by decide) HLEN.o (es:=[.slice A2 m c2]) (x:=el) (fun M B hts=>⟨_,rfl,hts _ (List.mem_cons_self ..)⟩) rfl (by intro u hu;simp at hu;rw[hu];rfl);have hnr:∀g,(Value.slice A1 k c1).ownBlock=some g→w.heap.size≤g∧∃cells,v2.heap[g]? = some (.cells cells 44 (0,0)):=fun g hg=>HRW.o.ownc g hg;have HKF:=hI (((zGJ (B:=v1.heap.size) HG.o.kp).trans ((KeepsOthers.alloc v2 (.cells ([.slice A2 m c2]:List Value).toArray 44)).from _)).trans (zjG hg (fun g e=>by obtain⟨_,cs,h2⟩:=hnr g e;exact⟨_,za3 h2 _,rfl⟩)));have HBW:=hI ((((kb HG.o.kp).mono HZ.o).trans ((Below.refl w.heap.size v2).alloc (Nat.le_trans HZ.o HG.o.kp.siz) (.cells ([.slice A2 m c2]:List Value).toArray 44))).trans ((Below.refl w.heap.size (v2.alloc (.cells ([.slice A2 m c2]:List Value).toArray 44))).grown hg (by have:=HG.o.kp.siz;have:=HZ.o;simp;omega) (fun g e=>(hnr g e).1)));have HBX9:=hI ((hg.block Bx (by have:=zh HBX.o;simp;omega) (fun e=>by obtain⟨_,cs,h2⟩:=hnr Bx e.symm;rw[HBX.o] at h2;cases h2)).trans (za3 HBX.o (.cells ([.slice A2 m c2]:List Value).toArray 44)));obtain⟨A9,c9,hv9⟩:=hrow.len;rw[List.length_append,List.length_singleton,HKK.o] at hv9;subst hv9;have HRW9:=hI (hrow.less (ts':=[]) (by simp));have HRUN:=hI hrun;have HRWa:=hI (HRW.o.alloc 44 [.slice A2 m c2]);have HBXa:=hI (za3 HBX.o (.cells ([.slice A2 m c2]:List Value).toArray 44));clear hrun hrow hg hnr;refine wone 4 fun Kz hK=>?_;go_simp;refine hK.o _ _ (fun _=>⟨HRWa.o.at_ 3 rfl,HRWa.o.at_ 4 rfl,HBXa.o⟩) ?_;clear hK;try simp only[zy,zW,Act.put,pA,pB,pC,Option.getD]
    refine zOF (i:=5) (by kernel_rfl) rfl ?_;intro Kz hK;refine z50 rfl (.tmp 30) (.tmp 34) 37 rfl HRUN.o rfl rfl ?_;refine hK.o _ _ (fun _=>⟨HRW9.o.at_ 2 rfl,HRW9.o.at_ 3 rfl,HBX9.o⟩) ?_;clear hK;try simp only[Act.put,pA]
    have y0:=(zz (HRW9.o.at_ 2 rfl) 0).1;have y1:=(zz (HRW9.o.at_ 2 rfl) 0).2;refine wone 6 fun Kz hK=>?_;go_simp;refine hK.o _ _ (fun h=>absurd rfl h) ?_;clear hK;try simp only[zy,zW,Act.put,pA,pB,pC,Option.getD]
    refine wD ?_ _;have hfin:=HRW9.o.set 2 rfl 0 (.slice A9 (k+1) c9);have hold:=HRW9.o.frm.old _ (List.mem_cons_of_mem _ (List.mem_cons_of_mem _ (List.mem_cons_self ..)));simp only at hold;refine⟨⟨_,hfin⟩,HKF.o.trans ((KeepsOthers.setCell _ _ _).from _),HBW.o.setCell (p:=⟨XV,0,none⟩) hold _,fun u hu=>?_⟩;rw[HC0.o] at hu;rw[←hu];exact (zz (hfin.at_ 0 rfl) 0).1
  rintro a' v1 ⟨⟨v,hv⟩,hkf,hkp⟩;rw[←HAPP.o] at hv;gi_wp2_with fail;exact⟨hkf,hkp,v,hv⟩
 case done =>
  rintro D xs W hD hxs ⟨v,hR⟩ hK;have HF4:=HF;clear HF hcl hco;obtain⟨A1,c1,hv⟩:=hR.len;subst hv;have HRW:=hI hR;have HK2:=hI hK;clear hR hK;have hxs2:((xs.map (fun x=>x.1.1)).map (fun f=>zUp f s))=(sSel true l).map (fun f=>zUp f s):=by rw[hxs]
  rw[hxs2,show ((sSel true l).map (fun f=>zUp f s)).length=(sSel true l).length from List.length_map ..] at HRW;clear hxs hxs2;have x0:=(zz (HRW.o.at_ 2 rfl) 0).1;gi_wp2_with fail;clear x0;have hK2:=HK2.o;replace HRW:=hI (HRW.o.gr (grownBy_putObj' _ D (.deferred none)) (fun r e=>by cases e;exact⟨Nat.le_trans HF4.o.kp.siz hD,_,hK2,rfl⟩));refine⟨by simp,.inl ⟨_,_,rfl,run_takeDeferred hK2,?_⟩⟩;refine⟨.tuple #[.slice A1 (sSel true l).length c1,.int .i64 0],by simp[results,Tryz.f9,go_sem],?_⟩;rw[←HPO.o];have hd:=HRW.o.done;exact⟨A1,c1,rfl,(hd.tr _ (List.mem_cons_self ..)).some_ zZ3 (Nat.le_refl _) (fun p u _ hc=>(z17 hc).2.2),hd.kp⟩
 case stop=>exact fun D cd pre W hD _ h _=>h.elim
end
end Go.Proofs.YtfibdoehmndinaaGreatDoor
