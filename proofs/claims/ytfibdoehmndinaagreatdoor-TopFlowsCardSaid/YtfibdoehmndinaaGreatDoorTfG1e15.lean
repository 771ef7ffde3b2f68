/- Parts of a proof. No condition but those that each theorem names. -/
import Derived.Test.YtfibdoehmndinaaGreatDoorTfTyJ
namespace Go.Proofs.YtfibdoehmndinaaGreatDoor
open Go.RowKit
set_option linter.unusedVariables false
set_option maxRecDepth 100000
set_option maxHeartbeats 1000000
section
variable {G:TGam} {M:World} {n:Nat}
section
variable {p:Prop}
theorem uSX (h:p:=by
 try simp only[zy,zW,Act.put,pA,pB,pC,Option.getD]
 obtain⟨v2,hput,hk9,hg9⟩:=HK.o.drop (show ns.size≤65536 from HSM.o.1) 0;refine wone 6 fun K hK=>?_;go_simp;replace HF:=hI (HF.o.call (zxD hg9));replace HK:=hI hk9;clear hput hk9 hg9;refine hK.o _ _ (fun _=>⟨HF.o.at_ 0 rfl,HK.o.cell.1,HK.o.cell.2.1,HK.o.cell.2.2.1,HK.o.cell.2.2.2.1,HK.o.cell.2.2.2.2⟩) ?_;clear hK;refine wD ?_ _;have hz0:(0:Int)≤(i:Int):=by omega
 have hz1:(i:Int)<65537:=by have:=HLT1.o;have:=HLN.o;omega
 go_wp2_with fail;go_roundw
 case rel=>exact⟨i+1,(zah G3 ns),HLT1.o,rfl,hI HF.o.tail,HK,HR⟩
 case measure=>simp only[intOf];have:=HLT1.o;omega):p:=h
theorem uKb (h:p:=by
 have hz0:(0:Int)≤(i:Int):=by omega
 have hz1:(i:Int)<65537:=by have:=HLT1.o;have:=HLN.o;omega
 go_wp2_with fail;go_roundw
 case rel=>exact⟨i+1,G3,HLT1.o,rfl,hI HF.o.tail,HK,HR⟩
 case measure=>simp only[intOf];have:=HLT1.o;omega):p:=h
end
theorem z4T {c:Nat} {A:Option Addr} {l:List TSt} (h:zj (zM n) M M.heap.size (.slice A l.length c) l) (k:Nat) (hk:k<l.length) :
  ∃m b off Aa ca Ab cb Ae ce,A=some ⟨b,off,none⟩∧stSm (l.getD k zJ)∧zj (zO m) M M.heap.size (.slice Aa (l.getD k zJ).args.length ca) (l.getD k zJ).args∧zj (zM m) M M.heap.size (.slice Ab (l.getD k zJ).body.length cb) (l.getD k zJ).body∧zj (zM m) M M.heap.size (.slice Ae (l.getD k zJ).els.length ce) (l.getD k zJ).els∧∀w,Below M.heap.size M w →
   w.cell? ⟨b,off+k*11,none⟩=some (.int .i64 (l.getD k zJ).kind)∧w.cell? ⟨b,off+k*11+1,none⟩=some (.int .i64 (l.getD k zJ).pos)∧w.cell? ⟨b,off+k*11+2,none⟩=some (.int .i64 (l.getD k zJ).most)∧w.cell? ⟨b,off+k*11+3,none⟩=some (.string (l.getD k zJ).name) ∧
   w.cell? ⟨b,off+k*11+4,none⟩=some (.int .i64 (l.getD k zJ).ty.elem)∧w.cell? ⟨b,off+k*11+5,none⟩=some (.int .i64 (l.getD k zJ).ty.len)∧w.cell? ⟨b,off+k*11+6,none⟩=some (.int .i64 (l.getD k zJ).ty.label) ∧
   w.cell? ⟨b,off+k*11+7,none⟩=some (.slice Aa (l.getD k zJ).args.length ca)∧w.cell? ⟨b,off+k*11+8,none⟩=some (.slice Ab (l.getD k zJ).body.length cb)∧w.cell? ⟨b,off+k*11+9,none⟩=some (.slice Ae (l.getD k zJ).els.length ce)∧w.cell? ⟨b,off+k*11+10,none⟩=some (.bool (l.getD k zJ).has):=by
 obtain⟨m,b,off,va,vb,ve,e1,e2,hb,hs,hx,hy,hz,hc⟩:=zM1 h k hk
 obtain⟨Aa,ca,ea,_⟩:=hx.shape
 obtain⟨Ab,cb,eb,_⟩:=hy.shape
 obtain⟨Ae,ce,ee,_⟩:=hz.shape
 subst ea eb ee
 exact⟨m,b,off,Aa,ca,Ab,cb,Ae,ce,e2,hs,hx,hy,hz,fun w hw=>⟨(hw.cell hb).trans (hc 0 _ rfl),(hw.cell hb).trans (hc 1 _ rfl),(hw.cell hb).trans (hc 2 _ rfl),(hw.cell hb).trans (hc 3 _ rfl),(hw.cell hb).trans (hc 4 _ rfl),(hw.cell hb).trans (hc 5 _ rfl),(hw.cell hb).trans (hc 6 _ rfl),(hw.cell hb).trans (hc 7 _ rfl),(hw.cell hb).trans (hc 8 _ rfl),(hw.cell hb).trans (hc 9 _ rfl),(hw.cell hb).trans (hc 10 _ rfl)⟩⟩
theorem zSR {f:TGam→TSt→TR TGam} (l:List TSt) (i:Nat) (h:i<l.length):zX9 f G (l.drop i)=(f G (l.getD i zJ)).bind fun G=>zX9 f G (l.drop (i+1)):=by
 rw[zD l i zJ h];rfl
theorem z6W (l:List TSt) (i:Nat) (h:i<l.length):zcx G (l.drop i)=zcx (if (l.getD i zJ).kind=1∨(l.getD i zJ).kind=2 then zah G (l.getD i zJ).name else G) (l.drop (i+1)):=by
 rw[zD l i zJ h];rfl
theorem zPT (hsw:SW M n):BW M (n+1):=by
 intro w q fb nb N L K G g l A c m d h hL hd hl hx hb;have HS:Jd (SW M n):=hI hsw;have HLL:=hI hL;have HXX:=hI hx;have HDD:=hI hd;have HLN:=hI hl;have HLT:=hI h.lt;have HF:=hI (Frm.start (S:=(nbS nb)) w (fun x e=>by have e2:x=nb:=e;have:=h.lt;omega));have HK:=hI h;obtain⟨r,hr⟩:∃r,zXK (n+1) K g G l=r:=⟨_,rfl⟩
 rw[hr] at hb ⊢;have HR:=hI hr;have HNB:=hI hb;generalize hPO:zn (nbS nb) w (RG M q fb nb N L K g) r=PO;have HPO:=hI hPO;clear hr hPO hb h hL hd hl hx hsw;go_enter Tryz.func121,Tryz.ntmps121;unfold zXK at HR;have HR0:Jd (((zX9 (fun G s=>zE n K g G false s) G (l.drop 0)).bind fun G=>.ok (zcx G l))=r):=hI (by rw[List.drop_zero];exact HR.o);clear HR;go_wp2_with fail;go_loopw [10] (fun vi wr=>∃(i:Nat) (G2:TGam),i≤l.length∧vi=.int .i64 i∧Jd (Frm (nbS nb) w wr [] [])∧Jd (CkAt M wr q fb nb N L K G2 g)∧Jd (((zX9 (fun G s=>zE n K g G false s) G2 (l.drop i)).bind fun G=>.ok (zcx G l))=r)) (fun vi _=>l.length-(intOf vi).toNat)
 case atStart=>exact⟨0,G,Nat.zero_le _,rfl,HF,HK,HR0⟩
 case round =>
  clear HF HK HR0;obtain⟨i,G2,hi,rfl,HF,HK,HR⟩:=hrel;by_cases hlt:i<l.length
  case pos =>
   obtain⟨m2,sb,soff,Aa,ca,Ab,cb,Ae,ce,rfl,hsm,hsa,hsb,hse,hsc⟩:=z4T HXX.o i hlt;have hdi:stIn L d (l.getD i zJ):=z8M HDD.o i hlt;rw[zSR l i hlt,zv9] at HR;generalize l.getD i zJ=s at *;obtain⟨ks,ps,ms,ns,⟨te,tl,tb⟩,xs,bds,els,hs⟩:=s;simp only[TSt.kind,TSt.pos,TSt.most,TSt.name,TSt.ty,TSt.args,TSt.body,TSt.els,TSt.has] at hsc hsa hsb hse;have HSM:=hI hsm;have HDI:=hI hdi;have HSA:=hI hsa;have HSB:=hI hsb;have HSE:=hI hse;have HLT1:=hI hlt;obtain⟨d0,d1,d2,d3,d4,d5,d6,d7,d8,d9,d10⟩:=hsc wr HK.o.old;have k0:(0:Int)≤(i:Int):=by omega
   have k1:(i:Int)<(l.length:Int):=by omega
   clear hsm hdi hsa hsb hse hsc hlt hi;go_upto_region 3 with (fail);clear d0 d1 d2 d3 d4 d5 d6 d7 d8 d9 d10 k0 k1;replace HF:=hI (HF.o.alloc 126 [ks,ps,ms,ns,te,tl,tb,.slice Aa xs.length ca,.slice Ab bds.length cb,.slice Ae els.length ce,hs]);replace HK:=hI (HK.o.below (bw HF));generalize wr.alloc _=v at *;generalize wr.heap.size=Y at HF ⊢;have y_:=z9h (HF.o.at_ 0 rfl);go_wp2_with fail;refine (HS.o _ q fb nb N L K G2 g false ks ps ms ns te tl tb xs bds els hs Aa Ab Ae ca cb ce m2 d HK.o HLL.o HSM.o HDI.o HSA.o HSB.o HSE.o (nbL HR.o HNB.o)).mono ?_;intro e v1 hpost;rcases hpost.cases (nbL HR.o HNB.o) with⟨G3,hq,u,rfl,hR,hk⟩ | ⟨hq,E,P,rfl,hE,hk⟩
   case inr=>exact uGY
   replace HF:=hI (HF.o.call hk);replace HK:=hI hR;have hrt:=brO HR.o hq;try simp only at hrt
   replace HR:=hI hrt;clear hk hq hrt y_;exact uKb
  obtain rfl:i=l.length:=by omega
  have hrt:=HR.o;rw[List.drop_length] at hrt;have HR0:Jd (.ok (zcx G2 (l.drop 0))=r):=hI (by rw[List.drop_zero];exact hrt);clear hrt HR hi hlt;generalize wr=v2 at HF HK ⊢;go_wp2_with fail;go_loopw [20] (fun vi wr=>∃(i:Nat) (G2:TGam),i≤l.length∧vi=.int .i64 i∧Jd (Frm (nbS nb) w wr [] [])∧Jd (CkAt M wr q fb nb N L K G2 g)∧Jd (.ok (zcx G2 (l.drop i))=r)) (fun vi _=>l.length-(intOf vi).toNat)
  case atStart=>exact⟨0,G2,Nat.zero_le _,rfl,HF,HK,HR0⟩
  case round =>
   clear HF HK HR0;obtain⟨i,G3,hi,rfl,HF,HK,HR⟩:=hrel;by_cases hlt:i<l.length
   case pos =>
    obtain⟨m2,sb,soff,Aa,ca,Ab,cb,Ae,ce,rfl,hsm,hsa,hsb,hse,hsc⟩:=z4T HXX.o i hlt;have hdi:stIn L d (l.getD i zJ):=z8M HDD.o i hlt;rw[z6W l i hlt] at HR;generalize l.getD i zJ=s at *;obtain⟨ks,ps,ms,ns,⟨te,tl,tb⟩,xs,bds,els,hs⟩:=s;simp only[TSt.kind,TSt.pos,TSt.most,TSt.name,TSt.ty,TSt.args,TSt.body,TSt.els,TSt.has] at hsc hsa hsb hse;have HSM:=hI hsm;have HDI:=hI hdi;have HSA:=hI hsa;have HSB:=hI hsb;have HSE:=hI hse;have HLT1:=hI hlt;obtain⟨d0,d1,d2,d3,d4,d5,d6,d7,d8,d9,d10⟩:=hsc wr HK.o.old;have k0:(0:Int)≤(i:Int):=by omega
    have k1:(i:Int)<(l.length:Int):=by omega
    clear hsm hdi hsa hsb hse hsc hlt hi;have hrt:=HR.o;change .ok (zcx (if ks=1∨ks=2 then zah G3 ns else G3) (l.drop (i+1)))=r at hrt;replace HR:=hI hrt;clear hrt;go_upto_region 8 with (fail);clear d0 d1 d2 d3 d4 d5 d6 d7 d8 d9 d10 k0 k1;replace HF:=hI (HF.o.alloc 126 [ks,ps,ms,ns,te,tl,tb,.slice Aa xs.length ca,.slice Ab bds.length cb,.slice Ae els.length ce,hs]);replace HK:=hI (HK.o.below (bw HF));generalize wr.alloc _=v at *;generalize wr.heap.size=Y at HF ⊢;have y_:=z9h (HF.o.at_ 0 rfl);by_cases h1:ks=1
    case pos =>
     subst h1;replace HR:Jd (.ok (zcx (zah G3 ns) (l.drop (i+1)))=r):=hI (by rw[←HR.o,if_pos (by decide)]);go_upto_region 9 with (fail);clear y_;refine wL (fun w'=>w'.heap[Y]? = some (.cells #[.int .i64 1,ps,ms,ns,te,tl,tb,.slice Aa xs.length ca,.slice Ab bds.length cb,.slice Ae els.length ce,hs] 126 (0,0))∧w'.cell? ⟨q,0,none⟩=some (.map (some fb))∧w'.cell? ⟨q,1,none⟩=some (.map (some nb))∧w'.cell? ⟨q,5,none⟩=some (.bool g.has)∧w'.cell? ⟨q,6,none⟩=some (.int .i64 g.res.elem)∧w'.cell? ⟨q,8,none⟩=some (.int .i64 g.res.label)) 99 ?_;replace HK:=hI (HK.o.below (bdr (Below.refl _ _)));replace HF:=hI HF.o.drew;generalize v.drew=v1 at *;refine zY (by kernel_rfl) (fun _ _ _ _ _ h=>h) [(0,some 32,some (.pointer (some ⟨q,0,none⟩))),(1,some 33,some (.pointer (some ⟨q,0,none⟩))),(2,some 34,some (.pointer (some ⟨q,1,none⟩))),(3,some 35,some (.map (some nb))),(4,some 36,some (.pointer (some ⟨Y,3,none⟩))),(5,some 37,some (.string ns))] 1 (by rfl) (by kernel_rfl) (by kernel_rfl) ?hv1 (⟨HF.o.at_ 0 rfl,HK.o.cell.1,HK.o.cell.2.1,HK.o.cell.2.2.1,HK.o.cell.2.2.2.1,HK.o.cell.2.2.2.2⟩) ?rs1
     case hv1=>intro wz hSz;obtain⟨hYs,hq0,hq1,hq5,hq6,hq8⟩:=hSz;have cY3:=(zz hYs 3).1;exact uDc
     exact uSX
    have q1:(ks==1)=false:=nB h1;by_cases h2:ks=2
    case pos =>
     subst h2;replace HR:Jd (.ok (zcx (zah G3 ns) (l.drop (i+1)))=r):=hI (by rw[←HR.o,if_pos (by decide)]);go_upto_region 9 with (fail);clear y_;refine wL (fun w'=>w'.heap[Y]? = some (.cells #[.int .i64 2,ps,ms,ns,te,tl,tb,.slice Aa xs.length ca,.slice Ab bds.length cb,.slice Ae els.length ce,hs] 126 (0,0))∧w'.cell? ⟨q,0,none⟩=some (.map (some fb))∧w'.cell? ⟨q,1,none⟩=some (.map (some nb))∧w'.cell? ⟨q,5,none⟩=some (.bool g.has)∧w'.cell? ⟨q,6,none⟩=some (.int .i64 g.res.elem)∧w'.cell? ⟨q,8,none⟩=some (.int .i64 g.res.label)) 99 ?_;replace HK:=hI (HK.o.below (bdr (Below.refl _ _)));replace HF:=hI HF.o.drew;generalize v.drew=v1 at *;refine zY (by kernel_rfl) (fun _ _ _ _ _ h=>h) [(0,some 32,some (.pointer (some ⟨q,0,none⟩))),(1,some 33,some (.pointer (some ⟨q,0,none⟩))),(2,some 34,some (.pointer (some ⟨q,1,none⟩))),(3,some 35,some (.map (some nb))),(4,some 36,some (.pointer (some ⟨Y,3,none⟩))),(5,some 37,some (.string ns))] 1 (by rfl) (by kernel_rfl) (by kernel_rfl) ?hv2 (⟨HF.o.at_ 0 rfl,HK.o.cell.1,HK.o.cell.2.1,HK.o.cell.2.2.1,HK.o.cell.2.2.2.1,HK.o.cell.2.2.2.2⟩) ?rs2
     case hv2=>intro wz hSz;obtain⟨hYs,hq0,hq1,hq5,hq6,hq8⟩:=hSz;have cY3:=(zz hYs 3).1;exact uDc
     exact uSX
    have q2:(ks==2)=false:=nB h2;replace HR:Jd (.ok (zcx G3 (l.drop (i+1)))=r):=hI (by rw[←HR.o,if_neg (by omega)]);clear h1 h2;exact uKb
   obtain rfl:i=l.length:=by omega
   have hrt:=HR.o;rw[List.drop_length] at hrt;replace HR:Jd (.ok G3=r):=hI hrt;clear hrt hi hlt;exact uYX
theorem st_o {w:World} {q fb nb N:Nat} {L:List ByteArray} {K:TKs} {g:TFu} {kind:Int} (hk:¬(1≤kind∧kind≤8)) (last:Bool) (pos most:Int) (name:ByteArray) (te tl tb:Int) (args:List TEx) (body els:List TSt) (has:Bool) (Aa Ab Ae:Option Addr) (ca cb ce m d:Nat) (h:CkAt M w q fb nb N L K G g) (hL:L.length≤1048576) (hs:stSm (.mk kind pos most name ⟨te,tl,tb⟩ args body els has)) (hd:stIn L d (.mk kind pos most name ⟨te,tl,tb⟩ args body els has)) (hx:zj (zO m) M M.heap.size (.slice Aa args.length ca) args) (hy:zj (zM m) M M.heap.size (.slice Ab body.length cb) body) (hz:zj (zM m) M M.heap.size (.slice Ae els.length ce) els) (hb:zE (n+1) K g G last (.mk kind pos most name ⟨te,tl,tb⟩ args body els has)≠.bad) :
  Calls Tryz.prog 92 #[.pointer (some ⟨q,0,none⟩),.agg #[kind,pos,most,name,te,tl,tb,.slice Aa args.length ca,.slice Ab body.length cb,.slice Ae els.length ce,has],last] w (zn (nbS nb) w (RG M q fb nb N L K g) (zE (n+1) K g G last (.mk kind pos most name ⟨te,tl,tb⟩ args body els has))):=by
 have q1:(kind==1)=false:=nB (by omega);have q2:(kind==2)=false:=nB (by omega);have q3:(kind==3)=false:=nB (by omega);have q4:(kind==4)=false:=nB (by omega);have q5:(kind==5)=false:=nB (by omega);have q6:(kind==6)=false:=nB (by omega);have q7:(kind==7)=false:=nB (by omega);have q8:(kind==8)=false:=nB (by omega);have HLT:=hI h.lt;have HF:=hI ((Frm.start (S:=(nbS nb)) w (fun x e=>by have e2:x=nb:=e;have:=h.lt;omega)).alloc 126 [kind,pos,most,name,te,tl,tb,.slice Aa args.length ca,.slice Ab body.length cb,.slice Ae els.length ce,has]);have HK:=hI (h.below (bnew w (.cells #[kind,pos,most,name,te,tl,tb,.slice Aa args.length ca,.slice Ab body.length cb,.slice Ae els.length ce,has] 126)));obtain⟨r,hr⟩:∃r,zE (n+1) K g G last (.mk kind pos most name ⟨te,tl,tb⟩ args body els has)=r:=⟨_,rfl⟩
 rw[hr] at hb ⊢;have HR:=hI hr;have HNB:=hI hb;generalize hPO:zn (nbS nb) w (RG M q fb nb N L K g) r=PO;have HPO:=hI hPO;clear hr hPO hb hL hs hd hx hy hz;go_enter Tryz.func92,Tryz.ntmps92;go_upto_region 1 with (fail);generalize (w.alloc _)=w1 at *;generalize w.heap.size=X at HF ⊢;unfold zE at HR;rw[if_neg (by omega),if_neg (by omega),if_neg (by omega),if_neg (by omega),if_neg (by omega),if_neg (by omega),if_neg (by omega),if_neg (by omega)] at HR;clear hk h;have x_:=z9h (HF.o.at_ 0 rfl);exact uYX
theorem z6z (hb:BW M n):SW M (n+1):=by
 intro w q fb nb N L K G g last kind pos most name te tl tb args body els has Aa Ab Ae ca cb ce m d h hL hs hd hx hy hz hbad;by_cases k:1≤kind∧kind≤8
 · have hk:kind=1∨kind=2∨kind=3∨kind=4∨kind=5∨kind=6∨kind=7∨kind=8:=by omega
   rcases hk with rfl | rfl | rfl | rfl | rfl | rfl | rfl | rfl
   · exact st_1 (zLz n).1 last pos most name te tl tb args body els has Aa Ab Ae ca cb ce m d h hL hs hd hx hy hz hbad
   · exact st_2 last pos most name te tl tb args body els has Aa Ab Ae ca cb ce m d h hL hs hd hx hy hz hbad
   · exact st_3 (zLz n).1 last pos most name te tl tb args body els has Aa Ab Ae ca cb ce m d h hL hs hd hx hy hz hbad
   · exact st_4 (zLz n).1 last pos most name te tl tb args body els has Aa Ab Ae ca cb ce m d h hL hs hd hx hy hz hbad
   · exact st_5 (zLz n).1 hb last pos most name te tl tb args body els has Aa Ab Ae ca cb ce m d h hL hs hd hx hy hz hbad
   · exact st_6 (zLz n).1 hb last pos most name te tl tb args body els has Aa Ab Ae ca cb ce m d h hL hs hd hx hy hz hbad
   · exact st_7 (zLz n).2 last pos most name te tl tb args body els has Aa Ab Ae ca cb ce m d h hL hs hd hx hy hz hbad
   exact st_8 (zLz n).1 last pos most name te tl tb args body els has Aa Ab Ae ca cb ce m d h hL hs hd hx hy hz hbad
 exact st_o k last pos most name te tl tb args body els has Aa Ab Ae ca cb ce m d h hL hs hd hx hy hz hbad
theorem znR (M:World):∀n,SW M n∧BW M n
 | 0=>⟨by intros w q fb nb N L K G g last kind pos most name te tl tb args body els has Aa Ab Ae ca cb ce m d h1 h2 h3 h4 h5 h6 h7 hb;exact absurd (by unfold zE;rfl) hb,by intros w q fb nb N L K G g l A c m d h1 h2 h3 h4 h5 hb;exact absurd (by unfold zXK;rfl) hb⟩
 | n+1=>⟨z6z (znR M n).2,zPT (znR M n).1⟩
end
end Go.Proofs.YtfibdoehmndinaaGreatDoor
