/- Parts of a proof, joined. No condition but those that each theorem names. -/
import Derived.Test.YtfibdoehmndinaaGreatDoorTfEvZ
namespace Go.Proofs.YtfibdoehmndinaaGreatDoor
open Go.RowKit
set_option linter.unusedVariables false
set_option maxRecDepth 100000
set_option maxHeartbeats 1000000
def zXe:ByteArray:=⟨List.toArray (List.append [102,110,32,109,97,105,110,40,112,117,98,32,110,58,32,117,51,50,44,32,115,101,99,32,107,58,32,117,51,50,44,32,111,117,116,32,112,117,98,32,111,58,32,117,51,50,91,49] [93,44,32,111,117,116,32,115,101,99,32,113,58,32,117,51,50,91,49,93,41,32,123,32,111,91,48,93,32,61,32,110,59,32,113,91,48,93,32,61,32,107,59,32,125])⟩
def zy1:List TFu:=[⟨3,⟨#[109,97,105,110]⟩,[⟨12,⟨#[110]⟩,⟨0,0,0⟩,false⟩,⟨24,⟨#[107]⟩,⟨0,0,1⟩,false⟩,⟨40,⟨#[111]⟩,⟨0,1,0⟩,true⟩,⟨59,⟨#[113]⟩,⟨0,1,1⟩,true⟩],false,⟨0,0,0⟩,[.mk 4 72 0 ⟨#[111]⟩ ⟨0,0,0⟩ [.mk 1 74 0 ⟨#[]⟩ [],.mk 2 79 0 ⟨#[110]⟩ []] [] [] false,.mk 4 82 0 ⟨#[113]⟩ ⟨0,0,0⟩ [.mk 1 84 0 ⟨#[]⟩ [],.mk 2 89 0 ⟨#[107]⟩ []] [] [] false]⟩]
theorem zzR:∃p,zOx zXe=some p∧zpD (dpP p) p=true∧evS (dpP p+2+p.length*(dpP p+4)) (tFm zN p) (zU (p.getD (p.length-1) zg)) (p.getD (p.length-1) zg).body ⟨#[5,0,0,0,7,0,0,0]⟩=.ok [5,0,0,0,7,0,0,0]∧(zH 0 0 (zU (p.getD (p.length-1) zg))).2.1=8 :=
 ⟨zy1,by kernel_rfl,by kernel_rfl,by kernel_rfl,by kernel_rfl⟩
theorem zZR (w:World) (hs:SpaceTab w) (ht:PowTab w):Calls Tryz.prog 7 #[] w (fun e w'=>e=.returned (.bool true)∧Kp noS w w'):=by
 obtain⟨p,hp,hk,he,hz⟩:=zzR;have HP:=hI hp;have HST:=hI hs;have HPT:=hI ht
 have HEV:Jd (∀(A:Option Addr) (c:Nat) (w':World),zJ2 w' (dpP p) (szL szF p) (nsP p) p A c→Calls Tryz.prog 8 #[.agg #[.slice A p.length c],.string ⟨#[5,0,0,0,7,0,0,0]⟩] w' (zz2 w' (.ok [5,0,0,0,7,0,0,0]))):=hI (fun A c w' h=>by
  obtain⟨i,o,h1,h2,_⟩:=z4M h hk (fun f hf=>zj3 hf);have hi:i=8:=by rw[←hz,h1.laid]
  have h3:=zcc w' _ _ _ p A c _ i o _ (h2 w' ⟨#[5,0,0,0,7,0,0,0]⟩ h (by rw[hi];rfl));rw[he] at h3;exact h3)
 have HPR:=hI (zNM zXe w hs);have HF:=hI (Frm.start (S:=noS) w (fun _ h=>h.elim));generalize hPO:(fun (e:Ending) (w':World)=>e=.returned (.bool true)∧Kp noS w w')=PO;have HPO:=hI hPO;clear hs ht hPO hp hk he hz;go_enter Tryz.func7,Tryz.ntmps7;go_wp2_with fail;refine (HPR.o).mono ?_;rintro e v h1;rw[HP.o] at h1;obtain⟨hb,A,c,rfl,hr,_⟩:=h1;have HCH:=hI (zDo HP.o (zG HST.o hb) (zG HPT.o hb) hr);replace HF:=hI ((HF.o.call (Kp.of_below hb)));clear HPR hb hr;go_upto_region 2 with (fail);replace HF:=hI ((HF.o.alloc 24 [.slice A p.length c]).allocN (v.heap.size+1) (by simp) 27 [.int .i64 0,.int .i64 0]);have HB1:Jd (Below v.heap.size v ((v.alloc (.cells #[.slice A p.length c] 24)).alloc (.cells #[.int .i64 0,.int .i64 0] 27))):=hI (bal (bnew v _) _);generalize ((v.alloc _).alloc _)=v1 at *;replace HCH:=hI (HCH.o.below HB1.o);generalize v.heap.size+1=R at HF ⊢;obtain⟨P,hP⟩:∃X,v.heap.size=X:=⟨_,rfl⟩
 rw[hP] at HF ⊢;clear hP HB1;have p0:=(zz (HF.o.at_ 1 rfl) 0).1;go_wp2_with fail;refine (HEV.o A c v1 HCH.o).mono ?_;rintro e v ⟨hk,rfl⟩;replace HF:=hI (HF.o.call hk);clear hk p0;have r_:=blk2 (HF.o.at_ 0 rfl);go_wp2_with fail;rw[←HPO.o];exact⟨rfl,HF.o.kp⟩
section
variable {A:Option Addr} {B c:Nat} {l:List TFd} {n:Nat} {w:World}
section
variable {p:Prop}
theorem uR1 (h:p:=by
 go_wp2_with fail;refine (zZR _ (zG HST.o (kb HF.o.kp)) (zG HPT.o (kb HF.o.kp))).mono ?_;rintro e v1 ⟨rfl,hk⟩;replace HF:=hI (HF.o.call hk);go_wp2_with fail;rw[←HPO.o];exact⟨rfl,HF.o.kp⟩):p:=h
theorem uDo (h:p:=by
 try simp only[zy,zW,Act.put,pA,pB,pC,Option.getD]
 refine wD ?_ _;go_wp2_with fail;go_roundw
 case rel=>exact⟨j+1,HJM.o,rfl,HBr⟩
 case measure=>simp only[intOf];have:=HJM.o;omega):p:=h
end
theorem zBu {ls:List (List Int)} (h:zj liE w B (.slice A ls.length c) ls) (k:Nat) (hk:k<ls.length) :
  ∃b off A' c',A=some ⟨b,off,none⟩∧zj intE w B (.slice A' (ls.getD k []).length c') (ls.getD k [])∧∀w',Below B w w'→w'.cell? ⟨b,off+k,none⟩=some (.slice A' (ls.getD k []).length c'):=by
 obtain⟨A',c',e,_,hx⟩:=h;injection e with e1 e2 e3;subst e1;obtain⟨b,off,es,e4,hb,⟨v,rfl,hr⟩,hc⟩:=hx k _ (ztr ls k [] hk);obtain⟨A2,c2,rfl,_⟩:=hr.shape;refine⟨b,off,A2,c2,e4,hr,fun w' hw=>(hw.cell hb).trans ?_⟩;have:=hc 0 _ rfl;rw[show liE.size=1 from rfl,Nat.mul_one] at this;exact this
theorem zhB {l:List Int} (h:zj intE w B (.slice A l.length c) l) (k:Nat) (hk:k<l.length) :
  ∃b off,A=some ⟨b,off,none⟩∧∀w',Below B w w'→w'.cell? ⟨b,off+k,none⟩=some (.int .i64 (l.getD k 0)):=by
 obtain⟨A',c',e,_,hx⟩:=h;injection e with e1 e2 e3;subst e1;obtain⟨b,off,es,e4,hb,rfl,hc⟩:=hx k _ (ztr l k 0 hk);refine⟨b,off,e4,fun w' hw=>(hw.cell hb).trans ?_⟩;have:=hc 0 _ rfl;rw[show intE.size=1 from rfl,Nat.mul_one] at this;exact this
theorem zuL (x:List UInt8) (i:Nat):bAt ⟨x.toArray⟩ i=(x.getD i 0).toNat:=rfl
theorem zBS {f:TFd} {x y:List UInt8} (hm:0≤f.off) (hr:z0s f.ty*zcI f.ty≤f.size) (h:∀j:Nat,j<f.size.toNat→x.getD (f.off.toNat+j) 0=y.getD (f.off.toNat+j) 0):zUp f ⟨x.toArray⟩=zUp f ⟨y.toArray⟩:=by
 unfold zUp;refine List.map_congr_left fun i hi=>?_;have hi:=List.mem_range.1 hi;have h2:∀j:Nat,j<f.size.toNat→bAt ⟨x.toArray⟩ (f.off.toNat+j)=bAt ⟨y.toArray⟩ (f.off.toNat+j):=fun j hj=>by rw[zuL,zuL,h j hj]
 unfold sEl;by_cases ke:f.ty.elem=2
 · rw[if_pos ke,if_pos ke,h2 i (by unfold zcI at hr;rw[if_pos ke] at hr;omega)]
 rw[if_neg ke,if_neg ke];unfold zcI at hr;rw[if_neg ke] at hr;have h3:∀j,j<4→bAt ⟨x.toArray⟩ (f.off.toNat+4*i+j)=bAt ⟨y.toArray⟩ (f.off.toNat+4*i+j):=fun j hj=>by rw[Nat.add_assoc];exact h2 _ (by omega)
 have h0:=h3 0 (by decide);rw[Nat.add_zero] at h0;unfold z0N;rw[h0,h3 1 (by decide),h3 2 (by decide),h3 3 (by decide)]
theorem zt1 (h:n<l.length) (ho:(l.getD n zr).out=true):(sSel true l)[(sSel true (l.take n)).length]? = some (l.getD n zr):=by
 obtain⟨t,ht⟩:=zQb true l (n+1);rw[←ht,zsz h,if_pos ho];simp
theorem zI3 (s:ByteArray) (h:n<l.length) (ho:(l.getD n zr).out=true):((sSel true l).map fun f=>zUp f s).getD (sSel true (l.take n)).length []=zUp (l.getD n zr) s:=by
 rw[List.getD_eq_getElem?_getD,List.getElem?_map,zt1 h ho];rfl
theorem zHo (hs:SpaceTab w) (ht:PowTab w):zJ2 w (dpP []) (szL szF []) (nsP []) [] none 0 :=
 ⟨hs,ht,⟨none,0,rfl,by simp,fun k t h=>by simp at h⟩,by simp,by unfold dpP;simp[szL],by simp[lsum],by simp[nsP],fun f hf=>(by cases hf),fun _=>(by rw[show zor (dpP []) []=.trap from rfl];intro h;cases h),fun _ f hf=>(by cases hf)⟩
theorem zYa (s:ByteArray) (w:World) (hs:SpaceTab w) (ht:PowTab w):Calls Tryz.prog 4 #[s] w (fun e w'=>∃p A c E P,e=.returned (.tuple #[.agg #[.slice A p.length c],.agg #[.int .i64 E,.int .i64 P]])∧zJ2 w' (dpP p) (szL szF p) (nsP p) p A c∧Kp noS w w'):=by
 refine (zNM s w hs).mono ?_;rintro e w' ⟨hb,h⟩;cases hp:zOx s
 case none=>rw[hp] at h;obtain⟨E,P,rfl,_⟩:=h;exact⟨[],none,0,E,P,rfl,zHo (zG hs hb) (zG ht hb),Kp.of_below hb⟩
 rename_i p;rw[hp] at h;obtain⟨A,c,rfl,hr,_⟩:=h;exact⟨p,A,c,0,0,rfl,zDo hp (zG hs hb) (zG ht hb) hr,Kp.of_below hb⟩
theorem law_flows (s a b:ByteArray) (w:World) (hs:SpaceTab w) (ht:PowTab w):Calls Tryz.prog 3 #[s,a,b] w (fun e w'=>e=.returned (.bool true)∧Kp noS w w'):=by
 have HST:=hI hs;have HPT:=hI ht;have HPR:=hI (zYa s w hs ht);have HF:=hI (Frm.start (S:=noS) w (fun _ h=>h.elim));generalize hPO:(fun (e:Ending) (w':World)=>e=.returned (.bool true)∧Kp noS w w')=PO;have HPO:=hI hPO;clear hs ht hPO;go_enter Tryz.func3,Tryz.ntmps3;go_wp2_with fail;refine (HPR.o).mono ?_;rintro e v ⟨p,A,c,E,P2,rfl,hc,hk⟩;have HCH:=hI hc;replace HF:=hI (HF.o.call hk);clear HPR hk hc;go_upto_region 2 with (fail);replace HF:=hI ((HF.o.alloc 24 [.slice A p.length c]).allocN (v.heap.size+1) (by simp) 27 [E,P2]);have HB1:Jd (Below v.heap.size v ((v.alloc (.cells #[.slice A p.length c] 24)).alloc (.cells #[E,P2] 27))):=hI (bal (bnew v _) _);generalize ((v.alloc _).alloc _)=v1 at *;replace HCH:=hI (HCH.o.below HB1.o);generalize v.heap.size+1=R at HF ⊢;obtain⟨P,hP⟩:∃X,v.heap.size=X:=⟨_,rfl⟩
 rw[hP] at HF ⊢;clear hP HB1;have p0:=(zz (HF.o.at_ 1 rfl) 0).1;go_wp2_with fail;refine (zlJ v1 _ _ _ p A c HCH.o).mono ?_;rintro e v ⟨⟨u,rfl,A3,k3,c3,E3,rfl,hE,hl⟩,hk⟩;replace HF:=hI (HF.o.call hk);replace HCH:=hI (HCH.o.below (kb hk));have HE:=hI hE;have HL:=hI hl;clear p0 hk hE hl;have r_:=blk2 (HF.o.at_ 0 rfl);by_cases h1:E=0
 case neg=>have q1:(E != 0)=true:=nC h1;clear h1;exact uR1
 subst h1;by_cases h2:E3=0
 case neg=>have q1:(E3 != 0)=true:=nC h2;clear h2;exact uR1
 subst h2;have hck:=HE.o.1 rfl;obtain⟨hk3,hl3⟩:=HL.o hck;obtain⟨i,o,hfd,hev,hrr⟩:=z4M HCH.o hck (fun f hf=>zj3 hf);have he1:∀(s:ByteArray) (w':World),(s.size:Int)=i→zJ2 w' (dpP p) (szL szF p) (nsP p) p A c→Calls Tryz.prog 8 #[.agg #[.slice A p.length c],.string s] w' (zz2 w' (evS (dpP p+2+p.length*(dpP p+4)) (tFm zN p) (zU (p.getD (p.length-1) zg)) (p.getD (p.length-1) zg).body s)):=fun s w' h1 h2=>zcc w' _ _ _ p A c _ i o s (hev w' s h2 h1);clear hev;generalize p.getD (p.length-1) zg=G at hk3 hl3 hfd hrr he1;generalize zU G=FZ at hk3 hl3 hfd hrr he1;have HFD:=hI hfd;have HRR:=hI hrr;have HE1:=hI he1;subst hk3;have HX:=hI hl3;clear hck hfd he1 hrr hl3 HL HE;go_wp2_with fail;refine (z0u FZ i o A3 c3 a b v HFD.o HX.o).mono ?_;rintro e v ⟨⟨r,rfl,hr⟩,hk⟩;replace HF:=hI (HF.o.call hk);replace HCH:=hI (HCH.o.below (kb hk));replace HX:=hI (HX.o.keep hk.siz (fun a ha=>(kb hk).cell ha));clear hk r_;cases r
 case false=>clear hr;exact uR1
 obtain⟨ha,hb,hab⟩:=hr rfl;have HA:=hI ha;have HB:=hI hb;replace HRR:=hI (HRR.o a b hab);generalize hra:evS (dpP p+2+p.length*(dpP p+4)) (tFm zN p) FZ G.body a=ra at *;generalize hrb:evS (dpP p+2+p.length*(dpP p+4)) (tFm zN p) FZ G.body b=rb at *;have HRA:=hI hra;have HRB:=hI hrb;clear hr ha hb hab hra hrb;have p0:=(zz (HF.o.at_ 1 rfl) 0).1;go_wp2_with fail;refine (HE1.o a v HA.o HCH.o).mono ?_;rintro e v ⟨hk,hx⟩;rw[HRA.o] at hx;have HXA:=hI hx;replace HF:=hI (HF.o.call hk);replace HCH:=hI (HCH.o.below (kb hk));replace HX:=hI (HX.o.keep hk.siz (fun a ha=>(kb hk).cell ha));clear p0 hx hk;have p0:=(zz (HF.o.at_ 1 rfl) 0).1;rcases HRR.o with⟨rfl,rfl⟩ | ⟨x,y,rfl,rfl,hxo,hxy,hsame⟩
 · obtain rfl:=HXA.o;clear HRR HXA;go_wp2_with fail;refine (HE1.o b v HB.o HCH.o).mono ?_;rintro e v2 ⟨hk,hx⟩;rw[HRB.o] at hx;obtain rfl:=hx;replace HF:=hI (HF.o.call hk);clear p0 hk;exact uR1
 obtain rfl:=HXA.o;have HXO:=hI hxo;have HXY:=hI hxy;have HSM:=hI hsame;clear hxo hxy hsame HXA HRR;go_wp2_with fail;refine (HE1.o b v HB.o HCH.o).mono ?_;rintro e v2 ⟨hk,hx⟩;rw[HRB.o] at hx;obtain rfl:=hx;replace HF:=hI (HF.o.call hk);replace HX:=hI (HX.o.keep hk.siz (fun a ha=>(kb hk).cell ha));clear p0 hk HE1 HRA HRB HCH HA HB;go_wp2_with fail;refine (zWi FZ i o A3 c3 ⟨x.toArray⟩ v2 HFD.o (by rw[←HXO.o];rfl) HX.o).mono ?_;rintro e v ⟨AV,cv,rfl,hv,hk⟩;replace HF:=hI (HF.o.call hk);replace HX:=hI (HX.o.keep hk.siz (fun a ha=>(kb hk).cell ha));have HV:=hI hv;clear hv hk;go_wp2_with fail;refine (zWi FZ i o A3 c3 ⟨y.toArray⟩ v HFD.o (by rw[←HXO.o,←HXY.o];rfl) HX.o).mono ?_;rintro e v ⟨AW,cw,rfl,hv,hk⟩;replace HF:=hI (HF.o.call hk);replace HX:=hI (HX.o.keep hk.siz (fun a ha=>(kb hk).cell ha));replace HV:=hI (HV.o.keep hk.siz (fun a ha=>(kb hk).cell ha));have HW:=hI hv;clear hv hk;have hkl:(sSel true FZ).length≤65536:=by have h1:=z7H true FZ FZ.length;rw[List.take_length] at h1;have:=HFD.o.len;omega
 have HKL:=hI hkl;obtain⟨K,hK⟩:∃K,(sSel true FZ).length=K:=⟨_,rfl⟩
 rw[hK] at HV HW HKL ⊢;have q0:((K:Int) != (K:Int))=false:=by simp
 have HK:=hI hK;clear hkl hK;go_wp2_with fail;clear q0;have HB8:Jd (Below v.heap.size v v):=hI (Below.refl _ _);go_loopw [19,20] (fun vk vn wr=>∃n:Nat,n≤FZ.length∧vk=.int .i64 (((sSel true (FZ.take n)).length:Nat):Int)∧vn=.int .i64 (n:Nat)∧Jd (Below v.heap.size v wr)) (fun _ vn _=>FZ.length-(intOf vn).toNat)
 case atStart=>exact⟨0,Nat.zero_le _,rfl,rfl,HB8⟩
 case round =>
  clear HB8;obtain⟨n,hn,rfl,rfl,HBr⟩:=hrel;have HFO:=HF;replace HF:=hI (HF.o.call (Kp.of_below HBr.o));by_cases hlt:n<FZ.length
  case pos =>
   have HLT:=hI hlt;have HTK:=hI (zsz (b:=true) hlt);obtain⟨lb,lo,rfl,_,hc⟩:=zte HX.o n hlt;obtain⟨c0,c1,c2,c3,c4,c5,c6⟩:=hc wr HBr.o;have z0:(0:Int)≤(n:Int):=by omega
   have z1:(n:Int)<(FZ.length:Int):=by omega
   have z2:(n:Int)<65536:=by have:=HFD.o.len;omega
   by_cases ho:(FZ.getD n zr).out=true
   case neg =>
    have ho:(FZ.getD n zr).out=false:=by simpa using ho
    rw[ho] at c4;have HTL:=hI (show (sSel true (FZ.take (n+1))).length=(sSel true (FZ.take n)).length by rw[HTK.o,ho];simp);generalize (sSel true (FZ.take n)).length=k at *;clear ho hc hlt hn c0 c1 c2 c3 c5 c6;go_wp2_with fail;go_roundw
    case rel=>exact⟨n+1,HLT.o,by rw[HTL.o],rfl,HBr⟩
    case measure=>simp only[intOf];have:=HLT.o;omega
   have hTL:(sSel true (FZ.take (n+1))).length=(sSel true (FZ.take n)).length+1:=by rw[HTK.o,ho];simp
   have hkK:(sSel true (FZ.take n)).length<K:=by have h1:=(zQb true FZ (n+1)).length_le;have:=HK.o;omega
   have hfm:FZ.getD n zr∈FZ:=List.mem_of_getElem? (ztr FZ n zr hlt);have hFa:=HFD.o.at_ _ hfm;have hFk:=HFD.o.kind _ hfm;have hsm:=HSM.o _ hfm ho;have hex:=zI3 ⟨x.toArray⟩ hlt ho;have hey:=zI3 ⟨y.toArray⟩ hlt ho;have hvv:=HV.o;have hww:=HW.o;have hLx:((sSel true FZ).map fun f=>zUp f ⟨x.toArray⟩).length=K:=by rw[List.length_map];exact HK.o
   have hLy:((sSel true FZ).map fun f=>zUp f ⟨y.toArray⟩).length=K:=by rw[List.length_map];exact HK.o
   generalize ((sSel true FZ).map fun f=>zUp f ⟨x.toArray⟩)=XS at *;generalize ((sSel true FZ).map fun f=>zUp f ⟨y.toArray⟩)=YS at *;obtain⟨vb,vo,A1,d1,rfl,hv1,hv2⟩:=zBu (ls:=XS) (by rw[hLx];exact hvv) (sSel true (FZ.take n)).length (by rw[hLx];exact hkK);obtain⟨wb,wo,A2,d2,rfl,hw1,hw2⟩:=zBu (ls:=YS) (by rw[hLy];exact hww) (sSel true (FZ.take n)).length (by rw[hLy];exact hkK);rw[hex] at hv1 hv2;rw[hey] at hw1 hw2;generalize (sSel true (FZ.take n)).length=k at *;generalize FZ.getD n zr=f at *;have hlab:f.ty.label=0→zUp f ⟨x.toArray⟩=zUp f ⟨y.toArray⟩:=fun h0=>zBS hFa.1 (by rw[hFa.2.2.1];exact hFa.2.2.2.2.1) (hsm h0);have hmx:(zUp f ⟨x.toArray⟩).length=(z0s f.ty).toNat:=zIV _ _;have hmy:(zUp f ⟨y.toArray⟩).length=(z0s f.ty).toNat:=zIV _ _;have hml:(((z0s f.ty).toNat:Nat):Int)=f.ty.len:=by have:=hFk.2.2.1 (Or.inr ho);unfold z0s;omega
   have hm4:(z0s f.ty).toNat≤16384:=by have:=hFk.2.2.2.2;omega
   rw[hmx] at hv1 hv2;rw[hmy] at hw1 hw2;rw[ho] at c4;generalize zUp f ⟨x.toArray⟩=XE at *;generalize zUp f ⟨y.toArray⟩=YE at *;generalize (z0s f.ty).toNat=m at *;obtain⟨fnm,⟨fe,fl,fb⟩,fo,fof,fsz⟩:=f;simp only at hml hlab c0 c1 c2 c3 c4 c5 c6;subst hml;have HV1:=hI hv1;have HV2:=hI hv2;have HW1:=hI hw1;have HW2:=hI hw2;have HLAB:=hI hlab;have HMX:=hI hmx;have HMY:=hI hmy;have HM4:=hI hm4;have HTL:=hI hTL;have HKK:=hI hkK;have HCC:=hI hc;have v0:=hv2 wr HBr.o;have u0:=hw2 wr HBr.o;have k0:(0:Int)≤(k:Int):=by omega
   have k1:(k:Int)<(K:Int):=by omega
   have k2:decide ((K:Int)≤(k:Int))=false:=decide_eq_false (by omega);have k3:((m:Int) != (m:Int))=false:=by simp
   have z3:decide ((n:Int)<(FZ.length:Int))=true:=decide_eq_true (by omega);clear hFa hFk hsm hex hey hvv hww hLx hLy hfm hv1 hv2 hw1 hw2 hlab hmx hmy hm4 hTL hkK hc hn hlt c0 c1 c5 c6;go_upto_region 20 with (fail);clear v0 u0 c2 c3 c4;refine wL (fun w'=>w'.cell? ⟨vb,vo+k,none⟩=some (.slice A1 m d1)∧w'.cell? ⟨wb,wo+k,none⟩=some (.slice A2 m d2)∧w'.cell? ⟨lb,lo+n*7+2,none⟩=some (.int .i64 (m:Nat))) 99 ?_;replace HBr:=hI (bdr HBr.o);replace HF:=hI HF.o.drew;generalize wr.drew=v2 at *;refine tks [(oS 0 118 (.int .i64 (k:Nat))),(oS 1 119 (.slice (some ⟨vb,vo,none⟩) K cv)),(oS 2 120 (.int .i64 K)),(oS 3 121 (.bool false)),(oS 4 122 (.bool false)),(oS 5 123 (.slice (some ⟨vb,vo,none⟩) K cv)),(oS 6 124 (.int .i64 (k:Nat))),(oS 7 125 (.pointer (some ⟨vb,vo+k,none⟩))),(oS 8 126 (.slice A1 m d1)),(oS 9 127 (.int .i64 (m:Nat))),(oS 10 128 (.slice (some ⟨lb,lo,none⟩) FZ.length c3)),(oS 11 129 (.int .i64 (n:Nat))),(oS 12 130 (.pointer (some ⟨lb,lo+n*7,none⟩))),(oS 13 131 (.pointer (some ⟨lb,lo+n*7+1,none⟩))),(oS 14 132 (.pointer (some ⟨lb,lo+n*7+1+1,none⟩))),(oS 15 133 (.int .i64 (m:Nat))),(oS 16 134 (.bool false)),(oS 17 135 (.bool false)),(oS 18 136 (.bool false)),(oS 19 137 (.slice (some ⟨wb,wo,none⟩) K cw)),(oS 20 138 (.int .i64 (k:Nat))),(oS 21 139 (.pointer (some ⟨wb,wo+k,none⟩))),(oS 22 140 (.slice A2 m d2)),(oS 23 141 (.int .i64 (m:Nat))),(oS 24 142 (.slice (some ⟨vb,vo,none⟩) K cv)),(oS 25 143 (.int .i64 (k:Nat))),(oS 26 144 (.pointer (some ⟨vb,vo+k,none⟩))),(oS 27 145 (.slice A1 m d1)),(oS 28 146 (.int .i64 (m:Nat))),(oS 29 147 (.bool false)),(oS 30 148 (.bool false))] 0 ?_ (⟨HV2.o _ HBr.o,HW2.o _ HBr.o,(HCC.o _ HBr.o).2.2.1⟩) ?_
   · intro wz hSz;obtain⟨hx0,hx1,hx2⟩:=hSz;have k5:=HKK.o;refine⟨zQ rfl ?_,zQ rfl ?_,zQ rfl ?_,zQ rfl ?_,zQ rfl ?_,zQ rfl ?_,zQ rfl ?_,zQ rfl ?_,zQ rfl ?_,zQ rfl ?_,zQ rfl ?_,zQ rfl ?_,zQ rfl ?_,zQ rfl ?_,zQ rfl ?_,zQ rfl ?_,zQ rfl ?_,zQ rfl ?_,zQ rfl ?_,zQ rfl ?_,zQ rfl ?_,zQ rfl ?_,zQ rfl ?_,zQ rfl ?_,zQ rfl ?_,zQ rfl ?_,zQ rfl ?_,zQ rfl ?_,zQ rfl ?_,zQ rfl ?_,zQ rfl ?_,trivial⟩;all_goals (simp only[Act.put,pA,pB,pC,Option.getD];go_simp)
   try simp only[zy,zW,Act.put,pA,pB,pC,Option.getD]
   refine wD ?_ _;go_wp2_with fail;go_loopw [21] (fun vj wr=>∃j:Nat,j≤m∧vj=.int .i64 (j:Nat)∧Jd (Below v.heap.size v wr)) (fun vj _=>m-(intOf vj).toNat)
   case atStart=>exact⟨0,Nat.zero_le _,rfl,HBr⟩
   case round =>
    clear HBr HF;obtain⟨j,hj,rfl,HBr⟩:=hrel;have HF:=hI (HFO.o.call (Kp.of_below HBr.o));have v0:=HV2.o wr HBr.o;by_cases hjm:j<m
    case pos =>
     have HJM:=hI hjm;have j0:(0:Int)≤(j:Int):=by omega
     have j1:(j:Int)<(m:Int):=by omega
     have j2:(j:Int)<16385:=by have:=HM4.o;omega
     obtain⟨xb,xo,rfl,hxc⟩:=zhB (l:=XE) (by rw[HMX.o];exact HV1.o) j (by rw[HMX.o];exact hjm);obtain⟨yb,yo,rfl,hyc⟩:=zhB (l:=YE) (by rw[HMY.o];exact HW1.o) j (by rw[HMY.o];exact hjm);go_upto_region 25 with (fail);clear v0;by_cases hfb:fb=0
     case pos =>
      obtain rfl:=HLAB.o hfb;subst hfb;have HXC:=hI hxc;have HYC:=hI hyc;generalize XE.getD j 0=g at HXC HYC;clear hxc hyc hj hjm;refine wL (fun w'=>w'.cell? ⟨lb,lo+n*7+3,none⟩=some (.int .i64 0)∧w'.cell? ⟨vb,vo+k,none⟩=some (.slice (some ⟨xb,xo,none⟩) m d1)∧w'.cell? ⟨wb,wo+k,none⟩=some (.slice (some ⟨yb,yo,none⟩) m d2)∧w'.cell? ⟨xb,xo+j,none⟩=some (.int .i64 g)∧w'.cell? ⟨yb,yo+j,none⟩=some (.int .i64 g)) 99 ?_;replace HBr:=hI (bdr HBr.o);replace HF:=hI HF.o.drew;generalize wr.drew=v2 at *;refine tks [(oS 0 158 (.slice (some ⟨lb,lo,none⟩) FZ.length c3)),(oS 1 159 (.int .i64 (n:Nat))),(oS 2 160 (.pointer (some ⟨lb,lo+n*7,none⟩))),(oS 3 161 (.pointer (some ⟨lb,lo+n*7+1,none⟩))),(oS 4 162 (.pointer (some ⟨lb,lo+n*7+1+2,none⟩))),(oS 5 163 (.int .i64 0)),(oS 6 164 (.bool true)),(oS 7 165 (.bool true)),(oS 8 166 (.slice (some ⟨vb,vo,none⟩) K cv)),(oS 9 167 (.int .i64 (k:Nat))),(oS 10 168 (.pointer (some ⟨vb,vo+k,none⟩))),(oS 11 169 (.slice (some ⟨xb,xo,none⟩) m d1)),(oS 12 170 (.int .i64 (j:Nat))),(oS 13 171 (.pointer (some ⟨xb,xo+j,none⟩))),(oS 14 172 (.int .i64 g)),(oS 15 173 (.slice (some ⟨wb,wo,none⟩) K cw)),(oS 16 174 (.int .i64 (k:Nat))),(oS 17 175 (.pointer (some ⟨wb,wo+k,none⟩))),(oS 18 176 (.slice (some ⟨yb,yo,none⟩) m d2)),(oS 19 177 (.int .i64 (j:Nat))),(oS 20 178 (.pointer (some ⟨yb,yo+j,none⟩))),(oS 21 179 (.int .i64 g)),(oS 22 180 (.bool false)),(oS 23 181 (.bool false))] 0 ?_ (⟨(HCC.o _ HBr.o).2.2.2.1,HV2.o _ HBr.o,HW2.o _ HBr.o,HXC.o _ HBr.o,HYC.o _ HBr.o⟩) ?_
      · intro wz hSz;obtain⟨hx0,hx1,hx2,hx3,hx4⟩:=hSz;refine⟨zQ rfl ?_,zQ rfl ?_,zQ rfl ?_,zQ rfl ?_,zQ rfl ?_,zQ rfl ?_,zQ rfl ?_,zQ rfl ?_,zQ rfl ?_,zQ rfl ?_,zQ rfl ?_,zQ rfl ?_,zQ rfl ?_,zQ rfl ?_,zQ rfl ?_,zQ rfl ?_,zQ rfl ?_,zQ rfl ?_,zQ rfl ?_,zQ rfl ?_,zQ rfl ?_,zQ rfl ?_,zQ rfl ?_,zQ rfl ?_,trivial⟩;all_goals (simp only[Act.put,pA,pB,pC,Option.getD];go_simp)
      exact uDo
     have HFB:=hI (show (fb==0)=false by rw[beq_eq_false_iff_ne];exact hfb);clear hxc hyc hfb hj hjm;refine wL (fun w'=>w'.cell? ⟨lb,lo+n*7+3,none⟩=some (.int .i64 fb)) 99 ?_;replace HBr:=hI (bdr HBr.o);replace HF:=hI HF.o.drew;generalize wr.drew=v2 at *;refine tks [(oS 0 158 (.slice (some ⟨lb,lo,none⟩) FZ.length c3)),(oS 1 159 (.int .i64 (n:Nat))),(oS 2 160 (.pointer (some ⟨lb,lo+n*7,none⟩))),(oS 3 161 (.pointer (some ⟨lb,lo+n*7+1,none⟩))),(oS 4 162 (.pointer (some ⟨lb,lo+n*7+1+2,none⟩))),(oS 5 163 (.int .i64 fb)),(oS 6 164 (.bool false)),(oS 7 165 (.bool false)),(oN 8 166),(oN 9 167),(oN 10 168),(oN 11 169),(oN 12 170),(oN 13 171),(oN 14 172),(oN 15 173),(oN 16 174),(oN 17 175),(oN 18 176),(oN 19 177),(oN 20 178),(oN 21 179),(oN 22 180),(oS 23 181 (.bool false))] 0 ?_ ((HCC.o _ HBr.o).2.2.2.1) ?_
     · intro wz hSz;have hx0:=hSz;have q5:=HFB.o;refine⟨zQ rfl ?_,zQ rfl ?_,zQ rfl ?_,zQ rfl ?_,zQ rfl ?_,zQ rfl ?_,zQ rfl ?_,zQ rfl ?_,trivial,trivial,trivial,trivial,trivial,trivial,trivial,trivial,trivial,trivial,trivial,trivial,trivial,trivial,trivial,zQ rfl ?_,trivial⟩;all_goals (simp only[Act.put,pA,pB,pC,Option.getD];go_simp)
     exact uDo
    obtain rfl:j=m:=by omega
    clear hj hjm;have k6:(k:Int)<65537:=by have:=HKK.o;have:=HKL.o;omega
    have z4:=z2;go_wp2_with fail;go_roundw
    case rel=>exact⟨n+1,HLT.o,by rw[HTL.o];rfl,rfl,HBr⟩
    case measure=>simp only[intOf];have:=HLT.o;omega
  obtain rfl:n=FZ.length:=by omega
  rw[List.take_length,HK.o];have q0:((K:Int)==(K:Int))=true:=by simp
  clear hn hlt;exact uR1
end
end Go.Proofs.YtfibdoehmndinaaGreatDoor
