/- Parts of a proof. No condition but those that each theorem names. -/
import Derived.Test.YtfibdoehmndinaaGreatDoorTfG0e12
import Derived.Test.YtfibdoehmndinaaGreatDoorTfG0e18
namespace Go.Proofs.YtfibdoehmndinaaGreatDoor
open Go.RowKit
set_option linter.unusedVariables false
set_option maxRecDepth 100000
set_option maxHeartbeats 1000000
section
variable {p:Prop}
theorem uLQ (h:p:=by
 obtain rfl:i=n:=by omega
 have k9:¬((i:Int)<(i:Int)):=by omega
 go_wp2_with fail;rw[←HPO.o];exact⟨g,rfl,HGX.o.2,HGR.o,HBR.o⟩):p:=h
theorem uD3 (h:p:=by
 go_wp2_with fail;go_roundw
 case rel=>exact⟨i+1,by omega,by go_num,HBS.o,HLD.o,HXR2.o⟩
 case measure=>simp[intOf];omega):p:=h
end
def part (f:Nat→Int) (n i:Nat):List Int:=(List.range n).map fun j=>if j<i then f j else 0
theorem z6O (s:ByteArray) (k:Nat) (h:k+4≤s.size):s.extract k (k+4)=⟨#[s.data.toList.getD k 0,s.data.toList.getD (k+1) 0,s.data.toList.getD (k+2) 0,s.data.toList.getD (k+3) 0]⟩:=by
 have hl:s.data.toList.length=s.size:=by simp
 have e:(s.extract k (k+4)).data.toList=[s.data.toList.getD k 0,s.data.toList.getD (k+1) 0,s.data.toList.getD (k+2) 0,s.data.toList.getD (k+3) 0]:=by
  simp only[ByteArray.data_extract,Array.toList_extract,List.extract_eq_take_drop];rw[show k+4-k=4 by omega];apply List.ext_getElem?;intro i;rw[List.getElem?_take];split
  · rename_i hi;have e4:i=0∨i=1∨i=2∨i=3:=by omega
    rw[List.getElem?_drop,ztr s.data.toList (k+i) 0 (by omega)];rcases e4 with rfl | rfl | rfl | rfl <;> rfl
  rw[List.getElem?_eq_none (by simp;omega)]
 have:(s.extract k (k+4)).data=#[s.data.toList.getD k 0,s.data.toList.getD (k+1) 0,s.data.toList.getD (k+2) 0,s.data.toList.getD (k+3) 0]:=by rw[←Array.toList_inj];exact e
 cases hx:s.extract k (k+4) with
 | mk d=>rw[hx] at this;rw[←this]
theorem zi7 (s:ByteArray) (n:Nat) (z:Int) (hz:z=(n:Int)) (h:n<s.size) (W:World):(Instr.index 9 (.string s) (.int .i64 z)).run Tryz.prog W=.ok (.int .u8 ((s.data.toList.getD n 0).toNat:Int)) W:=by
 subst hz;rw[run_index_string W 9 s .i64 (n:Int) Tryz.underlying9,dif_pos ⟨by omega,by omega⟩]
 have e:s[((n:Nat):Int).toNat]'(by simpa using h)=s.data.toList.getD n 0:=by
  have hl:n<s.data.toList.length:=by simpa using h
  rw[List.getD_eq_getElem?_getD,List.getElem?_eq_getElem hl];rfl
 rw[e]
theorem zAK (f:Nat→Int) (n i:Nat):(part f n i).length=n:=by unfold part;rw[List.length_map,List.length_range]
theorem z1v (f:Nat→Int) (n:Nat):part f n 0=List.replicate n 0:=by
 apply List.ext_getElem?;intro j;unfold part;by_cases h:j<n
 · simp[h]
 simp[h]
theorem zq2 (f:Nat→Int) (n:Nat):part f n n=(List.range n).map f:=by
 unfold part;refine List.map_congr_left fun j hj=>?_;rw[if_pos (List.mem_range.1 hj)]
theorem zal (f:Nat→Int) (n i:Nat):(part f n i).set i (f i)=part f n (i+1):=by
 apply List.ext_getElem?;intro j;unfold part;rw[List.getElem?_set];by_cases h:i=j
 · subst h;by_cases hi:i<n
   · simp[hi]
   simp[hi]
 rw[if_neg h];by_cases hj:j<n
 · simp only[List.getElem?_map,List.getElem?_range hj,Option.map_some,Option.some.injEq];by_cases h1:j<i
   · rw[if_pos h1,if_pos (by omega)]
   rw[if_neg h1,if_neg (by omega)]
 simp[hj]
theorem zuz (f:TFd) (s:ByteArray) (he:f.ty.elem=2) (h0:0≤f.ty.len) (h1:f.ty.len≤16384) (ho:0≤f.off) (hs:f.off+f.ty.len≤s.size) (hz:s.size≤1048576) (w:World) :
  Calls Tryz.prog 23 #[.agg #[f.name,f.ty.elem,f.ty.len,f.ty.label,f.out,f.off,f.size],s] w fun e w'=>∃g,e=.returned (zVt (z81 f s) g)∧w.heap.size≤g∧w'.heap[g]? = some (zmX (z81 f s))∧Below w.heap.size w w':=by
 obtain⟨fn,⟨te,tl,tb⟩,fo,off,sz⟩:=f;simp only at he h0 h1 ho hs ⊢;subst he;obtain⟨n,rfl⟩:∃n:Nat,tl=n:=⟨tl.toNat,by omega⟩
 obtain⟨k,rfl⟩:∃k:Nat,off=k:=⟨off.toNat,by omega⟩
 have hrd:z81 ⟨fn,⟨2,n,tb⟩,fo,k,sz⟩ s=⟨true,part (fun i=>((bAt s (k+i):Nat):Int)) n n⟩:=by unfold z81;rw[if_pos rfl,zq2];simp only[Int.toNat_natCast]
 rw[hrd];have HFR:=hI (fun W=>zgc ⟨2,n,tb⟩ (by simp only;omega) (by simp only;omega) W);rw[show z25 ⟨2,(n:Int),tb⟩=⟨true,List.replicate n 0⟩ by unfold z25;rw[if_pos rfl];simp only[Int.toNat_natCast],←z1v (fun i=>((bAt s (k+i):Nat):Int)) n] at HFR;unfold zVt zmX at HFR ⊢;simp only[if_true,zAK] at HFR ⊢;have hN:n≤16384:=by omega
 have hK:k+n≤s.size:=by omega
 generalize hPO:(fun (e:Ending) (w':World)=>∃g,e=.returned (.iface 119 (.slice (some ⟨g,0,none⟩) n n))∧w.heap.size≤g∧w'.heap[g]? = some (.cells (zFL (part (fun i=>((bAt s (k+i):Nat):Int)) n n)) 5)∧Below w.heap.size w w')=PO;have HPO:=hI hPO;have hbX:=bnew w (.cells #[fn,.int .i64 2,n,tb,fo,k,sz] 43);have HXX:=hI (heap_alloc_new w (.cells #[fn,.int .i64 2,n,tb,fo,k,sz] 43));have HBX:=hI hbX;have HN:=hI hN;have HK:=hI hK;have HZ:=hI hz;clear hPO hbX hN hK hz h0 h1 ho hs hrd;obtain⟨c1,_⟩:=zz HXX.o 1;obtain⟨c2,_⟩:=zz HXX.o 2;obtain⟨c3,_⟩:=zz HXX.o 3;go_enter Tryz.func23,Tryz.ntmps23;go_upto_region 1 with (fail);have HXS:Jd (w.heap.size<(w.alloc (.cells #[fn,.int .i64 2,n,tb,fo,k,sz] 43)).heap.size):=hI (by simp);generalize w.alloc _=v1 at *;obtain⟨X,hXe⟩:∃X,w.heap.size=X:=⟨_,rfl⟩
 have HXE:=hI hXe;rw[hXe] at HXX HXS c1 c2 c3 ⊢;clear hXe;go_wp2_with fail;refine (HFR.o v1).mono ?_;rintro e v1 ⟨g,rfl,hg1,hg2,hg3⟩;have HGX:Jd (X<g∧w.heap.size≤g):=hI ⟨Nat.lt_of_lt_of_le HXS.o hg1,Nat.le_trans HBX.o.size hg1⟩;have HX2:=hI ((hg3.block X HXS.o).trans HXX.o);have HB2:=hI (HBX.o.trans (hg3.mono HBX.o.size));have HG2:=hI hg2;clear hg1 hg2 hg3 c1 c2 c3;go_wp2_with fail;refine (zRS g n (by have:=HN.o;omega) v1).mono ?_;rintro e v1 ⟨rfl,hw3⟩;have hw3:=hw3.symm;subst hw3;go_wp2_with fail;go_loopw [14] (fun vi wr=>∃(i:Nat),i≤n∧vi=.int .i64 i∧Below w.heap.size w wr∧wr.heap[g]? = some (.cells (zFL (part (fun i=>((bAt s (k+i):Nat):Int)) n i)) 5)∧wr.heap[X]? = some (.cells #[fn,.int .i64 2,n,tb,fo,k,sz] 43 (0,0))) (fun vi _=>n-(intOf vi).toNat)
 case atStart=>exact⟨0,Nat.zero_le _,rfl,HB2.o,HG2.o,HX2.o⟩
 case round =>
  obtain⟨i,hi,rfl,hbr,hgr,hxr⟩:=hrel;have HBR:=hI hbr;have HGR:=hI hgr;have HXR:=hI hxr;clear hbr hgr hxr;by_cases hlt:i<n
  · have k1:(i:Int)<(n:Int):=by omega
    have k2:(i:Int)<65536:=by have:=HN.o;omega
    obtain⟨c1,_⟩:=zz HXR.o 1;obtain⟨c5,_⟩:=zz HXR.o 5;have k3:k+i<s.size:=by have:=HK.o;omega
    have k4:k+i<2000000:=by have:=HZ.o;omega
    have hIX:∀W:World,(Instr.index 9 (.string s) (.int .i64 ((k:Int)+(i:Int)))).run Tryz.prog W=.ok (.int .u8 ((bAt s (k+i):Nat):Int)) W:=fun W=>zi7 s (k+i) _ (by omega) k3 W;have hv:bAt s (k+i)<256:=z2K s (k+i);have HGD:Jd (wr.drew.heap[g]? = _):=hI HGR.o;have HXD:Jd (wr.drew.heap[X]? = _):=hI HXR.o;have HBD:=hI (HBR.o.trans (bdr (Below.refl w.heap.size wr)));have HST:=hI (zgg g i (part (fun i=>((bAt s (k+i):Nat):Int)) n i) (by rw[zAK];exact hlt) ((bAt s (k+i):Nat):Int));rw[zAK] at HST;have HLD:=hI (zPw HGD.o i (.int .u8 (((bAt s (k+i):Nat):Int) % 256)));rw[z0A,Int.emod_eq_of_lt (by omega) (by omega)] at HLD;replace HLD:=hI (HLD.o.trans (congrArg (fun q=>some (Obj.cells (zFL q) 5 (0,0))) (zal (fun i=>((bAt s (k+i):Nat):Int)) n i)));have HBS:=hI (HBD.o.setCell (p:=⟨g,i,none⟩) HGX.o.2 (.int .u8 ((bAt s (k+i):Nat):Int)));have HXR2:=hI (z6d HXD.o ⟨g,i,none⟩ (.int .u8 ((bAt s (k+i):Nat):Int)) (show g≠X by have:=HGX.o.1;omega));replace HST:=hI (HST.o wr.drew HGD.o);rw[Int.emod_eq_of_lt (show (0:Int)≤((bAt s (k+i):Nat):Int) by omega) (by omega)] at HST;generalize bAt s (k+i)=v at *;obtain⟨v',rfl⟩:∃v':Int,(v:Int)=v':=⟨_,rfl⟩
    have hw1:IntKind.i64.wrap ((k:Int)+(i:Int))=(k:Int)+(i:Int):=by rw[zF];unfold wrap64;omega
    have hw2:IntKind.i64.wrap (v:Int)=(v:Int):=by rw[zF];unfold wrap64;omega
    go_upto_region 6 with (fail);have hS0:(fun w'=>w'.cell? ⟨X,5,none⟩=some (.int .i64 k)∧w'.cell? ⟨X,1,none⟩=some (.int .i64 2)) wr.drew:=⟨c5,c1⟩
    refine wL (fun w'=>w'.cell? ⟨X,5,none⟩=some (.int .i64 k)∧w'.cell? ⟨X,1,none⟩=some (.int .i64 2)) 99 ?_;clear c1 c5 HGR HBR HXR;have hna:∀W:World,(nilAhead 378 119 (.slice (some ⟨g,0,none⟩) n n) "hauberk/eval.store").run Tryz.prog W=.ok (some false) W:=fun W=>by kernel_rfl
    generalize wr.drew=wd at *;refine tg 0 21 (.iface 119 (.slice (some ⟨g,0,none⟩) n n)) hS0 ?_;refine tg 1 22 (.int .i64 i) hS0 ?_;refine tg 2 23 (.string s) hS0 ?_;refine tg 3 24 (.pointer (some ⟨X,5,none⟩)) hS0 ?_;refine tg 4 25 (.int .i64 k) hS0 ?_;refine tg 5 26 (.int .i64 i) hS0 ?_;refine tg 6 27 (.int .i64 ((k:Int)+(i:Int))) hS0 ?_;refine tg 7 28 (.int .u8 (v:Int)) hS0 ?_;refine tg 8 29 (.int .i64 (v:Int)) hS0 ?_;refine tg 9 30 (.func (.method "hauberk/eval.store") #[.iface 119 (.slice (some ⟨g,0,none⟩) n n)] #[]) hS0 ?_;refine tg 10 31 (.func (.method "hauberk/eval.store") #[.iface 119 (.slice (some ⟨g,0,none⟩) n n)] #[]) hS0 ?_;refine tg 11 32 (.iface 119 (.slice (some ⟨g,0,none⟩) n n)) hS0 ?_;try simp only[Act.put,pA,pB,pC]
    refine wone 12 fun K hK=>?_;go_simp;refine (HST.o).mono ?_;rintro e v1 ⟨⟨u5,rfl⟩,rfl⟩;refine hK.o _ _ (fun _=>⟨(zz HXR2.o 5).1,(zz HXR2.o 1).1⟩) ?_;clear hK;try simp only[Act.put,pA,pB,pC]
    refine wD ?_ _;exact uD3
  exact uLQ
theorem zKE (f:TFd) (s:ByteArray) (he:f.ty.elem≠2) (h0:0≤f.ty.len) (h1:f.ty.len≤16384) (ho:0≤f.off) (hs:f.off+4*z0s f.ty≤s.size) (hz:s.size≤1048576) (w:World) :
  Calls Tryz.prog 23 #[.agg #[f.name,f.ty.elem,f.ty.len,f.ty.label,f.out,f.off,f.size],s] w fun e w'=>∃g,e=.returned (zVt (z81 f s) g)∧w.heap.size≤g∧w'.heap[g]? = some (zmX (z81 f s))∧Below w.heap.size w w':=by
 obtain⟨fn,⟨te,tl,tb⟩,fo,off,sz⟩:=f;simp only[z0s] at he h0 h1 ho hs ⊢;obtain⟨n,hn⟩:∃n:Nat,max tl 1=n:=⟨(max tl 1).toNat,by omega⟩
 obtain⟨k,rfl⟩:∃k:Nat,off=k:=⟨off.toNat,by omega⟩
 have hrd:z81 ⟨fn,⟨te,tl,tb⟩,fo,k,sz⟩ s=⟨false,part (fun i=>z0N s (k+4*i)) n n⟩:=by unfold z81 z0s;rw[if_neg he,zq2];simp only[Int.toNat_natCast,hn]
 rw[hrd];have HFR:=hI (fun W=>zgc ⟨te,tl,tb⟩ (by simp only;omega) (by simp only;omega) W);rw[show z25 ⟨te,tl,tb⟩=⟨false,List.replicate n 0⟩ by unfold z25;rw[if_neg he];simp only[hn,Int.toNat_natCast],←z1v (fun i=>z0N s (k+4*i)) n] at HFR;unfold zVt zmX at HFR ⊢;simp only[Bool.false_eq_true,if_false,zAK] at HFR ⊢;have hN:n≤16384:=by omega
 have hK:k+4*n≤s.size:=by omega
 have q2:(te==2)=false:=nB he;generalize hPO:(fun (e:Ending) (w':World)=>∃g,e=.returned (.iface 120 (.slice (some ⟨g,0,none⟩) n n))∧w.heap.size≤g∧w'.heap[g]? = some (.cells (zd6 (part (fun i=>z0N s (k+4*i)) n n)) 3)∧Below w.heap.size w w')=PO;have HPO:=hI hPO;have hbX:=bnew w (.cells #[fn,te,tl,tb,fo,k,sz] 43);have HXX:=hI (heap_alloc_new w (.cells #[fn,te,tl,tb,fo,k,sz] 43));have HBX:=hI hbX;have HN:=hI hN;have HK:=hI hK;have HZ:=hI hz;clear hPO hbX hN hK hz h0 h1 ho hs hrd hn he;obtain⟨c1,_⟩:=zz HXX.o 1;obtain⟨c2,_⟩:=zz HXX.o 2;obtain⟨c3,_⟩:=zz HXX.o 3;go_enter Tryz.func23,Tryz.ntmps23;go_upto_region 1 with (fail);have HXS:Jd (w.heap.size<(w.alloc (.cells #[fn,te,tl,tb,fo,k,sz] 43)).heap.size):=hI (by simp);generalize w.alloc _=v1 at *;obtain⟨X,hXe⟩:∃X,w.heap.size=X:=⟨_,rfl⟩
 have HXE:=hI hXe;rw[hXe] at HXX HXS c1 c2 c3 ⊢;clear hXe;go_wp2_with fail;refine (HFR.o v1).mono ?_;rintro e v1 ⟨g,rfl,hg1,hg2,hg3⟩;have HGX:Jd (X<g∧w.heap.size≤g):=hI ⟨Nat.lt_of_lt_of_le HXS.o hg1,Nat.le_trans HBX.o.size hg1⟩;have HX2:=hI ((hg3.block X HXS.o).trans HXX.o);have HB2:=hI (HBX.o.trans (hg3.mono HBX.o.size));have HG2:=hI hg2;clear hg1 hg2 hg3 c1 c2 c3;go_wp2_with fail;refine (z5V g n (by have:=HN.o;omega) v1).mono ?_;rintro e v1 ⟨rfl,hw3⟩;have hw3:=hw3.symm;subst hw3;go_wp2_with fail;go_loopw [14] (fun vi wr=>∃(i:Nat),i≤n∧vi=.int .i64 i∧Below w.heap.size w wr∧wr.heap[g]? = some (.cells (zd6 (part (fun i=>z0N s (k+4*i)) n i)) 3)∧wr.heap[X]? = some (.cells #[fn,te,tl,tb,fo,k,sz] 43 (0,0))) (fun vi _=>n-(intOf vi).toNat)
 case atStart=>exact⟨0,Nat.zero_le _,rfl,HB2.o,HG2.o,HX2.o⟩
 case round =>
  obtain⟨i,hi,rfl,hbr,hgr,hxr⟩:=hrel;have HBR:=hI hbr;have HGR:=hI hgr;have HXR:=hI hxr;clear hbr hgr hxr;by_cases hlt:i<n
  · have k1:(i:Int)<(n:Int):=by omega
    have k2:(i:Int)<65536:=by have:=HN.o;omega
    obtain⟨c1,_⟩:=zz HXR.o 1;obtain⟨c5,_⟩:=zz HXR.o 5;have k3:k+4*i+4≤s.size:=by have:=HK.o;omega
    have k4:(k:Int)+4*(i:Int)<2000000:=by have:=HZ.o;omega
    have hsl:∀W,(Instr.slice 9 (.string s) (some (.int .i64 ((k:Int)+4*(i:Int)))) (some (.int .i64 ((k:Int)+4*(i:Int)+4))) none).run Tryz.prog W=.ok (.string ⟨#[s.data.toList.getD (k+4*i) 0,s.data.toList.getD (k+4*i+1) 0,s.data.toList.getD (k+4*i+2) 0,s.data.toList.getD (k+4*i+3) 0]⟩) W:=by intro W;rw[run_slice_string W 9 s .i64 .i64 _ _ Tryz.underlying9 (by omega) (by omega) (by omega),show ((k:Int)+4*(i:Int)).toNat=k+4*i by omega,show ((k:Int)+4*(i:Int)+4).toNat=k+4*i+4 by omega,z6O s (k+4*i) (by omega)]
    have hle:((le4 (s.data.toList.getD (k+4*i) 0) (s.data.toList.getD (k+4*i+1) 0) (s.data.toList.getD (k+4*i+2) 0) (s.data.toList.getD (k+4*i+3) 0):Nat):Int)=z0N s (k+4*i):=by unfold z0N le4 bAt;rfl
    have HLE:=hI hle;have hv:0≤z0N s (k+4*i)∧z0N s (k+4*i)<4294967296:=by rw[←hle];have:=z73 (s.data.toList.getD (k+4*i) 0) (s.data.toList.getD (k+4*i+1) 0) (s.data.toList.getD (k+4*i+2) 0) (s.data.toList.getD (k+4*i+3) 0);omega
    have HST:=hI (zRd g i (part (fun i=>z0N s (k+4*i)) n i) (by rw[zAK];exact hlt) (z0N s (k+4*i)));rw[zAK] at HST;have HLD:=hI (zPw HGR.o i (.int .i64 (z0N s (k+4*i) % 4294967296)));rw[zyD,Int.emod_eq_of_lt hv.1 hv.2] at HLD;replace HLD:=hI (HLD.o.trans (congrArg (fun q=>some (Obj.cells (zd6 q) 3 (0,0))) (zal (fun i=>z0N s (k+4*i)) n i)));have HBS:=hI (HBR.o.setCell (p:=⟨g,i,none⟩) HGX.o.2 (.int .i64 (z0N s (k+4*i))));have HXR2:=hI (z6d HXR.o ⟨g,i,none⟩ (.int .i64 (z0N s (k+4*i))) (show g≠X by have:=HGX.o.1;omega));replace HST:=hI (HST.o wr HGR.o);rw[Int.emod_eq_of_lt hv.1 hv.2] at HST;generalize z0N s (k+4*i)=v at *;generalize s.data.toList.getD (k+4*i) 0=b0 at *;generalize s.data.toList.getD (k+4*i+1) 0=b1 at *;generalize s.data.toList.getD (k+4*i+2) 0=b2 at *;generalize s.data.toList.getD (k+4*i+3) 0=b3 at *;clear hle hv;go_wp2_with fail;refine (zrA _ _ _ _ _).mono ?_;rintro e v1 ⟨rfl,rfl⟩;rw[HLE.o];go_wp2_with fail;refine (HST.o).mono ?_;rintro e v1 ⟨⟨u5,rfl⟩,rfl⟩;exact uD3
  exact uLQ
end Go.Proofs.YtfibdoehmndinaaGreatDoor
