/- Parts of a proof, joined. No condition but those that each theorem names. -/
import Derived.StillTailTactics
import Derived.WalkLawsBesides
import Derived.Test.YtfibdoehmndinaaGreatDoorTfG0e13
namespace Go.Proofs.YtfibdoehmndinaaGreatDoor
open Go.RowKit
set_option linter.unusedVariables false
set_option maxRecDepth 100000
set_option maxHeartbeats 400000
section
variable {A:Option Addr} {W:World} {c d i:Nat} {l:List TTk} {q:Nat}
section
variable {p:Prop}
theorem uS2 (h:p:=by
 intro wz hSz;obtain⟨c0,cf0⟩:=zz (hSz) 0;go_simp):p:=h
theorem uZM (h:p:=by
 intro wz hSz;obtain⟨c1,cf1⟩:=zz (hSz) 1;go_simp):p:=h
theorem uBu (h:p:=by
 rintro e v1 ⟨⟨P,rfl⟩,hb⟩;have HK9:=hI (HK2.o.trans (Kp.of_below hb) (fun _ _ hs=>hs));clear hb;go_wp2_with fail;refine⟨rfl,?_⟩;rw[←HPO.o];exact zt.none_ (by decide) HK9.o):p:=h
end
theorem zkz (h:PsAt W q A c l i d) :
  Calls Tryz.prog 12 #[.pointer (some ⟨q,0,none⟩)] W fun e w'=>e=.returned (.agg (zL (zb2 l i)).toArray)∧Below W.heap.size W w':=by
 have hbN:=bnew W (.cells #[.int .i64 0,.int .i64 0,.int .i64 0,.string ⟨#[]⟩] 56);have HP:=hI (h.below hbN);have HBN:=hI hbN;have HX:=hI (heap_alloc_new W (.cells #[.int .i64 0,.int .i64 0,.int .i64 0,.string ⟨#[]⟩] 56));obtain⟨t,ht⟩:∃t,zb2 l i=t:=⟨_,rfl⟩
 have HT:=hI ht;rw[ht];unfold zL;obtain⟨tk,tp,tn,tt⟩:=t;simp only;clear h hbN ht;go_enter Tryz.func12,Tryz.ntmps12;go_upto_region 1 with (fail);generalize W.alloc _=v1 at *;obtain⟨X,hX⟩:∃X,W.heap.size=X:=⟨_,rfl⟩
 have HXE:=hI hX;rw[hX] at HX HBN ⊢;clear hX;obtain⟨b,off,rfl,hb,hcell⟩:=zO6 HP.o.tok i HP.o.pos;rw[HT.o] at hcell;have x0:=hcell 0 _ rfl;have x1:=hcell 1 _ rfl;have x2:=hcell 2 _ rfl;have x3:=hcell 3 _ rfl;simp only[Nat.add_zero] at x0;have HB:=HP.o.blk;obtain⟨⟨y0,_⟩,y1,_⟩:=cb2 HB;have k0:(0:Int)≤(i:Int):=by omega
 have k1:(i:Int)<(l.length:Int):=by have:=HP.o.pos;omega
 simp only at x0 x1 x2 x3;clear hcell HB hb;go_still_tail 10,(by kernel_rfl)
 clear x0 x1 x2 x3 y0 y1 k0 k1;change wpList _ _ _ _ _ v1.drew;have HX2:Jd (v1.drew.heap[X]? = _):=hI HX.o;have HB2:Jd (Below X W v1.drew):=hI (bdr HBN.o);generalize v1.drew=v1 at *;have z_:=cb4 HX2.o;go_wp2_with fail;change bodyPost _ _ _ _ _ (setL v1 X 0 [tk,tp,tn,tt]);have hx4:=zdc [tk,tp,tn,tt] HX2.o rfl;have hb4:=zC X [tk,tp,tn,tt] v1 0;generalize setL v1 X 0 _=v1 at *;obtain⟨⟨m0,_⟩,⟨m1,_⟩,⟨m2,_⟩,m3,_⟩:=cb4 hx4;refine bodyPost_ret (v:=.agg #[tk,tp,tn,tt]) (by simp[results,Tryz.results12,go_sem,m0,m1,m2,m3];try rfl) rfl ?_;exact⟨rfl,by rw[HXE.o];exact HB2.o.grown hb4 (by have:=HB2.o.size;have:=HXE.o;omega) (fun k e=>by injection e with e;omega)⟩
theorem zOY (a b:ByteArray):(a.toList==b.toList)=decide (a=b):=by
 by_cases h:a=b
 · subst h;simp
 rw[decide_eq_false h,beq_eq_false_iff_ne];intro e;rw[ByteArray.toList_eq,ByteArray.toList_eq] at e;apply h;cases a;cases b;simp only at e;rw[Array.toList_inj.1 e]
theorem zE6 (text:ByteArray) (h:PsAt W q A c l i d) :
  Calls Tryz.prog 60 #[.pointer (some ⟨q,0,none⟩),text] W fun e w'=>e=.returned (.bool (pIs l text i))∧Below W.heap.size W w':=by
 have HC:=hI (zkz h);obtain⟨t,ht⟩:∃t,zb2 l i=t:=⟨_,rfl⟩
 unfold pIs;rw[ht] at HC ⊢;obtain⟨tk,tp,tn,tt⟩:=t;unfold zL at HC;simp only at HC ⊢;clear h ht;go_enter Tryz.func60,Tryz.ntmps60;go_wp2_with fail;refine (HC.o).mono ?_;rintro e w2 ⟨rfl,hb⟩;have HB:=hI hb;clear hb;by_cases k3:tk=3
 · subst k3;go_wp2_with fail;go_ret;exact⟨zI (by rw[zOY];try simp),bal HB.o _⟩
 have q3:(tk==3)=false:=nB k3;by_cases k4:tk=4
 · subst k4;clear k3;go_wp2_with fail;go_ret;exact⟨zI (by rw[zOY];try simp),bal HB.o _⟩
 have q4:(tk==4)=false:=nB k4;go_wp2_with fail;go_ret;exact⟨zI (by simp[k3,k4]),bal HB.o _⟩
theorem zn1 (E:Int) (h:PsAt W q A c l i d) :
  Calls Tryz.prog 61 #[.pointer (some ⟨q,0,none⟩),E] W fun e w'=>(∃P,e=.panicked [{ v:=zci E P,recovered:=false }])∧Below W.heap.size W w':=by
 have HC:=hI (zkz h);obtain⟨t,ht⟩:∃t,zb2 l i=t:=⟨_,rfl⟩
 rw[ht] at HC;obtain⟨tk,tp,tn,tt⟩:=t;unfold zL at HC;simp only at HC;have hfl:∀W:World,(Instr.field 56 (.agg #[tk,tp,tn,tt]) 1).run Tryz.prog W=.ok (.int .i64 tp) W:=fun _=>by kernel_rfl
 unfold zci;clear h ht;go_enter Tryz.func61,Tryz.ntmps61;go_wp2_with fail;refine (HC.o).mono ?_;rintro e w2 ⟨rfl,hb⟩;have HB:=hI hb;clear hb;go_wp2_with fail;exact⟨rfl,⟨tp,rfl⟩,HB.o⟩
theorem zTe (hok:TkOk l) {text:ByteArray} (hi:i<l.length) (h:pIs l text i=true):i+1<l.length:=by
 refine (hok.2 i hi).1 fun e=>?_;unfold pIs at h;rw[e] at h;simp at h
theorem zt.none_ {T:Type} {R:World→Value→T→Prop} {dd s:Nat} {w':World} {E P:Int} (hE:E≠0) (hk:Kp (qS q) W w'):zt q A c l R i dd s none W (.panicked [{ v:=zci E P,recovered:=false }]) w':=⟨⟨E,P,rfl,hE⟩,hk⟩
theorem zn8 (text:ByteArray) (h:PsAt W q A c l i d) :
  Calls Tryz.prog 33 #[.pointer (some ⟨q,0,none⟩),text] W (zt q A c l zth i d 1 (zi0 l text i d) W):=by
 unfold zi0;have HC:=hI (zE6 text h);have HF:=hI (fun W (h:PsAt W q A c l i d)=>zn1 10 h);have HP:=hI h;have HLN:=hI h.ok.1;cases hb:pIs l text i
 case false=>rw[hb] at HC;rw[if_neg (by simp)];generalize hPO:zt q A c l zth i d 1 none W=PO;have HPO:=hI hPO;clear h hb hPO;go_enter Tryz.func33,Tryz.ntmps33;go_wp2_with fail;refine (HC.o).mono ?_;rintro e v ⟨rfl,hb⟩;have HP2:=hI (HP.o.below hb);have HK2:=hI (Kp.of_below (S:=qS q) hb);clear hb;go_wp2_with fail;refine (HF.o v HP2.o).mono ?_;exact uBu
 have HIS:=hI (zTe h.ok h.pos hb);rw[hb] at HC;rw[if_pos rfl];generalize hPO:zt q A c l zth i d 1 (some ((),i+1,d)) W=PO;have HPO:=hI hPO;clear h hb hPO;go_enter Tryz.func33,Tryz.ntmps33;go_wp2_with fail;refine (HC.o).mono ?_;rintro e v ⟨rfl,hb⟩;have HP2:=hI (HP.o.below hb);have HK2:=hI (Kp.of_below (S:=qS q) hb);obtain⟨y1,f1⟩:=zz HP2.o.blk 1;have hi2:(i:Int)<1000000:=by have:=HP2.o.pos;have:=HLN.o;omega
 have hi0:(0:Int)≤(i:Int):=by omega
 clear hb;go_wp2_with fail;go_end0;rw[←HPO.o];exact⟨⟨_,rfl,trivial⟩,HP2.o.put1 HIS.o,HK2.o.set _ (Or.inl rfl),rfl,Nat.le_refl _⟩
theorem z77 (text:ByteArray) (h:PsAt W q A c l i d) :
  Calls Tryz.prog 38 #[.pointer (some ⟨q,0,none⟩),text] W fun e w'=>e=.returned (.bool (pIs l text i))∧PsAt w' q A c l (if pIs l text i=true then i+1 else i) d∧Kp (qS q) W w':=by
 have HC:=hI (zE6 text h);have HP:=hI h;have HLN:=hI h.ok.1;cases hb:pIs l text i
 case false=>rw[hb] at HC;rw[if_neg (by simp)];generalize hPO:(fun (e:Ending) (w':World)=>e=.returned (.bool false)∧PsAt w' q A c l i d∧Kp (qS q) W w')=PO;have HPO:=hI hPO;clear h hb hPO;go_enter Tryz.func38,Tryz.ntmps38;go_wp2_with fail;refine (HC.o).mono ?_;rintro e w2 ⟨rfl,hb⟩;have HP2:=hI (HP.o.below hb);have HK2:=hI (Kp.of_below (S:=qS q) hb);clear hb;go_wp2_with fail;rw[←HPO.o];exact⟨rfl,HP2.o,HK2.o⟩
 have HIS:=hI (zTe h.ok h.pos hb);rw[hb] at HC;rw[if_pos rfl];generalize hPO:(fun (e:Ending) (w':World)=>e=.returned (.bool true)∧PsAt w' q A c l (i+1) d∧Kp (qS q) W w')=PO;have HPO:=hI hPO;clear h hb hPO;go_enter Tryz.func38,Tryz.ntmps38;go_wp2_with fail;refine (HC.o).mono ?_;rintro e w2 ⟨rfl,hb⟩;have HP2:=hI (HP.o.below hb);have HK2:=hI (Kp.of_below (S:=qS q) hb);obtain⟨y1,f1⟩:=zz HP2.o.blk 1;have hi2:(i:Int)<1000000:=by have:=HP2.o.pos;have:=HLN.o;omega
 have hi0:(0:Int)≤(i:Int):=by omega
 clear hb;go_wp2_with fail;rw[←HPO.o];exact⟨rfl,HP2.o.put1 HIS.o,HK2.o.set _ (Or.inl rfl)⟩
theorem znY (k:Int) (hk:k≠0) (h:PsAt W q A c l i d) :
  Calls Tryz.prog 34 #[.pointer (some ⟨q,0,none⟩),k] W (zt q A c l RTk i d 1 (zHr l k i d) W):=by
 unfold zHr;have hbN:=bnew W (.cells #[.int .i64 0,.int .i64 0,.int .i64 0,.string ⟨#[]⟩] 56);have HP:=hI (h.below hbN);have HF1:=hI ((Frm.start (S:=qS q) W (fun x e=>by have e2:x=q:=e;have:=h.lt;omega)).alloc 56 [.int .i64 0,.int .i64 0,.int .i64 0,.string ⟨#[]⟩]);have HC:=hI (zkz HP.o);have HF:=hI (fun W (h:PsAt W q A c l i d)=>zn1 10 h);have HLN:=hI h.ok.1;have HTB:=hI (h.ok.2 i h.pos);obtain⟨t,ht⟩:∃t,zb2 l i=t:=⟨_,rfl⟩
 rw[ht] at HC HTB ⊢;obtain⟨tk,tp,tn,tt⟩:=t;unfold zL at HC;simp only at HC HTB ⊢;by_cases hb:tk=k
 · subst hb;rw[if_pos rfl];generalize hPO:zt q A c l RTk i d 1 (some (⟨tk,tp,tn,tt⟩,i+1,d)) W=PO;have HPO:=hI hPO;have HIS:=hI (HTB.o.1 hk);have q0:(tk != tk)=false:=by simp
   clear h ht hPO hk hbN;go_enter Tryz.func34,Tryz.ntmps34;go_upto_region 1 with (fail);generalize W.alloc _=v1 at *;generalize W.heap.size=X at HF1 ⊢;go_wp2_with fail;refine (HC.o).mono ?_;rintro e v2 ⟨rfl,hb⟩;have HP2:=hI ((HP.o.below hb).below (bnew v2 (.cells #[tk,tp,tn,tt] 56)));have HF2:=hI ((HF1.o.below hb).alloc 56 [tk,tp,tn,tt]);clear hb;go_upto_region 4 with (fail);generalize v2.alloc _=v3 at *;generalize v2.heap.size=Y at HF2 ⊢;obtain⟨y1,f1⟩:=zz HP2.o.blk 1;have hi2:(i:Int)<1000000:=by have:=HP2.o.pos;have:=HLN.o;omega
   have hi0:(0:Int)≤(i:Int):=by omega
   go_upto_region 5 with (fail);have HP3:=hI (HP2.o.put1 HIS.o);have HF3:=hI (HF2.o.put (q:=q) rfl 1 (.int .i64 ((i:Int)+1)));clear y1 f1 hi2 hi0;generalize v3.setCell _ _=v4 at *;have u_:=cb4 (HF3.o.at_ 0 rfl);have v_:=cb4 (HF3.o.at_ 1 rfl);go_wp2_with fail;clear u_ v_;have HP4:=hI (HP3.o.keep (zC X [tk,tp,tn,tt] v4 0) (fun g e=>by injection e with e;rw[←e];exact HF3.o.far 1 rfl rfl));change bodyPost _ _ _ _ _ (setL v4 X 0 [tk,tp,tn,tt]);have HF4:=hI (HF3.o.fill 1 rfl [tk,tp,tn,tt] rfl);generalize setL v4 X 0 _=v4 at *;have m_:=cb4 (HF4.o.at_ 1 rfl);refine bodyPost_ret (v:=.agg #[tk,tp,tn,tt]) (by simp[results,Tryz.results34,go_sem,m_];try rfl) rfl ?_;clear m_;rw[←HPO.o];exact⟨⟨_,rfl,rfl,HTB.o.2⟩,HP4.o,HF4.o.kp,rfl,Nat.le_refl _⟩
 rw[if_neg hb];generalize hPO:zt q A c l RTk i d 1 none W=PO;have HPO:=hI hPO;have q0:(tk != k)=true:=by rw[bne_iff_ne];exact hb
 clear h ht hPO hk hbN hb;go_enter Tryz.func34,Tryz.ntmps34;go_upto_region 1 with (fail);generalize W.alloc _=v1 at *;generalize W.heap.size=X at HF1 ⊢;go_wp2_with fail;refine (HC.o).mono ?_;rintro e v2 ⟨rfl,hb⟩;have HP2:=hI ((HP.o.below hb).below (bnew v2 (.cells #[tk,tp,tn,tt] 56)));have HF2:=hI ((HF1.o.below hb).alloc 56 [tk,tp,tn,tt]);clear hb;have HK2:=hI HF2.o.kp;go_upto_region 3 with (fail);generalize v2.alloc _=v3 at *;generalize v2.heap.size=Y at *;go_wp2_with fail;refine (HF.o v3 HP2.o).mono ?_;exact uBu
end
section
variable {A:Option Addr} {T U:Type} {W:World} {c d i:Nat} {l:List TTk} {q:Nat}
section
variable {p:Prop}
theorem uA0 (h:p:=by
 rw[hq] at hpost;obtain⟨⟨E,P,rfl,hE⟩,hk⟩:=hpost;have HRT:=HR;rw[hq] at HRT;simp only[zw] at HRT;have HK9:=hI (HF.o.call hk).kp;have HE:=hI hE;clear hq hk hE;go_wp2_with fail;refine⟨rfl,?_⟩;rw[←HPO.o,←HRT.o];exact zt.none_ HE.o HK9.o):p:=h
theorem uUD (h:p:=by
 replace HP:=hI (HP.o.below (bw HF));generalize v.alloc _=v1 at *;generalize v.heap.size=Y at HF ⊢;go_wp2_with fail;refine (znY 2 (by decide) HP.o).mono ?_;intro e v2 hpost;cases hq:zHr l 2 j d
 case none=>rw[hq] at hpost;obtain⟨⟨E,P,rfl,hE⟩,hk⟩:=hpost;have HRT:=HR;rw[hq] at HRT;simp only[zw] at HRT;have HK9:=hI (HF.o.call hk).kp;have HE:=hI hE;clear hq hk hE;go_wp2_with fail;refine⟨rfl,?_⟩;rw[←HPO.o,←HRT.o];exact zt.none_ HE.o HK9.o
 rename_i x;obtain⟨⟨tk2,tp2,tn2,tt2⟩,j2,d2⟩:=x
 obtain⟨⟨u,rfl,hR⟩,HP,hk,rfl,Hhij2,HR⟩:=ppS hpost hq HR;have hu:u=.agg #[tk2,tp2,tn2,tt2]:=hR.1;subst hu;have HTB2:=hI hR.2;simp only at HTB2;clear hR;have hfl2:=fun W=>z9U tk2 tp2 tn2 tt2 W;replace HF:=hI (HF.o.call hk);clear hq hk;go_wp2_with fail;refine (zn8 ⟨#[93]⟩ HP.o).mono ?_;intro e v3 hpost;cases hq:zi0 l ⟨#[93]⟩ j2 d
 case none=>rw[hq] at hpost;obtain⟨⟨E,P,rfl,hE⟩,hk⟩:=hpost;have HRT:=HR;rw[hq] at HRT;simp only[zw] at HRT;have HK9:=hI (HF.o.call hk).kp;have HE:=hI hE;clear hq hk hE;go_wp2_with fail;refine⟨rfl,?_⟩;rw[←HPO.o,←HRT.o];exact zt.none_ HE.o HK9.o
 rename_i x;obtain⟨t3,j3,d2⟩:=x
 obtain⟨⟨u,rfl,hR⟩,HP,hk,rfl,Hhij3,HR⟩:=ppS hpost hq HR;replace HF:=hI (HF.o.call hk);clear hq hk;go_wp2_with fail;rw[←HPO.o,←HR.o];exact⟨⟨_,rfl,rfl⟩,HP.o,HF.o.kp,rfl,by have:=Hhij.out;have:=Hhij2.out;have:=Hhij3.out;try simp only;omega⟩):p:=h
theorem uKX (h:p:=by
 have HE:=hI hE;clear hk hE;go_wp2_with fail;refine⟨rfl,?_⟩;rw[←HPO.o];exact zt.none_ HE.o HK9.o):p:=h
end
theorem zes (a b c:Int) (s:ByteArray) (W:World):(Instr.field 56 (.agg #[a,b,c,s]) 1).run Tryz.prog W=.ok (.int .i64 b) W:=by kernel_rfl
theorem z9U (a b c:Int) (s:ByteArray) (W:World):(Instr.field 56 (.agg #[a,b,c,s]) 2).run Tryz.prog W=.ok (.int .i64 c) W:=by kernel_rfl
theorem z9K (a b c:Int) (s:ByteArray) (W:World):(Instr.field 56 (.agg #[a,b,c,s]) 3).run Tryz.prog W=.ok (.string s) W:=by kernel_rfl
theorem zB (t:T) (i d:Nat) (f:T→Nat→Nat→PR U):PB (some (t,i,d)) f=f t i d:=rfl
theorem zw (f:T→Nat→Nat→PR U):PB (none:PR T) f=none:=rfl
theorem zU9 (text:ByteArray) (h:PsAt W q A c l i d) :
  Calls Tryz.prog 63 #[.pointer (some ⟨q,0,none⟩),text] W (zt q A c l zth i (d+1) 1 (z4y l text i d) W):=by
 unfold z4y zi0;have HC:=hI (zE6 text h);have HTK:=hI (fun W (h:PsAt W q A c l i d)=>zn8 text h);have HF:=hI (fun W (h:PsAt W q A c l i d)=>zn1 11 h);have HP:=hI h;unfold zi0 at HTK;cases hb:pIs l text i
 case false=>rw[hb] at HC HTK;rw[if_neg (by simp)] at HTK ⊢;generalize hPO:zt q A c l zth i (d+1) 1 (PB (if false=true then some ((),i+1,d) else none) fun _ i d=>some ((),i,d+1)) W=PO;have HPO:=hI hPO;clear h hb hPO;go_enter Tryz.func63,Tryz.ntmps63;go_wp2_with fail;refine (HC.o).mono ?_;rintro e v ⟨rfl,hb⟩;have HP2:=hI (HP.o.below hb);have HK2:=hI (Kp.of_below (S:=qS q) hb);clear hb;go_wp2_with fail;refine (HTK.o v HP2.o).mono ?_;intro e v1 hpost;obtain⟨⟨E,P,rfl,hE⟩,hk⟩:=hpost;have HK9:=hI (HK2.o.trans hk (fun _ _ hs=>hs));exact uKX
 rw[hb] at HC HTK;rw[if_pos rfl] at HTK ⊢;by_cases h64:d=64
 · subst h64;rw[if_pos (by decide)];generalize hPO:zt q A c l zth i (64+1) 1 none W=PO;have HPO:=hI hPO;clear h hb hPO;go_enter Tryz.func63,Tryz.ntmps63;go_wp2_with fail;refine (HC.o).mono ?_;rintro e v ⟨rfl,hb⟩;have HP2:=hI (HP.o.below hb);have HK2:=hI (Kp.of_below (S:=qS q) hb);obtain⟨y2,f2⟩:=zz HP2.o.blk 2;clear hb;go_wp2_with fail;refine (HF.o v HP2.o).mono ?_;rintro e v2 ⟨⟨P,rfl⟩,hb⟩;have HK9:=hI (HK2.o.trans (Kp.of_below hb) (fun _ _ hs=>hs));clear hb y2 f2;go_wp2_with fail;refine⟨rfl,?_⟩;rw[←HPO.o];exact zt.none_ (by decide) HK9.o
 rw[if_neg (by simp[h64])];have q64:((d:Int)==64)=false:=by rw[beq_eq_false_iff_ne];omega
 have HD:=hI h64;generalize hPO:zt q A c l zth i (d+1) 1 (PB (some ((),i+1,d)) fun _ i d=>some ((),i,d+1)) W=PO;have HPO:=hI hPO;clear h hb hPO h64;go_enter Tryz.func63,Tryz.ntmps63;go_wp2_with fail;refine (HC.o).mono ?_;rintro e v ⟨rfl,hb⟩;have HP2:=hI (HP.o.below hb);have HK2:=hI (Kp.of_below (S:=qS q) hb);obtain⟨y2,f2⟩:=zz HP2.o.blk 2;clear hb;go_wp2_with fail;refine (HTK.o v HP2.o).mono ?_;intro e v1 hpost;obtain⟨⟨u,rfl,_⟩,hp,hk,_,_⟩:=hpost;have HP3:=hI hp;have HK3:=hI (HK2.o.trans hk (fun _ _ hs=>hs));clear hp hk;clear y2 f2;obtain⟨y2,f2⟩:=zz HP3.o.blk 2;have hd2:(d:Int)<1000000:=by have:=HP3.o.dep;omega
 have hd0:(0:Int)≤(d:Int):=by omega
 go_wp2_with fail;go_end0;rw[←HPO.o];exact⟨⟨_,rfl,trivial⟩,HP3.o.put2 (d':=d+1) (by omega) (by have h1:=HP3.o.dep;have h2:=HD.o;have h3:d≤64:=h1;omega),HK3.o.set _ (Or.inl rfl),rfl,Nat.le_refl _⟩
theorem z8C (text:ByteArray) (h:PsAt W q A c l i d) (hd:0<d) :
  Calls Tryz.prog 65 #[.pointer (some ⟨q,0,none⟩),text] W (zt q A c l zth i (d-1) 1 (zSt l text i d) W):=by
 unfold zSt zi0;have HTK:=hI (zn8 text h);unfold zi0 at HTK;have HD:=hI hd;cases hb:pIs l text i
 case false=>rw[hb] at HTK;rw[if_neg (by simp)] at HTK ⊢;generalize hPO:zt q A c l zth i (d-1) 1 (PB (none:PR Unit) fun _ i d=>some ((),i,d-1)) W=PO;have HPO:=hI hPO;clear h hb hPO hd;go_enter Tryz.func65,Tryz.ntmps65;go_wp2_with fail;refine (HTK.o).mono ?_;intro e w3 hpost;obtain⟨⟨E,P,rfl,hE⟩,hk⟩:=hpost;have HK9:=hI hk;exact uKX
 rw[hb] at HTK;rw[if_pos rfl] at HTK ⊢;generalize hPO:zt q A c l zth i (d-1) 1 (PB (some ((),i+1,d)) fun _ i d=>some ((),i,d-1)) W=PO;have HPO:=hI hPO;clear h hb hPO hd;go_enter Tryz.func65,Tryz.ntmps65;go_wp2_with fail;refine (HTK.o).mono ?_;intro e w3 hpost;obtain⟨⟨u,rfl,_⟩,hp,hk,_,_⟩:=hpost;have HP3:=hI hp;have HK3:=hI hk;clear hp hk;obtain⟨y2,f2⟩:=zz HP3.o.blk 2;have hd2:(d:Int)<1000000:=by have:=HP3.o.dep;omega
 have hd0:(0:Int)≤(d:Int):=by omega
 go_wp2_with fail;go_end0;rw[←HPO.o];exact⟨⟨_,rfl,trivial⟩,HP3.o.put2 (d':=d-1) (by have:=HD.o;omega) (by have h1:=HP3.o.dep;have h3:d≤64:=h1;omega),HK3.o.set _ (Or.inl rfl),rfl,Nat.le_refl _⟩
theorem zDb (h:PsAt W q A c l i d):Calls Tryz.prog 40 #[.pointer (some ⟨q,0,none⟩)] W (zt q A c l RInt i d 1 (zNj l i d) W):=by
 have HM:=hI (z77 ⟨#[115,101,99]⟩ h);have HP:=hI h;have HF:=hI (Frm.start (S:=qS q) W (fun x e=>by have e2:x=q:=e;have:=h.lt;omega));have HLN:=hI h.ok.1;have HT:=hI (fun W (h:PsAt W q A c l i d)=>zn8 ⟨#[112,117,98]⟩ h);obtain⟨r,hr⟩:∃r,zNj l i d=r:=⟨_,rfl⟩
 rw[hr];have HR:=hI hr;generalize hPO:zt q A c l RInt i d 1 r W=PO;have HPO:=hI hPO;clear hr hPO h;go_enter Tryz.func40,Tryz.ntmps40;unfold zNj at HR;go_wp2_with fail;refine (HM.o).mono ?_;intro e v hpost;cases hb:pIs l ⟨#[115,101,99]⟩ i
 case true=>rw[hb] at hpost;rw[hb] at HR;simp only[if_true] at HR;obtain⟨rfl,hp,hk⟩:=hpost;replace HP:Jd (PsAt v q A c l (i+1) d):=hI hp;replace HF:=hI (HF.o.call hk);clear hp hk;have HBB:=hI hb;clear hb;go_wp2_with fail;rw[←HPO.o,←HR.o];exact⟨⟨_,rfl,rfl⟩,HP.o,HF.o.kp,rfl,Nat.le_refl _⟩
 rw[hb] at hpost;rw[hb] at HR;simp only[Bool.false_eq_true,if_false] at HR;obtain⟨rfl,hp,hk⟩:=hpost;replace HP:Jd (PsAt v q A c l i d):=hI hp;replace HF:=hI (HF.o.call hk);clear hp hk;have HBB:=hI hb;clear hb;go_wp2_with fail;refine (HT.o v HP.o).mono ?_;intro e v hpost;cases hq:zi0 l ⟨#[112,117,98]⟩ i d
 case none=>exact uA0
 rename_i x;obtain⟨t,j,d2⟩:=x
 obtain⟨⟨u,rfl,hR⟩,HP,hk,rfl,Hhij,HR⟩:=ppS hpost hq HR;replace HF:=hI (HF.o.call hk);clear hq hk;go_wp2_with fail;rw[←HPO.o,←HR.o];exact⟨⟨_,rfl,rfl⟩,HP.o,HF.o.kp,rfl,Hhij.out⟩
theorem z0Z (h:PsAt W q A c l i d):Calls Tryz.prog 83 #[.pointer (some ⟨q,0,none⟩)] W (zt q A c l RInt i d 1 (zOR l i d) W):=by
 have HP:=hI h;have HF:=hI (Frm.start (S:=qS q) W (fun x e=>by have e2:x=q:=e;have:=h.lt;omega));have HLN:=hI h.ok.1;have HT:=hI (zn8 ⟨#[91]⟩ h);obtain⟨r,hr⟩:∃r,zOR l i d=r:=⟨_,rfl⟩
 rw[hr];have HR:=hI hr;generalize hPO:zt q A c l RInt i d 1 r W=PO;have HPO:=hI hPO;clear hr hPO h;go_enter Tryz.func83,Tryz.ntmps83;unfold zOR at HR;go_wp2_with fail;refine (HT.o).mono ?_;intro e v hpost;cases hq:zi0 l ⟨#[91]⟩ i d
 case none=>exact uA0
 rename_i x;obtain⟨t,j,d2⟩:=x
 obtain⟨⟨u,rfl,hR⟩,HP,hk,rfl,Hhij,HR⟩:=ppS hpost hq HR;replace HF:=hI (HF.o.call hk);clear hq hk;go_wp2_with fail;have HC:=hI (zkz HP.o);obtain⟨t,ht⟩:∃t,zb2 l j=t:=⟨_,rfl⟩
 rw[ht] at HC;obtain⟨tk1,tp1,tn1,tt1⟩:=t;unfold zL at HC;simp only at HC;have HT1:=hI ht;clear ht;refine (HC.o).mono ?_;rintro e v ⟨rfl,hbb⟩;replace HP:=hI (HP.o.below hbb);replace HF:=hI (HF.o.below hbb);clear hbb HC;by_cases k2:tk1=2
 · subst k2;by_cases k0:tn1=0
   · subst k0;rw[HT1.o] at HR;simp only at HR;rw[if_pos (by simp)] at HR;go_upto_region 4 with (fail);replace HF:=hI (HF.o.alloc 56 [.int .i64 2,tp1,.int .i64 0,tt1]);replace HP:=hI (HP.o.below (bw HF));generalize v.alloc _=v1 at *;generalize v.heap.size=Y at HF ⊢;go_wp2_with fail;refine (zn1 10 HP.o).mono ?_;rintro e v2 ⟨⟨P,rfl⟩,hb⟩;have HK9:=hI (HF.o.below hb).kp;clear hb;go_wp2_with fail;refine⟨rfl,?_⟩;rw[←HPO.o,←HR.o];exact zt.none_ (by decide) HK9.o
   have q0:(tn1==0)=false:=nB k0;rw[HT1.o] at HR;simp only at HR;rw[if_neg (fun h9=>k0 h9.2)] at HR;clear k0;go_upto_region 5 with (fail);replace HF:=hI (HF.o.alloc 56 [.int .i64 2,tp1,tn1,tt1]);exact uUD
 have q2:(tk1==2)=false:=nB k2;rw[HT1.o] at HR;simp only at HR;rw[if_neg (fun h9=>k2 h9.1)] at HR;clear k2;go_upto_region 5 with (fail);replace HF:=hI (HF.o.alloc 56 [tk1,tp1,tn1,tt1]);exact uUD
theorem zbr (label:Int) (h:PsAt W q A c l i d):Calls Tryz.prog 39 #[.pointer (some ⟨q,0,none⟩),label] W (zt q A c l RTy i d 1 (zXf l label i d) W):=by
 have HP:=hI (h.below (bnew W (.cells #[.int .i64 0,.int .i64 0,.int .i64 0] 41)));have HF:=hI ((Frm.start (S:=qS q) W (fun x e=>by have e2:x=q:=e;have:=h.lt;omega)).alloc 41 [.int .i64 0,.int .i64 0,.int .i64 0]);have HLN:=hI h.ok.1;obtain⟨r,hr⟩:∃r,zXf l label i d=r:=⟨_,rfl⟩
 rw[hr];have HR:=hI hr;generalize hPO:zt q A c l RTy i d 1 r W=PO;have HPO:=hI hPO;clear hr hPO h;go_enter Tryz.func39,Tryz.ntmps39;go_upto_region 1 with (fail);generalize (W.alloc _)=v1 at *;generalize W.heap.size=X0 at HF ⊢;unfold zXf at HR;go_wp2_with fail;refine (z77 ⟨#[109,97,115,107]⟩ HP.o).mono ?_;intro e v1 hpost;cases hb:pIs l ⟨#[109,97,115,107]⟩ i
 case true=>rw[hb] at hpost;rw[hb] at HR;simp only[if_true] at HR;obtain⟨rfl,hp,hk⟩:=hpost;replace HP:Jd (PsAt v1 q A c l (i+1) d):=hI hp;replace HF:=hI (HF.o.call hk);clear hp hk;have HBB:=hI hb;clear hb;have v_:=cb3 (HF.o.at_ 0 rfl);go_wp2_with fail;clear v_;replace HP:=hI (HP.o.keep (zC X0 [.int .i64 1,.int .i64 0,label] v1 0) (fun g e=>by injection e with e;rw[←e];exact HF.o.far 0 rfl rfl));change bodyPost _ _ _ _ _ (setL v1 X0 0 [.int .i64 1,.int .i64 0,label]);replace HF:=hI (HF.o.fill 0 rfl [.int .i64 1,.int .i64 0,label] rfl);generalize setL v1 X0 0 _=v2 at *;have m_:=cb3 (HF.o.at_ 0 rfl);refine bodyPost_ret (v:=.agg #[.int .i64 1,.int .i64 0,label]) (by simp[results,Tryz.results39,go_sem,m_];try rfl) rfl ?_;clear m_;rw[←HPO.o,←HR.o];exact⟨⟨_,rfl,rfl⟩,HP.o,HF.o.kp,rfl,Nat.le_refl _⟩
 rw[hb] at hpost;rw[hb] at HR;simp only[Bool.false_eq_true,if_false] at HR;obtain⟨rfl,hp,hk⟩:=hpost;replace HP:Jd (PsAt v1 q A c l i d):=hI hp;replace HF:=hI (HF.o.call hk);clear hp hk;have HBB:=hI hb;clear hb;go_wp2_with fail;refine (zn8 ⟨#[117,51,50]⟩ HP.o).mono ?_;intro e v2 hpost;cases hq:zi0 l ⟨#[117,51,50]⟩ i d
 case none=>exact uA0
 rename_i x;obtain⟨t,j,d2⟩:=x
 obtain⟨⟨u,rfl,hR⟩,HP,hk,rfl,Hhij,HR⟩:=ppS hpost hq HR;replace HF:=hI (HF.o.call hk);clear hq hk;have v_:=cb3 (HF.o.at_ 0 rfl);go_wp2_with fail;clear v_;replace HP:=hI (HP.o.keep (zC X0 [.int .i64 0,.int .i64 0,label] v2 0) (fun g e=>by injection e with e;rw[←e];exact HF.o.far 0 rfl rfl));change bodyPost _ _ _ _ _ (setL v2 X0 0 [.int .i64 0,.int .i64 0,label]);replace HF:=hI (HF.o.fill 0 rfl [.int .i64 0,.int .i64 0,label] rfl);generalize setL v2 X0 0 _=v1 at *;have m_:=cb3 (HF.o.at_ 0 rfl);refine bodyPost_ret (v:=.agg #[.int .i64 0,.int .i64 0,label]) (by simp[results,Tryz.results39,go_sem,m_];try rfl) rfl ?_;clear m_;rw[←HPO.o,←HR.o];exact⟨⟨_,rfl,rfl⟩,HP.o,HF.o.kp,rfl,Hhij.out⟩
end
set_option maxHeartbeats 1000000
section
variable {A:Option Addr} {W:World} {c d i:Nat} {l:List TTk} {q:Nat}
section
variable {p:Prop}
theorem uUc (h:p:=by
 rw[hq] at hpost;obtain⟨⟨E,P,rfl,hE⟩,hk⟩:=hpost;have HRT:=HR;rw[hq] at HRT;simp only[zw] at HRT;have HK9:=hI (HF.o.call hk).kp;have HE:=hI hE;clear hq hk hE hK;go_wp2_with fail;refine⟨rfl,?_⟩;rw[←HPO.o,←HRT.o];exact zt.none_ HE.o HK9.o):p:=h
theorem uFW (h:p:=by
 go_enter Tryz.func142,Tryz.ntmps142;go_wp2_with fail;go_ret2;exact⟨rfl,rfl⟩):p:=h
theorem uLa (h:p:=by
 clear m_;rw[←HPO.o,←HR.o];exact⟨⟨_,rfl,rfl⟩,HP.o,HF.o.kp,rfl,by have:=Hhij.out;try simp only;omega⟩):p:=h
end
theorem zj2 {t:ByteArray} (s:ByteArray) (L:List UInt8) (hs:s.data.toList=L) (h:t≠s):(t.toList==L)=false:=by
 have e:=zOY t s;rw[ByteArray.toList_eq s,hs] at e;exact e.trans (decide_eq_false h)
theorem zXl (t:ByteArray) (W:World):Calls Tryz.prog 142 #[t] W fun e w'=>e=.returned (.tuple #[.int .i64 (zxh t).1,.int .i64 (zxh t).2])∧w'=W:=by
 by_cases h0:t=⟨#[61,61]⟩
 · subst h0;exact uFW
 have q0:(t.toList==[61,61])=false:=zj2 ⟨#[61,61]⟩ _ rfl h0;by_cases h1:t=⟨#[33,61]⟩
 · subst h1;exact uFW
 have q1:(t.toList==[33,61])=false:=zj2 ⟨#[33,61]⟩ _ rfl h1;by_cases h2:t=⟨#[60]⟩
 · subst h2;exact uFW
 have q2:(t.toList==[60])=false:=zj2 ⟨#[60]⟩ _ rfl h2;by_cases h3:t=⟨#[60,61]⟩
 · subst h3;exact uFW
 have q3:(t.toList==[60,61])=false:=zj2 ⟨#[60,61]⟩ _ rfl h3;by_cases h4:t=⟨#[62]⟩
 · subst h4;exact uFW
 have q4:(t.toList==[62])=false:=zj2 ⟨#[62]⟩ _ rfl h4;by_cases h5:t=⟨#[62,61]⟩
 · subst h5;exact uFW
 have q5:(t.toList==[62,61])=false:=zj2 ⟨#[62,61]⟩ _ rfl h5;by_cases h6:t=⟨#[124]⟩
 · subst h6;exact uFW
 have q6:(t.toList==[124])=false:=zj2 ⟨#[124]⟩ _ rfl h6;by_cases h7:t=⟨#[94]⟩
 · subst h7;exact uFW
 have q7:(t.toList==[94])=false:=zj2 ⟨#[94]⟩ _ rfl h7;by_cases h8:t=⟨#[38]⟩
 · subst h8;exact uFW
 have q8:(t.toList==[38])=false:=zj2 ⟨#[38]⟩ _ rfl h8;by_cases h9:t=⟨#[60,60]⟩
 · subst h9;exact uFW
 have q9:(t.toList==[60,60])=false:=zj2 ⟨#[60,60]⟩ _ rfl h9;by_cases h10:t=⟨#[62,62]⟩
 · subst h10;exact uFW
 have q10:(t.toList==[62,62])=false:=zj2 ⟨#[62,62]⟩ _ rfl h10;by_cases h11:t=⟨#[43]⟩
 · subst h11;exact uFW
 have q11:(t.toList==[43])=false:=zj2 ⟨#[43]⟩ _ rfl h11;by_cases h12:t=⟨#[45]⟩
 · subst h12;exact uFW
 have q12:(t.toList==[45])=false:=zj2 ⟨#[45]⟩ _ rfl h12;by_cases h13:t=⟨#[42]⟩
 · subst h13;exact uFW
 have q13:(t.toList==[42])=false:=zj2 ⟨#[42]⟩ _ rfl h13;have hv:zxh t=(-1,0):=by unfold zxh;rw[if_neg h0,if_neg h1,if_neg h2,if_neg h3,if_neg h4,if_neg h5,if_neg h6,if_neg h7,if_neg h8,if_neg h9,if_neg h10,if_neg h11,if_neg h12,if_neg h13]
 rw[hv];clear hv h0 h1 h2 h3 h4 h5 h6 h7 h8 h9 h10 h11 h12 h13;exact uFW
theorem zhn (label:Int) (h:PsAt W q A c l i d):Calls Tryz.prog 62 #[.pointer (some ⟨q,0,none⟩),label] W (zt q A c l RTy i d 1 (z0b l label i d) W):=by
 have HP:=hI (h.below (bnew W (.cells #[.int .i64 0,.int .i64 0,.int .i64 0] 41)));have HF:=hI ((Frm.start (S:=qS q) W (fun x e=>by have e2:x=q:=e;have:=h.lt;omega)).alloc 41 [.int .i64 0,.int .i64 0,.int .i64 0]);have HLN:=hI h.ok.1;obtain⟨r,hr⟩:∃r,z0b l label i d=r:=⟨_,rfl⟩
 rw[hr];have HR:=hI hr;generalize hPO:zt q A c l RTy i d 1 r W=PO;have HPO:=hI hPO;clear hr hPO h;go_enter Tryz.func62,Tryz.ntmps62;go_upto_region 1 with (fail);generalize (W.alloc _)=v1 at *;generalize W.heap.size=X0 at HF ⊢;unfold z0b at HR;go_wp2_with fail;refine (z77 ⟨#[117,56]⟩ HP.o).mono ?_;intro e v1 hpost;cases hb:pIs l ⟨#[117,56]⟩ i
 case true =>
  rw[hb] at hpost;rw[hb] at HR;simp only[if_true] at HR;obtain⟨rfl,hp,hk⟩:=hpost;replace HP:Jd (PsAt v1 q A c l (i+1) d):=hI hp;replace HF:=hI (HF.o.call hk);clear hp hk;have HBB:=hI hb;clear hb;go_wp2_with fail;refine (z0Z HP.o).mono ?_;intro e v2 hpost;cases hq:zOR l (i+1) d
  case none=>exact uA0
  rename_i x;obtain⟨n,j,d2⟩:=x
  obtain⟨⟨u,rfl,hR⟩,HP,hk,rfl,Hhij,HR⟩:=ppS hpost hq HR;have hu:u=.int .i64 n:=hR;subst hu;clear hR;replace HF:=hI (HF.o.call hk);clear hq hk;have v_:=cb3 (HF.o.at_ 0 rfl);go_wp2_with fail;clear v_;replace HP:=hI (HP.o.keep (zC X0 [.int .i64 2,n,label] v2 0) (fun g e=>by injection e with e;rw[←e];exact HF.o.far 0 rfl rfl));change bodyPost _ _ _ _ _ (setL v2 X0 0 [.int .i64 2,n,label]);replace HF:=hI (HF.o.fill 0 rfl [.int .i64 2,n,label] rfl);generalize setL v2 X0 0 _=v3 at *;have m_:=cb3 (HF.o.at_ 0 rfl);refine bodyPost_ret (v:=.agg #[.int .i64 2,n,label]) (by simp[results,Tryz.results62,go_sem,m_];try rfl) rfl ?_;exact uLa
 rw[hb] at hpost;rw[hb] at HR;simp only[Bool.false_eq_true,if_false] at HR;obtain⟨rfl,hp,hk⟩:=hpost;replace HP:Jd (PsAt v1 q A c l i d):=hI hp;replace HF:=hI (HF.o.call hk);clear hp hk;have HBB:=hI hb;clear hb;go_wp2_with fail;refine (zbr label HP.o).mono ?_;intro e v2 hpost;cases hq:zXf l label i d
 case none=>exact uA0
 rename_i x;obtain⟨⟨te,tl,tb⟩,j,d2⟩:=x
 obtain⟨⟨u,rfl,hR⟩,HP,hk,rfl,Hhij,HR⟩:=ppS hpost hq HR;have hu:u=.agg #[te,tl,tb]:=hR;subst hu;clear hR;replace HF:=hI (HF.o.call hk);clear hq hk;go_upto_region 4 with (fail);replace HF:=hI (HF.o.alloc 41 [te,tl,tb]);replace HP:=hI (HP.o.below (bw HF));generalize v2.alloc _=v3 at *;generalize v2.heap.size=Y at HF ⊢;by_cases e0:te=0
 · subst e0;simp only[decide_true,Bool.true_and] at HR;obtain⟨⟨y0,yf0⟩,⟨y1,yf1⟩,y2,yf2⟩:=cb3 (HF.o.at_ 0 rfl);go_wp2_with fail;refine (zE6 ⟨#[91]⟩ HP.o).mono ?_;intro e v1 hpost;cases hb:pIs l ⟨#[91]⟩ j
   case false=>rw[hb] at hpost;rw[hb] at HR;simp only[Bool.false_eq_true,if_false] at HR;obtain⟨rfl,hbb⟩:=hpost;replace HP:=hI (HP.o.below hbb);replace HF:=hI (HF.o.below hbb);clear hbb;have HBB:=hI hb;clear hb y0 yf0 y1 yf1 y2 yf2;have y_:=cb3 (HF.o.at_ 0 rfl);have v_:=cb3 (HF.o.at_ 1 rfl);go_wp2_with fail;clear y_ v_;replace HP:=hI (HP.o.keep (zC X0 [.int .i64 0,tl,tb] v1 0) (fun g e=>by injection e with e;rw[←e];exact HF.o.far 1 rfl rfl));change bodyPost _ _ _ _ _ (setL v1 X0 0 [.int .i64 0,tl,tb]);replace HF:=hI (HF.o.fill 1 rfl [.int .i64 0,tl,tb] rfl);generalize setL v1 X0 0 _=v2 at *;have m_:=cb3 (HF.o.at_ 1 rfl);refine bodyPost_ret (v:=.agg #[.int .i64 0,tl,tb]) (by simp[results,Tryz.results62,go_sem,m_];try rfl) rfl ?_;exact uLa
   rw[hb] at hpost;rw[hb] at HR;simp only[if_true] at HR;obtain⟨rfl,hbb⟩:=hpost;replace HP:=hI (HP.o.below hbb);replace HF:=hI (HF.o.below hbb);clear hbb;have HBB:=hI hb;clear hb y0 yf0 y1 yf1 y2 yf2;go_wp2_with fail;refine (z0Z HP.o).mono ?_;intro e v2 hpost;cases hq:zOR l j d
   case none=>exact uA0
   rename_i x;obtain⟨n2,j2,d2⟩:=x
   obtain⟨⟨u,rfl,hR⟩,HP,hk,rfl,Hhij2,HR⟩:=ppS hpost hq HR;have hu:u=.int .i64 n2:=hR;subst hu;clear hR;replace HF:=hI (HF.o.call hk);clear hq hk;have y_:=cb3 (HF.o.at_ 0 rfl);go_upto_region 6 with (fail);clear y_;replace HP:=hI (HP.o.setX (HF.o.far 0 rfl rfl) 1 (.int .i64 n2));replace HF:=hI (HF.o.set 0 rfl 1 (.int .i64 n2));generalize v2.setCell _ _=v2 at *;have y_:=cb3 (HF.o.at_ 0 rfl);have v_:=cb3 (HF.o.at_ 1 rfl);go_wp2_with fail;clear y_ v_;replace HP:=hI (HP.o.keep (zC X0 [.int .i64 0,n2,tb] v2 0) (fun g e=>by injection e with e;rw[←e];exact HF.o.far 1 rfl rfl));change bodyPost _ _ _ _ _ (setL v2 X0 0 [.int .i64 0,n2,tb]);replace HF:=hI (HF.o.fill 1 rfl [.int .i64 0,n2,tb] rfl);generalize setL v2 X0 0 _=v2 at *;have m_:=cb3 (HF.o.at_ 1 rfl);refine bodyPost_ret (v:=.agg #[.int .i64 0,n2,tb]) (by simp[results,Tryz.results62,go_sem,m_];try rfl) rfl ?_;clear m_;rw[←HPO.o,←HR.o];exact⟨⟨_,rfl,rfl⟩,HP.o,HF.o.kp,rfl,by have:=Hhij.out;have:=Hhij2.out;try simp only;omega⟩
 have q0:(te==0)=false:=nB e0;simp only[decide_eq_false e0,Bool.false_and,Bool.false_eq_true,if_false] at HR;clear e0;have y_:=cb3 (HF.o.at_ 0 rfl);have v_:=cb3 (HF.o.at_ 1 rfl);go_wp2_with fail;clear y_ v_;replace HP:=hI (HP.o.keep (zC X0 [te,tl,tb] v3 0) (fun g e=>by injection e with e;rw[←e];exact HF.o.far 1 rfl rfl));change bodyPost _ _ _ _ _ (setL v3 X0 0 [te,tl,tb]);replace HF:=hI (HF.o.fill 1 rfl [te,tl,tb] rfl);generalize setL v3 X0 0 _=v1 at *;have m_:=cb3 (HF.o.at_ 1 rfl);refine bodyPost_ret (v:=.agg #[te,tl,tb]) (by simp[results,Tryz.results62,go_sem,m_];try rfl) rfl ?_;exact uLa
theorem zYo (k:Int) (h:PsAt W q A c l i d) :
  Calls Tryz.prog 106 #[.pointer (some ⟨q,0,none⟩),k] W fun e w'=>(∃x:Int,e=.returned (.tuple #[.int .i64 (match zom l k i with
   | some kk=>kk
   | none=>x),.bool (zom l k i).isSome]))∧Below W.heap.size W w':=by
 have HC:=hI (zkz h)
 obtain⟨t,ht⟩:∃t,zb2 l i=t:=⟨_,rfl⟩
 unfold zom
 rw[ht] at HC ⊢
 obtain⟨tk,tp,tn,tt⟩:=t
 unfold zL at HC
 simp only at HC ⊢
 clear h ht
 have HV:=hI (zXl tt)
 obtain⟨v,hv⟩:∃v,zxh tt=v:=⟨_,rfl⟩
 rw[hv] at HV ⊢
 obtain⟨v1,v2⟩:=v
 simp only at HV ⊢
 clear hv
 generalize hPO:(fun (e:Ending) (w':World)=>(∃x:Int,e=.returned (.tuple #[.int .i64 (match (if tk=4∧v1=k then some v2 else none:Option Int) with
  | some kk=>kk
  | none=>x),.bool (if tk=4∧v1=k then some v2 else none:Option Int).isSome]))∧Below W.heap.size W w')=PO
 have HPO:=hI hPO
 clear hPO
 go_enter Tryz.func106,Tryz.ntmps106
 go_wp2_with fail
 refine (HC.o).mono ?_
 rintro e v3 ⟨rfl,hb⟩
 have HB:=hI (bal hb (.cells #[tk,tp,tn,tt] 56))
 have HX:=hI (heap_alloc_new v3 (.cells #[tk,tp,tn,tt] 56))
 clear hb
 go_upto_region 2 with (fail)
 generalize v3.alloc _=v4 at *
 obtain⟨X,hX⟩:∃X,v3.heap.size=X:=⟨_,rfl⟩
 rw[hX] at HX ⊢
 clear hX
 obtain⟨x0,f0⟩:=zz HX.o 0
 obtain⟨x3,f3⟩:=zz HX.o 3
 by_cases k4:tk=4
 · subst k4
   go_wp2_with fail
   refine (HV.o v4).mono ?_
   rintro e v3 ⟨rfl,hw⟩
   subst hw
   clear x0 f0 x3 f3
   go_wp2_with fail
   rw[←HPO.o]
   refine⟨⟨v2,?_⟩,HB.o⟩
   by_cases hk:v1=k
   · subst hk;simp
   · simp[hk]
 · have q4:(tk != 4)=true:=by rw[bne_iff_ne];exact k4
   have HK:=hI k4
   clear k4
   go_wp2_with fail
   rw[←HPO.o]
   refine⟨⟨0,?_⟩,HB.o⟩
   simp[HK.o]
theorem zFi (h:PsAt W q A c l i d):Calls Tryz.prog 37 #[.pointer (some ⟨q,0,none⟩)] W (zt q A c l RPa i d 1 (z43 l i d) W):=by
 have HP:=hI (h.below (bnew W (.cells #[.int .i64 0,.string ⟨#[]⟩,.int .i64 0,.int .i64 0,.int .i64 0,false] 65)));have HF:=hI ((Frm.start (S:=qS q) W (fun x e=>by have e2:x=q:=e;have:=h.lt;omega)).alloc 65 [.int .i64 0,.string ⟨#[]⟩,.int .i64 0,.int .i64 0,.int .i64 0,false]);have HLN:=hI h.ok.1;obtain⟨r,hr⟩:∃r,z43 l i d=r:=⟨_,rfl⟩
 rw[hr];have HR:=hI hr;generalize hPO:zt q A c l RPa i d 1 r W=PO;have HPO:=hI hPO;clear hr hPO h;go_enter Tryz.func37,Tryz.ntmps37;go_upto_region 1 with (fail);generalize (W.alloc _)=v1 at *;generalize W.heap.size=X0 at HF ⊢;unfold z43 at HR;simp only at HR;go_wp2_with fail;refine (z77 ⟨#[111,117,116]⟩ HP.o).mono ?_;rintro e v1 ⟨rfl,hp,hk⟩;generalize pIs l ⟨#[111,117,116]⟩ i=o at *;obtain⟨ii,hii⟩:∃ii,(if o=true then i+1 else i)=ii:=⟨_,rfl⟩
 rw[hii] at hp HR;have Hii:Jd (i≤ii):=hI (by rw[←hii];split <;> omega);replace HP:Jd (PsAt v1 q A c l ii d):=hI hp;replace HF:=hI (HF.o.call hk);clear hp hk hii;go_wp2_with fail;refine (zDb HP.o).mono ?_;intro e v1 hpost;cases hq:zNj l ii d
 case none=>exact uA0
 rename_i x;obtain⟨lab,j,d2⟩:=x
 obtain⟨⟨u,rfl,hR⟩,HP,hk,rfl,Hhij,HR⟩:=ppS hpost hq HR;have hu:u=.int .i64 lab:=hR;subst hu;clear hR;replace HF:=hI (HF.o.call hk);clear hq hk;go_wp2_with fail;refine (znY 1 (by decide) HP.o).mono ?_;intro e v1 hpost;cases hq:zHr l 1 j d
 case none=>exact uA0
 rename_i x;obtain⟨⟨tk1,tp1,tn1,tt1⟩,j2,d2⟩:=x
 obtain⟨⟨u,rfl,hR⟩,HP,hk,rfl,Hhij2,HR⟩:=ppS hpost hq HR;have hu:u=.agg #[tk1,tp1,tn1,tt1]:=hR.1;subst hu;have HTB1:=hI hR.2;simp only at HTB1;clear hR;replace HF:=hI (HF.o.call hk);clear hq hk;go_upto_region 4 with (fail);replace HF:=hI (HF.o.alloc 56 [tk1,tp1,tn1,tt1]);replace HP:=hI (HP.o.below (bw HF));generalize v1.alloc _=v2 at *;generalize v1.heap.size=Y at HF ⊢;go_wp2_with fail;refine (zn8 ⟨#[58]⟩ HP.o).mono ?_;intro e v1 hpost;cases hq:zi0 l ⟨#[58]⟩ j2 d
 case none=>exact uA0
 rename_i x;obtain⟨t3,j3,d2⟩:=x
 obtain⟨⟨u,rfl,hR⟩,HP,hk,rfl,Hhij3,HR⟩:=ppS hpost hq HR;replace HF:=hI (HF.o.call hk);clear hq hk;go_upto_region 5 with (fail);refine wL (fun w'=>w'.heap[Y]? = some (.cells #[tk1,tp1,tn1,tt1] 56 (0,0))) 99 ?_;replace HP:=hI (HP.o.below (bdr (Below.refl _ _)));replace HF:=hI HF.o.drew;generalize v1.drew=v1 at *;refine tg 0 14 (.pointer (some ⟨Y,1,none⟩)) (HF.o.at_ 0 rfl) ?_;refine tk 1 15 (.int .i64 tp1) ?_ (HF.o.at_ 0 rfl) ?_
 · exact uZM
 refine tg 2 16 (.pointer (some ⟨Y,3,none⟩)) (HF.o.at_ 0 rfl) ?_;refine tk 3 17 (.string tt1) ?_ (HF.o.at_ 0 rfl) ?_
 · intro wz hSz;obtain⟨c3,cf3⟩:=zz (hSz) 3;go_simp
 refine tg 4 18 (.pointer (some ⟨q,0,none⟩)) (HF.o.at_ 0 rfl) ?_;refine tg 5 19 (.int .i64 lab) (HF.o.at_ 0 rfl) ?_;refine tg 7 21 (.bool o) (HF.o.at_ 0 rfl) ?_;try simp only[Act.put,pA,pB,pC]
 refine wone 6 fun K hK=>?_;go_simp;refine (zhn lab HP.o).mono ?_;intro e v1 hpost;cases hq:z0b l lab j3 d
 case none=>exact uUc
 rename_i x;obtain⟨⟨te,tl,tb⟩,j4,d2⟩:=x
 obtain⟨⟨u,rfl,hR⟩,HP,hk,rfl,Hhij4,HR⟩:=ppS hpost hq HR;have hu:u=.agg #[te,tl,tb]:=hR;subst hu;clear hR;replace HF:=hI (HF.o.call hk);clear hq hk;refine hK.o _ _ (fun _=>(HF.o.at_ 0 rfl)) ?_;clear hK;refine tg 8 22 (.agg #[tp1,tt1,te,tl,tb,o]) (HF.o.at_ 0 rfl) ?_;try simp only[Act.put,pA,pB,pC]
 have v_:=cb6 (HF.o.at_ 1 rfl);refine wone 9 fun K hK=>?_;go_simp;replace HP:=hI (HP.o.keep (zC X0 [tp1,tt1,te,tl,tb,o] v1 0) (fun g e=>by injection e with e;rw[←e];exact HF.o.far 1 rfl rfl));replace HF:=hI (HF.o.fill 1 rfl [tp1,tt1,te,tl,tb,o] rfl);change K _ (setL v1 X0 0 [tp1,tt1,te,tl,tb,o]);generalize setL v1 X0 0 _=v1 at *;clear v_;refine hK.o _ _ (fun _=>(HF.o.at_ 0 rfl)) ?_;clear hK;try simp only[Act.put,pA,pB,pC]
 refine wD ?_ _;go_wp2_with fail;have m_:=cb6 (HF.o.at_ 1 rfl);refine bodyPost_ret (v:=.agg #[tp1,tt1,te,tl,tb,o]) (by simp[results,Tryz.results37,go_sem,m_];try rfl) rfl ?_;clear m_;rw[←HPO.o,←HR.o];exact⟨⟨_,rfl,rfl,HTB1.o.1⟩,HP.o,HF.o.kp,rfl,by have:=Hii.out;have:=Hhij.out;have:=Hhij2.out;have:=Hhij3.out;have:=Hhij4.out;try simp only;omega⟩
end
section
variable {B:Nat} {M:World} {S:Nat→Prop} {W:World} {cap:Nat} {es:List Value} {g:Nat} {l:List TEx} {q:Nat} {row:Option Nat} {t t1 t2:TEx} {ty:TypeId} {v v1 v2:Value} {w w' w1:World}
theorem zdI {P:Nat→Nat→Prop} (mono:∀n m k,n≤m→P n k→P m k):∀m,(∀k,k<m→∃n,P n k)→∃N,∀k,k<m→P N k
 | 0,_=>⟨0,fun k h=>absurd h (Nat.not_lt_zero _)⟩
 | m+1,h=>by
  obtain⟨N,hN⟩:=zdI mono m (fun k hk=>h k (Nat.lt_succ_of_lt hk))
  obtain⟨n,hn⟩:=h m (Nat.lt_succ_self _)
  refine⟨max N n,fun k hk=>?_⟩
  rcases Nat.lt_or_ge k m with h1 | h1
  · exact mono _ _ _ (Nat.le_max_left ..) (hN k h1)
  · obtain rfl:k=m:=by omega
    exact mono _ _ _ (Nat.le_max_right ..) hn
theorem zzJ {T:Type} {E:Nat→Enc T} (s:Nat) (hs:∀n,(E n).size=s) (hu:∀n m {w:World} {B:Nat} {es:List Value} {t:T},n≤m→(E n).rep w B es t→(E m).rep w B es t) {E':Enc T} (hs':E'.size=s) (he:∀{w:World} {B:Nat} {es:List Value} {t:T},E'.rep w B es t→∃n,(E n).rep w B es t) {l:List T} (h:zj E' w B v l):∃n,zj (E n) w B v l:=by
 obtain⟨A,c,e,hc,h⟩:=h
 obtain⟨N,hN⟩:=zdI (P:=fun n k=>∀t,l[k]? = some t→∃b off es,A=some ⟨b,off,none⟩∧b<B∧(E n).rep w B es t∧∀(j:Nat) (u:Value),es[j]? = some u→w.cell? ⟨b,off+k*s+j,none⟩=some u)
  (fun n m k hnm hp t ht=>by
   obtain⟨b,off,es,h1,h2,h3,h4⟩:=hp t ht;exact⟨b,off,es,h1,h2,hu n m hnm h3,h4⟩) l.length (fun k hk=>by
   obtain⟨b,off,es,h1,h2,h3,h4⟩:=h k _ (List.getElem?_eq_getElem hk);obtain⟨n,h3⟩:=he h3;refine⟨n,fun t ht=>?_⟩;rw[List.getElem?_eq_getElem hk] at ht;cases ht;exact⟨b,off,es,h1,h2,h3,fun j u hu=>by rw[←hs'];exact h4 j u hu⟩)
 refine⟨N,A,c,e,hc,fun k t ht=>?_⟩;obtain⟨b,off,es,h1,h2,h3,h4⟩:=hN k (List.getElem?_eq_some_iff.1 ht).1 t ht;exact⟨b,off,es,h1,h2,h3,fun j u hu=>by rw[hs N];exact h4 j u hu⟩
theorem zSE (n m:Nat) (h:n≤m) (hr:(zO n).rep w B es t):(zO m).rep w B es t:=by
 induction h with
 | refl=>exact hr
 | step _ ih=>exact zrp _ ih
theorem zT3 (n m:Nat) {t:TSt} (h:n≤m) (hr:(zM n).rep w B es t):(zM m).rep w B es t:=by
 induction h with
 | refl=>exact hr
 | step _ ih=>exact zpN _ ih
theorem zyL (n m:Nat) (h:n≤m) (hr:zj (zO n) w B v l):zj (zO m) w B v l:=hr.up (by rw[zWx,zWx]) (fun hr=>zSE n m h hr)
theorem z8R (n m:Nat) {l:List TSt} (h:n≤m) (hr:zj (zM n) w B v l):zj (zM m) w B v l:=hr.up (by rw[zYp,zYp]) (fun hr=>zT3 n m h hr)
def exE:Enc TEx:=⟨5,fun w B es t=>∃n,(zO n).rep w B es t,fun h=>by obtain⟨n,h⟩:=h;rw[(zO n).len h,zWx],fun h hB hk=>by
 obtain⟨n,h⟩:=h
 exact⟨n,(zO n).keep h hB hk⟩⟩
def stE:Enc TSt:=⟨11,fun w B es t=>∃n,(zM n).rep w B es t,fun h=>by obtain⟨n,h⟩:=h;rw[(zM n).len h,zYp],fun h hB hk=>by
 obtain⟨n,h⟩:=h
 exact⟨n,(zM n).keep h hB hk⟩⟩
theorem zV:zOH exE:=fun h hB hk=>by
 obtain⟨n,h⟩:=h
 exact⟨n,zZK n h hB hk⟩
theorem zuD:zOH stE:=fun h hB hk=>by
 obtain⟨n,h⟩:=h
 exact⟨n,zmx n h hB hk⟩
theorem slE (h:zj exE w B v l):∃n,zj (zO n) w B v l:=zzJ 5 zWx (fun n m _ _ _ _ h hr=>zSE n m h hr) rfl (fun h=>h) h
theorem slSt {l:List TSt} (h:zj stE w B v l):∃n,zj (zM n) w B v l:=zzJ 11 zYp (fun n m _ _ _ _ h hr=>zT3 n m h hr) rfl (fun h=>h) h
theorem zA1 (h0:exSm t) (h:zj exE w B v t.args):exE.rep w B (zem t v) t:=by
 obtain⟨n,h⟩:=slE h;exact⟨n+1,h0,v,rfl,h⟩
theorem zLH {t:TSt} {va vb ve:Value} (h0:stSm t) (h1:zj exE w B va t.args) (h2:zj stE w B vb t.body) (h3:zj stE w B ve t.els):stE.rep w B (zTK t va vb ve) t:=by
 obtain⟨n1,h1⟩:=slE h1;obtain⟨n2,h2⟩:=slSt h2;obtain⟨n3,h3⟩:=slSt h3;exact⟨max n1 (max n2 n3)+1,h0,va,vb,ve,rfl,zyL _ _ (by omega) h1,z8R _ _ (by omega) h2,z8R _ _ (by omega) h3⟩
theorem zkR (hb:M.heap[g]? = some (.cells (zem t v).toArray 153 (0,0))) (hg:g<B) (h0:exSm t) (h:zj exE M B v t.args):zj exE M B (.slice (some ⟨g,0,none⟩) 1 1) [t] :=
 zjf hb hg (zA1 h0 h)
theorem zQh (zs:List Value) (hb:M.heap[g]? = some (.cells (zem t1 v1++zem t2 v2++zs).toArray ty (0,0))) (hg:g<B) (h1:exSm t1) (h2:exSm t2) (k1:zj exE M B v1 t1.args) (k2:zj exE M B v2 t2.args) (hc:2≤cap):zj exE M B (.slice (some ⟨g,0,none⟩) 2 cap) [t1,t2]:=by
 refine⟨some ⟨g,0,none⟩,cap,rfl,hc,fun k x hk=>?_⟩;have hcell:∀(j:Nat) (u:Value),(zem t1 v1++zem t2 v2)[j]? = some u→M.cell? ⟨g,j,none⟩=some u:=fun j u hu=>by rw[(zz hb j).1,List.getElem?_toArray,List.getElem?_append_left (List.getElem?_eq_some_iff.1 hu).1];exact hu
 match k,hk with
 | 0,hk =>
  cases hk;exact⟨g,0,_,rfl,hg,zA1 h1 k1,fun j u hu=>hcell _ u (by rw[show 0+0*exE.size+j=j by omega,List.getElem?_append_left (List.getElem?_eq_some_iff.1 hu).1];exact hu)⟩
 | 1,hk =>
  cases hk;exact⟨g,0,_,rfl,hg,zA1 h2 k2,fun j u hu=>hcell _ u (by rw[show 0+1*exE.size+j=5+j by show 0+1*5+j=5+j;omega,List.getElem?_append_right (by show 5≤5+j;omega),show 5+j-(zem t1 v1).length=j by show 5+j-5=j;omega];exact hu)⟩
 | k+2,hk=>simp at hk
theorem z8T (hb:M.heap[g]? = some (.cells (zem t1 v1++zem t2 v2).toArray ty (0,0))) (hg:g<B) (h1:exSm t1) (h2:exSm t2) (k1:zj exE M B v1 t1.args) (k2:zj exE M B v2 t2.args) (hc:2≤cap):zj exE M B (.slice (some ⟨g,0,none⟩) 2 cap) [t1,t2] :=
 zQh [] (by rw[List.append_nil];exact hb) hg h1 h2 k1 k2 hc
def RExE (lo:Nat) (w:World) (u:Value) (t:TEx):Prop:=exSm t∧∃v,u=.agg (zem t v).toArray∧zj exE (LoW lo w) w.heap.size v t.args
def zHO (lo:Nat) (w:World) (u:Value) (t:List TEx):Prop:=t.length≤65536∧zj exE (LoW lo w) w.heap.size u t
def RStE (lo:Nat) (w:World) (u:Value) (t:TSt):Prop:=stSm t∧∃va vb ve,u=.agg (zTK t va vb ve).toArray∧zj exE (LoW lo w) w.heap.size va t.args∧zj stE (LoW lo w) w.heap.size vb t.body∧zj stE (LoW lo w) w.heap.size ve t.els
def zop (lo:Nat) (w:World) (u:Value) (t:List TSt):Prop:=t.length≤65536∧zj stE (LoW lo w) w.heap.size u t
def zyK (q:Nat) (w:World):Nat:=match w.cell? ⟨q,1,none⟩ with
 | some (.int _ v)=>v.toNat
 | _=>0
theorem PsAt.posN {A:Option Addr} {c:Nat} {l:List TTk} {i d:Nat} (h:PsAt w q A c l i d):zyK q w=i:=by
 unfold zyK;rw[(zz h.blk 1).1];simp
theorem kpg (k:Kp (qS q) w w'):w.grownBy w' (some q):=⟨k.os,k.tape,k.output,k.siz,fun i hi hne=>by
 have h1:w.heap[i]? = some (w.heap[i]'hi):=Array.getElem?_eq_getElem _
 rw[h1]
 exact k.blk i _ (fun e=>hne (by have e2:i=q:=e;rw[e2])) h1⟩
theorem zfc (k:Kp S W w) (hb:Below w.heap.size w w1) (hg:w1.grownBy w' row) (hr:∀g,row=some g→W.heap.size≤g):Kp S W w':=by
 have k1:Kp S W w1:=k.trans (Kp.of_below hb) (fun _ _ h=>h);refine⟨hg.os.trans k1.os,hg.tape.trans k1.tape,hg.output.trans k1.output,Nat.le_trans k1.siz hg.size,fun p x hp hx=>?_⟩;have h1:=k1.blk p x hp hx;rw[hg.block p (zh h1) (fun e=>by have:=hr p e.symm;have:=zh hx;omega)];exact h1
theorem Frm.grow0 (h:Frm S W w [] []) (hb:Below w.heap.size w w1) (hg:w1.grownBy w' row) (hr:∀g,row=some g→W.heap.size≤g):Frm S W w' [] [] :=
 ⟨zfc h.kp hb hg hr,by simp,h.sub,by simp,by simp,by simp⟩
theorem Frm.allocN {bs:List (Nat×TypeId×List Value)} {ts:List zOU} (h:Frm S W w bs ts) (n:Nat) (hn:w.heap.size=n) (t:TypeId) (es:List Value):Frm S W (w.alloc (.cells es.toArray t)) ((n,t,es)::bs) ts:=by
 subst hn;exact h.alloc t es
structure zDq (n:Nat):Prop where
 expr:∀{W:World} {q c i d:Nat} {A:Option Addr} {l:List TTk},PsAt W q A c l i d→16*(l.length-i)+10≤n→Calls Tryz.prog 85 #[.pointer (some ⟨q,0,none⟩)] W (zt q A c l (RExE W.heap.size) i d 1 (z4a l n i d) W)
 chain:∀(k:Int) {W:World} {q c i d:Nat} {A:Option Addr} {l:List TTk},1≤k→k≤7→PsAt W q A c l i d→16*(l.length-i)+3+(7-k).toNat≤n→Calls Tryz.prog 105 #[.pointer (some ⟨q,0,none⟩),k] W (zt q A c l (RExE W.heap.size) i d 1 (zKT l n k i d) W)
 unary:∀{W:World} {q c i d:Nat} {A:Option Addr} {l:List TTk},PsAt W q A c l i d→16*(l.length-i)+2≤n→Calls Tryz.prog 141 #[.pointer (some ⟨q,0,none⟩)] W (zt q A c l (RExE W.heap.size) i d 1 (zBa l n i d) W)
 primary:∀{W:World} {q c i d:Nat} {A:Option Addr} {l:List TTk},PsAt W q A c l i d→16*(l.length-i)+1≤n→Calls Tryz.prog 158 #[.pointer (some ⟨q,0,none⟩)] W (zt q A c l (RExE W.heap.size) i d 1 (z94 l n i d) W)
end
section
variable {A:Option Addr} {W:World} {c d i:Nat} {l:List TTk} {q:Nat}
section
variable {p:Prop}
theorem uO8 (h:p:=by
 rw[hq] at hpost;obtain⟨⟨E,P,rfl,hE⟩,hk⟩:=hpost;have HRT:=HR;rw[hq] at HRT;simp only[zw] at HRT;have HK9:=hI (HF.o.call hk).kp;have HE:=hI hE;clear hq hk hE b0 bf0;go_wp2_with fail;refine⟨rfl,?_⟩;rw[←HPO.o,←HRT.o];exact zt.none_ HE.o HK9.o):p:=h
theorem uXC (h:p:=by
 rw[hb] at hpost;rw[hb] at HR;simp only[if_true] at HR;obtain⟨rfl,hbb⟩:=hpost;replace HP:=hI (HP.o.below hbb);replace HF:=hI (HF.o.below hbb);clear hbb;have HBB:=hI hb;clear hb;go_wp2_with fail;rw[←HPO.o,←HR.o];exact⟨⟨_,rfl,Nat.zero_le _,zj.nil_ _ _⟩,HP.o,HF.o.kp,rfl,Nat.le_refl _⟩):p:=h
theorem uJQ (h:p:=by
 exact⟨⟨_,rfl,HSMx.o,_,rfl,HF.o.tree 0 rfl⟩,HP.o,HF.o.kp,rfl,Hhij.out⟩):p:=h
end
theorem zs9 (one:Nat→Nat→PR TEx) (bx:Nat) (h:PsAt W q A c l i d) (hb:W.heap[bx]? = some (.cells #[.pointer (some ⟨q,0,none⟩)] 52 (0,0)))
  (hone:∀w,PsAt w q A c l i d→Calls Tryz.prog 85 #[.pointer (some ⟨q,0,none⟩)] w (zt q A c l (RExE w.heap.size) i d 1 (one i d) w)) :
  Calls Tryz.prog 144 #[.pointer (some ⟨bx,0,none⟩)] W (zt q A c l (RExE W.heap.size) i d 1 (one i d) W):=by
 have hbx:bx≠q:=fun e=>by rw[e,h.blk] at hb;cases hb
 have HBX:=hI ((Kp.of_below (S:=qS q) (bnew W (.cells #[.int .i64 0,.int .i64 0,.int .i64 0,.string ⟨#[]⟩,.slice none 0 0] 153))).blk bx _ hbx hb);have HC:=hI (hone _ (h.below (bnew W (.cells #[.int .i64 0,.int .i64 0,.int .i64 0,.string ⟨#[]⟩,.slice none 0 0] 153))));have HP:=hI (h.below (bnew W (.cells #[.int .i64 0,.int .i64 0,.int .i64 0,.string ⟨#[]⟩,.slice none 0 0] 153)));have HF:=hI ((Frm.start (S:=qS q) W (fun x e=>by have e2:x=q:=e;have:=h.lt;omega)).alloc 153 [.int .i64 0,.int .i64 0,.int .i64 0,.string ⟨#[]⟩,.slice none 0 0]);obtain⟨r,hr⟩:∃r,one i d=r:=⟨_,rfl⟩
 rw[hr];have HR:=hI hr;generalize hPO:zt q A c l (RExE W.heap.size) i d 1 r W=PO;have HPO:=hI hPO;clear hr hPO h hb hbx hone;go_enter Tryz.func144,Tryz.ntmps144;go_upto_region 1 with (fail);generalize W.alloc _=v1 at *;generalize W.heap.size=X0 at HF ⊢;obtain⟨b0,bf0⟩:=zz HBX.o 0;go_wp2_with fail;refine (HC.o).mono ?_;intro e v1 hpost;rw[HR.o] at hpost;cases r
 case none=>obtain⟨⟨E,P,rfl,hE⟩,hk⟩:=hpost;have HK9:=hI (HF.o.call hk).kp;exact uKX
 rename_i x;obtain⟨⟨xk,xp,xn,xs,xa⟩,j,d2⟩:=x;obtain⟨⟨u,rfl,hR⟩,hp,hk,hdd,hij⟩:=hpost;obtain rfl:d=d2:=hdd.symm;replace HP:Jd (PsAt v1 q A c l j d):=hI hp;have Hhij:=hI hij;obtain⟨hsm,v,hu,hT⟩:=hR;have hT:zj exE _ _ v xa:=hT;obtain⟨xA,xc,hv,_⟩:=hT.shape;subst hv;have hu:u=.agg #[xk,xp,xn,xs,.slice xA xa.length xc]:=hu;subst hu;have HSMx:=hI hsm;clear hsm;replace HF:=hI (HF.o.callT hk (slT zV (.slice xA xa.length xc) xa) hT);clear hp hk hij hT b0 bf0;have v_:=cb5 (HF.o.at_ 0 rfl);go_wp2_with fail;clear v_;replace HP:=hI (HP.o.keep (zC X0 [xk,xp,xn,xs,.slice xA xa.length xc] v1 0) (fun g e=>by injection e with e;rw[←e];exact HF.o.far 0 rfl rfl));change bodyPost _ _ _ _ _ (setL v1 X0 0 [xk,xp,xn,xs,.slice xA xa.length xc]);replace HF:=hI (HF.o.fill 0 rfl [xk,xp,xn,xs,.slice xA xa.length xc] rfl);generalize setL v1 X0 0 _=v1 at *;have m_:=cb5 (HF.o.at_ 0 rfl);refine bodyPost_ret (v:=.agg #[xk,xp,xn,xs,.slice xA xa.length xc]) (by simp[results,Tryz.results144,go_sem,m_];try rfl) rfl ?_;clear m_;rw[←HPO.o];exact uJQ
theorem zw3 (one:Nat→Nat→PR TEx) (bx f:Nat) (stop:ByteArray) (h:PsAt W q A c l i d) (hb:W.heap[bx]? = some (.cells #[.pointer (some ⟨q,0,none⟩)] 52 (0,0)))
  (hone:∀w j,PsAt w q A c l j d→w.heap[bx]? = some (.cells #[.pointer (some ⟨q,0,none⟩)] 52 (0,0))→i≤j→Calls Tryz.prog 144 #[.pointer (some ⟨bx,0,none⟩)] w (zt q A c l (RExE w.heap.size) j d 1 (one j d) w)) (hf:l.length-i+1≤f) :
  Calls Tryz.prog 143 #[.pointer (some ⟨q,0,none⟩),stop,.func (.func 144) #[] #[.pointer (some ⟨bx,0,none⟩)]] W (zt q A c l (zHO W.heap.size) i d 0 (zb9 l one f stop i d) W):=by
 have hbx:bx≠q:=fun e=>by rw[e,h.blk] at hb;cases hb
 have HBQ:=hI hbx;have HLB:=hI (zh hb);have HB:=hI hb;have HONE:=hI hone;have HFU:=hI hf;have HTK:=hI h.ok.1;have HP:=hI h;have HF:=hI (Frm.start (S:=qS q) W (fun x e=>by have e2:x=q:=e;have:=h.lt;omega));have HQL:=hI h.lt;obtain⟨r,hr⟩:∃r,zb9 l one f stop i d=r:=⟨_,rfl⟩
 rw[hr];have HR:=hI hr;generalize hPO:zt q A c l (zHO W.heap.size) i d 0 r W=PO;have HPO:=hI hPO;clear hr hPO h hb hbx hone hf;go_enter Tryz.func143,Tryz.ntmps143;unfold zb9 at HR;go_wp2_with fail;refine (zE6 stop HP.o).mono ?_;intro e v1 hpost;cases hb:pIs l stop i
 case true=>exact uXC
 rw[hb] at hpost;rw[hb] at HR;simp only[Bool.false_eq_true,if_false] at HR;obtain⟨rfl,hbb⟩:=hpost;replace HP:=hI (HP.o.below hbb);replace HF:=hI (HF.o.below hbb);clear hbb;have HBB:=hI hb;clear hb;replace HB:=hI (HF.o.kp.blk bx _ HBQ.o HB.o);go_wp2_with fail;go_loopw [7] (fun vs wr=>∃(f':Nat) (acc:List TEx) (j:Nat),z2u exE wr W.heap.size 153 vs acc∧PsAt wr q A c l j d∧Frm (qS q) W wr [] []∧wr.heap[bx]? = some (.cells #[.pointer (some ⟨q,0,none⟩)] 52 (0,0))∧Jd (zqb l one f' acc j d=r)∧l.length-j+1≤f'∧acc.length+i≤j) (fun _ wr=>l.length-zyK q wr)
 case atStart=>exact⟨f,[],i,z2u.nil_ HF.o.kp.siz,HP.o,HF.o,HB.o,HR,HFU.o,by simp⟩
 case round =>
  obtain⟨f',acc,j,hrow,hp,hfr,hbx,HR,hfu,hac⟩:=hrel;have HRW:=hI hrow;replace HP:=hI hp;have HP0:=HP;replace HF:=hI hfr;replace HB:=hI hbx;have HFU2:=hI hfu;have HAC:=hI hac;have HJ:=hI hp.pos;clear hrow hp hfr hbx hfu hac;obtain⟨f2,hf2⟩:∃f2,f'=f2+1:=⟨f'-1,by have:=HFU2.o;omega⟩
  subst hf2;unfold zqb at HR;obtain⟨AA,ca,hAA⟩:=HRW.o.len;subst hAA;have HC:=hI (HONE.o wr j HP.o HB.o (by have:=HAC.o;omega));go_wp2_with fail;refine (HC.o).mono ?_;intro e v1 hpost;cases hq:one j d
  case none=>exact uA0
  rename_i x;rw[hq] at hpost;obtain⟨⟨xk,xp,xn,xs,xa⟩,j2,d2⟩:=x;obtain⟨⟨u,rfl,hR⟩,hp,hk,hdd,hij⟩:=hpost;obtain rfl:d=d2:=hdd.symm;rw[hq] at HR;simp only[zB] at HR;have HIJ:Jd (j+1≤j2):=hI hij;obtain⟨hsm,v,hu,hT⟩:=hR;have hT:zj exE _ _ v xa:=hT;obtain⟨xA,xc,hv,_⟩:=hT.shape;subst hv;have hu:u=.agg #[xk,xp,xn,xs,.slice xA xa.length xc]:=hu;subst hu;have hrow2:=HRW.o.step (kpg hk) (fun g e=>by injection e with e;left;have:=HQL.o;omega);have hown:∀g,(Value.slice AA acc.length ca).ownBlock=some g→g<wr.heap.size:=fun g hg=>(HRW.o.own g hg).2;obtain⟨v',v2,hrun,hrow4,hg4⟩:=hrow2.app 124 153 (.agg #[.int .i64 0,.int .i64 0,.int .i64 0,.string ⟨#[]⟩,.slice none 0 0]) 5 64 rfl Tryz.underlying124 (by kernel_rfl) (by rfl) (by decide) (by decide) (by have:=HAC.o;have:=HJ.o;have:=HTK.o;omega) (es:=[xk,xp,xn,xs,.slice xA xa.length xc]) (x:=(.mk xk xp xn xs xa)) (n:=wr.heap.size) (B:=v1.heap.size) (zA1 hsm hT) (by intro u hu;simp at hu;rcases hu with rfl | rfl | rfl | rfl | rfl <;> rfl) HF.o.kp.siz (Nat.le_refl _) (fun g hg=>Or.inl (hown g hg));have hfar:∀g,(Value.slice AA acc.length ca).ownBlock=some g→W.heap.size≤g:=fun g hg=>(HRW.o.own g hg).1;have hb2:=bnew v1 (.cells ([xk,xp,xn,xs,.slice xA xa.length xc]:List Value).toArray 153);have HF4:=hI ((HF.o.call hk).grow0 hb2 hg4 hfar);have HP4:=hI ((hp.below hb2).keep hg4 (fun g e=>by have:=hfar g e;have:=HQL.o;omega));have HB4:=hI ((hg4.block bx (zh (((Kp.of_below (S:=qS q) hb2).blk bx _ HBQ.o (hk.blk bx _ HBQ.o HB.o)))) (fun e=>by have:=hfar bx e.symm;have:=HLB.o;omega)).trans ((Kp.of_below (S:=qS q) hb2).blk bx _ HBQ.o (hk.blk bx _ HBQ.o HB.o)));have HRW4:=hI hrow4;have HRUN:=hI hrun;clear hq hp hk hij hrow2 hown hrun hrow4 hg4 hfar hb2;simp only;replace HP:Jd (PsAt v2 q A c l j2 d):=hI HP4.o;replace HF:=hI HF4.o;replace HB:=hI HB4.o;clear HP4 HF4 HB4;go_upto_region 5 with (at_builtin;refine zEF rfl (.tmp 12) (.tmp 15) 124 rfl HRUN.o rfl rfl ?_);go_wp2_with fail;refine (z77 ⟨#[44]⟩ HP.o).mono ?_;intro e v1 hpost;cases hb:pIs l ⟨#[44]⟩ j2
  case false=>rw[hb] at hpost;rw[hb] at HR;simp only[Bool.false_eq_true,if_false] at HR;obtain⟨rfl,hp,hk⟩:=hpost;have HRW5:=hI (HRW4.o.step (kpg hk) (fun g e=>by injection e with e;left;have:=HQL.o;omega));have HB5:=hI (hk.blk bx _ HBQ.o HB.o);replace HP:Jd (PsAt v1 q A c l j2 d):=hI hp;replace HF:=hI (HF.o.call hk);clear hp hk hb;go_wp2_with fail;rw[←HPO.o,←HR.o];exact⟨⟨_,rfl,by rw[List.length_append,List.length_singleton];have:=HAC.o;have:=HIJ.o;have:=HP.o.pos;have:=HTK.o;omega,HRW5.o.done zV⟩,HP.o,HF.o.kp,rfl,by have:=HAC.o;have:=HIJ.o;try simp only;omega⟩
  rw[hb] at hpost;rw[hb] at HR;simp only[if_true] at HR;obtain⟨rfl,hp,hk⟩:=hpost;have HRW5:=hI (HRW4.o.step (kpg hk) (fun g e=>by injection e with e;left;have:=HQL.o;omega));have HB5:=hI (hk.blk bx _ HBQ.o HB.o);replace HP:Jd (PsAt v1 q A c l (j2+1) d):=hI hp;replace HF:=hI (HF.o.call hk);clear hp hk hb;go_wp2_with fail;go_roundw
  case rel=>exact⟨f2,acc++[(.mk xk xp xn xs xa)],j2+1,HRW5.o,HP.o,HF.o,HB5.o,HR,by have:=HFU2.o;have:=HIJ.o;have:=HJ.o;omega,by rw[List.length_append,List.length_singleton];have:=HAC.o;have:=HIJ.o;omega⟩
  case measure=>rw[HP.o.posN,HP0.o.posN];have:=HIJ.o;have:=HJ.o;omega
theorem zTh (one:Nat→Nat→PR TEx) (h:PsAt W q A c l i d) (hone:∀w j,PsAt w q A c l j (d+1)→i+1≤j→Calls Tryz.prog 85 #[.pointer (some ⟨q,0,none⟩)] w (zt q A c l (RExE w.heap.size) j (d+1) 1 (one j (d+1)) w)) :
  Calls Tryz.prog 108 #[.pointer (some ⟨q,0,none⟩)] W (zt q A c l (zHO W.heap.size) i d 1 (zqX l one i d) W):=by
 have HP:=hI h;have HF:=hI (Frm.start (S:=qS q) W (fun x e=>by have e2:x=q:=e;have:=h.lt;omega));have HLN:=hI h.ok.1;have HONE:=hI hone;obtain⟨r,hr⟩:∃r,zqX l one i d=r:=⟨_,rfl⟩
 rw[hr];have HR:=hI hr;generalize hPO:zt q A c l (zHO W.heap.size) i d 1 r W=PO;have HPO:=hI hPO;clear hr hPO h hone;go_enter Tryz.func108,Tryz.ntmps108;unfold zqX at HR;go_wp2_with fail;refine (zU9 ⟨#[91]⟩ HP.o).mono ?_;intro e v1 hpost;cases hq:z4y l ⟨#[91]⟩ i d
 case none=>exact uA0
 rename_i x;obtain⟨t,j,d2⟩:=x
 obtain⟨⟨u,rfl,hR⟩,HP,hk,rfl,Hhij,HR⟩:=ppS hpost hq HR;replace HF:=hI (HF.o.call hk);clear hq hk;go_wp2_with fail;refine (HONE.o v1 j HP.o Hhij.out).mono ?_;intro e v1 hpost;cases hq:one j (d+1)
 case none=>exact uA0
 rename_i x;obtain⟨⟨xk,xp,xn,xs,xa⟩,j2,d2⟩:=x
 obtain⟨⟨u,rfl,hR⟩,HP,hk,rfl,Hhij2,HR⟩:=ppS hpost hq HR;obtain⟨hsm,v,hu,hT⟩:=hR;have hT:zj exE _ _ v xa:=hT;obtain⟨xA,xc,hv,_⟩:=hT.shape;subst hv;have hu:u=.agg #[xk,xp,xn,xs,.slice xA xa.length xc]:=hu;subst hu;have HSMx:=hI hsm;clear hsm;replace HF:=hI (HF.o.callT hk (slT zV (.slice xA xa.length xc) xa) hT);clear hq hk;go_upto_region 3 with (fail);replace HF:=hI (HF.o.alloc 153 [xk,xp,xn,xs,.slice xA xa.length xc]);replace HP:=hI (HP.o.below (bw HF));generalize v1.alloc _=v2 at *;generalize v1.heap.size=Y at HF ⊢;go_wp2_with fail;refine (z8C ⟨#[93]⟩ HP.o (by omega)).mono ?_;intro e v1 hpost;cases hq:zSt l ⟨#[93]⟩ j2 (d+1)
 case none=>exact uA0
 rename_i x;obtain⟨t3,j3,d2⟩:=x
 obtain⟨⟨u,rfl,hR⟩,HP,hk,rfl,Hhij3,HR⟩:=ppS hpost hq HR;replace HF:=hI (HF.o.call hk);clear hq hk;have y_:=cb5 (HF.o.at_ 0 rfl);go_wp2_with fail;replace HP:=hI (HP.o.below (bnew v1 (.cells #[xk,xp,xn,xs,.slice xA xa.length xc] 153)));replace HF:=hI ((HF.o.alloc 153 [xk,xp,xn,xs,.slice xA xa.length xc]).wrap (slT zV (.slice (some ⟨_,0,none⟩) 1 1) [(.mk xk xp xn xs xa)]) (fun M hb hg hts=>zkR hb hg HSMx.o (hts _ (List.mem_cons_self ..))));generalize v1.alloc _=v1 at *;clear y_;rw[←HPO.o,←HR.o];exact⟨⟨_,rfl,by show 1≤65536;decide,HF.o.tree 0 rfl⟩,HP.o,HF.o.kp,rfl,by have:=Hhij.out;have:=Hhij2.out;have:=Hhij3.out;try simp only;omega⟩
theorem zj6 (one:Nat→Nat→PR TEx) (f:Nat) (tk0 tp0 tn0:Int) (tt0:ByteArray) (htt:tt0.size≤65536) (h:PsAt W q A c l i d) (hone:∀w j,PsAt w q A c l j (d+1)→i+1≤j→Calls Tryz.prog 85 #[.pointer (some ⟨q,0,none⟩)] w (zt q A c l (RExE w.heap.size) j (d+1) 1 (one j (d+1)) w)) (hf:l.length-i≤f) :
  Calls Tryz.prog 107 #[.pointer (some ⟨q,0,none⟩),.agg #[tk0,tp0,tn0,tt0]] W (zt q A c l (RExE W.heap.size) i d 1 (ze3 l one f ⟨tk0,tp0,tn0,tt0⟩ i d) W):=by
 have HP:=hI (((h.below (bnew W (.cells #[.pointer (some ⟨q,0,none⟩)] 52))).below (bnew (W.alloc (.cells #[.pointer (some ⟨q,0,none⟩)] 52)) (.cells #[tk0,tp0,tn0,tt0] 56))).below (bnew ((W.alloc (.cells #[.pointer (some ⟨q,0,none⟩)] 52)).alloc (.cells #[tk0,tp0,tn0,tt0] 56)) (.cells #[.int .i64 0,.int .i64 0,.int .i64 0,.string ⟨#[]⟩,.slice none 0 0] 153)));have HF:=hI ((((Frm.start (S:=qS q) W (fun x e=>by have e2:x=q:=e;have:=h.lt;omega)).alloc 52 [.pointer (some ⟨q,0,none⟩)]).allocN (W.heap.size+1) (by simp) 56 [tk0,tp0,tn0,tt0]).allocN (W.heap.size+1+1) (by simp) 153 [.int .i64 0,.int .i64 0,.int .i64 0,.string ⟨#[]⟩,.slice none 0 0]);have HLN:=hI h.ok.1;have HONE:=hI hone;have HFU:=hI hf;have HTT:=hI htt;obtain⟨r,hr⟩:∃r,ze3 l one f ⟨tk0,tp0,tn0,tt0⟩ i d=r:=⟨_,rfl⟩
 rw[hr];have HR:=hI hr;generalize hPO:zt q A c l (RExE W.heap.size) i d 1 r W=PO;have HPO:=hI hPO;clear hr hPO h hone hf htt;go_enter Tryz.func107,Tryz.ntmps107;go_upto_region 1 with (fail);generalize (((W.alloc _).alloc _).alloc _)=v1 at *;generalize W.heap.size+1+1=X2 at HF ⊢;generalize W.heap.size+1=X1 at HF ⊢;generalize W.heap.size=X0 at HF ⊢;unfold ze3 at HR;simp only at HR;obtain⟨b0,bf0⟩:=zz (HF.o.at_ 2 rfl) 0;go_wp2_with fail;refine (zU9 ⟨#[40]⟩ HP.o).mono ?_;intro e v1 hpost;cases hq:z4y l ⟨#[40]⟩ i d
 case none=>exact uO8
 rename_i x;obtain⟨t,j,d2⟩:=x
 obtain⟨⟨u,rfl,hR⟩,HP,hk,rfl,Hhij,HR⟩:=ppS hpost hq HR;replace HF:=hI (HF.o.call hk);clear hq hk b0 bf0;obtain⟨b0,bf0⟩:=zz (HF.o.at_ 2 rfl) 0;go_wp2_with fail;refine (zw3 one X0 f ⟨#[41]⟩ HP.o (HF.o.at_ 2 rfl) (fun w k hp hb hk=>zs9 one X0 hp hb (fun w' hp'=>HONE.o w' k hp' (Nat.le_trans Hhij.out hk))) (by have:=HFU.o;have:=Hhij.out;have:=HP.o.pos;omega)).mono ?_;intro e v1 hpost;cases hq:zb9 l one f ⟨#[41]⟩ j (d+1)
 case none=>exact uO8
 rename_i x;obtain⟨xs,j2,d2⟩:=x
 obtain⟨⟨u,rfl,hR⟩,HP,hk,rfl,Hhij2,HR⟩:=ppS hpost hq HR;obtain⟨hlen,hT⟩:=hR;obtain⟨xA,xc,hv,_⟩:=hT.shape;subst hv;have HSM:=hI hlen;clear hlen;replace HF:=hI (HF.o.callT hk (slT zV (.slice xA xs.length xc) xs) hT);clear hq hk b0 bf0;obtain⟨b0,bf0⟩:=zz (HF.o.at_ 2 rfl) 0;go_wp2_with fail;refine (z8C ⟨#[41]⟩ HP.o (by omega)).mono ?_;intro e v1 hpost;cases hq:zSt l ⟨#[41]⟩ j2 (d+1)
 case none=>exact uO8
 rename_i x;obtain⟨t3,j3,d2⟩:=x
 obtain⟨⟨u,rfl,hR⟩,HP,hk,rfl,Hhij3,HR⟩:=ppS hpost hq HR;replace HF:=hI (HF.o.call hk);clear hq hk b0 bf0;have y_:=cb4 (HF.o.at_ 1 rfl);have z_:=cb5 (HF.o.at_ 0 rfl);go_wp2_with fail;clear y_ z_;replace HP:=hI (HP.o.keep (zC X2 [.int .i64 4,tp0,.int .i64 0,tt0,.slice xA xs.length xc] v1 0) (fun g e=>by injection e with e;rw[←e];exact HF.o.far 0 rfl rfl));change bodyPost _ _ _ _ _ (setL v1 X2 0 [.int .i64 4,tp0,.int .i64 0,tt0,.slice xA xs.length xc]);replace HF:=hI (HF.o.fill 0 rfl [.int .i64 4,tp0,.int .i64 0,tt0,.slice xA xs.length xc] rfl);generalize setL v1 X2 0 _=v1 at *;have m_:=cb5 (HF.o.at_ 0 rfl);refine bodyPost_ret (v:=.agg #[.int .i64 4,tp0,.int .i64 0,tt0,.slice xA xs.length xc]) (by simp[results,Tryz.results107,go_sem,m_];try rfl) rfl ?_;clear m_;rw[←HPO.o,←HR.o];exact⟨⟨_,rfl,⟨HTT.o,HSM.o⟩,_,rfl,HF.o.tree 0 rfl⟩,HP.o,HF.o.kp,rfl,by have:=Hhij.out;have:=Hhij2.out;have:=Hhij3.out;try simp only;omega⟩
end
section
variable {p:Prop}
theorem uSL (h:p:=by
 rw[hq] at hpost;obtain⟨⟨E,P,rfl,hE⟩,hk⟩:=hpost;have HRT:Jd (none=r):=hI (by rw[←HR.o,hq]);have HK9:=hI (HF.o.call hk).kp;have HE:=hI hE;clear hq hk hE;go_wp2_with fail;refine⟨rfl,?_⟩;rw[←HPO.o,←HRT.o];exact zt.none_ HE.o HK9.o):p:=h
end
theorem zVV (one:Nat→Nat→PR TEx) (kind:Int) (many:Nat) (hm:many≤3) (number:Bool) {W:World} {q c i d:Nat} {A:Option Addr} {l:List TTk} (h:PsAt W q A c l i d) (hi:i+1<l.length) (hone:∀w j,PsAt w q A c l j (d+1)→i+1≤j→Calls Tryz.prog 85 #[.pointer (some ⟨q,0,none⟩)] w (zt q A c l (RExE w.heap.size) j (d+1) 1 (one j (d+1)) w)) :
  Calls Tryz.prog 164 #[.pointer (some ⟨q,0,none⟩),kind,many,number] W (zt q A c l (RExE W.heap.size) i d 1 (zu0 l one kind many number i d) W):=by
 have HP:=hI (h.below (bnew W (.cells #[.int .i64 0,.int .i64 0,.int .i64 0,.string ⟨#[]⟩,.slice none 0 0] 153)));have HF:=hI ((Frm.start (S:=qS q) W (fun x e=>by have e2:x=q:=e;have:=h.lt;omega)).alloc 153 [.int .i64 0,.int .i64 0,.int .i64 0,.string ⟨#[]⟩,.slice none 0 0]);have HLN:=hI h.ok.1;have HONE:=hI hone;have HI:=hI hi;have HM:=hI hm;obtain⟨r,hr⟩:∃r,zu0 l one kind many number i d=r:=⟨_,rfl⟩
 rw[hr];have HR:=hI hr;generalize hPO:zt q A c l (RExE W.heap.size) i d 1 r W=PO;have HPO:=hI hPO;clear hr hPO h hone hi hm;go_enter Tryz.func164,Tryz.ntmps164;go_upto_region 1 with (fail);generalize (W.alloc _)=v1 at *;generalize W.heap.size=X0 at HF ⊢;unfold zu0 at HR;go_wp2_with fail;have HC:=hI (zkz HP.o);obtain⟨t,ht⟩:∃t,zb2 l i=t:=⟨_,rfl⟩
 rw[ht] at HC;obtain⟨tk1,tp1,tn1,tt1⟩:=t;unfold zL at HC;simp only at HC;have HT1:=hI ht;clear ht;refine (HC.o).mono ?_;rintro e v1 ⟨rfl,hbb⟩;replace HP:=hI (HP.o.below hbb);replace HF:=hI (HF.o.below hbb);clear hbb HC;rw[HT1.o] at HR;simp only at HR;clear HT1;have hfl1:=fun W=>zes tk1 tp1 tn1 tt1 W;go_upto_region 2 with (fail);replace HF:=hI (HF.o.alloc 153 [kind,tp1,.int .i64 0,.string ⟨#[]⟩,.slice none 0 0]);replace HP:=hI (HP.o.below (bw HF));generalize v1.alloc _=v2 at *;generalize v1.heap.size=Y at HF ⊢;obtain⟨y1,f1⟩:=zz HP.o.blk 1;have hi2:(i:Int)<1000000:=by have:=HP.o.pos;have:=HLN.o;omega
 have hi0:(0:Int)≤(i:Int):=by omega
 go_upto_region 3 with (fail);replace HP:=hI (HP.o.put1 HI.o);replace HF:=hI (HF.o.put (q:=q) rfl 1 (.int .i64 ((i:Int)+1)));clear y1 f1 hi2 hi0;generalize v2.setCell _ _=v1 at *;go_wp2_with fail;refine (zU9 ⟨#[40]⟩ HP.o).mono ?_;intro e v1 hpost;cases hq:z4y l ⟨#[40]⟩ (i+1) d
 case none=>exact uA0
 rename_i x;obtain⟨t,j0,d2⟩:=x
 obtain⟨⟨u,rfl,hR⟩,HP,hk,rfl,Hhij0⟩:=ppT hpost hq;rw[hq] at HR;simp only[zB] at HR;replace HF:=hI (HF.o.call hk);clear hq hk;go_wp2_with fail;go_loopw [10,26] (fun _ vi wr=>∃(k:Nat) (acc:List TEx) (j:Nat) (v:Value),k≤many∧vi=.int .i64 k∧acc.length=k∧PsAt wr q A c l j (d+1)∧RowF zV (qS q) W wr 153 v acc [(Y, 153,[kind,tp1,.int .i64 0,.string ⟨#[]⟩,v]),(X0, 153,[.int .i64 0,.int .i64 0,.int .i64 0,.string ⟨#[]⟩,.slice none 0 0])] []∧Jd (PB (ztE l one (many-k) acc j (d+1)) (fun xs j d=>PB (if number=true then PB (zi0 l ⟨#[44]⟩ j d) fun _ j d=>PB (zHr l 2 j d) fun t j d=>some (t.num,j,d) else some (0,j,d)) fun n j d=>PB (zSt l ⟨#[41]⟩ j d) fun _ j d=>some (TEx.mk kind tp1 n ⟨#[]⟩ xs,j,d))=r)∧j0≤j) (fun _ vi _=>many-(intOf vi).toNat)
 case atStart=>exact⟨0,[],j0,_,Nat.zero_le _,rfl,rfl,HP.o,RowF.nil_ HF.o,HR,Nat.le_refl _⟩
 case round =>
  clear HR HP HF;obtain⟨k,acc,j,v,hk,rfl,hacc,hp,hf,HR,hj⟩:=hrel;have HP:=hI hp;have HF:=hI hf;have HJ:=hI hj;have HK:=hI hk;have HAC:=hI hacc;clear hp hf hj hacc hk;obtain⟨AA,ca,hAA⟩:=HF.o.len;subst hAA;have hk:=HK.o;by_cases hlt:k<many
  · have k0:(0:Int)≤(k:Int):=by omega
    have k1:(k:Int)<(many:Int):=by omega
    have k2:(k:Int)<4:=by have:=HM.o;omega
    rw[show many-k=(many-(k+1))+1 by omega] at HR;unfold ztE at HR;by_cases hz:k=0
    · have hz2:¬((0:Int)<(k:Int)):=by omega
      rw[if_pos (HAC.o.trans hz)] at HR;simp only[zB] at HR;clear hz;generalize wr=v1 at HP HF ⊢;go_upto_region 9 with (fail);refine wL (fun w'=>w'.heap[Y]? = some (.cells #[kind,tp1,.int .i64 0,.string ⟨#[]⟩,.slice AA acc.length ca] 153 (0,0))) 7 ?_;replace HP:=hI (HP.o.below (bdr (Below.refl _ _)));replace HF:=hI HF.o.drew;generalize v1.drew=v2 at *;refine tg 0 33 (.pointer (some ⟨Y,4,none⟩)) (HF.o.at_ 0 rfl) ?_;refine tk 1 34 (.slice AA acc.length ca) ?_ (HF.o.at_ 0 rfl) ?_
      · intro wz hSz;obtain⟨c4,cf4⟩:=zz (hSz) 4;go_simp
      refine tg 2 35 (.pointer (some ⟨q,0,none⟩)) (HF.o.at_ 0 rfl) ?_;try simp only[Act.put,pA,pB,pC]
      refine wone 3 fun K hK=>?_;go_simp;refine (HONE.o v2 j HP.o (by have:=HJ.o;have:=Hhij0.out;omega)).mono ?_;intro e v3 hpost;cases hq:one j (d+1)
      case none=>exact uUc
      rename_i x;obtain⟨⟨xk,xp,xn,xs,xa⟩,j2,d2⟩:=x
      obtain⟨⟨u,rfl,hR⟩,HP,hk,rfl,Hhij2⟩:=ppT hpost hq;rw[hq] at HR;simp only[zB] at HR;obtain⟨hsm,v,hu,hT⟩:=hR;have hT:zj exE _ _ v xa:=hT;obtain⟨xA,xc,hv,_⟩:=hT.shape;subst hv;have hu:u=.agg #[xk,xp,xn,xs,.slice xA xa.length xc]:=hu;subst hu;have HSMx:=hI hsm;clear hsm;replace HF:=hI (HF.o.callT hk (slT zV (.slice xA xa.length xc) xa) hT);clear hq hk;refine hK.o _ _ (fun _=>(HF.o.at_ 0 rfl)) ?_;clear hK;try simp only[Act.put,pA,pB,pC]
      have hol:=HF.o.own;obtain⟨v',v4,hrun,hrow,hg⟩:=HF.o.app 124 (.agg #[.int .i64 0,.int .i64 0,.int .i64 0,.string ⟨#[]⟩,.slice none 0 0]) 5 64 rfl Tryz.underlying124 (by kernel_rfl) (by rfl) (by decide) (by decide) (by have:=HAC.o;have:=HM.o;omega) (es:=[xk,xp,xn,xs,.slice xA xa.length xc]) (x:=(TEx.mk xk xp xn xs xa)) (fun M B hts=>zA1 HSMx.o (hts _ (List.mem_cons_self ..))) rfl (by intro u hu;simp at hu;rcases hu with rfl | rfl | rfl | rfl | rfl <;> rfl);have HRUN:=hI hrun;have HP8:=hI ((HP.o.below (bnew v3 (.cells ([xk,xp,xn,xs,.slice xA xa.length xc]:List Value).toArray 153))).keep hg (fun g e=>by have:=hol g e;have:=HF.o.sub0 (q:=q) rfl;omega));have HS8:=(HF.o.below (bnew v3 (.cells ([xk,xp,xn,xs,.slice xA xa.length xc]:List Value).toArray 153))).at_ 0 rfl;replace HF:Jd (RowF zV (qS q) W v4 153 v' (acc++[(TEx.mk xk xp xn xs xa)]) [(Y, 153,[.int .i64 kind,.int .i64 tp1,.int .i64 0,.string ⟨#[]⟩,.slice AA acc.length ca]),(X0, 153,[.int .i64 0,.int .i64 0,.int .i64 0,.string ⟨#[]⟩,.slice none 0 0])] []):=hI (hrow.less (by simp));obtain⟨A8,c8,hv8⟩:=HF.o.len;rw[List.length_append,List.length_singleton] at hv8;subst hv8;replace HP:Jd (PsAt v4 q A c l j2 (d+1)):=hI HP8.o;clear HP8 hrun hrow hg hol;refine wone 4 fun K hK=>?_;go_simp;refine hK.o _ _ (fun _=>HS8) ?_;clear hK;try simp only[Act.put,pA,pB,pC]
      refine zOF (i:=5) (by kernel_rfl) rfl ?_;intro K hK;refine z50 rfl (.tmp 34) (.tmp 37) 124 rfl HRUN.o rfl rfl ?_;refine hK.o _ _ (fun _=>(HF.o.at_ 0 rfl)) ?_;clear hK;refine tg 6 39 (.pointer (some ⟨Y,4,none⟩)) (HF.o.at_ 0 rfl) ?_;try simp only[Act.put,pA]
      obtain⟨y4,yf4⟩:=zz (HF.o.at_ 0 rfl) 4;refine wone 7 fun K hK=>?_;go_simp;replace HP:=hI (HP.o.setX (HF.o.far 0 rfl rfl) 4 (.slice A8 (acc.length+1) c8));replace HF:=hI (HF.o.set 0 rfl 4 (.slice A8 (acc.length+1) c8));generalize v4.setCell _ _=v5 at *;clear y4 yf4 HS8 HRUN;refine hK.o _ _ (fun h=>absurd rfl h) ?_;clear hK;try simp only[Act.put,pA,pB,pC]
      refine wD ?_ _;go_wp2_with fail;go_roundw
      case rel=>exact⟨k+1,acc++[(TEx.mk xk xp xn xs xa)],j2,_,by omega,by go_num,by rw[List.length_append,HAC.o];rfl,HP.o,HF.o,HR,by have:=HJ.o;have:=Hhij2.out;omega⟩
      case measure=>simp[intOf];omega
    have hz2:(0:Int)<(k:Int):=by omega
    rw[if_neg (by rw[HAC.o];exact hz)] at HR;clear hz;generalize wr=v1 at HP HF ⊢;go_wp2_with fail;refine (zn8 ⟨#[44]⟩ HP.o).mono ?_;intro e v2 hpost;cases hq:zi0 l ⟨#[44]⟩ j (d+1)
    case none=>exact uA0
    rename_i x;obtain⟨t,jt,d2⟩:=x
    obtain⟨⟨u,rfl,hR⟩,HP,hk,rfl,Hhijt⟩:=ppT hpost hq;rw[hq] at HR;simp only[zB] at HR;replace HF:=hI (HF.o.call hk);clear hq hk;go_upto_region 9 with (fail);refine wL (fun w'=>w'.heap[Y]? = some (.cells #[kind,tp1,.int .i64 0,.string ⟨#[]⟩,.slice AA acc.length ca] 153 (0,0))) 7 ?_;replace HP:=hI (HP.o.below (bdr (Below.refl _ _)));replace HF:=hI HF.o.drew;generalize v2.drew=v3 at *;refine tg 0 33 (.pointer (some ⟨Y,4,none⟩)) (HF.o.at_ 0 rfl) ?_;refine tk 1 34 (.slice AA acc.length ca) ?_ (HF.o.at_ 0 rfl) ?_
    · intro wz hSz;obtain⟨c4,cf4⟩:=zz (hSz) 4;go_simp
    refine tg 2 35 (.pointer (some ⟨q,0,none⟩)) (HF.o.at_ 0 rfl) ?_;try simp only[Act.put,pA,pB,pC]
    refine wone 3 fun K hK=>?_;go_simp;refine (HONE.o v3 jt HP.o (by have:=HJ.o;have:=Hhij0.out;have:=Hhijt.out;omega)).mono ?_;intro e v1 hpost;cases hq:one jt (d+1)
    case none=>exact uUc
    rename_i x;obtain⟨⟨xk,xp,xn,xs,xa⟩,j2,d2⟩:=x
    obtain⟨⟨u,rfl,hR⟩,HP,hk,rfl,Hhij2⟩:=ppT hpost hq;rw[hq] at HR;simp only[zB] at HR;obtain⟨hsm,v,hu,hT⟩:=hR;have hT:zj exE _ _ v xa:=hT;obtain⟨xA,xc,hv,_⟩:=hT.shape;subst hv;have hu:u=.agg #[xk,xp,xn,xs,.slice xA xa.length xc]:=hu;subst hu;have HSMx:=hI hsm;clear hsm;replace HF:=hI (HF.o.callT hk (slT zV (.slice xA xa.length xc) xa) hT);clear hq hk;refine hK.o _ _ (fun _=>(HF.o.at_ 0 rfl)) ?_;clear hK;try simp only[Act.put,pA,pB,pC]
    have hol:=HF.o.own;obtain⟨v',v4,hrun,hrow,hg⟩:=HF.o.app 124 (.agg #[.int .i64 0,.int .i64 0,.int .i64 0,.string ⟨#[]⟩,.slice none 0 0]) 5 64 rfl Tryz.underlying124 (by kernel_rfl) (by rfl) (by decide) (by decide) (by have:=HAC.o;have:=HM.o;omega) (es:=[xk,xp,xn,xs,.slice xA xa.length xc]) (x:=(TEx.mk xk xp xn xs xa)) (fun M B hts=>zA1 HSMx.o (hts _ (List.mem_cons_self ..))) rfl (by intro u hu;simp at hu;rcases hu with rfl | rfl | rfl | rfl | rfl <;> rfl);have HRUN:=hI hrun;have HP8:=hI ((HP.o.below (bnew v1 (.cells ([xk,xp,xn,xs,.slice xA xa.length xc]:List Value).toArray 153))).keep hg (fun g e=>by have:=hol g e;have:=HF.o.sub0 (q:=q) rfl;omega));have HS8:=(HF.o.below (bnew v1 (.cells ([xk,xp,xn,xs,.slice xA xa.length xc]:List Value).toArray 153))).at_ 0 rfl;replace HF:Jd (RowF zV (qS q) W v4 153 v' (acc++[(TEx.mk xk xp xn xs xa)]) [(Y, 153,[.int .i64 kind,.int .i64 tp1,.int .i64 0,.string ⟨#[]⟩,.slice AA acc.length ca]),(X0, 153,[.int .i64 0,.int .i64 0,.int .i64 0,.string ⟨#[]⟩,.slice none 0 0])] []):=hI (hrow.less (by simp));obtain⟨A8,c8,hv8⟩:=HF.o.len;rw[List.length_append,List.length_singleton] at hv8;subst hv8;replace HP:Jd (PsAt v4 q A c l j2 (d+1)):=hI HP8.o;clear HP8 hrun hrow hg hol;refine wone 4 fun K hK=>?_;go_simp;refine hK.o _ _ (fun _=>HS8) ?_;clear hK;try simp only[Act.put,pA,pB,pC]
    refine zOF (i:=5) (by kernel_rfl) rfl ?_;intro K hK;refine z50 rfl (.tmp 34) (.tmp 37) 124 rfl HRUN.o rfl rfl ?_;refine hK.o _ _ (fun _=>(HF.o.at_ 0 rfl)) ?_;clear hK;refine tg 6 39 (.pointer (some ⟨Y,4,none⟩)) (HF.o.at_ 0 rfl) ?_;try simp only[Act.put,pA]
    obtain⟨y4,yf4⟩:=zz (HF.o.at_ 0 rfl) 4;refine wone 7 fun K hK=>?_;go_simp;replace HP:=hI (HP.o.setX (HF.o.far 0 rfl rfl) 4 (.slice A8 (acc.length+1) c8));replace HF:=hI (HF.o.set 0 rfl 4 (.slice A8 (acc.length+1) c8));generalize v4.setCell _ _=v5 at *;clear y4 yf4 HS8 HRUN;refine hK.o _ _ (fun h=>absurd rfl h) ?_;clear hK;try simp only[Act.put,pA,pB,pC]
    refine wD ?_ _;go_wp2_with fail;go_roundw
    case rel=>exact⟨k+1,acc++[(TEx.mk xk xp xn xs xa)],j2,_,by omega,by go_num,by rw[List.length_append,HAC.o];rfl,HP.o,HF.o,HR,by have:=HJ.o;have:=Hhij2.out;have:=Hhijt.out;omega⟩
    case measure=>simp[intOf];omega
  obtain rfl:k=many:=by omega
  rw[Nat.sub_self] at HR;unfold ztE at HR;simp only[zB] at HR;clear hlt;have k9:¬((k:Int)<(k:Int)):=by omega
  generalize wr=v1 at HP HF ⊢;replace HF:=hI HF.o.done;cases number
  case false =>
   simp only[Bool.false_eq_true,if_false,zB] at HR;go_wp2_with fail;refine (z8C ⟨#[41]⟩ HP.o (by omega)).mono ?_;intro e v1 hpost;cases hq:zSt l ⟨#[41]⟩ j (d+1)
   case none=>exact uA0
   rename_i x;obtain⟨t3,j3,d2⟩:=x
   obtain⟨⟨u,rfl,hR⟩,HP,hk,rfl,Hhij3⟩:=ppT hpost hq;rw[hq] at HR;simp only[zB] at HR;replace HF:=hI (HF.o.call hk);clear hq hk;have y_:=cb5 (HF.o.at_ 0 rfl);have z_:=cb5 (HF.o.at_ 1 rfl);go_wp2_with fail;clear y_ z_;replace HP:=hI (HP.o.keep (zC X0 [kind,tp1,.int .i64 0,.string ⟨#[]⟩,.slice AA acc.length ca] v1 0) (fun g e=>by injection e with e;rw[←e];exact HF.o.far 1 rfl rfl));change bodyPost _ _ _ _ _ (setL v1 X0 0 [kind,tp1,.int .i64 0,.string ⟨#[]⟩,.slice AA acc.length ca]);replace HF:=hI (HF.o.fill 1 rfl [kind,tp1,.int .i64 0,.string ⟨#[]⟩,.slice AA acc.length ca] rfl);generalize setL v1 X0 0 _=v2 at *;have m_:=cb5 (HF.o.at_ 1 rfl);refine bodyPost_ret (v:=.agg #[kind,tp1,.int .i64 0,.string ⟨#[]⟩,.slice AA acc.length ca]) (by simp[results,Tryz.results164,go_sem,m_];try rfl) rfl ?_;clear m_;rw[←HPO.o,←HR.o];exact⟨⟨_,rfl,⟨by show (0:Nat)≤65536;decide,by show acc.length≤65536;have:=HAC.o;have:=HM.o;omega⟩,_,rfl,HF.o.tree 0 rfl⟩,HP.o,HF.o.kp,rfl,by have:=HJ.o;have:=Hhij0.out;have:=Hhij3.out;try simp only;omega⟩
  simp only[if_true] at HR;go_wp2_with fail;refine (zn8 ⟨#[44]⟩ HP.o).mono ?_;intro e v1 hpost;cases hq:zi0 l ⟨#[44]⟩ j (d+1)
  case none=>exact uA0
  rename_i x;obtain⟨t4,j4,d2⟩:=x
  obtain⟨⟨u,rfl,hR⟩,HP,hk,rfl,Hhij4⟩:=ppT hpost hq;rw[hq] at HR;simp only[zB] at HR;replace HF:=hI (HF.o.call hk);clear hq hk;go_wp2_with fail;refine (znY 2 (by decide) HP.o).mono ?_;intro e v2 hpost;cases hq:zHr l 2 j4 (d+1)
  case none=>exact uA0
  rename_i x;obtain⟨⟨tk2,tp2,tn2,tt2⟩,j5,d2⟩:=x
  obtain⟨⟨u,rfl,hR⟩,HP,hk,rfl,Hhij5⟩:=ppT hpost hq;rw[hq] at HR;simp only[zB] at HR;have hu:u=.agg #[tk2,tp2,tn2,tt2]:=hR.1;subst hu;have HTB2:=hI hR.2;simp only at HTB2;clear hR;have hfl2:=fun W=>z9U tk2 tp2 tn2 tt2 W;replace HF:=hI (HF.o.call hk);clear hq hk;have y_:=cb5 (HF.o.at_ 0 rfl);go_upto_region 14 with (fail);clear y_;replace HP:=hI (HP.o.setX (HF.o.far 0 rfl rfl) 2 (.int .i64 tn2));replace HF:=hI (HF.o.set 0 rfl 2 (.int .i64 tn2));generalize v2.setCell _ _=v1 at *;go_wp2_with fail;refine (z8C ⟨#[41]⟩ HP.o (by omega)).mono ?_;intro e v1 hpost;cases hq:zSt l ⟨#[41]⟩ j5 (d+1)
  case none=>exact uA0
  rename_i x;obtain⟨t3,j3,d2⟩:=x
  obtain⟨⟨u,rfl,hR⟩,HP,hk,rfl,Hhij3⟩:=ppT hpost hq;rw[hq] at HR;simp only[zB] at HR;replace HF:=hI (HF.o.call hk);clear hq hk;have y_:=cb5 (HF.o.at_ 0 rfl);have z_:=cb5 (HF.o.at_ 1 rfl);go_wp2_with fail;clear y_ z_;replace HP:=hI (HP.o.keep (zC X0 [kind,tp1,tn2,.string ⟨#[]⟩,.slice AA acc.length ca] v1 0) (fun g e=>by injection e with e;rw[←e];exact HF.o.far 1 rfl rfl));change bodyPost _ _ _ _ _ (setL v1 X0 0 [kind,tp1,tn2,.string ⟨#[]⟩,.slice AA acc.length ca]);replace HF:=hI (HF.o.fill 1 rfl [kind,tp1,tn2,.string ⟨#[]⟩,.slice AA acc.length ca] rfl);generalize setL v1 X0 0 _=v1 at *;have m_:=cb5 (HF.o.at_ 1 rfl);refine bodyPost_ret (v:=.agg #[kind,tp1,tn2,.string ⟨#[]⟩,.slice AA acc.length ca]) (by simp[results,Tryz.results164,go_sem,m_];try rfl) rfl ?_;clear m_;rw[←HPO.o,←HR.o];exact⟨⟨_,rfl,⟨by show (0:Nat)≤65536;decide,by show acc.length≤65536;have:=HAC.o;have:=HM.o;omega⟩,_,rfl,HF.o.tree 0 rfl⟩,HP.o,HF.o.kp,rfl,by have:=HJ.o;have:=Hhij0.out;have:=Hhij4.out;have:=Hhij5.out;have:=Hhij3.out;try simp only;omega⟩
section
variable {U:Type} {R:TR U} {S:Nat→Prop} {T:Type} {W W':World} {X:Nat} {a b c:Value} {cs:Array Value} {d e f g h i:Value} {r:TR T} {t:TypeId} {w:World} {x:ByteArray}
section
variable {p:Prop}
theorem uGK (h:p:=by
 obtain⟨fm,h1,h2⟩:=h.fn;have h3:=h2 x;rw[e] at h3;rw[h1.look Tryz.underlying143 (z7v w) x (by unfold maxLen;omega),h3];rfl):p:=h
end
def zI6 (E P:Int):Value:=.iface 140 (.agg #[.int .i64 E,.int .i64 P])
def noS:Nat→Prop:=fun _=>False
theorem Kp.weak {S':Nat→Prop} (h:Kp S W W') (hs:∀q,S q→S' q):Kp S' W W':=⟨h.os,h.tape,h.output,h.siz,fun q x hq hx=>h.blk q x (fun k=>hq (hs q k)) hx⟩
theorem kb (h:Kp noS W W'):Below W.heap.size W W':=h.below (Nat.le_refl _) (fun _ h=>h.elim)
def zn {T:Type} (S:Nat→Prop) (W:World) (R:World→Value→T→Prop) (r:TR T) (e:Ending) (w':World):Prop:=match r with
 | .ok t=>(∃u,e=.returned u∧R w' u t)∧Kp S W w'
 | .trap=>(∃E P,e=.panicked [{ v:=zI6 E P,recovered:=false }]∧E≠0)∧Kp S W w'
 | .bad=>True
theorem nbL {f:T→TR U} (h:r.bind f=R) (hb:R≠.bad):r≠.bad:=fun e=>by
 subst e;exact hb h.symm
theorem brT {f:T→TR U} (h:r.bind f=R) (hq:r=.trap):R=.trap:=by
 subst hq;exact h.symm
theorem brO {f:T→TR U} {t:T} (h:r.bind f=R) (hq:r=.ok t):f t=R:=by
 subst hq;exact h
theorem ifT {b:Bool} {R:TR T} (h:tIf b r=R) (hb:b=false):R=.trap:=by
 subst hb;exact h.symm
theorem ifO {b:Bool} {R:TR T} (h:tIf b r=R) (hb:b=true):r=R:=by
 subst hb;exact h
section
variable {T:Type} {S:Nat→Prop} {W w':World} {R:World→Value→T→Prop} {r:TR T} {e:Ending} {PO:Ending→World→Prop}
theorem zn.cases (h:zn S W R r e w') (hb:r≠.bad) :
  (∃t,r=.ok t∧∃u,e=.returned u∧R w' u t∧Kp S W w')∨(r=.trap∧∃E P,e=.panicked [{ v:=zI6 E P,recovered:=false }]∧E≠0∧Kp S W w'):=by
 cases r
 case bad=>exact absurd rfl hb
 case ok t=>obtain⟨⟨u,h1,h2⟩,h3⟩:=h;exact Or.inl ⟨t,rfl,u,h1,h2,h3⟩
 obtain⟨⟨E,P,h1,h2⟩,h3⟩:=h;exact Or.inr ⟨rfl,E,P,h1,h2,h3⟩
theorem zn.trap_ (hPO:zn S W R r=PO) (h:r=.trap) {E P:Int} (hE:E≠0) (hb:Kp S W w'):PO (.panicked [{ v:=zI6 E P,recovered:=false }]) w':=by
 subst hPO;subst h;exact⟨⟨_,_,rfl,hE⟩,hb⟩
theorem zn.ok_ (hPO:zn S W R r=PO) {t:T} (h : .ok t=r) {u:Value} (hu:R w' u t) (hb:Kp S W w'):PO (.returned u) w':=by
 subst hPO;subst h;exact⟨⟨_,rfl,hu⟩,hb⟩
end
theorem zMN (b:Bool) (E pos:Int) (w:World):Calls Tryz.prog 90 #[b,E,pos] w fun e w'=>w'=w∧e=if b=true then .returned (.tuple #[]) else .panicked [{ v:=zI6 E pos,recovered:=false }]:=by
 cases b
 case true=>go_enter Tryz.func90,Tryz.ntmps90;go_wp2_with fail;go_end0;exact⟨rfl,rfl⟩
 unfold zI6;go_enter Tryz.func90,Tryz.ntmps90;go_wp2_with fail;exact⟨rfl,rfl,rfl⟩
theorem zf (p:Bool) {b:Bool} (hp:b=p) (E pos:Int) (w:World):Calls Tryz.prog 90 #[b,E,pos] w fun e w'=>w=w'∧((p=false∧e=.panicked [{ v:=zI6 E pos,recovered:=false }])∨(p=true∧e=.returned (.tuple #[]))):=by
 subst hp;refine (zMN b E pos w).mono ?_;rintro e w' ⟨rfl,rfl⟩;cases b
 · exact⟨rfl,Or.inl ⟨rfl,rfl⟩⟩
 exact⟨rfl,Or.inr ⟨rfl,rfl⟩⟩
theorem zcd (a b:Int) (w:World):Calls Tryz.prog 118 #[a,b] w fun e w'=>w=w'∧e=.returned (.bool (zKq a b)):=by
 unfold zKq;by_cases h:a=0
 · subst h;go_enter Tryz.func118,Tryz.ntmps118;go_wp2_with fail;go_ret;exact⟨rfl,rfl⟩
 have q:(a==0)=false:=by rw[beq_eq_false_iff_ne];exact h
 go_enter Tryz.func118,Tryz.ntmps118;go_wp2_with fail;go_ret;exact⟨rfl,by simp[h];by_cases k:b=1 <;> simp[k]⟩
theorem zEa (v:Value) (n:Int) (w:World):Calls Tryz.prog 93 #[v,n] w fun e w'=>w=w'∧e=.returned (.int .i64 (min n 65537)):=by
 by_cases h:n≤65537
 · rw[show min n 65537=n by omega];go_enter Tryz.func93,Tryz.ntmps93;go_wp2_with fail;go_ret;refine⟨rfl,zm3 ?_⟩;omega
 rw[show min n 65537=65537 by omega];go_enter Tryz.func93,Tryz.ntmps93;go_wp2_with fail;go_ret;refine⟨rfl,zm3 ?_⟩;omega
theorem blk2 (hh:w.heap[X]? = some (.cells #[a,b] t)):w.cell? ⟨X,0,none⟩=some a∧w.cell? ⟨X,1,none⟩=some b:=by
 have h9:=fun i=>(zz hh i).1;exact⟨h9 0,h9 1⟩
theorem blk3 (hh:w.heap[X]? = some (.cells #[a,b,c] t)):w.cell? ⟨X,0,none⟩=some a∧w.cell? ⟨X,1,none⟩=some b∧w.cell? ⟨X,2,none⟩=some c:=by
 have h9:=fun i=>(zz hh i).1;exact⟨h9 0,h9 1,h9 2⟩
theorem blk4 (hh:w.heap[X]? = some (.cells #[a,b,c,d] t)):w.cell? ⟨X,0,none⟩=some a∧w.cell? ⟨X,1,none⟩=some b∧w.cell? ⟨X,2,none⟩=some c∧w.cell? ⟨X,3,none⟩=some d:=by
 have h9:=fun i=>(zz hh i).1;exact⟨h9 0,h9 1,h9 2,h9 3⟩
theorem blk5 (hh:w.heap[X]? = some (.cells #[a,b,c,d,e] t)):w.cell? ⟨X,0,none⟩=some a∧w.cell? ⟨X,1,none⟩=some b∧w.cell? ⟨X,2,none⟩=some c∧w.cell? ⟨X,3,none⟩=some d∧w.cell? ⟨X,4,none⟩=some e:=by
 have h9:=fun i=>(zz hh i).1;exact⟨h9 0,h9 1,h9 2,h9 3,h9 4⟩
theorem blk6 (hh:w.heap[X]? = some (.cells #[a,b,c,d,e,f] t)):w.cell? ⟨X,0,none⟩=some a∧w.cell? ⟨X,1,none⟩=some b∧w.cell? ⟨X,2,none⟩=some c∧w.cell? ⟨X,3,none⟩=some d∧w.cell? ⟨X,4,none⟩=some e∧w.cell? ⟨X,5,none⟩=some f:=by
 have h9:=fun i=>(zz hh i).1;exact⟨h9 0,h9 1,h9 2,h9 3,h9 4,h9 5⟩
theorem blk8 (hh:w.heap[X]? = some (.cells #[a,b,c,d,e,f,g,h] t)):w.cell? ⟨X,0,none⟩=some a∧w.cell? ⟨X,1,none⟩=some b∧w.cell? ⟨X,2,none⟩=some c∧w.cell? ⟨X,3,none⟩=some d∧w.cell? ⟨X,4,none⟩=some e∧w.cell? ⟨X,5,none⟩=some f∧w.cell? ⟨X,6,none⟩=some g∧w.cell? ⟨X,7,none⟩=some h:=by
 have h9:=fun i=>(zz hh i).1;exact⟨h9 0,h9 1,h9 2,h9 3,h9 4,h9 5,h9 6,h9 7⟩
theorem blk9 (hh:w.heap[X]? = some (.cells #[a,b,c,d,e,f,g,h,i] t)):w.cell? ⟨X,0,none⟩=some a∧w.cell? ⟨X,1,none⟩=some b∧w.cell? ⟨X,2,none⟩=some c∧w.cell? ⟨X,3,none⟩=some d∧w.cell? ⟨X,4,none⟩=some e∧w.cell? ⟨X,5,none⟩=some f∧w.cell? ⟨X,6,none⟩=some g∧w.cell? ⟨X,7,none⟩=some h∧w.cell? ⟨X,8,none⟩=some i:=by
 have h9:=fun i=>(zz hh i).1;exact⟨h9 0,h9 1,h9 2,h9 3,h9 4,h9 5,h9 6,h9 7,h9 8⟩
theorem z9h {j k:Value} (hh:w.heap[X]? = some (.cells #[a,b,c,d,e,f,g,h,i,j,k] t)):w.cell? ⟨X,0,none⟩=some a∧w.cell? ⟨X,1,none⟩=some b∧w.cell? ⟨X,2,none⟩=some c∧w.cell? ⟨X,3,none⟩=some d∧w.cell? ⟨X,4,none⟩=some e∧w.cell? ⟨X,5,none⟩=some f∧w.cell? ⟨X,6,none⟩=some g∧w.cell? ⟨X,7,none⟩=some h∧w.cell? ⟨X,8,none⟩=some i∧w.cell? ⟨X,9,none⟩=some j∧w.cell? ⟨X,10,none⟩=some k:=by
 have h9:=fun i=>(zz hh i).1;exact⟨h9 0,h9 1,h9 2,h9 3,h9 4,h9 5,h9 6,h9 7,h9 8,h9 9,h9 10⟩
theorem frz2 (hh:w.heap[X]? = some (.cells cs t)):w.frozen? ⟨X,0,none⟩=false∧w.frozen? ⟨X,1,none⟩=false:=by
 have h9:=fun i=>(zz hh i).2;exact⟨h9 0,h9 1⟩
theorem frz3 (hh:w.heap[X]? = some (.cells cs t)):w.frozen? ⟨X,0,none⟩=false∧w.frozen? ⟨X,1,none⟩=false∧w.frozen? ⟨X,2,none⟩=false:=by
 have h9:=fun i=>(zz hh i).2;exact⟨h9 0,h9 1,h9 2⟩
theorem frz4 (hh:w.heap[X]? = some (.cells cs t)):w.frozen? ⟨X,0,none⟩=false∧w.frozen? ⟨X,1,none⟩=false∧w.frozen? ⟨X,2,none⟩=false∧w.frozen? ⟨X,3,none⟩=false:=by
 have h9:=fun i=>(zz hh i).2;exact⟨h9 0,h9 1,h9 2,h9 3⟩
theorem frz9 (hh:w.heap[X]? = some (.cells cs t)):w.frozen? ⟨X,0,none⟩=false∧w.frozen? ⟨X,1,none⟩=false∧w.frozen? ⟨X,2,none⟩=false∧w.frozen? ⟨X,3,none⟩=false∧w.frozen? ⟨X,4,none⟩=false∧w.frozen? ⟨X,5,none⟩=false∧w.frozen? ⟨X,6,none⟩=false∧w.frozen? ⟨X,7,none⟩=false∧w.frozen? ⟨X,8,none⟩=false:=by
 have h9:=fun i=>(zz hh i).2;exact⟨h9 0,h9 1,h9 2,h9 3,h9 4,h9 5,h9 6,h9 7,h9 8⟩
theorem frz8 (hh:w.heap[X]? = some (.cells cs t)):w.frozen? ⟨X,0,none⟩=false∧w.frozen? ⟨X,1,none⟩=false∧w.frozen? ⟨X,2,none⟩=false∧w.frozen? ⟨X,3,none⟩=false∧w.frozen? ⟨X,4,none⟩=false∧w.frozen? ⟨X,5,none⟩=false∧w.frozen? ⟨X,6,none⟩=false∧w.frozen? ⟨X,7,none⟩=false:=by
 have h9:=fun i=>(zz hh i).2;exact⟨h9 0,h9 1,h9 2,h9 3,h9 4,h9 5,h9 6,h9 7⟩
def zkH (t:TTh):Value:=.agg #[.int .i64 t.kind.elem,.int .i64 t.kind.len,.int .i64 t.kind.label,.bool t.fixed]
def zzC (t:TTy):Value:=.agg #[.int .i64 t.elem,.int .i64 t.len,.int .i64 t.label]
def zwp (k:TKn) (A:Option Addr) (c:Nat) (A':Option Addr) (c':Nat):Value:=.agg #[.int .i64 k.f.pos,.string k.f.name,.slice A k.f.params.length c,.bool k.f.has,.int .i64 k.f.res.elem,.int .i64 k.f.res.len,.int .i64 k.f.res.label,.slice A' k.f.body.length c',.int .i64 k.cost]
def zPe (f:TFu) (A:Option Addr) (c:Nat) (A':Option Addr) (c':Nat):Value:=.agg #[.int .i64 f.pos,.string f.name,.slice A f.params.length c,.bool f.has,.int .i64 f.res.elem,.int .i64 f.res.len,.int .i64 f.res.label,.slice A' f.body.length c']
structure CkAt (M w:World) (q fb nb N:Nat) (L:List ByteArray) (K:TKs) (G:TGam) (g:TFu):Prop where
 blk:∃vp vb,w.heap[q]? = some (.cells #[.map (some fb),.map (some nb),g.pos,g.name,vp,g.has,g.res.elem,g.res.len,g.res.label,vb] 146 (0,0))
 fn:∃fm,MapV w fb N fm∧∀x,match K x with
  | none=>fm x=none
  | some k=>∃A c A' c',fm x=some (zwp k A c A' c')∧zj zGc M M.heap.size (.slice A k.f.params.length c) k.f.params∧fuSm k.f∧0≤k.cost∧k.cost≤65537
 nm:∃gm,MapV w nb L.length gm∧(∀x,gm x=(G x).map zkH)∧∀x,G x≠none→x∈L
 old:Below M.heap.size M w
 le:M.heap.size≤q∧M.heap.size≤fb∧M.heap.size≤nb∧q≠fb∧q≠nb∧fb≠nb
theorem Frm.lo {bs:List (Nat×TypeId×List Value)} {ts:List zOU} (h:Frm S W w bs ts) (j:Nat) {es:List Value} (hj:bs[j]? = some (X,t,es)):W.heap.size≤X:=h.old _ (List.mem_of_getElem? hj)
section
variable {M w w':World} {q fb nb N:Nat} {L:List ByteArray} {K:TKs} {G:TGam} {g:TFu}
theorem CkAt.lt (h:CkAt M w q fb nb N L K G g):q<w.heap.size∧fb<w.heap.size∧nb<w.heap.size:=by
 obtain⟨vp,vb,h1⟩:=h.blk;obtain⟨fm,h2,_⟩:=h.fn;obtain⟨gm,h3,_⟩:=h.nm;exact⟨zh h1,h2.lt,h3.lt⟩
theorem CkAt.below (h:CkAt M w q fb nb N L K G g) (hb:Below w.heap.size w w'):CkAt M w' q fb nb N L K G g:=by
 obtain⟨⟨vp,vb,h1⟩,⟨fm,h2,h3⟩,⟨gm,h4,h5⟩,h6,h7⟩:=h;exact⟨⟨vp,vb,(hb.block q (zh h1)).trans h1⟩,⟨fm,h2.below hb,h3⟩,⟨gm,h4.below hb,h5⟩,bch h6 hb,h7⟩
theorem CkAt.grown (h:CkAt M w q fb nb N L K G g) (hg:w.grownBy w' (some X)) (h1:q≠X) (h2:fb≠X) (h3:nb≠X) (h4:M.heap.size≤X):CkAt M w' q fb nb N L K G g:=by
 obtain⟨⟨vp,vb,k1⟩,⟨fm,k2,k3⟩,⟨gm,k4,k5⟩,k6,k7⟩:=h;exact⟨⟨vp,vb,(hg.block q (zh k1) (fun e=>h1 (by injection e))).trans k1⟩,⟨fm,k2.keep hg (fun e=>h2 (by injection e)),k3⟩,⟨gm,k4.keep hg (fun e=>h3 (by injection e)),k5⟩,k6.grown hg k6.size (fun r e=>by injection e with e;omega),k7⟩
theorem CkAt.own (h:CkAt M w q fb nb N L K G g) {n:Nat} (hl:q<n∧fb<n∧nb<n) (hX:n≤X) (hg:w.grownBy w' (some X)):CkAt M w' q fb nb N L K G g :=
 h.grown hg (by omega) (by omega) (by omega) (by have:=h.le.1;omega)
theorem CkAt.cell (h:CkAt M w q fb nb N L K G g):w.cell? ⟨q,0,none⟩=some (.map (some fb))∧w.cell? ⟨q,1,none⟩=some (.map (some nb))∧w.cell? ⟨q,5,none⟩=some (.bool g.has)∧w.cell? ⟨q,6,none⟩=some (.int .i64 g.res.elem)∧w.cell? ⟨q,8,none⟩=some (.int .i64 g.res.label):=by
 obtain⟨vp,vb,h1⟩:=h.blk;exact⟨(zz h1 0).1,(zz h1 1).1,(zz h1 5).1,(zz h1 6).1,(zz h1 8).1⟩
theorem zAj (w:World):(zeroValue 183).run Tryz.prog w=.ok (.agg #[.int .i64 0,.int .i64 0,.int .i64 0,false]) w:=by kernel_rfl
theorem z7v (w:World):(zeroValue 150).run Tryz.prog w=.ok (.agg #[.int .i64 0,.string ⟨#[]⟩,.slice none 0 0,false,.int .i64 0,.int .i64 0,.int .i64 0,.slice none 0 0,.int .i64 0]) w:=by kernel_rfl
theorem CkAt.nmNo (h:CkAt M w q fb nb N L K G g) (hx:x.size≤65536) (e:G x=none):(Instr.lookup 144 (.map (some nb)) (.string x) true).run Tryz.prog w=.ok (.tuple #[.agg #[.int .i64 0,.int .i64 0,.int .i64 0,false],false]) w:=by
 obtain⟨gm,h1,h2,_⟩:=h.nm;rw[h1.look Tryz.underlying144 (zAj w) x (by unfold maxLen;omega),h2,e];rfl
theorem CkAt.nmYes (h:CkAt M w q fb nb N L K G g) (hx:x.size≤65536) {t:TTh} (e:G x=some t):(Instr.lookup 144 (.map (some nb)) (.string x) true).run Tryz.prog w=.ok (.tuple #[.agg #[t.kind.elem,t.kind.len,t.kind.label,t.fixed],true]) w:=by
 obtain⟨gm,h1,h2,_⟩:=h.nm;rw[h1.look Tryz.underlying144 (zAj w) x (by unfold maxLen;omega),h2,e];rfl
theorem CkAt.fnNo (h:CkAt M w q fb nb N L K G g) (hx:x.size≤65536) (e:K x=none):(Instr.lookup 143 (.map (some fb)) (.string x) true).run Tryz.prog w=.ok (.tuple #[.agg #[.int .i64 0,.string ⟨#[]⟩,.slice none 0 0,false,.int .i64 0,.int .i64 0,.int .i64 0,.slice none 0 0,.int .i64 0],false]) w:=by
 exact uGK
theorem CkAt.fnYes (h:CkAt M w q fb nb N L K G g) (hx:x.size≤65536) {k:TKn} (e:K x=some k):∃A c A' c',(∀w1,Below w.heap.size w w1→(Instr.lookup 143 (.map (some fb)) (.string x) true).run Tryz.prog w1=.ok (.tuple #[zwp k A c A' c',true]) w1)∧(∀w1,Below w.heap.size w w1→(Instr.lookup 143 (.map (some fb)) (.string x) false).run Tryz.prog w1=.ok (zwp k A c A' c') w1)∧zj zGc M M.heap.size (.slice A k.f.params.length c) k.f.params∧fuSm k.f∧0≤k.cost∧k.cost≤65537:=by
 obtain⟨fm,h1,h2⟩:=h.fn;have h3:=h2 x;rw[e] at h3;obtain⟨A,c,A',c',h3,h4,h5⟩:=h3;refine⟨A,c,A',c',fun w1 hb=>?_,fun w1 hb=>?_,h4,h5⟩
 · rw[(h1.below hb).look Tryz.underlying143 (z7v w1) x (by unfold maxLen;omega),h3];rfl
 rw[(h1.below hb).look1 Tryz.underlying143 (z7v w1) x (by unfold maxLen;omega),h3];rfl
end
def RTh (_:World) (u:Value) (t:TTh):Prop:=u=zkH t
def RTyV (_:World) (u:Value) (t:TTy):Prop:=u=zzC t
def RUn (_:World) (u:Value) (_:Unit):Prop:=True
def RFn (M:World) (_:World) (u:Value) (f:TFu):Prop:=∃A c A' c',u=zPe f A c A' c'
def VW (n:Nat):Prop:=∀(M w:World) (q fb nb N:Nat) (L:List ByteArray) (K:TKs) (G:TGam) (g:TFu) (kind pos num:Int) (name:ByteArray) (args:List TEx) (A:Option Addr) (c m:Nat),CkAt M w q fb nb N L K G g→name.size≤65536→args.length≤65536→zj (zO m) M M.heap.size (.slice A args.length c) args→zi n K G (.mk kind pos num name args)≠.bad →
 Calls Tryz.prog 116 #[.pointer (some ⟨q,0,none⟩),.agg #[kind,pos,num,name,.slice A args.length c]] w (zn noS w RTyV (zi n K G (.mk kind pos num name args)))
def CW (n:Nat):Prop:=∀(M w:World) (q fb nb N:Nat) (L:List ByteArray) (K:TKs) (G:TGam) (g:TFu) (kind pos num:Int) (name:ByteArray) (args:List TEx) (A:Option Addr) (c m:Nat),CkAt M w q fb nb N L K G g→name.size≤65536→args.length≤65536→zj (zO m) M M.heap.size (.slice A args.length c) args→zRu n K G name args≠.bad →
 Calls Tryz.prog 122 #[.pointer (some ⟨q,0,none⟩),.agg #[kind,pos,num,name,.slice A args.length c]] w (zn noS w (RFn M) (zRu n K G name args))
end
section
variable {G:TGam} {K:TKs} {L:List ByteArray} {M:World} {N fb:Nat} {g:TFu} {n nb q:Nat} {w:World}
section
variable {p:Prop}
theorem uGY (h:p:=by
 have HRT:=hI (brT HR.o hq);have HFT:=hI (HF.o.call hk).kp;have HE:=hI hE;clear hk hq hE;go_wp2_with fail;exact⟨rfl,zn.trap_ HPO.o HRT.o HE.o HFT.o⟩):p:=h
theorem uQp (h:p:=by
 go_wp2_with fail;exact⟨rfl,zn.trap_ HPO.o HRT.o (by decide) HF.o.kp⟩):p:=h
theorem uS3 (h:p:=by
 exact zn.ok_ HPO.o HR.o rfl HF.o.kp):p:=h
theorem uY1 (h:p:=by
 go_wp2_with fail;go_end0;exact zn.ok_ HPO.o HR.o trivial HF.o.kp):p:=h
theorem uFe (h:p:=by
 go_wp2_with fail;refine (zf false rfl _ _ _).mono ?_;rintro e wz ⟨rfl,⟨hb,rfl⟩ | ⟨hb,rfl⟩⟩
 case inr=>cases hb
 exact uQp):p:=h
end
theorem zug (h:CkAt M w q fb nb N L K G g) (x:ByteArray) (hx:x.size≤65536) (pos:Int) :
  Calls Tryz.prog 117 #[.pointer (some ⟨q,0,none⟩),x,pos] w (zn noS w RTh (zg1 G x)):=by
 have HXS:=hI hx;have HLT:=hI h.lt;have HF:=hI ((Frm.start (S:=noS) w (fun _ h=>h.elim)).alloc 183 [.int .i64 0,.int .i64 0,.int .i64 0,false]);have HK:=hI (h.below (bnew w (.cells #[.int .i64 0,.int .i64 0,.int .i64 0,false] 183)));obtain⟨r,hr⟩:∃r,zg1 G x=r:=⟨_,rfl⟩
 rw[hr] at ⊢;have HR:=hI hr;generalize hPO:zn noS w RTh r=PO;have HPO:=hI hPO;clear hr hPO  h hx;go_enter Tryz.func117,Tryz.ntmps117;go_upto_region 1 with (fail);generalize (w.alloc _)=v1 at *;generalize w.heap.size=X at HF ⊢;obtain⟨q0,q1,q5,q6,q8⟩:=HK.o.cell;unfold zg1 at HR;cases hg:G x
 case none=>have hl:=HK.o.nmNo HXS.o hg;have hrt:=HR.o;rw[hg] at hrt;simp only at hrt;have HRT:=hI hrt.symm;clear hg hrt;go_upto_region 2 with (fail);clear q0 q1 q5 q6 q8 hl;replace HF:=hI (HF.o.alloc 183 [.int .i64 0,.int .i64 0,.int .i64 0,false]);replace HK:=hI (HK.o.below (bw HF));generalize v1.alloc _=v2 at *;generalize v1.heap.size=Y at HF ⊢;exact uFe
 rename_i t;have hl:=HK.o.nmYes HXS.o hg;rw[hg] at HR;simp only at HR;clear hg;obtain⟨⟨te,tl,tb⟩,fx⟩:=t;simp only at hl;go_upto_region 2 with (fail);clear q0 q1 q5 q6 q8 hl;replace HF:=hI (HF.o.alloc 183 [te,tl,tb,fx]);replace HK:=hI (HK.o.below (bw HF));generalize v1.alloc _=v2 at *;generalize v1.heap.size=Y at HF ⊢;go_wp2_with fail;refine (zf true rfl _ _ _).mono ?_;rintro e wz ⟨rfl,⟨hb,rfl⟩ | ⟨hb,rfl⟩⟩
 case inl=>cases hb
 clear hb;have xf_:=frz4 (HF.o.at_ 1 rfl);have x_:=blk4 (HF.o.at_ 1 rfl);have y_:=blk4 (HF.o.at_ 0 rfl);go_wp2_with fail;clear xf_ x_ y_;change bodyPost _ _ _ _ _ (setL v2 X 0 [te,tl,tb,fx]);replace HF:=hI (HF.o.fill 1 rfl [te,tl,tb,fx] rfl);generalize setL v2 X 0 _=v1 at *;have x_:=blk4 (HF.o.at_ 1 rfl);refine bodyPost_ret (v:=.agg #[te,tl,tb,fx]) (by simp[results,Tryz.results117,go_sem,x_];try rfl) rfl ?_;exact uS3
theorem ziP (hv:VW n) (kind pos num:Int) (name:ByteArray) (args:List TEx) (A:Option Addr) (c m:Nat) (elem:Int) (h:CkAt M w q fb nb N L K G g) (hn:name.size≤65536) (ha:args.length≤65536) (hx:zj (zO m) M M.heap.size (.slice A args.length c) args) (hb:zFK (fun x=>zi n K G x) (.mk kind pos num name args) elem≠.bad) :
  Calls Tryz.prog 120 #[.pointer (some ⟨q,0,none⟩),.agg #[kind,pos,num,name,.slice A args.length c],elem] w (zn noS w RUn (zFK (fun x=>zi n K G x) (.mk kind pos num name args) elem)):=by
 have HC:=hI (hv _ _ _ _ _ _ _ _ _ _ kind pos num name args A c m (h.below (bnew w (.cells #[kind,pos,num,name,.slice A args.length c] 153))) hn ha hx (nbL (show _=zFK (fun x=>zi n K G x) (.mk kind pos num name args) elem from rfl) hb));have HLT:=hI h.lt;have HF:=hI ((Frm.start (S:=noS) w (fun _ h=>h.elim)).alloc 153 [kind,pos,num,name,.slice A args.length c]);have HK:=hI (h.below (bnew w (.cells #[kind,pos,num,name,.slice A args.length c] 153)));obtain⟨r,hr⟩:∃r,zFK (fun x=>zi n K G x) (.mk kind pos num name args) elem=r:=⟨_,rfl⟩
 rw[hr] at hb ⊢;have HR:=hI hr;have HNB:=hI hb;generalize hPO:zn noS w RUn r=PO;have HPO:=hI hPO;clear hr hPO hb h hn ha hx hv;go_enter Tryz.func120,Tryz.ntmps120;go_upto_region 1 with (fail);generalize (w.alloc _)=v at *;generalize w.heap.size=X at HF ⊢;unfold zFK at HR;have x_:=blk5 (HF.o.at_ 0 rfl);go_wp2_with fail;refine (HC.o).mono ?_;intro e v hpost;rcases hpost.cases (nbL HR.o HNB.o) with⟨t,hq,u,rfl,hR,hk⟩ | ⟨hq,E,P,rfl,hE,hk⟩
 case inr=>exact uGY
 replace HF:=hI (HF.o.call hk);replace HK:=hI (HK.o.below (kb hk));have hrt:=brO HR.o hq;try simp only at hrt
 replace HR:=hI hrt;obtain⟨te,tl,tb⟩:=t;obtain rfl:u=zzC ⟨te,tl,tb⟩:=hR;unfold zzC;clear HC;clear hk hq hrt x_;try simp only at HR
 go_upto_region 2 with (fail);replace HF:=hI (HF.o.alloc 41 [te,tl,tb]);replace HK:=hI (HK.o.below (bw HF));generalize v.alloc _=v1 at *;generalize v.heap.size=Y at HF ⊢;have x_:=blk5 (HF.o.at_ 1 rfl);have y_:=blk3 (HF.o.at_ 0 rfl);go_wp2_with fail;refine (zf (decide (te=elem)) rfl _ _ _).mono ?_;rintro e wz ⟨rfl,⟨hb,rfl⟩ | ⟨hb,rfl⟩⟩
 · have HRT:=hI (ifT HR.o hb);clear hb x_ y_;exact uQp
 replace HR:=hI (ifO HR.o hb);clear hb;go_wp2_with fail;refine (zf (decide (tb=0)) rfl _ _ _).mono ?_;rintro e wz ⟨rfl,⟨hb,rfl⟩ | ⟨hb,rfl⟩⟩
 · have HRT:=hI (ifT HR.o hb);clear hb x_ y_;exact uQp
 replace HR:=hI (ifO HR.o hb);clear hb;exact uY1
theorem zmi (hv:VW n) (nm:ByteArray) (kind pos num p:Int) (name:ByteArray) (args:List TEx) (A:Option Addr) (c m:Nat) (h:CkAt M w q fb nb N L K G g) (hm:nm.size≤65536) (hn:name.size≤65536) (ha:args.length≤65536) (hx:zj (zO m) M M.heap.size (.slice A args.length c) args) (hb:((zFK (fun x=>zi n K G x) (.mk kind pos num name args) 0).bind fun _=>(zg1 G nm).bind fun t=>tIf (decide (0<t.kind.len)) (.ok t))≠.bad) :
  Calls Tryz.prog 152 #[.pointer (some ⟨q,0,none⟩),nm,.agg #[kind,pos,num,name,.slice A args.length c],p] w (zn noS w RTh ((zFK (fun x=>zi n K G x) (.mk kind pos num name args) 0).bind fun _=>(zg1 G nm).bind fun t=>tIf (decide (0<t.kind.len)) (.ok t))):=by
 have HC:=hI (ziP hv kind pos num name args A c m 0 (h.below (bal (bnew w (.cells #[kind,pos,num,name,.slice A args.length c] 153)) (.cells #[.int .i64 0,.int .i64 0,.int .i64 0,false] 183))) hn ha hx (nbL rfl hb));have HM:=hI hm;have HLT:=hI h.lt;have HF:=hI (((Frm.start (S:=noS) w (fun _ h=>h.elim)).alloc 153 [kind,pos,num,name,.slice A args.length c]).allocN (w.heap.size+1) (by simp) 183 [.int .i64 0,.int .i64 0,.int .i64 0,false]);have HK:=hI ((h.below (bnew w (.cells #[kind,pos,num,name,.slice A args.length c] 153))).below (bnew (w.alloc (.cells #[kind,pos,num,name,.slice A args.length c] 153)) (.cells #[.int .i64 0,.int .i64 0,.int .i64 0,false] 183)));obtain⟨r,hr⟩:∃r,((zFK (fun x=>zi n K G x) (.mk kind pos num name args) 0).bind fun _=>(zg1 G nm).bind fun t=>tIf (decide (0<t.kind.len)) (.ok t))=r:=⟨_,rfl⟩
 rw[hr] at hb ⊢;have HR:=hI hr;have HNB:=hI hb;generalize hPO:zn noS w RTh r=PO;have HPO:=hI hPO;clear hr hPO hb h hn ha hx hv hm;go_enter Tryz.func152,Tryz.ntmps152;go_upto_region 1 with (fail);generalize ((w.alloc _).alloc _)=v1 at *;generalize w.heap.size+1=Y at HF ⊢;generalize w.heap.size=X at HF ⊢;have x_:=blk5 (HF.o.at_ 1 rfl);go_wp2_with fail;refine (HC.o).mono ?_;intro e v1 hpost;rcases hpost.cases (nbL HR.o HNB.o) with⟨t,hq,u,rfl,hR,hk⟩ | ⟨hq,E,P,rfl,hE,hk⟩
 case inr=>exact uGY
 replace HF:=hI (HF.o.call hk);replace HK:=hI (HK.o.below (kb hk));have hrt:=brO HR.o hq;try simp only at hrt
 replace HR:=hI hrt;clear HC;clear hk hq hrt x_;have HC:=hI (zug HK.o nm HM.o p);obtain⟨q0,q1,q5,q6,q8⟩:=HK.o.cell;go_wp2_with fail;refine (HC.o).mono ?_;intro e v1 hpost;rcases hpost.cases (nbL HR.o HNB.o) with⟨t,hq,u,rfl,hR,hk⟩ | ⟨hq,E,P,rfl,hE,hk⟩
 case inr=>exact uGY
 replace HF:=hI (HF.o.call hk);replace HK:=hI (HK.o.below (kb hk));have hrt:=brO HR.o hq;try simp only at hrt
 replace HR:=hI hrt;obtain⟨⟨te,tl,tb⟩,fx⟩:=t;obtain rfl:u=zkH ⟨⟨te,tl,tb⟩,fx⟩:=hR;unfold zkH;clear HC;clear hk hq hrt q0 q1 q5 q6 q8;try simp only at HR
 go_upto_region 3 with (fail);replace HF:=hI (HF.o.alloc 183 [te,tl,tb,fx]);replace HK:=hI (HK.o.below (bw HF));generalize v1.alloc _=v2 at *;generalize v1.heap.size=Z at HF ⊢;have z_:=blk4 (HF.o.at_ 0 rfl);go_wp2_with fail;refine (zf (decide (0<tl)) rfl _ _ _).mono ?_;rintro e wz ⟨rfl,⟨hb,rfl⟩ | ⟨hb,rfl⟩⟩
 · have HRT:=hI (ifT HR.o hb);clear hb z_;exact uQp
 replace HR:=hI (ifO HR.o hb);clear hb;clear z_;have z_:=blk4 (HF.o.at_ 0 rfl);have yf_:=frz4 (HF.o.at_ 1 rfl);have y_:=blk4 (HF.o.at_ 1 rfl);go_wp2_with fail;clear z_ yf_ y_;change bodyPost _ _ _ _ _ (setL v2 Y 0 [te,tl,tb,fx]);replace HF:=hI (HF.o.fill 1 rfl [te,tl,tb,fx] rfl);generalize setL v2 Y 0 _=v1 at *;have y_:=blk4 (HF.o.at_ 1 rfl);refine bodyPost_ret (v:=.agg #[te,tl,tb,fx]) (by simp[results,Tryz.results152,go_sem,y_];try rfl) rfl ?_;exact uS3
end
section
variable {G:TGam} {K:TKs} {L:List ByteArray} {M:World} {N fb:Nat} {g:TFu} {n nb q:Nat} {w:World}
section
variable {p:Prop}
theorem uB1 (h:p:=by
 refine⟨zQ rfl ?_,zQ rfl ?_,zQ rfl ?_,zQ rfl ?_,zQ rfl ?_,zQ rfl ?_,zQ rfl ?_,zQ rfl ?_,trivial⟩;all_goals (simp only[Act.put,pA,pB,pC,Option.getD];go_simp)):p:=h
theorem uKk (h:p:=by
 refine⟨zQ rfl ?_,zQ rfl ?_,zQ rfl ?_,zQ rfl ?_,zQ rfl ?_,zQ rfl ?_,zQ rfl ?_,trivial⟩;all_goals (simp only[Act.put,pA,pB,pC,Option.getD];go_simp)):p:=h
theorem uZu (h:p:=by
 intro wz hSz;obtain⟨hXs,hYs,hZs⟩:=hSz;have cY5:=(zz hYs 5).1;have cZ2:=(zz hZs 2).1;have cY4:=(zz hYs 4).1;refine⟨zQ rfl ?_,zQ rfl ?_,zQ rfl ?_,zQ rfl ?_,zQ rfl ?_,zQ rfl ?_,zQ rfl ?_,zQ rfl ?_,zQ rfl ?_,zQ rfl ?_,zQ rfl ?_,zQ rfl ?_,zQ rfl ?_,zQ rfl ?_,trivial⟩;all_goals (simp only[Act.put,pA,pB,pC,Option.getD];go_simp)):p:=h
theorem uCi (h:p:=by
 intro wz hSz;obtain⟨hXs,hYs,hZs⟩:=hSz;refine⟨zQ rfl ?_,trivial,trivial,trivial,trivial,trivial,trivial,trivial,trivial,trivial,trivial,trivial,trivial,zQ rfl ?_,trivial⟩;all_goals (simp only[Act.put,pA,pB,pC,Option.getD];go_simp)):p:=h
theorem uVr (h:p:=by
 refine (zf false rfl _ _ _).mono ?_;rintro e wz ⟨rfl,⟨hb,rfl⟩ | ⟨hb,rfl⟩⟩
 case inr=>cases hb
 clear hb hK;exact uQp):p:=h
theorem uBC (h:p:=by
 intro wz hSz;obtain⟨hXs,hYs,hZs⟩:=hSz;have cZ2:=(zz hZs 2).1;have cY4:=(zz hYs 4).1;have cX1:=(zz hXs 1).1;exact uB1):p:=h
theorem uAh (h:p:=by
 go_wp2_with fail;refine (zf false rfl _ _ _).mono ?_;rintro e wz ⟨rfl,⟨hb,rfl⟩ | ⟨hb,rfl⟩⟩
 case inr=>cases hb
 clear hb x_ y_ z_;exact uQp):p:=h
theorem uQb (h:p:=by
 have HRT:=hI (ifT HR.o hb);clear hb hK;exact uQp):p:=h
theorem uVM (h:p:=by
 try simp only[zy,zW,Act.put,pA,pB,pC,Option.getD]
 refine wone 23 fun K hK=>?_;go_simp;have HRT:=hI (ifT HR.o (by simp[hF]));exact uVr):p:=h
end
theorem zXH (hv:VW n) (pp pe pb:Int) (pn:ByteArray) (po:Bool) (kind pos num:Int) (name:ByteArray) (args:List TEx) (A:Option Addr) (c m:Nat) (h:CkAt M w q fb nb N L K G g) (hn:name.size≤65536) (ha:args.length≤65536) (hx:zj (zO m) M M.heap.size (.slice A args.length c) args) (hb:z6w (fun x=>zi n K G x) G ⟨pp,pn,⟨pe,0,pb⟩,po⟩ (.mk kind pos num name args)≠.bad) :
  Calls Tryz.prog 154 #[.pointer (some ⟨q,0,none⟩),.agg #[pp,pn,pe,.int .i64 0,pb,po],.agg #[kind,pos,num,name,.slice A args.length c]] w (zn noS w RUn (z6w (fun x=>zi n K G x) G ⟨pp,pn,⟨pe,0,pb⟩,po⟩ (.mk kind pos num name args))):=by
 have HC:=hI (fun hb=>hv _ _ _ _ _ _ _ _ _ _ kind pos num name args A c m (h.below (bal (bnew w (.cells #[pp,pn,pe,.int .i64 0,pb,po] 65)) (.cells #[kind,pos,num,name,.slice A args.length c] 153))) hn ha hx hb);have HLT:=hI h.lt;have HF:=hI (((Frm.start (S:=noS) w (fun _ h=>h.elim)).alloc 65 [pp,pn,pe,.int .i64 0,pb,po]).allocN (w.heap.size+1) (by simp) 153 [kind,pos,num,name,.slice A args.length c]);have HK:=hI ((h.below (bnew w (.cells #[pp,pn,pe,.int .i64 0,pb,po] 65))).below (bnew (w.alloc (.cells #[pp,pn,pe,.int .i64 0,pb,po] 65)) (.cells #[kind,pos,num,name,.slice A args.length c] 153)));obtain⟨r,hr⟩:∃r,z6w (fun x=>zi n K G x) G ⟨pp,pn,⟨pe,0,pb⟩,po⟩ (.mk kind pos num name args)=r:=⟨_,rfl⟩
 rw[hr] at hb ⊢;have HR:=hI hr;have HNB:=hI hb;generalize hPO:zn noS w RUn r=PO;have HPO:=hI hPO;clear hr hPO hb h hn ha hx hv;go_enter Tryz.func154,Tryz.ntmps154;go_upto_region 1 with (fail);generalize ((w.alloc _).alloc _)=v at *;generalize w.heap.size+1=X at HF ⊢;generalize w.heap.size=Y at HF ⊢;unfold z6w at HR;rw[if_pos (show (⟨pp,pn,⟨pe,0,pb⟩,po⟩:TPa).ty.len=0 from rfl)] at HR;have x_:=blk5 (HF.o.at_ 0 rfl);have y_:=blk6 (HF.o.at_ 1 rfl);go_wp2_with fail;refine (HC.o (nbL HR.o HNB.o)).mono ?_;intro e v hpost;rcases hpost.cases (nbL HR.o HNB.o) with⟨t,hq,u,rfl,hR,hk⟩ | ⟨hq,E,P,rfl,hE,hk⟩
 case inr=>exact uGY
 replace HF:=hI (HF.o.call hk);replace HK:=hI (HK.o.below (kb hk));have hrt:=brO HR.o hq;try simp only at hrt
 replace HR:=hI hrt;obtain⟨te,tl,tb⟩:=t;obtain rfl:u=zzC ⟨te,tl,tb⟩:=hR;unfold zzC;clear HC;clear hk hq hrt x_ y_;go_upto_region 3 with (fail);replace HF:=hI (HF.o.alloc 41 [te,tl,tb]);replace HK:=hI (HK.o.below (bw HF));generalize v.alloc _=v1 at *;generalize v.heap.size=Z at HF ⊢;have x_:=blk5 (HF.o.at_ 1 rfl);have y_:=blk6 (HF.o.at_ 2 rfl);have z_:=blk3 (HF.o.at_ 0 rfl);go_wp2_with fail;refine (zf (decide (te=pe)) rfl _ _ _).mono ?_;rintro e wz ⟨rfl,⟨hb,rfl⟩ | ⟨hb,rfl⟩⟩
 · have HRT:=hI (ifT HR.o hb);clear hb x_ y_ z_;exact uQp
 replace HR:=hI (ifO HR.o hb);clear hb;go_upto_region 4 with (fail);clear x_ y_ z_;refine wL (fun w'=>w'.heap[X]? = some (.cells #[kind,pos,num,name,.slice A args.length c] 153 (0,0))∧w'.heap[Y]? = some (.cells #[pp,pn,pe,.int .i64 0,pb,po] 65 (0,0))∧w'.heap[Z]? = some (.cells #[te,tl,tb] 41 (0,0))) 99 ?_;replace HK:=hI (HK.o.below (bdr (Below.refl _ _)));replace HF:=hI HF.o.drew;generalize v1.drew=v at *;refine zY (by kernel_rfl) (fun _ _ _ _ _ h=>h) [(0,some 24,some (.pointer (some ⟨Z,2,none⟩))),(1,some 25,some (.int .i64 tb)),(2,some 26,some (.pointer (some ⟨Y,2,none⟩))),(3,some 27,some (.pointer (some ⟨Y,4,none⟩))),(4,some 28,some (.int .i64 pb)),(6,some 30,some (.pointer (some ⟨X,1,none⟩))),(7,some 31,some (.int .i64 pos))] 2 (by rfl) (by kernel_rfl) (by kernel_rfl) ?hv1 (⟨HF.o.at_ 1 rfl,HF.o.at_ 2 rfl,HF.o.at_ 0 rfl⟩) ?rs1
 case hv1=>intro wz hSz;obtain⟨hXs,hYs,hZs⟩:=hSz;have cZ2:=(zz hZs 2).1;have cY4:=(zz hYs 4).1;have cX1:=(zz hXs 1).1;exact uKk
 try simp only[zy,zW,Act.put,pA,pB,pC,Option.getD]
 refine wone 5 fun K hK=>?_;go_simp;refine (zcd tb pb _).mono ?_;rintro e wz ⟨rfl,rfl⟩;refine hK.o _ _ (fun _=>⟨HF.o.at_ 1 rfl,HF.o.at_ 2 rfl,HF.o.at_ 0 rfl⟩) ?_;clear hK;try simp only[Act.put,pA,pB,pC]
 refine wone 8 fun K hK=>?_;go_simp;refine (zf (zKq tb pb) rfl _ _ _).mono ?_;rintro e wz ⟨rfl,⟨hb,rfl⟩ | ⟨hb,rfl⟩⟩
 · exact uQb
 replace HR:=hI (ifO HR.o hb);clear hb;refine hK.o _ _ (fun _=>⟨HF.o.at_ 1 rfl,HF.o.at_ 2 rfl,HF.o.at_ 0 rfl⟩) ?_;clear hK;try simp only[Act.put,pA,pB,pC]
 refine wD ?_ _;exact uY1
theorem zEy (hv:VW n) (pp pe pl pb:Int) (pn:ByteArray) (po:Bool) (kind pos num:Int) (name:ByteArray) (args:List TEx) (A:Option Addr) (c m:Nat) (hl:pl≠0) (h:CkAt M w q fb nb N L K G g) (hn:name.size≤65536) (ha:args.length≤65536) (hx:zj (zO m) M M.heap.size (.slice A args.length c) args) (hb:z6w (fun x=>zi n K G x) G ⟨pp,pn,⟨pe,pl,pb⟩,po⟩ (.mk kind pos num name args)≠.bad) :
  Calls Tryz.prog 154 #[.pointer (some ⟨q,0,none⟩),.agg #[pp,pn,pe,pl,pb,po],.agg #[kind,pos,num,name,.slice A args.length c]] w (zn noS w RUn (z6w (fun x=>zi n K G x) G ⟨pp,pn,⟨pe,pl,pb⟩,po⟩ (.mk kind pos num name args))):=by
 have HN:=hI hn;have q0:(pl==0)=false:=nB hl;have HLT:=hI h.lt;have HF:=hI (((Frm.start (S:=noS) w (fun _ h=>h.elim)).alloc 65 [pp,pn,pe,pl,pb,po]).allocN (w.heap.size+1) (by simp) 153 [kind,pos,num,name,.slice A args.length c]);have HK:=hI ((h.below (bnew w (.cells #[pp,pn,pe,pl,pb,po] 65))).below (bnew (w.alloc (.cells #[pp,pn,pe,pl,pb,po] 65)) (.cells #[kind,pos,num,name,.slice A args.length c] 153)));obtain⟨r,hr⟩:∃r,z6w (fun x=>zi n K G x) G ⟨pp,pn,⟨pe,pl,pb⟩,po⟩ (.mk kind pos num name args)=r:=⟨_,rfl⟩
 rw[hr] at hb ⊢;have HR:=hI hr;have HNB:=hI hb;generalize hPO:zn noS w RUn r=PO;have HPO:=hI hPO;clear hr hPO hb h hn ha hx hv;go_enter Tryz.func154,Tryz.ntmps154;go_upto_region 1 with (fail);generalize ((w.alloc _).alloc _)=v at *;generalize w.heap.size+1=X at HF ⊢;generalize w.heap.size=Y at HF ⊢;unfold z6w at HR;rw[if_neg (show ¬(⟨pp,pn,⟨pe,pl,pb⟩,po⟩:TPa).ty.len=0 from hl)] at HR;clear hl;obtain⟨x0,x1,x2,x3,x4⟩:=blk5 (HF.o.at_ 0 rfl);obtain⟨y0,y1,y2,y3,y4,y5⟩:=blk6 (HF.o.at_ 1 rfl);go_upto_region 5 with (fail);clear q0;go_wp2_with fail;refine (zf (decide (kind=2)) rfl _ _ _).mono ?_;rintro e wz ⟨rfl,⟨hb,rfl⟩ | ⟨hb,rfl⟩⟩
 · have HRT:=hI (ifT HR.o hb);clear hb x0 x1 x2 x3 x4 y0 y1 y2 y3 y4 y5;exact uQp
 replace HR:=hI (ifO HR.o hb);clear hb;have HC:=hI (zug HK.o name HN.o pos);go_wp2_with fail;refine (HC.o).mono ?_;intro e v hpost;rcases hpost.cases (nbL HR.o HNB.o) with⟨t,hq,u,rfl,hR,hk⟩ | ⟨hq,E,P,rfl,hE,hk⟩
 case inr=>exact uGY
 replace HF:=hI (HF.o.call hk);replace HK:=hI (HK.o.below (kb hk));have hrt:=brO HR.o hq;try simp only at hrt
 replace HR:=hI hrt;obtain⟨⟨te,tl,tb⟩,fx⟩:=t;obtain rfl:u=zkH ⟨⟨te,tl,tb⟩,fx⟩:=hR;unfold zkH;clear HC;clear hk hq hrt x0 x1 x2 x3 x4 y0 y1 y2 y3 y4 y5;go_upto_region 7 with (fail);replace HF:=hI (HF.o.alloc 183 [te,tl,tb,fx]);replace HK:=hI (HK.o.below (bw HF));generalize v.alloc _=v1 at *;generalize v.heap.size=Z at HF ⊢;try simp only at HR
 by_cases h1:te=pe
 case neg =>
  have q1:(te==pe)=false:=by rw[beq_eq_false_iff_ne];exact h1
  have x_:=blk5 (HF.o.at_ 1 rfl);have y_:=blk6 (HF.o.at_ 2 rfl);have z_:=blk4 (HF.o.at_ 0 rfl);have HRT:=hI (ifT HR.o (by simp[h1]));exact uAh
 subst h1;by_cases h2:tl=pl
 case neg =>
  have q1:(tl==pl)=false:=by rw[beq_eq_false_iff_ne];exact h2
  have x_:=blk5 (HF.o.at_ 1 rfl);have y_:=blk6 (HF.o.at_ 2 rfl);have z_:=blk4 (HF.o.at_ 0 rfl);have HRT:=hI (ifT HR.o (by simp[h2]));exact uAh
 subst h2;cases po
 case' true =>
  cases fx
  case true=>have x_:=blk5 (HF.o.at_ 1 rfl);have y_:=blk6 (HF.o.at_ 2 rfl);have z_:=blk4 (HF.o.at_ 0 rfl);have HRT:=hI (ifT HR.o (by simp));exact uAh
  have x_:=blk5 (HF.o.at_ 1 rfl);have y_:=blk6 (HF.o.at_ 2 rfl);have z_:=blk4 (HF.o.at_ 0 rfl);replace HR:=hI (ifO HR.o (by simp));go_wp2_with fail;refine (zf true rfl _ _ _).mono ?_;rintro e wz ⟨rfl,⟨hb,rfl⟩ | ⟨hb,rfl⟩⟩
  case inl=>cases hb
  clear hb;go_upto_region 8 with (fail);clear x_ y_ z_;cases hF:zKq tb pb
  case false =>
   refine wL (fun w'=>w'.heap[X]? = some (.cells #[kind,pos,num,name,.slice A args.length c] 153 (0,0))∧w'.heap[Y]? = some (.cells #[pp,pn,te,tl,pb,true] 65 (0,0))∧w'.heap[Z]? = some (.cells #[te,tl,tb,false] 183 (0,0))) 99 ?_;replace HK:=hI (HK.o.below (bdr (Below.refl _ _)));replace HF:=hI HF.o.drew;generalize v1.drew=v at *;refine zY (by kernel_rfl) (fun _ _ _ _ _ h=>h) [(0,some 73,some (.pointer (some ⟨Z,0,none⟩))),(1,some 74,some (.pointer (some ⟨Z,2,none⟩))),(2,some 75,some (.int .i64 tb)),(3,some 76,some (.pointer (some ⟨Y,2,none⟩))),(4,some 77,some (.pointer (some ⟨Y,4,none⟩))),(5,some 78,some (.int .i64 pb)),(21,some 94,some (.pointer (some ⟨X,1,none⟩))),(22,some 95,some (.int .i64 pos))] 16 (by rfl) (by kernel_rfl) (by kernel_rfl) ?hv1 (⟨HF.o.at_ 1 rfl,HF.o.at_ 2 rfl,HF.o.at_ 0 rfl⟩) ?rs1
   case hv1=>exact uBC
   try simp only[zy,zW,Act.put,pA,pB,pC,Option.getD]
   refine wone 6 fun K hK=>?_;go_simp;refine (zcd tb pb _).mono ?_;rintro e wz ⟨rfl,rfl⟩;rw[hF];refine hK.o _ _ (fun _=>⟨HF.o.at_ 1 rfl,HF.o.at_ 2 rfl,HF.o.at_ 0 rfl⟩) ?_;clear hK;try simp only[Act.put,pA,pB,pC]
   refine zY (by kernel_rfl) (fun _ _ _ _ _ h=>h) [(7,some 80,some (.bool false)),(8,some 81,none),(9,some 82,none),(10,some 83,none),(11,some 84,none),(12,some 85,none),(13,some 86,none),(14,some 87,none),(15,some 88,none),(16,some 89,none),(17,some 90,none),(18,some 91,none),(19,some 92,none),(20,some 93,some (.bool false))] 1 (by rfl) (by kernel_rfl) (by kernel_rfl) ?hv2 (⟨HF.o.at_ 1 rfl,HF.o.at_ 2 rfl,HF.o.at_ 0 rfl⟩) ?rs2
   case hv2=>exact uCi
   exact uVM
  by_cases h3:tb=pb
  case neg =>
   have q1:(tb==pb)=false:=by rw[beq_eq_false_iff_ne];exact h3
   refine wL (fun w'=>w'.heap[X]? = some (.cells #[kind,pos,num,name,.slice A args.length c] 153 (0,0))∧w'.heap[Y]? = some (.cells #[pp,pn,te,tl,pb,true] 65 (0,0))∧w'.heap[Z]? = some (.cells #[te,tl,tb,false] 183 (0,0))) 99 ?_;replace HK:=hI (HK.o.below (bdr (Below.refl _ _)));replace HF:=hI HF.o.drew;generalize v1.drew=v at *;refine zY (by kernel_rfl) (fun _ _ _ _ _ h=>h) [(0,some 73,some (.pointer (some ⟨Z,0,none⟩))),(1,some 74,some (.pointer (some ⟨Z,2,none⟩))),(2,some 75,some (.int .i64 tb)),(3,some 76,some (.pointer (some ⟨Y,2,none⟩))),(4,some 77,some (.pointer (some ⟨Y,4,none⟩))),(5,some 78,some (.int .i64 pb)),(21,some 94,some (.pointer (some ⟨X,1,none⟩))),(22,some 95,some (.int .i64 pos))] 16 (by rfl) (by kernel_rfl) (by kernel_rfl) ?hv3 (⟨HF.o.at_ 1 rfl,HF.o.at_ 2 rfl,HF.o.at_ 0 rfl⟩) ?rs3
   case hv3=>exact uBC
   try simp only[zy,zW,Act.put,pA,pB,pC,Option.getD]
   refine wone 6 fun K hK=>?_;go_simp;refine (zcd tb pb _).mono ?_;rintro e wz ⟨rfl,rfl⟩;rw[hF];refine hK.o _ _ (fun _=>⟨HF.o.at_ 1 rfl,HF.o.at_ 2 rfl,HF.o.at_ 0 rfl⟩) ?_;clear hK;try simp only[Act.put,pA,pB,pC]
   refine zY (by kernel_rfl) (fun _ _ _ _ _ h=>h) [(7,some 80,some (.bool true)),(8,some 81,some (.pointer (some ⟨Y,5,none⟩))),(9,some 82,some (.bool true)),(10,some 83,some (.bool false)),(11,some 84,some (.bool false)),(12,some 85,some (.pointer (some ⟨Z,0,none⟩))),(13,some 86,some (.pointer (some ⟨Z,2,none⟩))),(14,some 87,some (.int .i64 tb)),(15,some 88,some (.pointer (some ⟨Y,2,none⟩))),(16,some 89,some (.pointer (some ⟨Y,4,none⟩))),(17,some 90,some (.int .i64 pb)),(18,some 91,some (.bool false)),(19,some 92,some (.bool false)),(20,some 93,some (.bool false))] 1 (by rfl) (by kernel_rfl) (by kernel_rfl) ?hv4 (⟨HF.o.at_ 1 rfl,HF.o.at_ 2 rfl,HF.o.at_ 0 rfl⟩) ?rs4
   case hv4=>exact uZu
   try simp only[zy,zW,Act.put,pA,pB,pC,Option.getD]
   refine wone 23 fun K hK=>?_;go_simp;have HRT:=hI (ifT HR.o (by simp[hF,h3]));exact uVr
  subst h3;refine wL (fun w'=>w'.heap[X]? = some (.cells #[kind,pos,num,name,.slice A args.length c] 153 (0,0))∧w'.heap[Y]? = some (.cells #[pp,pn,te,tl,tb,true] 65 (0,0))∧w'.heap[Z]? = some (.cells #[te,tl,tb,false] 183 (0,0))) 99 ?_;replace HK:=hI (HK.o.below (bdr (Below.refl _ _)));replace HF:=hI HF.o.drew;generalize v1.drew=v at *;refine zY (by kernel_rfl) (fun _ _ _ _ _ h=>h) [(0,some 73,some (.pointer (some ⟨Z,0,none⟩))),(1,some 74,some (.pointer (some ⟨Z,2,none⟩))),(2,some 75,some (.int .i64 tb)),(3,some 76,some (.pointer (some ⟨Y,2,none⟩))),(4,some 77,some (.pointer (some ⟨Y,4,none⟩))),(5,some 78,some (.int .i64 tb)),(21,some 94,some (.pointer (some ⟨X,1,none⟩))),(22,some 95,some (.int .i64 pos))] 16 (by rfl) (by kernel_rfl) (by kernel_rfl) ?hv5 (⟨HF.o.at_ 1 rfl,HF.o.at_ 2 rfl,HF.o.at_ 0 rfl⟩) ?rs5
  case hv5=>exact uBC
  try simp only[zy,zW,Act.put,pA,pB,pC,Option.getD]
  refine wone 6 fun K hK=>?_;go_simp;refine (zcd tb tb _).mono ?_;rintro e wz ⟨rfl,rfl⟩;rw[hF];refine hK.o _ _ (fun _=>⟨HF.o.at_ 1 rfl,HF.o.at_ 2 rfl,HF.o.at_ 0 rfl⟩) ?_;clear hK;try simp only[Act.put,pA,pB,pC]
  refine zY (by kernel_rfl) (fun _ _ _ _ _ h=>h) [(7,some 80,some (.bool true)),(8,some 81,some (.pointer (some ⟨Y,5,none⟩))),(9,some 82,some (.bool true)),(10,some 83,some (.bool false)),(11,some 84,some (.bool false)),(12,some 85,some (.pointer (some ⟨Z,0,none⟩))),(13,some 86,some (.pointer (some ⟨Z,2,none⟩))),(14,some 87,some (.int .i64 tb)),(15,some 88,some (.pointer (some ⟨Y,2,none⟩))),(16,some 89,some (.pointer (some ⟨Y,4,none⟩))),(17,some 90,some (.int .i64 tb)),(18,some 91,some (.bool true)),(19,some 92,some (.bool true)),(20,some 93,some (.bool true))] 1 (by rfl) (by kernel_rfl) (by kernel_rfl) ?hv6 (⟨HF.o.at_ 1 rfl,HF.o.at_ 2 rfl,HF.o.at_ 0 rfl⟩) ?rs6
  case hv6=>exact uZu
  try simp only[zy,zW,Act.put,pA,pB,pC,Option.getD]
  refine wone 23 fun K hK=>?_;go_simp;replace HR:=hI (ifO HR.o (by simp[hF]));refine (zf true rfl _ _ _).mono ?_;rintro e wz ⟨rfl,⟨hb,rfl⟩ | ⟨hb,rfl⟩⟩
  case inl=>cases hb
  clear hb;refine hK.o _ _ (fun _=>⟨HF.o.at_ 1 rfl,HF.o.at_ 2 rfl,HF.o.at_ 0 rfl⟩) ?_;clear hK;try simp only[Act.put,pA,pB,pC]
  refine wD ?_ _;go_wp2_with fail;go_end0;exact zn.ok_ HPO.o HR.o trivial HF.o.kp
 case' false =>
  have x_:=blk5 (HF.o.at_ 1 rfl);have y_:=blk6 (HF.o.at_ 2 rfl);have z_:=blk4 (HF.o.at_ 0 rfl);replace HR:=hI (ifO HR.o (by simp));go_wp2_with fail;refine (zf true rfl _ _ _).mono ?_;rintro e wz ⟨rfl,⟨hb,rfl⟩ | ⟨hb,rfl⟩⟩
  case inl=>cases hb
  clear hb;go_upto_region 8 with (fail);clear x_ y_ z_;cases hF:zKq tb pb
  case false =>
   refine wL (fun w'=>w'.heap[X]? = some (.cells #[kind,pos,num,name,.slice A args.length c] 153 (0,0))∧w'.heap[Y]? = some (.cells #[pp,pn,te,tl,pb,false] 65 (0,0))∧w'.heap[Z]? = some (.cells #[te,tl,tb,fx] 183 (0,0))) 99 ?_;replace HK:=hI (HK.o.below (bdr (Below.refl _ _)));replace HF:=hI HF.o.drew;generalize v1.drew=v at *;refine zY (by kernel_rfl) (fun _ _ _ _ _ h=>h) [(0,some 73,some (.pointer (some ⟨Z,0,none⟩))),(1,some 74,some (.pointer (some ⟨Z,2,none⟩))),(2,some 75,some (.int .i64 tb)),(3,some 76,some (.pointer (some ⟨Y,2,none⟩))),(4,some 77,some (.pointer (some ⟨Y,4,none⟩))),(5,some 78,some (.int .i64 pb)),(21,some 94,some (.pointer (some ⟨X,1,none⟩))),(22,some 95,some (.int .i64 pos))] 16 (by rfl) (by kernel_rfl) (by kernel_rfl) ?hv7 (⟨HF.o.at_ 1 rfl,HF.o.at_ 2 rfl,HF.o.at_ 0 rfl⟩) ?rs7
   case hv7=>exact uBC
   try simp only[zy,zW,Act.put,pA,pB,pC,Option.getD]
   refine wone 6 fun K hK=>?_;go_simp;refine (zcd tb pb _).mono ?_;rintro e wz ⟨rfl,rfl⟩;rw[hF];refine hK.o _ _ (fun _=>⟨HF.o.at_ 1 rfl,HF.o.at_ 2 rfl,HF.o.at_ 0 rfl⟩) ?_;clear hK;try simp only[Act.put,pA,pB,pC]
   refine zY (by kernel_rfl) (fun _ _ _ _ _ h=>h) [(7,some 80,some (.bool false)),(8,some 81,none),(9,some 82,none),(10,some 83,none),(11,some 84,none),(12,some 85,none),(13,some 86,none),(14,some 87,none),(15,some 88,none),(16,some 89,none),(17,some 90,none),(18,some 91,none),(19,some 92,none),(20,some 93,some (.bool false))] 1 (by rfl) (by kernel_rfl) (by kernel_rfl) ?hv8 (⟨HF.o.at_ 1 rfl,HF.o.at_ 2 rfl,HF.o.at_ 0 rfl⟩) ?rs8
   case hv8=>exact uCi
   exact uVM
  refine wL (fun w'=>w'.heap[X]? = some (.cells #[kind,pos,num,name,.slice A args.length c] 153 (0,0))∧w'.heap[Y]? = some (.cells #[pp,pn,te,tl,pb,false] 65 (0,0))∧w'.heap[Z]? = some (.cells #[te,tl,tb,fx] 183 (0,0))) 99 ?_;replace HK:=hI (HK.o.below (bdr (Below.refl _ _)));replace HF:=hI HF.o.drew;generalize v1.drew=v at *;refine zY (by kernel_rfl) (fun _ _ _ _ _ h=>h) [(0,some 73,some (.pointer (some ⟨Z,0,none⟩))),(1,some 74,some (.pointer (some ⟨Z,2,none⟩))),(2,some 75,some (.int .i64 tb)),(3,some 76,some (.pointer (some ⟨Y,2,none⟩))),(4,some 77,some (.pointer (some ⟨Y,4,none⟩))),(5,some 78,some (.int .i64 pb)),(21,some 94,some (.pointer (some ⟨X,1,none⟩))),(22,some 95,some (.int .i64 pos))] 16 (by rfl) (by kernel_rfl) (by kernel_rfl) ?hv9 (⟨HF.o.at_ 1 rfl,HF.o.at_ 2 rfl,HF.o.at_ 0 rfl⟩) ?rs9
  case hv9=>exact uBC
  try simp only[zy,zW,Act.put,pA,pB,pC,Option.getD]
  refine wone 6 fun K hK=>?_;go_simp;refine (zcd tb pb _).mono ?_;rintro e wz ⟨rfl,rfl⟩;rw[hF];refine hK.o _ _ (fun _=>⟨HF.o.at_ 1 rfl,HF.o.at_ 2 rfl,HF.o.at_ 0 rfl⟩) ?_;clear hK;try simp only[Act.put,pA,pB,pC]
  refine zY (by kernel_rfl) (fun _ _ _ _ _ h=>h) [(7,some 80,some (.bool true)),(8,some 81,some (.pointer (some ⟨Y,5,none⟩))),(9,some 82,some (.bool false)),(10,some 83,some (.bool true)),(11,some 84,some (.bool true)),(12,some 85,none),(13,some 86,none),(14,some 87,none),(15,some 88,none),(16,some 89,none),(17,some 90,none),(18,some 91,none),(19,some 92,some (.bool true)),(20,some 93,some (.bool true))] 1 (by rfl) (by kernel_rfl) (by kernel_rfl) ?hv10 (⟨HF.o.at_ 1 rfl,HF.o.at_ 2 rfl,HF.o.at_ 0 rfl⟩) ?rs10
  case hv10=>intro wz hSz;obtain⟨hXs,hYs,hZs⟩:=hSz;have cY5:=(zz hYs 5).1;refine⟨zQ rfl ?_,zQ rfl ?_,zQ rfl ?_,zQ rfl ?_,zQ rfl ?_,trivial,trivial,trivial,trivial,trivial,trivial,trivial,zQ rfl ?_,zQ rfl ?_,trivial⟩;all_goals (simp only[Act.put,pA,pB,pC,Option.getD];go_simp)
  try simp only[zy,zW,Act.put,pA,pB,pC,Option.getD]
  refine wone 23 fun K hK=>?_;go_simp;replace HR:=hI (ifO HR.o (by simp[hF]));refine (zf true rfl _ _ _).mono ?_;rintro e wz ⟨rfl,⟨hb,rfl⟩ | ⟨hb,rfl⟩⟩
  case inl=>cases hb
  clear hb;refine hK.o _ _ (fun _=>⟨HF.o.at_ 1 rfl,HF.o.at_ 2 rfl,HF.o.at_ 0 rfl⟩) ?_;clear hK;try simp only[Act.put,pA,pB,pC]
  refine wD ?_ _;go_wp2_with fail;go_end0;exact zn.ok_ HPO.o HR.o trivial HF.o.kp
end
section
variable {A:Option Addr} {G:TGam} {M:World} {c n:Nat} {w:World}
section
variable {p:Prop}
theorem uKV (h:p:=by
 refine⟨zQ rfl ?_,zQ rfl ?_,zQ rfl ?_,zQ rfl ?_,zQ rfl ?_,zQ rfl ?_,zQ rfl ?_,zQ rfl ?_,zQ rfl ?_,zQ rfl ?_,trivial⟩;all_goals (simp only[Act.put,pA,pB,pC,Option.getD];go_simp)):p:=h
theorem uUy (h:p:=by
 refine⟨zQ rfl ?_,trivial⟩;all_goals go_simp):p:=h
end
theorem zq9 (hv:VW n) {q fb nb N:Nat} {L:List ByteArray} {K:TKs} {g:TFu} (p:TPa) (x:TEx) (A:Option Addr) (c m:Nat) (h:CkAt M w q fb nb N L K G g) (hs:exSm x) (hx:zj (zO m) M M.heap.size (.slice A x.args.length c) x.args) (hb:z6w (fun x=>zi n K G x) G p x≠.bad) :
  Calls Tryz.prog 154 #[.pointer (some ⟨q,0,none⟩),.agg #[p.pos,p.name,p.ty.elem,p.ty.len,p.ty.label,p.out],.agg #[x.kind,x.pos,x.num,x.name,.slice A x.args.length c]] w (zn noS w RUn (z6w (fun x=>zi n K G x) G p x)):=by
 obtain⟨pp,pn,⟨pe,pl,pb⟩,po⟩:=p;obtain⟨kind,pos,num,name,args⟩:=x;by_cases hl:pl=0
 · subst hl;exact zXH hv pp pe pb pn po kind pos num name args A c m h hs.1 hs.2 hx hb
 exact zEy hv pp pe pl pb pn po kind pos num name args A c m hl h hs.1 hs.2 hx hb
theorem Frm.tail {S:Nat→Prop} {W:World} {b:Nat×TypeId×List Value} {bs:List (Nat×TypeId×List Value)} (h:Frm S W w (b::bs) []):Frm S W w bs [] :=
 ⟨h.kp,fun x hx=>h.old x (List.mem_cons_of_mem _ hx),h.sub,fun x hx=>h.blk x (List.mem_cons_of_mem _ hx),(List.pairwise_cons.1 h.dis).2,fun T hT=>by cases hT⟩
theorem zlT {l:List TEx} (h:zj (zO n) M M.heap.size (.slice A l.length c) l) (k:Nat) (hk:k<l.length) :
  ∃m b off Ax cx,A=some ⟨b,off,none⟩∧exSm (l.getD k zq)∧zj (zO m) M M.heap.size (.slice Ax (l.getD k zq).args.length cx) (l.getD k zq).args∧∀w,Below M.heap.size M w →
   w.cell? ⟨b,off+k*5,none⟩=some (.int .i64 (l.getD k zq).kind)∧w.cell? ⟨b,off+k*5+1,none⟩=some (.int .i64 (l.getD k zq).pos)∧w.cell? ⟨b,off+k*5+2,none⟩=some (.int .i64 (l.getD k zq).num) ∧
   w.cell? ⟨b,off+k*5+3,none⟩=some (.string (l.getD k zq).name)∧w.cell? ⟨b,off+k*5+4,none⟩=some (.slice Ax (l.getD k zq).args.length cx):=by
 obtain⟨m,b,off,v,e1,e2,hb,hs,hx,c0,c1,c2,c3,c4⟩:=zYA h k hk
 obtain⟨Ax,cx,e,_⟩:=hx.shape
 rw[e] at hx c4
 exact⟨m,b,off,Ax,cx,e2,hs,hx,fun w hw=>⟨(hw.cell hb).trans c0,(hw.cell hb).trans c1,(hw.cell hb).trans c2,(hw.cell hb).trans c3,(hw.cell hb).trans c4⟩⟩
theorem zks {l:List TPa} (h:zj zGc M M.heap.size (.slice A l.length c) l) (k:Nat) (hk:k<l.length) :
  ∃b off,A=some ⟨b,off,none⟩∧(l.getD k z12).name.size≤65536∧∀w,Below M.heap.size M w →
   w.cell? ⟨b,off+k*6,none⟩=some (.int .i64 (l.getD k z12).pos)∧w.cell? ⟨b,off+k*6+1,none⟩=some (.string (l.getD k z12).name)∧w.cell? ⟨b,off+k*6+2,none⟩=some (.int .i64 (l.getD k z12).ty.elem) ∧
   w.cell? ⟨b,off+k*6+3,none⟩=some (.int .i64 (l.getD k z12).ty.len)∧w.cell? ⟨b,off+k*6+4,none⟩=some (.int .i64 (l.getD k z12).ty.label)∧w.cell? ⟨b,off+k*6+5,none⟩=some (.bool (l.getD k z12).out):=by
 obtain⟨b,off,e,hb,hs,hc⟩:=zmg h k hk
 exact⟨b,off,e,hs,fun w hw=>⟨(hw.cell hb).trans (hc 0 _ rfl),(hw.cell hb).trans (hc 1 _ rfl),(hw.cell hb).trans (hc 2 _ rfl),(hw.cell hb).trans (hc 3 _ rfl),(hw.cell hb).trans (hc 4 _ rfl),(hw.cell hb).trans (hc 5 _ rfl)⟩⟩
theorem zUs {f:TEx→TR TTy} (ps:List TPa) (xs:List TEx) (i:Nat) (h1:i<ps.length) (h2:i<xs.length):zZh f G (ps.drop i) (xs.drop i)=(z6w f G (ps.getD i z12) (xs.getD i zq)).bind fun _=>zZh f G (ps.drop (i+1)) (xs.drop (i+1)):=by
 rw[zD ps i z12 h1,zD xs i zq h2];rfl
theorem zXZ (a b:Nat):((a:Int)==(b:Int))=decide (a=b):=by rw[Bool.eq_iff_iff];simp;omega
theorem zv9 {T U V:Type} (r:TR T) (f:T→TR U) (k:U→TR V):(r.bind f).bind k=r.bind fun t=>(f t).bind k:=by cases r <;> rfl
theorem z5U (hv:VW n):CW (n+1):=by
 intro M w q fb nb N L Kt G g kind pos num name args A c m h hn ha hx hb;have HN:=hI hn;have HA:=hI ha;have HXX:=hI hx;have HLT:=hI h.lt;have HF:=hI (((Frm.start (S:=noS) w (fun _ h=>h.elim)).alloc 153 [kind,pos,num,name,.slice A args.length c]).allocN (w.heap.size+1) (by simp) 61 [.int .i64 0,.string ⟨#[]⟩,.slice none 0 0,false,.int .i64 0,.int .i64 0,.int .i64 0,.slice none 0 0]);have HK:=hI ((h.below (bnew w (.cells #[kind,pos,num,name,.slice A args.length c] 153))).below (bnew (w.alloc (.cells #[kind,pos,num,name,.slice A args.length c] 153)) (.cells #[.int .i64 0,.string ⟨#[]⟩,.slice none 0 0,false,.int .i64 0,.int .i64 0,.int .i64 0,.slice none 0 0] 61)));obtain⟨r,hr⟩:∃r,zRu (n+1) Kt G name args=r:=⟨_,rfl⟩
 rw[hr] at hb ⊢;have HR:=hI hr;have HNB:=hI hb;generalize hPO:zn noS w (RFn M) r=PO;have HPO:=hI hPO;clear hr hPO hb h hn ha hx;go_enter Tryz.func122,Tryz.ntmps122;go_upto_region 1 with (fail);generalize ((w.alloc _).alloc _)=v1 at *;generalize w.heap.size+1=R at HF ⊢;generalize w.heap.size=X at HF ⊢;unfold zRu at HR;have HV:Jd (VW n):=hI hv;clear hv;cases hg:Kt name
 case none =>
  have hrt:=HR.o;rw[hg] at hrt;try simp only at hrt
  have HR:=hI hrt;have HG:=hI hg;clear hg hrt;go_upto_region 1 with (fail);refine wL (fun w'=>w'.heap[X]? = some (.cells #[kind,pos,num,name,.slice A args.length c] 153 (0,0))∧w'.cell? ⟨q,0,none⟩=some (.map (some fb))∧w'.cell? ⟨q,1,none⟩=some (.map (some nb))∧w'.cell? ⟨q,5,none⟩=some (.bool g.has)∧w'.cell? ⟨q,6,none⟩=some (.int .i64 g.res.elem)∧w'.cell? ⟨q,8,none⟩=some (.int .i64 g.res.label)∧(Instr.lookup 143 (.map (some fb)) (.string name) true).run Tryz.prog w'=.ok (.tuple #[.agg #[.int .i64 0,.string ⟨#[]⟩,.slice none 0 0,false,.int .i64 0,.int .i64 0,.int .i64 0,.slice none 0 0,.int .i64 0],false]) w') 99 ?_;replace HK:=hI (HK.o.below (bdr (Below.refl _ _)));replace HF:=hI HF.o.drew;generalize v1.drew=v2 at *;refine zY (by kernel_rfl) (fun _ _ _ _ _ h=>h) [(0,some 10,some (.pointer (some ⟨q,0,none⟩))),(1,some 11,some (.pointer (some ⟨q,0,none⟩))),(2,some 12,some (.pointer (some ⟨q,0,none⟩))),(3,some 13,some (.map (some fb))),(4,some 14,some (.pointer (some ⟨X,3,none⟩))),(5,some 15,some (.string name)),(6,some 16,some (.tuple #[.agg #[.int .i64 0,.string ⟨#[]⟩,.slice none 0 0,false,.int .i64 0,.int .i64 0,.int .i64 0,.slice none 0 0,.int .i64 0],false])),(7,some 9,some (.tuple #[.agg #[.int .i64 0,.string ⟨#[]⟩,.slice none 0 0,false,.int .i64 0,.int .i64 0,.int .i64 0,.slice none 0 0,.int .i64 0],false])),(8,some 17,some (.agg #[.int .i64 0,.string ⟨#[]⟩,.slice none 0 0,false,.int .i64 0,.int .i64 0,.int .i64 0,.slice none 0 0,.int .i64 0])),(9,some 18,some (.bool false))] 3 (by rfl) (by kernel_rfl) (by kernel_rfl) ?hv1 (⟨HF.o.at_ 1 rfl,HK.o.cell.1,HK.o.cell.2.1,HK.o.cell.2.2.1,HK.o.cell.2.2.2.1,HK.o.cell.2.2.2.2,HK.o.fnNo HN.o HG.o⟩) ?rs1
  case hv1=>intro wz hSz;obtain⟨hXs,hq0,hq1,hq5,hq6,hq8,hx0⟩:=hSz;have cX3:=(zz hXs 3).1;exact uKV
  try simp only[zy,zW,Act.put,pA,pB,pC,Option.getD]
  refine wone 10 fun K hK=>?_;go_simp;replace HF:=hI (HF.o.alloc 150 [.int .i64 0,.string ⟨#[]⟩,.slice none 0 0,false,.int .i64 0,.int .i64 0,.int .i64 0,.slice none 0 0,.int .i64 0]);replace HK:=hI (HK.o.below (bw HF));refine hK.o _ _ (fun _=>⟨HF.o.at_ 2 rfl,HK.o.cell.1,HK.o.cell.2.1,HK.o.cell.2.2.1,HK.o.cell.2.2.2.1,HK.o.cell.2.2.2.2,HK.o.fnNo HN.o HG.o⟩) ?_;clear hK;generalize v2.alloc _=v3 at *;generalize v2.heap.size=U at HF ⊢;try simp only[Act.put,pA,pB,pC]
  have uf_:=frz9 (HF.o.at_ 0 rfl);have u_:=blk9 (HF.o.at_ 0 rfl);refine wone 11 fun K hK=>?_;go_simp;replace HK:=hI (HK.o.own HLT.o (HF.o.lo 0 rfl) (zC U [.int .i64 0,.string ⟨#[]⟩,.slice none 0 0,false,.int .i64 0,.int .i64 0,.int .i64 0,.slice none 0 0,.int .i64 0] v3 0));replace HF:=hI (HF.o.fill 0 rfl [.int .i64 0,.string ⟨#[]⟩,.slice none 0 0,false,.int .i64 0,.int .i64 0,.int .i64 0,.slice none 0 0,.int .i64 0] rfl);refine hK.o _ (setL v3 U 0 [.int .i64 0,.string ⟨#[]⟩,.slice none 0 0,false,.int .i64 0,.int .i64 0,.int .i64 0,.slice none 0 0,.int .i64 0]) (fun _=>⟨HF.o.at_ 2 rfl,HK.o.cell.1,HK.o.cell.2.1,HK.o.cell.2.2.1,HK.o.cell.2.2.2.1,HK.o.cell.2.2.2.2,HK.o.fnNo HN.o HG.o⟩) ?_;clear hK uf_ u_;generalize setL v3 U 0 _=v4 at *;try simp only[Act.put,pA,pB,pC]
  refine zY (by kernel_rfl) (fun _ _ _ _ _ h=>h) [(12,some 6,some (.bool false))] 0 (by rfl) (by kernel_rfl) (by kernel_rfl) ?hv2 (⟨HF.o.at_ 2 rfl,HK.o.cell.1,HK.o.cell.2.1,HK.o.cell.2.2.1,HK.o.cell.2.2.2.1,HK.o.cell.2.2.2.2,HK.o.fnNo HN.o HG.o⟩) ?rs2
  case hv2=>intro wz hSz;obtain⟨hXs,hq0,hq1,hq5,hq6,hq8,hx0⟩:=hSz;exact uUy
  try simp only[zy,zW,Act.put,pA,pB,pC,Option.getD]
  refine wD ?_ _;have x_:=blk5 (HF.o.at_ 2 rfl);have HRT:=hI HR.o.symm;go_wp2_with fail;refine (zf false rfl _ _ _).mono ?_;rintro e wz ⟨rfl,⟨hb,rfl⟩ | ⟨hb,rfl⟩⟩
  case inr=>cases hb
  clear hb x_;exact uQp
 rename_i k;rw[hg] at HR;try simp only at HR
 obtain⟨Ap,cp,Ab,cb,hl,_,hpa,hfu,_⟩:=HK.o.fnYes HN.o hg;have HL:=hI hl;have HPA:=hI hpa;have HFU:=hI hfu;clear hg hl hpa hfu;go_upto_region 1 with (fail);refine wL (fun w'=>w'.heap[X]? = some (.cells #[kind,pos,num,name,.slice A args.length c] 153 (0,0))∧w'.cell? ⟨q,0,none⟩=some (.map (some fb))∧w'.cell? ⟨q,1,none⟩=some (.map (some nb))∧w'.cell? ⟨q,5,none⟩=some (.bool g.has)∧w'.cell? ⟨q,6,none⟩=some (.int .i64 g.res.elem)∧w'.cell? ⟨q,8,none⟩=some (.int .i64 g.res.label)∧(Instr.lookup 143 (.map (some fb)) (.string name) true).run Tryz.prog w'=.ok (.tuple #[.agg #[k.f.pos,k.f.name,.slice Ap k.f.params.length cp,k.f.has,k.f.res.elem,k.f.res.len,k.f.res.label,.slice Ab k.f.body.length cb,k.cost],true]) w') 99 ?_;replace HK:=hI (HK.o.below (bdr (Below.refl _ _)));replace HF:=hI HF.o.drew;have HD:=hI (bdr (Below.refl v1.heap.size v1));generalize v1.drew=v2 at *;refine zY (by kernel_rfl) (fun _ _ _ _ _ h=>h) [(0,some 10,some (.pointer (some ⟨q,0,none⟩))),(1,some 11,some (.pointer (some ⟨q,0,none⟩))),(2,some 12,some (.pointer (some ⟨q,0,none⟩))),(3,some 13,some (.map (some fb))),(4,some 14,some (.pointer (some ⟨X,3,none⟩))),(5,some 15,some (.string name)),(6,some 16,some (.tuple #[.agg #[k.f.pos,k.f.name,.slice Ap k.f.params.length cp,k.f.has,k.f.res.elem,k.f.res.len,k.f.res.label,.slice Ab k.f.body.length cb,k.cost],true])),(7,some 9,some (.tuple #[.agg #[k.f.pos,k.f.name,.slice Ap k.f.params.length cp,k.f.has,k.f.res.elem,k.f.res.len,k.f.res.label,.slice Ab k.f.body.length cb,k.cost],true])),(8,some 17,some (.agg #[k.f.pos,k.f.name,.slice Ap k.f.params.length cp,k.f.has,k.f.res.elem,k.f.res.len,k.f.res.label,.slice Ab k.f.body.length cb,k.cost])),(9,some 18,some (.bool true))] 3 (by rfl) (by kernel_rfl) (by kernel_rfl) ?hv3 (⟨HF.o.at_ 1 rfl,HK.o.cell.1,HK.o.cell.2.1,HK.o.cell.2.2.1,HK.o.cell.2.2.2.1,HK.o.cell.2.2.2.2,HL.o _ HD.o⟩) ?rs3
 case hv3=>intro wz hSz;obtain⟨hXs,hq0,hq1,hq5,hq6,hq8,hx0⟩:=hSz;have cX3:=(zz hXs 3).1;exact uKV
 try simp only[zy,zW,Act.put,pA,pB,pC,Option.getD]
 refine wone 10 fun K hK=>?_;go_simp;have HUZ:=hI HD.o.size;replace HF:=hI (HF.o.alloc 150 [.int .i64 0,.string ⟨#[]⟩,.slice none 0 0,false,.int .i64 0,.int .i64 0,.int .i64 0,.slice none 0 0,.int .i64 0]);replace HK:=hI (HK.o.below (bw HF));replace HD:=hI (bal HD.o (.cells #[.int .i64 0,.string ⟨#[]⟩,.slice none 0 0,false,.int .i64 0,.int .i64 0,.int .i64 0,.slice none 0 0,.int .i64 0] 150));refine hK.o _ _ (fun _=>⟨HF.o.at_ 2 rfl,HK.o.cell.1,HK.o.cell.2.1,HK.o.cell.2.2.1,HK.o.cell.2.2.2.1,HK.o.cell.2.2.2.2,HL.o _ HD.o⟩) ?_;clear hK;generalize v2.alloc _=v3 at *;generalize v2.heap.size=U at HF HUZ ⊢;try simp only[Act.put,pA,pB,pC]
 have uf_:=frz9 (HF.o.at_ 0 rfl);have u_:=blk9 (HF.o.at_ 0 rfl);refine wone 11 fun K hK=>?_;go_simp;replace HK:=hI (HK.o.own HLT.o (HF.o.lo 0 rfl) (zC U [k.f.pos,k.f.name,.slice Ap k.f.params.length cp,k.f.has,k.f.res.elem,k.f.res.len,k.f.res.label,.slice Ab k.f.body.length cb,k.cost] v3 0));replace HF:=hI (HF.o.fill 0 rfl [k.f.pos,k.f.name,.slice Ap k.f.params.length cp,k.f.has,k.f.res.elem,k.f.res.len,k.f.res.label,.slice Ab k.f.body.length cb,k.cost] rfl);replace HD:=hI (z8Y HD.o HUZ.o 0 [k.f.pos,k.f.name,.slice Ap k.f.params.length cp,k.f.has,k.f.res.elem,k.f.res.len,k.f.res.label,.slice Ab k.f.body.length cb,k.cost] HD.o.size);refine hK.o _ (setL v3 U 0 [k.f.pos,k.f.name,.slice Ap k.f.params.length cp,k.f.has,k.f.res.elem,k.f.res.len,k.f.res.label,.slice Ab k.f.body.length cb,k.cost]) (fun _=>⟨HF.o.at_ 2 rfl,HK.o.cell.1,HK.o.cell.2.1,HK.o.cell.2.2.1,HK.o.cell.2.2.2.1,HK.o.cell.2.2.2.2,HL.o _ HD.o⟩) ?_;clear hK uf_ u_;generalize setL v3 U 0 _=v4 at *;try simp only[Act.put,pA,pB,pC]
 refine zY (by kernel_rfl) (fun _ _ _ _ _ h=>h) [(12,some 6,some (.bool true))] 0 (by rfl) (by kernel_rfl) (by kernel_rfl) ?hv4 (⟨HF.o.at_ 2 rfl,HK.o.cell.1,HK.o.cell.2.1,HK.o.cell.2.2.1,HK.o.cell.2.2.2.1,HK.o.cell.2.2.2.2,HL.o _ HD.o⟩) ?rs4
 case hv4=>intro wz hSz;obtain⟨hXs,hq0,hq1,hq5,hq6,hq8,hx0⟩:=hSz;exact uUy
 try simp only[zy,zW,Act.put,pA,pB,pC,Option.getD]
 refine wD ?_ _;clear HL HD;have x_:=blk5 (HF.o.at_ 2 rfl);go_wp2_with fail;refine (zf true rfl _ _ _).mono ?_;rintro e wz ⟨rfl,⟨hb,rfl⟩ | ⟨hb,rfl⟩⟩
 case inl=>cases hb
 clear hb;obtain⟨u0,u1,u2,u3,u4,u5,u6,u7,u8⟩:=blk9 (HF.o.at_ 0 rfl);go_wp2_with fail;refine (zf (decide (k.f.params.length=args.length)) ?hp _ _ _).mono ?_
 case hp=>exact zXZ _ _
 rintro e wz ⟨rfl,⟨hb,rfl⟩ | ⟨hb,rfl⟩⟩
 · have HRT:=hI (ifT HR.o hb);clear hb u0 u1 u2 u3 u4 u5 u6 u7 u8 x_;exact uQp
 replace HR:=hI (ifO HR.o hb);have HLE:=hI (of_decide_eq_true hb);clear hb;have HR0:Jd ((zZh (fun x=>zi n Kt G x) G (k.f.params.drop 0) (args.drop 0)).bind (fun _=>.ok k.f)=r):=hI (by rw[List.drop_zero,List.drop_zero];exact HR.o);clear HR;go_wp2_with fail;clear u0 u1 u2 u3 u4 u5 u6 u7 u8 x_;go_loopw [7,38] (fun _ vi wr=>∃(i:Nat),i≤k.f.params.length∧vi=.int .i64 i∧Jd (Frm noS w wr [(U, 150,[k.f.pos,k.f.name,.slice Ap k.f.params.length cp,k.f.has,k.f.res.elem,k.f.res.len,k.f.res.label,.slice Ab k.f.body.length cb,k.cost]),(R, 61,[.int .i64 0,.string ⟨#[]⟩,.slice none 0 0,false,.int .i64 0,.int .i64 0,.int .i64 0,.slice none 0 0]),(X, 153,[kind,pos,num,name,.slice A args.length c])] [])∧Jd (CkAt M wr q fb nb N L Kt G g)∧Jd ((zZh (fun x=>zi n Kt G x) G (k.f.params.drop i) (args.drop i)).bind (fun _=>.ok k.f)=r)) (fun _ vi _=>k.f.params.length-(intOf vi).toNat)
 case atStart=>exact⟨0,Nat.zero_le _,rfl,HF,HK,HR0⟩
 case round =>
  clear HF HK HR0;obtain⟨i,hi,rfl,HF,HK,HR⟩:=hrel;by_cases hlt:i<k.f.params.length
  case pos =>
   obtain⟨pb,poff,rfl,_,hpc⟩:=zks HPA.o i hlt;have hla:i<args.length:=by have:=HLE.o;omega
   obtain⟨m2,xb,xoff,Ax,cx,rfl,hxs,hxr,hxc⟩:=zlT HXX.o i hla;rw[zUs _ _ i hlt hla,zv9] at HR;generalize k.f.params.getD i z12=p at *;generalize args.getD i zq=x at *;have HXC:=hI hxc;have HXS:=hI hxs;have HXR:=hI hxr;have HLT1:=hI hlt;have HLA:=hI hla;obtain⟨p0,p1,p2,p3,p4,p5⟩:=hpc wr HK.o.old;have k0:(0:Int)≤(i:Int):=by omega
   have k1:(i:Int)<(k.f.params.length:Int):=by omega
   clear hpc hxc hxs hxr hla hlt hi;obtain⟨v1,hw⟩:∃w,wr=w:=⟨_,rfl⟩
   rw[hw] at HF HK p0 p1 p2 p3 p4 p5 ⊢;clear hw;go_upto_region 7 with (fail);clear p0 p1 p2 p3 p4 p5 k0 k1;replace HF:=hI (HF.o.alloc 65 [p.pos,p.name,p.ty.elem,p.ty.len,p.ty.label,p.out]);replace HK:=hI (HK.o.below (bw HF));generalize v1.alloc _=v2 at *;generalize v1.heap.size=P at HF ⊢;have k0:(0:Int)≤(i:Int):=by omega
   have k1:(i:Int)<(args.length:Int):=by have:=HLA.o;omega
   go_upto_region 7 with (fail);refine wL (fun w'=>w'.heap[X]? = some (.cells #[kind,pos,num,name,.slice (some ⟨xb,xoff,none⟩) args.length c] 153 (0,0))∧w'.heap[P]? = some (.cells #[p.pos,p.name,p.ty.elem,p.ty.len,p.ty.label,p.out] 65 (0,0))∧Below M.heap.size M w') 99 ?_;replace HK:=hI (HK.o.below (bdr (Below.refl _ _)));replace HF:=hI HF.o.drew;generalize v2.drew=v1 at *;refine zY (by kernel_rfl) (fun _ _ _ _ _ h=>h) [(0,some 43,some (.pointer (some ⟨q,0,none⟩))),(1,some 44,some (.agg #[p.pos,p.name,p.ty.elem,p.ty.len,p.ty.label,p.out])),(2,some 45,some (.pointer (some ⟨X,4,none⟩))),(3,some 46,some (.slice (some ⟨xb,xoff,none⟩) args.length c)),(4,some 47,some (.int .i64 i)),(5,some 48,some (.pointer (some ⟨xb,xoff+i*5,none⟩))),(6,some 49,some (.agg #[x.kind,x.pos,x.num,x.name,.slice Ax x.args.length cx]))] 1 (by rfl) (by kernel_rfl) (by kernel_rfl) ?hv5 (⟨HF.o.at_ 3 rfl,HF.o.at_ 0 rfl,HK.o.old⟩) ?rs5
   case hv5=>intro wz hSz;obtain⟨hXs,hPs,hx0⟩:=hSz;have cP0:=(zz hPs 0).1;have cP1:=(zz hPs 1).1;have cP2:=(zz hPs 2).1;have cP3:=(zz hPs 3).1;have cP4:=(zz hPs 4).1;have cP5:=(zz hPs 5).1;have cX4:=(zz hXs 4).1;obtain⟨d0,d1,d2,d3,d4⟩:=HXC.o wz hx0;exact uKk
   try simp only[zy,zW,Act.put,pA,pB,pC,Option.getD]
   refine wone 7 fun K hK=>?_;go_simp;clear k0 k1;refine (zq9 HV.o p x Ax cx m2 HK.o HXS.o HXR.o (nbL HR.o HNB.o)).mono ?_;intro e v1 hpost;rcases hpost.cases (nbL HR.o HNB.o) with⟨t,hq,u,rfl,hR,hk⟩ | ⟨hq,E,P,rfl,hE,hk⟩
   case inr=>exact uGY
   replace HF:=hI (HF.o.call hk);replace HK:=hI (HK.o.below (kb hk));have hrt:=brO HR.o hq;try simp only at hrt
   replace HR:=hI hrt;clear hk hq hrt;refine hK.o _ _ (fun _=>⟨HF.o.at_ 3 rfl,HF.o.at_ 0 rfl,HK.o.old⟩) ?_;clear hK;try simp only[Act.put,pA,pB,pC]
   refine wD ?_ _;have hz0:(0:Int)≤(i:Int):=by omega
   have hz1:(i:Int)<65537:=by have:=HLT1.o;have h9:k.f.params.length≤65536:=HFU.o.2.1;omega
   go_wp2_with fail;go_roundw
   case rel=>exact⟨i+1,HLT1.o,rfl,hI HF.o.tail,HK,HR⟩
   case measure=>simp only[intOf];have:=HLT1.o;omega
  obtain rfl:i=k.f.params.length:=by omega
  have hrt:=HR.o;rw[List.drop_length] at hrt;replace HR:Jd (.ok k.f=r):=hI hrt;clear hrt hi hlt;have u_:=blk9 (HF.o.at_ 0 rfl);have rf_:=frz8 (HF.o.at_ 1 rfl);have r_:=blk8 (HF.o.at_ 1 rfl);go_wp2_with fail;clear u_ rf_ r_;change bodyPost _ _ _ _ _ (setL wr R 0 [k.f.pos,k.f.name,.slice Ap k.f.params.length cp,k.f.has,k.f.res.elem,k.f.res.len,k.f.res.label,.slice Ab k.f.body.length cb]);replace HF:=hI (HF.o.fill 1 rfl [k.f.pos,k.f.name,.slice Ap k.f.params.length cp,k.f.has,k.f.res.elem,k.f.res.len,k.f.res.label,.slice Ab k.f.body.length cb] rfl);generalize setL wr R 0 _=v1 at *;have r_:=blk8 (HF.o.at_ 1 rfl);refine bodyPost_ret (v:=.agg #[k.f.pos,k.f.name,.slice Ap k.f.params.length cp,k.f.has,k.f.res.elem,k.f.res.len,k.f.res.label,.slice Ab k.f.body.length cb]) (by simp[results,Tryz.results122,go_sem,r_];try rfl) rfl ?_;exact zn.ok_ HPO.o HR.o ⟨_,_,_,_,rfl⟩ HF.o.kp
end
end Go.Proofs.YtfibdoehmndinaaGreatDoor
