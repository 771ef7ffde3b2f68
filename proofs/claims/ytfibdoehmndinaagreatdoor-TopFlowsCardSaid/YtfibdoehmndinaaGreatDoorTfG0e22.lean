/- Parts of a proof, joined. No condition but those that each theorem names. -/
import Derived.Test.YtfibdoehmndinaaGreatDoorTfG0e16
import Derived.Test.YtfibdoehmndinaaGreatDoorTfG0e17
import Derived.Test.YtfibdoehmndinaaGreatDoorTfG0e18
import Derived.Test.YtfibdoehmndinaaGreatDoorTfG0e12
namespace Go.Proofs.YtfibdoehmndinaaGreatDoor
open Go.RowKit
set_option maxRecDepth 100000
set_option linter.unusedVariables false
section
variable {w w':World}
theorem zDR {T e:TypeId} {B b:Nat} {bs:List Value} (h:Lib.IsBuilder T e B b bs w) (hb:Below w.heap.size w w'):Lib.IsBuilder T e B b bs w':=by
 have one:∀p,Lib.BuilderAt T e B b p bs w→Lib.BuilderAt T e B b p bs w':=by
  rintro p ⟨h1,v,h2,h3,h4⟩;have hg:w.grownBy w' none:=⟨hb.os,hb.tape,hb.output,hb.size,fun i hi _=>hb.block i hi⟩
  refine⟨h1,v,(hb.block b (zh h2)).trans h2,h3.kept hg ?_,h4⟩;cases hv:v.ownBlock
  · exact .inl rfl
  exact .inr (by simp)
 exact h.imp (one _) (one _)
def BldL (w0:World) (g:Nat) (l:List UInt8) (w:World):Prop :=
 Lib.IsBuilder 91 5 g g (Lib.byteCells l) w∧Below w0.heap.size w0 w∧w0.heap.size≤g∧g≤w.heap.size
theorem BldL.next {w0:World} {g:Nat} {l:List UInt8} (h:BldL w0 g l w) (hb:Below w.heap.size w w'):BldL w0 g l w' :=
 ⟨zDR h.1 hb,bch h.2.1 hb,h.2.2.1,Nat.le_trans h.2.2.2 hb.size⟩
theorem BldL.fresh (w0 w:World) (hb:Below w0.heap.size w0 w):BldL w0 w.heap.size [] (w.alloc (Obj.cells #[Value.pointer none,Value.slice none 0 0] 91)) :=
 ⟨Lib.fresh_isBuilder 91 5 w,bal hb _,hb.size,by simp⟩
theorem zKJ (w0:World) (g:Nat) (l:List UInt8) (t:ByteArray) (w:World) (h:BldL w0 g l w) (hl:l.length+t.size≤140737488355328) :
  Calls Tryz.prog 25 #[.pointer (some ⟨g,0,none⟩),t] w fun e w'=>e=.returned (.tuple #[t.size,.nilIface])∧BldL w0 g (l++t.data.toList) w'∧Below g w w':=by
 refine (Tryz.Builder_WriteString g g _ t w h.1 ?_ h.2.2.2).mono ?_
 · rw[Lib.byteCells_length];exact hl
 rintro e w' ⟨rfl,h1,h2⟩;rw[Lib.strCells_eq,←Lib.byteCells_append] at h1;exact⟨rfl,⟨Or.inr h1,h.2.1.trans (h2.mono h.2.2.1),h.2.2.1,Nat.le_trans h.2.2.2 h2.size⟩,h2⟩
theorem z30 (w0:World) (g:Nat) (l:List UInt8) (w:World) (h:BldL w0 g l w) :
  Calls Tryz.prog 27 #[.pointer (some ⟨g,0,none⟩)] w fun e w'=>e=.returned (.string ⟨l.toArray⟩)∧Below w0.heap.size w0 w':=by
 refine (Tryz.Builder_String g g _ w h.1 h.2.2.2).mono ?_;rintro e w' ⟨rfl,h2⟩;exact⟨rfl,h.2.1.trans (h2.mono h.2.2.1)⟩
theorem ze9 (w0:World) (g:Nat) (l:List UInt8) (w:World) (h:BldL w0 g l w) :
  Calls Tryz.prog 51 #[.pointer (some ⟨g,0,none⟩)] w fun e w'=>e=.returned (.int .i64 l.length)∧w'=w:=by
 have:=Tryz.Builder_Len g g _ w h.1;rw[Lib.byteCells_length] at this;exact this
theorem zfq:∀c,Lib.repeatL (⟨#[0]⟩:ByteArray).data.toList c=List.replicate c 0
 | 0=>rfl
 | c+1=>by rw[Lib.repeatL,zfq c];rfl
theorem zxn (c:Nat) (w:World) (hc:c≤140737488355328) :
  Calls Tryz.prog 50 #[.string ⟨#[0]⟩,c] w fun e w'=>e=.returned (.string ⟨(List.replicate c 0).toArray⟩)∧Below w.heap.size w w':=by
 have:=Tryz.strings_Repeat ⟨#[0]⟩ c w (by omega) (by show 1*c≤_;omega);rw[zfq] at this;exact this
theorem zvh (x:Nat):UInt8.ofNat ((x:Int) % 256).toNat=UInt8.ofNat x:=by
 apply UInt8.toNat_inj.1;simp only[UInt8.toNat_ofNat'];omega
theorem z6o (v:Int):(zT2 v).data.toList=z2i false v:=by
 unfold zT2 str4 z2i;rw[if_neg (by decide)];have e1:((wd v:Nat):Int) / 256 % 256=((wd v / 256:Nat):Int) % 256:=by omega
 have e2:((wd v:Nat):Int) / 65536 % 256=((wd v / 65536:Nat):Int) % 256:=by omega
 have e3:((wd v:Nat):Int) / 16777216 % 256=((wd v / 16777216:Nat):Int) % 256:=by omega
 rw[e1,e2,e3,zvh,zvh,zvh,zvh]
theorem zJi (v:Int):(zT2 v).size=4:=rfl
theorem z9C (v:Int) (W:World):(Instr.slice 9 (.string (zT2 v)) none (some (.int .i64 1)) none).run Tryz.prog W=.ok (.string ⟨(z2i true v).toArray⟩) W:=by
 have hx:(zT2 v).extract 0 1=⟨(z2i true v).toArray⟩:=by unfold zT2 str4 z2i;rw[if_pos rfl,zvh];rfl
 have e:=run_slice_string (P:=Tryz.prog) W 9 (zT2 v) .i64 .i64 0 1 Tryz.underlying9 (by decide) (by decide) (by rw[zJi];decide);rw[show (0:Int).toNat=0 from rfl,show (1:Int).toNat=1 from rfl,hx] at e;exact e
end
set_option maxHeartbeats 1000000
section
variable {p:Prop}
theorem uD0 (h:p:=by
 clear c1 c6;have HXD:Jd (wr.drew.heap[X]? = _):=hI HXR.o;generalize wr.drew=wd at *;refine tg 0 26 (.pointer (some ⟨X,6,none⟩)) hS0 ?_;refine tg 1 27 (.int .i64 sz) hS0 ?_;try simp only[Act.put,pA,pB,pC]
 refine wone 2 fun K hK=>?_;go_simp;refine (ze9 w b acc wd HBD.o).mono ?_;rintro e v1 ⟨rfl,hw4⟩;have hw4:=hw4.symm;subst hw4;refine hK.o _ _ (fun _=>hS0) ?_;clear hK;try simp only[Act.put,pA,pB,pC]
 refine wone 3 fun K hK=>?_;go_simp;try rw[hmn]
 refine hK.o _ _ (fun _=>hS0) ?_;clear hK;try simp only[Act.put,pA,pB,pC]
 refine wone 4 fun K hK=>?_;go_simp;refine (zxn c wd (by have:=HC.o;omega)).mono ?_;rintro e v2 ⟨rfl,hb5⟩;have HX5:=hI ((hb5.block X (zh HXD.o)).trans HXD.o);have HB5:=hI (HBD.o.next hb5);refine hK.o _ _ (fun _=>⟨(zz HX5.o 6).1,(zz HX5.o 1).1⟩) ?_;clear hK hb5;try simp only[Act.put,pA,pB,pC]
 refine wone 5 fun K hK=>?_;go_simp;refine (zKJ w b acc ⟨(List.replicate c 0).toArray⟩ v2 HB5.o (by show acc.length+(List.replicate c (0:UInt8)).length≤_;rw[List.length_replicate];exact HCS.o)).mono ?_;rintro e v3 ⟨rfl,hb6,hw6⟩;have HX6:=hI ((hw6.block X HXB.o).trans HX5.o);have HB6:=hI hb6;refine hK.o _ _ (fun _=>⟨(zz HX6.o 6).1,(zz HX6.o 1).1⟩) ?_;clear hK hw6 hb6;try simp only[Act.put,pA,pB,pC]
 refine wD ?_ _;go_wp2_with fail;refine (z30 w b _ v3 HB6.o).mono ?_;rintro e v1 ⟨rfl,hb7⟩;go_wp2_with fail;rw[←HPO.o];exact⟨rfl,hb7⟩):p:=h
theorem uKU (h:p:=by
 clear hb6 hw6 c1;go_wp2_with fail;go_roundw
 case rel=>exact⟨i+1,by omega,by go_num,HB6.o,HX6.o,HG6.o⟩
 case measure=>simp[intOf];omega):p:=h
end
theorem zXF (o:Bool) (l:List Int) (i:Nat) (h:i<l.length):(l.take (i+1)).flatMap (z2i o)=(l.take i).flatMap (z2i o)++z2i o (l.getD i 0):=by
 rw[List.take_succ_eq_append_getElem h,List.flatMap_append,List.getD_eq_getElem?_getD,List.getElem?_eq_getElem h];simp
theorem zmF (o:Bool) (v:Int):(z2i o v).length=if o=true then 1 else 4:=by
 cases o <;> rfl
theorem zpo (o:Bool):∀(l:List Int),(l.flatMap (z2i o)).length=l.length*(if o=true then 1 else 4)
 | []=>by simp
 | v::l=>by rw[List.flatMap_cons,List.length_append,zpo o l,zmF,List.length_cons,Nat.succ_mul,Nat.add_comm]
theorem zGp (fn:ByteArray) (te tl tb:Int) (fo:Bool) (off:Int) (c:Nat) (l:List Int) (ga:Nat) (he:te=2) (hl:l.length≤1048576) (hv:∀v∈l,0≤v∧v<256) (hc:c≤1048576) (w:World) (hg:w.heap[ga]? = some (.cells (zFL l) 5 (0,0))) :
  Calls Tryz.prog 26 #[.agg #[fn,te,tl,tb,fo,off,.int .i64 ((l.flatMap (z2i true)).length+c:Nat)],.iface 119 (.slice (some ⟨ga,0,none⟩) l.length l.length)] w fun e w'=>e=.returned (.string ⟨(l.flatMap (z2i true)++List.replicate c 0).toArray⟩)∧Below w.heap.size w w':=by
 subst he;have HL:=hI hl;have HC:=hI hc;have HV:=hI hv;have HFL:=hI (zpo true l);simp only[if_true] at HFL;generalize hsz:(((l.flatMap (z2i true)).length+c:Nat):Int)=sz;have HSZ:=hI hsz;generalize hPO:(fun (e:Ending) (w':World)=>e=.returned (.string ⟨(l.flatMap (z2i true)++List.replicate c 0).toArray⟩)∧Below w.heap.size w w')=PO;have HPO:=hI hPO;have hbX:=bnew w (.cells #[fn,.int .i64 2,tl,tb,fo,off,sz] 43);have HXX:=hI (heap_alloc_new w (.cells #[fn,.int .i64 2,tl,tb,fo,off,sz] 43));have HGG:=hI ((hbX.block ga (zh hg)).trans hg);have HBL:=hI (BldL.fresh w (w.alloc (.cells #[fn,.int .i64 2,tl,tb,fo,off,sz] 43)) hbX);have HX1:Jd ((w.alloc (.cells #[fn,.int .i64 2,tl,tb,fo,off,sz] 43)).heap.size=w.heap.size+1):=hI (by simp);have HXL:=hI (((bnew (w.alloc (.cells #[fn,.int .i64 2,tl,tb,fo,off,sz] 43)) (Obj.cells #[Value.pointer none,Value.slice none 0 0] 91)).block w.heap.size (by simp)).trans HXX.o);have HGL:=hI (((bnew (w.alloc (.cells #[fn,.int .i64 2,tl,tb,fo,off,sz] 43)) (Obj.cells #[Value.pointer none,Value.slice none 0 0] 91)).block ga (zh HGG.o)).trans HGG.o);have HGA:=hI (Nat.lt_trans (zh hg) (show w.heap.size<(w.alloc (.cells #[fn,.int .i64 2,tl,tb,fo,off,sz] 43)).heap.size by simp));clear hbX hPO hg hl hc HXX HGG hsz hv;go_enter Tryz.func26,Tryz.ntmps26;go_upto_region 2 with (fail);try rw[HX1.o]
 try rw[HX1.o] at HBL HGA
 generalize (w.alloc _).alloc _=v1 at *;obtain⟨X,hXe⟩:∃X,w.heap.size=X:=⟨_,rfl⟩
 rw[hXe] at HXL HBL HGA ⊢;have HXE:=hI hXe;clear hXe HX1;generalize hB:X+1=b at *;have HXB:Jd (X<b):=hI (by omega);clear hB;go_wp2_with fail;refine (zRS ga l.length HL.o v1).mono ?_;rintro e v1 ⟨rfl,hw3⟩;have hw3:=hw3.symm;subst hw3;go_wp2_with fail;go_loopw [10] (fun vi wr=>∃(i:Nat),i≤l.length∧vi=.int .i64 i∧BldL w b ((l.take i).flatMap (z2i true)) wr∧wr.heap[X]? = some (.cells #[fn,.int .i64 2,tl,tb,fo,off,sz] 43 (0,0))∧wr.heap[ga]? = some (.cells (zFL l) 5 (0,0))) (fun vi _=>l.length-(intOf vi).toNat)
 case atStart=>exact⟨0,Nat.zero_le _,rfl,HBL.o,HXL.o,HGL.o⟩
 case round =>
  obtain⟨i,hi,rfl,hbl,hxr,hgr⟩:=hrel;have HBR:=hI hbl;have HXR:=hI hxr;have HGR:=hI hgr;clear hbl hxr hgr;by_cases hlt:i<l.length
  · have k0:(0:Int)≤(i:Int):=by omega
    have k1:(i:Int)<(l.length:Int):=by omega
    have k2:(i:Int)<2000000:=by have:=HL.o;omega
    have HLD:=hI (zy3 ga i l hlt (HV.o _ (by rw[List.getD_eq_getElem?_getD,List.getElem?_eq_getElem hlt];exact List.getElem_mem hlt)) wr HGR.o);have HTK:=hI (zXF true l i hlt);have hln:=zpo true (l.take i);have HSL:Jd (((l.take i).flatMap (z2i true)).length+4≤140737488355328):=hI (by rw[hln];simp only[if_true,List.length_take];have:=HL.o;omega);clear hln;generalize l.getD i 0=v at *;generalize (l.take i).flatMap (z2i true)=acc at *;go_wp2_with fail;refine (HLD.o).mono ?_;rintro e v1 ⟨rfl,hw4⟩;have hw4:=hw4.symm;subst hw4;go_wp2_with fail;refine (zFI v wr).mono ?_;rintro e v2 ⟨rfl,hb5⟩;have HX5:=hI ((hb5.block X (zh HXR.o)).trans HXR.o);have HG5:=hI ((hb5.block ga (zh HGR.o)).trans HGR.o);have HB5:=hI (HBR.o.next hb5);obtain⟨c1,_⟩:=zz HX5.o 1;clear hb5;have hfb:=z9C v;have HWS:=hI (zKJ w b acc ⟨(z2i true v).toArray⟩ v2 HB5.o (by show acc.length+1≤_;have:=HSL.o;omega));generalize zT2 v=wv at *;obtain⟨sv,hsv⟩:∃sv:ByteArray,sv=⟨(z2i true v).toArray⟩:=⟨_,rfl⟩
    rw[←hsv] at hfb HWS;have HSV:=hI hsv;clear hsv;go_wp2_with fail;refine (HWS.o).mono ?_;rintro e v3 ⟨rfl,hb6,hw6⟩;have HX6:=hI ((hw6.block X HXB.o).trans HX5.o);have HG6:=hI ((hw6.block ga HGA.o).trans HG5.o);have HB6:Jd (BldL w b ((l.take (i+1)).flatMap (z2i true)) v3):=hI (by rw[HTK.o];rw[HSV.o] at hb6;exact hb6);exact uKU
  obtain rfl:i=l.length:=by omega
  rw[List.take_length] at HBR;have k9:¬((l.length:Int)<(l.length:Int)):=by omega
  obtain⟨c6,_⟩:=zz HXR.o 6;obtain⟨c1,_⟩:=zz HXR.o 1;have hmn:IntKind.i64.wrap (sz-((l.flatMap (z2i true)).length:Int))=(c:Int):=by rw[zF];have h1:=HSZ.o;have h2:=HC.o;rw[←h1];unfold wrap64;omega
  have HCS:Jd ((l.flatMap (z2i true)).length+c≤140737488355328):=hI (by rw[HFL.o];have:=HL.o;have:=HC.o;omega);generalize l.flatMap (z2i true)=acc at *;go_upto_region 10 with (fail);have hS0:(fun w'=>w'.cell? ⟨X,6,none⟩=some (.int .i64 sz)∧w'.cell? ⟨X,1,none⟩=some (.int .i64 2)) wr.drew:=⟨c6,c1⟩
  have HBD:Jd (BldL w b acc wr.drew):=hI (HBR.o.next (bdr (Below.refl wr.heap.size wr)));refine wL (fun w'=>w'.cell? ⟨X,6,none⟩=some (.int .i64 sz)∧w'.cell? ⟨X,1,none⟩=some (.int .i64 2)) 99 ?_;exact uD0
theorem zNh (fn:ByteArray) (te tl tb:Int) (fo:Bool) (off:Int) (c:Nat) (l:List Int) (ga:Nat) (he:te≠2) (hl:l.length≤1048576) (hc:c≤1048576) (w:World) (hg:w.heap[ga]? = some (.cells (zd6 l) 3 (0,0))) :
  Calls Tryz.prog 26 #[.agg #[fn,te,tl,tb,fo,off,.int .i64 ((l.flatMap (z2i false)).length+c:Nat)],.iface 120 (.slice (some ⟨ga,0,none⟩) l.length l.length)] w fun e w'=>e=.returned (.string ⟨(l.flatMap (z2i false)++List.replicate c 0).toArray⟩)∧Below w.heap.size w w':=by
 have q2:(te==2)=false:=nB he;have HL:=hI hl;have HC:=hI hc;have HFL:=hI (zpo false l);simp only[Bool.false_eq_true,if_false] at HFL;generalize hsz:(((l.flatMap (z2i false)).length+c:Nat):Int)=sz;have HSZ:=hI hsz;generalize hPO:(fun (e:Ending) (w':World)=>e=.returned (.string ⟨(l.flatMap (z2i false)++List.replicate c 0).toArray⟩)∧Below w.heap.size w w')=PO;have HPO:=hI hPO;have hbX:=bnew w (.cells #[fn,te,tl,tb,fo,off,sz] 43);have HXX:=hI (heap_alloc_new w (.cells #[fn,te,tl,tb,fo,off,sz] 43));have HGG:=hI ((hbX.block ga (zh hg)).trans hg);have HBL:=hI (BldL.fresh w (w.alloc (.cells #[fn,te,tl,tb,fo,off,sz] 43)) hbX);have HX1:Jd ((w.alloc (.cells #[fn,te,tl,tb,fo,off,sz] 43)).heap.size=w.heap.size+1):=hI (by simp);have HXL:=hI (((bnew (w.alloc (.cells #[fn,te,tl,tb,fo,off,sz] 43)) (Obj.cells #[Value.pointer none,Value.slice none 0 0] 91)).block w.heap.size (by simp)).trans HXX.o);have HGL:=hI (((bnew (w.alloc (.cells #[fn,te,tl,tb,fo,off,sz] 43)) (Obj.cells #[Value.pointer none,Value.slice none 0 0] 91)).block ga (zh HGG.o)).trans HGG.o);have HGA:=hI (Nat.lt_trans (zh hg) (show w.heap.size<(w.alloc (.cells #[fn,te,tl,tb,fo,off,sz] 43)).heap.size by simp));clear hbX hPO hg hl hc HXX HGG hsz he;go_enter Tryz.func26,Tryz.ntmps26;go_upto_region 2 with (fail);try rw[HX1.o]
 try rw[HX1.o] at HBL HGA
 generalize (w.alloc _).alloc _=v1 at *;obtain⟨X,hXe⟩:∃X,w.heap.size=X:=⟨_,rfl⟩
 rw[hXe] at HXL HBL HGA ⊢;have HXE:=hI hXe;clear hXe HX1;generalize hB:X+1=b at *;have HXB:Jd (X<b):=hI (by omega);clear hB;go_wp2_with fail;refine (z5V ga l.length HL.o v1).mono ?_;rintro e v1 ⟨rfl,hw3⟩;have hw3:=hw3.symm;subst hw3;go_wp2_with fail;go_loopw [10] (fun vi wr=>∃(i:Nat),i≤l.length∧vi=.int .i64 i∧BldL w b ((l.take i).flatMap (z2i false)) wr∧wr.heap[X]? = some (.cells #[fn,te,tl,tb,fo,off,sz] 43 (0,0))∧wr.heap[ga]? = some (.cells (zd6 l) 3 (0,0))) (fun vi _=>l.length-(intOf vi).toNat)
 case atStart=>exact⟨0,Nat.zero_le _,rfl,HBL.o,HXL.o,HGL.o⟩
 case round =>
  obtain⟨i,hi,rfl,hbl,hxr,hgr⟩:=hrel;have HBR:=hI hbl;have HXR:=hI hxr;have HGR:=hI hgr;clear hbl hxr hgr;by_cases hlt:i<l.length
  · have k0:(0:Int)≤(i:Int):=by omega
    have k1:(i:Int)<(l.length:Int):=by omega
    have k2:(i:Int)<2000000:=by have:=HL.o;omega
    have HLD:=hI (zfR ga i l hlt wr HGR.o);have HTK:=hI (zXF false l i hlt);have hln:=zpo false (l.take i);have HSL:Jd (((l.take i).flatMap (z2i false)).length+4≤140737488355328):=hI (by rw[hln];simp only[Bool.false_eq_true,if_false,List.length_take];have:=HL.o;omega);clear hln;generalize l.getD i 0=v at *;generalize (l.take i).flatMap (z2i false)=acc at *;go_wp2_with fail;refine (HLD.o).mono ?_;rintro e v1 ⟨rfl,hw4⟩;have hw4:=hw4.symm;subst hw4;go_wp2_with fail;refine (zFI v wr).mono ?_;rintro e v2 ⟨rfl,hb5⟩;have HX5:=hI ((hb5.block X (zh HXR.o)).trans HXR.o);have HG5:=hI ((hb5.block ga (zh HGR.o)).trans HGR.o);have HB5:=hI (HBR.o.next hb5);obtain⟨c1,_⟩:=zz HX5.o 1;clear hb5;have HWS:=hI (zKJ w b acc (zT2 v) v2 HB5.o (by rw[zJi];exact HSL.o));obtain⟨sv,hsv⟩:∃sv:ByteArray,sv=zT2 v:=⟨_,rfl⟩
    rw[←hsv] at HWS ⊢;have HSV:=hI hsv;clear hsv;go_wp2_with fail;refine (HWS.o).mono ?_;rintro e v3 ⟨rfl,hb6,hw6⟩;have HX6:=hI ((hw6.block X HXB.o).trans HX5.o);have HG6:=hI ((hw6.block ga HGA.o).trans HG5.o);have HB6:Jd (BldL w b ((l.take (i+1)).flatMap (z2i false)) v3):=hI (by rw[HTK.o];rw[HSV.o,z6o] at hb6;exact hb6);exact uKU
  obtain rfl:i=l.length:=by omega
  rw[List.take_length] at HBR;have k9:¬((l.length:Int)<(l.length:Int)):=by omega
  obtain⟨c6,_⟩:=zz HXR.o 6;obtain⟨c1,_⟩:=zz HXR.o 1;have hmn:IntKind.i64.wrap (sz-((l.flatMap (z2i false)).length:Int))=(c:Int):=by rw[zF];have h1:=HSZ.o;have h2:=HC.o;rw[←h1];unfold wrap64;omega
  have HCS:Jd ((l.flatMap (z2i false)).length+c≤140737488355328):=hI (by rw[HFL.o];have:=HL.o;have:=HC.o;omega);generalize l.flatMap (z2i false)=acc at *;go_upto_region 10 with (fail);have hS0:(fun w'=>w'.cell? ⟨X,6,none⟩=some (.int .i64 sz)∧w'.cell? ⟨X,1,none⟩=some (.int .i64 te)) wr.drew:=⟨c6,c1⟩
  have HBD:Jd (BldL w b acc wr.drew):=hI (HBR.o.next (bdr (Below.refl wr.heap.size wr)));refine wL (fun w'=>w'.cell? ⟨X,6,none⟩=some (.int .i64 sz)∧w'.cell? ⟨X,1,none⟩=some (.int .i64 te)) 99 ?_;exact uD0
end Go.Proofs.YtfibdoehmndinaaGreatDoor
