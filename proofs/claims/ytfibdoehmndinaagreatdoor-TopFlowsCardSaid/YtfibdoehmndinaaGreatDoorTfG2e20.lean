/- Parts of a proof, joined. No condition but those that each theorem names. -/
import Derived.Test.YtfibdoehmndinaaGreatDoorTfLxE
namespace Go.Proofs.YtfibdoehmndinaaGreatDoor
open Go.RowKit
set_option maxRecDepth 100000
set_option linter.unusedVariables false
section
variable {i:Nat} {s:ByteArray}
theorem zBk (s:ByteArray) (b:Nat):∀(f i n m:Nat),n≤4294967295→zA3 s b f i n=some m→m≤4294967295
 | 0,i,n,m,h,e=>by cases e;exact h
 | f+1,i,n,m,h,e=>by
  unfold zA3 at e
  split at e
  · cases e
  · split at e
    · cases e
    rename_i h2
    exact zBk s b f _ _ m (by omega) e
theorem zLj {m:Nat} (h:z0J s=some m):m≤4294967295:=by
 unfold z0J at h;split at h
 · split at h
   · cases h
   exact zBk _ _ _ _ _ m (by omega) h
 split at h
 · cases h
 exact zBk _ _ _ _ _ m (by omega) h
theorem zIM {x:ByteArray}:∀l:List ByteArray,zQX s i l=some x→x∈l∧zgp s i x=true
 | [],h=>by cases h
 | y::l,h=>by
  unfold zQX at h
  split at h
  · rename_i hy
    cases h
    exact⟨by simp,hy⟩
  · obtain⟨h1,h2⟩:=zIM l h
    exact⟨by simp[h1],h2⟩
theorem z4G {r:TTk×Nat} (hi:i<s.size) (h:ztA s i=some r):i<r.2∧r.2≤s.size∧r.1.kind≠0∧r.1.text.size≤s.size∧0≤r.1.num∧r.1.num≤4294967295:=by
 unfold ztA at h;have hg:=zcr s s.size i (by omega);split at h
 · rename_i hl;split at h
   · cases h
   cases h;have hgt:=zjY s i hi (by rw[hl];rfl);refine⟨hgt,hg.2,?_,?_,Int.le_refl _,by show (0:Int)≤_;decide⟩
   · show (if _ then (3:Int) else 1)≠0;split <;> decide
   show (s.extract i _).size≤_;rw[zR3 s i _ hg.1 hg.2];omega
 rename_i hl;split at h
 · rename_i hd;cases hn:z0J (s.extract i (zaO s s.size i))
   case none=>rw[hn] at h;cases h
   rename_i n;rw[hn] at h;cases h;have hgt:=zjY s i hi (by rw[hd];simp);have hnl:=zLj hn;exact⟨hgt,hg.2,by show (2:Int)≠0;decide,Nat.zero_le _,by show (0:Int)≤(n:Int);omega,by show (n:Int)≤_;omega⟩
 cases hn:zQX s i zut
 case none=>rw[hn] at h;cases h
 rename_i x;rw[hn] at h;cases h;obtain⟨h1,h2⟩:=zIM _ hn;have h3:=zFT h2 (by omega);obtain⟨k,hk⟩:=List.mem_iff_getElem?.1 h1;have hk2:=(List.getElem?_eq_some_iff.1 hk).1;have h4:=zXx k hk2;rw[List.getD_eq_getElem?_getD,hk] at h4;have h4:0<x.size:=h4;exact⟨by show i<i+x.size;omega,h3,by show (4:Int)≠0;decide,by show x.size≤_;omega,Int.le_refl _,by show (0:Int)≤_;decide⟩
theorem zgM (s:ByteArray):∀(f i:Nat),i≤s.size→i≤zKs s f i∧zKs s f i≤s.size
 | 0,i,h=>⟨Nat.le_refl _,h⟩
 | f+1,i,h=>by
  unfold zKs
  split
  · split
    · have:=zgM s f (i+1) (by omega);omega
    split
    · have h1:=zKF s s.size i
      have h2:=zeQ s s.size i h
      have:=zgM s f (lxLine s s.size i) h2;omega
    exact⟨Nat.le_refl _,h⟩
  · exact⟨Nat.le_refl _,h⟩
theorem zbZ (s:ByteArray):∀(f i:Nat) (l:List TTk),i≤s.size→zZd s f i=some l→1≤l.length∧l.length≤s.size-i+1∧∀k,k<l.length→((zb2 l k).kind≠0→k+1<l.length)∧(zb2 l k).text.size≤s.size∧0≤(zb2 l k).num∧(zb2 l k).num≤4294967295
 | 0,i,l,hi,h=>by cases h
 | f+1,i,l,hi,h=>by
  unfold zZd at h
  have hg:=zgM s s.size i hi
  split at h
  · cases h
    refine⟨by simp,by simp,fun k hk=>?_⟩
    have hk0:k=0:=by simpa using hk
    subst hk0
    exact⟨fun h=>absurd rfl h,Nat.zero_le _,Int.le_refl _,by show (0:Int)≤_;decide⟩
  · rename_i hne
    cases hr:ztA s (zKs s s.size i)
    case none=>rw[hr] at h;cases h
    rename_i r
    rw[hr] at h
    obtain⟨h1,h2,h3,h4,h5,h6⟩:=z4G (by omega) hr
    cases ht:zZd s f r.2
    case none=>simp only[ht] at h;cases h
    rename_i l'
    simp only[ht] at h
    cases h
    obtain⟨k1,k2,k3⟩:=zbZ s f r.2 l' h2 ht
    refine⟨by simp,by rw[List.length_cons];omega,fun k hk=>?_⟩
    cases k
    case zero=>exact⟨fun _=>by rw[List.length_cons];omega,h4,h5,h6⟩
    rename_i k
    obtain⟨q1,q2,q3,q4⟩:=k3 k (by simpa using hk)
    exact⟨fun hq=>by rw[List.length_cons];have:=q1 hq;omega,q2,q3,q4⟩
theorem zkU {l:List TTk} (h:lexS s=some l):TkOk l∧1≤l.length∧s.size≤65536:=by
 unfold lexS at h;split at h
 · cases h
 rename_i hs;obtain⟨h1,h2,h3⟩:=zbZ s _ 0 l (Nat.zero_le _) h;exact⟨⟨by omega,fun k hk=>by obtain⟨q1,q2,q3,q4⟩:=h3 k hk;exact⟨q1,by omega,q3,q4⟩⟩,h1,by omega⟩
end
set_option maxHeartbeats 1000000
section
variable {w:World}
theorem zG {n:String} {k:IntKind} {zs:List Int} {w':World} (h:Lib.TabIs Tryz.prog w n k zs) (hb:Below w.heap.size w w'):Lib.TabIs Tryz.prog w' n k zs:=by
 unfold Lib.TabIs World.var? at h ⊢;cases hg:Tryz.prog.globalNamed n
 case none=>rw[hg] at h;cases h
 rename_i g;rw[hg] at h;simp only[Option.bind_some] at h ⊢;cases hx:w.heap[g]?
 case none=>rw[hx] at h;cases h
 rename_i o;rw[(hb.block g (zh hx)).trans hx];rw[hx] at h;exact h
abbrev SpaceTab (w:World):Prop:=Lib.TabIs Tryz.prog w "strings.asciiSpace" .u8 Lib.asciiSpaceTab
def lxWT:ByteArray:=⟨#[102,110,32,112,117,98,32,115,101,99,32,111,117,116,32,108,101,116,32,118,97,114,32,105,102,32,101,108,115,101,32,102,111,114,32,109,97,120,32,114,101,116,117,114,110,32,117,51,50,32,117,56,32,109,97,115,107,32,109,117,108,104,105,32,99,97,114,114,121,32,115,101,108,101,99,116,32,119,111,114,100,32,114,111,114]⟩
def lxST:ByteArray:=⟨#[60,60,32,62,62,32,61,61,32,33,61,32,60,61,32,62,61,32,40,32,41,32,123,32,125,32,91,32,93,32,44,32,59,32,58,32,61,32,43,32,45,32,42,32,38,32,124,32,94,32,126,32,33,32,60,32,62]⟩
theorem zc0:(Lib.fields lxWT.data.toList).map (fun l=>Value.string ⟨l.toArray⟩)=zC7.map fun x=>Value.string x:=by kernel_rfl
theorem zyG:(Lib.fields lxST.data.toList).map (fun l=>Value.string ⟨l.toArray⟩)=zut.map fun x=>Value.string x:=by kernel_rfl
theorem zCz:(Lib.fields lxWT.data.toList).length=19:=by kernel_rfl
theorem zAm:(Lib.fields lxST.data.toList).length=26:=by kernel_rfl
theorem zh1 (l:List UInt8) (h:(l.all fun b=>decide (b.toNat<128))=true):∀(j:Nat) b,l[j]? = some b→b.toNat<128:=fun j b hj=>of_decide_eq_true (List.all_eq_true.1 h b (List.mem_of_getElem? hj))
theorem zP0 (w:World) (h:SpaceTab w):Calls Tryz.prog 52 #[lxWT] w fun e w'=>e=.returned (.slice (some ⟨w.heap.size,0,none⟩) 19 19)∧w'=w.alloc (.cells (zC7.map fun x=>Value.string x).toArray 9):=by
 have h1:=Tryz.strings_Fields lxWT w (by decide) (zh1 _ (by kernel_rfl)) h;rw[zCz,zc0] at h1;exact h1
theorem z9q (w:World) (h:SpaceTab w):Calls Tryz.prog 52 #[lxST] w fun e w'=>e=.returned (.slice (some ⟨w.heap.size,0,none⟩) 26 26)∧w'=w.alloc (.cells (zut.map fun x=>Value.string x).toArray 9):=by
 have h1:=Tryz.strings_Fields lxST w (by decide) (zh1 _ (by kernel_rfl)) h;rw[zAm,zyG] at h1;exact h1
theorem zGw (w:World) (h:SpaceTab w):Calls Tryz.prog 30 #[] w fun e w'=>e=.returned (.slice (some ⟨w.heap.size,0,none⟩) 26 26)∧w'=w.alloc (.cells (zut.map fun x=>Value.string x).toArray 9):=by
 have HC:=hI (z9q w h);generalize hPO:(fun (e:Ending) (w':World)=>e=.returned (.slice (some ⟨w.heap.size,0,none⟩) 26 26)∧w'=w.alloc (.cells (zut.map fun x=>Value.string x).toArray 9))=PO at HC ⊢;clear h;go_enter Tryz.func30,Tryz.ntmps30;go_wp2_with fail;refine (HC.o).mono ?_;intro e w2 hp;have HP:=hI hp;rw[←hPO] at hp;obtain⟨rfl,rfl⟩:=hp;go_wp2_with fail;exact HP.o
theorem z05 (k:Nat) (x:ByteArray) (h:k<zC7.length):((zC7.take (k+1)).any fun y=>decide (y=x))=((zC7.take k).any (fun y=>decide (y=x)) || decide (zC7.getD k ⟨#[]⟩=x)):=by
 rw[List.take_succ_eq_append_getElem h,List.any_append,List.getD_eq_getElem?_getD,List.getElem?_eq_getElem h];simp
theorem zcl (k:Nat) (h:k<19):(zC7.getD k ⟨#[]⟩).size≤maxLen:=by
 have:∀k:Fin 19,(zC7.getD k.1 ⟨#[]⟩).size≤10:=by decide
 have h2:=this ⟨k,h⟩;unfold maxLen;show (zC7.getD k ⟨#[]⟩).size≤_;have h3:(zC7.getD k ⟨#[]⟩).size≤10:=h2;omega
theorem zyQ (W:World) (h:SpaceTab W):Calls Tryz.prog 29 #[] W fun e w'=>∃(b:Nat) (f:ByteArray→Option Value),e=.returned (.map (some b))∧MapV w' b 19 f∧(∀k,(f k).isSome=zC7.any fun x=>decide (x=k))∧W.heap.size≤b∧Below W.heap.size W w':=by
 have HM:=hI (z3s W);have HB:=hI (bnew W (.map #[] 0));have HC:=hI (zP0 (W.alloc (.map #[] 0)) (zG h (bnew W _)));generalize hPO:(fun (e:Ending) (w':World)=>∃(b:Nat) (f:ByteArray→Option Value),e=.returned (.map (some b))∧MapV w' b 19 f∧(∀k,(f k).isSome=zC7.any fun x=>decide (x=k))∧W.heap.size≤b∧Below W.heap.size W w')=PO;have HPO:=hI hPO;clear hPO h;have hmm:=@run_makeMap Tryz.prog;go_enter Tryz.func29,Tryz.ntmps29;go_upto_region 2 with (fail);generalize W.alloc _=v at *;obtain⟨b,hb⟩:∃b,W.heap.size=b:=⟨_,rfl⟩
 rw[hb] at HM ⊢;have HBE:=hI hb;clear hb hmm;go_wp2_with fail;refine (HC.o).mono ?_;rintro e v1 ⟨rfl,rfl⟩;have HS2:=hI (heap_alloc_new v (.cells (zC7.map fun x=>Value.string x).toArray 9));have HM2:=hI (HM.o.below (bnew v (.cells (zC7.map fun x=>Value.string x).toArray 9)));have HB2:=hI (bal HB.o (.cells (zC7.map fun x=>Value.string x).toArray 9));have hgb:=HM.o.lt;generalize v.alloc _=v1 at *;obtain⟨g,hg⟩:∃g,v.heap.size=g:=⟨_,rfl⟩
 rw[hg] at HS2 hgb ⊢;have HGB:=hI hgb;clear hg hgb;go_wp2_with fail;go_loopw [2,3,7] (fun _ _ vi wr=>∃(k:Nat) (f:ByteArray→Option Value),vi=.int .i64 (k:Int)∧k≤19∧MapV wr b k f∧(∀x,(f x).isSome=(zC7.take k).any fun y=>decide (y=x))∧wr.heap[g]? = some (.cells (zC7.map fun x=>Value.string x).toArray 9 (0,0))∧Below W.heap.size W wr) (fun _ _ vi _=>19-(intOf vi).toNat)
 case atStart=>exact⟨0,_,rfl,Nat.zero_le _,HM2.o,fun x=>rfl,HS2.o,HB2.o⟩
 case round =>
  obtain⟨k,f,rfl,hk,hm,hf,hs,hbl⟩:=hrel;have HMR:=hI hm;have HFR:=hI hf;have HSR:=hI hs;have HBR:=hI hbl;clear hm hf hs hbl;by_cases hlt:k<19
  · have k0:(0:Int)≤(k:Int):=by omega
    have k1:(k:Int)<19:=by omega
    obtain⟨x,hx⟩:∃x,zC7.getD k ⟨#[]⟩=x:=⟨_,rfl⟩
    have hxs:x.size≤maxLen:=by rw[←hx];exact zcl k hlt
    obtain⟨g0,gf0⟩:=zz HSR.o k;have gx:wr.cell? ⟨g,k,none⟩=some (.string x):=by rw[g0,List.getElem?_toArray,List.getElem?_map,List.getElem?_eq_getElem (show k<zC7.length from hlt),←hx,List.getD_eq_getElem?_getD,List.getElem?_eq_getElem (show k<zC7.length from hlt)];rfl
    obtain⟨v,hput,hm5,hg5⟩:=HMR.o.store (T := 100) (E := 3) Tryz.underlying100 (by unfold maxLen;omega) x (.int .i64 ((k:Int)+1)) hxs;have hf5:∀y,((if y=x then some (Value.int .i64 ((k:Int)+1)) else f y:Option Value)).isSome=(zC7.take (k+1)).any fun z=>decide (z=y):=fun y=>by rw[z05 k y hlt,←HFR.o y,hx];by_cases hy:y=x;· rw[if_pos hy,decide_eq_true hy.symm];simp;;· rw[if_neg hy,decide_eq_false (fun e=>hy e.symm)];simp
    have HM5:=hI hm5;have HF5:=hI hf5;have HS5:=hI ((hg5.block g (zh HSR.o) (fun e=>by injection e with e;have:=HGB.o;omega)).trans HSR.o);have HB5:=hI (HBR.o.grown hg5 HBR.o.size (fun r e=>by injection e with e;have:=HBE.o;omega));have HLT:=hI hlt;clear hxs g0 gf0 hm5 hg5 hf5 hx hlt hk;go_wp2_with fail;go_roundw
    case rel=>exact⟨k+1,_,by go_num,HLT.o,HM5.o,HF5.o,HS5.o,HB5.o⟩
    case measure=>simp[intOf];have:=HLT.o;omega
  obtain rfl:k=19:=by omega
  go_wp2_with fail;rw[←HPO.o];exact⟨b,f,rfl,HMR.o,HFR.o,Nat.le_of_eq HBE.o,HBR.o⟩
def zrO (W:World) (R:Option (List TTk)) (e:Ending) (w':World):Prop:=Below W.heap.size W w'∧match R with
 | some l=>∃A c,e=.returned (.tuple #[.slice A l.length c,.agg #[.int .i64 0,.int .i64 0]])∧zj z6f w' w'.heap.size (.slice A l.length c) l∧∀b off,A=some ⟨b,off,none⟩→W.heap.size≤b
 | none=>∃v E P,e=.returned (.tuple #[v,.agg #[.int .i64 E,.int .i64 P]])∧E≠0
theorem zY8 {B:Nat} {v:Value} {l:List TTk} (h:w.ownsRow B 56 4 v l.length (l.flatMap zL)):zj z6f w w.heap.size v l :=
 zvI (E:=z6f) l (l.map zL) (fun i x hi=>⟨zL x,by rw[List.getElem?_map,hi];rfl,rfl⟩) (fun es he=>by obtain⟨x,_,rfl⟩:=List.mem_map.1 he;rfl) (Nat.le_refl _) (by rw[←List.flatMap_def];exact h)
theorem zXa (s:ByteArray) (W:World) (h:SpaceTab W):Calls Tryz.prog 10 #[s] W (zrO W (lexS s)):=by
 have HX:=hI (heap_alloc_new W (.cells #[.int .i64 0,.int .i64 0] 27));have HB:=hI (bnew W (.cells #[.int .i64 0,.int .i64 0] 27));have HT:=hI (zG h (bnew W (.cells #[.int .i64 0,.int .i64 0] 27)));obtain⟨R,hR⟩:∃R,lexS s=R:=⟨_,rfl⟩
 rw[hR];have HR:=hI hR;generalize hPO:zrO W R=PO;have HPO:=hI hPO;clear hR hPO h;by_cases hbig:65536<s.size
 · have kb:(65536:Int)<(s.size:Int):=by omega
   unfold lexS at HR;rw[if_pos hbig] at HR;clear hbig;go_enter Tryz.func10,Tryz.ntmps10;go_upto_region 1 with (fail);generalize W.alloc _=v1 at *;obtain⟨X,hX⟩:∃X,W.heap.size=X:=⟨_,rfl⟩
   rw[hX] at HX ⊢;have HXE:=hI hX;clear hX;have x_:=cb2 HX.o;go_wp2_with fail;clear x_;have HXw:=HX;have HBw:=HB;change bodyPost _ _ _ _ _ (setL v1 X 0 [.int .i64 5,.int .i64 0]);have HXs:=hI (zdc [.int .i64 5,.int .i64 0] HXw.o rfl);have HBs:=hI (HBw.o.grown (zC X [.int .i64 5,.int .i64 0] v1 0) HBw.o.size (fun r e=>by injection e with e;have:=HXE.o;omega));clear HXw HBw;generalize setL v1 X 0 _=wZ at *;have m_:=cb2 HXs.o;refine bodyPost_ret (v:=.tuple #[.slice none 0 0,.agg #[.int .i64 5,.int .i64 0]]) (by simp[results,Tryz.results10,go_sem,m_];try rfl) rfl ?_;clear m_;rw[←HPO.o,←HR.o];exact⟨HBs.o,_,5,0,rfl,by decide⟩
 have kb:¬(65536:Int)<(s.size:Int):=by omega
 unfold lexS at HR;rw[if_neg hbig] at HR;have HS:Jd (s.size≤65536):=hI (by omega);clear hbig;go_enter Tryz.func10,Tryz.ntmps10;go_upto_region 1 with (fail);generalize W.alloc _=v1 at *;obtain⟨X,hX⟩:∃X,W.heap.size=X:=⟨_,rfl⟩
 rw[hX] at HX ⊢;have HXE:=hI hX;clear hX;go_wp2_with fail;refine (zyQ v1 HT.o).mono ?_;rintro e v1 ⟨mb,f,rfl,hm,hf,hmb,hb⟩;have HT2:=hI (zG HT.o hb);have HX2:=hI ((hb.block X (zh HX.o)).trans HX.o);have HB2:=hI (HB.o.trans (hb.mono HB.o.size));have HM2:=hI hm;have HF2:=hI hf;have HMX:Jd (X<mb):=hI (by have:=zh HX.o;omega);clear hm hf hmb hb HX HB HT;go_wp2_with fail;refine (zGw v1 HT2.o).mono ?_;rintro e v2 ⟨rfl,rfl⟩;have HX3:=hI (((bnew v1 (.cells (zut.map fun x=>Value.string x).toArray 9)).block X (zh HX2.o)).trans HX2.o);have HB3:=hI (bal HB2.o (.cells (zut.map fun x=>Value.string x).toArray 9));have HM3:=hI (HM2.o.below (bnew v1 (.cells (zut.map fun x=>Value.string x).toArray 9)));have HG3:=hI (heap_alloc_new v1 (.cells (zut.map fun x=>Value.string x).toArray 9));have HMG:=hI HM2.o.lt;generalize v1.alloc _=v2 at *;obtain⟨gb,hgb⟩:∃g,v1.heap.size=g:=⟨_,rfl⟩
 rw[hgb] at HG3 HMG ⊢;clear hgb HM2 HX2 HB2;have HL:Jd (LxAt (v2.alloc (.cells #[s,.int .i64 0,.map (some mb),.slice (some ⟨gb,0,none⟩) 26 26,.slice none 0 0] 105)) v2.heap.size mb gb s 0 (.slice none 0 0)):=hI ⟨heap_alloc_new v2 _,((bnew v2 _).block gb (zh HG3.o)).trans HG3.o,⟨f,HM3.o.below (bnew v2 _),HF2.o⟩,Nat.zero_le _,HS.o,HM3.o.lt,zh HG3.o⟩;have HX4:=hI (((bnew v2 (.cells #[s,.int .i64 0,.map (some mb),.slice (some ⟨gb,0,none⟩) 26 26,.slice none 0 0] 105)).block X (zh HX3.o)).trans HX3.o);have HB4:=hI (bal HB3.o (.cells #[s,.int .i64 0,.map (some mb),.slice (some ⟨gb,0,none⟩) 26 26,.slice none 0 0] 105));have HXQ:=hI (zh HX3.o);have HRW:Jd ((v2.alloc (.cells #[s,.int .i64 0,.map (some mb),.slice (some ⟨gb,0,none⟩) 26 26,.slice none 0 0] 105)).ownsRow (v2.heap.size+1) 56 4 (.slice none 0 0) 0 []):=hI (World.ownsRow_nil _ _ _ _);clear HM3 HG3 HF2 HMG HMX HX3 HB3;go_wp2_with fail;generalize v2.alloc _=v1 at *;generalize v2.heap.size=q at HL HRW HXQ ⊢;go_loopw [14] (fun _ wr=>∃(n f:Nat) (toks:List TTk) (v:Value),LxAt wr q mb gb s n v∧wr.ownsRow (q+1) 56 4 v toks.length (toks.flatMap zL)∧Below W.heap.size W wr∧wr.heap[X]? = some (.cells #[.int .i64 0,.int .i64 0] 27 (0,0))∧Jd ((zZd s f n).map (fun l=>toks++l)=R)∧s.size-n+1≤f∧toks.length≤n) (fun _ wr=>s.size-zyK q wr)
 case atStart=>exact⟨0,s.size+1,[],_,HL.o,HRW.o,HB4.o,HX4.o,hI (by rw[←HR.o];simp),by omega,Nat.le_refl _⟩
 case round =>
  clear HL HRW HB4 HX4 HR;obtain⟨n,f2,toks,v,hl,hrow,hb,hx,HR,hf,hn⟩:=hrel;have HLr:=hI hl;have HRW:=hI hrow;have HBr:=hI hb;have HXr:=hI hx;have HFN:=hI (And.intro hf hn);clear hl hrow hb hx hf hn;obtain⟨f,rfl⟩:∃f3,f2=f3+1:=⟨f2-1,by have:=HFN.o.1;omega⟩
  unfold zZd at HR;have HG:=hI (zgM s s.size n HLr.o.pos);have HC:=hI (z2O HLr.o);obtain⟨m,hm⟩:∃m,zKs s s.size n=m:=⟨_,rfl⟩
  rw[hm] at HC HG;rw[hm] at HR;clear hm;go_wp2_with fail;refine (HC.o).mono ?_;rintro e v1 ⟨rfl,hl,hk⟩;have HL:=hI hl;have HRW5:=hI (z4c HRW.o (kpg hk) (fun g hg e=>by injection e with e;have:=(HRW.o.lt g hg).1;omega));have HB5:=hI (HBr.o.grown (kpg hk) HBr.o.size (fun r e=>by injection e with e;have:=HXE.o;have:=HXQ.o;omega));have HX5:=hI (hk.blk X _ (fun e=>by have e2:X=q:=e;have:=HXQ.o;omega) HXr.o);have HP0:=HLr;clear hl hk HRW HBr HXr HC;have hlen:(s.size:Int)<1000000:=by have:=HS.o;omega
  by_cases heq:m=s.size
  · subst heq;rw[if_pos rfl] at HR;obtain⟨vA,vc,hv⟩:=zfk HRW5.o;subst hv;obtain⟨v',v2,hrun,hown,hg,hob⟩:=zXS 46 56 (.agg #[.int .i64 0,.int .i64 0,.int .i64 0,.string ⟨#[]⟩]) 4 40 Tryz.underlying46 (by kernel_rfl) (by rfl) (by decide) (by decide) v1 (q+1) (.slice vA toks.length vc) toks.length (toks.flatMap zL) HRW5.o [.int .i64 0,s.size,.int .i64 0,.string ⟨#[]⟩] rfl (by intro u hu;simp at hu;rcases hu with rfl | rfl | rfl | rfl <;> rfl) (by have:=HFN.o;have:=HG.o;have:=HS.o;omega) HL.o.lt;obtain⟨A4,c4,hv4⟩:=zfk hown;subst hv4;have hb1:=bnew v1 (.cells ([.int .i64 0,s.size,.int .i64 0,.string ⟨#[]⟩]:List Value).toArray 56);have hq2:∀g,(Value.slice vA toks.length vc).ownBlock=some g→q<g:=fun g hg=>(HRW5.o.lt g hg).1;have HXw:=hI ((hg.block X (zh ((hb1.block X (zh HX5.o)).trans HX5.o)) (fun e=>by have:=hq2 X e.symm;have:=HXQ.o;omega)).trans ((hb1.block X (zh HX5.o)).trans HX5.o));have HBw:Jd (Below W.heap.size W v2):=hI ((bal HB5.o _).grown hg (bal HB5.o _).size (fun r e=>by have:=hq2 r e;have:=HXE.o;have:=HXQ.o;omega));have HOW:=hI hown;have HRUN:=hI hrun;clear hrun hown hg hob hb1 hq2;obtain⟨l1,lf1⟩:=zz HL.o.blk 1;obtain⟨l4,lf4⟩:=zz HL.o.blk 4;have x_:=cb2 HXw.o;go_wp2_with (at_builtin;refine zEF rfl (.tmp 26) (.tmp 30) 46 rfl HRUN.o rfl rfl ?_);clear l1 lf1 l4 lf4 x_;have hown2:=HOW.o;have hl2:toks.length+1=(toks++[(⟨0,(s.size:Int),0,⟨#[]⟩⟩:TTk)]).length:=by simp
    change bodyPost _ _ _ _ _ (setL v2 X 0 [.int .i64 0,.int .i64 0]);have HXs:=hI (zdc [.int .i64 0,.int .i64 0] HXw.o rfl);have HBs:=hI (HBw.o.grown (zC X [.int .i64 0,.int .i64 0] v2 0) HBw.o.size (fun r e=>by injection e with e;have:=HXE.o;omega));clear HXw HBw;have HOZ:Jd ((setL v2 X 0 [.int .i64 0,.int .i64 0]).ownsRow (q+1) 56 4 (.slice A4 (toks.length+1) c4) (toks++[(⟨0,(s.size:Int),0,⟨#[]⟩⟩:TTk)]).length ((toks++[(⟨0,(s.size:Int),0,⟨#[]⟩⟩:TTk)]).flatMap zL)):=hI (by rw[←hl2,List.flatMap_append,List.flatMap_singleton];exact z7G (z7G HOW.o ⟨X,0,none⟩ _ (by have:=HXQ.o;show X<q+1;omega)) ⟨X,1,none⟩ _ (by have:=HXQ.o;show X<q+1;omega));generalize setL v2 X 0 _=wZ at *;have m_:=cb2 HXs.o;refine bodyPost_ret (v:=.tuple #[.slice A4 (toks.length+1) c4,.agg #[.int .i64 0,.int .i64 0]]) (by simp[results,Tryz.results10,go_sem,m_];try rfl) rfl ?_;clear m_;rw[←HPO.o,←HR.o];refine⟨HBs.o,A4,c4,by rw[←hl2],?_,fun b off hA=>by have h8:=(HOZ.o.lt b (by rw[hA];rfl)).1;have:=HXE.o;have:=HXQ.o;omega⟩;rw[←hl2];have h9:wZ.ownsRow (q+1) 56 4 (.slice A4 (toks.length+1) c4) (toks++[(⟨0,(s.size:Int),0,⟨#[]⟩⟩:TTk)]).length ((toks++[(⟨0,(s.size:Int),0,⟨#[]⟩⟩:TTk)]).flatMap zL):=HOZ.o;exact zY8 h9
  have qe:((m:Int)==(s.size:Int))=false:=by rw[beq_eq_false_iff_ne];omega
  rw[if_neg heq] at HR;have HMS:Jd (m<s.size):=hI (by have:=HG.o;omega);have HTC:=hI (zYc HL.o HRW5.o HMS.o (by have:=HFN.o;have:=HG.o;have:=HS.o;omega));clear heq;obtain⟨orr,hor⟩:∃r,ztA s m=r:=⟨_,rfl⟩
  have hrt:=HR.o;rw[hor] at hrt HTC;have HOR:=hI hor;replace HR:=hI hrt;clear hrt hor;obtain⟨l1,lf1⟩:=zz HL.o.blk 1;go_upto_region 7 with (fail);clear l1 lf1 qe;go_wp2_with fail;refine (HTC.o).mono ?_;intro e v2 hpost;cases orr
  case some r =>
   obtain⟨rfl,v',hl,how,hb⟩:=hpost;have hadv:=z4G HMS.o HOR.o;have HLn:=hI hl;have HOn:=hI how;have HXn:=hI ((hb.block X HXQ.o).trans HX5.o);have HBn:=hI (HB5.o.trans (hb.mono (by have:=HXE.o;have:=HXQ.o;omega)));have HAD:=hI hadv;clear hl how hb hadv;go_wp2_with fail;go_roundw
   case rel=>exact⟨r.2,f,toks++[r.1],v',HLn.o,HOn.o,HBn.o,HXn.o,hI (by rw[←HR.o];simp only[Option.map_map];congr 1;funext l;simp),by have:=HFN.o;have:=HAD.o;have:=HG.o;omega,by rw[List.length_append,List.length_singleton];have:=HFN.o;have:=HAD.o;have:=HG.o;omega⟩
   case measure=>rw[HP0.o.posN,HLn.o.posN];have:=HAD.o;have:=HG.o;omega
  obtain⟨rfl,hl,hb⟩:=hpost;have HLn:=hI hl;have HXw:=hI ((hb.block X HXQ.o).trans HX5.o);have HBw:=hI (HB5.o.trans (hb.mono (by have:=HXE.o;have:=HXQ.o;omega)));clear hl hb;go_upto_region 8 with (fail);refine wL (fun w'=>w'.heap[q]? = some (.cells #[s,m,.map (some mb),.slice (some ⟨gb,0,none⟩) 26 26,v] 105 (0,0))) 6 ?_;replace HLn:=hI HLn.o.drew;replace HBw:=hI (bdr HBw.o);have HXd:Jd (v2.drew.heap[X]? = _):=hI HXw.o;replace HXw:=HXd;clear HXd;generalize v2.drew=v1 at *;refine tg 0 36 (.pointer (some ⟨q,0,none⟩)) HLn.o.blk ?_;refine tg 1 37 (.pointer (some ⟨q,0,none⟩)) HLn.o.blk ?_;refine tg 2 38 (.pointer (some ⟨q,1,none⟩)) HLn.o.blk ?_;refine tk 3 39 (.int .i64 (m:Int)) ?_ HLn.o.blk ?_
  · intro wz hSz;obtain⟨c1,cf1⟩:=zz hSz 1;go_simp
  refine tg 4 40 (.agg #[.int .i64 9,m]) HLn.o.blk ?_;try simp only[Act.put,pA,pB,pC]
  refine wone 5 fun K hK=>?_;go_simp;refine hK.o _ _ (fun _=>HLn.o.blk) ?_;clear hK;try simp only[Act.put,pA,pB,pC]
  have x_:=cb2 HXw.o;refine wone 6 fun K hK=>?_;go_simp;refine hK.o _ _ (fun h=>absurd rfl h) ?_;clear hK;try simp only[Act.put,pA,pB,pC]
  refine wD ?_ _;clear x_;go_wp2_with fail;change bodyPost _ _ _ _ _ (setL v1 X 0 [.int .i64 9,m]);have HXs:=hI (zdc [.int .i64 9,m] HXw.o rfl);have HBs:=hI (HBw.o.grown (zC X [.int .i64 9,m] v1 0) HBw.o.size (fun r e=>by injection e with e;have:=HXE.o;omega));clear HXw HBw;generalize setL v1 X 0 _=wZ at *;have m_:=cb2 HXs.o;refine bodyPost_ret (v:=.tuple #[.slice none 0 0,.agg #[.int .i64 9,m]]) (by simp[results,Tryz.results10,go_sem,m_];try rfl) rfl ?_;clear m_;rw[←HPO.o,←HR.o];exact⟨HBs.o,_,9,_,rfl,by decide⟩
end
end Go.Proofs.YtfibdoehmndinaaGreatDoor
