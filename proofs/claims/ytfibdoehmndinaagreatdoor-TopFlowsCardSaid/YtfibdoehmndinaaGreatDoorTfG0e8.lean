/- Parts of a proof, joined. No condition but those that each theorem names. -/
import Derived.WalkSmall
import Derived.Test.YtfibdoehmndinaaGreatDoorTfG0e6
import Derived.Test.YtfibdoehmndinaaGreatDoorTfG0e7
namespace Go.Proofs.YtfibdoehmndinaaGreatDoor
open Go.RowKit
set_option maxRecDepth 100000
set_option linter.unusedVariables false
section
variable {i:Nat} {l:List Int}
section
variable {p:Prop}
theorem uRo (h:p:=by
 go_enter Tryz.func22,Tryz.ntmps22;go_wp2_with fail;go_ret;exact⟨_,rfl,Nat.le_succ _,HX.o,bal (bnew w _) _⟩):p:=h
theorem uPz (h:p:=by
 rw[List.getElem?_toArray,List.getElem?_map,List.getElem?_eq_getElem h,List.getD_eq_getElem?_getD,List.getElem?_eq_getElem h];rfl):p:=h
end
def zd6 (l:List Int):Array Value:=(l.map (fun v=>Value.int .i64 v)).toArray
def zFL (l:List Int):Array Value:=(l.map (fun v=>Value.int .u8 v)).toArray
theorem zAg (h:i<l.length):(zd6 l)[i]? = some (.int .i64 (l.getD i 0)):=by
 unfold zd6;exact uPz
theorem z3o (h:i<l.length):(zFL l)[i]? = some (.int .u8 (l.getD i 0)):=by
 unfold zFL;exact uPz
theorem zyD (l:List Int) (i:Nat) (v:Int):(zd6 l).setIfInBounds i (.int .i64 v)=zd6 (l.set i v):=by
 unfold zd6;rw[List.setIfInBounds_toArray,List.map_set]
theorem z0A (l:List Int) (i:Nat) (v:Int):(zFL l).setIfInBounds i (.int .u8 v)=zFL (l.set i v):=by
 unfold zFL;rw[List.setIfInBounds_toArray,List.map_set]
set_option maxHeartbeats 400000
theorem z5V (g n:Nat) (hn:n≤1048576) (w:World):Calls Tryz.prog 205 #[.slice (some ⟨g,0,none⟩) n n] w fun e w'=>e=.returned (.int .i64 n)∧w'=w:=by
 go_enter Tryz.func205,Tryz.ntmps205;go_wp2_with fail;go_ret;exact⟨rfl,rfl⟩
theorem zRS (g n:Nat) (hn:n≤1048576) (w:World):Calls Tryz.prog 202 #[.slice (some ⟨g,0,none⟩) n n] w fun e w'=>e=.returned (.int .i64 n)∧w'=w:=by
 go_enter Tryz.func202,Tryz.ntmps202;go_wp2_with fail;go_ret;exact⟨rfl,rfl⟩
theorem zfR (g i:Nat) (l:List Int) (hi:i<l.length) (w:World) (hg:w.heap[g]? = some (.cells (zd6 l) 3 (0,0))):Calls Tryz.prog 204 #[.slice (some ⟨g,0,none⟩) l.length l.length,i] w fun e w'=>e=.returned (.int .i64 (l.getD i 0))∧w'=w:=by
 obtain⟨z0,z1⟩:=zz hg i;rw[zAg hi] at z0;generalize l.getD i 0=v at *;have k0:(0:Int)≤(i:Int):=by omega
 have k1:(i:Int)<(l.length:Int):=by omega
 clear hg;go_enter Tryz.func204,Tryz.ntmps204;go_wp2_with fail;go_ret;exact⟨rfl,rfl⟩
theorem zy3 (g i:Nat) (l:List Int) (hi:i<l.length) (hv:0≤l.getD i 0∧l.getD i 0<256) (w:World) (hg:w.heap[g]? = some (.cells (zFL l) 5 (0,0))):Calls Tryz.prog 201 #[.slice (some ⟨g,0,none⟩) l.length l.length,i] w fun e w'=>e=.returned (.int .i64 (l.getD i 0))∧w'=w:=by
 obtain⟨z0,z1⟩:=zz hg i;rw[z3o hi] at z0;generalize l.getD i 0=v at *;obtain⟨v0,v1⟩:=hv;have k0:(0:Int)≤(i:Int):=by omega
 have k1:(i:Int)<(l.length:Int):=by omega
 clear hg;go_enter Tryz.func201,Tryz.ntmps201;go_wp2_with fail;go_ret;exact⟨rfl,rfl⟩
theorem zRd (g i:Nat) (l:List Int) (hi:i<l.length) (v:Int) (w:World) (hg:w.heap[g]? = some (.cells (zd6 l) 3 (0,0))):Calls Tryz.prog 206 #[.slice (some ⟨g,0,none⟩) l.length l.length,i,v] w fun e w'=>(∃u,e=.returned u)∧w'=w.setCell ⟨g,i,none⟩ (.int .i64 (v % 4294967296)):=by
 obtain⟨z0,z1⟩:=zz hg i;rw[zAg hi] at z0;have k0:(0:Int)≤(i:Int):=by omega
 have k1:(i:Int)<(l.length:Int):=by omega
 clear hg;go_enter Tryz.func206,Tryz.ntmps206;go_wp2_with fail;refine (zyN v w).mono ?_;rintro e w' ⟨rfl,rfl⟩;rw[zLr];go_wp2_with fail;go_end0;exact⟨⟨_,rfl⟩,rfl⟩
theorem zgg (g i:Nat) (l:List Int) (hi:i<l.length) (v:Int) (w:World) (hg:w.heap[g]? = some (.cells (zFL l) 5 (0,0))):Calls Tryz.prog 203 #[.slice (some ⟨g,0,none⟩) l.length l.length,i,v] w fun e w'=>(∃u,e=.returned u)∧w'=w.setCell ⟨g,i,none⟩ (.int .u8 (v % 256)):=by
 obtain⟨z0,z1⟩:=zz hg i;rw[z3o hi] at z0;have k0:(0:Int)≤(i:Int):=by omega
 have k1:(i:Int)<(l.length:Int):=by omega
 clear hg;go_enter Tryz.func203,Tryz.ntmps203;go_wp2_with fail;go_end0;exact⟨⟨_,rfl⟩,rfl⟩
theorem zpC:(Tryz.prog.info? 5).map (fun i=>(i.zero,i.size,i.bytes))=some (some (.int .u8 0),1,1):=by kernel_rfl
theorem z79:(Tryz.prog.info? 3).map (fun i=>(i.zero,i.size,i.bytes))=some (some (.int .i64 0),1,8):=by kernel_rfl
theorem zBH (n:Nat):madeCells (Value.int .i64 0).cells (n*1)=zd6 (List.replicate n 0):=by
 unfold madeCells zd6;apply Array.ext_getElem?;intro j;by_cases hj:j<n
 · simp[hj,Value.cells,Nat.mod_one]
 simp[hj]
theorem zlg (n:Nat):madeCells (Value.int .u8 0).cells (n*1)=zFL (List.replicate n 0):=by
 unfold madeCells zFL;apply Array.ext_getElem?;intro j;by_cases hj:j<n
 · simp[hj,Value.cells,Nat.mod_one]
 simp[hj]
theorem znU (n:Nat) (hn:n≤2000000) (W:World):(Instr.makeSlice 120 (.int .i64 (n:Int)) (.int .i64 (n:Int))).run Tryz.prog W=.ok (.slice (some ⟨W.heap.size,0,none⟩) n n) (W.alloc (.cells (zd6 (List.replicate n 0)) 3)):=by
 obtain⟨i0,hi,hz0,hz1,hz2⟩:=zQk z79;have h:=run_make (P:=Tryz.prog) W 120 3 i0 (.int .i64 0) Tryz.underlying120 hi hz0 .i64 .i64 (n:Int) (n:Int) (by omega) (by omega) (by rw[hz2];omega) (by omega);rw[hz1] at h;simp only[Int.toNat_natCast] at h;rw[zBH] at h;exact h
theorem zje (n:Nat) (hn:n≤2000000) (W:World):(Instr.makeSlice 119 (.int .i64 (n:Int)) (.int .i64 (n:Int))).run Tryz.prog W=.ok (.slice (some ⟨W.heap.size,0,none⟩) n n) (W.alloc (.cells (zFL (List.replicate n 0)) 5)):=by
 obtain⟨i0,hi,hz0,hz1,hz2⟩:=zQk zpC;have h:=run_make (P:=Tryz.prog) W 119 5 i0 (.int .u8 0) Tryz.underlying119 hi hz0 .i64 .i64 (n:Int) (n:Int) (by omega) (by omega) (by rw[hz2];omega) (by omega);rw[hz1] at h;simp only[Int.toNat_natCast] at h;rw[zlg] at h;exact h
def zVt (c:TCl) (g:Nat):Value:=if c.oct=true then .iface 119 (.slice (some ⟨g,0,none⟩) c.l.length c.l.length) else .iface 120 (.slice (some ⟨g,0,none⟩) c.l.length c.l.length)
def zmX (c:TCl):Obj:=if c.oct=true then .cells (zFL c.l) 5 else .cells (zd6 c.l) 3
theorem zgc (t:TTy) (h0:0≤t.len) (h1:t.len≤1048576) (w:World):Calls Tryz.prog 22 #[.agg #[t.elem,t.len,t.label]] w fun e w'=>∃g,e=.returned (zVt (z25 t) g)∧w.heap.size≤g∧w'.heap[g]? = some (zmX (z25 t))∧Below w.heap.size w w':=by
 obtain⟨te,tl,tb⟩:=t;simp only at h0 h1 ⊢;obtain⟨n,rfl⟩:∃n:Nat,tl=n:=⟨tl.toNat,by omega⟩
 have hz:(w.alloc (.cells #[te,n,tb] 41)).heap.size=w.heap.size+1:=by simp
 by_cases ke:te=2
 · subst ke;have hr:=zje n (by omega) (w.alloc (.cells #[.int .i64 2,n,tb] 41));have hx:=heap_alloc_new (w.alloc (.cells #[.int .i64 2,n,tb] 41)) (.cells (zFL (List.replicate n 0)) 5);rw[hz] at hx;have HX:=hI hx;have hf:z25 ⟨2,n,tb⟩=⟨true,List.replicate n 0⟩:=by unfold z25;rw[if_pos rfl];rfl
   rw[hf];unfold zVt zmX;simp only[if_true,List.length_replicate];clear hf hx hz;exact uRo
 have q:(te==2)=false:=by rw[beq_eq_false_iff_ne];exact ke
 by_cases k0:n=0
 · subst k0;have hr:=znU 1 (by omega) (w.alloc (.cells #[te,.int .i64 0,tb] 41));simp only[Int.natCast_zero] at hz ⊢;rw[show ((1:Nat):Int)=1 from rfl] at hr;have hx:=heap_alloc_new (w.alloc (.cells #[te,.int .i64 0,tb] 41)) (.cells (zd6 (List.replicate 1 0)) 3);rw[hz] at hx;have HX:=hI hx;have hf:z25 ⟨te,0,tb⟩=⟨false,List.replicate 1 0⟩:=by unfold z25;rw[if_neg ke];rfl
   rw[hf];unfold zVt zmX;simp only[Bool.false_eq_true,if_false,List.length_replicate];clear hf hx hz ke;exact uRo
 have hr:=znU n (by omega) (w.alloc (.cells #[te,n,tb] 41));have hx:=heap_alloc_new (w.alloc (.cells #[te,n,tb] 41)) (.cells (zd6 (List.replicate n 0)) 3);rw[hz] at hx;have HX:=hI hx;have hf:z25 ⟨te,n,tb⟩=⟨false,List.replicate n 0⟩:=by unfold z25;rw[if_neg ke];simp only;rw[show (max (n:Int) 1).toNat=n by omega]
 rw[hf];unfold zVt zmX;simp only[Bool.false_eq_true,if_false,List.length_replicate];have k1:(1:Int)≤(n:Int):=by omega
 have k2:max (n:Int) 1=n:=by omega
 clear hf hx hz ke k0;exact uRo
end
set_option maxHeartbeats 1000000
section
variable {p:Prop}
theorem uFg (h:p:=by
 rintro e w2 ⟨rfl,rfl⟩;go_wp2_with fail;go_ret;exact⟨zm3 (by unfold tTwo;simp),bnew w _⟩):p:=h
theorem uOx (h:p:=by
 rintro e w2 ⟨rfl,rfl⟩;go_wp2_with fail;go_ret;exact⟨zm3 (by unfold zay;simp),bnew w _⟩):p:=h
theorem uVc (h:p:=by
 rintro e w2 ⟨rfl,rfl⟩;go_wp2_with fail;refine (zF4 _ _).mono ?_;exact uFg):p:=h
end
theorem zUa (kind pos num:Int) (name:ByteArray) (v:Value) (a:Int) (w:World):Calls Tryz.prog 96 #[.agg #[kind,pos,num,name,v],a] w fun e w'=>e=.returned (.int .i64 (zay kind num a))∧Below w.heap.size w w':=by
 by_cases k5:kind=5
 · subst k5;go_enter Tryz.func96,Tryz.ntmps96;go_wp2_with fail;refine (zF4 a _).mono ?_;exact uOx
 have q5:(kind==5)=false:=nB k5;by_cases k7:kind=7
 · subst k7;go_enter Tryz.func96,Tryz.ntmps96;go_wp2_with fail;refine (zF4 a _).mono ?_;exact uOx
 have q7:(kind==7)=false:=nB k7;by_cases k6:kind=6
 · subst k6;go_enter Tryz.func96,Tryz.ntmps96;go_wp2_with fail;refine (z6V 0 a _).mono ?_;exact uOx
 have q6:(kind==6)=false:=nB k6;by_cases k14:kind=14
 · subst k14;go_enter Tryz.func96,Tryz.ntmps96;go_wp2_with fail;refine (zlm a num _).mono ?_;exact uOx
 have q14:(kind==14)=false:=nB k14;by_cases k15:kind=15
 · subst k15;go_enter Tryz.func96,Tryz.ntmps96;go_wp2_with fail;refine (zmC a num _).mono ?_;exact uOx
 have q15:(kind==15)=false:=nB k15;by_cases k16:kind=16
 · subst k16;go_enter Tryz.func96,Tryz.ntmps96;go_wp2_with fail;refine (z7u a num _).mono ?_;exact uOx
 have q16:(kind==16)=false:=nB k16;go_enter Tryz.func96,Tryz.ntmps96;go_wp2_with fail;go_ret;exact⟨zm3 (by unfold zay;simp[k5,k7,k6,k14,k15,k16]),bnew w _⟩
theorem zzQ (kind pos num:Int) (name:ByteArray) (v:Value) (a b:Int) (w:World):Calls Tryz.prog 97 #[.agg #[kind,pos,num,name,v],a,b] w fun e w'=>e=.returned (.int .i64 (tTwo kind a b))∧Below w.heap.size w w':=by
 by_cases k8:kind=8
 · subst k8;go_enter Tryz.func97,Tryz.ntmps97;go_wp2_with fail;refine (zzl a b _).mono ?_;exact uFg
 have q8:(kind==8)=false:=nB k8;by_cases k9:kind=9
 · subst k9;go_enter Tryz.func97,Tryz.ntmps97;go_wp2_with fail;refine (z6V a b _).mono ?_;exact uFg
 have q9:(kind==9)=false:=nB k9;by_cases k10:kind=10
 · subst k10;go_enter Tryz.func97,Tryz.ntmps97;go_wp2_with fail;refine (zK8 a b _).mono ?_;exact uFg
 have q10:(kind==10)=false:=nB k10;by_cases k11:kind=11
 · subst k11;go_enter Tryz.func97,Tryz.ntmps97;go_wp2_with fail;refine (zu8 a b _).mono ?_;exact uFg
 have q11:(kind==11)=false:=nB k11;by_cases k12:kind=12
 · subst k12;go_enter Tryz.func97,Tryz.ntmps97;go_wp2_with fail;refine (zDz a b _).mono ?_;exact uFg
 have q12:(kind==12)=false:=nB k12;by_cases k13:kind=13
 · subst k13;go_enter Tryz.func97,Tryz.ntmps97;go_wp2_with fail;refine (z3J a b _).mono ?_;exact uFg
 have q13:(kind==13)=false:=nB k13;by_cases k17:kind=17
 · subst k17;go_enter Tryz.func97,Tryz.ntmps97;go_wp2_with fail;refine (zaI a b _).mono ?_;exact uFg
 have q17:(kind==17)=false:=nB k17;by_cases k18:kind=18
 · subst k18;go_enter Tryz.func97,Tryz.ntmps97;go_wp2_with fail;refine (zaI a b _).mono ?_;exact uVc
 have q18:(kind==18)=false:=nB k18;by_cases k19:kind=19
 · subst k19;go_enter Tryz.func97,Tryz.ntmps97;go_wp2_with fail;refine (zHv a b _).mono ?_;exact uFg
 have q19:(kind==19)=false:=nB k19;by_cases k22:kind=22
 · subst k22;go_enter Tryz.func97,Tryz.ntmps97;go_wp2_with fail;refine (zHv a b _).mono ?_;exact uVc
 have q22:(kind==22)=false:=nB k22;by_cases k21:kind=21
 · subst k21;go_enter Tryz.func97,Tryz.ntmps97;go_wp2_with fail;refine (zHv b a _).mono ?_;exact uFg
 have q21:(kind==21)=false:=nB k21;by_cases k20:kind=20
 · subst k20;go_enter Tryz.func97,Tryz.ntmps97;go_wp2_with fail;refine (zHv b a _).mono ?_;exact uVc
 have q20:(kind==20)=false:=nB k20;by_cases k23:kind=23
 · subst k23;go_enter Tryz.func97,Tryz.ntmps97;go_wp2_with fail;refine (zoE a b _).mono ?_;exact uFg
 have q23:(kind==23)=false:=nB k23;go_enter Tryz.func97,Tryz.ntmps97;go_wp2_with fail;refine (zxK a b _).mono ?_;rintro e w2 ⟨rfl,rfl⟩;go_wp2_with fail;go_ret;exact⟨zm3 (by unfold tTwo;simp[k8,k9,k10,k11,k12,k13,k17,k18,k19,k22,k21,k20,k23]),bnew w _⟩
end Go.Proofs.YtfibdoehmndinaaGreatDoor
