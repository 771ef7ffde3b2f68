/- Parts of a proof, joined. No condition but those that each theorem names. -/
import Derived.Test.YtfibdoehmndinaaGreatDoorProg
import Derived.OpenShut
import Derived.Lib.Hide
import Derived.Test.YtfibdoehmndinaaGreatDoorTfG0e5
namespace Go.Proofs.YtfibdoehmndinaaGreatDoor
open Go.RowKit
set_option maxRecDepth 100000
section
variable {p:Prop}
theorem uCY (h:p:=by
 go_wp2_with (go_at_call 74;refine (zyN _ _).mono ?_;rintro e w' ⟨rfl,rfl⟩);go_ret;exact⟨zm3 (by rw[zDy];rfl),rfl⟩):p:=h
end
def sh (n:Int):Nat:=(n % 32).toNat
theorem zpr (n:Int):sh n<32:=by unfold sh;omega
theorem zE1 (n:Int):((sh n:Nat):Int)=n % 32:=by unfold sh;omega
def wAdd (a b:Int):Nat:=wd (a+b)
def wSub (a b:Int):Nat:=wd (a-b)
def wMul (a b:Int):Nat:=wd a*wd b % 4294967296
def wHigh (a b:Int):Nat:=wd a*wd b / 4294967296
def wCarry (a b:Int):Nat:=(wd a+wd b) / 4294967296
def wNot (a:Int):Nat:=4294967295-wd a
def wAnd (a b:Int):Nat:=wd a &&& wd b
def wOr (a b:Int):Nat:=wd a ||| wd b
def wXor (a b:Int):Nat:=wd a ^^^ wd b
def wSelect (m a b:Int):Nat:=(wd a &&& wd m) ||| (wd b &&& (4294967295-wd m))
def wShl (a n:Int):Nat:=wd a*2 ^ sh n % 4294967296
def wShr (a n:Int):Nat:=wd a / 2 ^ sh n
def wRor (a n:Int):Nat:=wd a / 2 ^ sh n+wd a % 2 ^ sh n*2 ^ (32-sh n)
def wMask (b:Bool):Nat:=if b then 4294967295 else 0
def wLess (a b:Int):Nat:=wMask (decide (wd a<wd b))
def wSame (a b:Int):Nat:=wMask (decide (wd a=wd b))
theorem zm3 {k:IntKind} {a b:Int} (h:a=b):Ending.returned (.int k a)=.returned (.int k b):=by rw[h]
theorem zyN (n:Int) (w:World):Calls Tryz.prog 74 #[n] w fun e w'=>e=.returned (.int .i64 (wd n:Nat))∧w=w':=by
 go_enter Tryz.func74,Tryz.ntmps74;go_wp2;go_ret;exact⟨zm3 (by rw[zch,zLr]),rfl⟩
theorem zRq (n:Int) (w:World):Calls Tryz.prog 155 #[n] w fun e w'=>e=.returned (.int .i64 (sh n:Nat))∧w=w':=by
 go_enter Tryz.func155,Tryz.ntmps155;go_wp2;go_ret;exact⟨zm3 (by rw[zUG,zE1]),rfl⟩
theorem zzl (a b:Int) (w:World):Calls Tryz.prog 129 #[a,b] w fun e w'=>e=.returned (.int .i64 (wAdd a b:Nat))∧w=w':=by
 go_enter Tryz.func129,Tryz.ntmps129;exact uCY
theorem z6V (a b:Int) (w:World):Calls Tryz.prog 125 #[a,b] w fun e w'=>e=.returned (.int .i64 (wSub a b:Nat))∧w=w':=by
 go_enter Tryz.func125,Tryz.ntmps125;exact uCY
theorem zdX (a b:Int):wd a*wd b<18446744073709551616 :=
 Nat.lt_of_le_of_lt (Nat.mul_le_mul (Nat.le_of_lt_succ (zWQ a)) (Nat.le_of_lt_succ (zWQ b))) (by decide)
theorem zKZ (a:Int):IntKind.u64.wrap ((wd a:Nat):Int)=(wd a:Nat):=by
 rw[zyP];have:=zWQ a;omega
theorem zvQ (a b:Int) (w:World):Calls Tryz.prog 156 #[a,b] w fun e w'=>e=.returned (.int .u64 (wd a*wd b:Nat))∧w=w':=by
 go_enter Tryz.func156,Tryz.ntmps156;go_wp2_with (go_at_call 74;refine (zyN _ _).mono ?_;rintro e w' ⟨rfl,rfl⟩);go_ret;exact⟨zm3 (by rw[zKZ,zKZ,zyP,←Int.natCast_mul];have h:=zdX a b;generalize wd a*wd b=x at *;omega),rfl⟩
theorem zhU (k:Nat):(2:Int) ^ k=((2 ^ k:Nat):Int):=by rw[Int.natCast_pow];rfl
theorem zEv (x k:Nat):(x:Int) / 2 ^ k=((x / 2 ^ k:Nat):Int):=by rw[zhU];rfl
theorem zu6 (a b:Nat):((a:Int)==(b:Int))=decide (a=b):=by
 by_cases h:a=b
 · subst h;simp
 have h':¬(a:Int)=b:=by omega
 simp[h,h']
theorem zoi (x:Nat):wd (x:Int)=x % 4294967296:=by unfold wd;omega
theorem zJ9 (x k:Nat) (hx:x<4294967296) (hk:k<32):x / 2 ^ k ||| x*2 ^ (32-k) % 4294967296=x / 2 ^ k+x % 2 ^ k*2 ^ (32-k):=by
 have e:(4294967296:Nat)=2 ^ k*2 ^ (32-k):=by rw[←Nat.pow_add,show k+(32-k)=32 by omega]
 have h1:x*2 ^ (32-k) % 4294967296=x % 2 ^ k*2 ^ (32-k):=by rw[e,Nat.mul_mod_mul_right]
 rw[h1,Nat.or_comm,nat_join (32-k) _ _ (Nat.mul_mod_left _ _) (Nat.div_lt_of_lt_mul (by rw[←e];exact hx)),Nat.add_comm]
theorem zkq (n:Int):min (sh n) 64=sh n:=by have:=zpr n;omega
theorem zK8 (a b:Int) (w:World):Calls Tryz.prog 130 #[a,b] w fun e w'=>e=.returned (.int .i64 (wMul a b:Nat))∧w=w':=by
 go_enter Tryz.func130,Tryz.ntmps130;go_wp2_with (first | (go_at_call 156;refine (zvQ _ _ _).mono ?_;rintro e w' ⟨rfl,rfl⟩));go_ret;exact⟨zm3 (by rw[←Int.natCast_mul];unfold wMul;generalize wd a*wd b=x;rw[zuJ,zCC _ (by omega) (by omega)];omega),rfl⟩
theorem zoE (a b:Int) (w:World):Calls Tryz.prog 136 #[a,b] w fun e w'=>e=.returned (.int .i64 (wHigh a b:Nat))∧w=w':=by
 go_enter Tryz.func136,Tryz.ntmps136;go_wp2_with (first | (go_at_call 156;refine (zvQ _ _ _).mono ?_;rintro e w' ⟨rfl,rfl⟩));go_ret;exact⟨zm3 (by have h:=zdX a b;rw[←Int.natCast_mul];unfold wHigh;generalize wd a*wd b=x at *;rw[zCC _ (by omega) (by omega)];omega),rfl⟩
theorem zF4 (a:Int) (w:World):Calls Tryz.prog 124 #[a] w fun e w'=>e=.returned (.int .i64 (wNot a:Nat))∧w=w':=by
 go_enter Tryz.func124,Tryz.ntmps124;go_wp2_with (first | (go_at_call 74;refine (zyN _ _).mono ?_;rintro e w' ⟨rfl,rfl⟩));all_goals go_ret
 all_goals exact⟨zm3 (by rw[zE4,zZq _ (zWQ a)];rfl),rfl⟩
theorem zu8 (a b:Int) (w:World):Calls Tryz.prog 131 #[a,b] w fun e w'=>e=.returned (.int .i64 (wAnd a b:Nat))∧w=w':=by
 go_enter Tryz.func131,Tryz.ntmps131;go_wp2_with (first | (go_at_call 74;refine (zyN _ _).mono ?_;rintro e w' ⟨rfl,rfl⟩));go_ret;exact⟨zm3 (by rw[z13];rfl),rfl⟩
theorem zDz (a b:Int) (w:World):Calls Tryz.prog 132 #[a,b] w fun e w'=>e=.returned (.int .i64 (wOr a b:Nat))∧w=w':=by
 go_enter Tryz.func132,Tryz.ntmps132;go_wp2_with (first | (go_at_call 74;refine (zyN _ _).mono ?_;rintro e w' ⟨rfl,rfl⟩));go_ret;exact⟨zm3 (by rw[zrJ];rfl),rfl⟩
theorem z3J (a b:Int) (w:World):Calls Tryz.prog 133 #[a,b] w fun e w'=>e=.returned (.int .i64 (wXor a b:Nat))∧w=w':=by
 go_enter Tryz.func133,Tryz.ntmps133;go_wp2_with (first | (go_at_call 74;refine (zyN _ _).mono ?_;rintro e w' ⟨rfl,rfl⟩));go_ret;exact⟨zm3 (by rw[zQf];rfl),rfl⟩
theorem zmC (a n:Int) (w:World):Calls Tryz.prog 127 #[a,n] w fun e w'=>e=.returned (.int .i64 (wShr a n:Nat))∧w=w':=by
 go_enter Tryz.func127,Tryz.ntmps127;go_wp2_with (first | (go_at_call 74;refine (zyN _ _).mono ?_;rintro e w' ⟨rfl,rfl⟩) | (go_at_call 155;refine (zRq _ _).mono ?_;rintro e w' ⟨rfl,rfl⟩));go_ret;exact⟨zm3 (by rw[zkq,zEv];rfl),rfl⟩
theorem zlm (a n:Int) (w:World):Calls Tryz.prog 126 #[a,n] w fun e w'=>e=.returned (.int .i64 (wShl a n:Nat))∧w=w':=by
 go_enter Tryz.func126,Tryz.ntmps126;go_wp2_with (first | (go_at_call 74;refine (zyN _ _).mono ?_;rintro e w' ⟨rfl,rfl⟩) | (go_at_call 155;refine (zRq _ _).mono ?_;rintro e w' ⟨rfl,rfl⟩));go_ret;exact⟨zm3 (by rw[zkq,zDy,zhU,←Int.natCast_mul];unfold wShl wd;generalize (a % 4294967296).toNat*2 ^ sh n=x;omega),rfl⟩
theorem zuU (a:Bool) (w:World):Calls Tryz.prog 157 #[a] w fun e w'=>e=.returned (.int .i64 (wMask a:Nat))∧w=w':=by
 cases a
 all_goals
  go_enter Tryz.func157,Tryz.ntmps157;go_wp2
 all_goals go_ret
 all_goals exact⟨rfl,rfl⟩
theorem zHv (a b:Int) (w:World):Calls Tryz.prog 135 #[a,b] w fun e w'=>e=.returned (.int .i64 (wLess a b:Nat))∧w=w':=by
 go_enter Tryz.func135,Tryz.ntmps135;go_wp2_with (first | (go_at_call 74;refine (zyN _ _).mono ?_;rintro e w' ⟨rfl,rfl⟩) | (go_at_call 157;refine (zuU _ _).mono ?_;rintro e w' ⟨rfl,rfl⟩));go_ret;exact⟨rfl,rfl⟩
theorem zaI (a b:Int) (w:World):Calls Tryz.prog 134 #[a,b] w fun e w'=>e=.returned (.int .i64 (wSame a b:Nat))∧w=w':=by
 go_enter Tryz.func134,Tryz.ntmps134;go_wp2_with (first | (go_at_call 74;refine (zyN _ _).mono ?_;rintro e w' ⟨rfl,rfl⟩) | (go_at_call 157;refine (zuU _ _).mono ?_;rintro e w' ⟨rfl,rfl⟩));go_ret;exact⟨zm3 (by rw[zu6];rfl),rfl⟩
theorem zxK (a b:Int) (w:World):Calls Tryz.prog 137 #[a,b] w fun e w'=>e=.returned (.int .i64 (wCarry a b:Nat))∧w=w':=by
 go_enter Tryz.func137,Tryz.ntmps137;go_wp2_with (first | (go_at_call 74;refine (zyN _ _).mono ?_;rintro e w' ⟨rfl,rfl⟩));go_ret;exact⟨zm3 (by have h1:=zWQ a;have h2:=zWQ b;unfold wCarry;rw[zCC _ (by omega) (by omega)];omega),rfl⟩
theorem z7u (a n:Int) (w:World):Calls Tryz.prog 128 #[a,n] w fun e w'=>e=.returned (.int .i64 (wRor a n:Nat))∧w=w':=by
 have h1:((sh n:Nat):Int)≤31:=by have:=zpr n;omega
 go_enter Tryz.func128,Tryz.ntmps128;go_wp2_with (first | (go_at_call 74;refine (zyN _ _).mono ?_;rintro e w' ⟨rfl,rfl⟩) | (go_at_call 155;refine (zRq _ _).mono ?_;rintro e w' ⟨rfl,rfl⟩) | (go_at_call 127;refine (zmC _ _ _).mono ?_;rintro e w' ⟨rfl,rfl⟩) | (go_at_call 132;refine (zDz _ _ _).mono ?_;rintro e w' ⟨rfl,rfl⟩));go_ret;exact⟨zm3 (by unfold wOr wShr;rw[zsh _ (Nat.lt_of_le_of_lt (Nat.div_le_self _ _) (zWQ a)),zMz,zDy,zhU,←Int.natCast_mul,zoi,zJ9 _ _ (zWQ a) (zpr n)];rfl),rfl⟩
theorem zVq (m a b:Int) (w:World):Calls Tryz.prog 98 #[m,a,b] w fun e w'=>e=.returned (.int .i64 (wSelect m a b:Nat))∧w=w':=by
 go_enter Tryz.func98,Tryz.ntmps98;go_wp2_with (first | (go_at_call 132;refine (zDz _ _ _).mono ?_;rintro e w' ⟨rfl,rfl⟩));go_ret;exact⟨zm3 (by unfold wOr wSelect;rw[z13,z9t,zZq _ (zWQ m)]),rfl⟩
set_option linter.unusedVariables false
structure TTy where
 elem:Int
 len:Int
 label:Int
inductive TEx where
 | mk (kind pos num:Int) (name:ByteArray) (args:List TEx)
inductive TSt where
 | mk (kind pos most:Int) (name:ByteArray) (ty:TTy) (args:List TEx) (body els:List TSt) (has:Bool)
structure TPa where
 pos:Int
 name:ByteArray
 ty:TTy
 out:Bool
structure TFu where
 pos:Int
 name:ByteArray
 params:List TPa
 has:Bool
 res:TTy
 body:List TSt
def TEx.kind:TEx→Int | .mk k _ _ _ _=>k
def TEx.pos:TEx→Int | .mk _ p _ _ _=>p
def TEx.num:TEx→Int | .mk _ _ n _ _=>n
def TEx.name:TEx→ByteArray | .mk _ _ _ s _=>s
def TEx.args:TEx→List TEx | .mk _ _ _ _ a=>a
def TSt.kind:TSt→Int | .mk k _ _ _ _ _ _ _ _=>k
def TSt.pos:TSt→Int | .mk _ p _ _ _ _ _ _ _=>p
def TSt.most:TSt→Int | .mk _ _ m _ _ _ _ _ _=>m
def TSt.name:TSt→ByteArray | .mk _ _ _ s _ _ _ _ _=>s
def TSt.ty:TSt→TTy | .mk _ _ _ _ t _ _ _ _=>t
def TSt.args:TSt→List TEx | .mk _ _ _ _ _ a _ _ _=>a
def TSt.body:TSt→List TSt | .mk _ _ _ _ _ _ b _ _=>b
def TSt.els:TSt→List TSt | .mk _ _ _ _ _ _ _ e _=>e
def TSt.has:TSt→Bool | .mk _ _ _ _ _ _ _ _ h=>h
def zSy {T:Type} (f:ByteArray→Option T) (k:ByteArray) (v:T):ByteArray→Option T:=fun x=>if x=k then some v else f x
def zah {T:Type} (f:ByteArray→Option T) (k:ByteArray):ByteArray→Option T:=fun x=>if x=k then none else f x
def zN {T:Type}:ByteArray→Option T:=fun _=>none
structure TCl where
 oct:Bool
 l:List Int
inductive TR (T:Type) where
 | ok (t:T)
 | trap
 | bad
def TR.bind {T U:Type} (r:TR T) (f:T→TR U):TR U :=
 match r with
 | .ok t=>f t
 | .trap=>.trap
 | .bad=>.bad
abbrev TEnv:=ByteArray→Option Nat
abbrev TMem:=List TCl
def z1M (m:TMem) (c:Nat) (i:Int):TR Int:=match m[c]? with
 | some a=>if 0≤i then (match a.l[i.toNat]? with
  | some v=>.ok v
  | none=>.bad) else .bad
 | none=>.bad
def zbN (m:TMem) (c:Nat) (i v:Int):TR TMem:=match m[c]? with
 | some a=>if 0≤i∧i.toNat<a.l.length then .ok (m.set c ⟨a.oct,a.l.set i.toNat (if a.oct=true then v % 256 else v % 4294967296)⟩) else .bad
 | none=>.bad
def tAtC (m:TMem) (env:TEnv) (name:ByteArray) (i:Int):TR Nat:=match env name with
 | some c=>(match m[c]? with
  | some a=>if (a.l.length:Int)≤i then .trap else .ok c
  | none=>.bad)
 | none=>.bad
def z25 (t:TTy):TCl:=if t.elem=2 then ⟨true,List.replicate t.len.toNat 0⟩ else ⟨false,List.replicate (max t.len 1).toNat 0⟩
def tTwo (kind a b:Int):Int :=
 if kind=8 then (wAdd a b:Nat) else if kind=9 then (wSub a b:Nat) else if kind=10 then (wMul a b:Nat)
 else if kind=11 then (wAnd a b:Nat) else if kind=12 then (wOr a b:Nat) else if kind=13 then (wXor a b:Nat)
 else if kind=17 then (wSame a b:Nat) else if kind=18 then (wNot (wSame a b:Nat):Nat) else if kind=19 then (wLess a b:Nat)
 else if kind=22 then (wNot (wLess a b:Nat):Nat) else if kind=21 then (wLess b a:Nat) else if kind=20 then (wNot (wLess b a:Nat):Nat)
 else if kind=23 then (wHigh a b:Nat) else (wCarry a b:Nat)
def zay (kind num a:Int):Int :=
 if kind=5∨kind=7 then (wNot a:Nat) else if kind=6 then (wSub 0 a:Nat) else if kind=14 then (wShl a num:Nat)
 else if kind=15 then (wShr a num:Nat) else if kind=16 then (wRor a num:Nat) else a
def zE0 (kind num:Int) (vs:List Int):TR Int:=match vs with
 | [a]=>.ok (zay kind num a)
 | [a,b]=>.ok (tTwo kind a b)
 | [a,b,c]=>.ok (wSelect a b c:Nat)
 | _=>.bad
def zQQ (f:TMem→TEx→TR (Int×TMem)):TMem→List TEx→TR (List Int×TMem)
 | m,[]=>.ok ([],m)
 | m,x::l=>(f m x).bind fun r=>(zQQ f r.2 l).bind fun q=>.ok (r.1::q.1,q.2)
def zvi (f:TMem→TEx→TR (Int×TMem)) (env:TEnv):List TPa→List TEx→TEnv→TMem→TR (TEnv×TMem)
 | [],_,inner,m=>.ok (inner,m)
 | _::_,[],_,_=>.bad
 | p::ps,x::xs,inner,m=>if 0<p.ty.len then (match env x.name with
   | some c=>zvi f env ps xs (zSy inner p.name c) m
   | none=>.bad)
  else (f m x).bind fun r=>zvi f env ps xs (zSy inner p.name r.2.length) (r.2++[⟨false,[r.1]⟩])
def tRun (f:TEnv→TMem→TSt→TR (Int×TEnv×TMem)):Int→TEnv→TMem→List TSt→TR (Int×TEnv×TMem)
 | v,env,m,[]=>.ok (v,env,m)
 | _,env,m,s::l=>(f env m s).bind fun r=>tRun f r.1 r.2.1 r.2.2 l
def zRD (name:ByteArray) (f:TEnv→TMem→TR (Int×TEnv×TMem)):Nat→Nat→TEnv→TMem→TR (TEnv×TMem)
 | 0,_,env,m=>.ok (env,m)
 | k+1,i,env,m=>(f (zSy env name m.length) (m++[⟨false,[(i:Int)]⟩])).bind fun r=>zRD name f k (i+1) r.2.1 r.2.2
mutual
def tVal:Nat→(ByteArray→Option TFu)→TEnv→TMem→TEx→TR (Int×TMem)
 | 0,_,_,_,_=>.bad
 | n+1,F,env,m,.mk kind pos num name args =>
  if kind=1 then .ok (num,m)
  else if kind=2 then (match env name with
   | some c=>(z1M m c 0).bind fun v=>.ok (v,m)
   | none=>.bad)
  else if kind=3 then (match args with
   | x::_=>(tVal n F env m x).bind fun r=>(tAtC r.2 env name r.1).bind fun c=>(z1M r.2 c r.1).bind fun v=>.ok (v,r.2)
   | []=>.bad)
  else if kind=4 then zQ3 n F env m name args
  else (zQQ (fun m x=>tVal n F env m x) m args).bind fun r=>(zE0 kind num r.1).bind fun v=>.ok (v,r.2)
def zQ3:Nat→(ByteArray→Option TFu)→TEnv→TMem→ByteArray→List TEx→TR (Int×TMem)
 | 0,_,_,_,_,_=>.bad
 | n+1,F,env,m,name,args=>match F name with
  | some g=>(zvi (fun m x=>tVal n F env m x) env g.params args zN m).bind fun r=>(zK n F r.1 r.2 g.body).bind fun q=>.ok (q.1,q.2.2)
  | none=>.bad
def zK:Nat→(ByteArray→Option TFu)→TEnv→TMem→List TSt→TR (Int×TEnv×TMem)
 | 0,_,_,_,_=>.bad
 | n+1,F,env,m,l=>tRun (fun env m s=>z8H n F env m s) 0 env m l
def z8H:Nat→(ByteArray→Option TFu)→TEnv→TMem→TSt→TR (Int×TEnv×TMem)
 | 0,_,_,_,_=>.bad
 | n+1,F,env,m,.mk kind pos most name ty args body els has =>
  if kind=1 then (match args with
   | x::_=>(tVal n F env m x).bind fun r=>.ok (0,zSy env name r.2.length,r.2++[⟨false,[r.1]⟩])
   | []=>.bad)
  else if kind=2 then (if 0≤ty.len∧ty.len≤16384∧(ty.elem=2→0<ty.len) then .ok (0,zSy env name m.length,m++[z25 ty]) else .bad)
  else if kind=3 then (match args with
   | x::_=>(match env name with
    | some c=>(tVal n F env m x).bind fun r=>(zbN r.2 c 0 r.1).bind fun m=>.ok (0,env,m)
    | none=>.bad)
   | []=>.bad)
  else if kind=4 then (match args with
   | x::y::_=>(tVal n F env m x).bind fun r=>(tVal n F env r.2 y).bind fun q=>(tAtC q.2 env name r.1).bind fun c=>(zbN q.2 c r.1 q.1).bind fun m=>.ok (0,env,m)
   | _=>.bad)
  else if kind=5 then (match args with
   | x::_=>(tVal n F env m x).bind fun r=>(if r.1≠0 then zK n F env r.2 body else zK n F env r.2 els).bind fun q=>.ok (0,q.2)
   | []=>.bad)
  else if kind=6 then (match args with
   | x::_=>(tVal n F env m x).bind fun r=>if 65536<most then .bad else if most<r.1 then .trap else (zRD name (fun env m=>zK n F env m body) r.1.toNat 0 env r.2).bind fun q=>.ok (0,q)
   | []=>.bad)
  else if kind=7 then (match args with
   | x::_=>(zQ3 n F env m x.name x.args).bind fun r=>.ok (0,env,r.2)
   | []=>.bad)
  else if kind=8 then (match args with
   | x::_=>(tVal n F env m x).bind fun r=>.ok (r.1,env,r.2)
   | []=>.bad)
  else .ok (0,env,m)
end
def z8g (kind:Int):Option Int :=
 if kind=1∨kind=2 then some 0 else if kind=4 then some (-1)
 else if kind=3∨(5≤kind∧kind≤7)∨(14≤kind∧kind≤16)∨kind=26 then some 1
 else if (8≤kind∧kind≤13)∨(17≤kind∧kind≤24) then some 2
 else if kind=25 then some 3 else none
def z2m (n:Int) (has:Bool):Bool:=decide (n=0) || (has && (decide (0<n) && decide (n≤4294967295)))
def z9F (nm:ByteArray→Bool) (s:ByteArray) (has:Bool):Bool:=if has=true then nm s else decide (s.size=0)
def tpX (nm:ByteArray→Bool):Nat→TEx→Bool
 | 0,_=>false
 | n+1,.mk kind pos num name args=>(match z8g kind with
   | none=>false
   | some a=>!(decide (0≤a) && !decide ((args.length:Int)=a))) &&
  (z9F nm name (decide (kind=2) || (decide (kind=3) || decide (kind=4))) && (z2m num (decide (kind=1) || (decide (14≤kind) && decide (kind≤16))) && args.all (fun x=>tpX nm n x)))
def zQp (t:TTy):Bool:=(decide (t.label=0) || decide (t.label=1)) && (z2m t.len true && (if t.elem=1 then decide (t.len=0) else if t.elem=0 then true else if t.elem=2 then decide (0<t.len) else false))
structure TSh where
 name:Bool
 kind:Bool
 args:Int
 most:Bool
 block:Bool
 other:Bool
def zcC (kind:Int):Option TSh :=
 if kind=1∨kind=3 then some ⟨true,false,1,false,false,false⟩ else if kind=2 then some ⟨true,true,0,false,false,false⟩
 else if kind=4 then some ⟨true,false,2,false,false,false⟩ else if kind=5 then some ⟨false,false,1,false,true,true⟩
 else if kind=6 then some ⟨true,false,1,true,true,false⟩ else if kind=7∨kind=8 then some ⟨false,false,1,false,false,false⟩ else none
def zEY (t:TTy):Bool:=decide (t.elem=0) && (decide (t.len=0) && decide (t.label=0))
def zAq (kind:Int) (args:List TEx):Bool:=!(decide (kind=7) && !(match args with
 | x::_=>decide (x.kind=4)
 | []=>false))
def tpS0 (nm:ByteArray→Bool) (h:TSh) (kind most:Int) (name:ByteArray) (ty:TTy) (args:List TEx) (xs:Bool) (nb ne:Nat) (has:Bool):Bool :=
 z9F nm name h.name && (z2m most h.most && (decide ((args.length:Int)=h.args) && (xs && ((if h.kind=true then zQp ty else zEY ty) && (zAq kind args && ((h.block || decide (nb=0)) && ((!has || h.other) && (has || decide (ne=0)))))))))
def tpS (nm:ByteArray→Bool):Nat→TSt→Bool
 | 0,_=>false
 | n+1,.mk kind pos most name ty args body els has=>(match zcC kind with
   | none=>false
   | some h=>tpS0 nm h kind most name ty args (args.all (fun x=>tpX nm n x)) body.length els.length has) &&
  (body.all (fun s=>tpS nm n s) && els.all (fun s=>tpS nm n s))
def tpF (nm:ByteArray→Bool) (n:Nat) (f:TFu):Bool:=nm f.name && (f.body.all (fun s=>tpS nm n s) && (f.params.all (fun p=>nm p.name && zQp p.ty) && (if f.has=true then zQp f.res && (decide (f.res.len=0) && !decide (f.res.elem=2)) else zEY f.res)))
structure TTh where
 kind:TTy
 fixed:Bool
structure TKn where
 f:TFu
 cost:Int
abbrev TGam:=ByteArray→Option TTh
abbrev TKs:=ByteArray→Option TKn
def zKq (a b:Int):Bool:=decide (a=0) || decide (b=1)
def tIf {T:Type} (b:Bool) (r:TR T):TR T:=if b=true then r else .trap
def zg1 (G:TGam) (s:ByteArray):TR TTh:=match G s with
 | some t=>.ok t
 | none=>.trap
def zHj (G:TGam) (s:ByteArray) (t:TTh):TR TGam:=match G s with
 | some _=>.trap
 | none=>.ok (zSy G s t)
def zFK (f:TEx→TR TTy) (x:TEx) (elem:Int):TR Unit:=(f x).bind fun t=>tIf (decide (t.elem=elem)) (tIf (decide (t.label=0)) (.ok ()))
def z6w (f:TEx→TR TTy) (G:TGam) (p:TPa) (x:TEx):TR Unit :=
 if p.ty.len=0 then (f x).bind fun t=>tIf (decide (t.elem=p.ty.elem)) (tIf (zKq t.label p.ty.label) (.ok ()))
 else tIf (decide (x.kind=2)) ((zg1 G x.name).bind fun t=>tIf (decide (t.kind.elem=p.ty.elem) && (decide (t.kind.len=p.ty.len) && !(p.out && t.fixed)))
  (tIf (zKq t.kind.label p.ty.label && (!p.out || decide (t.kind.label=p.ty.label))) (.ok ())))
def zZh (f:TEx→TR TTy) (G:TGam):List TPa→List TEx→TR Unit
 | [],_=>.ok ()
 | _::_,[]=>.bad
 | p::ps,x::xs=>(z6w f G p x).bind fun _=>zZh f G ps xs
def zY1 (kind:Int) (l:List Int):TR (Int×Bool) :=
 if kind=7 then (match l with
  | a::_=>.ok (1,decide (a=1))
  | _=>.bad)
 else if kind=26 then (match l with
  | a::_=>.ok (0,decide (a=1))
  | _=>.bad)
 else if kind=11∨kind=12∨kind=13 then (match l with
  | a::b::_=>.ok (a,decide (a=b))
  | _=>.bad)
 else if kind=25 then (match l with
  | a::b::c::_=>.ok (b,decide (a=1) && decide (b=c))
  | _=>.bad)
 else if 17≤kind∧kind≤22 then .ok (1,l.all (fun e=>decide (e=0)))
 else .ok (0,l.all (fun e=>decide (e=0)))
def zQ1 (f:TEx→TR TTy):Int→List Int→List TEx→TR (Int×List Int)
 | lab,es,[]=>.ok (lab,es)
 | lab,es,x::l=>(f x).bind fun t=>zQ1 f (max lab t.label) (es++[t.elem]) l
mutual
def zi:Nat→TKs→TGam→TEx→TR TTy
 | 0,_,_,_=>.bad
 | n+1,K,G,.mk kind pos num name args =>
  if kind=1 then .ok ⟨0,0,0⟩
  else if kind=2 then (zg1 G name).bind fun t=>tIf (decide (t.kind.len=0)) (.ok t.kind)
  else if kind=3 then (match args with
   | x::_=>(zFK (fun x=>zi n K G x) x 0).bind fun _=>(zg1 G name).bind fun t=>tIf (decide (0<t.kind.len)) (.ok ⟨0,0,t.kind.label⟩)
   | []=>.bad)
  else if kind=4 then (zRu n K G name args).bind fun f=>tIf f.has (.ok f.res)
  else (zQ1 (fun x=>zi n K G x) 0 [] args).bind fun r=>(zY1 kind r.2).bind fun q=>tIf q.2 (tIf (decide (num<32)) (.ok ⟨q.1,0,r.1⟩))
def zRu:Nat→TKs→TGam→ByteArray→List TEx→TR TFu
 | 0,_,_,_,_=>.bad
 | n+1,K,G,name,args=>match K name with
  | some k=>tIf (decide (k.f.params.length=args.length)) ((zZh (fun x=>zi n K G x) G k.f.params args).bind fun _=>.ok k.f)
  | none=>.trap
end
def zX9 (f:TGam→TSt→TR TGam):TGam→List TSt→TR TGam
 | G,[]=>.ok G
 | G,s::l=>(f G s).bind fun G=>zX9 f G l
def zcx:TGam→List TSt→TGam
 | G,[]=>G
 | G,s::l=>zcx (if s.kind=1∨s.kind=2 then zah G s.name else G) l
mutual
def zXK:Nat→TKs→TFu→TGam→List TSt→TR TGam
 | 0,_,_,_,_=>.bad
 | n+1,K,g,G,l=>(zX9 (fun G s=>zE n K g G false s) G l).bind fun G=>.ok (zcx G l)
def zE:Nat→TKs→TFu→TGam→Bool→TSt→TR TGam
 | 0,_,_,_,_,_=>.bad
 | n+1,K,g,G,last,.mk kind pos most name ty args body els has =>
  if kind=1 then (match args with
   | x::_=>(zi n K G x).bind fun t=>zHj G name ⟨t,true⟩
   | []=>.bad)
  else if kind=2 then (zHj G name ⟨ty,false⟩).bind fun G=>tIf (decide (ty.len≤16384)) (.ok G)
  else if kind=3 then (match args with
   | x::_=>(zi n K G x).bind fun v=>(zg1 G name).bind fun t=>tIf (decide (t.kind.len=0) && (!t.fixed && decide (t.kind.elem=v.elem))) (tIf (zKq v.label t.kind.label) (.ok G))
   | []=>.bad)
  else if kind=4 then (match args with
   | x::y::_=>(zFK (fun x=>zi n K G x) x 0).bind fun _=>(zi n K G y).bind fun v=>(zg1 G name).bind fun t=>tIf (decide (0<t.kind.len) && (!t.fixed && decide (v.elem=0))) (tIf (zKq v.label t.kind.label) (.ok G))
   | _=>.bad)
  else if kind=5 then (match args with
   | x::_=>(zFK (fun x=>zi n K G x) x 1).bind fun _=>(zXK n K g G body).bind fun G=>zXK n K g G els
   | []=>.bad)
  else if kind=6 then (match args with
   | x::_=>(zFK (fun x=>zi n K G x) x 0).bind fun _=>(zHj G name ⟨⟨0,0,0⟩,true⟩).bind fun G=>tIf (decide (most≤65536)) ((zXK n K g G body).bind fun G=>.ok (zah G name))
   | []=>.bad)
  else if kind=7 then (match args with
   | x::_=>(zRu n K G x.name x.args).bind fun _=>.ok G
   | []=>.bad)
  else if kind=8 then (match args with
   | x::_=>(zi n K G x).bind fun v=>tIf (last && (g.has && decide (v.elem=g.res.elem))) (tIf (zKq v.label g.res.label) (.ok G))
   | []=>.bad)
  else .ok G
end
def zUz:TGam→List TPa→TR TGam
 | G,[]=>.ok G
 | G,p::ps=>(zHj G p.name ⟨p.ty,!p.out⟩).bind fun G=>tIf (!p.out || decide (0<p.ty.len)) (tIf (decide (p.ty.len≤16384)) (zUz G ps))
def zxZ (f:TGam→Bool→TSt→TR TGam):Bool→TGam→List TSt→TR (Bool×TGam)
 | r,G,[]=>.ok (r,G)
 | _,G,s::l=>(f G (decide (l.length=0)) s).bind fun G=>zxZ f (decide (s.kind=8)) G l
def zUU:Nat→TKs→List TEx→Int
 | 0,_,_=>0
 | n+1,K,l=>l.foldl (fun a x=>min (a+(1+zUU n K x.args)+(if x.kind=4 then (match K x.name with
  | some k=>k.cost
  | none=>0) else 0)) 65537) 0
def z8:Nat→TKs→List TSt→Int
 | 0,_,_=>0
 | n+1,K,l=>l.foldl (fun a s=>min (a+(1+zUU n K s.args+s.ty.len)+(if s.kind=6 then (s.most+1)*(1+z8 n K s.body) else z8 n K s.body)+z8 n K s.els) 65537) 0
def zwP (n:Nat) (K:TKs) (f:TFu):TR TKs:=match K f.name with
 | some _=>.trap
 | none=>(zUz zN f.params).bind fun G=>(zxZ (fun G last s=>zE n K f G last s) false G f.body).bind fun r=>tIf (!f.has || r.1) (.ok (zSy K f.name ⟨f,min (1+z8 n K f.body) 65537⟩))
def zJx (n:Nat):TKs→List TFu→TR TKs
 | K,[]=>.ok K
 | K,f::l=>(zwP n K f).bind fun K=>zJx n K l
section
variable {G:TGam} {T:Type} {R:T→T→Prop} {U:Type} {c:Nat} {env:TEnv} {f:T→TR U} {i:Nat} {m1 m2:TMem} {r:TR T} {s:ByteArray} {t th:TTh} {x:ByteArray}
theorem TR.bind_ok {u:U} (h:r.bind f=.ok u):∃t,r=.ok t∧f t=.ok u:=by
 cases r
 case trap=>cases h
 case bad=>cases h
 rename_i t;exact⟨t,rfl,h⟩
theorem zP {b:Bool} {t:T} (h:tIf b r=.ok t):b=true∧r=.ok t:=by
 cases b
 case false=>cases h
 exact⟨rfl,h⟩
theorem zNA (h:zg1 G s=.ok t):G s=some t:=by
 unfold zg1 at h;cases e:G s
 case none=>rw[e] at h;cases h
 rename_i u;rw[e] at h;cases h;rfl
theorem zO3 {G':TGam} (h:zHj G s t=.ok G'):G s=none∧G'=zSy G s t:=by
 unfold zHj at h;cases e:G s
 case some u=>rw[e] at h;cases h
 rw[e] at h;cases h;exact⟨rfl,rfl⟩
theorem zmD {f:TEx→TR TTy} {x:TEx} {e:Int} {u:Unit} (h:zFK f x e=.ok u):∃t,f x=.ok t∧t.elem=e∧t.label=0:=by
 unfold zFK at h;obtain⟨t,h1,h2⟩:=TR.bind_ok h;obtain⟨h3,h4⟩:=zP h2;obtain⟨h5,_⟩:=zP h4;exact⟨t,h1,of_decide_eq_true h3,of_decide_eq_true h5⟩
def RR {T:Type} (R:T→T→Prop) (a b:TR T):Prop:=(a=.trap∧b=.trap)∨∃x y,a=.ok x∧b=.ok y∧R x y
theorem RR.ok {x y:T} (h:R x y):RR R (.ok x) (.ok y):=Or.inr ⟨x,y,rfl,rfl,h⟩
theorem RR.trap:RR R .trap .trap:=Or.inl ⟨rfl,rfl⟩
theorem RR.bind {S:U→U→Prop} {a b:TR T} {g:T→TR U} (h:RR R a b) (k:∀x y,R x y→RR S (f x) (g y)):RR S (a.bind f) (b.bind g):=by
 rcases h with⟨rfl,rfl⟩ | ⟨x,y,rfl,rfl,h⟩
 · exact RR.trap
 exact k x y h
mutual
def exd:TEx→Nat
 | .mk _ _ _ _ a=>exds a+2
def exds:List TEx→Nat
 | []=>0
 | x::l=>max (exd x) (exds l)
end
mutual
def std:TSt→Nat
 | .mk _ _ _ _ _ a b e _=>max (exds a) (max (sts b) (sts e))+2
def sts:List TSt→Nat
 | []=>0
 | s::l=>max (std s) (sts l)
end
theorem zMq (x:TEx):exd x=exds x.args+2:=by cases x;rfl
def tW (v:Int):Prop:=0≤v∧v<4294967296
theorem zDZ {v:Nat} (h:v<4294967296):tW (v:Int):=⟨by omega,by omega⟩
structure TLo where
 oct:Bool
 size:Nat
 label:Int
abbrev TLos:=List TLo
def zZl (lo:TLo) (a b:TCl):Prop:=a.oct=lo.oct∧b.oct=lo.oct∧a.l.length=lo.size∧b.l.length=lo.size∧(∀v∈a.l,tW v)∧(∀v∈b.l,tW v)∧(lo.label=0→a=b)
structure SR (L:TLos) (m1 m2:TMem):Prop where
 len1:m1.length=L.length
 len2:m2.length=L.length
 at_:∀(i:Nat) (lo:TLo),L[i]? = some lo→∃a b,m1[i]? = some a∧m2[i]? = some b∧zZl lo a b
def TyOk (t:TTy):Prop:=0≤t.len∧(t.elem=2→0<t.len)∧(t.label=0∨t.label=1)
def TyV (t:TTy):Prop:=t.len=0∧t.elem≠2∧(t.label=0∨t.label=1)
theorem TyV.ok {t:TTy} (h:TyV t):TyOk t:=⟨by rw[h.1];exact Int.le_refl _,fun e=>absurd e h.2.1,h.2.2⟩
structure TPl (th:TTh) (lo:TLo):Prop where
 oct:lo.oct=decide (th.kind.elem=2)
 size:(lo.size:Int)=max th.kind.len 1
 flow:zKq lo.label th.kind.label=true
 own:th.fixed=false→lo.label=th.kind.label
def ET (G:TGam) (env:TEnv) (L:TLos):Prop:=∀x th,G x=some th→TyOk th.kind∧∃c lo,env x=some c∧L[c]? = some lo∧TPl th lo
def Ext (L L':TLos):Prop:=∃e,L'=L++e
theorem Ext.refl (L:TLos):Ext L L:=⟨[],(List.append_nil L).symm⟩
theorem Ext.trans {L L' L'':TLos} (h:Ext L L') (h':Ext L' L''):Ext L L'':=by
 obtain⟨e,rfl⟩:=h;obtain⟨e',rfl⟩:=h';exact⟨e++e',List.append_assoc ..⟩
theorem Ext.at_ {L L':TLos} (h:Ext L L') {lo:TLo} (hi:L[i]? = some lo):L'[i]? = some lo:=by
 obtain⟨e,rfl⟩:=h;rw[List.getElem?_append_left (List.getElem?_eq_some_iff.1 hi).1];exact hi
theorem ET.ext {L L':TLos} (h:ET G env L) (he:Ext L L'):ET G env L':=fun x th hx=>by
 obtain⟨h1,c,lo,h2,h3,h4⟩:=h x th hx
 exact⟨h1,c,lo,h2,he.at_ h3,h4⟩
theorem SR.push {L:TLos} (h:SR L m1 m2) {lo:TLo} {a b:TCl} (hl:zZl lo a b):SR (L++[lo]) (m1++[a]) (m2++[b]):=by
 refine⟨by simp[h.len1],by simp[h.len2],fun i l hi=>?_⟩;by_cases hlt:i<L.length
 · rw[List.getElem?_append_left hlt] at hi;obtain⟨x,y,h1,h2,h3⟩:=h.at_ i l hi;exact⟨x,y,by rw[List.getElem?_append_left (by rw[h.len1];exact hlt)];exact h1,by rw[List.getElem?_append_left (by rw[h.len2];exact hlt)];exact h2,h3⟩
 have hii:i<(L++[lo]).length:=(List.getElem?_eq_some_iff.1 hi).1;rw[List.length_append,List.length_singleton] at hii;obtain rfl:i=L.length:=by omega
 rw[List.getElem?_append_right (Nat.le_refl _),Nat.sub_self] at hi;obtain rfl:lo=l:=by simpa using hi
 refine⟨a,b,?_,?_,hl⟩
 · rw[List.getElem?_append_right (by rw[h.len1];exact Nat.le_refl _),h.len1,Nat.sub_self];rfl
 rw[List.getElem?_append_right (by rw[h.len2];exact Nat.le_refl _),h.len2,Nat.sub_self];rfl
theorem zPn (f:ByteArray→Option T) (k x:ByteArray) (v:T):zSy f k v x=if x=k then some v else f x:=rfl
theorem ET.push {L:TLos} (h:ET G env L) {lo:TLo} (ht:TyOk th.kind) (hp:TPl th lo):ET (zSy G x th) (zSy env x L.length) (L++[lo]):=fun y ty hy=>by
 rw[zPn] at hy
 by_cases e:y=x
 · rw[if_pos e] at hy
   cases hy
   exact⟨ht,L.length,lo,by rw[zPn,if_pos e],by rw[List.getElem?_append_right (Nat.le_refl _),Nat.sub_self];rfl,hp⟩
 · rw[if_neg e] at hy
   obtain⟨h1,c,l,h2,h3,h4⟩:=h y ty hy
   exact⟨h1,c,l,by rw[zPn,if_neg e];exact h2,(Ext.at_ ⟨[lo],rfl⟩ h3),h4⟩
theorem ET.put {L:TLos} (h:ET G env L) {lo:TLo} (hc:L[c]? = some lo) (ht:TyOk th.kind) (hp:TPl th lo):ET (zSy G x th) (zSy env x c) L:=fun y ty hy=>by
 rw[zPn] at hy
 by_cases e:y=x
 · rw[if_pos e] at hy
   cases hy
   exact⟨ht,c,lo,by rw[zPn,if_pos e],hc,hp⟩
 · rw[if_neg e] at hy
   obtain⟨h1,c',l,h2,h3,h4⟩:=h y ty hy
   exact⟨h1,c',l,by rw[zPn,if_neg e];exact h2,h3,h4⟩
theorem ET.none {L:TLos}:ET zN env L:=fun x th h=>by cases h
theorem SR.load {L:TLos} (h:SR L m1 m2) {lo:TLo} (hc:L[c]? = some lo) {i:Int} (h0:0≤i) (h1:i<lo.size) :
  ∃v1 v2,z1M m1 c i=.ok v1∧z1M m2 c i=.ok v2∧tW v1∧tW v2∧(lo.label=0→v1=v2):=by
 obtain⟨a,b,ha,hb,_,_,l1,l2,v,v3,he⟩:=h.at_ c lo hc;have hi1:i.toNat<a.l.length:=by omega
 have hi2:i.toNat<b.l.length:=by omega
 refine⟨a.l[i.toNat],b.l[i.toNat],?_,?_,v _ (List.getElem_mem hi1),v3 _ (List.getElem_mem hi2),fun hz=>?_⟩
 · unfold z1M;rw[ha];simp only;rw[if_pos h0,List.getElem?_eq_getElem hi1]
 · unfold z1M;rw[hb];simp only;rw[if_pos h0,List.getElem?_eq_getElem hi2]
 have:=he hz;subst this;rfl
theorem zN9 (o:Bool) (v:Int):tW (if o=true then v % 256 else v % 4294967296):=by
 split
 · exact⟨by omega,by omega⟩
 exact⟨by omega,by omega⟩
theorem zlZ {l:List Int} (h:∀v∈l,tW v) {u:Int} (hu:tW u):∀v∈l.set i u,tW v:=fun v hv=>by
 rcases List.mem_or_eq_of_mem_set hv with h1 | h1
 · exact h v h1
 · rw[h1];exact hu
theorem SR.store {L:TLos} (h:SR L m1 m2) {lo:TLo} (hc:L[c]? = some lo) {i v1 v2:Int} (h0:0≤i) (h1:i<lo.size) (hv:lo.label=0→v1=v2) :
  ∃n1 n2,zbN m1 c i v1=.ok n1∧zbN m2 c i v2=.ok n2∧SR L n1 n2:=by
 obtain⟨a,b,ha,hb,o1,o2,l1,l2,v,v3,he⟩:=h.at_ c lo hc;have hi1:i.toNat<a.l.length:=by omega
 have hi2:i.toNat<b.l.length:=by omega
 refine⟨m1.set c ⟨a.oct,a.l.set i.toNat (if a.oct=true then v1 % 256 else v1 % 4294967296)⟩,m2.set c ⟨b.oct,b.l.set i.toNat (if b.oct=true then v2 % 256 else v2 % 4294967296)⟩,?_,?_,⟨by rw[List.length_set];exact h.len1,by rw[List.length_set];exact h.len2,fun k l hk=>?_⟩⟩
 · unfold zbN;rw[ha];simp only;rw[if_pos ⟨h0,hi1⟩]
 · unfold zbN;rw[hb];simp only;rw[if_pos ⟨h0,hi2⟩]
 by_cases e:k=c
 · subst e;rw[hc] at hk;cases hk;have hk1:k<m1.length:=(List.getElem?_eq_some_iff.1 ha).1;have hk2:k<m2.length:=(List.getElem?_eq_some_iff.1 hb).1;refine⟨_,_,List.getElem?_set_self hk1,List.getElem?_set_self hk2,o1,o2,by simp only[List.length_set];exact l1,by simp only[List.length_set];exact l2,zlZ v (zN9 _ _),zlZ v3 (zN9 _ _),fun hz=>?_⟩;have e1:=he hz;have e2:=hv hz;subst e1 e2;rfl
 obtain⟨x,y,h3,h4,h5⟩:=h.at_ k l hk;exact⟨x,y,by rw[List.getElem?_set_ne (Ne.symm e)];exact h3,by rw[List.getElem?_set_ne (Ne.symm e)];exact h4,h5⟩
theorem SR.atC {L:TLos} (h:SR L m1 m2) {lo:TLo} (hx:env x=some c) (hc:L[c]? = some lo) (i:Int) :
  ((lo.size:Int)≤i→tAtC m1 env x i=.trap∧tAtC m2 env x i=.trap)∧(i<lo.size→tAtC m1 env x i=.ok c∧tAtC m2 env x i=.ok c):=by
 obtain⟨a,b,ha,hb,_,_,l1,l2,_⟩:=h.at_ c lo hc;unfold tAtC;rw[hx];simp only;rw[ha,hb];simp only;rw[l1,l2];exact⟨fun hi=>⟨if_pos hi,if_pos hi⟩,fun hi=>⟨if_neg (by omega),if_neg (by omega)⟩⟩
end
section
variable {T:Type}
theorem zx6 {G:ByteArray→Option T} {a:ByteArray} {t:T} (h:G a=none):zah (zSy G a t) a=G:=by
 funext x;unfold zah zSy;by_cases e:x=a
 · rw[if_pos e,e,h]
 rw[if_neg e,if_neg e]
theorem zK3 (G:ByteArray→Option T) (a b:ByteArray):zah (zah G a) b=zah (zah G b) a:=by
 funext x;unfold zah;by_cases e:x=b
 · rw[if_pos e];split <;> rfl
 rw[if_neg e];split <;> rfl
theorem z86:∀(l:List TSt) (G:TGam) (a:ByteArray),zcx (zah G a) l=zah (zcx G l) a
 | [],G,a=>rfl
 | s::l,G,a=>by
  unfold zcx
  split
  · rw[zK3,z86 l]
  · rw[z86 l]
def z6j (G:TGam) (s:TSt) (G':TGam):Prop:=((s.kind=1∨s.kind=2)∧G s.name=none∧∃t,G'=zSy G s.name t)∨(¬(s.kind=1∨s.kind=2)∧G'=G)
theorem zCe (f:TGam→TSt→TR TGam) (hf:∀G s G',f G s=.ok G'→z6j G s G'):∀(l:List TSt) (G G':TGam),zX9 f G l=.ok G'→zcx G' l=G
 | [],G,G',h=>by cases h;rfl
 | s::l,G,G',h=>by
  obtain⟨G1,h1,h2⟩:=TR.bind_ok h
  have ih:=zCe f hf l G1 G' h2
  unfold zcx
  rcases hf G s G1 h1 with⟨hk,hn,t,rfl⟩ | ⟨hk,rfl⟩
  · rw[if_pos hk,z86,ih,zx6 hn]
  · rw[if_neg hk,ih]
theorem zfZ (n:Nat) (K:TKs) (g:TFu):(∀G last s G',zE n K g G last s=.ok G'→z6j G s G')∧(∀G l G',zXK n K g G l=.ok G'→G'=G):=by
 induction n with
 | zero=>exact⟨fun G last s G' h=>(by cases s;cases h),fun G l G' h=>(by cases h)⟩
 | succ n ih =>
  obtain⟨ih1,ih2⟩:=ih;constructor
  · intro G last s G' h;obtain⟨kind,pos,most,name,ty,args,body,els,has⟩:=s;unfold zE at h;by_cases k1:kind=1
    · rw[if_pos k1] at h;cases args with
      | nil=>cases h
      | cons x xs=>obtain⟨t,h1,h2⟩:=TR.bind_ok h;obtain⟨h3,h4⟩:=zO3 h2;exact Or.inl ⟨Or.inl k1,h3,_,h4⟩
    rw[if_neg k1] at h;by_cases k2:kind=2
    · rw[if_pos k2] at h;obtain⟨t,h1,h2⟩:=TR.bind_ok h;obtain⟨h3,h4⟩:=zO3 h1;obtain⟨_,h5⟩:=zP h2;cases h5;exact Or.inl ⟨Or.inr k2,h3,_,h4⟩
    rw[if_neg k2] at h;refine Or.inr ⟨fun hk=>hk.elim k1 k2,?_⟩;by_cases k3:kind=3
    · rw[if_pos k3] at h;cases args with
      | nil=>cases h
      | cons x xs=>obtain⟨v,h1,h2⟩:=TR.bind_ok h;obtain⟨t,h3,h4⟩:=TR.bind_ok h2;obtain⟨_,h5⟩:=zP h4;obtain⟨_,h6⟩:=zP h5;cases h6;rfl
    rw[if_neg k3] at h;by_cases k4:kind=4
    · rw[if_pos k4] at h;match args,h with
      | [],h=>cases h
      | [_],h=>cases h
      | x::y::_,h=>obtain⟨_,h1,h2⟩:=TR.bind_ok h;obtain⟨v,h3,h4⟩:=TR.bind_ok h2;obtain⟨t,h5,h6⟩:=TR.bind_ok h4;obtain⟨_,h7⟩:=zP h6;obtain⟨_,h8⟩:=zP h7;cases h8;rfl
    rw[if_neg k4] at h;by_cases k5:kind=5
    · rw[if_pos k5] at h;cases args with
      | nil=>cases h
      | cons x xs=>obtain⟨_,h1,h2⟩:=TR.bind_ok h;obtain⟨G1,h3,h4⟩:=TR.bind_ok h2;rw[ih2 _ _ _ h4,ih2 _ _ _ h3]
    rw[if_neg k5] at h;by_cases k6:kind=6
    · rw[if_pos k6] at h;cases args with
      | nil=>cases h
      | cons x xs=>obtain⟨_,h1,h2⟩:=TR.bind_ok h;obtain⟨G1,h3,h4⟩:=TR.bind_ok h2;obtain⟨_,h5⟩:=zP h4;obtain⟨G2,h6,h7⟩:=TR.bind_ok h5;obtain⟨h8,h9⟩:=zO3 h3;cases h7;rw[ih2 _ _ _ h6,h9,zx6 h8]
    rw[if_neg k6] at h;by_cases k7:kind=7
    · rw[if_pos k7] at h;cases args with
      | nil=>cases h
      | cons x xs=>obtain⟨_,h1,h2⟩:=TR.bind_ok h;cases h2;rfl
    rw[if_neg k7] at h;by_cases k8:kind=8
    · rw[if_pos k8] at h;cases args with
      | nil=>cases h
      | cons x xs=>obtain⟨_,h1,h2⟩:=TR.bind_ok h;obtain⟨_,h3⟩:=zP h2;obtain⟨_,h4⟩:=zP h3;cases h4;rfl
    rw[if_neg k8] at h;cases h;rfl
  intro G l G' h;unfold zXK at h;obtain⟨G1,h1,h2⟩:=TR.bind_ok h;cases h2;exact zCe _ (fun G s G' h=>ih1 G false s G' h) l G G1 h1
theorem zBy (x y:Nat) (h:x<4294967296):x &&& y<4294967296:=Nat.lt_of_le_of_lt Nat.and_le_left h
theorem zjj (x y:Nat) (hx:x<4294967296) (hy:y<4294967296):x ||| y<4294967296:=Nat.or_lt_two_pow (n:=32) hx hy
theorem zQe (x y:Nat) (hx:x<4294967296) (hy:y<4294967296):x ^^^ y<4294967296:=Nat.xor_lt_two_pow (n:=32) hx hy
theorem zCo (b:Bool):wMask b<4294967296:=by unfold wMask;split <;> omega
theorem zMX (a:Int):wNot a<4294967296:=by unfold wNot;omega
theorem zYz (a n:Int):wRor a n<4294967296:=by
 unfold wRor;have h1:=zpr n;have h2:=zWQ a;generalize wd a=x at *;generalize sh n=k at *;have e:2 ^ k*2 ^ (32-k)=4294967296:=by rw[←Nat.pow_add,show k+(32-k)=32 by omega]
 have hp:0<2 ^ k:=Nat.pow_pos (by decide);have hq:0<2 ^ (32-k):=Nat.pow_pos (by decide);generalize 2 ^ k=P at *;generalize 2 ^ (32-k)=Q at *;have h3:x / P<Q:=by rw[Nat.div_lt_iff_lt_mul hp,Nat.mul_comm,e];exact h2
 have h4:x % P+1≤P:=Nat.mod_lt x hp;have h5:=Nat.mul_le_mul_right Q h4;rw[e,Nat.succ_mul] at h5;omega
theorem zqm {c:Prop} [Decidable c] {a b:Int} (ha:tW a) (hb:tW b):tW (if c then a else b):=by
 by_cases h:c
 · rw[if_pos h];exact ha
 rw[if_neg h];exact hb
theorem zQC (a b:Int):wHigh a b<4294967296:=by
 unfold wHigh;rw[Nat.div_lt_iff_lt_mul (by decide)];exact Nat.mul_lt_mul'' (zWQ a) (zWQ b)
theorem zEf (a b:Int):wCarry a b<4294967296:=by
 unfold wCarry;have ha:=zWQ a;have hb:=zWQ b;omega
theorem zXT (kind a b:Int):tW (tTwo kind a b) :=
 zqm (zDZ (zWQ _)) (zqm (zDZ (zWQ _)) (zqm (zDZ (Nat.mod_lt _ (by decide))) (zqm (zDZ (zBy _ _ (zWQ a))) (zqm (zDZ (zjj _ _ (zWQ a) (zWQ b))) (zqm (zDZ (zQe _ _ (zWQ a) (zWQ b)))
  (zqm (zDZ (zCo _)) (zqm (zDZ (zMX _)) (zqm (zDZ (zCo _)) (zqm (zDZ (zMX _)) (zqm (zDZ (zCo _)) (zqm (zDZ (zMX _)) (zqm (zDZ (zQC a b)) (zDZ (zEf a b))))))))))))))
theorem z3x (kind num a:Int) (h:tW a):tW (zay kind num a) :=
 zqm (zDZ (zMX _)) (zqm (zDZ (zWQ _)) (zqm (zDZ (Nat.mod_lt _ (by decide))) (zqm (zDZ (Nat.lt_of_le_of_lt (Nat.div_le_self _ _) (zWQ a))) (zqm (zDZ (zYz a num)) h))))
theorem zON (a b c:Int):tW (wSelect a b c:Nat):=zDZ (zjj _ _ (zBy _ _ (zWQ b)) (zBy _ _ (zWQ c)))
end
section
variable {G:TGam} {L:TLos} {a:Int} {args:List TEx} {b:Int} {env:TEnv} {f:TMem→TEx→TR (Int×TMem)} {fc:TEx→TR TTy} {fs:TEnv→TMem→TSt→TR (Int×TEnv×TMem)} {kind lab:Int} {name:ByteArray} {nm:ByteArray→Bool} {np:Nat} {num pos:Int} {t:TTy}
def VRel (lab:Int) (L:TLos) (a b:Int×TMem):Prop:=∃L',Ext L L'∧SR L' a.2 b.2∧tW a.1∧tW b.1∧(lab=0→a.1=b.1)
def SRel (G:TGam) (lab:Int) (L:TLos) (a b:Int×TEnv×TMem):Prop:=∃L',Ext L L'∧SR L' a.2.2 b.2.2∧a.2.1=b.2.1∧ET G a.2.1 L'∧tW a.1∧tW b.1∧(lab=0→a.1=b.1)
def ERel (G:TGam) (L:TLos) (a b:TEnv×TMem):Prop:=∃L',Ext L L'∧SR L' a.2 b.2∧a.1=b.1∧ET G a.1 L'
def LRel (k:Nat) (lab:Int) (L:TLos) (a b:List Int×TMem):Prop:=∃L',Ext L L'∧SR L' a.2 b.2∧a.1.length=k∧b.1.length=k∧(∀v∈a.1,tW v)∧(∀v∈b.1,tW v)∧(lab=0→a.1=b.1)
theorem ET.sub {G1:TGam} (h:ET G1 env L) (hs:∀x th,G x=some th→G1 x=some th):ET G env L:=fun x th hx=>h x th (hs x th hx)
def zEe (fc:TEx→TR TTy) (f:TMem→TEx→TR (Int×TMem)) (G:TGam) (env:TEnv) (x:TEx):Prop :=
 ∀t,fc x=.ok t→TyV t∧∀L m1 m2,ET G env L→SR L m1 m2→RR (VRel t.label L) (f m1 x) (f m2 x)
theorem zh2 (ha:a=0∨a=1) (hb:b=0∨b=1):(max a b=0∨max a b=1)∧(max a b=0→a=0∧b=0):=by omega
theorem zwV:∀(l:List TEx),(∀x∈l,zEe fc f G env x)→∀(lab:Int) (es:List Int) (r:Int×List Int),zQ1 fc lab es l=.ok r→(lab=0∨lab=1) →
  (r.1=0∨r.1=1)∧(r.1=0→lab=0)∧(∃e,r.2=es++e∧e.length=l.length∧∀a∈e,a≠2)∧∀L m1 m2,ET G env L→SR L m1 m2→RR (LRel l.length r.1 L) (zQQ f m1 l) (zQQ f m2 l)
 | [],_,lab,es,r,h,hl=>by
  cases h
  exact⟨hl,fun h=>h,⟨[],by simp,rfl,fun a ha=>by cases ha⟩,fun L m1 m2 he hs=>RR.ok ⟨L,Ext.refl L,hs,rfl,rfl,(fun v hv=>by cases hv),(fun v hv=>by cases hv),fun _=>rfl⟩⟩
 | x::l,hv,lab,es,r,h,hl=>by
  obtain⟨t,h1,h2⟩:=TR.bind_ok h
  obtain⟨ht,hx⟩:=hv x (by simp) t h1
  obtain⟨m1,m2⟩:=zh2 hl ht.2.2
  obtain⟨i1,i2,⟨e,i3,i4,i5⟩,i6⟩:=zwV l (fun y hy=>hv y (by simp[hy])) (max lab t.label) (es++[t.elem]) r h2 m1
  refine⟨i1,fun h=>(m2 (i2 h)).1,⟨t.elem::e,by rw[i3];simp,by simp[i4],fun a ha=>?_⟩,fun L n1 n2 he hs=>?_⟩
  · rcases List.mem_cons.1 ha with rfl | ha
    · exact ht.2.1
    exact i5 a ha
  · refine RR.bind (hx L n1 n2 he hs) fun a b ⟨L1,e1,s1,v1,v2,q1⟩=>?_
    refine RR.bind (i6 L1 a.2 b.2 (he.ext e1) s1) fun c d ⟨L2,e2,s2,k1,k2,v3,v4,q2⟩=>?_
    refine RR.ok ⟨L2,e1.trans e2,s2,by simp[k1],by simp[k2],fun v hv=>?_,fun v hv=>?_,fun hz=>?_⟩
    · rcases List.mem_cons.1 hv with rfl | hv
      · exact v1
      exact v3 v hv
    · rcases List.mem_cons.1 hv with rfl | hv
      · exact v2
      exact v4 v hv
    show a.1::c.1=b.1::d.1
    rw[q1 (m2 (i2 hz)).2,q2 hz]
theorem zDx {k:Nat} (hk:k=1∨k=2∨k=3) {a b:List Int×TMem} (h:LRel k lab L a b) :
  RR (VRel lab L) ((zE0 kind num a.1).bind fun v=>.ok (v,a.2)) ((zE0 kind num b.1).bind fun v=>.ok (v,b.2)):=by
 obtain⟨L',e,s,k1,k2,v1,v2,q⟩:=h;obtain⟨va,m1⟩:=a;obtain⟨vb,m2⟩:=b;simp only at s k1 k2 v1 v2 q ⊢;rcases hk with rfl | rfl | rfl
 · match va,vb,k1,k2 with
   | [x],[y],_,_=>refine RR.ok ⟨L',e,s,z3x _ _ _ (v1 x (by simp)),z3x _ _ _ (v2 y (by simp)),fun hz=>?_⟩;have:=q hz;simp at this;subst this;rfl
 · match va,vb,k1,k2 with
   | [x,x2],[y,y2],_,_=>refine RR.ok ⟨L',e,s,zXT _ _ _,zXT _ _ _,fun hz=>?_⟩;have:=q hz;simp at this;obtain⟨rfl,rfl⟩:=this;rfl
 match va,vb,k1,k2 with
 | [x,x2,x3],[y,y2,y3],_,_=>refine RR.ok ⟨L',e,s,zON _ _ _,zON _ _ _,fun hz=>?_⟩;have:=q hz;simp at this;obtain⟨rfl,rfl,rfl⟩:=this;rfl
theorem zlu {es:List Int} {q:Int×Bool} (h:zY1 kind es=.ok q) (he:∀a∈es,a≠2):q.1≠2:=by
 unfold zY1 at h;by_cases k1:kind=7
 · rw[if_pos k1] at h;match es,h with
   | [],h=>cases h
   | a::_,h=>cases h;simp
 rw[if_neg k1] at h;by_cases k2:kind=26
 · rw[if_pos k2] at h;match es,h with
   | [],h=>cases h
   | a::_,h=>cases h;simp
 rw[if_neg k2] at h;by_cases k3:kind=11∨kind=12∨kind=13
 · rw[if_pos k3] at h;match es,h,he with
   | [],h,_=>cases h
   | [_],h,_=>cases h
   | a::b::_,h,he=>cases h;exact he a (by simp)
 rw[if_neg k3] at h;by_cases k4:kind=25
 · rw[if_pos k4] at h;match es,h,he with
   | [],h,_=>cases h
   | [_],h,_=>cases h
   | [_,_],h,_=>cases h
   | a::b::c::_,h,he=>cases h;exact he b (by simp)
 rw[if_neg k4] at h;by_cases k5:17≤kind∧kind≤22
 · rw[if_pos k5] at h;cases h;simp
 rw[if_neg k5] at h;cases h;simp
theorem z3N (h:tpX nm np (.mk kind pos num name args)=true) :
  ∃np',(∀x∈args,tpX nm np' x=true)∧(kind=1→tW num)∧(kind≠1→kind≠2→kind≠3→kind≠4→args.length=1∨args.length=2∨args.length=3):=by
 cases np
 case zero=>cases h
 rename_i np;unfold tpX at h;simp only[Bool.and_eq_true,List.all_eq_true] at h;obtain⟨h1,h2,h3,h4⟩:=h;refine⟨np,h4,fun k=>?_,fun a1 a2 a3 a4=>?_⟩
 · unfold z2m at h3;simp only[Bool.or_eq_true,Bool.and_eq_true,decide_eq_true_eq] at h3;unfold tW;omega
 cases ea:z8g kind
 case none=>rw[ea] at h1;cases h1
 rename_i a;rw[ea] at h1;simp only[Bool.not_eq_true',Bool.and_eq_false_iff,Bool.not_eq_false',decide_eq_false_iff_not,decide_eq_true_eq] at h1;unfold z8g at ea;rw[if_neg (by omega),if_neg a4] at ea;by_cases c1:kind=3∨(5≤kind∧kind≤7)∨(14≤kind∧kind≤16)∨kind=26
 · rw[if_pos c1] at ea;cases ea;omega
 rw[if_neg c1] at ea;by_cases c2:(8≤kind∧kind≤13)∨(17≤kind∧kind≤24)
 · rw[if_pos c2] at ea;cases ea;omega
 rw[if_neg c2] at ea;by_cases c3:kind=25
 · rw[if_pos c3] at ea;cases ea;omega
 rw[if_neg c3] at ea;cases ea
theorem zFm {most:Int} {ty:TTy} {body els:List TSt} {has:Bool} (h:tpS nm np (.mk kind pos most name ty args body els has)=true) :
  ∃np',(∀x∈args,tpX nm np' x=true)∧(∀s∈body,tpS nm np' s=true)∧(∀s∈els,tpS nm np' s=true)∧(kind=2→zQp ty=true):=by
 cases np
 case zero=>cases h
 rename_i np;unfold tpS at h;simp only[Bool.and_eq_true,List.all_eq_true] at h;obtain⟨h1,h2,h3⟩:=h;cases ea:zcC kind
 case none=>rw[ea] at h1;cases h1
 rename_i sh;rw[ea] at h1;unfold tpS0 at h1;simp only[Bool.and_eq_true,List.all_eq_true] at h1;obtain⟨_,_,_,h4,h5,_⟩:=h1;refine⟨np,h4,h2,h3,fun k=>?_⟩;subst k;have:sh=⟨true,true,0,false,false,false⟩:=by unfold zcC at ea;rw[if_neg (by omega),if_pos rfl] at ea;exact (Option.some.inj ea).symm
 rw[this] at h5;exact h5
theorem z3M (h:zQp t=true):TyOk t:=by
 unfold zQp z2m at h;simp only[Bool.and_eq_true,Bool.or_eq_true,decide_eq_true_eq,Bool.true_and] at h;obtain⟨h1,h2,h3⟩:=h;refine⟨by omega,fun e=>?_,h1⟩;rw[if_neg (by omega),if_neg (by omega),if_pos e] at h3;exact of_decide_eq_true h3
theorem zdw {c:Int} (h1:zKq a b=true) (h2:zKq b c=true):zKq a c=true:=by
 unfold zKq at *;simp only[Bool.or_eq_true,decide_eq_true_eq] at *;omega
theorem zjA (h:zKq a b=true) (hb:b=0):a=0:=by
 unfold zKq at h;simp only[Bool.or_eq_true,decide_eq_true_eq] at h;omega
theorem zJg (h:a=0∨a=1):zKq a a=true:=by
 unfold zKq;simp only[Bool.or_eq_true,decide_eq_true_eq];omega
theorem zkj {v1 v2:Int} (h1:tW v1) (h2:tW v2) (h:lab=0→v1=v2):zZl ⟨false,1,lab⟩ ⟨false,[v1]⟩ ⟨false,[v2]⟩ :=
 ⟨rfl,rfl,rfl,rfl,fun v hv=>by rw[List.mem_singleton.1 hv];exact h1,fun v hv=>by rw[List.mem_singleton.1 hv];exact h2,fun hz=>by rw[h hz]⟩
theorem z2X {b:Bool} (hl:t.len=0) (he:t.elem≠2) (hf:zKq lab t.label=true) (ho:b=false→lab=t.label):TPl ⟨t,b⟩ ⟨false,1,lab⟩ :=
 ⟨by simp[he],by simp only[hl];rfl,hf,ho⟩
theorem ze2:∀(ps:List TPa) (xs:List TEx) (Gi G':TGam) (inner:TEnv) (u:Unit),(∀x∈xs,zEe fc f G env x)→(∀p∈ps,zQp p.ty=true)→zZh fc G ps xs=.ok u→zUz Gi ps=.ok G' →
  ∀L m1 m2,ET G env L→ET Gi inner L→SR L m1 m2→RR (ERel G' L) (zvi f env ps xs inner m1) (zvi f env ps xs inner m2)
 | [],xs,Gi,G',inner,u,_,_,_,hp,L,m1,m2,he,hi,hs=>by
  cases hp
  cases xs <;> exact RR.ok ⟨L,Ext.refl L,hs,rfl,hi⟩
 | p::ps,[],Gi,G',inner,u,_,_,hh,hp,L,m1,m2,he,hi,hs=>by cases hh
 | p::ps,x::xs,Gi,G',inner,u,hv,hk,hh,hp,L,m1,m2,he,hi,hs=>by
  obtain⟨_,h1,h2⟩:=TR.bind_ok hh
  obtain⟨G1,p1,p2⟩:=TR.bind_ok hp
  obtain⟨_,p3⟩:=zP p2
  obtain⟨_,p4⟩:=zP p3
  obtain⟨p5,rfl⟩:=zO3 p1
  have hty:=z3M (hk p (by simp))
  have ih:=fun inner=>ze2 ps xs _ G' inner _ (fun y hy=>hv y (by simp[hy])) (fun y hy=>hk y (by simp[hy])) h2 p4
  unfold z6w at h1
  unfold zvi
  by_cases hl:0<p.ty.len
  · rw[if_neg (by omega)] at h1
    obtain⟨_,h3⟩:=zP h1
    obtain⟨t,h4,h5⟩:=TR.bind_ok h3
    obtain⟨c1,h6⟩:=zP h5
    obtain⟨c2,_⟩:=zP h6
    simp only[Bool.and_eq_true,Bool.or_eq_true,decide_eq_true_eq,Bool.not_eq_true',Bool.and_eq_false_iff] at c1 c2
    obtain⟨_,c,lo,e1,e2,e3⟩:=he _ _ (zNA h4)
    rw[if_pos hl,if_pos hl,e1]
    refine ih (zSy inner p.name c) L m1 m2 he (hi.put (th:=⟨p.ty,!p.out⟩) e2 hty ⟨by rw[e3.oct,c1.1],by rw[e3.size,c1.2.1],zdw e3.flow c2.1,fun ho=>?_⟩) hs
    have ho:p.out=true:=by simpa using ho
    rw[e3.own (c1.2.2.resolve_left (by rw[ho];simp))]
    exact c2.2.resolve_left (by rw[ho];simp)
  · have hl0:p.ty.len=0:=by have:=hty.1;omega
    rw[if_pos hl0] at h1
    obtain⟨t,h3,h4⟩:=TR.bind_ok h1
    obtain⟨_,h5⟩:=zP h4
    obtain⟨c2,_⟩:=zP h5
    obtain⟨ht,hx⟩:=hv x (by simp) t h3
    rw[if_neg hl,if_neg hl]
    refine RR.bind (hx L m1 m2 he hs) fun a b ⟨L1,e1,s1,v,v1,q⟩=>?_
    rw[s1.len1,s1.len2]
    have hlo:(⟨false,1,p.ty.label⟩:TLo).label=p.ty.label:=rfl
    obtain hr:=ih (zSy inner p.name L1.length) (L1++[⟨false,1,p.ty.label⟩]) (a.2++[⟨false,[a.1]⟩]) (b.2++[⟨false,[b.1]⟩]) ((he.ext e1).ext ⟨_,rfl⟩)
     ((hi.ext e1).push (th:=⟨p.ty,!p.out⟩) hty (z2X hl0 (fun e=>by have:=hty.2.1 e;omega) (zJg hty.2.2) (fun _=>rfl)))
     (s1.push (zkj v v1 (fun hz=>q (zjA c2 hz))))
    rcases hr with⟨r1,r2⟩ | ⟨x',y',r1,r2,L2,e2,s2,r3,r4⟩
    · exact Or.inl ⟨r1,r2⟩
    exact Or.inr ⟨x',y',r1,r2,L2,(e1.trans ⟨_,rfl⟩).trans e2,s2,r3,r4⟩
def StOk (fc:TGam→Bool→TSt→TR TGam) (fs:TEnv→TMem→TSt→TR (Int×TEnv×TMem)) (lab:Int) (s:TSt):Prop :=
 ∀G last G',fc G last s=.ok G'→∀env L m1 m2,ET G env L→SR L m1 m2→RR (SRel G' (if s.kind=8 then lab else 0) L) (fs env m1 s) (fs env m2 s)
theorem SRel.ext {L1:TLos} {a b:Int×TEnv×TMem} (h:SRel G lab L1 a b) (e:Ext L L1):SRel G lab L a b:=by
 obtain⟨L',e',h⟩:=h;exact⟨L',e.trans e',h⟩
theorem RR.mono {T:Type} {R S:T→T→Prop} {a b:TR T} (h:RR R a b) (k:∀x y,R x y→S x y):RR S a b:=by
 rcases h with h | ⟨x,y,h1,h2,h3⟩
 · exact Or.inl h
 exact Or.inr ⟨x,y,h1,h2,k x y h3⟩
theorem zpV {fc:TGam→Bool→TSt→TR TGam}:∀(l:List TSt) (r:Bool) (G:TGam) (q:Bool×TGam),(∀s∈l,StOk fc fs lab s)→zxZ fc r G l=.ok q →
  ∀env L m1 m2 v1 v2,ET G env L→SR L m1 m2→tW v1→tW v2→((if r=true then lab else 0)=0→v1=v2)→RR (SRel q.2 (if q.1=true then lab else 0) L) (tRun fs v1 env m1 l) (tRun fs v2 env m2 l)
 | [],r,G,q,_,h,env,L,m1,m2,v1,v2,he,hs,v,v3,hv=>by
  cases h
  exact RR.ok ⟨L,Ext.refl L,hs,rfl,he,v,v3,hv⟩
 | s::l,r,G,q,ho,h,env,L,m1,m2,v1,v2,he,hs,v,v3,hv=>by
  obtain⟨G1,h1,h2⟩:=TR.bind_ok h
  refine RR.bind (ho s (by simp) G _ G1 h1 env L m1 m2 he hs) fun a b ⟨L1,e1,s1,q1,t1,v,v3,q2⟩=>?_
  rw[←q1]
  refine (zpV l _ G1 q (fun y hy=>ho y (by simp[hy])) h2 a.2.1 L1 a.2.2 b.2.2 a.1 b.1 t1 s1 v v3 (fun hz=>q2 ?_)).mono fun x y hx=>hx.ext e1
  by_cases k:s.kind=8
  · rw[if_pos k];rw[if_pos (decide_eq_true k)] at hz;exact hz
  · rw[if_neg k]
theorem zdy {fc:TGam→TSt→TR TGam}:∀(l:List TSt) (G G':TGam),(∀s∈l,∀G G',fc G s=.ok G'→∀env L m1 m2,ET G env L→SR L m1 m2→RR (SRel G' 0 L) (fs env m1 s) (fs env m2 s))→zX9 fc G l=.ok G' →
  ∀env L m1 m2 v1 v2,ET G env L→SR L m1 m2→tW v1→tW v2→v1=v2→RR (SRel G' 0 L) (tRun fs v1 env m1 l) (tRun fs v2 env m2 l)
 | [],G,G',_,h,env,L,m1,m2,v1,v2,he,hs,v,v3,hv=>by
  cases h
  exact RR.ok ⟨L,Ext.refl L,hs,rfl,he,v,v3,fun _=>hv⟩
 | s::l,G,G',ho,h,env,L,m1,m2,v1,v2,he,hs,v,v3,hv=>by
  obtain⟨G1,h1,h2⟩:=TR.bind_ok h
  refine RR.bind (ho s (by simp) G G1 h1 env L m1 m2 he hs) fun a b ⟨L1,e1,s1,q1,t1,v,v3,q2⟩=>?_
  rw[←q1]
  exact (zdy l G1 G' (fun y hy=>ho y (by simp[hy])) h2 a.2.1 L1 a.2.2 b.2.2 a.1 b.1 t1 s1 v v3 (q2 rfl)).mono fun x y hx=>hx.ext e1
theorem z4K {fb:TEnv→TMem→TR (Int×TEnv×TMem)} (hG:G name=none) (hb:∀env L m1 m2,ET (zSy G name ⟨⟨0,0,0⟩,true⟩) env L→SR L m1 m2→RR (SRel (zSy G name ⟨⟨0,0,0⟩,true⟩) 0 L) (fb env m1) (fb env m2)) :
  ∀(k i:Nat) env L m1 m2,i+k<4294967296→ET G env L→SR L m1 m2→RR (ERel G L) (zRD name fb k i env m1) (zRD name fb k i env m2)
 | 0,i,env,L,m1,m2,_,he,hs=>RR.ok ⟨L,Ext.refl L,hs,rfl,he⟩
 | k+1,i,env,L,m1,m2,hi,he,hs=>by
  unfold zRD
  rw[hs.len1,hs.len2]
  refine RR.bind (hb (zSy env name L.length) (L++[⟨false,1,0⟩]) _ _ (he.push (th:=⟨⟨0,0,0⟩,true⟩) ⟨Int.le_refl _,(fun e=>absurd e (by decide)),Or.inl rfl⟩ (z2X rfl (by decide) (zJg (Or.inl rfl)) (fun _=>rfl)))
   (hs.push (zkj (zDZ (by omega)) (zDZ (by omega)) (fun _=>rfl)))) fun a b ⟨L1,e1,s1,q1,t1,_,_,_⟩=>?_
  rw[←q1]
  refine (z4K hG hb k (i+1) a.2.1 L1 a.2.2 b.2.2 (by omega) (t1.sub fun x th hx=>?_) s1).mono fun x y ⟨L2,e2,h⟩=>⟨L2,(Ext.trans ⟨_,rfl⟩ e1).trans e2,h⟩
  rw[zPn]
  by_cases e:x=name
  · rw[e,hG] at hx;cases hx
  · rw[if_neg e];exact hx
end
section
variable {G:TGam} {n:Nat}
def zFG (F:ByteArray→Option TFu) (nm:ByteArray→Bool) (B:Nat):Nat→TKs→Prop
 | 0,K=>∀x,K x=none
 | r+1,K=>∀x k,K x=some k→F x=some k.f∧sts k.f.body≤B∧(∃np,tpF nm np k.f=true)∧∃nc K' K'',zFG F nm B r K'∧zwP nc K' k.f=.ok K''
theorem zFG.up {F:ByteArray→Option TFu} {nm:ByteArray→Bool} {B:Nat}:∀{r:Nat} {K:TKs},zFG F nm B r K→zFG F nm B (r+1) K
 | 0,K,h=>fun x k hk=>by rw[h x] at hk;cases hk
 | r+1,K,h=>fun x k hk=>by
  obtain⟨h1,h2,h3,nc,K',K'',h4,h5⟩:=h x k hk
  exact⟨h1,h2,h3,nc,K',K'',zFG.up h4,h5⟩
theorem zm9 {x:TEx}:∀{l:List TEx},x∈l→exd x≤exds l
 | y::l,h=>by
  unfold exds
  rcases List.mem_cons.1 h with rfl | h
  · omega
  · have:=zm9 h;omega
theorem zQV {x:TSt}:∀{l:List TSt},x∈l→std x≤sts l
 | y::l,h=>by
  unfold sts
  rcases List.mem_cons.1 h with rfl | h
  · omega
  · have:=zQV h;omega
def GOk (G:TGam):Prop:=∀x th,G x=some th→TyOk th.kind
theorem ET.gok {env:TEnv} {L:TLos} (h:ET G env L):GOk G:=fun x th hx=>(h x th hx).1
structure NiAt (F:ByteArray→Option TFu) (nm:ByteArray→Bool) (B n:Nat):Prop where
 val:∀nc np r K G env x,GOk G→zFG F nm B r K→tpX nm np x=true→exd x+r*(B+4)≤n→zEe (fun x=>zi nc K G x) (fun m x=>tVal n F env m x) G env x
 call:∀nc np r K G env name args f,zFG F nm B r K→(∀x∈args,tpX nm np x=true)→exds args+1+r*(B+4)≤n→zRu nc K G name args=.ok f →
  (f.has=true→TyV f.res)∧∀L m1 m2,ET G env L→SR L m1 m2→RR (VRel (if f.has=true then f.res.label else 1) L) (zQ3 n F env m1 name args) (zQ3 n F env m2 name args)
 block:∀nc np r K g G G' l,zFG F nm B r K→(∀s∈l,tpS nm np s=true)→sts l+1+r*(B+4)≤n→zXK nc K g G l=.ok G' →
  ∀env L m1 m2,ET G env L→SR L m1 m2→RR (SRel G 0 L) (zK n F env m1 l) (zK n F env m2 l)
 stmt:∀nc np r K g s,zFG F nm B r K→tpS nm np s=true→std s+r*(B+4)≤n→StOk (fun G last s=>zE nc K g G last s) (fun env m s=>z8H n F env m s) g.res.label s
theorem zgt {K:TKs} {g:TFu} {G':TGam} {s:TSt} {last:Bool} (h:zE n K g G last s=.ok G') (hk:s.kind=8):last=true∧g.has=true:=by
 cases n
 case zero=>cases s;cases h
 rename_i n;obtain⟨kind,pos,most,name,ty,args,body,els,has⟩:=s;have hk:kind=8:=hk;unfold zE at h;rw[if_neg (by omega),if_neg (by omega),if_neg (by omega),if_neg (by omega),if_neg (by omega),if_neg (by omega),if_neg (by omega),if_pos hk] at h;cases args with
 | nil=>cases h
 | cons x xs=>obtain⟨_,h1,h2⟩:=TR.bind_ok h;obtain⟨h3,_⟩:=zP h2;simp only[Bool.and_eq_true] at h3;exact⟨h3.1,h3.2.1⟩
section
variable {F:ByteArray→Option TFu} {nm:ByteArray→Bool} {B:Nat}
theorem zCR (hi:NiAt F nm B n):∀nc np r K G env x,GOk G→zFG F nm B r K→tpX nm np x=true→exd x+r*(B+4)≤n+1→zEe (fun x=>zi nc K G x) (fun m x=>tVal (n+1) F env m x) G env x:=by
 intro nc np r K G env x hgo hg hp hn t ht;obtain⟨kind,pos,num,name,args⟩:=x;obtain⟨np',hpa,hnum,hlen⟩:=z3N hp;have hex:exd (.mk kind pos num name args)=exds args+2:=rfl;have hxs:∀x∈args,exd x+r*(B+4)≤n:=fun x hx=>by have h1:=zm9 hx;omega
 cases nc
 case zero=>cases ht
 rename_i nc;simp only at ht ⊢;unfold zi at ht;unfold tVal;by_cases k1:kind=1
 · rw[if_pos k1] at ht;cases ht;refine⟨⟨rfl,by decide,Or.inl rfl⟩,fun L m1 m2 he hs=>?_⟩;rw[if_pos k1,if_pos k1];exact RR.ok ⟨L,Ext.refl L,hs,hnum k1,hnum k1,fun _=>rfl⟩
 rw[if_neg k1] at ht;by_cases k2:kind=2
 · rw[if_pos k2] at ht;obtain⟨th,h1,h2⟩:=TR.bind_ok ht;obtain⟨h3,h4⟩:=zP h2;cases h4;have h3:=of_decide_eq_true h3;refine⟨?_,fun L m1 m2 he hs=>?_⟩
   · have h:=hgo _ _ (zNA h1);exact⟨h3,fun e=>by have:=h.2.1 e;omega,h.2.2⟩
   obtain⟨hty,c,lo,e1,e2,e3⟩:=he _ _ (zNA h1);have hz:lo.size=1:=by have:=e3.size;rw[h3] at this;omega
   obtain⟨v1,v2,q1,q2,v,v3,q3⟩:=hs.load e2 (i:=0) (Int.le_refl 0) (by rw[hz];decide);rw[if_neg k1,if_pos k2,if_neg k1,if_pos k2,e1];simp only;rw[q1,q2];exact RR.ok ⟨L,Ext.refl L,hs,v,v3,fun hz=>q3 (zjA e3.flow hz)⟩
 rw[if_neg k2] at ht;by_cases k3:kind=3
 · rw[if_pos k3] at ht;cases args with
   | nil=>cases ht
   | cons x xs =>
    obtain⟨_,h1,h2⟩:=TR.bind_ok ht;obtain⟨th,h3,h4⟩:=TR.bind_ok h2;obtain⟨h5,h6⟩:=zP h4;cases h6;have h5:=of_decide_eq_true h5;obtain⟨ti,h7,h8,h9⟩:=zmD h1;have hth:=hgo _ _ (zNA h3);obtain⟨_,hx⟩:=hi.val nc np' r K G env x hgo hg (hpa x (by simp)) (hxs x (by simp)) ti h7;refine⟨⟨rfl,(fun e:(0:Int)=2=>absurd e (by decide)),hth.2.2⟩,fun L m1 m2 he hs=>?_⟩;rw[if_neg k1,if_neg k2,if_pos k3,if_neg k1,if_neg k2,if_pos k3];refine RR.bind (hx L m1 m2 he hs) fun a b ⟨L1,e1,s1,v,v3,q⟩=>?_;have hq:=q h9;obtain⟨_,c,lo,f1,f2,f3⟩:=(he.ext e1) _ _ (zNA h3);obtain⟨g1,g2⟩:=s1.atC f1 f2 a.1;rw[←hq];by_cases hlt:a.1<lo.size
    · obtain⟨r1,r2⟩:=g2 hlt;rw[r1,r2];obtain⟨v1,v2,q1,q2,v3,v4,q3⟩:=s1.load f2 v.1 hlt;show RR _ ((z1M a.2 c a.1).bind _) ((z1M b.2 c a.1).bind _);rw[q1,q2];exact RR.ok ⟨L1,e1,s1,v3,v4,fun hz=>q3 (zjA f3.flow hz)⟩
    obtain⟨r1,r2⟩:=g1 (by omega);rw[r1,r2];exact RR.trap
 rw[if_neg k3] at ht;by_cases k4:kind=4
 · rw[if_pos k4] at ht;obtain⟨f,h1,h2⟩:=TR.bind_ok ht;obtain⟨h3,h4⟩:=zP h2;cases h4;obtain⟨h5,h6⟩:=hi.call nc np' r K G env name args f hg hpa (by omega) h1;refine⟨h5 h3,fun L m1 m2 he hs=>?_⟩;rw[if_neg k1,if_neg k2,if_neg k3,if_pos k4,if_neg k1,if_neg k2,if_neg k3,if_pos k4];have:=h6 L m1 m2 he hs;rw[if_pos h3] at this;exact this
 rw[if_neg k4] at ht;obtain⟨⟨lab,es⟩,h1,h2⟩:=TR.bind_ok ht;obtain⟨q,h3,h4⟩:=TR.bind_ok h2;obtain⟨h5,h6⟩:=zP h4;obtain⟨_,h7⟩:=zP h6;cases h7;obtain⟨j1,_,⟨e,j2,_,j3⟩,j4⟩:=zwV (f:=fun m x=>tVal n F env m x) (env:=env) args (fun x hx=>hi.val nc np' r K G env x hgo hg (hpa x hx) (hxs x hx)) 0 [] _ h1 (Or.inl rfl);simp only[List.nil_append] at j1 j2;refine⟨⟨rfl,zlu h3 (by rw[j2];exact j3),j1⟩,fun L m1 m2 he hs=>?_⟩;rw[if_neg k1,if_neg k2,if_neg k3,if_neg k4,if_neg k1,if_neg k2,if_neg k3,if_neg k4];refine RR.bind (j4 L m1 m2 he hs) fun a b hl=>?_;have hl0:=hl;obtain⟨L1,e1,_⟩:=hl0;exact zDx (hlen k1 k2 k3 k4) hl
theorem ziy (ih:∀k,k<n+1→NiAt F nm B k):∀nc np r K G env name args f,zFG F nm B r K→(∀x∈args,tpX nm np x=true)→exds args+1+r*(B+4)≤n+1→zRu nc K G name args=.ok f →
  (f.has=true→TyV f.res)∧∀L m1 m2,ET G env L→SR L m1 m2→RR (VRel (if f.has=true then f.res.label else 1) L) (zQ3 (n+1) F env m1 name args) (zQ3 (n+1) F env m2 name args):=by
 intro nc np r K G env name args f hg hpa hn hc;have hi:=ih n (Nat.lt_succ_self n);cases nc
 case zero=>cases hc
 rename_i nc;unfold zRu at hc;cases ek:K name
 case none=>rw[ek] at hc;cases hc
 rename_i k;rw[ek] at hc;obtain⟨_,h1⟩:=zP hc;obtain⟨u,h2,h3⟩:=TR.bind_ok h1;cases h3;cases r
 case zero=>rw[hg name] at ek;cases ek
 rename_i r;obtain⟨g1,g2,⟨nf,g3⟩,nc',K',K'',g4,g5⟩:=hg name k ek;unfold tpF at g3;simp only[Bool.and_eq_true,List.all_eq_true] at g3;obtain⟨_,g6,g7,g8⟩:=g3;have hres:k.f.has=true→TyV k.f.res:=fun hh=>by rw[if_pos hh] at g8;simp only[Bool.and_eq_true,decide_eq_true_eq,Bool.not_eq_true',decide_eq_false_iff_not] at g8;exact⟨g8.2.1,g8.2.2,(z3M g8.1).2.2⟩
 refine⟨hres,fun L m1 m2 he hs=>?_⟩;unfold zwP at g5;cases en:K' k.f.name
 case some _=>rw[en] at g5;cases g5
 rw[en] at g5;obtain⟨G1,p1,p2⟩:=TR.bind_ok g5;obtain⟨q,p3,p4⟩:=TR.bind_ok p2;obtain⟨p5,_⟩:=zP p4;have hmul:(r+1)*(B+4)=r*(B+4)+(B+4):=Nat.succ_mul _ _;unfold zQ3;rw[g1];simp only;have hxs:∀x∈args,exd x+(r+1)*(B+4)≤n:=fun x hx=>by have h1:=zm9 hx;omega
 refine RR.bind (ze2 (fc:=fun x=>zi nc K G x) (f:=fun m x=>tVal n F env m x) k.f.params args zN G1 zN u (fun x hx=>hi.val nc np (r+1) K G env x he.gok hg (hpa x hx) (hxs x hx)) (fun p hp=>(g7 p hp).2) h2 p1 L m1 m2 he ET.none hs) fun a b ⟨L1,e1,s1,q1,t1⟩=>?_;rw[←q1];cases n
 case zero=>omega
 rename_i n;have hj:=ih n (by omega);unfold zK
 have hb:=zpV (fc:=fun G last s=>zE nc' K' k.f G last s) (fs:=fun env m s=>z8H n F env m s) (lab:=k.f.res.label) k.f.body false G1 q
  (fun s hs=>hj.stmt nc' nf r K' k.f s g4 (g6 s hs) (by have:=zQV hs;omega)) p3 a.1 L1 a.2 b.2 0 0 t1 s1 ⟨Int.le_refl _,by decide⟩ ⟨Int.le_refl _,by decide⟩ (fun _=>rfl)
 refine RR.bind hb fun c d ⟨L2,e2,s2,q2,_,v,v1,q3⟩=>?_;refine RR.ok ⟨L2,e1.trans e2,s2,v,v1,fun hz=>q3 ?_⟩;by_cases hh:k.f.has=true
 · rw[if_pos hh] at hz;have:q.1=true:=by rw[hh] at p5;simpa using p5
   rw[if_pos this];exact hz
 rw[if_neg hh] at hz;cases hz
theorem zNo (hi:NiAt F nm B n):∀nc np r K g G G' l,zFG F nm B r K→(∀s∈l,tpS nm np s=true)→sts l+1+r*(B+4)≤n+1→zXK nc K g G l=.ok G' →
  ∀env L m1 m2,ET G env L→SR L m1 m2→RR (SRel G 0 L) (zK (n+1) F env m1 l) (zK (n+1) F env m2 l):=by
 intro nc np r K g G G' l hg hp hn hc env L m1 m2 he hs;cases nc
 case zero=>cases hc
 rename_i nc;have hsame:=(zfZ (nc+1) K g).2 G l G' hc;unfold zXK at hc;obtain⟨G1,h1,h2⟩:=TR.bind_ok hc;cases h2;have hr:=zdy (fc:=fun G s=>zE nc K g G false s) (fs:=fun env m s=>z8H n F env m s) l G G1 (fun s hsl G0 G2 h3 env L m1 m2 he hs=>by have h4:=hi.stmt nc np r K g s hg (hp s hsl) (by have:=zQV hsl;omega) G0 false G2 h3 env L m1 m2 he hs;rw[if_neg (fun hk=>by have:=(zgt h3 hk).1;cases this)] at h4;exact h4) h1 env L m1 m2 0 0 he hs ⟨Int.le_refl _,by decide⟩ ⟨Int.le_refl _,by decide⟩ rfl
 unfold zK;refine hr.mono fun x y ⟨L1,e1,s1,q1,t1,v,v1,q2⟩=>⟨L1,e1,s1,q1,?_,v,v1,q2⟩
 rw[←hsame];refine t1.sub ?_
 have hd:∀(l:List TSt) (G:TGam) x th,zcx G l x=some th→G x=some th:=by
  intro l;induction l with
  | nil=>intro G x th h;exact h
  | cons s l ihl =>
   intro G x th h;unfold zcx at h;have h:=ihl _ x th h;split at h
   · unfold zah at h;split at h
     · cases h
     exact h
   exact h
 exact fun x th hx=>hd l G1 x th hx
end
end
theorem z3T (lab:Int) (o:Bool) (k:Nat):zZl ⟨o,k,lab⟩ ⟨o,List.replicate k 0⟩ ⟨o,List.replicate k 0⟩ :=
 ⟨rfl,rfl,List.length_replicate,List.length_replicate,fun v hv=>by rw[(List.mem_replicate.1 hv).2];exact⟨Int.le_refl _,by decide⟩,fun v hv=>by rw[(List.mem_replicate.1 hv).2];exact⟨Int.le_refl _,by decide⟩,fun _=>rfl⟩
section
variable {F:ByteArray→Option TFu} {nm:ByteArray→Bool} {B:Nat}
theorem zfa {n:Nat} (hi:NiAt F nm B n):∀nc np r K g s,zFG F nm B r K→tpS nm np s=true→std s+r*(B+4)≤n+1→StOk (fun G last s=>zE nc K g G last s) (fun env m s=>z8H (n+1) F env m s) g.res.label s:=by
 intro nc np r K g s hg hp hn G last G' hc env L m1 m2 he hs;obtain⟨kind,pos,most,name,ty,args,body,els,has⟩:=s;obtain⟨np',hpa,hpb,hpe,hpk⟩:=zFm hp;have hsd:std (.mk kind pos most name ty args body els has)=max (exds args) (max (sts body) (sts els))+2:=rfl;have hxs:∀x∈args,exd x+r*(B+4)≤n:=fun x hx=>by have h1:=zm9 hx;omega
 have hgo:=he.gok;have hw0:tW 0:=⟨Int.le_refl _,by decide⟩
 cases nc
 case zero=>cases hc
 rename_i nc;have hval:=fun x (hx:x∈args) t (h:zi nc K G x=.ok t)=>hi.val nc np' r K G env x hgo hg (hpa x hx) (hxs x hx) t h;show RR (SRel G' (if kind=8 then g.res.label else 0) L) _ _;simp only at hc ⊢;unfold zE at hc;unfold z8H;by_cases k1:kind=1
 · rw[if_pos k1] at hc;rw[if_pos k1,if_pos k1,if_neg (by omega)];cases args with
   | nil=>cases hc
   | cons x xs=>obtain⟨t,h1,h2⟩:=TR.bind_ok hc;obtain⟨h3,rfl⟩:=zO3 h2;obtain⟨ht,hx⟩:=hval x (by simp) t h1;refine RR.bind (hx L m1 m2 he hs) fun a b ⟨L1,e1,s1,v3,v4,q⟩=>?_;rw[s1.len1,s1.len2];exact RR.ok ⟨L1++[⟨false,1,t.label⟩],e1.trans ⟨_,rfl⟩,s1.push (zkj v3 v4 q),rfl,(he.ext e1).push (th:=⟨t,true⟩) ht.ok (z2X ht.1 ht.2.1 (zJg ht.2.2) (fun _=>rfl)),hw0,hw0,fun _=>rfl⟩
 rw[if_neg k1] at hc;rw[if_neg k1,if_neg k1];by_cases k2:kind=2
 · rw[if_pos k2] at hc;rw[if_pos k2,if_pos k2,if_neg (by omega)];obtain⟨G1,h1,h2⟩:=TR.bind_ok hc;obtain⟨h3,rfl⟩:=zO3 h1;obtain⟨hle,h4⟩:=zP h2;cases h4;have hty:=z3M (hpk k2);have hle:=of_decide_eq_true hle;rw[if_pos ⟨hty.1,hle,hty.2.1⟩,if_pos ⟨hty.1,hle,hty.2.1⟩];rw[hs.len1,hs.len2];unfold z25;by_cases ke:ty.elem=2
   · rw[if_pos ke];have hl:=hty.2.1 ke;exact RR.ok ⟨L++[⟨true,ty.len.toNat,ty.label⟩],⟨_,rfl⟩,hs.push (z3T _ _ _),rfl,he.push (th:=⟨ty,false⟩) hty ⟨by simp[ke],by show ((ty.len.toNat:Nat):Int)=max ty.len 1;omega,zJg hty.2.2,fun _=>rfl⟩,hw0,hw0,fun _=>rfl⟩
   rw[if_neg ke];have hl:=hty.1;exact RR.ok ⟨L++[⟨false,(max ty.len 1).toNat,ty.label⟩],⟨_,rfl⟩,hs.push (z3T _ _ _),rfl,he.push (th:=⟨ty,false⟩) hty ⟨by simp[ke],by show (((max ty.len 1).toNat:Nat):Int)=max ty.len 1;omega,zJg hty.2.2,fun _=>rfl⟩,hw0,hw0,fun _=>rfl⟩
 rw[if_neg k2] at hc;rw[if_neg k2,if_neg k2];by_cases k3:kind=3
 · rw[if_pos k3] at hc;rw[if_pos k3,if_pos k3,if_neg (by omega)];cases args with
   | nil=>cases hc
   | cons x xs =>
    obtain⟨v,h1,h2⟩:=TR.bind_ok hc;obtain⟨t,h3,h4⟩:=TR.bind_ok h2;obtain⟨h5,h6⟩:=zP h4;obtain⟨h7,h8⟩:=zP h6;cases h8;simp only[Bool.and_eq_true,decide_eq_true_eq,Bool.not_eq_true'] at h5;obtain⟨ht,hx⟩:=hval x (by simp) v h1;obtain⟨_,c,lo,f1,f2,f3⟩:=he _ _ (zNA h3);rw[f1];simp only;refine RR.bind (hx L m1 m2 he hs) fun a b ⟨L1,e1,s1,v3,v4,q⟩=>?_;have f2:=e1.at_ f2;have hz:lo.size=1:=by have:=f3.size;rw[h5.1] at this;omega
    obtain⟨n1,n2,q1,q2,s2⟩:=s1.store f2 (i:=0) (v1:=a.1) (v2:=b.1) (Int.le_refl 0) (by rw[hz];decide) (fun hz=>q (zjA h7 (by rw[←f3.own h5.2.1];exact hz)));rw[q1,q2];exact RR.ok ⟨L1,e1,s2,rfl,he.ext e1,hw0,hw0,fun _=>rfl⟩
 rw[if_neg k3] at hc;rw[if_neg k3,if_neg k3];by_cases k4:kind=4
 · rw[if_pos k4] at hc;rw[if_pos k4,if_pos k4,if_neg (by omega)];match args,hc,hval with
   | [],hc,_=>cases hc
   | [_],hc,_=>cases hc
   | x::y::xs,hc,hval =>
    obtain⟨_,h1,h2⟩:=TR.bind_ok hc;obtain⟨v,h3,h4⟩:=TR.bind_ok h2;obtain⟨t,h5,h6⟩:=TR.bind_ok h4;obtain⟨h7,h8⟩:=zP h6;obtain⟨h9,h10⟩:=zP h8;cases h10;simp only[Bool.and_eq_true,decide_eq_true_eq,Bool.not_eq_true'] at h7;obtain⟨ti,i1,i2,i3⟩:=zmD h1;obtain⟨_,hx⟩:=hval x (by simp) ti i1;obtain⟨_,hy⟩:=hval y (by simp) v h3;refine RR.bind (hx L m1 m2 he hs) fun a b ⟨L1,e1,s1,v3,v4,q⟩=>?_;refine RR.bind (hy L1 a.2 b.2 (he.ext e1) s1) fun c d ⟨L2,e2,s2,v5,v6,q'⟩=>?_;have e3:=e1.trans e2;rw[←q i3];obtain⟨_,cc,lo,f1,f2,f3⟩:=(he.ext e3) _ _ (zNA h5);obtain⟨g1,g2⟩:=s2.atC f1 f2 a.1;by_cases hlt:a.1<lo.size
    · obtain⟨r1,r2⟩:=g2 hlt;rw[r1,r2];obtain⟨n1,n2,q1,q2,s3⟩:=s2.store f2 (v1:=c.1) (v2:=d.1) v3.1 hlt (fun hz=>q' (zjA h9 (by rw[←f3.own h7.2.1];exact hz)));show RR _ ((zbN c.2 cc a.1 c.1).bind _) ((zbN d.2 cc a.1 d.1).bind _);rw[q1,q2];exact RR.ok ⟨L2,e3,s3,rfl,he.ext e3,hw0,hw0,fun _=>rfl⟩
    obtain⟨r1,r2⟩:=g1 (by omega);rw[r1,r2];exact RR.trap
 rw[if_neg k4] at hc;rw[if_neg k4,if_neg k4];by_cases k5:kind=5
 · rw[if_pos k5] at hc;rw[if_pos k5,if_pos k5,if_neg (by omega)];cases args with
   | nil=>cases hc
   | cons x xs =>
    obtain⟨_,h1,h2⟩:=TR.bind_ok hc;obtain⟨G1,h3,h4⟩:=TR.bind_ok h2;obtain⟨ti,i1,i2,i3⟩:=zmD h1;obtain⟨_,hx⟩:=hval x (by simp) ti i1;have hs1:=(zfZ nc K g).2 _ _ _ h3;subst hs1;have hs2:=(zfZ nc K g).2 _ _ _ h4;subst hs2;refine RR.bind (hx L m1 m2 he hs) fun a b ⟨L1,e1,s1,v3,v4,q⟩=>?_;rw[←q i3];have hbl:∀x y,SRel G' 0 L1 x y→RR (SRel G' 0 L) (.ok ((0:Int),x.2)) (.ok ((0:Int),y.2)):=fun x y ⟨L2,e2,s2,q2,t2,_,_,_⟩=>RR.ok ⟨L2,e1.trans e2,s2,q2,t2,hw0,hw0,fun _=>rfl⟩;by_cases hz:a.1≠0
    · rw[if_pos hz,if_pos hz];exact RR.bind (hi.block nc np' r K g G' G' body hg hpb (by omega) h3 env L1 a.2 b.2 (he.ext e1) s1) hbl
    rw[if_neg hz,if_neg hz];exact RR.bind (hi.block nc np' r K g G' G' els hg hpe (by omega) h4 env L1 a.2 b.2 (he.ext e1) s1) hbl
 rw[if_neg k5] at hc;rw[if_neg k5,if_neg k5];by_cases k6:kind=6
 · rw[if_pos k6] at hc;rw[if_pos k6,if_pos k6,if_neg (by omega)];cases args with
   | nil=>cases hc
   | cons x xs =>
    obtain⟨_,h1,h2⟩:=TR.bind_ok hc;obtain⟨G1,h3,h4⟩:=TR.bind_ok h2;obtain⟨h5,h6⟩:=zP h4;obtain⟨G2,h7,h8⟩:=TR.bind_ok h6;obtain⟨h9,rfl⟩:=zO3 h3;have h5:=of_decide_eq_true h5;have hs2:=(zfZ nc K g).2 _ _ _ h7;subst hs2;cases h8;rw[zx6 h9];obtain⟨ti,i1,i2,i3⟩:=zmD h1;obtain⟨_,hx⟩:=hval x (by simp) ti i1;refine RR.bind (hx L m1 m2 he hs) fun a b ⟨L1,e1,s1,v3,v4,q⟩=>?_;rw[←q i3,if_neg (show ¬65536<most by omega),if_neg (show ¬65536<most by omega)];by_cases hm:most<a.1
    · rw[if_pos hm,if_pos hm];exact RR.trap
    rw[if_neg hm,if_neg hm];have hlt:=v3.2;refine RR.bind (z4K (G:=G) (name:=name) (fb:=fun env m=>zK n F env m body) h9 (fun env L m1 m2 he hs=>hi.block nc np' r K g _ _ body hg hpb (by omega) h7 env L m1 m2 he hs) a.1.toNat 0 env L1 a.2 b.2 (by omega) (he.ext e1) s1) fun x y ⟨L2,e2,s2,q2,t2⟩=>?_;exact RR.ok ⟨L2,e1.trans e2,s2,q2,t2,hw0,hw0,fun _=>rfl⟩
 rw[if_neg k6] at hc;rw[if_neg k6,if_neg k6];by_cases k7:kind=7
 · rw[if_pos k7] at hc;rw[if_pos k7,if_pos k7,if_neg (by omega)];cases args with
   | nil=>cases hc
   | cons x xs=>obtain⟨f,h1,h2⟩:=TR.bind_ok hc;cases h2;have hxp:=hpa x (by simp);have hxd:=hxs x (by simp);obtain⟨xk,xp,xn,xname,xargs⟩:=x;obtain⟨np2,hpa2,_,_⟩:=z3N hxp;have hxe:exd (.mk xk xp xn xname xargs)=exds xargs+2:=rfl;obtain⟨_,h6⟩:=hi.call nc np2 r K G env xname xargs f hg hpa2 (by omega) h1;refine RR.bind (h6 L m1 m2 he hs) fun a b ⟨L1,e1,s1,v3,v4,q⟩=>?_;exact RR.ok ⟨L1,e1,s1,rfl,he.ext e1,hw0,hw0,fun _=>rfl⟩
 rw[if_neg k7] at hc;rw[if_neg k7,if_neg k7];by_cases k8:kind=8
 · rw[if_pos k8] at hc;rw[if_pos k8,if_pos k8,if_pos k8];cases args with
   | nil=>cases hc
   | cons x xs=>obtain⟨v,h1,h2⟩:=TR.bind_ok hc;obtain⟨h3,h4⟩:=zP h2;obtain⟨h5,h6⟩:=zP h4;cases h6;obtain⟨_,hx⟩:=hval x (by simp) v h1;refine RR.bind (hx L m1 m2 he hs) fun a b ⟨L1,e1,s1,v3,v4,q⟩=>?_;exact RR.ok ⟨L1,e1,s1,rfl,he.ext e1,v3,v4,fun hz=>q (zjA h5 hz)⟩
 rw[if_neg k8] at hc;rw[if_neg k8,if_neg k8,if_neg k8];cases hc;exact RR.ok ⟨L,Ext.refl L,hs,rfl,he,hw0,hw0,fun _=>rfl⟩
theorem zJn (x:TEx):2≤exd x:=by rw[zMq];omega
theorem z2l (s:TSt):2≤std s:=by cases s;unfold std;omega
theorem z7e (F:ByteArray→Option TFu) (nm:ByteArray→Bool) (B n:Nat):NiAt F nm B n:=by
 induction n using Nat.strongRecOn with
 | ind n ih =>
  cases n
  case succ n=>exact⟨zCR (ih n (Nat.lt_succ_self n)),ziy ih,zNo (ih n (Nat.lt_succ_self n)),zfa (ih n (Nat.lt_succ_self n))⟩
  refine⟨fun nc np r K G env x _ _ _ h=>?_,fun nc np r K G env name args f _ _ h=>?_,fun nc np r K g G G' l _ _ h=>?_,fun nc np r K g s _ _ h=>?_⟩
  · have:=zJn x;omega
  · omega
  · omega
  have:=z2l s;omega
end
structure TTk where
 kind:Int
 pos:Int
 num:Int
 text:ByteArray
def zg6:TTk:=⟨0,0,0,⟨#[]⟩⟩
def zC7:List ByteArray:=[⟨#[102,110]⟩,⟨#[112,117,98]⟩,⟨#[115,101,99]⟩,⟨#[111,117,116]⟩,⟨#[108,101,116]⟩,⟨#[118,97,114]⟩,⟨#[105,102]⟩,⟨#[101,108,115,101]⟩,⟨#[102,111,114]⟩,⟨#[109,97,120]⟩,⟨#[114,101,116,117,114,110]⟩,⟨#[117,51,50]⟩,⟨#[117,56]⟩,⟨#[109,97,115,107]⟩,⟨#[109,117,108,104,105]⟩,⟨#[99,97,114,114,121]⟩,⟨#[115,101,108,101,99,116]⟩,⟨#[119,111,114,100]⟩,⟨#[114,111,114]⟩]
def zut:List ByteArray:=[⟨#[60,60]⟩,⟨#[62,62]⟩,⟨#[61,61]⟩,⟨#[33,61]⟩,⟨#[60,61]⟩,⟨#[62,61]⟩,⟨#[40]⟩,⟨#[41]⟩,⟨#[123]⟩,⟨#[125]⟩,⟨#[91]⟩,⟨#[93]⟩,⟨#[44]⟩,⟨#[59]⟩,⟨#[58]⟩,⟨#[61]⟩,⟨#[43]⟩,⟨#[45]⟩,⟨#[42]⟩,⟨#[38]⟩,⟨#[124]⟩,⟨#[94]⟩,⟨#[126]⟩,⟨#[33]⟩,⟨#[60]⟩,⟨#[62]⟩]
def bAt (s:ByteArray) (i:Nat):Nat:=(s.data.toList.getD i 0).toNat
def zDE (c:Nat):Bool:=decide (48≤c) && decide (c≤57)
def zPi (c:Nat):Bool:=(decide (97≤c) && decide (c≤122)) || ((decide (65≤c) && decide (c≤90)) || decide (c=95))
def zDY (c:Nat):Bool:=decide (c=32) || (decide (c=9) || (decide (c=10) || decide (c=13)))
def lxLine (s:ByteArray):Nat→Nat→Nat
 | 0,i=>i
 | f+1,i=>if i<s.size then (if bAt s i=10 then i else lxLine s f (i+1)) else i
def zKs (s:ByteArray):Nat→Nat→Nat
 | 0,i=>i
 | f+1,i=>if i<s.size then (if zDY (bAt s i)=true then zKs s f (i+1) else if bAt s i=47∧i+1<s.size∧bAt s (i+1)=47 then zKs s f (lxLine s s.size i) else i) else i
def zaO (s:ByteArray):Nat→Nat→Nat
 | 0,i=>i
 | f+1,i=>if i<s.size then (if (zPi (bAt s i) || zDE (bAt s i))=true then zaO s f (i+1) else i) else i
def zyk (c base:Nat):Option Nat:=if zDE c=true then some (c-48) else if 10<base∧97≤c∧c≤102 then some (c-97+10) else none
def zA3 (s:ByteArray) (base:Nat):Nat→Nat→Nat→Option Nat
 | 0,i,n=>some n
 | f+1,i,n=>match zyk (bAt s i) base with
  | none=>none
  | some v=>if 4294967295<base*n+v then none else zA3 s base f (i+1) (base*n+v)
def zgp (s:ByteArray) (i:Nat) (x:ByteArray):Bool:=decide (s.extract i (i+x.size)=x)
def z0J (s:ByteArray):Option Nat :=
 if zgp s 0 ⟨#[48,120]⟩=true then (if s.size=2∨10<s.size then none else zA3 (s.extract 2 s.size) 16 (s.size-2) 0 0)
 else if bAt s 0=48∧s≠⟨#[48]⟩ then none else zA3 s 10 s.size 0 0
def zQX (s:ByteArray) (i:Nat):List ByteArray→Option ByteArray
 | []=>none
 | x::l=>if zgp s i x=true then some x else zQX s i l
def ztA (s:ByteArray) (i:Nat):Option (TTk×Nat) :=
 if zPi (bAt s i)=true then (if 40<zaO s s.size i-i then none else some (⟨if (zC7.any fun w=>decide (w=s.extract i (zaO s s.size i)))=true then 3 else 1,i,0,s.extract i (zaO s s.size i)⟩,zaO s s.size i))
 else if zDE (bAt s i)=true then (match z0J (s.extract i (zaO s s.size i)) with
  | none=>none
  | some n=>some (⟨2,i,n,⟨#[]⟩⟩,zaO s s.size i))
 else match zQX s i zut with
  | none=>none
  | some x=>some (⟨4,i,0,x⟩,i+x.size)
def zZd (s:ByteArray):Nat→Nat→Option (List TTk)
 | 0,_=>none
 | f+1,i=>if zKs s s.size i=s.size then some [⟨0,s.size,0,⟨#[]⟩⟩] else match ztA s (zKs s s.size i) with
  | none=>none
  | some r=>(zZd s f r.2).map (fun l=>r.1::l)
def lexS (s:ByteArray):Option (List TTk):=if 65536<s.size then none else zZd s (s.size+1) 0
def zR (s:ByteArray):Bool:=match lexS s with
 | some [a,b]=>decide (a.kind=1) && decide (a.text=s)
 | _=>false
section
variable {T:Type} {a b:ByteArray}
structure TFd where
 name:ByteArray
 ty:TTy
 out:Bool
 off:Int
 size:Int
def zcI (t:TTy):Int:=if t.elem=2 then 1 else 4
def z0s (t:TTy):Int:=max t.len 1
def zZ (t:TTy):Int:=(z0s t*zcI t+3) / 4*4
def zH:Int→Int→List TFd→List TFd×Int×Int
 | i,o,[]=>([],i,o)
 | i,o,f::l=>if f.out=true then (⟨f.name,f.ty,f.out,o,zZ f.ty⟩::(zH i (min (o+zZ f.ty) 65537) l).1,(zH i (min (o+zZ f.ty) 65537) l).2)
  else (⟨f.name,f.ty,f.out,i,zZ f.ty⟩::(zH (min (i+zZ f.ty) 65537) o l).1,(zH (min (i+zZ f.ty) 65537) o l).2)
def sOfP (p:TPa):TFd:=⟨p.name,p.ty,p.out,0,0⟩
def z0N (s:ByteArray) (i:Nat):Int:=((bAt s i+256*bAt s (i+1)+65536*bAt s (i+2)+16777216*bAt s (i+3):Nat):Int)
def z81 (f:TFd) (s:ByteArray):TCl:=if f.ty.elem=2 then ⟨true,(List.range f.ty.len.toNat).map fun i=>((bAt s (f.off.toNat+i):Nat):Int)⟩
 else ⟨false,(List.range (z0s f.ty).toNat).map fun i=>z0N s (f.off.toNat+4*i)⟩
def sCl (f:TFd) (s:ByteArray):TCl:=if f.out=true then z25 f.ty else z81 f s
def zQR (s:ByteArray):List TFd→TEnv→TMem→TEnv×TMem
 | [],env,m=>(env,m)
 | f::l,env,m=>zQR s l (zSy env f.name m.length) (m++[sCl f s])
def z2i (oct:Bool) (v:Int):List UInt8:=if oct=true then [UInt8.ofNat (wd v)] else [UInt8.ofNat (wd v),UInt8.ofNat (wd v / 256),UInt8.ofNat (wd v / 65536),UInt8.ofNat (wd v / 16777216)]
def sWr (f:TFd) (c:TCl):List UInt8:=(c.l.flatMap (z2i (decide (f.ty.elem=2))))++List.replicate (f.size.toNat-(c.l.flatMap (z2i (decide (f.ty.elem=2)))).length) 0
def sOut (env:TEnv) (m:TMem):List TFd→TR (List UInt8)
 | []=>.ok []
 | f::l=>if f.out=true then (match env f.name with
   | some c=>(match m[c]? with
    | some a=>(sOut env m l).bind fun q=>.ok (sWr f a++q)
    | none=>.bad)
   | none=>.bad)
  else sOut env m l
def evS (n:Nat) (F:ByteArray→Option TFu) (l:List TFd) (body:List TSt) (s:ByteArray):TR (List UInt8) :=
 (zK n F (zQR s l zN []).1 (zQR s l zN []).2 body).bind fun r=>sOut r.2.1 r.2.2 l
def sLo (f:TFd):TLo:=⟨decide (f.ty.elem=2),(z0s f.ty).toNat,f.ty.label⟩
def zsb (l:List TFd) (a b:ByteArray):Prop:=∀f∈l,f.out=false→f.ty.label=0→∀i:Nat,(i:Int)<z0s f.ty*zcI f.ty→bAt a (f.off.toNat+i)=bAt b (f.off.toNat+i)
theorem z2K (s:ByteArray) (i:Nat):bAt s i<256:=by unfold bAt;exact UInt8.toNat_lt _
theorem zKc (s:ByteArray) (i:Nat):tW (z0N s i):=by
 have h0:=z2K s i;have h1:=z2K s (i+1);have h2:=z2K s (i+2);have h3:=z2K s (i+3);exact zDZ (by omega)
theorem zza {f:TFd} (ht:TyOk f.ty) (h:f.out=false→f.ty.label=0→∀i:Nat,(i:Int)<z0s f.ty*zcI f.ty→bAt a (f.off.toNat+i)=bAt b (f.off.toNat+i)):zZl (sLo f) (sCl f a) (sCl f b):=by
 unfold sCl;by_cases ho:f.out=true
 · rw[if_pos ho,if_pos ho];unfold z25 sLo;by_cases ke:f.ty.elem=2
   · have hl:=ht.2.1 ke;have hm:(z0s f.ty).toNat=f.ty.len.toNat:=by unfold z0s;omega
     rw[if_pos ke,hm,show decide (f.ty.elem=2)=true from decide_eq_true ke];exact z3T _ _ _
   rw[if_neg ke,show decide (f.ty.elem=2)=false from decide_eq_false ke];exact z3T _ _ _
 have ho:f.out=false:=by simpa using ho
 rw[if_neg (by rw[ho];simp),if_neg (by rw[ho];simp)];unfold z81 sLo;by_cases ke:f.ty.elem=2
 · have hl:=ht.2.1 ke;have hm:(z0s f.ty).toNat=f.ty.len.toNat:=by unfold z0s;omega
   rw[if_pos ke,if_pos ke,hm,show decide (f.ty.elem=2)=true from decide_eq_true ke];refine⟨rfl,rfl,by simp,by simp,fun v hv=>?_,fun v hv=>?_,fun hz=>?_⟩
   · obtain⟨i,_,rfl⟩:=List.mem_map.1 hv;have:=z2K a (f.off.toNat+i);exact zDZ (by omega)
   · obtain⟨i,_,rfl⟩:=List.mem_map.1 hv;have:=z2K b (f.off.toNat+i);exact zDZ (by omega)
   congr 1;refine List.map_congr_left fun i hi=>?_;rw[h ho hz i (by have:=List.mem_range.1 hi;unfold z0s zcI;rw[if_pos ke];omega)]
 rw[if_neg ke,if_neg ke,show decide (f.ty.elem=2)=false from decide_eq_false ke];refine⟨rfl,rfl,by simp,by simp,fun v hv=>?_,fun v hv=>?_,fun hz=>?_⟩
 · obtain⟨i,_,rfl⟩:=List.mem_map.1 hv;exact zKc _ _
 · obtain⟨i,_,rfl⟩:=List.mem_map.1 hv;exact zKc _ _
 congr 1;refine List.map_congr_left fun i hi=>?_;have hi:=List.mem_range.1 hi;have hb:∀j,j<4→bAt a (f.off.toNat+4*i+j)=bAt b (f.off.toNat+4*i+j):=fun j hj=>by rw[Nat.add_assoc];exact h ho hz (4*i+j) (by unfold zcI;rw[if_neg ke];omega)
 have h0:=hb 0 (by omega);rw[Nat.add_zero] at h0;unfold z0N;rw[h0,hb 1 (by omega),hb 2 (by omega),hb 3 (by omega)]
theorem z3r {t:TTy}:((z0s t).toNat:Int)=max t.len 1:=by unfold z0s;omega
theorem zQ0:∀(l:List TFd) (ps:List TPa) (Gi G':TGam) (inner:TEnv) (L:TLos) (m1 m2:TMem),l.map (fun f=>(f.name,f.ty,f.out))=ps.map (fun p=>(p.name,p.ty,p.out))→(∀p∈ps,zQp p.ty=true)→zUz Gi ps=.ok G'→zsb l a b→ET Gi inner L→SR L m1 m2 →
  (zQR a l inner m1).1=(zQR b l inner m2).1∧∃L',ET G' (zQR a l inner m1).1 L'∧SR L' (zQR a l inner m1).2 (zQR b l inner m2).2
 | [],ps,Gi,G',inner,L,m1,m2,hm,hk,hp,ha,he,hs=>by
  cases ps with
  | cons p ps=>cases hm
  | nil=>cases hp;exact⟨rfl,L,he,hs⟩
 | f::l,[],Gi,G',inner,L,m1,m2,hm,hk,hp,ha,he,hs=>by cases hm
 | f::l,p::ps,Gi,G',inner,L,m1,m2,hm,hk,hp,ha,he,hs=>by
  simp only[List.map_cons,List.cons.injEq,Prod.mk.injEq] at hm
  obtain⟨⟨n1,n2,n3⟩,hm⟩:=hm
  obtain⟨G1,p1,p2⟩:=TR.bind_ok hp
  obtain⟨_,p3⟩:=zP p2
  obtain⟨_,p4⟩:=zP p3
  obtain⟨p5,rfl⟩:=zO3 p1
  have hty:=z3M (hk p (by simp))
  rw[←n2] at hty
  unfold zQR
  rw[hs.len1,hs.len2,n1]
  refine zQ0 l ps _ G' _ (L++[sLo f]) _ _ hm (fun y hy=>hk y (by simp[hy])) p4 (fun g hg=>ha g (by simp[hg])) (he.push (th:=⟨p.ty,!p.out⟩) (by rw[←n2];exact hty) ⟨by rw[←n2];rfl,by rw[←n2];exact z3r,by rw[←n2];exact zJg hty.2.2,fun _=>by rw[←n2];rfl⟩) (hs.push (zza hty (ha f (by simp))))
theorem zce (o:Bool):∀l:List Int,(l.flatMap (z2i o)).length=(if o=true then 1 else 4)*l.length
 | []=>by simp
 | v::l=>by
  rw[List.flatMap_cons,List.length_append,zce o l]
  unfold z2i
  cases o <;> simp <;> omega
theorem zLu {f:TFd} {c:TCl} (hc:c.l.length=(z0s f.ty).toNat) (hs:f.size=zZ f.ty):(sWr f c).length=f.size.toNat:=by
 unfold sWr;rw[List.length_append,List.length_replicate,zce,hc,hs];have h1:(1:Int)≤z0s f.ty:=by unfold z0s;omega
 unfold zZ zcI;by_cases ke:f.ty.elem=2
 · rw[if_pos ke,if_pos (decide_eq_true ke)];omega
 rw[if_neg ke,if_neg (by simpa using ke)];omega
theorem zPF (t:TTy):4≤zZ t:=by
 have h1:(1:Int)≤z0s t:=by unfold z0s;omega
 unfold zZ zcI;split <;> omega
theorem zyd:∀(l:List TFd) (i o:Int),o≤65537→o≤(zH i o l).2.2
 | [],i,o,_=>Int.le_refl _
 | f::l,i,o,h=>by
  have hp:=zPF f.ty
  unfold zH
  split
  · have:=zyd l i (min (o+zZ f.ty) 65537) (by omega)
    show o≤(zH i (min (o+zZ f.ty) 65537) l).2.2
    omega
  · exact zyd l (min (i+zZ f.ty) 65537) o h
theorem z2N (a b:List T) (k:Nat) (d:T) (h:k<a.length):(a++b).getD k d=a.getD k d:=by
 rw[List.getD_eq_getElem?_getD,List.getElem?_append_left h,←List.getD_eq_getElem?_getD]
theorem zVD (a b:List T) (k:Nat) (d:T):(a++b).getD (a.length+k) d=b.getD k d:=by
 rw[List.getD_eq_getElem?_getD,List.getElem?_append_right (Nat.le_add_right ..),Nat.add_sub_cancel_left,←List.getD_eq_getElem?_getD]
theorem zFh {G:TGam} {env:TEnv} {L:TLos} {m1 m2:TMem} (he:ET G env L) (hs:SR L m1 m2):∀(l:List TFd) (i o:Int),0≤o→(∀f∈l,f.out=true→G f.name=some ⟨f.ty,false⟩)→(zH i o l).2.2≤65536 →
  ∃x y,sOut env m1 (zH i o l).1=.ok x∧sOut env m2 (zH i o l).1=.ok y∧o+x.length=(zH i o l).2.2∧y.length=x.length ∧
   ∀f∈(zH i o l).1,f.out=true→o≤f.off∧(f.ty.label=0→∀j:Nat,j<f.size.toNat→x.getD ((f.off-o).toNat+j) 0=y.getD ((f.off-o).toNat+j) 0)
 | [],i,o,_,_,_=>⟨[],[],rfl,rfl,by simp[zH],rfl,fun f hf=>by cases hf⟩
 | f::l,i,o,h0,hg,hle=>by
  have hp:=zPF f.ty
  by_cases ho:f.out=true
  · have e:zH i o (f::l)=(⟨f.name,f.ty,f.out,o,zZ f.ty⟩::(zH i (min (o+zZ f.ty) 65537) l).1,(zH i (min (o+zZ f.ty) 65537) l).2):=by
     rw[zH,if_pos ho]
    rw[e] at hle ⊢
    simp only at hle ⊢
    have hlo:=zyd l i (min (o+zZ f.ty) 65537) (by omega)
    have hmin:min (o+zZ f.ty) 65537=o+zZ f.ty:=by omega
    rw[hmin] at hle hlo ⊢
    obtain⟨x,y,h1,h2,h3,h4,h5⟩:=zFh he hs l i (o+zZ f.ty) (by omega) (fun g hgl=>hg g (by simp[hgl])) hle
    obtain⟨_,c,lo,e1,e2,e3⟩:=he _ _ (hg f (by simp) ho)
    obtain⟨a,b,a1,b1,_,_,l1,l2,_,_,q⟩:=hs.at_ c lo e2
    have hsz:lo.size=(z0s f.ty).toNat:=by
     have h9:(lo.size:Int)=max f.ty.len 1:=e3.size
     have h10:=z3r (t:=f.ty)
     rw[←h10] at h9
     exact Int.ofNat.inj h9
    have la:=zLu (f:=⟨f.name,f.ty,f.out,o,zZ f.ty⟩) (c:=a) (by rw[l1,hsz]) rfl
    have lb:=zLu (f:=⟨f.name,f.ty,f.out,o,zZ f.ty⟩) (c:=b) (by rw[l2,hsz]) rfl
    simp only at la lb
    refine⟨sWr ⟨f.name,f.ty,f.out,o,zZ f.ty⟩ a++x,sWr ⟨f.name,f.ty,f.out,o,zZ f.ty⟩ b++y,?_,?_,?_,?_,fun g hgl hgo=>?_⟩
    · unfold sOut
      rw[if_pos ho,e1]
      simp only
      rw[a1,h1]
      rfl
    · unfold sOut
      rw[if_pos ho,e1]
      simp only
      rw[b1,h2]
      rfl
    · rw[List.length_append,la];omega
    · rw[List.length_append,List.length_append,la,lb,h4]
    rcases List.mem_cons.1 hgl with rfl | hgl
    · refine⟨Int.le_refl _,fun hz j hj=>?_⟩
      have hab:=q (by rw[e3.own rfl];exact hz)
      subst hab
      simp only at hj ⊢
      have hk:(o-o).toNat+j<(sWr ⟨f.name,f.ty,f.out,o,zZ f.ty⟩ a).length:=by rw[la];omega
      rw[z2N _ _ _ _ hk,z2N _ _ _ _ hk]
    obtain⟨q1,q2⟩:=h5 g hgl hgo
    refine⟨by omega,fun hz j hj=>?_⟩
    have q3:=q2 hz j hj
    have ea:(g.off-o).toNat+j=(sWr ⟨f.name,f.ty,f.out,o,zZ f.ty⟩ a).length+((g.off-(o+zZ f.ty)).toNat+j):=by rw[la];omega
    have eb:(g.off-o).toNat+j=(sWr ⟨f.name,f.ty,f.out,o,zZ f.ty⟩ b).length+((g.off-(o+zZ f.ty)).toNat+j):=by rw[lb];omega
    rw[show (sWr ⟨f.name,f.ty,f.out,o,zZ f.ty⟩ a++x).getD ((g.off-o).toNat+j) 0=x.getD ((g.off-(o+zZ f.ty)).toNat+j) 0 by rw[ea,zVD],
     show (sWr ⟨f.name,f.ty,f.out,o,zZ f.ty⟩ b++y).getD ((g.off-o).toNat+j) 0=y.getD ((g.off-(o+zZ f.ty)).toNat+j) 0 by rw[eb,zVD]]
    exact q3
  · have e:zH i o (f::l)=(⟨f.name,f.ty,f.out,i,zZ f.ty⟩::(zH (min (i+zZ f.ty) 65537) o l).1,(zH (min (i+zZ f.ty) 65537) o l).2):=by
     rw[zH,if_neg ho]
    rw[e] at hle ⊢
    simp only at hle ⊢
    obtain⟨x,y,h1,h2,h3,h4,h5⟩:=zFh he hs l (min (i+zZ f.ty) 65537) o h0 (fun g hgl=>hg g (by simp[hgl])) hle
    refine⟨x,y,?_,?_,h3,h4,fun g hgl hgo=>?_⟩
    · unfold sOut
      rw[if_neg ho];exact h1
    · unfold sOut
      rw[if_neg ho];exact h2
    rcases List.mem_cons.1 hgl with rfl | hgl
    · exact absurd hgo ho
    exact h5 g hgl hgo
end
section
variable {K K':TKs} {g:TFu} {nc:Nat} {nm:ByteArray→Bool} {np:Nat}
theorem zYL {f:TFu} (h:zwP nc K f=.ok K'):K f.name=none∧(∃c,K'=zSy K f.name ⟨f,c⟩)∧∃G q,zUz zN f.params=.ok G∧zxZ (fun G last s=>zE nc K f G last s) false G f.body=.ok q∧(!f.has || q.1)=true:=by
 unfold zwP at h;cases en:K f.name
 case some _=>rw[en] at h;cases h
 rw[en] at h;obtain⟨G,p1,p2⟩:=TR.bind_ok h;obtain⟨q,p3,p4⟩:=TR.bind_ok p2;obtain⟨p5,p6⟩:=zP p4;cases p6;exact⟨rfl,⟨_,rfl⟩,G,q,p1,p3,p5⟩
theorem znJ:∀(l:List TFu) (K K':TKs),zJx nc K l=.ok K'→∀x k,K x=some k→K' x=some k
 | [],K,K',h,x,k,hk=>by cases h;exact hk
 | f::l,K,K',h,x,k,hk=>by
  obtain⟨K1,h1,h2⟩:=TR.bind_ok h
  obtain⟨h3,⟨c,rfl⟩,_⟩:=zYL h1
  refine znJ l _ K' h2 x k ?_
  rw[zPn,if_neg (fun e=>by rw[e,h3] at hk;cases hk)]
  exact hk
theorem z3L:∀(a b:List TFu) (K:TKs),zJx nc K (a++b)=(zJx nc K a).bind fun K=>zJx nc K b
 | [],b,K=>rfl
 | f::a,b,K=>by
  show (zwP nc K f).bind (fun K=>zJx nc K (a++b))=((zwP nc K f).bind fun K=>zJx nc K a).bind fun K=>zJx nc K b
  cases zwP nc K f with
  | ok K1=>exact z3L a b K1
  | trap=>rfl
  | bad=>rfl
def tFm:(ByteArray→Option TFu)→List TFu→ByteArray→Option TFu
 | F,[]=>F
 | F,f::l=>tFm (zSy F f.name f) l
theorem z9m:∀(l:List TFu) (K K':TKs) (F:ByteArray→Option TFu),(∀x,F x=(K x).map TKn.f)→zJx nc K l=.ok K'→∀x,tFm F l x=(K' x).map TKn.f
 | [],K,K',F,hF,h=>by cases h;exact hF
 | f::l,K,K',F,hF,h=>by
  obtain⟨K1,h1,h2⟩:=TR.bind_ok h
  obtain⟨h3,⟨c,rfl⟩,_⟩:=zYL h1
  refine z9m l _ K' _ (fun x=>?_) h2
  rw[zPn,zPn]
  split
  · rfl
  · exact hF x
theorem zrZ {F:ByteArray→Option TFu} {B:Nat}:∀(l:List TFu) (K0:TKs) (r:Nat) (K1:TKs),zFG F nm B r K0→zJx nc K0 l=.ok K1→(∀f∈l,sts f.body≤B∧tpF nm np f=true)→(∀x k,K1 x=some k→F x=some k.f)→zFG F nm B (r+l.length) K1
 | [],K0,r,K1,hg,h,_,_=>by cases h;exact hg
 | f::l,K0,r,K1,hg,h,hl,hF=>by
  obtain⟨K2,h1,h2⟩:=TR.bind_ok h
  obtain⟨h3,⟨c,rfl⟩,h4⟩:=zYL h1
  have hg2:zFG F nm B (r+1) (zSy K0 f.name ⟨f,c⟩):=fun x k hk=>by
   rw[zPn] at hk
   by_cases e:x=f.name
   · rw[if_pos e] at hk
     cases hk
     exact⟨hF x _ (znJ l _ K1 h2 x _ (by rw[zPn,if_pos e])),(hl f (by simp)).1,⟨np,(hl f (by simp)).2⟩,nc,K0,_,hg,h1⟩
   rw[if_neg e] at hk
   exact hg.up x k hk
  have:=zrZ l _ (r+1) K1 hg2 h2 (fun g hg=>hl g (by simp[hg])) hF
  rw[List.length_cons,show r+(l.length+1)=r+1+l.length by omega]
  exact this
def zU (g:TFu):List TFd:=(zH 0 0 (g.params.map sOfP)).1
theorem zzO:∀(l:List TFd) (i o:Int),(zH i o l).1.map (fun f=>(f.name,f.ty,f.out))=l.map (fun f=>(f.name,f.ty,f.out))
 | [],_,_=>rfl
 | f::l,i,o=>by
  unfold zH
  split
  · simp only[List.map_cons];rw[zzO l]
  · simp only[List.map_cons];rw[zzO l]
theorem zCG:∀(l:List TSt) (r:Bool) (G:TGam) (q:Bool×TGam),zxZ (fun G last s=>zE nc K g G last s) r G l=.ok q→∀x th,G x=some th→q.2 x=some th
 | [],r,G,q,h,x,th,hx=>by cases h;exact hx
 | s::l,r,G,q,h,x,th,hx=>by
  obtain⟨G1,h1,h2⟩:=TR.bind_ok h
  refine zCG l _ G1 q h2 x th ?_
  rcases (zfZ nc K g).1 G _ s G1 h1 with⟨_,hn,t,rfl⟩ | ⟨_,rfl⟩
  · rw[zPn,if_neg (fun e=>by rw[e,hn] at hx;cases hx)];exact hx
  · exact hx
theorem z0G:∀(ps:List TPa) (G G':TGam),zUz G ps=.ok G'→(∀x th,G x=some th→G' x=some th)∧∀p∈ps,G' p.name=some ⟨p.ty,!p.out⟩
 | [],G,G',h=>by cases h;exact⟨fun x th h=>h,fun p hp=>by cases hp⟩
 | p::ps,G,G',h=>by
  obtain⟨G1,p1,p2⟩:=TR.bind_ok h
  obtain⟨_,p3⟩:=zP p2
  obtain⟨_,p4⟩:=zP p3
  obtain⟨p5,rfl⟩:=zO3 p1
  obtain⟨h1,h2⟩:=z0G ps _ G' p4
  refine⟨fun x th hx=>h1 x th (by rw[zPn,if_neg (fun e=>by rw[e,p5] at hx;cases hx)];exact hx),fun q hq=>?_⟩
  rcases List.mem_cons.1 hq with rfl | hq
  · exact h1 _ _ (by rw[zPn,if_pos rfl])
  · exact h2 q hq
theorem zfy {fs:List TFu} (hc:zJx nc zN (fs++[g])=.ok K') (hp:∀f∈fs++[g],tpF nm np f=true) (hin:(zH 0 0 (g.params.map sOfP)).2.2≤65536)
  {B n:Nat} (hB:∀f∈fs++[g],sts f.body≤B) (hn:B+2+fs.length*(B+4)≤n) {a b:ByteArray} (hab:zsb (zU g) a b) :
  RR (fun x y=>(x.length:Int)=(zH 0 0 (g.params.map sOfP)).2.2∧y.length=x.length∧∀f∈zU g,f.out=true→f.ty.label=0→∀j:Nat,j<f.size.toNat→x.getD (f.off.toNat+j) 0=y.getD (f.off.toNat+j) 0)
   (evS n (tFm zN (fs++[g])) (zU g) g.body a) (evS n (tFm zN (fs++[g])) (zU g) g.body b):=by
 have hF:=z9m (fs++[g]) zN K' zN (fun x=>rfl) hc
 have hc2:=hc
 rw[z3L] at hc2
 obtain⟨K,h1,h2⟩:=TR.bind_ok hc2
 obtain⟨K2,h3,h4⟩:=TR.bind_ok h2
 cases h4
 obtain⟨h5,⟨c,hK⟩,G,q,h6,h7,h8⟩:=zYL h3
 have hg:zFG (tFm zN (fs++[g])) nm B (0+fs.length) K:=zrZ fs zN 0 K (fun x=>rfl) h1 (fun f hf=>⟨hB f (by simp[hf]),hp f (by simp[hf])⟩) (fun x k hk=>by
  rw[hF x,hK,zPn,if_neg (fun e=>by rw[e,h5] at hk;cases hk),hk];rfl)
 rw[Nat.zero_add] at hg
 have hpg:=hp g (by simp)
 unfold tpF at hpg
 simp only[Bool.and_eq_true,List.all_eq_true] at hpg
 obtain⟨_,g1,g2,_⟩:=hpg
 have hnames:(zU g).map (fun f=>(f.name,f.ty,f.out))=g.params.map (fun p=>(p.name,p.ty,p.out)):=by
  unfold zU
  rw[zzO,List.map_map];rfl
 obtain⟨e1,L,he,hs⟩:=zQ0 (a:=a) (b:=b) (zU g) g.params zN G zN [] [] [] hnames (fun p hpp=>(g2 p hpp).2) h6 hab ET.none ⟨rfl,rfl,fun i lo h=>by simp at h⟩
 unfold evS
 have hBg:=hB g (by simp)
 cases n with
 | zero=>omega
 | succ n =>
  have hst:=(z7e (tFm zN (fs++[g])) nm B n).stmt
  unfold zK
  rw[←e1]
  have hb:=zpV (fc:=fun G last s=>zE nc K g G last s) (fs:=fun env m s=>z8H n (tFm zN (fs++[g])) env m s) (lab:=g.res.label) g.body false G q
   (fun s hsl=>hst nc np fs.length K g s hg (g1 s hsl) (by have:=zQV hsl;omega)) h7 _ L _ _ 0 0 he hs ⟨Int.le_refl _,by decide⟩ ⟨Int.le_refl _,by decide⟩ (fun _=>rfl)
  refine RR.bind hb fun x y ⟨L2,e2,s2,q2,t2,_,_,_⟩=>?_
  rw[←q2]
  have hsub:=zCG g.body false G q h7
  have hat:=(z0G g.params zN G h6).2
  obtain⟨u,v,o1,o2,o3,o4,o5⟩:=zFh t2 s2 (g.params.map sOfP) 0 0 (Int.le_refl _) (fun f hf ho=>by
   obtain⟨p,hpp,rfl⟩:=List.mem_map.1 hf
   have ho:p.out=true:=ho
   have:=hsub _ _ (hat p hpp)
   rw[ho] at this
   exact this) hin
  refine Or.inr ⟨u,v,o1,o2,by omega,o4,fun f hf ho hz j hj=>?_⟩
  have:=(o5 f hf ho).2 hz j hj
  rw[Int.sub_zero] at this
  exact this
end
abbrev PR (T:Type):=Option (T×Nat×Nat)
def PB {T U:Type} (r:PR T) (f:T→Nat→Nat→PR U):PR U:=match r with
 | some q=>f q.1 q.2.1 q.2.2
 | none=>none
section
variable (l:List TTk)
def zb2 (i:Nat):TTk:=l.getD i zg6
def pIs (text:ByteArray) (i:Nat):Bool:=(decide ((zb2 l i).kind=3) || decide ((zb2 l i).kind=4)) && decide ((zb2 l i).text=text)
def zi0 (text:ByteArray) (i d:Nat):PR Unit:=if pIs l text i=true then some ((),i+1,d) else none
def zHr (k:Int) (i d:Nat):PR TTk:=if (zb2 l i).kind=k then some (zb2 l i,i+1,d) else none
def z4y (text:ByteArray) (i d:Nat):PR Unit:=if (pIs l text i && decide (d=64))=true then none else PB (zi0 l text i d) fun _ i d=>some ((),i,d+1)
def zSt (text:ByteArray) (i d:Nat):PR Unit:=PB (zi0 l text i d) fun _ i d=>some ((),i,d-1)
def zqb {T:Type} (one:Nat→Nat→PR T):Nat→List T→Nat→Nat→PR (List T)
 | 0,_,_,_=>none
 | f+1,acc,i,d=>PB (one i d) fun x i d=>if pIs l ⟨#[44]⟩ i=true then zqb one f (acc++[x]) (i+1) d else some (acc++[x],i,d)
def zb9 {T:Type} (one:Nat→Nat→PR T) (f:Nat) (stop:ByteArray) (i d:Nat):PR (List T):=if pIs l stop i=true then some ([],i,d) else zqb l one f [] i d
def zNj (i d:Nat):PR Int:=if pIs l ⟨#[115,101,99]⟩ i=true then some (1,i+1,d) else PB (zi0 l ⟨#[112,117,98]⟩ i d) fun _ i d=>some (0,i,d)
def zOR (i d:Nat):PR Int:=PB (zi0 l ⟨#[91]⟩ i d) fun _ i d=>if (zb2 l i).kind=2∧(zb2 l i).num=0 then none else PB (zHr l 2 i d) fun t i d=>PB (zi0 l ⟨#[93]⟩ i d) fun _ i d=>some (t.num,i,d)
def zXf (label:Int) (i d:Nat):PR TTy:=if pIs l ⟨#[109,97,115,107]⟩ i=true then some (⟨1,0,label⟩,i+1,d) else PB (zi0 l ⟨#[117,51,50]⟩ i d) fun _ i d=>some (⟨0,0,label⟩,i,d)
def z0b (label:Int) (i d:Nat):PR TTy:=if pIs l ⟨#[117,56]⟩ i=true then PB (zOR l (i+1) d) fun n i d=>some (⟨2,n,label⟩,i,d)
 else PB (zXf l label i d) fun t i d=>if (decide (t.elem=0) && pIs l ⟨#[91]⟩ i)=true then PB (zOR l i d) fun n i d=>some (⟨t.elem,n,t.label⟩,i,d) else some (t,i,d)
def z43 (i d:Nat):PR TPa:=let out:=pIs l ⟨#[111,117,116]⟩ i;PB (zNj l (if out=true then i+1 else i) d) fun lab i d=>PB (zHr l 1 i d) fun name i d=>PB (zi0 l ⟨#[58]⟩ i d) fun _ i d=>PB (z0b l lab i d) fun t i d=>some (⟨name.pos,name.text,t,out⟩,i,d)
def zxh (s:ByteArray):Int×Int :=
 if s=⟨#[61,61]⟩ then (0,17) else if s=⟨#[33,61]⟩ then (0,18) else if s=⟨#[60]⟩ then (0,19) else if s=⟨#[60,61]⟩ then (0,20) else if s=⟨#[62]⟩ then (0,21) else if s=⟨#[62,61]⟩ then (0,22) else if s=⟨#[124]⟩ then (1,12) else if s=⟨#[94]⟩ then (2,13) else if s=⟨#[38]⟩ then (3,11) else if s=⟨#[60,60]⟩ then (4,14) else if s=⟨#[62,62]⟩ then (4,15) else if s=⟨#[43]⟩ then (5,8) else if s=⟨#[45]⟩ then (5,9) else if s=⟨#[42]⟩ then (6,10) else (-1,0)
def zom (k:Int) (i:Nat):Option Int:=if (zb2 l i).kind=4∧(zxh (zb2 l i).text).1=k then some (zxh (zb2 l i).text).2 else none
def zqX (e:Nat→Nat→PR TEx) (i d:Nat):PR (List TEx):=PB (z4y l ⟨#[91]⟩ i d) fun _ i d=>PB (e i d) fun x i d=>PB (zSt l ⟨#[93]⟩ i d) fun _ i d=>some ([x],i,d)
def ze3 (e:Nat→Nat→PR TEx) (f:Nat) (t:TTk) (i d:Nat):PR TEx:=PB (z4y l ⟨#[40]⟩ i d) fun _ i d=>PB (zb9 l e f ⟨#[41]⟩ i d) fun xs i d=>PB (zSt l ⟨#[41]⟩ i d) fun _ i d=>some (.mk 4 t.pos 0 t.text xs,i,d)
def ztE (e:Nat→Nat→PR TEx):Nat→List TEx→Nat→Nat→PR (List TEx)
 | 0,acc,i,d=>some (acc,i,d)
 | k+1,acc,i,d=>PB (if acc.length=0 then some ((),i,d) else zi0 l ⟨#[44]⟩ i d) fun _ i d=>PB (e i d) fun x i d=>ztE e k (acc++[x]) i d
def zu0 (e:Nat→Nat→PR TEx) (kind:Int) (many:Nat) (number:Bool) (i d:Nat):PR TEx:=PB (z4y l ⟨#[40]⟩ (i+1) d) fun _ j d=>PB (ztE l e many [] j d) fun xs j d =>
 PB (if number=true then PB (zi0 l ⟨#[44]⟩ j d) fun _ j d=>PB (zHr l 2 j d) fun t j d=>some (t.num,j,d) else some (0,j,d)) fun n j d=>PB (zSt l ⟨#[41]⟩ j d) fun _ j d=>some (.mk kind (zb2 l i).pos n ⟨#[]⟩ xs,j,d)
def z6Z (one:Nat→Nat→PR TEx) (k:Int):Nat→TEx→Nat→Nat→PR TEx
 | 0,_,_,_=>none
 | f+1,x,i,d=>match zom l k i with
  | none=>some (x,i,d)
  | some kind=>if kind=14∨kind=15 then PB (zHr l 2 (i+1) d) fun t j d=>z6Z one k f (.mk kind (zb2 l i).pos t.num ⟨#[]⟩ [x]) j d
   else PB (one (i+1) d) fun y j d=>z6Z one k f (.mk kind (zb2 l i).pos 0 ⟨#[]⟩ [x,y]) j d
mutual
def z4a:Nat→Nat→Nat→PR TEx
 | 0,_,_=>none
 | n+1,i,d=>PB (zKT n 1 i d) fun x i d=>match zom l 0 i with
  | some kind=>PB (zKT n 1 (i+1) d) fun y j d=>some (.mk kind (zb2 l i).pos 0 ⟨#[]⟩ [x,y],j,d)
  | none=>some (x,i,d)
def zKT:Nat→Int→Nat→Nat→PR TEx
 | 0,_,_,_=>none
 | n+1,k,i,d=>if 6<k then zBa n i d else PB (zKT n (k+1) i d) fun x i d=>z6Z l (fun i d=>zKT n (k+1) i d) k n x i d
def zBa:Nat→Nat→Nat→PR TEx
 | 0,_,_=>none
 | n+1,i,d=>if pIs l ⟨#[126]⟩ i=true∨pIs l ⟨#[45]⟩ i=true∨pIs l ⟨#[33]⟩ i=true then
   PB (z4y l (zb2 l i).text i d) fun _ j d=>PB (zBa n j d) fun x j d=>some (.mk (if pIs l ⟨#[126]⟩ i=true then 5 else if pIs l ⟨#[45]⟩ i=true then 6 else 7) (zb2 l i).pos 0 ⟨#[]⟩ [x],j,d-1)
  else z94 n i d
def z94:Nat→Nat→Nat→PR TEx
 | 0,_,_=>none
 | n+1,i,d=>if (zb2 l i).kind=2 then some (.mk 1 (zb2 l i).pos (zb2 l i).num ⟨#[]⟩ [],i+1,d)
  else if pIs l ⟨#[40]⟩ i=true then PB (z4y l ⟨#[40]⟩ i d) fun _ i d=>PB (z4a n i d) fun x i d=>PB (zSt l ⟨#[41]⟩ i d) fun _ i d=>some (x,i,d)
  else if pIs l ⟨#[109,117,108,104,105]⟩ i=true then zu0 l (fun i d=>z4a n i d) 23 2 false i d
  else if pIs l ⟨#[99,97,114,114,121]⟩ i=true then zu0 l (fun i d=>z4a n i d) 24 2 false i d
  else if pIs l ⟨#[115,101,108,101,99,116]⟩ i=true then zu0 l (fun i d=>z4a n i d) 25 3 false i d
  else if pIs l ⟨#[119,111,114,100]⟩ i=true then zu0 l (fun i d=>z4a n i d) 26 1 false i d
  else if pIs l ⟨#[114,111,114]⟩ i=true then zu0 l (fun i d=>z4a n i d) 16 1 true i d
  else PB (zHr l 1 i d) fun t j d=>if pIs l ⟨#[40]⟩ j=true then ze3 l (fun i d=>z4a n i d) n t j d
   else if pIs l ⟨#[91]⟩ j=true then PB (zqX l (fun i d=>z4a n i d) j d) fun xs j d=>some (.mk 3 t.pos 0 t.text xs,j,d)
   else some (.mk 2 t.pos 0 t.text [],j,d)
end
def pEnd (e:Nat→Nat→PR TEx) (i d:Nat):PR (List TEx):=PB (e i d) fun x i d=>PB (zi0 l ⟨#[59]⟩ i d) fun _ i d=>some ([x],i,d)
def z47 (one:Nat→Nat→PR TSt):Nat→List TSt→Nat→Nat→PR (List TSt)
 | 0,_,_,_=>none
 | f+1,acc,i,d=>if pIs l ⟨#[125]⟩ i=true then some (acc,i,d) else PB (one i d) fun s i d=>z47 one f (acc++[s]) i d
def zjq (e:Nat→Nat→PR TEx) (f:Nat) (i d:Nat):PR TSt:=PB (zHr l 1 i d) fun t j d =>
 if pIs l ⟨#[40]⟩ j=true then PB (ze3 l e f t j d) fun x j d=>PB (zi0 l ⟨#[59]⟩ j d) fun _ j d=>some (.mk 7 (zb2 l i).pos 0 ⟨#[]⟩ ⟨0,0,0⟩ [x] [] [] false,j,d)
 else if pIs l ⟨#[91]⟩ j=true then PB (zqX l e j d) fun xs j d=>PB (zi0 l ⟨#[61]⟩ j d) fun _ j d=>PB (pEnd l e j d) fun ys j d=>some (.mk 4 (zb2 l i).pos 0 t.text ⟨0,0,0⟩ (xs++ys) [] [] false,j,d)
 else PB (zi0 l ⟨#[61]⟩ j d) fun _ j d=>PB (pEnd l e j d) fun ys j d=>some (.mk 3 (zb2 l i).pos 0 t.text ⟨0,0,0⟩ ys [] [] false,j,d)
mutual
def z3h:Nat→Nat→Nat→PR (List TSt)
 | 0,_,_=>none
 | n+1,i,d=>PB (z4y l ⟨#[123]⟩ i d) fun _ i d=>PB (z47 l (fun i d=>zUX n i d) n [] i d) fun b i d=>PB (zSt l ⟨#[125]⟩ i d) fun _ i d=>some (b,i,d)
def zUX:Nat→Nat→Nat→PR TSt
 | 0,_,_=>none
 | n+1,i,d =>
  if pIs l ⟨#[108,101,116]⟩ i=true then PB (zHr l 1 (i+1) d) fun t j d=>PB (zi0 l ⟨#[61]⟩ j d) fun _ j d=>PB (pEnd l (fun i d=>z4a l n i d) j d) fun xs j d=>some (.mk 1 (zb2 l i).pos 0 t.text ⟨0,0,0⟩ xs [] [] false,j,d)
  else if pIs l ⟨#[118,97,114]⟩ i=true then PB (zNj l (i+1) d) fun lab j d=>PB (zHr l 1 j d) fun t j d=>PB (zi0 l ⟨#[58]⟩ j d) fun _ j d=>PB (z0b l lab j d) fun ty j d=>PB (zi0 l ⟨#[59]⟩ j d) fun _ j d=>some (.mk 2 (zb2 l i).pos 0 t.text ty [] [] [] false,j,d)
  else if pIs l ⟨#[105,102]⟩ i=true then PB (z4a l n (i+1) d) fun x j d=>PB (z3h n j d) fun b j d=>if pIs l ⟨#[101,108,115,101]⟩ j=true then PB (z3h n (j+1) d) fun e j d=>some (.mk 5 (zb2 l i).pos 0 ⟨#[]⟩ ⟨0,0,0⟩ [x] b e true,j,d)
   else some (.mk 5 (zb2 l i).pos 0 ⟨#[]⟩ ⟨0,0,0⟩ [x] b [] false,j,d)
  else if pIs l ⟨#[102,111,114]⟩ i=true then PB (zHr l 1 (i+1) d) fun t j d=>PB (zi0 l ⟨#[60]⟩ j d) fun _ j d=>PB (z4a l n j d) fun x j d=>PB (zi0 l ⟨#[109,97,120]⟩ j d) fun _ j d=>PB (zHr l 2 j d) fun m j d=>PB (z3h n j d) fun b j d=>some (.mk 6 (zb2 l i).pos m.num t.text ⟨0,0,0⟩ [x] b [] false,j,d)
  else if pIs l ⟨#[114,101,116,117,114,110]⟩ i=true then PB (pEnd l (fun i d=>z4a l n i d) (i+1) d) fun xs j d=>some (.mk 8 (zb2 l i).pos 0 ⟨#[]⟩ ⟨0,0,0⟩ xs [] [] false,j,d)
  else zjq l (fun i d=>z4a l n i d) n i d
end
def zcN (n i d:Nat):PR TFu:=PB (zi0 l ⟨#[102,110]⟩ i d) fun _ i d=>PB (zHr l 1 i d) fun t i d=>PB (zi0 l ⟨#[40]⟩ i d) fun _ i d=>PB (zb9 l (fun i d=>z43 l i d) n ⟨#[41]⟩ i d) fun ps i d=>PB (zi0 l ⟨#[41]⟩ i d) fun _ i d =>
 if pIs l ⟨#[58]⟩ i=true then PB (zNj l (i+1) d) fun lab i d=>PB (zXf l lab i d) fun ty i d=>PB (z3h l n i d) fun b i d=>some (⟨t.pos,t.text,ps,true,ty,b⟩,i,d)
 else PB (z3h l n i d) fun b i d=>some (⟨t.pos,t.text,ps,false,⟨0,0,0⟩,b⟩,i,d)
def zH3 (n:Nat):Nat→List TFu→Nat→Nat→PR (List TFu)
 | 0,_,_,_=>none
 | f+1,acc,i,d=>if (zb2 l i).kind=0 then some (acc,i,d) else PB (zcN l n i d) fun g i d=>zH3 n f (acc++[g]) i d
end
def zOx (s:ByteArray):Option (List TFu):=match lexS s with
 | none=>none
 | some l=>(zH3 l (16*l.length+64) (l.length+1) [] 0 0).map (fun q=>q.1)
def prTight (k:Int):Nat:=if 17≤k∧k≤22 then 1 else if k=12 then 2 else if k=13 then 3 else if k=11 then 4 else if k=14∨k=15 then 5 else if k=8∨k=9 then 6 else if k=10 then 7 else 0
def zoZ (f:TEx→Nat) (least:Nat) (x:TEx):Nat:=if 0<prTight x.kind∧prTight x.kind<least then f x+1 else f x
def zX {T:Type} (f:T→Nat):List T→Nat
 | []=>0
 | x::l=>max (f x) (zX f l)
def prX:Nat→TEx→Nat
 | 0,_=>0
 | n+1,.mk kind pos num name args =>
  if 0<prTight kind then (match args with
   | [x]=>zoZ (fun x=>prX n x) (if prTight kind=1 then 2 else prTight kind) x
   | x::y::_=>max (zoZ (fun x=>prX n x) (if prTight kind=1 then 2 else prTight kind) x) (zoZ (fun x=>prX n x) (prTight kind+1) y)
   | []=>0)
  else if kind=3 then (match args with
   | x::_=>prX n x+1
   | []=>0)
  else if 5≤kind∧kind≤7 then (match args with
   | x::_=>zoZ (fun x=>prX n x) 8 x+1
   | []=>0)
  else if kind=4∨kind=16∨(23≤kind∧kind≤26) then zX (fun x=>prX n x) args+1
  else 0
def prS:Nat→TSt→Nat
 | 0,_=>0
 | n+1,.mk kind pos most name ty args body els has =>
  if kind=2 then 0
  else if kind=4 then (match args with
   | x::y::_=>max (prX n x+1) (prX n y)
   | _=>0)
  else if kind=5 then (match args with
   | x::_=>max (prX n x) (max (zX (fun s=>prS n s) body+1) (if has=true then zX (fun s=>prS n s) els+1 else 0))
   | []=>0)
  else if kind=6 then (match args with
   | x::_=>max (prX n x) (zX (fun s=>prS n s) body+1)
   | []=>0)
  else (match args with
   | x::_=>prX n x
   | []=>0)
def prF (n:Nat) (f:TFu):Nat:=zX (fun s=>prS n s) f.body+1
def zWV (n:Nat) (p:List TFu):Bool:=p.all (fun f=>tpF zR n f) && decide (zX (prF n) p≤64)
def zqL:ByteArray:=⟨#[109,97,105,110]⟩
def zK7 (t:TTy):Int:=if t.len=0 then 4 else if t.elem=2 then (t.len+3) / 4*4 else 4*t.len
def z8E:Int→Int→List TPa→TR (Int×Int)
 | i,o,[]=>.ok (i,o)
 | i,o,p::ps=>tIf (!decide (p.ty.elem=1)) (if p.out=true then z8E i (min (o+zK7 p.ty) 65537) ps else z8E (min (i+zK7 p.ty) 65537) o ps)
def zxP (p:List TFu):TR Unit:=match p.getLast? with
 | none=>.trap
 | some g=>tIf (decide (g.name=zqL)) (tIf (!g.has) ((z8E 0 0 g.params).bind fun r=>tIf (decide (r.1≤65536) && decide (r.2≤65536)) (.ok ())))
def zor (n:Nat) (p:List TFu):TR Int:=(zJx n zN p).bind fun K=>(zxP p).bind fun _=>.ok (match K zqL with
 | some k=>k.cost
 | none=>0)
def zpD (n:Nat) (p:List TFu):Bool:=zWV n p && (match zor n p with
 | .ok c=>decide (c≤65536)
 | _=>false)
section
variable {G:TGam} {T:Type} {args:List TEx} {f:TEx→TR TTy} {kind:Int} {n:Nat} {name:ByteArray} {nm:ByteArray→Bool} {np:Nat} {num pos:Int} {r:TR T} {x:TEx}
def TR.fine {T:Type} (r:TR T):Prop:=r≠.bad
theorem zT (t:T):(TR.ok t).fine:=by unfold TR.fine;simp
theorem zY4:(TR.trap:TR T).fine:=by unfold TR.fine;simp
theorem zo {U:Type} {f:T→TR U} (h:r.fine) (k:∀t,r=.ok t→(f t).fine):(r.bind f).fine:=by
 cases r
 case ok t=>exact k t rfl
 case trap=>exact zY4
 exact absurd rfl h
theorem zLw {b:Bool} (h:b=true→r.fine):(tIf b r).fine:=by
 cases b
 case true=>exact h rfl
 exact zY4
theorem zSr (G:TGam) (s:ByteArray):(zg1 G s).fine:=by
 unfold zg1;split
 · exact zT _
 exact zY4
theorem zKb (G:TGam) (s:ByteArray) (t:TTh):(zHj G s t).fine:=by
 unfold zHj;split
 · exact zY4
 exact zT _
theorem zGZ {e:Int} (h:(f x).fine):(zFK f x e).fine:=zo h fun t _=>zLw fun _=>zLw fun _=>zT _
theorem z7B {p:TPa} (h:(f x).fine):(z6w f G p x).fine:=by
 unfold z6w;split
 · exact zo h fun t _=>zLw fun _=>zLw fun _=>zT _
 exact zLw fun _=>zo (zSr G _) fun t _=>zLw fun _=>zLw fun _=>zT _
theorem zvA:∀(ps:List TPa) (xs:List TEx),ps.length=xs.length→(∀x∈xs,(f x).fine)→(zZh f G ps xs).fine
 | [],xs,_,_=>by cases xs <;> exact zT _
 | p::ps,[],h,_=>by simp at h
 | p::ps,x::xs,h,hx=>zo (z7B (hx x (by simp))) fun _ _=>zvA ps xs (by simpa using h) (fun y hy=>hx y (by simp[hy]))
theorem zry:∀(l:List TEx) (lab:Int) (es:List Int),(∀x∈l,(f x).fine)→(zQ1 f lab es l).fine
 | [],lab,es,_=>zT _
 | x::l,lab,es,h=>zo (h x (by simp)) fun t _=>zry l _ _ (fun y hy=>h y (by simp[hy]))
theorem zL9:∀(l:List TEx) (lab:Int) (es:List Int) (r:Int×List Int),zQ1 f lab es l=.ok r→r.2.length=es.length+l.length
 | [],lab,es,r,h=>by cases h;simp
 | x::l,lab,es,r,h=>by
  obtain⟨t,h1,h2⟩:=TR.bind_ok h
  rw[zL9 l _ _ r h2]
  simp;omega
theorem zoF {es:List Int} (h7:kind=7→es.length=1) (h26:kind=26→es.length=1) (h2:kind=11∨kind=12∨kind=13→es.length=2) (h3:kind=25→es.length=3):(zY1 kind es).fine:=by
 unfold zY1;by_cases k1:kind=7
 · rw[if_pos k1];match es,h7 k1 with
   | [a],_=>exact zT _
 rw[if_neg k1];by_cases k2:kind=26
 · rw[if_pos k2];match es,h26 k2 with
   | [a],_=>exact zT _
 rw[if_neg k2];by_cases k3:kind=11∨kind=12∨kind=13
 · rw[if_pos k3];match es,h2 k3 with
   | [a,b],_=>exact zT _
 rw[if_neg k3];by_cases k4:kind=25
 · rw[if_pos k4];match es,h3 k4 with
   | [a,b,c],_=>exact zT _
 rw[if_neg k4];split <;> exact zT _
theorem zVv (h:tpX nm np (.mk kind pos num name args)=true) :
  ∃a,z8g kind=some a∧(0≤a→(args.length:Int)=a):=by
 cases np
 case zero=>cases h
 rename_i np;unfold tpX at h;simp only[Bool.and_eq_true] at h;obtain⟨h1,_⟩:=h;cases ea:z8g kind
 case none=>rw[ea] at h1;cases h1
 rename_i a;rw[ea] at h1;simp only[Bool.not_eq_true',Bool.and_eq_false_iff,Bool.not_eq_false',decide_eq_false_iff_not,decide_eq_true_eq] at h1;exact⟨a,rfl,fun h0=>h1.resolve_left (fun h=>h h0)⟩
theorem zQK (h:tpX nm np (.mk kind pos num name args)=true) :
  (kind=3∨kind=7∨kind=26→args.length=1)∧(kind=11∨kind=12∨kind=13→args.length=2)∧(kind=25→args.length=3):=by
 obtain⟨a,ea,h1⟩:=zVv h;unfold z8g at ea;refine⟨fun k=>?_,fun k=>?_,fun k=>?_⟩
 · rw[if_neg (by omega),if_neg (by omega),if_pos (by omega)] at ea;cases ea;have:=h1 (by decide);omega
 · rw[if_neg (by omega),if_neg (by omega),if_neg (by omega),if_pos (by omega)] at ea;cases ea;have:=h1 (by decide);omega
 rw[if_neg (by omega),if_neg (by omega),if_neg (by omega),if_neg (by omega),if_pos k] at ea;cases ea;have:=h1 (by decide);omega
theorem znf (n:Nat):(∀np K G x,tpX nm np x=true→exd x≤n→(zi n K G x).fine)∧(∀np K G name args,(∀x∈args,tpX nm np x=true)→exds args+1≤n→(zRu n K G name args).fine):=by
 induction n with
 | zero =>
  refine⟨fun np K G x _ h=>?_,fun np K G name args _ h=>?_⟩
  · have:=zJn x;omega
  omega
 | succ n ih =>
  obtain⟨ih1,ih2⟩:=ih;refine⟨fun np K G x hp hn=>?_,fun np K G name args hp hn=>?_⟩
  · obtain⟨kind,pos,num,name,args⟩:=x;obtain⟨np',hpa,_,_⟩:=z3N hp;obtain⟨ha,hb,hc⟩:=zQK hp;have hex:exd (.mk kind pos num name args)=exds args+2:=rfl;have hv:∀x∈args,(zi n K G x).fine:=fun x hx=>ih1 np' K G x (hpa x hx) (by have:=zm9 hx;omega);unfold zi;by_cases k1:kind=1
    · rw[if_pos k1];exact zT _
    rw[if_neg k1];by_cases k2:kind=2
    · rw[if_pos k2];exact zo (zSr G _) fun t _=>zLw fun _=>zT _
    rw[if_neg k2];by_cases k3:kind=3
    · rw[if_pos k3];match args,ha (Or.inl k3),hv with
      | [x],_,hv=>exact zo (zGZ (hv x (by simp))) fun _ _=>zo (zSr G _) fun t _=>zLw fun _=>zT _
    rw[if_neg k3];by_cases k4:kind=4
    · rw[if_pos k4];exact zo (ih2 np' K G name args hpa (by omega)) fun f _=>zLw fun _=>zT _
    rw[if_neg k4];refine zo (zry args 0 [] hv) fun r hr=>zo (zoF ?_ ?_ ?_ ?_) fun q _=>zLw fun _=>zLw fun _=>zT _
    · intro k;rw[zL9 _ _ _ _ hr,ha (Or.inr (Or.inl k))];rfl
    · intro k;rw[zL9 _ _ _ _ hr,ha (Or.inr (Or.inr k))];rfl
    · intro k;rw[zL9 _ _ _ _ hr,hb k];rfl
    intro k;rw[zL9 _ _ _ _ hr,hc k];rfl
  unfold zRu;split
  · exact zLw fun hl=>zo (zvA _ _ (of_decide_eq_true hl) (fun x hx=>ih1 np K G x (hp x hx) (by have:=zm9 hx;omega))) fun _ _=>zT _
  exact zY4
theorem zOv {most:Int} {ty:TTy} {body els:List TSt} {has:Bool} (h:tpS nm np (.mk kind pos most name ty args body els has)=true) :
  (kind=1∨kind=3∨kind=5∨kind=6∨kind=7∨kind=8→args.length=1)∧(kind=4→args.length=2):=by
 cases np
 case zero=>cases h
 rename_i np;unfold tpS at h;simp only[Bool.and_eq_true] at h;obtain⟨h1,_⟩:=h;cases ea:zcC kind
 case none=>rw[ea] at h1;cases h1
 rename_i sh;rw[ea] at h1;unfold tpS0 at h1;simp only[Bool.and_eq_true,decide_eq_true_eq] at h1;obtain⟨_,_,h3,_⟩:=h1;unfold zcC at ea;refine⟨fun k=>?_,fun k=>?_⟩
 · by_cases c1:kind=1∨kind=3
   · rw[if_pos c1] at ea;cases ea;simp only at h3;omega
   rw[if_neg c1,if_neg (by omega),if_neg (by omega)] at ea;by_cases c5:kind=5
   · rw[if_pos c5] at ea;cases ea;simp only at h3;omega
   rw[if_neg c5] at ea;by_cases c6:kind=6
   · rw[if_pos c6] at ea;cases ea;simp only at h3;omega
   rw[if_neg c6,if_pos (by omega)] at ea;cases ea;simp only at h3;omega
 rw[if_neg (by omega),if_neg (by omega),if_pos k] at ea;cases ea;simp only at h3;omega
theorem zAo {f:TGam→TSt→TR TGam}:∀(l:List TSt) (G:TGam),(∀s∈l,∀G,(f G s).fine)→(zX9 f G l).fine
 | [],G,_=>zT _
 | s::l,G,h=>zo (h s (by simp) G) fun G _=>zAo l G (fun t ht=>h t (by simp[ht]))
theorem zDH (n:Nat):(∀np K g G last s,tpS nm np s=true→std s≤n→(zE n K g G last s).fine)∧(∀np K g G l,(∀s∈l,tpS nm np s=true)→sts l+1≤n→(zXK n K g G l).fine):=by
 induction n with
 | zero =>
  refine⟨fun np K g G last s _ h=>?_,fun np K g G l _ h=>?_⟩
  · have:=z2l s;omega
  omega
 | succ n ih =>
  obtain⟨ih1,ih2⟩:=ih;refine⟨fun np K g G last s hp hn=>?_,fun np K g G l hp hn=>?_⟩
  · obtain⟨kind,pos,most,name,ty,args,body,els,has⟩:=s;obtain⟨np',hpa,hpb,hpe,_⟩:=zFm hp;obtain⟨ha,hb⟩:=zOv hp;have hsd:std (.mk kind pos most name ty args body els has)=max (exds args) (max (sts body) (sts els))+2:=rfl;have hv:∀x∈args,∀G,(zi n K G x).fine:=fun x hx G=>(znf n).1 np' K G x (hpa x hx) (by have:=zm9 hx;omega);unfold zE;by_cases k1:kind=1
    · rw[if_pos k1];match args,ha (Or.inl k1),hv with
      | [x],_,hv=>exact zo (hv x (by simp) G) fun t _=>zKb _ _ _
    rw[if_neg k1];by_cases k2:kind=2
    · rw[if_pos k2];exact zo (zKb _ _ _) fun _ _=>zLw fun _=>zT _
    rw[if_neg k2];by_cases k3:kind=3
    · rw[if_pos k3];match args,ha (Or.inr (Or.inl k3)),hv with
      | [x],_,hv=>exact zo (hv x (by simp) G) fun v _=>zo (zSr _ _) fun t _=>zLw fun _=>zLw fun _=>zT _
    rw[if_neg k3];by_cases k4:kind=4
    · rw[if_pos k4];match args,hb k4,hv with
      | [x,y],_,hv=>exact zo (zGZ (hv x (by simp) G)) fun _ _=>zo (hv y (by simp) G) fun v _=>zo (zSr _ _) fun t _=>zLw fun _=>zLw fun _=>zT _
    rw[if_neg k4];by_cases k5:kind=5
    · rw[if_pos k5];match args,ha (by omega),hv with
      | [x],_,hv=>exact zo (zGZ (hv x (by simp) G)) fun _ _=>zo (ih2 np' K g G body hpb (by omega)) fun G1 _=>ih2 np' K g G1 els hpe (by omega)
    rw[if_neg k5];by_cases k6:kind=6
    · rw[if_pos k6];match args,ha (by omega),hv with
      | [x],_,hv=>exact zo (zGZ (hv x (by simp) G)) fun _ _=>zo (zKb _ _ _) fun G1 _=>zLw fun _=>zo (ih2 np' K g G1 body hpb (by omega)) fun _ _=>zT _
    rw[if_neg k6];by_cases k7:kind=7
    · rw[if_pos k7];match args,ha (by omega),hpa,hsd with
      | [x],_,hpa,hsd=>have hxp:=hpa x (by simp);obtain⟨xk,xp,xn,xname,xargs⟩:=x;obtain⟨np2,hpa2,_,_⟩:=z3N hxp;have hxe:exds [TEx.mk xk xp xn xname xargs]=max (exds xargs+2) 0:=rfl;exact zo ((znf n).2 np2 K G xname xargs hpa2 (by omega)) fun _ _=>zT _
    rw[if_neg k7];by_cases k8:kind=8
    · rw[if_pos k8];match args,ha (by omega),hv with
      | [x],_,hv=>exact zo (hv x (by simp) G) fun v _=>zLw fun _=>zLw fun _=>zT _
    rw[if_neg k8];exact zT _
  unfold zXK;exact zo (zAo l G fun s hs G=>ih1 np K g G false s (hp s hs) (by have:=zQV hs;omega)) fun _ _=>zT _
theorem zvd:∀(ps:List TPa) (G:TGam),(zUz G ps).fine
 | [],G=>zT _
 | p::ps,G=>zo (zKb _ _ _) fun G _=>zLw fun _=>zLw fun _=>zvd ps G
theorem zFZ {f:TGam→Bool→TSt→TR TGam}:∀(l:List TSt) (r:Bool) (G:TGam),(∀s∈l,∀G last,(f G last s).fine)→(zxZ f r G l).fine
 | [],r,G,_=>zT _
 | s::l,r,G,h=>zo (h s (by simp) G _) fun G _=>zFZ l _ G (fun t ht=>h t (by simp[ht]))
theorem zdW {K:TKs} {f:TFu} (hp:tpF nm np f=true) (hn:sts f.body≤n):(zwP n K f).fine:=by
 unfold tpF at hp;simp only[Bool.and_eq_true,List.all_eq_true] at hp;obtain⟨_,h1,_⟩:=hp;unfold zwP;split
 · exact zY4
 exact zo (zvd _ _) fun G _=>zo (zFZ _ _ _ fun s hs G last=>(zDH n).1 np K f G last s (h1 s hs) (by have:=zQV hs;omega)) fun r _=>zLw fun _=>zT _
theorem zVL:∀(l:List TFu) (K:TKs),(∀f∈l,tpF nm np f=true∧sts f.body≤n)→(zJx n K l).fine
 | [],K,_=>zT _
 | f::l,K,h=>zo (zdW (h f (by simp)).1 (h f (by simp)).2) fun K _=>zVL l K (fun g hg=>h g (by simp[hg]))
end
section
variable {T:Type} {d:Nat} {e:Nat→Nat→PR TEx} {i:Nat} {k lab:Int} {one:Nat→Nat→PR T} {q:Unit×Nat×Nat} {sz:T→Nat} {t:ByteArray}
def szL {T:Type} (f:T→Nat):List T→Nat
 | []=>0
 | x::l=>f x+szL f l
theorem zlN (f:T→Nat):∀a b:List T,szL f (a++b)=szL f a+szL f b
 | [],b=>by simp[szL]
 | x::a,b=>by simp only[List.cons_append,szL];rw[zlN f a b];omega
mutual
def szX:TEx→Nat
 | .mk _ _ _ _ a=>szXs a+1
def szXs:List TEx→Nat
 | []=>0
 | x::l=>szX x+szXs l
end
mutual
def szS:TSt→Nat
 | .mk _ _ _ _ _ a b e _=>szXs a+szSs b+szSs e+1
def szSs:List TSt→Nat
 | []=>0
 | s::l=>szS s+szSs l
end
def szF (f:TFu):Nat:=f.params.length+szSs f.body+1
theorem zUi:∀l:List TEx,szXs l=szL szX l
 | []=>by simp[szXs,szL]
 | x::l=>by simp only[szXs,szL];rw[zUi l]
theorem znV:∀l:List TSt,szSs l=szL szS l
 | []=>by simp[szSs,szL]
 | x::l=>by simp only[szSs,szL];rw[znV l]
theorem zS {U:Type} {r:PR T} {f:T→Nat→Nat→PR U} {q:U×Nat×Nat} (h:PB r f=some q):∃x i d,r=some (x,i,d)∧f x i d=some q:=by
 cases r
 case none=>cases h
 rename_i t;exact⟨t.1,t.2.1,t.2.2,rfl,h⟩
section
variable {l:List TTk}
theorem zZj (h:(zb2 l i).kind≠0):i<l.length:=by
 rcases Nat.lt_or_ge i l.length with h1 | h1
 · exact h1
 exact absurd (show (l.getD i zg6).kind=0 by rw[List.getD_eq_getElem?_getD,List.getElem?_eq_none h1];rfl) h
theorem zkN (h:pIs l t i=true):i<l.length:=zZj fun h0=>by
 unfold pIs at h
 rw[h0] at h
 simp at h
theorem zOO {x:Int} (h:zom l k i=some x):i<l.length:=zZj fun h0=>by
 unfold zom at h
 rw[h0,if_neg (fun h9=>by have:=h9.1;omega)] at h
 cases h
theorem zCb (h:zi0 l t i d=some q):i<l.length∧q.2.1=i+1:=by
 unfold zi0 at h;split at h
 · rename_i h1;cases h;exact⟨zkN h1,rfl⟩
 cases h
theorem zxC {q:TTk×Nat×Nat} (hk:k≠0) (h:zHr l k i d=some q):i<l.length∧q.2.1=i+1:=by
 unfold zHr at h;split at h
 · rename_i h1;cases h;exact⟨zZj (by rw[h1];exact hk),rfl⟩
 cases h
theorem zM7 (h:z4y l t i d=some q):i<l.length∧q.2.1=i+1:=by
 unfold z4y at h;split at h
 · cases h
 obtain⟨x,j,e,h1,h2⟩:=zS h;have:=zCb h1;cases h2;exact this
theorem z7m (h:zSt l t i d=some q):i<l.length∧q.2.1=i+1:=by
 unfold zSt at h;obtain⟨x,j,e,h1,h2⟩:=zS h;have:=zCb h1;cases h2;exact this
def PN (l:List TTk) {T:Type} (sz:T→Nat) (one:Nat→Nat→PR T):Prop:=∀i d q,one i d=some q→sz q.1+min i l.length≤min q.2.1 l.length
theorem zSk (h1:PN l sz one):∀(f:Nat) (acc:List T) (i d:Nat) (q:List T×Nat×Nat),zqb l one f acc i d=some q→szL sz q.1+min i l.length≤min q.2.1 l.length+szL sz acc
 | 0,acc,i,d,q,h=>by cases h
 | f+1,acc,i,d,q,h=>by
  unfold zqb at h
  obtain⟨x,j,e,h2,h3⟩:=zS h
  have h4:=h1 _ _ _ h2
  simp only at h4
  split at h3
  · have h5:=zSk h1 f _ _ _ q h3
    rw[zlN] at h5
    simp only[szL] at h5
    omega
  · cases h3
    rw[zlN]
    simp only[szL]
    omega
theorem zl6 (h1:PN l sz one) (f:Nat) (stop:ByteArray):PN l (szL sz) (fun i d=>zb9 l one f stop i d):=fun i d q h=>by
 simp only[zb9] at h
 split at h
 · cases h;simp[szL]
 · have:=zSk h1 f [] i d q h
   simp only[szL] at this
   omega
theorem zMc (k p n:Int) (s:ByteArray) (a:List TEx):szX (.mk k p n s a)=szL szX a+1:=by rw[←zUi];simp[szX]
theorem zE9 (h1:PN l szX e) {q:List TEx×Nat×Nat} (h:zqX l e i d=some q):szL szX q.1+min i l.length+2≤min q.2.1 l.length:=by
 unfold zqX at h;obtain⟨_,j,d1,a1,h⟩:=zS h;obtain⟨x,j2,d2,a2,h⟩:=zS h;obtain⟨_,j3,d3,a3,h⟩:=zS h;have b1:=zM7 a1;have b2:=h1 _ _ _ a2;have b3:=z7m a3;cases h;simp only[szL] at *;omega
theorem znh (h1:PN l szX e) {f:Nat} {t:TTk} {q:TEx×Nat×Nat} (h:ze3 l e f t i d=some q):szX q.1+min i l.length+1≤min q.2.1 l.length:=by
 unfold ze3 at h;obtain⟨_,j,d1,a1,h⟩:=zS h;obtain⟨xs,j2,d2,a2,h⟩:=zS h;obtain⟨_,j3,d3,a3,h⟩:=zS h;have b1:=zM7 a1;have b2:=zl6 (l:=l) h1 f _ _ _ _ a2;have b3:=z7m a3;cases h;simp only[zMc] at *;omega
theorem zbH (h1:PN l szX e):∀(k:Nat) (acc:List TEx) (i d:Nat) (q:List TEx×Nat×Nat),ztE l e k acc i d=some q→szL szX q.1+min i l.length≤min q.2.1 l.length+szL szX acc
 | 0,acc,i,d,q,h=>by cases h;simp only;omega
 | k+1,acc,i,d,q,h=>by
  unfold ztE at h
  obtain⟨_,j,d1,a1,h⟩:=zS h
  obtain⟨x,j2,d2,a2,h⟩:=zS h
  have b1:i≤j:=by
   split at a1
   · cases a1;exact Nat.le_refl _
   have:=zCb a1;simp only at this;omega
  have b2:=h1 _ _ _ a2
  have b3:=zbH h1 k _ _ _ q h
  rw[zlN] at b3
  simp only[szL] at *
  omega
theorem zwj (h1:PN l szX e) {kind:Int} {many:Nat} {number:Bool} {q:TEx×Nat×Nat} (h:zu0 l e kind many number i d=some q):szX q.1+min i l.length≤min q.2.1 l.length:=by
 unfold zu0 at h;obtain⟨_,j,d1,a1,h⟩:=zS h;obtain⟨xs,j2,d2,a2,h⟩:=zS h;obtain⟨n,j3,d3,a3,h⟩:=zS h;obtain⟨_,j4,d4,a4,h⟩:=zS h;have b1:=zM7 a1;have b2:=zbH h1 many [] _ _ _ a2
 have b3:j2≤j3:=by
  split at a3
  · obtain⟨_,j5,d5,a5,a6⟩:=zS a3;obtain⟨_,j6,d6,a7,a8⟩:=zS a6;have:=zCb a5;have:=zxC (by decide) a7;cases a8;simp only at *;omega
  cases a3;exact Nat.le_refl _
 have b4:=z7m a4;cases h;simp only[zMc,szL] at *;omega
theorem zAQ {one:Nat→Nat→PR TEx} (h1:PN l szX one) (k:Int):∀(f:Nat) (x:TEx) (i d:Nat) (q:TEx×Nat×Nat),z6Z l one k f x i d=some q→szX q.1+min i l.length≤min q.2.1 l.length+szX x
 | 0,x,i,d,q,h=>by cases h
 | f+1,x,i,d,q,h=>by
  unfold z6Z at h
  cases hs:zom l k i with
  | none=>rw[hs] at h;cases h;simp only;omega
  | some kind =>
   have b0:=zOO hs
   rw[hs] at h
   simp only at h
   split at h
   · obtain⟨t,j,d1,a1,h⟩:=zS h
     have b1:=zxC (by decide) a1
     have b2:=zAQ h1 k f _ _ _ q h
     simp only[zMc,szL] at *
     omega
   obtain⟨y,j,d1,a1,h⟩:=zS h
   have b1:=h1 _ _ _ a1
   have b2:=zAQ h1 k f _ _ _ q h
   simp only[zMc,szL] at *
   omega
theorem pE_n:∀n,PN l szX (fun i d=>z4a l n i d)∧(∀k,PN l szX (fun i d=>zKT l n k i d))∧PN l szX (fun i d=>zBa l n i d)∧PN l szX (fun i d=>z94 l n i d)
 | 0=>⟨fun i d q h=>by simp[z4a] at h,fun k i d q h=>by simp[zKT] at h,fun i d q h=>by simp[zBa] at h,fun i d q h=>by simp[z94] at h⟩
 | n+1=>by
  obtain⟨e1,e2,e3,e4⟩:=pE_n n
  refine⟨fun i d q h=>?_,fun k i d q h=>?_,fun i d q h=>?_,fun i d q h=>?_⟩
  · simp only[z4a] at h
    obtain⟨x,j,d1,a1,h⟩:=zS h
    have b1:=e2 _ _ _ _ a1
    cases hs:zom l 0 j
    case none=>rw[hs] at h;cases h;exact b1
    rename_i kind
    have b0:=zOO hs
    rw[hs] at h
    simp only at h
    obtain⟨y,j2,d2,a2,h⟩:=zS h
    have b2:=e2 _ _ _ _ a2
    cases h
    simp only[zMc,szL] at *
    omega
  · simp only[zKT] at h
    split at h
    · exact e3 _ _ _ h
    obtain⟨x,j,d1,a1,h⟩:=zS h
    have b1:=e2 _ _ _ _ a1
    have b2:=zAQ (e2 (k+1)) k n _ _ _ q h
    simp only at *
    omega
  · simp only[zBa] at h
    split at h
    · obtain⟨_,j,d1,a1,h⟩:=zS h
      obtain⟨x,j2,d2,a2,h⟩:=zS h
      have b1:=zM7 a1
      have b2:=e3 _ _ _ a2
      cases h
      simp only[zMc,szL] at *
      omega
    exact e4 _ _ _ h
  · simp only[z94] at h
    split at h
    · rename_i h0
      have b0:=zZj (l:=l) (i:=i) (by rw[h0];decide)
      cases h;simp only[zMc,szL];omega
    split at h
    · obtain⟨_,j,d1,a1,h⟩:=zS h
      obtain⟨x,j2,d2,a2,h⟩:=zS h
      obtain⟨_,j3,d3,a3,h⟩:=zS h
      have b1:=zM7 a1
      have b2:=e1 _ _ _ a2
      have b3:=z7m a3
      cases h
      simp only at *
      omega
    split at h
    · exact zwj e1 h
    split at h
    · exact zwj e1 h
    split at h
    · exact zwj e1 h
    split at h
    · exact zwj e1 h
    split at h
    · exact zwj e1 h
    obtain⟨t,j,d1,a1,h⟩:=zS h
    have b1:=zxC (by decide) a1
    split at h
    · have:=znh e1 h
      simp only at *
      omega
    split at h
    · obtain⟨xs,j2,d2,a2,h⟩:=zS h
      have b2:=zE9 e1 a2
      cases h
      simp only[zMc] at *
      omega
    cases h
    simp only[zMc,szL] at *
    omega
theorem zTR (k p n:Int) (s:ByteArray) (ty:TTy) (a:List TEx) (b e:List TSt) (h:Bool):szS (.mk k p n s ty a b e h)=szL szX a+szL szS b+szL szS e+1:=by rw[←zUi,←znV,←znV];simp[szS]
theorem zOu (h1:PN l szX e) {q:List TEx×Nat×Nat} (h:pEnd l e i d=some q):szL szX q.1+min i l.length+1≤min q.2.1 l.length:=by
 unfold pEnd at h;obtain⟨x,j,d1,a1,h⟩:=zS h;obtain⟨_,j2,d2,a2,h⟩:=zS h;have b1:=h1 _ _ _ a1;have b2:=zCb a2;cases h;simp only[szL] at *;omega
theorem zB7 {one:Nat→Nat→PR TSt} (h1:PN l szS one):∀(f:Nat) (acc:List TSt) (i d:Nat) (q:List TSt×Nat×Nat),z47 l one f acc i d=some q→szL szS q.1+min i l.length≤min q.2.1 l.length+szL szS acc
 | 0,acc,i,d,q,h=>by cases h
 | f+1,acc,i,d,q,h=>by
  unfold z47 at h
  split at h
  · cases h;simp only;omega
  · obtain⟨x,j,d1,a1,h⟩:=zS h
    have b1:=h1 _ _ _ a1
    have b2:=zB7 h1 f _ _ _ q h
    rw[zlN] at b2
    simp only[szL] at *
    omega
theorem zjb (h1:PN l szX e) (f:Nat):PN l szS (fun i d=>zjq l e f i d):=fun i d q h=>by
 simp only[zjq] at h
 obtain⟨t,j,d1,a1,h⟩:=zS h
 have b1:=zxC (by decide) a1
 split at h
 · obtain⟨x,j2,d2,a2,h⟩:=zS h
   obtain⟨_,j3,d3,a3,h⟩:=zS h
   have b2:=znh h1 a2
   have b3:=zCb a3
   cases h
   simp only[zTR,szL] at *
   omega
 · split at h
   · obtain⟨xs,j2,d2,a2,h⟩:=zS h
     obtain⟨_,j3,d3,a3,h⟩:=zS h
     obtain⟨ys,j4,d4,a4,h⟩:=zS h
     have b2:=zE9 h1 a2
     have b3:=zCb a3
     have b4:=zOu h1 a4
     cases h
     simp only[zTR,zlN,szL] at *
     omega
   · obtain⟨_,j3,d3,a3,h⟩:=zS h
     obtain⟨ys,j4,d4,a4,h⟩:=zS h
     have b3:=zCb a3
     have b4:=zOu h1 a4
     cases h
     simp only[zTR,szL] at *
     omega
theorem z2z {q:Int×Nat×Nat} (h:zNj l i d=some q):i<l.length∧q.2.1=i+1:=by
 unfold zNj at h;split at h
 · rename_i h1;cases h;exact⟨zkN h1,rfl⟩
 obtain⟨_,j,d1,a1,h⟩:=zS h;have:=zCb a1;cases h;exact this
theorem zk1 {q:Int×Nat×Nat} (h:zOR l i d=some q):min i l.length≤min q.2.1 l.length:=by
 unfold zOR at h;obtain⟨_,j,d1,a1,h⟩:=zS h;split at h
 · cases h
 obtain⟨t,j2,d2,a2,h⟩:=zS h;obtain⟨_,j3,d3,a3,h⟩:=zS h;have b1:=zCb a1;have b2:=zxC (by decide) a2;have b3:=zCb a3;cases h;simp only at *;omega
theorem zCn {q:TTy×Nat×Nat} (h:zXf l lab i d=some q):min i l.length≤min q.2.1 l.length:=by
 unfold zXf at h;split at h
 · cases h;simp only;omega
 obtain⟨_,j,d1,a1,h⟩:=zS h;have:=zCb a1;cases h;simp only at *;omega
theorem zZU {q:TTy×Nat×Nat} (h:z0b l lab i d=some q):min i l.length≤min q.2.1 l.length:=by
 unfold z0b at h;split at h
 · obtain⟨n,j,d1,a1,h⟩:=zS h;have:=zk1 a1;cases h;simp only at *;omega
 obtain⟨t,j,d1,a1,h⟩:=zS h;have b1:=zCn a1;split at h
 · obtain⟨n,j2,d2,a2,h⟩:=zS h;have:=zk1 a2;cases h;simp only at *;omega
 cases h;exact b1
theorem z8y:PN l (fun _:TPa=>1) (fun i d=>z43 l i d):=fun i d q h=>by
 simp only[z43] at h
 obtain⟨lab,j,d1,a1,h⟩:=zS h
 obtain⟨name,j2,d2,a2,h⟩:=zS h
 obtain⟨_,j3,d3,a3,h⟩:=zS h
 obtain⟨t,j4,d4,a4,h⟩:=zS h
 have b1:=z2z a1
 have b2:=zxC (by decide) a2
 have b3:=zCb a3
 have b4:=zZU a4
 cases h
 simp only at *
 split at b1 <;> omega
theorem pS_n:∀n,PN l (szL szS) (fun i d=>z3h l n i d)∧PN l szS (fun i d=>zUX l n i d)
 | 0=>⟨fun i d q h=>by simp[z3h] at h,fun i d q h=>by simp[zUX] at h⟩
 | n+1=>by
  obtain⟨s1,s2⟩:=pS_n n
  have e1:=(pE_n (l:=l) n).1
  refine⟨fun i d q h=>?_,fun i d q h=>?_⟩
  · simp only[z3h] at h
    obtain⟨_,j,d1,a1,h⟩:=zS h
    obtain⟨b,j2,d2,a2,h⟩:=zS h
    obtain⟨_,j3,d3,a3,h⟩:=zS h
    have b1:=zM7 a1
    have b2:=zB7 s2 n [] _ _ _ a2
    have b3:=z7m a3
    cases h
    simp only[szL] at *
    omega
  · simp only[zUX] at h
    split at h
    · obtain⟨t,j,d1,a1,h⟩:=zS h
      obtain⟨_,j2,d2,a2,h⟩:=zS h
      obtain⟨xs,j3,d3,a3,h⟩:=zS h
      have b1:=zxC (by decide) a1
      have b2:=zCb a2
      have b3:=zOu e1 a3
      cases h
      simp only[zTR,szL] at *
      omega
    split at h
    · obtain⟨lab,j,d1,a1,h⟩:=zS h
      obtain⟨t,j2,d2,a2,h⟩:=zS h
      obtain⟨_,j3,d3,a3,h⟩:=zS h
      obtain⟨ty,j4,d4,a4,h⟩:=zS h
      obtain⟨_,j5,d5,a5,h⟩:=zS h
      have b1:=z2z a1
      have b2:=zxC (by decide) a2
      have b3:=zCb a3
      have b4:=zZU a4
      have b5:=zCb a5
      cases h
      simp only[zTR,szL] at *
      omega
    split at h
    · rename_i hi
      have b0:=zkN hi
      obtain⟨x,j,d1,a1,h⟩:=zS h
      obtain⟨b,j2,d2,a2,h⟩:=zS h
      have b1:=e1 _ _ _ a1
      have b2:=s1 _ _ _ a2
      split at h
      · obtain⟨e,j3,d3,a3,h⟩:=zS h
        have b3:=s1 _ _ _ a3
        cases h
        simp only[zTR,szL] at *
        omega
      cases h
      simp only[zTR,szL] at *
      omega
    split at h
    · obtain⟨t,j,d1,a1,h⟩:=zS h
      obtain⟨_,j2,d2,a2,h⟩:=zS h
      obtain⟨x,j3,d3,a3,h⟩:=zS h
      obtain⟨_,j4,d4,a4,h⟩:=zS h
      obtain⟨m,j5,d5,a5,h⟩:=zS h
      obtain⟨b,j6,d6,a6,h⟩:=zS h
      have b1:=zxC (by decide) a1
      have b2:=zCb a2
      have b3:=e1 _ _ _ a3
      have b4:=zCb a4
      have b5:=zxC (by decide) a5
      have b6:=s1 _ _ _ a6
      cases h
      simp only[zTR,szL] at *
      omega
    split at h
    · obtain⟨xs,j3,d3,a3,h⟩:=zS h
      have b3:=zOu e1 a3
      cases h
      simp only[zTR,szL] at *
      omega
    exact zjb e1 n _ _ _ h
theorem zvn:∀l:List T,szL (fun _=>1) l=l.length
 | []=>rfl
 | x::l=>by rw[szL,zvn l,List.length_cons];omega
theorem zsM (n:Nat):PN l (fun f=>szF f+1) (fun i d=>zcN l n i d):=fun i d q h=>by
 simp only[zcN] at h
 obtain⟨_,j,d1,a1,h⟩:=zS h
 obtain⟨t,j2,d2,a2,h⟩:=zS h
 obtain⟨_,j3,d3,a3,h⟩:=zS h
 obtain⟨ps,j4,d4,a4,h⟩:=zS h
 obtain⟨_,j5,d5,a5,h⟩:=zS h
 have b1:=zCb a1
 have b2:=zxC (by decide) a2
 have b3:=zCb a3
 have b4:=zl6 (l:=l) z8y n _ _ _ _ a4
 have b5:=zCb a5
 have hs:=(pS_n (l:=l) n).1
 rw[zvn] at b4
 split at h
 · obtain⟨lab,j6,d6,a6,h⟩:=zS h
   obtain⟨ty,j7,d7,a7,h⟩:=zS h
   obtain⟨b,j8,d8,a8,h⟩:=zS h
   have b6:=z2z a6
   have b7:=zCn a7
   have b8:=hs _ _ _ a8
   cases h
   simp only[szF,znV] at *
   omega
 · obtain⟨b,j8,d8,a8,h⟩:=zS h
   have b8:=hs _ _ _ a8
   cases h
   simp only[szF,znV] at *
   omega
theorem zuv (n:Nat):∀(f:Nat) (acc:List TFu) (i d:Nat) (q:List TFu×Nat×Nat),zH3 l n f acc i d=some q→szL (fun f=>szF f+1) q.1+min i l.length≤min q.2.1 l.length+szL (fun f=>szF f+1) acc
 | 0,acc,i,d,q,h=>by cases h
 | f+1,acc,i,d,q,h=>by
  unfold zH3 at h
  split at h
  · cases h;simp only;omega
  · obtain⟨x,j,d1,a1,h⟩:=zS h
    have b1:=zsM n _ _ _ a1
    have b2:=zuv n f _ _ _ q h
    rw[zlN] at b2
    simp only[szL] at *
    omega
end
theorem z3n {s:ByteArray} {p:List TFu} (h:zOx s=some p):∃l,lexS s=some l∧szL (fun f=>szF f+1) p≤l.length:=by
 unfold zOx at h;cases hl:lexS s
 case none=>rw[hl] at h;cases h
 rename_i l;rw[hl] at h;simp only at h;cases hq:zH3 l (16*l.length+64) (l.length+1) [] 0 0
 case none=>rw[hq] at h;cases h
 rename_i q;rw[hq] at h;cases h;have:=zuv (l:=l) _ _ _ _ _ _ hq;simp only[szL] at this;exact⟨l,rfl,by show szL (fun f=>szF f+1) q.1≤l.length;omega⟩
end
theorem zNH (x:Nat) (h:x<9223372036854775808):wrap64 (x:Int)=(x:Nat):=zCC _ (by omega) (by omega)
theorem two (x:Nat) (h:x<2):x=0∨x=1:=by omega
end Go.Proofs.YtfibdoehmndinaaGreatDoor
