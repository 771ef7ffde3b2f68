/- Parts of a proof. No condition but those that each theorem names. -/
import Derived.ProofKit
import Derived.Test.YtfibdoehmndinaaGreatDoorTfG0e0
namespace Go.Proofs.YtfibdoehmndinaaGreatDoor
open Go.RowKit
set_option maxRecDepth 100000
def wd (n:Int):Nat:=(n % 4294967296).toNat
theorem zWQ (n:Int):wd n<4294967296:=by unfold wd;omega
theorem zLr (n:Int):((wd n:Nat):Int)=n % 4294967296:=by unfold wd;omega
theorem zsh (n:Nat) (h:n<4294967296):wd (n:Int)=n:=by unfold wd;omega
theorem zMz (n:Int):wd ((wd n:Nat):Int)=wd n:=by unfold wd;omega
theorem zDy (n:Int):wd (wrap64 n)=wd n:=by unfold wd wrap64;omega
theorem zCC (n:Int) (h0 : -9223372036854775808≤n) (h1:n<9223372036854775808):wrap64 n=n:=by unfold wrap64;omega
theorem zyP (n:Int):IntKind.u64.wrap n=n % 18446744073709551616:=by simp[IntKind.wrap,IntKind.bits,IntKind.signed]
theorem zF (n:Int):IntKind.i64.wrap n=wrap64 n:=by
 simp only[IntKind.wrap,IntKind.bits,IntKind.signed,wrap64];simp;split <;> omega
theorem zUL (n:Int):(BitVec.ofInt 64 n).toNat % 4294967296=wd n:=by
 rw[BitVec.toNat_ofInt];unfold wd;omega
theorem zkc (x:Nat):wd (IntKind.i64.wrap (x:Int))=x % 4294967296:=by
 rw[zF,zDy];unfold wd;omega
theorem z13 (a b:Int):wd (bits .and .i64 a b)=wd a &&& wd b:=by
 show wd (IntKind.i64.wrap ((BitVec.ofInt 64 a &&& BitVec.ofInt 64 b).toNat:Int))=_;rw[zkc,BitVec.toNat_and,←zUL a,←zUL b];exact Nat.and_mod_two_pow (n:=32)
theorem zrJ (a b:Int):wd (bits .or .i64 a b)=wd a ||| wd b:=by
 show wd (IntKind.i64.wrap ((BitVec.ofInt 64 a ||| BitVec.ofInt 64 b).toNat:Int))=_;rw[zkc,BitVec.toNat_or,←zUL a,←zUL b];exact Nat.or_mod_two_pow (n:=32)
theorem zQf (a b:Int):wd (bits .xor .i64 a b)=wd a ^^^ wd b:=by
 show wd (IntKind.i64.wrap ((BitVec.ofInt 64 a ^^^ BitVec.ofInt 64 b).toNat:Int))=_;rw[zkc,BitVec.toNat_xor,←zUL a,←zUL b];exact Nat.xor_mod_two_pow (n:=32)
theorem z9t (a b:Int):wd (bits .andNot .i64 a b)=wd a &&& (4294967295 ^^^ wd b):=by
 show wd (IntKind.i64.wrap ((BitVec.ofInt 64 a &&& ~~~ BitVec.ofInt 64 b).toNat:Int))=_;rw[zkc,BitVec.toNat_and,←zUL a,←zUL b];rw[show (4294967296:Nat)=2 ^ 32 from rfl,Nat.and_mod_two_pow];congr 1;apply Nat.eq_of_testBit_eq;intro i;rw[show (4294967295:Nat)=2 ^ 32-1 from rfl];simp only[Nat.testBit_mod_two_pow,Nat.testBit_xor,Nat.testBit_two_pow_sub_one];generalize BitVec.ofInt 64 b=y;by_cases h:i<32
 · have h':i<64:=by omega
   rw[BitVec.testBit_toNat,BitVec.getLsbD_not,BitVec.testBit_toNat];simp[h,h']
 simp[h]
theorem zch (n:Int):bits .and .i64 n 4294967295=n % 4294967296:=by
 show IntKind.i64.wrap ((BitVec.ofInt 64 n &&& BitVec.ofInt 64 4294967295).toNat:Int)=_;rw[BitVec.toNat_and,show (BitVec.ofInt 64 4294967295).toNat=2 ^ 32-1 from rfl,Nat.and_two_pow_sub_one_eq_mod,zUL n,zF,←zLr];have:=zWQ n;unfold wrap64;omega
theorem zUG (n:Int):bits .and .i64 n 31=n % 32:=by
 show IntKind.i64.wrap ((BitVec.ofInt 64 n &&& BitVec.ofInt 64 31).toNat:Int)=_;rw[BitVec.toNat_and,show (BitVec.ofInt 64 31).toNat=2 ^ 5-1 from rfl,Nat.and_two_pow_sub_one_eq_mod,BitVec.toNat_ofInt,zF];unfold wrap64;omega
theorem zuJ (n:Int):bits .and .u64 n 4294967295=n % 4294967296:=by
 show IntKind.u64.wrap ((BitVec.ofInt 64 n &&& BitVec.ofInt 64 4294967295).toNat:Int)=_;rw[BitVec.toNat_and,show (BitVec.ofInt 64 4294967295).toNat=2 ^ 32-1 from rfl,Nat.and_two_pow_sub_one_eq_mod,zUL n,zyP,←zLr];have:=zWQ n;omega
theorem zE4 (a:Int):wd (bits .xor .i64 (-1) a)=4294967295 ^^^ wd a:=by
 rw[zQf];rfl
theorem zZq (x:Nat) (h:x<4294967296):4294967295 ^^^ x=4294967295-x:=by
 apply Nat.eq_of_testBit_eq;intro i;rw[show (4294967295:Nat)-x=2 ^ 32-(x+1) from by omega,Nat.testBit_two_pow_sub_succ h,show (4294967295:Nat)=2 ^ 32-1 from rfl,Nat.testBit_xor,Nat.testBit_two_pow_sub_one];by_cases hi:i<32
 · simp[hi]
 simp[hi];exact Nat.testBit_lt_two_pow (Nat.lt_of_lt_of_le (m:=2 ^ 32) h (Nat.pow_le_pow_right (by decide) (by omega)))
end Go.Proofs.YtfibdoehmndinaaGreatDoor
