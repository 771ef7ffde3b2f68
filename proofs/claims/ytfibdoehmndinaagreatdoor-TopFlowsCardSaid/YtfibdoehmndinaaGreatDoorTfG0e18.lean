/- Parts of a proof. No condition but those that each theorem names. -/
import Derived.Deep.QuietTactic
import Derived.BigQuiet
import Derived.Test.YtfibdoehmndinaaGreatDoorTfG0e6
namespace Go.Proofs.YtfibdoehmndinaaGreatDoor
open Go.RowKit
set_option maxRecDepth 100000
def str4 (a b c d:Int):ByteArray:=⟨#[UInt8.ofNat a.toNat,UInt8.ofNat b.toNat,UInt8.ofNat c.toNat,UInt8.ofNat d.toNat]⟩
def zT2 (a:Int):ByteArray:=str4 ((wd a:Nat) % 256) ((wd a:Nat) / 256 % 256) ((wd a:Nat) / 65536 % 256) ((wd a:Nat) / 16777216 % 256)
theorem zGh (src dst e t:TypeId) (hs:Tryz.prog.underlying src=some (.slice e)) (he:Tryz.prog.underlying e=some (.int .u8)) (hd:Tryz.prog.underlying dst=some .string) (w:World) (a b c d:Int) :
  (convert src dst (.slice (some ⟨w.heap.size,0,none⟩) 4 4)).run Tryz.prog (w.alloc (.cells #[.int .u8 a,.int .u8 b,.int .u8 c,.int .u8 d] t)) =
   .ok (.string (str4 a b c d)) (w.alloc (.cells #[.int .u8 a,.int .u8 b,.int .u8 c,.int .u8 d] t)):=by
 rw[run_convert_bytes_string _ _ _ e _ _ _ hs he hd,run_bytesToString _ _ _ _ [a,b,c,d]]
 · rfl
 · simp[go_sem,loadCells]
theorem zFI (a:Int) (w:World):Calls Tryz.prog 49 #[a] w fun e w'=>e=.returned (.string (zT2 a))∧Below w.heap.size w w':=by
 have hc:=zGh 89 9 5 157 Tryz.underlying89 Tryz.underlying5 Tryz.underlying9;go_enter Tryz.func49,Tryz.ntmps49;go_wp2_with (go_at_call 74;refine (zyN _ _).mono ?_;rintro e w' ⟨rfl,rfl⟩);refine wp_loop_rounds 5 ?_;rw[rounds_succ];go_wp2_with (first | (go_at_call 74;refine (zyN _ _).mono ?_;rintro e w' ⟨rfl,rfl⟩) | rw[rounds_succ]);go_ret;exact⟨rfl,(Below.refl _ _).alloc (Nat.le_refl _) _⟩
def le4 (a b c d:UInt8):Nat:=a.toNat+256*b.toNat+65536*c.toNat+16777216*d.toNat
theorem z73 (a b c d:UInt8):le4 a b c d<4294967296:=by
 have h1:=a.toNat_lt;have h2:=b.toNat_lt;have h3:=c.toNat_lt;have h4:=d.toNat_lt;unfold le4;omega
theorem zvf (x y k:Nat) (hx:x<2 ^ k) (hy:y % 2 ^ k=0) (h1:x<9223372036854775808) (h2:y<9223372036854775808) (h3:x+y<9223372036854775808):bits .or .i64 (x:Int) (y:Int)=((x+y:Nat):Int):=by
 show IntKind.i64.wrap ((BitVec.ofInt 64 (x:Int) ||| BitVec.ofInt 64 (y:Int)).toNat:Int)=_;rw[BitVec.toNat_or,BitVec.toNat_ofInt,BitVec.toNat_ofInt];have e1:((x:Int) % (2 ^ 64:Nat)).toNat=x:=by omega
 have e2:((y:Int) % (2 ^ 64:Nat)).toNat=y:=by omega
 rw[e1,e2,Nat.or_comm,nat_join k _ _ hy hx,zF,zNH _ (by omega),Nat.add_comm]
theorem zJK (a b c d:UInt8):bits .or .i64 (bits .or .i64 (bits .or .i64 (bits .or .i64 0 (wrap64 (wrap64 (a.toNat:Int)))) (wrap64 (wrap64 (b.toNat:Int)*256))) (wrap64 (wrap64 (c.toNat:Int)*65536))) (wrap64 (wrap64 (d.toNat:Int)*16777216))=(le4 a b c d:Nat):=by
 have h1:=a.toNat_lt;have h2:=b.toNat_lt;have h3:=c.toNat_lt;have h4:=d.toNat_lt;unfold le4;generalize a.toNat=a at *;generalize b.toNat=b at *;generalize c.toNat=c at *;generalize d.toNat=d at *;rw[zNH a (by omega),zNH a (by omega),zNH b (by omega),zNH c (by omega),zNH d (by omega)];have e1:(b:Int)*256=((b*256:Nat):Int):=by omega
 have e2:(c:Int)*65536=((c*65536:Nat):Int):=by omega
 have e3:(d:Int)*16777216=((d*16777216:Nat):Int):=by omega
 rw[e1,e2,e3,zNH _ (by omega),zNH _ (by omega),zNH _ (by omega),show (0:Int)=((0:Nat):Int) from rfl,
  zvf 0 a 0 (by decide) (Nat.mod_one _) (by omega) (by omega) (by omega),zvf (0+a) (b*256) 8 (by omega) (by omega) (by omega) (by omega) (by omega),
  zvf (0+a+b*256) (c*65536) 16 (by omega) (by omega) (by omega) (by omega) (by omega),zvf (0+a+b*256+c*65536) (d*16777216) 24 (by omega) (by omega) (by omega) (by omega) (by omega)]
 omega
theorem zrA (a b c d:UInt8) (w:World):Calls Tryz.prog 46 #[.string ⟨#[a,b,c,d]⟩] w fun e w'=>e=.returned (.tuple #[.int .i64 (le4 a b c d:Nat),true])∧w=w':=by
 go_enter Tryz.func46,Tryz.ntmps46;go_wp2;refine wp_loop_rounds 5 ?_;rw[rounds_succ];go_wp2_with (rw[rounds_succ]);go_ret2;exact⟨congrArg (fun n=>Ending.returned (.tuple #[.int .i64 n,.bool true])) (zJK a b c d),rfl⟩
end Go.Proofs.YtfibdoehmndinaaGreatDoor
