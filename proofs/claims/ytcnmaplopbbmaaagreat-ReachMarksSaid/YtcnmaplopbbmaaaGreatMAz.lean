/- mark.Of, mark.All by their contracts. -/
import Derived.Test.YtcnmaplopbbmaaaGreatMAd
import Derived.Test.YtcnmaplopbbmaaaGreatMAc
import Derived.Test.YtcnmaplopbbmaaaGreatMAy
import Derived.Lib.TrailingZeros
import Derived.Lib.LaidTab
namespace Go.Proofs.YtcnmaplopbbmaaaGreat
open Go.RowKit
namespace Mark
def ofL (m:Nat):List Int→Nat
 | []=>m
 | p :: l=>ofL (m ||| bit p) l
theorem ofL_snoc (m:Nat) (l:List Int) (p:Int):ofL m (l++[p])=ofL m l ||| bit p:=by
 induction l generalizing m with
 | nil=>rfl
 | cons x l ih=>exact ih _
theorem ofL_lt {m:Nat} (h:m < 2 ^ 64) (l:List Int):ofL m l < 2 ^ 64:=by
 induction l generalizing m with
 | nil=>exact h
 | cons x l ih=>exact ih (Nat.or_lt_two_pow h (bit_lt x))
end Mark
set_option maxRecDepth 100000 in
set_option maxHeartbeats 400000 in
theorem of_any (v:Value) (zs:List Int) (w:World) (hz:zs.length≤9223372036854775807) (h:Ints w v zs) :
  Calls Tryz.prog 50 #[v] w fun e w'=>e=.returned (.int .u64 (Mark.ofL 0 zs:Int))∧w=w':=by
 by_cases hn:zs=[]
 ·subst hn
  obtain ⟨a,cap,rfl,_⟩:=h
  have H:Hid (Mark.ofL 0 []=0):=Lib.hid rfl
  go_enter Tryz.func50,Tryz.ntmps50
  go_wp2_with fail
  refine wp_loop_rounds 1 ?_
  rw [rounds_succ]
  go_wp2_with fail
  go_ret
  exact ⟨rfl,rfl⟩
 ·obtain ⟨b,off,cap,rfl,_,hc⟩:=h.shape hn
  obtain ⟨len,hlen⟩:∃ len,len=zs.length:=⟨_,rfl⟩
  rw [← hlen] at hc hz ⊢
  have Hlen:=Lib.hid hlen
  clear hlen hn h
  go_enter Tryz.func50,Tryz.ntmps50
  go_wp2_with fail
  go_loop [3,8] (fun m i=>∃ k:Nat,k≤len∧i=.int .i64 k∧m=.int .u64 (Mark.ofL 0 (zs.take k):Int)) (fun _ i=>len - (intOf i).toNat)
  case atStart=>exact ⟨0,by omega,rfl,rfl⟩
  case round =>
   obtain ⟨k,hk,rfl,rfl⟩:=hrel
   by_cases hkl:k < len
   ·have hcell:=hc k hkl
    have hs:Mark.ofL 0 (zs.take (k+1))=Mark.ofL 0 (zs.take k) ||| Mark.bit (zs.getD k 0):=by
     have hk':k < zs.length:=by rw [← Hlen.out];exact hkl
     rw [List.take_succ_eq_append_getElem hk',Mark.ofL_snoc]
     simp [hk']
    have Hs:=Lib.hid hs
    have hlt:=Mark.ofL_lt (m:=0) (by omega) (zs.take k)
    clear hs hc
    generalize zs.getD k 0=z at *
    generalize Mark.ofL 0 (zs.take k)=M at *
    have hb:=Mark.bit_lt z
    have hor:=bits_or_u64_nat M (Mark.bit z) (by omega) (by omega)
    go_wp2_with (go_at_call 71;refine (bit_any _ _).mono ?_;rintro e w' ⟨rfl,rfl⟩)
    go_round
    case rel=>exact ⟨k+1,by omega,by go_num,by rw [Hs.out]⟩
    case measure=>simp [intOf];omega
   ·clear hc
    have HE:Hid (zs.take k=zs):=Lib.hid (List.take_of_length_le (by rw [← Hlen.out];omega))
    go_wp2_with fail
    go_ret
    exact ⟨ret_u64 (by rw [HE.out]),rfl⟩
end Go.Proofs.YtcnmaplopbbmaaaGreat
namespace Go.Proofs.YtcnmaplopbbmaaaGreat
open Go.RowKit
namespace Mark
def pop:Nat→Nat→Nat
 | 0,_=>0
 | n+1,x=>x % 2+pop n (x / 2)
theorem pop_le:∀ (n x:Nat),pop n x≤n
 | 0,_=>Nat.le_refl _
 | n+1,x=>by unfold pop;have:=pop_le n (x / 2);omega
def s1 (b:Nat):Nat:=(b / 2 &&& 85)+(b &&& 85)
def s2 (b:Nat):Nat:=(b / 4 &&& 51)+(b &&& 51)
def mask (m:Nat):Nat→Nat
 | 0=>0
 | n+1=>m+256 * mask m n
theorem mask_succ (m n:Nat):mask m (n+1)=m+256 * mask m n:=rfl
def X1 (n x:Nat):Nat:=(x / 2 &&& mask 85 n)+(x &&& mask 85 n)
def X2 (n x:Nat):Nat:=(x / 4 &&& mask 51 n)+(x &&& mask 51 n)
def X3 (n x:Nat):Nat:=(x / 16+x) &&& mask 15 n
theorem and_split (x m M:Nat) (hm:m < 256):x &&& (m+256 * M)=(x % 256 &&& m)+256 * (x / 256 &&& M):=by
 have h1:(x &&& (m+256 * M)) % 256=x % 256 &&& (m+256 * M) % 256:=Nat.and_mod_two_pow (n:=8)
 have h2:(x &&& (m+256 * M)) / 256=x / 256 &&& (m+256 * M) / 256:=Nat.and_div_two_pow (n:=8)
 rw [show (m+256 * M) % 256=m by omega] at h1
 rw [show (m+256 * M) / 256=M by omega] at h2
 omega
theorem half85:∀ a,a < 128→∀ b,b < 2→(a+128 * b) &&& 85=a &&& 85:=by decide +kernel
theorem quarter51:∀ a,a < 64→∀ b,b < 4→(a+64 * b) &&& 51=a &&& 51:=by decide +kernel
theorem s1_lt:∀ b,b < 256→s1 b < 256:=by decide +kernel
theorem X1_succ (n x:Nat):X1 (n+1) x=s1 (x % 256)+256 * X1 n (x / 256):=by
 unfold X1 s1
 rw [mask_succ,and_split _ _ _ (by omega),and_split x _ _ (by omega)]
 have h:x / 2 % 256 &&& 85=x % 256 / 2 &&& 85:=by
  rw [show x / 2 % 256=x % 256 / 2+128 * (x / 256 % 2) by omega]
  exact half85 _ (by omega) _ (by omega)
 rw [h,show x / 2 / 256=x / 256 / 2 by omega]
 omega
theorem X2_succ (n x:Nat):X2 (n+1) x=s2 (x % 256)+256 * X2 n (x / 256):=by
 unfold X2 s2
 rw [mask_succ,and_split _ _ _ (by omega),and_split x _ _ (by omega)]
 have h:x / 4 % 256 &&& 51=x % 256 / 4 &&& 51:=by
  rw [show x / 4 % 256=x % 256 / 4+64 * (x / 256 % 4) by omega]
  exact quarter51 _ (by omega) _ (by omega)
 rw [h,show x / 4 / 256=x / 256 / 4 by omega]
 omega
def Z (n x:Nat):Nat:=X2 n (X1 n x)
theorem Z_succ (n x:Nat):Z (n+1) x=s2 (s1 (x % 256))+256 * Z n (x / 256):=by
 have h:=s1_lt (x % 256) (by omega)
 unfold Z
 rw [X1_succ,X2_succ,show (s1 (x % 256)+256 * X1 n (x / 256)) % 256=s1 (x % 256) by omega,show (s1 (x % 256)+256 * X1 n (x / 256)) / 256=X1 n (x / 256) by omega]
theorem nib:∀ b,b < 256→s2 (s1 b) % 16≤4∧s2 (s1 b) / 16≤4∧s2 (s1 b) % 16+s2 (s1 b) / 16=pop 8 b:=by decide +kernel
theorem Z_low (n x:Nat):Z n x % 16≤4:=by
 cases n with
 | zero=>unfold Z X2 X1 mask;simp
 | succ n =>
  rw [Z_succ]
  have:=(nib (x % 256) (by omega)).1
  omega
theorem and15 (x:Nat):x &&& 15=x % 16:=Nat.and_two_pow_sub_one_eq_mod x 4
theorem X3_succ (n x:Nat):X3 (n+1) (Z (n+1) x)=pop 8 (x % 256)+256 * X3 n (Z n (x / 256)):=by
 obtain ⟨h1,h2,h3⟩:=nib (x % 256) (by omega)
 have h4:=Z_low n (x / 256)
 rw [Z_succ]
 generalize Z n (x / 256)=h at *
 generalize s2 (s1 (x % 256))=d at *
 unfold X3
 rw [mask_succ,and_split _ _ _ (by omega),and15]
 rw [show ((d+256 * h) / 16+(d+256 * h)) % 256 % 16=pop 8 (x % 256) by omega,show ((d+256 * h) / 16+(d+256 * h)) / 256=h / 16+h by omega]
def bytesPop:Nat→Nat→Nat
 | 0,_=>0
 | n+1,x=>pop 8 (x % 256)+256 * bytesPop n (x / 256)
theorem X3_all:∀ n x,X3 n (Z n x)=bytesPop n x
 | 0,x=>by unfold X3 mask bytesPop;simp
 | n+1,x=>by rw [X3_succ,X3_all n,bytesPop]
theorem pop_byte (n x:Nat):pop (8+n) x=pop 8 (x % 256)+pop n (x / 256):=by
 rw [show 8+n=n+1+1+1+1+1+1+1+1 by omega]
 simp only [pop]
 rw [show x / 2 / 2 / 2 / 2 / 2 / 2 / 2 / 2=x / 256 by omega]
 omega
theorem pop_lt (x:Nat):pop 8 x≤8:=pop_le 8 x
def fold (y:Nat):Nat :=
 let a:=y+y / 256
 let b:=a+a / 65536
 (b+b / 4294967296) % 128
theorem fold_sum {p0 p1 p2 p3 p4 p5 p6 p7 r0 r1 r2 r3 r4 r5 r6 r7:Nat} (h0:p0≤8) (h1:p1≤8) (h2:p2≤8) (h3:p3≤8) (h4:p4≤8) (h5:p5≤8) (h6:p6≤8) (h7:p7≤8)
  (e0:r0=p0+256 * r1) (e1:r1=p1+256 * r2) (e2:r2=p2+256 * r3) (e3:r3=p3+256 * r4) (e4:r4=p4+256 * r5) (e5:r5=p5+256 * r6) (e6:r6=p6+256 * r7) (e7:r7=p7) :
  fold r0=p0+(p1+(p2+(p3+(p4+(p5+(p6+p7)))))):=by
 have a1:r0 / 256=r1:=by omega
 have a2:(r0+r1) / 65536=r2+r3:=by clear e4 e5 e6 e7;omega
 have b0:r0=p0+256 * p1+65536 * p2+16777216 * p3+4294967296 * r4:=by omega
 have b1:r1=p1+256 * p2+65536 * p3+16777216 * p4+4294967296 * r5:=by omega
 have b2:r2=p2+256 * p3+65536 * p4+16777216 * p5+4294967296 * r6:=by omega
 have b3:r3=p3+256 * p4+65536 * p5+16777216 * p6+4294967296 * r7:=by omega
 have a3:(r0+r1+(r2+r3)) / 4294967296=r4+r5+r6+r7:=by clear e0 e1 e2 e3 e4 e5 e6 e7 a1 a2;omega
 have f:fold r0=(r0+r1+(r2+r3)+(r4+r5+r6+r7)) % 128:=by
  unfold fold
  simp only [a1,a2,a3]
 rw [f]
 clear a1 a2 a3 b0 b1 b2 b3 f
 omega
theorem fold_bytes (x:Nat):fold (bytesPop 8 x)=pop 64 x:=by
 have e:pop 64 x=pop 8 (x % 256)+(pop 8 (x / 256 % 256)+(pop 8 (x / 256 / 256 % 256)+(pop 8 (x / 256 / 256 / 256 % 256)+(pop 8 (x / 256 / 256 / 256 / 256 % 256)+(pop 8 (x / 256 / 256 / 256 / 256 / 256 % 256)+(pop 8 (x / 256 / 256 / 256 / 256 / 256 / 256 % 256)+pop 8 (x / 256 / 256 / 256 / 256 / 256 / 256 / 256 % 256))))))):=by
  have h:=fun n y=>pop_byte n y
  rw [show (64:Nat)=8+(8+(8+(8+(8+(8+(8+(8+0))))))) by rfl]
  iterate 8 rw [h]
  simp [pop]
 rw [e]
 unfold bytesPop bytesPop bytesPop bytesPop bytesPop bytesPop bytesPop bytesPop bytesPop
 have h0:=pop_lt (x % 256)
 have h1:=pop_lt (x / 256 % 256)
 have h2:=pop_lt (x / 256 / 256 % 256)
 have h3:=pop_lt (x / 256 / 256 / 256 % 256)
 have h4:=pop_lt (x / 256 / 256 / 256 / 256 % 256)
 have h5:=pop_lt (x / 256 / 256 / 256 / 256 / 256 % 256)
 have h6:=pop_lt (x / 256 / 256 / 256 / 256 / 256 / 256 % 256)
 have h7:=pop_lt (x / 256 / 256 / 256 / 256 / 256 / 256 / 256 % 256)
 generalize pop 8 (x % 256)=p0 at *
 generalize pop 8 (x / 256 % 256)=p1 at *
 generalize pop 8 (x / 256 / 256 % 256)=p2 at *
 generalize pop 8 (x / 256 / 256 / 256 % 256)=p3 at *
 generalize pop 8 (x / 256 / 256 / 256 / 256 % 256)=p4 at *
 generalize pop 8 (x / 256 / 256 / 256 / 256 / 256 % 256)=p5 at *
 generalize pop 8 (x / 256 / 256 / 256 / 256 / 256 / 256 % 256)=p6 at *
 generalize pop 8 (x / 256 / 256 / 256 / 256 / 256 / 256 / 256 % 256)=p7 at *
 clear e
 obtain ⟨r7,e7⟩:∃ r,r=p7+256 * 0:=⟨_,rfl⟩
 rw [← e7]
 obtain ⟨r6,e6⟩:∃ r,r=p6+256 * r7:=⟨_,rfl⟩
 rw [← e6]
 obtain ⟨r5,e5⟩:∃ r,r=p5+256 * r6:=⟨_,rfl⟩
 rw [← e5]
 obtain ⟨r4,e4⟩:∃ r,r=p4+256 * r5:=⟨_,rfl⟩
 rw [← e4]
 obtain ⟨r3,e3⟩:∃ r,r=p3+256 * r4:=⟨_,rfl⟩
 rw [← e3]
 obtain ⟨r2,e2⟩:∃ r,r=p2+256 * r3:=⟨_,rfl⟩
 rw [← e2]
 obtain ⟨r1,e1⟩:∃ r,r=p1+256 * r2:=⟨_,rfl⟩
 rw [← e1]
 obtain ⟨r0,e0⟩:∃ r,r=p0+256 * r1:=⟨_,rfl⟩
 rw [← e0]
 exact fold_sum h0 h1 h2 h3 h4 h5 h6 h7 e0 e1 e2 e3 e4 e5 e6 (by omega)
end Mark
end Go.Proofs.YtcnmaplopbbmaaaGreat
namespace Go.Proofs.YtcnmaplopbbmaaaGreat
open Go.RowKit
namespace Mark
theorem u64_sum (a b:Nat) (h:a+b < 18446744073709551616):IntKind.u64.wrap ((a:Int)+(b:Int))=((a+b:Nat):Int):=by
 rw [IntKind.wrap_u64];omega
theorem and_le_mask (x m:Nat):x &&& m≤m:=Nat.and_le_right
theorem mask85:mask 85 8=6148914691236517205:=by decide
theorem mask51:mask 51 8=3689348814741910323:=by decide
theorem mask15:mask 15 8=1085102592571150095:=by decide
theorem X1_lt (x:Nat):X1 8 x < 18446744073709551616:=by
 have h1:=and_le_mask (x / 2) (mask 85 8)
 have h2:=and_le_mask x (mask 85 8)
 unfold X1
 rw [mask85] at *
 omega
theorem X2_lt (x:Nat):X2 8 x≤7378697629483820646:=by
 have h1:=and_le_mask (x / 4) (mask 51 8)
 have h2:=and_le_mask x (mask 51 8)
 unfold X2
 rw [mask51] at *
 omega
theorem X3_lt (x:Nat):X3 8 x≤1085102592571150095:=by
 have h1:=and_le_mask (x / 16+x) (mask 15 8)
 unfold X3
 rw [mask15] at *
 omega
theorem step1 (x:Nat) (hx:x < 18446744073709551616):IntKind.u64.wrap (bits .and .u64 ((x:Int) / 2) 6148914691236517205+bits .and .u64 (x:Int) 6148914691236517205)=((X1 8 x:Nat):Int):=by
 have h:=X1_lt x
 have e1:=bits_and_u64_nat (x / 2) 6148914691236517205 (by omega) (by omega)
 have e2:=bits_and_u64_nat x 6148914691236517205 (by omega) (by omega)
 rw [show ((x:Int) / 2)=((x / 2:Nat):Int) by omega,show (6148914691236517205:Int)=((6148914691236517205:Nat):Int) by rfl,e1,e2]
 unfold X1 at *
 rw [mask85] at *
 exact u64_sum _ _ h
theorem step2 (x:Nat) (hx:x < 18446744073709551616):IntKind.u64.wrap (bits .and .u64 ((x:Int) / 4) 3689348814741910323+bits .and .u64 (x:Int) 3689348814741910323)=((X2 8 x:Nat):Int):=by
 have h:=X2_lt x
 have e1:=bits_and_u64_nat (x / 4) 3689348814741910323 (by omega) (by omega)
 have e2:=bits_and_u64_nat x 3689348814741910323 (by omega) (by omega)
 rw [show ((x:Int) / 4)=((x / 4:Nat):Int) by omega,show (3689348814741910323:Int)=((3689348814741910323:Nat):Int) by rfl,e1,e2]
 unfold X2 at *
 rw [mask51] at *
 exact u64_sum _ _ (by omega)
theorem step3 (x:Nat) (hx:x≤7378697629483820646):bits .and .u64 (IntKind.u64.wrap ((x:Int) / 16+(x:Int))) 1085102592571150095=((X3 8 x:Nat):Int):=by
 have e1:=bits_and_u64_nat (x / 16+x) 1085102592571150095 (by omega) (by omega)
 rw [show ((x:Int) / 16)=((x / 16:Nat):Int) by omega,u64_sum _ _ (by omega),show (1085102592571150095:Int)=((1085102592571150095:Nat):Int) by rfl,e1]
 unfold X3
 rw [mask15]
theorem step4 (x:Nat) (hx:x≤1085102592571150095):IntKind.u64.wrap ((x:Int)+(x:Int) / 256)=((x+x / 256:Nat):Int):=by
 rw [show ((x:Int) / 256)=((x / 256:Nat):Int) by omega,u64_sum _ _ (by omega)]
theorem step5 (x:Nat) (hx:x≤1300000000000000000):IntKind.u64.wrap ((x:Int)+(x:Int) / 65536)=((x+x / 65536:Nat):Int):=by
 rw [show ((x:Int) / 65536)=((x / 65536:Nat):Int) by omega,u64_sum _ _ (by omega)]
theorem step6 (x:Nat) (hx:x≤1400000000000000000):IntKind.u64.wrap ((x:Int)+(x:Int) / 4294967296)=((x+x / 4294967296:Nat):Int):=by
 rw [show ((x:Int) / 4294967296)=((x / 4294967296:Nat):Int) by omega,u64_sum _ _ (by omega)]
end Mark
set_option maxRecDepth 100000 in
set_option maxHeartbeats 400000 in
theorem ones_any (x:Nat) (hx:x < 18446744073709551616) (w:World):Calls Tryz.prog 78 #[.int .u64 (x:Int)] w fun e w'=>e=.returned (.int .i64 (Mark.pop 64 x:Int))∧w=w':=by
 have h1:=Mark.step1 x hx
 have h2:=Mark.step2 (Mark.X1 8 x) (Mark.X1_lt x)
 have h3:=Mark.step3 _ (Mark.X2_lt (Mark.X1 8 x))
 have h4:=Mark.step4 _ (Mark.X3_lt (Mark.X2 8 (Mark.X1 8 x)))
 have hb:=Mark.X3_lt (Mark.X2 8 (Mark.X1 8 x))
 have E:Hid (Mark.fold (Mark.X3 8 (Mark.X2 8 (Mark.X1 8 x)))=Mark.pop 64 x):=Lib.hid (by
  have h:=Mark.fold_bytes x
  rwa [← Mark.X3_all] at h)
 generalize Mark.X1 8 x=x1 at *
 generalize Mark.X2 8 x1=x2 at *
 generalize Mark.X3 8 x2=x3 at *
 have h5:=Mark.step5 (x3+x3 / 256) (by omega)
 have hb4:x3+x3 / 256≤1300000000000000000:=by omega
 have E1:Hid (_=_):=Lib.hid (show Mark.fold x3=((x3+x3 / 256)+(x3+x3 / 256) / 65536+((x3+x3 / 256)+(x3+x3 / 256) / 65536) / 4294967296) % 128 by rfl)
 generalize x3+x3 / 256=x4 at *
 have h6:=Mark.step6 (x4+x4 / 65536) (by omega)
 have hb5:x4+x4 / 65536≤1400000000000000000:=by omega
 generalize x4+x4 / 65536=x5 at *
 have hb6:x5+x5 / 4294967296 < 9223372036854775808:=by omega
 generalize x5+x5 / 4294967296=x6 at *
 have h7:bits .and .i64 (x6:Int) 127=((x6 % 128:Nat):Int):=by
  rw [Bits.i64_mask _ 7 (by omega) _ (by decide)];omega
 clear hx hb hb4 hb5
 go_enter Tryz.func78,Tryz.ntmps78
 go_wp2_with (simp only [h1,h2,h3,h4,h5,h6,h7])
 go_ret
 refine ⟨?_,rfl⟩
 rw [← E.out,E1.out,Int.natCast_emod]
 rfl
set_option maxRecDepth 100000 in
set_option maxHeartbeats 400000 in
theorem count_any (x:Nat) (hx:x < 18446744073709551616) (w:World):Calls Tryz.prog 53 #[.int .u64 (x:Int)] w fun e w'=>e=.returned (.int .i64 (Mark.pop 64 x:Int))∧w=w':=by
 go_enter Tryz.func53,Tryz.ntmps53
 go_wp2_with (go_at_call 78;refine (ones_any x hx _).mono ?_;rintro e w' ⟨rfl,rfl⟩)
 go_ret
 exact ⟨rfl,rfl⟩
def Tab64 (w:World):Prop:=∀ j,j < Lib.deBruijn64tab.length→w.cell? ⟨0,j,none⟩=some (.int .u8 (Lib.deBruijn64tab.getD j 0))
theorem Tab64.grow {w w':World} (h:Tab64 w) (h0:0 < w.heap.size) (g:Flow.Grow w w'):Tab64 w':=fun j hj=>(World.cell?_of_block (g.block 0 h0 (by simp))).trans (h j hj)
end Go.Proofs.YtcnmaplopbbmaaaGreat
namespace Go.Proofs.YtcnmaplopbbmaaaGreat
open Go.RowKit
namespace Gr
def t0:Tk:=(List.replicate 64 false,false)
def G.first (g:G):Tk:=g.outT g.start t0
theorem ofL_puts:∀ (l:List Int) (t:Tk),t.1.length=64→InP l→Mark.ofL (Mark.ofBools t.1) l=Mark.ofBools (l.foldl put1 t).1
 | [],t,_,_=>rfl
 | p :: l,t,ht,hp=>by
  have h:=hp p (by simp)
  rw [Mark.ofL,List.foldl_cons,← ofL_puts l (put1 t p) (by rw [put1_len];exact ht) (fun q hq=>hp q (by simp [hq])),Mark.bit_in h.1 h.2,Mark.set_true ht (by omega)]
  rfl
end Gr
set_option maxRecDepth 100000 in
set_option maxHeartbeats 1000000 in
theorem gfirst_any (B:Nat) (v0 v1 v2 v3 lv:Value) (g:Gr.G) (L:List Gr.Lb) (e:Int) (W:World) (hF:g.Fit) (h:Gr.Gm W B v0 v1 v2 v3 lv g L e) :
  Calls Tryz.prog 28 #[.pointer (some ⟨B,0,none⟩)] W fun e w'=>e=.returned (.int .u64 (Mark.ofBools g.first.1:Int))∧Flow.Grow W w':=by
 have HG:=Lib.hid h
 have HSt:=Lib.hid fun w (hw:Gr.GAt w v0 v1 v2 v3 g)=>start_any v0 v1 v2 v3 g w hF.few hw
 have HOut:=Lib.hid fun w (hw:Gr.GAt w v0 v1 v2 v3 g)=>graphOut_any v0 v1 v2 v3 g.start g.es w hF.few.es hw.edges
 have HMk:Hid (∀ w v,Ints w v (g.out g.start)→Calls Tryz.prog 50 #[v] w fun e w'=>e=.returned (.int .u64 (Mark.ofBools g.first.1:Int))∧w=w'):=Lib.hid fun w v hv=>by
  have k:=of_any v (g.out g.start) w (by have:=g.out_len g.start hF.few;omega) hv
  have e0:=Gr.ofL_puts (g.out g.start) Gr.t0 (by simp [Gr.t0]) (hF.out g.start)
  have e1:Mark.ofBools Gr.t0.1=0:=Mark.ofBools_false 64
  rw [e1] at e0
  rw [e0] at k
  exact k
 clear h hF
 generalize g.first=F at *
 generalize g.start=s at *
 go_enter Tryz.func28,Tryz.ntmps28
 go_upto_region 3 with fail
 refine Flow.region_grown (Fs:=[.inl ((.pointer (some ⟨B,0,none⟩))),.inl ((.pointer (some ⟨B,0,none⟩))),.inl ((.pointer (some ⟨B,0,none⟩))),.inl ((.agg #[v0,v1,v2,v3])),.inl ((.pointer (some ⟨B,0,none⟩))),.inl ((.pointer (some ⟨B,0,none⟩))),.inl ((.pointer (some ⟨B,0,none⟩))),.inl ((.agg #[v0,v1,v2,v3])),.inl ((.int .i64 s)),.inr (fun v w=>Ints w v (g.out s)),.inl ((.int .u64 (Mark.ofBools F.1:Int))),.inl ((.int .u64 (Mark.ofBools F.1:Int)))])
  (S:=[[],[0],[1],[2],[],[4],[5],[6],[7],[3,8],[9],[10]]) (by kernel_rfl) (by kernel_rfl) (by kernel_rfl) rfl ?stab3 ?ones3 ?ends3
 case ones3 =>
  refine Flow.Ones.cons ?_ ?_
  ·intro a w hC hoff _
   have e0:a.eval (.tmp 0)=(.pointer (some ⟨B,0,none⟩)):=hoff.at 0 (by kernel_rfl)
   refine .inl ⟨Flow.want_none rfl,?_⟩
   exact Flow.run_same (Flow.exec_move (.inl rfl) e0) Flow.grow_refl
  refine Flow.Ones.cons ?_ ?_
  ·rintro a w hC hoff ⟨k0,-⟩
   have e5:a.eval (.tmp 5)=(.pointer (some ⟨B,0,none⟩)):=k0 5 rfl
   refine .inl ⟨Flow.want_none rfl,?_⟩
   refine Flow.run_same ?_ Flow.grow_refl
   have ec:=Flow.eval_const a
   generalize a.eval=ρ at e5 ec ⊢
   simp [execOp,e5,go_sem]
  refine Flow.Ones.cons ?_ ?_
  ·rintro a w hC hoff ⟨k1,-⟩
   have e6:a.eval (.tmp 6)=(.pointer (some ⟨B,0,none⟩)):=k1 6 rfl
   refine .inl ⟨Flow.want_none rfl,?_⟩
   refine Flow.run_same ?_ Flow.grow_refl
   have ec:=Flow.eval_const a
   generalize a.eval=ρ at e6 ec ⊢
   simp [execOp,e6,go_sem]
  refine Flow.Ones.cons ?_ ?_
  ·rintro a w hC hoff ⟨k2,-⟩
   have e7:a.eval (.tmp 7)=(.pointer (some ⟨B,0,none⟩)):=k2 7 rfl
   refine .inl ⟨Flow.want_none rfl,?_⟩
   refine Flow.run_same ?_ Flow.grow_refl
   have ec:=Flow.eval_const a
   generalize a.eval=ρ at e7 ec ⊢
   obtain ⟨d0,d1,d2,d3,d4⟩:=(HG.out.grow hC).cells
   simp [execOp,e7,d0,d1,d2,d3,go_sem]
  refine Flow.Ones.cons ?_ ?_
  ·intro a w hC hoff _
   have e0:a.eval (.tmp 0)=(.pointer (some ⟨B,0,none⟩)):=hoff.at 0 (by kernel_rfl)
   refine .inl ⟨Flow.want_none rfl,?_⟩
   exact Flow.run_same (Flow.exec_move (.inl rfl) e0) Flow.grow_refl
  refine Flow.Ones.cons ?_ ?_
  ·rintro a w hC hoff ⟨k4,-⟩
   have e9:a.eval (.tmp 9)=(.pointer (some ⟨B,0,none⟩)):=k4 9 rfl
   refine .inl ⟨Flow.want_none rfl,?_⟩
   refine Flow.run_same ?_ Flow.grow_refl
   have ec:=Flow.eval_const a
   generalize a.eval=ρ at e9 ec ⊢
   simp [execOp,e9,go_sem]
  refine Flow.Ones.cons ?_ ?_
  ·rintro a w hC hoff ⟨k5,-⟩
   have e10:a.eval (.tmp 10)=(.pointer (some ⟨B,0,none⟩)):=k5 10 rfl
   refine .inl ⟨Flow.want_none rfl,?_⟩
   refine Flow.run_same ?_ Flow.grow_refl
   have ec:=Flow.eval_const a
   generalize a.eval=ρ at e10 ec ⊢
   simp [execOp,e10,go_sem]
  refine Flow.Ones.cons ?_ ?_
  ·rintro a w hC hoff ⟨k6,-⟩
   have e11:a.eval (.tmp 11)=(.pointer (some ⟨B,0,none⟩)):=k6 11 rfl
   refine .inl ⟨Flow.want_none rfl,?_⟩
   refine Flow.run_same ?_ Flow.grow_refl
   have ec:=Flow.eval_const a
   generalize a.eval=ρ at e11 ec ⊢
   obtain ⟨d0,d1,d2,d3,d4⟩:=(HG.out.grow hC).cells
   simp [execOp,e11,d0,d1,d2,d3,go_sem]
  refine Flow.Ones.cons ?_ ?_
  ·rintro a w hC hoff ⟨k7,-⟩
   have e12:a.eval (.tmp 12)=(.agg #[v0,v1,v2,v3]):=k7 12 rfl
   refine .inl ⟨Flow.want_none rfl,?_⟩
   exact Flow.run_call (Flow.exec_call (args:=#[((.agg #[v0,v1,v2,v3]))]) rfl Tryz.func51 (by kernel_rfl) (by kernel_rfl) (by simp only [List.map_toArray,List.map_cons,List.map_nil,e12] <;> rfl)) ((HSt.out w (HG.out.grow hC).at).mono fun e w' ⟨he,hg⟩=>⟨_,he,hg,rfl⟩)
  refine Flow.Ones.cons ?_ ?_
  ·rintro a w hC hoff ⟨k3,k8,-⟩
   have e8:a.eval (.tmp 8)=(.agg #[v0,v1,v2,v3]):=k3 8 rfl
   have e13:a.eval (.tmp 13)=(.int .i64 s):=k8 13 rfl
   refine .inl ⟨Flow.want_none rfl,?_⟩
   exact Flow.run_call (Flow.exec_call (args:=#[((.agg #[v0,v1,v2,v3])),((.int .i64 s))]) rfl Tryz.func14 (by kernel_rfl) (by kernel_rfl) (by simp only [List.map_toArray,List.map_cons,List.map_nil,e8,e13] <;> rfl)) ((HOut.out w (HG.out.grow hC).at).mono fun e w' ⟨⟨va,he,ho⟩,hg⟩=>⟨_,he,hg,Ints.of_own ho⟩)
  refine Flow.Ones.cons ?_ ?_
  ·rintro a w hC hoff ⟨k9,-⟩
   have e14:(fun v w=>Ints w v (g.out s)) (a.eval (.tmp 14)) w:=k9 14 rfl
   refine .inl ⟨Flow.want_none rfl,?_⟩
   exact Flow.run_call (Flow.exec_call rfl Tryz.func50 (by kernel_rfl) (by kernel_rfl) (by simp only [List.map_toArray,List.map_cons,List.map_nil] <;> rfl)) ((HMk.out w _ e14).mono fun e w' ⟨he,hg⟩=>⟨_,he,by rw [← hg];exact Flow.grow_refl _,rfl⟩)
  refine Flow.Ones.cons ?_ ?_
  ·rintro a w hC hoff ⟨k10,-⟩
   have e15:a.eval (.tmp 15)=(.int .u64 (Mark.ofBools F.1:Int)):=k10 15 rfl
   refine .inl ⟨Flow.want_none rfl,?_⟩
   exact Flow.run_same (Flow.exec_move (.inr rfl) e15) Flow.grow_refl
  exact trivial
 case stab3 =>
  simp only [Flow.Stable,and_true]
  exact fun v w w' hR h=>Ints.grow h hR
 case ends3 =>
  intro w1 hg
  simp only [Flow.ends]
  intro v14 _
  simp only [Act.put,List.setIfInBounds_toArray,List.set_cons_succ,List.set_cons_zero]
  have HG1:=Lib.hid hg
  clear hg
  go_wp2_with fail
  go_ret
  exact ⟨rfl,HG1.out⟩
set_option maxRecDepth 100000 in
theorem unsafe_any (B:Nat) (v0 v1 v2 v3 lv:Value) (g:Gr.G) (L:List Gr.Lb) (u:Bool) (W:World) (h:Gr.Gm W B v0 v1 v2 v3 lv g L (Gr.err u 0)) :
  Calls Tryz.prog 30 #[.pointer (some ⟨B,0,none⟩)] W fun e w'=>e=.returned (.bool u)∧W=w':=by
 have c5:W.cell? ⟨B,5,none⟩=some (.int .i64 (Gr.err u 0)):=(cell_of_row W B 5 _ _ _ h.row).trans rfl
 clear h
 cases u with
 | false =>
  have c5':W.cell? ⟨B,5,none⟩=some (.int .i64 0):=c5
  clear c5
  go_enter Tryz.func30,Tryz.ntmps30
  go_wp2_with fail
  go_ret
  exact ⟨rfl,rfl⟩
 | true =>
  have c5':W.cell? ⟨B,5,none⟩=some (.int .i64 11):=c5
  clear c5
  go_enter Tryz.func30,Tryz.ntmps30
  go_wp2_with fail
  go_ret
  exact ⟨rfl,rfl⟩
theorem over_any (x:Nat) (hx:x < 18446744073709551616) (W:World):Calls Tryz.prog 31 #[.int .u64 (x:Int)] W fun e w'=>e=.returned (.bool (Mark.pop 64 x == 0))∧W=w':=by
 have HC:=Lib.hid fun w=>count_any x hx w
 generalize Mark.pop 64 x=q at *
 have hq:((q:Int) == 0)=(q == 0):=by cases q <;> rfl
 have HQ:=Lib.hid hq
 clear hq
 go_enter Tryz.func31,Tryz.ntmps31
 go_wp2_with (go_at_call 53;refine (HC.out _).mono ?_;rintro e w' ⟨rfl,rfl⟩)
 go_ret
 exact ⟨by rw [← HQ.out];rfl,rfl⟩
end Go.Proofs.YtcnmaplopbbmaaaGreat
