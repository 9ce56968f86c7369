/- det.May by its contract. -/
import Derived.Test.YtcpodmjcgfgmnaaGreatProg
import Derived.Test.YtcpodmjcgfgmnaaGreatMBase
import Derived.Outline
namespace Go.Proofs.YtcpodmjcgfgmnaaGreat
open Go.RowKit
namespace Det
def badStep (n:Nat) (s:Int):Bool:=decide (s < -1) || decide ((n:Int)≤s)
def badRow (labels:Int) (n:Nat) (l:List Int):Bool:=decide ((l.length:Int)≠labels) || l.any (badStep n)
def may (labels start:Int) (nf:Nat) (next:List (List Int)):Bool :=
 decide (0≤labels) && decide (nf=next.length) && decide (1≤next.length) && decide (next.length≤2000) && decide (0≤start) && decide (start < next.length) && !next.any (badRow labels next.length)
end Det
theorem Qax {a b:Bool} (h:a=b):Ending.returned (.bool a)=.returned (.bool b):=by rw [h]
set_option maxRecDepth 100000 in
set_option maxHeartbeats 400000 in
theorem Zcb (s:Int) (g:Nat) (a:Option Addr) (n cap:Nat) (w:World) (hc:w.cell? ⟨g,3,none⟩=some (.slice a n cap)) :
  Calls Tryz.prog 55 #[.int .i64 s,.pointer (some ⟨g,0,none⟩)] w fun e w'=>e=.returned (.bool (Det.badStep n s))∧w=w':=by
 by_cases h1:s < -1
 ·have H:Hid (Det.badStep n s=true):=Lib.hid (by simp [Det.badStep,h1]);go_enter Tryz.func55,Tryz.ntmps55;go_wp2;go_ret;exact ⟨Qax (by rw [H.out]),rfl⟩
 ·have hd:decide (s < -1)=false:=by simp [h1]
  have H:Hid (Det.badStep n s=decide ((n:Int)≤s)):=Lib.hid (by simp [Det.badStep,h1]);go_enter Tryz.func55,Tryz.ntmps55;go_wp2;go_ret;exact ⟨Qax (by rw [H.out]),rfl⟩
set_option maxRecDepth 100000 in
set_option maxHeartbeats 400000 in
theorem Za8 (v:Value) (zs:List Int) (hz:zs.length≤9223372036854775807) (g:Nat) (a:Option Addr) (n cap:Nat) (w:World) (hc:w.cell? ⟨g,3,none⟩=some (.slice a n cap)) (hv:Ints w v zs) :
  Calls Tryz.prog 74 #[v,.func (.func 55) #[] #[.pointer (some ⟨g,0,none⟩)]] w fun e w'=>(∃ k:Int,e=.returned (.int .i64 k)∧decide (0≤k)=zs.any (Det.badStep n))∧w=w':=by
 by_cases hn:zs=[]
 ·subst hn;obtain ⟨ao,cp,rfl,_⟩:=hv;go_enter Tryz.func74,Tryz.ntmps74;go_wp2_with fail;refine wp_loop_rounds 1 ?_;rw [rounds_succ];go_wp2_with fail;go_ret;exact ⟨⟨-1,rfl,rfl⟩,rfl⟩
 ·obtain ⟨b,off,cp,rfl,_,hcell⟩:=hv.shape hn;obtain ⟨len,hlen⟩:∃ len,len=zs.length:=⟨_,rfl⟩;rw [← hlen] at hcell hz ⊢;have Hlen:=Lib.hid hlen;clear hlen hn hv;go_enter Tryz.func74,Tryz.ntmps74;go_wp2_with fail;go_loop [8] (fun i=>∃ k:Nat,k≤len∧i=.int .i64 k∧Hid (zs.any (Det.badStep n)=(zs.drop k).any (Det.badStep n))) (fun i=>len - (intOf i).toNat)
  case atStart=>exact ⟨0,by omega,rfl,Lib.hid rfl⟩
  case round =>
   obtain ⟨k,hk,rfl,Hall⟩:=hrel;by_cases hkl:k < len
   ·have hcl:=hcell k hkl;have Hs:Hid ((zs.drop k).any (Det.badStep n)=(Det.badStep n (zs.getD k 0) || (zs.drop (k+1)).any (Det.badStep n))):=by
     have hk':k < zs.length:=by rw [← Hlen.out];exact hkl
     refine Lib.hid ?_;rw [List.drop_eq_getElem_cons hk',List.any_cons,List.getD_eq_getElem?_getD,List.getElem?_eq_getElem hk',Option.getD_some]
    clear hcell;generalize zs.getD k 0=z at *;cases hb:Det.badStep n z with
    | false =>
     have Hs':Hid (zs.any (Det.badStep n)=(zs.drop (k+1)).any (Det.badStep n)):=Lib.hid (by rw [Hall.out,Hs.out,hb];rfl);have Hb:=Lib.hid hb;clear hb Hs Hall;go_wp2_with (go_at_call 55;refine (Zcb _ _ _ _ _ _ hc).mono ?_;rintro e w' ⟨rfl,rfl⟩;rw [Hb.out]);go_round
     case rel=>exact ⟨k+1,by omega,by go_num,Hs'⟩
     case measure=>simp [intOf];omega
    | true =>
     have Hs':Hid (zs.any (Det.badStep n)=true):=Lib.hid (by rw [Hall.out,Hs.out,hb];rfl);have Hb:=Lib.hid hb;clear hb Hs Hall;go_wp2_with (go_at_call 55;refine (Zcb _ _ _ _ _ _ hc).mono ?_;rintro e w' ⟨rfl,rfl⟩;rw [Hb.out]);go_ret;exact ⟨⟨k,rfl,by rw [Hs'.out];simp⟩,rfl⟩
   ·clear hcell;have HE:Hid (zs.any (Det.badStep n)=false):=Lib.hid (by rw [Hall.out,List.drop_eq_nil_of_le (by rw [← Hlen.out];omega)];rfl);clear Hall;go_wp2_with fail;go_ret;exact ⟨⟨-1,rfl,by rw [HE.out];rfl⟩,rfl⟩
set_option maxRecDepth 100000 in
set_option maxHeartbeats 400000 in
theorem Quf (v:Value) (zs:List Int) (hz:zs.length≤9223372036854775807) (g:Nat) (a:Option Addr) (n cap:Nat) (w:World) (hc:w.cell? ⟨g,3,none⟩=some (.slice a n cap)) (hv:Ints w v zs) :
  Calls Tryz.prog 54 #[v,.func (.func 55) #[] #[.pointer (some ⟨g,0,none⟩)]] w fun e w'=>e=.returned (.bool (zs.any (Det.badStep n)))∧w=w':=by
 go_enter Tryz.func54,Tryz.ntmps54;go_wp2_with fail;refine (Za8 _ _ hz _ _ _ _ _ hc hv).mono ?_;rintro e w' ⟨⟨k,rfl,hk⟩,rfl⟩;have Hk:=Lib.hid hk;clear hk;go_wp2_with fail;go_ret;exact ⟨Qax Hk.out,rfl⟩
set_option maxRecDepth 100000 in
set_option maxHeartbeats 400000 in
theorem may1 (v:Value) (zs:List Int) (hz:zs.length≤9223372036854775807) (g:Nat) (labels:Int) (a:Option Addr) (n cap:Nat) (w:World) (hl:w.cell? ⟨g,0,none⟩=some (.int .i64 labels)) (hc:w.cell? ⟨g,3,none⟩=some (.slice a n cap)) (hv:Ints w v zs) :
  Calls Tryz.prog 53 #[v,.pointer (some ⟨g,0,none⟩)] w fun e w'=>e=.returned (.bool (Det.badRow labels n zs))∧w=w':=by
 have hv0:=hv;obtain ⟨ao,cp,rfl,_⟩:=hv0;by_cases h:(zs.length:Int)=labels
 ·have hne:((zs.length:Int) != labels)=false:=by simp [h]
  have H:Hid (Det.badRow labels n zs=zs.any (Det.badStep n)):=Lib.hid (by simp [Det.badRow,h]);have Hv:=Lib.hid hv;clear h hv;go_enter Tryz.func53,Tryz.ntmps53;go_wp2_with (go_at_call 54;refine (Quf _ _ hz _ _ _ _ _ hc Hv.out).mono ?_;rintro e w' ⟨rfl,rfl⟩);go_ret;exact ⟨Qax (by rw [H.out]),rfl⟩
 ·have hne:((zs.length:Int) != labels)=true:=by simp [h]
  have H:Hid (Det.badRow labels n zs=true):=Lib.hid (by simp [Det.badRow,h]);clear h hv;go_enter Tryz.func53,Tryz.ntmps53;go_wp2_with fail;go_ret;exact ⟨Qax (by rw [H.out]),rfl⟩
end Go.Proofs.YtcpodmjcgfgmnaaGreat
