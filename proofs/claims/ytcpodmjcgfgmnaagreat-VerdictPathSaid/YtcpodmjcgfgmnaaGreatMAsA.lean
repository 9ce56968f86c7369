/- Configurations of three participants: what can be done in them. No program. -/
import Derived.Test.YtcpodmjcgfgmnaaGreatMFnd
import Derived.Test.YtcpodmjcgfgmnaaGreatMLive
import Derived.Test.YtcpodmjcgfgmnaaGreatMDet
import Derived.Test.YtcpodmjcgfgmnaaGreatMMail
namespace Go.Proofs.YtcpodmjcgfgmnaaGreat
open Go.RowKit
namespace As
open Pr
abbrev Cfg:=List Int × List (List Int)
def box (l:Lb):Nat:=l.1.toNat * 3+l.2.1.toNat
def doB (room:Nat) (b:List (List Int)) (x:Lb) (a:Int × Int):Option (List (List Int)) :=
 if a.1=1 then (if (b.getD (box x) []).length < room then some (b.set (box x) (b.getD (box x) []++[a.2])) else none)
 else if (b.getD (box x) []).head?=some a.2 then some (b.set (box x) (b.getD (box x) []).tail) else none
def toS (p:Pd) (s:Int) (k:Nat):Int:=(p.rows.getD s.toNat []).getD k 0
def stp (ps:List Pd) (ls:List Lb) (room:Nat) (c:Cfg) (i k:Nat):Option Cfg × Bool :=
 let p:=ps.getD i default;let a:=p.acts.getD k (0,0);let t:=toS p (c.1.getD i 0) k
 if t < 0 then (none,false) else
 match doB room c.2 (ls.getD a.2.toNat (0,0,0)) a with
 | some b=>(some (c.1.set i t,b),false)
 | none=>(none,a.1 == 1)
def Qdr (ps:List Pd) (ls:List Lb) (room:Nat) (c:Cfg) (i k:Nat):List (Nat × Nat × Cfg):=(List.range k).filterMap fun j=>(stp ps ls room c i j).1.map fun d=>(i,j,d)
def blkK (ps:List Pd) (ls:List Lb) (room:Nat) (c:Cfg) (i k:Nat):Bool:=(List.range k).any fun j=>(stp ps ls room c i j).2
def Qbr (ps:List Pd) (ls:List Lb) (room:Nat) (c:Cfg) (i:Nat):List (Nat × Nat × Cfg):=(List.range i).flatMap fun j=>Qdr ps ls room c j (ps.getD j default).acts.length
def blkI (ps:List Pd) (ls:List Lb) (room:Nat) (c:Cfg) (i:Nat):Bool:=(List.range i).any fun j=>blkK ps ls room c j (ps.getD j default).acts.length
theorem Qpm (ps:List Pd) (ls:List Lb) (room:Nat) (c:Cfg) (i k:Nat):Qdr ps ls room c i (k+1)=Qdr ps ls room c i k++((stp ps ls room c i k).1.map fun d=>(i,k,d)).toList:=by
 unfold Qdr;rw [List.range_succ,List.filterMap_append];congr 1
theorem Qxd (ps:List Pd) (ls:List Lb) (room:Nat) (c:Cfg) (i k:Nat):blkK ps ls room c i (k+1)=(blkK ps ls room c i k || (stp ps ls room c i k).2):=by
 unfold blkK;simp [List.range_succ]
theorem Qit (ps:List Pd) (ls:List Lb) (room:Nat) (c:Cfg) (i:Nat):Qbr ps ls room c (i+1)=Qbr ps ls room c i++Qdr ps ls room c i (ps.getD i default).acts.length:=by
 unfold Qbr;simp [List.range_succ]
theorem Qxe (ps:List Pd) (ls:List Lb) (room:Nat) (c:Cfg) (i:Nat):blkI ps ls room c (i+1)=(blkI ps ls room c i || blkK ps ls room c i (ps.getD i default).acts.length):=by
 unfold blkI;simp [List.range_succ]
structure Wf (ps:List Pd) (c:Cfg):Prop where
 len:c.1.length=3
 boxes:c.2.length=9
 rng:∀ i,i < 3→0≤c.1.getD i 0∧c.1.getD i 0 < ((ps.getD i default).rows.length:Nat)
def first:Cfg:=([0,0,0],List.replicate 9 [])
theorem Qda {α:Type} {l:List α} {i:Nat} {x d:α} (h:i < l.length):(l.set i x).getD i d=x:=by
 simp [List.getD_eq_getElem?_getD,List.getElem?_set_self h]
theorem Qb5 {α:Type} {l:List α} {i j:Nat} {x d:α} (h:i≠j):(l.set i x).getD j d=l.getD j d:=by
 simp [List.getD_eq_getElem?_getD,List.getElem?_set_ne h]
theorem Zbh {room:Nat} {b b':List (List Int)} {x:Lb} {a:Int × Int} (h:doB room b x a=some b'):b'.length=b.length:=by
 unfold doB at h;split at h
 ·split at h
  ·injection h with h;rw [← h,List.length_set]
  ·cases h
 ·split at h
  ·injection h with h;rw [← h,List.length_set]
  ·cases h
def actB (L i k:Nat):Bool :=
 let l:=labsL L;let A:=acts (i:Int) l l.length;let a:=A.getD k (0,0);let x:=l.getD a.2.toNat (0,0,0);decide (0≤a.2) && decide (a.2 < (L:Int)) && decide (0≤x.1) && decide (x.1 < 3) && decide (0≤x.2.1) && decide (x.2.1 < 3) && (find a A == (k:Int)) && (a.1 == 1 || a.1 == 2)
theorem Qza:∀ L:Nat,L < 5→∀ i:Nat,i < 3→∀ k:Nat,k < 5→k < (acts (i:Int) (labsL L) (labsL L).length).length→actB L i k=true:=by decide +kernel
theorem Qzx {L i k:Nat} (hL:L≤4) (hi:i < 3) (hk:k < (acts (i:Int) (labsL L) (labsL L).length).length):∃ (d:Int) (q f t:Nat) (m:Int),(acts (i:Int) (labsL L) (labsL L).length).getD k (0,0)=(d,(q:Int))∧q < L∧(labsL L).getD q (0,0,0)=((f:Int),(t:Int),m)∧f < 3∧t < 3∧(d=1∨d=2)∧find (d,(q:Int)) (acts (i:Int) (labsL L) (labsL L).length)=(k:Int):=by
 have hk5:k < 5:=by have:=acts_len (i:Int) (labsL L) (labsL L).length;have:=labsL_len hL;omega
 have h:=Qza L (by omega) i hi k hk5 hk;unfold actB at h;simp only [Bool.and_eq_true,decide_eq_true_eq,Bool.or_eq_true,beq_iff_eq] at h;obtain ⟨⟨⟨⟨⟨⟨⟨h1,h2⟩,h3⟩,h4⟩,h5⟩,h6⟩,h7⟩,h8⟩:=h;generalize acts (i:Int) (labsL L) (labsL L).length=A at *;obtain ⟨⟨a1,a2⟩,hA⟩:∃ x,A.getD k (0,0)=x:=⟨_,rfl⟩;rw [hA] at h1 h2 h3 h4 h5 h6 h7 h8;simp only at h1 h2 h3 h4 h5 h6 h7 h8;obtain ⟨⟨x1,x2,x3⟩,hx⟩:∃ x,(labsL L).getD a2.toNat (0,0,0)=x:=⟨_,rfl⟩;rw [hx] at h3 h4 h5 h6;simp only at h3 h4 h5 h6;refine ⟨a1,a2.toNat,x1.toNat,x2.toNat,x3,?_,by omega,?_,by omega,by omega,by omega,?_⟩
 ·rw [hA];exact Prod.ext rfl (by show a2=((a2.toNat:Nat):Int);omega)
 ·rw [show ((a2.toNat:Nat))=a2.toNat from rfl,hx];exact Prod.ext (by show x1=_;omega) (Prod.ext (by show x2=((x2.toNat:Nat):Int);omega) rfl)
 ·rw [show ((a2.toNat:Nat):Int)=a2 by omega];exact h7
theorem Zbw {p:Pd} {ls:List Lb} {i:Nat} {s:Int} {k:Nat} {a:Int × Int} (hp:p.Ok ls i) (hk:k < p.acts.length) (hf:find a p.acts=(k:Int)) (h0:0≤s) (h1:s < (p.rows.length:Nat)):toP p s a=toS p s k:=by
 have hl:=hp.len s.toNat (by omega);rw [toP,hf,toD,if_pos ⟨h0,h1,by omega,by rw [hl];omega⟩,toS];simp
end As
end Go.Proofs.YtcpodmjcgfgmnaaGreat
namespace Go.Proofs.YtcpodmjcgfgmnaaGreat
open Go.RowKit
namespace As
open Pr
structure Good (ps:List Pd) (room:Nat) (c:Cfg):Prop where
 wf:Wf ps c
 bl:∀ j,(c.2.getD j []).length≤room
theorem Zcs {room:Nat} {b b':List (List Int)} {x:Lb} {a:Int × Int} (hb:∀ j,(b.getD j []).length≤room) (h:doB room b x a=some b'):∀ j,(b'.getD j []).length≤room:=by
 have key:∀ (r:List Int),r.length≤room→∀ j,((b.set (box x) r).getD j []).length≤room:=fun r hr j=>by
  by_cases e:box x=j
  ·by_cases hl:j < b.length
   ·rw [← e,Qda (by omega)];exact hr
   ·rw [List.getD_eq_getElem?_getD,List.getElem?_eq_none (by rw [List.length_set];omega)];simp
  ·rw [Qb5 e];exact hb j
 unfold doB at h;split at h
 ·split at h
  ·rename_i hr;injection h with h;subst h;exact key _ (by rw [List.length_append,List.length_singleton];omega)
  ·cases h
 ·split at h
  ·injection h with h;subst h;refine key _ ?_;have:=hb (box x);rw [List.length_tail];omega
  ·cases h
theorem Quq {ps:List Pd} {ls:List Lb} {room:Nat} {c d:Cfg} {i k:Nat} (h:(stp ps ls room c i k).1=some d) :
  0≤toS (ps.getD i default) (c.1.getD i 0) k∧∃ b,doB room c.2 (ls.getD ((ps.getD i default).acts.getD k (0,0)).2.toNat (0,0,0)) ((ps.getD i default).acts.getD k (0,0))=some b∧d=(c.1.set i (toS (ps.getD i default) (c.1.getD i 0) k),b):=by
 unfold stp at h;simp only at h;split at h
 ·cases h
 ·rename_i ht;split at h
  ·rename_i b hb;injection h with h;exact ⟨by omega,b,hb,h.symm⟩
  ·cases h
theorem Good.stp {ps:List Pd} {ls:List Lb} {room:Nat} {c d:Cfg} {i k:Nat} (hc:Good ps room c) (hok:∀ j,j < 3→(ps.getD j default).Ok ls j) (hi:i < 3) (hk:k < (ps.getD i default).acts.length) (h:(stp ps ls room c i k).1=some d):Good ps room d:=by
 obtain ⟨h0,b,hb,rfl⟩:=Quq h;have hl:=hc.wf.len;refine ⟨⟨by rw [List.length_set];exact hl,(Zbh hb).trans hc.wf.boxes,fun j hj=>?_⟩,Zcs hc.bl hb⟩;by_cases e:i=j
 ·subst e;rw [Qda (by omega)];have hr:=hc.wf.rng i hi;have:=(hok i hi).rng (c.1.getD i 0).toNat k (by omega) hk;exact ⟨h0,this.2⟩
 ·rw [Qb5 e];exact hc.wf.rng j hj
theorem Qt4 {ps:List Pd} {ls:List Lb} {room:Nat} (hok:∀ j,j < 3→(ps.getD j default).Ok ls j):Good ps room first:=by
 refine ⟨⟨rfl,rfl,fun i hi=>?_⟩,fun j=>?_⟩
 ·have:=(hok i hi).pos;have e:first.1.getD i 0=0:=by
   rcases i with _ | _ | _ | i
   ·rfl
   ·rfl
   ·rfl
   ·omega
  rw [e];omega
 ·have e:first.2.getD j []=[]:=by
   show (List.replicate 9 ([]:List Int)).getD j []=[];rw [List.getD_eq_getElem?_getD,List.getElem?_replicate];split <;> rfl
  rw [e];exact Nat.zero_le _
theorem Qgd {ps:List Pd} {ls:List Lb} {room:Nat} {c d:Cfg} {i k n:Nat} (h:(i,k,d)∈Qbr ps ls room c n):i < n∧k < (ps.getD i default).acts.length∧(stp ps ls room c i k).1=some d:=by
 unfold Qbr at h;obtain ⟨j,hj,h⟩:=List.mem_flatMap.1 h;unfold Qdr at h;obtain ⟨q,hq,h⟩:=List.mem_filterMap.1 h;cases hs:(stp ps ls room c j q).1 with
 | none=>rw [hs] at h;cases h
 | some x =>
  rw [hs] at h;simp only [Option.map_some,Option.some.injEq,Prod.mk.injEq] at h;obtain ⟨rfl,rfl,rfl⟩:=h;exact ⟨List.mem_range.1 hj,List.mem_range.1 hq,hs⟩
end As
end Go.Proofs.YtcpodmjcgfgmnaaGreat
namespace Go.Proofs.YtcpodmjcgfgmnaaGreat
open Go.RowKit
namespace As
open Pr
theorem Qsd (zs:List Int):∀ n,n≤zs.length→kbs zs n=(zs.take n).flatMap kb
 | 0,_=>rfl
 | n+1,h=>by
  have e:zs[n]?=some (zs[n]'(by omega)):=List.getElem?_eq_getElem _;rw [kbs,Qsd zs n (by omega),List.take_add_one,List.flatMap_append,List.getD_eq_getElem?_getD,e];rfl
theorem Qmp (zs:List Int):kbs zs zs.length=zs.flatMap kb:=by rw [Qsd zs _ (Nat.le_refl _),List.take_length]
def bkb (l:List Int):List UInt8:=lo8 (l.length:Int) :: l.flatMap kb
def mkb (b:List (List Int)):Nat→List UInt8
 | 0=>[]
 | j+1=>mkb b j++bkb (b.getD j [])
theorem Qr5 (b:List (List Int)):∀ n,n≤b.length→mkb b n=(b.take n).flatMap bkb
 | 0,_=>rfl
 | n+1,h=>by
  have e:b[n]?=some (b[n]'(by omega)):=List.getElem?_eq_getElem _;rw [mkb,Qr5 b n (by omega),List.take_add_one,List.flatMap_append,List.getD_eq_getElem?_getD,e];simp
theorem Qp7 (b:List (List Int)):mkb b b.length=b.flatMap bkb:=by rw [Qr5 b _ (Nat.le_refl _),List.take_length]
def keyB (c:Cfg):List UInt8:=kbs c.1 c.1.length++mkb c.2 c.2.length
def Qiy (x:Int):Prop:=0≤x∧x < 60000
theorem Qqp:∀ {zs zs':List Int},zs.length=zs'.length→(∀ x∈zs,Qiy x)→(∀ x∈zs',Qiy x)→zs.flatMap kb=zs'.flatMap kb→zs=zs'
 | [],[],_,_,_,_=>rfl
 | [],_ :: _,h,_,_,_=>by simp at h
 | _ :: _,[],h,_,_,_=>by simp at h
 | z :: zs,z' :: zs',h,h1,h2,e=>by
  rw [List.flatMap_cons,List.flatMap_cons] at e;obtain ⟨e1,e2⟩:=List.append_inj e rfl;have a:=h1 z (by simp);have a':=h2 z' (by simp);rw [Qzq ⟨by have:=a.1;omega,a.2⟩ ⟨by have:=a'.1;omega,a'.2⟩ e1,Qqp (by simpa using h) (fun x hx=>h1 x (by simp [hx])) (fun x hx=>h2 x (by simp [hx])) e2]
theorem Qf9 (zs:List Int):(zs.flatMap kb).length=2 * zs.length:=by rw [← Qmp,kbs_len]
theorem Za2 {n m:Nat} (hn:n < 256) (hm:m < 256) (h:lo8 (n:Int)=lo8 (m:Int)):n=m:=by
 have h1:((lo8 (n:Int)).toNat:Int)=(lo8 (m:Int)).toNat:=by rw [h]
 rw [lo8_val,lo8_val] at h1;omega
theorem Zbm {l l':List Int} {r r':List UInt8} (hl:l.length < 256) (hl':l'.length < 256) (h1:∀ x∈l,Qiy x) (h2:∀ x∈l',Qiy x) (e:bkb l++r=bkb l'++r'):l=l'∧r=r':=by
 unfold bkb at e;rw [List.cons_append,List.cons_append] at e;injection e with e1 e2;have hn:=Za2 hl hl' e1;obtain ⟨e3,e4⟩:=List.append_inj e2 (by rw [Qf9,Qf9,hn]);exact ⟨Qqp hn h1 h2 e3,e4⟩
theorem Qvz:∀ {b b':List (List Int)},b.length=b'.length→(∀ l∈b,l.length < 256∧∀ x∈l,Qiy x)→(∀ l∈b',l.length < 256∧∀ x∈l,Qiy x)→b.flatMap bkb=b'.flatMap bkb→b=b'
 | [],[],_,_,_,_=>rfl
 | [],_ :: _,h,_,_,_=>by simp at h
 | _ :: _,[],h,_,_,_=>by simp at h
 | l :: b,l' :: b',h,h1,h2,e=>by
  rw [List.flatMap_cons,List.flatMap_cons] at e;have a:=h1 l (by simp);have a':=h2 l' (by simp);obtain ⟨e1,e2⟩:=Zbm a.1 a'.1 a.2 a'.2 e;rw [e1,Qvz (by simpa using h) (fun x hx=>h1 x (by simp [hx])) (fun x hx=>h2 x (by simp [hx])) e2]
structure Gd (ps:List Pd) (room:Nat) (c:Cfg):Prop extends Good ps room c where
 val:∀ j,∀ x∈c.2.getD j [],Qiy x
theorem Gd.stp {ps:List Pd} {L room:Nat} {c d:Cfg} {i k:Nat} (hc:Gd ps room c) (hL:L≤4) (hok:∀ j,j < 3→(ps.getD j default).Ok (labsL L) j) (hi:i < 3) (hk:k < (ps.getD i default).acts.length) (h:(As.stp ps (labsL L) room c i k).1=some d):Gd ps room d:=by
 refine ⟨hc.toGood.stp hok hi hk h,?_⟩;obtain ⟨h0,b,hb,rfl⟩:=Quq h;have ha:=(hok i hi).acts;obtain ⟨dd,q,f,t,m,e1,e2,e3,e4,e5,_,_⟩:=Qzx hL hi (by rw [ha] at hk;exact hk);rw [ha,e1] at hb;have key:∀ (r:List Int) (n:Nat),(∀ x∈r,Qiy x)→∀ j,∀ x∈(c.2.set n r).getD j [],Qiy x:=fun r n hr j=>by
  by_cases e:n=j
  ·by_cases hl:j < c.2.length
   ·rw [← e,Qda (by omega)];exact hr
   ·rw [List.getD_eq_getElem?_getD,List.getElem?_eq_none (by rw [List.length_set];omega)];simp
  ·rw [Qb5 e];exact hc.val j
 unfold doB at hb;split at hb
 ·split at hb
  ·injection hb with hb;subst hb;refine key _ _ fun x hx=>?_;rw [List.mem_append] at hx;rcases hx with hx | hx
   ·exact hc.val _ x hx
   ·simp at hx;subst hx;exact ⟨by omega,by omega⟩
  ·cases hb
 ·split at hb
  ·injection hb with hb;subst hb;exact key _ _ fun x hx=>hc.val _ x (List.mem_of_mem_tail hx)
  ·cases hb
theorem Qgx {ps:List Pd} {ls:List Lb} {room:Nat} (hok:∀ j,j < 3→(ps.getD j default).Ok ls j):Gd ps room first:=by
 refine ⟨Qt4 hok,fun j x hx=>?_⟩;have e:first.2.getD j []=[]:=by
  show (List.replicate 9 ([]:List Int)).getD j []=[];rw [List.getD_eq_getElem?_getD,List.getElem?_replicate];split <;> rfl
 rw [e] at hx;cases hx
theorem Qme {α:Type} {l:List α} {x d:α} (h:x∈l):∃ j,j < l.length∧l.getD j d=x:=by
 obtain ⟨j,hj,rfl⟩:=List.getElem_of_mem h;exact ⟨j,hj,by simp [List.getD_eq_getElem?_getD,hj]⟩
theorem Za5 {ps:List Pd} {ls:List Lb} {room:Nat} {c d:Cfg} (hok:∀ j,j < 3→(ps.getD j default).Ok ls j) (hr:room≤8) (hc:Gd ps room c) (hd:Gd ps room d) (h:keyB c=keyB d):c=d:=by
 have st:∀ {c:Cfg},Gd ps room c→∀ x∈c.1,Qiy x:=fun {c} hc x hx=>by
  obtain ⟨j,hj,rfl⟩:=Qme (d:=0) hx;rw [hc.wf.len] at hj;have h1:=hc.wf.rng j hj;have h2:=(hok j hj).few;exact ⟨h1.1,by omega⟩
 have bx:∀ {c:Cfg},Gd ps room c→∀ l∈c.2,l.length < 256∧∀ x∈l,Qiy x:=fun {c} hc l hl=>by
  obtain ⟨j,hj,rfl⟩:=Qme (d:=[]) hl;have:=hc.bl j;exact ⟨by omega,hc.val j⟩
 unfold keyB at h;rw [Qmp,Qmp,Qp7,Qp7] at h;obtain ⟨e1,e2⟩:=List.append_inj h (by rw [Qf9,Qf9,hc.wf.len,hd.wf.len]);exact Prod.ext (Qqp (by rw [hc.wf.len,hd.wf.len]) (st hc) (st hd) e1) (Qvz (by rw [hc.wf.boxes,hd.wf.boxes]) (bx hc) (bx hd) e2)
theorem Qyo {ps:List Pd} {room:Nat} {c:Cfg} (hr:room≤8) (hc:Gd ps room c):(keyB c).length≤1000:=by
 unfold keyB;rw [List.length_append,kbs_len,hc.wf.len,Qp7];have:∀ b:List (List Int),(∀ l∈b,l.length≤8)→(b.flatMap bkb).length≤17 * b.length:=fun b=>by
  induction b with
  | nil=>intro _;simp
  | cons l b ih =>
   intro h;have h1:=ih fun l hl=>h l (by simp [hl]);have h2:=h l (by simp);rw [List.flatMap_cons,List.length_append,bkb,List.length_cons,Qf9,List.length_cons];omega
 have h1:=this c.2 fun l hl=>by
  obtain ⟨j,hj,rfl⟩:=Qme (d:=[]) hl;have:=hc.bl j;omega
 rw [hc.wf.boxes] at h1;omega
abbrev Stq:=Nat × Nat × Cfg
def ext (all:List Cfg) (d:Cfg):List Cfg:=if d∈all then all else all++[d]
def exts (all:List Cfg) (l:List Stq):List Cfg:=l.foldl (fun a s=>ext a s.2.2) all
def tos:List Cfg→List Stq→List Nat
 | _,[]=>[]
 | all,s :: l=>all.idxOf s.2.2 :: tos (ext all s.2.2) l
theorem Qo3 (all:List Cfg) (l:List Stq) (s:Stq):exts all (l++[s])=ext (exts all l) s.2.2:=by simp [exts]
theorem Qri:∀ (all:List Cfg) (l:List Stq) (s:Stq),tos all (l++[s])=tos all l++[(exts all l).idxOf s.2.2]
 | _,[],_=>rfl
 | all,x :: l,s=>by
  rw [List.cons_append,tos,Qri (ext all x.2.2) l s,tos];rfl
theorem Qpj:∀ (all:List Cfg) (l:List Stq),(tos all l).length=l.length
 | _,[]=>rfl
 | all,x :: l=>by rw [tos,List.length_cons,Qpj (ext all x.2.2) l,List.length_cons]
theorem Zbb (all:List Cfg) (d:Cfg):all <+: ext all d:=by
 unfold ext;split
 ·exact List.prefix_refl _
 ·exact List.prefix_append _ _
theorem Qig:∀ (l:List Stq) (all:List Cfg),all <+: exts all l
 | [],_=>List.prefix_refl _
 | s :: l,all=>(Zbb all s.2.2).trans (Qig l (ext all s.2.2))
theorem Qwy {all:List Cfg} {d:Cfg} (h:all.Nodup):(ext all d).Nodup:=by
 unfold ext;split
 ·exact h
 ·rename_i hd;rw [List.nodup_append];exact ⟨h,by simp,fun a ha b hb e=>by simp at hb;subst hb;subst e;exact hd ha⟩
theorem Qhn:∀ {l:List Stq} {all:List Cfg},all.Nodup→(exts all l).Nodup
 | [],_,h=>h
 | _ :: l,_,h=>Qhn (l:=l) (Qwy h)
theorem Zbc {all:List Cfg} {d x:Cfg} (h:x∈ext all d):x∈all∨x=d:=by
 unfold ext at h;split at h
 ·exact .inl h
 ·rw [List.mem_append] at h;exact h.imp id fun h=>by simpa using h
theorem Qmx:∀ {l:List Stq} {all:List Cfg} {x:Cfg},x∈exts all l→x∈all∨∃ s∈l,x=s.2.2
 | [],_,_,h=>.inl h
 | s :: l,all,x,h=>by
  rcases Qmx (l:=l) h with h1 | ⟨s',h1,h2⟩
  ·rcases Zbc h1 with h2 | h2
   ·exact .inl h2
   ·exact .inr ⟨s,by simp,h2⟩
  ·exact .inr ⟨s',by simp [h1],h2⟩
theorem Qwz (all:List Cfg) (d:Cfg):(ext all d).length≤all.length+1:=by
 unfold ext;split
 ·omega
 ·simp
theorem Qsk:∀ (l:List Stq) (all:List Cfg),(exts all l).length≤all.length+l.length
 | [],all=>by simp [exts]
 | s :: l,all=>by
  have:=Qsk l (ext all s.2.2);have:=Qwz all s.2.2;show (exts (ext all s.2.2) l).length≤_;simp only [List.length_cons];omega
def Qal (f:Cfg→List Stq):Nat→List Cfg
 | 0=>[first]
 | i+1=>exts (Qal f i) (f ((Qal f i).getD i first))
theorem Qnf (f:Cfg→List Stq) {i j:Nat} (h:i≤j):Qal f i <+: Qal f j:=by
 induction j with
 | zero =>
  obtain rfl:i=0:=by omega
  exact List.prefix_refl _
 | succ j ih =>
  by_cases e:i≤j
  ·exact (ih e).trans (Qig _ _)
  ·obtain rfl:i=j+1:=by omega
   exact List.prefix_refl _
theorem Qb9 (f:Cfg→List Stq) {i j:Nat} (h:i≤j):(Qal f i).length≤(Qal f j).length:=(Qnf f h).length_le
theorem Qf3 (f:Cfg→List Stq):∀ i,(Qal f i).Nodup
 | 0=>by simp [Qal]
 | i+1=>Qhn (Qf3 f i)
theorem Qrv {α:Type} {l l':List α} {d:α} (h:l <+: l') {i:Nat} (hi:i < l.length):l'.getD i d=l.getD i d:=by
 obtain ⟨r,rfl⟩:=h;simp [List.getD_eq_getElem?_getD,List.getElem?_append_left hi]
theorem Qg9 (f:Cfg→List Stq) {i j q:Nat} (h:i≤j) (hq:q < (Qal f i).length):(Qal f j).getD q first=(Qal f i).getD q first:=Qrv (Qnf f h) hq
def Ends (f:Cfg→List Stq) (n:Nat):Prop:=(Qal f n).length=n∧∀ i,i < n→i < (Qal f i).length
def Qz2 (f:Cfg→List Stq) (n:Nat):Prop:=∃ i,(∀ j,j≤i→j < (Qal f j).length)∧n < (Qal f (i+1)).length
theorem Ends.more {f:Cfg→List Stq} {n m:Nat} (h:Ends f n) (k:Qz2 f m):m < n:=by
 obtain ⟨i,h1,h2⟩:=k;by_cases e:i < n
 ·have:=Qb9 f (show i+1≤n by omega);have:=h.1;omega
 ·have:=h1 n (by omega);have:=h.1;omega
theorem Qgf {ps:List Pd} {L room:Nat} (hL:L≤4) (hok:∀ j,j < 3→(ps.getD j default).Ok (labsL L) j):∀ i,∀ c∈Qal (fun c=>Qbr ps (labsL L) room c 3) i,Gd ps room c
 | 0,c,h=>by
  simp [Qal] at h;subst h;exact Qgx hok
 | i+1,c,h=>by
  have ih:=Qgf (room:=room) hL hok i;rcases Qmx h with h1 | ⟨⟨a,q,d⟩,h1,rfl⟩
  ·exact ih c h1
  ·obtain ⟨h2,h3,h4⟩:=Qgd h1;have hg:Gd ps room ((Qal (fun c=>Qbr ps (labsL L) room c 3) i).getD i first):=by
    rw [List.getD_eq_getElem?_getD];cases e:(Qal (fun c=>Qbr ps (labsL L) room c 3) i)[i]? with
    | none=>exact Qgx hok
    | some x=>exact ih x (List.mem_of_getElem? e)
   exact hg.stp hL hok h2 h3 h4
end As
end Go.Proofs.YtcpodmjcgfgmnaaGreat
namespace Go.Proofs.YtcpodmjcgfgmnaaGreat
open Go.RowKit
structure Sub (w w':World):Prop where
 size:w.heap.size≤w'.heap.size
 cell:∀ a v,w.cell? a=some v→w'.cell? a=some v
theorem Qm7 {w:World} {a:Addr} {v:Value} (h:w.cell? a=some v):a.block < w.heap.size:=by
 by_cases ha:a.block < w.heap.size
 ·exact ha
 ·exfalso;unfold World.cell? at h;rw [Array.getElem?_eq_none (by omega)] at h;cases h
theorem Sub.of_grow {w w':World} (g:Flow.Grow w w'):Sub w w':=⟨g.size,fun a v h=>(World.cell?_of_block (g.block a.block (Qm7 h) (by simp))).trans h⟩
theorem Sub.refl (w:World):Sub w w:=⟨Nat.le_refl _,fun _ _ h=>h⟩
theorem Sub.trans {w w' w'':World} (h:Sub w w') (k:Sub w' w''):Sub w w'':=⟨Nat.le_trans h.size k.size,fun a v e=>k.cell a v (h.cell a v e)⟩
theorem Seg.sub {sz:Nat} {w w':World} {v:Value} {n:Nat} {xs:List Value} (h:Seg sz w v n xs) (g:Sub w w'):Seg sz w' v n xs:=by
 obtain ⟨a,cap,rfl,hm,hn,hc⟩:=h;refine ⟨a,cap,rfl,hm,hn,fun j hj=>?_⟩;obtain ⟨b,off,ha,hb,hcell⟩:=hc j hj;refine ⟨b,off,ha,Nat.lt_of_lt_of_le hb g.size,?_⟩;rw [List.getElem?_eq_getElem hj] at hcell ⊢;exact g.cell _ _ hcell
end Go.Proofs.YtcpodmjcgfgmnaaGreat
namespace Go.Proofs.YtcpodmjcgfgmnaaGreat
open Go.RowKit
namespace As
open Pr
def BoxO (W w:World) (B:Nat) (v:Value) (row:List Int):Prop:=w.ownsRow B 3 1 v row.length (row.map (Value.int .i64))∨(Ints W v row∧Zbq v)
def MailD (W w:World) (B:Nat) (vl:Value) (b:List (List Int)):Prop:=∃ vs,w.ownsRow B 49 1 vl b.length vs∧∀ j,j < b.length→BoxO W w B (vs.getD j undef) (b.getD j [])
structure CfgD (W w:World) (B:Nat) (vS vl:Value) (d:Cfg):Prop where
 st:w.ownsRow B 3 1 vS d.1.length (d.1.map (Value.int .i64))
 ml:MailD W w B vl d.2
structure CfgAt (w:World) (vS vl:Value) (d:Cfg):Prop where
 st:Ints w vS d.1
 ml:∃ vs,BoxAt w vl vs d.2
theorem BoxAt.sub {w w':World} {v:Value} {vs:List Value} {b:List (List Int)} (h:BoxAt w v vs b) (g:Sub w w'):BoxAt w' v vs b:=⟨Seg.sub h.1 g,fun j hj=>⟨Seg.sub (h.2 j hj).1 g,(h.2 j hj).2⟩⟩
theorem CfgAt.sub {w w':World} {vS vl:Value} {d:Cfg} (h:CfgAt w vS vl d) (g:Sub w w'):CfgAt w' vS vl d:=⟨Seg.sub h.st g,h.ml.imp fun _ h=>BoxAt.sub h g⟩
theorem CfgAt.grow {w w':World} {vS vl:Value} {d:Cfg} (h:CfgAt w vS vl d) (g:Flow.Grow w w'):CfgAt w' vS vl d:=⟨h.st.grow g,h.ml.imp fun _ h=>h.grow g⟩
theorem BoxO.at_ {W w:World} {B:Nat} {v:Value} {row:List Int} (h:BoxO W w B v row) (g:Flow.Grow W w):Ints w v row∧Zbq v:=by
 rcases h with h | h
 ·exact ⟨Seg.of_own h,Qpw h⟩
 ·exact ⟨h.1.grow g,h.2⟩
theorem MailD.at_ {W w:World} {B:Nat} {vl:Value} {b:List (List Int)} (h:MailD W w B vl b) (g:Flow.Grow W w):∃ vs,BoxAt w vl vs b:=by
 obtain ⟨vs,h1,h2⟩:=h;exact ⟨vs,Seg.of_own h1,fun j hj=>(h2 j hj).at_ g⟩
theorem CfgD.at_ {W w:World} {B:Nat} {vS vl:Value} {d:Cfg} (h:CfgD W w B vS vl d) (g:Flow.Grow W w):CfgAt w vS vl d:=⟨Seg.of_own h.st,h.ml.at_ g⟩
theorem BoxO.kept {W w w':World} {B:Nat} {v:Value} {row:List Int} {r:Option Nat} (h:BoxO W w B v row) (k:w.grownBy w' r) (hr:∀ g,r=some g→∃ cs T,w.heap[g]?=some (.cells cs T (0,0))∧T≠3):BoxO W w' B v row:=by
 rcases h with h | h
 ·refine .inl (h.kept k ?_);cases r with
  | none=>cases v.ownBlock <;> simp
  | some g =>
   obtain ⟨cs,T,h1,h2⟩:=hr g rfl;exact .inr (Qan h h1 (h2))
 ·exact .inr h
theorem MailD.kept {W w w':World} {B:Nat} {vl:Value} {b:List (List Int)} {r:Option Nat} (h:MailD W w B vl b) (k:w.grownBy w' r) (hr:∀ g,r=some g→∃ cs T,w.heap[g]?=some (.cells cs T (0,0))∧T≠3∧T≠49):MailD W w' B vl b:=by
 obtain ⟨vs,h1,h2⟩:=h;refine ⟨vs,h1.kept k ?_,fun j hj=>(h2 j hj).kept k fun g hg=>?_⟩
 ·cases r with
  | none=>cases vl.ownBlock <;> simp
  | some g =>
   obtain ⟨cs,T,h3,_,h4⟩:=hr g rfl;exact .inr (Qan h1 h3 h4)
 ·obtain ⟨cs,T,h3,h4,_⟩:=hr g hg;exact ⟨cs,T,h3,h4⟩
theorem CfgD.kept {W w w':World} {B:Nat} {vS vl:Value} {d:Cfg} {r:Option Nat} (h:CfgD W w B vS vl d) (k:w.grownBy w' r) (hr:∀ g,r=some g→∃ cs T,w.heap[g]?=some (.cells cs T (0,0))∧T≠3∧T≠49):CfgD W w' B vS vl d where
 st:=by
  refine h.st.kept k ?_;cases r with
  | none=>cases vS.ownBlock <;> simp
  | some g =>
   obtain ⟨cs,T,h3,h4,_⟩:=hr g rfl;exact .inr (Qan h.st h3 h4)
 ml:=h.ml.kept k hr
theorem MailD.grow {W w w':World} {B:Nat} {vl:Value} {b:List (List Int)} (h:MailD W w B vl b) (g:Flow.Grow w w'):MailD W w' B vl b:=h.kept (r:=none) g (fun _ e=>by cases e)
theorem CfgD.grow {W w w':World} {B:Nat} {vS vl:Value} {d:Cfg} (h:CfgD W w B vS vl d) (g:Flow.Grow w w'):CfgD W w' B vS vl d:=h.kept (r:=none) g (fun _ e=>by cases e)
theorem BoxO.mono {W W' w:World} {B B':Nat} {v:Value} {row:List Int} (h:BoxO W w B v row) (hB:B'≤B) (g:Flow.Grow W W'):BoxO W' w B' v row:=by
 rcases h with h | h
 ·exact .inl (own_mono h hB)
 ·exact .inr ⟨h.1.grow g,h.2⟩
theorem MailD.mono {W w:World} {B B':Nat} {vl:Value} {b:List (List Int)} (h:MailD W w B vl b) (hB:B'≤B):MailD W w B' vl b:=by
 obtain ⟨vs,h1,h2⟩:=h;exact ⟨vs,own_mono h1 hB,fun j hj=>(h2 j hj).mono hB (Flow.grow_refl _)⟩
theorem CfgD.mono {W w:World} {B B':Nat} {vS vl:Value} {d:Cfg} (h:CfgD W w B vS vl d) (hB:B'≤B):CfgD W w B' vS vl d:=⟨own_mono h.st hB,h.ml.mono hB⟩
theorem MailD.set {W w:World} {B Y q:Nat} {u vl:Value} {b:List (List Int)} {cs:Array Value} {T:TypeId} (h:MailD W w B vl b) (hY:w.heap[Y]?=some (.cells cs T (0,0))) (h1:T≠3) (h2:T≠49):MailD W (w.setCell ⟨Y,q,none⟩ u) B vl b :=
 h.kept (Qad w Y q u) fun g e=>by cases e;exact ⟨cs,T,hY,h1,h2⟩
theorem MailD.set4 {W w:World} {B Y:Nat} {c0 c1 c2 c3 vl:Value} {b:List (List Int)} {cs:Array Value} {T:TypeId} (h:MailD W w B vl b) (hY:w.heap[Y]?=some (.cells cs T (0,0))) (h1:T≠3) (h2:T≠49):MailD W ((((w.setCell ⟨Y,0,none⟩ c0).setCell ⟨Y,1,none⟩ c1).setCell ⟨Y,2,none⟩ c2).setCell ⟨Y,3,none⟩ c3) B vl b :=
 (((h.set hY h1 h2).set (Qbi hY _ _) h1 h2).set (Qbi (Qbi hY _ _) _ _) h1 h2).set (Qbi (Qbi (Qbi hY _ _) _ _) _ _) h1 h2
theorem MailD.set3 {W w:World} {B Y:Nat} {c0 c1 c2 vl:Value} {b:List (List Int)} {cs:Array Value} {T:TypeId} (h:MailD W w B vl b) (hY:w.heap[Y]?=some (.cells cs T (0,0))) (h1:T≠3) (h2:T≠49):MailD W (((w.setCell ⟨Y,0,none⟩ c0).setCell ⟨Y,1,none⟩ c1).setCell ⟨Y,2,none⟩ c2) B vl b :=
 ((h.set hY h1 h2).set (Qbi hY _ _) h1 h2).set (Qbi (Qbi hY _ _) _ _) h1 h2
theorem Qom {W w':World} {B g gc j:Nat} {vl vb:Value} {vs:List Value} {b:List (List Int)} {row:List Int} (h9:b.length=9) (hR:BoxAt W vl vs b) (h:w'.ownsRow B 49 1 (.slice (some ⟨g,0,none⟩) 9 gc) 9 (vs.set j vb)) (hb:w'.ownsRow B 3 1 vb row.length (row.map (Value.int .i64))) (hj:j < 9) :
  MailD W w' B (.slice (some ⟨g,0,none⟩) 9 gc) (b.set j row):=by
 have hvl:vs.length=9:=by simpa using h.1
 refine ⟨vs.set j vb,by rw [List.length_set,h9];exact h,fun i hi=>?_⟩;rw [List.length_set] at hi;by_cases e:i=j
 ·subst e;rw [Qda (by omega),Qda (by omega)];exact .inl hb
 ·rw [Qb5 (Ne.symm e),Qb5 (Ne.symm e)];exact .inr (hR.2 i hi)
end As
open As in
theorem Qtt (room f t:Nat) (m z:Int) (vl:Value) (vs:List Value) (b:List (List Int)) (W0 W:World) (hg0:Sub W0 W) (hroom:room≤1000) (h9:b.length=9) (hf:f < 3) (ht:t < 3) (hR:BoxAt W0 vl vs b) :
  Calls Tryz.prog 29 #[.agg #[.int .i64 3,.int .i64 (room:Nat),vl],.int .i64 f,.int .i64 t,.int .i64 z] W fun e w'=>(match doB room b ((f:Int),(t:Int),m) (1,z) with
   | some b'=>∃ va vn vc,e=.returned (.tuple #[.agg #[.int .i64 3,.int .i64 (room:Nat),.slice va vn vc],.bool true])∧MailD W0 w' W.heap.size (.slice va vn vc) b'
   | none=>e=.returned (.tuple #[.agg #[.int .i64 3,.int .i64 (room:Nat),vl],.bool false]))∧Flow.Grow W w':=by
 have hb:box ((f:Int),(t:Int),m)=f * 3+t:=by simp [box]
 unfold doB;rw [hb];simp only [if_true];by_cases hr:(b.getD (f * 3+t) []).length < room
 ·rw [if_pos hr];refine (Qqh room f t z vl vs b W hroom h9 hf ht (As.BoxAt.sub hR hg0) hr).mono ?_;rintro e w' ⟨⟨g,gc,h,hc,rfl,ho1,ho2⟩,hg⟩;refine ⟨⟨_,_,_,rfl,Qom h9 hR ho1 ?_ (by omega)⟩,hg⟩;rw [List.length_append];exact ho2
 ·rw [if_neg hr];exact (Qts room f t z vl vs b W hroom h9 hf ht (As.BoxAt.sub hR hg0) hr).mono fun e w' h=>h
open As in
theorem Qqg (room f t:Nat) (m z:Int) (vl:Value) (vs:List Value) (b:List (List Int)) (W0 W:World) (hg0:Sub W0 W) (h9:b.length=9) (hf:f < 3) (ht:t < 3) (hR:BoxAt W0 vl vs b) (hlen:(b.getD (f * 3+t) []).length≤100000) :
  Calls Tryz.prog 30 #[.agg #[.int .i64 3,.int .i64 (room:Nat),vl],.int .i64 f,.int .i64 t,.int .i64 z] W fun e w'=>(match doB room b ((f:Int),(t:Int),m) (2,z) with
   | some b'=>∃ va vn vc,e=.returned (.tuple #[.agg #[.int .i64 3,.int .i64 (room:Nat),.slice va vn vc],.bool true])∧MailD W0 w' W.heap.size (.slice va vn vc) b'
   | none=>e=.returned (.tuple #[.agg #[.int .i64 3,.int .i64 (room:Nat),vl],.bool false]))∧Flow.Grow W w':=by
 have hb:box ((f:Int),(t:Int),m)=f * 3+t:=by simp [box]
 unfold doB;rw [hb];rw [if_neg (show ¬ (2:Int)=1 by decide)];by_cases hr:(b.getD (f * 3+t) []).head?=some z
 ·rw [if_pos hr];obtain ⟨rest,hrest⟩:∃ rest,b.getD (f * 3+t) []=z :: rest:=by
   cases hq:b.getD (f * 3+t) [] with
   | nil=>rw [hq] at hr;cases hr
   | cons y r=>rw [hq] at hr;injection hr with e;exact ⟨r,by rw [e]⟩
  rw [hrest] at hlen ⊢;refine (Qok room f t z vl vs b W h9 hf ht (As.BoxAt.sub hR hg0) rest (by simp at hlen;omega) hrest).mono ?_;rintro e w' ⟨⟨g,gc,v',rfl,ho1,ho2⟩,hg⟩;exact ⟨⟨_,_,_,rfl,Qom h9 hR ho1 ho2 (by omega)⟩,hg⟩
 ·rw [if_neg hr];exact (Qqf room f t z vl vs b W h9 hf ht (As.BoxAt.sub hR hg0) hr).mono fun e w' h=>h
end Go.Proofs.YtcpodmjcgfgmnaaGreat
namespace Go.Proofs.YtcpodmjcgfgmnaaGreat
open Go.RowKit
def mask (w:World) (L:List Nat):World:={ w with heap:=w.heap.mapIdx fun b o=>if L.contains b then .cells #[] 0 else o }
theorem Qdx (w:World) (L:List Nat):(mask w L).heap.size=w.heap.size:=by simp [mask]
theorem Qfn (w:World) {L:List Nat} {b:Nat} (h:b∉L):(mask w L).heap[b]?=w.heap[b]?:=by
 show (w.heap.mapIdx _)[b]?=_;rw [Array.getElem?_mapIdx];cases w.heap[b]? with
 | none=>rfl
 | some o=>simp [h]
theorem Qod {w:World} {L:List Nat} {a:Addr} {v:Value} (h:(mask w L).cell? a=some v):a.block∉L:=by
 intro hb;have hlt:=Qm7 h;rw [Qdx] at hlt;unfold World.cell? at h;have:(mask w L).heap[a.block]?=some (.cells #[] 0):=by
  show (w.heap.mapIdx _)[a.block]?=_;rw [Array.getElem?_mapIdx,Array.getElem?_eq_getElem hlt];simp [hb]
 rw [this] at h;simp at h
theorem Qc2 {w w':World} {L L':List Nat} (hs:w.heap.size≤w'.heap.size) (h:∀ b,b < w.heap.size→b∉L→b∉L'∧w'.heap[b]?=w.heap[b]?):Sub (mask w L) (mask w' L'):=by
 refine ⟨by rw [Qdx,Qdx];exact hs,fun a v hc=>?_⟩;have hl:=Qm7 hc;rw [Qdx] at hl;have hb:=Qod hc;obtain ⟨h1,h2⟩:=h a.block hl hb;exact (World.cell?_of_block (((Qfn w' h1).trans h2).trans (Qfn w hb).symm)).trans hc
theorem Qcb (w:World) (L:List Nat):Sub (mask w L) w:=by
 refine ⟨by rw [Qdx];exact Nat.le_refl _,fun a v hc=>?_⟩;exact (World.cell?_of_block (Qfn w (Qod hc)).symm).trans hc
theorem Qdy {w w':World} {L:List Nat} (g:Flow.Grow w w'):Sub (mask w L) (mask w' L):=Qc2 g.size fun b hb hn=>⟨hn,g.block b hb (by simp)⟩
theorem Qje {w w':World} {L:List Nat} {r:Option Nat} (k:w.grownBy w' r) (h:∀ g,r=some g→g∈L):Sub (mask w L) (mask w' L) :=
 Qc2 k.size fun b hb hn=>⟨hn,k.block b hb fun e=>hn (h b e.symm)⟩
theorem Zaw {w w':World} {L:List Nat} (g:Sub w w') (h:∀ b∈L,w.heap.size≤b):Sub w (mask w' L):=by
 refine ⟨by rw [Qdx];exact g.size,fun a v hc=>?_⟩;have hl:=Qm7 hc;have hb:a.block∉L:=fun hm=>by have:=h _ hm;omega
 exact (World.cell?_of_block (Qfn w' hb)).trans (g.cell a v hc)
theorem Qid {w:World} {B e sz n:Nat} {L:List Nat} {v:Value} {xs:List Value} (h:w.ownsRow B e sz v n xs) (hL:∀ b,v.ownBlock=some b→b∉L):(mask w L).ownsRow B e sz v n xs:=by
 refine ⟨h.1,?_⟩;rcases h.2 with hn | ⟨g,cap,cur,hv,hB,hg,hr⟩
 ·exact .inl hn
 ·exact .inr ⟨g,cap,cur,hv,hB,(Qfn w (hL g (by rw [hv];rfl))).trans hg,hr⟩
def MaskOk (w:World) (B:Nat) (L:List Nat):Prop:=∀ b∈L,b < B∨∃ cs T,w.heap[b]?=some (.cells cs T (0,0))∧T≠3∧T≠49
theorem MaskOk.int {w:World} {B sz n:Nat} {L:List Nat} {v:Value} {xs:List Value} (hL:MaskOk w B L) (h:w.ownsRow B 3 sz v n xs):∀ b,v.ownBlock=some b→b∉L:=fun b hb hm=>by
 rcases hL b hm with h1 | ⟨cs,T,h1,h2,_⟩
 ·have:=(h.lt b hb).1;omega
 ·exact Qan h h1 h2 hb
theorem MaskOk.row {w:World} {B sz n:Nat} {L:List Nat} {v:Value} {xs:List Value} (hL:MaskOk w B L) (h:w.ownsRow B 49 sz v n xs):∀ b,v.ownBlock=some b→b∉L:=fun b hb hm=>by
 rcases hL b hm with h1 | ⟨cs,T,h1,_,h2⟩
 ·have:=(h.lt b hb).1;omega
 ·exact Qan h h1 h2 hb
namespace As
theorem CfgD.mask {V w:World} {B:Nat} {L:List Nat} {vS vl:Value} {d:Cfg} (h:CfgD V w B vS vl d) (g:Sub V (mask w L)) (hL:MaskOk w B L):CfgAt (mask w L) vS vl d:=by
 refine ⟨Seg.of_own (Qid h.st (hL.int h.st)),?_⟩;obtain ⟨vs,h3,h4⟩:=h.ml;refine ⟨vs,Seg.of_own (Qid h3 (hL.row h3)),fun j hj=>?_⟩;rcases h4 j hj with h5 | h5
 ·exact ⟨Seg.of_own (Qid h5 (hL.int h5)),Qpw h5⟩
 ·exact ⟨Seg.sub h5.1 g,h5.2⟩
end As
end Go.Proofs.YtcpodmjcgfgmnaaGreat
