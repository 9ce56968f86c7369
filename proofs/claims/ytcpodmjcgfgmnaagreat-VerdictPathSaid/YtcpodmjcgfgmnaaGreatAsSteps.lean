/- async.Steps by its contract. -/
import Derived.Test.YtcpodmjcgfgmnaaGreatAsDo
namespace Go.Proofs.YtcpodmjcgfgmnaaGreat
open Go.RowKit
namespace As
open Pr
abbrev Stp:=Nat × Nat × Cfg
def Qbs (l:List Stp):List Value:=l.flatMap fun s=>[.int .i64 (s.1:Int),.int .i64 (s.2.1:Int),.int .i64 (-1)]
theorem Qlq (l:List Stp):(Qbs l).length=l.length * 3:=by
 induction l with
 | nil=>rfl
 | cons a l ih=>simp [Qbs] at ih ⊢;omega
def Qb1 (room:Nat) (cs:List (Value × Value)):List Value:=cs.flatMap fun c=>[c.1,.int .i64 3,.int .i64 (room:Nat),c.2]
structure StD (W w:World) (B room:Nat) (ov tv:Value) (l:List Stp):Prop where
 out:w.ownsRow B 58 3 ov l.length (Qbs l)
 tos:∃ cs:List (Value × Value),cs.length=l.length∧w.ownsRow B 53 4 tv l.length (Qb1 room cs)∧∀ j,j < l.length→CfgD W w B (cs.getD j (undef,undef)).1 (cs.getD j (undef,undef)).2 (l.getD j (0,0,[],[])).2.2
theorem StD.nil (W w:World) (B room:Nat):StD W w B room (.slice none 0 0) (.slice none 0 0) [] :=
 ⟨World.ownsRow_nil _ _ _ _,[],rfl,World.ownsRow_nil _ _ _ _,fun j hj=>by simp at hj⟩
theorem StD.grow {W w w':World} {B room:Nat} {ov tv:Value} {l:List Stp} (h:StD W w B room ov tv l) (g:Flow.Grow w w'):StD W w' B room ov tv l:=by
 obtain ⟨cs,h1,h2,h3⟩:=h.tos;exact ⟨Qab h.out g,cs,h1,Qab h2 g,fun j hj=>(h3 j hj).grow g⟩
theorem StD.mono {W w:World} {B B' room:Nat} {ov tv:Value} {l:List Stp} (h:StD W w B room ov tv l) (hB:B'≤B):StD W w B' room ov tv l:=by
 obtain ⟨cs,h1,h2,h3⟩:=h.tos;exact ⟨own_mono h.out hB,cs,h1,own_mono h2 hB,fun j hj=>(h3 j hj).mono hB⟩
theorem Qbj {w:World} {B e sz n:Nat} {v:Value} {xs:List Value} (h:w.ownsRow B e sz v n xs):∀ g,v.ownBlock=some g→∃ cs,w.heap[g]?=some (.cells cs e (0,0)):=by
 intro g hg;rcases h.2 with ⟨rfl,_⟩ | ⟨g',cap,cur,rfl,_,hc,_⟩
 ·cases hg
 ·cases hg;exact ⟨cur,hc⟩
theorem Qty {w w':World} {B e e' sz n:Nat} {v:Value} {xs:List Value} {r:Option Nat} (h:w.ownsRow B e sz v n xs) (k:w.grownBy w' r) (hr:∀ g,r=some g→∃ cs,w.heap[g]?=some (.cells cs e' (0,0))) (hne:e≠e'):w'.ownsRow B e sz v n xs:=by
 refine h.kept k ?_;cases r with
 | none=>cases v.ownBlock <;> simp
 | some g =>
  obtain ⟨cs,hc⟩:=hr g rfl;exact .inr (Qan h hc (Ne.symm hne))
theorem Zck {w w':World} {e e' q:Nat} {cs:Array Value} {r:Option Nat} (h:w.heap[q]?=some (.cells cs e (0,0))) (k:w.grownBy w' r) (hr:∀ g,r=some g→∃ cs,w.heap[g]?=some (.cells cs e' (0,0))) (hne:e≠e'):w'.heap[q]?=some (.cells cs e (0,0)):=by
 rw [k.block q (Array.getElem?_eq_some_iff.1 h).1 (by
  intro e1;obtain ⟨cs',hc⟩:=hr q e1.symm;rw [h] at hc;injection hc with hc;injection hc with _ hc;exact hne hc)]
 exact h
structure StC (W1 W w0:World) (B room:Nat) (ov tv:Value) (l:List Stp) (cs:List (Value × Value)) (Z:Nat) (vS vM:Value) (d:Cfg) (L:Nat→Bool) (w:World):Prop where
 grow:Flow.Grow W1 w
 size:w0.heap.size≤w.heap.size
 out:L 5=false→w.ownsRow B 58 3 ov l.length (Qbs l)
 tos:L 9=false→w.ownsRow B 53 4 tv l.length (Qb1 room cs)
 cfg:∀ j,j < l.length→CfgD W w B (cs.getD j (undef,undef)).1 (cs.getD j (undef,undef)).2 (l.getD j (0,0,[],[])).2.2
 lies:w.heap[Z]?=some (.cells #[vS,.int .i64 3,.int .i64 (room:Nat),vM] 53 (0,0))
 new:CfgD W w B vS vM d
section
variable {W1 W w0 w w':World} {B room Z:Nat} {ov tv vS vM:Value} {l:List Stp} {cs:List (Value × Value)} {d:Cfg} {L:Nat→Bool}
theorem StC.more (h:StC W1 W w0 B room ov tv l cs Z vS vM d L w) (g:Flow.Grow w w') (i:Nat):StC W1 W w0 B room ov tv l cs Z vS vM d (Flow.ad L i) w' where
 grow:=h.grow.trans g
 size:=Nat.le_trans h.size g.size
 out:=fun e=>Qab (h.out (by unfold Flow.ad at e;simp at e;exact e.2)) g
 tos:=fun e=>Qab (h.tos (by unfold Flow.ad at e;simp at e;exact e.2)) g
 cfg:=fun j hj=>(h.cfg j hj).grow g
 lies:=Qae g h.lies
 new:=h.new.grow g
theorem StC.step {r:Option Nat} {i e':Nat} (h:StC W1 W w0 B room ov tv l cs Z vS vM d L w) (hW:W1.heap.size≤B) (k:w.grownBy w' r) (hr:∀ g,r=some g→B≤g) (ht:∀ g,r=some g→∃ cs,w.heap[g]?=some (.cells cs e' (0,0))) (he1:e'≠3) (he2:e'≠49) (hZ:r≠some Z)
  (ho:i≠5→e'≠58) (hto:i≠9→e'≠53):StC W1 W w0 B room ov tv l cs Z vS vM d (Flow.ad L i) w' where
 grow:=Qap h.grow k fun g e=>Nat.le_trans hW (hr g e)
 size:=Nat.le_trans h.size k.size
 out:=fun e=>Qty (h.out (by unfold Flow.ad at e;simp at e;exact e.2)) k ht (Ne.symm (ho (by unfold Flow.ad at e;simp at e;omega)))
 tos:=fun e=>Qty (h.tos (by unfold Flow.ad at e;simp at e;exact e.2)) k ht (Ne.symm (hto (by unfold Flow.ad at e;simp at e;omega)))
 cfg:=fun j hj=>(h.cfg j hj).kept k fun g e=>by obtain ⟨c,hc⟩:=ht g e;exact ⟨c,e',hc,he1,he2⟩
 lies:=by rw [k.block Z (Array.getElem?_eq_some_iff.1 h.lies).1 (fun e=>hZ e.symm)];exact h.lies
 new:=h.new.kept k fun g e=>by obtain ⟨c,hc⟩:=ht g e;exact ⟨c,e',hc,he1,he2⟩
end
def Qxq (W:World) (B room:Nat) (l:List Stp) (bk:Bool) (e:Ending) (w':World):Prop:=∃ oa oc ta tc,e=.returned (.tuple #[.slice oa l.length oc,.slice ta l.length tc,.bool bk])∧StD W w' B room (.slice oa l.length oc) (.slice ta l.length tc) l
theorem Qis (ps:List Pd) (ls:List Lb) (room:Nat) (c:Cfg):Qbr ps ls room c 0=[]:=rfl
theorem Qpl (ps:List Pd) (ls:List Lb) (room:Nat) (c:Cfg) (i:Nat):Qdr ps ls room c i 0=[]:=rfl
theorem Qko (ps:List Pd) (ls:List Lb) (room:Nat) (c:Cfg) (i k:Nat):(Qdr ps ls room c i k).length≤k:=by
 unfold Qdr;exact Nat.le_trans (List.length_filterMap_le _ _) (by simp)
theorem Qfk {ps:List Pd} {ls:List Lb} {room:Nat} {c:Cfg}:∀ i,(∀ j,j < i→(ps.getD j default).acts.length≤4)→(Qbr ps ls room c i).length≤4 * i
 | 0,_=>by simp [Qis]
 | i+1,h=>by
  rw [Qit,List.length_append];have h1:=Qfk (ps:=ps) (ls:=ls) (room:=room) (c:=c) i fun j hj=>h j (by omega);have h2:=Qko ps ls room c i (ps.getD i default).acts.length;have h3:=h i (by omega);omega
theorem Qj9 (l:List Stp) (s:Stp):Qbs (l++[s])=Qbs l++[.int .i64 (s.1:Int),.int .i64 (s.2.1:Int),.int .i64 (-1)]:=by simp [Qbs]
theorem Qg4 (room:Nat) (l:List (Value × Value)) (s:Value × Value):Qb1 room (l++[s])=Qb1 room l++[s.1,.int .i64 3,.int .i64 (room:Nat),s.2]:=by simp [Qb1]
theorem Qrl {ps:List Pd} {ls:List Lb} {room:Nat} {c d:Cfg} {i k:Nat} {b:Bool} (h:stp ps ls room c i k=(some d,b)):b=false:=by
 unfold stp at h;simp only at h;split at h
 ·cases h
 ·split at h
  ·injection h with _ h;exact h.symm
  ·cases h
end As
theorem Qgw:(Tryz.prog.info? 58).map (fun i=>(i.zero,i.size,i.bytes))=some (some (.agg #[.int .i64 0,.int .i64 0,.int .i64 0]),3,24):=by kernel_rfl
open As in
set_option maxRecDepth 100000 in
set_option maxHeartbeats 4000000 in
theorem Qkj (L room:Nat) (vp vl vS vM:Value) (css:List (List Value)) (ps:List Pr.Pd) (c:Cfg) (W0 W:World) (hg0:Sub W0 W) (hL:L≤4) (hroom:room≤1000) (hP:Pr.PeersAt W vp (Pr.labsL L) css ps) (hLs:Pr.LsAt W vl (Pr.labsL L)) (hC0:CfgAt W0 vS vM c) (hw:Wf ps c) (hlen:∀ j,(c.2.getD j []).length≤100000) :
  Calls Tryz.prog 24 #[vp,vl,.agg #[vS,.int .i64 3,.int .i64 (room:Nat),vM]] W fun e w'=>Qxq W0 W.heap.size room (Qbr ps (Pr.labsL L) room c 3) (blkI ps (Pr.labsL L) room c 3) e w'∧Flow.Grow W w':=by
 have hC:=hC0.sub hg0;have HDo:Hid (∀ (i k:Nat),i < 3→k < (ps.getD i default).acts.length→∀ wq,Flow.Grow W wq→Calls Tryz.prog 12 #[vp,vl,.agg #[vS,.int .i64 3,.int .i64 (room:Nat),vM],.int .i64 i,.int .i64 k] wq fun e w'=>Qz1 W0 wq.heap.size room vS vM (stp ps (Pr.labsL L) room c i k) e w'∧Flow.Grow wq w'):=Lib.hid (fun i k hi hk wq g =>
  Qj7 L room i k vp vl vS vM css ps c W0 wq (hg0.trans (Sub.of_grow g)) hL hroom (hP.grow g) (hLs.grow g) hC0 hw hi hk hlen)
 have HAl:Hid (∀ i,i < 3→(ps.getD i default).acts.length≤4):=Lib.hid (fun i hi=>by
  obtain ⟨_,_,_,_,_,hpa⟩:=hP.at_;obtain ⟨_,_,_,p,hp,_,_,_,_,_,_,_,_,_,f9⟩:=hpa i hi;rw [← hp,f9.acts];have:=Pr.acts_len i (Pr.labsL L) (Pr.labsL L).length;have:=Pr.labsL_len hL;omega)
 obtain ⟨pb,po,pc,rfl,hpb,hpa⟩:=hP.at_;have HPa:=Lib.hid hpa;obtain ⟨al,cl,rfl,_⟩:=id hLs;have hll:=Pr.labsL_len hL;obtain ⟨sa,sc,hvs,_⟩:=id hC.st;have hb9:=hw.boxes;have h3:=hw.len;obtain ⟨vs,hbx⟩:=hC.ml;obtain ⟨mb,mo,mc,hvm,_,_,_⟩:=hbx.cells (by intro e;rw [e] at hb9;cases hb9);subst hvs hvm;rw [hb9,h3,hll] at HDo;rw [hb9,h3,hll];clear hP hLs hC hC0 hg0 hw hlen hbx hpa hll;obtain ⟨iO,hiO,hO0,hO1,hO2⟩:=info_parts Qgw;obtain ⟨iM,hiM,hM0,hM1,hM2⟩:=info_parts Qby;generalize hls:Pr.labsL L=ls at *;clear hls;go_enter Tryz.func24,Tryz.ntmps24;go_upto_region 1 with fail;have HBw10:Hid ((W.alloc (.cells #[.slice sa 3 sc,.int .i64 3,.int .i64 (room:Nat),.slice (some ⟨mb,mo,none⟩) 9 mc] 53)).heap[W.heap.size]?=some (.cells #[.slice sa 3 sc,.int .i64 3,.int .i64 (room:Nat),.slice (some ⟨mb,mo,none⟩) 9 mc] 53 (0,0))):=Lib.hid (Qb3 _ _);have HGw1:Hid (Flow.Grow W (W.alloc (.cells #[.slice sa 3 sc,.int .i64 3,.int .i64 (room:Nat),.slice (some ⟨mb,mo,none⟩) 9 mc] 53))):=Lib.hid (Qb2 _ _);have HSw1:Hid ((W.alloc (.cells #[.slice sa 3 sc,.int .i64 3,.int .i64 (room:Nat),.slice (some ⟨mb,mo,none⟩) 9 mc] 53)).heap.size=W.heap.size+1):=Lib.hid (by simp);generalize W.alloc (.cells #[.slice sa 3 sc,.int .i64 3,.int .i64 (room:Nat),.slice (some ⟨mb,mo,none⟩) 9 mc] 53)=w1 at *;obtain ⟨X,hX⟩:∃ X,X=W.heap.size:=⟨_,rfl⟩;rw [← hX] at HBw10 HSw1 ⊢;have HXw1:=Lib.hid hX;clear hX;have CXw1:Hid (∀ wq,Flow.Grow w1 wq→wq.cell? ⟨X,0,none⟩=some (.slice sa 3 sc)∧wq.cell? ⟨X,1,none⟩=some (.int .i64 3)∧wq.cell? ⟨X,2,none⟩=some (.int .i64 (room:Nat))∧wq.cell? ⟨X,3,none⟩=some (.slice (some ⟨mb,mo,none⟩) 9 mc)):=Lib.hid (fun wq g=>⟨Qaa g HBw10.out rfl,Qaa g HBw10.out rfl,Qaa g HBw10.out rfl,Qaa g HBw10.out rfl⟩);have FXw1:Hid (∀ wq,Flow.Grow w1 wq→(∀ k,wq.frozen? ⟨X,k,none⟩=false)):=Lib.hid (fun wq g=>fun k=>Qaf g HBw10.out k);go_wp2_with fail;go_loopw [9,10,11,20] (fun ov tv bv iv wr=>∃ i:Nat,i≤3∧iv=.int .i64 i∧bv=.bool (blkI ps ls room c i)∧Hid (StD W0 wr w1.heap.size room ov tv (Qbr ps ls room c i))∧Hid (Flow.Grow w1 wr)) (fun _ _ _ iv _=>3 - (intOf iv).toNat)
 case atStart=>exact ⟨0,by omega,rfl,rfl,Lib.hid (by rw [Qis];exact StD.nil _ _ _ _),Lib.hid (Flow.grow_refl _)⟩
 case round =>
  obtain ⟨i,hi3,rfl,rfl,HD,HG⟩:=hrel
  rename World=>wo
  obtain ⟨vq,hvq⟩:∃ v,v=u9:=⟨_,rfl⟩;obtain ⟨vq2,hvq2⟩:∃ v,v=u10:=⟨_,rfl⟩;obtain ⟨oa,oc,hoa⟩:=Qah HD.out.out;obtain ⟨ta,tc,hta⟩:∃ a cq,u10=.slice a (Qbr ps ls room c i).length cq:=by
   obtain ⟨_,_,h,_⟩:=HD.out.tos;exact Qah h
  subst hoa hta;clear hvq hvq2;by_cases hi:i < 3
  ·obtain ⟨va,vf,vn,p,hp,f0,f1,f2,f3,f4,f5,f6,f7,f8,f9⟩:=HPa.out i hi;obtain ⟨aa,ac,hva,_⟩:=id f6;obtain ⟨af,cf,hvf,_⟩:=id f7;obtain ⟨an,cn,hvn⟩:=f8.val;have HK:Hid ((ps.getD i default).acts.length=p.acts.length):=Lib.hid (by rw [hp]);have hK4:=HAl.out i hi;rw [← hp] at hK4;subst hva hvf hvn;clear f6 f7 f8 f9 hp;generalize p.acts.length=K at *;generalize p.fin.length=F at *;generalize p.rows.length=N at *;have g0:=HGw1.out.trans HG.out;replace f0:=Xm2.cell_grow g0 f0;replace f1:=Xm2.cell_grow g0 f1;replace f2:=Xm2.cell_grow g0 f2;replace f3:=Xm2.cell_grow g0 f3;replace f4:=Xm2.cell_grow g0 f4;replace f5:=Xm2.cell_grow g0 f5;clear g0;have hid:decide ((i:Int) < 3)=true:=by simp;omega
   go_upto_region 7 with fail;have HBw20:Hid ((wo.alloc (.cells #[.int .i64 (i:Int),.slice aa K ac,.int .i64 (K:Nat),.int .i64 0,.slice af F cf,.slice an N cn] 69)).heap[wo.heap.size]?=some (.cells #[.int .i64 (i:Int),.slice aa K ac,.int .i64 (K:Nat),.int .i64 0,.slice af F cf,.slice an N cn] 69 (0,0))):=Lib.hid (Qb3 _ _);have HGw2:Hid (Flow.Grow wo (wo.alloc (.cells #[.int .i64 (i:Int),.slice aa K ac,.int .i64 (K:Nat),.int .i64 0,.slice af F cf,.slice an N cn] 69))):=Lib.hid (Qb2 _ _);have HSw2:Hid ((wo.alloc (.cells #[.int .i64 (i:Int),.slice aa K ac,.int .i64 (K:Nat),.int .i64 0,.slice af F cf,.slice an N cn] 69)).heap.size=wo.heap.size+1):=Lib.hid (by simp);generalize wo.alloc (.cells #[.int .i64 (i:Int),.slice aa K ac,.int .i64 (K:Nat),.int .i64 0,.slice af F cf,.slice an N cn] 69)=w2 at *;obtain ⟨Y,hY⟩:∃ X,X=wo.heap.size:=⟨_,rfl⟩;rw [← hY] at HBw20 HSw2 ⊢;have HXw2:=Lib.hid hY;clear hY;have CXw2:Hid (∀ wq,Flow.Grow w2 wq→wq.cell? ⟨Y,0,none⟩=some (.int .i64 (i:Int))∧wq.cell? ⟨Y,1,none⟩=some (.slice aa K ac)∧wq.cell? ⟨Y,2,none⟩=some (.int .i64 (K:Nat))∧wq.cell? ⟨Y,3,none⟩=some (.int .i64 0)∧wq.cell? ⟨Y,4,none⟩=some (.slice af F cf)∧wq.cell? ⟨Y,5,none⟩=some (.slice an N cn)):=Lib.hid (fun wq g=>⟨Qaa g HBw20.out rfl,Qaa g HBw20.out rfl,Qaa g HBw20.out rfl,Qaa g HBw20.out rfl,Qaa g HBw20.out rfl,Qaa g HBw20.out rfl⟩);have FXw2:Hid (∀ wq,Flow.Grow w2 wq→(∀ k,wq.frozen? ⟨Y,k,none⟩=false)):=Lib.hid (fun wq g=>fun k=>Qaf g HBw20.out k);obtain ⟨c00,c01,c02,c03,c04,c05⟩:=CXw2.out w2 (Flow.grow_refl _);clear f0 f1 f2 f3 f4 f5;go_wp2_with fail;clear c00 c01 c02 c03 c04 c05;go_loopw [9,10,11,28] (fun ov tv bv kv wr=>∃ k:Nat,k≤K∧kv=.int .i64 k∧bv=.bool (blkI ps ls room c i || blkK ps ls room c i k)∧Hid (StD W0 wr w1.heap.size room ov tv (Qbr ps ls room c i++Qdr ps ls room c i k))∧Hid (Flow.Grow w1 wr)) (fun _ _ _ kv _=>K - (intOf kv).toNat)
   case atStart=>exact ⟨0,by omega,rfl,by simp [blkK],Lib.hid (by rw [Qpl,List.append_nil];exact HD.out.grow HGw2.out),Lib.hid (HG.out.trans HGw2.out)⟩
   case round =>
    clear HD;obtain ⟨k,hkK,rfl,rfl,HD,HG2⟩:=hrel
    rename World=>wi
    obtain ⟨vq,hvq⟩:∃ v,v=u9:=⟨_,rfl⟩;obtain ⟨vq2,hvq2⟩:∃ v,v=u10:=⟨_,rfl⟩;obtain ⟨qa,qc,hoa⟩:=Qah HD.out.out;obtain ⟨ra,rc,hta⟩:∃ a cq,u10=.slice a (Qbr ps ls room c i++Qdr ps ls room c i k).length cq:=by
     obtain ⟨_,_,h,_⟩:=HD.out.tos;exact Qah h
    subst hoa hta;clear hvq hvq2;by_cases hk:k < K
    ·have HGi:Hid (Flow.Grow W wi):=Lib.hid (HGw1.out.trans HG2.out);have HCall:=Lib.hid (HDo.out i k hi (by rw [HK.out];exact hk) wi HGi.out);have HSk:=Lib.hid (Qpm ps ls room c i k);have HBk:=Lib.hid (Qxd ps ls room c i k);have x0:=(CXw1.out wi HG2.out);obtain ⟨x00,x01,x02,x03⟩:=x0;have HLen:Hid ((Qbr ps ls room c i++Qdr ps ls room c i k).length≤100):=Lib.hid (by
      have h1:=Qfk (ps:=ps) (ls:=ls) (room:=room) (c:=c) i fun j hj=>HAl.out j (by omega);have h2:=Qko ps ls room c i k;rw [List.length_append];omega)
     generalize blkI ps ls room c i=b0 at *;generalize blkK ps ls room c i k=b1 at *;generalize hl:Qbr ps ls room c i++Qdr ps ls room c i k=l at *;have Hl:=Lib.hid hl;clear hl;cases hst:stp ps ls room c i k with
     | mk r bk =>
      rw [hst] at HCall HSk HBk;cases r with
      | none =>
       go_upto_region 11 with (go_at_call 12;refine HCall.out.mono ?_;rintro e w3 ⟨rfl,hg⟩;have HG3:=Lib.hid hg;clear hg);have HBw40:Hid ((w3.alloc (.cells #[.slice sa 3 sc,.int .i64 3,.int .i64 (room:Nat),.slice (some ⟨mb,mo,none⟩) 9 mc] 53)).heap[w3.heap.size]?=some (.cells #[.slice sa 3 sc,.int .i64 3,.int .i64 (room:Nat),.slice (some ⟨mb,mo,none⟩) 9 mc] 53 (0,0))):=Lib.hid (Qb3 _ _);have HGw4:Hid (Flow.Grow w3 (w3.alloc (.cells #[.slice sa 3 sc,.int .i64 3,.int .i64 (room:Nat),.slice (some ⟨mb,mo,none⟩) 9 mc] 53))):=Lib.hid (Qb2 _ _);have HSw4:Hid ((w3.alloc (.cells #[.slice sa 3 sc,.int .i64 3,.int .i64 (room:Nat),.slice (some ⟨mb,mo,none⟩) 9 mc] 53)).heap.size=w3.heap.size+1):=Lib.hid (by simp);generalize w3.alloc (.cells #[.slice sa 3 sc,.int .i64 3,.int .i64 (room:Nat),.slice (some ⟨mb,mo,none⟩) 9 mc] 53)=w4 at *;obtain ⟨Z,hZ⟩:∃ X,X=w3.heap.size:=⟨_,rfl⟩;rw [← hZ] at HBw40 HSw4 ⊢;have HXw4:=Lib.hid hZ;clear hZ;have CXw4:Hid (∀ wq,Flow.Grow w4 wq→wq.cell? ⟨Z,0,none⟩=some (.slice sa 3 sc)∧wq.cell? ⟨Z,1,none⟩=some (.int .i64 3)∧wq.cell? ⟨Z,2,none⟩=some (.int .i64 (room:Nat))∧wq.cell? ⟨Z,3,none⟩=some (.slice (some ⟨mb,mo,none⟩) 9 mc)):=Lib.hid (fun wq g=>⟨Qaa g HBw40.out rfl,Qaa g HBw40.out rfl,Qaa g HBw40.out rfl,Qaa g HBw40.out rfl⟩);have FXw4:Hid (∀ wq,Flow.Grow w4 wq→(∀ k,wq.frozen? ⟨Z,k,none⟩=false)):=Lib.hid (fun wq g=>fun k=>Qaf g HBw40.out k);have HGe:Hid (Flow.Grow wi w4):=Lib.hid (HG3.out.trans HGw4.out);generalize hbb:(b0 || b1)=bb at *;have Hbb:=Lib.hid hbb;clear hbb;cases bb <;> cases bk
       all_goals
        go_wp2_with fail;go_roundw
        case rel=>exact ⟨k+1,by omega,by go_num,by rw [HBk.out,← Bool.or_assoc,Hbb.out];rfl,Lib.hid (by rw [HSk.out,← List.append_assoc,Hl.out];simpa using HD.out.grow HGe.out),Lib.hid (HG2.out.trans HGe.out)⟩
        case measure=>simp [intOf];omega
      | some d =>
       obtain rfl:bk=false:=Qrl hst;clear hst;go_upto_region 11 with (go_at_call 12;refine HCall.out.mono ?_;rintro e w3 ⟨⟨za,zn,zc,ya,yn,yc,rfl,hcd⟩,hg⟩;have HCd:=Lib.hid hcd;have HG3:=Lib.hid hg;clear hg hcd);have HBw40:Hid ((w3.alloc (.cells #[.slice za zn zc,.int .i64 3,.int .i64 (room:Nat),.slice ya yn yc] 53)).heap[w3.heap.size]?=some (.cells #[.slice za zn zc,.int .i64 3,.int .i64 (room:Nat),.slice ya yn yc] 53 (0,0))):=Lib.hid (Qb3 _ _);have HGw4:Hid (Flow.Grow w3 (w3.alloc (.cells #[.slice za zn zc,.int .i64 3,.int .i64 (room:Nat),.slice ya yn yc] 53))):=Lib.hid (Qb2 _ _);have HSw4:Hid ((w3.alloc (.cells #[.slice za zn zc,.int .i64 3,.int .i64 (room:Nat),.slice ya yn yc] 53)).heap.size=w3.heap.size+1):=Lib.hid (by simp);generalize w3.alloc (.cells #[.slice za zn zc,.int .i64 3,.int .i64 (room:Nat),.slice ya yn yc] 53)=w4 at *;obtain ⟨Z,hZ⟩:∃ X,X=w3.heap.size:=⟨_,rfl⟩;rw [← hZ] at HBw40 HSw4 ⊢;have HXw4:=Lib.hid hZ;clear hZ;have CXw4:Hid (∀ wq,Flow.Grow w4 wq→wq.cell? ⟨Z,0,none⟩=some (.slice za zn zc)∧wq.cell? ⟨Z,1,none⟩=some (.int .i64 3)∧wq.cell? ⟨Z,2,none⟩=some (.int .i64 (room:Nat))∧wq.cell? ⟨Z,3,none⟩=some (.slice ya yn yc)):=Lib.hid (fun wq g=>⟨Qaa g HBw40.out rfl,Qaa g HBw40.out rfl,Qaa g HBw40.out rfl,Qaa g HBw40.out rfl⟩);have FXw4:Hid (∀ wq,Flow.Grow w4 wq→(∀ k,wq.frozen? ⟨Z,k,none⟩=false)):=Lib.hid (fun wq g=>fun k=>Qaf g HBw40.out k);have HGe:Hid (Flow.Grow wi w4):=Lib.hid (HG3.out.trans HGw4.out);generalize hbb:(b0 || b1)=bb at *;have Hbb:=Lib.hid hbb;clear hbb;have HS4:Hid (∃ cs:List (Value × Value),cs.length=l.length∧StC w1 W0 w4 w1.heap.size room (.slice qa l.length qc) (.slice ra l.length rc) l cs Z (.slice za zn zc) (.slice ya yn yc) d (fun _=>false) w4.drew∧(Value.slice ra l.length rc).ownBlock≠some Z):=Lib.hid (by
        obtain ⟨cs,h1,h2,h3⟩:=(HD.out.grow HGe.out).tos;refine ⟨cs,h1,⟨((HG2.out.trans HGe.out).trans (Flow.grow_drew _)),Nat.le_refl _,fun _=>Qab (HD.out.grow HGe.out).out (Flow.grow_drew _),fun _=>Qab h2 (Flow.grow_drew _),fun j hj=>(h3 j hj).grow (Flow.grow_drew _),HBw40.out,((HCd.out.mono HG2.out.size).grow HGw4.out).grow (Flow.grow_drew _)⟩,fun e=>?_⟩;obtain ⟨cs',_,h2',_⟩:=(HD.out.grow HG3.out).tos;have:=(h2'.lt Z e).2;have:=HXw4.out;omega)
       obtain ⟨cs,hcl,hsc,hrz⟩:=HS4.out;have HSc:=Lib.hid hsc;clear HS4 hsc;have hWB:W.heap.size≤w4.heap.size:=(HGi.out.trans HGe.out).size;cases bb
       all_goals
        go_upto_region 13 with fail
        refine Flow.regionG (C:=StC w1 W0 w4 w1.heap.size room (.slice qa l.length qc) (.slice ra l.length rc) l cs Z (.slice za zn zc) (.slice ya yn yc) d) (Fs:=[.inl ((.slice qa l.length qc)),.inl ((.int .i64 (i:Int))),.inl ((.int .i64 (k:Int))),.inl ((.agg #[.int .i64 (i:Int),.int .i64 (k:Int),.int .i64 (-1)])),.inr (fun v w=>∃ q,v=.slice (some ⟨q,0,none⟩) 1 1∧w.heap[q]?=some (.cells #[.int .i64 (i:Int),.int .i64 (k:Int),.int .i64 (-1)] 58 (0,0))),.inr (fun v w=>∃ a c,v=.slice a (l.length+1) c∧w.ownsRow w1.heap.size 58 3 v (l.length+1) (Qbs (l++[(i,k,d)]))),.inl ((.slice ra l.length rc)),.inl ((.agg #[.slice za zn zc,.int .i64 3,.int .i64 (room:Nat),.slice ya yn yc])),.inr (fun v w=>∃ q,v=.slice (some ⟨q,0,none⟩) 1 1∧w.heap[q]?=some (.cells #[.slice za zn zc,.int .i64 3,.int .i64 (room:Nat),.slice ya yn yc] 53 (0,0))),.inr (fun v w=>∃ a c,v=.slice a (l.length+1) c∧w.ownsRow w1.heap.size 53 4 v (l.length+1) (Qb1 room (cs++[(.slice za zn zc,.slice ya yn yc)]))),.inr (fun v w=>∃ a c,v=.slice a (l.length+1) c∧w.ownsRow w1.heap.size 58 3 v (l.length+1) (Qbs (l++[(i,k,d)]))),.inr (fun v w=>∃ a c,v=.slice a (l.length+1) c∧w.ownsRow w1.heap.size 53 4 v (l.length+1) (Qb1 room (cs++[(.slice za zn zc,.slice ya yn yc)])))])
         [[],[],[],[1,2],[3],[0,4],[],[],[7],[6,8],[5],[9]] [[],[],[],[1,2],[1,2,3],[0,1,2,3,4],[],[],[7],[6,7,8],[0,1,2,3,4,5],[6,7,8,9]] [10,11] (by kernel_rfl) (by kernel_rfl) (by kernel_rfl) rfl (HSc.out) ?ones13 ?ends13
        case ones13 =>
         refine Flow.OnesG.start (by exact ⟨fun _ _ _ g ⟨q,h1,h2⟩=>⟨q,h1,Qae g h2⟩,fun _ _ _ g ⟨a,b,h1,h2⟩=>⟨a,b,h1,Qab h2 g⟩,fun _ _ _ g ⟨q,h1,h2⟩=>⟨q,h1,Qae g h2⟩,fun _ _ _ g ⟨a,b,h1,h2⟩=>⟨a,b,h1,Qab h2 g⟩,fun _ _ _ g ⟨a,b,h1,h2⟩=>⟨a,b,h1,Qab h2 g⟩,fun _ _ _ g ⟨a,b,h1,h2⟩=>⟨a,b,h1,Qab h2 g⟩,trivial⟩) (fun L w w' i h g=>h.more g i) fun HST HCG=>?_;refine Flow.oq rfl HST HCG ?_ ?_
         ·intro L a w hC hLi hoff _;exact Flow.gs rfl (Flow.exec_move (.inl rfl) (hoff.at2 9 0 hLi (by kernel_rfl)))
         refine Flow.oq rfl HST HCG ?_ ?_
         ·intro L a w hC hLi hoff _;exact Flow.gs rfl (Flow.exec_move (.inl rfl) (hoff.at2 12 1 hLi (by kernel_rfl)))
         refine Flow.oq rfl HST HCG ?_ ?_
         ·intro L a w hC hLi hoff _;exact Flow.gs rfl (Flow.exec_move (.inl rfl) (hoff.at2 14 2 hLi (by kernel_rfl)))
         refine Flow.oq rfl HST HCG ?_ ?_
         ·rintro L a w hC hLi hoff ⟨k1,k2,-⟩;have e47:=Flow.kv k1 rfl rfl;have e48:=Flow.kv k2 rfl rfl;refine Flow.gs rfl ?_;have ec:=Flow.eval_const a;generalize a.eval=ρ at e47 e48 ec ⊢;simp [execOp,e47,e48,ec,go_sem]
         refine Flow.oq rfl HST HCG ?_ ?_
         ·rintro L a w hC hLi hoff ⟨k3,-⟩;have e49:=Flow.kv k3 rfl rfl;refine .inl ⟨Flow.want_none rfl,?_⟩;refine Flow.run_val (v:=.slice (some ⟨w.heap.size,0,none⟩) 1 1) (w':=w.alloc (.cells #[.int .i64 (i:Int),.int .i64 (k:Int),.int .i64 (-1)] 58)) ?_ (Flow.grow_alloc _ _) ⟨_,rfl,heap_alloc_new _ _⟩;generalize a.eval=ρ at e49 ⊢;simp [execOp,e49,go_sem]
         refine Flow.OnesG.cons (Flow.OneG.k (fun w w'=>w.grownBy w' (Value.slice qa l.length qc).ownBlock∧∀ g,(Value.slice qa l.length qc).ownBlock=some g→∃ cs,w.heap[g]?=some (.cells cs 58 (0,0))) (by exact ⟨.inl rfl,.inl rfl,.inr fun _ _ K u ⟨q,h1,h2⟩=>⟨q,h1,Zck h2 K.1 K.2 (by decide)⟩,.inr fun _ _ K u ⟨a,c,h1,h2⟩=>⟨a,c,h1,Qty h2 K.1 K.2 (by decide)⟩,.inl rfl,.inr fun _ _ K u ⟨a,c,h1,h2⟩=>⟨a,c,h1,Qty h2 K.1 K.2 (by decide)⟩,trivial⟩) ?_) ?_
         ·rintro L a w hC hLi hoff ⟨k0,k4,-⟩;have e46:=Flow.kv k0 rfl rfl;have e50:=Flow.kr k4 rfl rfl;refine ⟨Flow.want_none rfl,?_⟩;obtain ⟨q,he50,hq⟩:=e50;have hown:=hC.out hLi;refine Qlk _ _ 46 rfl w1.heap.size 58 iO _ 3 24 Tryz.underlying46 hiO hO0 hO1 hO2 rfl (by decide) _ l.length _ e46 hown q #[.int .i64 (i:Int),.int .i64 (k:Int),.int .i64 (-1)] _ he50 hq rfl (by intro u hu;simp at hu;rcases hu with rfl | rfl | rfl <;> rfl) (by have:=HLen.out;omega) (by decide) hC.grow.size fun g cap w' h2 h3 h4 h5=>?_;exact ⟨_,rfl,hC.step (Nat.le_refl _) h3 h5 (Qbj hown) (by decide) (by decide) (fun e=>by obtain ⟨c,hc⟩:=Qbj hown Z e;rw [hC.lies] at hc;cases hc) (fun h=>absurd rfl h) (fun _=>by decide),⟨h3,Qbj hown⟩,_,_,rfl,by rw [Qj9];exact h2⟩
         refine Flow.oq rfl HST HCG ?_ ?_
         ·intro L a w hC hLi hoff _;exact Flow.gs rfl (Flow.exec_move (.inl rfl) (hoff.at2 10 6 hLi (by kernel_rfl)))
         refine Flow.oq rfl HST HCG ?_ ?_
         ·intro L a w hC hLi hoff _;have e15:a.eval (.tmp 15)=(.pointer (some ⟨Z,0,none⟩)):=hoff.at2 15 7 hLi (by kernel_rfl);refine Flow.gs rfl ?_;generalize a.eval=ρ at e15 ⊢;have h0:=(cell_of_row w Z 0 _ _ _ hC.lies).trans rfl;have h1:=(cell_of_row w Z 1 _ _ _ hC.lies).trans rfl;have h2:=(cell_of_row w Z 2 _ _ _ hC.lies).trans rfl;have h3:=(cell_of_row w Z 3 _ _ _ hC.lies).trans rfl;simp at h0 h1 h2 h3;simp [execOp,e15,h0,h1,h2,h3,go_sem]
         refine Flow.oq rfl HST HCG ?_ ?_
         ·rintro L a w hC hLi hoff ⟨k7,-⟩;have e53:=Flow.kv k7 rfl rfl;refine .inl ⟨Flow.want_none rfl,?_⟩;refine Flow.run_val (v:=.slice (some ⟨w.heap.size,0,none⟩) 1 1) (w':=w.alloc (.cells #[.slice za zn zc,.int .i64 3,.int .i64 (room:Nat),.slice ya yn yc] 53)) ?_ (Flow.grow_alloc _ _) ⟨_,rfl,heap_alloc_new _ _⟩;generalize a.eval=ρ at e53 ⊢;simp [execOp,e53,go_sem]
         refine Flow.OnesG.cons (Flow.OneG.k (fun w w'=>w.grownBy w' (Value.slice ra l.length rc).ownBlock∧∀ g,(Value.slice ra l.length rc).ownBlock=some g→∃ cs,w.heap[g]?=some (.cells cs 53 (0,0))) (by exact ⟨.inr fun _ _ K u ⟨q,h1,h2⟩=>⟨q,h1,Zck h2 K.1 K.2 (by decide)⟩,.inr fun _ _ K u ⟨a,c,h1,h2⟩=>⟨a,c,h1,Qty h2 K.1 K.2 (by decide)⟩,.inl rfl,.inl rfl,.inr fun _ _ K u ⟨a,c,h1,h2⟩=>⟨a,c,h1,Qty h2 K.1 K.2 (by decide)⟩,.inl rfl,trivial⟩) ?_) ?_
         ·rintro L a w hC hLi hoff ⟨k6,k8,-⟩;have e52:=Flow.kv k6 rfl rfl;have e54:=Flow.kr k8 rfl rfl;refine ⟨Flow.want_none rfl,?_⟩;obtain ⟨q,he54,hq⟩:=e54;have hown:=hC.tos hLi;refine Qlk _ _ 39 rfl w1.heap.size 53 iM _ 4 64 Tryz.underlying39 hiM hM0 hM1 hM2 rfl (by decide) _ l.length _ e52 hown q #[.slice za zn zc,.int .i64 3,.int .i64 (room:Nat),.slice ya yn yc] _ he54 hq rfl (by intro u hu;simp at hu;rcases hu with rfl | rfl | rfl | rfl <;> rfl) (by have:=HLen.out;omega) (by decide) hC.grow.size fun g cap w' h2 h3 h4 h5=>?_;exact ⟨_,rfl,hC.step (Nat.le_refl _) h3 h5 (Qbj hown) (by decide) (by decide) hrz (fun _=>by decide) (fun h=>absurd rfl h),⟨h3,Qbj hown⟩,_,_,rfl,by rw [Qg4];exact h2⟩
         refine Flow.oq rfl HST HCG ?_ ?_
         ·rintro L a w hC hLi hoff ⟨k5,-⟩;have e51:=Flow.kr k5 rfl rfl;exact .inl ⟨Flow.want_none rfl,Flow.run_val (Flow.exec_move (.inr rfl) rfl) (Flow.grow_refl _) e51⟩
         refine Flow.oq rfl HST HCG ?_ ?_
         ·rintro L a w hC hLi hoff ⟨k9,-⟩;have e55:=Flow.kr k9 rfl rfl;exact .inl ⟨Flow.want_none rfl,Flow.run_val (Flow.exec_move (.inr rfl) rfl) (Flow.grow_refl _) e55⟩
         exact trivial
        case ends13 =>
         intro LL wx hLL hC
         iterate 4 refine Flow.endsG_v rfl ?_
         refine Flow.endsG_r rfl fun v50 _=>?_;refine Flow.endsG_r rfl fun v51 _=>?_
         iterate 2 refine Flow.endsG_v rfl ?_
         refine Flow.endsG_r rfl fun v54 _=>?_;refine Flow.endsG_r rfl fun v55 _=>?_;refine Flow.endsG_r rfl fun v9 hE9=>?_;replace hE9:=hE9 rfl;refine Flow.endsG_r rfl fun v10 hE10=>?_;replace hE10:=hE10 rfl;refine Flow.endsG_nil ?_;simp only [Act.put,List.setIfInBounds_toArray,List.set_cons_succ,List.set_cons_zero];obtain ⟨na,nc,rfl,ho9⟩:=hE9;obtain ⟨ma,mc',rfl,ho10⟩:=hE10;have HGx:Hid (Flow.Grow w1 wx):=Lib.hid hC.grow;have HDx:Hid (StD W0 wx w1.heap.size room (.slice na (l.length+1) nc) (.slice ma (l.length+1) mc') (l++[(i,k,d)])):=Lib.hid ⟨by rw [List.length_append];exact ho9,cs++[(.slice za zn zc,.slice ya yn yc)],by simp [hcl],by rw [List.length_append];exact ho10,fun j hj=>by
          rw [List.length_append,List.length_singleton] at hj;by_cases e:j < l.length
          ·have e1:(cs++[(Value.slice za zn zc,Value.slice ya yn yc)]).getD j (undef,undef)=cs.getD j (undef,undef):=by simp [List.getD_eq_getElem?_getD,List.getElem?_append_left (show j < cs.length by omega)]
           have e2:(l++[(i,k,d)]).getD j (0,0,[],[])=l.getD j (0,0,[],[]):=by simp [List.getD_eq_getElem?_getD,List.getElem?_append_left e]
           rw [e1,e2];exact hC.cfg j e
          ·obtain rfl:j=l.length:=by omega
           have e1:(cs++[(Value.slice za zn zc,Value.slice ya yn yc)]).getD l.length (undef,undef)=(.slice za zn zc,.slice ya yn yc):=by rw [← hcl];simp
           have e2:(l++[(i,k,d)]).getD l.length (0,0,[],[])=(i,k,d):=by simp
           rw [e1,e2];exact hC.new⟩
         clear hC ho9 ho10;go_wp2_with fail;go_roundw
         case rel=>exact ⟨k+1,by omega,by go_num,by rw [HBk.out,← Bool.or_assoc,Hbb.out];rfl,Lib.hid (by rw [HSk.out,← List.append_assoc,Hl.out];simpa using HDx.out),HGx⟩
         case measure=>simp [intOf];omega
    ·obtain rfl:k=K:=by omega
     go_wp2_with fail;go_roundw
     case rel=>exact ⟨i+1,by omega,by go_num,by rw [Qxe,HK.out],Lib.hid (by rw [Qit,HK.out];exact HD.out),HG2⟩
     case measure=>simp [intOf];omega
  ·obtain rfl:i=3:=by omega
   go_wp2_with fail;go_ret3;exact ⟨⟨_,_,_,_,rfl,HD.out.mono HGw1.out.size⟩,HGw1.out.trans HG.out⟩
end Go.Proofs.YtcpodmjcgfgmnaaGreat
