/- async.Explore by its contract. -/
import Derived.Test.YtcpodmjcgfgmnaaGreatMEx
import Derived.Test.YtcpodmjcgfgmnaaGreatAsFirst
import Derived.Test.YtcpodmjcgfgmnaaGreatAsMay
import Derived.Test.YtcpodmjcgfgmnaaGreatDetOf
import Derived.Deep.DeepCutAuto
namespace Go.Proofs.YtcpodmjcgfgmnaaGreat
open Go.RowKit Go.Maps
theorem Qtz:(Tryz.prog.info? 46).map (fun i=>(i.zero,i.size,i.bytes))=some (some (.slice none 0 0),1,24):=by kernel_rfl
namespace As
open Pr
def rlF (f:Cfg→List Stp) (n:Nat):List (List Stp × List Nat):=(List.range n).map fun j=>(f ((Qal f j).getD j first),tos (Qal f j) (f ((Qal f j).getD j first)))
def blF (g:Cfg→Bool) (f:Cfg→List Stp) (n:Nat):List Bool:=(List.range n).map fun j=>g ((Qal f j).getD j first)
theorem Qx0 (f:Cfg→List Stp) (n:Nat):rlF f (n+1)=rlF f n++[(f ((Qal f n).getD n first),tos (Qal f n) (f ((Qal f n).getD n first)))]:=by simp [rlF,List.range_succ]
theorem Qy6 (g:Cfg→Bool) (f:Cfg→List Stp) (n:Nat):blF g f (n+1)=blF g f n++[g ((Qal f n).getD n first)]:=by simp [blF,List.range_succ]
theorem Qu3 (f:Cfg→List Stp) (n:Nat):(rlF f n).length=n:=by simp [rlF]
theorem Qxf (g:Cfg→Bool) (f:Cfg→List Stp) (n:Nat):(blF g f n).length=n:=by simp [blF]
def sf (ps:List Pd) (L room:Nat) (c:Cfg):List Stp:=Qbr ps (labsL L) room c 3
def bf (ps:List Pd) (L room:Nat) (c:Cfg):Bool:=blkI ps (labsL L) room c 3
def Qz0 (ps:List Pd) (L room:Nat) (e:Ending) (w':World):Prop :=
 (e=.returned (.tuple #[.agg #[.slice none 0 0,.slice none 0 0,.slice none 0 0],.int .i64 12])∧Qz2 (sf ps L room) 2000) ∨
 (∃ (n:Nat) (ca:Option Addr) (cc:Nat) (sa:Option Addr) (sc:Nat) (ba:Option Addr) (bc:Nat),e=.returned (.tuple #[.agg #[.slice ca n cc,.slice sa n sc,.slice ba n bc],.int .i64 0])∧Ends (sf ps L room) n∧n≤2000 ∧
   ExAt w' room n (.slice ca n cc) (.slice sa n sc) (.slice ba n bc) (Qal (sf ps L room) n) (rlF (sf ps L room) n) (blF (bf ps L room) (sf ps L room) n))
theorem Qwl {l:List Cfg} {d:Cfg} (h:d∉l):l.idxOf d=l.length:=List.idxOf_eq_length h
theorem Qys {l:List Cfg} (hn:l.Nodup) {q:Nat} (hq:q < l.length):l.idxOf (l[q])=q:=List.Nodup.idxOf_getElem hn q hq
end As
open As in
set_option maxRecDepth 100000 in
set_option maxHeartbeats 4000000 in
theorem Qqy (L room:Nat) (vp vl:Value) (css:List (List Value)) (ps:List Pr.Pd) (W:World) (h1:1≤room) (h8:room≤8) (hL:L≤4) (hP:Pr.PeersAt W vp (Pr.labsL L) css ps) (hLs:Pr.LsAt W vl (Pr.labsL L)) :
  Calls Tryz.prog 9 #[vp,vl,.int .i64 (room:Nat)] W fun e w'=>Qz0 ps L room e w'∧Flow.Grow W w':=by
 have HM:Hid (∀ wq,Flow.Grow W wq→Calls Tryz.prog 22 #[vp,vl] wq fun e w'=>e=.returned (.bool true)∧Flow.Grow wq w'):=Lib.hid (fun wq g=>Qop L vp vl css ps wq hL (hP.grow g) (hLs.grow g));have HF:=Lib.hid (fun wq (g:Flow.Grow W wq)=>Qf2 room vp _ css ps wq h1 h8 (hP.grow g));have HPa:=Lib.hid hP;have HLs:=Lib.hid hLs;have HOk:Hid (∀ j,j < 3→(ps.getD j default).Ok (Pr.labsL L) j):=Lib.hid (by
  obtain ⟨_,_,_,_,_,hpa⟩:=hP.at_;intro j hj;obtain ⟨_,_,_,p,hp,_,_,_,_,_,_,_,_,_,f9⟩:=hpa j hj;rw [← hp];exact f9)
 have HKey:Hid (∀ (vS vM:Value) (c:Cfg) wq,Gd ps room c→CfgAt wq vS vM c→Calls Tryz.prog 23 #[.agg #[vS,.int .i64 3,.int .i64 (room:Nat),vM]] wq fun e w'=>e=.returned (.string (str (keyB c)))∧Flow.Grow wq w'):=Lib.hid (fun vS vM c wq hg hc=>Qpe room vS vM c wq hg.wf.len hg.wf.boxes (fun j=>by have:=hg.bl j;omega) hc);have HKl:Hid (∀ c,Gd ps room c→(keyB c).length≤1000000):=Lib.hid (fun c hg=>by
  have:=Qyo h8 hg;omega)
 obtain ⟨pb,po,pc,rfl,_,_⟩:=hP.at_;obtain ⟨al,cl,rfl,_⟩:=id hLs;clear hP hLs;have d1:decide ((room:Int) < 1)=false:=by simp;omega
 have d2:decide ((room:Int) > 8)=false:=by simp;omega
 have d3:decide (8 < room)=false:=by simp;omega
 obtain ⟨iM,hiM,hM0,hM1,hM2⟩:=info_parts Qby;obtain ⟨iS,hiS,hS0,hS1,hS2⟩:=info_parts Qtz;obtain ⟨iB,hiB,hB0,hB1,hB2⟩:=info_parts Qd2;go_enter Tryz.func9,Tryz.ntmps9;go_upto_region 1 with fail;have HBw10:Hid ((W.alloc (.cells #[.slice none 0 0,.slice none 0 0,.slice none 0 0] 42)).heap[W.heap.size]?=some (.cells #[.slice none 0 0,.slice none 0 0,.slice none 0 0] 42 (0,0))):=Lib.hid (Qb3 _ _);have HGw1:Hid (Flow.Grow W (W.alloc (.cells #[.slice none 0 0,.slice none 0 0,.slice none 0 0] 42))):=Lib.hid (Qb2 _ _);have HSw1:Hid ((W.alloc (.cells #[.slice none 0 0,.slice none 0 0,.slice none 0 0] 42)).heap.size=W.heap.size+1):=Lib.hid (by simp);generalize W.alloc (.cells #[.slice none 0 0,.slice none 0 0,.slice none 0 0] 42)=w1 at *;obtain ⟨X6,hX6⟩:∃ X,X=W.heap.size:=⟨_,rfl⟩;rw [← hX6] at HBw10 HSw1 ⊢;have HXw1:=Lib.hid hX6;clear hX6;have CXw1:Hid (∀ wq,Flow.Grow w1 wq→wq.cell? ⟨X6,0,none⟩=some (.slice none 0 0)∧wq.cell? ⟨X6,1,none⟩=some (.slice none 0 0)∧wq.cell? ⟨X6,2,none⟩=some (.slice none 0 0)):=Lib.hid (fun wq g=>⟨Qaa g HBw10.out rfl,Qaa g HBw10.out rfl,Qaa g HBw10.out rfl⟩);have FXw1:Hid (∀ wq,Flow.Grow w1 wq→(∀ k,wq.frozen? ⟨X6,k,none⟩=false)):=Lib.hid (fun wq g=>fun k=>Qaf g HBw10.out k);go_upto_region 3 with (go_at_call 22;refine (HM.out _ HGw1.out).mono ?_;rintro e w2 ⟨rfl,hg⟩;have HG2:=Lib.hid hg;clear hg);go_upto_region 4 with (go_at_call 11;refine (HF.out _ (HGw1.out.trans HG2.out)).mono ?_;rintro e w3 ⟨⟨sa,sn,sc,va,vn,vc,rfl,hcd⟩,hg⟩;have HCd:=Lib.hid hcd;have HG3:=Lib.hid hg;clear hcd hg);have HB40:Hid (((w3.alloc (.cells #[.slice sa sn sc,.int .i64 3,.int .i64 (room:Nat),.slice va vn vc] 53)).alloc (.cells #[.slice (some ⟨w3.heap.size,0,none⟩) 1 1,.slice none 0 0,.slice none 0 0] 42)).heap[w3.heap.size]?=some (.cells #[.slice sa sn sc,.int .i64 3,.int .i64 (room:Nat),.slice va vn vc] 53 (0,0))):=Lib.hid (Qe6 _ _ _);have HB41:Hid (((w3.alloc (.cells #[.slice sa sn sc,.int .i64 3,.int .i64 (room:Nat),.slice va vn vc] 53)).alloc (.cells #[.slice (some ⟨w3.heap.size,0,none⟩) 1 1,.slice none 0 0,.slice none 0 0] 42)).heap[w3.heap.size+1]?=some (.cells #[.slice (some ⟨w3.heap.size,0,none⟩) 1 1,.slice none 0 0,.slice none 0 0] 42 (0,0))):=Lib.hid (Qe5 _ _ _);have HGw4:Hid (Flow.Grow w3 ((w3.alloc (.cells #[.slice sa sn sc,.int .i64 3,.int .i64 (room:Nat),.slice va vn vc] 53)).alloc (.cells #[.slice (some ⟨w3.heap.size,0,none⟩) 1 1,.slice none 0 0,.slice none 0 0] 42))):=Lib.hid (Qe4 _ _ _);have HSw4:Hid (((w3.alloc (.cells #[.slice sa sn sc,.int .i64 3,.int .i64 (room:Nat),.slice va vn vc] 53)).alloc (.cells #[.slice (some ⟨w3.heap.size,0,none⟩) 1 1,.slice none 0 0,.slice none 0 0] 42)).heap.size=w3.heap.size+1+1):=Lib.hid (by simp);generalize (w3.alloc (.cells #[.slice sa sn sc,.int .i64 3,.int .i64 (room:Nat),.slice va vn vc] 53)).alloc (.cells #[.slice (some ⟨w3.heap.size,0,none⟩) 1 1,.slice none 0 0,.slice none 0 0] 42)=w4 at *;obtain ⟨S1,hS1⟩:∃ S,S=w3.heap.size:=⟨_,rfl⟩;rw [← hS1] at HB40 HB41 HSw4 ⊢;have HS1:=Lib.hid hS1;clear hS1;have HGm:Hid (Flow.Grow w4 (w4.alloc (.map #[] 0))):=Lib.hid (Flow.grow_alloc _ _);have HMb:Hid (Pr.MapW (w4.alloc (.map #[] 0)) w4.heap.size 0 (.map [])):=Lib.hid (by simpa using World.ownsMap_made w4 Tryz.prog 9 (plainElem (H:=Unit) Tryz.prog 3));have x0:=Qaa HGm.out HB41.out (k:=0) rfl;have s0:=Qaa HGm.out HB40.out (k:=0) rfl;have s1:=Qaa HGm.out HB40.out (k:=1) rfl;have s2:=Qaa HGm.out HB40.out (k:=2) rfl;have s3:=Qaa HGm.out HB40.out (k:=3) rfl;have HK0:=Lib.hid (HKey.out (.slice sa sn sc) (.slice va vn vc) first (w4.alloc (.map #[] 0)) (Qgx HOk.out) ((((HCd.out w3).atS (Sub.refl _)).grow HGw4.out).grow HGm.out));have HKs:=Lib.hid (Qed _ (HKl.out first (Qgx HOk.out)));generalize hkf:keyB first=kf at *
 have Hkf:=Lib.hid hkf;clear hkf;have hmm:=@run_makeMap Tryz.prog
 go_upto_region 5 with (first
  | (go_at_call 23;refine HK0.out.mono ?_;rintro e w5 ⟨rfl,hg⟩;have HG5:=Lib.hid hg;clear hg)
  | (have hmk:=HG5;clear hmk;refine Qci _ rfl _ _ _ 81 rfl 9 3 Qbg Tryz.underlying81 _ w4.heap.size 0 (.map []) rfl (World.ownsMap.kept (row:=none) HMb.out HG5.out (by simp)) (by unfold maxLen;omega) (.string (str kf)) (.int .i64 0) _ rfl rfl HKs.out _ [] (plainElem_int Tryz.underlying3 (by decide)) ?_;intro w6 hm6 hk6;have HM6:=Lib.hid hm6;have HK6:=Lib.hid hk6;clear hm6 hk6))
 clear hmm x0 s0 s1 s2 s3 HK0;obtain ⟨M,hM⟩:∃ M,M=w4.heap.size:=⟨_,rfl⟩;rw [← hM] at HM6 HK6 ⊢;have HMs:=Lib.hid hM;clear hM HMb;have HG45:=Lib.hid (HGm.out.trans HG5.out);have HG36:Hid (Flow.Grow w3 w6):=Lib.hid (Qap (HGw4.out.trans HG45.out) HK6.out (fun b e=>by injection e with e;have h1:=HGw4.out.size;have h2:=HMs.out;omega));have HkeepM:Hid (∀ b o,w4.heap[b]?=some o→w6.heap[b]?=some o):=Lib.hid (fun b o hb=>by
  have hl:=(Array.getElem?_eq_some_iff.1 hb).1;have h2:=HMs.out;have h3:=HG45.out.size;rw [HK6.out.block b (by omega) (fun e=>by injection e with e;omega)];exact Qae HG45.out hb)
 have HE0:Hid (ExD w3 w6 room X6 (S1+1) M (.slice (some ⟨S1,0,none⟩) 1 1) (.slice none 0 0) (.slice none 0 0) [(.slice sa sn sc,.slice va vn vc)] [first] [] [] [] []):=Lib.hid
  (ExD.start (B:=w2.heap.size) HG36.out (by have h1:=HXw1.out;have h2:=HSw1.out;have h3:=HG2.out.size;omega) HG3.out.size (by have:=HS1.out;omega) (by have h1:=HGw4.out.size;have h2:=HMs.out;omega) (by have:=HS1.out;omega) (World.ownsMap.at_ HM6.out) (HkeepM.out _ _ HB41.out) (HkeepM.out _ _ HB40.out) HCd.out)
 have HO0:Hid (Mo.Ord ((DataW.map []).put (Mo.kl (str kf)) (.lit (.int .i64 0))) (Qd1 [first])):=Lib.hid (by
  have h:=Mo.ord_nil.push (Mo.kl_is (str kf)) (by simp);rw [Qd1,List.map_singleton,Hkf.out];exact h)
 have HGW3:Hid (Flow.Grow W w3):=Lib.hid (HGw1.out.trans (HG2.out.trans HG3.out));have HX6:Hid (∀ wq,Flow.Grow w3 wq→wq.heap[X6]?=some (.cells #[.slice none 0 0,.slice none 0 0,.slice none 0 0] 42 (0,0))):=Lib.hid (fun wq g=>Qae (HG2.out.trans (HG3.out.trans g)) HBw10.out);have HXW:Hid (X6=W.heap.size):=HXw1;clear HB40 HB41 HSw4 HGm HG5 HG45 HKs HkeepM HK6 HCd HGw4 HM HF;have HSt0:Hid (∀ i,(Qal (sf ps L room) i).length≤2000→Gd ps room ((Qal (sf ps L room) i).getD i first)):=Lib.hid (fun i _=>by
  rw [List.getD_eq_getElem?_getD];cases e:(Qal (sf ps L room) i)[i]? with
  | none=>exact Qgx HOk.out
  | some x=>exact Qgf hL HOk.out i x (List.mem_of_getElem? e))
 have HK6:Hid (Pr.MapW w6 M [first].length ((DataW.map []).put (Mo.kl (str kf)) (.lit (.int .i64 0)))):=HM6;obtain ⟨X,hX⟩:∃ X,X=S1+1:=⟨_,rfl⟩;rw [← hX] at HE0 ⊢;clear hX HM6;generalize (DataW.map []).put (Mo.kl (str kf)) (.lit (.int .i64 0))=D0 at *;go_wp2_with fail;go_loopw [10] (fun iv wr=>∃ (i:Nat) (cv sv bv:Value) (cs:List (Value × Value)) (rows:List Value) (D:DataW Unit),i≤(Qal (sf ps L room) i).length∧(Qal (sf ps L room) i).length≤2000∧Hid (∀ j,j < i→j < (Qal (sf ps L room) j).length)∧iv=.int .i64 i∧Hid (ExD w3 wr room X6 X M cv sv bv cs (Qal (sf ps L room) i) rows (rlF (sf ps L room) i) (blF (bf ps L room) (sf ps L room) i) [])∧Hid (Pr.MapW wr M (Qal (sf ps L room) i).length D)∧Hid (Mo.Ord D (Qd1 (Qal (sf ps L room) i)))) (fun iv _=>2001 - (intOf iv).toNat)
 case atStart=>exact ⟨0,_,_,_,_,_,D0,by omega,by simp [Qal],Lib.hid (fun j hj=>by omega),rfl,HE0,HK6,HO0⟩
 case round =>
  clear HE0 HK6 HO0;obtain ⟨i,cv,sv,bv,cs,rows,D,hi1,hi2,HJ,rfl,HE,HMw,HOr⟩:=hrel
  rename World=>wo
  obtain ⟨ca,cc,rfl⟩:=Qah HE.out.cown;obtain ⟨ea,ec,hsv⟩:=Qah HE.out.sown;rw [Qu3] at hsv;subst hsv;obtain ⟨ba,bc,hbv⟩:=Qah HE.out.bown;rw [Qxf] at hbv;subst hbv;have hnd:=Qf3 (sf ps L room) i;have HSd:=Lib.hid (fun c hc=>Qgf (room:=room) hL HOk.out i c hc);have Hgd:=Lib.hid (HSt0.out i hi2);have Hrl:=Lib.hid (Qx0 (sf ps L room) i);have Hbl:=Lib.hid (Qy6 (bf ps L room) (sf ps L room) i);have Hst1:Hid (Qal (sf ps L room) (i+1)=exts (Qal (sf ps L room) i) (sf ps L room ((Qal (sf ps L room) i).getD i first))):=Lib.hid rfl;have Hstf:=Lib.hid (show Qal (fun c=>Qbr ps (Pr.labsL L) room c 3) i=Qal (sf ps L room) i from rfl);rw [Hstf.out] at HSd;clear Hstf;have HrlL:=Lib.hid (Qu3 (sf ps L room) i);have HblL:=Lib.hid (Qxf (bf ps L room) (sf ps L room) i);generalize hrl0:rlF (sf ps L room) i=rl at *;generalize hbl0:blF (bf ps L room) (sf ps L room) i=bl at *;have Hrl0:=Lib.hid hrl0;have Hbl0:=Lib.hid hbl0;clear hrl0 hbl0;generalize hall:Qal (sf ps L room) i=all at *;have Hall:=Lib.hid hall;clear hall;generalize hn:all.length=n at *;have Hn:=Lib.hid hn;clear hn;have Hnd:=Lib.hid hnd;clear hnd;have x0:=(cell_of_row wo X 0 _ _ _ HE.out.xo).trans rfl;have x1:=(cell_of_row wo X 1 _ _ _ HE.out.xo).trans rfl;have x2:=(cell_of_row wo X 2 _ _ _ HE.out.xo).trans rfl;by_cases hin:i < n
  ·have hid:decide ((i:Int) < (n:Int))=true:=by simp;omega
   obtain ⟨g,c,vS,vM,ev,t0,t1,t2,t3,hcf⟩:=HE.out.cell (i:=i) (by rw [Hn.out];exact hin);obtain ⟨rfl,rfl⟩:ca=some ⟨g,0,none⟩∧cc=c:=by injection ev with a b c;exact ⟨a,c⟩
   generalize all.getD i first=c0 at *
   obtain ⟨ua,uc,mb,mo,mc,rfl,rfl⟩:=hcf.form Hgd.out.wf.len Hgd.out.wf.boxes;have HCf:=Lib.hid hcf;have HStp:=Lib.hid (Qkj L room _ _ _ _ css ps c0 (mask wo (exL X6 X M (.slice (some ⟨g,0,none⟩) n cc) (.slice ea i ec) (.slice ba i bc) [])) wo (Qcb _ _) hL (by omega) (HPa.out.grow (HGW3.out.trans HE.out.grow)) (HLs.out.grow (HGW3.out.trans HE.out.grow)) hcf Hgd.out.wf (fun j=>by have:=Hgd.out.bl j;omega));clear hcf ev;obtain ⟨l,hl⟩:∃ l,l=Qbr ps (Pr.labsL L) room c0 3:=⟨_,rfl⟩;obtain ⟨bk,hbk⟩:∃ b,b=blkI ps (Pr.labsL L) room c0 3:=⟨_,rfl⟩;rw [← hl,← hbk] at HStp;have Hl:=Lib.hid hl;have Hl2:Hid (sf ps L room c0=l):=Lib.hid hl.symm;have Hbk2:Hid (bf ps L room c0=bk):=Lib.hid hbk.symm;clear hl hbk;rw [Hl2.out] at Hst1 Hrl;rw [Hbk2.out] at Hbl;have hi0:(0:Int)≤(i:Int):=by omega
   have hid2:(i:Int) < (n:Int):=by omega
   go_upto_region 9 with (go_at_call 24;refine HStp.out.mono ?_;rintro e w9 ⟨⟨oa,oc,ta,tc,rfl,hst⟩,hg⟩;have HSt:=Lib.hid hst;have HG9:=Lib.hid hg;clear hst hg);clear t0 t1 t2 t3 x0 x1 x2 HStp;generalize hm:l.length=m at *;have Hm:=Lib.hid hm;have hm12:m≤12:=by
    rw [← hm,Hl.out];refine Qfk (i:=3) fun j hj=>?_;rw [(HOk.out j hj).acts];have:=Pr.acts_len j (Pr.labsL L) (Pr.labsL L).length;have:=Pr.labsL_len hL;omega
   clear hm;have HI0:Hid (ExI w3 w9 room X6 X M (.slice (some ⟨g,0,none⟩) n cc) (.slice ea i ec) (.slice ba i bc) (.slice oa m oc) (.slice ta m tc) cs all rows rl bl l [] D):=Lib.hid (by
    have ho:=HSt.out.out;rw [Hm.out] at ho;have hy:∀ b∈obs [Value.slice oa m oc],b∈([]:List Nat)∨wo.heap.size≤b:=fun b hb=>by
     obtain ⟨v,hv,hb⟩:=mem_obs.1 hb;rw [List.mem_singleton] at hv;subst hv;exact .inr (ho.lt b hb).1
    exact {
     ex:=HE.out.lx HG9.out hy
     mw:=World.ownsMap.kept (row:=none) (by rw [Hn.out];exact HMw.out) HG9.out (by simp)
     od:=HOr.out
     row:=by rw [Qno,Hm.out];exact Pr.own_mono ho HE.out.grow.size
     lead:=by
      refine HSt.out.toAt (Zbd HG9.out hy) fun b hb=>?_;obtain ⟨es,cl,hmp⟩:=HE.out.mp;rcases mem_exL.1 hb with e | e | e | e | e | e | e
      ·have h1:=HE.out.h6;have h2:=HE.out.grow.size;exact .inl (by omega)
      ·subst e;exact .inl (Array.getElem?_eq_some_iff.1 HE.out.xo).1
      ·subst e;exact .inl (Array.getElem?_eq_some_iff.1 hmp).1
      ·exact .inl (HE.out.cown.lt b e).2
      ·exact .inl (HE.out.sown.lt b e).2
      ·exact .inl (HE.out.bown.lt b e).2
      ·obtain ⟨v,hv,hb⟩:=mem_obs.1 e;rw [List.mem_singleton] at hv;subst hv;exact .inr hb })
   go_wp2_with fail;go_loopw [64] (fun kv wr=>∃ (k:Nat) (cv:Value) (cs:List (Value × Value)) (D:DataW Unit),k≤m∧kv=.int .i64 k∧Hid (ExI w3 wr room X6 X M cv (.slice ea i ec) (.slice ba i bc) (.slice oa m oc) (.slice ta m tc) cs (exts all (l.take k)) rows rl bl l (tos all (l.take k)) D)) (fun kv _=>m - (intOf kv).toNat)
   case atStart=>exact ⟨0,_,cs,D,by omega,rfl,HI0⟩
   case round =>
    clear HI0;obtain ⟨k,cv,cs2,D2,hkm,rfl,HI⟩:=hrel
    rename World=>wi
    obtain ⟨ca2,cc2,rfl⟩:=Qah HI.out.ex.cown;have hlen:(exts all (l.take k)).length≤2012:=by
     have h1:=Qsk (l.take k) all;rw [List.length_take,Hn.out] at h1;omega
    by_cases hk:k < m
    ·obtain ⟨q',kk,d,hlk,hq3,hkk,hstp⟩:=Qxy (ps:=ps) (ls:=Pr.labsL L) (room:=room) (c:=c0) (k:=k) (by rw [← Hl.out,Hm.out];exact hk);rw [← Hl.out] at hlk;have Hgdd:=Lib.hid (Hgd.out.stp hL HOk.out hq3 hkk (by rw [hstp]));have HT1:Hid (l.take (k+1)=l.take k++[(q',kk,d)]):=Lib.hid (by rw [List.take_add_one,hlk];rfl);have HE1:Hid (exts all (l.take (k+1))=ext (exts all (l.take k)) d):=Lib.hid (by rw [HT1.out,Qo3]);have HO1:Hid (tos all (l.take (k+1))=tos all (l.take k)++[(exts all (l.take k)).idxOf d]):=Lib.hid (by rw [HT1.out,Qri]);have HTl:Hid ((tos all (l.take k)).length=k):=Lib.hid (by rw [Qpj,List.length_take,Hm.out];omega);have HAd:Hid ((exts all (l.take k)).Nodup):=Lib.hid (Qhn Hnd.out);have HAg:Hid (∀ x∈exts all (l.take k),Gd ps room x):=Lib.hid (fun x hx=>by
      rcases Qmx hx with h1 | ⟨⟨a,q,y⟩,h1,rfl⟩
      ·exact HSd.out x h1
      ·have h2:=List.mem_of_mem_take h1;rw [Hl.out] at h2;obtain ⟨h3,h4,h5⟩:=Qgd h2;exact Hgd.out.stp hL HOk.out h3 h4 h5)
     have hld:(l.getD k dstp).2.2=d:=by rw [List.getD_eq_getElem?_getD,hlk];rfl
     clear hlk hstp HT1;generalize tos all (l.take k)=tk at *;generalize exts all (l.take k)=ak at *;obtain ⟨g2,c2,dS,dM,ev2,t0,t1,t2,t3,hcd⟩:=HI.out.lead k (by rw [Hm.out];exact hk);rw [hld] at hcd;obtain ⟨rfl,rfl⟩:ta=some ⟨g2,0,none⟩∧tc=c2:=by injection ev2 with a b c;exact ⟨a,c⟩
     obtain ⟨ya,yc,yb,yo,yz,rfl,rfl⟩:=hcd.form Hgdd.out.wf.len Hgdd.out.wf.boxes;have HCd:=Lib.hid hcd;replace t0:=(Qcb _ _).cell _ _ t0;replace t1:=(Qcb _ _).cell _ _ t1;replace t2:=(Qcb _ _).cell _ _ t2;replace t3:=(Qcb _ _).cell _ _ t3;clear hcd ev2 hld;obtain ⟨gb,gc,hob,hgb,_⟩:=own_n HI.out.row (by rw [Hm.out];omega);obtain ⟨rfl,rfl⟩:oa=some ⟨gb,0,none⟩∧oc=gc:=by injection hob with a b c;exact ⟨a,c⟩
     clear hob;have hk0:(0:Int)≤(k:Int):=by omega
     have hkd:(k:Int) < (m:Int):=by omega
     have hkd':decide ((k:Int) < (m:Int))=true:=by simp;omega
     go_upto_region 12 with fail;have HBw110:Hid ((wi.alloc (.cells #[.slice ya 3 yc,.int .i64 3,.int .i64 (room:Nat),.slice (some ⟨yb,yo,none⟩) 9 yz] 53)).heap[wi.heap.size]?=some (.cells #[.slice ya 3 yc,.int .i64 3,.int .i64 (room:Nat),.slice (some ⟨yb,yo,none⟩) 9 yz] 53 (0,0))):=Lib.hid (Qb3 _ _);have HGw11:Hid (Flow.Grow wi (wi.alloc (.cells #[.slice ya 3 yc,.int .i64 3,.int .i64 (room:Nat),.slice (some ⟨yb,yo,none⟩) 9 yz] 53))):=Lib.hid (Qb2 _ _);have HSw11:Hid ((wi.alloc (.cells #[.slice ya 3 yc,.int .i64 3,.int .i64 (room:Nat),.slice (some ⟨yb,yo,none⟩) 9 yz] 53)).heap.size=wi.heap.size+1):=Lib.hid (by simp);generalize wi.alloc (.cells #[.slice ya 3 yc,.int .i64 3,.int .i64 (room:Nat),.slice (some ⟨yb,yo,none⟩) 9 yz] 53)=w11 at *;obtain ⟨Z,hZ⟩:∃ X,X=wi.heap.size:=⟨_,rfl⟩;rw [← hZ] at HBw110 HSw11 ⊢;have HXw11:=Lib.hid hZ;clear hZ;have CXw11:Hid (∀ wq,Flow.Grow w11 wq→wq.cell? ⟨Z,0,none⟩=some (.slice ya 3 yc)∧wq.cell? ⟨Z,1,none⟩=some (.int .i64 3)∧wq.cell? ⟨Z,2,none⟩=some (.int .i64 (room:Nat))∧wq.cell? ⟨Z,3,none⟩=some (.slice (some ⟨yb,yo,none⟩) 9 yz)):=Lib.hid (fun wq g=>⟨Qaa g HBw110.out rfl,Qaa g HBw110.out rfl,Qaa g HBw110.out rfl,Qaa g HBw110.out rfl⟩);have FXw11:Hid (∀ wq,Flow.Grow w11 wq→(∀ k,wq.frozen? ⟨Z,k,none⟩=false)):=Lib.hid (fun wq g=>fun k=>Qaf g HBw110.out k);obtain ⟨z00,z01,z02,z03⟩:=CXw11.out w11 (Flow.grow_refl _);clear t0 t1 t2 t3;have HI1:=Lib.hid (HI.out.grow_ HGw11.out);have HCd1:Hid (CfgAt (mask w11 (exL X6 X M (.slice ca2 ak.length cc2) (.slice ea i ec) (.slice ba i bc) (obs [.slice (some ⟨gb,0,none⟩) m oc]))) (.slice ya 3 yc) (.slice (some ⟨yb,yo,none⟩) 9 yz) d):=Lib.hid (HCd.out.sub (Qdy HGw11.out));clear HI HCd;have HKd:Hid (∀ wq,Flow.Grow w11 wq→Calls Tryz.prog 23 #[.agg #[.slice ya 3 yc,.int .i64 3,.int .i64 (room:Nat),.slice (some ⟨yb,yo,none⟩) 9 yz]] wq fun e w'=>e=.returned (.string (str (keyB d)))∧Flow.Grow wq w'):=Lib.hid (fun wq g=>HKey.out _ _ d wq Hgdd.out ((HCd1.out.sub (Qcb _ _)).grow g));have HKL:=Lib.hid (Qed _ (HKl.out d Hgdd.out));have HDi:Hid (∀ x∈ak,keyB x=keyB d→x=d):=Lib.hid (fun x hx e=>Za5 HOk.out h8 (HAg.out x hx) Hgdd.out e);generalize hkd:keyB d=kd at *;have Hkd:=Lib.hid hkd;clear hkd;have HYc:Hid (∀ wq,Flow.Grow w11 wq→(∃ u,wq.cell? ⟨gb,k * 3+2,none⟩=some u)∧wq.frozen? ⟨gb,k * 3+2,none⟩=false):=Lib.hid (fun wq g=>by
      have hr:=(HI1.out.grow_ g).row;rw [Hm.out] at hr;refine ⟨?_,?_⟩
      ·rw [hr.cellAt (k * 3+2) (by omega)];exact ⟨_,List.getElem?_eq_getElem (by rw [Qbu,Hm.out];omega)⟩
      ·obtain ⟨cr,hcr⟩:=Qbj hr gb rfl;exact frozen_of_row wq gb _ _ _ hcr)
     by_cases hmem:d∈ak
     ·have hh:Maps.has D2 (Mo.kl (str kd))=true:=(HI1.out.od.hs _).2 (by rw [Qd1,← Hkd.out];exact List.mem_map.2 ⟨d,hmem,rfl⟩);have Hh:=Lib.hid hh;clear hh
      go_upto_region 17 with (first
       | (go_at_call 23;refine (HKd.out _ (Flow.grow_refl _)).mono ?_;rintro e wk ⟨rfl,hg⟩;have HGk:=Lib.hid hg;have HMk:=Lib.hid (HI1.out.grow_ hg).mw;clear hg)
       | (at_lookup;refine wpList_lookup_own_ok_int _ rfl _ _ 81 rfl 9 3 .i64 Qbg Tryz.underlying81 Tryz.underlying3 (Qdh _) M ak.length D2 rfl HMk.out (.string (str kd)) _ rfl HKL.out ?_;intro cx hat hwc;rw [Hh.out];have HAt:=Lib.hid hat;clear hat))
      obtain ⟨q,rfl,hqi⟩:∃ q:Nat,cx=(q:Int)∧ak.idxOf d=q:=by
       rcases HI1.out.od.look (Mo.kl (str kd)) cx HAt.out with ⟨h5,_⟩ | ⟨q,hq,hqe,rfl,_⟩
       ·exact (h5 ((HI1.out.od.hs _).1 Hh.out)).elim
       ·refine ⟨q,rfl,?_⟩;have hqa:q < ak.length:=by simpa [Qd1] using hq
        have h6:(Qd1 ak)[q]?=some (Mo.kl (str (keyB (ak[q]'hqa)))):=by simp [Qd1,hqa]
        rw [h6] at hqe;injection hqe with hqe;have h7:=HDi.out _ (List.getElem_mem hqa) (Qup (Mo.kl_inj hqe));rw [← h7];exact Qys HAd.out hqa
      have HIx:=Lib.hid hqi;clear hqi HAt;obtain ⟨⟨u,yu⟩,yf⟩:=HYc.out wk HGk.out;have HI2:Hid (ExI w3 (wk.setCell ⟨gb,k * 3+2,none⟩ (.int .i64 (q:Int))) room X6 X M (.slice ca2 ak.length cc2) (.slice ea i ec) (.slice ba i bc) (.slice (some ⟨gb,0,none⟩) m oc) (.slice (some ⟨g2,0,none⟩) m tc) cs2 ak rows rl bl l (tk++[q]) D2):=Lib.hid (by
       have h:=HI1.out.grow_ HGk.out;rw [← Hm.out] at h;have h2:=h.store (by rw [HTl.out,Hm.out];exact hk) q;rw [HTl.out,Hm.out] at h2;exact h2)
      go_wp2_with fail;go_roundw
      case rel=>exact ⟨k+1,_,cs2,D2,by omega,by go_num,Lib.hid (by rw [HE1.out,HO1.out,HIx.out,ext,if_pos hmem];exact HI2.out)⟩
      case measure=>simp [intOf];omega
     ·have hh:Maps.has D2 (Mo.kl (str kd))=false:=by
       cases e:Maps.has D2 (Mo.kl (str kd)) with
       | false=>rfl
       | true =>
        have h1:=(HI1.out.od.hs _).1 e;obtain ⟨x,hx,hxe⟩:=List.mem_map.1 h1;have h2:keyB x=kd:=Qup (Mo.kl_inj hxe);exact (hmem (HDi.out x hx h2 ▸ hx)).elim
      have Hh:=Lib.hid hh;clear hh;have HZc:Hid (∀ wq,Flow.Grow w11 wq→wq.cell? ⟨X,0,none⟩=some (.slice ca2 ak.length cc2)):=Lib.hid (fun wq g=>(cell_of_row wq X 0 _ _ _ (HI1.out.grow_ g).ex.xo).trans rfl)
      go_upto_region 16 with (first
       | (have hmk:=HGk;go_at_call 23;refine (HKd.out _ HGk.out).mono ?_;rintro e wk2 ⟨rfl,hg⟩;have HGk2:=Lib.hid (HGk.out.trans hg);have HMk2:=Lib.hid (HI1.out.grow_ (HGk.out.trans hg)).mw;clear hg)
       | (go_at_call 23;refine (HKd.out _ (Flow.grow_refl _)).mono ?_;rintro e wk ⟨rfl,hg⟩;have HGk:=Lib.hid hg;have HMk:=Lib.hid (HI1.out.grow_ hg).mw;clear hg;clear z00 z01 z02 z03;obtain ⟨z00,z01,z02,z03⟩:=CXw11.out wk (HGk.out);have q0:=HZc.out wk HGk.out)
       | (at_lookup;refine wpList_lookup_own_ok_int _ rfl _ _ 81 rfl 9 3 .i64 Qbg Tryz.underlying81 Tryz.underlying3 (Qdh _) M ak.length D2 rfl HMk.out (.string (str kd)) _ rfl HKL.out ?_;intro cx hat hwc;rw [Hh.out];clear hat)
       | (at_mapUpdate;refine wpList_mapUpdate_own _ rfl _ _ _ 81 rfl 9 3 Qbg Tryz.underlying81 _ M ak.length D2 rfl HMk2.out (by unfold maxLen;omega) (.string (str kd)) (.int .i64 (ak.length:Int)) _ rfl rfl HKL.out _ [] (plainElem_int Tryz.underlying3 (WalkArith.wf_i64 (by omega))) ?_;intro wm hm hk;have HMm:=Lib.hid hm;have HKm:=Lib.hid hk;clear hm hk))
      clear z00 z01 z02 z03 q0;have HI3:=Lib.hid (HI1.out.grow_ HGk2.out);have HEm:=Lib.hid (HI3.out.ex.byMap HKm.out (World.ownsMap.at_ HMm.out));have HZm:Hid (wm.heap[Z]?=some (.cells #[.slice ya 3 yc,.int .i64 3,.int .i64 (room:Nat),.slice (some ⟨yb,yo,none⟩) 9 yz] 53 (0,0))):=Lib.hid (by
       have h5:=Qae HGk2.out HBw110.out;obtain ⟨es,cl,h6⟩:=HI3.out.ex.mp;rw [HKm.out.block Z (Array.getElem?_eq_some_iff.1 h5).1 (fun e=>by injection e with e;rw [e,h6] at h5;cases h5)];exact h5)
      have HDd:Hid (CfgAt (mask wk2 (exL X6 X M (.slice ca2 ak.length cc2) (.slice ea i ec) (.slice ba i bc) (obs [.slice (some ⟨gb,0,none⟩) m oc]))) (.slice ya 3 yc) (.slice (some ⟨yb,yo,none⟩) 9 yz) d):=Lib.hid (HCd1.out.sub (Qdy HGk2.out));have q0:=(cell_of_row wm X 0 _ _ _ HEm.out.xo).trans rfl;have z0:=(cell_of_row wm Z 0 _ _ _ HZm.out).trans rfl;have z1:=(cell_of_row wm Z 1 _ _ _ HZm.out).trans rfl;have z2:=(cell_of_row wm Z 2 _ _ _ HZm.out).trans rfl;have z3:=(cell_of_row wm Z 3 _ _ _ HZm.out).trans rfl;have hBm:w3.heap.size≤wm.heap.size:=HEm.out.grow.size;have HXn:Hid ((Value.slice ca2 ak.length cc2).ownBlock≠some X):=Lib.hid (Qan HEm.out.cown HEm.out.xo (by decide));have HXg:Hid (∀ o,(wm.alloc o).heap[X]?=some (.cells #[.slice ca2 ak.length cc2,.slice ea i ec,.slice ba i bc] 42 (0,0))):=Lib.hid (fun o=>Qae (Flow.grow_alloc wm o) HEm.out.xo);go_upto_region 17 with (at_builtin;refine Qd6 w3.heap.size rfl _ _ 39 rfl 53 iM _ 4 64 Tryz.underlying39 hiM hM0 hM1 hM2 rfl (by decide) (.slice ca2 ak.length cc2) ak.length (Qb1 room cs2) rfl (Qab HEm.out.cown (Flow.grow_alloc _ _)) (by simp;omega) _ #[.slice ya 3 yc,.int .i64 3,.int .i64 (room:Nat),.slice (some ⟨yb,yo,none⟩) 9 yz] 53 rfl (heap_alloc_new _ _) rfl (by intro u hu;simp at hu;rcases hu with rfl | rfl | rfl | rfl <;> rfl) (by omega) (by decide) ?_;intro gg c5 w' hO hk hat;have HOp:=Lib.hid hO;have HKp:=Lib.hid hk;have HAp:=Lib.hid hat;have hX1:=(hk.block X (Array.getElem?_eq_some_iff.1 (HXg.out _)).1 (fun e=>HXn.out e.symm)).trans (HXg.out _);have y0:=(cell_of_row w' X 0 _ _ _ hX1).trans rfl;have f0:=frozen_of_row w' X 0 _ _ hX1;clear hO hk hat hX1);have HI4:Hid (ExI w3 (w'.setCell ⟨X,0,none⟩ (.slice (some ⟨gg,0,none⟩) (ak.length+1) c5)) room X6 X M (.slice (some ⟨gg,0,none⟩) (ak.length+1) c5) (.slice ea i ec) (.slice ba i bc) (.slice (some ⟨gb,0,none⟩) m oc) (.slice (some ⟨g2,0,none⟩) m tc) (cs2++[(.slice ya 3 yc,.slice (some ⟨yb,yo,none⟩) 9 yz)]) (ak++[d]) rows rl bl l tk (D2.put (Mo.kl (str kd)) (.lit (.int .i64 (ak.length:Int))))):=Lib.hid (by
       refine HI3.out.push HKm.out HMm.out ?_ HOp.out HKp.out HAp.out HDd.out;have hnk:Mo.kl (str kd)∉Qd1 ak:=fun e=>by
        have h5:=(HI1.out.od.hs _).2 e;rw [Hh.out] at h5;cases h5
       have h6:=HI1.out.od.push (Mo.kl_is (str kd)) hnk;rw [show (Qd1 ak).length=ak.length by simp [Qd1]] at h6;rw [Qd1,List.map_append,List.map_singleton,Hkd.out];exact h6)
      generalize w'.setCell ⟨X,0,none⟩ (.slice (some ⟨gg,0,none⟩) (ak.length+1) c5)=wz at *;clear y0 f0 q0 z0 z1 z2 z3 HOp HKp HAp HEm HZm HMm HKm;have HYz:Hid ((∃ u,wz.cell? ⟨gb,k * 3+2,none⟩=some u)∧wz.frozen? ⟨gb,k * 3+2,none⟩=false):=Lib.hid (by
       have hr:=HI4.out.row;rw [Hm.out] at hr;refine ⟨?_,?_⟩
       ·rw [hr.cellAt (k * 3+2) (by omega)];exact ⟨_,List.getElem?_eq_getElem (by rw [Qbu,Hm.out];omega)⟩
       ·obtain ⟨cr,hcr⟩:=Qbj hr gb rfl;exact frozen_of_row wz gb _ _ _ hcr)
      obtain ⟨⟨u,yu⟩,yf⟩:=HYz.out;have HI2:Hid (ExI w3 (wz.setCell ⟨gb,k * 3+2,none⟩ (.int .i64 (ak.length:Int))) room X6 X M (.slice (some ⟨gg,0,none⟩) (ak.length+1) c5) (.slice ea i ec) (.slice ba i bc) (.slice (some ⟨gb,0,none⟩) m oc) (.slice (some ⟨g2,0,none⟩) m tc) (cs2++[(.slice ya 3 yc,.slice (some ⟨yb,yo,none⟩) 9 yz)]) (ak++[d]) rows rl bl l (tk++[ak.length]) (D2.put (Mo.kl (str kd)) (.lit (.int .i64 (ak.length:Int))))):=Lib.hid (by
       have h:=HI4.out;rw [← Hm.out] at h;have h2:=h.store (by rw [HTl.out,Hm.out];exact hk) ak.length;rw [HTl.out,Hm.out] at h2;exact h2)
      go_wp2_with fail;go_roundw
      case rel=>exact ⟨k+1,_,_,_,by omega,by go_num,Lib.hid (by rw [HE1.out,HO1.out,Qwl hmem,ext,if_neg hmem];exact HI2.out)⟩
      case measure=>simp [intOf];omega
    ·obtain rfl:k=m:=by omega
     have htl:l.take k=l:=by rw [← Hm.out,List.take_length]
     rw [htl] at HI hlen;have HI1:=HI;rw [← Hst1.out] at hlen;have hge:n≤(Qal (sf ps L room) (i+1)).length:=by
      have h5:=(Qig l all).length_le;rw [← Hst1.out,Hn.out] at h5;exact h5
     rw [← Hst1.out] at HI1;have Hst2:=Lib.hid (Qf3 (sf ps L room) (i+1));clear HI htl Hst1;have HJ2:Hid (∀ j,j < i+1→j < (Qal (sf ps L room) j).length):=Lib.hid (fun j hj=>by
      by_cases e:j < i
      ·exact HJ.out j e
      ·obtain rfl:j=i:=by omega
       rw [Hall.out,Hn.out];exact hin)
     generalize hal:Qal (sf ps L room) (i+1)=al2 at *;have Hal:=Lib.hid hal;clear hal;have q0:=(cell_of_row wi X 0 _ _ _ HI1.out.ex.xo).trans rfl;by_cases hbig:2000 < al2.length
     ·have d4:decide ((al2.length:Int) > 2000)=true:=by simp;omega
      have HX6i:=Lib.hid (HX6.out wi HI1.out.ex.grow);have y0:=(cell_of_row wi X6 0 _ _ _ HX6i.out).trans rfl;have y1:=(cell_of_row wi X6 1 _ _ _ HX6i.out).trans rfl;have y2:=(cell_of_row wi X6 2 _ _ _ HX6i.out).trans rfl;have f0:=frozen_of_row wi X6 0 _ _ HX6i.out;have f1:=frozen_of_row wi X6 1 _ _ HX6i.out;have f2:=frozen_of_row wi X6 2 _ _ HX6i.out;have hbig2:2000 < (al2.length:Int):=by omega
      go_wp2_with fail;exact bodyPost_ret (Qjo X6 _ _ _ _ _ _ rfl rfl (Qc1 _ _ _ HX6i.out)) rfl ⟨.inl ⟨rfl,i,fun j hj=>HJ2.out j (by omega),by rw [Hal.out];exact hbig⟩,Qbv _ _ _ (HGW3.out.trans HI1.out.ex.grow) (by have:=HXW.out;omega)⟩
     ·have d4:decide ((al2.length:Int) > 2000)=false:=by simp;omega
      have hbig2:¬ 2000 < (al2.length:Int):=by omega
      have q1:=(cell_of_row wi X 1 _ _ _ HI1.out.ex.xo).trans rfl;have HOs:Hid (wi.ownsRow w3.heap.size 46 1 (.slice ea i ec) i rows):=Lib.hid (by have h:=HI1.out.ex.sown;rw [HrlL.out] at h;exact h);have HXn:Hid ((Value.slice ea i ec).ownBlock≠some X):=Lib.hid (Qan HI1.out.ex.sown HI1.out.ex.xo (by decide));have HXg:Hid (∀ o,(wi.alloc o).heap[X]?=some (.cells #[.slice ca2 al2.length cc2,.slice ea i ec,.slice ba i bc] 42 (0,0))):=Lib.hid (fun o=>Qae (Flow.grow_alloc wi o) HI1.out.ex.xo);have hBm:w3.heap.size≤wi.heap.size:=HI1.out.ex.grow.size;go_upto_region 22 with (at_builtin;refine Qd6 w3.heap.size rfl _ _ 40 rfl 46 iS _ 1 24 Tryz.underlying40 hiS hS0 hS1 hS2 rfl (by decide) (.slice ea i ec) i rows rfl (Qab HOs.out (Flow.grow_alloc _ _)) (by simp;omega) _ #[.slice oa k oc] 46 rfl (heap_alloc_new _ _) rfl (by intro u hu;simp at hu;subst hu;rfl) (by omega) (by decide) ?_;intro gg c5 w' hO hk hat;have HOp:=Lib.hid hO;have HKp:=Lib.hid hk;have HAp:=Lib.hid hat;have hX1:=(hk.block X (Array.getElem?_eq_some_iff.1 (HXg.out _)).1 (fun e=>HXn.out e.symm)).trans (HXg.out _);have y1:=(cell_of_row w' X 1 _ _ _ hX1).trans rfl;have f1:=frozen_of_row w' X 1 _ _ hX1;clear hO hk hat hX1);have HE5:Hid (ExD w3 (w'.setCell ⟨X,1,none⟩ (.slice (some ⟨gg,0,none⟩) (i+1) c5)) room X6 X M (.slice ca2 al2.length cc2) (.slice (some ⟨gg,0,none⟩) (i+1) c5) (.slice ba i bc) cs2 al2 (rows++[.slice oa k oc]) (rl++[(l,tos all l)]) bl []):=Lib.hid (by
       have hr:=HI1.out.row;have ho:=HOp.out;have ha:=HAp.out;rw [← HrlL.out] at ho;have h5:=HI1.out.ex.pushRow (o:=.cells #[.slice oa k oc] 46) (c:=c5) ho HKp.out (by simpa using ha) hr;rw [HrlL.out] at h5;exact h5)
      have HM5:Hid (Pr.MapW (w'.setCell ⟨X,1,none⟩ (.slice (some ⟨gg,0,none⟩) (i+1) c5)) M al2.length D2):=Lib.hid (by
       have m1:Pr.MapW (wi.alloc (.cells #[.slice oa k oc] 46)) M al2.length D2:=World.ownsMap.kept (row:=none) HI1.out.mw (Flow.grow_alloc _ _) (by simp);have m2:=World.ownsMap.keptO m1 HKp.out (Qab HI1.out.ex.sown (Flow.grow_alloc _ _));have hX1:=(HKp.out.block X (Array.getElem?_eq_some_iff.1 (HXg.out _)).1 (fun e=>HXn.out e.symm)).trans (HXg.out _);exact World.ownsMap.keptC m2 (Qad _ X 1 _) hX1)
      generalize w'.setCell ⟨X,1,none⟩ (.slice (some ⟨gg,0,none⟩) (i+1) c5)=wy at *;have HOd:=Lib.hid HI1.out.od;clear y1 f1 q0 q1 HOp HKp HAp HXn HXg HOs HI1 hBm;have q2:=(cell_of_row wy X 2 _ _ _ HE5.out.xo).trans rfl;have HOb:Hid (wy.ownsRow w3.heap.size 4 1 (.slice ba i bc) i (bl.map Value.bool)):=Lib.hid (by have h:=HE5.out.bown;rw [HblL.out] at h;exact h);have HXn:Hid ((Value.slice ba i bc).ownBlock≠some X):=Lib.hid (Qan HE5.out.bown HE5.out.xo (by decide));have HXg:Hid (∀ o,(wy.alloc o).heap[X]?=some (.cells #[.slice ca2 al2.length cc2,.slice (some ⟨gg,0,none⟩) (i+1) c5,.slice ba i bc] 42 (0,0))):=Lib.hid (fun o=>Qae (Flow.grow_alloc wy o) HE5.out.xo);have hBm:w3.heap.size≤wy.heap.size:=HE5.out.grow.size;go_upto_region 7 with (at_builtin;refine Qd6 w3.heap.size rfl _ _ 24 rfl 4 iB _ 1 1 Tryz.underlying24 hiB hB0 hB1 hB2 rfl (by decide) (.slice ba i bc) i (bl.map Value.bool) rfl (Qab HOb.out (Flow.grow_alloc _ _)) (by simp;omega) _ #[.bool bk] 4 rfl (heap_alloc_new _ _) rfl (by intro u hu;simp at hu;subst hu;rfl) (by omega) (by decide) ?_;intro gz c6 w'' hO hk hat;have HOp:=Lib.hid hO;have HKp:=Lib.hid hk;have HAp:=Lib.hid hat;have hX1:=(hk.block X (Array.getElem?_eq_some_iff.1 (HXg.out _)).1 (fun e=>HXn.out e.symm)).trans (HXg.out _);have y2:=(cell_of_row w'' X 2 _ _ _ hX1).trans rfl;have f2:=frozen_of_row w'' X 2 _ _ hX1;clear hO hk hat hX1);have HE6:Hid (ExD w3 (w''.setCell ⟨X,2,none⟩ (.slice (some ⟨gz,0,none⟩) (i+1) c6)) room X6 X M (.slice ca2 al2.length cc2) (.slice (some ⟨gg,0,none⟩) (i+1) c5) (.slice (some ⟨gz,0,none⟩) (i+1) c6) cs2 al2 (rows++[.slice oa k oc]) (rl++[(l,tos all l)]) (bl++[bk]) []):=Lib.hid (by
       have ho:=HOp.out;have ha:=HAp.out;rw [← HblL.out] at ho;have h5:=HE5.out.pushBlk (o:=.cells #[.bool bk] 4) (c:=c6) ho HKp.out (by simpa using ha);rw [HblL.out] at h5;exact h5)
      have HM6:Hid (Pr.MapW (w''.setCell ⟨X,2,none⟩ (.slice (some ⟨gz,0,none⟩) (i+1) c6)) M al2.length D2):=Lib.hid (by
       have m1:Pr.MapW (wy.alloc (.cells #[.bool bk] 4)) M al2.length D2:=World.ownsMap.kept (row:=none) HM5.out (Flow.grow_alloc _ _) (by simp);have m2:=World.ownsMap.keptO m1 HKp.out (Qab HE5.out.bown (Flow.grow_alloc _ _));have hX1:=(HKp.out.block X (Array.getElem?_eq_some_iff.1 (HXg.out _)).1 (fun e=>HXn.out e.symm)).trans (HXg.out _);exact World.ownsMap.keptC m2 (Qad _ X 2 _) hX1)
      generalize w''.setCell ⟨X,2,none⟩ (.slice (some ⟨gz,0,none⟩) (i+1) c6)=wx at *;clear y2 f2 q2 HOp HKp HAp HXn HXg HOb HE5 HM5;go_wp2_with fail;go_roundw
      case rel=>exact ⟨i+1,_,_,_,cs2,_,D2,by rw [Hal.out];omega,by rw [Hal.out];omega,HJ2,by go_num,Lib.hid (by rw [Hal.out,Hrl.out,Hbl.out];exact HE6.out),Lib.hid (by rw [Hal.out];exact HM6.out),Lib.hid (by rw [Hal.out];exact HOd.out)⟩
      case measure=>simp [intOf];omega
  ·obtain rfl:i=n:=by omega
   have HX6i:=Lib.hid (HX6.out wo HE.out.grow);have y0:=(cell_of_row wo X6 0 _ _ _ HX6i.out).trans rfl;have y1:=(cell_of_row wo X6 1 _ _ _ HX6i.out).trans rfl;have y2:=(cell_of_row wo X6 2 _ _ _ HX6i.out).trans rfl;have f0:=frozen_of_row wo X6 0 _ _ HX6i.out;have f1:=frozen_of_row wo X6 1 _ _ HX6i.out;have f2:=frozen_of_row wo X6 2 _ _ HX6i.out;go_wp2_with fail;refine bodyPost_ret (Qjo X6 _ _ _ _ _ _ rfl rfl (Qc1 _ _ _ HX6i.out)) rfl ⟨.inr ⟨i,ca,cc,ea,ec,ba,bc,rfl,⟨by rw [Hall.out];exact Hn.out,HJ.out⟩,hi2,?_⟩,Qbv _ _ _ (HGW3.out.trans HE.out.grow) (by have:=HXW.out;omega)⟩;rw [Hall.out,Hrl0.out,Hbl0.out];refine HE.out.done ⟨Hn.out,HrlL.out,HblL.out⟩ HX6i.out (by simp [World.setCell]) fun b hb hne=>?_;rw [Below.heap_setCell _ _ _ _ hne,Below.heap_setCell _ _ _ _ hne,Below.heap_setCell _ _ _ _ hne]
end Go.Proofs.YtcpodmjcgfgmnaaGreat
