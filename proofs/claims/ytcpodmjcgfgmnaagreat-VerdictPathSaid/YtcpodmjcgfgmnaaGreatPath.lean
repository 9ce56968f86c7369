/- verdict.Path by its contract. -/
import Derived.Test.YtcpodmjcgfgmnaaGreatMVp
import Derived.Deep.DeepCutAuto
import Derived.Deep.LoopGhost
namespace Go.Proofs.YtcpodmjcgfgmnaaGreat
open Go.RowKit
theorem Qeu {fn:Func} {t u:Tmp} (h:fn.results=#[.tmp t,.tmp u]) (tmps:Array Value) (P:Program) (w:World) :
  (results fn tmps).run P w=.ok (.tuple #[tmps.getD t undef,tmps.getD u undef]) w:=by
 simp [results,h]
open As Pr in
set_option maxRecDepth 100000 in
set_option maxHeartbeats 4000000 in
theorem Qx5 (f:Cfg→List Stp) (room n k:Nat) (cv sv bv:Value) (bl:List Bool) (W:World) (hE:As.Ends f n) (hn:n≤2000) (hk:k < n) (hf:∀ i,i < n→(f ((Qal f i).getD i first)).length≤1000) (hx:ExAt W room n cv sv bv (Qal f n) (rlF f n) bl) :
  Calls Tryz.prog 10 #[.agg #[cv,sv,bv],.int .i64 (k:Nat)] W fun e w'=>(∃ (R:List Stt) (ov:Value),As.Way f 0 R k∧e=.returned (.tuple #[ov,.bool true])∧w'.ownsRow W.heap.size 58 3 ov R.length (R.flatMap encT)∧R.length≤n)∧Flow.Grow W w':=by
 have HE:=Lib.hid hE;obtain ⟨gs,so,sc,rfl,hrow⟩:=hx.rows_ (by omega);have HRow:=Lib.hid hrow;obtain ⟨ca,cc,rfl⟩:∃ ca cc,cv=.slice ca n cc:=by
  obtain ⟨cs,_,⟨a,c,e,_⟩,_⟩:=hx.cfgs;exact ⟨a,c,e⟩
 clear hx hrow hE;have d1:decide ((k:Int) < 0)=false:=by simp
 have d2:decide ((k:Int)≥(n:Int))=false:=by simp [hk]
 have d3:decide (n≤k)=false:=by simp [hk]
 have Hm1:=Lib.hid (Qe2 n (by omega));have Hm2:=Lib.hid (Qtp n (by omega));obtain ⟨i1,hi1,hy0,hy1,hy2⟩:=info_parts Qbo;obtain ⟨i3,hi3,hz0,hz1,hz2⟩:=info_parts Qgw;go_enter Tryz.func10,Tryz.ntmps10;go_upto_region 1 with fail;have HBw10:Hid ((W.alloc (.cells #[.slice ca n cc,.slice (some ⟨gs,so,none⟩) n sc,bv] 42)).heap[W.heap.size]?=some (.cells #[.slice ca n cc,.slice (some ⟨gs,so,none⟩) n sc,bv] 42 (0,0))):=Lib.hid (Qb3 _ _);have HGw1:Hid (Flow.Grow W (W.alloc (.cells #[.slice ca n cc,.slice (some ⟨gs,so,none⟩) n sc,bv] 42))):=Lib.hid (Qb2 _ _);have HSw1:Hid ((W.alloc (.cells #[.slice ca n cc,.slice (some ⟨gs,so,none⟩) n sc,bv] 42)).heap.size=W.heap.size+1):=Lib.hid (by simp);generalize W.alloc (.cells #[.slice ca n cc,.slice (some ⟨gs,so,none⟩) n sc,bv] 42)=w1 at *;obtain ⟨X,hX⟩:∃ X,X=W.heap.size:=⟨_,rfl⟩;rw [← hX] at HBw10 HSw1 ⊢;have HXw1:=Lib.hid hX;clear hX;have CXw1:Hid (∀ wq,Flow.Grow w1 wq→wq.cell? ⟨X,0,none⟩=some (.slice ca n cc)∧wq.cell? ⟨X,1,none⟩=some (.slice (some ⟨gs,so,none⟩) n sc)∧wq.cell? ⟨X,2,none⟩=some (bv)):=Lib.hid (fun wq g=>⟨Qaa g HBw10.out rfl,Qaa g HBw10.out rfl,Qaa g HBw10.out rfl⟩);have FXw1:Hid (∀ wq,Flow.Grow w1 wq→(∀ k,wq.frozen? ⟨X,k,none⟩=false)):=Lib.hid (fun wq g=>fun k=>Qaf g HBw10.out k);obtain ⟨x00,x01,x02⟩:=CXw1.out w1 (Flow.grow_refl _);go_upto_region 3 with fail;have hm1:=Hm1.out w1;go_upto_region 4 with fail;clear hm1 x00 x01 x02;have HUb:Hid ((w1.alloc (.cells (Qaj (List.replicate n 0)) 3)).heap[w1.heap.size]?=some (.cells (Qaj (List.replicate n 0)) 3 (0,0))):=Lib.hid (heap_alloc_new _ _);have HG2:Hid (Flow.Grow w1 (w1.alloc (.cells (Qaj (List.replicate n 0)) 3))):=Lib.hid (Flow.grow_alloc _ _);have HS2:Hid ((w1.alloc (.cells (Qaj (List.replicate n 0)) 3)).heap.size=w1.heap.size+1):=Lib.hid (by simp);generalize w1.alloc (.cells (Qaj (List.replicate n 0)) 3)=w2 at *;obtain ⟨x00,x01,x02⟩:=CXw1.out w2 (HG2.out);have hm2:=Hm2.out w2;go_upto_region 5 with fail;clear hm2 x00 x01 x02 d1 d2 d3;have HVb:Hid ((w2.alloc (.cells ((List.replicate n ((0,0,0):Stt)).flatMap encT).toArray 58)).heap[w2.heap.size]?=some (.cells ((List.replicate n ((0,0,0):Stt)).flatMap encT).toArray 58 (0,0))):=Lib.hid (heap_alloc_new _ _);have HG3:Hid (Flow.Grow w2 (w2.alloc (.cells ((List.replicate n ((0,0,0):Stt)).flatMap encT).toArray 58))):=Lib.hid (Flow.grow_alloc _ _);have HS3:Hid ((w2.alloc (.cells ((List.replicate n ((0,0,0):Stt)).flatMap encT).toArray 58)).heap.size=w2.heap.size+1):=Lib.hid (by simp);generalize w2.alloc (.cells ((List.replicate n ((0,0,0):Stt)).flatMap encT).toArray 58)=w3 at *;obtain ⟨U,hU⟩:∃ U,U=w1.heap.size:=⟨_,rfl⟩;obtain ⟨V,hV⟩:∃ V,V=w2.heap.size:=⟨_,rfl⟩;rw [← hU] at HUb HS2 ⊢;rw [← hV] at HVb HS3 HS2 ⊢;have HVU:Hid (V=U+1):=HS2;have HUX:Hid (U=X+1):=Lib.hid (by rw [hU];exact HSw1.out);clear hU hV
 have HP0:Hid (PaM W w3 X U V #[.slice ca n cc,.slice (some ⟨gs,so,none⟩) n sc,bv] (List.replicate 0 (-1)++List.replicate (n - 0) 0) (List.replicate n (0,0,0))):=Lib.hid
  ⟨HGw1.out.trans (HG2.out.trans HG3.out),⟨by rw [HXw1.out];exact Nat.le_refl _,by have:=HUX.out;omega,by have:=HVU.out;omega⟩,Qae (HG2.out.trans HG3.out) HBw10.out,Qae HG3.out HUb.out,HVb.out⟩
 clear HUb HVb HG2 HG3 HS2 HS3 HGw1 HSw1 HBw10 HXw1 CXw1 FXw1 Hm1 Hm2;go_upto_region 6 with fail;go_loopw [42] (fun iv wr=>∃ c:Nat,c≤n∧iv=.int .i64 c∧Hid (PaM W wr X U V #[.slice ca n cc,.slice (some ⟨gs,so,none⟩) n sc,bv] (List.replicate c (-1)++List.replicate (n - c) 0) (List.replicate n (0,0,0)))) (fun iv _=>n - (intOf iv).toNat)
 case atStart=>exact ⟨0,by omega,rfl,HP0⟩
 case round =>
  clear HP0;obtain ⟨c,hc,rfl,HP⟩:=hrel;by_cases hcn:c < n
  ·have hcell:=HP.out.cellU (q:=c) (z:=0) (by rw [List.getElem?_append_right (by simp),List.length_replicate,Nat.sub_self,List.getElem?_replicate,if_pos (by omega)]);have hfr:wr.frozen? ⟨U,c,none⟩=false:=frozen_of_row wr _ _ _ _ HP.out.hU;have HP1:=Lib.hid (HP.out.setU c (-1));have hset:((List.replicate c (-1):List Int)++(List.replicate (n - c) 0:List Int)).set c (-1)=(List.replicate (c+1) (-1):List Int)++(List.replicate (n - (c+1)) 0:List Int):=by
    rw [List.set_append_right _ _ (by simp),List.length_replicate,Nat.sub_self,show n - c=(n - (c+1))+1 by omega,List.replicate_succ,List.set_cons_zero,List.replicate_succ',List.append_assoc];simp
   rw [hset] at HP1;clear hset;clear HP;have hcd:decide ((c:Int) < (n:Int))=true:=by simp;omega
   go_wp2;go_roundw
   case rel=>exact ⟨c+1,by omega,by go_num,HP1⟩
   case measure=>simp [intOf];omega
  ·obtain rfl:n=c:=by omega
   rw [Nat.sub_self,List.replicate_zero,List.append_nil] at HP;go_upto_region 11 with fail;have hVw:V < wr.heap.size:=(Array.getElem?_eq_some_iff.1 HP.out.hV).1;have HPa:=Lib.hid (HP.out.more (Flow.grow_alloc wr (.cells #[.int .i64 0] 3)))
   have HQ0:Hid (Qu (wr.alloc (.cells #[.int .i64 0] 3)) (V+1) wr.heap.size 0 ((Qal f 0).length - 0) 1 (nums 0 ((Qal f 0).length - 0))):=Lib.hid
    ⟨hVw,rfl,#[.int .i64 0],heap_alloc_new _ _,by simp,by simp [Qal],fun j u hj=>by
     have h1:j=0:=by
      have h2:=(List.getElem?_eq_some_iff.1 hj).1;simp [nums,Qal] at h2;exact h2
     subst h1;simpa [nums,Qal] using hj⟩
   clear HP hVw;generalize wr.heap.size=g0 at *;generalize wr.alloc (.cells #[.int .i64 0] 3)=w4 at *;go_loopg [9] n (fun kk qv wq=>∃ (i g off cap:Nat) (us:List Int) (zs:List Stt),kk=n - i∧i≤n∧qv=.slice (some ⟨g,off,none⟩) ((Qal f i).length - i) cap∧Hid (PaM W wq X U V #[.slice ca n cc,.slice (some ⟨gs,so,none⟩) n sc,bv] us zs)∧Hid (Qu wq (V+1) g off ((Qal f i).length - i) cap (nums i ((Qal f i).length - i)))∧Hid (Tr f n (Qal f i).length us zs))
   case atStart=>exact ⟨0,_,_,_,_,_,rfl,by omega,rfl,HPa,HQ0,Lib.hid (Tr.start f n)⟩
   case round =>
    clear HPa HQ0;obtain ⟨i,g,off,cap,us,zs,rfl,hin',rfl,HP,HQ,HT⟩:=hrel
    rename World=>wo
    by_cases hin:i < n
    ·have hiN:=HE.out.2 i hin;obtain ⟨m,hm⟩:∃ m,(Qal f i).length - i=m+1:=⟨(Qal f i).length - i - 1,by omega⟩;rw [hm,Qvt] at HQ;rw [hm];have q0:=HQ.out.cell (j:=0) rfl;rw [Nat.add_zero] at q0;have hmd:decide (((m+1:Nat):Int) > 0)=true:=by simp
     go_upto_region 14 with fail;have hq1:=HQ.out.head;rw [show (if cap=1 then some (⟨g,off,none⟩:Addr) else some ⟨g,off+1,none⟩)=some ⟨g,if cap=1 then off else off+1,none⟩ by split <;> rfl];have HQ1:=Lib.hid hq1;clear hq1 HQ q0 hmd;generalize (if cap=1 then off else off+1)=off1 at *;generalize cap - 1=cap1 at *;obtain ⟨ra,ml,rc,c0,hml,hrq⟩:=HRow.out i hin;replace c0:=Xm2.cell_grow HP.out.grow c0;have x1:=(cell_of_row wo X 1 _ _ _ HP.out.hX).trans rfl;have hml2:ml≤1000:=by rw [hml];exact hf i hin
     have HRq:=Lib.hid hrq;have Hml:=Lib.hid hml;clear hrq hml;have hi0:(0:Int)≤(i:Int):=by omega
     have hid:(i:Int) < (n:Int):=by omega
     go_upto_region 15 with fail;clear x1 c0;have hm0:m=dq f i 0 - (i+1):=by rw [Qw5];omega
     rw [hm0] at HQ1 ⊢;have HT0:Hid (Tr f n (dq f i 0) us zs):=HT;have HDn:Hid (∀ q,q≤ml→dq f i q≤n):=Lib.hid (fun q hq=>by
      have h1:=Qq3 f i hq;rw [Hml.out,Qq4] at h1;have h2:=Qb9 f (show i+1≤n by omega);have:=HE.out.1;omega)
     have HDs:Hid (∀ q,q≤ml→dq f i q≤(Qal f (i+1)).length):=Lib.hid (fun q hq=>by
      have h1:=Qq3 f i hq;rw [Hml.out,Qq4] at h1;exact h1)
     have HD0:Hid (∀ q,i+1≤dq f i q∧(Qal f i).length≤dq f i q):=Lib.hid (fun q=>by
      have h1:=Qq3 f i (Nat.zero_le q);rw [Qw5] at h1;omega)
     clear hm hm0 HT;go_loopw [64,9] (fun qv tv wq=>∃ (q g off cap:Nat) (us:List Int) (zs:List Stt),q≤ml∧qv=.int .i64 q∧tv=.slice (some ⟨g,off,none⟩) (dq f i q - (i+1)) cap∧Hid (PaM W wq X U V #[.slice ca n cc,.slice (some ⟨gs,so,none⟩) n sc,bv] us zs)∧Hid (Qu wq (V+1) g off (dq f i q - (i+1)) cap (nums (i+1) (dq f i q - (i+1))))∧Hid (Tr f n (dq f i q) us zs)) (fun qv _ _=>ml - (intOf qv).toNat)
     case atStart=>exact ⟨0,_,_,_,_,_,by omega,rfl,rfl,HP,HQ1,HT0⟩
     case round =>
      clear HP HQ1 HT0;obtain ⟨q,g,off,cap,us,zs,hqm,rfl,rfl,HP,HQ,HT⟩:=hrel
      rename World=>wi
      by_cases hq:q < ml
      ·obtain ⟨rb,ro,pa,pb,t,d,rfl,hs,ht,c0,c1,c2⟩:=HRq.out q hq;replace c0:=Xm2.cell_grow HP.out.grow c0;replace c1:=Xm2.cell_grow HP.out.grow c1;replace c2:=Xm2.cell_grow HP.out.grow c2;have hdq:=Zbg hs ht;have HEd:Hid (As.Edge f i pa pb t):=Lib.hid ⟨q,d,hs,ht⟩;have hDn:=HDn.out (q+1) hq;have hD0:=HD0.out q;have hDs:=HDs.out (q+1) hq;clear hs ht;have hq0:(0:Int)≤(q:Int):=by omega
       have hqd:(q:Int) < (ml:Int):=by omega
       have hqd':decide ((q:Int) < (ml:Int))=true:=by simp;omega
       go_upto_region 17 with fail;have HBwj0:Hid ((wi.alloc (.cells #[.int .i64 (pa:Int),.int .i64 (pb:Int),.int .i64 (t:Int)] 58)).heap[wi.heap.size]?=some (.cells #[.int .i64 (pa:Int),.int .i64 (pb:Int),.int .i64 (t:Int)] 58 (0,0))):=Lib.hid (Qb3 _ _);have HGwj:Hid (Flow.Grow wi (wi.alloc (.cells #[.int .i64 (pa:Int),.int .i64 (pb:Int),.int .i64 (t:Int)] 58))):=Lib.hid (Qb2 _ _);have HSwj:Hid ((wi.alloc (.cells #[.int .i64 (pa:Int),.int .i64 (pb:Int),.int .i64 (t:Int)] 58)).heap.size=wi.heap.size+1):=Lib.hid (by simp);generalize wi.alloc (.cells #[.int .i64 (pa:Int),.int .i64 (pb:Int),.int .i64 (t:Int)] 58)=wj at *;obtain ⟨Z,hZ⟩:∃ X,X=wi.heap.size:=⟨_,rfl⟩;rw [← hZ] at HBwj0 HSwj ⊢;have HXwj:=Lib.hid hZ;clear hZ;have CXwj:Hid (∀ wq,Flow.Grow wj wq→wq.cell? ⟨Z,0,none⟩=some (.int .i64 (pa:Int))∧wq.cell? ⟨Z,1,none⟩=some (.int .i64 (pb:Int))∧wq.cell? ⟨Z,2,none⟩=some (.int .i64 (t:Int))):=Lib.hid (fun wq g=>⟨Qaa g HBwj0.out rfl,Qaa g HBwj0.out rfl,Qaa g HBwj0.out rfl⟩);have FXwj:Hid (∀ wq,Flow.Grow wj wq→(∀ k,wq.frozen? ⟨Z,k,none⟩=false)):=Lib.hid (fun wq g=>fun k=>Qaf g HBwj0.out k);obtain ⟨z00,z01,z02⟩:=CXwj.out wj (Flow.grow_refl _);clear c0 c1 c2;have HP1:=Lib.hid (HP.out.more HGwj.out);have HQ1:=Lib.hid (HQ.out.grow HGwj.out);have HPi:=HP;clear HP HQ;rcases hdq with ⟨htd,hdq⟩ | ⟨htd,hdq⟩
       ·by_cases h0:t=0
        ·subst h0;go_wp2_with fail;go_roundw
         case rel=>exact ⟨q+1,g,off,cap,us,zs,by omega,by go_num,by rw [hdq],HP1,by rw [hdq];exact HQ1,by rw [hdq];exact HT⟩
         case measure=>simp [intOf];omega
        ·obtain ⟨i',a',b',hu,_,_⟩:=HT.out.seen t (by omega) htd;have yu:=HP1.out.cellU hu;have t1:decide ((t:Int) > 0)=true:=by simp;omega
         have t2:decide ((t:Int) < (n:Int))=true:=by simp;omega
         have t3:decide ((i':Int) < 0)=false:=by simp
         have t4:(0:Int)≤(t:Int):=by omega
         have t5:(t:Int) < (n:Int):=by omega
         go_wp2_with fail;go_roundw
         case rel=>exact ⟨q+1,g,off,cap,us,zs,by omega,by go_num,by rw [hdq],HP1,by rw [hdq];exact HQ1,by rw [hdq];exact HT⟩
         case measure=>simp [intOf];omega
       ·have hu:=HT.out.rest t (by omega) (.inr (by omega));have yu:=HP1.out.cellU hu;have t1:decide ((t:Int) > 0)=true:=by simp;omega
        have t2:decide ((t:Int) < (n:Int))=true:=by simp;omega
        have t3:decide ((-1:Int) < 0)=true:=by decide
        have t4:(0:Int)≤(t:Int):=by omega
        have t5:(t:Int) < (n:Int):=by omega
        have htn:t < n:=by omega
        have t6:0 < t:=by omega
        have Htd:=Lib.hid htd;have Hdq:=Lib.hid hdq;clear hu htd hdq;go_upto_region 18 with fail;clear z00 z01 z02 yu t1 t2 t3;have hUw:U < wj.heap.size:=(Array.getElem?_eq_some_iff.1 HP1.out.hU).1;have hVw:V < wj.heap.size:=(Array.getElem?_eq_some_iff.1 HP1.out.hV).1;have hlo:=HP1.out.lo;have hVi:=(Array.getElem?_eq_some_iff.1 HPi.out.hV).1;have nU:Z≠U:=by have:=HXwj.out;omega
        have nV:Z≠V:=by have:=HXwj.out;omega
        have hul:=HT.out.ul;have hzl:=HT.out.zl;obtain ⟨z00,z01,z02⟩:=CXwj.out wj (Flow.grow_refl _);have HZ0:=Lib.hid z00;have HZ1:=Lib.hid z01;have HZ2:=Lib.hid z02;clear z00 z01 z02;have hsI:∀ w,(sizeOf 3).run Tryz.prog w=.ok 1 w:=Tryz.sizeOf3
        refine Flow.regionG (C:=SwP W wj U V) (Fs:=[.inl ((.slice (some ⟨U,0,none⟩) n n)),.inl ((.pointer (some ⟨Z,2,none⟩))),.inl ((.int .i64 (t:Int))),.inl ((.slice (some ⟨V,0,none⟩) n n)),.inl ((.pointer (some ⟨Z,2,none⟩))),.inl ((.int .i64 (t:Int))),.inl ((.int .i64 (i:Int))),.inl ((.agg #[.int .i64 (pa:Int),.int .i64 (pb:Int),.int .i64 (t:Int)])),.inl ((.pointer (some ⟨U,t,none⟩))),.inr (fun _ w=>w.heap[U]?=some (.cells (Qaj (us.set t (i:Int))) 3 (0,0))),.inl ((.pointer (some ⟨V,t * 3,none⟩))),.inr (fun _ w=>w.heap[V]?=some (.cells ((zs.set t (pa,pb,t)).flatMap encT).toArray 58 (0,0)))])
         [[],[],[1],[],[],[4],[],[],[0,2],[8,6],[3,5],[10,7]] [[],[],[1],[],[],[4],[],[],[0,1,2],[0,1,2,6,8],[3,4,5],[3,4,5,7,10]] [9,11] (by kernel_rfl) (by kernel_rfl) (by kernel_rfl) rfl (⟨HP1.out.grow.trans (Flow.grow_drew _),Nat.le_refl _,fun _ _ _ _=>rfl,fun _=>rfl,fun _=>rfl⟩) ?ones18 ?ends18
        case ones18 =>
         refine Flow.OnesG.start (by exact ⟨fun _ _ _ g h=>Qae g h,fun _ _ _ g h=>Qae g h,trivial⟩) (fun L w w' i h g=>h.more hUw hVw g i) fun HST HCG=>?_;refine Flow.oq rfl HST HCG ?_ ?_
         ·intro L a w hC hLi hoff _;exact Flow.gs rfl (Flow.exec_move (.inl rfl) (hoff.at2 6 0 hLi (by kernel_rfl)))
         refine Flow.oq rfl HST HCG ?_ ?_
         ·intro L a w hC hLi hoff _;have e12:a.eval (.tmp 12)=(.pointer (some ⟨Z,0,none⟩)):=hoff.at2 12 1 hLi (by kernel_rfl);refine Flow.gs rfl ?_;generalize a.eval=ρ at e12 ⊢;simp [execOp,e12,go_sem]
         refine Flow.oq rfl HST HCG ?_ ?_
         ·rintro L a w hC hLi hoff ⟨k1,-⟩;have e87:=Flow.kv k1 rfl rfl;refine .inl ⟨Flow.want_none rfl,?_⟩;have h2:=hC.cell nU nV HZ2.out;refine Flow.run_same ?_ Flow.grow_refl;generalize a.eval=ρ at e87 ⊢;simp [execOp,e87,h2,go_sem]
         refine Flow.oq rfl HST HCG ?_ ?_
         ·intro L a w hC hLi hoff _;exact Flow.gs rfl (Flow.exec_move (.inl rfl) (hoff.at2 7 3 hLi (by kernel_rfl)))
         refine Flow.oq rfl HST HCG ?_ ?_
         ·intro L a w hC hLi hoff _;have e12:a.eval (.tmp 12)=(.pointer (some ⟨Z,0,none⟩)):=hoff.at2 12 4 hLi (by kernel_rfl);refine Flow.gs rfl ?_;generalize a.eval=ρ at e12 ⊢;simp [execOp,e12,go_sem]
         refine Flow.oq rfl HST HCG ?_ ?_
         ·rintro L a w hC hLi hoff ⟨k4,-⟩;have e90:=Flow.kv k4 rfl rfl;refine .inl ⟨Flow.want_none rfl,?_⟩;have h2:=hC.cell nU nV HZ2.out;refine Flow.run_same ?_ Flow.grow_refl;generalize a.eval=ρ at e90 ⊢;simp [execOp,e90,h2,go_sem]
         refine Flow.oq rfl HST HCG ?_ ?_
         ·intro L a w hC hLi hoff _;exact Flow.gs rfl (Flow.exec_move (.inl rfl) (hoff.at2 10 6 hLi (by kernel_rfl)))
         refine Flow.oq rfl HST HCG ?_ ?_
         ·intro L a w hC hLi hoff _;have e12:a.eval (.tmp 12)=(.pointer (some ⟨Z,0,none⟩)):=hoff.at2 12 7 hLi (by kernel_rfl);refine .inl ⟨Flow.want_none rfl,?_⟩;have h0:=hC.cell nU nV HZ0.out;have h1:=hC.cell nU nV HZ1.out;have h2:=hC.cell nU nV HZ2.out;refine Flow.run_same ?_ Flow.grow_refl;generalize a.eval=ρ at e12 ⊢;simp [execOp,e12,h0,h1,h2,go_sem]
         refine Flow.oq rfl HST HCG ?_ ?_
         ·rintro L a w hC hLi hoff ⟨k0,k2,-⟩;have e86:=Flow.kv k0 rfl rfl;have e88:=Flow.kv k2 rfl rfl;refine Flow.gs rfl ?_;generalize a.eval=ρ at e86 e88 ⊢;simp [execOp,e86,e88,go_sem];intro hh;omega
         refine Flow.OnesG.cons (Flow.OneG.k (fun w w'=>∀ b,b≠U→w'.heap[b]?=w.heap[b]?) (by exact ⟨.inl rfl,.inr fun _ _ K u h=>(K V (by omega)).trans h,trivial⟩) ?_) ?_
         ·rintro L a w hC hLi hoff ⟨k8,k6,-⟩;have e94:=Flow.kv k8 rfl rfl;have e92:=Flow.kv k6 rfl rfl;refine ⟨Flow.want_none rfl,?_⟩;refine Qum (s:=94) (x:=92) rfl rfl hsI e94 e92 ((hC.u hLi).trans HP1.out.hU) (by omega) fun w' h2 h3 h4 h5=>?_;exact ⟨undef,rfl,hC.sto (by omega) h2 h3 h4 (.inl ⟨rfl,rfl⟩) (by omega),h4,fun s hs=>h5⟩
         refine Flow.oq rfl HST HCG ?_ ?_
         ·rintro L a w hC hLi hoff ⟨k3,k5,-⟩;have e89:=Flow.kv k3 rfl rfl;have e91:=Flow.kv k5 rfl rfl;refine Flow.gs rfl ?_;generalize a.eval=ρ at e89 e91 ⊢;simp [execOp,e89,e91,go_sem];intro hh;omega
         refine Flow.OnesG.cons (Flow.OneG.k (fun w w'=>∀ b,b≠V→w'.heap[b]?=w.heap[b]?) (by exact ⟨.inr fun _ _ K u h=>(K U (by omega)).trans h,.inl rfl,trivial⟩) ?_) ?_
         ·rintro L a w hC hLi hoff ⟨k10,k7,-⟩;have e95:=Flow.kv k10 rfl rfl;have e93:=Flow.kv k7 rfl rfl;refine ⟨Flow.want_none rfl,?_⟩;refine Qs0 (s:=95) (x:=93) (p:=(pa,pb,t)) rfl rfl e95 e93 ((hC.v hLi).trans HP1.out.hV) (by omega) fun w' h2 h3 h4 h5=>?_;exact ⟨undef,rfl,hC.sto (by omega) h2 h3 h4 (.inr ⟨rfl,rfl⟩) (by omega),h4,fun s hs=>h5⟩
         exact trivial
        case ends18 =>
         intro LL wx hLL hC
         iterate 9 refine Flow.endsG_v rfl ?_
         refine Flow.endsG_s rfl rfl rfl fun hE9=>?_;refine Flow.endsG_v rfl ?_;refine Flow.endsG_s rfl rfl rfl fun hE11=>?_;refine Flow.endsG_nil ?_;simp only [Act.put,List.setIfInBounds_toArray,List.set_cons_succ,List.set_cons_zero];have hU9:=hE9;have hV11:=hE11;have hlq:=HQ1.out.lo;have hgl:=HQ1.out.lt;have HP2:Hid (PaM W wx X U V #[.slice ca n cc,.slice (some ⟨gs,so,none⟩) n sc,bv] (us.set t (i:Int)) (zs.set t (pa,pb,t))):=Lib.hid ⟨hC.grow,hlo,(hC.same X (by omega) (by omega) (by omega)).trans HP1.out.hX,hU9,hV11⟩;have HQ2:Hid (Qu wx (V+1) g off (dq f i q - (i+1)) cap (nums (i+1) (dq f i q - (i+1)))):=Lib.hid (HQ1.out.same (hC.same g hgl (by omega) (by omega)));have z2:=hC.cell nU nV HZ2.out;have hVx:V < wx.heap.size:=(Array.getElem?_eq_some_iff.1 hV11).1;have HT3:Hid (Tr f n (dq f i q+1) (us.set t (i:Int)) (zs.set t (pa,pb,t))):=Lib.hid (by
          have h:=Htd.out;have h2:=Hdq.out;subst h;exact HT.out.push (by omega) htn ⟨HEd.out,by omega,by omega⟩)
         have hnq:dq f i q - (i+1)≤1000000:=by
          have h2:=Hdq.out;omega
         clear hC hU9 hV11 HZ0 HZ1 HZ2 HP1 HQ1 HPi hUw hVw hVi hul hzl hgl;go_upto_region 20 with (at_builtin;refine Qpi (B:=V+1) rfl _ _ 49 rfl i1 _ Tryz.underlying49 hi1 hy0 hy1 hy2 rfl rfl (HQ2.out.grow (Flow.grow_alloc wx (.cells #[.int .i64 (t:Int)] 3))) (by simp;omega) _ (.int .i64 (t:Int)) 3 rfl (heap_alloc_new _ _) rfl hnq ?_;intro g' off' cap' w' h1 h2 h3;have HQ3:=Lib.hid h1;have HP3:=Lib.hid ((HP2.out.more (Flow.grow_alloc wx (.cells #[.int .i64 (t:Int)] 3))).by_ h2 (fun b e=>by injection e with e;omega));clear h1 h2 h3);go_wp2_with fail;go_roundw
         case rel =>
          refine ⟨q+1,g',off',cap',_,_,by omega,by go_num,by rw [Hdq.out,show dq f i q+1 - (i+1)=dq f i q - (i+1)+1 by omega],HP3,?_,by rw [Hdq.out];exact HT3⟩;have h:=HQ3.out;rw [Htd.out,show (dq f i q:Int)=((i+1+(dq f i q - (i+1)):Nat):Int) by omega,Qvu] at h;rw [Hdq.out,show dq f i q+1 - (i+1)=dq f i q - (i+1)+1 by omega];exact Lib.hid h
         case measure=>simp [intOf];omega
      ·obtain rfl:q=ml:=by omega
       have hst:dq f i q=(Qal f (i+1)).length:=by rw [Hml.out,Qq4]
       rw [hst] at HQ HT ⊢;clear hst;go_wp2_with fail;go_roundg (n - (i+1))
       case rel=>exact ⟨i+1,g,off,cap,us,zs,rfl,by omega,rfl,HP,HQ,HT⟩
       case measure=>omega
    ·obtain rfl:n=i:=by omega
     have hst:=HE.out.1;rw [hst] at HT;rw [hst,Nat.sub_self];clear HQ hst;go_upto_region 22 with fail;go_loopw [1,13] (fun vv ov wq=>∃ (v:Nat) (R:List Stt),R.length+v≤n∧v < n∧vv=.int .i64 v∧Hid (As.Way f v R k)∧Hid (PaM W wq X U V #[.slice ca n cc,.slice (some ⟨gs,so,none⟩) n sc,bv] us zs)∧Hid (wq.ownsRow (V+1) 58 3 ov R.length (R.reverse.flatMap encT))) (fun vv _ _=>(intOf vv).toNat)
     case atStart=>exact ⟨k,[],by simp;omega,hk,rfl,Lib.hid rfl,HP,Lib.hid (World.ownsRow_nil _ _ _ _)⟩
     case round =>
      clear HP;obtain ⟨v,R,hRn,hvn,rfl,HW,HP,HO⟩:=hrel
      rename World=>wi
      obtain ⟨oa,oc,hov⟩:=Qah HO.out;subst hov;by_cases hv:v=0
      ·subst hv;have HRv:=Lib.hid (Qpq (.slice oa R.length oc) R.reverse (V+1) wi (by simp;omega) (by rw [List.length_reverse];exact HO.out));rw [List.length_reverse,List.reverse_reverse] at HRv;go_upto_region 28 with (go_at_call 25;refine HRv.out.mono ?_;rintro e w' ⟨rfl,ho,hg⟩;have HO2:=Lib.hid ho;have HP2:=Lib.hid (HP.out.by_ hg (fun b e=>(HO.out.lt b e).1));clear ho hg);go_wp2_with fail;have hlo:=HP2.out.lo;refine bodyPost_ret (Qeu rfl _ _ _) rfl ?_;exact ⟨⟨R,_,HW.out,rfl,own_mono HO2.out (by omega),by omega⟩,HP2.out.grow⟩
      ·obtain ⟨i',pa,pb,hu,hte,hz⟩:=HT.out.seen v (by omega) hvn;have yu:=HP.out.cellU hu;obtain ⟨c0,c1,c2⟩:=HP.out.cellV hz;have hiv:i' < v:=by
        have h1:=hte.2.1;rcases Nat.lt_or_ge i' n with h2 | h2
        ·have:=HE.out.2 i' h2;omega
        ·have h3:=Qb9 f h2;have:=HE.out.1;omega
       have HW2:Hid (As.Way f i' ((pa,pb,v) :: R) k):=Lib.hid ⟨hte,HW.out⟩;have t1:decide ((v:Int) > 0)=true:=by simp;omega
       have t3:decide ((i':Int) < 0)=false:=by simp
       have t4:(0:Int)≤(v:Int):=by omega
       have t5:(v:Int) < (n:Int):=by omega
       have hVx:V < wi.heap.size:=(Array.getElem?_eq_some_iff.1 HP.out.hV).1;have Hu:=Lib.hid hu;clear hu hte hz;go_upto_region 26 with (at_builtin;refine Qd6 (V+1) rfl _ _ 46 rfl 58 i3 _ 3 24 Tryz.underlying46 hi3 hz0 hz1 hz2 rfl (by decide) (.slice oa R.length oc) R.length (R.reverse.flatMap encT) rfl (Qab HO.out (Flow.grow_alloc wi (.cells #[.int .i64 (pa:Int),.int .i64 (pb:Int),.int .i64 (v:Int)] 58))) (by simp;omega) _ #[.int .i64 (pa:Int),.int .i64 (pb:Int),.int .i64 (v:Int)] 58 rfl (heap_alloc_new _ _) rfl (by intro u hu;simp at hu;rcases hu with rfl | rfl | rfl <;> rfl) (by omega) (by decide) ?_;intro g' c' w' h1 h2 h3;have HO2:=Lib.hid h1;have HP2:=Lib.hid ((HP.out.more (Flow.grow_alloc wi (.cells #[.int .i64 (pa:Int),.int .i64 (pb:Int),.int .i64 (v:Int)] 58))).by_ h2 (fun b e=>(HO.out.lt b e).1));clear h1 h2 h3);clear yu c0 c1 c2;have yu2:=HP2.out.cellU (q:=v) (z:=i') Hu.out;go_wp2_with fail;go_roundw
       case rel=>exact ⟨i',(pa,pb,v) :: R,by simp;omega,by omega,rfl,HW2,HP2,by
        have h:=HO2.out;rw [List.reverse_cons,List.flatMap_append];exact Lib.hid h⟩
       case measure=>simp [intOf];omega
set_option maxRecDepth 100000 in
set_option maxHeartbeats 1000000 in
theorem Qnz (n:Nat) (z:Int) (ca:Option Addr) (cc:Nat) (sv bv:Value) (W:World) (hz:z < 0∨(n:Int)≤z) :
  Calls Tryz.prog 10 #[.agg #[.slice ca n cc,sv,bv],.int .i64 z] W fun e w'=>e=.returned (.tuple #[.slice none 0 0,.bool false])∧Flow.Grow W w':=by
 go_enter Tryz.func10,Tryz.ntmps10;go_upto_region 1 with fail;have HBw10:Hid ((W.alloc (.cells #[.slice ca n cc,sv,bv] 42)).heap[W.heap.size]?=some (.cells #[.slice ca n cc,sv,bv] 42 (0,0))):=Lib.hid (Qb3 _ _);have HGw1:Hid (Flow.Grow W (W.alloc (.cells #[.slice ca n cc,sv,bv] 42))):=Lib.hid (Qb2 _ _);have HSw1:Hid ((W.alloc (.cells #[.slice ca n cc,sv,bv] 42)).heap.size=W.heap.size+1):=Lib.hid (by simp);generalize W.alloc (.cells #[.slice ca n cc,sv,bv] 42)=w1 at *;obtain ⟨X,hX⟩:∃ X,X=W.heap.size:=⟨_,rfl⟩;rw [← hX] at HBw10 HSw1 ⊢;have HXw1:=Lib.hid hX;clear hX;have CXw1:Hid (∀ wq,Flow.Grow w1 wq→wq.cell? ⟨X,0,none⟩=some (.slice ca n cc)∧wq.cell? ⟨X,1,none⟩=some (sv)∧wq.cell? ⟨X,2,none⟩=some (bv)):=Lib.hid (fun wq g=>⟨Qaa g HBw10.out rfl,Qaa g HBw10.out rfl,Qaa g HBw10.out rfl⟩);have FXw1:Hid (∀ wq,Flow.Grow w1 wq→(∀ k,wq.frozen? ⟨X,k,none⟩=false)):=Lib.hid (fun wq g=>fun k=>Qaf g HBw10.out k);obtain ⟨x00,x01,x02⟩:=CXw1.out w1 (Flow.grow_refl _);by_cases h0:z < 0
 ·go_wp2_with fail;exact bodyPost_ret (Qeu rfl _ _ _) rfl ⟨rfl,HGw1.out⟩
 ·have h1:(n:Int)≤z:=by omega
  clear hz;go_wp2_with fail;exact bodyPost_ret (Qeu rfl _ _ _) rfl ⟨rfl,HGw1.out⟩
end Go.Proofs.YtcpodmjcgfgmnaaGreat
