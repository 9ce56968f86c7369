/- eps.Close by its contract: what it answers is its own, and not longer than there are states. -/
import Derived.Test.YtcpodmjcgfgmnaaGreatMKey
namespace Go.Proofs.YtcpodmjcgfgmnaaGreat
open Go.RowKit
namespace Pr
def boolCells (l:List Bool):Array Value:=(l.map Value.bool).toArray
theorem boolCells_get {l:List Bool} {i:Nat} (h:i < l.length):(boolCells l)[i]?=some (.bool (l.getD i false)):=by simp [boolCells,h]
theorem bools_set {w:World} {g e:Nat} {l:List Bool} {q:Nat} {z:Bool} (h:w.heap[g]?=some (.cells (boolCells l) e (0,0))) :
  (w.setCell ⟨g,q,none⟩ (.bool z)).heap[g]?=some (.cells (boolCells (l.set q z)) e (0,0)):=by
 rw [heap_setCell_same w g q _ e _ h];congr 2;apply Array.ext';simp [boolCells,List.map_set]
theorem boolCells_made (n:Nat):madeCells (Value.bool false).cells (n * 1)=boolCells (List.replicate n false):=by
 refine Array.ext (by simp [madeCells,boolCells]) fun i h1 h2=>?_;simp [madeCells,boolCells,Value.cells,Nat.mod_one]
def fal (l:List Bool):Nat:=l.count false
theorem fal_set {l:List Bool} {q:Nat} (h:q < l.length) (hf:l.getD q false=false):fal (l.set q true)+1=fal l:=by
 induction l generalizing q with
 | nil=>simp at h
 | cons a l ih =>
  cases q with
  | zero =>
   have:a=false:=by simpa using hf
   subst this;simp [fal]
  | succ q =>
   have:=ih (q:=q) (by simpa using h) (by simpa using hf);simp only [fal,List.set_cons_succ,List.count_cons] at this ⊢;omega
theorem falW_eq {w:World} {Z e:Nat} {l:List Bool} (h:w.heap[Z]?=some (.cells (boolCells l) e (0,0))):falW w Z=fal l:=by
 unfold falW;rw [h];show (boolCells l).toList.countP isF=fal l;unfold boolCells fal;clear h;show (l.map Value.bool).countP isF=l.count false;induction l with
 | nil=>rfl
 | cons a l ih =>
  rw [List.map_cons,List.countP_cons,List.count_cons,ih];cases a <;> simp [isF]
theorem fal_new (n:Nat):fal (List.replicate n false)=n:=by simp [fal]
end Pr
theorem Qtr (n:Nat) (h:n≤1000000) (w:World):(Instr.makeSlice 24 (.int .i64 (n:Int)) (.int .i64 (n:Int))).run Tryz.prog w=.ok (.slice (some ⟨w.heap.size,0,none⟩) n n) (w.alloc (.cells (Pr.boolCells (List.replicate n false)) 4)):=by
 obtain ⟨i0,hi,hz0,hz1,hz2⟩:=info_parts Qd2;have hr:=run_make (P:=Tryz.prog) w 24 4 i0 _ Tryz.underlying24 hi hz0 .i64 .i64 (n:Int) n (by omega) (Int.le_refl _) (by rw [hz2];omega) (by omega);rw [hz1,Int.toNat_natCast,Pr.boolCells_made] at hr;exact hr
section
variable {P:Program} {w:World} {ops:Array Oper} {rest:List Oper} {o:Oper} {a:Act} {Q:Exit→Act→World→Prop}
theorem Qbp (B:Nat) (hgd:o.guard=none) (s x:Operand) (t:TypeId) (ho:o.op=.call { callee:=.builtin .append,args:=#[s,x],argTypes:=#[t,t] })
  (e:TypeId) (i:TypeInfo) (z:Value) (bytes:Nat) (ht:P.underlying t=some (.slice e)) (hi:P.info? e=some i) (hz:i.zero=some z)
  (hsize:i.size=1) (hby:i.bytes=bytes) (hzs:z.cells.size=1)
  (v:Value) (n:Nat) (xs:List Value) (hs:a.eval s=v) (hown:w.ownsRow B e 1 v n xs) (hB:B≤w.heap.size)
  (q:Nat) (c0:Value) (qt:TypeId) (hx:a.eval x=.slice (some ⟨q,0,none⟩) 1 1) (hq:w.heap[q]?=some (.cells #[c0] qt (0,0))) (h1:c0.oneCell'=true)
  (hn:n≤1000000) (hb:bytes≤1000000)
  (h:∀ g c w',w'.ownsRow B e 1 (.slice (some ⟨g,0,none⟩) (n+1) c) (n+1) (xs++[c0])→w.grownBy w' v.ownBlock→(v.ownBlock=some g∨g=w.heap.size)→wpList P ops Q rest (a.put o.dst (.slice (some ⟨g,0,none⟩) (n+1) c)) w'):wpList P ops Q (o :: rest) a w:=by
 refine wpList_append_lies (P:=P) w hgd s x t ho B e i z 1 bytes ht hi hz hsize hby hzs (by decide) v n xs hs hown ⟨q,0,none⟩ 1 1 [c0] hx rfl
  (fun j u hj=>?_) (by intro u hu;simp at hu;subst hu;exact h1) (by decide) (by unfold maxLen;omega) ?_ hB _ rfl fun g cap w' h2 h3 h4 h5=>?_
 ·rw [Addr.add_lit,cell_of_row w q _ _ _ _ hq,Nat.zero_add];rw [← hj];rcases j with _ | j <;> simp
 ·have:(n+1) * bytes≤1000001 * 1000000:=Nat.mul_le_mul (by omega) hb;omega
 ·exact h g cap w' h2 h3 h4
end
set_option maxRecDepth 100000 in
set_option maxHeartbeats 2000000 in
theorem Qh1 (K S:Int) (vf vm vl:Value) (rows:List (List (Int × Int))) (l:List Int) (W:World) (hr1:rows.length≤100) (hr2:∀ r∈rows,r.length≤100) (hl1:l.length≤1000000) (hff:∃ a n c,vf=.slice a n c) (hv:Pr.RowsM W vm rows) (hl:Ints W vl l) :
  Calls Tryz.prog 76 #[.agg #[.int .i64 K,.int .i64 S,vf,vm],vl] W fun e w'=>(∃ (v':Value) (zs:List Int),e=.returned v'∧w'.ownsRow W.heap.size 3 1 v' zs.length (zs.map (Value.int .i64))∧zs.length≤rows.length)∧Flow.Grow W w':=by
 have HV:=Lib.hid hv;have HLL:=Lib.hid hl;have HR2:=Lib.hid hr2;obtain ⟨af,nf,cf,rfl⟩:=hff;obtain ⟨am,cm,rfl⟩:=hv.val;obtain ⟨al,cl,rfl,_⟩:=id hl;clear hv hr2 hl;obtain ⟨n,hn⟩:∃ n,n=rows.length:=⟨_,rfl⟩;obtain ⟨p,hp⟩:∃ p,p=l.length:=⟨_,rfl⟩;have Hn:=Lib.hid hn;have Hp:=Lib.hid hp;rw [← hn] at hr1 HV ⊢;rw [← hp] at hl1 HLL ⊢;clear hn hp;obtain ⟨i0,hi,hz0,hz1,hz2⟩:=info_parts Qbo;have HI:=Lib.hid (And.intro hi (And.intro hz0 (And.intro hz1 hz2)));clear hi hz0 hz1 hz2;have Hmake:=Lib.hid (Qtr n (by omega));go_enter Tryz.func76,Tryz.ntmps76;have HB0:Hid ((W.alloc (.cells #[.int .i64 K,.int .i64 S,.slice af nf cf,.slice am n cm] 99)).heap[W.heap.size]?=some (.cells #[.int .i64 K,.int .i64 S,.slice af nf cf,.slice am n cm] 99 (0,0))):=Lib.hid (heap_alloc_new _ _);have HG0:Hid (Flow.Grow W (W.alloc (.cells #[.int .i64 K,.int .i64 S,.slice af nf cf,.slice am n cm] 99))):=Lib.hid (Flow.grow_alloc _ _);go_upto_region 1 with fail;generalize W.alloc (.cells #[.int .i64 K,.int .i64 S,.slice af nf cf,.slice am n cm] 99)=w1 at *;obtain ⟨X,hX⟩:∃ X,X=W.heap.size:=⟨_,rfl⟩;rw [← hX] at HB0 ⊢;have HX:=Lib.hid hX;clear hX;have CX:Hid (∀ wq,Flow.Grow w1 wq→wq.cell? ⟨X,3,none⟩=some (.slice am n cm)):=Lib.hid (fun wq g=>(cell_of_row wq _ 3 _ _ _ ((g.block _ (Array.getElem?_eq_some_iff.1 HB0.out).1 (by simp)).trans HB0.out)).trans rfl);have q3:=CX.out w1 (Flow.grow_refl _);have hmake:=Hmake.out w1;go_upto_region 2 with fail;have HZ:Hid ((w1.alloc (.cells (Pr.boolCells (List.replicate n false)) 4)).heap[w1.heap.size]?=some (.cells (Pr.boolCells (List.replicate n false)) 4 (0,0))):=Lib.hid (heap_alloc_new _ _);have HG2:Hid (Flow.Grow w1 (w1.alloc (.cells (Pr.boolCells (List.replicate n false)) 4))):=Lib.hid (Flow.grow_alloc _ _);have HS2:Hid ((w1.alloc (.cells (Pr.boolCells (List.replicate n false)) 4)).heap.size=w1.heap.size+1):=Lib.hid (by simp);generalize w1.alloc (.cells (Pr.boolCells (List.replicate n false)) 4)=w2 at *;clear hmake q3;obtain ⟨Z,hZ⟩:∃ Z,Z=w1.heap.size:=⟨_,rfl⟩;rw [← hZ] at HZ HS2 ⊢;have HZe:=Lib.hid hZ;clear hZ;go_wp2_with fail;go_loopw [6,19] (fun va i wr=>∃ (j:Nat) (seen:List Bool) (todo:List Int),j≤p∧i=.int .i64 j∧Hid (wr.heap[Z]?=some (.cells (Pr.boolCells seen) 4 (0,0)))∧Hid (seen.length=n)∧Hid (todo.length+Pr.fal seen=n)∧Hid (∀ s∈todo,0≤s∧s < n)∧Hid (wr.ownsRow w2.heap.size 3 1 va todo.length (todo.map (Value.int .i64)))∧Hid (Flow.Grow w1 wr)) (fun _ i _=>p - (intOf i).toNat)
 case atStart=>exact ⟨0,_,[],by omega,rfl,HZ,Lib.hid (by simp),Lib.hid (by rw [Pr.fal_new];simp),Lib.hid (by simp),Lib.hid (World.ownsRow_nil _ _ _ _),HG2⟩
 case round =>
  clear HZ HG2;obtain ⟨j,seen,todo,hj,rfl,HZ,HSl,HFa,HTr,HO,HG⟩:=hrel
  rename World=>wr
  obtain ⟨va,hva⟩:∃ va,va=u6:=⟨_,rfl⟩;obtain ⟨oa,oc,hoa⟩:=Qah HO.out;subst hoa;clear hva;obtain ⟨t,ht⟩:∃ t,t=todo.length:=⟨_,rfl⟩;have Ht:=Lib.hid ht;have htn:t≤n:=by have:=HFa.out;omega
  rw [← ht] at HO ⊢;clear ht;by_cases hjp:j < p
  ·obtain ⟨lb,lo,rfl,q0⟩:=Qa8 (HLL.out.grow (HG0.out.trans HG.out)) (j:=j) (by rw [← Hp.out];exact hjp);generalize l.getD j 0=s at *;by_cases hs0:s≥0
   ·have d0:decide (s≥0)=true:=by simp;omega
    by_cases hsn:s < (n:Int)
    ·have d1:decide (s < (n:Int))=true:=by simp;omega
     obtain ⟨x,rfl⟩:∃ x:Nat,s=(x:Int):=⟨s.toNat,by omega⟩;have hxn:x < n:=by omega
     have hxs:x < seen.length:=by rw [HSl.out];exact hxn
     have qz:=(cell_of_row wr Z x _ _ _ HZ.out).trans (Pr.boolCells_get hxs);have fz:wr.frozen? ⟨Z,x,none⟩=false:=frozen_of_row wr _ _ _ _ HZ.out;cases hsx:seen.getD x false with
     | true =>
      rw [hsx] at qz;clear hsx;go_wp2_with fail;go_roundw
      case rel=>exact ⟨j+1,seen,todo,by omega,by go_num,HZ,HSl,HFa,HTr,by rw [← Ht.out];exact HO,HG⟩
      case measure=>simp [intOf];omega
     | false =>
      have Hfs:=Lib.hid (Pr.fal_set hxs hsx);have Hset:=Lib.hid (Pr.bools_set (q:=x) (z:=true) HZ.out);have Hgs:=Lib.hid (Qag HG.out (g:=Z) (by rw [HZe.out];exact Nat.le_refl _) x (.bool true));have Hos:=Lib.hid (ownsRow_setCell_below HO.out (a:=⟨Z,x,none⟩) (by show Z < w2.heap.size;rw [HS2.out];omega) (.bool true));rw [hsx] at qz;clear hsx hxs;go_upto_region 8 with fail;generalize wr.setCell ⟨Z,x,none⟩ (.bool true)=w3 at *;clear qz fz;go_wp2_with (at_builtin;refine Qbp w2.heap.size rfl _ _ 49 rfl 3 i0 (.int .i64 0) 8 Tryz.underlying49 HI.out.1 HI.out.2.1 HI.out.2.2.1 HI.out.2.2.2 rfl _ t (todo.map (Value.int .i64)) rfl (Qab Hos.out (Flow.grow_alloc _ _)) (by have h1:=(Array.getElem?_eq_some_iff.1 Hset.out).1;have h2:=HS2.out;simp;omega) _ (.int .i64 x) 3 rfl (heap_alloc_new _ _) rfl (by omega) (by decide) ?_;intro g c w' hO hk hat;have HO2:=Lib.hid hO;have HK2:=Lib.hid hk;clear hO hk hat);go_roundw
      case rel =>
       have hZ3:Z < w3.heap.size:=(Array.getElem?_eq_some_iff.1 Hset.out).1;refine ⟨j+1,seen.set x true,todo++[(x:Int)],by omega,by go_num,Lib.hid ?_,Lib.hid (by rw [List.length_set];exact HSl.out),Lib.hid (by rw [List.length_append];have h1:=Hfs.out;have h2:=HFa.out;simp only [List.length_singleton];omega),Lib.hid ?_,Lib.hid (by rw [List.length_append,← Ht.out,List.map_append];exact HO2.out),Lib.hid ?_⟩
       ·rw [HK2.out.block Z (by simp;omega) (fun e=>Qan Hos.out Hset.out (by decide) e.symm),Below.heap_alloc _ _ _ (by omega)];exact Hset.out
       ·intro s hs;rcases List.mem_append.1 hs with h | h
        ·exact HTr.out s h
        ·simp only [List.mem_singleton] at h;subst h;omega
       ·exact Qap (Hgs.out.trans (Flow.grow_alloc _ _)) HK2.out fun b e=>by
         have h1:=(Hos.out.lt b e).1;have h2:=HS2.out;have h3:=HZe.out;omega
      case measure=>simp [intOf];omega
    ·have d1:decide (s < (n:Int))=false:=by simp;omega
     go_wp2_with fail;go_roundw
     case rel=>exact ⟨j+1,seen,todo,by omega,by go_num,HZ,HSl,HFa,HTr,by rw [← Ht.out];exact HO,HG⟩
     case measure=>simp [intOf];omega
   ·have d0:decide (s≥0)=false:=by simp;omega
    go_wp2_with fail;go_roundw
    case rel=>exact ⟨j+1,seen,todo,by omega,by go_num,HZ,HSl,HFa,HTr,by rw [← Ht.out];exact HO,HG⟩
    case measure=>simp [intOf];omega
  ·obtain rfl:j=p:=by omega
   go_upto_region 11 with (go_at_call 31;refine (Qug (.slice oa t oc) todo wr w2.heap.size (by rw [← Ht.out];omega) (by rw [← Ht.out];exact HO.out)).mono ?_;rintro e w5 ⟨⟨vo,rfl,ho⟩,hg⟩;have HO5:=Lib.hid ho;have HG5:=Lib.hid hg;clear ho hg);have HT5:Hid (Pr.Two w5 w2.heap.size (.slice oa t oc) vo todo todo):=Lib.hid (by
    refine ⟨Qab (by rw [← Ht.out];exact HO.out) HG5.out,Pr.own_mono HO5.out (by have h1:=(Array.getElem?_eq_some_iff.1 HZ.out).1;have h2:=HS2.out;omega),?_⟩;cases e:(Value.slice oa t oc).ownBlock with
    | none=>exact .inl rfl
    | some b =>
     right;intro e2;have h1:=(HO.out.lt b e).2;have h2:=(HO5.out.lt b e2.symm).1;omega)
   have HZ5:Hid (w5.heap[Z]?=some (.cells (Pr.boolCells seen) 4 (0,0))):=Lib.hid ((HG5.out.block Z (Array.getElem?_eq_some_iff.1 HZ.out).1 (by simp)).trans HZ.out);have HGa:=Lib.hid (HG.out.trans HG5.out);have HQ5:Hid (todo.length+Pr.fal seen≤n):=Lib.hid (by have:=HFa.out;omega);clear HO HO5 HG HG5 HZ hjp hj;go_loopw [6,9] (fun vt vo wr=>∃ (seen:List Bool) (todo out:List Int),Hid (wr.heap[Z]?=some (.cells (Pr.boolCells seen) 4 (0,0)))∧Hid (seen.length=n)∧Hid (todo.length+Pr.fal seen≤n)∧Hid (out.length+Pr.fal seen≤n)∧Hid (∀ s∈todo,0≤s∧s < n)∧Hid (Pr.Two wr w2.heap.size vt vo todo out)∧Hid (Flow.Grow w1 wr)) (fun vt _ w=>Pr.lenV vt+Pr.falW w Z)
   case atStart=>exact ⟨seen,todo,todo,HZ5,HSl,HQ5,HQ5,HTr,HT5,HGa⟩
   case round =>
    clear HZ5 HT5 HGa HQ5 HSl HTr HFa Ht htn;obtain ⟨seen,todo,out,HZ,HSl,HFa,HFo,HTr,HTw,HG⟩:=hrel
    rename World=>wo
    obtain ⟨vt,hvt⟩:∃ vt,vt=u6:=⟨_,rfl⟩;obtain ⟨oa,oc,hoa⟩:=Qah HTw.out.ot;subst hoa;clear hvt;obtain ⟨ob,oc2,hob⟩:=Qah HTw.out.oo;subst hob;obtain ⟨t,ht⟩:∃ t,t=todo.length:=⟨_,rfl⟩;have Ht:=Lib.hid ht;rw [← ht] at HTw ⊢;have htn:t≤n:=by have:=HFa.out;omega
    clear ht;obtain ⟨r,hr⟩:∃ r,r=out.length:=⟨_,rfl⟩;have Hr:=Lib.hid hr;rw [← hr] at HTw ⊢;have hrn:r≤n:=by have:=HFo.out;omega
    clear hr;cases t with
    | zero =>
     go_wp2_with (go_at_call 96;refine (Qlu (.slice ob r oc2) out w2.heap.size wo (by rw [← Hr.out];omega) (by rw [Hr.out];have:=HTw.out.oo;rw [Hr.out] at this;exact this)).mono ?_;rintro e w7 ⟨rfl,hs,hk⟩;have HS7:=Lib.hid hs;have HK7:=Lib.hid hk;clear hs hk);go_ret;refine ⟨⟨_,out.mergeSort fun x y=>decide (x≤y),rfl,?_,?_⟩,?_⟩
     ·rw [List.length_mergeSort];have h1:=Pr.own_mono HS7.out (B':=W.heap.size) (by have h1:=HS2.out;have h2:=HZe.out;have h3:=HG0.out.size;omega);rw [← Hr.out] at h1 ⊢;exact h1
     ·rw [List.length_mergeSort,← Hr.out];exact hrn
     ·exact HG0.out.trans (Qap HG.out HK7.out fun b e=>by
       have h1:=(HTw.out.oo.lt b e).1;have h2:=HS2.out;have h3:=HZe.out;omega)
    | succ u =>
     obtain ⟨g,hg⟩:∃ g,oa=some ⟨g,0,none⟩:=by
      rcases HTw.out.ot.2 with ⟨h1,h2⟩ | ⟨g,cap,cur,h1,_⟩
      ·injection h1 with _ h1 _;omega
      ·injection h1 with h1;exact ⟨g,h1⟩
     subst hg;have hlast:wo.cell? ⟨g,u,none⟩=some (.int .i64 (todo.getD u 0)):=by
      have h1:=HTw.out.ot;rw [← Ht.out] at h1;rw [h1.cellAt u (by omega)];have h2:u < todo.length:=by rw [← Ht.out];omega
      simp [h2]
     have hlr:=HTr.out (todo.getD u 0) (Qa5 (by rw [← Ht.out];omega));generalize todo.getD u 0=s at *;obtain ⟨x,rfl⟩:∃ x:Nat,s=(x:Int):=⟨s.toNat,by omega⟩;have hxn:x < n:=by omega
     have hxr:x < rows.length:=by rw [← Hn.out];exact hxn
     obtain ⟨mb,mo,ra,rc,rfl,q1,q2⟩:=HV.out.at (j:=x) hxr;replace q1:=Xm2.cell_grow (HG0.out.trans HG.out) q1;have hm:=HR2.out _ (Qa5 (d:=[]) hxr);clear hxr;generalize rows.getD x []=row at *;obtain ⟨m,hmr⟩:∃ m,m=row.length:=⟨_,rfl⟩;have Hm:=Lib.hid hmr;rw [← hmr] at hm q1 q2;have Q2:=Lib.hid q2;clear hmr q2;have q3:=CX.out wo HG.out;have huo:u≤oc:=by
      rcases HTw.out.ot.2 with ⟨h1,_⟩ | ⟨g,cap,cur,h1,_,_,h2,_⟩
      ·cases h1
      ·injection h1 with _ _ h1;have:=Ht.out;omega
     have HTp:=Lib.hid (HTw.out.pop Ht.out.symm);have HTr':Hid (∀ s∈todo.take u,0≤s∧s < n):=Lib.hid (fun s hs=>HTr.out s (List.mem_of_mem_take hs));have HLu:Hid ((todo.take u).length=u):=Lib.hid (by rw [List.length_take];have:=Ht.out;omega);go_wp2_with fail;clear q1 q3 hlast huo;go_loopw [6,9,68] (fun vt vo i wi=>∃ (c:Nat) (s2:List Bool) (t2 o2:List Int),c≤m∧i=.int .i64 c∧Hid (wi.heap[Z]?=some (.cells (Pr.boolCells s2) 4 (0,0)))∧Hid (s2.length=n)∧Hid (t2.length+Pr.fal s2=u+Pr.fal seen)∧Hid (o2.length+Pr.fal s2≤n)∧Hid (∀ s∈t2,0≤s∧s < n)∧Hid (Pr.Two wi w2.heap.size vt vo t2 o2)∧Hid (Flow.Grow w1 wi)) (fun _ _ i _=>m - (intOf i).toNat)
     case atStart=>exact ⟨0,seen,_,out,by omega,rfl,HZ,HSl,Lib.hid (by rw [HLu.out]),HFo,HTr',HTp,HG⟩
     case round =>
      have HZo:=HZ;clear HZ HSl HFo HTr HTr' HTp HG Hr hrn HLu;obtain ⟨c,s2,t2,o2,hc,rfl,HZ,HSl,HF2,HFo,HTr,HTp,HG⟩:=hrel
      rename World=>wi
      obtain ⟨vt2,hvt2⟩:∃ v,v=u6:=⟨_,rfl⟩;obtain ⟨pa,pc,hpa⟩:=Qah HTp.out.ot;subst hpa;obtain ⟨vo2,hvo2⟩:∃ v,v=u9:=⟨_,rfl⟩;obtain ⟨pb,pd,hpb⟩:=Qah HTp.out.oo;subst hpb;clear hvt2 hvo2;by_cases hcm:c < m
      ·obtain ⟨e,eo,rfl,y0,y1⟩:=(Q2.out.grow (HG0.out.trans HG.out)).at (j:=c) (by rw [← Hm.out];exact hcm);generalize row.getD c (0,0)=mv at *;obtain ⟨x0,x1⟩:=mv;simp only at y0 y1;have HNo:Hid (∃ (s3:List Bool) (t3 o3:List Int),Hid ((wi.alloc (.cells #[.int .i64 x0,.int .i64 x1] 131)).heap[Z]?=some (.cells (Pr.boolCells s3) 4 (0,0)))∧Hid (s3.length=n)∧Hid (t3.length+Pr.fal s3=u+Pr.fal seen)∧Hid (o3.length+Pr.fal s3≤n)∧Hid (∀ s∈t3,0≤s∧s < n)∧Hid (Pr.Two (wi.alloc (.cells #[.int .i64 x0,.int .i64 x1] 131)) w2.heap.size (.slice pa t2.length pc) (.slice pb o2.length pd) t3 o3)∧Hid (Flow.Grow w1 (wi.alloc (.cells #[.int .i64 x0,.int .i64 x1] 131)))):=Lib.hid
        ⟨s2,t2,o2,Lib.hid (((Flow.grow_alloc wi _).block Z (Array.getElem?_eq_some_iff.1 HZ.out).1 (by simp)).trans HZ.out),HSl,HF2,HFo,HTr,Lib.hid (HTp.out.grow (Flow.grow_alloc _ _)),Lib.hid (HG.out.trans (Flow.grow_alloc _ _))⟩
       by_cases h0:x0=-1
       ·subst h0;by_cases h1:x1≥0
        ·have d1:decide (x1≥0)=true:=by simp;omega
         by_cases h2:x1 < (n:Int)
         ·have d2:decide (x1 < (n:Int))=true:=by simp;omega
          obtain ⟨y,rfl⟩:∃ y:Nat,x1=(y:Int):=⟨x1.toNat,by omega⟩;have hyn:y < n:=by omega
          have hys:y < s2.length:=by rw [HSl.out];exact hyn
          have hZ':=((Flow.grow_alloc wi (.cells #[.int .i64 (-1),.int .i64 y] 131)).block Z (Array.getElem?_eq_some_iff.1 HZ.out).1 (by simp)).trans HZ.out;have HZ':=Lib.hid hZ';have qz:=(cell_of_row _ Z y _ _ _ hZ').trans (Pr.boolCells_get hys);have fz:=frozen_of_row _ Z y _ _ hZ';clear hZ';cases hsy:s2.getD y false with
          | true =>
           rw [hsy] at qz;clear hsy;go_wp2_with fail;go_roundw
           case rel=>obtain ⟨s3,t3,o3,h⟩:=HNo.out;exact ⟨c+1,s3,t3,o3,by omega,by go_num,h⟩
           case measure=>simp [intOf];omega
          | false =>
           have Hfs:=Lib.hid (Pr.fal_set hys hsy);have Hset:=Lib.hid (Pr.bools_set (q:=y) (z:=true) HZ'.out);have Hgs:=Lib.hid (Qag (HG.out.trans (Flow.grow_alloc wi (.cells #[.int .i64 (-1),.int .i64 y] 131))) (g:=Z) (by rw [HZe.out];exact Nat.le_refl _) y (.bool true));have Hts:=Lib.hid ((HTp.out.grow (Flow.grow_alloc wi (.cells #[.int .i64 (-1),.int .i64 y] 131))).setZ (Z:=Z) (q:=y) (by rw [HS2.out];omega) (.bool true));rw [hsy] at qz;clear hsy hys HNo;go_upto_region 19 with fail;clear qz fz y0 y1;have hZw:Z < wi.heap.size:=(Array.getElem?_eq_some_iff.1 HZ.out).1;have HSt:Hid (Pr.TwoSt w1 w2.heap.size wi.heap.size Z #[.int .i64 (-1),.int .i64 y] (Pr.boolCells (s2.set y true)) ((wi.alloc (.cells #[.int .i64 (-1),.int .i64 y] 131)).setCell ⟨Z,y,none⟩ (.bool true)) (.slice pa t2.length pc) (.slice pb o2.length pd) t2 o2):=Lib.hid
            ⟨Hts.out,(Below.heap_setCell _ _ _ _ (by show wi.heap.size≠Z;omega)).trans (heap_alloc_new _ _),Hset.out,Hgs.out,by have:=HS2.out;simp [World.setCell];omega,by have h1:=HS2.out;have h2:=HZe.out;omega⟩
           generalize (wi.alloc (.cells #[.int .i64 (-1),.int .i64 y] 131)).setCell ⟨Z,y,none⟩ (.bool true)=w3 at *;obtain ⟨Y,hY⟩:∃ Y,Y=wi.heap.size:=⟨_,rfl⟩;rw [← hY] at HSt ⊢;have ht2:t2.length≤1000:=by have h1:=HF2.out;have h2:=HFa.out;have h3:=Ht.out;omega
           have ho2:o2.length≤1000:=by have h1:=HFo.out;omega
           clear hY hZw Hts Hset Hgs HZ' HZ HTp;have HNT:Hid (∀ i,w3.heap.size≤i→some i≠(Value.slice pa t2.length pc).ownBlock):=Lib.hid (fun i hi e=>by have:=(HSt.out.two.ot.lt i e.symm).2;omega);have HNO:Hid (∀ i,w3.heap.size≤i→some i≠(Value.slice pb o2.length pd).ownBlock):=Lib.hid (fun i hi e=>by have:=(HSt.out.two.oo.lt i e.symm).2;omega);go_region_held3 (fun w'=>w'.cell? ⟨Y,1,none⟩=some (.int .i64 (y:Int)))
            (first
              | (with_reducible exact Pr.TwoSt.cell1 HSt.out)
              | (with_reducible exact Pr.TwoSt.cell1 (Pr.TwoSt.grow HSt.out (Flow.grow_drew _)))
              | (with_reducible exact Pr.TwoSt.cell1 (Pr.TwoSt.grow HSt.out (Flow.Grow.trans (Flow.grow_drew _) (Flow.grow_alloc _ _))))
              | (with_reducible exact Pr.TwoSt.cell1 (Pr.TwoSt.grow HSt.out (Flow.Grow.trans (Flow.Grow.trans (Flow.grow_drew _) (Flow.grow_alloc _ _)) (Flow.grow_alloc _ _))))
              | (with_reducible exact Pr.TwoSt.cell1 HF.out)
              | (with_reducible exact Pr.TwoSt.cell1 HT1.out)
              | (with_reducible exact Pr.TwoSt.cell1 (Pr.TwoSt.grow HT1.out (Flow.grow_alloc _ _)))
              | (with_reducible exact Pr.TwoSt.cell1 HO1.out)
              | (with_reducible exact Pr.TwoSt.cell1 (Pr.TwoSt.grow HO1.out (Flow.grow_alloc _ _))))
            (first
              | (rw [if_pos (by rfl)];refine Pr.wp_appT _ _ rfl (y:Int) (by first | (with_reducible exact Pr.TwoSt.grow HSt.out (Flow.Grow.trans (Flow.grow_drew _) (Flow.grow_alloc _ _))) | (with_reducible exact Pr.TwoSt.grow HSt.out (Flow.Grow.trans (Flow.Grow.trans (Flow.grow_drew _) (Flow.grow_alloc _ _)) (Flow.grow_alloc _ _)))) ht2 rfl _ rfl (by first | exact heap_alloc_new _ _ | exact Qbl _ _ _ | exact Qef _ _ _) ?_;intro gt ct w8 hst hkp;have HT1:=Lib.hid hst;have HK1:=Lib.hid hkp;clear hst hkp)
              | (rw [if_pos (by rfl)];refine Pr.wp_appO _ _ rfl (y:Int) (by first | (with_reducible exact Pr.TwoSt.grow HSt.out (Flow.Grow.trans (Flow.grow_drew _) (Flow.grow_alloc _ _))) | (with_reducible exact Pr.TwoSt.grow HSt.out (Flow.Grow.trans (Flow.Grow.trans (Flow.grow_drew _) (Flow.grow_alloc _ _)) (Flow.grow_alloc _ _)))) ho2 rfl _ rfl (by first | exact heap_alloc_new _ _ | exact Qbl _ _ _ | exact Qef _ _ _) ?_;intro go' co w8 hst hkp;have HO1:=Lib.hid hst;have HK1:=Lib.hid hkp;clear hst hkp)
              | (rw [if_pos (by rfl)];refine Pr.wp_appT _ _ rfl (y:Int) (by first | (with_reducible exact Pr.TwoSt.grow HO1.out (Flow.grow_alloc _ _)) | exact HO1.out) ht2 rfl _ rfl (by first | exact heap_alloc_new _ _ | exact (HK1.out _ (by simp <;> omega) (HNO.out _ (by simp <;> omega))).trans (Qbl _ _ _) | exact (HK1.out _ (by simp <;> omega) (HNO.out _ (by simp <;> omega))).trans (Qef _ _ _)) ?_;intro gt ct w9 hst hkp;have HF:=Lib.hid hst;clear hst hkp)
              | (rw [if_pos (by rfl)];refine Pr.wp_appO _ _ rfl (y:Int) (by first | (with_reducible exact Pr.TwoSt.grow HT1.out (Flow.grow_alloc _ _)) | exact HT1.out) ho2 rfl _ rfl (by first | exact heap_alloc_new _ _ | exact (HK1.out _ (by simp <;> omega) (HNT.out _ (by simp <;> omega))).trans (Qbl _ _ _) | exact (HK1.out _ (by simp <;> omega) (HNT.out _ (by simp <;> omega))).trans (Qef _ _ _)) ?_;intro go' co w9 hst hkp;have HF:=Lib.hid hst;clear hst hkp))
           all_goals
            clear HK1;go_wp2_with fail;go_roundw
            case rel =>
             refine ⟨c+1,s2.set y true,t2++[(y:Int)],o2++[(y:Int)],by omega,by go_num,Lib.hid HF.out.z,Lib.hid (by rw [List.length_set];exact HSl.out),Lib.hid ?_,Lib.hid ?_,Lib.hid ?_,Lib.hid HF.out.two,Lib.hid HF.out.g⟩
             ·rw [List.length_append,List.length_singleton];have h5:=Hfs.out;have h6:=HF2.out;omega
             ·rw [List.length_append,List.length_singleton];have h5:=Hfs.out;have h6:=HFo.out;omega
             ·intro s hs;rcases List.mem_append.1 hs with h | h
              ·exact HTr.out s h
              ·simp only [List.mem_singleton] at h;subst h;omega
            case measure=>simp [intOf];omega
         ·have d2:decide (x1 < (n:Int))=false:=by simp;omega
          go_wp2_with fail;go_roundw
          case rel=>obtain ⟨s3,t3,o3,h⟩:=HNo.out;exact ⟨c+1,s3,t3,o3,by omega,by go_num,h⟩
          case measure=>simp [intOf];omega
        ·have d1:decide (x1≥0)=false:=by simp;omega
         go_wp2_with fail;go_roundw
         case rel=>obtain ⟨s3,t3,o3,h⟩:=HNo.out;exact ⟨c+1,s3,t3,o3,by omega,by go_num,h⟩
         case measure=>simp [intOf];omega
       ·have d0:(x0 == -1)=false:=by simp [h0]
        go_wp2_with fail;go_roundw
        case rel=>obtain ⟨s3,t3,o3,h⟩:=HNo.out;exact ⟨c+1,s3,t3,o3,by omega,by go_num,h⟩
        case measure=>simp [intOf];omega
      ·obtain rfl:c=m:=by omega
       go_wp2_with fail;go_roundw
       case rel=>exact ⟨s2,t2,o2,HZ,HSl,Lib.hid (by have h1:=HF2.out;have h2:=HFa.out;have h3:=Ht.out;omega),HFo,HTr,HTp,HG⟩
       case measure =>
        rw [Pr.falW_eq HZ.out,Pr.falW_eq HZo.out];have:=HF2.out;simp only [Pr.lenV];omega
end Go.Proofs.YtcpodmjcgfgmnaaGreat
