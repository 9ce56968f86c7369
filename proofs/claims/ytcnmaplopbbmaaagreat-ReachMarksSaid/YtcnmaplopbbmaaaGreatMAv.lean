/- slices.SortFunc of interactions by the shelf's law. -/
import Derived.Test.YtcnmaplopbbmaaaGreatGComp2
import Derived.Shelf.SlSortCmp.WholeK
import Derived.Shelf.Lay
import Derived.Ground.SlsfProg
import Derived.Shelf.SlSortCmp.NoneTotal
namespace Go.Proofs
open Go.Shelf Go.RowKit Go.Lib Go.Sort
shelf_lay_g SlLaysF0.n6 Slsf 6 at Tryz 47 as Tryz.sortLab
end Go.Proofs
namespace Go.Proofs.YtcnmaplopbbmaaaGreat
open Go.Shelf Go.RowKit Go.Lib Go.Sort
theorem ltOf_lab (a b:Gr.Lb):ltOf Gr.cmpL a b=true↔Gr.ltL a b:=by
 unfold ltOf
 simp [Gr.cmpL_neg]
theorem swo_lab:SWO (ltOf Gr.cmpL) where
 irrefl x:=by
  cases h:ltOf Gr.cmpL x x with
  | false=>rfl
  | true=>exact absurd rfl (Gr.ltL_ne ((ltOf_lab _ _).1 h))
 trans x y z h1 h2:=(ltOf_lab _ _).2 (Gr.ltL_trans ((ltOf_lab _ _).1 h1) ((ltOf_lab _ _).1 h2))
 ntrans x y z h1 h2:=by
  have k1:¬ Gr.ltL x y:=fun h=>by rw [(ltOf_lab _ _).2 h] at h1;cases h1
  have k2:¬ Gr.ltL y z:=fun h=>by rw [(ltOf_lab _ _).2 h] at h2;cases h2
  cases h:ltOf Gr.cmpL x z with
  | false=>rfl
  | true =>
   exfalso
   have k3:=(ltOf_lab _ _).1 h
   unfold Gr.ltL at *
   omega
end Go.Proofs.YtcnmaplopbbmaaaGreat
namespace Go.Proofs.YtcnmaplopbbmaaaGreat
open Go.Shelf Go.RowKit Go.Lib Go.Sort
def Gr.Sorted (f:Nat→Gr.Lb) (n:Nat):Prop:=∀ i j,i < j→j < n→¬ Gr.ltL (f j) (f i)
def Gr.SameM (f f':Nat→Gr.Lb) (n:Nat):Prop:=∀ x,(∃ j,j < n∧f' j=x)↔∃ j,j < n∧f j=x
theorem mem_d (d:Array Gr.Lb) (x:Gr.Lb):x∈d.toList↔∃ j,j < d.size∧d[j]! = x:=by
 rw [List.mem_iff_getElem]
 constructor
 ·rintro ⟨j,hj,rfl⟩
  have hj':j < d.size:=by simpa using hj
  exact ⟨j,hj',by rw [getElem!_pos d j hj',Array.getElem_toList]⟩
 ·rintro ⟨j,hj,rfl⟩
  exact ⟨j,by simpa using hj,by rw [getElem!_pos d j hj,Array.getElem_toList]⟩
theorem sort_any (g n c:Nat) (f:Nat→Gr.Lb) (w:World) (hn:n≤4000000) (h:Gr.LRow w g n f) :
  Calls Tryz.prog 47 #[.slice (some ⟨g,0,none⟩) n c,.func (.func 48) #[] #[]] w fun e w'=>e=.returned (.tuple #[])∧w.grownBy w' (some g) ∧
   ∃ f',Gr.LRow w' g n f'∧Gr.Sorted f' n∧Gr.SameM f f' n:=by
 obtain ⟨cur,hg,hs,hc⟩:=id h.row
 have hlt:g < w.heap.size:=(Array.getElem?_eq_some_iff.1 hg).1
 obtain ⟨d,hd⟩:∃ d:Array Gr.Lb,d=Array.ofFn (n:=n) fun j=>f j.1:=⟨_,rfl⟩
 have hsz:d.size=n:=by rw [hd];simp
 have hdf:∀ j,j < n→d[j]! = f j:=fun j hj=>by rw [getElem!_pos d j (by omega)];simp [hd]
 have hH:HoldsK Gr.lcells 3 w g 0 d:=by
  intro t ht
  rw [size_flatK,hsz] at ht
  refine ⟨?_,?_⟩
  ·rw [get_flatK _ _ _ _ (by rw [hsz];exact ht),Nat.zero_add,cell_of_row w g _ _ _ _ hg,hdf _ (by omega)]
   obtain ⟨a,b,c⟩:=hc (t / 3) (by omega)
   rcases (show t % 3=0∨t % 3=1∨t % 3=2 by omega) with e | e | e
   ·rw [show cur[t]? = cur[t / 3 * 3]? by rw [show t / 3 * 3=t by omega],a,e];rfl
   ·rw [show cur[t]? = cur[t / 3 * 3+1]? by rw [show t / 3 * 3+1=t by omega],b,e];rfl
   ·rw [show cur[t]? = cur[t / 3 * 3+2]? by rw [show t / 3 * 3+2=t by omega],c,e];rfl
  ·exact frozen_of_row w g _ _ _ hg
 have eg:∀ args w,(callFunc 48 args).run Tryz.prog w=.ok (.enter 48 args) w:=enters_of Tryz.func48 (by kernel_rfl) rfl
 have hcl:CmpLays Tryz.prog 48 #[] Gr.lcells 3 Gr.cmpL g 0 d.size w:=fun _ _ _ _ x y=>(compareD x y _).mono fun e w' ⟨he,hgd⟩=>⟨he,hgd.form⟩
 have hcon:=AnyQ.slices_SortFunc Tryz.sortLab 3 Tryz.isAgg104 Tryz.sizeOf104 Gr.lcells Gr.lcells_len (fun x v hv=>by simp [Gr.lcells] at hv;rcases hv with rfl | rfl | rfl <;> rfl) Gr.cmpL swo_lab 48 #[] g 0 c d w eg hcl hH hlt (by omega)
 rw [hsz] at hcon
 refine hcon.mono ?_
 rintro e w' ⟨rfl,d',q,os,hp,hso,rfl⟩
 obtain ⟨hp1,_,hp3⟩:=hp
 have hsz':d'.size=n:=by rw [hp1,hsz]
 have hH':HoldsK Gr.lcells 3 (sortWorldK Gr.lcells 3 w g 0 q d' os) g 0 d':=holdsK_sortWorldK_c Gr.lcells 3 w g 0 d d' q os hH hlt (by omega)
 have hheap:(sortWorldK Gr.lcells 3 w g 0 q d' os).heap=(w.heap.modify g (onCells (putCells id 0 (flatK Gr.lcells 3 d'))))++os:=rfl
 have hb:(sortWorldK Gr.lcells 3 w g 0 q d' os).heap[g]? = some (.cells (putCells id 0 (flatK Gr.lcells 3 d') cur) 104 (0,0)):=by
  rw [hheap,Array.getElem?_append_left (by simpa using hlt)]
  simp [Array.getElem?_modify,hg,onCells]
 refine ⟨rfl,⟨rfl,rfl,rfl,by rw [hheap];simp,fun k hk hne=>?_⟩,fun j=>d'[j]!,⟨_,hb,by simp [putCells];omega,fun j hj=>?_⟩,fun i j hij hj=>?_,fun x=>?_⟩
 ·rw [hheap,Array.getElem?_append_left (by simpa using hk),Array.getElem?_modify]
  rw [if_neg (fun e=>hne (by rw [e]))]
 ·have hcell:∀ t,t < n * 3→(putCells id 0 (flatK Gr.lcells 3 d') cur)[t]? = some ((Gr.lcells d'[t / 3]!)[t % 3]!):=fun t ht=>by
   have:=(hH' t (by rw [size_flatK,hsz'];exact ht)).1
   rw [get_flatK _ _ _ _ (by rw [hsz'];exact ht),Nat.zero_add,cell_of_row _ g _ _ _ _ hb] at this
   exact this
  have e0:=hcell (j * 3) (by omega)
  have e1:=hcell (j * 3+1) (by omega)
  have e2:=hcell (j * 3+2) (by omega)
  rw [show j * 3 / 3=j by omega,show j * 3 % 3=0 by omega] at e0
  rw [show (j * 3+1) / 3=j by omega,show (j * 3+1) % 3=1 by omega] at e1
  rw [show (j * 3+2) / 3=j by omega,show (j * 3+2) % 3=2 by omega] at e2
  exact ⟨e0,e1,e2⟩
 ·have k:=hso i j (Nat.zero_le _) hij hj
  intro hl
  have:=(ltOf_lab _ _).2 hl
  rw [k] at this
  cases this
 ·have hext:∀ a:Array Gr.Lb,a.size=n→(a.extract 0 n).toList=a.toList:=fun a ha=>by
   rw [← ha,Array.extract_size]
  rw [hext d' hsz',hext d hsz] at hp3
  have hm:x∈d'.toList↔x∈d.toList:=hp3.mem_iff
  rw [mem_d,mem_d,hsz',hsz] at hm
  rw [hm]
  exact ⟨fun ⟨j,hj,e⟩=>⟨j,hj,by rw [← hdf j hj];exact e⟩,fun ⟨j,hj,e⟩=>⟨j,hj,by rw [hdf j hj];exact e⟩⟩
theorem sort_nil (fv:Value) (w:World):Calls Tryz.prog 47 #[.slice none 0 0,fv] w fun e w'=>e=.returned (.tuple #[])∧w'=w :=
 AnyF.slices_SortFunc_none Tryz.sortLab none 0 fv w
set_option maxRecDepth 100000 in
theorem compact_nil (w:World):Calls Tryz.prog 49 #[.slice none 0 0] w fun e w'=>e=.returned (.slice none 0 0)∧w'=w:=by
 go_enter Tryz.func49,Tryz.ntmps49
 go_wp2_with fail
 go_ret
 exact ⟨rfl,rfl⟩
end Go.Proofs.YtcnmaplopbbmaaaGreat
namespace Go.Proofs.YtcnmaplopbbmaaaGreat
open Go.RowKit
namespace Gr
theorem cmpK_mem (f:Nat→Lb) (x:Lb):∀ n,x∈cmpK f n↔∃ j,j < n∧f j=x
 | 0=>by simp [cmpK]
 | n+1=>by
  by_cases h0:n=0
  ·subst h0
   simp only [cmpK,List.mem_singleton]
   exact ⟨fun e=>⟨0,by omega,e.symm⟩,fun ⟨j,hj,e⟩=>by obtain rfl:j=0:=(by omega);exact e.symm⟩
  ·rw [cmpK_step f n (by omega),List.mem_append,cmpK_mem f x n]
   constructor
   ·rintro (⟨j,hj,e⟩ | h)
    ·exact ⟨j,by omega,e⟩
    ·split at h
     ·simp at h
     ·simp at h
      exact ⟨n,by omega,h.symm⟩
   ·rintro ⟨j,hj,e⟩
    by_cases ej:j=n
    ·subst ej
     by_cases hq:f j=f (j - 1)
     ·exact .inl ⟨j - 1,by omega,by rw [← hq];exact e⟩
     ·rw [if_neg hq]
      exact .inr (by simp [e])
    ·exact .inl ⟨j,by omega,e⟩
theorem ltL_tri (a b:Lb) (h:¬ ltL b a) (hn:a≠b):ltL a b:=by
 rcases cmpL_cases a b with ⟨k,_⟩ | ⟨k,_⟩ | ⟨k,_⟩
 ·exact k
 ·exact absurd k hn
 ·exact absurd k h
theorem cmpK_srt {f:Nat→Lb} {n:Nat} (hs:Sorted f n):∀ i,i≤n→Srt (cmpK f i)∧∀ x,x∈cmpK f i→x=f (i - 1)∨ltL x (f (i - 1))
 | 0,_=>⟨fun i j _ hj=>by simp [cmpK] at hj,fun x hx=>by simp [cmpK] at hx⟩
 | i+1,hi=>by
  by_cases h0:i=0
  ·subst h0
   refine ⟨fun a b h1 h2=>by simp [cmpK] at h2;omega,fun x hx=>?_⟩
   simp [cmpK] at hx
   exact .inl hx
  ·obtain ⟨ih1,ih2⟩:=cmpK_srt hs i (by omega)
   rw [cmpK_step f i (by omega),Nat.add_sub_cancel]
   by_cases hq:f i=f (i - 1)
   ·rw [if_pos hq,List.append_nil,hq]
    exact ⟨ih1,ih2⟩
   ·rw [if_neg hq]
    have hlt:ltL (f (i - 1)) (f i):=ltL_tri _ _ (hs (i - 1) i (by omega) (by omega)) (fun e=>hq e.symm)
    have hall:∀ x,x∈cmpK f i→ltL x (f i):=fun x hx=>(ih2 x hx).elim (fun e=>by rw [e];exact hlt) (fun k=>ltL_trans k hlt)
    refine ⟨fun a b h1 h2=>?_,fun x hx=>?_⟩
    ·rw [List.length_append,List.length_singleton] at h2
     by_cases hb:b < (cmpK f i).length
     ·have:=ih1 a b h1 hb
      rw [List.getD_eq_getElem?_getD,List.getD_eq_getElem?_getD] at this ⊢
      rwa [List.getElem?_append_left hb,List.getElem?_append_left (by omega)]
     ·obtain rfl:b=(cmpK f i).length:=by omega
      rw [List.getD_eq_getElem?_getD,List.getD_eq_getElem?_getD,List.getElem?_append_right (Nat.le_refl _),List.getElem?_append_left h1]
      simp only [Nat.sub_self,List.getElem?_cons_zero,Option.getD_some]
      rw [List.getElem?_eq_getElem h1]
      exact hall _ (List.getElem_mem h1)
    ·rw [List.mem_append,List.mem_singleton] at hx
     rcases hx with hx | hx
     ·exact .inr (hall x hx)
     ·exact .inl hx
end Gr
theorem idx_fn (w:World):(Instr.index 127 (.agg #[.func (.func 45) #[] #[],.func (.func 46) #[] #[]]) (.int .i64 0)).run Tryz.prog w=.ok (.func (.func 45) #[] #[]) w ∧
  (Instr.index 127 (.agg #[.func (.func 45) #[] #[],.func (.func 46) #[] #[]]) (.int .i64 1)).run Tryz.prog w=.ok (.func (.func 46) #[] #[]) w:=by
 constructor <;> simp [Instr.index,run_underlying Tryz.underlying127,part,Tryz.sizeOf126,Tryz.isAgg126,asIntOf]
theorem own_other {w w':World} {bs e e' sz n X:Nat} {v:Value} {xs:List Value} {cs:Array Value} (h:w.ownsRow bs e sz v n xs) (hX:w.heap[X]? = some (.cells cs e' (0,0))) (hne:e≠e') (k:w.grownBy w' v.ownBlock):w'.heap[X]? = some (.cells cs e' (0,0)):=by
 refine (k.block X (Array.getElem?_eq_some_iff.1 hX).1 ?_).trans hX
 rcases h.2 with ⟨rfl,_⟩ | ⟨g,cap,cur,rfl,_,hg,_⟩
 ·simp [Value.ownBlock]
 ·intro e1
  simp [Value.ownBlock] at e1
  subst e1
  rw [hX] at hg
  simp at hg
  exact hne hg.2.symm
set_option maxRecDepth 100000 in
set_option maxHeartbeats 4000000 in
theorem aof_any (v0 v1 v2 v3:Value) (g:Gr.G) (W:World) (hns:g.ns.length≤400000) (h:Gr.GAt W v0 v1 v2 v3 g) :
  Calls Tryz.prog 27 #[.agg #[v0,v1,v2,v3]] W fun e w'=>∃ L,(∃ v,e=.returned v∧Gr.LbsAt w' v L)∧L.length≤800000∧Gr.Srt L∧(∀ x,x∈L↔x∈g.gath g.ns.length)∧Flow.Grow W w':=by
 have HN:=Lib.hid h.nodes
 obtain ⟨an,cn,rfl⟩:=Gr.Recs.form h.nodes
 clear h
 obtain ⟨n,hn⟩:∃ n,n=g.ns.length:=⟨_,rfl⟩
 have Hn:=Lib.hid hn
 rw [← hn] at hns HN ⊢
 clear hn
 have HGl:=Lib.hid g.gath_len
 obtain ⟨i0,hi0,hz0,hz1,hz2⟩:=info_parts info_lab
 have HI:=Lib.hid (And.intro hi0 (And.intro hz0 (And.intro hz1 hz2)))
 clear hi0 hz0 hz1 hz2
 go_enter Tryz.func27,Tryz.ntmps27
 go_wp2_with fail
 go_loopw [3,13] (fun vo vi wr=>∃ j:Nat,j≤n∧vi=.int .i64 j∧Hid (wr.ownsRow W.heap.size 104 3 vo (g.gath j).length ((g.gath j).flatMap Gr.lcells))∧Hid (Flow.Grow W wr)) (fun _ vi _=>n - (intOf vi).toNat)
 case atStart=>exact ⟨0,by omega,rfl,Lib.hid (World.ownsRow_nil _ _ _ _),Lib.hid (Flow.grow_alloc _ _)⟩
 case round =>
  obtain ⟨j,hj,rfl,HO,HG⟩:=hrel
  rename World=>wr
  obtain ⟨va,hva⟩:∃ va,va=u3:=⟨_,rfl⟩
  obtain ⟨oa,oc,hoa⟩:=own_form HO.out
  subst hoa
  clear hva
  by_cases hjn:j < n
  ·obtain ⟨nb,no,rfl,m0,m1,m2,m3,m4,m5,m6⟩:=Gr.NdsAt.at HN.out (j:=j) (by rw [← Hn.out];exact hjn)
   have HS:=Lib.hid (g.gath_succ j (by rw [← Hn.out];exact hjn))
   have hgl:=HGl.out j
   have HF:=Lib.hid (labF (g.nd j))
   have HLl:=Lib.hid (Gr.labs_len (g.nd j))
   have HLs:=Lib.hid (Gr.labs_succ (g.nd j))
   have HL0:Hid (Gr.labs (g.nd j) 0=[]):=Lib.hid rfl
   replace m0:=Xm2.cell_grow HG.out m0
   replace m1:=Xm2.cell_grow HG.out m1
   replace m2:=Xm2.cell_grow HG.out m2
   replace m3:=Xm2.cell_grow HG.out m3
   replace m4:=Xm2.cell_grow HG.out m4
   replace m5:=Xm2.cell_grow HG.out m5
   replace m6:=Xm2.cell_grow HG.out m6
   generalize g.gath j=ts at *
   unfold Gr.G.nd at HF HLl HLs HS HL0
   generalize g.ns.getD j Gr.nd0=Y at *
   obtain ⟨y0,y1,y2,y3,y4,y5,y6⟩:=Y
   simp only at m0 m1 m2 m3 m4 m5 m6
   generalize Gr.labs ⟨y0,y1,y2,y3,y4,y5,y6⟩=lb at *
   simp only [Gr.Nd.cells] at HF
   generalize Gr.lab1 ⟨y0,y1,y2,y3,y4,y5,y6⟩=l1 at *
   go_upto_region 5 with fail
   have HBwb0:Hid ((wr.alloc (.cells #[.int .i64 y0,.string y1,.int .i64 y2,.int .i64 y3,.int .i64 y4,.int .i64 y5,.bool y6] 52)).heap[wr.heap.size]? = some (.cells #[.int .i64 y0,.string y1,.int .i64 y2,.int .i64 y3,.int .i64 y4,.int .i64 y5,.bool y6] 52 (0,0))):=Lib.hid (lay1_0 _ _)
   have HGwb:Hid (Flow.Grow wr (wr.alloc (.cells #[.int .i64 y0,.string y1,.int .i64 y2,.int .i64 y3,.int .i64 y4,.int .i64 y5,.bool y6] 52))):=Lib.hid (lay1_g _ _)
   have HSwb:Hid ((wr.alloc (.cells #[.int .i64 y0,.string y1,.int .i64 y2,.int .i64 y3,.int .i64 y4,.int .i64 y5,.bool y6] 52)).heap.size=wr.heap.size+1):=Lib.hid (by simp)
   generalize wr.alloc (.cells #[.int .i64 y0,.string y1,.int .i64 y2,.int .i64 y3,.int .i64 y4,.int .i64 y5,.bool y6] 52)=wb at *
   obtain ⟨X,hX⟩:∃ X,X=wr.heap.size:=⟨_,rfl⟩
   rw [← hX] at HBwb0 HSwb ⊢
   have HXwb:=Lib.hid hX
   clear hX
   have CXwb:Hid (∀ wq,Flow.Grow wb wq→wq.cell? ⟨X,0,none⟩=some (.int .i64 y0)∧wq.cell? ⟨X,1,none⟩=some (.string y1)∧wq.cell? ⟨X,2,none⟩=some (.int .i64 y2)∧wq.cell? ⟨X,3,none⟩=some (.int .i64 y3)∧wq.cell? ⟨X,4,none⟩=some (.int .i64 y4)∧wq.cell? ⟨X,5,none⟩=some (.int .i64 y5)∧wq.cell? ⟨X,6,none⟩=some (.bool y6)):=Lib.hid (fun wq g=>⟨lay_cell g HBwb0.out rfl,lay_cell g HBwb0.out rfl,lay_cell g HBwb0.out rfl,lay_cell g HBwb0.out rfl,lay_cell g HBwb0.out rfl,lay_cell g HBwb0.out rfl,lay_cell g HBwb0.out rfl⟩)
   have FXwb:Hid (∀ wq,Flow.Grow wb wq→(∀ k,wq.frozen? ⟨X,k,none⟩=false)):=Lib.hid (fun wq g=>fun k=>lay_frozen g HBwb0.out k)
   have HGb:Hid (Flow.Grow W wb):=Lib.hid (HG.out.trans HGwb.out)
   have HOb:=Lib.hid (own_keep HO.out HGwb.out)
   clear m0 m1 m2 m3 m4 m5 m6
   go_wp2_with fail
   go_loopw [3,18] (fun vo vi wq=>∃ q:Nat,q≤2∧vi=.int .i64 q∧Hid (wq.ownsRow W.heap.size 104 3 vo (ts++lb q).length ((ts++lb q).flatMap Gr.lcells))∧Hid (Flow.Grow W wq)∧Hid (wq.heap[X]? = some (.cells #[.int .i64 y0,.string y1,.int .i64 y2,.int .i64 y3,.int .i64 y4,.int .i64 y5,.bool y6] 52 (0,0)))) (fun _ vi _=>2 - (intOf vi).toNat)
   case atStart=>exact ⟨0,by omega,rfl,Lib.hid (by rw [HL0.out,List.append_nil];exact HOb.out),HGb,HBwb0⟩
   case round =>
    obtain ⟨q,hq,rfl,HQ,HGq,HXq⟩:=hrel
    rename World=>wq
    obtain ⟨va,hva⟩:∃ va,va=u3:=⟨_,rfl⟩
    obtain ⟨oa,oc,hoa⟩:=own_form HQ.out
    subst hoa
    clear hva
    have HLq:=Lib.hid (HLl.out q)
    have HSq:=Lib.hid (HLs.out q)
    by_cases hq2:q < 2
    ·have HTa:=Lib.hid (List.append_assoc ts (lb q) (l1 q))
     rw [← HSq.out] at HTa
     have hlen:(ts++lb q).length≤1000000:=by rw [List.length_append];have:=HLq.out;omega
     generalize ts++lb q=t2 at *
     have n00:=(cell_of_row wq X 0 _ _ _ HXq.out).trans rfl
     have n01:=(cell_of_row wq X 1 _ _ _ HXq.out).trans rfl
     have n02:=(cell_of_row wq X 2 _ _ _ HXq.out).trans rfl
     have n03:=(cell_of_row wq X 3 _ _ _ HXq.out).trans rfl
     have n04:=(cell_of_row wq X 4 _ _ _ HXq.out).trans rfl
     have n05:=(cell_of_row wq X 5 _ _ _ HXq.out).trans rfl
     have n06:=(cell_of_row wq X 6 _ _ _ HXq.out).trans rfl
     simp at n00 n01 n02 n03 n04 n05 n06
     rcases (show q=0∨q=1 by omega) with rfl | rfl
     ·obtain ⟨x,b,hxb,hcalls⟩:=HF.out 0 (by omega)
      have HC:Hid (∀ W,Calls Tryz.prog 45 #[.agg #[.int .i64 y0,.string y1,.int .i64 y2,.int .i64 y3,.int .i64 y4,.int .i64 y5,.bool y6]] W fun e w'=>e=.returned (.tuple #[.agg (Gr.lcells x).toArray,.bool b])∧Flow.Grow W w'):=Lib.hid (fun W=>by have k:=hcalls W;simpa using k)
      have HXb:=Lib.hid hxb
      clear hcalls hxb
      obtain ⟨x0,x1,x2⟩:=x
      simp only [Gr.lcells] at HC
      cases b with
      | false =>
       have HE:Hid (ts++lb (0+1)=t2):=Lib.hid (by rw [← HTa.out,HXb.out];simp)
       go_wp2_with (first | (rw [(idx_fn _).1]) | (go_at_call 45;refine (HC.out _).mono ?_;rintro e w3 ⟨rfl,hg⟩;have HG3:=Lib.hid hg;clear hg))
       go_roundw
       case rel=>exact ⟨0+1,by omega,by go_num,Lib.hid (by rw [HE.out];exact own_keep HQ.out (HG3.out.trans (Flow.grow_alloc _ _))),Lib.hid (HGq.out.trans (HG3.out.trans (Flow.grow_alloc _ _))),Lib.hid (heap_keep (HG3.out.trans (Flow.grow_alloc _ _)) HXq.out)⟩
       case measure=>simp [intOf]
      | true =>
       have HE:Hid (ts++lb (0+1)=t2++[(x0,x1,x2)]):=Lib.hid (by rw [← HTa.out,HXb.out];simp)
       go_upto_region 9 with (first | (rw [(idx_fn _).1]) | (go_at_call 45;refine (HC.out _).mono ?_;rintro e w3 ⟨rfl,hg⟩;have HG3:=Lib.hid hg;clear hg))
       clear n00 n01 n02 n03 n04 n05 n06
       have HBwc0:Hid ((w3.alloc (.cells #[.int .i64 x0,.int .i64 x1,.int .i64 x2] 104)).heap[w3.heap.size]? = some (.cells #[.int .i64 x0,.int .i64 x1,.int .i64 x2] 104 (0,0))):=Lib.hid (lay1_0 _ _)
       have HGwc:Hid (Flow.Grow w3 (w3.alloc (.cells #[.int .i64 x0,.int .i64 x1,.int .i64 x2] 104))):=Lib.hid (lay1_g _ _)
       have HSwc:Hid ((w3.alloc (.cells #[.int .i64 x0,.int .i64 x1,.int .i64 x2] 104)).heap.size=w3.heap.size+1):=Lib.hid (by simp)
       generalize w3.alloc (.cells #[.int .i64 x0,.int .i64 x1,.int .i64 x2] 104)=wc at *
       obtain ⟨Y,hY⟩:∃ X,X=w3.heap.size:=⟨_,rfl⟩
       rw [← hY] at HBwc0 HSwc ⊢
       have HXwc:=Lib.hid hY
       clear hY
       have CXwc:Hid (∀ wq,Flow.Grow wc wq→wq.cell? ⟨Y,0,none⟩=some (.int .i64 x0)∧wq.cell? ⟨Y,1,none⟩=some (.int .i64 x1)∧wq.cell? ⟨Y,2,none⟩=some (.int .i64 x2)):=Lib.hid (fun wq g=>⟨lay_cell g HBwc0.out rfl,lay_cell g HBwc0.out rfl,lay_cell g HBwc0.out rfl⟩)
       have FXwc:Hid (∀ wq,Flow.Grow wc wq→(∀ k,wq.frozen? ⟨Y,k,none⟩=false)):=Lib.hid (fun wq g=>fun k=>lay_frozen g HBwc0.out k)
       have HOc:=Lib.hid (own_keep HQ.out (HG3.out.trans HGwc.out))
       have HGc:Hid (Flow.Grow W wc):=Lib.hid (HGq.out.trans (HG3.out.trans HGwc.out))
       obtain ⟨k00,k01,k02⟩:=CXwc.out wc (Flow.grow_refl _)
       go_wp2_with (at_builtin;refine wpList_app1 (W:=W) rfl _ _ 35 rfl 104 i0 (.agg #[.int .i64 0,.int .i64 0,.int .i64 0]) 3 24 Tryz.underlying35 HI.out.1 HI.out.2.1 HI.out.2.2.1 HI.out.2.2.2 rfl (by decide) _ t2.length (t2.flatMap Gr.lcells) rfl (own_keep HOc.out (Flow.grow_alloc _ _)) (HGc.out.trans (Flow.grow_alloc _ _)) _ #[.int .i64 x0,.int .i64 x1,.int .i64 x2] 104 rfl (heap_alloc_new _ _) rfl (by intro u hu;simp at hu;rcases hu with rfl | rfl | rfl <;> rfl) (by omega) (by decide) ?_;intro v' w' hO hG hf hby;have HO2:=Lib.hid hO;have HG2:=Lib.hid hG;have HX2:=Lib.hid (own_other (own_keep HOc.out (Flow.grow_alloc _ _)) (heap_keep ((HG3.out.trans HGwc.out).trans (Flow.grow_alloc _ _)) HXq.out) (by decide) hby);obtain ⟨g',c',rfl,_⟩:=hf;clear hO hG hby)
       go_roundw
       case rel=>exact ⟨0+1,by omega,by go_num,Lib.hid (by rw [HE.out,List.length_append,List.flatMap_append];exact HO2.out),HG2,HX2⟩
       case measure=>simp [intOf]
     ·obtain ⟨x,b,hxb,hcalls⟩:=HF.out 1 (by omega)
      have HC:Hid (∀ W,Calls Tryz.prog 46 #[.agg #[.int .i64 y0,.string y1,.int .i64 y2,.int .i64 y3,.int .i64 y4,.int .i64 y5,.bool y6]] W fun e w'=>e=.returned (.tuple #[.agg (Gr.lcells x).toArray,.bool b])∧Flow.Grow W w'):=Lib.hid (fun W=>by have k:=hcalls W;simpa using k)
      have HXb:=Lib.hid hxb
      clear hcalls hxb
      obtain ⟨x0,x1,x2⟩:=x
      simp only [Gr.lcells] at HC
      cases b with
      | false =>
       have HE:Hid (ts++lb (1+1)=t2):=Lib.hid (by rw [← HTa.out,HXb.out];simp)
       go_wp2_with (first | (rw [(idx_fn _).2]) | (go_at_call 46;refine (HC.out _).mono ?_;rintro e w3 ⟨rfl,hg⟩;have HG3:=Lib.hid hg;clear hg))
       go_roundw
       case rel=>exact ⟨1+1,by omega,by go_num,Lib.hid (by rw [HE.out];exact own_keep HQ.out (HG3.out.trans (Flow.grow_alloc _ _))),Lib.hid (HGq.out.trans (HG3.out.trans (Flow.grow_alloc _ _))),Lib.hid (heap_keep (HG3.out.trans (Flow.grow_alloc _ _)) HXq.out)⟩
       case measure=>simp [intOf]
      | true =>
       have HE:Hid (ts++lb (1+1)=t2++[(x0,x1,x2)]):=Lib.hid (by rw [← HTa.out,HXb.out];simp)
       go_upto_region 9 with (first | (rw [(idx_fn _).2]) | (go_at_call 46;refine (HC.out _).mono ?_;rintro e w3 ⟨rfl,hg⟩;have HG3:=Lib.hid hg;clear hg))
       clear n00 n01 n02 n03 n04 n05 n06
       have HBwc0:Hid ((w3.alloc (.cells #[.int .i64 x0,.int .i64 x1,.int .i64 x2] 104)).heap[w3.heap.size]? = some (.cells #[.int .i64 x0,.int .i64 x1,.int .i64 x2] 104 (0,0))):=Lib.hid (lay1_0 _ _)
       have HGwc:Hid (Flow.Grow w3 (w3.alloc (.cells #[.int .i64 x0,.int .i64 x1,.int .i64 x2] 104))):=Lib.hid (lay1_g _ _)
       have HSwc:Hid ((w3.alloc (.cells #[.int .i64 x0,.int .i64 x1,.int .i64 x2] 104)).heap.size=w3.heap.size+1):=Lib.hid (by simp)
       generalize w3.alloc (.cells #[.int .i64 x0,.int .i64 x1,.int .i64 x2] 104)=wc at *
       obtain ⟨Y,hY⟩:∃ X,X=w3.heap.size:=⟨_,rfl⟩
       rw [← hY] at HBwc0 HSwc ⊢
       have HXwc:=Lib.hid hY
       clear hY
       have CXwc:Hid (∀ wq,Flow.Grow wc wq→wq.cell? ⟨Y,0,none⟩=some (.int .i64 x0)∧wq.cell? ⟨Y,1,none⟩=some (.int .i64 x1)∧wq.cell? ⟨Y,2,none⟩=some (.int .i64 x2)):=Lib.hid (fun wq g=>⟨lay_cell g HBwc0.out rfl,lay_cell g HBwc0.out rfl,lay_cell g HBwc0.out rfl⟩)
       have FXwc:Hid (∀ wq,Flow.Grow wc wq→(∀ k,wq.frozen? ⟨Y,k,none⟩=false)):=Lib.hid (fun wq g=>fun k=>lay_frozen g HBwc0.out k)
       have HOc:=Lib.hid (own_keep HQ.out (HG3.out.trans HGwc.out))
       have HGc:Hid (Flow.Grow W wc):=Lib.hid (HGq.out.trans (HG3.out.trans HGwc.out))
       obtain ⟨k00,k01,k02⟩:=CXwc.out wc (Flow.grow_refl _)
       go_wp2_with (at_builtin;refine wpList_app1 (W:=W) rfl _ _ 35 rfl 104 i0 (.agg #[.int .i64 0,.int .i64 0,.int .i64 0]) 3 24 Tryz.underlying35 HI.out.1 HI.out.2.1 HI.out.2.2.1 HI.out.2.2.2 rfl (by decide) _ t2.length (t2.flatMap Gr.lcells) rfl (own_keep HOc.out (Flow.grow_alloc _ _)) (HGc.out.trans (Flow.grow_alloc _ _)) _ #[.int .i64 x0,.int .i64 x1,.int .i64 x2] 104 rfl (heap_alloc_new _ _) rfl (by intro u hu;simp at hu;rcases hu with rfl | rfl | rfl <;> rfl) (by omega) (by decide) ?_;intro v' w' hO hG hf hby;have HO2:=Lib.hid hO;have HG2:=Lib.hid hG;have HX2:=Lib.hid (own_other (own_keep HOc.out (Flow.grow_alloc _ _)) (heap_keep ((HG3.out.trans HGwc.out).trans (Flow.grow_alloc _ _)) HXq.out) (by decide) hby);obtain ⟨g',c',rfl,_⟩:=hf;clear hO hG hby)
       go_roundw
       case rel=>exact ⟨1+1,by omega,by go_num,Lib.hid (by rw [HE.out,List.length_append,List.flatMap_append];exact HO2.out),HG2,HX2⟩
       case measure=>simp [intOf]
    ·obtain rfl:q=2:=by omega
     rw [← HS.out] at HQ ⊢
     go_wp2_with fail
     go_roundw
     case rel=>exact ⟨j+1,by omega,by go_num,HQ,HGq⟩
     case measure=>simp [intOf];omega
  ·obtain rfl:j=n:=by omega
   have hgl:=HGl.out j
   obtain ⟨L,hL⟩:∃ L,L=g.gath j:=⟨_,rfl⟩
   have HL:=Lib.hid hL
   rw [← hL] at HO hgl ⊢
   clear hL
   rcases HO.out.2 with ⟨e,e0⟩ | ⟨gg,cap,cur,hv,hB,hg,h4,_⟩
   ·obtain rfl:L=[]:=List.eq_nil_of_length_eq_zero e0
    cases e
    clear HO e0
    go_wp2_with (first
     | (go_at_call 47;refine (sort_nil _ _).mono ?_;rintro e w' ⟨rfl,rfl⟩)
     | (go_at_call 49;refine (compact_nil _).mono ?_;rintro e w' ⟨rfl,rfl⟩))
    go_ret
    exact ⟨[],⟨_,rfl,Seg.nil 3 _⟩,by simp,fun i j _ h=>by simp at h,fun x=>by rw [HL.out],HG.out⟩
   ·cases hv
    have HR:=Lib.hid (Gr.LRow.of_own HO.out)
    have Hcap:=Lib.hid h4
    have Hlo:=Lib.hid hB
    clear hg h4 hB HO
    obtain ⟨m,hm⟩:∃ m,m=L.length:=⟨_,rfl⟩
    have Hm:=Lib.hid hm
    rw [← hm] at hgl HR Hcap ⊢
    clear hm
    obtain ⟨f,hf⟩:∃ f:Nat→Gr.Lb,f=fun j=>L.getD j (0,0,0):=⟨_,rfl⟩
    have Hf:=Lib.hid hf
    rw [← hf] at HR
    clear hf
    have hm2:m≤4000000:=by omega
    go_wp2_with (first
     | (go_at_call 47;go_loud (refine (sort_any gg m oc f _ hm2 HR.out).mono ?_);rintro e w2 ⟨rfl,hb,f2,hr2,hs2,hm2'⟩;have HB2:=Lib.hid hb;have HR2:=Lib.hid hr2;have HS2:=Lib.hid hs2;have HM2:=Lib.hid hm2';clear hb hr2 hs2 hm2')
     | (go_at_call 49;refine (compact_any gg oc m f2 _ hm2 Hcap.out HR2.out).mono ?_;rintro e w3 ⟨rfl,hb,f3,hr3,hk3⟩;have HB3:=Lib.hid hb;have HR3:=Lib.hid hr3;have HK3:=Lib.hid hk3;clear hb hr3 hk3))
    go_ret
    refine ⟨Gr.cmpK f2 m,⟨_,rfl,HR3.out.lbs (Nat.le_refl _) _ rfl (fun j hj=>(HK3.out j hj).symm)⟩,by have:=Gr.cmpK_len f2 m;omega,(Gr.cmpK_srt HS2.out m (Nat.le_refl _)).1,fun x=>?_,?_⟩
    ·rw [← HL.out,Gr.cmpK_mem,HM2.out x,Hf.out]
     constructor
     ·rintro ⟨k,hk,rfl⟩
      rw [Hm.out] at hk
      show L.getD k (0,0,0)∈L
      rw [List.getD_eq_getElem?_getD,List.getElem?_eq_getElem hk]
      exact List.getElem_mem hk
     ·intro hx
      obtain ⟨k,hk,rfl⟩:=List.mem_iff_getElem.1 hx
      exact ⟨k,by rw [Hm.out];exact hk,by show L.getD k (0,0,0)=L[k];rw [List.getD_eq_getElem?_getD,List.getElem?_eq_getElem hk];rfl⟩
    ·have k:=by_trans (by_trans (by_grow (r:=some gg) HG.out) HB2.out) HB3.out
     have hlo:=Hlo.out
     exact ⟨k.os,k.tape,k.output,k.size,fun b hb _=>k.block b hb (fun e=>by cases e;omega)⟩
end Go.Proofs.YtcnmaplopbbmaaaGreat
