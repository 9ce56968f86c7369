/- game.task by its contract. -/
import Derived.Test.YtcnmaplopbbmaaaGreatMAl
namespace Go.Proofs.YtcnmaplopbbmaaaGreat
open Go.RowKit
theorem flat_take {α β:Type} (f:α→List β) (l:List α) (j:Nat) (x:α) (h:l[j]? = some x):(l.take (j+1)).flatMap f=(l.take j).flatMap f++f x:=by
 rw [List.take_add_one,h,List.flatMap_append]
 simp
theorem Gr.flat_le {α β:Type} (f:α→List β) (hf:∀ x,(f x).length≤1):∀ l:List α,(l.flatMap f).length≤l.length
 | []=>by simp
 | x :: l=>by
  have:=Gr.flat_le f hf l
  have:=hf x
  rw [List.flatMap_cons,List.length_append,List.length_cons]
  omega
theorem Gr.Gm.cells {W:World} {B:Nat} {v0 v1 v2 v3 lv:Value} {g:Gr.G} {L:List Gr.Lb} {e:Int} (h:Gr.Gm W B v0 v1 v2 v3 lv g L e) :
  W.cell? ⟨B,0,none⟩=some v0∧W.cell? ⟨B,1,none⟩=some v1∧W.cell? ⟨B,2,none⟩=some v2∧W.cell? ⟨B,3,none⟩=some v3∧W.cell? ⟨B,4,none⟩=some lv :=
 ⟨(cell_of_row W B 0 _ _ _ h.row).trans rfl,(cell_of_row W B 1 _ _ _ h.row).trans rfl,(cell_of_row W B 2 _ _ _ h.row).trans rfl,(cell_of_row W B 3 _ _ _ h.row).trans rfl,(cell_of_row W B 4 _ _ _ h.row).trans rfl⟩
set_option maxRecDepth 100000 in
set_option maxHeartbeats 4000000 in
theorem task_any (B:Nat) (v0 v1 v2 v3 lv:Value) (g:Gr.G) (L:List Gr.Lb) (u0:Bool) (l:List Bool) (i:Nat) (W:World) (hl:l.length=64) (hF:g.Fit) (hi:i < g.ns.length) (hk:(g.nd i).kind=3) (hL:L.length≤1000000) (hS:Gr.Srt L) (hZ:(g.nd i).rep < 0→Gr.idx L (0,0,0)=Gr.idx L (g.nd i).back)
  (h:Gr.Gm W B v0 v1 v2 v3 lv g L (Gr.err u0 0)) :
  Calls Tryz.prog 74 #[.pointer (some ⟨B,0,none⟩),.int .u64 (Mark.ofBools l:Int),.int .i64 i] W fun e w'=>∃ out,e=.returned out ∧
   Gr.TI W w' B v0 v1 v2 v3 lv g L (u0 || Gr.bad (g.taskT L i (l,false))) out (g.taskT L i (l,false)):=by
 obtain ⟨hb0,hb1,hdone⟩:=hF.busy hi hk
 obtain ⟨an,cn,rfl⟩:=Gr.Recs.form h.at.nodes
 obtain ⟨nb,no,rfl,_⟩:=Gr.NdsAt.at h.at.nodes hi
 obtain ⟨lx,hlx,hlv⟩:∃ lx:Gr.Lb,Gr.idx L lx=Gr.idx L (g.nd i).back∧∀ w,Calls Tryz.prog 46 #[.agg (g.nd i).cells.toArray] w fun e w'=>(∃ b,e=.returned (.tuple #[.agg (Gr.lcells lx).toArray,.bool b]))∧Flow.Grow w w':=by
  by_cases hr:0≤(g.nd i).rep
  ·refine ⟨_,rfl,fun w=>(back_any (g.nd i) w).mono fun e w' ⟨a,b⟩=>⟨⟨true,?_⟩,b⟩⟩
   rw [a]
   simp [Gr.labV,hk,hr]
  ·refine ⟨(0,0,0),hZ (by omega),fun w=>(back_any (g.nd i) w).mono fun e w' ⟨a,b⟩=>⟨⟨false,?_⟩,b⟩⟩
   rw [a]
   simp [Gr.labV,hk,hr]
 have HBk:=Lib.hid hlv
 have HLx:=Lib.hid hlx
 clear hlv hlx hZ
 have HG:=Lib.hid h
 have HAt:=Lib.hid h.at
 have HBn:Hid (∀ w u p,Gr.Gm w B v0 v1 (.slice (some ⟨nb,no,none⟩) g.ns.length cn) v3 lv g L (Gr.err u 0)→0≤p→p < 64→Calls Tryz.prog 97 #[.pointer (some ⟨B,0,none⟩),.int .u64 (Mark.ofBools l:Int),.int .i64 i,.int .i64 p] w fun e w'=>e=.returned (.agg #[.int .i64 (Gr.idx L (g.nd i).first),.int .u64 (Mark.ofBools (g.begun i (Gr.wo (l,false) p)).1:Int)])∧w.grownBy w' (some B)∧Gr.Gm w' B v0 v1 (.slice (some ⟨nb,no,none⟩) g.ns.length cn) v3 lv g L (Gr.err (g.begun i (Gr.wo (l,false) p)).2 (Gr.err u 0))) :=
  Lib.hid fun w u p h h0 h1=>begin_any B v0 v1 (.slice (some ⟨nb,no,none⟩) g.ns.length cn) v3 lv g L _ l i p w hl hF hi hk h0 h1 hL hS h
 have HFn:Hid (∀ w u p,Gr.Gm w B v0 v1 (.slice (some ⟨nb,no,none⟩) g.ns.length cn) v3 lv g L (Gr.err u 0)→0≤p→p < 64→Calls Tryz.prog 100 #[.pointer (some ⟨B,0,none⟩),.int .u64 (Mark.ofBools l:Int),.int .i64 i,.int .i64 p] w fun e w'=>e=.returned (.int .u64 (Mark.ofBools (g.fin i (Gr.wo (l,false) p)).1:Int))∧w.grownBy w' (some B)∧Gr.Gm w' B v0 v1 (.slice (some ⟨nb,no,none⟩) g.ns.length cn) v3 lv g L (Gr.err (g.fin i (Gr.wo (l,false) p)).2 (Gr.err u 0))) :=
  Lib.hid fun w u p h h0 h1=>finished_any B v0 v1 (.slice (some ⟨nb,no,none⟩) g.ns.length cn) v3 lv g L _ l i p w hl hF hi hk h0 h1 h
 have HMv:Hid (∀ w u p vf vt zt,Gr.Gm w B v0 v1 (.slice (some ⟨nb,no,none⟩) g.ns.length cn) v3 lv g L (Gr.err u 0)→0≤p→p < 64→Gr.InP zt→zt.length≤1000000→Ints (mask w [B]) vf [p]→Ints (mask w [B]) vt zt→Calls Tryz.prog 76 #[.pointer (some ⟨B,0,none⟩),.int .u64 (Mark.ofBools l:Int),vf,vt] w fun e w'=>e=.returned (.int .u64 (Mark.ofBools (zt.foldl Gr.put1 (Gr.wo (l,false) p)).1:Int))∧w.grownBy w' (some B)∧Gr.Gm w' B v0 v1 (.slice (some ⟨nb,no,none⟩) g.ns.length cn) v3 lv g L (Gr.err (zt.foldl Gr.put1 (Gr.wo (l,false) p)).2 (Gr.err u 0))) :=
  Lib.hid fun w u p vf vt zt h h0 h1 hz hzl hf ht=>(move_any B _ _ _ _ lv _ l vf vt [p] zt w hl (fun q hq=>by simp at hq;subst hq;exact ⟨h0,h1⟩) hz (by simp) hzl h.row hf ht).mono fun e w' ⟨a,b,c⟩=>⟨a,b,h.by b c⟩
 have HHas:Hid (∀ w p,0≤p→p < 64→Calls Tryz.prog 77 #[.int .u64 (Mark.ofBools l:Int),.int .i64 p] w fun e w'=>e=.returned (.bool (Gr.at1 (l,false) p))∧w=w'):=Lib.hid fun w p h0 h1=>markHas_l l p w hl h0 h1
 have HFd:Hid (∀ w x,Gr.LbsAt w lv L→Calls Tryz.prog 99 #[lv,.agg (Gr.lcells x).toArray] w fun e w'=>e=.returned (.int .i64 (Gr.idx L x))∧Flow.Grow w w'):=Lib.hid fun w x hx=>find_any lv L x w hL hS hx
 have HBs:Hid (∀ w,Gr.GAt w v0 v1 (.slice (some ⟨nb,no,none⟩) g.ns.length cn) v3 g→Calls Tryz.prog 98 #[.agg #[v0,v1,.slice (some ⟨nb,no,none⟩) g.ns.length cn,v3],.int .i64 i] w fun e w'=>e=.returned (.int .i64 (g.busy i))∧Flow.Grow w w'):=Lib.hid fun w hw=>(busy_any v0 v1 _ v3 i g w hF.few hw)
 have HDn:Hid (∀ w,Gr.GAt w v0 v1 (.slice (some ⟨nb,no,none⟩) g.ns.length cn) v3 g→Calls Tryz.prog 101 #[.agg #[v0,v1,.slice (some ⟨nb,no,none⟩) g.ns.length cn,v3],.int .i64 i] w fun e w'=>e=.returned (.int .i64 (g.busy i+1))∧Flow.Grow w w'):=Lib.hid fun w hw=>hdone ▸ (done_any v0 v1 _ v3 i g w hF.few hw)
 have HOut:Hid (∀ w,Gr.GAt w v0 v1 (.slice (some ⟨nb,no,none⟩) g.ns.length cn) v3 g→Calls Tryz.prog 14 #[.agg #[v0,v1,.slice (some ⟨nb,no,none⟩) g.ns.length cn,v3],.int .i64 i] w fun e w'=>(∃ va,e=.returned va∧w'.ownsRow w.heap.size 3 1 va (g.out i).length ((g.out i).map (Value.int .i64)))∧Flow.Grow w w'):=Lib.hid fun w hw=>graphOut_any v0 v1 _ v3 i g.es w hF.few.es hw.edges
 have HIn:Hid (∀ w,Gr.GAt w v0 v1 (.slice (some ⟨nb,no,none⟩) g.ns.length cn) v3 g→Calls Tryz.prog 13 #[.agg #[v0,v1,.slice (some ⟨nb,no,none⟩) g.ns.length cn,v3],.int .i64 i] w fun e w'=>(∃ va,e=.returned va∧w'.ownsRow w.heap.size 3 1 va (g.inn i).length ((g.inn i).map (Value.int .i64)))∧Flow.Grow w w'):=Lib.hid fun w hw=>graphIn_any v0 v1 _ v3 i g.es w hF.few.es hw.edges
 have HOl:=Lib.hid (g.out_len i hF.few)
 have HOp:=Lib.hid (hF.out i)
 have HIl:=Lib.hid (g.inn_len i hF.few)
 have HIp:=Lib.hid (hF.inn i)
 have HT:Hid (g.taskT L i (l,false)=((g.inn i).flatMap fun p=>if Gr.at1 (l,false) p then [(Gr.idx L (g.nd i).first,g.begun i (Gr.wo (l,false) p))] else []) ++
  (if Gr.at1 (l,false) (g.busy i) then [(Gr.idx L (g.nd i).back,g.fin i (Gr.wo (l,false) (g.busy i)))] else []) ++
  (if Gr.at1 (l,false) (g.busy i+1) then [(Gr.idx L (g.nd i).first,g.begun i (Gr.wo (l,false) (g.busy i+1))),(-1,g.outT i (Gr.wo (l,false) (g.busy i+1)))] else [])):=Lib.hid rfl
 obtain ⟨r0,r1,r2,r3,r4⟩:=h.cells
 have HNd:Hid (∀ w e,Gr.Gm w B v0 v1 (.slice (some ⟨nb,no,none⟩) g.ns.length cn) v3 lv g L e→w.cell? ⟨nb,no+i * 7,none⟩=some (.int .i64 (g.nd i).kind)∧w.cell? ⟨nb,no+i * 7+1,none⟩=some (.string (g.nd i).id)∧w.cell? ⟨nb,no+i * 7+2,none⟩=some (.int .i64 (g.nd i).fr)∧w.cell? ⟨nb,no+i * 7+3,none⟩=some (.int .i64 (g.nd i).to)∧w.cell? ⟨nb,no+i * 7+4,none⟩=some (.int .i64 (g.nd i).msg)∧w.cell? ⟨nb,no+i * 7+5,none⟩=some (.int .i64 (g.nd i).rep)∧w.cell? ⟨nb,no+i * 7+6,none⟩=some (.bool (g.nd i).loop)):=Lib.hid fun w e h=>h.nd7 hi
 clear h hk hl hdone hF hL hS
 generalize hnd:g.nd i=Y at *
 clear hnd
 obtain ⟨y0,y1,y2,y3,y4,y5,y6⟩:=Y
 obtain ⟨x0,x1,x2⟩:=lx
 simp only [Gr.Nd.cells,Gr.lcells] at HBk HNd
 generalize g.taskT L i (l,false)=TS at *
 generalize Gr.idx L (Gr.Nd.back ⟨y0,y1,y2,y3,y4,y5,y6⟩)=bk at *
 generalize Gr.idx L (Gr.Nd.first ⟨y0,y1,y2,y3,y4,y5,y6⟩)=lab at *
 obtain ⟨f,hf⟩:∃ f:Int→List Gr.Tn,f=fun p=>if Gr.at1 (l,false) p then [(lab,g.begun i (Gr.wo (l,false) p))] else []:=⟨_,rfl⟩
 rw [← hf] at HT
 have HFp:Hid (∀ p,f p=if Gr.at1 (l,false) p then [(lab,g.begun i (Gr.wo (l,false) p))] else []):=Lib.hid (fun p=>by rw [hf])
 have HFl:Hid (∀ xs:List Int,(xs.flatMap f).length≤xs.length):=Lib.hid (fun xs=>Gr.flat_le f (fun p=>by rw [hf];dsimp only;split <;> simp) xs)
 clear hf
 generalize g.inn i=xs at *
 obtain ⟨n,hn⟩:∃ n,n=xs.length:=⟨_,rfl⟩
 have Hn:=Lib.hid hn
 rw [← hn] at HIn HIl
 have hnl:=HIl.out
 clear hn
 obtain ⟨i0,hi0,hz0,hz1,hz2⟩:=info_parts info_turn
 have HI:=Lib.hid (And.intro hi0 (And.intro hz0 (And.intro hz1 hz2)))
 clear hi0 hz0 hz1 hz2
 go_enter Tryz.func74,Tryz.ntmps74
 go_wp2_with (go_at_call 13;refine (HIn.out _ HAt.out).mono ?_;rintro e w1 ⟨⟨va,rfl,ho⟩,hg⟩;have HG1:=Lib.hid hg;obtain ⟨xa,xc,rfl⟩:=own_form ho;have HX:Hid (Ints (mask w1 [B]) (.slice xa n xc) xs):=Lib.hid (by have k:=HG.out.own (zs:=xs) (by rw [← Hn.out];exact ho);exact k);clear hg ho)
 go_loopw [7,21] (fun vo vi wr=>∃ j:Nat,j≤n∧vi=.int .i64 j∧Hid (Gr.TI w1 wr B v0 v1 (.slice (some ⟨nb,no,none⟩) g.ns.length cn) v3 lv g L (u0 || Gr.bad ((xs.take j).flatMap f)) vo ((xs.take j).flatMap f))) (fun _ vi _=>n - (intOf vi).toNat)
 case atStart=>exact ⟨0,by omega,rfl,Lib.hid (by simpa [Gr.bad] using Gr.TI.start (HG.out.grow HG1.out) (HG.out.grow HG1.out))⟩
 case round =>
  obtain ⟨j,hj,rfl,HTI⟩:=hrel
  rename World=>wr
  obtain ⟨va,hva⟩:∃ va,va=u7:=⟨_,rfl⟩
  obtain ⟨oa,oc,hoa⟩:=own_form HTI.out.own
  subst hoa
  clear hva
  by_cases hjn:j < n
  ·have hx:xs[j]? = some (xs.getD j 0):=by rw [List.getD_eq_getElem?_getD,List.getElem?_eq_getElem (by rw [← Hn.out];exact hjn)];rfl
   have HX2:=Lib.hid (flat_take f xs j _ hx)
   have hp:=HIp.out _ (List.mem_of_getElem? hx)
   obtain ⟨b,off,rfl,q⟩:=Ints.at1 HX.out (k:=j) (by rw [← Hn.out];exact hjn)
   have c:=(mask_self wr [B]).cell _ _ ((mask_by HTI.out.by_ (fun g hg=>by cases hg;simp)).cell _ _ q)
   clear q hx
   have HP:=Lib.hid (HFp.out (xs.getD j 0))
   have HLn:=Lib.hid (HFl.out (xs.take j))
   generalize xs.getD j 0=p at *
   generalize (xs.take j).flatMap f=ts at *
   have hlen:ts.length≤1000000:=by have:=HLn.out;have:=HIl.out;rw [List.length_take] at *;omega
   cases hat:Gr.at1 (l,false) p with
   | false =>
    have HE:Hid ((xs.take (j+1)).flatMap f=ts):=Lib.hid (by rw [HX2.out,HP.out,if_neg (by rw [hat];simp),List.append_nil])
    have HHs:=Lib.hid fun w=>(hat ▸ HHas.out w p hp.1 hp.2)
    go_wp2_with (go_at_call 77;refine (HHs.out _).mono ?_;rintro e w' ⟨rfl,rfl⟩)
    go_roundw
    case rel=>exact ⟨j+1,by omega,by go_num,Lib.hid (by rw [HE.out];exact HTI.out)⟩
    case measure=>simp [intOf];omega
   | true =>
    have HE:Hid ((xs.take (j+1)).flatMap f=ts++[(lab,g.begun i (Gr.wo (l,false) p))]):=Lib.hid (by rw [HX2.out,HP.out,if_pos hat])
    have HHs:=Lib.hid fun w=>(hat ▸ HHas.out w p hp.1 hp.2)
    go_wp2_with (first
     | (go_at_call 77;refine (HHs.out _).mono ?_;rintro e w' ⟨rfl,rfl⟩)
     | (go_at_call 97;refine (HBn.out _ _ p HTI.out.gm hp.1 hp.2).mono ?_;rintro e w3 ⟨rfl,hb,hk⟩;have HT3:=Lib.hid (HTI.out.call hb hk);clear hb hk)
     | (at_builtin;refine wpList_appB (W:=w1) (B:=B) rfl _ _ 96 rfl 99 i0 (.agg #[.int .i64 0,.int .u64 0]) 2 16 Tryz.underlying96 HI.out.1 HI.out.2.1 HI.out.2.2.1 HI.out.2.2.2 rfl (by decide) _ ts.length (ts.flatMap Gr.tcells) rfl (HT3.out.grow (Flow.grow_alloc _ _)).own (HT3.out.grow (Flow.grow_alloc _ _)).by_ _ [.int .i64 (lab),.int .u64 (Mark.ofBools (g.begun i (Gr.wo (l,false) p)).1:Int)] 1 1 rfl rfl (cells_of (heap_alloc_new _ _)) (by intro u hu;simp at hu;rcases hu with rfl | rfl <;> rfl) (by decide) (by omega) (by decide) (by decide) ?_;intro v' w4 ho _ hk hf;obtain ⟨g4,c4,rfl⟩:=hf;have HT4:=Lib.hid ((HT3.out.grow (Flow.grow_alloc _ _)).app (new:=[(lab,g.begun i (Gr.wo (l,false) p))]) ho hk);clear ho hk))
    go_roundw
    case rel=>exact ⟨j+1,by omega,by go_num,Lib.hid (by rw [HE.out,Gr.bad_append,← Bool.or_assoc];simpa [Gr.bad] using HT4.out)⟩
    case measure=>simp [intOf];omega
  ·obtain rfl:j=n:=by omega
   have ht0:xs.take j=xs:=List.take_of_length_le (by rw [← Hn.out];exact Nat.le_refl _)
   rw [ht0] at HTI ⊢
   have HLn:=HFl.out xs
   generalize xs.flatMap f=ts at *
   have hlen:ts.length≤1000000:=by have:=Hn.out;omega
   have HT1:=Lib.hid (HTI.out.from (by_grow HG1.out) HG.out)
   clear HTI ht0 HLn HX
   obtain ⟨c0,c1,c2,c3,c4⟩:=HT1.out.gm.cells
   have HHb:=Lib.hid fun w=>HHas.out w (g.busy i) (by omega) (by omega)
   obtain ⟨TB,hTB⟩:∃ TB,TB=ts++(if Gr.at1 (l,false) (g.busy i) then [(bk,g.fin i (Gr.wo (l,false) (g.busy i)))] else []):=⟨_,rfl⟩
   have HTB:=Lib.hid hTB
   rw [← hTB] at HT
   have hlenB:TB.length≤1000001:=by rw [hTB,List.length_append];split <;> simp <;> omega
   clear hTB
   go_upto_if 45 with (first
    | (go_at_call 98;refine (HBs.out _ HT1.out.gm.at).mono ?_;rintro e w2 ⟨rfl,hg⟩;have HT2:=Lib.hid (HT1.out.grow hg);clear hg)
    | (go_at_call 77;refine (HHb.out _).mono ?_;rintro e w' ⟨rfl,rfl⟩))
   clear c0 c1 c2 c3 c4
   go_cut [7] (fun vo wx=>∃ a c,vo=.slice a TB.length c∧Hid (Gr.TI W wx B v0 v1 (.slice (some ⟨nb,no,none⟩) g.ns.length cn) v3 lv g L (u0 || Gr.bad TB) vo TB))
   case first =>
    cases hat:Gr.at1 (l,false) (g.busy i) with
    | false =>
     have HE:Hid (TB=ts):=Lib.hid (by rw [HTB.out,if_neg (by rw [hat];simp),List.append_nil])
     go_wp2_with fail
     go_meet
     case rel=>exact ⟨_,_,by rw [HE.out],Lib.hid (by rw [HE.out];exact HT2.out)⟩
    | true =>
     have HE:Hid (TB=ts++[(bk,g.fin i (Gr.wo (l,false) (g.busy i)))]):=Lib.hid (by rw [HTB.out,if_pos hat])
     obtain ⟨c0,c1,c2,c3,c4⟩:=HT2.out.gm.cells
     obtain ⟨m0,m1,m2,m3,m4,m5,m6⟩:=HNd.out _ _ HT2.out.gm
     go_upto_region 11 with (go_at_call 46;refine (HBk.out _).mono ?_;rintro e w3 ⟨⟨bb,rfl⟩,hg⟩;have HT3:=Lib.hid (HT2.out.grow hg);clear hg)
     clear m0 m1 m2 m3 m4 m5 m6 c0 c1 c2 c3 c4
     have HBw40:Hid ((w3.alloc (.cells #[.int .i64 x0,.int .i64 x1,.int .i64 x2] 104)).heap[w3.heap.size]? = some (.cells #[.int .i64 x0,.int .i64 x1,.int .i64 x2] 104 (0,0))):=Lib.hid (lay1_0 _ _)
     have HGw4:Hid (Flow.Grow w3 (w3.alloc (.cells #[.int .i64 x0,.int .i64 x1,.int .i64 x2] 104))):=Lib.hid (lay1_g _ _)
     have HSw4:Hid ((w3.alloc (.cells #[.int .i64 x0,.int .i64 x1,.int .i64 x2] 104)).heap.size=w3.heap.size+1):=Lib.hid (by simp)
     generalize w3.alloc (.cells #[.int .i64 x0,.int .i64 x1,.int .i64 x2] 104)=w4 at *
     obtain ⟨Y,hY⟩:∃ X,X=w3.heap.size:=⟨_,rfl⟩
     rw [← hY] at HBw40 HSw4 ⊢
     have HXw4:=Lib.hid hY
     clear hY
     have CXw4:Hid (∀ wq,Flow.Grow w4 wq→wq.cell? ⟨Y,0,none⟩=some (.int .i64 x0)∧wq.cell? ⟨Y,1,none⟩=some (.int .i64 x1)∧wq.cell? ⟨Y,2,none⟩=some (.int .i64 x2)):=Lib.hid (fun wq g=>⟨lay_cell g HBw40.out rfl,lay_cell g HBw40.out rfl,lay_cell g HBw40.out rfl⟩)
     have FXw4:Hid (∀ wq,Flow.Grow w4 wq→(∀ k,wq.frozen? ⟨Y,k,none⟩=false)):=Lib.hid (fun wq g=>fun k=>lay_frozen g HBw40.out k)
     have HT4:=Lib.hid (HT3.out.grow HGw4.out)
     have HYB:Hid (Y≠B):=Lib.hid (by have h1:=HT3.out.gm.lt;have h2:=HXw4.out;omega)
     have HYc:Hid (∀ w,w4.grownBy w (some B)→w.cell? ⟨Y,0,none⟩=some (.int .i64 x0)∧w.cell? ⟨Y,1,none⟩=some (.int .i64 x1)∧w.cell? ⟨Y,2,none⟩=some (.int .i64 x2)):=Lib.hid fun w hb=>by
      have hh:=by_keep hb HBw40.out HYB.out
      exact ⟨(cell_of_row w Y 0 _ _ _ hh).trans rfl,(cell_of_row w Y 1 _ _ _ hh).trans rfl,(cell_of_row w Y 2 _ _ _ hh).trans rfl⟩
     have hB4:=HT4.out.gm.lt
     have HFk:Hid (∀ w u,Gr.Gm w B v0 v1 (.slice (some ⟨nb,no,none⟩) g.ns.length cn) v3 lv g L (Gr.err u 0)→Calls Tryz.prog 99 #[lv,.agg #[.int .i64 x0,.int .i64 x1,.int .i64 x2]] w (fun e w'=>e=.returned (.int .i64 bk)∧Flow.Grow w w')):=Lib.hid fun w u hm=>by
      have k:=HFd.out w (x0,x1,x2) hm.lbs
      rw [HLx.out] at k
      exact k
     have HRB:Hid (∀ w b,Gr.RB B v0 v1 (.slice (some ⟨nb,no,none⟩) g.ns.length cn) v3 lv g L b w4 w→∃ u,Gr.Gm w B v0 v1 (.slice (some ⟨nb,no,none⟩) g.ns.length cn) v3 lv g L (Gr.err u 0)):=Lib.hid fun w b h=>by
      obtain ⟨u',h1,_⟩:=h.gm _ HT4.out.gm
      exact ⟨u',h1⟩
     obtain ⟨F,hFF⟩:∃ F,F=g.fin i (Gr.wo (l,false) (g.busy i)):=⟨_,rfl⟩
     have HFF:Hid (∀ w u,Gr.Gm w B v0 v1 (.slice (some ⟨nb,no,none⟩) g.ns.length cn) v3 lv g L (Gr.err u 0)→Calls Tryz.prog 100 #[.pointer (some ⟨B,0,none⟩),.int .u64 (Mark.ofBools l:Int),.int .i64 i,.int .i64 (g.busy i)] w fun e w'=>e=.returned (.int .u64 (Mark.ofBools F.1:Int))∧w.grownBy w' (some B)∧Gr.Gm w' B v0 v1 (.slice (some ⟨nb,no,none⟩) g.ns.length cn) v3 lv g L (Gr.err F.2 (Gr.err u 0))):=Lib.hid fun w u hm=>by rw [hFF];exact HFn.out w u _ hm (by omega) (by omega)
     rw [← hFF] at HE
     clear hFF
     refine Flow.region_tailA (R:=Gr.RB B v0 v1 (.slice (some ⟨nb,no,none⟩) g.ns.length cn) v3 lv g L F.2) (C:=Gr.RB B v0 v1 (.slice (some ⟨nb,no,none⟩) g.ns.length cn) v3 lv g L F.2 w4) (Fs:=[.inl ((.slice oa ts.length oc)),.inl ((.pointer (some ⟨B,0,none⟩))),.inl ((.pointer (some ⟨B,0,none⟩))),.inl ((.pointer (some ⟨B,4,none⟩))),.inl (lv),.inl ((.agg #[.int .i64 x0,.int .i64 x1,.int .i64 x2])),.inl ((.int .i64 bk)),.inl ((.pointer (some ⟨B,0,none⟩))),.inl ((.int .u64 (Mark.ofBools l:Int))),.inl ((.int .i64 (i:Int))),.inl ((.int .i64 (g.busy i))),.inr (fun v w=>v=.int .u64 (Mark.ofBools F.1:Int)∧(F.2=true→Gr.Gm w B v0 v1 (.slice (some ⟨nb,no,none⟩) g.ns.length cn) v3 lv g L (Gr.err true 0))),.inl ((.agg #[.int .i64 bk,.int .u64 (Mark.ofBools F.1:Int)])),.inr (fun v w=>∃ q,v=.slice (some ⟨q,0,none⟩) 1 1∧w.heap[q]? = some (.cells #[.int .i64 bk,.int .u64 (Mark.ofBools F.1:Int)] 99 (0,0))∧q≠B)])
      (S:=[[],[],[1],[1,2],[1,2,3],[],[1,2,3,4,5],[],[],[],[],[7,8,9,10],[1,2,3,4,5,6,7,8,9,10,11],[1,2,3,4,5,6,7,8,9,10,11,12],[0,1,2,3,4,5,6,7,8,9,10,11,12,13],[14]]) 14 (by kernel_rfl) (by kernel_rfl) (by kernel_rfl) rfl ?stab11 (fun _ _ h k=>h.trans k) (Gr.RB.grow (Flow.grow_drew _)) ?ones11 ?ends11
     case ones11 =>
      refine Flow.Ones.cons ?_ ?_
      ·intro a w hC hoff _
       have e7:a.eval (.tmp 7)=(.slice oa ts.length oc):=hoff.at 7 (by kernel_rfl)
       refine .inl ⟨Flow.want_none rfl,?_⟩
       exact Flow.run_same (Flow.exec_move (.inl rfl) e7) Gr.RB.refl
      refine Flow.Ones.cons ?_ ?_
      ·intro a w hC hoff _
       have e0:a.eval (.tmp 0)=(.pointer (some ⟨B,0,none⟩)):=hoff.at 0 (by kernel_rfl)
       refine .inl ⟨Flow.want_none rfl,?_⟩
       exact Flow.run_same (Flow.exec_move (.inl rfl) e0) Gr.RB.refl
      refine Flow.Ones.cons ?_ ?_
      ·rintro a w hC hoff ⟨k1,-⟩
       have e59:a.eval (.tmp 59)=(.pointer (some ⟨B,0,none⟩)):=k1 59 rfl
       refine .inl ⟨Flow.want_none rfl,?_⟩
       refine Flow.run_same ?_ Gr.RB.refl
       have ec:=Flow.eval_const a
       generalize a.eval=ρ at e59 ec ⊢
       simp [execOp,e59,go_sem]
      refine Flow.Ones.cons ?_ ?_
      ·rintro a w hC hoff ⟨_,k2,-⟩
       have e60:a.eval (.tmp 60)=(.pointer (some ⟨B,0,none⟩)):=k2 60 rfl
       refine .inl ⟨Flow.want_none rfl,?_⟩
       refine Flow.run_same ?_ Gr.RB.refl
       have ec:=Flow.eval_const a
       generalize a.eval=ρ at e60 ec ⊢
       simp [execOp,e60,go_sem]
      refine Flow.Ones.cons ?_ ?_
      ·rintro a w hC hoff ⟨_,_,k3,-⟩
       have e61:a.eval (.tmp 61)=(.pointer (some ⟨B,4,none⟩)):=k3 61 rfl
       refine .inl ⟨Flow.want_none rfl,?_⟩
       refine Flow.run_same ?_ Gr.RB.refl
       have ec:=Flow.eval_const a
       generalize a.eval=ρ at e61 ec ⊢
       obtain ⟨u,hm⟩:=HRB.out w _ hC
       have hc:=hm.cells.2.2.2.2
       simp [execOp,e61,hc,go_sem]
      refine Flow.Ones.cons ?_ ?_
      ·intro a w hC hoff _
       have e11:a.eval (.tmp 11)=(.pointer (some ⟨Y,0,none⟩)):=hoff.at 11 (by kernel_rfl)
       refine .inl ⟨Flow.want_none rfl,?_⟩
       refine Flow.run_same ?_ Gr.RB.refl
       have ec:=Flow.eval_const a
       generalize a.eval=ρ at e11 ec ⊢
       obtain ⟨h0,h1,h2⟩:=HYc.out w hC.by_
       simp [execOp,e11,h0,h1,h2,go_sem]
      refine Flow.Ones.cons ?_ ?_
      ·rintro a w hC hoff ⟨_,_,_,k4,k5,-⟩
       have e62:a.eval (.tmp 62)=lv:=k4 62 rfl
       have e63:a.eval (.tmp 63)=(.agg #[.int .i64 x0,.int .i64 x1,.int .i64 x2]):=k5 63 rfl
       refine .inl ⟨Flow.want_none rfl,?_⟩
       obtain ⟨u,hm⟩:=HRB.out w _ hC
       exact Flow.run_call (Flow.exec_call rfl Tryz.func99 (by kernel_rfl) (by kernel_rfl) (by simp only [List.map_toArray,List.map_cons,List.map_nil,e62,e63] <;> rfl)) ((HFk.out w u hm).mono fun e w' ⟨he,hg⟩=>⟨_,he,Gr.RB.grow hg,rfl⟩)
      refine Flow.Ones.cons ?_ ?_
      ·intro a w hC hoff _
       have e0:a.eval (.tmp 0)=(.pointer (some ⟨B,0,none⟩)):=hoff.at 0 (by kernel_rfl)
       refine .inl ⟨Flow.want_none rfl,?_⟩
       exact Flow.run_same (Flow.exec_move (.inl rfl) e0) Gr.RB.refl
      refine Flow.Ones.cons ?_ ?_
      ·intro a w hC hoff _
       have e1:a.eval (.tmp 1)=(.int .u64 (Mark.ofBools l:Int)):=hoff.at 1 (by kernel_rfl)
       refine .inl ⟨Flow.want_none rfl,?_⟩
       exact Flow.run_same (Flow.exec_move (.inl rfl) e1) Gr.RB.refl
      refine Flow.Ones.cons ?_ ?_
      ·intro a w hC hoff _
       have e2:a.eval (.tmp 2)=(.int .i64 (i:Int)):=hoff.at 2 (by kernel_rfl)
       refine .inl ⟨Flow.want_none rfl,?_⟩
       exact Flow.run_same (Flow.exec_move (.inl rfl) e2) Gr.RB.refl
      refine Flow.Ones.cons ?_ ?_
      ·intro a w hC hoff _
       have e10:a.eval (.tmp 10)=(.int .i64 (g.busy i)):=hoff.at 10 (by kernel_rfl)
       refine .inl ⟨Flow.want_none rfl,?_⟩
       exact Flow.run_same (Flow.exec_move (.inl rfl) e10) Gr.RB.refl
      refine Flow.Ones.cons ?_ ?_
      ·rintro a w hC hoff ⟨k7,k8,k9,k10,-⟩
       have e65:a.eval (.tmp 65)=(.pointer (some ⟨B,0,none⟩)):=k7 65 rfl
       have e66:a.eval (.tmp 66)=(.int .u64 (Mark.ofBools l:Int)):=k8 66 rfl
       have e67:a.eval (.tmp 67)=(.int .i64 (i:Int)):=k9 67 rfl
       have e68:a.eval (.tmp 68)=(.int .i64 (g.busy i)):=k10 68 rfl
       refine .inl ⟨Flow.want_none rfl,?_⟩
       obtain ⟨u,hm⟩:=HRB.out w _ hC
       exact Flow.run_call (Flow.exec_call rfl Tryz.func100 (by kernel_rfl) (by kernel_rfl) (by simp only [List.map_toArray,List.map_cons,List.map_nil,e65,e66,e67,e68] <;> rfl)) ((HFF.out w u hm).mono fun e w' ⟨he,hb,hk⟩=>⟨_,he,Gr.RB.call hm hb hk id,rfl,fun h=>by rw [h,Gr.err_err,Bool.or_true] at hk;exact hk⟩)
      refine Flow.Ones.cons ?_ ?_
      ·rintro a w hC hoff ⟨_,_,_,_,_,k6,_,_,_,_,k11,-⟩
       have e64:a.eval (.tmp 64)=(.int .i64 bk):=k6 64 rfl
       have e69:(fun v w=>v=.int .u64 (Mark.ofBools F.1:Int)∧(F.2=true→Gr.Gm w B v0 v1 (.slice (some ⟨nb,no,none⟩) g.ns.length cn) v3 lv g L (Gr.err true 0))) (a.eval (.tmp 69)) w:=k11 69 rfl
       refine .inl ⟨Flow.want_none rfl,?_⟩
       have h69:=e69.1
       refine Flow.run_same ?_ Gr.RB.refl
       clear e69 k11
       generalize a.eval=ρ at e64 h69 ⊢
       simp [execOp,e64,h69,go_sem]
      refine Flow.Ones.cons ?_ ?_
      ·rintro a w hC hoff ⟨_,_,_,_,_,_,_,_,_,_,_,k12,-⟩
       have e70:a.eval (.tmp 70)=(.agg #[.int .i64 bk,.int .u64 (Mark.ofBools F.1:Int)]):=k12 70 rfl
       refine .inl ⟨Flow.want_none rfl,?_⟩
       refine Flow.run_val (v:=.slice (some ⟨w.heap.size,0,none⟩) 1 1) (w':=w.alloc (.cells #[.int .i64 bk,.int .u64 (Mark.ofBools F.1:Int)] 99)) ?_ (Gr.RB.grow (Flow.grow_alloc _ _)) ⟨_,rfl,heap_alloc_new _ _,by have:=hC.by_.size;omega⟩
       generalize a.eval=ρ at e70 ⊢
       simp [execOp,e70,go_sem]
      exact trivial
     case stab11 =>
      simp only [Flow.Stable,and_true]
      exact ⟨fun v w w' hR ⟨h1,h2⟩=>⟨h1,fun e=>hR.wrong (h2 e)⟩,fun v w w' hR ⟨q,h1,h2,h3⟩=>⟨q,h1,by_keep hR.by_ h2 h3,h3⟩⟩
     case ends11 =>
      intro wx op1 op2 ho1 ho2 hC
      simp only [List.take_succ_cons,List.take_zero,Flow.ends]
      rintro v69 ⟨rfl,hT⟩ v71 ⟨q,rfl,hq,hqB⟩
      have h1:op1.op=.call { callee:=.builtin .append,args:=#[.tmp 58,.tmp 71],argTypes:=#[96,96] }:=by cases ho1;rfl
      have h1d:op1.dst=some 72:=by cases ho1;rfl
      have h2:op2.op=.assign (.tmp 72):=by cases ho2;rfl
      have h2d:op2.dst=some 7:=by cases ho2;rfl
      clear ho1 ho2
      have HT5:=Lib.hid (HT4.out.rb hC hT)
      simp only [Act.put,List.setIfInBounds_toArray,List.set_cons_succ,List.set_cons_zero]
      refine wp_appB W.heap.size _ _ 96 h1 99 i0 (.agg #[.int .i64 0,.int .u64 0]) 2 16 Tryz.underlying96 HI.out.1 HI.out.2.1 HI.out.2.2.1 HI.out.2.2.2 rfl (by decide) _ ts.length (ts.flatMap Gr.tcells) rfl HT5.out.own HT5.out.by_.size q [.int .i64 bk,.int .u64 (Mark.ofBools F.1:Int)] 1 1 rfl rfl (cells_of hq) (by intro u hu;simp at hu;rcases hu with rfl | rfl <;> rfl) (by omega) (by decide) (by decide) ?_
      intro v' wy ho hk
      have HT6:=Lib.hid (HT5.out.app (new:=[(bk,F)]) ho hk)
      obtain ⟨oa',oc',rfl⟩:=own_form ho
      refine Flow.run_wp (Flow.exec_move (.inr h2) rfl) ?_
      rw [h1d,h2d]
      simp only [Act.put,Act.eval,List.setIfInBounds_toArray,List.set_cons_succ,List.set_cons_zero]
      clear h1 h2 h1d h2d ho hk hC hT hq
      go_wp2_with fail
      go_meet
      case rel=>exact ⟨oa',oc',by rw [HE.out,List.length_append];rfl,Lib.hid (by rw [HE.out,Gr.bad_append,← Bool.or_assoc];simpa [Gr.bad] using HT6.out)⟩
   case rest =>
    obtain ⟨ba,bc,rfl,HT3⟩:=hcut
    rename World=>w3
    obtain ⟨c0,c1,c2,c3,c4⟩:=HT3.out.gm.cells
    have HHb2:=Lib.hid fun w=>HHas.out w (g.busy i+1) (by omega) (by omega)
    go_upto_if 81 with (first
     | (go_at_call 101;refine (HDn.out _ HT3.out.gm.at).mono ?_;rintro e w4 ⟨rfl,hg⟩;have HT4:=Lib.hid (HT3.out.grow hg);clear hg)
     | (go_at_call 77;refine (HHb2.out _).mono ?_;rintro e w' ⟨rfl,rfl⟩))
    clear c0 c1 c2 c3 c4
    cases hat:Gr.at1 (l,false) (g.busy i+1) with
    | false =>
     have HE:Hid (TS=TB):=Lib.hid (by rw [HT.out,if_neg (by rw [hat];simp),List.append_nil])
     go_wp2_with fail
     go_ret
     exact ⟨_,rfl,by rw [HE.out];exact HT4.out⟩
    | true =>
     have HE:Hid (TS=TB++[(lab,g.begun i (Gr.wo (l,false) (g.busy i+1))),(-1,g.outT i (Gr.wo (l,false) (g.busy i+1)))]):=Lib.hid (by rw [HT.out,if_pos hat])
     go_upto_region 14 with fail
     have hB4:=HT4.out.gm.lt
     obtain ⟨p,hp⟩:∃ p,p=g.busy i+1:=⟨_,rfl⟩
     have hp0:0≤p:=by omega
     have hp1:p < 64:=by omega
     rw [← hp] at HE ⊢
     clear hp
     obtain ⟨F,hF1⟩:∃ F,F=g.begun i (Gr.wo (l,false) p):=⟨_,rfl⟩
     obtain ⟨O,hO1⟩:∃ O,O=g.outT i (Gr.wo (l,false) p):=⟨_,rfl⟩
     have HFF:Hid (∀ w u,Gr.Gm w B v0 v1 (.slice (some ⟨nb,no,none⟩) g.ns.length cn) v3 lv g L (Gr.err u 0)→Calls Tryz.prog 97 #[.pointer (some ⟨B,0,none⟩),.int .u64 (Mark.ofBools l:Int),.int .i64 i,.int .i64 p] w fun e w'=>e=.returned (.agg #[.int .i64 lab,.int .u64 (Mark.ofBools F.1:Int)])∧w.grownBy w' (some B)∧Gr.Gm w' B v0 v1 (.slice (some ⟨nb,no,none⟩) g.ns.length cn) v3 lv g L (Gr.err F.2 (Gr.err u 0))):=Lib.hid fun w u hm=>by rw [hF1];exact HBn.out w u _ hm hp0 hp1
     have HOO:Hid (∀ w u vf vt,Gr.Gm w B v0 v1 (.slice (some ⟨nb,no,none⟩) g.ns.length cn) v3 lv g L (Gr.err u 0)→Ints (mask w [B]) vf [p]→Ints (mask w [B]) vt (g.out i)→Calls Tryz.prog 76 #[.pointer (some ⟨B,0,none⟩),.int .u64 (Mark.ofBools l:Int),vf,vt] w fun e w'=>e=.returned (.int .u64 (Mark.ofBools O.1:Int))∧w.grownBy w' (some B)∧Gr.Gm w' B v0 v1 (.slice (some ⟨nb,no,none⟩) g.ns.length cn) v3 lv g L (Gr.err O.2 (Gr.err u 0))):=Lib.hid fun w u vf vt hm h1 h2=>by rw [hO1];exact HMv.out w u _ vf vt _ hm hp0 hp1 HOp.out HOl.out h1 h2
     rw [← hF1,← hO1] at HE
     clear hF1 hO1
     have HRB:Hid (∀ w b,Gr.RB B v0 v1 (.slice (some ⟨nb,no,none⟩) g.ns.length cn) v3 lv g L b w4 w→∃ u,Gr.Gm w B v0 v1 (.slice (some ⟨nb,no,none⟩) g.ns.length cn) v3 lv g L (Gr.err u 0)):=Lib.hid fun w b h=>by
      obtain ⟨u',h1,_⟩:=h.gm _ HT4.out.gm
      exact ⟨u',h1⟩
     refine Flow.region_tailA (R:=Gr.RB B v0 v1 (.slice (some ⟨nb,no,none⟩) g.ns.length cn) v3 lv g L (F.2 || O.2)) (C:=Gr.RB B v0 v1 (.slice (some ⟨nb,no,none⟩) g.ns.length cn) v3 lv g L (F.2 || O.2) w4) (Fs:=[.inl ((.slice ba TB.length bc)),.inl ((.pointer (some ⟨B,0,none⟩))),.inl ((.int .u64 (Mark.ofBools l:Int))),.inl ((.int .i64 (i:Int))),.inl ((.int .i64 p)),.inr (fun v w=>v=.agg #[.int .i64 lab,.int .u64 (Mark.ofBools F.1:Int)]∧(F.2=true→Gr.Gm w B v0 v1 (.slice (some ⟨nb,no,none⟩) g.ns.length cn) v3 lv g L (Gr.err true 0))),.inl ((.pointer (some ⟨B,0,none⟩))),.inl ((.int .u64 (Mark.ofBools l:Int))),.inl ((.int .i64 p)),.inr (fun v w=>Ints (mask w [B]) v [p]),.inl ((.pointer (some ⟨B,0,none⟩))),.inl ((.pointer (some ⟨B,0,none⟩))),.inl ((.pointer (some ⟨B,0,none⟩))),.inl ((.agg #[v0,v1,.slice (some ⟨nb,no,none⟩) g.ns.length cn,v3])),.inl ((.int .i64 (i:Int))),.inr (fun v w=>Ints (mask w [B]) v (g.out i)),.inr (fun v w=>v=.int .u64 (Mark.ofBools O.1:Int)∧(O.2=true→Gr.Gm w B v0 v1 (.slice (some ⟨nb,no,none⟩) g.ns.length cn) v3 lv g L (Gr.err true 0))),.inl ((.agg #[.int .i64 (-1),.int .u64 (Mark.ofBools O.1:Int)])),.inr (fun v w=>∃ q,v=.slice (some ⟨q,0,none⟩) 2 2∧w.heap[q]? = some (.cells #[.int .i64 lab,.int .u64 (Mark.ofBools F.1:Int),.int .i64 (-1),.int .u64 (Mark.ofBools O.1:Int)] 99 (0,0))∧q≠B)])
      (S:=[[],[],[],[],[],[1,2,3,4],[],[],[],[8],[],[10],[10,11],[10,11,12],[],[10,11,12,13,14],[6,7,8,9,10,11,12,13,14,15],[6,7,8,9,10,11,12,13,14,15,16],[1,2,3,4,5,6,7,8,9,10,11,12,13,14,15,16,17],[0,1,2,3,4,5,6,7,8,9,10,11,12,13,14,15,16,17,18],[19]]) 19 (by kernel_rfl) (by kernel_rfl) (by kernel_rfl) rfl ?stab14 (fun _ _ h k=>h.trans k) (Gr.RB.grow (Flow.grow_drew _)) ?ones14 ?ends14
     case ones14 =>
      refine Flow.Ones.cons ?_ ?_
      ·intro a w hC hoff _
       have e7:a.eval (.tmp 7)=(.slice ba TB.length bc):=hoff.at 7 (by kernel_rfl)
       refine .inl ⟨Flow.want_none rfl,?_⟩
       exact Flow.run_same (Flow.exec_move (.inl rfl) e7) Gr.RB.refl
      refine Flow.Ones.cons ?_ ?_
      ·intro a w hC hoff _
       have e0:a.eval (.tmp 0)=(.pointer (some ⟨B,0,none⟩)):=hoff.at 0 (by kernel_rfl)
       refine .inl ⟨Flow.want_none rfl,?_⟩
       exact Flow.run_same (Flow.exec_move (.inl rfl) e0) Gr.RB.refl
      refine Flow.Ones.cons ?_ ?_
      ·intro a w hC hoff _
       have e1:a.eval (.tmp 1)=(.int .u64 (Mark.ofBools l:Int)):=hoff.at 1 (by kernel_rfl)
       refine .inl ⟨Flow.want_none rfl,?_⟩
       exact Flow.run_same (Flow.exec_move (.inl rfl) e1) Gr.RB.refl
      refine Flow.Ones.cons ?_ ?_
      ·intro a w hC hoff _
       have e2:a.eval (.tmp 2)=(.int .i64 (i:Int)):=hoff.at 2 (by kernel_rfl)
       refine .inl ⟨Flow.want_none rfl,?_⟩
       exact Flow.run_same (Flow.exec_move (.inl rfl) e2) Gr.RB.refl
      refine Flow.Ones.cons ?_ ?_
      ·intro a w hC hoff _
       have e13:a.eval (.tmp 13)=(.int .i64 p):=hoff.at 13 (by kernel_rfl)
       refine .inl ⟨Flow.want_none rfl,?_⟩
       exact Flow.run_same (Flow.exec_move (.inl rfl) e13) Gr.RB.refl
      refine Flow.Ones.cons ?_ ?_
      ·rintro a w hC hoff ⟨k1,k2,k3,k4,-⟩
       have e83:a.eval (.tmp 83)=(.pointer (some ⟨B,0,none⟩)):=k1 83 rfl
       have e84:a.eval (.tmp 84)=(.int .u64 (Mark.ofBools l:Int)):=k2 84 rfl
       have e85:a.eval (.tmp 85)=(.int .i64 (i:Int)):=k3 85 rfl
       have e86:a.eval (.tmp 86)=(.int .i64 p):=k4 86 rfl
       refine .inl ⟨Flow.want_none rfl,?_⟩
       obtain ⟨u,hm⟩:=HRB.out w _ hC
       exact Flow.run_call (Flow.exec_call rfl Tryz.func97 (by kernel_rfl) (by kernel_rfl) (by simp only [List.map_toArray,List.map_cons,List.map_nil,e83,e84,e85,e86] <;> rfl)) ((HFF.out w u hm).mono fun e w' ⟨he,hb,hk⟩=>⟨_,he,Gr.RB.call hm hb hk (fun h=>by rw [h];rfl),rfl,fun h=>by rw [h,Gr.err_err,Bool.or_true] at hk;exact hk⟩)
      refine Flow.Ones.cons ?_ ?_
      ·intro a w hC hoff _
       have e0:a.eval (.tmp 0)=(.pointer (some ⟨B,0,none⟩)):=hoff.at 0 (by kernel_rfl)
       refine .inl ⟨Flow.want_none rfl,?_⟩
       exact Flow.run_same (Flow.exec_move (.inl rfl) e0) Gr.RB.refl
      refine Flow.Ones.cons ?_ ?_
      ·intro a w hC hoff _
       have e1:a.eval (.tmp 1)=(.int .u64 (Mark.ofBools l:Int)):=hoff.at 1 (by kernel_rfl)
       refine .inl ⟨Flow.want_none rfl,?_⟩
       exact Flow.run_same (Flow.exec_move (.inl rfl) e1) Gr.RB.refl
      refine Flow.Ones.cons ?_ ?_
      ·intro a w hC hoff _
       have e13:a.eval (.tmp 13)=(.int .i64 p):=hoff.at 13 (by kernel_rfl)
       refine .inl ⟨Flow.want_none rfl,?_⟩
       exact Flow.run_same (Flow.exec_move (.inl rfl) e13) Gr.RB.refl
      refine Flow.Ones.cons ?_ ?_
      ·rintro a w hC hoff ⟨k8,-⟩
       have e90:a.eval (.tmp 90)=(.int .i64 p):=k8 90 rfl
       refine .inl ⟨Flow.want_none rfl,?_⟩
       refine Flow.run_val (v:=.slice (some ⟨w.heap.size,0,none⟩) 1 1) (w':=w.alloc (.cells #[.int .i64 p] 3)) ?_ (Gr.RB.grow (Flow.grow_alloc _ _)) (by obtain ⟨u,hm⟩:=HRB.out w _ hC;exact hm.one p _ (Nat.le_refl _))
       generalize a.eval=ρ at e90 ⊢
       simp [execOp,e90,go_sem]
      refine Flow.Ones.cons ?_ ?_
      ·intro a w hC hoff _
       have e0:a.eval (.tmp 0)=(.pointer (some ⟨B,0,none⟩)):=hoff.at 0 (by kernel_rfl)
       refine .inl ⟨Flow.want_none rfl,?_⟩
       exact Flow.run_same (Flow.exec_move (.inl rfl) e0) Gr.RB.refl
      refine Flow.Ones.cons ?_ ?_
      ·rintro a w hC hoff ⟨k10,-⟩
       have e92:a.eval (.tmp 92)=(.pointer (some ⟨B,0,none⟩)):=k10 92 rfl
       refine .inl ⟨Flow.want_none rfl,?_⟩
       refine Flow.run_same ?_ Gr.RB.refl
       have ec:=Flow.eval_const a
       generalize a.eval=ρ at e92 ec ⊢
       simp [execOp,e92,go_sem]
      refine Flow.Ones.cons ?_ ?_
      ·rintro a w hC hoff ⟨_,k11,-⟩
       have e93:a.eval (.tmp 93)=(.pointer (some ⟨B,0,none⟩)):=k11 93 rfl
       refine .inl ⟨Flow.want_none rfl,?_⟩
       refine Flow.run_same ?_ Gr.RB.refl
       have ec:=Flow.eval_const a
       generalize a.eval=ρ at e93 ec ⊢
       simp [execOp,e93,go_sem]
      refine Flow.Ones.cons ?_ ?_
      ·rintro a w hC hoff ⟨_,_,k12,-⟩
       have e94:a.eval (.tmp 94)=(.pointer (some ⟨B,0,none⟩)):=k12 94 rfl
       refine .inl ⟨Flow.want_none rfl,?_⟩
       refine Flow.run_same ?_ Gr.RB.refl
       have ec:=Flow.eval_const a
       generalize a.eval=ρ at e94 ec ⊢
       obtain ⟨u,hm⟩:=HRB.out w _ hC
       obtain ⟨d0,d1,d2,d3,d4⟩:=hm.cells
       simp [execOp,e94,d0,d1,d2,d3,go_sem]
      refine Flow.Ones.cons ?_ ?_
      ·intro a w hC hoff _
       have e2:a.eval (.tmp 2)=(.int .i64 (i:Int)):=hoff.at 2 (by kernel_rfl)
       refine .inl ⟨Flow.want_none rfl,?_⟩
       exact Flow.run_same (Flow.exec_move (.inl rfl) e2) Gr.RB.refl
      refine Flow.Ones.cons ?_ ?_
      ·rintro a w hC hoff ⟨_,_,_,k13,k14,-⟩
       have e95:a.eval (.tmp 95)=(.agg #[v0,v1,.slice (some ⟨nb,no,none⟩) g.ns.length cn,v3]):=k13 95 rfl
       have e96:a.eval (.tmp 96)=(.int .i64 (i:Int)):=k14 96 rfl
       refine .inl ⟨Flow.want_none rfl,?_⟩
       obtain ⟨u,hm⟩:=HRB.out w _ hC
       exact Flow.run_call (Flow.exec_call rfl Tryz.func14 (by kernel_rfl) (by kernel_rfl) (by simp only [List.map_toArray,List.map_cons,List.map_nil,e95,e96] <;> rfl)) ((HOut.out w hm.at).mono fun e w' ⟨⟨va,he,ho⟩,hg⟩=>⟨_,he,Gr.RB.grow hg,hm.own ho⟩)
      refine Flow.Ones.cons ?_ ?_
      ·rintro a w hC hoff ⟨k6,k7,_,k9,_,_,_,_,_,k15,-⟩
       have e88:a.eval (.tmp 88)=(.pointer (some ⟨B,0,none⟩)):=k6 88 rfl
       have e89:a.eval (.tmp 89)=(.int .u64 (Mark.ofBools l:Int)):=k7 89 rfl
       have e91:(fun v w=>Ints (mask w [B]) v [p]) (a.eval (.tmp 91)) w:=k9 91 rfl
       have e97:(fun v w=>Ints (mask w [B]) v (g.out i)) (a.eval (.tmp 97)) w:=k15 97 rfl
       refine .inl ⟨Flow.want_none rfl,?_⟩
       obtain ⟨u,hm⟩:=HRB.out w _ hC
       exact Flow.run_call (Flow.exec_call rfl Tryz.func76 (by kernel_rfl) (by kernel_rfl) (by simp only [List.map_toArray,List.map_cons,List.map_nil,e88,e89] <;> rfl)) ((HOO.out w u _ _ hm e91 e97).mono fun e w' ⟨he,hb,hk⟩=>⟨_,he,Gr.RB.call hm hb hk (fun h=>by rw [h,Bool.or_true]),rfl,fun h=>by rw [h,Gr.err_err,Bool.or_true] at hk;exact hk⟩)
      refine Flow.Ones.cons ?_ ?_
      ·rintro a w hC hoff ⟨_,_,_,_,_,_,_,_,_,_,k16,-⟩
       have e98:(fun v w=>v=.int .u64 (Mark.ofBools O.1:Int)∧(O.2=true→Gr.Gm w B v0 v1 (.slice (some ⟨nb,no,none⟩) g.ns.length cn) v3 lv g L (Gr.err true 0))) (a.eval (.tmp 98)) w:=k16 98 rfl
       refine .inl ⟨Flow.want_none rfl,?_⟩
       have h98:=e98.1
       refine Flow.run_same ?_ Gr.RB.refl
       have ec:=Flow.eval_const a
       clear e98
       generalize a.eval=ρ at h98 ec ⊢
       simp [execOp,h98,ec,go_sem]
      refine Flow.Ones.cons ?_ ?_
      ·rintro a w hC hoff ⟨_,_,_,_,k5,_,_,_,_,_,_,_,_,_,_,_,k17,-⟩
       have e87:(fun v w=>v=.agg #[.int .i64 lab,.int .u64 (Mark.ofBools F.1:Int)]∧(F.2=true→Gr.Gm w B v0 v1 (.slice (some ⟨nb,no,none⟩) g.ns.length cn) v3 lv g L (Gr.err true 0))) (a.eval (.tmp 87)) w:=k5 87 rfl
       have e99:a.eval (.tmp 99)=(.agg #[.int .i64 (-1),.int .u64 (Mark.ofBools O.1:Int)]):=k17 99 rfl
       refine .inl ⟨Flow.want_none rfl,?_⟩
       have h87:=e87.1
       refine Flow.run_val (v:=.slice (some ⟨w.heap.size,0,none⟩) 2 2) (w':=w.alloc (.cells #[.int .i64 lab,.int .u64 (Mark.ofBools F.1:Int),.int .i64 (-1),.int .u64 (Mark.ofBools O.1:Int)] 99)) ?_ (Gr.RB.grow (Flow.grow_alloc _ _)) ⟨_,rfl,heap_alloc_new _ _,by have:=hC.by_.size;omega⟩
       clear e87
       generalize a.eval=ρ at h87 e99 ⊢
       simp [execOp,h87,e99,go_sem]
      exact trivial
     case stab14 =>
      simp only [Flow.Stable,and_true]
      have hM:∀ (zs:List Int) (v:Value) (w w':World),Gr.RB B v0 v1 (.slice (some ⟨nb,no,none⟩) g.ns.length cn) v3 lv g L (F.2 || O.2) w w'→Ints (mask w [B]) v zs→Ints (mask w' [B]) v zs:=fun zs v w w' hR h=>Seg.sub h (mask_by hR.by_ (fun g hg=>by cases hg;simp))
      exact ⟨fun v w w' hR ⟨h1,h2⟩=>⟨h1,fun e=>hR.wrong (h2 e)⟩,hM _,hM _,fun v w w' hR ⟨h1,h2⟩=>⟨h1,fun e=>hR.wrong (h2 e)⟩,fun v w w' hR ⟨q,h1,h2,h3⟩=>⟨q,h1,by_keep hR.by_ h2 h3,h3⟩⟩
     case ends14 =>
      intro wx op1 op2 ho1 ho2 hC
      simp only [List.take_succ_cons,List.take_zero,Flow.ends]
      rintro v87 ⟨rfl,hT1⟩ v91 _ v97 _ v98 ⟨rfl,hT2⟩ v100 ⟨q,rfl,hq,hqB⟩
      have h1:op1.op=.call { callee:=.builtin .append,args:=#[.tmp 82,.tmp 100],argTypes:=#[96,96] }:=by cases ho1;rfl
      have h1d:op1.dst=some 101:=by cases ho1;rfl
      have h2:op2.op=.assign (.tmp 101):=by cases ho2;rfl
      have h2d:op2.dst=some 7:=by cases ho2;rfl
      clear ho1 ho2
      have HT5:=Lib.hid (HT4.out.rb hC (fun h=>by
       cases hf:F.2 with
       | true=>exact hT1 hf
       | false=>rw [hf,Bool.false_or] at h;exact hT2 h))
      simp only [Act.put,List.setIfInBounds_toArray,List.set_cons_succ,List.set_cons_zero]
      refine wp_appB W.heap.size _ _ 96 h1 99 i0 (.agg #[.int .i64 0,.int .u64 0]) 2 16 Tryz.underlying96 HI.out.1 HI.out.2.1 HI.out.2.2.1 HI.out.2.2.2 rfl (by decide) _ TB.length (TB.flatMap Gr.tcells) rfl HT5.out.own HT5.out.by_.size q [.int .i64 lab,.int .u64 (Mark.ofBools F.1:Int),.int .i64 (-1),.int .u64 (Mark.ofBools O.1:Int)] 2 2 rfl rfl (cells_of hq) (by intro u hu;simp at hu;rcases hu with rfl | rfl | rfl | rfl <;> rfl) (by omega) (by decide) (by decide) ?_
      intro v' wy ho hk
      have HT6:=Lib.hid (HT5.out.app (new:=[(lab,F),(-1,O)]) ho hk)
      obtain ⟨oa',oc',rfl⟩:=own_form ho
      refine Flow.run_wp (Flow.exec_move (.inr h2) rfl) ?_
      rw [h1d,h2d]
      simp only [Act.put,Act.eval,List.setIfInBounds_toArray,List.set_cons_succ,List.set_cons_zero]
      clear h1 h2 h1d h2d ho hk hC hT1 hT2 hq
      go_wp2_with fail
      go_ret
      exact ⟨_,rfl,by rw [HE.out,Gr.bad_append,← Bool.or_assoc];simpa [Gr.bad,Bool.or_assoc] using HT6.out⟩
end Go.Proofs.YtcnmaplopbbmaaaGreat
