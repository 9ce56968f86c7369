/- galliardlaw29.space and AsyncAny return true. -/
import Derived.Test.YtcpodmjcgfgmnaaSpace
import Derived.Test.YtcpodmjcgfgmnaaMAsC
import Derived.Test.YtcpodmjcgfgmnaaAwake29
import Derived.Test.YtcpodmjcgfgmnaaMFnd
import Derived.Test.YtcpodmjcgfgmnaaMBase
import Derived.Deep.DeepCutAuto
namespace Go.Proofs.Ytcpodmjcgfgmnaa
open Go.RowKit Go.Maps
namespace As
open Pr
section
variable {w:World} {room n:Nat} {cv sv bv av tv:Value} {all:List Cfg} {rl:List (List Stp × List Nat)} {rr:List (List Nat)} {bl:List Bool}
theorem ExAt.at_ (h:ExAt w room n cv sv bv all rl bl) {i:Nat} (hi:i < n):∃ (g o c:Nat) (vS vM:Value) (g' o' c' m rc:Nat) (ra:Option Addr) (g'' o'' c'':Nat),cv=.slice (some ⟨g,o,none⟩) n c∧sv=.slice (some ⟨g',o',none⟩) n c'∧bv=.slice (some ⟨g'',o'',none⟩) n c'' ∧
  w.cell? ⟨g,o+i * 4,none⟩=some vS∧w.cell? ⟨g,o+i * 4+1,none⟩=some (.int .i64 3)∧w.cell? ⟨g,o+i * 4+2,none⟩=some (.int .i64 (room:Nat))∧w.cell? ⟨g,o+i * 4+3,none⟩=some vM∧CfgAt w vS vM (all.getD i first) ∧
  w.cell? ⟨g',o'+i,none⟩=some (.slice ra m rc)∧m=(rl.getD i ([],[])).1.length∧Seg 3 w (.slice ra m rc) m (rowCells (rl.getD i ([],[])).1 (rl.getD i ([],[])).2) ∧
  w.cell? ⟨g'',o''+i,none⟩=some (.bool (bl.getD i false)):=by
 obtain ⟨h1,h2,h3⟩:=h.hn
 obtain ⟨cs,hc1,hc2,hc3⟩:=h.cfgs
 obtain ⟨rs,hr1,hr2,hr3⟩:=h.rows
 have hcl:(cfgCells room cs).length=cs.length * 4:=flat_len (f:=fun c:Value × Value=>[c.1,Value.int .i64 3,.int .i64 (room:Nat),c.2]) (m:=4) (fun _=>rfl) cs
 obtain ⟨g,o,c,hv,_,hcell⟩:=hc2.shape (by intro e;rw [e] at hcl;simp at hcl;omega)
 obtain ⟨g',o',c',hv',_,hcell'⟩:=hr2.shape (by intro e;rw [e] at hr1;simp at hr1;omega)
 obtain ⟨a'',c'',hv'',_⟩:=id h.blks
 subst hv''
 obtain ⟨g'',o'',rfl,hb⟩:=bools_at h.blks (j:=i) (by omega)
 obtain ⟨⟨vS,vM⟩,hcs⟩:∃ x,cs[i]?=some x:=⟨cs[i]'(by omega),List.getElem?_eq_getElem _⟩
 have e2:cs.getD i (undef,undef)=(vS,vM):=by rw [List.getD_eq_getElem?_getD,hcs];rfl
 have hcf:=hc3 i hi
 rw [e2] at hcf
 have t:∀ j,j < 4→w.cell? ⟨g,o+(i * 4+j),none⟩=[vS,Value.int .i64 3,.int .i64 (room:Nat),vM][j]?:=fun j hj=>by
  rw [hcell (i * 4+j) (by omega)]
  exact flat_at (f:=fun c:Value × Value=>[c.1,Value.int .i64 3,.int .i64 (room:Nat),c.2]) (fun _=>rfl) cs i j _ hcs hj
 have hrow:=hr3 i hi
 obtain ⟨ra,rc,hre,_⟩:=id hrow
 have hrc:=hcell' i (by omega)
 rw [show rs[i]?=some (rs.getD i undef) by simp [List.getD_eq_getElem?_getD,show i < rs.length by omega],hre] at hrc
 rw [hre] at hrow
 refine ⟨g,o,c,vS,vM,g',o',c',_,rc,ra,g'',o'',c'',hv,hv',by rw [h3],t 0 (by omega),t 1 (by omega),t 2 (by omega),t 3 (by omega),hcf,hrc,rfl,hrow,hb⟩
theorem SpAt.at_ (h:SpAt w n av tv bv all rr bl) {i:Nat} (hi:i < n):∃ (g o c:Nat) (vS vB:Value) (g' o' c' m rc:Nat) (ra:Option Addr) (g'' o'' c'':Nat),av=.slice (some ⟨g,o,none⟩) n c∧tv=.slice (some ⟨g',o',none⟩) n c'∧bv=.slice (some ⟨g'',o'',none⟩) n c'' ∧
  w.cell? ⟨g,o+i * 2,none⟩=some vS∧w.cell? ⟨g,o+i * 2+1,none⟩=some vB∧CfgAt w vS vB (all.getD i first) ∧
  w.cell? ⟨g',o'+i,none⟩=some (.slice ra m rc)∧m=(rr.getD i []).length∧Ints w (.slice ra m rc) ((rr.getD i []).map Int.ofNat) ∧
  w.cell? ⟨g'',o''+i,none⟩=some (.bool (bl.getD i false)):=by
 obtain ⟨h1,h2,h3⟩:=h.hn
 obtain ⟨cs,hc1,hc2,hc3⟩:=h.cfgs
 obtain ⟨rs,hr1,hr2,hr3⟩:=h.rows
 have hcl:(rcCells cs).length=cs.length * 2:=flat_len (f:=fun c:Value × Value=>[c.1,c.2]) (m:=2) (fun _=>rfl) cs
 obtain ⟨g,o,c,hv,_,hcell⟩:=hc2.shape (by intro e;rw [e] at hcl;simp at hcl;omega)
 obtain ⟨g',o',c',hv',_,hcell'⟩:=hr2.shape (by intro e;rw [e] at hr1;simp at hr1;omega)
 obtain ⟨a'',c'',hv'',_⟩:=id h.blks
 subst hv''
 obtain ⟨g'',o'',rfl,hb⟩:=bools_at h.blks (j:=i) (by omega)
 obtain ⟨⟨vS,vB⟩,hcs⟩:∃ x,cs[i]?=some x:=⟨cs[i]'(by omega),List.getElem?_eq_getElem _⟩
 have e2:cs.getD i (undef,undef)=(vS,vB):=by rw [List.getD_eq_getElem?_getD,hcs];rfl
 have hcf:=hc3 i hi
 rw [e2] at hcf
 have t:∀ j,j < 2→w.cell? ⟨g,o+(i * 2+j),none⟩=[vS,vB][j]?:=fun j hj=>by
  rw [hcell (i * 2+j) (by omega)]
  exact flat_at (f:=fun c:Value × Value=>[c.1,c.2]) (fun _=>rfl) cs i j _ hcs hj
 have hrow:=hr3 i hi
 obtain ⟨ra,rc,hre,_⟩:=id hrow
 have hrc:=hcell' i (by omega)
 rw [show rs[i]?=some (rs.getD i undef) by simp [List.getD_eq_getElem?_getD,show i < rs.length by omega],hre] at hrc
 rw [hre] at hrow
 refine ⟨g,o,c,vS,vB,g',o',c',_,rc,ra,g'',o'',c'',hv,hv',by rw [h3],t 0 (by omega),t 1 (by omega),hcf,hrc,by simp,hrow,hb⟩
theorem getD_range {α:Type} {f:Nat→α} {d:α} {n i:Nat} (h:i < n):((List.range n).map f).getD i d=f i:=by simp [List.getD_eq_getElem?_getD,h]
end
end As
open As in
set_option maxRecDepth 100000 in
set_option maxHeartbeats 4000000 in
theorem space29_any (L room:Nat) (vp vl:Value) (css:List (List Value)) (ps:List Pr.Pd) (W:World) (h1:1≤room) (h8:room≤8) (hL:L≤4) (hP:Pr.PeersAt W vp (Pr.labsL L) css ps) (hLs:Pr.LsAt W vl (Pr.labsL L)) :
  Calls Try.prog 8 #[vp,vl,.int .i64 (room:Nat)] W fun e w'=>e=.returned (.bool true)∧Flow.Grow W w':=by
 have HSp:=Lib.hid (space_any L room 60 vp vl css ps W h8 hL (by decide) (by decide) hP hLs)
 have HEx:=Lib.hid (fun wq (g:Flow.Grow W wq)=>explore_any L room vp vl css ps wq h1 h8 hL (hP.grow g) (hLs.grow g))
 have HPa:=Lib.hid hP
 have HLs:=Lib.hid hLs
 have HOk:Hid (∀ j,j < 3→(ps.getD j default).Ok (Pr.labsL L) j):=Lib.hid (by
  obtain ⟨_,_,_,_,_,hpa⟩:=hP.at_
  intro j hj
  obtain ⟨_,_,_,p,hp,_,_,_,_,_,_,_,_,_,f9⟩:=hpa j hj
  rw [← hp]
  exact f9)
 obtain ⟨pb,po,pc,rfl,_,_⟩:=hP.at_
 obtain ⟨al,cl,rfl,_⟩:=id hLs
 clear hP hLs
 have HPo:Hid (∀ e w',SpPost ps L room 60 e w'→(e=.returned (.tuple #[.slice none 0 0,.slice none 0 0,.slice none 0 0,.bool false])∧As.Beyond (sf ps L room) 60)∨(∃ (n:Nat) (aa:Option Addr) (ac:Nat) (ta:Option Addr) (tc:Nat) (ba:Option Addr) (bc:Nat),e=.returned (.tuple #[.slice aa n ac,.slice ta n tc,.slice ba n bc,.bool true])∧As.Ends (sf ps L room) n∧n≤60∧SpAt w' n (.slice aa n ac) (.slice ta n tc) (.slice ba n bc) (stage (sf ps L room) n) (rrF (sf ps L room) n) (blF (bf ps L room) (sf ps L room) n))):=Lib.hid (fun e w' h=>h)
 go_enter Try.func8,Try.ntmps8
 go_upto_region 2 with (go_at_call 22;refine HSp.out.mono ?_;rintro e w1 ⟨hr,hg⟩;have HG1:=Lib.hid hg;rcases HPo.out _ _ hr with ⟨rfl,hby⟩ | ⟨n,aa,ac,ta,tc,ba,bc,rfl,hen,hn60,hsp⟩)
 ·have HBy:=Lib.hid hby
  clear hby
  go_upto_region 3 with (go_at_call 16;refine (HEx.out _ HG1.out).mono ?_;rintro e w2 ⟨hr2,hg2⟩;have HG2:=Lib.hid hg2;rcases hr2 with ⟨rfl,_⟩ | ⟨n,ca,cc,sa,sc,ba,bc,rfl,hen,_,_⟩)
  ·clear hr hg hg2
   have HBw30:Hid ((w2.alloc (.cells #[.slice none 0 0,.slice none 0 0,.slice none 0 0] 65)).heap[w2.heap.size]?=some (.cells #[.slice none 0 0,.slice none 0 0,.slice none 0 0] 65 (0,0))):=Lib.hid (lay1_0 _ _)
   have HGw3:Hid (Flow.Grow w2 (w2.alloc (.cells #[.slice none 0 0,.slice none 0 0,.slice none 0 0] 65))):=Lib.hid (lay1_g _ _)
   have HSw3:Hid ((w2.alloc (.cells #[.slice none 0 0,.slice none 0 0,.slice none 0 0] 65)).heap.size=w2.heap.size+1):=Lib.hid (by simp)
   generalize w2.alloc (.cells #[.slice none 0 0,.slice none 0 0,.slice none 0 0] 65)=w3 at *
   obtain ⟨X,hX⟩:∃ X,X=w2.heap.size:=⟨_,rfl⟩
   rw [← hX] at HBw30 HSw3 ⊢
   have HXw3:=Lib.hid hX
   clear hX
   have CXw3:Hid (∀ wq,Flow.Grow w3 wq→wq.cell? ⟨X,0,none⟩=some (.slice none 0 0)∧wq.cell? ⟨X,1,none⟩=some (.slice none 0 0)∧wq.cell? ⟨X,2,none⟩=some (.slice none 0 0)):=Lib.hid (fun wq g=>⟨lay_cell g HBw30.out rfl,lay_cell g HBw30.out rfl,lay_cell g HBw30.out rfl⟩)
   have FXw3:Hid (∀ wq,Flow.Grow w3 wq→(∀ k,wq.frozen? ⟨X,k,none⟩=false)):=Lib.hid (fun wq g=>fun k=>lay_frozen g HBw30.out k)
   go_wp2_with fail
   go_ret
   exact ⟨rfl,HG1.out.trans (HG2.out.trans HGw3.out)⟩
  ·have hn60:=hen.more HBy.out
   have d1:decide ((n:Int) > 60)=true:=by simp;omega
   have d2:60 < (n:Int):=by omega
   have HBw30:Hid ((w2.alloc (.cells #[.slice ca n cc,.slice sa n sc,.slice ba n bc] 65)).heap[w2.heap.size]?=some (.cells #[.slice ca n cc,.slice sa n sc,.slice ba n bc] 65 (0,0))):=Lib.hid (lay1_0 _ _)
   have HGw3:Hid (Flow.Grow w2 (w2.alloc (.cells #[.slice ca n cc,.slice sa n sc,.slice ba n bc] 65))):=Lib.hid (lay1_g _ _)
   have HSw3:Hid ((w2.alloc (.cells #[.slice ca n cc,.slice sa n sc,.slice ba n bc] 65)).heap.size=w2.heap.size+1):=Lib.hid (by simp)
   generalize w2.alloc (.cells #[.slice ca n cc,.slice sa n sc,.slice ba n bc] 65)=w3 at *
   obtain ⟨X,hX⟩:∃ X,X=w2.heap.size:=⟨_,rfl⟩
   rw [← hX] at HBw30 HSw3 ⊢
   have HXw3:=Lib.hid hX
   clear hX
   have CXw3:Hid (∀ wq,Flow.Grow w3 wq→wq.cell? ⟨X,0,none⟩=some (.slice ca n cc)∧wq.cell? ⟨X,1,none⟩=some (.slice sa n sc)∧wq.cell? ⟨X,2,none⟩=some (.slice ba n bc)):=Lib.hid (fun wq g=>⟨lay_cell g HBw30.out rfl,lay_cell g HBw30.out rfl,lay_cell g HBw30.out rfl⟩)
   have FXw3:Hid (∀ wq,Flow.Grow w3 wq→(∀ k,wq.frozen? ⟨X,k,none⟩=false)):=Lib.hid (fun wq g=>fun k=>lay_frozen g HBw30.out k)
   obtain ⟨c00,c01,c02⟩:=CXw3.out w3 (Flow.grow_refl _)
   go_wp2_with fail
   go_ret
   exact ⟨rfl,HG1.out.trans (HG2.out.trans HGw3.out)⟩
 ·have HEn:=Lib.hid hen
  have HSa:=Lib.hid hsp
  clear hen hsp
  go_upto_region 3 with (go_at_call 16;refine (HEx.out _ HG1.out).mono ?_;rintro e w2 ⟨hr2,hg2⟩;have HG2:=Lib.hid hg2;rcases hr2 with ⟨rfl,hb⟩ | ⟨n',ca,cc,sa,sc,da,dc,rfl,hen,_,hex⟩)
  ·have:=HEn.out.more hb
   omega
  ·obtain rfl:n'=n:=hen.uniq HEn.out
   have HEa:=Lib.hid hex
   clear hen hex
   rename_i n
   have HBw30:Hid ((w2.alloc (.cells #[.slice ca n' cc,.slice sa n' sc,.slice da n' dc] 65)).heap[w2.heap.size]?=some (.cells #[.slice ca n' cc,.slice sa n' sc,.slice da n' dc] 65 (0,0))):=Lib.hid (lay1_0 _ _)
   have HGw3:Hid (Flow.Grow w2 (w2.alloc (.cells #[.slice ca n' cc,.slice sa n' sc,.slice da n' dc] 65))):=Lib.hid (lay1_g _ _)
   have HSw3:Hid ((w2.alloc (.cells #[.slice ca n' cc,.slice sa n' sc,.slice da n' dc] 65)).heap.size=w2.heap.size+1):=Lib.hid (by simp)
   generalize w2.alloc (.cells #[.slice ca n' cc,.slice sa n' sc,.slice da n' dc] 65)=w3 at *
   obtain ⟨X,hX⟩:∃ X,X=w2.heap.size:=⟨_,rfl⟩
   rw [← hX] at HBw30 HSw3 ⊢
   have HXw3:=Lib.hid hX
   clear hX
   have CXw3:Hid (∀ wq,Flow.Grow w3 wq→wq.cell? ⟨X,0,none⟩=some (.slice ca n' cc)∧wq.cell? ⟨X,1,none⟩=some (.slice sa n' sc)∧wq.cell? ⟨X,2,none⟩=some (.slice da n' dc)):=Lib.hid (fun wq g=>⟨lay_cell g HBw30.out rfl,lay_cell g HBw30.out rfl,lay_cell g HBw30.out rfl⟩)
   have FXw3:Hid (∀ wq,Flow.Grow w3 wq→(∀ k,wq.frozen? ⟨X,k,none⟩=false)):=Lib.hid (fun wq g=>fun k=>lay_frozen g HBw30.out k)
   obtain ⟨c00,c01,c02⟩:=CXw3.out w3 (Flow.grow_refl _)
   have e0:((n':Int) != (n':Int))=false:=by simp
   go_wp2_with fail
   clear c00 c01 c02
   go_loopw [13] (fun iv wr=>∃ i:Nat,i≤n'∧iv=.int .i64 i∧Hid (Flow.Grow w3 wr)) (fun iv _=>n' - (intOf iv).toNat)
   case atStart=>exact ⟨0,by omega,rfl,Lib.hid (Flow.grow_refl _)⟩
   case round =>
    obtain ⟨i,hi,rfl,HG⟩:=hrel
    rename World=>wo
    by_cases hin:i < n'
    ·obtain ⟨g,o,c,vS,vM,g',o',c',m,rc,ra,g'',o'',c'',e1,e2,e3,x0,x1,x2,x3,hcx,y0,hm,hsx,z0⟩:=HEa.out.at_ hin
     obtain ⟨q,r,c2,uS,uB,q',r',c2',m2,rc2,ra2,q'',r'',c2'',f1,f2,f3,s0,s1,hcs,t0,hm2,hin2,b0⟩:=HSa.out.at_ hin
     obtain ⟨rfl,rfl⟩:ca=some ⟨g,o,none⟩∧cc=c:=by injection e1 with a b c;exact ⟨a,c⟩
     obtain ⟨rfl,rfl⟩:sa=some ⟨g',o',none⟩∧sc=c':=by injection e2 with a b c;exact ⟨a,c⟩
     obtain ⟨rfl,rfl⟩:da=some ⟨g'',o'',none⟩∧dc=c'':=by injection e3 with a b c;exact ⟨a,c⟩
     obtain ⟨rfl,rfl⟩:aa=some ⟨q,r,none⟩∧ac=c2:=by injection f1 with a b c;exact ⟨a,c⟩
     obtain ⟨rfl,rfl⟩:ta=some ⟨q',r',none⟩∧tc=c2':=by injection f2 with a b c;exact ⟨a,c⟩
     obtain ⟨rfl,rfl⟩:ba=some ⟨q'',r'',none⟩∧bc=c2'':=by injection f3 with a b c;exact ⟨a,c⟩
     have hci:(stage (sf ps L room) n').getD i first=(stage (sf ps L room) i).getD i first:=stage_getD _ (by omega) (HEn.out.2 i hin)
     have hgd:Gd ps room ((stage (sf ps L room) i).getD i first):=by
      rw [List.getD_eq_getElem?_getD,List.getElem?_eq_getElem (HEn.out.2 i hin)]
      exact stage_gd hL HOk.out i _ (List.getElem_mem _)
     rw [hci] at hcx hcs
     rw [rlF,getD_range hin] at hm hsx
     rw [rrF,getD_range hin] at hm2 hin2
     rw [blF,getD_range hin] at z0 b0
     simp only at hm hsx
     rw [tos_len] at hm2
     generalize (stage (sf ps L room) i).getD i first=ci at *
     have Hgd:=Lib.hid hgd
     have hts:=tos_len (stage (sf ps L room) i) (sf ps L room ci)
     generalize tos (stage (sf ps L room) i) (sf ps L room ci)=ts at *
     obtain ⟨l,hl⟩:∃ l,l=sf ps L room ci:=⟨_,rfl⟩
     obtain ⟨bk,hbk⟩:∃ b,b=bf ps L room ci:=⟨_,rfl⟩
     rw [← hl] at hm hsx hm2 hts
     rw [← hbk] at z0 b0
     have hm12:m≤12:=by
      rw [hm,hl]
      refine stepsI_len (i:=3) fun j hj=>?_
      rw [(HOk.out j hj).acts]
      have:=Pr.acts_len j (Pr.labsL L) (Pr.labsL L).length
      have:=Pr.labsL_len hL
      omega
     obtain rfl:m2=m:=by omega
     have Hm:=Lib.hid hm
     have Hl:=Lib.hid hl
     have Hts:=Lib.hid hts
     have g13:=HG1.out
     have gx:Flow.Grow w2 wo:=HGw3.out.trans HG.out
     have gs:Flow.Grow w1 wo:=HG2.out.trans gx
     have HSx:=Lib.hid (hsx.grow gx)
     have HIn:=Lib.hid (hin2.grow gs)
     have HCx:=Lib.hid (hcx.grow gx)
     have HCs:=Lib.hid (hcs.grow gs)
     obtain ⟨ua,uc,mb,mo,mc,rfl,rfl⟩:=HCx.out.form hgd.wf.len hgd.wf.boxes
     obtain ⟨ta',tc',nb,no,nc,rfl,rfl⟩:=HCs.out.form hgd.wf.len hgd.wf.boxes
     have hbl:∀ j,(ci.2.getD j []).length≤100000:=fun j=>by have:=hgd.bl j;omega
     have HStp:=Lib.hid (refSteps_any L room _ _ _ _ css ps ci wo wo (Sub.refl _) hL (by omega) (HPa.out.grow (g13.trans gs)) (HLs.out.grow (g13.trans gs)) HCs.out hgd.wf hbl)
     have hl':stepsI ps (Pr.labsL L) room ci 3=l:=hl.symm
     have hbk':blkI ps (Pr.labsL L) room ci 3=bk:=hbk.symm
     rw [hl',hbk'] at HStp
     have HAl:Hid (∀ wq,Flow.Grow wo wq→Calls Try.prog 14 #[.agg #[.slice ua 3 uc,.int .i64 3,.int .i64 (room:Nat),.slice (some ⟨mb,mo,none⟩) 9 mc],.agg #[.slice ta' 3 tc',.slice (some ⟨nb,no,none⟩) 9 nc],.int .i64 3] wq fun e w'=>∃ v,e=.returned v∧Flow.Grow wq w'∧v=.bool true):=Lib.hid (fun wq gg=>by
      refine (alike_any room _ _ _ _ ci wq hgd.wf.boxes hgd.wf.len hbl (HCx.out.grow gg) (HCs.out.grow gg)).mono ?_
      rintro e w' ⟨rfl,hg⟩
      exact ⟨_,rfl,hg,rfl⟩)
     have HAe:Hid (∀ wq,Flow.Grow wo wq→Calls Try.prog 21 #[.slice (some ⟨pb,po,none⟩) 3 pc,.agg #[.slice ua 3 uc,.int .i64 3,.int .i64 (room:Nat),.slice (some ⟨mb,mo,none⟩) 9 mc]] wq fun e w'=>∃ v,e=.returned v∧Flow.Grow wq w'∧v=.bool (endsB ps ci)):=Lib.hid (fun wq gg=>by
      refine (asyncEnds_any room _ _ _ _ css ps ci wq (HPa.out.grow (g13.trans (gs.trans gg))) hgd.wf hbl (HCx.out.grow gg)).mono ?_
      rintro e w' ⟨rfl,hg⟩
      exact ⟨_,rfl,hg,rfl⟩)
     have HRe:Hid (∀ wq,Flow.Grow wo wq→Calls Try.prog 23 #[.slice (some ⟨pb,po,none⟩) 3 pc,.agg #[.slice ta' 3 tc',.slice (some ⟨nb,no,none⟩) 9 nc]] wq fun e w'=>∃ v,e=.returned v∧Flow.Grow wq w'∧v=.bool (endsB ps ci)):=Lib.hid (fun wq gg=>by
      refine (refEnds_any _ _ _ _ css ps ci wq (HPa.out.grow (g13.trans (gs.trans gg))) hgd.wf hbl (HCs.out.grow gg)).mono ?_
      rintro e w' ⟨rfl,hg⟩
      exact ⟨_,rfl,hg,rfl⟩)
     generalize endsB ps ci=eb at *
     have HXc:Hid (∀ wq,Flow.Grow wo wq→wq.cell? ⟨g,o+i * 4,none⟩=some (.slice ua 3 uc)∧wq.cell? ⟨g,o+i * 4+1,none⟩=some (.int .i64 3)∧wq.cell? ⟨g,o+i * 4+2,none⟩=some (.int .i64 (room:Nat))∧wq.cell? ⟨g,o+i * 4+3,none⟩=some (.slice (some ⟨mb,mo,none⟩) 9 mc)):=Lib.hid (fun wq gg=>⟨Xm2.cell_grow (gx.trans gg) x0,Xm2.cell_grow (gx.trans gg) x1,Xm2.cell_grow (gx.trans gg) x2,Xm2.cell_grow (gx.trans gg) x3⟩)
     have HSc:Hid (∀ wq,Flow.Grow wo wq→wq.cell? ⟨q,r+i * 2,none⟩=some (.slice ta' 3 tc')∧wq.cell? ⟨q,r+i * 2+1,none⟩=some (.slice (some ⟨nb,no,none⟩) 9 nc)):=Lib.hid (fun wq gg=>⟨Xm2.cell_grow (gs.trans gg) s0,Xm2.cell_grow (gs.trans gg) s1⟩)
     have HRc:Hid (∀ wq,Flow.Grow wo wq→wq.cell? ⟨g',o'+i,none⟩=some (.slice ra m2 rc)∧wq.cell? ⟨q',r'+i,none⟩=some (.slice ra2 m2 rc2)∧wq.cell? ⟨g'',o''+i,none⟩=some (.bool bk)∧wq.cell? ⟨q'',r''+i,none⟩=some (.bool bk)):=Lib.hid (fun wq gg=>⟨Xm2.cell_grow (gx.trans gg) y0,Xm2.cell_grow (gs.trans gg) t0,Xm2.cell_grow (gx.trans gg) z0,Xm2.cell_grow (gs.trans gg) b0⟩)
     have HXX:Hid (∀ wq,Flow.Grow wo wq→wq.cell? ⟨X,0,none⟩=some (.slice (some ⟨g,o,none⟩) n' cc)∧wq.cell? ⟨X,1,none⟩=some (.slice (some ⟨g',o',none⟩) n' sc)∧wq.cell? ⟨X,2,none⟩=some (.slice (some ⟨g'',o'',none⟩) n' dc)):=Lib.hid (fun wq gg=>CXw3.out wq (HG.out.trans gg))
     obtain ⟨s0',s1'⟩:=HSc.out wo (Flow.grow_refl _)
     clear x0 x1 x2 x3 y0 z0 s0 s1 t0 b0 e1 e2 e3 f1 f2 f3 hsx hin2 hcx hcs hl hbk hl' hbk' hm hm2 hts hgd hbl gx gs g13 hci
     have hi0:(0:Int)≤(i:Int):=by omega
     have hid:(i:Int) < (n':Int):=by omega
     have hid':decide ((i:Int) < (n':Int))=true:=by simp;omega
     go_upto_region 11 with (go_at_call 11;refine HStp.out.mono ?_;rintro e w5 ⟨⟨oa,oc,rfl,hst⟩,hg⟩;have HSt:=Lib.hid hst;have HG5:=Lib.hid hg;clear hst hg)
     rw [← Hm.out]
     clear s0' s1' HStp
     refine Flow.regionG (C:=fun _ wq=>Flow.Grow w5 wq) (Fs:=[.inl ((.pointer (some ⟨X,0,none⟩))),.inl ((.slice (some ⟨g,o,none⟩) n' cc)),.inl ((.int .i64 (i:Int))),.inl ((.pointer (some ⟨g,o+i * 4,none⟩))),.inl ((.agg #[.slice ua 3 uc,.int .i64 3,.int .i64 (room:Nat),.slice (some ⟨mb,mo,none⟩) 9 mc])),.inl ((.slice (some ⟨q,r,none⟩) n' ac)),.inl ((.int .i64 (i:Int))),.inl ((.pointer (some ⟨q,r+i * 2,none⟩))),.inl ((.agg #[.slice ta' 3 tc',.slice (some ⟨nb,no,none⟩) 9 nc])),.inl ((.slice (some ⟨pb,po,none⟩) 3 pc)),.inl ((.int .i64 3)),.inl ((.bool true)),.inl ((.bool false)),.inl ((.bool false)),.inl ((.pointer (some ⟨X,2,none⟩))),.inl ((.slice (some ⟨g'',o'',none⟩) n' dc)),.inl ((.int .i64 (i:Int))),.inl ((.pointer (some ⟨g'',o''+i,none⟩))),.inl ((.bool bk)),.inl ((.slice (some ⟨q'',r'',none⟩) n' bc)),.inl ((.int .i64 (i:Int))),.inl ((.pointer (some ⟨q'',r''+i,none⟩))),.inl ((.bool bk)),.inl ((.bool false)),.inl ((.bool false)),.inl ((.bool false)),.inl ((.pointer (some ⟨X,1,none⟩))),.inl ((.slice (some ⟨g',o',none⟩) n' sc)),.inl ((.int .i64 (i:Int))),.inl ((.pointer (some ⟨g',o'+i,none⟩))),.inl ((.slice ra m2 rc)),.inl ((.int .i64 (m2:Nat))),.inl ((.slice oa m2 oc)),.inl ((.int .i64 (m2:Nat))),.inl ((.bool false)),.inl ((.bool false)),.inl ((.bool false)),.inl ((.slice (some ⟨pb,po,none⟩) 3 pc)),.inl ((.pointer (some ⟨X,0,none⟩))),.inl ((.slice (some ⟨g,o,none⟩) n' cc)),.inl ((.int .i64 (i:Int))),.inl ((.pointer (some ⟨g,o+i * 4,none⟩))),.inl ((.agg #[.slice ua 3 uc,.int .i64 3,.int .i64 (room:Nat),.slice (some ⟨mb,mo,none⟩) 9 mc])),.inl ((.bool eb)),.inl ((.slice (some ⟨pb,po,none⟩) 3 pc)),.inl ((.slice (some ⟨q,r,none⟩) n' ac)),.inl ((.int .i64 (i:Int))),.inl ((.pointer (some ⟨q,r+i * 2,none⟩))),.inl ((.agg #[.slice ta' 3 tc',.slice (some ⟨nb,no,none⟩) 9 nc])),.inl ((.bool eb)),.inl ((.bool false)),.inl ((.bool false))])
      [[],[0],[],[1,2],[3],[],[],[5,6],[7],[],[9],[4,8,10],[11],[12],[13],[14,13],[13],[15,16,13],[17,13],[13],[13],[19,20,13],[21,13],[18,22,13],[13,23],[24],[25],[26,25],[25],[27,28,25],[29,25],[30,25],[25],[32,25],[31,33,25],[25,34],[35],[36],[36],[38,36],[36],[39,40,36],[41,36],[37,42,36],[36],[36],[36],[45,46,36],[47,36],[44,48,36],[43,49,36],[36,50]] [[],[0],[],[0,1,2],[0,1,2,3],[],[],[5,6],[5,6,7],[],[9],[0,1,2,3,4,5,6,7,8,9,10],[0,1,2,3,4,5,6,7,8,9,10,11],[0,1,2,3,4,5,6,7,8,9,10,11,12],[0,1,2,3,4,5,6,7,8,9,10,11,12,13],[0,1,2,3,4,5,6,7,8,9,10,11,12,13,14],[0,1,2,3,4,5,6,7,8,9,10,11,12,13],[0,1,2,3,4,5,6,7,8,9,10,11,12,13,14,15,16],[0,1,2,3,4,5,6,7,8,9,10,11,12,13,14,15,16,17],[0,1,2,3,4,5,6,7,8,9,10,11,12,13],[0,1,2,3,4,5,6,7,8,9,10,11,12,13],[0,1,2,3,4,5,6,7,8,9,10,11,12,13,19,20],[0,1,2,3,4,5,6,7,8,9,10,11,12,13,19,20,21],[0,1,2,3,4,5,6,7,8,9,10,11,12,13,14,15,16,17,18,19,20,21,22],[0,1,2,3,4,5,6,7,8,9,10,11,12,13,14,15,16,17,18,19,20,21,22,23],[0,1,2,3,4,5,6,7,8,9,10,11,12,13,14,15,16,17,18,19,20,21,22,23,24],[0,1,2,3,4,5,6,7,8,9,10,11,12,13,14,15,16,17,18,19,20,21,22,23,24,25],[0,1,2,3,4,5,6,7,8,9,10,11,12,13,14,15,16,17,18,19,20,21,22,23,24,25,26],[0,1,2,3,4,5,6,7,8,9,10,11,12,13,14,15,16,17,18,19,20,21,22,23,24,25],[0,1,2,3,4,5,6,7,8,9,10,11,12,13,14,15,16,17,18,19,20,21,22,23,24,25,26,27,28],[0,1,2,3,4,5,6,7,8,9,10,11,12,13,14,15,16,17,18,19,20,21,22,23,24,25,26,27,28,29],[0,1,2,3,4,5,6,7,8,9,10,11,12,13,14,15,16,17,18,19,20,21,22,23,24,25,26,27,28,29,30],[0,1,2,3,4,5,6,7,8,9,10,11,12,13,14,15,16,17,18,19,20,21,22,23,24,25],[0,1,2,3,4,5,6,7,8,9,10,11,12,13,14,15,16,17,18,19,20,21,22,23,24,25,32],[0,1,2,3,4,5,6,7,8,9,10,11,12,13,14,15,16,17,18,19,20,21,22,23,24,25,26,27,28,29,30,31,32,33],[0,1,2,3,4,5,6,7,8,9,10,11,12,13,14,15,16,17,18,19,20,21,22,23,24,25,26,27,28,29,30,31,32,33,34],[0,1,2,3,4,5,6,7,8,9,10,11,12,13,14,15,16,17,18,19,20,21,22,23,24,25,26,27,28,29,30,31,32,33,34,35],[0,1,2,3,4,5,6,7,8,9,10,11,12,13,14,15,16,17,18,19,20,21,22,23,24,25,26,27,28,29,30,31,32,33,34,35,36],[0,1,2,3,4,5,6,7,8,9,10,11,12,13,14,15,16,17,18,19,20,21,22,23,24,25,26,27,28,29,30,31,32,33,34,35,36],[0,1,2,3,4,5,6,7,8,9,10,11,12,13,14,15,16,17,18,19,20,21,22,23,24,25,26,27,28,29,30,31,32,33,34,35,36,38],[0,1,2,3,4,5,6,7,8,9,10,11,12,13,14,15,16,17,18,19,20,21,22,23,24,25,26,27,28,29,30,31,32,33,34,35,36],[0,1,2,3,4,5,6,7,8,9,10,11,12,13,14,15,16,17,18,19,20,21,22,23,24,25,26,27,28,29,30,31,32,33,34,35,36,38,39,40],[0,1,2,3,4,5,6,7,8,9,10,11,12,13,14,15,16,17,18,19,20,21,22,23,24,25,26,27,28,29,30,31,32,33,34,35,36,38,39,40,41],[0,1,2,3,4,5,6,7,8,9,10,11,12,13,14,15,16,17,18,19,20,21,22,23,24,25,26,27,28,29,30,31,32,33,34,35,36,37,38,39,40,41,42],[0,1,2,3,4,5,6,7,8,9,10,11,12,13,14,15,16,17,18,19,20,21,22,23,24,25,26,27,28,29,30,31,32,33,34,35,36],[0,1,2,3,4,5,6,7,8,9,10,11,12,13,14,15,16,17,18,19,20,21,22,23,24,25,26,27,28,29,30,31,32,33,34,35,36],[0,1,2,3,4,5,6,7,8,9,10,11,12,13,14,15,16,17,18,19,20,21,22,23,24,25,26,27,28,29,30,31,32,33,34,35,36],[0,1,2,3,4,5,6,7,8,9,10,11,12,13,14,15,16,17,18,19,20,21,22,23,24,25,26,27,28,29,30,31,32,33,34,35,36,45,46],[0,1,2,3,4,5,6,7,8,9,10,11,12,13,14,15,16,17,18,19,20,21,22,23,24,25,26,27,28,29,30,31,32,33,34,35,36,45,46,47],[0,1,2,3,4,5,6,7,8,9,10,11,12,13,14,15,16,17,18,19,20,21,22,23,24,25,26,27,28,29,30,31,32,33,34,35,36,44,45,46,47,48],[0,1,2,3,4,5,6,7,8,9,10,11,12,13,14,15,16,17,18,19,20,21,22,23,24,25,26,27,28,29,30,31,32,33,34,35,36,37,38,39,40,41,42,43,44,45,46,47,48,49],[0,1,2,3,4,5,6,7,8,9,10,11,12,13,14,15,16,17,18,19,20,21,22,23,24,25,26,27,28,29,30,31,32,33,34,35,36,37,38,39,40,41,42,43,44,45,46,47,48,49,50]] [51] (by kernel_rfl) (by kernel_rfl) (by kernel_rfl) rfl (Flow.grow_drew _) ?ones11 ?ends11
     case ones11 =>
      refine Flow.OnesG.start (by exact trivial) (fun L w w' i=>(fun _ _ h g=>h.trans g) w w') fun HST HCG=>?_
      refine Flow.oq rfl HST HCG ?_ ?_
      ·intro L a w hC hLi hoff _
       have e11:a.eval (.tmp 11)=(.pointer (some ⟨X,0,none⟩)):=hoff.at2 11 0 hLi (by kernel_rfl)
       refine Flow.gs rfl ?_
       generalize a.eval=ρ at e11 ⊢
       simp [execOp,e11,go_sem]
      refine Flow.oq rfl HST HCG ?_ ?_
      ·rintro L a w hC hLi hoff ⟨k0,-⟩
       have e90:=Flow.kv k0 rfl rfl
       refine Flow.gs rfl ?_
       generalize a.eval=ρ at e90 ⊢
       obtain ⟨h0,_⟩:=HXX.out w (HG5.out.trans hC)
       simp [execOp,e90,h0,go_sem]
      refine Flow.oq rfl HST HCG ?_ ?_
      ·intro L a w hC hLi hoff _
       exact Flow.gs rfl (Flow.exec_move (.inl rfl) (hoff.at2 13 2 hLi (by kernel_rfl)))
      refine Flow.oq rfl HST HCG ?_ ?_
      ·rintro L a w hC hLi hoff ⟨k1,k2,-⟩
       have e91:=Flow.kv k1 rfl rfl
       have e92:=Flow.kv k2 rfl rfl
       refine Flow.gs rfl ?_
       generalize a.eval=ρ at e91 e92 ⊢
       simp [execOp,e91,e92,go_sem];intro hh;omega
      refine Flow.oq rfl HST HCG ?_ ?_
      ·rintro L a w hC hLi hoff ⟨k3,-⟩
       have e93:=Flow.kv k3 rfl rfl
       refine Flow.gs rfl ?_
       generalize a.eval=ρ at e93 ⊢
       obtain ⟨h0,h1,h2,h3⟩:=HXc.out w (HG5.out.trans hC)
       simp [execOp,e93,h0,h1,h2,h3,go_sem]
      refine Flow.oq rfl HST HCG ?_ ?_
      ·intro L a w hC hLi hoff _
       exact Flow.gs rfl (Flow.exec_move (.inl rfl) (hoff.at2 7 5 hLi (by kernel_rfl)))
      refine Flow.oq rfl HST HCG ?_ ?_
      ·intro L a w hC hLi hoff _
       exact Flow.gs rfl (Flow.exec_move (.inl rfl) (hoff.at2 13 6 hLi (by kernel_rfl)))
      refine Flow.oq rfl HST HCG ?_ ?_
      ·rintro L a w hC hLi hoff ⟨k5,k6,-⟩
       have e95:=Flow.kv k5 rfl rfl
       have e96:=Flow.kv k6 rfl rfl
       refine Flow.gs rfl ?_
       generalize a.eval=ρ at e95 e96 ⊢
       simp [execOp,e95,e96,go_sem];intro hh;omega
      refine Flow.oq rfl HST HCG ?_ ?_
      ·rintro L a w hC hLi hoff ⟨k7,-⟩
       have e97:=Flow.kv k7 rfl rfl
       refine Flow.gs rfl ?_
       generalize a.eval=ρ at e97 ⊢
       obtain ⟨h0,h1⟩:=HSc.out w (HG5.out.trans hC)
       simp [execOp,e97,h0,h1,go_sem]
      refine Flow.oq rfl HST HCG ?_ ?_
      ·intro L a w hC hLi hoff _
       exact Flow.gs rfl (Flow.exec_move (.inl rfl) (hoff.at2 0 9 hLi (by kernel_rfl)))
      refine Flow.oq rfl HST HCG ?_ ?_
      ·rintro L a w hC hLi hoff ⟨k9,-⟩
       have e99:=Flow.kv k9 rfl rfl
       refine Flow.gs rfl ?_
       generalize a.eval=ρ at e99 ⊢
       simp [e99,go_sem]
      refine Flow.oq rfl HST HCG ?_ ?_
      ·rintro L a w hC hLi hoff ⟨k4,k8,k10,-⟩
       have e94:=Flow.kv k4 rfl rfl
       have e98:=Flow.kv k8 rfl rfl
       have e100:=Flow.kv k10 rfl rfl
       exact .inl ⟨Flow.want_none rfl,Flow.run_call (Flow.exec_call rfl Try.func14 (by kernel_rfl) (by kernel_rfl) (by simp only [List.map_toArray,List.map_cons,List.map_nil,e94,e98,e100] <;> rfl)) (HAl.out w (HG5.out.trans hC))⟩
      refine Flow.oq rfl HST HCG ?_ ?_
      ·rintro L a w hC hLi hoff ⟨k11,-⟩
       have e101:=Flow.kv k11 rfl rfl
       refine Flow.gs rfl ?_
       generalize a.eval=ρ at e101 ⊢
       simp [execOp,e101,go_sem]
      refine Flow.oq rfl HST HCG ?_ ?_
      ·rintro L a w hC hLi hoff ⟨k12,-⟩
       have e102:=Flow.kv k12 rfl rfl
       exact Flow.gs rfl (Flow.exec_move (.inl rfl) e102)
      refine Flow.oq rfl HST HCG ?_ ?_
      ·rintro L a w hC hLi hoff ⟨k13,-⟩
       have e103:=Flow.kv k13 rfl rfl
       have e11:a.eval (.tmp 11)=(.pointer (some ⟨X,0,none⟩)):=hoff.at2 11 14 hLi (by kernel_rfl)
       refine Flow.gy rfl rfl e103 ?_
       generalize a.eval=ρ at e11 ⊢
       simp [execOp,e11,go_sem]
      refine Flow.oq rfl HST HCG ?_ ?_
      ·rintro L a w hC hLi hoff ⟨k14,k13,-⟩
       have e104:=Flow.kv k14 rfl rfl
       have e103:=Flow.kv k13 rfl rfl
       refine Flow.gy rfl rfl e103 ?_
       generalize a.eval=ρ at e104 ⊢
       obtain ⟨_,_,h0⟩:=HXX.out w (HG5.out.trans hC)
       simp [execOp,e104,h0,go_sem]
      refine Flow.oq rfl HST HCG ?_ ?_
      ·rintro L a w hC hLi hoff ⟨k13,-⟩
       have e103:=Flow.kv k13 rfl rfl
       have e13:a.eval (.tmp 13)=(.int .i64 (i:Int)):=hoff.at2 13 16 hLi (by kernel_rfl)
       exact Flow.gy rfl rfl e103 (Flow.exec_move (.inl rfl) e13)
      refine Flow.oq rfl HST HCG ?_ ?_
      ·rintro L a w hC hLi hoff ⟨k15,k16,k13,-⟩
       have e105:=Flow.kv k15 rfl rfl
       have e106:=Flow.kv k16 rfl rfl
       have e103:=Flow.kv k13 rfl rfl
       refine Flow.gy rfl rfl e103 ?_
       generalize a.eval=ρ at e105 e106 ⊢
       simp [execOp,e105,e106,go_sem];intro hh;omega
      refine Flow.oq rfl HST HCG ?_ ?_
      ·rintro L a w hC hLi hoff ⟨k17,k13,-⟩
       have e107:=Flow.kv k17 rfl rfl
       have e103:=Flow.kv k13 rfl rfl
       refine Flow.gy rfl rfl e103 ?_
       generalize a.eval=ρ at e107 ⊢
       obtain ⟨_,_,h0,_⟩:=HRc.out w (HG5.out.trans hC)
       simp [execOp,e107,h0,go_sem]
      refine Flow.oq rfl HST HCG ?_ ?_
      ·rintro L a w hC hLi hoff ⟨k13,-⟩
       have e103:=Flow.kv k13 rfl rfl
       have e9:a.eval (.tmp 9)=(.slice (some ⟨q'',r'',none⟩) n' bc):=hoff.at2 9 19 hLi (by kernel_rfl)
       exact Flow.gy rfl rfl e103 (Flow.exec_move (.inl rfl) e9)
      refine Flow.oq rfl HST HCG ?_ ?_
      ·rintro L a w hC hLi hoff ⟨k13,-⟩
       have e103:=Flow.kv k13 rfl rfl
       have e13:a.eval (.tmp 13)=(.int .i64 (i:Int)):=hoff.at2 13 20 hLi (by kernel_rfl)
       exact Flow.gy rfl rfl e103 (Flow.exec_move (.inl rfl) e13)
      refine Flow.oq rfl HST HCG ?_ ?_
      ·rintro L a w hC hLi hoff ⟨k19,k20,k13,-⟩
       have e109:=Flow.kv k19 rfl rfl
       have e110:=Flow.kv k20 rfl rfl
       have e103:=Flow.kv k13 rfl rfl
       refine Flow.gy rfl rfl e103 ?_
       generalize a.eval=ρ at e109 e110 ⊢
       simp [execOp,e109,e110,go_sem];intro hh;omega
      refine Flow.oq rfl HST HCG ?_ ?_
      ·rintro L a w hC hLi hoff ⟨k21,k13,-⟩
       have e111:=Flow.kv k21 rfl rfl
       have e103:=Flow.kv k13 rfl rfl
       refine Flow.gy rfl rfl e103 ?_
       generalize a.eval=ρ at e111 ⊢
       obtain ⟨_,_,_,h0⟩:=HRc.out w (HG5.out.trans hC)
       simp [execOp,e111,h0,go_sem]
      refine Flow.oq rfl HST HCG ?_ ?_
      ·rintro L a w hC hLi hoff ⟨k18,k22,k13,-⟩
       have e108:=Flow.kv k18 rfl rfl
       have e112:=Flow.kv k22 rfl rfl
       have e103:=Flow.kv k13 rfl rfl
       refine Flow.gy rfl rfl e103 ?_
       generalize a.eval=ρ at e108 e112 ⊢
       simp [execOp,e108,e112,go_sem]
      refine Flow.oq rfl HST HCG ?_ ?_
      ·rintro L a w hC hLi hoff ⟨k13,k23,-⟩
       have e103:=Flow.kv k13 rfl rfl
       have e113:=Flow.kv k23 rfl rfl
       exact Flow.gs rfl (Flow.exec_pick_no rfl e103 e113)
      refine Flow.oq rfl HST HCG ?_ ?_
      ·rintro L a w hC hLi hoff ⟨k24,-⟩
       have e114:=Flow.kv k24 rfl rfl
       exact Flow.gs rfl (Flow.exec_move (.inl rfl) e114)
      refine Flow.oq rfl HST HCG ?_ ?_
      ·rintro L a w hC hLi hoff ⟨k25,-⟩
       have e115:=Flow.kv k25 rfl rfl
       have e11:a.eval (.tmp 11)=(.pointer (some ⟨X,0,none⟩)):=hoff.at2 11 26 hLi (by kernel_rfl)
       refine Flow.gy rfl rfl e115 ?_
       generalize a.eval=ρ at e11 ⊢
       simp [execOp,e11,go_sem]
      refine Flow.oq rfl HST HCG ?_ ?_
      ·rintro L a w hC hLi hoff ⟨k26,k25,-⟩
       have e116:=Flow.kv k26 rfl rfl
       have e115:=Flow.kv k25 rfl rfl
       refine Flow.gy rfl rfl e115 ?_
       generalize a.eval=ρ at e116 ⊢
       obtain ⟨_,h0,_⟩:=HXX.out w (HG5.out.trans hC)
       simp [execOp,e116,h0,go_sem]
      refine Flow.oq rfl HST HCG ?_ ?_
      ·rintro L a w hC hLi hoff ⟨k25,-⟩
       have e115:=Flow.kv k25 rfl rfl
       have e13:a.eval (.tmp 13)=(.int .i64 (i:Int)):=hoff.at2 13 28 hLi (by kernel_rfl)
       exact Flow.gy rfl rfl e115 (Flow.exec_move (.inl rfl) e13)
      refine Flow.oq rfl HST HCG ?_ ?_
      ·rintro L a w hC hLi hoff ⟨k27,k28,k25,-⟩
       have e117:=Flow.kv k27 rfl rfl
       have e118:=Flow.kv k28 rfl rfl
       have e115:=Flow.kv k25 rfl rfl
       refine Flow.gy rfl rfl e115 ?_
       generalize a.eval=ρ at e117 e118 ⊢
       simp [execOp,e117,e118,go_sem];intro hh;omega
      refine Flow.oq rfl HST HCG ?_ ?_
      ·rintro L a w hC hLi hoff ⟨k29,k25,-⟩
       have e119:=Flow.kv k29 rfl rfl
       have e115:=Flow.kv k25 rfl rfl
       refine Flow.gy rfl rfl e115 ?_
       generalize a.eval=ρ at e119 ⊢
       obtain ⟨h0,_⟩:=HRc.out w (HG5.out.trans hC)
       simp [execOp,e119,h0,go_sem]
      refine Flow.oq rfl HST HCG ?_ ?_
      ·rintro L a w hC hLi hoff ⟨k30,k25,-⟩
       have e120:=Flow.kv k30 rfl rfl
       have e115:=Flow.kv k25 rfl rfl
       refine Flow.gy rfl rfl e115 ?_
       generalize a.eval=ρ at e120 ⊢
       simp [e120,go_sem]
      refine Flow.oq rfl HST HCG ?_ ?_
      ·rintro L a w hC hLi hoff ⟨k25,-⟩
       have e115:=Flow.kv k25 rfl rfl
       have e14:a.eval (.tmp 14)=(.slice oa m2 oc):=hoff.at2 14 32 hLi (by kernel_rfl)
       exact Flow.gy rfl rfl e115 (Flow.exec_move (.inl rfl) e14)
      refine Flow.oq rfl HST HCG ?_ ?_
      ·rintro L a w hC hLi hoff ⟨k32,k25,-⟩
       have e122:=Flow.kv k32 rfl rfl
       have e115:=Flow.kv k25 rfl rfl
       refine Flow.gy rfl rfl e115 ?_
       generalize a.eval=ρ at e122 ⊢
       simp [e122,go_sem]
      refine Flow.oq rfl HST HCG ?_ ?_
      ·rintro L a w hC hLi hoff ⟨k31,k33,k25,-⟩
       have e121:=Flow.kv k31 rfl rfl
       have e123:=Flow.kv k33 rfl rfl
       have e115:=Flow.kv k25 rfl rfl
       refine Flow.gy rfl rfl e115 ?_
       generalize a.eval=ρ at e121 e123 ⊢
       simp [execOp,e121,e123,go_sem]
      refine Flow.oq rfl HST HCG ?_ ?_
      ·rintro L a w hC hLi hoff ⟨k25,k34,-⟩
       have e115:=Flow.kv k25 rfl rfl
       have e124:=Flow.kv k34 rfl rfl
       exact Flow.gs rfl (Flow.exec_pick_no rfl e115 e124)
      refine Flow.oq rfl HST HCG ?_ ?_
      ·rintro L a w hC hLi hoff ⟨k35,-⟩
       have e125:=Flow.kv k35 rfl rfl
       exact Flow.gs rfl (Flow.exec_move (.inl rfl) e125)
      refine Flow.oq rfl HST HCG ?_ ?_
      ·rintro L a w hC hLi hoff ⟨k36,-⟩
       have e126:=Flow.kv k36 rfl rfl
       have e0:a.eval (.tmp 0)=(.slice (some ⟨pb,po,none⟩) 3 pc):=hoff.at2 0 37 hLi (by kernel_rfl)
       exact Flow.gy rfl rfl e126 (Flow.exec_move (.inl rfl) e0)
      refine Flow.oq rfl HST HCG ?_ ?_
      ·rintro L a w hC hLi hoff ⟨k36,-⟩
       have e126:=Flow.kv k36 rfl rfl
       have e11:a.eval (.tmp 11)=(.pointer (some ⟨X,0,none⟩)):=hoff.at2 11 38 hLi (by kernel_rfl)
       refine Flow.gy rfl rfl e126 ?_
       generalize a.eval=ρ at e11 ⊢
       simp [execOp,e11,go_sem]
      refine Flow.oq rfl HST HCG ?_ ?_
      ·rintro L a w hC hLi hoff ⟨k38,k36,-⟩
       have e128:=Flow.kv k38 rfl rfl
       have e126:=Flow.kv k36 rfl rfl
       refine Flow.gy rfl rfl e126 ?_
       generalize a.eval=ρ at e128 ⊢
       obtain ⟨h0,_⟩:=HXX.out w (HG5.out.trans hC)
       simp [execOp,e128,h0,go_sem]
      refine Flow.oq rfl HST HCG ?_ ?_
      ·rintro L a w hC hLi hoff ⟨k36,-⟩
       have e126:=Flow.kv k36 rfl rfl
       have e13:a.eval (.tmp 13)=(.int .i64 (i:Int)):=hoff.at2 13 40 hLi (by kernel_rfl)
       exact Flow.gy rfl rfl e126 (Flow.exec_move (.inl rfl) e13)
      refine Flow.oq rfl HST HCG ?_ ?_
      ·rintro L a w hC hLi hoff ⟨k39,k40,k36,-⟩
       have e129:=Flow.kv k39 rfl rfl
       have e130:=Flow.kv k40 rfl rfl
       have e126:=Flow.kv k36 rfl rfl
       refine Flow.gy rfl rfl e126 ?_
       generalize a.eval=ρ at e129 e130 ⊢
       simp [execOp,e129,e130,go_sem];intro hh;omega
      refine Flow.oq rfl HST HCG ?_ ?_
      ·rintro L a w hC hLi hoff ⟨k41,k36,-⟩
       have e131:=Flow.kv k41 rfl rfl
       have e126:=Flow.kv k36 rfl rfl
       refine Flow.gy rfl rfl e126 ?_
       generalize a.eval=ρ at e131 ⊢
       obtain ⟨h0,h1,h2,h3⟩:=HXc.out w (HG5.out.trans hC)
       simp [execOp,e131,h0,h1,h2,h3,go_sem]
      refine Flow.oq rfl HST HCG ?_ ?_
      ·rintro L a w hC hLi hoff ⟨k37,k42,k36,-⟩
       have e127:=Flow.kv k37 rfl rfl
       have e132:=Flow.kv k42 rfl rfl
       have e126:=Flow.kv k36 rfl rfl
       exact .inl ⟨Flow.want_yes rfl rfl e126,Flow.run_call (Flow.exec_call rfl Try.func21 (by kernel_rfl) (by kernel_rfl) (by simp only [List.map_toArray,List.map_cons,List.map_nil,e127,e132] <;> rfl)) (HAe.out w (HG5.out.trans hC))⟩
      refine Flow.oq rfl HST HCG ?_ ?_
      ·rintro L a w hC hLi hoff ⟨k36,-⟩
       have e126:=Flow.kv k36 rfl rfl
       have e0:a.eval (.tmp 0)=(.slice (some ⟨pb,po,none⟩) 3 pc):=hoff.at2 0 44 hLi (by kernel_rfl)
       exact Flow.gy rfl rfl e126 (Flow.exec_move (.inl rfl) e0)
      refine Flow.oq rfl HST HCG ?_ ?_
      ·rintro L a w hC hLi hoff ⟨k36,-⟩
       have e126:=Flow.kv k36 rfl rfl
       have e7:a.eval (.tmp 7)=(.slice (some ⟨q,r,none⟩) n' ac):=hoff.at2 7 45 hLi (by kernel_rfl)
       exact Flow.gy rfl rfl e126 (Flow.exec_move (.inl rfl) e7)
      refine Flow.oq rfl HST HCG ?_ ?_
      ·rintro L a w hC hLi hoff ⟨k36,-⟩
       have e126:=Flow.kv k36 rfl rfl
       have e13:a.eval (.tmp 13)=(.int .i64 (i:Int)):=hoff.at2 13 46 hLi (by kernel_rfl)
       exact Flow.gy rfl rfl e126 (Flow.exec_move (.inl rfl) e13)
      refine Flow.oq rfl HST HCG ?_ ?_
      ·rintro L a w hC hLi hoff ⟨k45,k46,k36,-⟩
       have e135:=Flow.kv k45 rfl rfl
       have e136:=Flow.kv k46 rfl rfl
       have e126:=Flow.kv k36 rfl rfl
       refine Flow.gy rfl rfl e126 ?_
       generalize a.eval=ρ at e135 e136 ⊢
       simp [execOp,e135,e136,go_sem];intro hh;omega
      refine Flow.oq rfl HST HCG ?_ ?_
      ·rintro L a w hC hLi hoff ⟨k47,k36,-⟩
       have e137:=Flow.kv k47 rfl rfl
       have e126:=Flow.kv k36 rfl rfl
       refine Flow.gy rfl rfl e126 ?_
       generalize a.eval=ρ at e137 ⊢
       obtain ⟨h0,h1⟩:=HSc.out w (HG5.out.trans hC)
       simp [execOp,e137,h0,h1,go_sem]
      refine Flow.oq rfl HST HCG ?_ ?_
      ·rintro L a w hC hLi hoff ⟨k44,k48,k36,-⟩
       have e134:=Flow.kv k44 rfl rfl
       have e138:=Flow.kv k48 rfl rfl
       have e126:=Flow.kv k36 rfl rfl
       exact .inl ⟨Flow.want_yes rfl rfl e126,Flow.run_call (Flow.exec_call rfl Try.func23 (by kernel_rfl) (by kernel_rfl) (by simp only [List.map_toArray,List.map_cons,List.map_nil,e134,e138] <;> rfl)) (HRe.out w (HG5.out.trans hC))⟩
      refine Flow.oq rfl HST HCG ?_ ?_
      ·rintro L a w hC hLi hoff ⟨k43,k49,k36,-⟩
       have e133:=Flow.kv k43 rfl rfl
       have e139:=Flow.kv k49 rfl rfl
       have e126:=Flow.kv k36 rfl rfl
       refine Flow.gy rfl rfl e126 ?_
       generalize a.eval=ρ at e133 e139 ⊢
       simp [execOp,e133,e139,go_sem]
      refine Flow.oq rfl HST HCG ?_ ?_
      ·rintro L a w hC hLi hoff ⟨k36,k50,-⟩
       have e126:=Flow.kv k36 rfl rfl
       have e140:=Flow.kv k50 rfl rfl
       exact Flow.gs rfl (Flow.exec_pick_no rfl e126 e140)
      exact trivial
     case ends11 =>
      intro LL wx hLL hC
      iterate 52 refine Flow.endsG_v rfl ?_
      refine Flow.endsG_nil ?_
      simp only [Act.put,List.setIfInBounds_toArray,List.set_cons_succ,List.set_cons_zero]
      have HGx:=Lib.hid (HG5.out.trans hC)
      have HG5x:=Lib.hid hC
      clear hC
      go_wp2_with fail
      go_loopw [16] (fun kv wr=>∃ k:Nat,k≤m2∧kv=.int .i64 k∧Hid (Flow.Grow wo wr)∧Hid (Flow.Grow w5 wr)) (fun kv _=>m2 - (intOf kv).toNat)
      case atStart=>exact ⟨0,by omega,rfl,HGx,HG5x⟩
      case round =>
       clear HGx HG5x
       obtain ⟨k,hkm,rfl,HGk,HG5k⟩:=hrel
       rename World=>wi
       by_cases hk:k < m2
       ·obtain ⟨a',b',d,hlk,_,_,_⟩:=steps_at (ps:=ps) (ls:=Pr.labsL L) (room:=room) (c:=ci) (k:=k) (by have h1:=Hm.out;rw [Hl.out] at h1;exact (show k < (sf ps L room ci).length by omega))
        have hlk':l[k]?=some (a',b',d):=by rw [Hl.out];exact hlk
        obtain ⟨g1,c1,dS,dB,ev,r0,r1,_,_,_,_⟩:=HSt.out.read (by rw [← Hm.out];exact hk) hlk'
        obtain ⟨rfl,rfl⟩:oa=some ⟨g1,0,none⟩∧oc=c1:=by injection ev with a b c;exact ⟨a,c⟩
        obtain ⟨h,p,hc,hhv,_,hhc⟩:=HSx.out.shape (by intro e;have h1:=rowCells_len l ts;rw [e] at h1;simp at h1;have h2:=Hm.out;omega)
        obtain ⟨rfl,rfl⟩:ra=some ⟨h,p,none⟩∧rc=hc:=by injection hhv with a b c;exact ⟨a,c⟩
        have hgl:l.getD k dstp=(a',b',d):=by rw [List.getD_eq_getElem?_getD,hlk'];rfl
        have hrow:∀ j,j < 3→wo.cell? ⟨h,p+(k * 3+j),none⟩=[Value.int .i64 (a':Int),.int .i64 (b':Int),.int .i64 ((ts.map Int.ofNat).getD k (-1))][j]?:=fun j hj=>by
         rw [hhc (k * 3+j) (by rw [rowCells_len,← Hm.out];omega),rowCells_at (by rw [← Hm.out];exact hk) hj,As.rowAt,hgl]
        obtain ⟨h2,p2,rfl,q2⟩:=ints_at HIn.out (j:=k) (by rw [List.length_map,Hts.out,← Hm.out];exact hk)
        have hte:(ts.map Int.ofNat).getD k (-1)=(ts.map Int.ofNat).getD k 0:=by
         have hkt:k < ts.length:=by rw [Hts.out,← Hm.out];exact hk
         simp [List.getD_eq_getElem?_getD,hkt]
        rw [hte] at hrow
        generalize (ts.map Int.ofNat).getD k 0=tt at *
        have HQ2:=Lib.hid (Xm2.cell_grow HGk.out q2)
        have HQ0:=Lib.hid (Xm2.cell_grow HGk.out (hrow 0 (by omega)))
        have HQ1:=Lib.hid (Xm2.cell_grow HGk.out (hrow 1 (by omega)))
        have HQt:=Lib.hid (Xm2.cell_grow HGk.out (hrow 2 (by omega)))
        have HR0:=Lib.hid (Xm2.cell_grow HG5k.out r0)
        have HR1:=Lib.hid (Xm2.cell_grow HG5k.out r1)
        clear r0 r1 ev hhv hhc hgl hrow q2 hlk hlk' hte
        have hk0:(0:Int)≤(k:Int):=by omega
        have hkd:(k:Int) < (m2:Int):=by omega
        have hkd':decide ((k:Int) < (m2:Int))=true:=by simp;omega
        have t1:Try.prog.eqGuardType Try.prog.depth 60=false:=by as_aux_lemma=>kernel_rfl
        have t2:Try.prog.stoodInHeld 60=false:=by as_aux_lemma=>kernel_rfl
        go_upto_region 16 with fail
        refine Flow.regionG (C:=fun _ wq=>Flow.Grow wi wq) (Fs:=[.inl ((.pointer (some ⟨X,1,none⟩))),.inl ((.slice (some ⟨g',o',none⟩) n' sc)),.inl ((.int .i64 (i:Int))),.inl ((.pointer (some ⟨g',o'+i,none⟩))),.inl ((.slice (some ⟨h,p,none⟩) m2 rc)),.inl ((.int .i64 (k:Int))),.inl ((.pointer (some ⟨h,p+k * 3,none⟩))),.inl ((.agg #[.int .i64 (a':Int),.int .i64 (b':Int),.int .i64 tt])),.inl ((.slice (some ⟨g1,0,none⟩) m2 oc)),.inl ((.int .i64 (k:Int))),.inl ((.pointer (some ⟨g1,k * 4,none⟩))),.inl ((.pointer (some ⟨g1,k * 4,none⟩))),.inl ((.int .i64 (a':Int))),.inl ((.slice (some ⟨g1,0,none⟩) m2 oc)),.inl ((.int .i64 (k:Int))),.inl ((.pointer (some ⟨g1,k * 4,none⟩))),.inl ((.pointer (some ⟨g1,k * 4+1,none⟩))),.inl ((.int .i64 (b':Int))),.inl ((.slice (some ⟨q',r',none⟩) n' tc)),.inl ((.int .i64 (i:Int))),.inl ((.pointer (some ⟨q',r'+i,none⟩))),.inl ((.slice (some ⟨h2,p2,none⟩) m2 rc2)),.inl ((.int .i64 (k:Int))),.inl ((.pointer (some ⟨h2,p2+k,none⟩))),.inl ((.int .i64 tt)),.inl ((.agg #[.int .i64 (a':Int),.int .i64 (b':Int),.int .i64 tt])),.inl ((.bool false))])
         [[],[0],[],[1,2],[3],[],[4,5],[6],[],[],[8,9],[10],[11],[],[],[13,14],[15],[16],[],[],[18,19],[20],[],[21,22],[23],[12,17,24],[7,25]] [[],[0],[],[0,1,2],[0,1,2,3],[],[0,1,2,3,4,5],[0,1,2,3,4,5,6],[],[],[8,9],[8,9,10],[8,9,10,11],[],[],[13,14],[13,14,15],[13,14,15,16],[],[],[18,19],[18,19,20],[],[18,19,20,21,22],[18,19,20,21,22,23],[8,9,10,11,12,13,14,15,16,17,18,19,20,21,22,23,24],[0,1,2,3,4,5,6,7,8,9,10,11,12,13,14,15,16,17,18,19,20,21,22,23,24,25]] [26] (by kernel_rfl) (by kernel_rfl) (by kernel_rfl) rfl (Flow.grow_drew _) ?ones16 ?ends16
        case ones16 =>
         refine Flow.OnesG.start (by exact trivial) (fun L w w' i=>(fun _ _ h g=>h.trans g) w w') fun HST HCG=>?_
         refine Flow.oq rfl HST HCG ?_ ?_
         ·intro L a w hC hLi hoff _
          have e11:a.eval (.tmp 11)=(.pointer (some ⟨X,0,none⟩)):=hoff.at2 11 0 hLi (by kernel_rfl)
          refine Flow.gs rfl ?_
          generalize a.eval=ρ at e11 ⊢
          simp [execOp,e11,go_sem]
         refine Flow.oq rfl HST HCG ?_ ?_
         ·rintro L a w hC hLi hoff ⟨k0,-⟩
          have e148:=Flow.kv k0 rfl rfl
          refine Flow.gs rfl ?_
          generalize a.eval=ρ at e148 ⊢
          obtain ⟨_,h0,_⟩:=HXX.out w (HGk.out.trans hC)
          simp [execOp,e148,h0,go_sem]
         refine Flow.oq rfl HST HCG ?_ ?_
         ·intro L a w hC hLi hoff _
          exact Flow.gs rfl (Flow.exec_move (.inl rfl) (hoff.at2 13 2 hLi (by kernel_rfl)))
         refine Flow.oq rfl HST HCG ?_ ?_
         ·rintro L a w hC hLi hoff ⟨k1,k2,-⟩
          have e149:=Flow.kv k1 rfl rfl
          have e150:=Flow.kv k2 rfl rfl
          refine Flow.gs rfl ?_
          generalize a.eval=ρ at e149 e150 ⊢
          simp [execOp,e149,e150,go_sem];intro hh;omega
         refine Flow.oq rfl HST HCG ?_ ?_
         ·rintro L a w hC hLi hoff ⟨k3,-⟩
          have e151:=Flow.kv k3 rfl rfl
          refine Flow.gs rfl ?_
          generalize a.eval=ρ at e151 ⊢
          obtain ⟨h0,_⟩:=HRc.out w (HGk.out.trans hC)
          simp [execOp,e151,h0,go_sem]
         refine Flow.oq rfl HST HCG ?_ ?_
         ·intro L a w hC hLi hoff _
          exact Flow.gs rfl (Flow.exec_move (.inl rfl) (hoff.at2 16 5 hLi (by kernel_rfl)))
         refine Flow.oq rfl HST HCG ?_ ?_
         ·rintro L a w hC hLi hoff ⟨k4,k5,-⟩
          have e152:=Flow.kv k4 rfl rfl
          have e153:=Flow.kv k5 rfl rfl
          refine Flow.gs rfl ?_
          generalize a.eval=ρ at e152 e153 ⊢
          simp [execOp,e152,e153,go_sem];intro hh;omega
         refine Flow.oq rfl HST HCG ?_ ?_
         ·rintro L a w hC hLi hoff ⟨k6,-⟩
          have e154:=Flow.kv k6 rfl rfl
          refine Flow.gs rfl ?_
          generalize a.eval=ρ at e154 ⊢
          have h0:=Xm2.cell_grow hC HQ0.out
          have h1:=Xm2.cell_grow hC HQ1.out
          have h2:=Xm2.cell_grow hC HQt.out
          simp only [Nat.add_zero,← Nat.add_assoc] at h0 h1 h2
          simp [execOp,e154,h0,h1,h2,go_sem]
         refine Flow.oq rfl HST HCG ?_ ?_
         ·intro L a w hC hLi hoff _
          exact Flow.gs rfl (Flow.exec_move (.inl rfl) (hoff.at2 14 8 hLi (by kernel_rfl)))
         refine Flow.oq rfl HST HCG ?_ ?_
         ·intro L a w hC hLi hoff _
          exact Flow.gs rfl (Flow.exec_move (.inl rfl) (hoff.at2 16 9 hLi (by kernel_rfl)))
         refine Flow.oq rfl HST HCG ?_ ?_
         ·rintro L a w hC hLi hoff ⟨k8,k9,-⟩
          have e156:=Flow.kv k8 rfl rfl
          have e157:=Flow.kv k9 rfl rfl
          refine Flow.gs rfl ?_
          generalize a.eval=ρ at e156 e157 ⊢
          simp [execOp,e156,e157,go_sem];intro hh;omega
         refine Flow.oq rfl HST HCG ?_ ?_
         ·rintro L a w hC hLi hoff ⟨k10,-⟩
          have e158:=Flow.kv k10 rfl rfl
          refine Flow.gs rfl ?_
          generalize a.eval=ρ at e158 ⊢
          simp [execOp,e158,go_sem]
         refine Flow.oq rfl HST HCG ?_ ?_
         ·rintro L a w hC hLi hoff ⟨k11,-⟩
          have e159:=Flow.kv k11 rfl rfl
          refine Flow.gs rfl ?_
          generalize a.eval=ρ at e159 ⊢
          have h0:=Xm2.cell_grow hC HR0.out
          simp [execOp,e159,h0,go_sem]
         refine Flow.oq rfl HST HCG ?_ ?_
         ·intro L a w hC hLi hoff _
          exact Flow.gs rfl (Flow.exec_move (.inl rfl) (hoff.at2 14 13 hLi (by kernel_rfl)))
         refine Flow.oq rfl HST HCG ?_ ?_
         ·intro L a w hC hLi hoff _
          exact Flow.gs rfl (Flow.exec_move (.inl rfl) (hoff.at2 16 14 hLi (by kernel_rfl)))
         refine Flow.oq rfl HST HCG ?_ ?_
         ·rintro L a w hC hLi hoff ⟨k13,k14,-⟩
          have e161:=Flow.kv k13 rfl rfl
          have e162:=Flow.kv k14 rfl rfl
          refine Flow.gs rfl ?_
          generalize a.eval=ρ at e161 e162 ⊢
          simp [execOp,e161,e162,go_sem];intro hh;omega
         refine Flow.oq rfl HST HCG ?_ ?_
         ·rintro L a w hC hLi hoff ⟨k15,-⟩
          have e163:=Flow.kv k15 rfl rfl
          refine Flow.gs rfl ?_
          generalize a.eval=ρ at e163 ⊢
          simp [execOp,e163,go_sem]
         refine Flow.oq rfl HST HCG ?_ ?_
         ·rintro L a w hC hLi hoff ⟨k16,-⟩
          have e164:=Flow.kv k16 rfl rfl
          refine Flow.gs rfl ?_
          generalize a.eval=ρ at e164 ⊢
          have h0:=Xm2.cell_grow hC HR1.out
          simp [execOp,e164,h0,go_sem]
         refine Flow.oq rfl HST HCG ?_ ?_
         ·intro L a w hC hLi hoff _
          exact Flow.gs rfl (Flow.exec_move (.inl rfl) (hoff.at2 8 18 hLi (by kernel_rfl)))
         refine Flow.oq rfl HST HCG ?_ ?_
         ·intro L a w hC hLi hoff _
          exact Flow.gs rfl (Flow.exec_move (.inl rfl) (hoff.at2 13 19 hLi (by kernel_rfl)))
         refine Flow.oq rfl HST HCG ?_ ?_
         ·rintro L a w hC hLi hoff ⟨k18,k19,-⟩
          have e166:=Flow.kv k18 rfl rfl
          have e167:=Flow.kv k19 rfl rfl
          refine Flow.gs rfl ?_
          generalize a.eval=ρ at e166 e167 ⊢
          simp [execOp,e166,e167,go_sem];intro hh;omega
         refine Flow.oq rfl HST HCG ?_ ?_
         ·rintro L a w hC hLi hoff ⟨k20,-⟩
          have e168:=Flow.kv k20 rfl rfl
          refine Flow.gs rfl ?_
          generalize a.eval=ρ at e168 ⊢
          obtain ⟨_,h0,_⟩:=HRc.out w (HGk.out.trans hC)
          simp [execOp,e168,h0,go_sem]
         refine Flow.oq rfl HST HCG ?_ ?_
         ·intro L a w hC hLi hoff _
          exact Flow.gs rfl (Flow.exec_move (.inl rfl) (hoff.at2 16 22 hLi (by kernel_rfl)))
         refine Flow.oq rfl HST HCG ?_ ?_
         ·rintro L a w hC hLi hoff ⟨k21,k22,-⟩
          have e169:=Flow.kv k21 rfl rfl
          have e170:=Flow.kv k22 rfl rfl
          refine Flow.gs rfl ?_
          generalize a.eval=ρ at e169 e170 ⊢
          simp [execOp,e169,e170,go_sem];intro hh;omega
         refine Flow.oq rfl HST HCG ?_ ?_
         ·rintro L a w hC hLi hoff ⟨k23,-⟩
          have e171:=Flow.kv k23 rfl rfl
          refine Flow.gs rfl ?_
          generalize a.eval=ρ at e171 ⊢
          have h0:=Xm2.cell_grow hC HQ2.out
          simp [execOp,e171,h0,go_sem]
         refine Flow.oq rfl HST HCG ?_ ?_
         ·rintro L a w hC hLi hoff ⟨k12,k17,k24,-⟩
          have e160:=Flow.kv k12 rfl rfl
          have e165:=Flow.kv k17 rfl rfl
          have e172:=Flow.kv k24 rfl rfl
          refine Flow.gs rfl ?_
          generalize a.eval=ρ at e160 e165 e172 ⊢
          simp [execOp,e160,e165,e172,go_sem]
         refine Flow.oq rfl HST HCG ?_ ?_
         ·rintro L a w hC hLi hoff ⟨k7,k25,-⟩
          have e155:=Flow.kv k7 rfl rfl
          have e173:=Flow.kv k25 rfl rfl
          refine Flow.gs rfl ?_
          generalize a.eval=ρ at e155 e173 ⊢
          simp [execOp,e155,e173,t1,t2,go_sem]
         exact trivial
        case ends16 =>
         intro LL wx hLL hC
         iterate 27 refine Flow.endsG_v rfl ?_
         refine Flow.endsG_nil ?_
         simp only [Act.put,List.setIfInBounds_toArray,List.set_cons_succ,List.set_cons_zero]
         have HGy:=Lib.hid (HGk.out.trans hC)
         have HG5y:=Lib.hid (HG5k.out.trans hC)
         clear hC
         go_wp2_with fail
         go_roundw
         case rel=>exact ⟨k+1,by omega,by go_num,HGy,HG5y⟩
         case measure=>simp [intOf];omega
       ·obtain rfl:k=m2:=by omega
        go_wp2_with fail
        go_roundw
        case rel=>exact ⟨i+1,by omega,by go_num,Lib.hid (HG.out.trans HGk.out)⟩
        case measure=>simp [intOf];omega
    ·obtain rfl:i=n':=by omega
     go_wp2_with fail
     go_ret
     exact ⟨rfl,HG1.out.trans (HG2.out.trans (HGw3.out.trans HG.out))⟩
theorem any_PA (v:Value) (zs:List Int) (fin s0 s1:Int) (n:Nat) (W:World) (hn:n≤9223372036854775807) (h:Seg 3 W v n (zs.map (Value.int .i64))) :
  Calls Try.prog 5 #[v,.int .i64 fin,.agg #[.int .i64 s0,.int .i64 s1]] W (Pr.AnyP (Ref18.labels s0) W):=(any23 v zs fin s0 s1 n W hn h).mono fun _ _ h=>Pr.any_peers h
open As in
set_option maxRecDepth 100000 in
set_option maxHeartbeats 4000000 in
theorem asyncAny_walk (v:Value) (zs:List Int) (fin s0 s1:Int) (n:Nat) (W:World) (hn:n≤9223372036854775807) (h:Seg 3 W v n (zs.map (Value.int .i64))) :
  Calls Try.prog 3 #[v,.int .i64 fin,.agg #[.int .i64 s0,.int .i64 s1]] W fun e w'=>e=.returned (.bool true)∧Flow.Grow W w':=by
 have HZ:=Lib.hid h
 obtain ⟨av,cv,rfl,_⟩:=id h
 clear h
 have hand:∀ x:Int,bits .and .i64 x 3=x % 4:=fun x=>by
  have:=Bits.i64_mask x 2 (by omega) 3 (by decide)
  rwa [show (2:Int) ^ 2=4 by decide] at this
 go_enter Try.func3,Try.ntmps3
 go_upto_region 1 with fail
 have HBw10:Hid ((W.alloc (.cells #[.int .i64 s0,.int .i64 s1] 23)).heap[W.heap.size]?=some (.cells #[.int .i64 s0,.int .i64 s1] 23 (0,0))):=Lib.hid (lay1_0 _ _)
 have HGw1:Hid (Flow.Grow W (W.alloc (.cells #[.int .i64 s0,.int .i64 s1] 23))):=Lib.hid (lay1_g _ _)
 have HSw1:Hid ((W.alloc (.cells #[.int .i64 s0,.int .i64 s1] 23)).heap.size=W.heap.size+1):=Lib.hid (by simp)
 generalize W.alloc (.cells #[.int .i64 s0,.int .i64 s1] 23)=w1 at *
 obtain ⟨X,hX⟩:∃ X,X=W.heap.size:=⟨_,rfl⟩
 rw [← hX] at HBw10 HSw1 ⊢
 have HXw1:=Lib.hid hX
 clear hX
 have CXw1:Hid (∀ wq,Flow.Grow w1 wq→wq.cell? ⟨X,0,none⟩=some (.int .i64 s0)∧wq.cell? ⟨X,1,none⟩=some (.int .i64 s1)):=Lib.hid (fun wq g=>⟨lay_cell g HBw10.out rfl,lay_cell g HBw10.out rfl⟩)
 have FXw1:Hid (∀ wq,Flow.Grow w1 wq→(∀ k,wq.frozen? ⟨X,k,none⟩=false)):=Lib.hid (fun wq g=>fun k=>lay_frozen g HBw10.out k)
 obtain ⟨c00,c01⟩:=CXw1.out w1 (Flow.grow_refl _)
 have HAny:Hid (Calls Try.prog 5 #[.slice av n cv,.int .i64 fin,.agg #[.int .i64 s0,.int .i64 s1]] w1 (Pr.AnyP (Ref18.labels s0) w1)):=Lib.hid (any_PA _ zs fin s0 s1 n w1 hn (Seg.grow HZ.out HGw1.out))
 generalize Ref18.labels s0=LN at *
 go_upto_region 2 with (go_at_call 5;refine HAny.out.mono ?_;rintro e w2 ⟨S,af,an,al,k,cf,cn,cl,rfl,hL,hls,hg,hpe⟩;have HLs:=Lib.hid hls;have HG2:=Lib.hid hg;have HPe:=Lib.hid hpe;clear hls hg hpe)
 clear c00 c01
 have HBw30:Hid ((w2.alloc (.cells #[.int .i64 (LN:Int),.int .i64 (S:Int),.slice af k cf,.slice an k cn] 27)).heap[w2.heap.size]?=some (.cells #[.int .i64 (LN:Int),.int .i64 (S:Int),.slice af k cf,.slice an k cn] 27 (0,0))):=Lib.hid (lay1_0 _ _)
 have HGw3:Hid (Flow.Grow w2 (w2.alloc (.cells #[.int .i64 (LN:Int),.int .i64 (S:Int),.slice af k cf,.slice an k cn] 27))):=Lib.hid (lay1_g _ _)
 have HSw3:Hid ((w2.alloc (.cells #[.int .i64 (LN:Int),.int .i64 (S:Int),.slice af k cf,.slice an k cn] 27)).heap.size=w2.heap.size+1):=Lib.hid (by simp)
 generalize w2.alloc (.cells #[.int .i64 (LN:Int),.int .i64 (S:Int),.slice af k cf,.slice an k cn] 27)=w3 at *
 obtain ⟨Y,hY⟩:∃ X,X=w2.heap.size:=⟨_,rfl⟩
 rw [← hY] at HBw30 HSw3 ⊢
 have HXw3:=Lib.hid hY
 clear hY
 have CXw3:Hid (∀ wq,Flow.Grow w3 wq→wq.cell? ⟨Y,0,none⟩=some (.int .i64 (LN:Int))∧wq.cell? ⟨Y,1,none⟩=some (.int .i64 (S:Int))∧wq.cell? ⟨Y,2,none⟩=some (.slice af k cf)∧wq.cell? ⟨Y,3,none⟩=some (.slice an k cn)):=Lib.hid (fun wq g=>⟨lay_cell g HBw30.out rfl,lay_cell g HBw30.out rfl,lay_cell g HBw30.out rfl,lay_cell g HBw30.out rfl⟩)
 have FXw3:Hid (∀ wq,Flow.Grow w3 wq→(∀ k,wq.frozen? ⟨Y,k,none⟩=false)):=Lib.hid (fun wq g=>fun k=>lay_frozen g HBw30.out k)
 obtain ⟨d00,d01,d02,d03⟩:=CXw3.out w3 (Flow.grow_refl _)
 have HPw:=Lib.hid (HPe.out w3 HGw3.out)
 go_upto_region 3 with (go_at_call 6;refine HPw.out.mono ?_;rintro e w4 ⟨hr,hg⟩;have HG4:=Lib.hid (HGw3.out.trans hg);clear hg;rcases hr with rfl | ⟨vp,css,ps,rfl,hpa⟩)
 ·clear d00 d01 d02 d03
  go_wp2_with (go_at_call 7;refine (awake29 _).mono ?_;rintro e w5 ⟨rfl,hg⟩;have HG5:=Lib.hid hg;clear hg)
  go_ret
  exact ⟨rfl,HGw1.out.trans (HG2.out.trans (HG4.out.trans HG5.out))⟩
 ·have HPa:=Lib.hid hpa
  obtain ⟨pb,po,pc,rfl,_,_⟩:=hpa.at_
  clear hpa d00 d01 d02 d03
  obtain ⟨room,hr,hr1,hr2⟩:∃ r:Nat,1+fin / 512 % 4=(r:Int)∧1≤r∧r≤4:=⟨(1+fin / 512 % 4).toNat,by omega,by omega,by omega⟩
  have hwr:IntKind.i64.wrap (1+fin / 512 % 4)=1+fin / 512 % 4:=by
   rw [IntKind.wrap_i64];omega
  have HSp:Hid (∀ wq,Flow.Grow w4 wq→Calls Try.prog 8 #[.slice (some ⟨pb,po,none⟩) 3 pc,.slice al LN cl,.int .i64 (1+fin / 512 % 4)] wq fun e w'=>e=.returned (.bool true)∧Flow.Grow wq w'):=Lib.hid (fun wq g=>by
   rw [hr]
   exact space29_any LN room _ _ css ps wq hr1 (by omega) hL (HPa.out.grow g) (HLs.out.grow (HG4.out.trans g)))
  clear hr
  go_wp2_with (first
   | (go_at_call 7;refine (awake29 _).mono ?_;rintro e w5 ⟨rfl,hg⟩;have HG5:=Lib.hid hg;clear hg)
   | (go_at_call 8;refine (HSp.out _ HG5.out).mono ?_;rintro e w6 ⟨rfl,hg⟩;have HG6:=Lib.hid hg;clear hg))
  go_ret
  exact ⟨rfl,HGw1.out.trans (HG2.out.trans (HG4.out.trans (HG5.out.trans HG6.out)))⟩
end Go.Proofs.Ytcpodmjcgfgmnaa
