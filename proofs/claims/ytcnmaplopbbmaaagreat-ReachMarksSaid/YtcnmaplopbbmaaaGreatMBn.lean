/- flat's place by contract: the place of a text among others. -/
import Derived.Test.YtcnmaplopbbmaaaGreatMBm
import Derived.Test.YtcnmaplopbbmaaaGreatGFind
import Derived.Deep.AppendLies
import Derived.Deep.RegionLaw
namespace Go.Proofs.YtcnmaplopbbmaaaGreat
open Go.RowKit
namespace Fl
def place (l:List Ch.S) (x:Ch.S):Int:=Gr.idx l x
def Txs (w:World) (v:Value) (l:List Ch.S):Prop:=Seg 1 w v l.length (l.map Value.string)
theorem Txs.grow {w w':World} {v:Value} {l:List Ch.S} (h:Txs w v l) (g:Flow.Grow w w'):Txs w' v l:=Seg.grow h g
theorem Txs.at {w:World} {a:Option Addr} {n cap:Nat} {l:List Ch.S} (h:Txs w (.slice a n cap) l) {k:Nat} (hk:k < l.length):∃ b o,a=some ⟨b,o,none⟩∧w.cell? ⟨b,o+k,none⟩=some (.string (l.getD k ⟨#[]⟩)):=by
 obtain ⟨a',cap',e,hl,_,hc⟩:=h
 cases e
 obtain ⟨b,o,e1,_,c0⟩:=hc k (by simpa using hk)
 refine ⟨b,o,e1,c0.trans ?_⟩
 rw [List.getElem?_map,List.getD_eq_getElem?_getD,List.getElem?_eq_getElem hk]
 rfl
theorem place_hit {l:List Ch.S} {x:Ch.S} {i:Nat} (hi:i < l.length) (h:l.getD i ⟨#[]⟩=x) (hn:∀ k,k < i→l.getD k ⟨#[]⟩≠x):place l x=(i:Int):=by
 unfold place Gr.idx
 have e:l.findIdx? (fun y=>decide (y=x))=some i:=by
  rw [List.findIdx?_eq_some_iff_getElem]
  refine ⟨hi,by simp;rw [List.getD_eq_getElem?_getD,List.getElem?_eq_getElem hi] at h;exact h,fun j hj=>?_⟩
  have:=hn j hj
  rw [List.getD_eq_getElem?_getD,List.getElem?_eq_getElem (by omega)] at this
  simpa using this
 rw [e]
theorem place_miss {l:List Ch.S} {x:Ch.S} (hn:∀ k,k < l.length→l.getD k ⟨#[]⟩≠x):place l x=-1:=by
 unfold place Gr.idx
 have e:l.findIdx? (fun y=>decide (y=x))=none:=by
  rw [List.findIdx?_eq_none_iff]
  intro y hy
  obtain ⟨k,hk,e⟩:=List.getElem_of_mem hy
  have:=hn k hk
  rw [List.getD_eq_getElem?_getD,List.getElem?_eq_getElem hk] at this
  simp at this
  rw [e] at this
  simpa using this
 rw [e]
end Fl
theorem Fl.ne_f {a b:ByteArray} (h:¬ a=b):(a.toList == b.toList)=false:=by
 rw [beq_eq_false_iff_ne]
 intro e
 rw [ByteArray.toList_eq,ByteArray.toList_eq] at e
 exact h (ByteArray.ext (Array.ext' e))
def tabN:List (ByteArray × Int):=[(⟨#[97,109,112]⟩,38),(⟨#[108,116]⟩,60),(⟨#[103,116]⟩,62),(⟨#[113,117,111,116]⟩,34),(⟨#[97,112,111,115]⟩,39)]
def find (s:ByteArray):List (ByteArray × Int)→Int
 | []=>0
 | p :: l=>if p.1=s then p.2 else find s l
def named (s:ByteArray):Int:=find s tabN
theorem Fl.eq_t {a b:ByteArray} (h:a=b):(a.toList == b.toList)=true:=by rw [h];exact beq_self_eq_true _
set_option maxRecDepth 100000 in
set_option maxHeartbeats 4000000 in
theorem place_any (v:Value) (l:List Ch.S) (x:ByteArray) (w:World) (hl:l.length≤1000000) (h:Fl.Txs w v l) :
  Calls Tryz.prog 85 #[v,.string x] w fun e w'=>e=.returned (.int .i64 (Fl.place l x))∧w=w':=by
 have H:=Lib.hid h
 obtain ⟨a,cap,e0,hx⟩:=h
 clear hx
 subst e0
 obtain ⟨n,hn⟩:∃ n,n=l.length:=⟨_,rfl⟩
 have Hn:=Lib.hid hn
 rw [← hn] at hl H ⊢
 clear hn
 go_enter Tryz.func85,Tryz.ntmps85
 go_wp2_with fail
 go_loop [5,6,9] (fun vi vy vk=>∃ k:Nat,k≤n∧vk=.int .i64 (k:Int)∧Hid (∀ j,j < k→l.getD j ⟨#[]⟩≠x)) (fun vi vy vk=>n - (intOf vk).toNat)
 case atStart=>exact ⟨0,by omega,rfl,Lib.hid fun j hj=>by omega⟩
 case round =>
  obtain ⟨k,hk,rfl,HK⟩:=hrel
  by_cases hkn:k < n
  ·have d1:decide ((k:Int) < (n:Int))=true:=by simp;omega
   obtain ⟨b,o,rfl,q⟩:=Fl.Txs.at H.out (k:=k) (by rw [← Hn.out];exact hkn)
   obtain ⟨y,hy⟩:∃ y,y=l.getD k ⟨#[]⟩:=⟨_,rfl⟩
   rw [← hy] at q
   have Hy:=Lib.hid hy
   clear hy
   by_cases hyx:y=x
   ·have d2:=Fl.eq_t hyx
    have HP:Hid (Fl.place l x=(k:Int)):=Lib.hid (Fl.place_hit (by rw [← Hn.out];exact hkn) (by rw [← Hy.out];exact hyx) HK.out)
    clear hyx
    go_wp2_with fail
    go_ret
    exact ⟨by rw [HP.out];rfl,rfl⟩
   ·have d2:=Fl.ne_f hyx
    have HK1:Hid (∀ j,j < k+1→l.getD j ⟨#[]⟩≠x):=Lib.hid fun j hj=>by
     by_cases e:j < k
     ·exact HK.out j e
     ·obtain rfl:j=k:=by omega
      rw [← Hy.out]
      exact hyx
    clear hyx
    go_wp2_with fail
    go_round
    case rel=>exact ⟨k+1,by omega,by go_num,HK1⟩
    case measure=>simp [intOf];omega
  ·obtain rfl:k=n:=by omega
   have d1:decide ((k:Int) < (k:Int))=false:=by simp
   have HP:Hid (Fl.place l x=-1):=Lib.hid (Fl.place_miss fun j hj=>HK.out j (by rw [Hn.out];exact hj))
   go_wp2_with fail
   go_ret
   exact ⟨by rw [HP.out];rfl,rfl⟩
end Go.Proofs.YtcnmaplopbbmaaaGreat
namespace Go.Proofs.YtcnmaplopbbmaaaGreat
open Go.RowKit
theorem Ch.fcells_len (x:Ch.Fl):(Ch.fcells x).length=4:=rfl
theorem Ch.icells_len (x:Ch.It × Value × Value):(Ch.icells x).length=10:=rfl
set_option maxRecDepth 100000 in
set_option maxHeartbeats 4000000 in
theorem isFlow_any (f:Ch.Fl) (x:ByteArray) (g:Nat) (w:World) (hg:w.cell? ⟨g,0,none⟩=some (.string x)) :
  Calls Tryz.prog 105 #[.agg #[.string f.1,.string f.2.1,.string f.2.2.1,.string f.2.2.2],.pointer (some ⟨g,0,none⟩)] w fun e w'=>e=.returned (.bool (decide (f.1=x)))∧Flow.Grow w w':=by
 obtain ⟨a,b,c,d⟩:=f
 have hg2:=Xm2.cell_grow (Flow.grow_alloc w (.cells #[.string a,.string b,.string c,.string d] 163)) hg
 clear hg
 simp only
 by_cases h:a=x
 ·have d2:=Fl.eq_t h
  have H:Hid (decide (a=x)=true):=Lib.hid (decide_eq_true h)
  clear h
  go_enter Tryz.func105,Tryz.ntmps105
  go_wp2_with fail
  go_ret
  exact ⟨by rw [H.out];rfl,Flow.grow_alloc _ _⟩
 ·have d2:=Fl.ne_f h
  have H:Hid (decide (a=x)=false):=Lib.hid (decide_eq_false h)
  clear h
  go_enter Tryz.func105,Tryz.ntmps105
  go_wp2_with fail
  go_ret
  exact ⟨by rw [H.out];rfl,Flow.grow_alloc _ _⟩
set_option maxRecDepth 100000 in
set_option maxHeartbeats 4000000 in
theorem flowIdx_any (v:Value) (fs:List Ch.Fl) (x:ByteArray) (g:Nat) (w:World) (hz:fs.length≤1000000) (hg:w.cell? ⟨g,0,none⟩=some (.string x)) (hv:Gr.Recs 4 Ch.fcells w v fs) :
  Calls Tryz.prog 104 #[v,.func (.func 105) #[] #[.pointer (some ⟨g,0,none⟩)]] w fun e w'=>e=.returned (.int .i64 (Fl.place (fs.map (·.1)) x))∧Flow.Grow w w':=by
 have HV:=Lib.hid hv
 have HL:=Lib.hid hg
 obtain ⟨ao,ac,rfl⟩:=Gr.Recs.form hv
 clear hv hg
 obtain ⟨p,hp⟩:∃ p,p=fs.length:=⟨_,rfl⟩
 have Hp:=Lib.hid hp
 rw [← hp] at hz HV ⊢
 clear hp
 go_enter Tryz.func104,Tryz.ntmps104
 go_wp2_with fail
 go_loopw [8] (fun i wr=>∃ j:Nat,j≤p∧i=.int .i64 j∧Hid (∀ q,q < j→(fs.map (·.1)).getD q ⟨#[]⟩≠x)∧Hid (Flow.Grow w wr)) (fun i _=>p - (intOf i).toNat)
 case atStart=>exact ⟨0,by omega,rfl,Lib.hid fun q hq=>by omega,Lib.hid (Flow.grow_refl _)⟩
 case round =>
  obtain ⟨j,hj,rfl,HK,HG⟩:=hrel
  rename World=>wr
  by_cases hjn:j < p
  ·obtain ⟨f,hf⟩:∃ f,fs[j]? = some f:=⟨_,List.getElem?_eq_getElem (by rw [← Hp.out];exact hjn)⟩
   obtain ⟨b,off,rfl,c0⟩:=Gr.Recs.at Ch.fcells_len (by decide) (HV.out.grow HG.out) hf
   have q0:=c0 0 _ rfl
   have q1:=c0 1 _ rfl
   have q2:=c0 2 _ rfl
   have q3:=c0 3 _ rfl
   simp only [Nat.add_zero] at q0
   have HF:Hid ((fs.map (·.1)).getD j ⟨#[]⟩=f.1):=Lib.hid (by rw [List.getD_eq_getElem?_getD,List.getElem?_map,hf];rfl)
   have HCC:=Lib.hid (isFlow_any f x g wr (Xm2.cell_grow HG.out HL.out))
   clear c0 hf
   simp only [← Nat.add_assoc] at q1 q2 q3
   by_cases hfx:f.1=x
   ·have HD:Hid (decide (f.1=x)=true):=Lib.hid (decide_eq_true hfx)
    have HP:Hid (Fl.place (fs.map (·.1)) x=(j:Int)):=Lib.hid (Fl.place_hit (by rw [List.length_map,← Hp.out];exact hjn) (by rw [HF.out];exact hfx) HK.out)
    clear hfx
    go_wp2_with (go_at_call 105;refine HCC.out.mono ?_;rintro e w' ⟨rfl,hg⟩;rw [HD.out];have Hg:=Lib.hid hg;clear hg)
    go_ret
    exact ⟨by rw [HP.out];rfl,HG.out.trans Hg.out⟩
   ·have HD:Hid (decide (f.1=x)=false):=Lib.hid (decide_eq_false hfx)
    have HK1:Hid (∀ q,q < j+1→(fs.map (·.1)).getD q ⟨#[]⟩≠x):=Lib.hid fun q hq=>by
     by_cases e:q < j
     ·exact HK.out q e
     ·obtain rfl:q=j:=by omega
      rw [HF.out]
      exact hfx
    clear hfx
    go_wp2_with (go_at_call 105;refine HCC.out.mono ?_;rintro e w' ⟨rfl,hg⟩;rw [HD.out];have Hg:=Lib.hid hg;clear hg)
    go_roundw
    case rel=>exact ⟨j+1,by omega,by go_num,HK1,Lib.hid (HG.out.trans Hg.out)⟩
    case measure=>simp [intOf];omega
  ·obtain rfl:j=p:=by omega
   have HP:Hid (Fl.place (fs.map (·.1)) x=-1):=Lib.hid (Fl.place_miss fun q hq=>HK.out q (by rw [Hp.out];rw [List.length_map] at hq;exact hq))
   go_wp2_with fail
   go_ret
   exact ⟨by rw [HP.out];rfl,HG.out⟩
set_option maxRecDepth 100000 in
set_option maxHeartbeats 4000000 in
theorem idsFlow_any (nm x:ByteArray) (va vf vi vs:Value) (fs:List Ch.Fl) (w:World) (hz:fs.length≤1000000) (hv:Gr.Recs 4 Ch.fcells w vf fs) (hs:(∃ a n c,va=.slice a n c)∧(∃ a n c,vi=.slice a n c)∧∃ a n c,vs=.slice a n c) :
  Calls Tryz.prog 83 #[.agg #[.string nm,va,vf,vi,vs],.string x] w fun e w'=>e=.returned (.int .i64 (Fl.place (fs.map (·.1)) x))∧Flow.Grow w w':=by
 have HV:=Lib.hid hv
 obtain ⟨ao,ac,rfl⟩:=Gr.Recs.form hv
 obtain ⟨⟨a1,n1,c1,rfl⟩,⟨a2,n2,c2,rfl⟩,⟨a3,n3,c3,rfl⟩⟩:=hs
 clear hv
 go_enter Tryz.func83,Tryz.ntmps83
 go_upto_region 1 with fail
 have HBw10:Hid (((w.alloc (.cells #[.string nm,.slice a1 n1 c1,.slice ao fs.length ac,.slice a2 n2 c2,.slice a3 n3 c3] 48)).alloc (.cells #[.string x] 9)).heap[w.heap.size]? = some (.cells #[.string nm,.slice a1 n1 c1,.slice ao fs.length ac,.slice a2 n2 c2,.slice a3 n3 c3] 48 (0,0))):=Lib.hid (lay2_0 _ _ _)
 have HBw11:Hid (((w.alloc (.cells #[.string nm,.slice a1 n1 c1,.slice ao fs.length ac,.slice a2 n2 c2,.slice a3 n3 c3] 48)).alloc (.cells #[.string x] 9)).heap[w.heap.size+1]? = some (.cells #[.string x] 9 (0,0))):=Lib.hid (lay2_1 _ _ _)
 have HGw1:Hid (Flow.Grow w ((w.alloc (.cells #[.string nm,.slice a1 n1 c1,.slice ao fs.length ac,.slice a2 n2 c2,.slice a3 n3 c3] 48)).alloc (.cells #[.string x] 9))):=Lib.hid (lay2_g _ _ _)
 have HSw1:Hid (((w.alloc (.cells #[.string nm,.slice a1 n1 c1,.slice ao fs.length ac,.slice a2 n2 c2,.slice a3 n3 c3] 48)).alloc (.cells #[.string x] 9)).heap.size=w.heap.size+1+1):=Lib.hid (by simp)
 generalize (w.alloc (.cells #[.string nm,.slice a1 n1 c1,.slice ao fs.length ac,.slice a2 n2 c2,.slice a3 n3 c3] 48)).alloc (.cells #[.string x] 9)=w1 at *
 obtain ⟨X,hX⟩:∃ X,X=w.heap.size:=⟨_,rfl⟩
 rw [← hX] at HBw10 HBw11 HSw1 ⊢
 have HXw1:=Lib.hid hX
 clear hX
 have CXw1:Hid (∀ wq,Flow.Grow w1 wq→wq.cell? ⟨X,0,none⟩=some (.string nm)∧wq.cell? ⟨X,1,none⟩=some (.slice a1 n1 c1)∧wq.cell? ⟨X,2,none⟩=some (.slice ao fs.length ac)∧wq.cell? ⟨X,3,none⟩=some (.slice a2 n2 c2)∧wq.cell? ⟨X,4,none⟩=some (.slice a3 n3 c3)∧wq.cell? ⟨X+1,0,none⟩=some (.string x)):=Lib.hid (fun wq g=>⟨lay_cell g HBw10.out rfl,lay_cell g HBw10.out rfl,lay_cell g HBw10.out rfl,lay_cell g HBw10.out rfl,lay_cell g HBw10.out rfl,lay_cell g HBw11.out rfl⟩)
 have FXw1:Hid (∀ wq,Flow.Grow w1 wq→(∀ k,wq.frozen? ⟨X,k,none⟩=false)∧(∀ k,wq.frozen? ⟨X+1,k,none⟩=false)):=Lib.hid (fun wq g=>⟨fun k=>lay_frozen g HBw10.out k,fun k=>lay_frozen g HBw11.out k⟩)
 have HI:=Lib.hid (flowIdx_any _ fs x (X+1) w1 hz ((cell_of_row w1 (X+1) 0 _ _ _ HBw11.out).trans rfl) (HV.out.grow HGw1.out))
 obtain ⟨c00,c01,c02,c03,c04,c10⟩:=CXw1.out w1 (Flow.grow_refl _)
 go_wp2_with (go_at_call 104;refine HI.out.mono ?_;rintro e w' ⟨rfl,hg⟩;have Hg:=Lib.hid hg;clear hg)
 go_ret
 exact ⟨rfl,HGw1.out.trans Hg.out⟩
set_option maxRecDepth 100000 in
set_option maxHeartbeats 4000000 in
theorem isItem_any (k:Int) (a c:ByteArray) (u0 z0:Option Addr) (u1 u2 z1 z2:Nat) (b:Bool) (x:ByteArray) (g:Nat) (w:World) (hg:w.cell? ⟨g,0,none⟩=some (.string x)) :
  Calls Tryz.prog 63 #[.agg #[.int .i64 k,.string a,.string c,.slice u0 u1 u2,.slice z0 z1 z2,.bool b,.string ⟨#[]⟩,.slice none 0 0,.slice none 0 0,.slice none 0 0],.pointer (some ⟨g,0,none⟩)] w fun e w'=>e=.returned (.bool (decide (a=x)))∧Flow.Grow w w':=by
 have hg2:=Xm2.cell_grow (Flow.grow_alloc w (.cells #[.int .i64 k,.string a,.string c,.slice u0 u1 u2,.slice z0 z1 z2,.bool b,.string ⟨#[]⟩,.slice none 0 0,.slice none 0 0,.slice none 0 0] 116)) hg
 clear hg
 by_cases h:a=x
 ·have d2:=Fl.eq_t h
  have H:Hid (decide (a=x)=true):=Lib.hid (decide_eq_true h)
  clear h
  go_enter Tryz.func63,Tryz.ntmps63
  go_wp2_with fail
  go_ret
  exact ⟨by rw [H.out];rfl,Flow.grow_alloc _ _⟩
 ·have d2:=Fl.ne_f h
  have H:Hid (decide (a=x)=false):=Lib.hid (decide_eq_false h)
  clear h
  go_enter Tryz.func63,Tryz.ntmps63
  go_wp2_with fail
  go_ret
  exact ⟨by rw [H.out];rfl,Flow.grow_alloc _ _⟩
set_option maxRecDepth 100000 in
set_option maxHeartbeats 4000000 in
theorem itemIdx_any (v:Value) (its:List Ch.It) (x:ByteArray) (g:Nat) (w:World) (hz:its.length≤1000000) (hg:w.cell? ⟨g,0,none⟩=some (.string x)) (hv:Ch.Its w v its) :
  Calls Tryz.prog 62 #[v,.func (.func 63) #[] #[.pointer (some ⟨g,0,none⟩)]] w fun e w'=>e=.returned (.int .i64 (Fl.place (its.map (·.id)) x))∧Flow.Grow w w':=by
 obtain ⟨ys,hy1,hy2,hy3⟩:=hv
 have HL:=Lib.hid hg
 have HS:=Lib.hid hy3
 obtain ⟨p,hp⟩:∃ p,p=its.length:=⟨_,rfl⟩
 rw [← hp] at hz hy2
 have Hp:Hid (p=ys.length):=Lib.hid (by rw [hp,← hy1,List.length_map])
 have HV:Hid (Seg 10 w v p (ys.flatMap Ch.icells)):=Lib.hid (Seg.of_own hy2)
 have HN:Hid (its.map (·.id)=ys.map (·.1.id)):=Lib.hid (by rw [← hy1,List.map_map];rfl)
 obtain ⟨ao,ac,rfl⟩:=own_form hy2
 clear hp hy1 hy2 hy3 hg
 rw [HN.out]
 go_enter Tryz.func62,Tryz.ntmps62
 go_wp2_with fail
 go_loopw [8] (fun i wr=>∃ j:Nat,j≤p∧i=.int .i64 j∧Hid (∀ q,q < j→(ys.map (·.1.id)).getD q ⟨#[]⟩≠x)∧Hid (Flow.Grow w wr)) (fun i _=>p - (intOf i).toNat)
 case atStart=>exact ⟨0,by omega,rfl,Lib.hid fun q hq=>by omega,Lib.hid (Flow.grow_refl _)⟩
 case round =>
  obtain ⟨j,hj,rfl,HK,HG⟩:=hrel
  rename World=>wr
  by_cases hjn:j < p
  ·obtain ⟨y,hf⟩:∃ y,ys[j]? = some y:=⟨_,List.getElem?_eq_getElem (by rw [← Hp.out];exact hjn)⟩
   have hr:Gr.Recs 10 Ch.icells wr (.slice ao p ac) ys:=by
    have k:=Seg.grow HV.out HG.out
    rw [Hp.out] at k
    unfold Gr.Recs
    rw [Hp.out]
    exact k
   obtain ⟨b,off,rfl,c0⟩:=Gr.Recs.at Ch.icells_len (by decide) hr hf
   clear hr
   obtain ⟨s1,s2⟩:=HS.out y (List.mem_of_getElem? hf)
   obtain ⟨u0,u2,e1⟩:=own_form s1
   obtain ⟨z0,z2,e2⟩:=own_form s2
   clear s1 s2
   have HF:Hid ((ys.map (·.1.id)).getD j ⟨#[]⟩=y.1.id):=Lib.hid (by rw [List.getD_eq_getElem?_getD,List.getElem?_map,hf];rfl)
   clear hf
   obtain ⟨it,y1,y2⟩:=y
   simp only at e1 e2 HF
   subst e1 e2
   generalize it.parts.length=u1 at *
   generalize it.flows.length=z1 at *
   have q0:=c0 0 _ rfl
   have q1:=c0 1 _ rfl
   have q2:=c0 2 _ rfl
   have q3:=c0 3 _ rfl
   have q4:=c0 4 _ rfl
   have q5:=c0 5 _ rfl
   have q6:=c0 6 _ rfl
   have q7:=c0 7 _ rfl
   have q8:=c0 8 _ rfl
   have q9:=c0 9 _ rfl
   simp only [Nat.add_zero,Ch.nE] at q0 q1 q2 q3 q4 q5 q6 q7 q8 q9
   obtain ⟨kd,a,c,pl,fl,lp⟩:=it
   simp only at q0 q1 q2 q5 HF
   have HCC:=Lib.hid (isItem_any kd a c u0 z0 u1 u2 z1 z2 lp x g wr (Xm2.cell_grow HG.out HL.out))
   clear c0
   simp only [← Nat.add_assoc] at q1 q2 q3 q4 q5 q6 q7 q8 q9
   by_cases hfx:a=x
   ·have HD:Hid (decide (a=x)=true):=Lib.hid (decide_eq_true hfx)
    have HP:Hid (Fl.place (ys.map (·.1.id)) x=(j:Int)):=Lib.hid (Fl.place_hit (by rw [List.length_map,← Hp.out];exact hjn) (by rw [HF.out];exact hfx) HK.out)
    clear hfx
    go_wp2_with (go_at_call 63;refine HCC.out.mono ?_;rintro e w' ⟨rfl,hg⟩;rw [HD.out];have Hg:=Lib.hid hg;clear hg)
    go_ret
    exact ⟨by rw [HP.out];rfl,HG.out.trans Hg.out⟩
   ·have HD:Hid (decide (a=x)=false):=Lib.hid (decide_eq_false hfx)
    have HK1:Hid (∀ q,q < j+1→(ys.map (·.1.id)).getD q ⟨#[]⟩≠x):=Lib.hid fun q hq=>by
     by_cases e:q < j
     ·exact HK.out q e
     ·obtain rfl:q=j:=by omega
      rw [HF.out]
      exact hfx
    clear hfx
    go_wp2_with (go_at_call 63;refine HCC.out.mono ?_;rintro e w' ⟨rfl,hg⟩;rw [HD.out];have Hg:=Lib.hid hg;clear hg)
    go_roundw
    case rel=>exact ⟨j+1,by omega,by go_num,HK1,Lib.hid (HG.out.trans Hg.out)⟩
    case measure=>simp [intOf];omega
  ·obtain rfl:j=p:=by omega
   have HP:Hid (Fl.place (ys.map (·.1.id)) x=-1):=Lib.hid (Fl.place_miss fun q hq=>HK.out q (by rw [Hp.out];rw [List.length_map] at hq;exact hq))
   go_wp2_with fail
   go_ret
   exact ⟨by rw [HP.out];rfl,HG.out⟩
set_option maxRecDepth 100000 in
set_option maxHeartbeats 4000000 in
theorem idsItem_any (x:ByteArray) (v:Value) (its:List Ch.It) (w:World) (hz:its.length≤1000000) (hv:Ch.Its w v its) :
  Calls Tryz.prog 40 #[v,.string x] w fun e w'=>e=.returned (.int .i64 (Fl.place (its.map (·.id)) x))∧Flow.Grow w w':=by
 have HV:=Lib.hid hv
 obtain ⟨_,_,h2,_⟩:=hv
 obtain ⟨ao,ac,rfl⟩:=own_form h2
 clear h2
 go_enter Tryz.func40,Tryz.ntmps40
 go_upto_region 1 with fail
 have HBw10:Hid ((w.alloc (.cells #[.string x] 9)).heap[w.heap.size]? = some (.cells #[.string x] 9 (0,0))):=Lib.hid (lay1_0 _ _)
 have HGw1:Hid (Flow.Grow w (w.alloc (.cells #[.string x] 9))):=Lib.hid (lay1_g _ _)
 have HSw1:Hid ((w.alloc (.cells #[.string x] 9)).heap.size=w.heap.size+1):=Lib.hid (by simp)
 generalize w.alloc (.cells #[.string x] 9)=w1 at *
 obtain ⟨X,hX⟩:∃ X,X=w.heap.size:=⟨_,rfl⟩
 rw [← hX] at HBw10 HSw1 ⊢
 have HXw1:=Lib.hid hX
 clear hX
 have CXw1:Hid (∀ wq,Flow.Grow w1 wq→wq.cell? ⟨X,0,none⟩=some (.string x)):=Lib.hid (fun wq g=>lay_cell g HBw10.out rfl)
 have FXw1:Hid (∀ wq,Flow.Grow w1 wq→(∀ k,wq.frozen? ⟨X,k,none⟩=false)):=Lib.hid (fun wq g=>fun k=>lay_frozen g HBw10.out k)
 have HI:=Lib.hid (itemIdx_any _ its x X w1 hz ((cell_of_row w1 X 0 _ _ _ HBw10.out).trans rfl) (HV.out.grow HGw1.out))
 have c00:=(cell_of_row w1 X 0 _ _ _ HBw10.out).trans rfl
 simp at c00
 go_wp2_with (go_at_call 62;refine HI.out.mono ?_;rintro e w' ⟨rfl,hg⟩;have Hg:=Lib.hid hg;clear hg)
 go_ret
 exact ⟨rfl,HGw1.out.trans Hg.out⟩
end Go.Proofs.YtcnmaplopbbmaaaGreat
namespace Go.Proofs.YtcnmaplopbbmaaaGreat
open Go.RowKit
namespace Fl
abbrev S:=ByteArray
structure FM (W w:World) (B:Nat) (nm:S) (c1 c2 c3 c4 gp gm gn ge:Value) (pl ml:List S) (ns:List Gr.Nd) (es:List Gr.Ed) (er:Int):Prop where
 box:w.heap[B]? = some (.cells #[.string nm,c1,c2,c3,c4,gp,gm,gn,ge,.int .i64 er] 79 (0,0))
 lo:W.heap.size≤B
 grow:Flow.Grow W w
 parts:w.ownsRow W.heap.size 9 1 gp pl.length (pl.map Value.string)
 msgs:w.ownsRow W.heap.size 9 1 gm ml.length (ml.map Value.string)
 ne:gp.ownBlock=none∨gp.ownBlock≠gm.ownBlock
 nodes:w.ownsRow W.heap.size 52 7 gn ns.length (ns.flatMap Gr.Nd.cells)
 edges:w.ownsRow W.heap.size 56 2 ge es.length (es.flatMap Gr.ecells)
theorem FM.keep {W w w':World} {B:Nat} {nm:S} {c1 c2 c3 c4 gp gm gn ge:Value} {pl ml:List S} {ns:List Gr.Nd} {es:List Gr.Ed} {er:Int} (h:FM W w B nm c1 c2 c3 c4 gp gm gn ge pl ml ns es er) (g:Flow.Grow w w'):FM W w' B nm c1 c2 c3 c4 gp gm gn ge pl ml ns es er :=
 ⟨heap_keep g h.box,h.lo,h.grow.trans g,own_keep h.parts g,own_keep h.msgs g,h.ne,own_keep h.nodes g,own_keep h.edges g⟩
theorem FM.node {W w w':World} {B:Nat} {nm:S} {c1 c2 c3 c4 gp gm gn ge v':Value} {pl ml:List S} {ns:List Gr.Nd} {es:List Gr.Ed} {er:Int} (h:FM W w B nm c1 c2 c3 c4 gp gm gn ge pl ml ns es er) (n:Gr.Nd)
  (o:w'.ownsRow W.heap.size 52 7 v' (ns.length+1) (ns.flatMap Gr.Nd.cells++n.cells)) (k:w.grownBy w' gn.ownBlock):FM W (w'.setCell ⟨B,7,none⟩ v') B nm c1 c2 c3 c4 gp gm v' ge pl ml (ns++[n]) es er:=by
 have t:=TY.own h.nodes
 have hb:=t.keep_blk k h.box (by decide)
 have tb:=TY.blk hb
 have kb:=by_set w' B 7 v'
 refine ⟨(set_cells hb 7 v').trans rfl,h.lo,set_grow (grow_row h.grow k (own_lo h.nodes)) h.lo 7 v',tb.keep_own kb (t.keep_own k h.parts (by decide)) (by decide),tb.keep_own kb (t.keep_own k h.msgs (by decide)) (by decide),h.ne,?_,tb.keep_own kb (t.keep_own k h.edges (by decide)) (by decide)⟩
 have:=tb.keep_own kb o (by decide)
 rw [List.length_append,List.flatMap_append]
 simpa using this
def Kept (w w':World) (Ts:List TypeId):Prop:=∀ (Y:Nat) (cs:Array Value) (T:TypeId) (fr:Nat × Nat),w.heap[Y]? = some (Obj.cells cs T fr)→T∉Ts→w'.heap[Y]? = some (Obj.cells cs T fr)
theorem Kept.wide {w w':World} {Ts Us:List TypeId} (h:Kept w w' Ts) (hs:∀ T∈Ts,T∈Us):Kept w w' Us:=fun Y cs T fr hy hT=>h Y cs T fr hy (fun e=>hT (hs T e))
theorem Kept.trans {w w' w'':World} {Ts:List TypeId} (h:Kept w w' Ts) (k:Kept w' w'' Ts):Kept w w'' Ts:=fun Y cs T fr hy hT=>k Y cs T fr (h Y cs T fr hy hT) hT
theorem Kept.grow {w w':World} (g:Flow.Grow w w') (Ts:List TypeId):Kept w w' Ts:=fun _ _ _ _ hy _=>heap_keep g hy
theorem Kept.ty {w w':World} {T0:TypeId} {r:Option Nat} (k:TY w (some T0) r) (g:w.grownBy w' r) {Ts:List TypeId} (h0:T0∈Ts):Kept w w' Ts:=fun _ _ T _ hy hT=>k.keep_blk g hy (fun e=>hT (by cases e;exact h0))
end Fl
theorem info_gnode12:(Tryz.prog.info? 52).map (fun i=>(i.zero,i.size,i.bytes))=some (some (.agg #[.int .i64 0,.string ⟨#[]⟩,.int .i64 0,.int .i64 0,.int .i64 0,.int .i64 0,.bool false]),7,64):=by kernel_rfl
set_option maxRecDepth 100000 in
set_option maxHeartbeats 4000000 in
theorem flNode_any (W w:World) (B:Nat) (nm:ByteArray) (c1 c2 c3 c4 gp gm gn ge:Value) (pl ml:List Fl.S) (ns:List Gr.Nd) (es:List Gr.Ed) (er:Int) (n:Gr.Nd) (hn:ns.length≤100000) (h:Fl.FM W w B nm c1 c2 c3 c4 gp gm gn ge pl ml ns es er) :
  Calls Tryz.prog 61 #[.pointer (some ⟨B,0,none⟩),.agg #[.int .i64 n.kind,.string n.id,.int .i64 n.fr,.int .i64 n.to,.int .i64 n.msg,.int .i64 n.rep,.bool n.loop]] w fun e w'=>∃ gn',e=.returned (.int .i64 (ns.length:Int))∧Fl.FM W w' B nm c1 c2 c3 c4 gp gm gn' ge pl ml (ns++[n]) es er∧Fl.Kept w w' [79,52]:=by
 have H:=Lib.hid h
 obtain ⟨g0,g1,rfl⟩:=own_form h.nodes
 clear h
 obtain ⟨i9,hi,hz,hs,hb⟩:=info_parts08 info_gnode12
 have HI:=Lib.hid (And.intro hi (And.intro hz (And.intro hs hb)))
 clear hi hz hs hb
 obtain ⟨nl,hnl⟩:∃ k,k=ns.length:=⟨_,rfl⟩
 have Hnl:=Lib.hid hnl
 rw [← hnl] at H hn ⊢
 clear hnl
 go_enter Tryz.func61,Tryz.ntmps61
 go_upto_region 1 with fail
 have HBw10:Hid ((w.alloc (.cells #[.int .i64 n.kind,.string n.id,.int .i64 n.fr,.int .i64 n.to,.int .i64 n.msg,.int .i64 n.rep,.bool n.loop] 52)).heap[w.heap.size]? = some (.cells #[.int .i64 n.kind,.string n.id,.int .i64 n.fr,.int .i64 n.to,.int .i64 n.msg,.int .i64 n.rep,.bool n.loop] 52 (0,0))):=Lib.hid (lay1_0 _ _)
 have HGw1:Hid (Flow.Grow w (w.alloc (.cells #[.int .i64 n.kind,.string n.id,.int .i64 n.fr,.int .i64 n.to,.int .i64 n.msg,.int .i64 n.rep,.bool n.loop] 52))):=Lib.hid (lay1_g _ _)
 have HSw1:Hid ((w.alloc (.cells #[.int .i64 n.kind,.string n.id,.int .i64 n.fr,.int .i64 n.to,.int .i64 n.msg,.int .i64 n.rep,.bool n.loop] 52)).heap.size=w.heap.size+1):=Lib.hid (by simp)
 generalize w.alloc (.cells #[.int .i64 n.kind,.string n.id,.int .i64 n.fr,.int .i64 n.to,.int .i64 n.msg,.int .i64 n.rep,.bool n.loop] 52)=w1 at *
 obtain ⟨X,hX⟩:∃ X,X=w.heap.size:=⟨_,rfl⟩
 rw [← hX] at HBw10 HSw1 ⊢
 have HXw1:=Lib.hid hX
 clear hX
 have CXw1:Hid (∀ wq,Flow.Grow w1 wq→wq.cell? ⟨X,0,none⟩=some (.int .i64 n.kind)∧wq.cell? ⟨X,1,none⟩=some (.string n.id)∧wq.cell? ⟨X,2,none⟩=some (.int .i64 n.fr)∧wq.cell? ⟨X,3,none⟩=some (.int .i64 n.to)∧wq.cell? ⟨X,4,none⟩=some (.int .i64 n.msg)∧wq.cell? ⟨X,5,none⟩=some (.int .i64 n.rep)∧wq.cell? ⟨X,6,none⟩=some (.bool n.loop)):=Lib.hid (fun wq g=>⟨lay_cell g HBw10.out rfl,lay_cell g HBw10.out rfl,lay_cell g HBw10.out rfl,lay_cell g HBw10.out rfl,lay_cell g HBw10.out rfl,lay_cell g HBw10.out rfl,lay_cell g HBw10.out rfl⟩)
 have FXw1:Hid (∀ wq,Flow.Grow w1 wq→(∀ k,wq.frozen? ⟨X,k,none⟩=false)):=Lib.hid (fun wq g=>fun k=>lay_frozen g HBw10.out k)
 have H1:=Lib.hid (H.out.keep HGw1.out)
 obtain ⟨x0,x1,x2,x3,x4,x5,x6,x7,x8,x9,xf⟩:=m10_cells H1.out.box
 obtain ⟨c00,c01,c02,c03,c04,c05,c06⟩:=CXw1.out w1 (Flow.grow_refl _)
 have Hgr:Hid (∀ wz:World,Flow.Grow w1 wz→wz.ownsRow W.heap.size 52 7 (.slice g0 nl g1) nl (ns.flatMap Gr.Nd.cells)):=Lib.hid fun wz g=>by
  have k:=(H1.out.keep g).nodes
  rw [← Hnl.out] at k
  exact k
 have Hend:Hid (∀ wz wy:World,Flow.Grow w1 wz→∀ v',wy.ownsRow W.heap.size 52 7 v' (nl+1) (ns.flatMap Gr.Nd.cells++n.cells)→wz.grownBy wy (Value.slice g0 nl g1).ownBlock→Fl.FM W (wy.setCell ⟨B,7,none⟩ v') B nm c1 c2 c3 c4 gp gm v' ge pl ml (ns++[n]) es er∧Fl.Kept w (wy.setCell ⟨B,7,none⟩ v') [79,52]∧wy.heap[B]? = some (.cells #[.string nm,c1,c2,c3,c4,gp,gm,.slice g0 nl g1,ge,.int .i64 er] 79 (0,0))):=Lib.hid fun wz wy g v' o k =>
  have hb:=(TY.own (Hgr.out wz g)).keep_blk k (heap_keep g H1.out.box) (by decide)
  ⟨(H1.out.keep g).node n (by rw [← Hnl.out];exact o) k,((Fl.Kept.grow (HGw1.out.trans g) _).trans (Fl.Kept.ty (TY.own (Hgr.out wz g)) k (by simp))).trans (Fl.Kept.ty (TY.blk hb) (by_set wy B 7 v') (by simp)),hb⟩
 have Hsz:Hid (∀ wz:World,Flow.Grow w1 wz→W.heap.size≤wz.heap.size):=Lib.hid fun wz g=>(H1.out.grow.trans g).size
 have hne:Gr.Nd.cells n=[.int .i64 n.kind,.string n.id,.int .i64 n.fr,.int .i64 n.to,.int .i64 n.msg,.int .i64 n.rep,.bool n.loop]:=rfl
 have Hne:=Lib.hid hne
 clear hne x0 x1 x2 x3 x4 x5 x6 x8 x9
 have x7a:∀ x,(w1.alloc x).cell? ⟨B,7,none⟩=some (.slice g0 nl g1):=fun x=>Xm2.cell_grow (Flow.grow_alloc _ _) x7
 go_region_law (
  go_loud (refine step_append_lies _ rfl _ _ 24 rfl W.heap.size 52 i9 (.agg #[.int .i64 0,.string ⟨#[]⟩,.int .i64 0,.int .i64 0,.int .i64 0,.int .i64 0,.bool false]) 7 64 Tryz.underlying24 HI.out.1 HI.out.2.1 HI.out.2.2.1 HI.out.2.2.2 rfl (by decide) (.slice g0 nl g1) nl (ns.flatMap Gr.Nd.cells) rfl (Hgr.out _ (by first | exact (Flow.grow_alloc _ _).trans (Flow.grow_drew _) | exact (Flow.grow_drew _).trans (Flow.grow_alloc _ _))) ⟨w1.heap.size,0,none⟩ 1 1 (Gr.Nd.cells n) rfl rfl (fun j u hj=>by rw [Addr.add_lit,Nat.zero_add];exact cells_of (heap_alloc_new _ _) j u hj) (by intro u hu;rw [Hne.out] at hu;simp at hu;rcases hu with rfl | rfl | rfl | rfl | rfl | rfl | rfl <;> rfl) (by decide) (by unfold maxLen;omega) (by omega) (Hsz.out _ (by first | exact (Flow.grow_alloc _ _).trans (Flow.grow_drew _) | exact (Flow.grow_drew _).trans (Flow.grow_alloc _ _))) _ rfl ?_);
  intro g4 c4' w4 hown4 hgrow4 hat4 hlt4;
  have He:=Lib.hid (Hend.out _ w4 (by first | exact (Flow.grow_alloc _ _).trans (Flow.grow_drew _) | exact (Flow.grow_drew _).trans (Flow.grow_alloc _ _)) _ hown4 hgrow4);
  obtain ⟨z0,z1,z2,z3,z4,z5,z6,z7,z8,z9,zf⟩:=m10_cells He.out.2.2;
  have HF:=Lib.hid He.out.1;
  have HKt:=Lib.hid He.out.2.1;
  clear hown4 hgrow4 hat4 hlt4 He z0 z1 z2 z3 z4 z5 z6 z8 z9)
 all_goals
  clear x7 x7a xf z7 zf c00 c01 c02 c03 c04 c05 c06
  generalize w4.setCell ⟨B,7,none⟩ (.slice (some ⟨g4,0,none⟩) (nl+1) c4')=w5 at *
  obtain ⟨z0,z1,z2,z3,z4,z5,z6,z7,z8,z9,zf⟩:=m10_cells HF.out.box
  go_wp2_with fail
  go_ret
  exact ⟨_,rfl,HF.out,HKt.out⟩
end Go.Proofs.YtcnmaplopbbmaaaGreat
