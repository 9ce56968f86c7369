/- galliardref08's maker, in memory; Pick, id, next, name by contract. -/
import Derived.Test.YtcnmaplopbbmaaaGreatMAc
import Derived.Test.YtcnmaplopbbmaaaGreatMAd
import Derived.Test.YtcnmaplopbbmaaaGreatMAf
import Derived.Test.YtcnmaplopbbmaaaGreatMAl
namespace Go.Proofs.YtcnmaplopbbmaaaGreat
open Go.RowKit
namespace Ch
def fcells (f:Fl):List Value:=[.string f.1,.string f.2.1,.string f.2.2.1,.string f.2.2.2]
def scells (s:Sq):List Value:=[.string s.1,.string s.2.1,.string s.2.2]
def pcells (p:S):List Value:=[.string p,.string nE]
def mc (c:Cx) (m:Mk) (vp va vf vi vs:Value):Array Value:=#[vp,.int .i64 (m.at_:Int),.int .i64 (m.n:Int),va,vf,vi,vs,.string c.pre]
def Strs (w:World) (v:Value) (l:List S):Prop:=w.ownsRow 0 9 1 v l.length (l.map Value.string)
theorem Strs.grow {w w':World} {v:Value} {l:List S} (h:Strs w v l) (g:Flow.Grow w w'):Strs w' v l:=own_keep h g
def icells (x:It × Value × Value):List Value:=[.int .i64 x.1.kind,.string x.1.id,.string x.1.first,x.2.1,x.2.2,.bool x.1.loop,.string nE,.slice none 0 0,.slice none 0 0,.slice none 0 0]
def Its (w:World) (v:Value) (l:List It):Prop:=∃ ys:List (It × Value × Value),ys.map (·.1)=l∧w.ownsRow 0 116 10 v l.length (ys.flatMap icells)∧∀ y∈ys,Strs w y.2.1 y.1.parts∧Strs w y.2.2 y.1.flows
theorem Its.grow {w w':World} {v:Value} {l:List It} (h:Its w v l) (g:Flow.Grow w w'):Its w' v l:=by
 obtain ⟨ys,h1,h2,h3⟩:=h
 exact ⟨ys,h1,own_keep h2 g,fun y hy=>⟨(h3 y hy).1.grow g,(h3 y hy).2.grow g⟩⟩
structure MkAt (w:World) (c:Cx) (m:Mk) (vp va vf vi vs:Value):Prop where
 p:Ints w vp c.p
 parts:w.ownsRow 0 81 2 va c.parts.length (c.parts.flatMap pcells)
 flows:w.ownsRow 0 163 4 vf m.flows.length (m.flows.flatMap fcells)
 items:Its w vi m.items
 seqs:w.ownsRow 0 119 3 vs m.seqs.length (m.seqs.flatMap scells)
theorem MkAt.grow {w w':World} {c:Cx} {m:Mk} {vp va vf vi vs:Value} (h:MkAt w c m vp va vf vi vs) (g:Flow.Grow w w'):MkAt w' c m vp va vf vi vs :=
 ⟨h.p.grow g,own_keep h.parts g,own_keep h.flows g,h.items.grow g,own_keep h.seqs g⟩
theorem MkAt.forms {w:World} {c:Cx} {m:Mk} {vp va vf vi vs:Value} (h:MkAt w c m vp va vf vi vs):∃ p0 p1 a0 a1 f0 f1 i0 i1 s0 s1,vp=.slice p0 c.p.length p1∧va=.slice a0 c.parts.length a1∧vf=.slice f0 m.flows.length f1∧vi=.slice i0 m.items.length i1∧vs=.slice s0 m.seqs.length s1:=by
 obtain ⟨p0,p1,e1,_⟩:=h.p
 obtain ⟨a0,a1,e2⟩:=own_form h.parts
 obtain ⟨f0,f1,e3⟩:=own_form h.flows
 obtain ⟨_,_,hi,_⟩:=h.items
 obtain ⟨i0,i1,e4⟩:=own_form hi
 obtain ⟨s0,s1,e5⟩:=own_form h.seqs
 exact ⟨p0,p1,a0,a1,f0,f1,i0,i1,s0,s1,e1,e2,e3,e4,e5⟩
end Ch
theorem pick_any (v:Value) (p:List Int) (a:Nat) (w:World) (ha:a≤1000000) (h:Ints w v p) (hp:p.length≤9223372036854775807) :
  Calls Tryz.prog 24 #[v,.int .i64 (a:Int)] w fun e w'=>e=.returned (.int .i64 (Ch.pick p a:Int))∧w=w':=by
 obtain ⟨x,cap,rfl,hl,_⟩:=id h
 go_enter Tryz.func24,Tryz.ntmps24
 by_cases hin:a < p.length
 ·obtain ⟨b,o,rfl,q⟩:=Ints.at1 h (k:=a) hin
  have e:Ch.pick p a=(p.getD a 0 % 2 ^ 24).toNat:=if_pos hin
  rw [e]
  clear e
  have d1:decide ((a:Int) < (p.length:Int))=true:=by simp;omega
  generalize p.getD a 0=z at *
  have hm:=Bits.i64_mask z 24 (by omega) 16777215 (by decide)
  have hX:((z % 2 ^ 24).toNat:Int)=z % 2 ^ 24:=by omega
  rw [hX]
  go_wp2_with fail
  go_ret
  exact ⟨rfl,rfl⟩
 ·have e:Ch.pick p a=a * 7919 % 65536:=if_neg hin
  rw [e]
  clear e
  have d1:decide ((a:Int) < (p.length:Int))=false:=by simp;omega
  have hw:IntKind.i64.wrap ((a:Int) * 7919)=(a:Int) * 7919:=by rw [IntKind.wrap_i64];omega
  have hm:=Bits.i64_mask ((a:Int) * 7919) 16 (by omega) 65535 (by decide)
  go_wp2_with fail
  go_ret
  exact ⟨rfl,rfl⟩
set_option maxRecDepth 100000 in
theorem id_any (s:ByteArray) (n:Nat) (W:World) (hn:n≤1000000) (hs:s.size≤1000000) :
  Calls Tryz.prog 64 #[.string s,.int .i64 (n:Int)] W fun e w'=>e=.returned (.string (s++Ch.two n))∧Flow.Grow W w':=by
 have q1:(n:Int).tdiv 26=((n / 26:Nat):Int):=(Int.ofNat_tdiv n 26).symm
 have q2:((n / 26:Nat):Int).tmod 26=((n / 26 % 26:Nat):Int):=(Int.ofNat_tmod (n / 26) 26).symm
 have q3:(n:Int).tmod 26=((n % 26:Nat):Int):=(Int.ofNat_tmod n 26).symm
 have e:Ch.two n=⟨[UInt8.ofNat (97+n / 26 % 26),UInt8.ofNat (97+n % 26)].toArray⟩:=rfl
 rw [e]
 clear e
 have b1:n / 26 % 26 < 26:=Nat.mod_lt _ (by omega)
 have b2:n % 26 < 26:=Nat.mod_lt _ (by omega)
 have b3:n / 26≤1000000:=by omega
 generalize n / 26 % 26=x at *
 generalize n % 26=y at *
 generalize n / 26=z at *
 obtain ⟨X,hX⟩:∃ X,X=W.heap.size:=⟨_,rfl⟩
 have hcv:∀ w:World,w.cell? ⟨W.heap.size,0,none⟩=some (.int .u8 (97+(x:Int)))→w.cell? ⟨W.heap.size,1,none⟩=some (.int .u8 (97+(y:Int)))→(convert 166 9 (.slice (some ⟨W.heap.size,0,none⟩) 2 2)).run Tryz.prog w=.ok (.string ⟨[UInt8.ofNat (97+x),UInt8.ofNat (97+y)].toArray⟩) w:=fun w h0 h1 =>
  run_convert_bytes_back w 166 9 5 ⟨W.heap.size,0,none⟩ 2 [UInt8.ofNat (97+x),UInt8.ofNat (97+y)] Tryz.underlying166 Tryz.underlying5 Tryz.underlying9 fun i hi=>by
   rw [Addr.add_lit]
   rcases i with _ | _ | i
   ·refine h0.trans ?_
    simp only [List.getElem_cons_zero,UInt8.toNat_ofNat']
    rw [Nat.mod_eq_of_lt (by omega)]
    simp
   ·refine h1.trans ?_
    simp only [List.getElem_cons_succ,List.getElem_cons_zero,UInt8.toNat_ofNat']
    rw [Nat.mod_eq_of_lt (by omega)]
    simp
   ·simp at hi;omega
 have hw:=hcv (W.alloc (.cells #[.int .u8 (97+(x:Int)),.int .u8 (97+(y:Int))] 5)) ((cell_of_row _ _ 0 _ _ _ (heap_alloc_new W _)).trans rfl) ((cell_of_row _ _ 1 _ _ _ (heap_alloc_new W _)).trans rfl)
 clear hcv
 have hr:(ByteArray.mk [UInt8.ofNat (97+x),UInt8.ofNat (97+y)].toArray).size=2:=rfl
 generalize ByteArray.mk [UInt8.ofNat (97+x),UInt8.ofNat (97+y)].toArray=r at *
 go_enter Tryz.func64,Tryz.ntmps64
 have hsz:¬ 9223372036854775807 < s.size+r.size:=by omega
 go_wp2_with fail
 go_ret
 exact ⟨rfl,Flow.grow_alloc _ _⟩
section
variable {w W:World} {X:Nat} {T:TypeId} {b0 b1 b2 b3 b4 b5 b6 b7:Value}
theorem m8_set (c0 c1 c2 c3 c4 c5 c6 c7:Value) (h:w.heap[X]? = some (.cells #[b0,b1,b2,b3,b4,b5,b6,b7] T (0,0))):((((((((w.setCell ⟨X,0,none⟩ c0).setCell ⟨X,1,none⟩ c1).setCell ⟨X,2,none⟩ c2).setCell ⟨X,3,none⟩ c3).setCell ⟨X,4,none⟩ c4).setCell ⟨X,5,none⟩ c5).setCell ⟨X,6,none⟩ c6).setCell ⟨X,7,none⟩ c7).heap[X]? = some (.cells #[c0,c1,c2,c3,c4,c5,c6,c7] T (0,0)):=by
 have h0:=set_cells h 0 c0
 simp only [List.setIfInBounds_toArray,List.set_cons_zero] at h0
 have h1:=set_cells h0 1 c1
 simp only [List.setIfInBounds_toArray,List.set_cons_zero,List.set_cons_succ] at h1
 have h2:=set_cells h1 2 c2
 simp only [List.setIfInBounds_toArray,List.set_cons_zero,List.set_cons_succ] at h2
 have h3:=set_cells h2 3 c3
 simp only [List.setIfInBounds_toArray,List.set_cons_zero,List.set_cons_succ] at h3
 have h4:=set_cells h3 4 c4
 simp only [List.setIfInBounds_toArray,List.set_cons_zero,List.set_cons_succ] at h4
 have h5:=set_cells h4 5 c5
 simp only [List.setIfInBounds_toArray,List.set_cons_zero,List.set_cons_succ] at h5
 have h6:=set_cells h5 6 c6
 simp only [List.setIfInBounds_toArray,List.set_cons_zero,List.set_cons_succ] at h6
 have h7:=set_cells h6 7 c7
 simp only [List.setIfInBounds_toArray,List.set_cons_zero,List.set_cons_succ] at h7
 exact h7
theorem drew_heap (w:World):w.drew.heap=w.heap:=rfl
theorem m8_setD (c0 c1 c2 c3 c4 c5 c6 c7:Value) (h:w.heap[X]? = some (.cells #[b0,b1,b2,b3,b4,b5,b6,b7] T (0,0))):((((((((w.setCell ⟨X,0,none⟩ c0).setCell ⟨X,1,none⟩ c1).setCell ⟨X,2,none⟩ c2).setCell ⟨X,3,none⟩ c3).setCell ⟨X,4,none⟩ c4).setCell ⟨X,5,none⟩ c5).setCell ⟨X,6,none⟩ c6).setCell ⟨X,7,none⟩ c7).drew.heap[X]? = some (.cells #[c0,c1,c2,c3,c4,c5,c6,c7] T (0,0)):=by
 rw [drew_heap]
 exact m8_set c0 c1 c2 c3 c4 c5 c6 c7 h
theorem m8_by (w:World) (X:Nat) (c0 c1 c2 c3 c4 c5 c6 c7:Value):w.grownBy ((((((((w.setCell ⟨X,0,none⟩ c0).setCell ⟨X,1,none⟩ c1).setCell ⟨X,2,none⟩ c2).setCell ⟨X,3,none⟩ c3).setCell ⟨X,4,none⟩ c4).setCell ⟨X,5,none⟩ c5).setCell ⟨X,6,none⟩ c6).setCell ⟨X,7,none⟩ c7) (some X) :=
 by_trans (by_trans (by_trans (by_trans (by_trans (by_trans (by_trans (by_set _ _ _ _) (by_set _ _ _ _)) (by_set _ _ _ _)) (by_set _ _ _ _)) (by_set _ _ _ _)) (by_set _ _ _ _)) (by_set _ _ _ _)) (by_set _ _ _ _)
theorem m8_cells (h:w.heap[X]? = some (.cells #[b0,b1,b2,b3,b4,b5,b6,b7] T (0,0))):w.cell? ⟨X,0,none⟩=some b0∧w.cell? ⟨X,1,none⟩=some b1∧w.cell? ⟨X,2,none⟩=some b2∧w.cell? ⟨X,3,none⟩=some b3∧w.cell? ⟨X,4,none⟩=some b4∧w.cell? ⟨X,5,none⟩=some b5∧w.cell? ⟨X,6,none⟩=some b6∧w.cell? ⟨X,7,none⟩=some b7∧∀ k,w.frozen? ⟨X,k,none⟩=false :=
 ⟨(cell_of_row w X 0 _ _ _ h).trans rfl,(cell_of_row w X 1 _ _ _ h).trans rfl,(cell_of_row w X 2 _ _ _ h).trans rfl,(cell_of_row w X 3 _ _ _ h).trans rfl,(cell_of_row w X 4 _ _ _ h).trans rfl,(cell_of_row w X 5 _ _ _ h).trans rfl,(cell_of_row w X 6 _ _ _ h).trans rfl,(cell_of_row w X 7 _ _ _ h).trans rfl,fun k=>frozen_of_row w X k _ _ h⟩
theorem m8_other {Y:Nat} {o:Obj} (c0 c1 c2 c3 c4 c5 c6 c7:Value) (h:w.heap[Y]? = some o) (hY:Y≠X):((((((((w.setCell ⟨X,0,none⟩ c0).setCell ⟨X,1,none⟩ c1).setCell ⟨X,2,none⟩ c2).setCell ⟨X,3,none⟩ c3).setCell ⟨X,4,none⟩ c4).setCell ⟨X,5,none⟩ c5).setCell ⟨X,6,none⟩ c6).setCell ⟨X,7,none⟩ c7).heap[Y]? = some o :=
 set_other (set_other (set_other (set_other (set_other (set_other (set_other (set_other h hY) hY) hY) hY) hY) hY) hY) hY
theorem m8_grow (g:Flow.Grow W w) (hX:W.heap.size≤X) (c0 c1 c2 c3 c4 c5 c6 c7:Value):Flow.Grow W ((((((((w.setCell ⟨X,0,none⟩ c0).setCell ⟨X,1,none⟩ c1).setCell ⟨X,2,none⟩ c2).setCell ⟨X,3,none⟩ c3).setCell ⟨X,4,none⟩ c4).setCell ⟨X,5,none⟩ c5).setCell ⟨X,6,none⟩ c6).setCell ⟨X,7,none⟩ c7) :=
 grow_row g (m8_by w X c0 c1 c2 c3 c4 c5 c6 c7) (fun b e=>by cases e;exact hX)
end
theorem next_res (tmps:Array Value) (w:World) (X:Nat) (c0 c1 c2 c3 c4 c5 c6 c7 u:Value) (h1:tmps.getD 2 undef=u) (h2:tmps.getD 3 undef=.pointer (some ⟨X,0,none⟩)) (hx:w.heap[X]? = some (.cells #[c0,c1,c2,c3,c4,c5,c6,c7] 86 (0,0))) :
  (results Tryz.f65 tmps).run Tryz.prog w=.ok (.tuple #[u,.agg #[c0,c1,c2,c3,c4,c5,c6,c7]]) w:=by
 obtain ⟨x0,x1,x2,x3,x4,x5,x6,x7,_⟩:=m8_cells hx
 simp only [Array.getD_eq_getD_getElem?] at h1 h2
 simp [results,Tryz.results65,h1,h2,x0,x1,x2,x3,x4,x5,x6,x7,go_sem]
set_option maxRecDepth 100000 in
set_option maxHeartbeats 4000000 in
theorem next_any (c:Ch.Cx) (m:Ch.Mk) (vp va vf vi vs:Value) (W:World) (ha:m.at_≤1000000) (hp:c.p.length≤9223372036854775807) (h:Ch.MkAt W c m vp va vf vi vs) :
  Calls Tryz.prog 65 #[.agg (Ch.mc c m vp va vf vi vs)] W fun e w'=>e=.returned (.tuple #[.int .i64 (Ch.pick c.p m.at_:Int),.agg (Ch.mc c m.next vp va vf vi vs)])∧Flow.Grow W w':=by
 have HPk:=Lib.hid fun w (hg:Flow.Grow W w)=>pick_any vp c.p m.at_ w ha (h.p.grow hg) hp
 obtain ⟨p0,p1,a0,a1,f0,f1,i0,i1,s0,s1,rfl,rfl,rfl,rfl,rfl⟩:=h.forms
 obtain ⟨pk,hpk⟩:∃ k,k=Ch.pick c.p m.at_:=⟨_,rfl⟩
 rw [← hpk] at HPk ⊢
 clear hpk h hp
 obtain ⟨at_,n,fl,it,sq⟩:=m
 obtain ⟨p,pa,pre⟩:=c
 simp only [Ch.mc,Ch.Mk.next] at *
 generalize fl.length=fn
 generalize it.length=itn
 generalize sq.length=sn
 generalize p.length=pn at *
 generalize pa.length=an
 go_enter Tryz.func65,Tryz.ntmps65
 go_upto_region 1 with fail
 have HBw10:Hid (((W.alloc (.cells #[.slice p0 pn p1,.int .i64 (at_:Int),.int .i64 (n:Int),.slice a0 an a1,.slice f0 fn f1,.slice i0 itn i1,.slice s0 sn s1,.string pre] 86)).alloc (.cells #[.slice none 0 0,.int .i64 0,.int .i64 0,.slice none 0 0,.slice none 0 0,.slice none 0 0,.slice none 0 0,.string ⟨#[]⟩] 86)).heap[W.heap.size]? = some (.cells #[.slice p0 pn p1,.int .i64 (at_:Int),.int .i64 (n:Int),.slice a0 an a1,.slice f0 fn f1,.slice i0 itn i1,.slice s0 sn s1,.string pre] 86 (0,0))):=Lib.hid (lay2_0 _ _ _)
 have HBw11:Hid (((W.alloc (.cells #[.slice p0 pn p1,.int .i64 (at_:Int),.int .i64 (n:Int),.slice a0 an a1,.slice f0 fn f1,.slice i0 itn i1,.slice s0 sn s1,.string pre] 86)).alloc (.cells #[.slice none 0 0,.int .i64 0,.int .i64 0,.slice none 0 0,.slice none 0 0,.slice none 0 0,.slice none 0 0,.string ⟨#[]⟩] 86)).heap[W.heap.size+1]? = some (.cells #[.slice none 0 0,.int .i64 0,.int .i64 0,.slice none 0 0,.slice none 0 0,.slice none 0 0,.slice none 0 0,.string ⟨#[]⟩] 86 (0,0))):=Lib.hid (lay2_1 _ _ _)
 have HGw1:Hid (Flow.Grow W ((W.alloc (.cells #[.slice p0 pn p1,.int .i64 (at_:Int),.int .i64 (n:Int),.slice a0 an a1,.slice f0 fn f1,.slice i0 itn i1,.slice s0 sn s1,.string pre] 86)).alloc (.cells #[.slice none 0 0,.int .i64 0,.int .i64 0,.slice none 0 0,.slice none 0 0,.slice none 0 0,.slice none 0 0,.string ⟨#[]⟩] 86))):=Lib.hid (lay2_g _ _ _)
 have HSw1:Hid (((W.alloc (.cells #[.slice p0 pn p1,.int .i64 (at_:Int),.int .i64 (n:Int),.slice a0 an a1,.slice f0 fn f1,.slice i0 itn i1,.slice s0 sn s1,.string pre] 86)).alloc (.cells #[.slice none 0 0,.int .i64 0,.int .i64 0,.slice none 0 0,.slice none 0 0,.slice none 0 0,.slice none 0 0,.string ⟨#[]⟩] 86)).heap.size=W.heap.size+1+1):=Lib.hid (by simp)
 generalize (W.alloc (.cells #[.slice p0 pn p1,.int .i64 (at_:Int),.int .i64 (n:Int),.slice a0 an a1,.slice f0 fn f1,.slice i0 itn i1,.slice s0 sn s1,.string pre] 86)).alloc (.cells #[.slice none 0 0,.int .i64 0,.int .i64 0,.slice none 0 0,.slice none 0 0,.slice none 0 0,.slice none 0 0,.string ⟨#[]⟩] 86)=w1 at *
 obtain ⟨X,hX⟩:∃ X,X=W.heap.size:=⟨_,rfl⟩
 rw [← hX] at HBw10 HBw11 HSw1 ⊢
 have HXw1:=Lib.hid hX
 clear hX
 have CXw1:Hid (∀ wq,Flow.Grow w1 wq→wq.cell? ⟨X,0,none⟩=some (.slice p0 pn p1)∧wq.cell? ⟨X,1,none⟩=some (.int .i64 (at_:Int))∧wq.cell? ⟨X,2,none⟩=some (.int .i64 (n:Int))∧wq.cell? ⟨X,3,none⟩=some (.slice a0 an a1)∧wq.cell? ⟨X,4,none⟩=some (.slice f0 fn f1)∧wq.cell? ⟨X,5,none⟩=some (.slice i0 itn i1)∧wq.cell? ⟨X,6,none⟩=some (.slice s0 sn s1)∧wq.cell? ⟨X,7,none⟩=some (.string pre)∧wq.cell? ⟨X+1,0,none⟩=some (.slice none 0 0)∧wq.cell? ⟨X+1,1,none⟩=some (.int .i64 0)∧wq.cell? ⟨X+1,2,none⟩=some (.int .i64 0)∧wq.cell? ⟨X+1,3,none⟩=some (.slice none 0 0)∧wq.cell? ⟨X+1,4,none⟩=some (.slice none 0 0)∧wq.cell? ⟨X+1,5,none⟩=some (.slice none 0 0)∧wq.cell? ⟨X+1,6,none⟩=some (.slice none 0 0)∧wq.cell? ⟨X+1,7,none⟩=some (.string ⟨#[]⟩)):=Lib.hid (fun wq g=>⟨lay_cell g HBw10.out rfl,lay_cell g HBw10.out rfl,lay_cell g HBw10.out rfl,lay_cell g HBw10.out rfl,lay_cell g HBw10.out rfl,lay_cell g HBw10.out rfl,lay_cell g HBw10.out rfl,lay_cell g HBw10.out rfl,lay_cell g HBw11.out rfl,lay_cell g HBw11.out rfl,lay_cell g HBw11.out rfl,lay_cell g HBw11.out rfl,lay_cell g HBw11.out rfl,lay_cell g HBw11.out rfl,lay_cell g HBw11.out rfl,lay_cell g HBw11.out rfl⟩)
 have FXw1:Hid (∀ wq,Flow.Grow w1 wq→(∀ k,wq.frozen? ⟨X,k,none⟩=false)∧(∀ k,wq.frozen? ⟨X+1,k,none⟩=false)):=Lib.hid (fun wq g=>⟨fun k=>lay_frozen g HBw10.out k,fun k=>lay_frozen g HBw11.out k⟩)
 obtain ⟨c00,c01,c02,c03,c04,c05,c06,c07,c10,c11,c12,c13,c14,c15,c16,c17⟩:=CXw1.out w1 (Flow.grow_refl _)
 obtain ⟨f0,f1⟩:=FXw1.out w1 (Flow.grow_refl _)
 go_upto_region 2 with (go_at_call 24;refine (HPk.out _ HGw1.out).mono ?_;rintro e w' ⟨rfl,rfl⟩)
 go_upto_region 3 with fail
 clear c00 c01 c02 c03 c04 c05 c06 c07 f0 c10 c11 c12 c13 c14 c15 c16 c17 f1
 have hX:W.heap.size≤X:=by rw [HXw1.out];exact Nat.le_refl _
 have HB2:Hid ((w1.setCell ⟨X,1,none⟩ (.int .i64 ((at_:Int)+1))).heap[X]? = some (.cells #[.slice p0 pn p1,.int .i64 ((at_:Int)+1),.int .i64 (n:Int),.slice a0 an a1,.slice f0 fn f1,.slice i0 itn i1,.slice s0 sn s1,.string pre] 86 (0,0))):=Lib.hid ((set_cells HBw10.out 1 (.int .i64 ((at_:Int)+1))).trans rfl)
 have HC2:=Lib.hid (set_other (g:=X) (q:=1) (u:=.int .i64 ((at_:Int)+1)) HBw11.out (by omega))
 have HG2:=Lib.hid (set_grow (g:=X) HGw1.out hX 1 (.int .i64 ((at_:Int)+1)))
 generalize w1.setCell ⟨X,1,none⟩ (.int .i64 ((at_:Int)+1))=w2 at *
 obtain ⟨x0,x1,x2,x3,x4,x5,x6,x7,xf⟩:=m8_cells HB2.out
 obtain ⟨y0,y1,y2,y3,y4,y5,y6,y7,yf⟩:=m8_cells HC2.out
 go_region
 go_wp2_with fail
 have e1:((at_+1:Nat):Int)=(at_:Int)+1:=by omega
 rw [e1]
 have k:=m8_setD (w:=w2) (X:=X+1) (.slice p0 pn p1) (.int .i64 ((at_:Int)+1)) (.int .i64 (n:Int)) (.slice a0 an a1) (.slice f0 fn f1) (.slice i0 itn i1) (.slice s0 sn s1) (.string pre) HC2.out
 have kg:=m8_grow (w:=w2) (X:=X+1) HG2.out (by omega) (.slice p0 pn p1) (.int .i64 ((at_:Int)+1)) (.int .i64 (n:Int)) (.slice a0 an a1) (.slice f0 fn f1) (.slice i0 itn i1) (.slice s0 sn s1) (.string pre)
 refine bodyPost_ret (next_res _ _ (X+1) _ _ _ _ _ _ _ _ _ rfl rfl k) rfl ⟨rfl,kg.trans (Flow.grow_drew _)⟩
theorem name_res (tmps:Array Value) (w:World) (X:Nat) (c0 c1 c2 c3 c4 c5 c6 c7 u:Value) (h1:tmps.getD 4 undef=u) (h2:tmps.getD 5 undef=.pointer (some ⟨X,0,none⟩)) (hx:w.heap[X]? = some (.cells #[c0,c1,c2,c3,c4,c5,c6,c7] 86 (0,0))) :
  (results Tryz.f41 tmps).run Tryz.prog w=.ok (.tuple #[u,.agg #[c0,c1,c2,c3,c4,c5,c6,c7]]) w:=by
 obtain ⟨x0,x1,x2,x3,x4,x5,x6,x7,_⟩:=m8_cells hx
 simp only [Array.getD_eq_getD_getElem?] at h1 h2
 simp [results,Tryz.results41,h1,h2,x0,x1,x2,x3,x4,x5,x6,x7,go_sem]
set_option maxRecDepth 100000 in
set_option maxHeartbeats 4000000 in
theorem name_any (c:Ch.Cx) (m:Ch.Mk) (s:ByteArray) (vp va vf vi vs:Value) (W:World) (hn:m.n≤100000) (hs:s.size≤1000) (hc:c.pre.size≤1000) (h:Ch.MkAt W c m vp va vf vi vs) :
  Calls Tryz.prog 41 #[.agg (Ch.mc c m vp va vf vi vs),.string s] W fun e w'=>e=.returned (.tuple #[.string (c.name s (m.n+1)),.agg (Ch.mc c m.named vp va vf vi vs)])∧Flow.Grow W w':=by
 have HId:=Lib.hid fun w=>id_any s (m.n+1) w (by omega) (by omega)
 have hsz:¬ 9223372036854775807 < c.pre.size+(s++Ch.two (m.n+1)).size:=by
  have:(Ch.two (m.n+1)).size=2:=rfl
  rw [ByteArray.size_append,this]
  omega
 obtain ⟨p0,p1,a0,a1,f0,f1,i0,i1,s0,s1,rfl,rfl,rfl,rfl,rfl⟩:=h.forms
 clear h
 obtain ⟨at_,n,fl,it,sq⟩:=m
 obtain ⟨p,pa,pre⟩:=c
 simp only [Ch.mc,Ch.Mk.named,Ch.Cx.name] at *
 generalize fl.length=fn
 generalize it.length=itn
 generalize sq.length=sn
 generalize p.length=pn at *
 generalize pa.length=an
 generalize s++Ch.two (n+1)=nm at *
 have e1:((n+1:Nat):Int)=(n:Int)+1:=by omega
 rw [e1] at HId ⊢
 go_enter Tryz.func41,Tryz.ntmps41
 go_upto_region 1 with fail
 have HBw10:Hid (((W.alloc (.cells #[.slice p0 pn p1,.int .i64 (at_:Int),.int .i64 (n:Int),.slice a0 an a1,.slice f0 fn f1,.slice i0 itn i1,.slice s0 sn s1,.string pre] 86)).alloc (.cells #[.slice none 0 0,.int .i64 0,.int .i64 0,.slice none 0 0,.slice none 0 0,.slice none 0 0,.slice none 0 0,.string ⟨#[]⟩] 86)).heap[W.heap.size]? = some (.cells #[.slice p0 pn p1,.int .i64 (at_:Int),.int .i64 (n:Int),.slice a0 an a1,.slice f0 fn f1,.slice i0 itn i1,.slice s0 sn s1,.string pre] 86 (0,0))):=Lib.hid (lay2_0 _ _ _)
 have HBw11:Hid (((W.alloc (.cells #[.slice p0 pn p1,.int .i64 (at_:Int),.int .i64 (n:Int),.slice a0 an a1,.slice f0 fn f1,.slice i0 itn i1,.slice s0 sn s1,.string pre] 86)).alloc (.cells #[.slice none 0 0,.int .i64 0,.int .i64 0,.slice none 0 0,.slice none 0 0,.slice none 0 0,.slice none 0 0,.string ⟨#[]⟩] 86)).heap[W.heap.size+1]? = some (.cells #[.slice none 0 0,.int .i64 0,.int .i64 0,.slice none 0 0,.slice none 0 0,.slice none 0 0,.slice none 0 0,.string ⟨#[]⟩] 86 (0,0))):=Lib.hid (lay2_1 _ _ _)
 have HGw1:Hid (Flow.Grow W ((W.alloc (.cells #[.slice p0 pn p1,.int .i64 (at_:Int),.int .i64 (n:Int),.slice a0 an a1,.slice f0 fn f1,.slice i0 itn i1,.slice s0 sn s1,.string pre] 86)).alloc (.cells #[.slice none 0 0,.int .i64 0,.int .i64 0,.slice none 0 0,.slice none 0 0,.slice none 0 0,.slice none 0 0,.string ⟨#[]⟩] 86))):=Lib.hid (lay2_g _ _ _)
 have HSw1:Hid (((W.alloc (.cells #[.slice p0 pn p1,.int .i64 (at_:Int),.int .i64 (n:Int),.slice a0 an a1,.slice f0 fn f1,.slice i0 itn i1,.slice s0 sn s1,.string pre] 86)).alloc (.cells #[.slice none 0 0,.int .i64 0,.int .i64 0,.slice none 0 0,.slice none 0 0,.slice none 0 0,.slice none 0 0,.string ⟨#[]⟩] 86)).heap.size=W.heap.size+1+1):=Lib.hid (by simp)
 generalize (W.alloc (.cells #[.slice p0 pn p1,.int .i64 (at_:Int),.int .i64 (n:Int),.slice a0 an a1,.slice f0 fn f1,.slice i0 itn i1,.slice s0 sn s1,.string pre] 86)).alloc (.cells #[.slice none 0 0,.int .i64 0,.int .i64 0,.slice none 0 0,.slice none 0 0,.slice none 0 0,.slice none 0 0,.string ⟨#[]⟩] 86)=w1 at *
 obtain ⟨X,hX⟩:∃ X,X=W.heap.size:=⟨_,rfl⟩
 rw [← hX] at HBw10 HBw11 HSw1 ⊢
 have HXw1:=Lib.hid hX
 clear hX
 have CXw1:Hid (∀ wq,Flow.Grow w1 wq→wq.cell? ⟨X,0,none⟩=some (.slice p0 pn p1)∧wq.cell? ⟨X,1,none⟩=some (.int .i64 (at_:Int))∧wq.cell? ⟨X,2,none⟩=some (.int .i64 (n:Int))∧wq.cell? ⟨X,3,none⟩=some (.slice a0 an a1)∧wq.cell? ⟨X,4,none⟩=some (.slice f0 fn f1)∧wq.cell? ⟨X,5,none⟩=some (.slice i0 itn i1)∧wq.cell? ⟨X,6,none⟩=some (.slice s0 sn s1)∧wq.cell? ⟨X,7,none⟩=some (.string pre)∧wq.cell? ⟨X+1,0,none⟩=some (.slice none 0 0)∧wq.cell? ⟨X+1,1,none⟩=some (.int .i64 0)∧wq.cell? ⟨X+1,2,none⟩=some (.int .i64 0)∧wq.cell? ⟨X+1,3,none⟩=some (.slice none 0 0)∧wq.cell? ⟨X+1,4,none⟩=some (.slice none 0 0)∧wq.cell? ⟨X+1,5,none⟩=some (.slice none 0 0)∧wq.cell? ⟨X+1,6,none⟩=some (.slice none 0 0)∧wq.cell? ⟨X+1,7,none⟩=some (.string ⟨#[]⟩)):=Lib.hid (fun wq g=>⟨lay_cell g HBw10.out rfl,lay_cell g HBw10.out rfl,lay_cell g HBw10.out rfl,lay_cell g HBw10.out rfl,lay_cell g HBw10.out rfl,lay_cell g HBw10.out rfl,lay_cell g HBw10.out rfl,lay_cell g HBw10.out rfl,lay_cell g HBw11.out rfl,lay_cell g HBw11.out rfl,lay_cell g HBw11.out rfl,lay_cell g HBw11.out rfl,lay_cell g HBw11.out rfl,lay_cell g HBw11.out rfl,lay_cell g HBw11.out rfl,lay_cell g HBw11.out rfl⟩)
 have FXw1:Hid (∀ wq,Flow.Grow w1 wq→(∀ k,wq.frozen? ⟨X,k,none⟩=false)∧(∀ k,wq.frozen? ⟨X+1,k,none⟩=false)):=Lib.hid (fun wq g=>⟨fun k=>lay_frozen g HBw10.out k,fun k=>lay_frozen g HBw11.out k⟩)
 obtain ⟨c00,c01,c02,c03,c04,c05,c06,c07,c10,c11,c12,c13,c14,c15,c16,c17⟩:=CXw1.out w1 (Flow.grow_refl _)
 obtain ⟨f0,f1⟩:=FXw1.out w1 (Flow.grow_refl _)
 go_upto_region 2 with fail
 clear c00 c01 c02 c03 c04 c05 c06 c07 f0 c10 c11 c12 c13 c14 c15 c16 c17 f1
 have hX:W.heap.size≤X:=by rw [HXw1.out];exact Nat.le_refl _
 have HB2:Hid ((w1.setCell ⟨X,2,none⟩ (.int .i64 ((n:Int)+1))).heap[X]? = some (.cells #[.slice p0 pn p1,.int .i64 (at_:Int),.int .i64 ((n:Int)+1),.slice a0 an a1,.slice f0 fn f1,.slice i0 itn i1,.slice s0 sn s1,.string pre] 86 (0,0))):=Lib.hid ((set_cells HBw10.out 2 (.int .i64 ((n:Int)+1))).trans rfl)
 have HC2:=Lib.hid (set_other (g:=X) (q:=2) (u:=.int .i64 ((n:Int)+1)) HBw11.out (by omega))
 have HG2:=Lib.hid (set_grow (g:=X) HGw1.out hX 2 (.int .i64 ((n:Int)+1)))
 generalize w1.setCell ⟨X,2,none⟩ (.int .i64 ((n:Int)+1))=w2 at *
 refine Flow.region_tail2 (R:=Flow.Grow) (C:=fun wq=>Flow.Grow w2 wq) (Fs:=[.inl ((.pointer (some ⟨X,7,none⟩))),.inl ((.string pre)),.inl ((.string s)),.inl ((.pointer (some ⟨X,2,none⟩))),.inl ((.int .i64 ((n:Int)+1))),.inl ((.string nm)),.inl ((.string (pre++nm))),.inl ((.agg #[.slice p0 pn p1,.int .i64 (at_:Int),.int .i64 ((n:Int)+1),.slice a0 an a1,.slice f0 fn f1,.slice i0 itn i1,.slice s0 sn s1,.string pre])),.inl ((.string (pre++nm)))])
  (S:=[[],[0],[],[],[3],[2,4],[1,5],[],[6],[0,1,2,3,4,5,6,7,8]]) 9 (by kernel_rfl) (by kernel_rfl) (by kernel_rfl) (by kernel_rfl) rfl ?stab2 Flow.grow_refl (fun _ _ h k=>h.trans k) (Flow.grow_drew _) ?ones2 ?ends2
 case ones2 =>
  refine Flow.Ones.cons ?_ ?_
  ·intro a w hC hoff _
   have e2:a.eval (.tmp 2)=(.pointer (some ⟨X,0,none⟩)):=hoff.at 2 (by kernel_rfl)
   refine .inl ⟨Flow.want_none rfl,?_⟩
   refine Flow.run_same ?_ Flow.grow_refl
   have ec:=Flow.eval_const a
   generalize a.eval=ρ at e2 ec ⊢
   simp [execOp,e2,go_sem]
  refine Flow.Ones.cons ?_ ?_
  ·rintro a w hC hoff ⟨k0,-⟩
   have e10:a.eval (.tmp 10)=(.pointer (some ⟨X,7,none⟩)):=k0 10 rfl
   refine .inl ⟨Flow.want_none rfl,?_⟩
   refine Flow.run_same ?_ Flow.grow_refl
   have ec:=Flow.eval_const a
   generalize a.eval=ρ at e10 ec ⊢
   obtain ⟨x0,x1,x2,x3,x4,x5,x6,x7,xf⟩:=m8_cells (heap_keep hC HB2.out)
   simp [execOp,e10,x7,go_sem]
  refine Flow.Ones.cons ?_ ?_
  ·intro a w hC hoff _
   have e1:a.eval (.tmp 1)=(.string s):=hoff.at 1 (by kernel_rfl)
   refine .inl ⟨Flow.want_none rfl,?_⟩
   exact Flow.run_same (Flow.exec_move (.inl rfl) e1) Flow.grow_refl
  refine Flow.Ones.cons ?_ ?_
  ·intro a w hC hoff _
   have e2:a.eval (.tmp 2)=(.pointer (some ⟨X,0,none⟩)):=hoff.at 2 (by kernel_rfl)
   refine .inl ⟨Flow.want_none rfl,?_⟩
   refine Flow.run_same ?_ Flow.grow_refl
   have ec:=Flow.eval_const a
   generalize a.eval=ρ at e2 ec ⊢
   simp [execOp,e2,go_sem]
  refine Flow.Ones.cons ?_ ?_
  ·rintro a w hC hoff ⟨k3,-⟩
   have e13:a.eval (.tmp 13)=(.pointer (some ⟨X,2,none⟩)):=k3 13 rfl
   refine .inl ⟨Flow.want_none rfl,?_⟩
   refine Flow.run_same ?_ Flow.grow_refl
   have ec:=Flow.eval_const a
   generalize a.eval=ρ at e13 ec ⊢
   obtain ⟨x0,x1,x2,x3,x4,x5,x6,x7,xf⟩:=m8_cells (heap_keep hC HB2.out)
   simp [execOp,e13,x2,go_sem]
  refine Flow.Ones.cons ?_ ?_
  ·rintro a w hC hoff ⟨k2,k4,-⟩
   have e12:a.eval (.tmp 12)=(.string s):=k2 12 rfl
   have e14:a.eval (.tmp 14)=(.int .i64 ((n:Int)+1)):=k4 14 rfl
   refine .inl ⟨Flow.want_none rfl,?_⟩
   exact Flow.run_call (Flow.exec_call (args:=#[((.string s)),((.int .i64 ((n:Int)+1)))]) rfl Tryz.func64 (by kernel_rfl) (by kernel_rfl) (by simp only [List.map_toArray,List.map_cons,List.map_nil,e12,e14] <;> rfl)) ((HId.out w).mono fun e w' ⟨he,hg⟩=>⟨_,he,hg,rfl⟩)
  refine Flow.Ones.cons ?_ ?_
  ·rintro a w hC hoff ⟨k1,k5,-⟩
   have e11:a.eval (.tmp 11)=(.string pre):=k1 11 rfl
   have e15:a.eval (.tmp 15)=(.string nm):=k5 15 rfl
   refine .inl ⟨Flow.want_none rfl,?_⟩
   refine Flow.run_same ?_ Flow.grow_refl
   have ec:=Flow.eval_const a
   generalize a.eval=ρ at e11 e15 ec ⊢
   simp [execOp,e11,e15,hsz,go_sem]
  refine Flow.Ones.cons ?_ ?_
  ·intro a w hC hoff _
   have e2:a.eval (.tmp 2)=(.pointer (some ⟨X,0,none⟩)):=hoff.at 2 (by kernel_rfl)
   refine .inl ⟨Flow.want_none rfl,?_⟩
   refine Flow.run_same ?_ Flow.grow_refl
   have ec:=Flow.eval_const a
   generalize a.eval=ρ at e2 ec ⊢
   obtain ⟨x0,x1,x2,x3,x4,x5,x6,x7,xf⟩:=m8_cells (heap_keep hC HB2.out)
   simp [execOp,e2,x0,x1,x2,x3,x4,x5,x6,x7,go_sem]
  refine Flow.Ones.cons ?_ ?_
  ·rintro a w hC hoff ⟨k6,-⟩
   have e16:a.eval (.tmp 16)=(.string (pre++nm)):=k6 16 rfl
   refine .inl ⟨Flow.want_none rfl,?_⟩
   exact Flow.run_same (Flow.exec_move (.inr rfl) e16) Flow.grow_refl
  exact trivial
 case stab2=>exact trivial
 case ends2 =>
  intro wx o ho hC
  simp only [List.take_succ_cons,List.take_zero,Flow.ends]
  have hop:o.op=.store 86 (.tmp 5) (.tmp 17):=by cases ho;rfl
  have hdst:o.dst=none:=by cases ho;rfl
  clear ho
  simp only [Act.put,List.setIfInBounds_toArray,List.set_cons_succ,List.set_cons_zero]
  obtain ⟨y0,y1,y2,y3,y4,y5,y6,y7,yf⟩:=m8_cells (heap_keep hC HC2.out)
  have HCx:=Lib.hid (heap_keep hC HC2.out)
  have HGx:=Lib.hid (HG2.out.trans hC)
  clear hC
  unfold Oper.wp
  simp only [execOp,hop,Act.eval]
  simp [y0,y1,y2,y3,y4,y5,y6,y7,yf,go_sem]
  simp only [hdst]
  clear y0 y1 y2 y3 y4 y5 y6 y7 yf
  have k:=m8_set (w:=wx) (X:=X+1) (.slice p0 pn p1) (.int .i64 (at_:Int)) (.int .i64 ((n:Int)+1)) (.slice a0 an a1) (.slice f0 fn f1) (.slice i0 itn i1) (.slice s0 sn s1) (.string pre) HCx.out
  have kg:=m8_grow (w:=wx) (X:=X+1) HGx.out (by omega) (.slice p0 pn p1) (.int .i64 (at_:Int)) (.int .i64 ((n:Int)+1)) (.slice a0 an a1) (.slice f0 fn f1) (.slice i0 itn i1) (.slice s0 sn s1) (.string pre)
  go_wp2_with fail
  exact bodyPost_ret (name_res _ _ (X+1) _ _ _ _ _ _ _ _ _ rfl rfl k) rfl ⟨rfl,kg⟩
end Go.Proofs.YtcnmaplopbbmaaaGreat
