/- galliardlaw17.ReachMarks returns true: the walk. -/
import Derived.Test.YtcnmaplopbbmaaaGreatPickG
import Derived.Test.YtcnmaplopbbmaaaGreatMBz
import Derived.Test.YtcnmaplopbbmaaaGreatMAc
import Derived.Deep.Slices
import Derived.OpenShut
import Derived.Deep.Strs
import Derived.ChangeSlices
namespace Go.Proofs.YtcnmaplopbbmaaaGreat
open Go.RowKit
set_option maxRecDepth 100000 in
set_option maxHeartbeats 8000000 in
theorem reachMarks_walk (a0:Option Addr) (n0 c0:Nat) (zs:List Int) (W:World) (hz:n0≤9223372036854775807) (hn:Ints W (.slice a0 n0 c0) zs) :
  Calls Tryz.prog 3 #[.slice a0 n0 c0] W fun e w'=>e=.returned (.bool true)∧Flow.Grow W w':=by
 have hl:zs.length=n0:=by obtain ⟨x,y,e,hl,_⟩:=hn;cases e;rfl
 have HPk:=Lib.hid (pickG_any zs (.slice a0 n0 c0) W (by omega) hn)
 have HAw:=Lib.hid awake17
 have HFw:=Lib.hid (Fl.pickG_few zs)
 clear hn hz hl
 generalize Fl.pickG zs=g at *
 go_enter Tryz.func3,Tryz.ntmps3
 go_upto_region 2 with (go_at_call 4;refine HPk.out.mono ?_;rintro e w0 ⟨v0,v1,v2,v3,rfl,ha,hg⟩;obtain ⟨pa,pc,rfl⟩:=ha.parts;obtain ⟨ma,mc,rfl⟩:=ha.msgs;obtain ⟨na,nc,rfl⟩:=Gr.Recs.form ha.nodes;obtain ⟨ea,ec,rfl⟩:=Gr.Recs.form ha.edges;have HG0:=Lib.hid hg;have HA0:=Lib.hid ha;clear hg ha)
 have HBw10:Hid ((w0.alloc (.cells #[.slice pa g.np pc,.slice ma g.nm mc,.slice na g.ns.length nc,.slice ea g.es.length ec] 27)).heap[w0.heap.size]? = some (.cells #[.slice pa g.np pc,.slice ma g.nm mc,.slice na g.ns.length nc,.slice ea g.es.length ec] 27 (0,0))):=Lib.hid (lay1_0 _ _)
 have HGw1:Hid (Flow.Grow w0 (w0.alloc (.cells #[.slice pa g.np pc,.slice ma g.nm mc,.slice na g.ns.length nc,.slice ea g.es.length ec] 27))):=Lib.hid (lay1_g _ _)
 have HSw1:Hid ((w0.alloc (.cells #[.slice pa g.np pc,.slice ma g.nm mc,.slice na g.ns.length nc,.slice ea g.es.length ec] 27)).heap.size=w0.heap.size+1):=Lib.hid (by simp)
 generalize w0.alloc (.cells #[.slice pa g.np pc,.slice ma g.nm mc,.slice na g.ns.length nc,.slice ea g.es.length ec] 27)=w1 at *
 obtain ⟨X,hX⟩:∃ X,X=w0.heap.size:=⟨_,rfl⟩
 rw [← hX] at HBw10 HSw1 ⊢
 have HXw1:=Lib.hid hX
 clear hX
 have CXw1:Hid (∀ wq,Flow.Grow w1 wq→wq.cell? ⟨X,0,none⟩=some (.slice pa g.np pc)∧wq.cell? ⟨X,1,none⟩=some (.slice ma g.nm mc)∧wq.cell? ⟨X,2,none⟩=some (.slice na g.ns.length nc)∧wq.cell? ⟨X,3,none⟩=some (.slice ea g.es.length ec)):=Lib.hid (fun wq g=>⟨lay_cell g HBw10.out rfl,lay_cell g HBw10.out rfl,lay_cell g HBw10.out rfl,lay_cell g HBw10.out rfl⟩)
 have FXw1:Hid (∀ wq,Flow.Grow w1 wq→(∀ k,wq.frozen? ⟨X,k,none⟩=false)):=Lib.hid (fun wq g=>fun k=>lay_frozen g HBw10.out k)
 have HA1:=Lib.hid (HA0.out.grow HGw1.out)
 have HGW1:Hid (Flow.Grow W w1):=Lib.hid (HG0.out.trans HGw1.out)
 have HFew:Hid g.Few:=Lib.hid ⟨by have:=HFw.out.1;omega,by have:=HFw.out.2.1;omega,by have:=HFw.out.2.2.1;omega,by have:=HFw.out.2.2.2;omega⟩
 have HCk:=Lib.hid fun w (hg:Flow.Grow w1 w)=>check_any _ _ _ _ g w HFew.out (HA1.out.grow hg)
 obtain ⟨c00,c01,c02,c03⟩:=CXw1.out w1 (Flow.grow_refl _)
 by_cases hck:g.check=0
 ·have HHo:=Lib.hid fun w (hg:Flow.Grow w1 w)=>holds_any _ _ _ _ g w HFew.out (by have:=HFw.out.2.2.1;omega) hck (by have:=HFw.out.2.1;omega) (HA1.out.grow hg)
  have Hck:=Lib.hid hck
  clear hck
  go_upto_region 5 with (go_at_call 5;refine (HCk.out _ (Flow.grow_refl _)).mono ?_;rintro e w2 ⟨rfl,hg⟩;rw [Hck.out];have HG2:=Lib.hid hg;clear hg)
  clear c00 c01 c02 c03
  go_wp2_with (first
   | (go_at_call 7;refine (HAw.out _).mono ?_;rintro e w5 ⟨rfl,hg⟩;have HG5:=Lib.hid (HG2.out.trans hg);obtain ⟨d00,d01,d02,d03⟩:=CXw1.out w5 (HG5.out);clear hg)
   | (go_at_call 8;refine (HHo.out _ HG5.out).mono ?_;rintro e w6 ⟨rfl,hg⟩;have HG6:=Lib.hid (HG5.out.trans hg);clear hg))
  go_ret
  exact ⟨rfl,HGW1.out.trans HG6.out⟩
 ·have HOf:=Lib.hid fun w (hg:Flow.Grow w1 w)=>reachOf_bad _ _ _ _ g w HFew.out (by have:=HFw.out.2.2.1;omega) hck (HA1.out.grow hg)
  generalize g.check=ck at *
  have d0:(ck != 0)=true:=by simp [hck]
  clear hck
  go_upto_region 3 with (go_at_call 5;refine (HCk.out _ (Flow.grow_refl _)).mono ?_;rintro e w2 ⟨rfl,hg⟩;have HG2:=Lib.hid hg;clear hg)
  clear c00 c01 c02 c03
  obtain ⟨d00,d01,d02,d03⟩:=CXw1.out w2 (HG2.out)
  go_upto_region 4 with (go_at_call 6;refine (HOf.out _ HG2.out).mono ?_;rintro e w3 ⟨rfl,hg⟩;have HG3:=Lib.hid (HG2.out.trans hg);clear hg)
  clear d00 d01 d02 d03
  have HBw40:Hid ((w3.alloc (.cells #[.int .i64 0,.int .i64 0,.slice none 0 0,.slice none 0 0] 34)).heap[w3.heap.size]? = some (.cells #[.int .i64 0,.int .i64 0,.slice none 0 0,.slice none 0 0] 34 (0,0))):=Lib.hid (lay1_0 _ _)
  have HGw4:Hid (Flow.Grow w3 (w3.alloc (.cells #[.int .i64 0,.int .i64 0,.slice none 0 0,.slice none 0 0] 34))):=Lib.hid (lay1_g _ _)
  have HSw4:Hid ((w3.alloc (.cells #[.int .i64 0,.int .i64 0,.slice none 0 0,.slice none 0 0] 34)).heap.size=w3.heap.size+1):=Lib.hid (by simp)
  generalize w3.alloc (.cells #[.int .i64 0,.int .i64 0,.slice none 0 0,.slice none 0 0] 34)=w4 at *
  obtain ⟨Y,hY⟩:∃ X,X=w3.heap.size:=⟨_,rfl⟩
  rw [← hY] at HBw40 HSw4 ⊢
  have HXw4:=Lib.hid hY
  clear hY
  have CXw4:Hid (∀ wq,Flow.Grow w4 wq→wq.cell? ⟨Y,0,none⟩=some (.int .i64 0)∧wq.cell? ⟨Y,1,none⟩=some (.int .i64 0)∧wq.cell? ⟨Y,2,none⟩=some (.slice none 0 0)∧wq.cell? ⟨Y,3,none⟩=some (.slice none 0 0)):=Lib.hid (fun wq g=>⟨lay_cell g HBw40.out rfl,lay_cell g HBw40.out rfl,lay_cell g HBw40.out rfl,lay_cell g HBw40.out rfl⟩)
  have FXw4:Hid (∀ wq,Flow.Grow w4 wq→(∀ k,wq.frozen? ⟨Y,k,none⟩=false)):=Lib.hid (fun wq g=>fun k=>lay_frozen g HBw40.out k)
  have HG4:Hid (Flow.Grow w1 w4):=Lib.hid (HG3.out.trans HGw4.out)
  go_wp2_with (first
   | (go_at_call 7;refine (HAw.out _).mono ?_;rintro e w5 ⟨rfl,hg⟩;have HG5:=Lib.hid (HG4.out.trans hg);obtain ⟨d00,d01,d02,d03⟩:=CXw1.out w5 (HG5.out);clear hg)
   | (go_at_call 5;refine (HCk.out _ HG5.out).mono ?_;rintro e w6 ⟨rfl,hg⟩;have HG6:=Lib.hid (HG5.out.trans hg);clear hg))
  go_ret
  exact ⟨rfl,HGW1.out.trans HG6.out⟩
end Go.Proofs.YtcnmaplopbbmaaaGreat
namespace Go.Proofs.YtcnmaplopbbmaaaGreat
open Go.RowKit Go.Deep
section
variable {H:Type} {enc:TypeId × Value→H} {P:Program} {w:World} {base:Nat} {spare:Nat→Bool} {held:Bool} {k:IntKind} {n:Nat} {t e i:TypeId}
end
end Go.Proofs.YtcnmaplopbbmaaaGreat
namespace Go.Proofs.YtcnmaplopbbmaaaGreat
open Go.ChangeShapes Go.RowKit Go.Deep
theorem cell_addr1 {W:World} {x:Addr} {v:Value} (h:W.cell? (x.add 0)=some v):∃ g off,x=⟨g,off,none⟩∧g < W.heap.size:=by
 obtain ⟨g,off,sp⟩:=x
 cases sp with
 | none =>
  rw [Addr.add_lit] at h
  exact ⟨g,off,rfl,World.block_lt_of_cell? W _ h⟩
 | some s =>
  exfalso
  unfold World.cell? Addr.add at h
  simp at h
  split at h
  ·simp at h
  ·cases h
theorem ints_arg {P:Program} {W:World} {H:Type} {enc:TypeId × Value→H} {t e:TypeId} {a:Option Addr} {n c:Nat} {d:DataW H} {ps:List MemPlace} (ht:P.underlying t=some (.slice e)) (he:P.underlying e=some (.int .i64)) (hc:P.cellsOf e=1)
  (h:DataW.Trod enc P W 0 (fun _=>true) true t (.slice a n c) d ps):∃ zs:List Int,zs.length≤9223372036854775807∧Ints W (.slice a n c) zs:=by
 obtain ⟨fuel,hf⟩:=h
 rcases open_ints ht he hc hf with ⟨hcs,_⟩ | ⟨x,l,c',zs,hcs,_,hl,hm,hz,_,hcell,hwz⟩
 ·simp [Value.cells] at hcs
  obtain ⟨rfl,rfl,rfl⟩:=hcs
  exact ⟨[],by simp,⟨none,0,rfl,rfl,fun _=>⟨rfl,rfl⟩,fun j hj=>by simp at hj⟩⟩
 ·simp [Value.cells] at hcs
  obtain ⟨rfl,rfl,rfl⟩:=hcs
  simp at hz
  have hle:n≤zs.length:=by omega
  have hlen:(zs.take n).length=n:=by simp;omega
  refine ⟨zs.take n,by rw [hlen];unfold maxLen at hm;omega,⟨some x,c,by rw [hlen],by simp,fun h=>(by cases h),fun j hj=>?_⟩⟩
  have hj':j < n:=by
   have h9:=hj
   rw [List.length_map,hlen] at h9
   exact h9
  obtain ⟨g,off,rfl,h3⟩:=cell_addr1 (hcell 0 (by omega))
  have h1:=hcell j (by omega)
  rw [Addr.add_lit] at h1
  refine ⟨g,off,rfl,h3,?_⟩
  rw [h1]
  have:j < zs.length:=by omega
  simp [hj',this]
end Go.Proofs.YtcnmaplopbbmaaaGreat
