/- mark's functions on lists of truths; game.Game.move by its contract. -/
import Derived.Test.YtcnmaplopbbmaaaGreatMAd
import Derived.Test.YtcnmaplopbbmaaaGreatMAe
import Derived.Test.YtcnmaplopbbmaaaGreatFlow
namespace Go.Proofs.YtcnmaplopbbmaaaGreat
open Go.RowKit
theorem Mark.has_l {l:List Bool} {p:Int} (h0:0≤p) (h1:p < 64):Mark.has (Mark.ofBools l) p=l.getD p.toNat false:=by
 rw [Mark.has_in h0 h1,Mark.testBit_ofBools]
theorem Mark.l_lt {l:List Bool} (hl:l.length=64):Mark.ofBools l < 2 ^ 64:=by
 have:=Mark.ofBools_lt l
 rwa [hl] at this
theorem set_getD {l:List Bool} {i:Nat} {b:Bool} (h:l.getD i false=b) (hi:i < l.length):l.set i b=l:=by
 subst h
 refine List.ext_getElem? fun j=>?_
 rw [List.getElem?_set]
 split
 ·rename_i e
  subst e
  simp [hi]
 ·rfl
theorem markHas_l (l:List Bool) (p:Int) (w:World) (hl:l.length=64) (h0:0≤p) (h1:p < 64):Calls Tryz.prog 77 #[.int .u64 (Mark.ofBools l:Int),.int .i64 p] w fun e w'=>e=.returned (.bool (l.getD p.toNat false))∧w=w' :=
 (has_any _ p w (Mark.l_lt hl)).mono fun e w' ⟨a,b⟩=>⟨by rw [a,Mark.has_l h0 h1],b⟩
theorem markTake_l (l:List Bool) (p:Int) (w:World) (hl:l.length=64) (h0:0≤p) (h1:p < 64):Calls Tryz.prog 102 #[.int .u64 (Mark.ofBools l:Int),.int .i64 p] w fun e w'=>e=.returned (.tuple #[.int .u64 (Mark.ofBools (l.set p.toNat false):Int),.bool (l.getD p.toNat false)])∧w=w':=by
 have hp:p.toNat < l.length:=by omega
 have hb:=Mark.has_l (l:=l) h0 h1
 cases hh:l.getD p.toNat false with
 | false =>
  rw [hh] at hb
  rw [set_getD hh hp]
  exact take_no _ p w (Mark.l_lt hl) hb
 | true =>
  rw [hh] at hb
  rw [← Mark.set_false hl (by omega)]
  exact take_yes _ p w (Mark.l_lt hl) hb
theorem markPut_l (l:List Bool) (p:Int) (w:World) (hl:l.length=64) (h0:0≤p) (h1:p < 64):Calls Tryz.prog 103 #[.int .u64 (Mark.ofBools l:Int),.int .i64 p] w fun e w'=>e=.returned (.tuple #[.int .u64 (Mark.ofBools (l.set p.toNat true):Int),.bool (!l.getD p.toNat false)])∧w=w':=by
 have hp:p.toNat < l.length:=by omega
 have hb:=Mark.has_l (l:=l) h0 h1
 cases hh:l.getD p.toNat false with
 | false =>
  rw [hh] at hb
  rw [← Mark.set_true hl (by omega)]
  exact put_yes _ p w (Mark.l_lt hl) h0 h1 hb
 | true =>
  rw [hh] at hb
  rw [set_getD hh hp]
  exact put_no _ p w (Mark.l_lt hl) (.inr hb)
theorem foldl_take {α β:Type} (f:β→α→β) (a:β) (l:List α) (j:Nat) (x:α) (h:l[j]? = some x):(l.take (j+1)).foldl f a=f ((l.take j).foldl f a) x:=by
 rw [List.take_add_one,h,List.foldl_append]
 rfl
theorem Ints.at1 {w:World} {a:Option Addr} {n cap:Nat} {zs:List Int} (h:Ints w (.slice a n cap) zs) {k:Nat} (hk:k < zs.length) :
  ∃ b off,a=some ⟨b,off,none⟩∧w.cell? ⟨b,off+k,none⟩=some (.int .i64 (zs.getD k 0)):=by
 obtain ⟨b,off,c,e,_,hc⟩:=h.shape (fun e=>by subst e;simp at hk)
 cases e
 exact ⟨b,off,rfl,hc k hk⟩
def Gr.InP (l:List Int):Prop:=∀ p∈l,0≤p∧p < 64
def Gr.gcells (c0 c1 c2 c3 c4:Value) (e:Int):Array Value:=#[c0,c1,c2,c3,c4,.int .i64 e]
def Gr.err (b:Bool) (e:Int):Int:=if b then 11 else e
set_option maxRecDepth 100000 in
set_option maxHeartbeats 4000000 in
theorem move_any (B:Nat) (c0 c1 c2 c3 c4:Value) (e0:Int) (l:List Bool) (vf vt:Value) (fr zt:List Int) (W:World) (hl:l.length=64) (hfr:Gr.InP fr) (hto:Gr.InP zt) (hfl:fr.length≤1000000) (htl:zt.length≤1000000)
  (hB:W.heap[B]? = some (.cells (Gr.gcells c0 c1 c2 c3 c4 e0) 94 (0,0))) (hf:Ints (mask W [B]) vf fr) (ht:Ints (mask W [B]) vt zt) :
  Calls Tryz.prog 76 #[.pointer (some ⟨B,0,none⟩),.int .u64 (Mark.ofBools l:Int),vf,vt] W fun e w'=>e=.returned (.int .u64 (Mark.ofBools (zt.foldl Gr.put1 (fr.foldl Gr.wo (l,false))).1:Int)) ∧
   W.grownBy w' (some B)∧w'.heap[B]? = some (.cells (Gr.gcells c0 c1 c2 c3 c4 (Gr.err (zt.foldl Gr.put1 (fr.foldl Gr.wo (l,false))).2 e0)) 94 (0,0)):=by
 have HB:=Lib.hid hB
 have HF:=Lib.hid hf
 have HT:=Lib.hid ht
 have Hfr:=Lib.hid hfr
 have Hto:=Lib.hid hto
 obtain ⟨af,cf,rfl,_⟩:=id hf
 obtain ⟨at',ct,rfl,_⟩:=id ht
 obtain ⟨n1,hn1⟩:∃ k,k=fr.length:=⟨_,rfl⟩
 have Hn1:=Lib.hid hn1
 obtain ⟨n2,hn2⟩:∃ k,k=zt.length:=⟨_,rfl⟩
 have Hn2:=Lib.hid hn2
 rw [← hn1] at hfl HF ⊢
 rw [← hn2] at htl HT ⊢
 clear hB hf ht hfr hto hn1 hn2
 have Hl:=Lib.hid hl
 clear hl
 go_enter Tryz.func76,Tryz.ntmps76
 go_wp2_with fail
 go_loop [1,16] (fun m i=>∃ j:Nat,j≤n1∧i=.int .i64 j∧m=.int .u64 (Mark.ofBools ((fr.take j).foldl Gr.wo (l,false)).1:Int)) (fun _ i=>n1 - (intOf i).toNat)
 case atStart=>exact ⟨0,by omega,rfl,rfl⟩
 case round =>
  obtain ⟨j,hj,rfl,rfl⟩:=hrel
  by_cases hjn:j < n1
  ·have hx:fr[j]? = some (fr.getD j 0):=by rw [List.getD_eq_getElem?_getD,List.getElem?_eq_getElem (by rw [← Hn1.out];exact hjn)];rfl
   have HX:=Lib.hid (foldl_take Gr.wo (l,false) fr j _ hx)
   have hp:=Hfr.out _ (List.mem_of_getElem? hx)
   obtain ⟨b,off,rfl,q⟩:=Ints.at1 HF.out (k:=j) (by rw [← Hn1.out];exact hjn)
   have c:=(mask_self W [B]).cell _ _ q
   clear q hx
   have HLt:Hid (((fr.take j).foldl Gr.wo (l,false)).1.length=64):=Lib.hid (by rw [Gr.wos_len];exact Hl.out)
   generalize fr.getD j 0=p at *
   generalize (fr.take j).foldl Gr.wo (l,false)=t at *
   have HC:=Lib.hid fun w=>markTake_l t.1 p w HLt.out hp.1 hp.2
   go_wp2_with (go_at_call 102;refine (HC.out _).mono ?_;rintro e w' ⟨rfl,rfl⟩)
   go_round
   case rel=>exact ⟨j+1,by omega,by go_num,by rw [HX.out];rfl⟩
   case measure=>simp [intOf];omega
  ·obtain rfl:j=n1:=by omega
   have ht0:(fr.take j).foldl Gr.wo (l,false)=fr.foldl Gr.wo (l,false):=by rw [List.take_of_length_le (by rw [← Hn1.out];exact Nat.le_refl _)]
   rw [ht0]
   have HLt:Hid ((fr.foldl Gr.wo (l,false)).1.length=64):=Lib.hid (by rw [Gr.wos_len];exact Hl.out)
   have HB2:Hid ((fr.foldl Gr.wo (l,false)).2=false):=Lib.hid (by
    have key:∀ (zs:List Int) (t:Gr.Tk),(zs.foldl Gr.wo t).2=t.2:=fun zs=>by
     induction zs with
     | nil=>intro t;rfl
     | cons z zs ih=>intro t;rw [List.foldl_cons,ih];rfl
    rw [key])
   generalize hT1:fr.foldl Gr.wo (l,false)=t1 at *
   have HT1:=Lib.hid hT1
   clear ht0 hT1
   go_wp2_with fail
   go_loopw [1,29] (fun m i wr=>∃ k:Nat,k≤n2∧i=.int .i64 k∧m=.int .u64 (Mark.ofBools ((zt.take k).foldl Gr.put1 t1).1:Int)∧Hid (wr.heap[B]? = some (.cells (Gr.gcells c0 c1 c2 c3 c4 (Gr.err ((zt.take k).foldl Gr.put1 t1).2 e0)) 94 (0,0)))∧Hid (W.grownBy wr (some B))) (fun _ i _=>n2 - (intOf i).toNat)
   case atStart=>exact ⟨0,by omega,rfl,rfl,Lib.hid (by show _=some (Obj.cells (Gr.gcells c0 c1 c2 c3 c4 (Gr.err t1.2 e0)) _ _);rw [HB2.out];exact HB.out),Lib.hid (by_grow (Flow.grow_refl _))⟩
   case round =>
    obtain ⟨k,hk,rfl,rfl,HBk,HG⟩:=hrel
    rename World=>wr
    by_cases hkn:k < n2
    ·have hx:zt[k]? = some (zt.getD k 0):=by rw [List.getD_eq_getElem?_getD,List.getElem?_eq_getElem (by rw [← Hn2.out];exact hkn)];rfl
     have HX:=Lib.hid (foldl_take Gr.put1 t1 zt k _ hx)
     have hp:=Hto.out _ (List.mem_of_getElem? hx)
     obtain ⟨b,off,rfl,q⟩:=Ints.at1 HT.out (k:=k) (by rw [← Hn2.out];exact hkn)
     have c:=(mask_self wr [B]).cell _ _ ((mask_by HG.out (fun g hg=>by cases hg;simp)).cell _ _ q)
     clear q hx
     have HLk:Hid (((zt.take k).foldl Gr.put1 t1).1.length=64):=Lib.hid (by rw [Gr.puts_len];exact HLt.out)
     generalize zt.getD k 0=p at *
     generalize (zt.take k).foldl Gr.put1 t1=t at *
     have HC:=Lib.hid fun w=>markPut_l t.1 p w HLk.out hp.1 hp.2
     have HX2:Hid (((zt.take (k+1)).foldl Gr.put1 t1).2=(t.2 || t.1.getD p.toNat false)):=Lib.hid (by rw [HX.out];rfl)
     have c5:wr.cell? ⟨B,5,none⟩=some (.int .i64 (Gr.err t.2 e0)):=(cell_of_row wr B 5 _ _ _ HBk.out).trans rfl
     cases hb:t.1.getD p.toNat false with
     | false =>
      have HC2:=Lib.hid fun w=>(hb ▸ HC.out w:Calls _ _ _ w fun e w'=>e=.returned (.tuple #[.int .u64 (Mark.ofBools (t.1.set p.toNat true):Int),.bool (!false)])∧w=w')
      go_wp2_with (go_at_call 103;refine (HC2.out _).mono ?_;rintro e w' ⟨rfl,rfl⟩)
      go_roundw
      case rel=>exact ⟨k+1,by omega,by go_num,by rw [HX.out];rfl,Lib.hid (by rw [HX2.out,hb,Bool.or_false];exact HBk.out),HG⟩
      case measure=>simp [intOf];omega
     | true =>
      have HC2:=Lib.hid fun w=>(hb ▸ HC.out w:Calls _ _ _ w fun e w'=>e=.returned (.tuple #[.int .u64 (Mark.ofBools (t.1.set p.toNat true):Int),.bool (!true)])∧w=w')
      have f5:wr.frozen? ⟨B,5,none⟩=false:=by simp [World.frozen?,HBk.out]
      go_wp2_with (go_at_call 103;refine (HC2.out _).mono ?_;rintro e w' ⟨rfl,rfl⟩)
      go_roundw
      case rel=>exact ⟨k+1,by omega,by go_num,by rw [HX.out];rfl,Lib.hid (by rw [HX2.out,hb,Bool.or_true];exact (heap_setCell_same wr B 5 _ _ _ HBk.out).trans rfl),Lib.hid (by_trans HG.out (by_set wr B 5 _))⟩
      case measure=>simp [intOf];omega
    ·obtain rfl:k=n2:=by omega
     have ht0:(zt.take k).foldl Gr.put1 t1=zt.foldl Gr.put1 t1:=by rw [List.take_of_length_le (by rw [← Hn2.out];exact Nat.le_refl _)]
     have HBk2:=HBk.out
     rw [ht0] at HBk2 ⊢
     go_wp2_with fail
     go_ret
     exact ⟨by rw [HT1.out];rfl,HG.out,by rw [HT1.out];exact HBk2⟩
end Go.Proofs.YtcnmaplopbbmaaaGreat
namespace Go.Proofs.YtcnmaplopbbmaaaGreat
open Go.RowKit
theorem lay_cell {w w':World} (g:Flow.Grow w w') {X:Nat} {cs:Array Value} {T:TypeId} {k:Nat} {v:Value} (h:w.heap[X]? = some (.cells cs T (0,0))) (hk:cs[k]? = some v):w'.cell? ⟨X,k,none⟩=some v:=by
 have hb:w'.heap[X]? = _:=(g.block X (Array.getElem?_eq_some_iff.1 h).1 (by simp)).trans h
 exact (cell_of_row w' X k _ _ _ hb).trans hk
theorem lay_frozen {w w':World} (g:Flow.Grow w w') {X:Nat} {cs:Array Value} {T:TypeId} (h:w.heap[X]? = some (.cells cs T (0,0))) (k:Nat):w'.frozen? ⟨X,k,none⟩=false :=
 frozen_of_row w' X k _ _ ((g.block X (Array.getElem?_eq_some_iff.1 h).1 (by simp)).trans h)
theorem heap_keep {w w':World} (g:Flow.Grow w w') {A:Nat} {o:Obj} (h:w.heap[A]? = some o):w'.heap[A]? = some o :=
 (g.block A (Array.getElem?_eq_some_iff.1 h).1 (by simp)).trans h
theorem set_other {w:World} {g q:Nat} {u:Value} {k:Nat} {o:Obj} (h:w.heap[k]? = some o) (hk:k≠g):(w.setCell ⟨g,q,none⟩ u).heap[k]? = some o:=by
 have hl:=(Array.getElem?_eq_some_iff.1 h).1
 rw [(by_set w g q u).block k hl (by simpa using hk)]
 exact h
theorem set_cells {w:World} {g:Nat} {T:TypeId} {cs:Array Value} (h:w.heap[g]? = some (.cells cs T (0,0))) (q:Nat) (u:Value):(w.setCell ⟨g,q,none⟩ u).heap[g]? = some (.cells (cs.setIfInBounds q u) T (0,0)):=heap_setCell_same w g q cs T u h
theorem set_grow {w0 w:World} {g:Nat} (h:Flow.Grow w0 w) (hg:w0.heap.size≤g) (q:Nat) (u:Value):Flow.Grow w0 (w.setCell ⟨g,q,none⟩ u):=by
 have k:=by_trans (by_grow (r:=some g) h) (by_set w g q u)
 exact ⟨k.os,k.tape,k.output,k.size,fun b hb _=>k.block b hb (fun e=>by cases e;omega)⟩
theorem lay_old (w:World) (o:Obj) {k:Nat} {p:Obj} (h:w.heap[k]? = some p):(w.alloc o).heap[k]? = some p:=by
 rw [Below.heap_alloc _ _ _ (Array.getElem?_eq_some_iff.1 h).1];exact h
theorem lay_new (w:World) (o:Obj) {k:Nat} (h:w.heap.size=k):(w.alloc o).heap[k]? = some o:=by subst h;exact heap_alloc_new _ _
theorem lay1_0 (w:World) (o0:Obj):(w.alloc o0).heap[w.heap.size]? = some o0:=lay_new _ _ (by simp)
theorem lay1_g (w:World) (o0:Obj):Flow.Grow w (w.alloc o0):=Flow.grow_alloc _ _
theorem lay2_0 (w:World) (o0 o1:Obj):((w.alloc o0).alloc o1).heap[w.heap.size]? = some o0:=lay_old _ _ (lay_new _ _ (by simp))
theorem lay2_1 (w:World) (o0 o1:Obj):((w.alloc o0).alloc o1).heap[w.heap.size+1]? = some o1:=lay_new _ _ (by simp)
theorem lay2_g (w:World) (o0 o1:Obj):Flow.Grow w ((w.alloc o0).alloc o1):=(Flow.grow_alloc _ _).trans (Flow.grow_alloc _ _)
theorem lay3_0 (w:World) (o0 o1 o2:Obj):(((w.alloc o0).alloc o1).alloc o2).heap[w.heap.size]? = some o0:=lay_old _ _ (lay_old _ _ (lay_new _ _ (by simp)))
theorem lay3_1 (w:World) (o0 o1 o2:Obj):(((w.alloc o0).alloc o1).alloc o2).heap[w.heap.size+1]? = some o1:=lay_old _ _ (lay_new _ _ (by simp))
theorem lay3_2 (w:World) (o0 o1 o2:Obj):(((w.alloc o0).alloc o1).alloc o2).heap[w.heap.size+1+1]? = some o2:=lay_new _ _ (by simp)
theorem lay3_g (w:World) (o0 o1 o2:Obj):Flow.Grow w (((w.alloc o0).alloc o1).alloc o2):=((Flow.grow_alloc _ _).trans (Flow.grow_alloc _ _)).trans (Flow.grow_alloc _ _)
theorem lay5_0 (w:World) (o0 o1 o2 o3 o4:Obj):(((((w.alloc o0).alloc o1).alloc o2).alloc o3).alloc o4).heap[w.heap.size]? = some o0:=lay_old _ _ (lay_old _ _ (lay_old _ _ (lay_old _ _ (lay_new _ _ (by simp)))))
theorem lay5_1 (w:World) (o0 o1 o2 o3 o4:Obj):(((((w.alloc o0).alloc o1).alloc o2).alloc o3).alloc o4).heap[w.heap.size+1]? = some o1:=lay_old _ _ (lay_old _ _ (lay_old _ _ (lay_new _ _ (by simp))))
theorem lay5_2 (w:World) (o0 o1 o2 o3 o4:Obj):(((((w.alloc o0).alloc o1).alloc o2).alloc o3).alloc o4).heap[w.heap.size+1+1]? = some o2:=lay_old _ _ (lay_old _ _ (lay_new _ _ (by simp)))
theorem lay5_3 (w:World) (o0 o1 o2 o3 o4:Obj):(((((w.alloc o0).alloc o1).alloc o2).alloc o3).alloc o4).heap[w.heap.size+1+1+1]? = some o3:=lay_old _ _ (lay_new _ _ (by simp))
theorem lay5_4 (w:World) (o0 o1 o2 o3 o4:Obj):(((((w.alloc o0).alloc o1).alloc o2).alloc o3).alloc o4).heap[w.heap.size+1+1+1+1]? = some o4:=lay_new _ _ (by simp)
theorem lay5_g (w:World) (o0 o1 o2 o3 o4:Obj):Flow.Grow w (((((w.alloc o0).alloc o1).alloc o2).alloc o3).alloc o4):=((((Flow.grow_alloc _ _).trans (Flow.grow_alloc _ _)).trans (Flow.grow_alloc _ _)).trans (Flow.grow_alloc _ _)).trans (Flow.grow_alloc _ _)
end Go.Proofs.YtcnmaplopbbmaaaGreat
