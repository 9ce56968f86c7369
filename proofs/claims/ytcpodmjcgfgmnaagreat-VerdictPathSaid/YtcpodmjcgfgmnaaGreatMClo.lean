/- slices.Clone of truths and of ints by their contracts. -/
import Derived.Test.YtcpodmjcgfgmnaaGreatMAct
import Derived.Test.YtcpodmjcgfgmnaaGreatRefDfa
import Derived.Test.YtcpodmjcgfgmnaaGreatShelf
import Derived.Lib.OwnBridge
import Derived.Sort.OwnSortedInts
namespace Go.Proofs.YtcpodmjcgfgmnaaGreat
open Go.RowKit
theorem Qux {w:World} {v:Value} {xs:List Value} {n:Nat} (h:Seg 1 w v n xs) (hne:xs≠[]):∃ b off cap,v=.slice (some ⟨b,off,none⟩) n cap∧∀ j u,xs[j]?=some u→w.cell? ⟨b,off+j,none⟩=some u:=by
 obtain ⟨b,off,cap,hv,_,hc⟩:=Seg.shape h hne;exact ⟨b,off,cap,hv,fun j u hj=>by rw [hc j (List.getElem?_eq_some_iff.1 hj).1];exact hj⟩
theorem Qj3 (v:Value) (bs:List Bool) (W:World) (hn:bs.length≤1000000) (hne:bs≠[]) (h:Bools W v bs) :
  Calls Tryz.prog 82 #[v] W fun e w'=>(∃ v',e=.returned v'∧w'.ownsRow W.heap.size 4 1 v' bs.length (bs.map Value.bool))∧Flow.Grow W w':=by
 obtain ⟨i1,hi1,hy0,hy1,hy2⟩:=info_parts Qd2;obtain ⟨b,off,cap,rfl,hc⟩:=Qux h (by simpa using hne);refine (Tryz.slices_Clone_f82 i1 (.bool false) 1 1 hi1 hy0 hy1 hy2 rfl (by decide) (Tryz.sizeOf4) b off bs.length cap (bs.map Value.bool) W (by simp) (by unfold maxLen;omega) (by omega) hc (fun u hu=>by obtain ⟨x,_,rfl⟩:=List.mem_map.1 hu;rfl)).mono ?_;rintro e w' ⟨v',rfl,ho,_,hb⟩;exact ⟨⟨v',rfl,ho⟩,Flow.grow_below hb⟩
theorem Qug (v:Value) (zs:List Int) (W:World) (B:Nat) (hn:zs.length≤1000000) (h:W.ownsRow B 3 1 v zs.length (zs.map (Value.int .i64))) :
  Calls Tryz.prog 31 #[v] W fun e w'=>(∃ v',e=.returned v'∧w'.ownsRow W.heap.size 3 1 v' zs.length (zs.map (Value.int .i64)))∧Flow.Grow W w':=by
 obtain ⟨i1,hi1,hy0,hy1,hy2⟩:=info_parts Qbo;rcases h.2 with ⟨rfl,h0⟩ | ⟨g,cap,cur,rfl,hB,hg,_⟩
 ·refine (Tryz.slices_Clone_nil_f31 _ _ W).mono ?_;rintro e w' ⟨rfl,rfl⟩;rw [h0];obtain rfl:=List.eq_nil_of_length_eq_zero h0;exact ⟨⟨_,rfl,World.ownsRow_nil _ _ _ _⟩,Flow.grow_refl _⟩
 ·refine (Tryz.slices_Clone_f31 i1 (.int .i64 0) 1 8 hi1 hy0 hy1 hy2 rfl (by decide) (Tryz.sizeOf3) g 0 zs.length cap (zs.map (Value.int .i64)) W (by simp) (by unfold maxLen;omega) (by omega)
   (fun j u hj=>by rw [Nat.zero_add,h.cellAt j (by have:=(List.getElem?_eq_some_iff.1 hj).1;simp at this;omega),hj]) (fun u hu=>by obtain ⟨x,_,rfl⟩:=List.mem_map.1 hu;rfl)).mono ?_
  rintro e w' ⟨v',rfl,ho,_,hb⟩;exact ⟨⟨v',rfl,ho⟩,Flow.grow_below hb⟩
end Go.Proofs.YtcpodmjcgfgmnaaGreat
namespace Go.Proofs.YtcpodmjcgfgmnaaGreat
open Go.RowKit Go.Lib Go.Sort
theorem Qqa {zs:List Int} {z:Int} (h:z∈Lib.compact zs):z∈zs:=by
 unfold Lib.compact Lib.compactUpTo at h;obtain ⟨i,hi,rfl⟩:=List.mem_map.1 h;have hi':i < zs.length:=List.mem_range.1 (List.mem_filter.1 hi).1;simp [getElem!_pos,hi']
theorem Qlu (v:Value) (zs:List Int) (B:Nat) (w:World) (hn:zs.length≤1000000) (h:w.ownsRow B 3 1 v zs.length (zs.map (Value.int .i64))) :
  Calls Tryz.prog 96 #[v] w fun e w'=>e=.returned (.tuple #[])∧w'.ownsRow B 3 1 v zs.length ((zs.mergeSort fun x y=>decide (x≤y)).map (Value.int .i64))∧w.grownBy w' v.ownBlock:=by
 by_cases h0:v=.slice none 0 0
 ·subst h0;have hl:zs=[]:=by
   rcases h.2 with ⟨_,h1⟩ | ⟨_,_,_,h1,_⟩
   ·exact List.eq_nil_of_length_eq_zero h1
   ·cases h1
  subst hl;refine (Tryz.slices_Sort_int_none none 0 w).mono ?_;rintro e w' ⟨rfl,rfl⟩;exact ⟨rfl,by simpa using h,⟨rfl,rfl,rfl,Nat.le_refl _,fun _ _ _=>rfl⟩⟩
 ·obtain ⟨g,cap,rfl,hB,hg,h1,h2,_,hH⟩:=Lib.holds_of_ownsRow h h0;refine (Tryz.slices_Sort_int g 0 cap zs w hH hg (by omega)).mono ?_;rintro e w' ⟨rfl,n,os,rfl⟩;rcases h.2 with ⟨h3,_⟩ | ⟨g',cap',cur,hv,hbase,hb,h3,h4,h5,h6⟩
  ·cases h3
  cases hv;exact ⟨rfl,ownsRow_sortedI (n:=n) (os:=os) (ts:=zs.mergeSort fun x y=>decide (x≤y)) (List.length_mergeSort zs) hbase hb h3 h4 h5,grownBy_sortedI _⟩
theorem Qj2 (v:Value) (zs:List Int) (B:Nat) (w:World) (hn:zs.length≤1000000) (h:w.ownsRow B 3 1 v zs.length (zs.map (Value.int .i64))) :
  Calls Tryz.prog 97 #[v] w fun e w'=>(∃ v',e=.returned v'∧w'.ownsRow B 3 1 v' (Lib.compact zs).length ((Lib.compact zs).map (Value.int .i64))∧v'.ownBlock=v.ownBlock)∧w.grownBy w' v.ownBlock:=by
 by_cases h0:v=.slice none 0 0
 ·subst h0;have hl:zs=[]:=by
   rcases h.2 with ⟨_,h1⟩ | ⟨_,_,_,h1,_⟩
   ·exact List.eq_nil_of_length_eq_zero h1
   ·cases h1
  subst hl;refine (Tryz.slices_Compact_int_empty none 0 w).mono ?_;rintro e w' ⟨rfl,rfl⟩;exact ⟨⟨_,rfl,h,rfl⟩,⟨rfl,rfl,rfl,Nat.le_refl _,fun _ _ _=>rfl⟩⟩
 ·obtain ⟨g,cap,rfl,hB,hg,h1,h2,_,hH⟩:=Lib.holds_of_ownsRow h h0;refine (Tryz.slices_Compact_int g 0 cap zs w hH (by omega) h1).mono ?_;rintro e w' ⟨rfl,q,rfl⟩;have hle:=Lib.compact_length_le zs;have hc:=Lib.ownsRow_putRow (q:=q) (k:=(Lib.compact zs).length) (ys:=Lib.compact zs++List.replicate (zs.length - (Lib.compact zs).length) 0) h (by simp;omega) (by omega);rw [List.take_left] at hc;refine ⟨⟨_,rfl,hc,rfl⟩,⟨rfl,rfl,rfl,by simp [putRow,mapBlock,Sort.ahead],fun i hi hne=>?_⟩⟩;simp [putRow,mapBlock,Sort.ahead,Array.getElem?_modify,show g≠i by intro e;exact hne (by rw [e];rfl)]
end Go.Proofs.YtcpodmjcgfgmnaaGreat
