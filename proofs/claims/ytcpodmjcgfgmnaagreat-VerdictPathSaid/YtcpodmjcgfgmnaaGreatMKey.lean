/- det.key by its contract. -/
import Derived.Test.YtcpodmjcgfgmnaaGreatMEps
import Derived.Test.YtcpodmjcgfgmnaaGreatMBase
import Derived.Deep.RegionHeld3
namespace Go.Proofs.YtcpodmjcgfgmnaaGreat
open Go.RowKit
namespace Pr
def lo8 (z:Int):UInt8:=UInt8.ofNat (z % 256).toNat
theorem lo8_val (z:Int):((lo8 z).toNat:Int)=z % 256:=by
 rw [lo8,UInt8.toNat_ofNat'];omega
def kb (z:Int):List UInt8:=[lo8 z,lo8 (z / 256)]
def kbs (zs:List Int):Nat→List UInt8
 | 0=>[]
 | j+1=>kbs zs j++kb (zs.getD j 0)
theorem kbs_len (zs:List Int):∀ j,(kbs zs j).length=2 * j
 | 0=>rfl
 | j+1=>by rw [kbs,List.length_append,kbs_len zs j];simp [kb];omega
end Pr
theorem Qie:(Tryz.prog.info? 5).map (fun i=>(i.zero,i.size,i.bytes))=some (some (.int .u8 0),1,1):=by kernel_rfl
theorem Pr.kb_cells (z:Int):[Value.int .u8 (z % 256),.int .u8 (z / 256 % 256)]=(Pr.kb z).map u8v:=by
 simp [Pr.kb,u8v,Pr.lo8_val]
section
variable {P:Program} {W w:World} {ops:Array Oper} {rest:List Oper} {o:Oper} {a:Act} {Q:Exit→Act→World→Prop}
theorem Qcj (hgd:o.guard=none) (s x:Operand) (t:TypeId) (ho:o.op=.call { callee:=.builtin .append,args:=#[s,x],argTypes:=#[t,t] })
  (e:TypeId) (i:TypeInfo) (z:Value) (bytes:Nat) (ht:P.underlying t=some (.slice e)) (hi:P.info? e=some i) (hz:i.zero=some z)
  (hsize:i.size=1) (hby:i.bytes=bytes) (hzs:z.cells.size=1)
  (v:Value) (n:Nat) (xs:List Value) (hs:a.eval s=v) (hown:w.ownsRow W.heap.size e 1 v n xs) (hg:Flow.Grow W w)
  (q:Nat) (c0 c1:Value) (qt:TypeId) (hx:a.eval x=.slice (some ⟨q,0,none⟩) 2 2) (hq:w.heap[q]?=some (.cells #[c0,c1] qt (0,0))) (h1:c0.oneCell'=true∧c1.oneCell'=true)
  (hn:n≤1000000) (hb:bytes≤1000000)
  (h:∀ v' w',w'.ownsRow W.heap.size e 1 v' (n+2) (xs++[c0,c1])→Flow.Grow W w'→(∃ g c,v'=.slice (some ⟨g,0,none⟩) (n+2) c∧W.heap.size≤g)→w.grownBy w' v.ownBlock→wpList P ops Q rest (a.put o.dst v') w'):wpList P ops Q (o :: rest) a w:=by
 refine wpList_append_lies (P:=P) w hgd s x t ho W.heap.size e i z 1 bytes ht hi hz hsize hby hzs (by decide) v n xs hs hown ⟨q,0,none⟩ 2 2 [c0,c1] hx rfl
  (fun j u hj=>?_) (by intro u hu;simp at hu;rcases hu with rfl | rfl;exact h1.1;exact h1.2) (by decide) (by unfold maxLen;omega) ?_ hg.size _ rfl fun g cap w' h2 h3 h4 h5=>?_
 ·rw [Addr.add_lit,cell_of_row w q _ _ _ _ hq,Nat.zero_add];rw [← hj];rcases j with _ | _ | j <;> simp
 ·have:(n+2) * bytes≤1000002 * 1000000:=Nat.mul_le_mul (by omega) hb;omega
 ·have hlo:W.heap.size≤g:=by
   rcases h4 with h4 | h4
   ·exact (hown.lt g h4).1
   ·have:=hg.size;omega
  exact h _ _ h2 (Qap hg h3 fun b e=>(hown.lt b e).1) ⟨g,cap,rfl,hlo⟩ h3
end
set_option maxRecDepth 100000 in
set_option maxHeartbeats 1000000 in
theorem Qlf (vl:Value) (l:List Int) (W:World) (hl1:l.length≤400000) (hl:Ints W vl l) :
  Calls Tryz.prog 77 #[vl] W fun e w'=>e=.returned (.string (str (Pr.kbs l l.length)))∧Flow.Grow W w':=by
 have HL:=Lib.hid hl;obtain ⟨al,cl,rfl,_⟩:=id hl;clear hl;obtain ⟨p,hp⟩:∃ p,p=l.length:=⟨_,rfl⟩;have Hp:=Lib.hid hp;rw [← hp] at hl1 HL ⊢;clear hp;obtain ⟨i0,hi,hz0,hz1,hz2⟩:=info_parts Qie;have HI:=Lib.hid (And.intro hi (And.intro hz0 (And.intro hz1 hz2)));clear hi hz0 hz1 hz2;go_enter Tryz.func77,Tryz.ntmps77;go_wp2_with fail;go_loopw [3,8] (fun va i wr=>∃ j:Nat,j≤p∧i=.int .i64 j∧Hid (wr.ownsRow W.heap.size 5 1 va (2 * j) ((Pr.kbs l j).map u8v))∧Hid (Flow.Grow W wr)) (fun _ i _=>p - (intOf i).toNat)
 case atStart=>exact ⟨0,by omega,rfl,Lib.hid (World.ownsRow_nil _ _ _ _),Lib.hid (Flow.grow_refl _)⟩
 case round =>
  obtain ⟨j,hj,rfl,HO,HG⟩:=hrel
  rename World=>wr
  obtain ⟨va,hva⟩:∃ va,va=u3:=⟨_,rfl⟩;obtain ⟨oa,oc,hoa⟩:=Qah HO.out;subst hoa;clear hva;by_cases hjp:j < p
  ·obtain ⟨lb,lo,rfl,q0⟩:=Qa8 (HL.out.grow HG.out) (j:=j) (by rw [← Hp.out];exact hjp);have HK:Hid (Pr.kbs l (j+1)=Pr.kbs l j++Pr.kb (l.getD j 0)):=Lib.hid rfl;generalize l.getD j 0=s at *;go_wp2_with (at_builtin;refine Qcj (W:=W) rfl _ _ 116 rfl 5 i0 (.int .u8 0) 1 Tryz.underlying116 HI.out.1 HI.out.2.1 HI.out.2.2.1 HI.out.2.2.2 rfl _ (2 * j) ((Pr.kbs l j).map u8v) rfl (Qab HO.out (Flow.grow_alloc _ _)) (HG.out.trans (Flow.grow_alloc _ _)) _ _ _ 5 rfl (heap_alloc_new _ _) ⟨rfl,rfl⟩ (by omega) (by decide) ?_;intro v' w' hO hG hf hk;have HO2:=Lib.hid hO;have HG2:=Lib.hid hG;obtain ⟨g',c',rfl,_⟩:=hf;clear hO hG hk);go_roundw
   case rel=>exact ⟨j+1,by omega,by go_num,Lib.hid (by rw [HK.out,List.map_append,← Pr.kb_cells];exact HO2.out),HG2⟩
   case measure=>simp [intOf];omega
  ·obtain rfl:j=p:=by omega
   have hby:Bytes wr (.slice oa (2 * j) oc) (Pr.kbs l j):=Bytes.of_own HO.out (by rw [Pr.kbs_len];omega);have hcv:=Qly (P:=Tryz.prog) hby 116 9 5 Tryz.underlying116 Tryz.underlying5 Tryz.underlying9;clear hby;go_wp2_with fail;go_ret;exact ⟨rfl,HG.out⟩
end Go.Proofs.YtcpodmjcgfgmnaaGreat
namespace Go.Proofs.YtcpodmjcgfgmnaaGreat
open Go.RowKit
namespace Pr
structure Two (w:World) (B:Nat) (vt vo:Value) (todo out:List Int):Prop where
 ot:w.ownsRow B 3 1 vt todo.length (todo.map (Value.int .i64))
 oo:w.ownsRow B 3 1 vo out.length (out.map (Value.int .i64))
 apart:vt.ownBlock=none∨vt.ownBlock≠vo.ownBlock
variable {w w':World} {B:Nat} {vt vo:Value} {todo out:List Int}
theorem Two.grow (h:Two w B vt vo todo out) (g:Flow.Grow w w'):Two w' B vt vo todo out:=⟨Qab h.ot g,Qab h.oo g,h.apart⟩
theorem Two.setZ (h:Two w B vt vo todo out) {Z q:Nat} (hZ:Z < B) (u:Value):Two (w.setCell ⟨Z,q,none⟩ u) B vt vo todo out:=⟨ownsRow_setCell_below h.ot hZ u,ownsRow_setCell_below h.oo hZ u,h.apart⟩
theorem Two.appT {g c:Nat} {z:Int} (h:Two w B vt vo todo out) (k:w.grownBy w' vt.ownBlock) (hat:vt.ownBlock=some g∨g=w.heap.size) (ho:w'.ownsRow B 3 1 (.slice (some ⟨g,0,none⟩) (todo.length+1) c) (todo.length+1) (todo.map (Value.int .i64)++[.int .i64 z])) :
  Two w' B (.slice (some ⟨g,0,none⟩) (todo.length+1) c) vo (todo++[z]) out where
 ot:=by rw [List.length_append,List.map_append];exact ho
 oo:=h.oo.kept k (by
  rcases h.apart with e | e
  ·rw [e];cases vo.ownBlock <;> simp
  ·exact .inr (Ne.symm e))
 apart:=.inr (by
  show some g≠vo.ownBlock;rcases hat with e | e
  ·rcases h.apart with e2 | e2
   ·rw [e] at e2;cases e2
   ·rw [← e];exact e2
  ·intro e2;have:=(h.oo.lt g e2.symm).2;omega)
theorem Two.appO {g c:Nat} {z:Int} (h:Two w B vt vo todo out) (k:w.grownBy w' vo.ownBlock) (hat:vo.ownBlock=some g∨g=w.heap.size) (ho:w'.ownsRow B 3 1 (.slice (some ⟨g,0,none⟩) (out.length+1) c) (out.length+1) (out.map (Value.int .i64)++[.int .i64 z])) :
  Two w' B vt (.slice (some ⟨g,0,none⟩) (out.length+1) c) todo (out++[z]) where
 oo:=by rw [List.length_append,List.map_append];exact ho
 ot:=h.ot.kept k h.apart
 apart:=by
  rcases h.apart with e | e
  ·exact .inl e
  ·right;show vt.ownBlock≠some g;rcases hat with e2 | e2
   ·rw [← e2];exact e
   ·intro e3;have:=(h.ot.lt g e3).2;omega
theorem Two.pop {g u c:Nat} (h:Two w B (.slice (some ⟨g,0,none⟩) (u+1) c) vo todo out) (hl:todo.length=u+1):Two w B (.slice (some ⟨g,0,none⟩) u c) vo (todo.take u) out where
 oo:=h.oo
 apart:=h.apart
 ot:=by
  have ht:(todo.take u).length=u:=by rw [List.length_take];omega
  rw [ht];have h1:=h.ot;rw [hl] at h1;refine ⟨by simp;omega,.inr ?_⟩;rcases h1.2 with ⟨h2,_⟩ | ⟨g',cap,cur,hv,hB,hg,h4,h5,h6,h7⟩
  ·cases h2
  ·cases hv;refine ⟨g,c,cur,rfl,hB,hg,by omega,h5,h6,?_⟩;have h8:=congrArg (List.take (u * 1)) h7;rw [List.take_take,Nat.min_eq_left (by omega)] at h8;rw [h8,Nat.mul_one,List.map_take]
def isF:Value→Bool
 | .bool false=>true
 | _=>false
def falW (w:World) (Z:Nat):Nat:=match w.heap[Z]? with
 | some (.cells cs _ _)=>cs.toList.countP isF
 | _=>0
def lenV:Value→Nat
 | .slice _ n _=>n
 | _=>0
end Pr
end Go.Proofs.YtcpodmjcgfgmnaaGreat
namespace Go.Proofs.YtcpodmjcgfgmnaaGreat
open Go.RowKit
namespace Pr
structure TwoSt (w1:World) (B Y Z:Nat) (cy:Array Value) (cz:Array Value) (w:World) (vt vo:Value) (todo out:List Int):Prop where
 two:Two w B vt vo todo out
 y:w.heap[Y]?=some (.cells cy 131 (0,0))
 z:w.heap[Z]?=some (.cells cz 4 (0,0))
 g:Flow.Grow w1 w
 b:B≤w.heap.size
 b1:w1.heap.size≤B
variable {w1 w w':World} {B Y Z:Nat} {cy cz:Array Value} {vt vo:Value} {todo out:List Int}
theorem TwoSt.grow (h:TwoSt w1 B Y Z cy cz w vt vo todo out) (k:Flow.Grow w w'):TwoSt w1 B Y Z cy cz w' vt vo todo out :=
 ⟨h.two.grow k,(k.block _ (Array.getElem?_eq_some_iff.1 h.y).1 (by simp)).trans h.y,(k.block _ (Array.getElem?_eq_some_iff.1 h.z).1 (by simp)).trans h.z,h.g.trans k,Nat.le_trans h.b k.size,h.b1⟩
theorem TwoSt.cellY (h:TwoSt w1 B Y Z cy cz w vt vo todo out) (j:Nat):w.cell? ⟨Y,j,none⟩=cy[j]?:=cell_of_row w Y j _ _ _ h.y
theorem TwoSt.cell1 {a:Value} {y:Int} (h:TwoSt w1 B Y Z #[a,.int .i64 y] cz w vt vo todo out):w.cell? ⟨Y,1,none⟩=some (.int .i64 y):=(h.cellY 1).trans rfl
theorem TwoSt.appT {g c:Nat} {z:Int} (h:TwoSt w1 B Y Z cy cz w vt vo todo out) (k:w.grownBy w' vt.ownBlock) (hat:vt.ownBlock=some g∨g=w.heap.size) (ho:w'.ownsRow B 3 1 (.slice (some ⟨g,0,none⟩) (todo.length+1) c) (todo.length+1) (todo.map (Value.int .i64)++[.int .i64 z])) :
  TwoSt w1 B Y Z cy cz w' (.slice (some ⟨g,0,none⟩) (todo.length+1) c) vo (todo++[z]) out where
 two:=h.two.appT k hat ho
 y:=(k.block Y (Array.getElem?_eq_some_iff.1 h.y).1 (fun e=>Qan h.two.ot h.y (by decide) e.symm)).trans h.y
 z:=(k.block Z (Array.getElem?_eq_some_iff.1 h.z).1 (fun e=>Qan h.two.ot h.z (by decide) e.symm)).trans h.z
 g:=Qap h.g k fun b e=>Nat.le_trans h.b1 (h.two.ot.lt b e).1
 b:=Nat.le_trans h.b k.size
 b1:=h.b1
theorem TwoSt.appO {g c:Nat} {z:Int} (h:TwoSt w1 B Y Z cy cz w vt vo todo out) (k:w.grownBy w' vo.ownBlock) (hat:vo.ownBlock=some g∨g=w.heap.size) (ho:w'.ownsRow B 3 1 (.slice (some ⟨g,0,none⟩) (out.length+1) c) (out.length+1) (out.map (Value.int .i64)++[.int .i64 z])) :
  TwoSt w1 B Y Z cy cz w' vt (.slice (some ⟨g,0,none⟩) (out.length+1) c) todo (out++[z]) where
 two:=h.two.appO k hat ho
 y:=(k.block Y (Array.getElem?_eq_some_iff.1 h.y).1 (fun e=>Qan h.two.oo h.y (by decide) e.symm)).trans h.y
 z:=(k.block Z (Array.getElem?_eq_some_iff.1 h.z).1 (fun e=>Qan h.two.oo h.z (by decide) e.symm)).trans h.z
 g:=Qap h.g k fun b e=>Nat.le_trans h.b1 (h.two.oo.lt b e).1
 b:=Nat.le_trans h.b k.size
 b1:=h.b1
variable {o:Oper} {a:Act} {K:Act→World→Prop} {Q:Exit→Act→World→Prop}
theorem wp_appT (s x:Operand) (ho:o.op=.call { callee:=.builtin .append,args:=#[s,x],argTypes:=#[49,49] }) (z:Int)
  (h:TwoSt w1 B Y Z cy cz w vt vo todo out) (hn:todo.length≤1000) (hs:a.eval s=vt) (q:Nat) (hx:a.eval x=.slice (some ⟨q,0,none⟩) 1 1) (hq:w.heap[q]?=some (.cells #[.int .i64 z] 3 (0,0)))
  (hk:∀ g c w',TwoSt w1 B Y Z cy cz w' (.slice (some ⟨g,0,none⟩) (todo.length+1) c) vo (todo++[z]) out→(∀ i,i < w.heap.size→some i≠vt.ownBlock→w'.heap[i]?=w.heap[i]?)→K (a.put o.dst (.slice (some ⟨g,0,none⟩) (todo.length+1) c)) w'):Oper.wp Tryz.prog o a w K Q:=by
 obtain ⟨i0,hi,hz0,hz1,hz2⟩:=info_parts Qbo;refine wp_append_lies (P:=Tryz.prog) w s x 49 ho B 3 i0 (.int .i64 0) 1 8 Tryz.underlying49 hi hz0 hz1 hz2 rfl (by decide) vt todo.length _ hs h.two.ot ⟨q,0,none⟩ 1 1 [.int .i64 z] hx rfl
  (fun j u hj=>?_) (by intro u hu;simp at hu;subst hu;rfl) (by decide) (by unfold maxLen;omega) (by omega) h.b _ rfl fun g cap w' h2 h3 h4 h5=>hk g cap w' (h.appT h3 h4 h2) fun i hi hne=>h3.block i hi hne
 rw [Addr.add_lit,cell_of_row w q _ _ _ _ hq,Nat.zero_add];rw [← hj];rcases j with _ | j <;> simp
theorem wp_appO (s x:Operand) (ho:o.op=.call { callee:=.builtin .append,args:=#[s,x],argTypes:=#[49,49] }) (z:Int)
  (h:TwoSt w1 B Y Z cy cz w vt vo todo out) (hn:out.length≤1000) (hs:a.eval s=vo) (q:Nat) (hx:a.eval x=.slice (some ⟨q,0,none⟩) 1 1) (hq:w.heap[q]?=some (.cells #[.int .i64 z] 3 (0,0)))
  (hk:∀ g c w',TwoSt w1 B Y Z cy cz w' vt (.slice (some ⟨g,0,none⟩) (out.length+1) c) todo (out++[z])→(∀ i,i < w.heap.size→some i≠vo.ownBlock→w'.heap[i]?=w.heap[i]?)→K (a.put o.dst (.slice (some ⟨g,0,none⟩) (out.length+1) c)) w'):Oper.wp Tryz.prog o a w K Q:=by
 obtain ⟨i0,hi,hz0,hz1,hz2⟩:=info_parts Qbo;refine wp_append_lies (P:=Tryz.prog) w s x 49 ho B 3 i0 (.int .i64 0) 1 8 Tryz.underlying49 hi hz0 hz1 hz2 rfl (by decide) vo out.length _ hs h.two.oo ⟨q,0,none⟩ 1 1 [.int .i64 z] hx rfl
  (fun j u hj=>?_) (by intro u hu;simp at hu;subst hu;rfl) (by decide) (by unfold maxLen;omega) (by omega) h.b _ rfl fun g cap w' h2 h3 h4 h5=>hk g cap w' (h.appO h3 h4 h2) fun i hi hne=>h3.block i hi hne
 rw [Addr.add_lit,cell_of_row w q _ _ _ _ hq,Nat.zero_add];rw [← hj];rcases j with _ | j <;> simp
end Pr
theorem Qef (w:World) (p r:Obj):((w.alloc p).alloc r).heap[w.heap.size]?=some p:=by rw [Below.heap_alloc _ _ _ (by simp)];exact heap_alloc_new _ _
end Go.Proofs.YtcpodmjcgfgmnaaGreat
