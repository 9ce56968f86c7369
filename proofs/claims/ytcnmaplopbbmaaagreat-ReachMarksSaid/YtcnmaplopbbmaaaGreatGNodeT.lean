/- mark.All; game.node by its contract. -/
import Derived.Test.YtcnmaplopbbmaaaGreatGTask
namespace Go.Proofs.YtcnmaplopbbmaaaGreat
open Go.RowKit
set_option maxRecDepth 100000 in
set_option maxHeartbeats 1000000 in
theorem markAll_l (l:List Bool) (v:Value) (zs:List Int) (w:World) (hl:l.length=64) (hz:zs.length≤1000000) (hp:Gr.InP zs) (h:Ints w v zs) :
  Calls Tryz.prog 75 #[.int .u64 (Mark.ofBools l:Int),v] w fun e w'=>e=.returned (.bool (zs.all (Gr.at1 (l,false))))∧w=w':=by
 have HV:=Lib.hid h
 have HP:=Lib.hid hp
 have HHas:Hid (∀ p,0≤p→p < 64→Calls Tryz.prog 77 #[.int .u64 (Mark.ofBools l:Int),.int .i64 p] w fun e w'=>e=.returned (.bool (Gr.at1 (l,false) p))∧w=w'):=Lib.hid fun p h0 h1=>markHas_l l p w hl h0 h1
 obtain ⟨ao,ac,rfl,_⟩:=id h
 obtain ⟨n,hn⟩:∃ k,k=zs.length:=⟨_,rfl⟩
 have Hn:=Lib.hid hn
 rw [← hn] at hz HV ⊢
 clear h hn hp hl
 go_enter Tryz.func75,Tryz.ntmps75
 go_wp2_with fail
 go_loop [9] (fun i=>∃ j:Nat,j≤n∧i=.int .i64 j∧Hid (zs.all (Gr.at1 (l,false))=(zs.drop j).all (Gr.at1 (l,false)))) (fun i=>n - (intOf i).toNat)
 case atStart=>exact ⟨0,by omega,rfl,Lib.hid rfl⟩
 case round =>
  obtain ⟨j,hj,rfl,HR⟩:=hrel
  by_cases hjn:j < n
  ·obtain ⟨b,off,rfl,q⟩:=Ints.at1 HV.out (k:=j) (by rw [← Hn.out];exact hjn)
   have hx:zs[j]? = some (zs.getD j 0):=by rw [List.getD_eq_getElem?_getD,List.getElem?_eq_getElem (by rw [← Hn.out];exact hjn)];rfl
   have hp:=HP.out _ (List.mem_of_getElem? hx)
   have HD:Hid ((zs.drop j).all (Gr.at1 (l,false))=(Gr.at1 (l,false) (zs.getD j 0) && (zs.drop (j+1)).all (Gr.at1 (l,false)))):=Lib.hid (by
    have e:zs[j]'(by rw [← Hn.out];exact hjn)=zs.getD j 0:=by
     rw [List.getElem?_eq_getElem (by rw [← Hn.out];exact hjn)] at hx
     exact Option.some.inj hx
    rw [List.drop_eq_getElem_cons (by rw [← Hn.out];exact hjn),List.all_cons,e])
   clear hx
   generalize zs.getD j 0=x at *
   have HH:=Lib.hid (HHas.out x hp.1 hp.2)
   generalize Gr.at1 (l,false) x=hb at *
   cases hb with
   | true =>
    have HR2:Hid (zs.all (Gr.at1 (l,false))=(zs.drop (j+1)).all (Gr.at1 (l,false))):=Lib.hid (by rw [HR.out,HD.out,Bool.true_and])
    go_wp2_with (go_at_call 77;refine HH.out.mono ?_;rintro e w' ⟨rfl,rfl⟩)
    go_round
    case rel=>exact ⟨j+1,by omega,by go_num,HR2⟩
    case measure=>simp [intOf];omega
   | false =>
    have HE:Hid (zs.all (Gr.at1 (l,false))=false):=Lib.hid (by rw [HR.out,HD.out,Bool.false_and])
    go_wp2_with (go_at_call 77;refine HH.out.mono ?_;rintro e w' ⟨rfl,rfl⟩)
    go_ret
    exact ⟨by rw [HE.out];rfl,rfl⟩
  ·obtain rfl:j=n:=by omega
   have HE:Hid (zs.all (Gr.at1 (l,false))=true):=Lib.hid (by rw [HR.out,List.drop_of_length_le (by rw [← Hn.out];exact Nat.le_refl _)];rfl)
   go_wp2_with fail
   go_ret
   exact ⟨by rw [HE.out];rfl,rfl⟩
theorem Gr.Gm.two {w:World} {B:Nat} {v0 v1 v2 v3 lv:Value} {g:Gr.G} {L:List Gr.Lb} {e:Int} (h:Gr.Gm w B v0 v1 v2 v3 lv g L e) (p r:Int) :
  Ints (mask ((w.alloc (.cells #[.int .i64 p] 3)).alloc (.cells #[.int .i64 r] 3)) [B]) (.slice (some ⟨w.heap.size,0,none⟩) 1 1) [p] ∧
  Ints (mask ((w.alloc (.cells #[.int .i64 p] 3)).alloc (.cells #[.int .i64 r] 3)) [B]) (.slice (some ⟨w.heap.size+1,0,none⟩) 1 1) [r]:=by
 refine ⟨Ints.mgrow (h.one p _ (Nat.le_refl _)) (Flow.grow_alloc _ _),?_⟩
 have k:=h.one (w':=w.alloc (.cells #[.int .i64 p] 3)) r 3 (by simp)
 have e:(w.alloc (.cells #[.int .i64 p] 3)).heap.size=w.heap.size+1:=by simp
 rw [e] at k
 exact k
theorem Ints.none (w:World):Ints w (.slice none 0 0) []:=⟨_,0,rfl,by simp,by simp,fun j hj=>by simp at hj⟩
theorem flat_len_le {α β:Type} (f:α→List β) (k:Nat) (hf:∀ x,(f x).length≤k):∀ l:List α,(l.flatMap f).length≤l.length * k
 | []=>by simp
 | x :: l=>by
  have:=flat_len_le f k hf l
  have:=hf x
  rw [List.flatMap_cons,List.length_append,List.length_cons,Nat.succ_mul]
  omega
theorem Gr.G.Fit.inn_len {g:Gr.G} (h:g.Fit) (n:Int):(g.inn n).length≤64:=by
 have:=inE_len g.es n g.es.length
 have:=h.pl
 unfold G.places at this
 unfold G.inn
 omega
theorem Gr.G.Fit.out_len {g:Gr.G} (h:g.Fit) (n:Int):(g.out n).length≤64:=by
 have:=outE_len g.es n g.es.length
 have:=h.pl
 unfold G.places at this
 unfold G.out
 omega
theorem Gr.G.nodeT_len {g:Gr.G} (h:g.Fit) (L:List Gr.Lb) (i:Nat) (t:Gr.Tk):(g.nodeT L i t).length≤4096:=by
 have hi:=h.inn_len i
 have ho:=h.out_len i
 unfold G.nodeT
 split
 ·unfold G.taskT
  rw [List.length_append,List.length_append]
  have:=Gr.flat_le (fun p=>if at1 t p then [(idx L (g.nd i).first,g.begun i (wo t p))] else []) (fun x=>by split <;> simp) (g.inn i)
  split <;> split <;> simp at * <;> omega
 ·split
  ·split <;> simp
  ·split
   ·have:=flat_len_le (fun k=>(g.out i).flatMap fun o=>if at1 t k then [((-1:Int),put1 (wo t k) o)] else []) 64 (fun k=>by
     have:=Gr.flat_le (fun o=>if at1 t k then [((-1:Int),put1 (wo t k) o)] else []) (fun x=>by split <;> simp) (g.out i)
     exact Nat.le_trans this ho) (g.inn i)
    refine Nat.le_trans this ?_
    have:=Nat.mul_le_mul_right 64 hi
    omega
   ·split
    ·have:=Gr.flat_le (fun k=>if at1 t k then [((-1:Int),wo t k)] else []) (fun x=>by split <;> simp) (g.inn i)
     omega
    ·simp
end Go.Proofs.YtcnmaplopbbmaaaGreat
