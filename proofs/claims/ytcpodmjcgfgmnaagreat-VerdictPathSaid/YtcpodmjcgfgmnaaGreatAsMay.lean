/- slices.Equal of acts that are alike; peer.May, joint.May of three participants; async.Explore without room, by their contracts. -/
import Derived.Test.YtcpodmjcgfgmnaaGreatAsDo
namespace Go.Proofs.YtcpodmjcgfgmnaaGreat
open Go.RowKit
set_option maxRecDepth 100000 in
set_option maxHeartbeats 1000000 in
theorem Quc (v u:Value) (l:List (Int × Int)) (W:World) (hl:l.length≤1000000) (hv:Seg 2 W v l.length (Pr.flat2 l)) (hu:Seg 2 W u l.length (Pr.flat2 l)) :
  Calls Tryz.prog 71 #[v,u] W fun e w'=>e=.returned (.bool true)∧Flow.Grow W w':=by
 have HV:=Lib.hid hv;have HU:=Lib.hid hu;obtain ⟨a,c,rfl,_⟩:=id hv;obtain ⟨a',c',rfl,_⟩:=id hu;clear hv hu;obtain ⟨n,hn⟩:∃ n,n=l.length:=⟨_,rfl⟩;have Hn:=Lib.hid hn;rw [← hn] at HV HU hl ⊢;clear hn;have hne:((n:Int) != (n:Int))=false:=by simp
 have s1:Tryz.prog.eqGuardType Tryz.prog.depth 89=false:=by as_aux_lemma=>kernel_rfl
 have s2:Tryz.prog.stoodInHeld 89=false:=by as_aux_lemma=>kernel_rfl
 go_enter Tryz.func71,Tryz.ntmps71;go_wp2_with fail;go_loopw [13] (fun iv wr=>∃ i:Nat,i≤n∧iv=.int .i64 i∧Hid (Flow.Grow W wr)) (fun iv _=>n - (intOf iv).toNat)
 case atStart=>exact ⟨0,by omega,rfl,Lib.hid (Flow.grow_refl _)⟩
 case round =>
  obtain ⟨i,hi,rfl,HG⟩:=hrel
  rename World=>wo
  by_cases hin:i < n
  ·obtain ⟨b1,o1,rfl,x0,x1⟩:=Pr.Acts_at (l:=l) (by rw [← Hn.out];exact Seg.grow HV.out HG.out) (j:=i) (by rw [← Hn.out];exact hin);obtain ⟨b2,o2,rfl,y0,y1⟩:=Pr.Acts_at (l:=l) (by rw [← Hn.out];exact Seg.grow HU.out HG.out) (j:=i) (by rw [← Hn.out];exact hin);generalize (l.getD i (0,0)).1=p at *;generalize (l.getD i (0,0)).2=q at *;go_upto_region 6 with fail
   refine Flow.regionG (C:=fun _ wq=>Flow.Grow wo wq) (Fs:=[.inl ((.slice (some ⟨b1,o1,none⟩) n c)),.inl ((.int .i64 (i:Int))),.inl ((.pointer (some ⟨b1,o1+i * 2,none⟩))),.inl ((.agg #[.int .i64 p,.int .i64 q])),.inl ((.slice (some ⟨b2,o2,none⟩) n c')),.inl ((.int .i64 (i:Int))),.inl ((.pointer (some ⟨b2,o2+i * 2,none⟩))),.inl ((.agg #[.int .i64 p,.int .i64 q])),.inl ((.bool false))])
    [[],[],[0,1],[2],[],[],[4,5],[6],[3,7]] [[],[],[0,1],[0,1,2],[],[],[4,5],[4,5,6],[0,1,2,3,4,5,6,7]] [] (by kernel_rfl) (by kernel_rfl) (by kernel_rfl) rfl (Flow.grow_drew _) ?ones6 ?ends6
   case ones6 =>
    refine Flow.OnesG.start (by exact trivial) (fun L w w' i=>(fun _ _ h g=>h.trans g) w w') fun HST HCG=>?_;refine Flow.oq rfl HST HCG ?_ ?_
    ·intro L a w hC hLi hoff _;exact Flow.gs rfl (Flow.exec_move (.inl rfl) (hoff.at2 0 0 hLi (by kernel_rfl)))
    refine Flow.oq rfl HST HCG ?_ ?_
    ·intro L a w hC hLi hoff _;exact Flow.gs rfl (Flow.exec_move (.inl rfl) (hoff.at2 5 1 hLi (by kernel_rfl)))
    refine Flow.oq rfl HST HCG ?_ ?_
    ·rintro L a w hC hLi hoff ⟨k0,k1,-⟩;have e16:=Flow.kv k0 rfl rfl;have e17:=Flow.kv k1 rfl rfl;refine Flow.gs rfl ?_;generalize a.eval=ρ at e16 e17 ⊢;simp [execOp,e16,e17,go_sem];intro hh;omega
    refine Flow.oq rfl HST HCG ?_ ?_
    ·rintro L a w hC hLi hoff ⟨k2,-⟩;have e18:=Flow.kv k2 rfl rfl;refine Flow.gs rfl ?_;generalize a.eval=ρ at e18 ⊢;have h0:=Xm2.cell_grow hC x0;have h1:=Xm2.cell_grow hC x1;simp [execOp,e18,h0,h1,go_sem]
    refine Flow.oq rfl HST HCG ?_ ?_
    ·intro L a w hC hLi hoff _;exact Flow.gs rfl (Flow.exec_move (.inl rfl) (hoff.at2 1 4 hLi (by kernel_rfl)))
    refine Flow.oq rfl HST HCG ?_ ?_
    ·intro L a w hC hLi hoff _;exact Flow.gs rfl (Flow.exec_move (.inl rfl) (hoff.at2 5 5 hLi (by kernel_rfl)))
    refine Flow.oq rfl HST HCG ?_ ?_
    ·rintro L a w hC hLi hoff ⟨k4,k5,-⟩;have e20:=Flow.kv k4 rfl rfl;have e21:=Flow.kv k5 rfl rfl;refine Flow.gs rfl ?_;generalize a.eval=ρ at e20 e21 ⊢;simp [execOp,e20,e21,go_sem];intro hh;omega
    refine Flow.oq rfl HST HCG ?_ ?_
    ·rintro L a w hC hLi hoff ⟨k6,-⟩;have e22:=Flow.kv k6 rfl rfl;refine Flow.gs rfl ?_;generalize a.eval=ρ at e22 ⊢;have h0:=Xm2.cell_grow hC y0;have h1:=Xm2.cell_grow hC y1;simp [execOp,e22,h0,h1,go_sem]
    refine Flow.oq rfl HST HCG ?_ ?_
    ·rintro L a w hC hLi hoff ⟨k3,k7,-⟩;have e19:=Flow.kv k3 rfl rfl;have e23:=Flow.kv k7 rfl rfl;refine Flow.gs rfl ?_;generalize a.eval=ρ at e19 e23 ⊢;simp [execOp,e19,e23,s1,s2,go_sem]
    exact trivial
   case ends6 =>
    intro LL wx hLL hC
    iterate 9 refine Flow.endsG_v rfl ?_
    refine Flow.endsG_nil ?_;simp only [Act.put,List.setIfInBounds_toArray,List.set_cons_succ,List.set_cons_zero];have HGx:=Lib.hid (HG.out.trans hC);clear hC x0 x1 y0 y1;go_wp2_with fail;go_roundw
    case rel=>exact ⟨i+1,by omega,by go_num,HGx⟩
    case measure=>simp [intOf];omega
  ·obtain rfl:n=i:=by omega
   go_wp2_with fail;go_ret;exact ⟨rfl,HG.out⟩
theorem Qyv {α:Type} {l:List α} {j:Nat} {d:α} (h:j < l.length):l[j]=l.getD j d:=by
 rw [List.getD_eq_getElem?_getD,List.getElem?_eq_getElem h];rfl
theorem Zb3 {p:Pr.Pd} {ls:List Pr.Lb} {i:Nat} (h:p.Ok ls i):Det.may (p.acts.length:Nat) 0 p.fin.length p.rows=true:=by
 unfold Det.may;have h1:=h.fin;have h2:=h.pos;have h3:=h.few;simp only [Bool.and_eq_true,decide_eq_true_eq,Bool.not_eq_true'];refine ⟨⟨⟨⟨⟨⟨by omega,h1⟩,h2⟩,h3⟩,by omega⟩,by omega⟩,?_⟩;rw [List.any_eq_false];intro r hr;obtain ⟨j,hj,rfl⟩:=List.getElem_of_mem hr;have e:p.rows[j]=p.rows.getD j []:=by simp [hj]
 have hl:=h.len j hj;rw [e];have hb:Det.badRow (p.acts.length:Nat) p.rows.length (p.rows.getD j [])=false:=by
  unfold Det.badRow;rw [Bool.or_eq_false_iff];refine ⟨decide_eq_false (by rw [hl];simp),List.any_eq_false.2 fun z hz=>?_⟩;obtain ⟨c,hc,rfl⟩:=List.getElem_of_mem hz;have e2:(p.rows.getD j [])[c]=(p.rows.getD j []).getD c 0:=Qyv hc;obtain ⟨h4,h5⟩:=h.rng j c hj (by omega);rw [e2];unfold Det.badStep;simp only [Bool.or_eq_true,decide_eq_true_eq];omega
 rw [hb];decide
set_option maxRecDepth 100000 in
set_option maxHeartbeats 2000000 in
theorem Qpu (L i:Nat) (vl:Value) (va vf vn:Value) (p:Pr.Pd) (W:World) (hL:L≤4) (hok:p.Ok (Pr.labsL L) i) (hA:Seg 2 W va p.acts.length (Pr.flat2 p.acts)) (hF:Bools W vf p.fin) (hN:Rows2 W vn p.rows) (hLs:Pr.LsAt W vl (Pr.labsL L)) :
  Calls Tryz.prog 45 #[.agg #[.int .i64 (i:Nat),va,.int .i64 (p.acts.length:Nat),.int .i64 0,vf,vn],vl] W fun e w'=>e=.returned (.bool true)∧Flow.Grow W w':=by
 have hK:p.acts.length≤1000000:=by rw [hok.acts];have:=Pr.acts_len i (Pr.labsL L) (Pr.labsL L).length;have:=Pr.labsL_len hL;omega
 have HDm:Hid (∀ wq,Flow.Grow W wq→Calls Tryz.prog 34 #[.agg #[.int .i64 (p.acts.length:Nat),.int .i64 0,vf,vn]] wq fun e w'=>∃ v,e=.returned v∧Flow.Grow wq w'∧v=.bool true):=Lib.hid (fun wq g=>by
  have hD:DfaAt wq #[.int .i64 (p.acts.length:Nat),.int .i64 0,vf,vn] (p.acts.length:Nat) 0 p.fin p.rows:=⟨⟨vf,vn,rfl,hF.grow g,hN.grow g⟩,by have:=hok.fin;have:=hok.few;omega,by have:=hok.few;omega,fun r hr=>by
   obtain ⟨j,hj,rfl⟩:=List.getElem_of_mem hr;have:=hok.len j hj;rw [List.getD_eq_getElem?_getD,List.getElem?_eq_getElem hj] at this;simp only [Option.getD_some] at this;omega⟩
  refine (Qjd _ _ _ _ _ wq hD).mono ?_;rintro e w' ⟨rfl,rfl⟩;rw [Zb3 hok];exact ⟨_,rfl,Flow.grow_alloc _ _,rfl⟩)
 have HAc:Hid (∀ wq,Flow.Grow W wq→Calls Tryz.prog 37 #[vl,.int .i64 (i:Nat)] wq fun e w'=>∃ v,e=.returned v∧Flow.Grow wq w'∧∃ a c,v=.slice a p.acts.length c∧Seg 2 w' v p.acts.length (Pr.flat2 p.acts)):=Lib.hid (fun wq g=>by
  have h:=Qnb vl (i:Nat) (Pr.labsL L) wq (by have:=Pr.labsL_len hL;omega) (hLs.grow g);refine h.mono ?_;rintro e w' ⟨⟨v,rfl,ho⟩,hg⟩;rw [← hok.acts] at ho;obtain ⟨a,c,rfl⟩:=Qah ho;exact ⟨_,rfl,hg,a,c,rfl,Seg.of_own ho⟩)
 have HEq:Hid (∀ wq v,Flow.Grow W wq→Seg 2 wq v p.acts.length (Pr.flat2 p.acts)→Calls Tryz.prog 71 #[va,v] wq fun e w'=>∃ v,e=.returned v∧Flow.Grow wq w'∧v=.bool true):=Lib.hid (fun wq v g hs=>by
  refine (Quc va v p.acts wq hK (Seg.grow hA g) hs).mono ?_;rintro e w' ⟨rfl,hg⟩;exact ⟨_,rfl,hg,rfl⟩)
 obtain ⟨aa,ac,rfl,_⟩:=id hA;obtain ⟨af,cf,rfl,_⟩:=id hF;obtain ⟨an,cn,rfl⟩:=hN.val;obtain ⟨al,cl,rfl,_⟩:=id hLs;clear hA hF hN hLs hok;generalize hfl:Pr.flat2 p.acts=fl at *;clear hfl;generalize p.acts.length=K at *;generalize p.fin.length=F at *;generalize p.rows.length=N at *;generalize (Pr.labsL L).length=LL at *;go_enter Tryz.func45,Tryz.ntmps45;go_upto_region 1 with fail;have HBw10:Hid ((W.alloc (.cells #[.int .i64 (i:Int),.slice aa K ac,.int .i64 (K:Nat),.int .i64 0,.slice af F cf,.slice an N cn] 69)).heap[W.heap.size]?=some (.cells #[.int .i64 (i:Int),.slice aa K ac,.int .i64 (K:Nat),.int .i64 0,.slice af F cf,.slice an N cn] 69 (0,0))):=Lib.hid (Qb3 _ _);have HGw1:Hid (Flow.Grow W (W.alloc (.cells #[.int .i64 (i:Int),.slice aa K ac,.int .i64 (K:Nat),.int .i64 0,.slice af F cf,.slice an N cn] 69))):=Lib.hid (Qb2 _ _);have HSw1:Hid ((W.alloc (.cells #[.int .i64 (i:Int),.slice aa K ac,.int .i64 (K:Nat),.int .i64 0,.slice af F cf,.slice an N cn] 69)).heap.size=W.heap.size+1):=Lib.hid (by simp);generalize W.alloc (.cells #[.int .i64 (i:Int),.slice aa K ac,.int .i64 (K:Nat),.int .i64 0,.slice af F cf,.slice an N cn] 69)=w1 at *;obtain ⟨X,hX⟩:∃ X,X=W.heap.size:=⟨_,rfl⟩;rw [← hX] at HBw10 HSw1 ⊢;have HXw1:=Lib.hid hX;clear hX;have CXw1:Hid (∀ wq,Flow.Grow w1 wq→wq.cell? ⟨X,0,none⟩=some (.int .i64 (i:Int))∧wq.cell? ⟨X,1,none⟩=some (.slice aa K ac)∧wq.cell? ⟨X,2,none⟩=some (.int .i64 (K:Nat))∧wq.cell? ⟨X,3,none⟩=some (.int .i64 0)∧wq.cell? ⟨X,4,none⟩=some (.slice af F cf)∧wq.cell? ⟨X,5,none⟩=some (.slice an N cn)):=Lib.hid (fun wq g=>⟨Qaa g HBw10.out rfl,Qaa g HBw10.out rfl,Qaa g HBw10.out rfl,Qaa g HBw10.out rfl,Qaa g HBw10.out rfl,Qaa g HBw10.out rfl⟩);have FXw1:Hid (∀ wq,Flow.Grow w1 wq→(∀ k,wq.frozen? ⟨X,k,none⟩=false)):=Lib.hid (fun wq g=>fun k=>Qaf g HBw10.out k);have hKK:((K:Int) == (K:Int))=true:=by simp
 refine Flow.regionG (C:=fun _ wq=>Flow.Grow w1 wq) (Fs:=[.inl ((.pointer (some ⟨X,2,none⟩))),.inl ((.agg #[.int .i64 (K:Nat),.int .i64 0,.slice af F cf,.slice an N cn])),.inl ((.bool true)),.inl ((.bool true)),.inl ((.pointer (some ⟨X,2,none⟩))),.inl ((.pointer (some ⟨X,2,none⟩))),.inl ((.int .i64 (K:Nat))),.inl ((.pointer (some ⟨X,1,none⟩))),.inl ((.slice aa K ac)),.inl ((.int .i64 (K:Nat))),.inl ((.bool true)),.inl ((.bool true)),.inl ((.bool true)),.inl ((.pointer (some ⟨X,1,none⟩))),.inl ((.slice aa K ac)),.inl ((.slice al LL cl)),.inl ((.pointer (some ⟨X,0,none⟩))),.inl ((.int .i64 (i:Int))),.inr (fun v w=>∃ a c,v=.slice a K c∧Seg 2 w v K fl),.inl ((.bool true)),.inl ((.bool true)),.inl ((.bool true))])
  [[],[0],[1],[2],[3],[4,3],[5,3],[3],[7,3],[8,3],[6,9,3],[3,10],[11],[12],[13,12],[12],[12],[16,12],[15,17,12],[14,18,12],[12,19],[20]] [[],[0],[0,1],[0,1,2],[0,1,2,3],[0,1,2,3,4],[0,1,2,3,4,5],[0,1,2,3],[0,1,2,3,7],[0,1,2,3,7,8],[0,1,2,3,4,5,6,7,8,9],[0,1,2,3,4,5,6,7,8,9,10],[0,1,2,3,4,5,6,7,8,9,10,11],[0,1,2,3,4,5,6,7,8,9,10,11,12],[0,1,2,3,4,5,6,7,8,9,10,11,12,13],[0,1,2,3,4,5,6,7,8,9,10,11,12],[0,1,2,3,4,5,6,7,8,9,10,11,12],[0,1,2,3,4,5,6,7,8,9,10,11,12,16],[0,1,2,3,4,5,6,7,8,9,10,11,12,15,16,17],[0,1,2,3,4,5,6,7,8,9,10,11,12,13,14,15,16,17,18],[0,1,2,3,4,5,6,7,8,9,10,11,12,13,14,15,16,17,18,19],[0,1,2,3,4,5,6,7,8,9,10,11,12,13,14,15,16,17,18,19,20]] [21] (by kernel_rfl) (by kernel_rfl) (by kernel_rfl) rfl (Flow.grow_drew _) ?ones1 ?ends1
 case ones1 =>
  refine Flow.OnesG.start (by exact ⟨fun _ _ _ g ⟨a,c,h1,h2⟩=>⟨a,c,h1,Seg.grow h2 g⟩,trivial⟩) (fun L w w' i=>(fun _ _ h g=>h.trans g) w w') fun HST HCG=>?_;refine Flow.oq rfl HST HCG ?_ ?_
  ·intro L a w hC hLi hoff _;have e2:a.eval (.tmp 2)=(.pointer (some ⟨X,0,none⟩)):=hoff.at2 2 0 hLi (by kernel_rfl);refine Flow.gs rfl ?_;generalize a.eval=ρ at e2 ⊢;simp [execOp,e2,go_sem]
  refine Flow.oq rfl HST HCG ?_ ?_
  ·rintro L a w hC hLi hoff ⟨k0,-⟩;have e5:=Flow.kv k0 rfl rfl;refine Flow.gs rfl ?_;generalize a.eval=ρ at e5 ⊢;obtain ⟨_,_,h2,h3,h4,h5⟩:=CXw1.out w hC;simp [execOp,e5,h2,h3,h4,h5,go_sem]
  refine Flow.oq rfl HST HCG ?_ ?_
  ·rintro L a w hC hLi hoff ⟨k1,-⟩;have e6:=Flow.kv k1 rfl rfl;exact .inl ⟨Flow.want_none rfl,Flow.run_call (Flow.exec_call rfl Tryz.func34 (by kernel_rfl) (by kernel_rfl) (by simp only [List.map_toArray,List.map_cons,List.map_nil,e6] <;> rfl)) (HDm.out w (HGw1.out.trans hC))⟩
  refine Flow.oq rfl HST HCG ?_ ?_
  ·rintro L a w hC hLi hoff ⟨k2,-⟩;have e7:=Flow.kv k2 rfl rfl;exact Flow.gs rfl (Flow.exec_move (.inl rfl) e7)
  refine Flow.oq rfl HST HCG ?_ ?_
  ·rintro L a w hC hLi hoff ⟨k3,-⟩;have e8:=Flow.kv k3 rfl rfl;have e2:a.eval (.tmp 2)=(.pointer (some ⟨X,0,none⟩)):=hoff.at2 2 4 hLi (by kernel_rfl);refine Flow.gy rfl rfl e8 ?_;generalize a.eval=ρ at e2 ⊢;simp [execOp,e2,go_sem]
  refine Flow.oq rfl HST HCG ?_ ?_
  ·rintro L a w hC hLi hoff ⟨k4,k3,-⟩;have e9:=Flow.kv k4 rfl rfl;have e8:=Flow.kv k3 rfl rfl;refine Flow.gy rfl rfl e8 ?_;generalize a.eval=ρ at e9 ⊢;simp [execOp,e9,go_sem]
  refine Flow.oq rfl HST HCG ?_ ?_
  ·rintro L a w hC hLi hoff ⟨k5,k3,-⟩;have e10:=Flow.kv k5 rfl rfl;have e8:=Flow.kv k3 rfl rfl;refine Flow.gy rfl rfl e8 ?_;generalize a.eval=ρ at e10 ⊢;obtain ⟨_,_,h2,_⟩:=CXw1.out w hC;simp [execOp,e10,h2,go_sem]
  refine Flow.oq rfl HST HCG ?_ ?_
  ·rintro L a w hC hLi hoff ⟨k3,-⟩;have e8:=Flow.kv k3 rfl rfl;have e2:a.eval (.tmp 2)=(.pointer (some ⟨X,0,none⟩)):=hoff.at2 2 7 hLi (by kernel_rfl);refine Flow.gy rfl rfl e8 ?_;generalize a.eval=ρ at e2 ⊢;simp [execOp,e2,go_sem]
  refine Flow.oq rfl HST HCG ?_ ?_
  ·rintro L a w hC hLi hoff ⟨k7,k3,-⟩;have e12:=Flow.kv k7 rfl rfl;have e8:=Flow.kv k3 rfl rfl;refine Flow.gy rfl rfl e8 ?_;generalize a.eval=ρ at e12 ⊢;obtain ⟨_,h1,_⟩:=CXw1.out w hC;simp [execOp,e12,h1,go_sem]
  refine Flow.oq rfl HST HCG ?_ ?_
  ·rintro L a w hC hLi hoff ⟨k8,k3,-⟩;have e13:=Flow.kv k8 rfl rfl;have e8:=Flow.kv k3 rfl rfl;refine Flow.gy rfl rfl e8 ?_;generalize a.eval=ρ at e13 ⊢;simp [e13,go_sem]
  refine Flow.oq rfl HST HCG ?_ ?_
  ·rintro L a w hC hLi hoff ⟨k6,k9,k3,-⟩;have e11:=Flow.kv k6 rfl rfl;have e14:=Flow.kv k9 rfl rfl;have e8:=Flow.kv k3 rfl rfl;refine Flow.gy rfl rfl e8 ?_;generalize a.eval=ρ at e11 e14 ⊢;simp [execOp,e11,e14,go_sem]
  refine Flow.oq rfl HST HCG ?_ ?_
  ·rintro L a w hC hLi hoff ⟨k3,k10,-⟩;have e8:=Flow.kv k3 rfl rfl;have e15:=Flow.kv k10 rfl rfl;exact Flow.gs rfl (Flow.exec_pick_yes rfl e8 e15)
  refine Flow.oq rfl HST HCG ?_ ?_
  ·rintro L a w hC hLi hoff ⟨k11,-⟩;have e16:=Flow.kv k11 rfl rfl;exact Flow.gs rfl (Flow.exec_move (.inl rfl) e16)
  refine Flow.oq rfl HST HCG ?_ ?_
  ·rintro L a w hC hLi hoff ⟨k12,-⟩;have e17:=Flow.kv k12 rfl rfl;have e2:a.eval (.tmp 2)=(.pointer (some ⟨X,0,none⟩)):=hoff.at2 2 13 hLi (by kernel_rfl);refine Flow.gy rfl rfl e17 ?_;generalize a.eval=ρ at e2 ⊢;simp [execOp,e2,go_sem]
  refine Flow.oq rfl HST HCG ?_ ?_
  ·rintro L a w hC hLi hoff ⟨k13,k12,-⟩;have e18:=Flow.kv k13 rfl rfl;have e17:=Flow.kv k12 rfl rfl;refine Flow.gy rfl rfl e17 ?_;generalize a.eval=ρ at e18 ⊢;obtain ⟨_,h1,_⟩:=CXw1.out w hC;simp [execOp,e18,h1,go_sem]
  refine Flow.oq rfl HST HCG ?_ ?_
  ·rintro L a w hC hLi hoff ⟨k12,-⟩;have e17:=Flow.kv k12 rfl rfl;have e1:a.eval (.tmp 1)=(.slice al LL cl):=hoff.at2 1 15 hLi (by kernel_rfl);exact Flow.gy rfl rfl e17 (Flow.exec_move (.inl rfl) e1)
  refine Flow.oq rfl HST HCG ?_ ?_
  ·rintro L a w hC hLi hoff ⟨k12,-⟩;have e17:=Flow.kv k12 rfl rfl;have e2:a.eval (.tmp 2)=(.pointer (some ⟨X,0,none⟩)):=hoff.at2 2 16 hLi (by kernel_rfl);refine Flow.gy rfl rfl e17 ?_;generalize a.eval=ρ at e2 ⊢;simp [execOp,e2,go_sem]
  refine Flow.oq rfl HST HCG ?_ ?_
  ·rintro L a w hC hLi hoff ⟨k16,k12,-⟩;have e21:=Flow.kv k16 rfl rfl;have e17:=Flow.kv k12 rfl rfl;refine Flow.gy rfl rfl e17 ?_;generalize a.eval=ρ at e21 ⊢;obtain ⟨h0,_⟩:=CXw1.out w hC;simp [execOp,e21,h0,go_sem]
  refine Flow.oq rfl HST HCG ?_ ?_
  ·rintro L a w hC hLi hoff ⟨k15,k17,k12,-⟩;have e20:=Flow.kv k15 rfl rfl;have e22:=Flow.kv k17 rfl rfl;have e17:=Flow.kv k12 rfl rfl;exact .inl ⟨Flow.want_yes rfl rfl e17,Flow.run_call (Flow.exec_call rfl Tryz.func37 (by kernel_rfl) (by kernel_rfl) (by simp only [List.map_toArray,List.map_cons,List.map_nil,e20,e22] <;> rfl)) (HAc.out w (HGw1.out.trans hC))⟩
  refine Flow.oq rfl HST HCG ?_ ?_
  ·rintro L a w hC hLi hoff ⟨k14,k18,k12,-⟩;have e19:=Flow.kv k14 rfl rfl;have e23:=Flow.kr k18 rfl rfl;have e17:=Flow.kv k12 rfl rfl;exact .inl ⟨Flow.want_yes rfl rfl e17,Flow.run_call (Flow.exec_call rfl Tryz.func71 (by kernel_rfl) (by kernel_rfl) (by simp only [List.map_toArray,List.map_cons,List.map_nil,e19] <;> rfl)) (by obtain ⟨a1,c1,_,hs⟩:=e23;exact HEq.out w _ (HGw1.out.trans hC) hs)⟩
  refine Flow.oq rfl HST HCG ?_ ?_
  ·rintro L a w hC hLi hoff ⟨k12,k19,-⟩;have e17:=Flow.kv k12 rfl rfl;have e24:=Flow.kv k19 rfl rfl;exact Flow.gs rfl (Flow.exec_pick_yes rfl e17 e24)
  refine Flow.oq rfl HST HCG ?_ ?_
  ·rintro L a w hC hLi hoff ⟨k20,-⟩;have e25:=Flow.kv k20 rfl rfl;exact Flow.gs rfl (Flow.exec_move (.inr rfl) e25)
  exact trivial
 case ends1 =>
  intro LL wx hLL hC
  iterate 18 refine Flow.endsG_v rfl ?_
  refine Flow.endsG_r rfl fun v23 _=>?_
  iterate 3 refine Flow.endsG_v rfl ?_
  refine Flow.endsG_nil ?_;simp only [Act.put,List.setIfInBounds_toArray,List.set_cons_succ,List.set_cons_zero];go_wp2_with fail;go_ret;exact ⟨rfl,HGw1.out.trans hC⟩
set_option maxRecDepth 100000 in
set_option maxHeartbeats 2000000 in
theorem Qop (L:Nat) (vp vl:Value) (css:List (List Value)) (ps:List Pr.Pd) (W:World) (hL:L≤4) (hP:Pr.PeersAt W vp (Pr.labsL L) css ps) (hLs:Pr.LsAt W vl (Pr.labsL L)) :
  Calls Tryz.prog 22 #[vp,vl] W fun e w'=>e=.returned (.bool true)∧Flow.Grow W w':=by
 obtain ⟨pb,po,pc,rfl,hpb,hpa⟩:=hP.at_;have HPa:=Lib.hid hpa;have HLs:=Lib.hid hLs;obtain ⟨al,cl,rfl,_⟩:=id hLs;clear hP hpa hLs;go_enter Tryz.func22,Tryz.ntmps22;go_wp2_with fail;go_loopw [9] (fun iv wr=>∃ i:Nat,i≤3∧iv=.int .i64 i∧Hid (Flow.Grow W wr)) (fun iv _=>3 - (intOf iv).toNat)
 case atStart=>exact ⟨0,by omega,rfl,Lib.hid (Flow.grow_refl _)⟩
 case round =>
  obtain ⟨i,hi3,rfl,HG⟩:=hrel
  rename World=>wo
  by_cases hin:i < 3
  ·obtain ⟨va,vf,vn,p,hp,f0,f1,f2,f3,f4,f5,f6,f7,f8,f9⟩:=HPa.out i hin;have HM:Hid (∀ wq,Flow.Grow W wq→Calls Tryz.prog 45 #[.agg #[.int .i64 (i:Nat),va,.int .i64 (p.acts.length:Nat),.int .i64 0,vf,vn],.slice al (Pr.labsL L).length cl] wq fun e w'=>e=.returned (.bool true)∧Flow.Grow wq w'):=Lib.hid (fun wq g=>Qpu L i _ va vf vn p wq hL f9 (Seg.grow f6 g) (f7.grow g) (f8.grow g) (HLs.out.grow g));obtain ⟨aa,ac,hva,_⟩:=id f6;obtain ⟨af,cf,hvf,_⟩:=id f7;obtain ⟨an,cn,hvn⟩:=f8.val;subst hva hvf hvn;clear f6 f7 f8 f9 hp;generalize p.acts.length=K at *;generalize p.fin.length=F at *;generalize p.rows.length=N at *;replace f0:=Xm2.cell_grow HG.out f0;replace f1:=Xm2.cell_grow HG.out f1;replace f2:=Xm2.cell_grow HG.out f2;replace f3:=Xm2.cell_grow HG.out f3;replace f4:=Xm2.cell_grow HG.out f4;replace f5:=Xm2.cell_grow HG.out f5;go_upto_region 4 with fail;have HBw20:Hid ((wo.alloc (.cells #[.int .i64 (i:Int),.slice aa K ac,.int .i64 (K:Nat),.int .i64 0,.slice af F cf,.slice an N cn] 69)).heap[wo.heap.size]?=some (.cells #[.int .i64 (i:Int),.slice aa K ac,.int .i64 (K:Nat),.int .i64 0,.slice af F cf,.slice an N cn] 69 (0,0))):=Lib.hid (Qb3 _ _);have HGw2:Hid (Flow.Grow wo (wo.alloc (.cells #[.int .i64 (i:Int),.slice aa K ac,.int .i64 (K:Nat),.int .i64 0,.slice af F cf,.slice an N cn] 69))):=Lib.hid (Qb2 _ _);have HSw2:Hid ((wo.alloc (.cells #[.int .i64 (i:Int),.slice aa K ac,.int .i64 (K:Nat),.int .i64 0,.slice af F cf,.slice an N cn] 69)).heap.size=wo.heap.size+1):=Lib.hid (by simp);generalize wo.alloc (.cells #[.int .i64 (i:Int),.slice aa K ac,.int .i64 (K:Nat),.int .i64 0,.slice af F cf,.slice an N cn] 69)=w2 at *;obtain ⟨Y,hY⟩:∃ X,X=wo.heap.size:=⟨_,rfl⟩;rw [← hY] at HBw20 HSw2 ⊢;have HXw2:=Lib.hid hY;clear hY;have CXw2:Hid (∀ wq,Flow.Grow w2 wq→wq.cell? ⟨Y,0,none⟩=some (.int .i64 (i:Int))∧wq.cell? ⟨Y,1,none⟩=some (.slice aa K ac)∧wq.cell? ⟨Y,2,none⟩=some (.int .i64 (K:Nat))∧wq.cell? ⟨Y,3,none⟩=some (.int .i64 0)∧wq.cell? ⟨Y,4,none⟩=some (.slice af F cf)∧wq.cell? ⟨Y,5,none⟩=some (.slice an N cn)):=Lib.hid (fun wq g=>⟨Qaa g HBw20.out rfl,Qaa g HBw20.out rfl,Qaa g HBw20.out rfl,Qaa g HBw20.out rfl,Qaa g HBw20.out rfl,Qaa g HBw20.out rfl⟩);have FXw2:Hid (∀ wq,Flow.Grow w2 wq→(∀ k,wq.frozen? ⟨Y,k,none⟩=false)):=Lib.hid (fun wq g=>fun k=>Qaf g HBw20.out k);obtain ⟨c00,c01,c02,c03,c04,c05⟩:=CXw2.out w2 (Flow.grow_refl _);clear f0 f1 f2 f3 f4 f5;have hii:((i:Int) != (i:Int))=false:=by simp
   go_wp2_with (go_at_call 45;refine (HM.out _ (HG.out.trans HGw2.out)).mono ?_;rintro e w3 ⟨rfl,hg⟩;have HG3:=Lib.hid hg;clear hg);go_roundw
   case rel=>exact ⟨i+1,by omega,by go_num,Lib.hid (HG.out.trans (HGw2.out.trans HG3.out))⟩
   case measure=>simp [intOf];omega
  ·obtain rfl:i=3:=by omega
   go_wp2_with fail;go_ret;exact ⟨rfl,HG.out⟩
theorem Qjo (X:Nat) (v:Value) (tmps:Array Value) (w:World) (c0 c1 c2:Value) (h6:tmps.getD 6 undef=.pointer (some ⟨X,0,none⟩)) (h7:tmps.getD 7 undef=v) (hx:w.heap[X]?=some (.cells #[c0,c1,c2] 42 (0,0))) :
  (results Tryz.f9 tmps).run Tryz.prog w=.ok (.tuple #[.agg #[c0,c1,c2],v]) w:=by
 have x0:=(cell_of_row w X 0 _ _ _ hx).trans rfl;have x1:=(cell_of_row w X 1 _ _ _ hx).trans rfl;have x2:=(cell_of_row w X 2 _ _ _ hx).trans rfl;simp at x0 x1 x2;simp only [Array.getD_eq_getD_getElem?] at h6 h7;simp [results,Tryz.results9,h6,h7,x0,x1,x2,go_sem]
end Go.Proofs.YtcpodmjcgfgmnaaGreat
