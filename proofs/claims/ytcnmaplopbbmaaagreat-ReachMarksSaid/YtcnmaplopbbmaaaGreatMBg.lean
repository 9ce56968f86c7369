/- What reach.Marks works on: places that were come to, a map of their numbers, states that are being made; how it turns. No program but for types' numbers. -/
import Derived.Test.YtcnmaplopbbmaaaGreatMBf
import Derived.Test.YtcnmaplopbbmaaaGreatChMk
namespace Go.Proofs.YtcnmaplopbbmaaaGreat
open Go.RowKit Go.Maps
theorem map_at {H:Type} {P:Program} {k:TypeId} {R:Value→Option (DataW H × List MemPlace)} {w:World} {b n:Nat} {D:DataW H} (h:w.ownsMap P k R b n D):∃ es cl,w.heap[b]? = some (.map es cl):=by
 obtain ⟨es,cl,h1,_⟩:=h
 exact ⟨es,cl,h1⟩
def TY (w:World) (T:Option TypeId) (r:Option Nat):Prop:=∀ b,r=some b→match T with
 | some t=>∃ cs fr,w.heap[b]? = some (.cells cs t fr)
 | none=>∃ es cl,w.heap[b]? = some (.map es cl)
section
variable {w w':World} {T:Option TypeId} {r:Option Nat}
theorem TY.none (w:World) (T:Option TypeId):TY w T none:=fun b h=>by cases h
theorem TY.blk {b:Nat} {cs:Array Value} {t:TypeId} {fr:Nat × Nat} (h:w.heap[b]? = some (.cells cs t fr)):TY w (some t) (some b):=fun b' e=>by cases e;exact ⟨cs,fr,h⟩
theorem TY.map {b:Nat} {es:Array MapEntry} {cl:Nat} (h:w.heap[b]? = some (.map es cl)):TY w Option.none (some b):=fun b' e=>by cases e;exact ⟨es,cl,h⟩
theorem TY.own {bs e sz n:Nat} {v:Value} {xs:List Value} (h:w.ownsRow bs e sz v n xs):TY w (some e) v.ownBlock:=fun b hb=>by
 rcases h.2 with ⟨e1,_⟩ | ⟨g,cap,cur,e1,_,hg,_⟩
 ·rw [e1] at hb;cases hb
 ·rw [e1] at hb
  simp [Value.ownBlock] at hb
  subst hb
  exact ⟨cur,_,hg⟩
theorem TY.ne_blk (k:TY w T r) {Y:Nat} {cs:Array Value} {t:TypeId} {fr:Nat × Nat} (h:w.heap[Y]? = some (.cells cs t fr)) (hT:T≠some t):some Y≠r:=fun e=>by
 have:=k Y e.symm
 cases T with
 | none =>
  obtain ⟨es,cl,h2⟩:=this
  rw [h] at h2;cases h2
 | some t' =>
  obtain ⟨cs',fr',h2⟩:=this
  rw [h] at h2
  cases h2
  exact hT rfl
theorem TY.keep_blk (k:TY w T r) (g:w.grownBy w' r) {Y:Nat} {cs:Array Value} {t:TypeId} {fr:Nat × Nat} (h:w.heap[Y]? = some (.cells cs t fr)) (hT:T≠some t):w'.heap[Y]? = some (.cells cs t fr) :=
 (g.block Y (Array.getElem?_eq_some_iff.1 h).1 (k.ne_blk h hT)).trans h
theorem TY.keep_own (k:TY w T r) (g:w.grownBy w' r) {bs e sz n:Nat} {v:Value} {xs:List Value} (h:w.ownsRow bs e sz v n xs) (hT:T≠some e):w'.ownsRow bs e sz v n xs :=
 h.kept g (by
  rcases h.2 with ⟨e1,_⟩ | ⟨q,cap,cur,e1,_,hq,_⟩
  ·exact .inl (by rw [e1];rfl)
  ·exact .inr (by rw [e1];exact k.ne_blk hq hT))
theorem TY.keep_map (k:TY w T r) (g:w.grownBy w' r) {H:Type} {P:Program} {kt:TypeId} {R:Value→Option (DataW H × List MemPlace)} {b n:Nat} {D:DataW H} (h:w.ownsMap P kt R b n D) (hT:T≠Option.none):w'.ownsMap P kt R b n D :=
 h.kept g (fun e=>by
  obtain ⟨es,cl,h1⟩:=map_at h
  have:=k b e.symm
  cases T with
  | none=>exact hT rfl
  | some t =>
   obtain ⟨cs,fr,h2⟩:=this
   rw [h1] at h2;cases h2)
end
namespace Rs
def flat2 (l:List (Int × Int)):List Value:=l.flatMap fun a=>[.int .i64 a.1,.int .i64 a.2]
structure NS (w:World) (B:Nat) (vf vm:Value) (fin:List Bool) (rows:List (List (Int × Int))) (vs:List Value):Prop where
 finals:w.ownsRow B 4 1 vf fin.length (fin.map Value.bool)
 moves:w.ownsRow B 74 1 vm rows.length vs
 len:vs.length=rows.length
 row:∀ j,j < rows.length→w.ownsRow B 76 2 (vs.getD j undef) (rows.getD j []).length (flat2 (rows.getD j []))
 inj:∀ i j,i < rows.length→j < rows.length→i≠j→(vs.getD i undef).ownBlock=none∨(vs.getD i undef).ownBlock≠(vs.getD j undef).ownBlock
section
variable {w w1 w':World} {B:Nat} {vf vm v':Value} {fin:List Bool} {rows:List (List (Int × Int))} {vs:List Value}
theorem own_mono {w:World} {B B' e sz n:Nat} {v:Value} {xs:List Value} (h:w.ownsRow B e sz v n xs) (hB:B'≤B):w.ownsRow B' e sz v n xs:=by
 refine ⟨h.1,?_⟩
 rcases h.2 with h2 | ⟨g,cap,cur,h3,h4,h5⟩
 ·exact .inl h2
 ·exact .inr ⟨g,cap,cur,h3,by omega,h5⟩
theorem NS.ty {T:Option TypeId} {r:Option Nat} (h:NS w B vf vm fin rows vs) (k:TY w T r) (g:w.grownBy w' r) (h1:T≠some 4) (h2:T≠some 74) (h3:T≠some 76):NS w' B vf vm fin rows vs :=
 ⟨k.keep_own g h.finals h1,k.keep_own g h.moves h2,h.len,fun j hj=>k.keep_own g (h.row j hj) h3,h.inj⟩
theorem NS.grow (h:NS w B vf vm fin rows vs) (g:Flow.Grow w w'):NS w' B vf vm fin rows vs:=⟨own_keep h.finals g,own_keep h.moves g,h.len,fun j hj=>own_keep (h.row j hj) g,h.inj⟩
theorem NS.final {b:Bool} (h:NS w B vf vm fin rows vs) (o:w1.ownsRow B 4 1 v' (fin.length+1) (fin.map Value.bool++[.bool b])) (k:w.grownBy w1 vf.ownBlock):NS w1 B v' vm (fin++[b]) rows vs :=
 have t:=TY.own h.finals
 ⟨by simpa using o,t.keep_own k h.moves (by decide),h.len,fun j hj=>t.keep_own k (h.row j hj) (by decide),h.inj⟩
theorem NS.more {row:List (Int × Int)} {vr:Value} {S:Nat} (h:NS w B vf vm fin rows vs) (hlt:∀ j,j < rows.length→∀ b,(vs.getD j undef).ownBlock=some b→b < S) (hr:w.ownsRow S 76 2 vr row.length (flat2 row)) (hB:B≤S)
  (hown:w1.ownsRow B 74 1 v' (rows.length+1) (vs++[vr])) (k:w.grownBy w1 vm.ownBlock):NS w1 B vf v' fin (rows++[row]) (vs++[vr]):=by
 have t:=TY.own h.moves
 have hv:∀ j,j < rows.length→(vs++[vr]).getD j undef=vs.getD j undef:=fun j hj=>by
  have:j < vs.length:=by rw [h.len];exact hj
  simp [List.getD_eq_getElem?_getD,List.getElem?_append_left this]
 have hv':(vs++[vr]).getD rows.length undef=vr:=by rw [← h.len];simp
 have hw:∀ j,j < rows.length→(rows++[row]).getD j []=rows.getD j []:=fun j hj=>by simp [List.getD_eq_getElem?_getD,List.getElem?_append_left hj]
 have hw':(rows++[row]).getD rows.length []=row:=by simp
 have hge:∀ b,vr.ownBlock=some b→S≤b:=fun b hb=>(hr.lt b hb).1
 refine ⟨t.keep_own k h.finals (by decide),by simpa using hown,by simp [h.len],fun j hj=>?_,fun i j hi hj hne=>?_⟩
 ·rw [List.length_append,List.length_singleton] at hj
  by_cases e:j < rows.length
  ·rw [hv j e,hw j e]
   exact t.keep_own k (h.row j e) (by decide)
  ·obtain rfl:j=rows.length:=by omega
   rw [hv',hw']
   exact t.keep_own k (own_mono hr hB) (by decide)
 ·rw [List.length_append,List.length_singleton] at hi hj
  have sep:∀ q,q < rows.length→(vs.getD q undef).ownBlock=none∨(vs.getD q undef).ownBlock≠vr.ownBlock:=fun q hq=>by
   cases hb:(vs.getD q undef).ownBlock with
   | none=>exact .inl rfl
   | some b =>
    right
    intro e
    have h1:=hlt q hq b hb
    have h2:=hge b e.symm
    omega
  by_cases e1:i < rows.length
  ·by_cases e2:j < rows.length
   ·rw [hv i e1,hv j e2];exact h.inj i j e1 e2 hne
   ·obtain rfl:j=rows.length:=by omega
    rw [hv i e1,hv']
    exact sep i e1
  ·obtain rfl:i=rows.length:=by omega
   have e2:j < rows.length:=by omega
   rw [hv j e2,hv']
   cases hb:vr.ownBlock with
   | none=>exact .inl rfl
   | some b =>
    right
    intro e
    have h1:=hlt j e2 b e.symm
    have h2:=hge b hb
    omega
end
end Rs
namespace Rs
def ku (l:M):Lit:=.int .u64 (Mark.ofBools l:Int)
theorem ku_inj {l m:M} (hl:l.length=64) (hm:m.length=64) (h:ku l=ku m):l=m:=by
 unfold ku at h
 injection h with _ h
 exact mark_inj hl hm (by omega)
theorem ku_is (l:M):WideAt.IsKeyLit (ku l):=by simp [ku,WideAt.IsKeyLit]
theorem look {ls:List M} {D:DataW Unit} (h:Mo.Ord D (ls.map ku)) (_hn:ls.Nodup) (h64:∀ l∈ls,l.length=64) {x:M} (hx:x.length=64) :
  Maps.has D (ku x)=decide (pos ls x < ls.length)∧(pos ls x < ls.length→D.atKey (ku x) (.lit (.int .i64 0))=.lit (.int .i64 (pos ls x:Int))):=by
 constructor
 ·rw [Bool.eq_iff_iff,h.hs,decide_eq_true_eq,pos_mem,List.mem_map]
  constructor
  ·rintro ⟨y,hy,e⟩
   rw [← ku_inj (h64 y hy) hx e]
   exact hy
  ·intro hm
   exact ⟨x,hm,rfl⟩
 ·intro hp
  exact h.at_ (pos ls x) (ku x) (by rw [List.getElem?_map,pos_at hp];rfl)
theorem look_new {ls:List M} {D:DataW Unit} (h:Mo.Ord D (ls.map ku)) (h64:∀ l∈ls,l.length=64) {x:M} (hx:x.length=64) (hp:¬ pos ls x < ls.length) :
  Mo.Ord (D.put (ku x) (.lit (.int .i64 (ls.length:Int)))) ((ls++[x]).map ku):=by
 have:=h.push (ku_is x) (fun hm=>by
  obtain ⟨y,hy,e⟩:=List.mem_map.1 hm
  rw [ku_inj (h64 y hy) hx e] at hy
  exact hp (pos_mem.2 hy))
 rw [List.length_map] at this
 rw [List.map_append]
 exact this
def mcell (l:M):Value:=.int .u64 (Mark.ofBools l:Int)
structure Rr (W w:World) (B:Nat) (gv:Array Value) (Nb Rb:Nat) (K:Int) (vf vm:Value) (fin:List Bool) (rows:List Row) (vs:List Value):Prop where
 by_:W.grownBy w (some B)
 game:w.heap[B]? = some (.cells gv 94 (0,0))
 lo:B < W.heap.size∧W.heap.size≤Nb∧W.heap.size≤Rb∧Nb≠Rb
 nb:w.heap[Nb]? = some (.cells #[.int .i64 K,.int .i64 0,vf,vm] 34 (0,0))
 rb:w.heap[Rb]? = some (.cells #[.int .i64 0,.int .i64 0,.slice none 0 0,.slice none 0 0] 34 (0,0))
 st:NS w W.heap.size vf vm fin rows vs
structure Pm (W w:World) (Mb:Nat) (D:DataW Unit) (vl:Value) (ls:List M):Prop where
 lo:W.heap.size≤Mb
 m:w.ownsMap Tryz.prog 69 (plainElem (H:=Unit) Tryz.prog 3) Mb ls.length D
 ord:Mo.Ord D (ls.map ku)
 l:w.ownsRow W.heap.size 69 1 vl ls.length (ls.map mcell)
structure Rw (w:World) (S:Nat) (vr:Value) (row:Row) (vt:Value) (ts:List Gr.Tn):Prop where
 row:w.ownsRow S 76 2 vr row.length (flat2 row)
 ts:w.ownsRow S 99 2 vt ts.length (ts.flatMap Gr.tcells)
section
variable {W w w':World} {B:Nat} {gv:Array Value} {Mb:Nat} {D:DataW Unit} {vl:Value} {ls:List M} {Nb Rb:Nat} {K:Int} {vf vm:Value} {fin:List Bool} {rows:List Row} {vs:List Value} {S:Nat} {vr vt:Value} {row:Row} {ts:List Gr.Tn} {T:Option TypeId} {r:Option Nat}
theorem Rr.ty (h:Rr W w B gv Nb Rb K vf vm fin rows vs) (k:TY w T r) (g:w.grownBy w' r) (hr:∀ g,r=some g→W.heap.size≤g) (h0:T≠some 94) (h1:T≠some 4) (h2:T≠some 74) (h3:T≠some 76) (h4:T≠some 34):Rr W w' B gv Nb Rb K vf vm fin rows vs :=
 ⟨by_own h.by_ g hr,k.keep_blk g h.game h0,h.lo,k.keep_blk g h.nb h4,k.keep_blk g h.rb h4,h.st.ty k g h1 h2 h3⟩
theorem Rr.keep (h:Rr W w B gv Nb Rb K vf vm fin rows vs) (k:Flow.Grow w w'):Rr W w' B gv Nb Rb K vf vm fin rows vs :=
 ⟨by_trans h.by_ (by_grow k),heap_keep k h.game,h.lo,heap_keep k h.nb,heap_keep k h.rb,h.st.grow k⟩
theorem Rr.gm {gv':Array Value} (h:Rr W w B gv Nb Rb K vf vm fin rows vs) (k:w.grownBy w' (some B)) (hg:w'.heap[B]? = some (.cells gv' 94 (0,0))):Rr W w' B gv' Nb Rb K vf vm fin rows vs :=
 have t:=TY.blk h.game
 ⟨by_trans h.by_ k,hg,h.lo,t.keep_blk k h.nb (by decide),t.keep_blk k h.rb (by decide),h.st.ty t k (by decide) (by decide) (by decide)⟩
theorem Rr.mv (h:Rr W w B gv Nb Rb K vf vm fin rows vs) (old:∀ j,j < rows.length→∀ b,(vs.getD j undef).ownBlock=some b→b < S) (hS:W.heap.size≤S) (o:w.ownsRow S 76 2 vr row.length (flat2 row)) (k:w.grownBy w' vr.ownBlock):Rr W w' B gv Nb Rb K vf vm fin rows vs :=
 have t:=TY.own o
 ⟨by_own h.by_ k (fun g e=>Nat.le_trans hS (own_lo o g e)),t.keep_blk k h.game (by decide),h.lo,t.keep_blk k h.nb (by decide),t.keep_blk k h.rb (by decide),
  t.keep_own k h.st.finals (by decide),t.keep_own k h.st.moves (by decide),h.st.len,fun j hj=>(h.st.row j hj).kept k (by
   cases hb:(vs.getD j undef).ownBlock with
   | none=>exact .inl rfl
   | some b =>
    right
    intro e
    have h1:=old j hj b hb
    have h2:=own_lo o b e.symm
    omega),h.st.inj⟩
theorem Pm.ty (h:Pm W w Mb D vl ls) (k:TY w T r) (g:w.grownBy w' r) (h0:T≠none) (h1:T≠some 69):Pm W w' Mb D vl ls:=⟨h.lo,k.keep_map g h.m h0,h.ord,k.keep_own g h.l h1⟩
theorem Pm.keep (h:Pm W w Mb D vl ls) (k:Flow.Grow w w'):Pm W w' Mb D vl ls:=⟨h.lo,h.m.kept (row:=none) k (by simp),h.ord,own_keep h.l k⟩
theorem Pm.more {x:M} {w1 w2:World} {vl':Value} (h:Pm W w Mb D vl ls) (h64:∀ l∈ls,l.length=64) (hx:x.length=64) (hp:¬ pos ls x < ls.length)
  (hm:w1.ownsMap Tryz.prog 69 (plainElem (H:=Unit) Tryz.prog 3) Mb (ls.length+1) (D.put (ku x) (.lit (.int .i64 (ls.length:Int)))))
  (hl:w1.ownsRow W.heap.size 69 1 vl ls.length (ls.map mcell)) (o:w2.ownsRow W.heap.size 69 1 vl' (ls.length+1) (ls.map mcell++[mcell x])) (k:w1.grownBy w2 vl.ownBlock) :
  Pm W w2 Mb (D.put (ku x) (.lit (.int .i64 (ls.length:Int)))) vl' (ls++[x]) :=
 ⟨h.lo,by rw [List.length_append];exact (TY.own hl).keep_map k hm (by simp),look_new h.ord h64 hx hp,by rw [List.length_append,List.map_append];exact o⟩
theorem Rw.ty (h:Rw w S vr row vt ts) (k:TY w T r) (g:w.grownBy w' r) (h0:T≠some 76) (h1:T≠some 99):Rw w' S vr row vt ts:=⟨k.keep_own g h.row h0,k.keep_own g h.ts h1⟩
theorem Rw.keep (h:Rw w S vr row vt ts) (k:Flow.Grow w w'):Rw w' S vr row vt ts:=⟨own_keep h.row k,own_keep h.ts k⟩
theorem Rw.more {x:Int × Int} {vr':Value} (h:Rw w S vr row vt ts) (o:w'.ownsRow S 76 2 vr' (row.length+1) (flat2 row++[.int .i64 x.1,.int .i64 x.2])) (k:w.grownBy w' vr.ownBlock):Rw w' S vr' (row++[x]) vt ts :=
 ⟨by rw [List.length_append,flat2,List.flatMap_append];exact o,(TY.own h.row).keep_own k h.ts (by decide)⟩
theorem Rr.laid {vm':Value} {w1:World} (h:Rr W w B gv Nb Rb K vf vm fin rows vs) (old:∀ j,j < rows.length→∀ b,(vs.getD j undef).ownBlock=some b→b < S) (hS:W.heap.size≤S) (o:w.ownsRow S 76 2 vr row.length (flat2 row))
  (hown:w1.ownsRow W.heap.size 74 1 vm' (rows.length+1) (vs++[vr])) (k:w.grownBy w1 vm.ownBlock):Rr W (w1.setCell ⟨Nb,3,none⟩ vm') B gv Nb Rb K vf vm' fin (rows++[row]) (vs++[vr]):=by
 have t:=TY.own h.st.moves
 have hs:=h.st.more old o hS hown k
 have hn1:=t.keep_blk k h.nb (by decide)
 have t1:=TY.blk hn1
 have k1:=by_set w1 Nb 3 vm'
 refine ⟨by_own (by_own h.by_ k (fun g e=>own_lo h.st.moves g e)) k1 (fun g e=>by cases e;exact h.lo.2.1),t1.keep_blk k1 (t.keep_blk k h.game (by decide)) (by decide),h.lo,(set_cells hn1 3 _).trans rfl,?_,hs.ty t1 k1 (by decide) (by decide) (by decide)⟩
 exact set_other (t.keep_blk k h.rb (by decide)) (fun e=>h.lo.2.2.2 e.symm)
theorem Rr.over {b:Bool} {vf':Value} {w1:World} (h:Rr W w B gv Nb Rb K vf vm fin rows vs) (hown:w1.ownsRow W.heap.size 4 1 vf' (fin.length+1) (fin.map Value.bool++[.bool b])) (k:w.grownBy w1 vf.ownBlock):Rr W (w1.setCell ⟨Nb,2,none⟩ vf') B gv Nb Rb K vf' vm (fin++[b]) rows vs:=by
 have t:=TY.own h.st.finals
 have hs:=h.st.final hown k
 have hn1:=t.keep_blk k h.nb (by decide)
 have t1:=TY.blk hn1
 have k1:=by_set w1 Nb 2 vf'
 refine ⟨by_own (by_own h.by_ k (fun g e=>own_lo h.st.finals g e)) k1 (fun g e=>by cases e;exact h.lo.2.1),t1.keep_blk k1 (t.keep_blk k h.game (by decide)) (by decide),h.lo,(set_cells hn1 2 _).trans rfl,?_,hs.ty t1 k1 (by decide) (by decide) (by decide)⟩
 exact set_other (t.keep_blk k h.rb (by decide)) (fun e=>h.lo.2.2.2 e.symm)
theorem Rr.old (h:Rr W w B gv Nb Rb K vf vm fin rows vs):∀ j,j < rows.length→∀ b,(vs.getD j undef).ownBlock=some b→b < w.heap.size:=fun j hj b hb=>((h.st.row j hj).lt b hb).2
end
end Rs
end Go.Proofs.YtcnmaplopbbmaaaGreat
namespace Go.Proofs.YtcnmaplopbbmaaaGreat
open Go.RowKit
section
variable {P:Program} {w:World}
theorem run_append_zero (t ty e:TypeId) (i:TypeInfo) (z:Value) (ht:P.underlying t=some (.slice e)) (hi:P.info? e=some i) (hz:i.zero=some z) (b:Addr) (a:Option Addr) (c:Nat) (ha:a=none→c=0) :
  (Builtin.append_ #[t,t] ty #[.slice (some b) 0 0,.slice a 0 c]).run P w=.ok (.slice (some b) 0 0) w:=by
 cases a with
 | none=>simp [Builtin.append_,run_underlying ht,sizeOf,typeInfo,zeroValue,hi,hz,Builtin.lenOf,Builtin.firstCells,go_sem]
 | some a=>simp [Builtin.append_,run_underlying ht,sizeOf,typeInfo,zeroValue,hi,hz,Builtin.lenOf,go_sem]
theorem exec_appF {o:Oper} {ρ:Operand→Value} (bs:Nat) (s x:Operand) (t:TypeId) (ho:o.op=.call { callee:=.builtin .append,args:=#[s,x],argTypes:=#[t,t] })
  (e:TypeId) (i:TypeInfo) (z:Value) (size bytes:Nat) (ht:P.underlying t=some (.slice e)) (hi:P.info? e=some i) (hz:i.zero=some z)
  (hsize:i.size=size) (hby:i.bytes=bytes) (hzs:z.cells.size=size) (hsz:0 < size)
  (q:Nat) (hs:ρ s=.slice (some ⟨q,0,none⟩) 0 0) (h0:w.ownsRow bs e size (.slice (some ⟨q,0,none⟩) 0 0) 0 []) (hbs:bs≤w.heap.size)
  (v:Value) (n:Nat) (xs:List Value) (hx:ρ x=v) (hv:w.ownsRow 0 e size v n xs) (h1:∀ u∈xs,u.oneCell'=true) (hn:n≤1000000) (hb:bytes≤1000) :
  ∃ g c w',(execOp ρ o).run P w=.ok (.value (.slice (some ⟨g,0,none⟩) n c)) w'∧w'.ownsRow bs e size (.slice (some ⟨g,0,none⟩) n c) n xs∧Flow.Grow w w':=by
 subst hsize
 subst hby
 have ex:∀ v' w',(Builtin.append_ #[t,t] o.type #[.slice (some ⟨q,0,none⟩) 0 0,v]).run P w=.ok v' w'→(execOp ρ o).run P w=.ok (.value v') w':=fun v' w' hr=>by
  unfold execOp
  simp only [ho,resolve,invoke,builtin,Sem.run_bind,Sem.run_pure,Result.andThen_ok,List.map_toArray,List.map_cons,List.map_nil,hs,hx,hr]
 by_cases hz0:n=0
 ·subst hz0
  obtain ⟨a,c,rfl⟩:=own_form hv
  have hl:=hv.1
  obtain rfl:xs=[]:=List.length_eq_zero_iff.1 (by omega)
  refine ⟨q,0,w,ex _ _ (run_append_zero t o.type e i z ht hi hz _ a c (fun ha=>?_)),h0,Flow.grow_refl _⟩
  rcases hv.2 with ⟨e1,_⟩ | ⟨g,cap,cur,e1,_⟩
  ·cases e1;rfl
  ·rw [ha] at e1;cases e1
 ·have hl:=hv.1
  rcases hv.2 with ⟨_,e2⟩ | ⟨g,cap,cur,rfl,h3⟩
  ·exact absurd e2 hz0
  ·have hc:∀ j u,xs[j]? = some u→w.cell? (Addr.add ⟨g,0,none⟩ j)=some u:=fun j u hj=>hv.cells (g:=g) rfl j u hj
   have hfit:Builtin.nextslicecap (0+n) 0 * i.bytes≤281474976710656:=by
    rw [Nat.zero_add,nextslicecap_zero (by omega)]
    have:=Nat.mul_le_mul hn hb
    omega
   obtain ⟨v',w',hr,h4,h5,_⟩:=run_append_own (P:=P) w bs t o.type e i z i.size i.bytes ht hi hz rfl rfl hzs hsz _ 0 [] h0 ⟨g,0,none⟩ n cap xs hl hc h1 (by unfold maxLen;omega) (by
    rw [Nat.zero_add]
    have:=Nat.mul_le_mul hn hb
    omega) hbs
   have hr2:=run_append_grow (P:=P) (w:=w) t o.type e i z ht hi hz ⟨q,0,none⟩ 0 0 [] (by simp) (by simp) ⟨g,0,none⟩ n cap xs hl hc (by omega) (by omega) hfit
   rw [hr] at hr2
   injection hr2 with e1 e2
   rw [Nat.zero_add] at h4 e1
   rw [List.nil_append] at h4
   subst e1
   refine ⟨_,_,w',ex _ _ hr,h4,?_⟩
   rw [e2]
   exact (Flow.grow_drew _).trans (Flow.grow_alloc _ _)
theorem wp_appF {o:Oper} {a:Act} {K:Act→World→Prop} {Q:Exit→Act→World→Prop} (bs:Nat) (s x:Operand) (t:TypeId) (ho:o.op=.call { callee:=.builtin .append,args:=#[s,x],argTypes:=#[t,t] })
  (e:TypeId) (i:TypeInfo) (z:Value) (size bytes:Nat) (ht:P.underlying t=some (.slice e)) (hi:P.info? e=some i) (hz:i.zero=some z)
  (hsize:i.size=size) (hby:i.bytes=bytes) (hzs:z.cells.size=size) (hsz:0 < size)
  (q:Nat) (hs:a.eval s=.slice (some ⟨q,0,none⟩) 0 0) (h0:w.ownsRow bs e size (.slice (some ⟨q,0,none⟩) 0 0) 0 []) (hbs:bs≤w.heap.size)
  (v:Value) (n:Nat) (xs:List Value) (hx:a.eval x=v) (hv:w.ownsRow 0 e size v n xs) (h1:∀ u∈xs,u.oneCell'=true) (hn:n≤1000000) (hb:bytes≤1000)
  (h:∀ g c w',w'.ownsRow bs e size (.slice (some ⟨g,0,none⟩) n c) n xs→Flow.Grow w w'→K (a.put o.dst (.slice (some ⟨g,0,none⟩) n c)) w'):o.wp P a w K Q:=by
 obtain ⟨g,c,w',hr,h2,h3⟩:=exec_appF (P:=P) (o:=o) (ρ:=a.eval) bs s x t ho e i z size bytes ht hi hz hsize hby hzs hsz q hs h0 hbs v n xs hx hv h1 hn hb
 exact Flow.run_wp hr (h g c w' h2 h3)
end
theorem exec_appK {P:Program} {o:Oper} {ρ:Operand→Value} {w:World} {T:Value→World→Prop} (bs:Nat) (s x:Operand) (t:TypeId) (ho:o.op=.call { callee:=.builtin .append,args:=#[s,x],argTypes:=#[t,t] })
  (e:TypeId) (i:TypeInfo) (z:Value) (size bytes:Nat) (ht:P.underlying t=some (.slice e)) (hi:P.info? e=some i) (hz:i.zero=some z)
  (hsize:i.size=size) (hby:i.bytes=bytes) (hzs:z.cells.size=size) (hsz:0 < size)
  (v:Value) (n:Nat) (xs:List Value) (hs:ρ s=v) (hown:w.ownsRow bs e size v n xs) (hbs:bs≤w.heap.size)
  (q:Nat) (cs:List Value) (k cp:Nat) (hx:ρ x=.slice (some ⟨q,0,none⟩) k cp) (hcs:cs.length=k * size) (hq:∀ j u,cs[j]? = some u→w.cell? ⟨q,j,none⟩=some u) (h1:∀ u∈cs,u.oneCell'=true)
  (hn:n≤10000000000) (hk:k≤10000000000) (hb:bytes≤1000) (hT:∀ v' w',w'.ownsRow bs e size v' (n+k) (xs++cs)→w.grownBy w' v.ownBlock→T v' w') :
  ∃ v' w',(execOp ρ o).run P w=.ok (.value v') w'∧T v' w':=by
 obtain ⟨v',w',h,h2,h3⟩:=exec_appB bs s x t ho e i z size bytes ht hi hz hsize hby hzs hsz v n xs hs hown hbs q cs k cp hx hcs hq h1 hn hk hb
 exact ⟨v',w',h,hT v' w' h2 h3⟩
end Go.Proofs.YtcnmaplopbbmaaaGreat
