/- YtdkgilioejdmeaaGreatBA8: what is proved here stands in the theorems' own rows. -/
import Derived.Maps.AppendAt
import Derived.Deep.DeepCutAuto
import Derived.RangeFuncCalls
import Derived.RangeFuncBound
import Derived.Test.YtdkgilioejdmeaaGreatBA1
import Derived.Test.YtdkgilioejdmeaaGreatBA3
import Derived.Test.YtdkgilioejdmeaaGreatBA4
import Derived.Test.YtdkgilioejdmeaaGreatBA5
import Derived.Test.YtdkgilioejdmeaaGreatBA6
import Derived.Test.YtdkgilioejdmeaaGreatBA7
set_option linter.unusedVariables false
set_option linter.unusedSimpArgs false
namespace Go.Proofs.YtdkgilioejdmeaaGreat
open Go.RowKit
theorem zCO {w w':World} (hx:Ext w w'):w.grownBy w' none:=⟨Below.os hx,Below.tape hx,Below.output hx,hx.size,fun k hk _=>Below.block hx k hk⟩
theorem zAh {w w':World} {base:Nat} {t:TypeId} {size:Nat} {v:Value} {n:Nat} {xs:List Value} (h:w.ownsRow base t size v n xs) (hx:Ext w w'):w'.ownsRow base t size v n xs :=
 h.kept (row:=none) (zCO hx) (by cases v.ownBlock <;> simp)
theorem SqInv.ext_ {w0 w w':World} {n i:Nat} {v:Value} {h:Nat→Nat} {m:Nat→Nat→Int} (s:SqInv w0 w n i v h m) (hx:Ext w w'):SqInv w0 w' n i v h m :=
 ⟨zAh s.own hx,fun j hj=>(s.row j hj).ext hx,s.inj,s.low,s.ext.trans hx⟩
def unitM (i j:Nat):Int:=if j=i then 1 else 0
structure NewSt (w wr:World) (n i p:Nat) (vA vU:Value) (hA hU:Nat→Nat) (e:Nat→Nat→Int):Prop where
 A:SqInv w wr n i vA hA e
 U:SqInv w wr n i vU hU unitM
 box:Blk wr p 239 #[vA,vU,.slice none 0 0,.slice none 0 0]
 lowp:w.heap.size≤p
 ne:∀ j k,j < i→k < i→hA j≠hU k
 own:∀ g,vA.ownBlock=some g→vU.ownBlock≠some g
theorem NewSt.ext_ {w wr wx:World} {n i p:Nat} {vA vU:Value} {hA hU:Nat→Nat} {e:Nat→Nat→Int} (s:NewSt w wr n i p vA vU hA hU e) (hx:Ext wr wx):NewSt w wx n i p vA vU hA hU e :=
 ⟨s.A.ext_ hx,s.U.ext_ hx,s.box.ext hx,s.lowp,s.ne,s.own⟩
def hset (h:Nat→Nat) (i b:Nat):Nat→Nat:=fun j=>if j=i then b else h j
theorem SqInv.grow {w0 w W w5:World} {n i:Nat} {v v':Value} {h:Nat→Nat} {m:Nat→Nat→Int} {hr:Nat} (s:SqInv w0 w n i v h m) (hx:Ext w W) (hr0:MRow w hr n (m i)) (hl:w0.heap.size≤hr) (hd:∀ j,j < i→h j≠hr)
  (ho:w5.ownsRow w0.heap.size 41 1 v' (i+1) ((List.range i).map (fun j=>Value.slice (some ⟨h j,0,none⟩) n n) ++ [.slice (some ⟨hr,0,none⟩) n n])) (hg:W.grownBy w5 v.ownBlock):SqInv w0 w5 n (i+1) v' (hset h i hr) m:=by
 have hoW:=zAh s.own hx
 refine ⟨?_,fun j hj=>?_,fun j k hj hk e=>?_,fun j hj=>?_,?_⟩
 ·rw [← zBF i (fun j=>Value.slice (some ⟨h j,0,none⟩) n n) _ (.slice (some ⟨hr,0,none⟩) n n) (fun j hj=>by simp only [hset,if_neg (show ¬ j=i by omega)]) (by simp [hset])]
  exact ho
 ·have hk:∀ b t,TB W t b→t≠41→w5.heap[b]? = W.heap[b]?:=fun b t hb ht=>zAR hoW hg hb ht
  by_cases e:j=i
  ·subst e
   simp only [hset,if_true]
   have h2:=hr0.ext hx
   exact h2.typed (hk _ _ h2.typ (by decide)) fun b hb=>hk b _ hb (by decide)
  ·simp only [hset,if_neg e]
   have h2:=(s.row j om).ext hx
   exact h2.typed (hk _ _ h2.typ (by decide)) fun b hb=>hk b _ hb (by decide)
 ·unfold hset at e
  by_cases e1:j=i <;> by_cases e2:k=i
  ·omega
  ·rw [if_pos e1,if_neg e2] at e;exact absurd e.symm (hd k om)
  ·rw [if_neg e1,if_pos e2] at e;exact absurd e (hd j om)
  ·rw [if_neg e1,if_neg e2] at e;exact s.inj j k om om e
 ·unfold hset
  split
  ·exact hl
  ·exact s.low j om
 ·exact (s.ext.trans hx).grown hg (fun k hk=>(hoW.lt k hk).1)
theorem SqInv.stay {w0 w W w5:World} {n i:Nat} {v u:Value} {h h':Nat→Nat} {m m':Nat→Nat→Int} {i':Nat} (s:SqInv w0 w n i v h m) (hx:Ext w W) (s2:SqInv w0 w n i' u h' m') (hg:W.grownBy w5 u.ownBlock) (hne:v.ownBlock=none∨v.ownBlock≠u.ownBlock):SqInv w0 w5 n i v h m:=by
 have hoW:=zAh s2.own hx
 have hk:∀ b t,TB W t b→t≠41→w5.heap[b]? = W.heap[b]?:=fun b t hb ht=>zAR hoW hg hb ht
 refine ⟨(zAh s.own hx).kept hg hne,fun j hj=>?_,s.inj,s.low,(s.ext.trans hx).grown hg (fun k hk=>(hoW.lt k hk).1)⟩
 have h2:=(s.row j hj).ext hx
 exact h2.typed (hk _ _ h2.typ (by decide)) fun b hb=>hk b _ hb (by decide)
theorem SqInv.setB {w0 w:World} {n i p o:Nat} {v:Value} {h:Nat→Nat} {m:Nat→Nat→Int} (s:SqInv w0 w n i v h m) {t:TypeId} (hp:TB w t p) (h1:t≠41) (h2:t≠49) (h3:t≠133) (hl:w0.heap.size≤p) (x:Value):SqInv w0 (w.setCell ⟨p,o,none⟩ x) n i v h m:=by
 have hg:w.grownBy (w.setCell ⟨p,o,none⟩ x) (some p):=⟨rfl,rfl,rfl,by simp [World.setCell],fun k hk hne=>heap_setCell_other w ⟨p,o,none⟩ k x (fun e=>hne (by rw [e]))⟩
 refine ⟨s.own.kept hg ?_,fun j hj=>?_,s.inj,s.low,s.ext.setCell (p:=⟨p,o,none⟩) hl _⟩
 ·rcases s.own.2 with ⟨rfl,_⟩|⟨g,cap,cur,rfl,_,hh,_⟩
  ·exact .inl rfl
  ·refine .inr fun e=>?_
   simp only [Value.ownBlock] at e
   injection e with e
   exact (show TB w 41 g from ⟨_,_,hh⟩).ne hp (Ne.symm h1) e
 ·exact (s.row j hj).typed (heap_setCell_other w ⟨p,o,none⟩ _ x ((s.row j hj).typ.ne hp (Ne.symm h2))) fun b hb=>heap_setCell_other w ⟨p,o,none⟩ b x (hb.ne hp (Ne.symm h3))
theorem NewSt.next {w ws W1 w5 W2 w6:World} {n i p:Nat} {vA vU vA' vU':Value} {hA hU:Nat→Nat} {e:Nat→Nat→Int} {hr hu:Nat} (s:NewSt w ws n i p vA vU hA hU e)
  (hr0:MRow ws hr n (e i)) (hu0:MRow ws hu n (unitM i)) (hlr:w.heap.size≤hr) (hlu:w.heap.size≤hu) (hne:hr≠hu) (hdA:∀ j,j < i→hA j≠hr∧hA j≠hu∧hU j≠hr∧hU j≠hu)
  (hx1:Ext ws W1) (o1:w5.ownsRow w.heap.size 41 1 vA' (i+1) ((List.range i).map (fun j=>Value.slice (some ⟨hA j,0,none⟩) n n) ++ [.slice (some ⟨hr,0,none⟩) n n])) (g1:W1.grownBy w5 vA.ownBlock) (a1:vA'.ownBlock=vA.ownBlock∨vA'.ownBlock=some W1.heap.size)
  (hx2:Ext w5 W2) (o2:w6.ownsRow w.heap.size 41 1 vU' (i+1) ((List.range i).map (fun j=>Value.slice (some ⟨hU j,0,none⟩) n n) ++ [.slice (some ⟨hu,0,none⟩) n n])) (g2:W2.grownBy w6 vU.ownBlock) (a2:vU'.ownBlock=vU.ownBlock∨vU'.ownBlock=some W2.heap.size) :
  NewSt w ((w6.setCell ⟨p,0,none⟩ vA').setCell ⟨p,1,none⟩ vU') n (i+1) p vA' vU' (hset hA i hr) (hset hU i hu) e:=by
 have oA:=zAh s.A.own hx1
 have hnUA:vU.ownBlock=none∨vU.ownBlock≠vA.ownBlock:=by
  rcases h:vA.ownBlock with _|g
  ·rcases h2:vU.ownBlock with _|g2
   ·exact .inl rfl
   ·exact .inr (by simp)
  ·exact .inr (s.own g h)
 have sA5:=s.A.grow hx1 hr0 hlr (fun j hj=>(hdA j hj).1) o1 g1
 have sU5:=s.U.stay hx1 s.A g1 hnUA
 have hk1:∀ b t,TB W1 t b→t≠41→w5.heap[b]? = W1.heap[b]?:=fun b t hb ht=>zAR oA g1 hb ht
 have hu5:MRow w5 hu n (unitM i):=by
  have h2:=hu0.ext hx1
  exact h2.typed (hk1 _ _ h2.typ (by decide)) fun b hb=>hk1 b _ hb (by decide)
 have hsz:ws.heap.size≤W1.heap.size:=hx1.size
 have hsz1:W1.heap.size≤w5.heap.size:=g1.size
 have hsz2:w5.heap.size≤W2.heap.size:=hx2.size
 have hAl:∀ g,vA.ownBlock=some g→g < ws.heap.size:=fun g hg=>(s.A.own.lt g hg).2
 have hUl:∀ g,vU.ownBlock=some g→g < ws.heap.size:=fun g hg=>(s.U.own.lt g hg).2
 have hA'l:∀ g,vA'.ownBlock=some g→g < w5.heap.size:=fun g hg=>(o1.lt g hg).2
 have hnA'U:∀ g,vA'.ownBlock=some g→vU.ownBlock≠some g:=by
  intro g hg e
  rcases a1 with a|a
  ·exact s.own g (a ▸ hg) e
  ·rw [hg] at a;injection a with a;have:=hUl g e;omega
 have hnA'U2:vA'.ownBlock=none∨vA'.ownBlock≠vU.ownBlock:=by
  rcases h:vA'.ownBlock with _|g
  ·exact .inl rfl
  ·exact .inr (fun e=>hnA'U g h e.symm)
 have sU6:=sU5.grow hx2 hu5 hlu (fun j hj=>(hdA j hj).2.2.2) o2 g2
 have sA6:=sA5.stay hx2 sU5 g2 hnA'U2
 have oU5:=zAh sU5.own hx2
 have hk2:∀ b t,TB W2 t b→t≠41→w6.heap[b]? = W2.heap[b]?:=fun b t hb ht=>zAR oU5 g2 hb ht
 have hbox6:Blk w6 p 239 #[vA,vU,.slice none 0 0,.slice none 0 0]:=by
  have b1:=s.box.ext hx1
  have b5:Blk w5 p 239 #[vA,vU,.slice none 0 0,.slice none 0 0]:=(hk1 _ _ b1.typ (by decide)).trans b1
  have b2:=b5.ext hx2
  exact (hk2 _ _ b2.typ (by decide)).trans b2
 have hb7:Blk (w6.setCell ⟨p,0,none⟩ vA') p 239 #[vA',vU,.slice none 0 0,.slice none 0 0]:=hbox6.set 0 _
 refine ⟨(sA6.setB hbox6.typ (by decide) (by decide) (by decide) s.lowp _).setB hb7.typ (by decide) (by decide) (by decide) s.lowp _,(sU6.setB hbox6.typ (by decide) (by decide) (by decide) s.lowp _).setB hb7.typ (by decide) (by decide) (by decide) s.lowp _,hb7.set 1 _,s.lowp,fun j k hj hk=>?_,fun g hg e=>?_⟩
 ·unfold hset
  by_cases e1:j=i <;> by_cases e2:k=i
  ·rw [if_pos e1,if_pos e2];exact hne
  ·rw [if_pos e1,if_neg e2];exact Ne.symm (hdA k om).2.2.1
  ·rw [if_neg e1,if_pos e2];exact (hdA j om).2.1
  ·rw [if_neg e1,if_neg e2];exact s.ne j k om om
 ·rcases a2 with a|a
  ·exact hnA'U g hg (a ▸ e)
  ·rw [e] at a;injection a with a;have:=hA'l g hg;omega
theorem zA9 {w w':World} {x:Value} {t:TypeId} (hx:Ext (w.alloc (.cells #[x] t)) w'):∀ j u,[x][j]? = some u→w'.cell? ((⟨w.heap.size,0,none⟩:Addr).add j)=some u:=by
 intro j u hj
 match j,hj with
 | 0,hj =>
  have:=cell_one_new w x t 0 u hj
  simp only [Addr.add] at this ⊢
  exact hx.cell this
theorem zAx {P:Program} {o:Oper} {a:Act} {K:Act→World→Prop} {Q:Exit→Act→World→Prop} (s x:Operand) (t:TypeId) (ho:o.op = .call { callee:=.builtin .append,args:=#[s,x],argTypes:=#[t,t] }) (v d:Value) (hs:a.eval s=v) (hx:a.eval x=d)
  {v':Value} {w w':World} (hr:(Builtin.append_ #[t,t] o.type #[v,d]).run P w = .ok v' w') (h:K (a.put o.dst v') w'):o.wp P a w K Q:=by
 unfold Oper.wp execOp
 simp only [ho,resolve,invoke,builtin,Sem.run_bind,Sem.run_pure,Result.andThen_ok,List.map_toArray,List.map_cons,List.map_nil,hs,hx,hr]
 exact h
theorem zBy {w:World} {base:Nat} {t:TypeId} {size:Nat} {v:Value} {n:Nat} {xs:List Value} (h:w.ownsRow base t size v (n+1) xs):∃ g cap,v = .slice (some ⟨g,0,none⟩) (n+1) cap:=by
 rcases h.2 with ⟨_,h0⟩|⟨g,cap,cur,h1,_⟩
 ·omega
 ·exact ⟨g,cap,h1⟩
theorem zB1 {w W1 w5:World} {x:Value} {t:TypeId} {row:Option Nat} (hx:Ext (w.alloc (.cells #[x] t)) W1) (hg:W1.grownBy w5 row) (hne:∀ r,row=some r→r < w.heap.size):∀ j u,[x][j]? = some u→w5.cell? ((⟨w.heap.size,0,none⟩:Addr).add j)=some u:=by
 intro j u hj
 have hlt:w.heap.size < W1.heap.size:=by have:=hx.size;simp only [World.size_alloc] at this;omega
 have hb:=hg.block w.heap.size hlt (by intro e;have:=hne _ e.symm;omega)
 match j,hj with
 | 0,hj =>
  have h1:=zA9 hx 0 u hj
  simp only [Addr.add] at h1 ⊢
  exact (zBB hb 0).trans h1
theorem make_slots (m:Int) (n:Nat) (h:m=n) (hn:n≤100000) (w:World) :
  ∃ cs,(Instr.makeSlice 79 (.int .i64 m) (.int .i64 m)).run Tryz.prog w = .ok (.slice (some ⟨w.heap.size,0,none⟩) n n) (w.alloc (.cells cs 41))∧TB (w.alloc (.cells cs 41)) 41 w.heap.size ∧
   (∀ i,i < n→(w.alloc (.cells cs 41)).cell? ⟨w.heap.size,i,none⟩=some (.slice none 0 0))∧∀ i,(w.alloc (.cells cs 41)).frozen? ⟨w.heap.size,i,none⟩=false:=by
 subst h
 obtain ⟨i0,hi,hz0,hz1,hz2⟩:=info_parts Tryz.infoZs
 have hr:=run_make (P:=Tryz.prog) w 79 41 i0 _ Tryz.underlying79 hi hz0 .i64 .i64 n n om om (by rw [hz2];omega) om
 simp only [Int.toNat_natCast] at hr
 have hcells:∀ o,o < n→(madeCells (Value.slice none 0 0).cells (n*i0.size))[o]? = some (.slice none 0 0):=by
  intro o ho
  rw [hz1]
  unfold madeCells
  rw [Array.getElem?_map,Array.getElem?_range,if_pos om]
  simp [Value.cells]
  have:=Nat.mod_one o
  simp [this]
 have hh:=fun cs=>zA7 w (.cells cs 41)
 refine ⟨_,hr,⟨_,_,hh _⟩,fun i hi=>?_,fun i=>by simp only [World.frozen?,hh];rfl⟩
 rw [cell_of_row _ _ _ _ _ _ (hh _),hcells i hi]
def newC (n:Nat) (e:Nat→Nat→Int):Nat→Nat→Int:=fun s j=>if s < n then e s j else if s < 2*n then unitM (s - n) j else 0
theorem NewSt.lat {w wr W:World} {n p gA gU gL bD cA cU:Nat} {hA hU:Nat→Nat} {e:Nat→Nat→Int} (s:NewSt w wr n n p (.slice (some ⟨gA,0,none⟩) n cA) (.slice (some ⟨gU,0,none⟩) n cU) hA hU e) (hx:ExtBut (fun x=>x=p) wr W)
  (hbox:Blk W p 239 #[.slice (some ⟨gA,0,none⟩) n cA,.slice (some ⟨gU,0,none⟩) n cU,.slice (some ⟨bD,0,none⟩) (n+1) (n+1),.slice (some ⟨gL,0,none⟩) n n])
  (hD:MRow W bD (n+1) (fun _=>0)) (hDl:wr.heap.size≤bD) (hLl:wr.heap.size≤gL) (tL:TB W 41 gL) (cL:∀ i,i < n→W.cell? ⟨gL,i,none⟩=some (.slice none 0 0)) (fL:∀ i,W.frozen? ⟨gL,i,none⟩=false) (hn1:1≤n) :
  IsLat W w.heap.size p n 0 gA gU gL cA cU (fun s=>if s < n then hA s else if s < 2*n then hU (s - n) else bD) (newC n e):=by
 have hne:n≠0:=by omega
 have kB:∀ b t,TB wr t b→t≠239→W.heap[b]? = wr.heap[b]?:=fun b t hb ht=>hx.block b hb.lt (hb.ne s.box.typ ht)
 have tA:TB wr 41 gA:=by
  rcases s.A.own.2 with ⟨h0,_⟩|⟨g,cap,cur,h1,_,hh,_⟩
  ·cases h0
  ·injection h1 with h1;injection h1 with h1;injection h1 with h1;subst h1;exact ⟨_,_,hh⟩
 have tU:TB wr 41 gU:=by
  rcases s.U.own.2 with ⟨h0,_⟩|⟨g,cap,cur,h1,_,hh,_⟩
  ·cases h0
  ·injection h1 with h1;injection h1 with h1;injection h1 with h1;subst h1;exact ⟨_,_,hh⟩
 have fr:∀ g,TB wr 41 g→(∃ cur,wr.heap[g]? = some (.cells cur 41 (0,0)))→∀ i,W.frozen? ⟨g,i,none⟩=false:=by
  intro g tg ⟨cur,hh⟩ i
  have h2:=(kB g _ tg (by decide)).trans hh
  simp only [World.frozen?,h2];rfl
 have hAown:∃ cur,wr.heap[gA]? = some (.cells cur 41 (0,0)):=by
  rcases s.A.own.2 with ⟨h0,_⟩|⟨g,cap,cur,h1,_,hh,_⟩
  ·cases h0
  ·injection h1 with h1;injection h1 with h1;injection h1 with h1;subst h1;exact ⟨cur,hh⟩
 have hUown:∃ cur,wr.heap[gU]? = some (.cells cur 41 (0,0)):=by
  rcases s.U.own.2 with ⟨h0,_⟩|⟨g,cap,cur,h1,_,hh,_⟩
  ·cases h0
  ·injection h1 with h1;injection h1 with h1;injection h1 with h1;subst h1;exact ⟨cur,hh⟩
 have hgA:=(s.A.own.lt gA rfl).1
 have hgU:=(s.U.own.lt gU rfl).1
 have hAU:gA≠gU:=fun e=>s.own gA rfl (by rw [e];rfl)
 have hAlt:=tA.lt
 have hUlt:=tU.lt
 have rA:∀ i,i < n→hA i < wr.heap.size:=fun i hi=>(s.A.row i hi).lt
 have rU:∀ i,i < n→hU i < wr.heap.size:=fun i hi=>(s.U.row i hi).lt
 have hw:=s.A.ext.size
 have hb2:(if 2*n < n then hA (2*n) else if 2*n < 2*n then hU (2*n - n) else bD)=bD:=by rw [if_neg om,if_neg om]
 refine ⟨?_,⟨fun t ht=>?_,fun t u ht hu e1=>?_,fun t ht=>?_⟩,tA.of_eq (kB _ _ tA (by decide)),tU.of_eq (kB _ _ tU (by decide)),tL,hAU,by omega,by omega,fun i hi=>?_,fun i hi=>?_,fun i hi=>by omega,fun i h1 h2=>⟨_,_,_,cL i h2⟩,fr _ tA hAown,fr _ tU hUown,fL,s.lowp,hgA,hgU,by omega⟩
 ·rw [hb2];exact hbox
 ·have ht2:t < 2*n+1:=by rcases ht with h|h <;> omega
  show MRow W (if t < n then hA t else if t < 2*n then hU (t - n) else bD) (latLn n t) (newC n e t)
  by_cases e1:t < n
  ·rw [if_pos e1,show latLn n t=n by unfold latLn;rw [if_pos om]]
   have h2:=s.A.row t e1
   refine (h2.typed (kB _ _ h2.typ (by decide)) fun b hb=>kB b _ hb (by decide)).congr fun j hj=>?_
   unfold newC;rw [if_pos e1]
  ·rw [if_neg e1]
   by_cases e2:t < 2*n
   ·rw [if_pos e2,show latLn n t=n by unfold latLn;rw [if_pos om]]
    have h2:=s.U.row (t - n) om
    refine (h2.typed (kB _ _ h2.typ (by decide)) fun b hb=>kB b _ hb (by decide)).congr fun j hj=>?_
    unfold newC;rw [if_neg e1,if_pos e2]
   ·rw [if_neg e2,show latLn n t=n+1 by unfold latLn;rw [if_neg om,if_pos om]]
    exact hD.congr fun j hj=>by unfold newC;rw [if_neg e1,if_neg e2]
 ·have ht2:t < 2*n+1:=by rcases ht with h|h <;> omega
  have hu2:u < 2*n+1:=by rcases hu with h|h <;> omega
  by_cases a1:t < n <;> by_cases a2:u < n
  ·rw [if_pos a1,if_pos a2] at e1;exact s.A.inj t u a1 a2 e1
  ·rw [if_pos a1,if_neg a2] at e1
   by_cases a3:u < 2*n
   ·rw [if_pos a3] at e1;exact absurd e1 (s.ne t (u - n) a1 om)
   ·rw [if_neg a3] at e1;have:=rA t a1;omega
  ·rw [if_neg a1,if_pos a2] at e1
   by_cases a3:t < 2*n
   ·rw [if_pos a3] at e1;exact absurd e1.symm (s.ne u (t - n) a2 om)
   ·rw [if_neg a3] at e1;have:=rA u a2;omega
  ·rw [if_neg a1,if_neg a2] at e1
   by_cases a3:t < 2*n <;> by_cases a4:u < 2*n
   ·rw [if_pos a3,if_pos a4] at e1;have:=s.U.inj (t - n) (u - n) om om e1;omega
   ·rw [if_pos a3,if_neg a4] at e1;have:=rU (t - n) om;omega
   ·rw [if_neg a3,if_pos a4] at e1;have:=rU (u - n) om;omega
   ·omega
 ·have ht2:t < 2*n+1:=by rcases ht with h|h <;> omega
  by_cases e1:t < n
  ·rw [if_pos e1];exact s.A.low t e1
  ·rw [if_neg e1]
   by_cases e2:t < 2*n
   ·rw [if_pos e2];exact s.U.low (t - n) om
   ·rw [if_neg e2];omega
 ·have h1:=s.A.own.cells (g:=gA) rfl i (.slice (some ⟨hA i,0,none⟩) n n) (by simp [hi])
  have h2:wr.cell? ⟨gA,i,none⟩=some (.slice (some ⟨hA i,0,none⟩) n n):=by
   rw [← h1];unfold Addr.add;split
   ·subst_vars;rfl
   ·simp
  rw [if_pos hi]
  rw [← h2];simp only [World.cell?,kB gA _ tA (by decide)]
 ·have h1:=s.U.own.cells (g:=gU) rfl i (.slice (some ⟨hU i,0,none⟩) n n) (by simp [hi])
  have h2:wr.cell? ⟨gU,i,none⟩=some (.slice (some ⟨hU i,0,none⟩) n n):=by
   rw [← h1];unfold Addr.add;split
   ·subst_vars;rfl
   ·simp
  rw [if_neg om,if_pos om,show n+i - n=i by omega]
  rw [← h2];simp only [World.cell?,kB gU _ tU (by decide)]
end Go.Proofs.YtdkgilioejdmeaaGreat
namespace Go.Proofs.YtdkgilioejdmeaaGreat
set_option exponentiation.threshold 5000
theorem zCp {rows:List (List Int)} (hc:chk rows=0):1≤rows.length∧rows.length≤8∧(∀ l∈rows,l.length=rows.length)∧eachB smallP rows=true∧eachB (mirrorB rows) rows=true∧posB rows.length (entry rows)=true:=by
 unfold chk at hc
 by_cases h1:rows.length < 1∨8 < rows.length
 ·rw [if_pos h1] at hc;cases hc
 rw [if_neg h1] at hc
 by_cases h2:∃ l∈rows,l.length≠rows.length
 ·rw [if_pos h2] at hc;cases hc
 rw [if_neg h2] at hc
 by_cases h3:eachB smallP rows=false
 ·rw [if_pos h3] at hc;cases hc
 rw [if_neg h3] at hc
 by_cases h4:eachB (mirrorB rows) rows=false
 ·rw [if_pos h4] at hc;cases hc
 rw [if_neg h4] at hc
 by_cases h5:posB rows.length (entry rows)=false
 ·rw [if_pos h5] at hc;cases hc
 refine ⟨by omega,by omega,fun l hl=>Classical.byContradiction fun h=>h2 ⟨l,hl,h⟩,by simpa using h3,by simpa using h4,by simpa using h5⟩
theorem entry_some {rows:List (List Int)} {n i j:Nat} (hn:rows.length=n) (hsq:∀ l∈rows,l.length=n) (hi:i < n) (hj:j < n):∃ l,rows[i]? = some l∧l[j]? = some (entry rows i j):=by
 obtain ⟨l,hl⟩:∃ l,rows[i]? = some l:=⟨_,List.getElem?_eq_getElem om⟩
 have hll:l.length=n:=by obtain ⟨h1,rfl⟩:=List.getElem?_eq_some_iff.1 hl;exact hsq _ (List.getElem_mem h1)
 obtain ⟨z,hz⟩:∃ z,l[j]? = some z:=⟨_,List.getElem?_eq_getElem om⟩
 refine ⟨l,hl,?_⟩
 rw [hz];unfold entry;rw [hl,Option.getD_some,hz,Option.getD_some]
theorem zC2 {rows:List (List Int)} (hc:chk rows=0):Start rows.length (entry rows):=by
 obtain ⟨h1,h8,hsq,hs,hm,hp⟩:=zCp hc
 have hsm:∀ i j,i < rows.length→j < rows.length→(entry rows i j).natAbs≤16384:=fun i j hi hj=>by
  obtain ⟨l,hl,hz⟩:=entry_some rfl hsq hi hj
  have:=zAw.1 hs i l hl j _ hz
  simp only [smallP,smallB,decide_eq_true_eq,Bool.and_eq_true] at this
  omega
 refine ⟨⟨fun i j hi hj=>?_,fun k hk=>?_⟩,hsm,h8⟩
 ·obtain ⟨l,hl,hz⟩:=entry_some rfl hsq hi hj
  have:=zAw.1 hm i l hl j _ hz
  unfold mirrorB at this
  simp only [beq_iff_eq] at this
  exact this
 ·exact (posB_det (n:=rows.length) (A:=entry rows) hsm h8).1 hp k hk
theorem bf_unit {n:Nat} (a:Nat→Nat→Int) {i j:Nat} (hi:i < n) (hj:j < n):bf n a (unitM i) (unitM j)=a i j:=by
 unfold bf
 rw [zBL hi (fun r hr hne=>by unfold unitM;rw [if_neg hne,Int.zero_mul])]
 rw [zBL hj (fun c hc hne=>by unfold unitM;rw [if_neg hne,Int.mul_zero])]
 unfold unitM;rw [if_pos rfl,if_pos rfl];omega
theorem start_grow {n:Nat} {a0:Nat→Nat→Int} (hS:Start n a0):Grow n a0:=by
 intro r hr
 have h1:=hS.pd.left hr r om
 rw [zAX] at h1
 have h2:=hS.small r r hr hr
 have h3:=Int.mul_le_mul_of_nonneg_left (show a0 r r≤16384 by omega) (Int.le_of_lt (hS.pd.pos (k:=r) om))
 have e:det r a0*16384=16384*det r a0:=Int.mul_comm _ _
 omega
theorem nm_small {n:Nat} {a:Nat→Nat→Int} {i:Nat} (h:(a i i).natAbs≤16384):Nm a i 7:=by
 unfold Nm
 have:((2 ^ 7*2 ^ 7:Nat):Int)=16384:=rfl
 omega
theorem start_red {n:Nat} {a0:Nat→Nat→Int} (hS:Start n a0):Red n a0 a0 unitM unitM (partsP n (newC n a0) 0 n):=by
 have hg:=start_grow hS
 have hft:=Fits.of hS.pd hg hS.dim (fun i hi=>(nm_small (n:=n) (hS.small i i hi hi)).mono om)
 have hsp:=zDF (fr:=0) (ct:=newC n a0) hS.pd hft (fun i j hi hj=>by unfold newC;rw [if_pos hi]) (fun i h1 h2=>by omega) (fun i j hi hj=>by omega) n om
 rw [Nat.zero_add] at hsp
 refine ⟨⟨hsp.1,fun i j hi hj=>(hsp.2 _ _ om).trans ?_⟩,hS.pd,hg,fun i j hi hj=>(bf_unit a0 hi hj).symm,fun i j hi hj=>?_⟩
 ·unfold newC;rw [if_neg om,if_pos om,show n+i - n=i by omega]
 ·rw [zBL (k:=i) hi (fun k hk hne=>by unfold unitM;rw [if_neg hne,Int.zero_mul])]
  unfold unitM
  rw [if_pos rfl,Int.one_mul]
  by_cases e:i=j
  ·rw [if_pos e,if_pos e.symm]
  ·rw [if_neg e,if_neg (Ne.symm e)]
theorem red_ex {n:Nat} {a0:Nat→Nat→Int} (hS:Start n a0) (hn1:1≤n):∃ fuel ct' a u v,redP n fuel 1 (partsP n (newC n a0) 0 n)=some ct'∧Red n a0 a u v ct'∧∀ r,r < n→SRf a r 0:=by
 have hi:∀ r,r < n→Nm a0 r 8:=fun r hr=>(nm_small (n:=n) (hS.small r r hr hr)).mono om
 obtain ⟨a,u,v,ct',h1,h2,h3⟩:=redP_ok hS ((2*Spot n a0+n).toNat+1) 1 a0 unitM unitM _ (Nat.le_refl _) hn1 ⟨start_red hS,fun r hr j _ hj=>by omega,fun r _ hr=>hi r hr,fun h=>(hi 1 h).mono om⟩ om
 exact ⟨_,ct',a,u,v,h1,h2,h3⟩
structure InBasis (n:Nat) (a0 f U V:Nat→Nat→Int):Prop where
 start:Start n f
 gram:∀ i j,i < n→j < n→f i j=bf n a0 (U i) (U j)
 inv:∀ i j,i < n→j < n→sm n (fun k=>V i k*U k j)=if i=j then 1 else 0
 fit:∀ i j,i < n→j < n → -9223372036854775808≤U i j∧U i j≤9223372036854775807
theorem zBm {n:Nat} (hn:n≤8):fct (n - 1)*16384 ^ (n - 1)≤2 ^ 111:=by
 have h:∀ m,m≤7→fct m*16384 ^ m≤2 ^ 111:=by
  intro m hm
  match m,hm with
  | 0,_=>decide
  | 1,_=>decide
  | 2,_=>decide
  | 3,_=>decide
  | 4,_=>decide
  | 5,_=>decide
  | 6,_=>decide
  | 7,_=>decide
 exact h _ om
theorem abs_lt_63 {x:Int} (h:x*x≤(2 ^ 125:Nat)):-9223372036854775808≤x∧x≤9223372036854775807:=by
 have e:x*x=((x.natAbs*x.natAbs:Nat):Int):=(Int.natAbs_mul_self).symm
 rw [e] at h
 have h2:=Int.ofNat_le.1 h
 have h3:x.natAbs < 9223372036854775808:=by
  rcases Nat.lt_or_ge x.natAbs 9223372036854775808 with h4|h4
  ·exact h4
  ·have h5:=Nat.mul_le_mul h4 h4
   have e2:(2:Nat) ^ 125=42535295865117307932921825928971026432:=by decide
   omega
 omega
theorem in_fit {n:Nat} {a0:Nat→Nat→Int} {x:Nat→Int} {t:Nat} (hS:Start n a0) (ht:t < n) (hx:qf n a0 x≤16384):-9223372036854775808≤x t∧x t≤9223372036854775807:=by
 refine abs_lt_63 ?_
 refine Int.le_trans (hS.pd.coord hS.small x ht) ?_
 have h2:((fct (n - 1)*16384 ^ (n - 1):Nat):Int)≤((2 ^ 111:Nat):Int):=Int.ofNat_le.2 (zBm hS.dim)
 refine Int.le_trans (zDE hx h2 (hS.pd.qf_nonneg x) (Int.natCast_nonneg _)) ?_
 rw [show (16384:Int)=((2 ^ 14:Nat):Int) from rfl,← Int.natCast_mul]
 exact Int.ofNat_le.2 (Nat.le_of_eq (by rw [← Nat.pow_add]))
end Go.Proofs.YtdkgilioejdmeaaGreat
namespace Go.Proofs.YtdkgilioejdmeaaGreat
set_option exponentiation.threshold 5000
open Go.RowKit
theorem ent_at {A:Option Addr} {n:Nat} {rows:List (List Int)} {w:World} (hn:n=rows.length) (hr:IsRows w A rows) (hf:Fit64 rows) (hsq:∀ l∈rows,l.length=n) (i j:Nat) (W:World) (hi:i < n) (hj:j < n) (hX:Ext w W) :
  ∃ b off R c' b2 off2,A=some ⟨b,off,none⟩∧R=some ⟨b2,off2,none⟩∧W.cell? ⟨b,off+i,none⟩=some (.slice R n c')∧n≤c'∧W.cell? ⟨b2,off2+j,none⟩=some (.int .i64 (entry rows i j)) ∧ -9223372036854775808≤entry rows i j∧entry rows i j≤9223372036854775807:=by
 obtain ⟨l,hl⟩:∃ l,rows[i]? = some l:=⟨_,List.getElem?_eq_getElem om⟩
 have hll:l.length=n:=by obtain ⟨h1,rfl⟩:=List.getElem?_eq_some_iff.1 hl;exact hsq _ (List.getElem_mem h1)
 obtain ⟨z,hz⟩:∃ z,l[j]? = some z:=⟨_,List.getElem?_eq_getElem om⟩
 obtain ⟨z0,z1⟩:=hf.at_ hl hz
 have HE:entry rows i j=z:=by unfold entry;rw [hl,Option.getD_some,hz,Option.getD_some]
 obtain ⟨b,off,R,c',e1,hb,h1,h2,h3⟩:=(hr.ext hX).at_ hl
 obtain ⟨b2,off2,e2,hb2,h4⟩:=h3.at_ hz
 rw [hll] at h1 h2
 rw [HE]
 exact ⟨b,off,R,c',b2,off2,e1,e2,h1,h2,h4,z0,z1⟩
structure QB (w:World) (b:Nat) (p:Int) (q:Nat):Prop where
 box:∃ neg A k B m,Blk w b 144 #[.bool neg,.slice A k k,.slice B m m]∧IsQ w neg A k B m p q
theorem QB.ext {w w':World} {b:Nat} {p:Int} {q:Nat} (h:QB w b p q) (hx:Ext w w'):QB w' b p q:=by
 obtain ⟨neg,A,k,B,m,h1,h2⟩:=h.box
 exact ⟨neg,A,k,B,m,h1.ext hx,h2.ext hx⟩
theorem QB.mk2 {w:World} {b:Nat} {p:Int} {q:Nat} {neg:Bool} {A B:Option Addr} {k m:Nat} (h1:Blk w b 144 #[.bool neg,.slice A k k,.slice B m m]) (h2:IsQ w neg A k B m p q):QB w b p q:=⟨neg,A,k,B,m,h1,h2⟩
theorem QB.conv {w:World} {b:Nat} {p p2:Int} {q q2:Nat} (h:QB w b p q) (hq:0 < q2) (e:p*(q2:Int)=p2*q):QB w b p2 q2:=by
 obtain ⟨neg,A,k,B,m,h1,h2⟩:=h.box
 exact ⟨neg,A,k,B,m,h1,h2.conv hq e⟩
theorem QB.new {w:World} {neg:Bool} {A B:Option Addr} {k m:Nat} {p:Int} {q:Nat} (h:IsQ w neg A k B m p q):QB (w.alloc (.cells #[.bool neg,.slice A k k,.slice B m m] 144)) w.heap.size p q:=⟨neg,A,k,B,m,Blk.new _ _ _,h.ext ((Ext.refl w).alloc _)⟩
theorem QB.typ {w:World} {b:Nat} {p:Int} {q:Nat} (h:QB w b p q):TB w 144 b:=by
 obtain ⟨neg,A,k,B,m,h1,h2⟩:=h.box;exact h1.typ
theorem QB.farQ {w:World} {b c o:Nat} {p:Int} {q:Nat} (h:QB w b p q) (hc:TB w 144 c) (hne:b≠c) {n2:Bool} {A2 B2:Option Addr} {k2 m2:Nat}:QB (setQ w c o n2 A2 k2 B2 m2) b p q:=by
 obtain ⟨neg,A,k,B,m,h1,h2⟩:=h.box
 exact ⟨neg,A,k,B,m,by unfold setQ;exact ((h1.far hne _ _).far hne _ _).far hne _ _,h2.setQ hc (by decide)⟩
theorem QB.setQ {w:World} {b:Nat} {p p2:Int} {q q2:Nat} (h:QB w b p q) {n2:Bool} {A2 B2:Option Addr} {k2 m2:Nat} (hz:IsQ w n2 A2 k2 B2 m2 p2 q2):QB (Go.Proofs.YtdkgilioejdmeaaGreat.setQ w b 0 n2 A2 k2 B2 m2) b p2 q2:=by
 obtain ⟨neg,A,k,B,m,h1,h2⟩:=h.box
 exact ⟨n2,A2,k2,B2,m2,by unfold Go.Proofs.YtdkgilioejdmeaaGreat.setQ;exact ((h1.set 0 _).set 1 _).set 2 _,hz.setQ h1.typ (by decide)⟩
theorem IsQ.setN {w:World} {neg:Bool} {A B:Option Addr} {k m:Nat} {p:Int} {q:Nat} {c i:Nat} {v:Value} (hc:NB w c) (h:IsQ w neg A k B m p q):IsQ (w.setCell ⟨c,i,none⟩ v) neg A k B m p q:=by obtain ⟨t,h1,ht⟩:=hc.typ;exact h.setB h1 ht i v
theorem QRow.farQ {w:World} {h n c o:Nat} {P:Nat→Int} {Q:Nat→Nat} (r:QRow w h n P Q) (hc:TB w 144 c) (hne:h≠c) {n2:Bool} {A2 B2:Option Addr} {k2 m2:Nat}:QRow (setQ w c o n2 A2 k2 B2 m2) h n P Q :=
 r.but (setQ_but _ _ _ _ _ _ _ _) hne hc (by decide)
theorem MatQ.ext {w w':World} {lo g n:Nat} {h:Nat→Nat} {P:Nat→Nat→Int} {Q:Nat→Nat→Nat} (M:MatQ w lo g n h P Q) (hx:Ext w w'):MatQ w' lo g n h P Q :=
 ⟨fun i hi=>hx.cell (M.rows i hi),fun i hi=>(M.row i hi).ext hx,M.inj,M.low,M.glow,M.typ.of_eq (Below.block hx g M.typ.lt)⟩
theorem MatQ.congr {w:World} {lo g n:Nat} {h:Nat→Nat} {P P':Nat→Nat→Int} {Q Q':Nat→Nat→Nat} (M:MatQ w lo g n h P Q) (e:∀ i j,i < n→j < n→P i j=P' i j∧Q i j=Q' i j):MatQ w lo g n h P' Q' :=
 ⟨M.rows,fun i hi=>(M.row i hi).congr fun j hj=>e i j hi hj,M.inj,M.low,M.glow,M.typ⟩
theorem MatQ.ne {w:World} {lo g n:Nat} {h:Nat→Nat} {P:Nat→Nat→Int} {Q:Nat→Nat→Nat} (M:MatQ w lo g n h P Q) {i:Nat} (hi:i < n):h i≠g:=(M.row i hi).typ.ne M.typ (by decide)
theorem MatQ.farQ {w:World} {lo g n c o:Nat} {h:Nat→Nat} {P:Nat→Nat→Int} {Q:Nat→Nat→Nat} (M:MatQ w lo g n h P Q) (hc:TB w 144 c) (hne:∀ i,i < n→h i≠c) {n2:Bool} {A2 B2:Option Addr} {k2 m2:Nat}:MatQ (setQ w c o n2 A2 k2 B2 m2) lo g n h P Q :=
 ⟨fun i hi=>by rw [zBY (fun e=>absurd e.symm (hc.ne M.typ (by decide)))];exact M.rows i hi,fun i hi=>(M.row i hi).farQ hc (hne i hi),M.inj,M.low,M.glow,setQ_typ M.typ⟩
theorem MatQ.set_ {w:World} {lo g n:Nat} {h:Nat→Nat} {P:Nat→Nat→Int} {Q:Nat→Nat→Nat} (M:MatQ w lo g n h P Q) {i j:Nat} (hi:i < n) (hj:j < n) {neg:Bool} {A B:Option Addr} {k m:Nat} {p:Int} {q:Nat} (hz:IsQ w neg A k B m p q) :
  MatQ (setQ w (h i) (j*3) neg A k B m) lo g n h (fun a b=>if a=i∧b=j then p else P a b) (fun a b=>if a=i∧b=j then q else Q a b):=by
 refine ⟨fun a ha=>?_,fun a ha=>?_,M.inj,M.low,M.glow,setQ_typ M.typ⟩
 ·rw [zBY (fun e=>absurd e.symm (M.ne hi))];exact M.rows a ha
 ·by_cases e:a=i
  ·subst e
   exact ((M.row a ha).set_ hj hz).congr fun b hb=>by by_cases e:b=j <;> simp [e]
  ·exact ((M.row a ha).farQ (M.row i hi).typ (fun e'=>e (M.inj _ _ ha hi e'))).congr fun b hb=>by simp [e]
def doneL (i j a b:Nat):Prop:=b < a∧(a < i∨a=i∧b < j)
instance (i j a b:Nat):Decidable (doneL i j a b):=by unfold doneL;exact inferInstance
def ldP (f:Nat→Nat→Int) (i j:Nat):Nat→Nat→Int:=fun a b=>if doneL i j a b then dmin f b a b else if a=b then 1 else 0
def ldQ (f:Nat→Nat→Int) (i j:Nat):Nat→Nat→Nat:=fun a b=>if doneL i j a b then (det (b+1) f).natAbs else 1
def ldD (f:Nat→Nat→Int) (i:Nat):Nat→Int:=fun a=>if a < i then det (a+1) f else 0
def ldE (f:Nat→Nat→Int) (i:Nat):Nat→Nat:=fun a=>if a < i then (det a f).natAbs else 1
theorem ld_start (f:Nat→Nat→Int) (a b:Nat):ldP f 0 0 a b=(if a=b then 1 else 0)∧ldQ f 0 0 a b=1:=by
 unfold ldP ldQ
 have h:¬ doneL 0 0 a b:=by unfold doneL;omega
 rw [if_neg h,if_neg h];exact ⟨rfl,rfl⟩
theorem ld_next (f:Nat→Nat→Int) (i a b:Nat):ldP f i (i+1) a b=ldP f (i+1) 0 a b∧ldQ f i (i+1) a b=ldQ f (i+1) 0 a b:=by
 have:doneL i (i+1) a b↔doneL (i+1) 0 a b:=by unfold doneL;omega
 unfold ldP ldQ
 by_cases h:doneL i (i+1) a b
 ·rw [if_pos h,if_pos h,if_pos (this.1 h),if_pos (this.1 h)];exact ⟨rfl,rfl⟩
 ·rw [if_neg h,if_neg h,if_neg (fun x=>h (this.2 x)),if_neg (fun x=>h (this.2 x))];exact ⟨rfl,rfl⟩
theorem ld_diag (f:Nat→Nat→Int) (i a b:Nat):ldP f i i a b=ldP f i (i+1) a b∧ldQ f i i a b=ldQ f i (i+1) a b:=by
 have:doneL i i a b↔doneL i (i+1) a b:=by unfold doneL;omega
 unfold ldP ldQ
 by_cases h:doneL i i a b
 ·rw [if_pos h,if_pos h,if_pos (this.1 h),if_pos (this.1 h)];exact ⟨rfl,rfl⟩
 ·rw [if_neg h,if_neg h,if_neg (fun x=>h (this.2 x)),if_neg (fun x=>h (this.2 x))];exact ⟨rfl,rfl⟩
theorem ld_set (f:Nat→Nat→Int) {i j:Nat} (hj:j < i) (a b:Nat) :
  (if a=i∧b=j then dmin f j i j else ldP f i j a b)=ldP f i (j+1) a b∧(if a=i∧b=j then (det (j+1) f).natAbs else ldQ f i j a b)=ldQ f i (j+1) a b:=by
 by_cases h:a=i∧b=j
 ·obtain ⟨rfl,rfl⟩:=h
  unfold ldP ldQ
  have h2:doneL a (b+1) a b:=by unfold doneL;omega
  rw [if_pos (show a=a∧b=b from ⟨rfl,rfl⟩),if_pos (show a=a∧b=b from ⟨rfl,rfl⟩),if_pos h2,if_pos h2];exact ⟨rfl,rfl⟩
 ·rw [if_neg h,if_neg h]
  have:doneL i j a b↔doneL i (j+1) a b:=by unfold doneL;omega
  unfold ldP ldQ
  by_cases h:doneL i j a b
  ·rw [if_pos h,if_pos h,if_pos (this.1 h),if_pos (this.1 h)];exact ⟨rfl,rfl⟩
  ·rw [if_neg h,if_neg h,if_neg (fun x=>h (this.2 x)),if_neg (fun x=>h (this.2 x))];exact ⟨rfl,rfl⟩
theorem ld_read (f:Nat→Nat→Int) {i j a b:Nat} (h:doneL i j a b):ldP f i j a b=dmin f b a b∧ldQ f i j a b=(det (b+1) f).natAbs:=by
 unfold ldP ldQ;rw [if_pos h,if_pos h];exact ⟨rfl,rfl⟩
theorem zBx (f:Nat→Nat→Int) {i a:Nat} (h:a < i):ldD f i a=det (a+1) f∧ldE f i a=(det a f).natAbs:=by
 unfold ldD ldE;rw [if_pos h,if_pos h];exact ⟨rfl,rfl⟩
theorem ldD_set (f:Nat→Nat→Int) (i a:Nat):(if a=i then det (i+1) f else ldD f i a)=ldD f (i+1) a∧(if a=i then (det i f).natAbs else ldE f i a)=ldE f (i+1) a:=by
 unfold ldD ldE
 by_cases h:a=i
 ·subst h;rw [if_pos rfl,if_pos rfl,if_pos om,if_pos om];exact ⟨rfl,rfl⟩
 ·rw [if_neg h,if_neg h]
  by_cases h2:a < i
  ·rw [if_pos h2,if_pos (show a < i+1 by omega),if_pos h2,if_pos (show a < i+1 by omega)];exact ⟨rfl,rfl⟩
  ·rw [if_neg h2,if_neg (show ¬ a < i+1 by omega),if_neg h2,if_neg (show ¬ a < i+1 by omega)];exact ⟨rfl,rfl⟩
structure LdInv (w0 w:World) (n g hd:Nat) (h:Nat→Nat) (f:Nat→Nat→Int) (i j k:Nat):Prop where
 mat:MatQ w w0.heap.size g n h (ldP f i j) (ldQ f i j)
 row:QRow w hd n (ldD f k) (ldE f k)
 low:w0.heap.size≤hd
 ne:∀ i,i < n→h i≠hd
 ext:Ext w0 w
theorem LdInv.up {w0 w w':World} {n g hd:Nat} {h:Nat→Nat} {f:Nat→Nat→Int} {i j k:Nat} (H:LdInv w0 w n g hd h f i j k) (hx:Ext w w'):LdInv w0 w' n g hd h f i j k :=
 ⟨H.mat.ext hx,H.row.ext hx,H.low,H.ne,H.ext.trans hx⟩
theorem LdInv.farQ {w0 w:World} {n g hd:Nat} {h:Nat→Nat} {f:Nat→Nat→Int} {i j k:Nat} (H:LdInv w0 w n g hd h f i j k) {c o:Nat} (hc:TB w 144 c) (hne:∀ i,i < n→h i≠c) (hd2:hd≠c) (hl:w0.heap.size≤c) {n2:Bool} {A2 B2:Option Addr} {k2 m2:Nat}:LdInv w0 (setQ w c o n2 A2 k2 B2 m2) n g hd h f i j k :=
 ⟨H.mat.farQ hc hne,H.row.farQ hc hd2,H.low,H.ne,zBg H.ext hl⟩
theorem LdInv.next {w0 w:World} {n g hd:Nat} {h:Nat→Nat} {f:Nat→Nat→Int} {i k:Nat} (H:LdInv w0 w n g hd h f i (i+1) k):LdInv w0 w n g hd h f (i+1) 0 k :=
 ⟨H.mat.congr fun a b _ _=>ld_next f i a b,H.row,H.low,H.ne,H.ext⟩
theorem LdInv.setD {w0 w:World} {n g hd:Nat} {h:Nat→Nat} {f:Nat→Nat→Int} {i:Nat} (H:LdInv w0 w n g hd h f i i i) (hi:i < n) {neg:Bool} {A B:Option Addr} {k m:Nat} (hz:IsQ w neg A k B m (det (i+1) f) (det i f).natAbs):LdInv w0 (setQ w hd (i*3) neg A k B m) n g hd h f i (i+1) (i+1) :=
 ⟨(H.mat.farQ H.row.typ H.ne).congr fun a b _ _=>ld_diag f i a b,(H.row.set_ hi hz).congr fun a _=>ldD_set f i a,H.low,H.ne,zBg H.ext H.low⟩
theorem LdInv.setL {w0 w:World} {n g hd:Nat} {h:Nat→Nat} {f:Nat→Nat→Int} {i j x:Nat} (H:LdInv w0 w n g hd h f i j x) (hi:i < n) (hj:j < i) {neg:Bool} {A B:Option Addr} {k m:Nat} (hz:IsQ w neg A k B m (dmin f j i j) (det (j+1) f).natAbs):LdInv w0 (setQ w (h i) (j*3) neg A k B m) n g hd h f i (j+1) x :=
 ⟨(H.mat.set_ hi om hz).congr fun a b _ _=>ld_set f hj a b,H.row.farQ (H.mat.row i hi).typ (Ne.symm (H.ne i hi)),H.low,H.ne,zBg H.ext (H.mat.low i hi)⟩
theorem LdInv.readL {w0 w:World} {n g hd:Nat} {h:Nat→Nat} {f:Nat→Nat→Int} {i j x:Nat} (H:LdInv w0 w n g hd h f i j x) {a b:Nat} (ha:a < n) (hd:doneL i j a b):∃ neg A k B m,w.cell? ⟨h a,b*3,none⟩=some (.bool neg)∧w.cell? ⟨h a,b*3+1,none⟩=some (.slice A k k)∧w.cell? ⟨h a,b*3+2,none⟩=some (.slice B m m)∧IsQ w neg A k B m (dmin f b a b) (det (b+1) f).natAbs:=by
 have:=(H.mat.row a ha).cells b (by unfold doneL at hd;omega)
 rw [(ld_read f hd).1,(ld_read f hd).2] at this
 exact this
theorem LdInv.readD {w0 w:World} {n g hd:Nat} {h:Nat→Nat} {f:Nat→Nat→Int} {i j x:Nat} (H:LdInv w0 w n g hd h f i j x) {a:Nat} (ha:a < n) (hax:a < x):∃ neg A k B m,w.cell? ⟨hd,a*3,none⟩=some (.bool neg)∧w.cell? ⟨hd,a*3+1,none⟩=some (.slice A k k)∧w.cell? ⟨hd,a*3+2,none⟩=some (.slice B m m)∧IsQ w neg A k B m (det (a+1) f) (det a f).natAbs:=by
 have:=H.row.cells a ha
 rw [(zBx f hax).1,(zBx f hax).2] at this
 exact this
theorem Start.dpos {n:Nat} {f:Nat→Nat→Int} (h:Start n f) {k:Nat} (hk:k≤n):0 < (det k f).natAbs∧(((det k f).natAbs:Nat):Int)=det k f:=by
 have:=h.pd.pos hk;omega
theorem Start.dsz {n:Nat} {f:Nat→Nat→Int} (h:Start n f) {k:Nat} (hk:k≤n):(det k f).natAbs≤2 ^ 128:=by
 have h1:=zC6 (n:=k) (B:=16384) (M:=f) fun i j hi hj=>h.small i j om om
 refine Nat.le_trans h1 ?_
 have:=h.dim
 rcases Nat.eq_zero_or_pos k with e|e
 ·subst e;decide
 ·have:=fct_bound (r:=k - 1) om
  rwa [show k - 1+1=k by omega] at this
theorem Start.msz {n:Nat} {f:Nat→Nat→Int} (h:Start n f) {k i j:Nat} (hk:k < n) (hi:i < n) (hj:j < n):(dmin f k i j).natAbs≤2 ^ 128 :=
 SmallM.dmin (fun i j hi hj=>h.small i j hi hj) h.dim hi hj hk
theorem zAP {a b s t:Nat} (h1:a≤2 ^ s) (h2:b≤2 ^ t):a*b≤2 ^ (s+t):=by rw [Nat.pow_add];exact Nat.mul_le_mul h1 h2
theorem zAe {a s:Nat} (h:a≤2 ^ s) (hs:s < 4096):a < 2 ^ 4096:=Nat.lt_of_le_of_lt h (Nat.pow_lt_pow_right om hs)
theorem zCQ {a b s:Nat} (h:a≤2 ^ s) (h2:b≤2 ^ s) (hs:s < 4095):a+b < 2 ^ 4096:=by
 have h3:2 ^ (s+1) < 2 ^ 4096:=Nat.pow_lt_pow_right om om
 rw [Nat.pow_succ] at h3
 generalize (2:Nat) ^ 4096=X at h3 ⊢
 omega
section Steps
variable {n:Nat} {f:Nat→Nat→Int}
theorem ld_mul1 (h:Start n f) {i k:Nat} (hi:i < n) (hk:k < i) (w:World) (na nb:Bool) (A B C D:Option Addr) (x m j l:Nat)
  (h1:IsQ w na A x B m (dmin f k i k) (det (k+1) f).natAbs) (h2:IsQ w nb C j D l (det (k+1) f) (det k f).natAbs) :
  Calls Tryz.prog 102 #[.agg #[.bool na,.slice A x x,.slice B m m],.agg #[.bool nb,.slice C j j,.slice D l l]] w fun e w'=>∃ n A' k' B' m',e = .returned (.tuple #[.agg #[.bool n,.slice A' k' k',.slice B' m' m'],.int .i64 0])∧IsQ w' n A' k' B' m' (dmin f k i k) (det k f).natAbs∧Ext w w':=by
 have b1:=h.msz (show k < n by omega) hi (show k < n by omega)
 have b2:=h.dsz (show k+1≤n by omega)
 have b3:=h.dsz (show k≤n by omega)
 obtain ⟨p1,q1⟩:=h.dpos (show k+1≤n by omega)
 obtain ⟨p2,q2⟩:=h.dpos (show k≤n by omega)
 refine (mulV na nb A B C D x m j l _ _ _ _ w h1 h2 (zAe (zAP b1 b2) (by decide)) (zAe (zAP b2 b3) (by decide))).mono ?_
 rintro e w' ⟨n,A',k',B',m',rfl,hq,hx⟩
 refine ⟨n,A',k',B',m',rfl,hq.conv p2 ?_,hx⟩
 rw [Int.natCast_mul,q1,q2];grind
theorem ld_mul2 (h:Start n f) {i j' k:Nat} (hi:i < n) (hj':j' < n) (hk:k < i) (hkj:k < j') (w:World) (na nb:Bool) (A B C D:Option Addr) (x m j l:Nat)
  (h1:IsQ w na A x B m (dmin f k i k) (det k f).natAbs) (h2:IsQ w nb C j D l (dmin f k j' k) (det (k+1) f).natAbs) :
  Calls Tryz.prog 102 #[.agg #[.bool na,.slice A x x,.slice B m m],.agg #[.bool nb,.slice C j j,.slice D l l]] w fun e w'=>∃ n A' k' B' m',e = .returned (.tuple #[.agg #[.bool n,.slice A' k' k',.slice B' m' m'],.int .i64 0])∧IsQ w' n A' k' B' m' (dmin f k i k*dmin f k j' k) ((det k f).natAbs*(det (k+1) f).natAbs)∧Ext w w':=by
 have b1:=h.msz (show k < n by omega) hi (show k < n by omega)
 have b4:=h.msz (show k < n by omega) hj' (show k < n by omega)
 have b2:=h.dsz (show k+1≤n by omega)
 have b3:=h.dsz (show k≤n by omega)
 exact mulV na nb A B C D x m j l _ _ _ _ w h1 h2 (zAe (zAP b1 b4) (by decide)) (zAe (zAP b3 b2) (by decide))
theorem ld_sub (h:Start n f) {i j' k:Nat} (hi:i < n) (hj':j'≤i) (hk:k < j') (w:World) (na nb:Bool) (A B C D:Option Addr) (x m j l:Nat)
  (h1:IsQ w na A x B m (dmin f k i j') (det k f).natAbs) (h2:IsQ w nb C j D l (dmin f k i k*dmin f k j' k) ((det k f).natAbs*(det (k+1) f).natAbs)) :
  Calls Tryz.prog 104 #[.agg #[.bool na,.slice A x x,.slice B m m],.agg #[.bool nb,.slice C j j,.slice D l l]] w fun e w'=>∃ n A' k' B' m',e = .returned (.tuple #[.agg #[.bool n,.slice A' k' k',.slice B' m' m'],.int .i64 0])∧IsQ w' n A' k' B' m' (dmin f (k+1) i j') (det (k+1) f).natAbs∧Ext w w':=by
 have hkn:k < n:=by omega
 have hjn:j' < n:=by omega
 have b1:=h.msz hkn hi hkn
 have b4:=h.msz hkn hjn hkn
 have b5:=h.msz hkn hi hjn
 have b2:=h.dsz (show k+1≤n by omega)
 have b3:=h.dsz (show k≤n by omega)
 obtain ⟨p1,q1⟩:=h.dpos (show k+1≤n by omega)
 obtain ⟨p2,q2⟩:=h.dpos (show k≤n by omega)
 have hg:=h.pd.gram hkn hi hjn
 have s1:=zAP b5 (zAP b3 b2)
 have s2:(dmin f k i k*dmin f k j' k).natAbs*(det k f).natAbs≤2 ^ (128+(128+128)):=by
  rw [Int.natAbs_mul,← Nat.add_assoc];exact zAP (zAP b1 b4) b3
 refine (subV na nb A B C D x m j l _ _ _ _ w h1 h2 (zCQ s1 s2 (by decide)) (zAe (zAP b3 (zAP b3 b2)) (by decide))).mono ?_
 rintro e w' ⟨n,A',k',B',m',rfl,hq,hx⟩
 refine ⟨n,A',k',B',m',rfl,hq.conv p1 ?_,hx⟩
 rw [Int.natCast_mul,Int.natCast_mul,q1,q2]
 have e1:dmin f k i j'*(det k f*det (k+1) f) - dmin f k i k*dmin f k j' k*det k f=det k f*(det (k+1) f*dmin f k i j' - dmin f k i k*dmin f k j' k):=by grind
 rw [e1,← hg];grind
theorem ld_div (h:Start n f) {i j':Nat} (hi:i < n) (hj':j' < i) (w:World) (na nb:Bool) (A B C D:Option Addr) (x m j l:Nat)
  (h1:IsQ w na A x B m (dmin f j' i j') (det j' f).natAbs) (h2:IsQ w nb C j D l (det (j'+1) f) (det j' f).natAbs) :
  Calls Tryz.prog 143 #[.agg #[.bool na,.slice A x x,.slice B m m],.agg #[.bool nb,.slice C j j,.slice D l l]] w fun e w'=>∃ n A' k' B' m',e = .returned (.tuple #[.agg #[.bool n,.slice A' k' k',.slice B' m' m'],.int .i64 0])∧IsQ w' n A' k' B' m' (dmin f j' i j') (det (j'+1) f).natAbs∧Ext w w':=by
 have hjn:j' < n:=by omega
 have b1:=h.msz hjn hi hjn
 have b2:=h.dsz (show j'+1≤n by omega)
 have b3:=h.dsz (show j'≤n by omega)
 obtain ⟨p1,q1⟩:=h.dpos (show j'+1≤n by omega)
 obtain ⟨p2,q2⟩:=h.dpos (show j'≤n by omega)
 refine (divV na nb A B C D x m j l _ _ _ _ w h1 h2 (h.pd.pos om) (zAe (zAP b1 b3) (by decide)) (zAe (zAP b3 b2) (by decide))).mono ?_
 rintro e w' ⟨n,A',k',B',m',rfl,hq,hx⟩
 refine ⟨n,A',k',B',m',rfl,hq.conv p1 ?_,hx⟩
 rw [Int.natCast_mul,q1,q2];grind
end Steps
end Go.Proofs.YtdkgilioejdmeaaGreat
namespace Go.Proofs.YtdkgilioejdmeaaGreat
set_option exponentiation.threshold 5000
theorem zCt {n:Nat} {A:Nat→Nat→Int} (h:PD n A) {r i j:Nat} (hr:r≤n) (hi:i < r) (hin:i < n) (hj:j < n):dmin A r i j=0:=by
 rw [h.dsym r hr i j hin hj];exact zAy A r j i hi
theorem zCn {n:Nat} {A:Nat→Nat→Int} (h:PD n A) {r:Nat} (hr:r≤n) {x y:Nat→Int} (e:∀ i,r≤i→i < n→x i=y i):Qr n A r x=Qr n A r y:=by
 unfold Qr
 refine zAC fun i hi=>?_
 have e2:(sm n fun j=>dmin A r i j*x j)=sm n fun j=>dmin A r i j*y j:=zAC fun j hj=>by
  by_cases hjr:j < r
  ·rw [zAy A r i j hjr,Int.zero_mul,Int.zero_mul]
  ·rw [e j om hj]
 rw [e2]
 by_cases hir:i < r
 ·rw [zA5 (f:=fun j=>dmin A r i j*y j) (fun j hj=>by rw [zCt h hr hir hi hj,Int.zero_mul]),Int.mul_zero,Int.mul_zero]
 ·rw [e i om hi]
def Nr (n:Nat) (A:Nat→Nat→Int) (r:Nat) (x:Nat→Int):Int:=sm n fun i=>if r < i then x i*dmin A r i r else 0
def Nk (A:Nat→Nat→Int) (r k:Nat) (x:Nat→Int):Int:=sm k fun i=>if r < i then x i*dmin A r i r else 0
theorem Nk_start (A:Nat→Nat→Int) (r:Nat) (x:Nat→Int):Nk A r (r+1) x=0:=zA5 fun i hi=>if_neg om
theorem Nk_step (A:Nat→Nat→Int) {r k:Nat} (x:Nat→Int) (h:r < k):Nk A r (k+1) x=Nk A r k x+x k*dmin A r k r:=by
 show Nk A r k x+(if r < k then _ else _)=_
 rw [if_pos h]
theorem Nr_congr {n:Nat} {A:Nat→Nat→Int} {r:Nat} {x y:Nat→Int} (e:∀ i,r < i→i < n→x i=y i):Nr n A r x=Nr n A r y:=by
 unfold Nr
 refine zAC fun i hi=>?_
 by_cases h:r < i
 ·rw [if_pos h,if_pos h,e i h hi]
 ·rw [if_neg h,if_neg h]
theorem zCo {n:Nat} {A:Nat→Nat→Int} (h:PD n A) {r:Nat} (hr:r < n) (x:Nat→Int):Yr n A r x=det (r+1) A*x r+Nr n A r x:=by
 have e:Yr n A r x - Nr n A r x=det (r+1) A*x r:=by
  unfold Yr Nr
  rw [← sm_sub]
  rw [zBL hr (fun i hi hne=>?_)]
  ·show dmin A r r r*x r - (if r < r then _ else _)=_
   rw [if_neg om,zAX,Int.sub_zero]
  ·show dmin A r i r*x i - (if r < i then x i*dmin A r i r else 0)=0
   by_cases h2:r < i
   ·rw [if_pos h2];grind
   ·rw [if_neg h2,zCt h om om hi hr,Int.zero_mul];rfl
 omega
def wv (n:Nat) (A:Nat→Nat→Int) (r:Nat) (x:Nat→Int) (l:Nat):Int:=if r≤l then det r A*x l else sm n fun i=>if r≤i then x i*cof A r i l else 0
theorem wv_row {n:Nat} {A:Nat→Nat→Int} {r:Nat} (hr:r≤n) (x:Nat→Int) (j:Nat):(sm n fun l=>wv n A r x l*A l j)=sm n fun i=>if r≤i then x i*dmin A r i j else 0:=by
 have e1:(sm n fun l=>wv n A r x l*A l j)=sm n fun l=>sm n fun i=>if r≤i then (if l < r then x i*(cof A r i l*A l j) else if l=i then x i*(det r A*A i j) else 0) else 0:=by
  refine zAC fun l hl=>?_
  unfold wv
  by_cases h:r≤l
  ·rw [if_pos h]
   rw [zBL hl (fun i hi hne=>by by_cases h2:r≤i <;> simp [h2,show ¬ l < r by omega,Ne.symm hne])]
   rw [if_pos h,if_neg om,if_pos rfl];grind
  ·rw [if_neg h,Int.mul_comm,← zAY]
   refine zAC fun i hi=>?_
   by_cases h2:r≤i
   ·rw [if_pos h2,if_pos h2,if_pos om];grind
   ·rw [if_neg h2,if_neg h2,Int.mul_zero]
 rw [e1,zCG]
 refine zAC fun i hi=>?_
 by_cases h2:r≤i
 ·rw [if_pos h2]
  have e2:(sm n fun l=>if r≤i then (if l < r then x i*(cof A r i l*A l j) else if l=i then x i*(det r A*A i j) else 0) else 0)=(sm n fun l=>if l < r then x i*(cof A r i l*A l j) else 0)+sm n fun l=>if l=i then x i*(det r A*A i j) else 0:=by
   rw [← zCT]
   refine zAC fun l hl=>?_
   rw [if_pos h2]
   by_cases h3:l < r
   ·rw [if_pos h3,if_pos h3,if_neg om,Int.add_zero]
   ·rw [if_neg h3,if_neg h3,Int.zero_add]
  rw [e2,zBL (k:=i) hi (fun l hl hne=>if_neg hne),if_pos rfl,zCs,Int.mul_add]
  congr 1
  have e3:∀ d,r+d=n→(sm n fun l=>if l < r then x i*(cof A r i l*A l j) else 0)=sm r fun l=>x i*(cof A r i l*A l j):=by
   intro d
   induction d generalizing n with
   | zero =>
        intro hd;obtain rfl:r=n:=by omega
        exact zAC fun l hl=>if_pos hl
   | succ d ih =>
    intro hd
    obtain ⟨m,rfl⟩:∃ m,n=m+1:=⟨n - 1,by omega⟩
    show sm m _+(if m < r then _ else _)=_
    rw [if_neg om,Int.add_zero]
    have key:∀ (k d:Nat),r+d=k→(sm k fun l=>if l < r then x i*(cof A r i l*A l j) else 0)=sm r fun l=>x i*(cof A r i l*A l j):=by
     intro k d
     induction d generalizing k with
     | zero =>
          intro hd;obtain rfl:r=k:=by omega
          exact zAC fun l hl=>if_pos hl
     | succ d ih =>
      intro hd
      obtain ⟨m,rfl⟩:∃ m,k=m+1:=⟨k - 1,by omega⟩
      show sm m _+(if m < r then _ else _)=_
      rw [if_neg om,Int.add_zero]
      exact ih m om
    exact key m d om
  rw [e3 (n - r) om,zAY]
 ·rw [if_neg h2];exact zA5 fun l hl=>if_neg h2
theorem wv_norm {n:Nat} {A:Nat→Nat→Int} (h:PD n A) {r:Nat} (hr:r≤n) (x:Nat→Int):qf n A (wv n A r x)=det r A*Qr n A r x:=by
 have e1:qf n A (wv n A r x)=sm n fun j=>wv n A r x j*sm n fun i=>if r≤i then x i*dmin A r i j else 0:=by
  unfold qf bf
  refine zAC fun i hi=>?_
  rw [← wv_row hr x i]
  congr 1
  exact zAC fun l hl=>by rw [h.sym i l hi hl];grind
 rw [e1]
 unfold Qr
 rw [← zAY]
 refine zAC fun j hj=>?_
 have e2:(sm n fun i=>if r≤i then x i*dmin A r i j else 0)=sm n fun i=>dmin A r j i*x i:=zAC fun i hi=>by
  rw [h.dsym r hr j i hj hi]
  by_cases h2:r≤i
  ·rw [if_pos h2];grind
  ·rw [if_neg h2,zCt h hr om hi hj,Int.zero_mul]
 rw [e2]
 by_cases h2:r≤j
 ·unfold wv;rw [if_pos h2];grind
 ·rw [zA5 (f:=fun i=>dmin A r j i*x i) (fun i hi=>by rw [zCt h hr om hj hi,Int.zero_mul]),Int.mul_zero,Int.mul_zero,Int.mul_zero]
theorem sq_le_of_mul {D a b:Int} (hD:0 < D) (h:(D*a)*(D*a)≤(D*D)*b):a*a≤b:=by
 refine zAp (Int.mul_pos hD hD) ?_
 have:(D*D)*(a*a)=(D*a)*(D*a):=by grind
 omega
section Start
variable {n:Nat} {f:Nat→Nat→Int}
theorem wv_sz (h:Start n f) {r:Nat} (hr:r≤n) {x:Nat→Int} {nb:Int} (hq:Qr n f r x≤nb*det r f) (hb:nb≤4096) (hnb:0≤nb) {i:Nat} (hi:i < n):wv n f r x i*wv n f r x i≤(det r f*det r f)*((2 ^ 123:Nat):Int):=by
 have h1:=h.pd.coord (B:=16384) (fun i c hi hc=>h.small i c hi hc) (wv n f r x) hi
 have h2:=zBm (n:=n) h.dim
 have hD:=h.pd.pos hr
 rw [wv_norm h.pd hr] at h1
 have h3:det r f*Qr n f r x≤det r f*(4096*det r f):=by
  refine Int.mul_le_mul_of_nonneg_left (Int.le_trans hq ?_) om
  exact Int.mul_le_mul_of_nonneg_right hb om
 have h0:0≤det r f*(4096*det r f):=Int.mul_nonneg om (Int.mul_nonneg om om)
 have h4:det r f*Qr n f r x*((fct (n - 1)*16384 ^ (n - 1):Nat):Int)≤det r f*(4096*det r f)*((2 ^ 111:Nat):Int) :=
  Int.le_trans (Int.mul_le_mul_of_nonneg_right h3 (Int.natCast_nonneg _)) (Int.mul_le_mul_of_nonneg_left (Int.ofNat_le.2 h2) h0)
 refine Int.le_trans h1 (Int.le_trans h4 ?_)
 have:det r f*(4096*det r f)*((2 ^ 111:Nat):Int)=(det r f*det r f)*(4096*((2 ^ 111:Nat):Int)):=by grind
 rw [this]
 exact Int.le_refl _
theorem sq_le_62 {x:Int} (h:x*x≤((2 ^ 123:Nat):Int)):x.natAbs < 2 ^ 62:=by
 rcases Nat.lt_or_ge x.natAbs (2 ^ 62) with h1|h1
 ·exact h1
 ·have h2:(2 ^ 62:Nat)*2 ^ 62≤x.natAbs*x.natAbs:=Nat.mul_le_mul h1 h1
  have h3:((x.natAbs*x.natAbs:Nat):Int)=x*x:=by rw [Int.natCast_mul];exact Int.natAbs_mul_self
  omega
theorem x_sz (h:Start n f) {r:Nat} (hr:r≤n) {x:Nat→Int} {nb:Int} (hq:Qr n f r x≤nb*det r f) (hb:nb≤4096) (hnb:0≤nb) {i:Nat} (hi:i < n) (hri:r≤i):(x i).natAbs < 2 ^ 62:=by
 have h1:=wv_sz h hr hq hb hnb hi
 unfold wv at h1
 rw [if_pos hri] at h1
 exact sq_le_62 (sq_le_of_mul (h.pd.pos hr) h1)
theorem wv_last (h:PD n f) {r:Nat} (hr:r < n) (x:Nat→Int):wv n f (r+1) x r = - Nr n f r x:=by
 unfold wv Nr
 rw [if_neg om,show -(sm n fun i=>if r < i then x i*dmin f r i r else 0)=(-1)*sm n fun i=>if r < i then x i*dmin f r i r else 0 by omega,← zAY]
 refine zAC fun i hi=>?_
 by_cases h2:r < i
 ·rw [if_pos (show r+1≤i by omega),if_pos h2]
  have:cof f (r+1) i r = - dmin f r i r:=by
   unfold cof dmin
   rw [show r+1+r=(r+r)+1 by omega,zBQ,zDJ]
   have:det (r+1) (fun x y=>f (if skip r x=r+1 then i else skip r x) y)=det (r+1) (bord f r i r):=zAI fun a b ha hb=>by
    unfold bord skip
    by_cases h3:a < r
    ·rw [if_pos h3,if_neg om,if_neg om]
     by_cases h4:b=r
     ·rw [if_pos h4,h4]
     ·rw [if_neg h4]
    ·rw [if_neg h3,if_pos om,if_pos om]
     by_cases h4:b=r
     ·rw [if_pos h4,h4]
     ·rw [if_neg h4]
   rw [this];omega
  rw [this];grind
 ·rw [if_neg om,if_neg h2];rfl
theorem Nr_sz (h:Start n f) {r:Nat} (hr:r < n) {x:Nat→Int} {nb:Int} (hq:Qr n f (r+1) x≤nb*det (r+1) f) (hb:nb≤4096) (hnb:0≤nb):(Nr n f r x).natAbs < 2 ^ 62*(det (r+1) f).natAbs:=by
 have h1:=wv_sz h (show r+1≤n by omega) hq hb hnb hr
 rw [wv_last h.pd hr] at h1
 have hD:=h.pd.pos (show r+1≤n by omega)
 rcases Nat.lt_or_ge (Nr n f r x).natAbs (2 ^ 62*(det (r+1) f).natAbs) with h2|h2
 ·exact h2
 ·have h3:=Nat.mul_le_mul h2 h2
  have h4:(((Nr n f r x).natAbs*(Nr n f r x).natAbs:Nat):Int)=Nr n f r x*Nr n f r x:=by rw [Int.natCast_mul];exact Int.natAbs_mul_self
  have e1:-Nr n f r x * -Nr n f r x=Nr n f r x*Nr n f r x:=by grind
  have e2:((2 ^ 62*(det (r+1) f).natAbs*(2 ^ 62*(det (r+1) f).natAbs):Nat):Int)=(det (r+1) f*det (r+1) f)*((2 ^ 124:Nat):Int):=by
   rw [Int.natCast_mul,Int.natCast_mul,show (((det (r+1) f).natAbs:Nat):Int)=det (r+1) f by omega]
   have:((2 ^ 124:Nat):Int)=((2 ^ 62:Nat):Int)*((2 ^ 62:Nat):Int):=by decide
   rw [this];grind
  have h5:((2 ^ 62*(det (r+1) f).natAbs*(2 ^ 62*(det (r+1) f).natAbs):Nat):Int)≤(((Nr n f r x).natAbs*(Nr n f r x).natAbs:Nat):Int):=Int.ofNat_le.2 h3
  rw [h4,e2,← e1] at h5
  have h6:(det (r+1) f*det (r+1) f)*((2 ^ 124:Nat):Int)≤(det (r+1) f*det (r+1) f)*((2 ^ 123:Nat):Int):=Int.le_trans h5 h1
  have h7:=zAp (Int.mul_pos hD hD) h6
  exact absurd h7 (by decide)
theorem step_in (h:Start n f) {r:Nat} (hr:r < n) (x:Nat→Int) (nb:Int):Yr n f r x*Yr n f r x≤det r f*(nb*det (r+1) f - Qr n f (r+1) x)↔Qr n f r x≤nb*det r f:=by
 have h1:=h.pd.qstep hr x
 have hD:=h.pd.pos (show r+1≤n by omega)
 have e:det r f*(nb*det (r+1) f - Qr n f (r+1) x) - Yr n f r x*Yr n f r x=det (r+1) f*(nb*det r f - Qr n f r x):=by grind
 constructor
 ·intro h2
  have:0≤det (r+1) f*(nb*det r f - Qr n f r x):=by omega
  have:=zAQ hD this
  omega
 ·intro h2
  have:0≤det (r+1) f*(nb*det r f - Qr n f r x):=Int.mul_nonneg om om
  omega
theorem step_down (h:Start n f) {r:Nat} (hr:r < n) {x:Nat→Int} {nb:Int} (hq:Qr n f r x≤nb*det r f):Qr n f (r+1) x≤nb*det (r+1) f:=by
 have h1:=h.pd.qstep hr x
 have hD:=h.pd.pos (show r+1≤n by omega)
 have hE:=h.pd.pos (show r≤n by omega)
 have h2:det (r+1) f*Qr n f r x≤det (r+1) f*(nb*det r f):=Int.mul_le_mul_of_nonneg_left hq om
 have h3:=zAi (Yr n f r x)
 refine zAp hE ?_
 have e:det (r+1) f*(nb*det r f)=det r f*(nb*det (r+1) f):=by grind
 omega
theorem step_all (h:Start n f) {x:Nat→Int} {nb:Int} (hq:qf n f x≤nb):∀ r,r≤n→Qr n f r x≤nb*det r f:=by
 intro r
 induction r with
 | zero=>intro _;rw [Qr_zero];simpa [det] using hq
 | succ r ih=>intro hr;exact step_down h om (ih om)
end Start
end Go.Proofs.YtdkgilioejdmeaaGreat
namespace Go.Proofs.YtdkgilioejdmeaaGreat
open Go.RowKit
theorem MatZ.farB {w:World} {lo g n p o:Nat} {h:Nat→Nat} {m:Nat→Nat→Int} (M:MatZ w lo g n h m) {t:TypeId} (hp:TB w t p) (h1:t≠41) (h2:t≠49) (h3:t≠133) (v:Value):MatZ (w.setCell ⟨p,o,none⟩ v) lo g n h m:=by
 have hg:g≠p:=M.typ.ne hp (Ne.symm h1)
 refine ⟨fun i hi=>?_,fun i hi=>?_,M.inj,M.low,M.glow,M.typ.set_ _ _⟩
 ·rw [World.cell?_setCell_other _ _ _ _ (by intro e;injection e with e1 e2;exact hg e1.symm)];exact M.rows i hi
 ·exact (M.row i hi).typed (heap_setCell_other w ⟨p,o,none⟩ _ v ((M.row i hi).typ.ne hp (Ne.symm h2))) fun b hb=>heap_setCell_other w ⟨p,o,none⟩ b v (hb.ne hp (Ne.symm h3))
set_option maxHeartbeats 1000000 in
theorem made_make (n:Nat) (bx:Nat) (m:Nat→Nat→Int) (w:World) (hn1:1≤n) (hn8:n≤100)
  (hent:∀ i j W,i < n→j < n→Ext w W→Calls Tryz.prog 220 #[.int .i64 i,.int .i64 j,.pointer (some ⟨bx,0,none⟩)] W fun e w'=>∃ ng A k,e = .returned (.agg #[.bool ng,.slice A k k])∧IsInt w' ng A k (m i j)∧Ext W w') :
  Calls Tryz.prog 81 #[.int .i64 n,.int .i64 n,.func (.func 220) #[] #[.pointer (some ⟨bx,0,none⟩)]] w fun e w'=>∃ g cap h,e = .returned (.agg #[.slice (some ⟨g,0,none⟩) n cap])∧n≤cap∧MatZ w' w.heap.size g n h m∧Ext w w':=by
 have HEnt:=zH hent
 obtain ⟨i0,hi,hz0,hz1,hz2⟩:=info_parts Tryz.infoZs
 have HI0:=zH (show Tryz.prog.info? 41=some i0∧i0.zero=some (.slice none 0 0)∧i0.size=1∧i0.bytes=24 from ⟨hi,hz0,hz1,hz2⟩)
 clear hent hi hz0 hz1 hz2
 go_enter Tryz.func81,Tryz.ntmps81
 go_wp2
 obtain ⟨b6,hb6⟩:∃ b,w.heap.size=b:=⟨_,rfl⟩
 have HB6:=zH hb6
 obtain ⟨W0,hW0⟩:∃ W0,w.alloc (.cells #[.slice none 0 0] 81)=W0:=⟨_,rfl⟩
 have HX0:Hid (Ext w W0):=by rw [← hW0];exact (Ext.refl w).alloc _
 have HK0:Hid (Blk W0 b6 81 #[.slice none 0 0]):=by rw [← hW0,← hb6];exact Blk.new _ _ _
 rw [hW0,hb6]
 clear hW0 hb6
 go_loopg [7,12] n (fun kk v iv wr=>∃ (i:Nat) (h:Nat→Nat),kk+i=n∧iv = .int .i64 i∧Hid (SqInv w wr n i v h m)∧Hid (Blk wr b6 81 #[.slice none 0 0]))
 case atStart=>exact ⟨0,fun _=>0,by omega,rfl,⟨World.ownsRow_nil _ _ _ _,fun j hj=>by omega,fun j k hj=>by omega,fun j hj=>by omega,HX0.out⟩,HK0⟩
 obtain ⟨i,h,hki,rfl,HI,HK⟩:=hrel
 clear HK0 HX0
 by_cases hin:i < n
 ·obtain ⟨cs,hmk,hrow⟩:=zAs (n:Int) n rfl om wr
  have HMk:=zH hrow
  clear hrow
  go_wp2
  obtain ⟨W1,hW1⟩:∃ W1,wr.alloc (.cells cs 49)=W1:=⟨_,rfl⟩
  rw [hW1] at HMk
  rw [hW1]
  have hX1:Ext wr W1:=by rw [← hW1];exact (Ext.refl wr).alloc _
  have HX1:=zH hX1
  have HXw:=zH (HI.out.ext.trans hX1)
  have hlo:w.heap.size≤wr.heap.size:=HI.out.ext.size
  obtain ⟨hr,hhr⟩:∃ hr,wr.heap.size=hr:=⟨_,rfl⟩
  have HHr:=zH hhr
  rw [hhr] at HMk hlo
  rw [hhr]
  clear hW1 hX1 hmk hhr
  go_loopg [19] n (fun kk jv wi=>∃ j:Nat,kk+j=n∧jv = .int .i64 j∧Hid (MRow wi hr n (fun j'=>if j' < j then m i j' else 0))∧Hid (ExtBut (fun x=>x=hr) W1 wi))
  case atStart=>exact ⟨0,by omega,rfl,HMk.out.congr (fun j hj=>by simp),ExtBut.refl _ _⟩
  obtain ⟨j,hkj,rfl,HR,HE⟩:=hrel
  by_cases hjn:j < n
  ·have HC:=zH (HEnt.out i j wr hin hjn (HXw.out.but HE.out (by rintro g rfl;exact hlo)))
   obtain ⟨ng0,A0,k0,c1,c2,_⟩:=HR.out.cells j hjn
   have f1:=HR.out.free (j*2)
   have f2:=HR.out.free (j*2+1)
   have hlt:=HR.out.lt
   go_wp2_with fail
   refine HC.out.mono ?_
   rintro e w2 ⟨ng,A2,k2,rfl,hz,hx⟩
   replace f1:=hx.free f1 (zAA c1)
   replace c1:=hx.cell c1
   replace f2:=hx.free f2 (zAA c2)
   replace c2:=hx.cell c2
   have HR2:=zH ((HR.out.ext hx).set_ hjn hz)
   have HE2:=zH (HE.out.ext hx)
   clear hz hx HC HR HE
   have HX3:Hid (ExtBut (fun x=>x=hr) W1 ((w2.setCell ⟨hr,j*2,none⟩ (.bool ng)).setCell ⟨hr,j*2+1,none⟩ (.slice A2 k2 k2))):=(HE2.out.setCell (p:=⟨hr,j*2,none⟩) (.inl rfl) _).setCell (p:=⟨hr,j*2+1,none⟩) (.inl rfl) _
   have HR3:Hid (MRow ((w2.setCell ⟨hr,j*2,none⟩ (.bool ng)).setCell ⟨hr,j*2+1,none⟩ (.slice A2 k2 k2)) hr n (fun j'=>if j' < j+1 then m i j' else 0)) :=
    HR2.out.congr fun j' _=>by
     by_cases e:j'=j
     ·subst e;rw [if_pos rfl,if_pos om]
     ·rw [if_neg e]
      by_cases e2:j' < j
      ·rw [if_pos e2,if_pos om]
      ·rw [if_neg e2,if_neg om]
   clear HR2 HE2
   go_wp2
   go_roundg (gk - 1)
   case measure=>omega
   case rel=>exact ⟨j+1,by omega,by go_num,HR3,HX3⟩
  ·obtain rfl:n=j:=by omega
   obtain ⟨ii,hii,hz0,hz1,hz2⟩:∃ ii,Tryz.prog.info? 41=some ii∧ii.zero=some (.slice none 0 0)∧ii.size=1∧ii.bytes=24:=⟨i0,HI0.out⟩
   have HTy:=zH HR.out.typ
   have HKn:Hid (Blk wr b6 81 #[.slice none 0 0]):=(HE.out.block b6 (HK.out.ext HX1.out).lt (by have h1:=HK.out.lt;have h2:=HHr.out;intro e;omega)).trans (HK.out.ext HX1.out)
   have hlt:=HR.out.lt
   have HOwn:Hid (wr.ownsRow w.heap.size 41 1 u7 i ((List.range i).map fun j=>Value.slice (some ⟨h j,0,none⟩) n n)):=by
    refine (HI.out.own.kept (row:=none) ?_ (by cases u7.ownBlock <;> simp)).kept HE.out.grown ?_
    ·exact ⟨Below.os HX1.out,Below.tape HX1.out,Below.output HX1.out,HX1.out.size,fun k hk _=>Below.block HX1.out k hk⟩
    ·rcases hob:u7.ownBlock with _|g
     ·exact .inl rfl
     ·refine .inr ?_
      have:=HI.out.own.lt g hob
      have:=HHr.out
      intro e;injection e with e;omega
   have HRows:Hid (∀ j,j < i→MRow wr (h j) n (m j)):=fun j hj =>
    ((HI.out.row j hj).ext HX1.out).but HE.out (by have:=(HI.out.row j hj).lt;have:=HHr.out;omega) HMk.out.typ
   have HNew:Hid (MRow wr hr n (m i)):=HR.out.congr fun j' hj'=>if_pos hj'
   have HXn:=zH (HXw.out.but HE.out (by rintro g rfl;exact hlo))
   clear HR HE
   have hws:w.heap.size≤wr.heap.size:=HXn.out.size
   go_wp2_with (at_builtin;refine wpList_append_own _ rfl _ _ 79 rfl w.heap.size 41 ii (.slice none 0 0) 1 24 Tryz.underlying79 hii hz0 hz1 hz2 rfl (by decide) _ _ _ rfl (HOwn.out.alloc _) ⟨wr.heap.size,0,none⟩ 1 1 [.slice (some ⟨hr,0,none⟩) n n] rfl rfl ?c1 ?c2 ?c3 ?c4 ?c5 ?_)
   case c1=>exact cell_one_new _ _ _
   case c2=>intro u hu;rw [List.mem_singleton.1 hu];rfl
   case c3=>unfold maxLen;omega
   case c4=>omega
   case c5=>simp only [World.size_alloc];omega
   intro v' w5 hown' hgrow _
   have hOwnA:=HOwn.out.alloc (.cells #[.slice (some ⟨hr,0,none⟩) n n] 41)
   have hk104:∀ b,TB (wr.alloc (.cells #[.slice (some ⟨hr,0,none⟩) n n] 41)) 49 b→w5.heap[b]? = (wr.alloc (.cells #[.slice (some ⟨hr,0,none⟩) n n] 41)).heap[b]?:=fun b hb=>zAR hOwnA hgrow hb (by decide)
   have hk32:∀ b,TB (wr.alloc (.cells #[.slice (some ⟨hr,0,none⟩) n n] 41)) 133 b→w5.heap[b]? = (wr.alloc (.cells #[.slice (some ⟨hr,0,none⟩) n n] 41)).heap[b]?:=fun b hb=>zAR hOwnA hgrow hb (by decide)
   have hXA:Ext wr (wr.alloc (.cells #[.slice (some ⟨hr,0,none⟩) n n] 41)):=(Ext.refl wr).alloc _
   have HS:Hid (SqInv w w5 n (i+1) v' (fun j=>if j=i then hr else h j) (m)):=by
    refine ⟨?_,fun j hj=>?_,fun j k hj hk e=>?_,fun j hj=>?_,?_⟩
    ·rw [← zBF i (fun j=>Value.slice (some ⟨h j,0,none⟩) n n) _ (.slice (some ⟨hr,0,none⟩) n n) (fun j hj=>by simp only [if_neg (show ¬ j=i by omega)]) (by simp)]
     exact hown'
    ·by_cases e:j=i
     ·subst e
      simp only [if_true]
      exact (HNew.out.ext hXA).typed (hk104 _ (HNew.out.ext hXA).typ) hk32
     ·simp only [if_neg e]
      have h2:=(HRows.out j om).ext hXA
      exact h2.typed (hk104 _ h2.typ) hk32
    ·by_cases e1:j=i <;> by_cases e2:k=i
     ·omega
     ·rw [if_pos e1,if_neg e2] at e
      have h1:=(HI.out.row k om).lt
      have h2:=HHr.out
      omega
     ·rw [if_neg e1,if_pos e2] at e
      have h1:=(HI.out.row j om).lt
      have h2:=HHr.out
      omega
     ·rw [if_neg e1,if_neg e2] at e
      exact HI.out.inj j k om om e
    ·by_cases e1:j=i
     ·simp only [if_pos e1];exact hlo
     ·simp only [if_neg e1];exact HI.out.low j om
    ·exact (HXn.out.alloc _).grown hgrow (fun k hk=>(hOwnA.lt k hk).1)
   have hbA:Blk (wr.alloc (.cells #[.slice (some ⟨hr,0,none⟩) n n] 41)) b6 81 #[.slice none 0 0]:=HKn.out.ext hXA
   have HK5:Hid (Blk w5 b6 81 #[.slice none 0 0]):=(zAR hOwnA hgrow hbA.typ (by decide)).trans hbA
   clear hbA hown' hgrow hOwnA hk104 hk32 hXA
   go_wp2
   go_roundg (n - (i+1))
   case measure=>omega
   case rel=>exact ⟨i+1,_,by omega,by go_num,HS,HK5⟩
 ·obtain rfl:n=i:=by omega
  rcases HI.out.own.2 with ⟨_,h0⟩|⟨g,cap,cur,rfl,hg,hh,hnc,hcm,hcs,hct⟩
  ·omega
  ·have HM:Hid (MatZ wr w.heap.size g n h (m)):=by
    refine ⟨fun i hi=>?_,HI.out.row,HI.out.inj,HI.out.low,hg,⟨_,_,hh⟩⟩
    have h1:=HI.out.own.cells (g:=g) rfl i (.slice (some ⟨h i,0,none⟩) n n) (by simp [hi])
    rw [← h1]
    unfold Addr.add
    split
    ·subst_vars;rfl
    ·simp
   have HX:=zH HI.out.ext
   have HBx:=zH HB6.out
   have c6:=HK.out.cell 0 rfl
   have f6:=HK.out.free 0
   clear hh hcs hct HI
   go_wp2
   exact bodyPost_ret (v:=.agg #[.slice (some ⟨g,0,none⟩) n cap]) (by simp [results,Tryz.results81,go_sem,c6,f6]) rfl ⟨g,cap,h,rfl,hnc,HM.out.farB HK.out.typ (by decide) (by decide) (by decide) _,HX.out.setCell (p:=⟨b6,0,none⟩) (by have:=HBx.out;simp only [];omega) _⟩
set_option maxHeartbeats 1000000 in
theorem made_id (n:Nat) (m:Nat→Nat→Int) (w:World) (hn1:1≤n) (hn8:n≤100)
  (hent:∀ i j W,i < n→j < n→Ext w W→Calls Tryz.prog 188 #[.int .i64 i,.int .i64 j] W fun e w'=>∃ ng A k,e = .returned (.agg #[.bool ng,.slice A k k])∧IsInt w' ng A k (m i j)∧Ext W w') :
  Calls Tryz.prog 81 #[.int .i64 n,.int .i64 n,.func (.func 188) #[] #[]] w fun e w'=>∃ g cap h,e = .returned (.agg #[.slice (some ⟨g,0,none⟩) n cap])∧n≤cap∧MatZ w' w.heap.size g n h m∧Ext w w':=by
 have HEnt:=zH hent
 obtain ⟨i0,hi,hz0,hz1,hz2⟩:=info_parts Tryz.infoZs
 have HI0:=zH (show Tryz.prog.info? 41=some i0∧i0.zero=some (.slice none 0 0)∧i0.size=1∧i0.bytes=24 from ⟨hi,hz0,hz1,hz2⟩)
 clear hent hi hz0 hz1 hz2
 go_enter Tryz.func81,Tryz.ntmps81
 go_wp2
 obtain ⟨b6,hb6⟩:∃ b,w.heap.size=b:=⟨_,rfl⟩
 have HB6:=zH hb6
 obtain ⟨W0,hW0⟩:∃ W0,w.alloc (.cells #[.slice none 0 0] 81)=W0:=⟨_,rfl⟩
 have HX0:Hid (Ext w W0):=by rw [← hW0];exact (Ext.refl w).alloc _
 have HK0:Hid (Blk W0 b6 81 #[.slice none 0 0]):=by rw [← hW0,← hb6];exact Blk.new _ _ _
 rw [hW0,hb6]
 clear hW0 hb6
 go_loopg [7,12] n (fun kk v iv wr=>∃ (i:Nat) (h:Nat→Nat),kk+i=n∧iv = .int .i64 i∧Hid (SqInv w wr n i v h m)∧Hid (Blk wr b6 81 #[.slice none 0 0]))
 case atStart=>exact ⟨0,fun _=>0,by omega,rfl,⟨World.ownsRow_nil _ _ _ _,fun j hj=>by omega,fun j k hj=>by omega,fun j hj=>by omega,HX0.out⟩,HK0⟩
 obtain ⟨i,h,hki,rfl,HI,HK⟩:=hrel
 clear HK0 HX0
 by_cases hin:i < n
 ·obtain ⟨cs,hmk,hrow⟩:=zAs (n:Int) n rfl om wr
  have HMk:=zH hrow
  clear hrow
  go_wp2
  obtain ⟨W1,hW1⟩:∃ W1,wr.alloc (.cells cs 49)=W1:=⟨_,rfl⟩
  rw [hW1] at HMk
  rw [hW1]
  have hX1:Ext wr W1:=by rw [← hW1];exact (Ext.refl wr).alloc _
  have HX1:=zH hX1
  have HXw:=zH (HI.out.ext.trans hX1)
  have hlo:w.heap.size≤wr.heap.size:=HI.out.ext.size
  obtain ⟨hr,hhr⟩:∃ hr,wr.heap.size=hr:=⟨_,rfl⟩
  have HHr:=zH hhr
  rw [hhr] at HMk hlo
  rw [hhr]
  clear hW1 hX1 hmk hhr
  go_loopg [19] n (fun kk jv wi=>∃ j:Nat,kk+j=n∧jv = .int .i64 j∧Hid (MRow wi hr n (fun j'=>if j' < j then m i j' else 0))∧Hid (ExtBut (fun x=>x=hr) W1 wi))
  case atStart=>exact ⟨0,by omega,rfl,HMk.out.congr (fun j hj=>by simp),ExtBut.refl _ _⟩
  obtain ⟨j,hkj,rfl,HR,HE⟩:=hrel
  by_cases hjn:j < n
  ·have HC:=zH (HEnt.out i j wr hin hjn (HXw.out.but HE.out (by rintro g rfl;exact hlo)))
   obtain ⟨ng0,A0,k0,c1,c2,_⟩:=HR.out.cells j hjn
   have f1:=HR.out.free (j*2)
   have f2:=HR.out.free (j*2+1)
   have hlt:=HR.out.lt
   go_wp2_with fail
   refine HC.out.mono ?_
   rintro e w2 ⟨ng,A2,k2,rfl,hz,hx⟩
   replace f1:=hx.free f1 (zAA c1)
   replace c1:=hx.cell c1
   replace f2:=hx.free f2 (zAA c2)
   replace c2:=hx.cell c2
   have HR2:=zH ((HR.out.ext hx).set_ hjn hz)
   have HE2:=zH (HE.out.ext hx)
   clear hz hx HC HR HE
   have HX3:Hid (ExtBut (fun x=>x=hr) W1 ((w2.setCell ⟨hr,j*2,none⟩ (.bool ng)).setCell ⟨hr,j*2+1,none⟩ (.slice A2 k2 k2))):=(HE2.out.setCell (p:=⟨hr,j*2,none⟩) (.inl rfl) _).setCell (p:=⟨hr,j*2+1,none⟩) (.inl rfl) _
   have HR3:Hid (MRow ((w2.setCell ⟨hr,j*2,none⟩ (.bool ng)).setCell ⟨hr,j*2+1,none⟩ (.slice A2 k2 k2)) hr n (fun j'=>if j' < j+1 then m i j' else 0)) :=
    HR2.out.congr fun j' _=>by
     by_cases e:j'=j
     ·subst e;rw [if_pos rfl,if_pos om]
     ·rw [if_neg e]
      by_cases e2:j' < j
      ·rw [if_pos e2,if_pos om]
      ·rw [if_neg e2,if_neg om]
   clear HR2 HE2
   go_wp2
   go_roundg (gk - 1)
   case measure=>omega
   case rel=>exact ⟨j+1,by omega,by go_num,HR3,HX3⟩
  ·obtain rfl:n=j:=by omega
   obtain ⟨ii,hii,hz0,hz1,hz2⟩:∃ ii,Tryz.prog.info? 41=some ii∧ii.zero=some (.slice none 0 0)∧ii.size=1∧ii.bytes=24:=⟨i0,HI0.out⟩
   have HTy:=zH HR.out.typ
   have HKn:Hid (Blk wr b6 81 #[.slice none 0 0]):=(HE.out.block b6 (HK.out.ext HX1.out).lt (by have h1:=HK.out.lt;have h2:=HHr.out;intro e;omega)).trans (HK.out.ext HX1.out)
   have hlt:=HR.out.lt
   have HOwn:Hid (wr.ownsRow w.heap.size 41 1 u7 i ((List.range i).map fun j=>Value.slice (some ⟨h j,0,none⟩) n n)):=by
    refine (HI.out.own.kept (row:=none) ?_ (by cases u7.ownBlock <;> simp)).kept HE.out.grown ?_
    ·exact ⟨Below.os HX1.out,Below.tape HX1.out,Below.output HX1.out,HX1.out.size,fun k hk _=>Below.block HX1.out k hk⟩
    ·rcases hob:u7.ownBlock with _|g
     ·exact .inl rfl
     ·refine .inr ?_
      have:=HI.out.own.lt g hob
      have:=HHr.out
      intro e;injection e with e;omega
   have HRows:Hid (∀ j,j < i→MRow wr (h j) n (m j)):=fun j hj =>
    ((HI.out.row j hj).ext HX1.out).but HE.out (by have:=(HI.out.row j hj).lt;have:=HHr.out;omega) HMk.out.typ
   have HNew:Hid (MRow wr hr n (m i)):=HR.out.congr fun j' hj'=>if_pos hj'
   have HXn:=zH (HXw.out.but HE.out (by rintro g rfl;exact hlo))
   clear HR HE
   have hws:w.heap.size≤wr.heap.size:=HXn.out.size
   go_wp2_with (at_builtin;refine wpList_append_own _ rfl _ _ 79 rfl w.heap.size 41 ii (.slice none 0 0) 1 24 Tryz.underlying79 hii hz0 hz1 hz2 rfl (by decide) _ _ _ rfl (HOwn.out.alloc _) ⟨wr.heap.size,0,none⟩ 1 1 [.slice (some ⟨hr,0,none⟩) n n] rfl rfl ?c1 ?c2 ?c3 ?c4 ?c5 ?_)
   case c1=>exact cell_one_new _ _ _
   case c2=>intro u hu;rw [List.mem_singleton.1 hu];rfl
   case c3=>unfold maxLen;omega
   case c4=>omega
   case c5=>simp only [World.size_alloc];omega
   intro v' w5 hown' hgrow _
   have hOwnA:=HOwn.out.alloc (.cells #[.slice (some ⟨hr,0,none⟩) n n] 41)
   have hk104:∀ b,TB (wr.alloc (.cells #[.slice (some ⟨hr,0,none⟩) n n] 41)) 49 b→w5.heap[b]? = (wr.alloc (.cells #[.slice (some ⟨hr,0,none⟩) n n] 41)).heap[b]?:=fun b hb=>zAR hOwnA hgrow hb (by decide)
   have hk32:∀ b,TB (wr.alloc (.cells #[.slice (some ⟨hr,0,none⟩) n n] 41)) 133 b→w5.heap[b]? = (wr.alloc (.cells #[.slice (some ⟨hr,0,none⟩) n n] 41)).heap[b]?:=fun b hb=>zAR hOwnA hgrow hb (by decide)
   have hXA:Ext wr (wr.alloc (.cells #[.slice (some ⟨hr,0,none⟩) n n] 41)):=(Ext.refl wr).alloc _
   have HS:Hid (SqInv w w5 n (i+1) v' (fun j=>if j=i then hr else h j) (m)):=by
    refine ⟨?_,fun j hj=>?_,fun j k hj hk e=>?_,fun j hj=>?_,?_⟩
    ·rw [← zBF i (fun j=>Value.slice (some ⟨h j,0,none⟩) n n) _ (.slice (some ⟨hr,0,none⟩) n n) (fun j hj=>by simp only [if_neg (show ¬ j=i by omega)]) (by simp)]
     exact hown'
    ·by_cases e:j=i
     ·subst e
      simp only [if_true]
      exact (HNew.out.ext hXA).typed (hk104 _ (HNew.out.ext hXA).typ) hk32
     ·simp only [if_neg e]
      have h2:=(HRows.out j om).ext hXA
      exact h2.typed (hk104 _ h2.typ) hk32
    ·by_cases e1:j=i <;> by_cases e2:k=i
     ·omega
     ·rw [if_pos e1,if_neg e2] at e
      have h1:=(HI.out.row k om).lt
      have h2:=HHr.out
      omega
     ·rw [if_neg e1,if_pos e2] at e
      have h1:=(HI.out.row j om).lt
      have h2:=HHr.out
      omega
     ·rw [if_neg e1,if_neg e2] at e
      exact HI.out.inj j k om om e
    ·by_cases e1:j=i
     ·simp only [if_pos e1];exact hlo
     ·simp only [if_neg e1];exact HI.out.low j om
    ·exact (HXn.out.alloc _).grown hgrow (fun k hk=>(hOwnA.lt k hk).1)
   have hbA:Blk (wr.alloc (.cells #[.slice (some ⟨hr,0,none⟩) n n] 41)) b6 81 #[.slice none 0 0]:=HKn.out.ext hXA
   have HK5:Hid (Blk w5 b6 81 #[.slice none 0 0]):=(zAR hOwnA hgrow hbA.typ (by decide)).trans hbA
   clear hbA hown' hgrow hOwnA hk104 hk32 hXA
   go_wp2
   go_roundg (n - (i+1))
   case measure=>omega
   case rel=>exact ⟨i+1,_,by omega,by go_num,HS,HK5⟩
 ·obtain rfl:n=i:=by omega
  rcases HI.out.own.2 with ⟨_,h0⟩|⟨g,cap,cur,rfl,hg,hh,hnc,hcm,hcs,hct⟩
  ·omega
  ·have HM:Hid (MatZ wr w.heap.size g n h (m)):=by
    refine ⟨fun i hi=>?_,HI.out.row,HI.out.inj,HI.out.low,hg,⟨_,_,hh⟩⟩
    have h1:=HI.out.own.cells (g:=g) rfl i (.slice (some ⟨h i,0,none⟩) n n) (by simp [hi])
    rw [← h1]
    unfold Addr.add
    split
    ·subst_vars;rfl
    ·simp
   have HX:=zH HI.out.ext
   have HBx:=zH HB6.out
   have c6:=HK.out.cell 0 rfl
   have f6:=HK.out.free 0
   clear hh hcs hct HI
   go_wp2
   exact bodyPost_ret (v:=.agg #[.slice (some ⟨g,0,none⟩) n cap]) (by simp [results,Tryz.results81,go_sem,c6,f6]) rfl ⟨g,cap,h,rfl,hnc,HM.out.farB HK.out.typ (by decide) (by decide) (by decide) _,HX.out.setCell (p:=⟨b6,0,none⟩) (by have:=HBx.out;simp only [];omega) _⟩
theorem Tryz.infoInt:(Tryz.prog.info? 3).map (fun i=>(i.zero,i.size,i.bytes))=some (some (.int .i64 0),1,8):=by kernel_rfl
set_option maxHeartbeats 1000000 in
theorem lengths_any (g n c:Nat) (h:Nat→Nat) (w:World) (hn1:1≤n) (hn8:n≤100) (hcell:∀ i,i < n→w.cell? ⟨g,i,none⟩=some (.slice (some ⟨h i,0,none⟩) n n)) :
  Calls Tryz.prog 219 #[.slice (some ⟨g,0,none⟩) n c] w fun e w'=>∃ g' cap,e = .returned (.slice (some ⟨g',0,none⟩) n cap)∧(∀ i,i < n→w'.cell? ⟨g',i,none⟩=some (.int .i64 n))∧Ext w w':=by
 have HC:=zH hcell
 obtain ⟨i0,hi,hz0,hz1,hz2⟩:=info_parts Tryz.infoInt
 have HI0:=zH (show Tryz.prog.info? 3=some i0∧i0.zero=some (.int .i64 0)∧i0.size=1∧i0.bytes=8 from ⟨hi,hz0,hz1,hz2⟩)
 clear hcell hi hz0 hz1 hz2
 go_enter Tryz.func219,Tryz.ntmps219
 go_wp2
 go_loopg [3,7] n (fun kk v iv wr=>∃ i:Nat,kk+i=n∧iv = .int .i64 i∧Hid (wr.ownsRow w.heap.size 3 1 v i ((List.range i).map fun _=>Value.int .i64 n))∧Hid (Ext w wr))
 case atStart=>exact ⟨0,by omega,rfl,World.ownsRow_nil _ _ _ _,Ext.refl _⟩
 obtain ⟨i,hki,rfl,HO,HX⟩:=hrel
 by_cases hin:i < n
 ·have cI:=HX.out.cell (HC.out i hin)
  have l1:=zAA cI
  obtain ⟨ii,hii,hz0,hz1,hz2⟩:∃ ii,Tryz.prog.info? 3=some ii∧ii.zero=some (.int .i64 0)∧ii.size=1∧ii.bytes=8:=⟨i0,HI0.out⟩
  have hws:w.heap.size≤wr.heap.size:=HX.out.size
  go_wp2_with (at_builtin;refine wpList_append_own _ rfl _ _ 118 rfl w.heap.size 3 ii (.int .i64 0) 1 8 Tryz.underlying118 hii hz0 hz1 hz2 rfl (by decide) _ _ _ rfl (HO.out.alloc _) ⟨wr.heap.size,0,none⟩ 1 1 [.int .i64 n] rfl rfl ?c1 ?c2 ?c3 ?c4 ?c5 ?_)
  case c2=>first|rfl|(intro u hu;rw [List.mem_singleton.1 hu];rfl)
  case c3=>unfold maxLen;omega
  case c4=>omega
  case c5=>(try simp only [World.size_alloc]);omega
  intro v' w5 hown' hgrow _
  have HO5:Hid (w5.ownsRow w.heap.size 3 1 v' (i+1) ((List.range (i+1)).map fun _=>Value.int .i64 n)):=by
   rw [List.range_succ,List.map_append];exact hown'
  have HX5:Hid (Ext w w5):=(HX.out.alloc _).grown hgrow (fun k hk=>(HO.out.lt k hk).1)
  clear hown' hgrow hii hz0 hz1 hz2 cI
  go_wp2
  go_roundg (n - (i+1))
  case measure=>omega
  case rel=>exact ⟨i+1,by omega,by go_num,HO5,HX5⟩
 ·obtain rfl:n=i:=by omega
  rcases HO.out.2 with ⟨_,h0⟩|⟨g',cap,cur,rfl,hg,hh,hnc,hcm,hcs,hct⟩
  ·omega
  ·have HM:Hid (∀ i,i < n→wr.cell? ⟨g',i,none⟩=some (.int .i64 n)):=fun i hi=>by
    have h1:=HO.out.cells (g:=g') rfl i (.int .i64 n) (by simp [hi])
    rw [← h1]
    unfold Addr.add
    split
    ·subst_vars;rfl
    ·simp
   clear hh hcs hct HO
   go_wp2
   go_ret
   exact ⟨g',cap,rfl,HM.out,HX.out⟩
theorem shaped_any (g n c:Nat) (w:World) (hn1:1≤n) (hn8:n≤16) (hcell:∀ i,i < n→w.cell? ⟨g,i,none⟩=some (.int .i64 n)) :
  Calls Tryz.prog 79 #[.slice (some ⟨g,0,none⟩) n c] w fun e w'=>e = .returned (.bool true)∧w=w':=by
 have HC:=zH hcell
 have c0:=hcell 0 om
 have l0:=zAA c0
 have hb1:¬ (16:Int) < (n:Int):=by omega
 have hb2:¬ (n:Int) < 1:=by omega
 clear hcell
 go_enter Tryz.func79,Tryz.ntmps79
 go_wp2
 go_loopg [7] n (fun kk iv wr=>∃ i:Nat,kk+i=n∧iv = .int .i64 i∧wr=w)
 case atStart=>exact ⟨0,by omega,rfl,rfl⟩
 obtain ⟨i,hki,rfl,rfl⟩:=hrel
 by_cases hin:i < n
 ·have cI:=HC.out i hin
  go_wp2
  go_roundg (n - (i+1))
  case measure=>omega
  case rel=>exact ⟨i+1,by omega,by go_num,rfl⟩
 ·obtain rfl:n=i:=by omega
  go_wp2
  go_ret
  exact ⟨rfl,rfl⟩
end Go.Proofs.YtdkgilioejdmeaaGreat
namespace Go.Proofs.YtdkgilioejdmeaaGreat
open Go Go.RowKit
section
variable {P:Program} {ops:Array Oper} {Q:Exit→Act→World→Prop} {md:Region.Mode} {S:World→Prop} {n:List Nat}
def closedB (md:Region.Mode) (ops:Array Oper) (L:Array Bool):Bool :=
 (List.range ops.size).all fun j=>!(L.getD j false) || ((ops[j]?).map (·.after.all fun e=>!Region.binds md e || L.getD e.on false)).getD true
theorem zC3 {L:Array Bool} (h:closedB md ops L=true):Closed md ops L:=by
 intro j oj hoj hl e he hb
 have hj:j < ops.size:=(Array.getElem?_eq_some_iff.1 hoj).1
 have h1:=List.all_eq_true.1 h j (List.mem_range.2 hj)
 rw [hoj,hl] at h1
 simp only [Bool.not_true,Bool.false_or,Option.map_some,Option.getD_some] at h1
 have h2:=(Array.all_eq_true'.1 h1) e he
 rw [hb] at h2
 simpa using h2
def AlOK (T:TypeId) (zs:Array Value) (B:Nat) (w:World) (l:Bool) (v:Value):Prop:=l=true→∃ b,v = .pointer (some ⟨b,0,none⟩)∧B≤b∧Blk w b T zs
theorem AlOK.ext {T:TypeId} {zs:Array Value} {B:Nat} {w w':World} {l:Bool} {v:Value} (h:AlOK T zs B w l v) (hx:Ext w w'):AlOK T zs B w' l v:=fun e=>by
 obtain ⟨b,h1,h2,h3⟩:=h e
 exact ⟨b,h1,h2,h3.ext hx⟩
theorem AlOK.no {T:TypeId} {zs:Array Value} {B:Nat} {w:World} {v:Value}:AlOK T zs B w false v:=fun e=>by cases e
def fl (l:Bool):Nat:=if l then 0 else 1
theorem wpAnyU_al1 {F:List Nat} {c al:Nat} {oc oal:Oper} {fuel:Nat} {L:Bool→Array Bool} {A:Value→Act} {T:TypeId} {zs:Array Value} (w0:World) (B:Nat) (hB:B≤w0.heap.size)
  (hoc:ops[c]? = some oc) (hoal:ops[al]? = some oal)
  (hrd:∀ l,((Region.ready md ops (L l)).all fun i=>i == c || (i == al && !l))=true)
  (hne:∀ l,(Region.ready md ops (L l)).isEmpty=false)
  (hL:(L false).setIfInBounds al true=L true)
  (hcl:∀ l,closedB md ops (L l)=true)
  (hal:∀ v w (K':Act→World→Prop),K' (A (.pointer (some ⟨w.heap.size,0,none⟩))) (w.alloc (.cells zs T))→if Region.wanted oal (yielded ops (A v).tmps)=true then Oper.wp P oal (A v) w K' Q else K' ((A v).put oal.dst undef) w)
  (hS:∀ w',Ext w0 w'→S w')
  (h:∀ l v w',Ext w0 w'→AlOK T zs B w' l v→(Region.ready md ops (L l)).contains c=true→∀ K':Act→World→Prop,
   Shut (∀ a w'',owed n F S c w' w''→(Closed md ops ((L l).setIfInBounds c true)→wpAnyU P md ops Q S n F (fl l+fuel) ((L l).setIfInBounds c true) a w'')→K' a w'') →
   if Region.wanted oc (yielded ops (A v).tmps)=true then Oper.wp P oc (A v) w' K' Q else K' ((A v).put oc.dst undef) w') :
  ∀ l v w,Ext w0 w→AlOK T zs B w l v→wpAnyU P md ops Q S n F (fl l+(fuel+1)) (L l) (A v) w:=by
 have step:∀ l v w K,Ext w0 w→AlOK T zs B w l v→c∈Region.ready md ops (L l)→(∀ a w'',owed n F S c w w''∧wpAnyU P md ops Q S n F (fl l+fuel) ((L l).setIfInBounds c true) a w''→K a w'')→wpOp P ops Q c K (A v) w:=by
  intro l v w K hx hb hc hK
  have hC2:=(zC3 (hcl l)).set hc
  exact wpOp_step hoc fun K' hK'=>h l v w hx hb (by simpa using hc) K' (fun a w'' h1 h2=>hK' a w'' (hK a w'' ⟨h1,h2 hC2⟩))
 have one:∀ v w,Ext w0 w→AlOK T zs B w true v→wpAnyU P md ops Q S n F (fl true+(fuel+1)) (L true) (A v) w:=by
  intro v w hx hb
  show wpAnyU P md ops Q S n F (0+(fuel+1)) (L true) (A v) w
  rw [Nat.zero_add]
  refine ⟨fun h0=>(by have:=hne true;rw [h0] at this;cases this),fun i hi=>?_⟩
  have h1:=List.all_eq_true.1 (hrd true) i hi
  simp only [Bool.not_true,Bool.and_false,Bool.or_false,beq_iff_eq] at h1
  subst h1
  exact step true v w _ hx hb hi fun a w'' hh=>by have:=hh.2;rw [show fl true+fuel=fuel from Nat.zero_add fuel] at this;exact ⟨hh.1,this⟩
 intro l v w hx hb
 cases l with
 | true=>exact one v w hx hb
 | false =>
  show wpAnyU P md ops Q S n F (1+(fuel+1)) (L false) (A v) w
  rw [Nat.add_comm 1]
  refine ⟨fun h0=>(by have:=hne false;rw [h0] at this;cases this),fun i hi=>?_⟩
  have h1:=List.all_eq_true.1 (hrd false) i hi
  simp only [Bool.not_false,Bool.and_true,Bool.or_eq_true,beq_iff_eq] at h1
  rcases h1 with rfl|rfl
  ·exact step false v w _ hx hb hi fun a w'' hh=>by have:=hh.2;rw [show fl false+fuel=fuel+1 from Nat.add_comm 1 fuel] at this;exact ⟨hh.1,this⟩
  ·have hx2:Ext w0 (w.alloc (.cells zs T)):=hx.alloc _
   refine wpOp_step hoal fun K' hK'=>hal v w K' (hK' _ _ ⟨fun _ _=>hS _ hx2,?_⟩)
   rw [hL]
   have:=one (.pointer (some ⟨w.heap.size,0,none⟩)) (w.alloc (.cells zs T)) hx2 (fun _=>⟨_,rfl,Nat.le_trans hB hx.size,Blk.new _ _ _⟩)
   rw [show fl true+(fuel+1)=fuel+1 from Nat.zero_add _] at this
   exact this
theorem wpAnyU_al2 {F:List Nat} {c al am:Nat} {oc oal oam:Oper} {fuel:Nat} {L:Bool→Bool→Array Bool} {A:Value→Value→Act} {T U:TypeId} {zs us:Array Value} (w0:World) (B:Nat) (hB:B≤w0.heap.size)
  (hoc:ops[c]? = some oc) (hoal:ops[al]? = some oal) (hoam:ops[am]? = some oam)
  (hrd:∀ l m,((Region.ready md ops (L l m)).all fun i=>i == c || (i == al && !l) || (i == am && !m))=true)
  (hne:∀ l m,(Region.ready md ops (L l m)).isEmpty=false)
  (hL:∀ m,(L false m).setIfInBounds al true=L true m) (hM:∀ l,(L l false).setIfInBounds am true=L l true)
  (hcl:∀ l m,closedB md ops (L l m)=true)
  (hal:∀ v x w (K':Act→World→Prop),K' (A (.pointer (some ⟨w.heap.size,0,none⟩)) x) (w.alloc (.cells zs T))→if Region.wanted oal (yielded ops (A v x).tmps)=true then Oper.wp P oal (A v x) w K' Q else K' ((A v x).put oal.dst undef) w)
  (ham:∀ v x w (K':Act→World→Prop),K' (A v (.pointer (some ⟨w.heap.size,0,none⟩))) (w.alloc (.cells us U))→if Region.wanted oam (yielded ops (A v x).tmps)=true then Oper.wp P oam (A v x) w K' Q else K' ((A v x).put oam.dst undef) w)
  (hS:∀ w',Ext w0 w'→S w')
  (h:∀ l m v x w',Ext w0 w'→AlOK T zs B w' l v→AlOK U us B w' m x→(l=true→m=true→v≠x)→(Region.ready md ops (L l m)).contains c=true→∀ K':Act→World→Prop,
   Shut (∀ a w'',owed n F S c w' w''→(Closed md ops ((L l m).setIfInBounds c true)→wpAnyU P md ops Q S n F (fl l+(fl m+fuel)) ((L l m).setIfInBounds c true) a w'')→K' a w'') →
   if Region.wanted oc (yielded ops (A v x).tmps)=true then Oper.wp P oc (A v x) w' K' Q else K' ((A v x).put oc.dst undef) w') :
  ∀ l m v x w,Ext w0 w→AlOK T zs B w l v→AlOK U us B w m x→(l=true→m=true→v≠x)→wpAnyU P md ops Q S n F (fl l+(fl m+(fuel+1))) (L l m) (A v x) w:=by
 have key:∀ t l m v x w,fl l+fl m=t→Ext w0 w→AlOK T zs B w l v→AlOK U us B w m x→(l=true→m=true→v≠x)→wpAnyU P md ops Q S n F (t+fuel+1) (L l m) (A v x) w:=by
  intro t
  induction t with
  | zero =>
   intro l m v x w ht hx hb hc hne2
   refine ⟨fun h0=>(by have:=hne l m;rw [h0] at this;cases this),fun i hi=>?_⟩
   have hl:l=true:=by cases l with|true=>rfl|false=>simp [fl] at ht
   have hm:m=true:=by cases m with|true=>rfl|false=>simp [fl] at ht
   subst hl hm
   have h1:=List.all_eq_true.1 (hrd true true) i hi
   simp only [Bool.not_true,Bool.and_false,Bool.or_false,beq_iff_eq] at h1
   subst h1
   have hC2:=(zC3 (hcl true true)).set hi
   refine wpOp_step hoc fun K' hK'=>h true true v x w hx hb hc hne2 (by simpa using hi) K' (fun a w'' g1 g2=>hK' a w'' ⟨g1,?_⟩)
   have:=g2 hC2
   rw [show fl true+(fl true+fuel)=0+fuel by simp [fl]] at this
   exact this
  | succ t ih =>
   intro l m v x w ht hx hb hc hne2
   rw [show t+1+fuel+1=(t+fuel+1)+1 by omega]
   refine ⟨fun h0=>(by have:=hne l m;rw [h0] at this;cases this),fun i hi=>?_⟩
   have h1:=List.all_eq_true.1 (hrd l m) i hi
   simp only [Bool.or_eq_true,Bool.and_eq_true,beq_iff_eq,Bool.not_eq_true'] at h1
   rcases h1 with (rfl|⟨rfl,rfl⟩)|⟨rfl,rfl⟩
   ·have hC2:=(zC3 (hcl l m)).set hi
    refine wpOp_step hoc fun K' hK'=>h l m v x w hx hb hc hne2 (by simpa using hi) K' (fun a w'' g1 g2=>hK' a w'' ⟨g1,?_⟩)
    have:=g2 hC2
    rw [show fl l+(fl m+fuel)=t+fuel+1 by omega] at this
    exact this
   ·have hx2:Ext w0 (w.alloc (.cells zs T)):=hx.alloc _
    refine wpOp_step hoal fun K' hK'=>hal v x w K' (hK' _ _ ⟨fun _ _=>hS _ hx2,?_⟩)
    rw [hL]
    refine ih true m _ x _ (by simp [fl] at ht ⊢;omega) hx2 (fun _=>⟨_,rfl,Nat.le_trans hB hx.size,Blk.new _ _ _⟩) (hc.ext ((Ext.refl _).alloc _)) (fun _ em e=>?_)
    obtain ⟨b,e1,_,e2⟩:=hc em
    rw [e1] at e
    injection e with e;injection e with e;injection e with e
    have:=e2.lt;omega
   ·have hx2:Ext w0 (w.alloc (.cells us U)):=hx.alloc _
    refine wpOp_step hoam fun K' hK'=>ham v x w K' (hK' _ _ ⟨fun _ _=>hS _ hx2,?_⟩)
    rw [hM]
    refine ih l true v _ _ (by simp [fl] at ht ⊢;omega) hx2 (hb.ext ((Ext.refl _).alloc _)) (fun _=>⟨_,rfl,Nat.le_trans hB hx.size,Blk.new _ _ _⟩) (fun el _ e=>?_)
    obtain ⟨b,e1,_,e2⟩:=hb el
    rw [e1] at e
    injection e with e;injection e with e;injection e with e
    have:=e2.lt;omega
 intro l m v x w hx hb hc hne2
 have:=key (fl l+fl m) l m v x w rfl hx hb hc hne2
 rw [show fl l+(fl m+(fuel+1))=fl l+fl m+fuel+1 by omega]
 exact this
theorem put_self (a:Act) (d:Nat):a.put (some d) (a.tmps.getD d undef)=a:=by
 cases a with
 | mk t df =>
  show Act.mk (t.setIfInBounds d (t.getD d undef)) df=Act.mk t df
  congr 1
  apply Array.ext
  ·simp
  ·intro i h1 h2
   by_cases e:d=i
   ·subst e;simp [Array.getElem_setIfInBounds,Array.getD,h2]
   ·have h3:i < t.size:=h2
    rw [show (t.setIfInBounds d (t.getD d undef))[i]=t[i] from Array.getElem_setIfInBounds_ne h3 e]
theorem zAj {F:List Nat} {c al d:Nat} {oc oal:Oper} {fuel:Nat} {L:Bool→Array Bool} {a:Act} {T:TypeId} {zs:Array Value} (w0:World) (B:Nat) (hB:B≤w0.heap.size)
  (hoc:ops[c]? = some oc) (hoal:ops[al]? = some oal)
  (hrd:∀ l,((Region.ready md ops (L l)).all fun i=>i == c || (i == al && !l))=true)
  (hne:∀ l,(Region.ready md ops (L l)).isEmpty=false)
  (hL:(L false).setIfInBounds al true=L true)
  (hcl:∀ l,closedB md ops (L l)=true)
  (hal:∀ v w (K':Act→World→Prop),K' (a.put (some d) (.pointer (some ⟨w.heap.size,0,none⟩))) (w.alloc (.cells zs T))→if Region.wanted oal (yielded ops (a.put (some d) v).tmps)=true then Oper.wp P oal (a.put (some d) v) w K' Q else K' ((a.put (some d) v).put oal.dst undef) w)
  (hS:∀ w',Ext w0 w'→S w')
  (h:∀ l v w',Ext w0 w'→AlOK T zs B w' l v→(Region.ready md ops (L l)).contains c=true→∀ K':Act→World→Prop,
   Shut (∀ a w'',owed n F S c w' w''→(Closed md ops ((L l).setIfInBounds c true)→wpAnyU P md ops Q S n F (fl l+fuel) ((L l).setIfInBounds c true) a w'')→K' a w'') →
   if Region.wanted oc (yielded ops (a.put (some d) v).tmps)=true then Oper.wp P oc (a.put (some d) v) w' K' Q else K' ((a.put (some d) v).put oc.dst undef) w')
  (l:Bool) (w:World) (hx:Ext w0 w) (hb:AlOK T zs B w l (a.tmps.getD d undef)):wpAnyU P md ops Q S n F (fl l+(fuel+1)) (L l) a w:=by
 have:=wpAnyU_al1 (A:=fun v=>a.put (some d) v) w0 B hB hoc hoal hrd hne hL hcl hal hS h l (a.tmps.getD d undef) w hx hb
 simp only [put_self] at this
 exact this
theorem put_self2 (a:Act) (d d':Nat):(a.put (some d) (a.tmps.getD d undef)).put (some d') (a.tmps.getD d' undef)=a:=by rw [put_self,put_self]
theorem zBH {F:List Nat} {c al am d d2:Nat} {oc oal oam:Oper} {fuel:Nat} {L:Bool→Bool→Array Bool} {a:Act} {T U:TypeId} {zs us:Array Value} (w0:World) (B:Nat) (hB:B≤w0.heap.size)
  (hoc:ops[c]? = some oc) (hoal:ops[al]? = some oal) (hoam:ops[am]? = some oam)
  (hrd:∀ l m,((Region.ready md ops (L l m)).all fun i=>i == c || (i == al && !l) || (i == am && !m))=true)
  (hne:∀ l m,(Region.ready md ops (L l m)).isEmpty=false)
  (hL:∀ m,(L false m).setIfInBounds al true=L true m) (hM:∀ l,(L l false).setIfInBounds am true=L l true)
  (hcl:∀ l m,closedB md ops (L l m)=true)
  (hal:∀ v x w (K':Act→World→Prop),K' ((a.put (some d) (.pointer (some ⟨w.heap.size,0,none⟩))).put (some d2) x) (w.alloc (.cells zs T))→if Region.wanted oal (yielded ops ((a.put (some d) v).put (some d2) x).tmps)=true then Oper.wp P oal ((a.put (some d) v).put (some d2) x) w K' Q else K' (((a.put (some d) v).put (some d2) x).put oal.dst undef) w)
  (ham:∀ v x w (K':Act→World→Prop),K' ((a.put (some d) v).put (some d2) (.pointer (some ⟨w.heap.size,0,none⟩))) (w.alloc (.cells us U))→if Region.wanted oam (yielded ops ((a.put (some d) v).put (some d2) x).tmps)=true then Oper.wp P oam ((a.put (some d) v).put (some d2) x) w K' Q else K' (((a.put (some d) v).put (some d2) x).put oam.dst undef) w)
  (hS:∀ w',Ext w0 w'→S w')
  (h:∀ l m v x w',Ext w0 w'→AlOK T zs B w' l v→AlOK U us B w' m x→(l=true→m=true→v≠x)→(Region.ready md ops (L l m)).contains c=true→∀ K':Act→World→Prop,
   Shut (∀ a w'',owed n F S c w' w''→(Closed md ops ((L l m).setIfInBounds c true)→wpAnyU P md ops Q S n F (fl l+(fl m+fuel)) ((L l m).setIfInBounds c true) a w'')→K' a w'') →
   if Region.wanted oc (yielded ops ((a.put (some d) v).put (some d2) x).tmps)=true then Oper.wp P oc ((a.put (some d) v).put (some d2) x) w' K' Q else K' (((a.put (some d) v).put (some d2) x).put oc.dst undef) w')
  (l m:Bool) (w:World) (hx:Ext w0 w) (hb:AlOK T zs B w l (a.tmps.getD d undef)) (hc:AlOK U us B w m (a.tmps.getD d2 undef)) (hvx:l=true→m=true→a.tmps.getD d undef≠a.tmps.getD d2 undef) :
  wpAnyU P md ops Q S n F (fl l+(fl m+(fuel+1))) (L l m) a w:=by
 have:=wpAnyU_al2 (A:=fun v x=>(a.put (some d) v).put (some d2) x) w0 B hB hoc hoal hoam hrd hne hL hM hcl hal ham hS h l m (a.tmps.getD d undef) (a.tmps.getD d2 undef) w hx hb hc hvx
 simp only [put_self2] at this
 exact this
end
end Go.Proofs.YtdkgilioejdmeaaGreat
namespace Go.Proofs.YtdkgilioejdmeaaGreat
open Go.RowKit
theorem makeEnt (bx g n c:Nat) (h:Nat→Nat) (m:Nat→Nat→Int) (i j:Nat) (w:World) (hn:n≤100) (hi:i < n) (hj:j < n) (cb:w.cell? ⟨bx,0,none⟩=some (.slice (some ⟨g,0,none⟩) n c)) (cI:w.cell? ⟨g,i,none⟩=some (.slice (some ⟨h i,0,none⟩) n n)) (hrow:MRow w (h i) n (m i)) :
  Calls Tryz.prog 220 #[.int .i64 i,.int .i64 j,.pointer (some ⟨bx,0,none⟩)] w fun e w'=>∃ ng A k,e = .returned (.agg #[.bool ng,.slice A k k])∧IsInt w' ng A k (m i j)∧Ext w w':=by
 obtain ⟨nz,Az,kz,cz1,cz2,iz⟩:=hrow.cells j hj
 have HI:=zH iz
 have l1:=zAA cb
 have l2:=zAA cI
 have l3:=zAA cz1
 clear hrow iz
 have key:Calls Tryz.prog 220 #[.int .i64 i,.int .i64 j,.pointer (some ⟨bx,0,none⟩)] w fun e w'=>e = .returned (.agg #[.bool nz,.slice Az kz kz])∧Ext w w':=by
  go_enter Tryz.func220,Tryz.ntmps220
  go_wp2
  exact bodyPost_ret (v:=.agg #[.bool nz,.slice Az kz kz]) (by simp [results,Tryz.results220,go_sem]) rfl ⟨rfl,(Ext.refl w).alloc _⟩
 exact key.mono fun e w' ⟨h1,h2⟩=>⟨nz,Az,kz,h1,HI.out.ext h2,h2⟩
theorem idEnt (i j:Nat) (w:World) (hi:i < 100) (hj:j < 100) :
  Calls Tryz.prog 188 #[.int .i64 i,.int .i64 j] w fun e w'=>∃ ng A k,e = .returned (.agg #[.bool ng,.slice A k k])∧IsInt w' ng A k (unitM i j)∧Ext w w':=by
 by_cases e:i=j
 ·subst e
  have HU:Hid (unitM i i=1):=by unfold unitM;exact if_pos rfl
  obtain ⟨W0,HWW0,hXW0,hsW0,c0a,f0a,c0b,f0b⟩:=bx2 w 49 (.bool false) (.slice none 0 0)
  have HX:=zH hXW0
  have HO:=zH (zBi 1 W0 om om)
  clear hXW0
  rw [HU.out]
  go_enter Tryz.func188,Tryz.ntmps188
  go_wp2_with (fail)
  rw [HWW0.out]
  refine HO.out.mono ?_
  rintro e w1 ⟨A,k,rfl,hi',hx⟩
  replace f0a:=hx.free f0a (zAA c0a)
  replace c0a:=hx.cell c0a
  replace f0b:=hx.free f0b (zAA c0b)
  replace c0b:=hx.cell c0b
  have hX:=zH (HX.out.trans hx)
  have HI:=zH hi'
  clear hx hi' HWW0 HO HX
  go_wp2
  obtain ⟨W2,hWW2⟩:∃ W2:World,(w1.setCell ⟨w.heap.size,0,none⟩ (.bool false)).setCell ⟨w.heap.size,1,none⟩ (.slice A k k)=W2:=⟨_,rfl⟩
  have z0a:W2.cell? ⟨w.heap.size,0,none⟩=some (.bool false):=by rw [← hWW2];simp [go_sem,c0a,c0b]
  have zf0a:W2.frozen? ⟨w.heap.size,0,none⟩=false:=by rw [← hWW2];simp [go_sem,f0a,f0b]
  have z0b:W2.cell? ⟨w.heap.size,1,none⟩=some (.slice A k k):=by rw [← hWW2];simp [go_sem,c0a,c0b]
  have zf0b:W2.frozen? ⟨w.heap.size,1,none⟩=false:=by rw [← hWW2];simp [go_sem,f0a,f0b]
  have znW2:∀ (A:Option Addr) (k n:Nat),IsNat w1 A k n→IsNat W2 A k n:=by intro A k n h;rw [← hWW2];exact ((h.setBool c0a _).setBox (by rw [World.cell?_setCell_other _ _ _ _ (by intro h;injection h with h1 h2;omega)];exact c0b) _)
  have zxW2:∀ a:World,Ext a w1→a.heap.size≤w.heap.size→Ext a W2:=by intro a h hs;rw [← hWW2];exact (by repeat (first|exact h|refine Ext.setCell ?_ (by first|(simp only [];omega)) _))
  have HWW2:=zH hWW2
  clear hWW2
  rw [HWW2.out]
  exact bodyPost_ret (v:=.agg #[.bool false,.slice A k k]) (by simp [results,Tryz.results188,go_sem,z0a,z0b]) rfl ⟨false,A,k,rfl,⟨znW2 _ _ _ HI.out.nat,HI.out.sign,HI.out.bits⟩,zxW2 w hX.out (Nat.le_refl _)⟩
 ·have HU:Hid (unitM i j=0):=by unfold unitM;exact if_neg (fun h=>e h.symm)
  have e2:(i:Int)≠(j:Int):=by omega
  rw [HU.out]
  have key:Calls Tryz.prog 188 #[.int .i64 i,.int .i64 j] w fun e w'=>e = .returned (.agg #[.bool false,.slice none 0 0])∧Ext w w':=by
   go_enter Tryz.func188,Tryz.ntmps188
   go_wp2
   exact bodyPost_ret (v:=.agg #[.bool false,.slice none 0 0]) (by simp [results,Tryz.results188,go_sem]) rfl ⟨rfl,(Ext.refl w).alloc _⟩
  exact key.mono fun e w' ⟨h1,h2⟩=>⟨false,none,0,h1,zBX _,h2⟩
set_option maxHeartbeats 2000000 in
theorem ident_any (n:Nat) (w:World) (hn1:1≤n) (hn:n≤16) :
  Calls Tryz.prog 139 #[.int .i64 n] w fun e w'=>∃ g cap h,e = .returned (.tuple #[.agg #[.slice (some ⟨g,0,none⟩) n cap],.int .i64 0])∧n≤cap∧MatZ w' w.heap.size g n h unitM∧Ext w w':=by
 obtain ⟨W0,HWW0,hXW0,hsW0,c0,f0⟩:=bx1 w 81 (.slice none 0 0)
 have HX:=zH hXW0
 have HM:=zH (made_id n unitM W0 hn1 om (fun i j W hi hj hx=>idEnt i j W om om))
 have hb1:¬ (16:Int) < (n:Int):=by omega
 have HB:Hid (Blk W0 w.heap.size 81 #[.slice none 0 0]):=by rw [← HWW0.out];exact Blk.new _ _ _
 clear hXW0
 go_enter Tryz.func139,Tryz.ntmps139
 go_wp2_with (fail)
 rw [HWW0.out]
 refine HM.out.mono ?_
 rintro e w1 ⟨g,cap,h,rfl,hnc,hm,hx⟩
 replace f0:=hx.free f0 (zAA c0)
 replace c0:=hx.cell c0
 have HX1:=zH (HX.out.trans hx)
 have HM1:=zH hm
 have HB1:=zH (HB.out.ext hx)
 have HS:=zH HX.out.size
 clear hx hm HWW0 HM HX HB
 go_wp2
 exact bodyPost_ret (v:=.tuple #[.agg #[.slice (some ⟨g,0,none⟩) n cap],.int .i64 0]) (by simp [results,Tryz.results139,go_sem,c0,f0]) rfl ⟨g,cap,h,rfl,hnc,by
  have h2:=HM1.out.farB HB1.out.typ (by decide) (by decide) (by decide) (o:=0) (.slice (some ⟨g,0,none⟩) n cap)
  exact ⟨h2.rows,h2.row,h2.inj,fun i hi=>Nat.le_trans HS.out (h2.low i hi),Nat.le_trans HS.out h2.glow,h2.typ⟩,HX1.out.setCell (p:=⟨w.heap.size,0,none⟩) (Nat.le_refl _) _⟩
set_option maxHeartbeats 2000000 in
theorem matMake_any (g n c:Nat) (h:Nat→Nat) (m:Nat→Nat→Int) (w:World) (hn1:1≤n) (hn:n≤16) (hcell:∀ i,i < n→w.cell? ⟨g,i,none⟩=some (.slice (some ⟨h i,0,none⟩) n n)) (hrow:∀ i,i < n→MRow w (h i) n (m i)) :
  Calls Tryz.prog 187 #[.slice (some ⟨g,0,none⟩) n c] w fun e w'=>∃ g' cap h',e = .returned (.tuple #[.agg #[.slice (some ⟨g',0,none⟩) n cap],.int .i64 0])∧n≤cap∧MatZ w' w.heap.size g' n h' m∧Ext w w':=by
 obtain ⟨W0,HWW0,hXW0,hsW0,c0,f0,c1,f1⟩:=bx11 w 79 81 (.slice (some ⟨g,0,none⟩) n c) (.slice none 0 0)
 have HX:=zH hXW0
 have HB:Hid (Blk W0 (w.heap.size+1) 81 #[.slice none 0 0]):=by
  rw [← HWW0.out]
  have:=Blk.new (w.alloc (.cells #[.slice (some ⟨g,0,none⟩) n c] 79)) 81 #[.slice none 0 0]
  rwa [World.size_alloc] at this
 have HC:=zH hcell
 have HLn:=zH (lengths_any g n c h W0 hn1 om (fun i hi=>hXW0.cell (hcell i hi)))
 have HMd:=zH (fun W (hx:Ext W0 W)=>made_make n w.heap.size m W hn1 om (fun i j V hi hj hv=>makeEnt w.heap.size g n c h m i j V om hi hj ((hx.trans hv).cell c0) (((hXW0.trans hx).trans hv).cell (hcell i hi)) ((hrow i hi).ext ((hXW0.trans hx).trans hv))))
 have hc0:=hXW0.cell (hcell 0 om)
 have HS:=zH hsW0
 have hne:¬ (n:Int)=0:=by omega
 have hmf:∀ (fn:Fn) (first cap:Array Value) (w:World),(Instr.makeFunc fn first cap).run Tryz.prog w = .ok (.func fn first cap) w:=fun _ _ _ _=>rfl
 clear hXW0 hcell hrow
 go_enter Tryz.func187,Tryz.ntmps187
 go_wp2_with (fail)
 rw [HWW0.out]
 clear HWW0
 refine HLn.out.mono ?_
 rintro e y1 ⟨gl,capl,rfl,hl,hx⟩
 have HSh:=zH (shaped_any gl n capl y1 hn1 hn hl)
 replace f0:=hx.free f0 (zAA c0)
 replace c0:=hx.cell c0
 replace f1:=hx.free f1 (zAA c1)
 replace c1:=hx.cell c1
 replace hc0:=hx.cell hc0
 have HX1:=zH hx
 have HB1:=zH (HB.out.ext hx)
 clear hl hx HLn
 go_wp2_with (fail)
 refine HSh.out.mono ?_
 rintro e w2 ⟨rfl,rfl⟩
 clear HSh HB
 have hn0:0 < n:=by omega
 have l1:=zAA c0
 have l2:=zAA hc0
 simp only at l1 l2
 have HMdW:=zH (fun W (hx:Ext y1 W)=>HMd.out W (HX1.out.trans hx))
 go_upto_region 5 with (fail)
 have HKeepT:=zH (fun (w':World) (hx:Ext y1 w')=>(show w'.cell? ⟨w.heap.size,0,none⟩=some (.slice (some ⟨g,0,none⟩) n c)∧w'.cell? ⟨g,0,none⟩=some (.slice (some ⟨h 0,0,none⟩) n n)∧w'.cell? ⟨w.heap.size+1,0,none⟩=some (.slice none 0 0) from ⟨hx.cell c0,hx.cell hc0,hx.cell c1⟩))
 refine rU HKeepT [8,9] [] 10 (fun hH hC=>?_)
 revert hC
 refine tk 0 10 hH ?_
 refine tk 1 10 hH ?_
 refine tk 2 10 hH ?_
 refine tk 3 10 hH ?_
 refine tk 4 10 hH ?_
 refine tk 5 10 hH ?_
 refine tk 6 10 hH ?_
 intro hC
 refine zAB hC (i:=7) Sg kr (fun K hK=>?_)
 go_simp
 (go_at_call 81;with_reducible refine Calls.mono (HMdW.out _ ?_) ?_;exact Ext.ua;rintro e w1 ⟨gM,capM,hM,rfl,hle,hm,hx⟩;have hxN:Ext y1 w1:=Ext.trans Ext.ua hx;have hxA:=hxN;clear hxN;have HM:=zH hm;clear hm;have tc1:=hxA.cell c1;have uc1:=hxA.free f1 (zAA c1);clear hx)
 try go_wp2_with fail
 have hHeldN:=HKeepT.out w1 Ext.ua
 refine hK.out _ _ (fun _ _=>hHeldN) (fun hCn=>?_)
 clear hK K hH hC
 have hH:=hHeldN
 have hC:=hCn
 clear hHeldN hCn
 try simp only [Act.put,sA,sB,sC]
 refine zAB hC (i:=8) Sg kr (fun K hK=>?_)
 go_simp
 refine hK.out _ _ (fun h=>by cases h) (fun hCn=>?_)
 clear hK K hC
 have hC:=hCn
 clear hCn
 try simp only [Act.put,sA,sB,sC]
 refine zAB hC (i:=9) Sg kr (fun K hK=>?_)
 go_simp
 refine hK.out _ _ (fun h=>by cases h) (fun hCn=>?_)
 clear hK K hC
 have hC:=hCn
 clear hCn
 try simp only [Act.put,sA,sB,sC]
 refine zAD kr ?_ _
 clear hC HKeepT
 try clear hH
 go_wp2
 exact bodyPost_ret (v:=.tuple #[.agg #[.slice (some ⟨gM,0,none⟩) n capM],.int .i64 0]) (by simp [results,Tryz.results187,go_sem,tc1,uc1]) rfl ⟨gM,capM,hM,rfl,hle,by
  have h2:=HM.out.farB (HB1.out.ext hxA).typ (by decide) (by decide) (by decide) (o:=0) (.slice (some ⟨gM,0,none⟩) n capM)
  have hz:w.heap.size≤y1.heap.size:=by have h5:=HX1.out.size;omega
  exact ⟨h2.rows,h2.row,h2.inj,fun i hi=>Nat.le_trans hz (h2.low i hi),Nat.le_trans hz h2.glow,h2.typ⟩,((HX.out.trans HX1.out).trans hxA).setCell (p:=⟨w.heap.size+1,0,none⟩) (by simp only [];omega) _⟩
theorem Tryz.infoI:(Tryz.prog.info? 2).map (fun i=>(i.zero,i.size,i.bytes))=some (some (.int .i64 0),1,8):=by kernel_rfl
theorem Tryz.infoIs:(Tryz.prog.info? 31).map (fun i=>(i.zero,i.size,i.bytes))=some (some (.slice none 0 0),1,24):=by kernel_rfl
theorem zDD (m:Int) (n:Nat) (h:m=n) (hn:n≤100000) (w:World) :
  ∃ cs,(Instr.makeSlice 31 (.int .i64 m) (.int .i64 m)).run Tryz.prog w = .ok (.slice (some ⟨w.heap.size,0,none⟩) n n) (w.alloc (.cells cs 2))∧TB (w.alloc (.cells cs 2)) 2 w.heap.size ∧
   (∀ i,i < n→(w.alloc (.cells cs 2)).cell? ⟨w.heap.size,i,none⟩=some (.int .i64 0))∧∀ i,(w.alloc (.cells cs 2)).frozen? ⟨w.heap.size,i,none⟩=false:=by
 subst h
 obtain ⟨i0,hi,hz0,hz1,hz2⟩:=info_parts Tryz.infoI
 have hr:=run_make (P:=Tryz.prog) w 31 2 i0 _ Tryz.underlying31 hi hz0 .i64 .i64 n n om om (by rw [hz2];omega) om
 simp only [Int.toNat_natCast] at hr
 have hcells:∀ o,o < n→(madeCells (Value.int .i64 0).cells (n*i0.size))[o]? = some (.int .i64 0):=by
  intro o ho
  rw [hz1]
  unfold madeCells
  rw [Array.getElem?_map,Array.getElem?_range,if_pos om]
  simp [Value.cells]
  have:=Nat.mod_one o
  simp [this]
 have hh:=fun cs=>zA7 w (.cells cs 2)
 refine ⟨_,hr,⟨_,_,hh _⟩,fun i hi=>?_,fun i=>by simp only [World.frozen?,hh];rfl⟩
 rw [cell_of_row _ _ _ _ _ _ (hh _),hcells i hi]
theorem make_numrows (m:Int) (n:Nat) (h:m=n) (hn:n≤100000) (w:World) :
  ∃ cs,(Instr.makeSlice 22 (.int .i64 m) (.int .i64 m)).run Tryz.prog w = .ok (.slice (some ⟨w.heap.size,0,none⟩) n n) (w.alloc (.cells cs 31))∧TB (w.alloc (.cells cs 31)) 31 w.heap.size ∧
   (∀ i,i < n→(w.alloc (.cells cs 31)).cell? ⟨w.heap.size,i,none⟩=some (.slice none 0 0))∧∀ i,(w.alloc (.cells cs 31)).frozen? ⟨w.heap.size,i,none⟩=false:=by
 subst h
 obtain ⟨i0,hi,hz0,hz1,hz2⟩:=info_parts Tryz.infoIs
 have hr:=run_make (P:=Tryz.prog) w 22 31 i0 _ Tryz.underlying22 hi hz0 .i64 .i64 n n om om (by rw [hz2];omega) om
 simp only [Int.toNat_natCast] at hr
 have hcells:∀ o,o < n→(madeCells (Value.slice none 0 0).cells (n*i0.size))[o]? = some (.slice none 0 0):=by
  intro o ho
  rw [hz1]
  unfold madeCells
  rw [Array.getElem?_map,Array.getElem?_range,if_pos om]
  simp [Value.cells]
  have:=Nat.mod_one o
  simp [this]
 have hh:=fun cs=>zA7 w (.cells cs 31)
 refine ⟨_,hr,⟨_,_,hh _⟩,fun i hi=>?_,fun i=>by simp only [World.frozen?,hh];rfl⟩
 rw [cell_of_row _ _ _ _ _ _ (hh _),hcells i hi]
structure NRow (w:World) (b n:Nat) (f:Nat→Int):Prop where
 cell:∀ j,j < n→w.cell? ⟨b,j,none⟩=some (.int .i64 (f j))
 free:∀ j,w.frozen? ⟨b,j,none⟩=false
 typ:TB w 2 b
theorem NRow.ext {w w':World} {b n:Nat} {f:Nat→Int} (r:NRow w b n f) (hx:Ext w w'):NRow w' b n f:=⟨fun j hj=>hx.cell (r.cell j hj),fun j=>hx.free (r.free j) r.typ.lt,r.typ.of_eq (hx.block _ r.typ.lt)⟩
theorem NRow.congr {w:World} {b n:Nat} {f g:Nat→Int} (r:NRow w b n f) (h:∀ j,j < n→f j=g j):NRow w b n g:=⟨fun j hj=>by rw [← h j hj];exact r.cell j hj,r.free,r.typ⟩
theorem NRow.set_ {w:World} {b n:Nat} {f:Nat→Int} (r:NRow w b n f) {j:Nat} (hj:j < n) (z:Int):NRow (w.setCell ⟨b,j,none⟩ (.int .i64 z)) b n (fun i=>if i=j then z else f i):=by
 refine ⟨fun i hi=>?_,fun i=>(World.frozen?_setCell _ _ _ _).trans (r.free i),r.typ.set_ _ _⟩
 by_cases e:i=j
 ·subst e;rw [if_pos rfl];exact setc (r.cell i hi)
 ·rw [if_neg e,zAU e];exact r.cell i hi
theorem NRow.far {w:World} {b n c o:Nat} {f:Nat→Int} (r:NRow w b n f) (hne:b≠c) (v:Value):NRow (w.setCell ⟨c,o,none⟩ v) b n f :=
 ⟨fun j hj=>(zAJ hne).trans (r.cell j hj),fun j=>(World.frozen?_setCell _ _ _ _).trans (r.free j),r.typ.set_ _ _⟩
structure NRows (w:World) (lo g n i:Nat) (r:Nat→Nat) (f:Nat→Nat→Int):Prop where
 cell:∀ a,a < i→w.cell? ⟨g,a,none⟩=some (.slice (some ⟨r a,0,none⟩) n n)
 rest:∀ a,i≤a→a < n→w.cell? ⟨g,a,none⟩=some (.slice none 0 0)
 row:∀ a,a < i→NRow w (r a) n (f a)
 free:∀ a,w.frozen? ⟨g,a,none⟩=false
 typ:TB w 31 g
 low:lo≤g
 lowr:∀ a,a < i→lo≤r a
theorem NRows.ext {w w':World} {lo g n i:Nat} {r:Nat→Nat} {f:Nat→Nat→Int} (h:NRows w lo g n i r f) (hx:Ext w w'):NRows w' lo g n i r f :=
 ⟨fun a ha=>hx.cell (h.cell a ha),fun a h1 h2=>hx.cell (h.rest a h1 h2),fun a ha=>(h.row a ha).ext hx,fun a=>hx.free (h.free a) h.typ.lt,h.typ.of_eq (hx.block _ h.typ.lt),h.low,h.lowr⟩
theorem NRows.next {w:World} {lo g n i b:Nat} {r:Nat→Nat} {f:Nat→Nat→Int} (h:NRows w lo g n i r f) (hi:i < n) (hb:NRow w b n (f i)) (hl:lo≤b):NRows (w.setCell ⟨g,i,none⟩ (.slice (some ⟨b,0,none⟩) n n)) lo g n (i+1) (hset r i b) f:=by
 refine ⟨fun a ha=>?_,fun a h1 h2=>?_,fun a ha=>?_,fun a=>(World.frozen?_setCell _ _ _ _).trans (h.free a),h.typ.set_ _ _,h.low,fun a ha=>?_⟩
 ·unfold hset
  by_cases e:a=i
  ·subst e;rw [if_pos rfl];exact setc (h.rest a (Nat.le_refl _) hi)
  ·rw [if_neg e,zAU e];exact h.cell a om
 ·rw [zAU om];exact h.rest a om h2
 ·unfold hset
  by_cases e:a=i
  ·subst e;rw [if_pos rfl];exact hb.far (hb.typ.ne h.typ (by decide)) _
  ·rw [if_neg e];exact (h.row a om).far ((h.row a om).typ.ne h.typ (by decide)) _
 ·unfold hset
  split
  ·exact hl
  ·exact h.lowr a om
theorem NRows.fill {w:World} {lo g n i:Nat} {r:Nat→Nat} {f f':Nat→Nat→Int} (h:NRows w lo g n (i+1) r f) (hd:∀ a,a < i→r a≠r i) {j:Nat} (hj:j < n) (z:Int) (h1:∀ a b,a < i→f' a b=f a b) (h2:∀ b,b < n→f' i b=if b=j then z else f i b) :
  NRows (w.setCell ⟨r i,j,none⟩ (.int .i64 z)) lo g n (i+1) r f':=by
 have hg:g≠r i:=fun e=>(h.row i om).typ.ne h.typ (by decide) e.symm
 refine ⟨fun a ha=>(zAJ hg).trans (h.cell a ha),fun a a1 a2=>(zAJ hg).trans (h.rest a a1 a2),fun a ha=>?_,fun a=>(World.frozen?_setCell _ _ _ _).trans (h.free a),h.typ.set_ _ _,h.low,h.lowr⟩
 by_cases e:a=i
 ·subst e
  exact ((h.row a ha).set_ hj z).congr fun b hb=>(h2 b hb).symm
 ·exact ((h.row a ha).far (hd a om) _).congr fun b hb=>(h1 a b om).symm
def rowsOf (n:Nat) (f:Nat→Nat→Int):List (List Int):=(List.range n).map fun a=>(List.range n).map fun b=>f a b
theorem rowsOf_at {n:Nat} {f:Nat→Nat→Int} {i:Nat} {l:List Int} (h:(rowsOf n f)[i]? = some l):i < n∧l=(List.range n).map fun b=>f i b:=by
 unfold rowsOf at h
 rw [List.getElem?_map] at h
 by_cases hi:i < n
 ·rw [List.getElem?_range hi] at h
  exact ⟨hi,(Option.some.inj h).symm⟩
 ·rw [List.getElem?_eq_none (by simpa using hi)] at h;cases h
theorem rowsOf_len (n:Nat) (f:Nat→Nat→Int):(rowsOf n f).length=n:=by simp [rowsOf]
theorem rowsOf_entry {n:Nat} {f:Nat→Nat→Int} {i j:Nat} (hi:i < n) (hj:j < n):entry (rowsOf n f) i j=f i j:=by
 unfold entry rowsOf
 rw [List.getElem?_map,List.getElem?_range hi]
 simp only [Option.map_some,Option.getD_some]
 rw [List.getElem?_map,List.getElem?_range hj];rfl
theorem NRows.is {w:World} {lo g n:Nat} {r:Nat→Nat} {f:Nat→Nat→Int} (h:NRows w lo g n n r f):IsRows w (some ⟨g,0,none⟩) (rowsOf n f):=by
 intro _
 refine ⟨g,0,rfl,h.typ.lt,fun i l hl=>?_⟩
 obtain ⟨hi,rfl⟩:=rowsOf_at hl
 refine ⟨_,n,by rw [Nat.zero_add,List.length_map,List.length_range];exact h.cell i hi,by simp,fun hp=>?_⟩
 refine ⟨r i,0,rfl,(h.row i hi).typ.lt,fun j z hz=>?_⟩
 rw [List.getElem?_map] at hz
 by_cases hj:j < n
 ·rw [List.getElem?_range hj] at hz
  obtain rfl:=Option.some.inj hz
  rw [Nat.zero_add];exact (h.row i hi).cell j hj
 ·rw [List.getElem?_eq_none (by simpa using hj)] at hz;cases hz
theorem own_cell {w:World} {base g n c k i:Nat} {t:TypeId} {xs:List Value} {u:Value} (ho:w.ownsRow base t 1 (.slice (some ⟨g,0,none⟩) n c) k xs) (hx:xs[i]? = some u):w.cell? ⟨g,i,none⟩=some u:=by
 have h1:=ho.cells (g:=g) rfl i u hx
 rw [← h1]
 unfold Addr.add
 split
 ·subst_vars;rfl
 ·simp
theorem own_NRow {w:World} {base n:Nat} {v:Value} {f:Nat→Int} (ho:w.ownsRow base 2 1 v n ((List.range n).map fun b=>Value.int .i64 (f b))) (hn:1≤n):∃ r cap,v = .slice (some ⟨r,0,none⟩) n cap∧n≤cap∧base≤r∧NRow w r n f:=by
 rcases ho.2 with ⟨_,h0⟩|⟨g',cap,cur,rfl,hg,hh,hnc,hcm,hcs,hct⟩
 ·omega
 ·refine ⟨g',cap,rfl,hnc,hg,fun i hi=>?_,fun j=>by simp only [World.frozen?,hh];rfl,⟨_,_,hh⟩⟩
  exact own_cell ho (by simp [hi])
theorem NRow.grown {w w':World} {base n:Nat} {t:TypeId} {v:Value} {k:Nat} {xs:List Value} {size b:Nat} {f:Nat→Int} (r:NRow w b n f) (ho:w.ownsRow base t size v k xs) (hg:w.grownBy w' v.ownBlock) (ht:t≠2):NRow w' b n f:=by
 have e:=zAR ho hg r.typ (Ne.symm ht)
 exact ⟨fun j hj=>(zBB e j).trans (r.cell j hj),fun j=>(zBp e j).trans (r.free j),r.typ.of_eq e⟩
structure URows (w:World) (g n:Nat) (r cp:Nat→Nat) (f:Nat→Nat→Int):Prop where
 cell:∀ a,a < n→w.cell? ⟨g,a,none⟩=some (.slice (some ⟨r a,0,none⟩) n (cp a))
 cap:∀ a,a < n→n≤cp a
 row:∀ a,a < n→NRow w (r a) n (f a)
 typ:TB w 31 g
set_option maxHeartbeats 2000000 in
set_option maxRecDepth 100000 in
theorem matInt_any (g n c:Nat) (lo:Nat) (h:Nat→Nat) (m:Nat→Nat→Int) (w:World) (hn1:1≤n) (hn:n≤100) (hM:MatZ w lo g n h m) (hfit:∀ i j,i < n→j < n → -9223372036854775808≤m i j∧m i j≤9223372036854775807) :
  Calls Tryz.prog 89 #[.agg #[.slice (some ⟨g,0,none⟩) n c]] w fun e w'=>∃ g' cap r cp,e = .returned (.tuple #[.slice (some ⟨g',0,none⟩) n cap,.bool true])∧n≤cap∧w.heap.size≤g'∧URows w' g' n r cp m∧Ext w w':=by
 obtain ⟨W0,HWW0,hXW0,hsW0,c0,f0⟩:=bx1 w 81 (.slice (some ⟨g,0,none⟩) n c)
 have HM:=zH hM
 have HF:=zH hfit
 have HX0:=zH hXW0
 obtain ⟨i0,hi,hz0,hz1,hz2⟩:=info_parts Tryz.infoI
 have HI0:=zH (show Tryz.prog.info? 2=some i0∧i0.zero=some (.int .i64 0)∧i0.size=1∧i0.bytes=8 from ⟨hi,hz0,hz1,hz2⟩)
 obtain ⟨i1,hi,hz0,hz1,hz2⟩:=info_parts Tryz.infoIs
 have HI1:=zH (show Tryz.prog.info? 31=some i1∧i1.zero=some (.slice none 0 0)∧i1.size=1∧i1.bytes=24 from ⟨hi,hz0,hz1,hz2⟩)
 clear hM hfit hi hz0 hz1 hz2 hXW0
 go_enter Tryz.func89,Tryz.ntmps89
 go_wp2
 rw [HWW0.out]
 clear HWW0
 go_loopg [4,15] n (fun kk v iv wr=>∃ (i:Nat) (r cp:Nat→Nat),kk+i=n∧iv = .int .i64 i∧Hid (wr.ownsRow w.heap.size 31 1 v i ((List.range i).map fun a=>Value.slice (some ⟨r a,0,none⟩) n (cp a)))∧Hid (∀ a,a < i→n≤cp a∧NRow wr (r a) n (m a))∧Hid (Ext w wr))
 case atStart=>exact ⟨0,fun _=>0,fun _=>0,by omega,rfl,World.ownsRow_nil _ _ _ _,fun a ha=>by omega,HX0⟩
 clear HX0 c0 f0 hsW0
 obtain ⟨i,r,cp,hki,rfl,HO,HR,HX⟩:=hrel
 by_cases hin:i < n
 ·obtain ⟨wq,rfl⟩:∃ wq,wq=wr:=⟨_,rfl⟩
  have cI:=HX.out.cell (HM.out.rows i hin)
  have l1:=zAA cI
  go_wp2
  go_loopg [7,21] n (fun kk v jv wj=>∃ j:Nat,kk+j=n∧jv = .int .i64 j∧Hid (wj.ownsRow wq.heap.size 2 1 v j ((List.range j).map fun b=>Value.int .i64 (m i b)))∧Hid (Ext wq wj))
  case atStart=>exact ⟨0,by omega,rfl,World.ownsRow_nil _ _ _ _,Ext.refl _⟩
  obtain ⟨j,hkj,rfl,HO2,HX2⟩:=hrel
  by_cases hjn:j < n
  ·obtain ⟨nz,Az,kz,cz1,cz2,iz⟩:=((HM.out.row i hin).ext (HX.out.trans HX2.out)).cells j hjn
   obtain ⟨z,hz⟩:∃ z,m i j=z:=⟨_,rfl⟩
   have hfz:=HF.out i j hin hjn
   rw [hz] at iz hfz
   have HZ:=zH hz
   have l2:=zAA cz1
   have HIz:=zH iz
   have HCa:Hid (∀ W,Ext wr W→Calls Tryz.prog 107 #[.agg #[.bool nz,.slice Az kz kz]] W fun e w'=>e = .returned (.tuple #[.int .i64 z,.bool true])∧Ext W w'):=fun W hx=>by
    have h1:=zCJ nz Az kz z W (HIz.out.ext hx)
    rw [show i64Z z=z by unfold i64Z;rw [if_pos hfz],show i64B z=true by unfold i64B;exact decide_eq_true hfz] at h1
    exact h1
   obtain ⟨ii,hii,hz0,hz1,hz2⟩:∃ ii,Tryz.prog.info? 2=some ii∧ii.zero=some (.int .i64 0)∧ii.size=1∧ii.bytes=8:=⟨i0,HI0.out⟩
   clear hz iz hfz
   go_wp2_with (fail)
   refine (HCa.out _ ((Ext.refl _).alloc _)).mono ?_
   rintro e w2 ⟨rfl,hx⟩
   have HX3:=zH (((Ext.refl wr).alloc _).trans hx)
   have HO3:=zH (zAh HO2.out HX3.out)
   have hws:wq.heap.size≤w2.heap.size:=(HX2.out.trans HX3.out).size
   clear hx
   go_wp2_with (at_builtin;refine wpList_append_own _ rfl _ _ 31 rfl wq.heap.size 2 ii (.int .i64 0) 1 8 Tryz.underlying31 hii hz0 hz1 hz2 rfl (by decide) _ _ _ rfl (HO3.out.alloc _) ⟨w2.heap.size,0,none⟩ 1 1 [.int .i64 z] rfl rfl ?c1 ?c2 ?c3 ?c4 ?c5 ?_)
   any_goals (first|exact cell_one_new _ _ _|omega|(unfold maxLen;omega)|(simp only [World.size_alloc];omega)|(intro u hu;rw [List.mem_singleton.1 hu];rfl))
   intro v' w5 hown' hgrow _
   have HO5:Hid (w5.ownsRow wq.heap.size 2 1 v' (j+1) ((List.range (j+1)).map fun b=>Value.int .i64 (m i b))):=by
    rw [List.range_succ,List.map_append];simp only [List.map_cons,List.map_nil];rw [HZ.out];exact hown'
   have HX5:Hid (Ext wq w5):=((HX2.out.trans HX3.out).alloc _).grown hgrow (fun k hk=>(HO3.out.lt k hk).1)
   clear hown' hgrow hii hz0 hz1 hz2 HO2 HX2 HX3 HO3 cz1 cz2 HCa HIz
   go_wp2
   go_roundg (n - (j+1))
   case measure=>omega
   case rel=>exact ⟨j+1,by omega,by go_num,HO5,HX5⟩
  ·obtain rfl:n=j:=by omega
   obtain ⟨ri,ci,hvi,hci,hli,hri⟩:=own_NRow HO2.out hn1
   have HRi:=zH hri
   have HO3:=zH (zAh HO.out HX2.out)
   have HX3:=zH (HX.out.trans HX2.out)
   have HR3:Hid (∀ a,a < i→n≤cp a∧NRow wr (r a) n (m a)):=fun a ha=>⟨(HR.out a ha).1,(HR.out a ha).2.ext HX2.out⟩
   subst hvi
   clear hri HO2 HX2 HO HX HR cI l1
   have hws:w.heap.size≤wr.heap.size:=HX3.out.size
   obtain ⟨ii,hii,hz0,hz1,hz2⟩:∃ ii,Tryz.prog.info? 31=some ii∧ii.zero=some (.slice none 0 0)∧ii.size=1∧ii.bytes=24:=⟨i1,HI1.out⟩
   go_wp2_with (at_builtin;refine wpList_append_own _ rfl _ _ 22 rfl w.heap.size 31 ii (.slice none 0 0) 1 24 Tryz.underlying22 hii hz0 hz1 hz2 rfl (by decide) _ _ _ rfl (HO3.out.alloc _) ⟨wr.heap.size,0,none⟩ 1 1 [.slice (some ⟨ri,0,none⟩) n ci] rfl rfl ?d1 ?d2 ?d3 ?d4 ?d5 ?_)
   case d1=>exact cell_one_new _ _ _
   case d2=>intro u hu;rw [List.mem_singleton.1 hu];rfl
   case d3=>unfold maxLen;omega
   case d4=>omega
   case d5=>simp only [World.size_alloc];omega
   intro v' w5 hown' hgrow _
   have HO5:Hid (w5.ownsRow w.heap.size 31 1 v' (i+1) ((List.range (i+1)).map fun a=>Value.slice (some ⟨hset r i ri a,0,none⟩) n (hset cp i ci a))):=by
    rw [← zBF i (fun a=>Value.slice (some ⟨r a,0,none⟩) n (cp a)) _ (.slice (some ⟨ri,0,none⟩) n ci) (fun j hj=>by simp only [hset,if_neg (show ¬ j=i by omega)]) (by simp [hset])]
    exact hown'
   have hoA:=HO3.out.alloc (.cells #[.slice (some ⟨ri,0,none⟩) n ci] 31)
   have HR5:Hid (∀ a,a < i+1→n≤hset cp i ci a∧NRow w5 (hset r i ri a) n (m a)):=fun a ha=>by
    unfold hset
    by_cases e:a=i
    ·subst e;rw [if_pos rfl,if_pos rfl];exact ⟨hci,(HRi.out.ext ((Ext.refl _).alloc _)).grown hoA hgrow (by decide)⟩
    ·rw [if_neg e,if_neg e];exact ⟨(HR3.out a om).1,((HR3.out a om).2.ext ((Ext.refl _).alloc _)).grown hoA hgrow (by decide)⟩
   have HX5:Hid (Ext w w5):=(HX3.out.alloc _).grown hgrow (fun k hk=>(HO3.out.lt k hk).1)
   clear hown' hgrow hii hz0 hz1 hz2 HO3 HX3 HR3 HRi hoA
   go_wp2
   go_roundg (n - (i+1))
   case measure=>omega
   case rel=>exact ⟨i+1,_,_,by omega,by go_num,HO5,HR5,HX5⟩
 ·obtain rfl:n=i:=by omega
  rcases HO.out.2 with ⟨_,h0⟩|⟨g',cap,cur,rfl,hg,hh,hnc,hcm,hcs,hct⟩
  ·omega
  ·have HIs:Hid (URows wr g' n r cp m):=⟨fun a ha=>own_cell HO.out (by simp [ha]),fun a ha=>(HR.out a ha).1,fun a ha=>(HR.out a ha).2,⟨_,_,hh⟩⟩
   clear hh hcs hct HO HR
   go_wp2
   exact bodyPost_ret (v:=.tuple #[.slice (some ⟨g',0,none⟩) n cap,.bool true]) (by simp [results,Tryz.results89,go_sem]) rfl ⟨g',cap,r,cp,rfl,hnc,hg,HIs.out,HX.out⟩
set_option exponentiation.threshold 5000
structure SK (X:Nat) (w w':World):Prop where
 size:w.heap.size≤w'.heap.size
 block:∀ b t,TB w t b→t≠33→t≠28→b≠X→w'.heap[b]? = w.heap[b]?
structure YK (w w':World):Prop where
 size:w.heap.size≤w'.heap.size
 block:∀ b t,TB w t b→t≠33→t≠28→w'.heap[b]? = w.heap[b]?
theorem YK.sk {w w':World} (h:YK w w') (X:Nat):SK X w w':=⟨h.size,fun b t hb h1 h2 _=>h.block b t hb h1 h2⟩
theorem SK.refl (X:Nat) (w:World):SK X w w:=⟨Nat.le_refl _,fun _ _ _ _ _ _=>rfl⟩
theorem SK.trans {X:Nat} {a b c:World} (h:SK X a b) (k:SK X b c):SK X a c :=
 ⟨Nat.le_trans h.size k.size,fun i t hi h1 h2 h3=>(k.block i t (hi.of_eq (h.block i t hi h1 h2 h3)) h1 h2 h3).trans (h.block i t hi h1 h2 h3)⟩
theorem SK.of_but {X:Nat} {a b:World} (h:ExtBut (fun x=>x=X) a b):SK X a b:=⟨h.size,fun i t hi _ _ h3=>h.block i hi.lt h3⟩
theorem SK.of_ext {X:Nat} {a b:World} (h:Ext a b):SK X a b:=SK.of_but (h.toBut _)
theorem SK.blk {X:Nat} {a b:World} (h:SK X a b) {i:Nat} {t:TypeId} {cs:Array Value} (hi:Blk a i t cs) (h1:t≠33) (h2:t≠28) (h3:i≠X):Blk b i t cs:=(h.block i t hi.typ h1 h2 h3).trans hi
theorem SK.u32 {X:Nat} {a b:World} (h:SK X a b) (hX:TB a 2 X) {i:Nat} (hi:TB a 133 i):b.heap[i]? = a.heap[i]?:=h.block i _ hi (by decide) (by decide) (hi.ne hX (by decide))
theorem SK.isQ {X:Nat} {a b:World} (h:SK X a b) (hX:TB a 2 X) {neg:Bool} {A B:Option Addr} {k m:Nat} {p:Int} {q:Nat} (r:IsQ a neg A k B m p q):IsQ b neg A k B m p q:=r.typed fun i hi=>h.u32 hX hi
theorem SK.qrow {X:Nat} {a b:World} (h:SK X a b) (hX:TB a 2 X) {g n:Nat} {P:Nat→Int} {Q:Nat→Nat} (r:QRow a g n P Q):QRow b g n P Q:=r.typed (h.block g _ r.typ (by decide) (by decide) (r.typ.ne hX (by decide))) fun i hi=>h.u32 hX hi
theorem SK.matQ {X:Nat} {a b:World} (h:SK X a b) (hX:TB a 2 X) {lo g n:Nat} {r:Nat→Nat} {P:Nat→Nat→Int} {Q:Nat→Nat→Nat} (M:MatQ a lo g n r P Q):MatQ b lo g n r P Q:=by
 have e:=h.block g _ M.typ (by decide) (by decide) (M.typ.ne hX (by decide))
 exact ⟨fun i hi=>(zBB e i).trans (M.rows i hi),fun i hi=>h.qrow hX (M.row i hi),M.inj,M.low,M.glow,M.typ.of_eq e⟩
theorem SK.qb {X:Nat} {a b:World} (h:SK X a b) (hX:TB a 2 X) {i:Nat} {p:Int} {q:Nat} (r:QB a i p q):QB b i p q:=by
 obtain ⟨neg,A,k,B,m,h1,h2⟩:=r.box
 exact ⟨neg,A,k,B,m,h.blk h1 (by decide) (by decide) (h1.typ.ne hX (by decide)),h.isQ hX h2⟩
theorem NRow.keep {a b:World} {c n:Nat} {f:Nat→Int} (r:NRow a c n f) (e:b.heap[c]? = a.heap[c]?):NRow b c n f:=⟨fun j hj=>(zBB e j).trans (r.cell j hj),fun j=>(zBp e j).trans (r.free j),r.typ.of_eq e⟩
theorem SK.urows {X:Nat} {a b:World} (h:SK X a b) (hX:TB a 2 X) {g n:Nat} {r cp:Nat→Nat} {f:Nat→Nat→Int} (U:URows a g n r cp f) (hne:∀ i,i < n→r i≠X):URows b g n r cp f:=by
 have e:=h.block g _ U.typ (by decide) (by decide) (U.typ.ne hX (by decide))
 exact ⟨fun i hi=>(zBB e i).trans (U.cell i hi),U.cap,fun i hi=>(U.row i hi).keep (h.block (r i) _ (U.row i hi).typ (by decide) (by decide) (hne i hi)),U.typ.of_eq e⟩
theorem YK.nrow {a b:World} (h:YK a b) {c n:Nat} {f:Nat→Int} (r:NRow a c n f):NRow b c n f:=r.keep (h.block c _ r.typ (by decide) (by decide))
def vat (v:List Int) (i:Nat):Int:=(v[i]?).getD 0
def vec (n:Nat) (x:Nat→Int):List Int:=(List.range n).map x
theorem zAv {n:Nat} {x:Nat→Int} {i:Nat} (h:i < n):vat (vec n x) i=x i:=by
 unfold vat vec;rw [List.getElem?_map,List.getElem?_range h];rfl
theorem zBt (n:Nat) (x:Nat→Int):(vec n x).length=n:=by simp [vec]
theorem vec_ext {n:Nat} {v u:List Int} (h:v.length=n) (k:u.length=n) (e:∀ i,i < n→vat v i=vat u i):v=u:=by
 apply List.ext_getElem (by rw [h,k])
 intro i h1 h2
 have:=e i om
 unfold vat at this
 rw [List.getElem?_eq_getElem h1,List.getElem?_eq_getElem h2] at this
 exact this
structure Lists (n:Nat) (f:Nat→Nat→Int) (nb:Int) (r:Nat) (x:Nat→Int) (L:List (List Int)):Prop where
 once:L.Nodup
 mem:∀ v,v∈L↔v.length=n∧(∀ i,r≤i→i < n→vat v i=x i)∧qf n f (vat v)≤nb
structure ListsS (n:Nat) (f:Nat→Nat→Int) (nb:Int) (r:Nat) (x:Nat→Int) (S:Int→Prop) (L:List (List Int)):Prop where
 once:L.Nodup
 mem:∀ v,v∈L↔v.length=n∧(∀ i,r < i→i < n→vat v i=x i)∧S (vat v r)∧qf n f (vat v)≤nb
def upd (x:Nat→Int) (r:Nat) (z:Int):Nat→Int:=fun i=>if i=r then z else x i
theorem ListsS.nil {n:Nat} {f:Nat→Nat→Int} {nb:Int} {r:Nat} {x:Nat→Int} {S:Int→Prop} (h:∀ z,¬ S z):ListsS n f nb r x S [] :=
 ⟨List.nodup_nil,fun v=>⟨fun h=>by simp at h,fun ⟨_,_,h2,_⟩=>absurd h2 (h _)⟩⟩
theorem ListsS.congr {n:Nat} {f:Nat→Nat→Int} {nb:Int} {r:Nat} {x y:Nat→Int} {S T:Int→Prop} {L:List (List Int)} (h:ListsS n f nb r x S L) (hx:∀ i,r < i→i < n→x i=y i) (hST:∀ v:List Int,v.length=n→(∀ i,r < i→i < n→vat v i=y i)→qf n f (vat v)≤nb→(S (vat v r)↔T (vat v r))):ListsS n f nb r y T L :=
 ⟨h.once,fun v=>by
  rw [h.mem v]
  constructor
  ·rintro ⟨h1,h2,h3,h4⟩
   have h2':∀ i,r < i→i < n→vat v i=y i:=fun i hi hin=>(h2 i hi hin).trans (hx i hi hin)
   exact ⟨h1,h2',(hST v h1 h2' h4).1 h3,h4⟩
  ·rintro ⟨h1,h2,h3,h4⟩
   exact ⟨h1,fun i hi hin=>(h2 i hi hin).trans (hx i hi hin).symm,(hST v h1 h2 h4).2 h3,h4⟩⟩
theorem ListsS.all {n:Nat} {f:Nat→Nat→Int} {nb:Int} {r:Nat} {x:Nat→Int} {S:Int→Prop} {L:List (List Int)} (h:ListsS n f nb r x S L) (hS:∀ z,S z):Lists n f nb (r+1) x L :=
 ⟨h.once,fun v=>by
  rw [h.mem v]
  exact ⟨fun ⟨h1,h2,_,h4⟩=>⟨h1,fun i hi=>h2 i om,h4⟩,fun ⟨h1,h2,h4⟩=>⟨h1,fun i hi=>h2 i om,hS _,h4⟩⟩⟩
theorem ListsS.add {n:Nat} {f:Nat→Nat→Int} {nb:Int} {r:Nat} {x y:Nat→Int} {S T:Int→Prop} {L M:List (List Int)} {z:Int} (h:ListsS n f nb r x S L) (hr:r < n) (hM:Lists n f nb r y M) (hy:∀ i,r < i→i < n→y i=x i) (hz:y r=z) (hS:¬ S z) (hT:∀ u,T u↔S u∨u=z):ListsS n f nb r x T (L ++ M):=by
 refine ⟨List.nodup_append.2 ⟨h.once,hM.once,?_⟩,fun v=>?_⟩
 ·rintro a ha b hb rfl
  have h1:=((h.mem a).1 ha).2.2.1
  have h2:=((hM.mem a).1 hb).2.1 r (Nat.le_refl _) hr
  rw [h2,hz] at h1
  exact hS h1
 ·rw [List.mem_append,h.mem v,hM.mem v]
  constructor
  ·rintro (⟨h1,h2,h3,h4⟩|⟨h1,h2,h4⟩)
   ·exact ⟨h1,h2,(hT _).2 (Or.inl h3),h4⟩
   ·exact ⟨h1,fun i hi hin=>(h2 i om hin).trans (hy i hi hin),(hT _).2 (Or.inr ((h2 r (Nat.le_refl _) hr).trans hz)),h4⟩
  ·rintro ⟨h1,h2,h3,h4⟩
   rcases (hT _).1 h3 with h5|h5
   ·exact Or.inl ⟨h1,h2,h5,h4⟩
   ·refine Or.inr ⟨h1,fun i hi hin=>?_,h4⟩
    rcases Nat.eq_or_lt_of_le hi with e|e
    ·subst e;rw [h5,hz]
    ·rw [h2 i e hin,hy i e hin]
theorem Lists.leaf {n:Nat} {f:Nat→Nat→Int} {nb:Int} {x:Nat→Int} (h:qf n f x≤nb):Lists n f nb 0 x [vec n x]:=by
 have e:qf n f (vat (vec n x))=qf n f x:=by
  unfold qf bf
  refine zAC fun i hi=>?_
  rw [zAv hi]
  congr 1
  exact zAC fun j hj=>by rw [zAv hj]
 refine ⟨by simp,fun v=>?_⟩
 rw [List.mem_singleton]
 constructor
 ·rintro rfl
  exact ⟨zBt n x,fun i _ hi=>zAv hi,by rw [e];exact h⟩
 ·rintro ⟨h1,h2,h3⟩
  exact vec_ext h1 (zBt n x) fun i hi=>by rw [h2 i (Nat.zero_le _) hi,zAv hi]
theorem mid_at {N:Int} {D:Nat} (hD:0 < D):- (D:Int) < 2*((D:Int)*nearF (-N) D+N)∧2*((D:Int)*nearF (-N) D+N)≤D:=by
 have h1:=Int.mul_ediv_add_emod (-N) (D:Int)
 have h2:=Int.emod_nonneg (-N) (show (D:Int)≠0 by omega)
 have h3:=Int.emod_lt_of_pos (-N) (show (0:Int) < D by omega)
 unfold nearF
 split
 ·rename_i h
  generalize -N % (D:Int)=s at *
  generalize (D:Int)*(-N / (D:Int))=t at *
  omega
 ·rename_i h
  rw [show (D:Int)*(-N / (D:Int)+1)=D*(-N / D)+D by rw [Int.mul_add,Int.mul_one]]
  generalize -N % (D:Int)=s at *
  generalize (D:Int)*(-N / (D:Int))=t at *
  omega
theorem sq_le_sq {a b:Int} (h:0≤(b - a)*(b+a)):a*a≤b*b:=by
 have:(b - a)*(b+a)=b*b - a*a:=by grind
 omega
theorem scan_up {N R z u:Int} {D:Nat} (hD:0 < D) (h:((D:Int)*z+N)*((D:Int)*z+N)≤R) (h1:nearF (-N) D≤u) (h2:u≤z):((D:Int)*u+N)*((D:Int)*u+N)≤R:=by
 rcases Int.lt_or_eq_of_le h2 with h3|h3
 ·refine Int.le_trans (sq_le_sq ?_) h
  have hm:=(mid_at (N:=N) hD).1
  have hD0:(0:Int) < D:=by omega
  have h4:(D:Int)*nearF (-N) D≤D*u:=Int.mul_le_mul_of_nonneg_left h1 om
  have h5:(D:Int)*(u+1)≤D*z:=Int.mul_le_mul_of_nonneg_left om om
  rw [Int.mul_add,Int.mul_one] at h5
  generalize (D:Int)*nearF (-N) D=m at *
  generalize (D:Int)*u=a at *
  generalize (D:Int)*z=b at *
  exact Int.mul_nonneg om om
 ·rw [h3];exact h
theorem scan_down {N R z u:Int} {D:Nat} (hD:0 < D) (h:((D:Int)*z+N)*((D:Int)*z+N)≤R) (h1:u≤nearF (-N) D - 1) (h2:z≤u):((D:Int)*u+N)*((D:Int)*u+N)≤R:=by
 rcases Int.lt_or_eq_of_le h2 with h3|h3
 ·refine Int.le_trans (sq_le_sq ?_) h
  have hm:=(mid_at (N:=N) hD).2
  have hD0:(0:Int) < D:=by omega
  have h4:(D:Int)*u≤D*(nearF (-N) D - 1):=Int.mul_le_mul_of_nonneg_left h1 om
  have h5:(D:Int)*z≤D*(u - 1):=Int.mul_le_mul_of_nonneg_left om om
  rw [Int.mul_sub,Int.mul_one] at h4 h5
  generalize (D:Int)*nearF (-N) D=m at *
  generalize (D:Int)*u=a at *
  generalize (D:Int)*z=b at *
  have h6:0≤(a - b)*(-(b+N+(a+N))):=Int.mul_nonneg om om
  have e:(b+N - (a+N))*(b+N+(a+N))=(a - b)*(-(b+N+(a+N))):=by grind
  rw [e];exact h6
 ·rw [← h3];exact h
theorem near_sz {N:Int} {D:Nat} (hD:0 < D) (h:N.natAbs < 2 ^ 62*D):(nearF (-N) D).natAbs≤2 ^ 62∧(-N / (D:Int)+1).natAbs < 2 ^ 4096:=by
 have hD0:(0:Int) < D:=by omega
 have h1:-N / (D:Int) < 2 ^ 62:=Int.ediv_lt_of_lt_mul hD0 (by
  have:((2 ^ 62*D:Nat):Int)=2 ^ 62*(D:Int):=by rw [Int.natCast_mul];rfl
  omega)
 have h2:-(2 ^ 62:Int) ≤ -N / (D:Int):=Int.le_ediv_of_mul_le hD0 (by
  have:((2 ^ 62*D:Nat):Int)=2 ^ 62*(D:Int):=by rw [Int.natCast_mul];rfl
  have e:-(2 ^ 62:Int)*(D:Int) = -(2 ^ 62*(D:Int)):=by rw [Int.neg_mul]
  omega)
 refine ⟨?_,Nat.lt_of_lt_of_le (show (-N / (D:Int)+1).natAbs < 2 ^ 64 by omega) (Nat.pow_le_pow_right om om)⟩
 unfold nearF
 split <;> omega
end Go.Proofs.YtdkgilioejdmeaaGreat
namespace Go.Proofs.YtdkgilioejdmeaaGreat
open Go.RowKit
structure ItD where
 n:Nat
 nb:Int
 f:Nat→Nat→Int
 U:Nat→Nat→Int
 lp:Nat
 bx:Nat
 X:Nat
 bd:Nat
 hd:Nat
 bl:Nat
 gl:Nat
 capl:Nat
 lo:Nat
 hl:Nat→Nat
 br:Nat
 gr:Nat
 capr:Nat
 rr:Nat→Nat
 cp:Nat→Nat
 byl:Nat
 bn:Nat
 bs:Nat
 bt:Nat
abbrev pt (b:Nat):Value:=.pointer (some ⟨b,0,none⟩)
structure ItOK (D:ItD) (w:World):Prop where
 vx:Blk w D.bx 31 #[.slice (some ⟨D.X,0,none⟩) D.n D.n]
 vd:Blk w D.bd 139 #[.slice (some ⟨D.hd,0,none⟩) D.n D.n]
 vl:Blk w D.bl 138 #[.slice (some ⟨D.gl,0,none⟩) D.n D.capl]
 vr:Blk w D.br 22 #[.slice (some ⟨D.gr,0,none⟩) D.n D.capr]
 vy:Blk w D.byl 114 #[.func (.yield D.lp) #[] #[]]
 vn:Blk w D.bn 2 #[.int .i64 D.nb]
 vs:Blk w D.bs 142 #[.func (.func 105) #[] #[pt D.bx,pt D.br,pt D.byl,pt D.bn,pt D.bl,pt D.bt]]
 vt:Blk w D.bt 149 #[.func (.func 99) #[] #[pt D.bx,pt D.bd,pt D.bs]]
 mat:MatQ w D.lo D.gl D.n D.hl (ldP D.f D.n 0) (ldQ D.f D.n 0)
 row:QRow w D.hd D.n (ldD D.f D.n) (ldE D.f D.n)
 u:URows w D.gr D.n D.rr D.cp D.U
 tx:TB w 2 D.X
 xn:D.bn≠D.X
 xr:∀ i,i < D.n→D.rr i≠D.X
 cl:D.n≤D.capl
 cr:D.n≤D.capr
theorem ItOK.keep {D:ItD} {w w':World} (h:ItOK D w) (k:SK D.X w w') (hX:TB w' 2 D.X):ItOK D w' :=
 ⟨k.blk h.vx (by decide) (by decide) (h.vx.typ.ne h.tx (by decide)),k.blk h.vd (by decide) (by decide) (h.vd.typ.ne h.tx (by decide)),k.blk h.vl (by decide) (by decide) (h.vl.typ.ne h.tx (by decide)),
 k.blk h.vr (by decide) (by decide) (h.vr.typ.ne h.tx (by decide)),k.blk h.vy (by decide) (by decide) (h.vy.typ.ne h.tx (by decide)),k.blk h.vn (by decide) (by decide) h.xn,
 k.blk h.vs (by decide) (by decide) (h.vs.typ.ne h.tx (by decide)),k.blk h.vt (by decide) (by decide) (h.vt.typ.ne h.tx (by decide)),k.matQ h.tx h.mat,k.qrow h.tx h.row,k.urows h.tx h.u h.xr,hX,h.xn,h.xr,h.cl,h.cr⟩
theorem ItOK.ext {D:ItD} {w w':World} (h:ItOK D w) (hx:Ext w w'):ItOK D w':=h.keep (SK.of_ext hx) (h.tx.of_eq (hx.block _ h.tx.lt))
def told (D:ItD) (v:List Int):List Int × Int:=(vec D.n fun k=>sm D.n fun i=>vat v i*D.U i k,qf D.n D.f (vat v))
structure Cons (G:List (List Int × Int)→Prop) (lp X n:Nat) (J:List (List Int × Int)→World→Prop) (Jx:World→Prop):Prop where
 abide:∀ pre w w',J pre w→ExtBut (fun x=>x=X) w w'→J pre w'
 round:∀ (m:Nat) pre v z b w0 w,G (pre ++ [(v,z)])→J pre w0→ExtBut (fun x=>x=X) w0 w→w0.heap.size≤b→NRow w b n (vat v)→b≠X→TB w 2 X→v.length=n→0≤z→z≤4096 →
  YieldAt Fence.wide m Tryz.prog lp #[.slice (some ⟨b,0,none⟩) n n,.int .i64 z] w fun e w'=>(e = .returned (.bool true)∧J (pre ++ [(v,z)]) w'∧YK w w')∨(e = .returned (.bool false)∧Jx w')
 stay:∀ w w',Jx w→Ext w w'→Jx w'
structure Good (D:ItD) (P:List (List Int)) (r:Nat) (x:Nat→Int):Prop where
 once:P.Nodup
 mem:∀ v,v∈P→v.length=D.n∧qf D.n D.f (vat v)≤D.nb
 out:∀ v,v∈P→¬ ∀ i,r≤i→i < D.n→vat v i=x i
def GoodP (D:ItD) (pre:List (List Int × Int)):Prop:=∃ P:List (List Int),pre=P.map (told D)∧P.Nodup∧∀ v,v∈P→v.length=D.n∧qf D.n D.f (vat v)≤D.nb
def Goes (D:ItD) (J:List (List Int × Int)→World→Prop) (Jx:World→Prop) (P:List (List Int)) (r:Nat) (x:Nat→Int) (w:World) (b:Bool) (w':World):Prop :=
 (b=true∧∃ x' L,NRow w' D.X D.n x'∧(∀ i,r≤i→i < D.n→x' i=x i)∧Lists D.n D.f D.nb r x L∧J ((P ++ L).map (told D)) w'∧SK D.X w w')∨(b=false∧Jx w')
def StepOK (D:ItD) (J:List (List Int × Int)→World→Prop) (Jx:World→Prop) (r:Nat):Prop :=
 ∀ (P:List (List Int)) (x:Nat→Int) (na:Bool) (A B:Option Addr) (k m:Nat) (w:World),Good D P r x→ItOK D w→NRow w D.X D.n x→J (P.map (told D)) w→Qr D.n D.f r x≤D.nb*det r D.f→IsQ w na A k B m (D.nb*det r D.f - Qr D.n D.f r x) (det r D.f).natAbs →
  Calls Tryz.prog 105 #[.int .i64 ((r:Int) - 1),.agg #[.bool na,.slice A k k,.slice B m m],pt D.bx,pt D.br,pt D.byl,pt D.bn,pt D.bl,pt D.bt] w fun e w'=>∃ b,e = .returned (.bool b)∧Goes D J Jx P r x w b w'
def TryOK (D:ItD) (J:List (List Int × Int)→World→Prop) (Jx:World→Prop) (r:Nat):Prop :=
 ∀ (P:List (List Int)) (x:Nat→Int) (na nb:Bool) (A B C E:Option Addr) (k m j l:Nat) (w:World),Good D P r x→ItOK D w→NRow w D.X D.n x→J (P.map (told D)) w→Qr D.n D.f (r+1) x≤D.nb*det (r+1) D.f→(x r).natAbs≤2 ^ 63 - 1 →
  IsQ w na A k B m (Nr D.n D.f r x) (det (r+1) D.f).natAbs→IsQ w nb C j E l (D.nb*det (r+1) D.f - Qr D.n D.f (r+1) x) (det (r+1) D.f).natAbs →
  Calls Tryz.prog 99 #[.int .i64 r,.agg #[.bool na,.slice A k k,.slice B m m],.agg #[.bool nb,.slice C j j,.slice E l l],pt D.bx,pt D.bd,pt D.bs] w fun e w' =>
   (Qr D.n D.f r x≤D.nb*det r D.f∧∃ b,e = .returned (.tuple #[.bool true,.bool b])∧Goes D J Jx P r x w b w')∨(¬ Qr D.n D.f r x≤D.nb*det r D.f∧e = .returned (.tuple #[.bool false,.bool true])∧Ext w w')
set_option maxHeartbeats 1000000 in
theorem zDN (z:Int) (w:World) (h0:-9223372036854775808≤z) (h1:z≤9223372036854775807) :
  Calls Tryz.prog 101 #[.int .i64 z] w fun e w'=>∃ n A k B m,e = .returned (.agg #[.bool n,.slice A k k,.slice B m m])∧IsQ w' n A k B m z 1∧Ext w w':=by
 have HO:=zH (fun W=>zOf_any z W h0 h1)
 clear h0 h1
 go_enter Tryz.func101,Tryz.ntmps101
 go_wp2_with (first
  | (go_at_call 24;refine (HO.out _).mono ?_;rintro e w1 ⟨ng,A,k,rfl,hi,hx⟩;have HK1:=zH (blk1n hx);have HI1:=zH hi;have HX1:=zH (((Ext.refl w).alloc _).trans hx);clear hx hi)
  | (go_at_call 140;refine (ofV _ _ _ _ _ HI1.out).mono ?_;rintro e w2 ⟨rfl,hq,hx⟩;have HK2:=zH (HK1.out.ext hx);have HQ2:=zH hq;have HX2:=zH (HX1.out.trans hx);obtain ⟨c0a,f0a,c0b,f0b,c0c,f0c⟩:=HK2.out.three;have hl:=HK2.out.lt;clear hx hq))
 obtain ⟨V,hV⟩:∃ V,setQ w2 w.heap.size 0 ng A k none 0=V:=⟨_,rfl⟩
 have hK:Blk V w.heap.size 144 #[.bool ng,.slice A k k,.slice none 0 0]:=by rw [← hV];exact ((HK2.out.set 0 _).set 1 _).set 2 _
 have hQ:IsQ V ng A k none 0 z 1:=by rw [← hV];exact HQ2.out.setQ HK2.out.typ (by decide)
 have hX:Ext w V:=by rw [← hV];exact zBg HX2.out (Nat.le_refl _)
 have eV:((w2.setCell ⟨w.heap.size,0,none⟩ (.bool ng)).setCell ⟨w.heap.size,1,none⟩ (.slice A k k)).setCell ⟨w.heap.size,2,none⟩ (.slice none 0 0)=V:=hV
 rw [eV]
 obtain ⟨d0a,g0a,d0b,g0b,d0c,g0c⟩:=hK.three
 exact bodyPost_ret (v:=.agg #[.bool ng,.slice A k k,.slice none 0 0]) (by simp [results,Tryz.results101,go_sem,d0a,d0b,d0c]) rfl ⟨ng,A,k,none,0,rfl,hQ,hX⟩
set_option exponentiation.threshold 5000
section
variable {n:Nat} {f:Nat→Nat→Int}
theorem Yr_sz (h:Start n f) {r:Nat} (hr:r < n) {x:Nat→Int} {nb:Int} (hq:Qr n f (r+1) x≤nb*det (r+1) f) (hb:nb≤4096) (hnb:0≤nb) (hx:(x r).natAbs≤2 ^ 63 - 1):(Yr n f r x).natAbs≤2 ^ 192∧(Nr n f r x).natAbs≤2 ^ 190:=by
 have h1:=Nr_sz h hr hq hb hnb
 have h2:=h.dsz (show r+1≤n by omega)
 have h3:(Nr n f r x).natAbs≤2 ^ 190:=by
  have:2 ^ 62*(det (r+1) f).natAbs≤2 ^ 62*2 ^ 128:=Nat.mul_le_mul_left _ h2
  rw [← Nat.pow_add] at this;omega
 refine ⟨?_,h3⟩
 rw [zCo h.pd hr]
 have h4:(det (r+1) f*x r).natAbs≤2 ^ 128*2 ^ 63:=by rw [Int.natAbs_mul];exact Nat.mul_le_mul h2 om
 rw [← Nat.pow_add] at h4
 have h5:=Int.natAbs_add_le (det (r+1) f*x r) (Nr n f r x)
 omega
theorem left_sz2 (h:Start n f) {r:Nat} (hr:r≤n) {x:Nat→Int} {nb:Int} (hq:Qr n f r x≤nb*det r f) (hb:nb≤4096) (hnb:0≤nb):(nb*det r f - Qr n f r x).natAbs≤2 ^ 140:=by
 have h0:=h.pd.qpos x (n - r) r om
 have h2:=h.dsz hr
 have hD:=h.pd.pos hr
 have h3:nb*det r f≤4096*det r f:=Int.mul_le_mul_of_nonneg_right hb om
 omega
theorem sh_add (h:Start n f) {r:Nat} (hr:r < n) {x:Nat→Int} {nb:Int} (hq:Qr n f (r+1) x≤nb*det (r+1) f) (hb:nb≤4096) (hnb:0≤nb) (hx:(x r).natAbs≤2 ^ 63 - 1) (w:World) (na nc:Bool) (A B C E:Option Addr) (k m j l:Nat)
  (h1:IsQ w na A k B m (x r) 1) (h2:IsQ w nc C j E l (Nr n f r x) (det (r+1) f).natAbs) :
  Calls Tryz.prog 100 #[.agg #[.bool na,.slice A k k,.slice B m m],.agg #[.bool nc,.slice C j j,.slice E l l]] w fun e w'=>∃ n' A' k' B' m',e = .returned (.tuple #[.agg #[.bool n',.slice A' k' k',.slice B' m' m'],.int .i64 0])∧IsQ w' n' A' k' B' m' (Yr n f r x) (det (r+1) f).natAbs∧Ext w w':=by
 have b2:=h.dsz (show r+1≤n by omega)
 obtain ⟨p1,q1⟩:=h.dpos (show r+1≤n by omega)
 have s1:(x r).natAbs*(det (r+1) f).natAbs≤2 ^ (63+128):=zAP om b2
 have s2:(Nr n f r x).natAbs*1≤2 ^ 191:=by have:=(Yr_sz h hr hq hb hnb hx).2;omega
 refine (addV_ na nc A B C E k m j l _ _ _ _ w h1 h2 (zCQ s1 s2 (by decide)) (zAe (s:=128) om (by decide))).mono ?_
 rintro e w' ⟨n',A',k',B',m',rfl,hq',hx'⟩
 refine ⟨n',A',k',B',m',rfl,hq'.conv p1 ?_,hx'⟩
 rw [zCo h.pd hr,q1,Nat.one_mul,q1];grind
theorem sh_sq (h:Start n f) {r:Nat} (hr:r < n) {x:Nat→Int} {nb:Int} (hq:Qr n f (r+1) x≤nb*det (r+1) f) (hb:nb≤4096) (hnb:0≤nb) (hx:(x r).natAbs≤2 ^ 63 - 1) (w:World) (na:Bool) (A B:Option Addr) (k m:Nat)
  (h1:IsQ w na A k B m (Yr n f r x) (det (r+1) f).natAbs) :
  Calls Tryz.prog 102 #[.agg #[.bool na,.slice A k k,.slice B m m],.agg #[.bool na,.slice A k k,.slice B m m]] w fun e w'=>∃ n' A' k' B' m',e = .returned (.tuple #[.agg #[.bool n',.slice A' k' k',.slice B' m' m'],.int .i64 0])∧IsQ w' n' A' k' B' m' (Yr n f r x*Yr n f r x) ((det (r+1) f).natAbs*(det (r+1) f).natAbs)∧Ext w w':=by
 have b2:=h.dsz (show r+1≤n by omega)
 have b1:=(Yr_sz h hr hq hb hnb hx).1
 exact mulV na na A B A B k m k m _ _ _ _ w h1 h1 (zAe (zAP b1 b1) (by decide)) (zAe (zAP b2 b2) (by decide))
theorem sh_d (h:Start n f) {r:Nat} (hr:r < n) {x:Nat→Int} {nb:Int} (hq:Qr n f (r+1) x≤nb*det (r+1) f) (hb:nb≤4096) (hnb:0≤nb) (hx:(x r).natAbs≤2 ^ 63 - 1) (w:World) (na nc:Bool) (A B C E:Option Addr) (k m j l:Nat)
  (h1:IsQ w na A k B m (Yr n f r x*Yr n f r x) ((det (r+1) f).natAbs*(det (r+1) f).natAbs)) (h2:IsQ w nc C j E l (det (r+1) f) (det r f).natAbs) :
  Calls Tryz.prog 102 #[.agg #[.bool na,.slice A k k,.slice B m m],.agg #[.bool nc,.slice C j j,.slice E l l]] w fun e w'=>∃ n' A' k' B' m',e = .returned (.tuple #[.agg #[.bool n',.slice A' k' k',.slice B' m' m'],.int .i64 0])∧IsQ w' n' A' k' B' m' (Yr n f r x*Yr n f r x) ((det (r+1) f).natAbs*(det r f).natAbs)∧Ext w w':=by
 have b2:=h.dsz (show r+1≤n by omega)
 have b3:=h.dsz (show r≤n by omega)
 have b1:=(Yr_sz h hr hq hb hnb hx).1
 obtain ⟨p1,q1⟩:=h.dpos (show r+1≤n by omega)
 obtain ⟨p2,q2⟩:=h.dpos (show r≤n by omega)
 have s1:(Yr n f r x*Yr n f r x).natAbs*(det (r+1) f).natAbs≤2 ^ (192+192+128):=by rw [Int.natAbs_mul];exact zAP (zAP b1 b1) b2
 refine (mulV na nc A B C E k m j l _ _ _ _ w h1 h2 (zAe s1 (by decide)) (zAe (zAP (zAP b2 b2) b3) (by decide))).mono ?_
 rintro e w' ⟨n',A',k',B',m',rfl,hq',hx'⟩
 refine ⟨n',A',k',B',m',rfl,hq'.conv (Nat.mul_pos p1 p2) ?_,hx'⟩
 rw [Int.natCast_mul,Int.natCast_mul,Int.natCast_mul,q1,q2];grind
theorem sh_pos (h:Start n f) {r:Nat} (hr:r < n) (x:Nat→Int) (nb:Int):0 < Yr n f r x*Yr n f r x*((det (r+1) f).natAbs:Int) - (nb*det (r+1) f - Qr n f (r+1) x)*(((det (r+1) f).natAbs*(det r f).natAbs:Nat):Int)↔¬ Qr n f r x≤nb*det r f:=by
 obtain ⟨p1,q1⟩:=h.dpos (show r+1≤n by omega)
 obtain ⟨p2,q2⟩:=h.dpos (show r≤n by omega)
 rw [← step_in h hr x nb,Int.natCast_mul,q1,q2]
 have hD:=h.pd.pos (show r+1≤n by omega)
 have e:Yr n f r x*Yr n f r x*det (r+1) f - (nb*det (r+1) f - Qr n f (r+1) x)*(det (r+1) f*det r f)=det (r+1) f*(Yr n f r x*Yr n f r x - det r f*(nb*det (r+1) f - Qr n f (r+1) x)):=by grind
 rw [e]
 constructor
 ·intro h1
  have:=zB3 hD h1
  omega
 ·intro h1
  exact Int.mul_pos hD om
theorem sh_rest (h:Start n f) {r:Nat} (hr:r < n) {x:Nat→Int} {nb:Int} (hq:Qr n f (r+1) x≤nb*det (r+1) f) (hb:nb≤4096) (hnb:0≤nb) (hx:(x r).natAbs≤2 ^ 63 - 1) (w:World) (na nc:Bool) (A B C E:Option Addr) (k m j l:Nat)
  (h1:IsQ w na A k B m (nb*det (r+1) f - Qr n f (r+1) x) (det (r+1) f).natAbs) (h2:IsQ w nc C j E l (Yr n f r x*Yr n f r x) ((det (r+1) f).natAbs*(det r f).natAbs)) :
  Calls Tryz.prog 104 #[.agg #[.bool na,.slice A k k,.slice B m m],.agg #[.bool nc,.slice C j j,.slice E l l]] w fun e w'=>∃ n' A' k' B' m',e = .returned (.tuple #[.agg #[.bool n',.slice A' k' k',.slice B' m' m'],.int .i64 0])∧IsQ w' n' A' k' B' m' (nb*det r f - Qr n f r x) (det r f).natAbs∧Ext w w':=by
 have b2:=h.dsz (show r+1≤n by omega)
 have b3:=h.dsz (show r≤n by omega)
 have b1:=(Yr_sz h hr hq hb hnb hx).1
 have b4:=left_sz2 h (show r+1≤n by omega) hq hb hnb
 obtain ⟨p1,q1⟩:=h.dpos (show r+1≤n by omega)
 obtain ⟨p2,q2⟩:=h.dpos (show r≤n by omega)
 have s1:(nb*det (r+1) f - Qr n f (r+1) x).natAbs*((det (r+1) f).natAbs*(det r f).natAbs)≤2 ^ 512:=Nat.le_trans (zAP b4 (zAP b2 b3)) (Nat.pow_le_pow_right om om)
 have s2:(Yr n f r x*Yr n f r x).natAbs*(det (r+1) f).natAbs≤2 ^ 512:=by rw [Int.natAbs_mul];exact Nat.le_trans (zAP (zAP b1 b1) b2) (Nat.pow_le_pow_right om om)
 refine (subV na nc A B C E k m j l _ _ _ _ w h1 h2 (zCQ s1 s2 (by decide)) (zAe (zAP b2 (zAP b2 b3)) (by decide))).mono ?_
 rintro e w' ⟨n',A',k',B',m',rfl,hq',hx'⟩
 refine ⟨n',A',k',B',m',rfl,hq'.conv p2 ?_,hx'⟩
 rw [Int.natCast_mul,Int.natCast_mul,q1,q2]
 have hs:=h.pd.qstep hr x
 have e1:(nb*det (r+1) f - Qr n f (r+1) x)*(det (r+1) f*det r f) - Yr n f r x*Yr n f r x*det (r+1) f=det (r+1) f*(nb*det (r+1) f*det r f - det r f*Qr n f (r+1) x - Yr n f r x*Yr n f r x):=by grind
 rw [e1,hs];grind
end
theorem signZ_pos (z:Int):(0 < signZ z)↔0 < z:=by
 unfold signZ
 split
 ·omega
 ·split <;> omega
end Go.Proofs.YtdkgilioejdmeaaGreat
