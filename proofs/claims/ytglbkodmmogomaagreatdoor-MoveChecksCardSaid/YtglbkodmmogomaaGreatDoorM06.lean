/- A REGION THAT DRAWS ITS ORDER AND STORES, WALKED ONCE: what reads memory comes ahead of every store, in whatever order is picked; so behind the first store nothing need be held of the world. -/
import Derived.Test.YtglbkodmmogomaaGreatDoorM05
import Derived.Deep.DeepCutAuto
import Derived.Lib.AppendZerosOnto
set_option linter.unusedVariables false
set_option linter.unusedSimpArgs false
namespace Go.Proofs.YtglbkodmmogomaaGreatDoor
section
open Go
section
variable {P:Program} {ops:Array Oper} {md:Region.Mode} {C:World->Prop}
def EZ:Op->Bool
 | .move _| .assign _| .pick .. | .build .. | .binOp .. | .unOp .. | .convert .. | .fieldAddr .. | .field .. | .indexAddr .. | .extract .. =>true
 |_=>false
def dO:Op->Bool
 | .store .. =>true
 |_=>false
def jO (o:Op):Bool:=floats o&&!EZ o
def rW (md:Region.Mode)(ops:Array Oper):Bool:=
 (List.range ops.size).all fun j=>match ops[j]? with
   |some oj=>!dO oj.op||(List.range ops.size).all fun i=>match ops[i]? with
    |some oi=>!jO oi.op||oj.after.any fun e=>Region.binds md e&&e.on==i
    |none=>true
   |none=>true
theorem xG (h:rW md ops=true){j i:Nat}{oj oi:Oper}(hj:ops[j]?=some oj)(hi:ops[i]?=some oi)(hh:dO oj.op=true)(hr:jO oi.op=true):
 ∃e∈oj.after,Region.binds md e=true/\e.on=i:=by
 have hj':=(Array.getElem?_eq_some_iff.1 hj).1
 have hi':=(Array.getElem?_eq_some_iff.1 hi).1
 have h1:=List.all_eq_true.1 h j (List.mem_range.2 hj')
 simp only[hj,hh,Bool.not_true,Bool.false_or]at h1
 have h2:=List.all_eq_true.1 h1 i (List.mem_range.2 hi')
 simp only[hi,hr,Bool.not_true,Bool.false_or]at h2
 rw[Array.any_eq_true]at h2
 obtain⟨k,hk,h2⟩:=h2
 simp only[Bool.and_eq_true,beq_iff_eq]at h2
 exact⟨_,Array.getElem_mem hk,h2.1,h2.2⟩
def nM (ops:Array Oper)(listed:Array Bool):Prop:= ∀(j:Nat) oj,ops[j]?=some oj->dO oj.op=true->listed.getD j true=false
def Shut (ops:Array Oper)(listed:Array Bool):Prop:= ∀(j:Nat) oj,ops[j]?=some oj->dO oj.op=true->listed.getD j true=true-> ∀(i:Nat) oi,ops[i]?=some oi->jO oi.op=true->listed.getD i true=true
theorem jw {listed:Array Bool}{j:Nat}(hj:j∈Region.ready md ops listed){oj:Oper}(hoj:ops[j]?=some oj){e:Edge}(he:e∈oj.after)(hb:Region.binds md e=true):listed.getD e.on true=true:=by
 obtain⟨_,o,ho,hall⟩:=mem_ready.1 hj
 rw[hoj]at ho
 cases ho
 have h2:=hall e he hb
 rcases Nat.lt_or_ge e.on listed.size with h'|h'
 ·simp[h']at h2⊢;exact h2
 ·simp[Array.getElem?_eq_none h']at h2
theorem iE (listed:Array Bool)(j:Nat):(listed.setIfInBounds j true).getD j true=true:=by
 rw[Array.getD_eq_getD_getElem?,Array.getElem?_setIfInBounds]
 by_cases h:j<listed.size
 ·simp[h]
 ·simp[h]
theorem getD_set_true (listed:Array Bool)(j i:Nat)(h:listed.getD i true=true):(listed.setIfInBounds j true).getD i true=true:=by
 by_cases e:j=i
 ·subst e
  exact iE _ _
 ·rw[getD_set_ne true e];exact h
theorem Shut.set (hh:rW md ops=true){listed:Array Bool}(h:Shut ops listed){j:Nat}(hj:j∈Region.ready md ops listed):Shut ops (listed.setIfInBounds j true):=by
 intro k ok hk jG hl i oi hi hr
 by_cases e:j=k
 ·subst e
  obtain⟨e,he,hb,rfl⟩:=xG hh hk hi jG hr
  exact getD_set_true _ _ _ (jw hj hk he hb)
 ·rw[getD_set_ne true e]at hl
  exact getD_set_true _ _ _ (h k ok hk jG hl i oi hi hr)
def wpAnyH (P:Program)(md:Region.Mode)(ops:Array Oper)(C:World->Prop)(Q:Act->World->Prop):Nat->Array Bool->Act->World->Prop
 |0,listed,a,w=>(nM ops listed->C w)/\(∀(k:Nat) o,ops[k]?=some o->listed.getD k true=true)/\Q a w
 |fuel+1,listed,a,w=>(nM ops listed->C w)/\(Region.ready md ops listed=[]->Q a w)/\
  ∀i∈Region.ready md ops listed,wpOp P ops (gU Q) i (wpAnyH P md ops C Q fuel (listed.setIfInBounds i true)) a w
theorem nV {Q:Act->World->Prop}{Q':Exit->Act->World->Prop}(hQ: ∀a w,Q a w->Q' .normal a w): ∀(fuel:Nat)(listed:Array Bool)(a:Act)(w:World),
 wpAnyH P md ops C Q fuel listed a w->wpAny P md ops Q' fuel listed a w
 |0,_,_,_,h=>⟨ready_nil h.2.1,hQ _ _ h.2.2⟩
 |fuel+1,_,_,_,h=>⟨fun h0=>hQ _ _ (h.2.1 h0),fun i hi=>wpOp_mono (fun a w=>nV hQ fuel _ a w)
   (uQ (fun e a w h=>by cases e<;>first|exact hQ _ _ h|exact h.elim) (h.2.2 i hi))⟩
theorem wpAnyH.cold {Q:Act->World->Prop}{fuel:Nat}{listed:Array Bool}{a:Act}{w:World}(h:wpAnyH P md ops C Q fuel listed a w):nM ops listed->C w:=by
 cases fuel with
 |zero=>exact h.1
 |succ f=>exact h.1
def pF (C:World->Prop)(o:Oper)(w:World):Prop:=jO o.op=true->C w
theorem wpAnyH_first {Q:Act->World->Prop}{i:Nat}{oi:Oper}{v:Value}(hh:rW md ops=true)(hi:ops[i]?=some oi)(hfl:floats oi.op=true)(hsel: ∀(j:Nat)(o:Oper) cs b,ops[j]?=some o->o.op≠ .select cs b):
 ∀(fuel:Nat)(listed:Array Bool)(a:Act)(w:World),
  (∀j oj,ops[j]?=some oj->j≠i->listed.getD j true=false->(∀e∈oj.after,Region.binds md e=true->e.on≠i)->oi.apart ops oj=true)->
  (nM ops listed->C w)->Shut ops listed->
  i∈Region.ready md ops listed->iw P ops (pF C oi) oi v a->
  wpAnyH P md ops C Q fuel (listed.setIfInBounds i true) (a.put oi.dst v) w->wpAnyH P md ops C Q (fuel+1) listed a w:=by
 have hnot:dO oi.op=false:=by
  cases h:oi.op<;>rw[h]at hfl<;>first|rfl|cases hfl
 have hcls: ∀(listed:Array Bool)(w:World),(nM ops listed->C w)->Shut ops listed->i∈Region.ready md ops listed->pF C oi w:=by
  intro listed w hC hS hr hread
  refine hC fun j oj hj jG=>?_
  cases hl:listed.getD j true with
  |false=>rfl
  |true=>
   have:=hS j oj hj jG hl i oi hi hread
   rw[(mem_ready.1 hr).1]at this
   cases this
 intro fuel
 induction fuel with
 |zero=>
  intro listed a w _ hC hS hr hy H
  refine⟨hC,fun h=>(by rw[h]at hr;cases hr),fun j hj=>?_⟩
  by_cases hji:j=i
  ·subst hji;exact hy.wpOp hi (hcls listed w hC hS hr) H
  ·have:=ready_mono hj hji
   rw[ready_nil H.2.1]at this
   cases this
 |succ fuel ih=>
  intro listed a w hfree hC hS hr hy H
  refine⟨hC,fun h=>(by rw[h]at hr;cases hr),fun j hj=>?_⟩
  by_cases hji:j=i
  ·subst hji;exact hy.wpOp hi (hcls listed w hC hS hr) H
  ·have h1:=H.2.2 j (ready_mono hj hji)
   obtain⟨hjun,oj,hoj,hall⟩:=mem_ready.1 hj
   have La: ∀e∈oj.after,Region.binds md e=true->e.on≠i:=fun e he hb heq=>by
    have h1:=jw hj hoj he hb
    rw[heq,(mem_ready.1 hr).1]at h1
    cases h1
   have h2:=wH hoj (hfree j oj hoj hji hjun La) (fun cs b=>hsel i oi cs b hi) (fun cs b=>hsel j oj cs b hoj) hy h1
   have hfree': ∀k ok,ops[k]?=some ok->k≠i->(listed.setIfInBounds j true).getD k true=false->
    (∀e∈ok.after,Region.binds md e=true->e.on≠i)->oi.apart ops ok=true:=fun k ok hk hki hun hno=>by
    refine hfree k ok hk hki ?_ hno
    by_cases hjk:j=k
    ·subst hjk;exact hjun
    ·rw[getD_set_ne true hjk]at hun;exact hun
   refine wpOp_mono (fun a' w' h3=>ih (listed.setIfInBounds j true) a' w' hfree' (fun Le=>?_) (hS.set hh hj) (ready_mono hr (Ne.symm hji)) h3.1 ?_) h2
   ·refine h3.2.cold fun k ok hk jG=>?_
    have hki:k≠i:=fun e=>by subst e;rw[hi]at hk;cases hk;rw[hnot]at jG;cases jG
    have:=Le k ok hk jG
    by_cases hjk:j=k
    ·subst hjk
     rw[iE]at this
     cases this
    ·rw[getD_set_ne true hjk,getD_set_ne true (Ne.symm hki)]
     rwa[getD_set_ne true hjk]at this
   ·rw[Array.setIfInBounds_comm _ _ hji]
    exact h3.2
def bW (P:Program)(ops:Array Oper)(C:World->Prop)(Q:Act->World->Prop):Bool->List Oper->Act->World->Prop
 |bg,[],a,w=>(bg=true->C w)/\Q a w
 |bg,o::rest,a,w=>
  if Region.wanted o (yielded ops a.tmps)then
   if floats o.op then∃v,(∀w',pF C o w'->(execOp a.eval o).run P w'= .ok (.value v) w')/\bW P ops C Q bg rest (a.put o.dst v) w
   else o.wp P a w (fun a' w'=>((bg&&!dO o.op)=true->C w')/\bW P ops C Q (bg&&!dO o.op) rest a' w') (gU Q)
  else bW P ops C Q (bg&&!dO o.op) rest (a.put o.dst undef) w
theorem dS {Q:Act->World->Prop}(hs:Region.noSelect ops=true)(hh:rW .any ops=true): ∀(l:List Nat)(listed:Array Bool)(bg:Bool)(a:Act)(w:World),
 dW .any ops l listed=true->Shut ops listed->(nM ops listed->bg=true)->(bg=true->C w)->bW P ops C Q bg (l.map fun k=>(ops[k]?).getD default) a w->wpAnyH P .any ops C Q l.length listed a w
 |[],listed,bg,a,w,hB,_,mG,hC,h=>by
  refine⟨fun hc=>hC (mG hc),fun k o hk=>?_,h.2⟩
  simp only[dW,List.all_eq_true,List.mem_range]at hB
  exact hB k (Array.getElem?_eq_some_iff.1 hk).1
 |k::rest,listed,bg,a,w,hB,hS,mG,hC,h=>by
  simp only[dW,Bool.and_eq_true]at hB
  obtain⟨hk,hB'⟩:=hB
  have hr:k∈Region.ready .any ops listed:=by
   split at hk
   ·simp only[Bool.and_eq_true]at hk;simpa using hk.1
   ·have:Region.ready .any ops listed=[k]:=by simpa using hk
    rw[this];simp
  obtain⟨hun,o,hok,_⟩:=mem_ready.1 hr
  simp only[List.map_cons,hok,Option.getD_some,bW]at h
  simp only[sD,hok]at hk
  have hS':=hS.set hh hr
  have hnext:nM ops (listed.setIfInBounds k true)->(bg&&!dO o.op)=true:=by
   intro hc
   have hno:dO o.op=false:=by
    cases hz:dO o.op with
    |false=>rfl
    |true=>
     have h1:=hc k o hok hz
     rw[iE]at h1
     cases h1
   rw[hno,mG]
   ·rfl
   ·intro j oj hj jG
    have:=hc j oj hj jG
    by_cases e:k=j
    ·subst e;exact hun
    ·rwa[getD_set_ne true e]at this
  by_cases hf:floats o.op=true
  ·rw[if_pos hf]at hk
   simp only[Bool.and_eq_true]at hk
   have hno:dO o.op=false:=by
    cases h:o.op<;>rw[h]at hf<;>first|rfl|cases hf
   by_cases hw:Region.wanted o (yielded ops a.tmps)=true
   ·simp only[hw,if_true,hf]at h
    obtain⟨v,hv,hn⟩:=h
    refine wpAnyH_first hh hok hf (Region.noSelect_spec hs) rest.length listed a w (Region.free_spec hok hk.2) (fun hc=>hC (mG hc)) hS hr (.inl ⟨hw,hv⟩)
     (dS hs hh rest _ bg _ w hB' hS' (fun hc=>?_) hC hn)
    have:=hnext hc
    rw[Bool.and_eq_true]at this
    exact this.1
   ·simp only[hw,hno,Bool.not_false,Bool.and_true]at h
    refine wpAnyH_first hh hok hf (Region.noSelect_spec hs) rest.length listed a w (Region.free_spec hok hk.2) (fun hc=>hC (mG hc)) hS hr (.inr ⟨by simpa using hw,rfl⟩)
     (dS hs hh rest _ bg _ w hB' hS' (fun hc=>?_) hC h)
    have:=hnext hc
    rw[Bool.and_eq_true]at this
    exact this.1
  ·rw[if_neg hf]at hk
   have hr1:Region.ready .any ops listed=[k]:=by simpa using hk
   refine⟨fun hc=>hC (mG hc),fun h0=>(by rw[h0]at hr1;cases hr1),fun j hj=>?_⟩
   rw[hr1]at hj
   obtain rfl:j=k:=by simpa using hj
   unfold wpOp
   simp only[hok]
   by_cases hw:Region.wanted o (yielded ops a.tmps)=true
   ·simp only[hw,if_true,hf]at h⊢
    exact .inl (Oper.wp_mono (fun a' w' h'=>dS hs hh rest _ _ a' w' hB' hS' hnext h'.1 h'.2) h)
   ·simp only[hw]at h⊢
    refine dS hs hh rest _ _ _ w hB' hS' hnext (fun hc=>hC ?_) h
    rw[Bool.and_eq_true]at hc
    exact hc.1
theorem kG {id:Nat}{Q:Exit->Act->World->Prop}{a:Act}{w:World}(ord:List Nat)(C:World->Prop)(hm:P.follows .mixedOrders=true)(hB:(Region.noSelect ops&&rW .any ops&&dW .any ops ord (Array.replicate ops.size false))=true)
 (hlen:ord.length=ops.size) (hC:C w.drew) (h:bW P ops C (Q .normal) true (ord.map fun k=>(ops[k]?).getD default) a w.drew):(Code.region id ops true).wp P Q a w:=by
 simp only[Bool.and_eq_true]at hB
 obtain⟨⟨h1,h2⟩,h3⟩:=hB
 refine wp_region_any hm (nV (C:=C) (Q:=Q .normal) (fun _ _ h=>h) _ _ _ _ ?_)
 rw[<-hlen]
 refine dS h1 h2 ord _ true a w.drew (by rw[hlen];exact h3) (fun j oj hj _ hl=>?_) (fun _=>rfl) (fun _=>hC) h
 have hlt:=(Array.getElem?_eq_some_iff.1 hj).1
 rw[hlen,Array.getD_eq_getD_getElem?,Array.getElem?_replicate,if_pos hlt]at hl
 cases hl
theorem jW {Q:Act->World->Prop}{rest:List Oper}{a:Act}{w:World}{o:Oper}{v:Value}{bg:Bool}(hw:Region.wanted o (yielded ops a.tmps)=true)(hf:floats o.op=true)
 (hv: ∀w',(execOp a.eval o).run P w'= .ok (.value v) w') (h:bW P ops C Q bg rest (a.put o.dst v) w):bW P ops C Q bg (o::rest) a w:=by
 unfold bW;simp only[hw,hf,if_true];exact⟨v,fun w' _=>hv w',h⟩
theorem rC {Q:Act->World->Prop}{rest:List Oper}{a:Act}{w:World}{o:Oper}{v:Value}{bg:Bool}(hw:Region.wanted o (yielded ops a.tmps)=true)(hf:floats o.op=true)(hr:jO o.op=true)
 (hv: ∀w',C w'->(execOp a.eval o).run P w'= .ok (.value v) w') (h:bW P ops C Q bg rest (a.put o.dst v) w):bW P ops C Q bg (o::rest) a w:=by
 unfold bW;simp only[hw,hf,if_true];exact⟨v,fun w' hc=>hv w' (hc hr),h⟩
theorem jX {Q:Act->World->Prop}{rest:List Oper}{a:Act}{w:World}{o:Oper}{bg:Bool}(hw:Region.wanted o (yielded ops a.tmps)=true)(hf:floats o.op=false)(hh:dO o.op=false)
 (h: ∀K:Act->World->Prop,(∀a' w',(bg=true->C w')->bW P ops C Q bg rest a' w'->K a' w')->o.wp P a w K (gU Q)):bW P ops C Q bg (o::rest) a w:=by
 unfold bW;simp only[hw,hf,hh,Bool.not_false,Bool.and_true,if_true];exact h _ fun a' w' h1 h2=>⟨h1,h2⟩
theorem uo {Q:Act->World->Prop}{rest:List Oper}{a:Act}{w:World}{o:Oper}{bg:Bool}(hw:Region.wanted o (yielded ops a.tmps)=true)(hf:floats o.op=false)(hh:dO o.op=true)
 (h: ∀K:Act->World->Prop,(∀a' w',bW P ops C Q false rest a' w'->K a' w')->o.wp P a w K (gU Q)):bW P ops C Q bg (o::rest) a w:=by
 unfold bW;simp only[hw,hf,hh,Bool.not_true,Bool.and_false,if_true];exact h _ fun a' w' h2=>⟨fun h=>(by cases h),h2⟩
theorem uq {Q:Act->World->Prop}{a:Act}{w:World}(h:Q a w):bW P ops C Q false [] a w:=⟨fun h=>(by cases h),h⟩
end
end
section
open Go Go.RowKit
def recs (L:List Rec):List Value:=L.flatMap fun r=>[.int .i64 r.pos, .int .i64 r.key, .int .i64 r.val]
def oL (w:World)(b o:Nat)(r:Rec):Prop:=
 w.cell? ⟨b,o,none⟩=some (.int .i64 r.pos)/\w.cell? ⟨b,o+1,none⟩=some (.int .i64 r.key)/\w.cell? ⟨b,o+2,none⟩=some (.int .i64 r.val)
def Va (w:World)(b o:Nat):Prop:=w.frozen? ⟨b,o,none⟩=false/\w.frozen? ⟨b,o+1,none⟩=false/\w.frozen? ⟨b,o+2,none⟩=false
structure RW (w:World)(b off:Nat)(L:List Rec):Prop where
 recs: ∀i r,L[i]?=some r->oL w b (off+i*3) r
 soft: ∀i,i<L.length->Va w b (off+i*3)
theorem oL.pure {w w':World}{b o:Nat}{r:Rec}(h:oL w b o r)(hk:Kept none' w w'):oL w' b o r:=
 ⟨hk.cell (fun h=>h) h.1,hk.cell (fun h=>h) h.2.1,hk.cell (fun h=>h) h.2.2⟩
theorem RW.pure {w w':World}{b off:Nat}{L:List Rec}(h:RW w b off L)(hk:Kept none' w w'):RW w' b off L:=by
 refine⟨fun i r hr=>(h.recs i r hr).pure hk,fun i hi=>?_⟩
 obtain⟨r,hr⟩: ∃r,L[i]?=some r:=⟨_,List.getElem?_eq_getElem hi⟩
 have hb:=block_lt_of_cell (h.recs i r hr).1
 have hs:=h.soft i hi
 exact⟨by rw[hk.fq _ _ hb];exact hs.1,by rw[hk.fq _ _ hb];exact hs.2.1,by rw[hk.fq _ _ hb];exact hs.2.2⟩
def qp (w:World)(b o:Nat)(r:Rec):World:=((w.setCell ⟨b,o,none⟩ (.int .i64 r.pos)).setCell ⟨b,o+1,none⟩ (.int .i64 r.key)).setCell ⟨b,o+2,none⟩ (.int .i64 r.val)
theorem Ia {w:World}{b o:Nat}{r x:Rec}(h:oL w b o x):oL (qp w b o r) b o r:=by
 obtain⟨h0,h1,h2⟩:=h
 unfold qp oL
 refine⟨?_,?_,?_⟩
 ·rw[World.cell?_setCell_other _ _ _ _ (by simp),World.cell?_setCell_other _ _ _ _ (by simp),World.cell?_setCell_same _ _ _ h0]
 ·rw[World.cell?_setCell_other _ _ _ _ (by simp),World.cell?_setCell_same _ _ _ (by rw[World.cell?_setCell_other _ _ _ _ (by simp)];exact h1)]
 ·rw[World.cell?_setCell_same _ _ _ (by rw[World.cell?_setCell_other _ _ _ _ (by simp),World.cell?_setCell_other _ _ _ _ (by simp)];exact h2)]
theorem Kq {w:World}{b o o':Nat}{r x:Rec}(h:oL w b o' x)(hne:o'+2<o\/o+2<o'):oL (qp w b o r) b o' x:=by
 obtain⟨h0,h1,h2⟩:=h
 unfold qp oL
 refine⟨?_,?_,?_⟩
 ·rw[World.cell?_setCell_other _ _ _ _ (by intro e;injection e with _ e _;omega),World.cell?_setCell_other _ _ _ _ (by intro e;injection e with _ e _;omega),World.cell?_setCell_other _ _ _ _ (by intro e;injection e with _ e _;omega)];exact h0
 ·rw[World.cell?_setCell_other _ _ _ _ (by intro e;injection e with _ e _;omega),World.cell?_setCell_other _ _ _ _ (by intro e;injection e with _ e _;omega),World.cell?_setCell_other _ _ _ _ (by intro e;injection e with _ e _;omega)];exact h1
 ·rw[World.cell?_setCell_other _ _ _ _ (by intro e;injection e with _ e _;omega),World.cell?_setCell_other _ _ _ _ (by intro e;injection e with _ e _;omega),World.cell?_setCell_other _ _ _ _ (by intro e;injection e with _ e _;omega)];exact h2
theorem RW.put {w:World}{b off i:Nat}{L:List Rec}(h:RW w b off L)(r:Rec)(hi:i<L.length):RW (qp w b (off+i*3) r) b off (L.set i r):=by
 refine⟨fun j x hx=>?_,fun j hj=>?_⟩
 ·by_cases e:i=j
  ·subst e
   rw[List.getElem?_set_self hi]at hx
   cases hx
   exact Ia (h.recs i _ (List.getElem?_eq_getElem hi))
  ·rw[List.getElem?_set_ne e]at hx
   exact Kq (h.recs j x hx) (by omega)
 ·rw[List.length_set]at hj
  have:=h.soft j hj
  unfold Va qp at*
  simpa using this
theorem RW.swap {w:World}{b off i j:Nat}{L:List Rec}(h:RW w b off L)(x y:Rec)(hi:i<L.length)(hj:j<L.length):RW (qp (qp w b (off+i*3) y) b (off+j*3) x) b off ((L.set i y).set j x):=
 (h.put y hi).put x (by rw[List.length_set];exact hj)
end
section
open Go Go.RowKit
attribute [local irreducible] bH bW
end
section
open Go Go.RowKit Go.Lib
attribute [local irreducible] bH bW
theorem tN (L:List Rec):(recs L).length=L.length*3:=by
 unfold recs
 induction L with
 |nil=>rfl
 |cons x L ih=>simp only[List.flatMap_cons,List.length_append,List.length_cons,List.length_nil];omega
theorem Reads.len {w:World}{v:Value}{L:List Rec}(h:Reads w 3 v (recs L)): ∃a cap,v= .slice a L.length cap/\L.length<=cap/\cap<=maxLen:=by
 obtain⟨a,n,cap,rfl,h1,h2,h3,_⟩:=h
 rw[tN]at h3
 obtain rfl:L.length=n:=by omega
 exact⟨a,cap,rfl,h1,h2⟩
theorem gG {w:World}{base e size n:Nat}{v:Value}{xs:List Value}(h:w.ownsRow base e size v n xs){b:Nat}(hb:v.ownBlock=some b):base<=b/\b<w.heap.size:=by
 rcases h.2 with⟨rfl,_⟩|⟨g,cap,cur,rfl,h1,h2,_⟩
 ·cases hb
 ·cases hb;exact⟨h1,(Array.getElem?_eq_some_iff.1 h2).1⟩
theorem EW {L:List Rec}: ∀{i:Nat}{r:Rec},L[i]?=some r->(recs L)[i*3]?=some (.int .i64 r.pos)/\(recs L)[i*3+1]?=some (.int .i64 r.key)/\(recs L)[i*3+2]?=some (.int .i64 r.val):=by
 induction L with
 |nil=>intro i r h;simp at h
 |cons x L ih=>
  intro i r h
  have e:recs (x::L)= .int .i64 x.pos:: .int .i64 x.key:: .int .i64 x.val::recs L:=rfl
  cases i with
  |zero=>rw[List.getElem?_cons_zero]at h;cases h;rw[e];exact⟨rfl,rfl,rfl⟩
  |succ i=>
   rw[List.getElem?_cons_succ]at h
   obtain⟨h1,h2,h3⟩:=ih h
   rw[e,show(i+1)*3=i*3+3 by omega]
   exact⟨h1,h2,h3⟩
theorem RW.bQ {w:World}{base e g n cap:Nat}{L:List Rec}(h:w.ownsRow base e 3 (.slice (some ⟨g,0,none⟩) n cap) n (Go.Proofs.YtglbkodmmogomaaGreatDoor.recs L)):RW w g 0 L:=by
 obtain⟨h1,⟨h2,_⟩|⟨g',cap',cur,h2,hb,hg,hn,hc,hs,ht⟩⟩:=h
 ·cases h2
 ·injection h2 with h2 _ _
  injection h2 with h2
  injection h2 with h2 _ _
  subst h2
  rw[tN]at h1
  have get: ∀j x,(Go.Proofs.YtglbkodmmogomaaGreatDoor.recs L)[j]?=some x->w.cell? ⟨g,j,none⟩=some x:=by
   intro j x hx
   rw[cell_of_row w g j cur e (0,0) hg]
   rw[<-ht,List.getElem?_take]at hx
   split at hx
   ·simpa using hx
   ·cases hx
  refine⟨fun i r hr=>?_,fun i _=>⟨frozen_of_row w g _ cur e hg,frozen_of_row w g _ cur e hg,frozen_of_row w g _ cur e hg⟩⟩
  obtain⟨q0,q1,q2⟩:=EW hr
  rw[Nat.zero_add]
  exact⟨get _ _ q0,get _ _ q1,get _ _ q2⟩
theorem Reads.recAt {w:World}{v:Value}{L:List Rec}(h:Reads w 3 v (recs L)): ∃a cap,v= .slice a L.length cap/\L.length<=cap/\cap<=maxLen/\(L=[]\/ ∃b off,a=some ⟨b,off,none⟩/\ ∀i r,L[i]?=some r->oL w b (off+i*3) r):=by
 obtain⟨a,cap,hv,h1,h2⟩:=h.len
 refine⟨a,cap,hv,h1,h2,?_⟩
 obtain⟨a',n,cap',hv',_,_,h3,h4⟩:=h
 rw[hv]at hv'
 injection hv' with e1 e2 e3
 subst e1
 rcases h4 with h4|⟨b,off,hb,h4⟩
 ·left
  have:=congrArg List.length h4
  rw[tN]at this
  exact List.eq_nil_of_length_eq_zero (by simp only[List.length_nil]at this;omega)
 ·right
  refine⟨b,off,hb,fun i r hr=>?_⟩
  obtain⟨q0,q1,q2⟩:=EW hr
  exact⟨h4 _ _ q0,by have:=h4 _ _ q1;rwa[<-Nat.add_assoc]at this,by have:=h4 _ _ q2;rwa[<-Nat.add_assoc]at this⟩
end
end Go.Proofs.YtglbkodmmogomaaGreatDoor
