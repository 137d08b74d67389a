/- A REGION THAT DRAWS ITS ORDER AND STORES, WALKED ONCE: what reads memory comes ahead of every store, in whatever order is picked; so behind the first store nothing need be held of the world. -/
import Derived.Test.YtglbkodmmogomaaGreatDoorI03
set_option linter.unusedVariables false
set_option linter.unusedSimpArgs false
set_option maxHeartbeats 1000000
set_option maxRecDepth 100000
namespace Go.Proofs.YtglbkodmmogomaaGreatDoor
section
open Go
section
variable {P:Program} {ops:Array Oper} {md:Region.Mode} {C:World->Prop}
def OY:Op->Bool
 | .move _| .assign _| .pick .. | .build .. | .binOp .. | .unOp .. | .convert .. | .fieldAddr .. | .field .. | .indexAddr .. | .extract .. =>true
 |_=>false
def fH:Op->Bool
 | .store .. =>true
 |_=>false
def nG (o:Op):Bool:=floats o&&!OY o
def xC (md:Region.Mode)(ops:Array Oper):Bool:=
 (List.range ops.size).all fun j=>match ops[j]? with
   |some oj=>!fH oj.op||(List.range ops.size).all fun i=>match ops[i]? with
    |some oi=>!nG oi.op||oj.after.any fun e=>Region.binds md e&&e.on==i
    |none=>true
   |none=>true
theorem Cb (h:xC md ops=true){j i:Nat}{oj oi:Oper}(hj:ops[j]?=some oj)(hi:ops[i]?=some oi)(hh:fH oj.op=true)(hr:nG oi.op=true):
 ∃e∈oj.after,Region.binds md e=true/\e.on=i:=by
 have hj':=(κ.1 hj).1;have hi':=(κ.1 hi).1;have h1:=List.all_eq_true.1 h j (List.mem_range.2 hj');simp only[hj,hh,Bool.not_true,Bool.false_or]at h1;have h2:=List.all_eq_true.1 h1 i (List.mem_range.2 hi');simp only[hi,hr,Bool.not_true,Bool.false_or]at h2;rw[Array.any_eq_true]at h2;obtain⟨k,hk,h2⟩:=h2;simp only[Φ,beq_iff_eq]at h2;exact⟨_,Array.getElem_mem hk,h2.1,h2.2⟩
def rJ (ops:Array Oper)(listed:Array Bool):Prop:= ∀(j:Nat) oj,ops[j]?=some oj->fH oj.op=true->listed.getD j true=false
def Shut (ops:Array Oper)(listed:Array Bool):Prop:= ∀(j:Nat) oj,ops[j]?=some oj->fH oj.op=true->listed.getD j true=true-> ∀(i:Nat) oi,ops[i]?=some oi->nG oi.op=true->listed.getD i true=true
theorem l9 {listed:Array Bool}{j:Nat}(hj:j∈Region.ready md ops listed){oj:Oper}(hoj:ops[j]?=some oj){e:Edge}(he:e∈oj.after)(hb:Region.binds md e=true):listed.getD e.on true=true:=by
 obtain⟨_,o,ho,hall⟩:=mem_ready.1 hj;rw[hoj]at ho;cases ho;have h2:=hall e he hb
 rcases Nat.lt_or_ge e.on listed.size with h'|h'
 ·simp[h']at h2⊢;exact h2
 ·simp[Array.getElem?_eq_none h']at h2
theorem jV (listed:Array Bool)(j:Nat):(listed.setIfInBounds j true).getD j true=true:=by
 rw[Array.getD_eq_getD_getElem?,Array.getElem?_setIfInBounds];by_cases h:j<listed.size
 ·simp[h]
 ·simp[h]
theorem getD_set_true (listed:Array Bool)(j i:Nat)(h:listed.getD i true=true):(listed.setIfInBounds j true).getD i true=true:=by
 by_cases e:j=i
 ·subst e
  exact jV _ _
 ·rw[getD_set_ne true e];exact h
theorem Shut.set (hh:xC md ops=true){listed:Array Bool}(h:Shut ops listed){j:Nat}(hj:j∈Region.ready md ops listed):Shut ops (listed.setIfInBounds j true):=by
 intro k ok hk mW hl i oi hi hr;by_cases e:j=k
 ·subst e
  obtain⟨e,he,hb,rfl⟩:=Cb hh hk hi mW hr;exact getD_set_true _ _ _ (l9 hj hk he hb)
 ·rw[getD_set_ne true e]at hl
  exact getD_set_true _ _ _ (h k ok hk mW hl i oi hi hr)
def wpAnyH (P:Program)(md:Region.Mode)(ops:Array Oper)(C:World->Prop)(Q:Act->World->Prop):Nat->Array Bool->Act->World->Prop
 |0,listed,a,w=>(rJ ops listed->C w)/\(∀(k:Nat) o,ops[k]?=some o->listed.getD k true=true)/\Q a w
 |fuel+1,listed,a,w=>(rJ ops listed->C w)/\(Region.ready md ops listed=[]->Q a w)/\
  ∀i∈Region.ready md ops listed,wpOp P ops (lu Q) i (wpAnyH P md ops C Q fuel (listed.setIfInBounds i true)) a w
theorem sG {Q:Act->World->Prop}{Q':Exit->Act->World->Prop}(hQ: ∀a w,Q a w->Q' .normal a w): ∀(fuel:Nat)(listed:Array Bool)(a:Act)(w:World),
 wpAnyH P md ops C Q fuel listed a w->wpAny P md ops Q' fuel listed a w
 |0,_,_,_,h=>⟨ready_nil h.2.1,hQ _ _ h.2.2⟩
 |fuel+1,_,_,_,h=>⟨fun h0=>hQ _ _ (h.2.1 h0),fun i hi=>wpOp_mono (fun a w=>sG hQ fuel _ a w)
   (zC (fun e a w h=>by cases e<;>first|exact hQ _ _ h|exact h.elim) (h.2.2 i hi))⟩
theorem wpAnyH.cold {Q:Act->World->Prop}{fuel:Nat}{listed:Array Bool}{a:Act}{w:World}(h:wpAnyH P md ops C Q fuel listed a w):rJ ops listed->C w:=by
 cases fuel with
 |zero=>exact h.1
 |succ f=>exact h.1
def uP (C:World->Prop)(o:Oper)(w:World):Prop:=nG o.op=true->C w
theorem wpAnyH_first {Q:Act->World->Prop}{i:Nat}{oi:Oper}{v:Value}(hh:xC md ops=true)(hi:ops[i]?=some oi)(hfl:floats oi.op=true)(hsel: ∀(j:Nat)(o:Oper) cs b,ops[j]?=some o->o.op≠ .select cs b):
 ∀(fuel:Nat)(listed:Array Bool)(a:Act)(w:World),
  (∀j oj,ops[j]?=some oj->j≠i->listed.getD j true=false->(∀e∈oj.after,Region.binds md e=true->e.on≠i)->oi.apart ops oj=true)->
  (rJ ops listed->C w)->Shut ops listed->
  i∈Region.ready md ops listed->jO P ops (uP C oi) oi v a->
  wpAnyH P md ops C Q fuel (listed.setIfInBounds i true) (a.put oi.dst v) w->wpAnyH P md ops C Q (fuel+1) listed a w:=by
 have hnot:fH oi.op=false:=by cases h:oi.op<;>rw[h]at hfl<;>first|rfl|cases hfl
 have hcls: ∀(listed:Array Bool)(w:World),(rJ ops listed->C w)->Shut ops listed->i∈Region.ready md ops listed->uP C oi w:=by
  intro listed w hC hS hr hread;refine hC fun j oj hj mW=>?_
  cases hl:listed.getD j true with
  |false=>rfl
  |true=>have:=hS j oj hj mW hl i oi hi hread;rw[(mem_ready.1 hr).1]at this;cases this
 intro fuel
 induction fuel with
 |zero=>
  intro listed a w _ hC hS hr hy H;refine⟨hC,fun h=>(by rw[h]at hr;cases hr),fun j hj=>?_⟩;by_cases hji:j=i
  ·subst hji;exact hy.wpOp hi (hcls listed w hC hS hr) H
  ·have:=ready_mono hj hji
   rw[ready_nil H.2.1]at this;cases this
 |succ fuel ih=>
  intro listed a w hfree hC hS hr hy H;refine⟨hC,fun h=>(by rw[h]at hr;cases hr),fun j hj=>?_⟩;by_cases hji:j=i
  ·subst hji;exact hy.wpOp hi (hcls listed w hC hS hr) H
  ·have h1:=H.2.2 j (ready_mono hj hji)
   obtain⟨hjun,oj,hoj,hall⟩:=mem_ready.1 hj;have Vw: ∀e∈oj.after,Region.binds md e=true->e.on≠i:=fun e he hb heq=>(by have h1:=l9 hj hoj he hb;rw[heq,(mem_ready.1 hr).1]at h1;cases h1);have h2:=Ba hoj (hfree j oj hoj hji hjun Vw) (fun cs b=>hsel i oi cs b hi) (fun cs b=>hsel j oj cs b hoj) hy h1;have hfree': ∀k ok,ops[k]?=some ok->k≠i->(listed.setIfInBounds j true).getD k true=false->
    (∀e∈ok.after,Region.binds md e=true->e.on≠i)->oi.apart ops ok=true:=fun k ok hk hki hun hno=>by
    refine hfree k ok hk hki ?_ hno;by_cases hjk:j=k
    ·subst hjk;exact hjun
    ·rw[getD_set_ne true hjk]at hun;exact hun
   refine wpOp_mono (fun a' w' h3=>ih (listed.setIfInBounds j true) a' w' hfree' (fun VD=>?_) (hS.set hh hj) (ready_mono hr (Ne.symm hji)) h3.1 ?_) h2
   ·refine h3.2.cold fun k ok hk mW=>?_
    have hki:k≠i:=fun e=>(by subst e;rw[hi]at hk;cases hk;rw[hnot]at mW;cases mW);have:=VD k ok hk mW;by_cases hjk:j=k
    ·subst hjk
     rw[jV]at this;cases this
    ·rw[getD_set_ne true hjk,getD_set_ne true (Ne.symm hki)]
     rwa[getD_set_ne true hjk]at this
   ·rw[Array.setIfInBounds_comm _ _ hji]
    exact h3.2
def dX (P:Program)(ops:Array Oper)(C:World->Prop)(Q:Act->World->Prop):Bool->List Oper->Act->World->Prop
 |cO,[],a,w=>(cO=true->C w)/\Q a w
 |cO,o::rest,a,w=>
  if Region.wanted o (yielded ops a.tmps)then
   if floats o.op then∃v,(∀w',uP C o w'->(execOp a.eval o).run P w'= .ok (.value v) w')/\dX P ops C Q cO rest (a.put o.dst v) w
   else o.wp P a w (fun a' w'=>((cO&&!fH o.op)=true->C w')/\dX P ops C Q (cO&&!fH o.op) rest a' w') (lu Q)
  else dX P ops C Q (cO&&!fH o.op) rest (a.put o.dst undef) w
theorem fM {Q:Act->World->Prop}(hs:Region.noSelect ops=true)(hh:xC .any ops=true): ∀(l:List Nat)(listed:Array Bool)(cO:Bool)(a:Act)(w:World),
 fP .any ops l listed=true->Shut ops listed->(rJ ops listed->cO=true)->(cO=true->C w)->dX P ops C Q cO (l.map fun k=>(ops[k]?).getD default) a w->wpAnyH P .any ops C Q l.length listed a w
 |[],listed,cO,a,w,hB,_,qC,hC,h=>by refine⟨fun hc=>hC (qC hc),fun k o hk=>?_,h.2⟩;simp only[fP,List.all_eq_true,List.mem_range]at hB;exact hB k (κ.1 hk).1
 |k::rest,listed,cO,a,w,hB,hS,qC,hC,h=>by
  simp only[fP,Φ]at hB;obtain⟨hk,hB'⟩:=hB;have hr:k∈Region.ready .any ops listed:=by
   split at hk
   ·simp only[Φ]at hk;simpa using hk.1
   ·have:Region.ready .any ops listed=[k]:=by simpa using hk
    rw[this];simp
  obtain⟨hun,o,hok,_⟩:=mem_ready.1 hr;simp only[Θ,hok,Δ,dX]at h;simp only[xK,hok]at hk;have hS':=hS.set hh hr;have hnext:rJ ops (listed.setIfInBounds k true)->(cO&&!fH o.op)=true:=by
   intro hc;have hno:fH o.op=false:=by
    cases hz:fH o.op with
    |false=>rfl
    |true=>have h1:=hc k o hok hz;rw[jV]at h1;cases h1
   rw[hno,qC]
   ·rfl
   ·intro j oj hj mW
    have:=hc j oj hj mW;by_cases e:k=j
    ·subst e;exact hun
    ·rwa[getD_set_ne true e]at this
  by_cases hf:floats o.op=true
  ·rw[if_pos hf]at hk
   simp only[Φ]at hk;have hno:fH o.op=false:=by cases h:o.op<;>rw[h]at hf<;>first|rfl|cases hf
   by_cases hw:Region.wanted o (yielded ops a.tmps)=true
   ·simp only[hw,if_true,hf]at h
    obtain⟨v,hv,hn⟩:=h;refine wpAnyH_first hh hok hf (Region.noSelect_spec hs) rest.length listed a w (Region.free_spec hok hk.2) (fun hc=>hC (qC hc)) hS hr (.inl ⟨hw,hv⟩)
     (fM hs hh rest _ cO _ w hB' hS' (fun hc=>?_) hC hn)
    have:=hnext hc;rw[Φ]at this;exact this.1
   ·simp only[hw,hno,Bool.not_false,Bool.and_true]at h
    refine wpAnyH_first hh hok hf (Region.noSelect_spec hs) rest.length listed a w (Region.free_spec hok hk.2) (fun hc=>hC (qC hc)) hS hr (.inr ⟨by simpa using hw,rfl⟩)
     (fM hs hh rest _ cO _ w hB' hS' (fun hc=>?_) hC h)
    have:=hnext hc;rw[Φ]at this;exact this.1
  ·rw[if_neg hf]at hk
   have hr1:Region.ready .any ops listed=[k]:=(by simpa using hk);refine⟨fun hc=>hC (qC hc),fun h0=>(by rw[h0]at hr1;cases hr1),fun j hj=>?_⟩;rw[hr1]at hj;obtain rfl:j=k:=(by simpa using hj);unfold wpOp;simp only[hok];by_cases hw:Region.wanted o (yielded ops a.tmps)=true
   ·simp only[hw,if_true,hf]at h⊢
    exact .inl (Oper.wp_mono (fun a' w' h'=>fM hs hh rest _ _ a' w' hB' hS' hnext h'.1 h'.2) h)
   ·simp only[hw]at h⊢
    refine fM hs hh rest _ _ _ w hB' hS' hnext (fun hc=>hC ?_) h;rw[Φ]at hc;exact hc.1
theorem fV {id:Nat}{Q:Exit->Act->World->Prop}{a:Act}{w:World}(ord:List Nat)(C:World->Prop)(hm:P.follows .mixedOrders=true)(hB:(Region.noSelect ops&&xC .any ops&&fP .any ops ord (Array.replicate ops.size false))=true)
 (hlen:ord.length=ops.size) (hC:C w.drew) (h:dX P ops C (Q .normal) true (ord.map fun k=>(ops[k]?).getD default) a w.drew):(Code.region id ops true).wp P Q a w:=by
 simp only[Φ]at hB;obtain⟨⟨h1,h2⟩,h3⟩:=hB;refine wp_region_any hm (sG (C:=C) (Q:=Q .normal) (fun _ _ h=>h) _ _ _ _ ?_);rw[<-hlen];refine fM h1 h2 ord _ true a w.drew (by rw[hlen];exact h3) (fun j oj hj _ hl=>?_) (fun _=>rfl) (fun _=>hC) h;have hlt:=(κ.1 hj).1;rw[hlen,Array.getD_eq_getD_getElem?,Array.getElem?_replicate,if_pos hlt]at hl;cases hl
theorem eY {Q:Act->World->Prop}{rest:List Oper}{a:Act}{w:World}{o:Oper}{v:Value}{cO:Bool}(hw:Region.wanted o (yielded ops a.tmps)=true)(hf:floats o.op=true)
 (hv: ∀w',(execOp a.eval o).run P w'= .ok (.value v) w') (h:dX P ops C Q cO rest (a.put o.dst v) w):dX P ops C Q cO (o::rest) a w:=by
 unfold dX;simp only[hw,hf,if_true];exact⟨v,fun w' _=>hv w',h⟩
theorem mM {Q:Act->World->Prop}{rest:List Oper}{a:Act}{w:World}{o:Oper}{v:Value}{cO:Bool}(hw:Region.wanted o (yielded ops a.tmps)=true)(hf:floats o.op=true)(hr:nG o.op=true)
 (hv: ∀w',C w'->(execOp a.eval o).run P w'= .ok (.value v) w') (h:dX P ops C Q cO rest (a.put o.dst v) w):dX P ops C Q cO (o::rest) a w:=by
 unfold dX;simp only[hw,hf,if_true];exact⟨v,fun w' hc=>hv w' (hc hr),h⟩
theorem jP {Q:Act->World->Prop}{rest:List Oper}{a:Act}{w:World}{o:Oper}{cO:Bool}(hw:Region.wanted o (yielded ops a.tmps)=true)(hf:floats o.op=false)(hh:fH o.op=false)
 (h: ∀K:Act->World->Prop,(∀a' w',(cO=true->C w')->dX P ops C Q cO rest a' w'->K a' w')->o.wp P a w K (lu Q)):dX P ops C Q cO (o::rest) a w:=by
 unfold dX;simp only[hw,hf,hh,Bool.not_false,Bool.and_true,if_true];exact h _ fun a' w' h1 h2=>⟨h1,h2⟩
theorem jM {Q:Act->World->Prop}{rest:List Oper}{a:Act}{w:World}{o:Oper}{cO:Bool}(hw:Region.wanted o (yielded ops a.tmps)=true)(hf:floats o.op=false)(hh:fH o.op=true)
 (h: ∀K:Act->World->Prop,(∀a' w',dX P ops C Q false rest a' w'->K a' w')->o.wp P a w K (lu Q)):dX P ops C Q cO (o::rest) a w:=by
 unfold dX;simp only[hw,hf,hh,Bool.not_true,Bool.and_false,if_true];exact h _ fun a' w' h2=>⟨fun h=>(by cases h),h2⟩
theorem oK {Q:Act->World->Prop}{a:Act}{w:World}(h:Q a w):dX P ops C Q false [] a w:=⟨fun h=>(by cases h),h⟩
end
end
section
open Go Go.RowKit
def recs (L:List Rec):List Value:=L.flatMap fun r=>[.int .i64 r.pos,.int .i64 r.key,.int .i64 r.val]
def uf (w:World)(b o:Nat)(r:Rec):Prop:=
 w.cell? ⟨b,o,none⟩=some (.int .i64 r.pos)/\w.cell? ⟨b,o+1,none⟩=some (.int .i64 r.key)/\w.cell? ⟨b,o+2,none⟩=some (.int .i64 r.val)
def afi (w:World)(b o:Nat):Prop:=w.frozen? ⟨b,o,none⟩=false/\w.frozen? ⟨b,o+1,none⟩=false/\w.frozen? ⟨b,o+2,none⟩=false
structure RW (w:World)(b off:Nat)(L:List Rec):Prop where
 recs: ∀i r,L[i]?=some r->uf w b (off+i*3) r
 soft: ∀i,i<L.length->afi w b (off+i*3)
theorem uf.pure {w w':World}{b o:Nat}{r:Rec}(h:uf w b o r)(hk:ε η w w'):uf w' b o r:=
 ⟨hk.cell id h.1,hk.cell id h.2.1,hk.cell id h.2.2⟩
theorem RW.pure {w w':World}{b off:Nat}{L:List Rec}(h:RW w b off L)(hk:ε η w w'):RW w' b off L:=by refine⟨fun i r hr=>(h.recs i r hr).pure hk,fun i hi=>?_⟩;obtain⟨r,hr⟩: ∃r,L[i]?=some r:=⟨_,ι hi⟩;have hb:=block_lt_of_cell (h.recs i r hr).1;have hs:=h.soft i hi;exact⟨by rw[hk.fq _ _ hb];exact hs.1,by rw[hk.fq _ _ hb];exact hs.2.1,by rw[hk.fq _ _ hb];exact hs.2.2⟩
def pK (w:World)(b o:Nat)(r:Rec):World:=((w.setCell ⟨b,o,none⟩ (.int .i64 r.pos)).setCell ⟨b,o+1,none⟩ (.int .i64 r.key)).setCell ⟨b,o+2,none⟩ (.int .i64 r.val)
theorem DT (w:World)(b o:Nat)(r:Rec):ε (one b) w (pK w b o r):=
 (((ε.refl (one b) w).setCell (p:=⟨b,o,none⟩) (.inl rfl) _).setCell (p:=⟨b,o+1,none⟩) (.inl rfl) _).setCell (p:=⟨b,o+2,none⟩) (.inl rfl) _
theorem Rx {w:World}{b o:Nat}{r x:Rec}(h:uf w b o x):uf (pK w b o r) b o r:=by
 obtain⟨h0,h1,h2⟩:=h;unfold pK uf;refine⟨?_,?_,?_⟩
 ·rw[World.cell?_setCell_other _ _ _ _ (by simp),World.cell?_setCell_other _ _ _ _ (by simp),World.cell?_setCell_same _ _ _ h0]
 ·rw[World.cell?_setCell_other _ _ _ _ (by simp),World.cell?_setCell_same _ _ _ (by rw[World.cell?_setCell_other _ _ _ _ (by simp)];exact h1)]
 ·rw[World.cell?_setCell_same _ _ _ (by rw[World.cell?_setCell_other _ _ _ _ (by simp),World.cell?_setCell_other _ _ _ _ (by simp)];exact h2)]
theorem U8 {w:World}{b o o':Nat}{r x:Rec}(h:uf w b o' x)(hne:o'+2<o\/o+2<o'):uf (pK w b o r) b o' x:=by
 obtain⟨h0,h1,h2⟩:=h;unfold pK uf;refine⟨?_,?_,?_⟩
 ·rw[World.cell?_setCell_other _ _ _ _ (by intro e;injection e with _ e _;omega),World.cell?_setCell_other _ _ _ _ (by intro e;injection e with _ e _;omega),World.cell?_setCell_other _ _ _ _ (by intro e;injection e with _ e _;omega)];exact h0
 ·rw[World.cell?_setCell_other _ _ _ _ (by intro e;injection e with _ e _;omega),World.cell?_setCell_other _ _ _ _ (by intro e;injection e with _ e _;omega),World.cell?_setCell_other _ _ _ _ (by intro e;injection e with _ e _;omega)];exact h1
 ·rw[World.cell?_setCell_other _ _ _ _ (by intro e;injection e with _ e _;omega),World.cell?_setCell_other _ _ _ _ (by intro e;injection e with _ e _;omega),World.cell?_setCell_other _ _ _ _ (by intro e;injection e with _ e _;omega)];exact h2
theorem RW.put {w:World}{b off i:Nat}{L:List Rec}(h:RW w b off L)(r:Rec)(hi:i<L.length):RW (pK w b (off+i*3) r) b off (L.set i r):=by
 refine⟨fun j x hx=>?_,fun j hj=>?_⟩
 ·by_cases e:i=j
  ·subst e
   rw[List.getElem?_set_self hi]at hx;cases hx;exact Rx (h.recs i _ (ι hi))
  ·rw[List.getElem?_set_ne e]at hx
   exact U8 (h.recs j x hx) (by omega)
 ·rw[List.length_set]at hj
  have:=h.soft j hj;unfold afi pK at*;simpa using this
theorem RW.swap {w:World}{b off i j:Nat}{L:List Rec}(h:RW w b off L)(x y:Rec)(hi:i<L.length)(hj:j<L.length):RW (pK (pK w b (off+i*3) y) b (off+j*3) x) b off ((L.set i y).set j x):=
 (h.put y hi).put x (by rw[List.length_set];exact hj)
theorem yj (w:World)(b o o':Nat)(x y:Rec):ε (one b) w (pK (pK w b o y) b o' x):=(DT _ _ _ _).trans (DT _ _ _ _)
def Moves (w:World)(b off:Nat)(L:List Rec)(e:Ending)(w':World):Prop:=e= .returned (.tuple #[])/\RW w' b off L/\ε (one b) w w'
theorem bI {n:Nat}(h:n<4398046511104):IntKind.i64.wrap ((n:Nat):Int)=((n:Nat):Int):=by rw[IntKind.wrap_i64];omega
theorem set_mid {A B:List Rec}{x y:Rec}{i:Nat}(h:A.length=i):(A++x::B).set i y=A++y::B:=by subst h;rw[List.set_append_right _ _ (ξ _)];simp
theorem kK {A B:List Rec}{x:Rec}{i:Nat}(h:A.length=i):(A++x::B)[i]?=some x:=by subst h;simp
theorem XF {P V1 U M U1 V S:List Rec}{x y:Rec}{i j:Nat}(hi:(P++V1).length=i)(hj:(P++V1++x::U++M++U1).length=j):
 (((P++V1++x::U++M++U1++y::V++S).set i y).set j x)=P++(V1++[y])++U++M++(U1++[x])++V++S:=by
 rw[show P++V1++x::U++M++U1++y::V++S=(P++V1)++x::(U++M++U1++y::V++S) by simp,set_mid hi,
  show(P++V1)++y::(U++M++U1++y::V++S)=(P++V1++y::U++M++U1)++y::(V++S) by simp,set_mid (by simpa using hj)]
 simp
theorem wB (b off cap N a m n:Nat)(P U M V S:List Rec)(w:World)(h:RW w b off (P++U++M++V++S))(hN:(P++U++M++V++S).length=N)(rY:N<1099511627776)
 (ha:P.length=a) (hm:(P++U++M).length=m) (hU:U.length=n) (hV:V.length=n):
 Calls Tryz.prog 242 #[.slice (some ⟨b,off,none⟩) N cap,.int .i64 a,.int .i64 m,.int .i64 n,.func (.func 117) #[] #[]] w (Moves w b off (P++V++M++U++S)):=by
 have H:=γ h;have HN:=γ hN;have LN:(P++U++M++V++S).length=P.length+U.length+M.length+V.length+S.length:=(by simp;omega);have LM:(P++U++M).length=P.length+U.length+M.length:=(by simp;omega);have b1:a+n<=m/\m+n<=N:=(by omega);have HL:=γ (θ ha (θ hm (θ hU hV)));clear h hN ha hm hU hV LN LM;go_enter Tryz.func242,Tryz.ntmps242;go_wp2
 go_loopw [10] (fun i wr=> ∃k:Nat,k<=n/\i= .int .i64 k/\RW wr b off (P++V.take k++U.drop k++M++U.take k++V.drop k++S)/\ε (one b) w wr) (fun i _=>n-(intOf i).toNat)
 case atStart=>exact⟨0,by omega,rfl,by simpa using H.o,ε.refl _ _⟩
 case round=>
  obtain⟨k,hk,rfl,hr,hkp⟩:=hrel;by_cases hlt:k<n
  ·obtain⟨L1,L2,L3,L4⟩:=HL.o
   obtain⟨x,hx⟩: ∃x,U.drop k=x::U.drop (k+1):=⟨_,abS (by omega)⟩;obtain⟨y,hy⟩: ∃y,V.drop k=y::V.drop (k+1):=⟨_,abS (by omega)⟩;have hx':U.take (k+1)=U.take k++[x]:=(by have h1:U[k]?=some x:=(by have:=congrArg List.head? hx;rwa[List.head?_drop,List.head?_cons]at this);rw[ψ,h1];rfl);have hy':V.take (k+1)=V.take k++[y]:=(by have h1:V[k]?=some y:=(by have:=congrArg List.head? hy;rwa[List.head?_drop,List.head?_cons]at this);rw[ψ,h1];rfl);rw[hx,hy]at hr;obtain⟨i,hi⟩: ∃i,a+k=i:=⟨_,rfl⟩;obtain⟨j,hj⟩: ∃j,m+k=j:=⟨_,rfl⟩;have lx:=congrArg List.length hx;have ly:=congrArg List.length hy;rw[List.length_drop,φ]at lx ly;have hi2:(P++V.take k).length=i:=(by rw[ν,υ];omega);have hj2:(P++V.take k++x::U.drop (k+1)++M++U.take k).length=j:=(by simp only[ν,φ,List.length_drop,υ]at L2⊢;omega);have hlen:(P++V.take k++x::U.drop (k+1)++M++U.take k++y::V.drop (k+1)++S).length=N:=(by have:=HN.o;simp only[ν,φ,List.length_drop,υ]at L2 this⊢;omega);have hstep:=XF (S:=S) (V:=V.drop (k+1)) (y:=y) hi2 hj2;have gx:(P++V.take k++x::U.drop (k+1)++M++U.take k++y::V.drop (k+1)++S)[i]?=some x:=(by rw[show P++V.take k++x::U.drop (k+1)++M++U.take k++y::V.drop (k+1)++S=(P++V.take k)++x::(U.drop (k+1)++M++U.take k++y::V.drop (k+1)++S) by simp];exact kK hi2);have gy:(P++V.take k++x::U.drop (k+1)++M++U.take k++y::V.drop (k+1)++S)[j]?=some y:=(by rw[show P++V.take k++x::U.drop (k+1)++M++U.take k++y::V.drop (k+1)++S=(P++V.take k++x::U.drop (k+1)++M++U.take k)++y::(V.drop (k+1)++S) by simp];exact kK hj2);obtain⟨x0,x1,x2⟩:=hr.recs _ _ gx;obtain⟨y0,y1,y2⟩:=hr.recs _ _ gy;have hx1:i<N:=(by omega);have hy1:j<N:=(by omega);obtain⟨fx0,fx1,fx2⟩:=hr.soft i (by omega);obtain⟨fy0,fy1,fy2⟩:=hr.soft j (by omega);have e1:IntKind.i64.wrap ((a:Int)+k)=(i:Int):=(by rw[<-hi];exact bI (n:=a+k) (by omega));have e2:IntKind.i64.wrap ((m:Int)+k)=(j:Int):=(by rw[<-hj];exact bI (n:=m+k) (by omega));have ne:i≠j:=(by omega);have hnext:=hr.swap x y (i:=i) (j:=j) (by omega) (by omega);rw[hstep,<-hx',<-hy']at hnext;have F:=γ (θ hnext (hkp.trans (yj wr b (off+i*3) (off+j*3) x y)));clear hr hnext hstep gx gy hx hy hx' hy' hi2 hj2 hlen hi hj lx ly L1 L2 L3 L4 hkp;go_wp2_with fail;refine fV [0,1,2,3,4,5,6,7,8,9,10,11,12,13,14,15,16,17,18,19,20,21,22,23] (fun W=>ε η wr W) (by kernel_rfl) (by kernel_rfl) rfl δ.drew ?_;simp only[abU];iterate 21 (first|(apply eY rfl rfl;(intro W;go_simp;rfl);go_frame)|(apply mM rfl rfl rfl;(intro W hW;have c0:=hW.cell id x0;have c1:=hW.cell id x1;have c2:=hW.cell id x2;have d0:=hW.cell id y0;have d1:=hW.cell id y1;have d2:=hW.cell id y2;go_simp;rfl);go_frame))
   apply jM rfl rfl rfl;intro K hK;go_wp2_with fail;apply eY rfl rfl
   ·intro W;go_simp;rfl
   go_frame;apply jM rfl rfl rfl;intro K2 hK2;go_wp2_with fail;apply oK;go_wp2_with fail
   go_roundw
   case rel=>exact⟨k+1,by omega,by go_num,F.o.1.pure δ.drew,F.o.2.drew⟩
   case measure=>simp[intOf];omega
  ·have ek:k=n:=by omega
   subst ek;obtain⟨L1,L2,L3,L4⟩:=HL.o;rw[χ (l:=V) (by omega),χ (l:=U) (by omega),List.drop_of_length_le (l:=U) (by omega),List.drop_of_length_le (l:=V) (by omega)]at hr;clear L1 L2 L3 L4;go_wp2_with fail
   go_end0
   exact⟨rfl,by simpa using hr,hkp⟩
theorem U4 (b off cap N a m n:Nat)(P U V S:List Rec)(w:World)(h:RW w b off (P++U++V++S))(hN:(P++U++V++S).length=N)(rY:N<1099511627776)
 (ha:P.length=a) (hm:(P++U).length=m) (hn:(P++U++V).length=n) (hU:U≠[]) (hV:V≠[]):
 Calls Tryz.prog 214 #[.slice (some ⟨b,off,none⟩) N cap,.int .i64 a,.int .i64 m,.int .i64 n,.func (.func 117) #[] #[]] w (Moves w b off (P++V++U++S)):=by
 have H:=γ h;have HN:=γ hN;have lU:=List.length_pos_iff.2 hU;have lV:=List.length_pos_iff.2 hV;have LN:(P++U++V++S).length=P.length+U.length+V.length+S.length:=(by simp;omega);have LM:(P++U).length=P.length+U.length:=(by simp);have LV:(P++U++V).length=P.length+U.length+V.length:=(by simp;omega);have b1:m<N:=(by omega);have e1:IntKind.i64.wrap ((m:Int)-a)=(U.length:Int):=(by rw[show(m:Int)-a=((U.length:Nat):Int) by omega];exact bI (by omega));have e2:IntKind.i64.wrap ((n:Int)-m)=(V.length:Int):=(by rw[show(n:Int)-m=((V.length:Nat):Int) by omega];exact bI (by omega));have HL:=γ (θ ha (θ hm (θ hn (θ lU lV))));clear h hN ha hm hn lU lV LN LM LV hU hV;go_enter Tryz.func214,Tryz.ntmps214;go_wp2
 go_loopg [10,11] (U.length+V.length) (fun g i j wr=> ∃(P' U' V' S':List Rec),i= .int .i64 (U'.length:Int)/\j= .int .i64 (V'.length:Int)/\U'.length+V'.length=g/\0<U'.length/\0<V'.length/\(P'++U').length=m/\P'++V'++U'++S'=P++V++U++S/\
  RW wr b off (P'++U'++V'++S')/\ε (one b) w wr)
 case atStart=>exact⟨P,U,V,S,rfl,rfl,rfl,HL.o.2.2.2.1,HL.o.2.2.2.2,HL.o.2.1,rfl,H.o,ε.refl _ _⟩
 case round=>
  obtain⟨P',U',V',S',rfl,rfl,hg,h1,h2,h3,h4,hr,hkp⟩:=hrel;have hlen:(P'++V'++U'++S').length=N:=(by rw[h4,<-HN.o];simp;omega);obtain⟨i,hi⟩: ∃i,U'.length=i:=⟨_,rfl⟩;obtain⟨j,hj⟩: ∃j,V'.length=j:=⟨_,rfl⟩;obtain⟨p,hp⟩: ∃p,P'.length=p:=⟨_,rfl⟩;simp only[ν]at h3 hlen;rw[hi,hj]at hg⊢;rw[hi]at h1 h3;rw[hj]at h2;rw[hp]at h3;rw[hi,hj,hp]at hlen;have e3:IntKind.i64.wrap ((m:Int)-i)=(p:Int):=(by rw[show(m:Int)-i=((p:Nat):Int) by omega];exact bI (by omega));have A:=γ (θ hi (θ hj (θ hp (θ h3 (θ h4 hkp)))));have HS:=γ (show p+j+i+S'.length=N by omega);have HR:=γ hr;have hpN:p+i=m/\m+j<=N:=(by omega);clear hi hj hp h3 h4 hkp hr hlen e1 e2
  rcases Nat.lt_trichotomy i j with hlt|heq|hgt
  ·
   have n1:((i:Int) !=(j:Int))=true:=(by simp;omega);have n2: ¬(j:Int)<(i:Int):=(by omega);have e4:IntKind.i64.wrap ((m:Int)+j)=((m+j:Nat):Int):=bI (by omega);obtain⟨mj,hmj⟩: ∃mj,m+j=mj:=⟨_,rfl⟩;obtain⟨d,hd⟩: ∃d,j-i=d:=⟨_,rfl⟩;rw[hmj]at e4;have e5:IntKind.i64.wrap ((mj:Int)-i)=((m+d:Nat):Int):=(by rw[show(mj:Int)-i=((m+d:Nat):Int) by omega];exact bI (by omega));have e6:IntKind.i64.wrap ((j:Int)-i)=(d:Int):=(by rw[show(j:Int)-i=((d:Nat):Int) by omega];exact bI (by omega));have hd0:0<d/\d+i=j:=(by omega);clear hmj hd;obtain⟨V1,V2,rfl,l1,l2⟩: ∃V1 V2,V'=V1++V2/\V1.length=d/\V2.length=i:=⟨V'.take d,V'.drop d,(List.take_append_drop _ _).symm,by rw[υ];have:=A.o.2.1;omega,by rw[List.length_drop];have:=A.o.2.1;omega⟩;have L:=γ (θ l1 l2);clear l1 l2;go_wp2_with fail;refine(wB b off cap N p (m+d) i P' U' V1 V2 S' wr (by simpa using HR.o) ?_ rY A.o.2.2.1 ?_ A.o.1 L.o.2).mono ?_
   ·have h5:=A.o;have h6:=HS.o;have h7:=L.o
    simp only[ν]at h5⊢;omega
   ·have h5:=A.o;have h6:=HS.o;have h7:=L.o
    simp only[ν]at h5⊢;omega
   ·rintro e w2 ⟨rfl,hr2,hk2⟩
    have F:RW w2 b off (P'++V2++V1++(U'++S'))/\ε (one b) w w2:=⟨by simpa using hr2,A.o.2.2.2.2.2.trans hk2⟩;have FF:=γ F;clear F hr2 hk2;go_wp2_with fail;go_roundg (i+d)
    case rel=>
     refine⟨P',V2,V1,U'++S',?_,?_,?_,?_,?_,?_,?_,FF.o.1,FF.o.2⟩
     ·rw[L.o.2]
     ·rw[L.o.1]
     ·rw[L.o.1,L.o.2]
     ·rw[L.o.2];exact h1
     ·rw[L.o.1];exact hd0.1
     ·rw[ν,L.o.2,A.o.2.2.1];exact hpN.1
     ·rw[<-A.o.2.2.2.2.1];simp
    case measure=>omega
  ·
   subst heq;have n1:((i:Int) !=(i:Int))=false:=(by simp);go_wp2_with fail;refine(wB b off cap N p m i P' U' [] V' S' wr (by simpa using HR.o) ?_ rY A.o.2.2.1 ?_ A.o.1 A.o.2.1).mono ?_
   ·have h5:=A.o;have h6:=HS.o
    simp only[ν,Γ]at h5⊢;omega
   ·have h5:=A.o;have h6:=HS.o
    simp only[ν,Γ]at h5⊢;omega
   ·rintro e w2 ⟨rfl,hr2,hk2⟩
    have F:RW w2 b off (P++V++U++S)/\ε (one b) w w2:=⟨by rw[<-A.o.2.2.2.2.1];simpa using hr2,A.o.2.2.2.2.2.trans hk2⟩;have FF:=γ F;clear F hr2 hk2;go_wp2_with fail
    go_end0
    exact⟨rfl,FF.o.1,FF.o.2⟩
  ·
   have n1:((i:Int) !=(j:Int))=true:=(by simp;omega);have n2:(j:Int)<(i:Int):=(by omega);obtain⟨d,hd⟩: ∃d,i-j=d:=⟨_,rfl⟩;have e6:IntKind.i64.wrap ((i:Int)-j)=(d:Int):=(by rw[show(i:Int)-j=((d:Nat):Int) by omega];exact bI (by omega));have hd0:0<d/\d+j=i:=(by omega);clear hd;obtain⟨U1,U2,rfl,l1,l2⟩: ∃U1 U2,U'=U1++U2/\U1.length=j/\U2.length=d:=⟨U'.take j,U'.drop j,(List.take_append_drop _ _).symm,by rw[υ];have:=A.o.1;omega,by rw[List.length_drop];have:=A.o.1;omega⟩;have L:=γ (θ l1 l2);clear l1 l2;go_wp2_with fail;refine(wB b off cap N p m j P' U1 U2 V' S' wr (by simpa using HR.o) ?_ rY A.o.2.2.1 ?_ L.o.1 A.o.2.1).mono ?_
   ·have h5:=A.o;have h6:=HS.o;have h7:=L.o
    simp only[ν]at h5⊢;omega
   ·have h5:=A.o;have h6:=HS.o;have h7:=L.o
    simp only[ν]at h5⊢;omega
   ·rintro e w2 ⟨rfl,hr2,hk2⟩
    have F:RW w2 b off (P'++V'++U2++U1++S')/\ε (one b) w w2:=⟨by simpa using hr2,A.o.2.2.2.2.2.trans hk2⟩;have FF:=γ F;clear F hr2 hk2;go_wp2_with fail;go_roundg (d+j)
    case rel=>
     refine⟨P'++V',U2,U1,S',?_,?_,?_,?_,?_,?_,?_,FF.o.1,FF.o.2⟩
     ·rw[L.o.2]
     ·rw[L.o.1]
     ·rw[L.o.1,L.o.2]
     ·rw[L.o.2];exact hd0.1
     ·rw[L.o.1];exact h2
     ·rw[ν,ν,L.o.2,A.o.2.2.1,A.o.2.1];omega
     ·rw[<-A.o.2.2.2.2.1];simp
    case measure=>omega
end
