/- A region that draws its order, walked once: whatever may be taken at once is taken first (it must yield one value in every world of a class C); an operation that turns the world is taken when nothing else can be. -/
import Derived.Orders
import Derived.KernelRfl
import Derived.Tactics
set_option linter.unusedVariables false
set_option linter.unusedSimpArgs false
namespace Go.Proofs.YtglbkodmmogomaaGreatDoor
open Go
section
variable {P:Program} {ops:Array Oper} {md:Region.Mode} {C:World->Prop} {bar:Bool}
def gU (Q:Act->World->Prop):Exit->Act->World->Prop
 | .normal,a,w=>Q a w
 |_,_,_=>False
theorem Oper.OE {o:Oper}{a:Act}{w:World}{K:Act->World->Prop}{Q Q':Exit->Act->World->Prop}(h: ∀e a w,Q e a w->Q' e a w)
 (hh:o.wp P a w K Q):o.wp P a w K Q':=by
 unfold Oper.wp at*
 generalize(execOp a.eval o).run P w=r at*
 cases r with
 |ok n w'=>
  cases n<;>simp only[Oper.upon]at hh⊢ <;>
   first
    |exact hh
    |exact Calls.mono hh (fun e w'' he=>by
      cases e
      ·exact he
      ·exact h _ _ _ he
      ·obtain⟨a,w,hx⟩:=he;exact⟨a,w,h _ _ _ hx⟩)
 |halt x w'=>cases x<;>simp only[Oper.upon]at hh⊢ <;>first|exact h _ _ _ hh|exact hh
theorem uQ {i:Nat}{a:Act}{w:World}{K:Act->World->Prop}{Q Q':Exit->Act->World->Prop}(h: ∀e a w,Q e a w->Q' e a w)
 (hh:wpOp P ops Q i K a w):wpOp P ops Q' i K a w:=by
 unfold wpOp at*
 split
 ·simpa[*]using hh
 ·rename_i o ho
  simp only[ho]at hh
  split
  ·rename_i hw
   simp only[hw,if_true]at hh
   rcases hh with hh|⟨h1,a,w,h2⟩
   ·exact .inl (Oper.OE h hh)
   ·exact .inr ⟨h1,a,w,h _ _ _ h2⟩
  ·rename_i hw;simp only[hw]at hh;exact hh
def uw (P:Program)(md:Region.Mode)(ops:Array Oper)(C:World->Prop)(bar:Bool)(Q:Act->World->Prop):Nat->Array Bool->Act->World->Prop
 |0,listed,a,w=>(bar=false->C w)/\(∀(k:Nat) o,ops[k]?=some o->listed.getD k true=true)/\Q a w
 |fuel+1,listed,a,w=>C w/\(Region.ready md ops listed=[]->Q a w)/\
  ∀i∈Region.ready md ops listed,wpOp P ops (gU Q) i (uw P md ops C bar Q fuel (listed.setIfInBounds i true)) a w
theorem ready_nil {listed:Array Bool}(h: ∀(k:Nat) o,ops[k]?=some o->listed.getD k true=true):Region.ready md ops listed=[]:=by
 cases hr:Region.ready md ops listed with
 |nil=>rfl
 |cons x xs=>
  have hx:x∈Region.ready md ops listed:=by rw[hr];simp
  obtain⟨h0,o,ho,_⟩:=mem_ready.1 hx
  rw[h x o ho]at h0
  cases h0
theorem uT {Q:Act->World->Prop}{Q':Exit->Act->World->Prop}(hQ: ∀a w,Q a w->Q' .normal a w): ∀(fuel:Nat)(listed:Array Bool)(a:Act)(w:World),
 uw P md ops C bar Q fuel listed a w->wpAny P md ops Q' fuel listed a w
 |0,_,_,_,h=>⟨ready_nil h.2.1,hQ _ _ h.2.2⟩
 |fuel+1,_,_,_,h=>⟨fun h0=>hQ _ _ (h.2.1 h0),fun i hi=>wpOp_mono (fun a w=>uT hQ fuel _ a w)
   (uQ (fun e a w h=>by cases e<;>first|exact hQ _ _ h|exact h.elim) (h.2.2 i hi))⟩
def iw (P:Program)(ops:Array Oper)(C:World->Prop)(o:Oper)(v:Value)(a:Act):Prop:=
 (Region.wanted o (yielded ops a.tmps)=true/\ ∀w,C w->(execOp a.eval o).run P w= .ok (.value v) w)\/
 (Region.wanted o (yielded ops a.tmps)=false/\v=undef)
theorem iw.wpOp {Q:Exit->Act->World->Prop}{i:Nat}{o:Oper}{v:Value}{a:Act}(hi:ops[i]?=some o)(hy:iw P ops C o v a)
 {K:Act->World->Prop} {w:World} (hw:C w) (h:K (a.put o.dst v) w):wpOp P ops Q i K a w:=by
 unfold Go.wpOp
 simp only[hi]
 rcases hy with⟨hw',hv⟩|⟨hw',rfl⟩
 ·simp only[hw',if_true,Oper.wp,hv w hw,Oper.upon];exact .inl h
 ·simp only[hw',Bool.false_eq_true,if_false];exact h
theorem iw.of_same {o:Oper}{v:Value}{a a':Act}(hy:iw P ops C o v a)(he:execOp a'.eval o=execOp a.eval o)
 (hw:Region.wanted o (yielded ops a'.tmps)=Region.wanted o (yielded ops a.tmps)):iw P ops C o v a':=by
 unfold iw at*
 rw[he,hw]
 exact hy
theorem wH {Q:Act->World->Prop}{j:Nat}{oi oj:Oper}{v:Value}(hj:ops[j]?=some oj)(hap:oi.apart ops oj=true)
 (hsi: ∀cs b,oi.op≠ .select cs b) (hsj: ∀cs b,oj.op≠ .select cs b) {K:Act->World->Prop} {a:Act} {w:World}
 (hy:iw P ops C oi v a) (h:wpOp P ops (gU Q) j K (a.put oi.dst v) w):
 wpOp P ops (gU Q) j (fun a' w'=>iw P ops C oi v a'/\K (a'.put oi.dst v) w') a w:=by
 obtain⟨h1,h2,h3⟩:=Oper.apart_spec hap
 have keep: ∀(a:Act),iw P ops C oi v a-> ∀u,iw P ops C oi v (a.put oj.dst u):=fun a hy u=>
  hy.of_same (execOp_put oi hsi a oj.dst u h3) (wanted_put oi a oj.dst u h3)
 have keepD: ∀d,iw P ops C oi v {a with defers:=d::a.defers}:=fun d=>hy.of_same rfl rfl
 unfold Go.wpOp at*
 simp only[hj]at*
 rw[wanted_put oj a oi.dst v h1]at h
 split
 ·rename_i hw
  simp only[hw,if_true]at h
  rcases h with h|⟨hasks,hlets⟩
  case inr=>exact .inr ⟨by unfold Oper.asks at*;rw[execOp_put oj hsj a oi.dst v h1]at hasks;exact hasks,hlets⟩
  refine .inl ?_
  unfold Oper.wp at*
  rw[execOp_put oj hsj a oi.dst v h1]at h
  generalize(execOp a.eval oj).run P w=r at*
  cases r with
  |ok n w'=>
   cases n<;>simp only[Oper.upon]at h⊢
   case value u=>exact⟨keep a hy u,by rw[<-Act.put_comm a v u h2];exact h⟩
   case skip=>exact⟨keep a hy _,by rw[<-Act.put_comm a v undef h2];exact h⟩
   case defer d=>
    refine⟨keep _ (keepD d) _,?_⟩
    rw[<-Act.put_comm _ v undef h2,<-Act.put_defers]
    exact h
   case enter f args=>
    refine Calls.mono h fun e w'' he=>?_
    cases e with
    |returned u=>exact⟨keep a hy u,by rw[<-Act.put_comm a v u h2];exact he⟩
    |panicked c=>exact he
    |outgrown=>exact he
   case row row args=>exact Rows.mono h fun u w'' he=>⟨keep a hy u,by rw[<-Act.put_comm a v u h2];exact he⟩
  |halt x w'=>
   cases x<;>simp only[Oper.upon]at h⊢
   case panic u=>exact h
 ·rename_i hw
  simp only[hw]at h
  exact⟨keep a hy _,by rw[<-Act.put_comm a v undef h2];exact h⟩
def Barred (md:Region.Mode)(ops:Array Oper)(bar:Bool)(listed:Array Bool):Prop:=
 bar=true-> ∃z oz,ops[z]?=some oz/\listed.getD z true=false/\ ∀l:Array Bool,z∈Region.ready md ops l-> ∀(k:Nat) o,ops[k]?=some o->k≠z->l.getD k true=true
theorem rD {Q:Act->World->Prop}{i:Nat}{oi:Oper}{v:Value}(hi:ops[i]?=some oi)(hsel: ∀(j:Nat)(o:Oper) cs b,ops[j]?=some o->o.op≠ .select cs b):
 ∀(fuel:Nat)(listed:Array Bool)(a:Act)(w:World),
  (∀j oj,ops[j]?=some oj->j≠i->listed.getD j true=false->(∀e∈oj.after,Region.binds md e=true->e.on≠i)->oi.apart ops oj=true)->
  C w->Barred md ops bar listed->
  i∈Region.ready md ops listed->iw P ops C oi v a->
  uw P md ops C bar Q fuel (listed.setIfInBounds i true) (a.put oi.dst v) w->uw P md ops C bar Q (fuel+1) listed a w:=by
 intro fuel
 induction fuel with
 |zero=>
  intro listed a w _ hC _ hr hy H
  refine⟨hC,fun h=>(by rw[h]at hr;cases hr),fun j hj=>?_⟩
  by_cases hji:j=i
  ·subst hji;exact hy.wpOp hi hC H
  ·have:=ready_mono hj hji
   rw[ready_nil H.2.1]at this
   cases this
 |succ fuel ih=>
  intro listed a w hfree hC hbar hr hy H
  refine⟨hC,fun h=>(by rw[h]at hr;cases hr),fun j hj=>?_⟩
  by_cases hji:j=i
  ·subst hji;exact hy.wpOp hi hC H
  ·have h1:=H.2.2 j (ready_mono hj hji)
   obtain⟨hjun,oj,hoj,hall⟩:=mem_ready.1 hj
   have hnot: ∀e∈oj.after,Region.binds md e=true->e.on≠i:=fun e he hb heq=>by
    have h1:=hall e he hb
    have h0:=(mem_ready.1 hr).1
    rw[heq]at h1
    rcases Nat.lt_or_ge i listed.size with h'|h'
    ·simp[h']at h0 h1;rw[h0]at h1;cases h1
    ·simp[Array.getElem?_eq_none h']at h1
   have h2:=wH hoj (hfree j oj hoj hji hjun hnot) (fun cs b=>hsel i oi cs b hi) (fun cs b=>hsel j oj cs b hoj) hy h1
   have hfree': ∀k ok,ops[k]?=some ok->k≠i->(listed.setIfInBounds j true).getD k true=false->
    (∀e∈ok.after,Region.binds md e=true->e.on≠i)->oi.apart ops ok=true:=fun k ok hk hki hun hno=>by
    refine hfree k ok hk hki ?_ hno
    by_cases hjk:j=k
    ·subst hjk;exact hjun
    ·rw[getD_set_ne true hjk]at hun;exact hun
   have VE:Barred md ops bar (listed.setIfInBounds j true):=fun hb=>by
    obtain⟨z,oz,hz,hun,hlast⟩:=hbar hb
    refine⟨z,oz,hz,?_,hlast⟩
    by_cases hjz:j=z
    ·subst hjz
     have:=hlast listed hj i oi hi (Ne.symm hji)
     rw[(mem_ready.1 hr).1]at this
     cases this
    ·rw[getD_set_ne true hjz];exact hun
   refine wpOp_mono (fun a' w' h3=>ih (listed.setIfInBounds j true) a' w' hfree' ?_ VE (ready_mono hr (Ne.symm hji)) h3.1 ?_) h2
   ·cases fuel with
    |succ f=>exact h3.2.1
    |zero=>
     cases hb:bar with
     |false=>exact h3.2.1 hb
     |true=>
      obtain⟨z,oz,hz,hun,hlast⟩:=hbar hb
      by_cases hzi:z=i
      ·subst hzi
       have:=hlast listed hr j oj hoj hji
       rw[hjun]at this;cases this
      ·by_cases hzj:z=j
       ·subst hzj
        have:=hlast listed hj i oi hi (Ne.symm hji)
        rw[(mem_ready.1 hr).1]at this;cases this
       ·have:=h3.2.2.1 z oz hz
        rw[getD_set_ne true (Ne.symm hzj),getD_set_ne true (Ne.symm hzi),hun]at this
        cases this
   ·rw[Array.setIfInBounds_comm _ _ hji]
    exact h3.2
def floats:Op->Bool
 | .move _| .assign _| .pick .. | .build .. | .load .. | .nilCheck _| .binOp .. | .unOp .. | .convert .. | .makeInterface .. | .makeFunc .. | .slice .. | .fieldAddr .. | .field .. | .indexAddr .. | .index .. | .lookup .. | .entry _| .typeAssert .. | .extract .. =>true
 | .call {callee:= .builtin b, ..}=>match b with| .len| .cap| .min| .max=>true|_=>false
 |_=>false
def sD (ops:Array Oper)(i:Nat):Bool:=match ops[i]? with|some o=>floats o.op|none=>false
def dW (md:Region.Mode)(ops:Array Oper):List Nat->Array Bool->Bool
 |[],listed=>(List.range ops.size).all fun k=>listed.getD k true
 |k::rest,listed=>
  (if sD ops k then(Region.ready md ops listed).contains k&&Region.free md ops listed k else Region.ready md ops listed==[k])&&
  dW md ops rest (listed.setIfInBounds k true)
def vU (ops:Array Oper):Bool:=
 match ops[ops.size-1]? with
 |some o=>!floats o.op&&(List.range (ops.size-1)).all fun k=>o.after.any fun e=>Region.binds .any e&&e.on==k
 |none=>false
def Oe (ops:Array Oper)(ord:List Nat):Bool:=
 Region.noSelect ops&&(ord.getLast?==some (ops.size-1))&&ord.dropLast.all (fun k=>k !=ops.size-1)&&dW .any ops ord (Array.replicate ops.size false)
def Ey (P:Program)(ops:Array Oper)(C:World->Prop)(Q:Act->World->Prop):List Nat->Act->World->Prop
 |[],a,w=>(vU ops=false->C w)/\Q a w
 |k::rest,a,w=>
  match ops[k]? with
  |none=>False
  |some o=>
   if Region.wanted o (yielded ops a.tmps)then
    if floats o.op then∃v,(∀w',C w'->(execOp a.eval o).run P w'= .ok (.value v) w')/\Ey P ops C Q rest (a.put o.dst v) w
    else o.wp P a w (fun a' w'=>(rest≠[]->C w')/\Ey P ops C Q rest a' w') (gU Q)
   else Ey P ops C Q rest (a.put o.dst undef) w
theorem GV (hb:vU ops=true): ∀l:Array Bool,ops.size-1∈Region.ready .any ops l-> ∀(k:Nat) o,ops[k]?=some o->k≠ops.size-1->l.getD k true=true:=by
 intro l hl k o hk hne
 obtain⟨_,oz,hoz,hall⟩:=mem_ready.1 hl
 simp only[vU,hoz,Bool.and_eq_true,List.all_eq_true,List.mem_range]at hb
 have hlt:=(Array.getElem?_eq_some_iff.1 hk).1
 have h1:=hb.2 k (by omega)
 rw[Array.any_eq_true]at h1
 obtain⟨i,hi,h1⟩:=h1
 simp only[Bool.and_eq_true,beq_iff_eq]at h1
 have h2:=hall _ (Array.getElem_mem hi) h1.1
 rw[h1.2]at h2
 rcases Nat.lt_or_ge k l.size with h'|h'
 ·simp[h']at h2⊢;exact h2
 ·simp[Array.getElem?_eq_none h']at h2
theorem lg {Q:Act->World->Prop}(hs:Region.noSelect ops=true): ∀(l:List Nat)(listed:Array Bool)(a:Act)(w:World),
 (l=[]\/(l.getLast?=some (ops.size-1)/\(∀k∈l.dropLast,k≠ops.size-1)/\listed.getD (ops.size-1) true=false))->
 dW .any ops l listed=true->(l≠[]->C w)->Ey P ops C Q l a w->uw P .any ops C (vU ops) Q l.length listed a w
 |[],listed,a,w,_,hB,_,h=>by
  refine⟨h.1,fun k o hk=>?_,h.2⟩
  simp only[dW,List.all_eq_true,List.mem_range]at hB
  exact hB k (Array.getElem?_eq_some_iff.1 hk).1
 |k::rest,listed,a,w,hl,hB,hC,h=>by
  simp only[dW,Bool.and_eq_true]at hB
  obtain⟨hk,hB'⟩:=hB
  have hC':=hC (by simp)
  rcases hl with hl|⟨hl1,hl2,hl3⟩
  ·cases hl
  have hrest:rest=[]\/(rest.getLast?=some (ops.size-1)/\(∀j∈rest.dropLast,j≠ops.size-1)/\(listed.setIfInBounds k true).getD (ops.size-1) true=false):=by
   cases rest with
   |nil=>exact .inl rfl
   |cons r rs=>
    right
    refine⟨by simpa using hl1,fun j hj=>hl2 j (by simp at hj⊢;exact .inr hj),?_⟩
    have hkn:k≠ops.size-1:=hl2 k (by simp)
    rw[getD_set_ne true hkn];exact hl3
  unfold Ey at h
  cases hok:ops[k]? with
  |none=>rw[hok]at h;exact h.elim
  |some o=>
   rw[hok]at h
   simp only[sD,hok]at hk
   have Jo:Barred .any ops (vU ops) listed:=fun hb=>by
    have hsz:0<ops.size:=Nat.lt_of_le_of_lt (Nat.zero_le _) (Array.getElem?_eq_some_iff.1 hok).1
    exact⟨ops.size-1,ops[ops.size-1]'(by omega),by simp,hl3,GV hb⟩
   by_cases hf:floats o.op=true
   ·rw[if_pos hf]at hk
    simp only[Bool.and_eq_true]at hk
    have hr:k∈Region.ready .any ops listed:=by simpa using hk.1
    by_cases hw:Region.wanted o (yielded ops a.tmps)=true
    ·simp only[hw,if_true,hf]at h
     obtain⟨v,hv,hn⟩:=h
     exact rD hok (Region.noSelect_spec hs) rest.length listed a w (Region.free_spec hok hk.2) hC' Jo hr (.inl ⟨hw,hv⟩)
      (lg hs rest _ _ w hrest hB' (fun _=>hC') hn)
    ·simp only[hw]at h
     exact rD hok (Region.noSelect_spec hs) rest.length listed a w (Region.free_spec hok hk.2) hC' Jo hr (.inr ⟨by simpa using hw,rfl⟩)
      (lg hs rest _ _ w hrest hB' (fun _=>hC') h)
   ·rw[if_neg hf]at hk
    have hr:Region.ready .any ops listed=[k]:=by simpa using hk
    refine⟨hC',fun h0=>(by rw[h0]at hr;cases hr),fun j hj=>?_⟩
    rw[hr]at hj
    obtain rfl:j=k:=by simpa using hj
    unfold wpOp
    simp only[hok]
    by_cases hw:Region.wanted o (yielded ops a.tmps)=true
    ·simp only[hw,if_true,hf]at h⊢
     exact .inl (Oper.wp_mono (fun a' w' h'=>lg hs rest _ a' w' hrest hB' h'.1 h'.2) h)
    ·simp only[hw]at h⊢
     exact lg hs rest _ _ w hrest hB' (fun _=>hC') h
def bH (P:Program)(ops:Array Oper)(C:World->Prop)(Q:Act->World->Prop):List Oper->Act->World->Prop
 |[],a,w=>(vU ops=false->C w)/\Q a w
 |o::rest,a,w=>
  if Region.wanted o (yielded ops a.tmps)then
   if floats o.op then∃v,(∀w',C w'->(execOp a.eval o).run P w'= .ok (.value v) w')/\bH P ops C Q rest (a.put o.dst v) w
   else o.wp P a w (fun a' w'=>(rest≠[]->C w')/\bH P ops C Q rest a' w') (gU Q)
  else bH P ops C Q rest (a.put o.dst undef) w
theorem uS {Q:Act->World->Prop}: ∀(l:List Nat)(listed:Array Bool)(a:Act)(w:World),dW .any ops l listed=true->
 bH P ops C Q (l.map fun k=>(ops[k]?).getD default) a w->Ey P ops C Q l a w
 |[],_,_,_,_,h=>h
 |k::rest,listed,a,w,hB,h=>by
  simp only[dW,Bool.and_eq_true]at hB
  obtain⟨hk,hB'⟩:=hB
  have hr:k∈Region.ready .any ops listed:=by
   split at hk
   ·simp only[Bool.and_eq_true]at hk;simpa using hk.1
   ·have:Region.ready .any ops listed=[k]:=by simpa using hk
    rw[this];simp
  obtain⟨_,o,ho,_⟩:=mem_ready.1 hr
  unfold Ey
  simp only[List.map_cons,ho,Option.getD_some,bH]at h⊢
  split
  ·rename_i hw
   simp only[hw,if_true]at h
   split
   ·rename_i hf
    simp only[hf,if_true]at h
    obtain⟨v,hv,hn⟩:=h
    exact⟨v,hv,uS rest _ _ _ hB' hn⟩
   ·rename_i hf
    rw[if_neg hf]at h
    refine Oper.wp_mono (fun a' w' h'=>⟨fun hne=>h'.1 (by simpa using hne),uS rest _ _ _ hB' h'.2⟩) h
  ·rename_i hw
   simp only[hw]at h
   exact uS rest _ _ _ hB' h
theorem ak {id:Nat}{Q:Exit->Act->World->Prop}{a:Act}{w:World}(ord:List Nat)(C:World->Prop)(hm:P.follows .mixedOrders=true)(hB:Oe ops ord=true)
 (hlen:ord.length=ops.size) (hC:C w.drew) (h:bH P ops C (Q .normal) (ord.map fun k=>(ops[k]?).getD default) a w.drew):(Code.region id ops true).wp P Q a w:=by
 simp only[Oe,Bool.and_eq_true]at hB
 obtain⟨⟨⟨h1,h2⟩,h3⟩,h4⟩:=hB
 refine wp_region_any hm (uT (C:=C) (bar:=vU ops) (Q:=Q .normal) (fun _ _ h=>h) _ _ _ _ ?_)
 rw[<-hlen]
 have h2':ord.getLast?=some (ops.size-1):=by simpa using h2
 have hsz:0<ops.size:=by
  rw[<-hlen]
  cases ord with
  |nil=>simp at h2'
  |cons _ _=>simp
 refine lg h1 ord _ a w.drew (.inr ⟨h2',fun k hk=>?_,?_⟩) (by rw[hlen];exact h4) (fun _=>hC) (uS ord _ _ _ h4 h)
 ·have:=List.all_eq_true.1 h3 k hk
  simpa using this
 ·rw[hlen,Array.getD_eq_getD_getElem?,Array.getElem?_replicate,if_pos (by omega)]
  rfl
theorem aV {Q:Act->World->Prop}{rest:List Oper}{a:Act}{w:World}{o:Oper}(hw:Region.wanted o (yielded ops a.tmps)=false)
 (h:bH P ops C Q rest (a.put o.dst undef) w):bH P ops C Q (o::rest) a w:=by
 unfold bH;simp only[hw];exact h
theorem aj {Q:Act->World->Prop}{rest:List Oper}{a:Act}{w:World}{o:Oper}{v:Value}(hw:Region.wanted o (yielded ops a.tmps)=true)(hf:floats o.op=true)
 (hv: ∀w',C w'->(execOp a.eval o).run P w'= .ok (.value v) w') (h:bH P ops C Q rest (a.put o.dst v) w):bH P ops C Q (o::rest) a w:=by
 unfold bH;simp only[hw,hf,if_true];exact⟨v,hv,h⟩
theorem aB {Q:Act->World->Prop}{rest:List Oper}{a:Act}{w:World}{o:Oper}(hw:Region.wanted o (yielded ops a.tmps)=true)(hf:floats o.op=false)
 (h: ∀K:Act->World->Prop,(∀a' w',(rest≠[]->C w')->bH P ops C Q rest a' w'->K a' w')->o.wp P a w K (gU Q)):bH P ops C Q (o::rest) a w:=by
 unfold bH;simp only[hw,hf,if_true];exact h _ fun a' w' h1 h2=>⟨h1,h2⟩
theorem aG {Q:Act->World->Prop}{a:Act}{w:World}(hb:vU ops=false->C w)(h:Q a w):bH P ops C Q [] a w:=⟨hb,h⟩
theorem nN {Q:Act->World->Prop}{a:Act}{w:World}(hb:vU ops=true)(h:Q a w):bH P ops C Q [] a w:=⟨(fun h0=>absurd (hb.symm.trans h0) (by simp)),h⟩
end
end Go.Proofs.YtglbkodmmogomaaGreatDoor
