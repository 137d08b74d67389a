/- A region that draws its order, walked once: whatever may be taken at once is taken first (it must yield one value in every world of a class C); an operation that turns the world is taken when nothing else can be. -/
import Derived.Test.YtakhobfamnjnoaaGreatDoorB01
import Derived.Deep.LoopGhost
import Derived.Test.YtakhobfamnjnoaaGreatDoorChecked
import Derived.ProofKit
import Derived.OpenShut
import Derived.ChangeCalls
import Derived.Deep.DeepHandedRow
import Derived.LaidMore
import Derived.Shelf.Vars
import Derived.ShutString
set_option linter.unusedVariables false
set_option linter.unusedSimpArgs false
set_option maxHeartbeats 400000
set_option maxRecDepth 100000
namespace Go.Proofs.YtakhobfamnjnoaaGreatDoor
section
open Go
section
variable {P:Program} {ops:Array Oper} {md:Region.Mode} {C:World->Prop} {bar:Bool}
def jY (Q:Act->World->Prop):Exit->Act->World->Prop
 | .normal,a,w=>Q a w
 |_,_,_=>False
theorem Oper.KE {o:Oper}{a:Act}{w:World}{K:Act->World->Prop}{Q Q':Exit->Act->World->Prop}(h: ∀e a w,Q e a w->Q' e a w)
 (hh:o.wp P a w K Q):o.wp P a w K Q':=by
 unfold Oper.wp at*
 generalize(execOp a.eval o).run P w=r at*
 cases r with
 |ok n w'=>
  cases n<;>simp only[Oper.upon]at hh⊢ <;>
   first
    |exact hh
    |exact Calls.mono hh (fun e w'' he=>by
      cases e
      ·exact he
      ·exact h _ _ _ he
      ·obtain⟨a,w,hx⟩:=he;exact⟨a,w,h _ _ _ hx⟩)
 |halt x w'=>cases x<;>simp only[Oper.upon]at hh⊢ <;>first|exact h _ _ _ hh|exact hh
theorem yx {i:Nat}{a:Act}{w:World}{K:Act->World->Prop}{Q Q':Exit->Act->World->Prop}(h: ∀e a w,Q e a w->Q' e a w)
 (hh:wpOp P ops Q i K a w):wpOp P ops Q' i K a w:=by
 unfold wpOp at*
 split
 ·simpa[*]using hh
 ·rename_i o ho
  simp only[ho]at hh
  split
  ·rename_i hw
   simp only[hw,if_true]at hh
   rcases hh with hh|⟨h1,a,w,h2⟩
   ·exact .inl (Oper.KE h hh)
   ·exact .inr ⟨h1,a,w,h _ _ _ h2⟩
  ·rename_i hw;simp only[hw]at hh;exact hh
def xg (P:Program)(md:Region.Mode)(ops:Array Oper)(C:World->Prop)(bar:Bool)(Q:Act->World->Prop):Nat->Array Bool->Act->World->Prop
 |0,listed,a,w=>(bar=false->C w)/\(∀(k:Nat) o,ops[k]?=some o->listed.getD k true=true)/\Q a w
 |fuel+1,listed,a,w=>C w/\(Region.ready md ops listed=[]->Q a w)/\
  ∀i∈Region.ready md ops listed,wpOp P ops (jY Q) i (xg P md ops C bar Q fuel (listed.setIfInBounds i true)) a w
theorem ready_nil {listed:Array Bool}(h: ∀(k:Nat) o,ops[k]?=some o->listed.getD k true=true):Region.ready md ops listed=[]:=by
 cases hr:Region.ready md ops listed with
 |nil=>rfl
 |cons x xs=>
  have hx:x∈Region.ready md ops listed:=by rw[hr];simp
  obtain⟨h0,o,ho,_⟩:=mem_ready.1 hx
  rw[h x o ho]at h0
  cases h0
theorem yB {Q:Act->World->Prop}{Q':Exit->Act->World->Prop}(hQ: ∀a w,Q a w->Q' .normal a w): ∀(fuel:Nat)(listed:Array Bool)(a:Act)(w:World),
 xg P md ops C bar Q fuel listed a w->wpAny P md ops Q' fuel listed a w
 |0,_,_,_,h=>⟨ready_nil h.2.1,hQ _ _ h.2.2⟩
 |fuel+1,_,_,_,h=>⟨fun h0=>hQ _ _ (h.2.1 h0),fun i hi=>wpOp_mono (fun a w=>yB hQ fuel _ a w)
   (yx (fun e a w h=>by cases e<;>first|exact hQ _ _ h|exact h.elim) (h.2.2 i hi))⟩
def fM (P:Program)(ops:Array Oper)(C:World->Prop)(o:Oper)(v:Value)(a:Act):Prop:=
 (Region.wanted o (yielded ops a.tmps)=true/\ ∀w,C w->(execOp a.eval o).run P w= .ok (.value v) w)\/
 (Region.wanted o (yielded ops a.tmps)=false/\v=undef)
theorem fM.wpOp {Q:Exit->Act->World->Prop}{i:Nat}{o:Oper}{v:Value}{a:Act}(hi:ops[i]?=some o)(hy:fM P ops C o v a)
 {K:Act->World->Prop} {w:World} (hw:C w) (h:K (a.put o.dst v) w):wpOp P ops Q i K a w:=by
 unfold Go.wpOp
 simp only[hi]
 rcases hy with⟨hw',hv⟩|⟨hw',rfl⟩
 ·simp only[hw',if_true,Oper.wp,hv w hw,Oper.upon];exact .inl h
 ·simp only[hw',Bool.false_eq_true,if_false];exact h
theorem fM.of_same {o:Oper}{v:Value}{a a':Act}(hy:fM P ops C o v a)(he:execOp a'.eval o=execOp a.eval o)
 (hw:Region.wanted o (yielded ops a'.tmps)=Region.wanted o (yielded ops a.tmps)):fM P ops C o v a':=by
 unfold fM at*
 rw[he,hw]
 exact hy
theorem Iw {Q:Act->World->Prop}{j:Nat}{oi oj:Oper}{v:Value}(hj:ops[j]?=some oj)(hap:oi.apart ops oj=true)
 (hsi: ∀cs b,oi.op≠ .select cs b) (hsj: ∀cs b,oj.op≠ .select cs b) {K:Act->World->Prop} {a:Act} {w:World}
 (hy:fM P ops C oi v a) (h:wpOp P ops (jY Q) j K (a.put oi.dst v) w):
 wpOp P ops (jY Q) j (fun a' w'=>fM P ops C oi v a'/\K (a'.put oi.dst v) w') a w:=by
 obtain⟨h1,h2,h3⟩:=Oper.apart_spec hap
 have keep: ∀(a:Act),fM P ops C oi v a-> ∀u,fM P ops C oi v (a.put oj.dst u):=fun a hy u=>
  hy.of_same (execOp_put oi hsi a oj.dst u h3) (wanted_put oi a oj.dst u h3)
 have keepD: ∀d,fM P ops C oi v {a with defers:=d::a.defers}:=fun d=>hy.of_same rfl rfl
 unfold Go.wpOp at*
 simp only[hj]at*
 rw[wanted_put oj a oi.dst v h1]at h
 split
 ·rename_i hw
  simp only[hw,if_true]at h
  rcases h with h|⟨hasks,hlets⟩
  case inr=>exact .inr ⟨by unfold Oper.asks at*;rw[execOp_put oj hsj a oi.dst v h1]at hasks;exact hasks,hlets⟩
  refine .inl ?_
  unfold Oper.wp at*
  rw[execOp_put oj hsj a oi.dst v h1]at h
  generalize(execOp a.eval oj).run P w=r at*
  cases r with
  |ok n w'=>
   cases n<;>simp only[Oper.upon]at h⊢
   case value u=>exact⟨keep a hy u,by rw[<-Act.put_comm a v u h2];exact h⟩
   case skip=>exact⟨keep a hy _,by rw[<-Act.put_comm a v undef h2];exact h⟩
   case defer d=>
    refine⟨keep _ (keepD d) _,?_⟩
    rw[<-Act.put_comm _ v undef h2,<-Act.put_defers]
    exact h
   case enter f args=>
    refine Calls.mono h fun e w'' he=>?_
    cases e with
    |returned u=>exact⟨keep a hy u,by rw[<-Act.put_comm a v u h2];exact he⟩
    |panicked c=>exact he
    |outgrown=>exact he
   case row row args=>exact Rows.mono h fun u w'' he=>⟨keep a hy u,by rw[<-Act.put_comm a v u h2];exact he⟩
  |halt x w'=>
   cases x<;>simp only[Oper.upon]at h⊢
   case panic u=>exact h
 ·rename_i hw
  simp only[hw]at h
  exact⟨keep a hy _,by rw[<-Act.put_comm a v undef h2];exact h⟩
def Barred (md:Region.Mode)(ops:Array Oper)(bar:Bool)(listed:Array Bool):Prop:=
 bar=true-> ∃z oz,ops[z]?=some oz/\listed.getD z true=false/\ ∀l:Array Bool,z∈Region.ready md ops l-> ∀(k:Nat) o,ops[k]?=some o->k≠z->l.getD k true=true
theorem uy {Q:Act->World->Prop}{i:Nat}{oi:Oper}{v:Value}(hi:ops[i]?=some oi)(hsel: ∀(j:Nat)(o:Oper) cs b,ops[j]?=some o->o.op≠ .select cs b):
 ∀(fuel:Nat)(listed:Array Bool)(a:Act)(w:World),
  (∀j oj,ops[j]?=some oj->j≠i->listed.getD j true=false->(∀e∈oj.after,Region.binds md e=true->e.on≠i)->oi.apart ops oj=true)->
  C w->Barred md ops bar listed->
  i∈Region.ready md ops listed->fM P ops C oi v a->
  xg P md ops C bar Q fuel (listed.setIfInBounds i true) (a.put oi.dst v) w->xg P md ops C bar Q (fuel+1) listed a w:=by
 intro fuel
 induction fuel with
 |zero=>
  intro listed a w _ hC _ hr hy H
  refine⟨hC,fun h=>(by rw[h]at hr;cases hr),fun j hj=>?_⟩
  by_cases hji:j=i
  ·subst hji;exact hy.wpOp hi hC H
  ·have:=ready_mono hj hji
   rw[ready_nil H.2.1]at this
   cases this
 |succ fuel ih=>
  intro listed a w hfree hC hbar hr hy H
  refine⟨hC,fun h=>(by rw[h]at hr;cases hr),fun j hj=>?_⟩
  by_cases hji:j=i
  ·subst hji;exact hy.wpOp hi hC H
  ·have h1:=H.2.2 j (ready_mono hj hji)
   obtain⟨hjun,oj,hoj,hall⟩:=mem_ready.1 hj
   have hnot: ∀e∈oj.after,Region.binds md e=true->e.on≠i:=fun e he hb heq=>by
    have h1:=hall e he hb
    have h0:=(mem_ready.1 hr).1
    rw[heq]at h1
    rcases Nat.lt_or_ge i listed.size with h'|h'
    ·simp[h']at h0 h1;rw[h0]at h1;cases h1
    ·simp[Array.getElem?_eq_none h']at h1
   have h2:=Iw hoj (hfree j oj hoj hji hjun hnot) (fun cs b=>hsel i oi cs b hi) (fun cs b=>hsel j oj cs b hoj) hy h1
   have hfree': ∀k ok,ops[k]?=some ok->k≠i->(listed.setIfInBounds j true).getD k true=false->
    (∀e∈ok.after,Region.binds md e=true->e.on≠i)->oi.apart ops ok=true:=fun k ok hk hki hun hno=>by
    refine hfree k ok hk hki ?_ hno
    by_cases hjk:j=k
    ·subst hjk;exact hjun
    ·rw[getD_set_ne true hjk]at hun;exact hun
   have TD:Barred md ops bar (listed.setIfInBounds j true):=fun hb=>by
    obtain⟨z,oz,hz,hun,hlast⟩:=hbar hb
    refine⟨z,oz,hz,?_,hlast⟩
    by_cases hjz:j=z
    ·subst hjz
     have:=hlast listed hj i oi hi (Ne.symm hji)
     rw[(mem_ready.1 hr).1]at this
     cases this
    ·rw[getD_set_ne true hjz];exact hun
   refine wpOp_mono (fun a' w' h3=>ih (listed.setIfInBounds j true) a' w' hfree' ?_ TD (ready_mono hr (Ne.symm hji)) h3.1 ?_) h2
   ·cases fuel with
    |succ f=>exact h3.2.1
    |zero=>
     cases hb:bar with
     |false=>exact h3.2.1 hb
     |true=>
      obtain⟨z,oz,hz,hun,hlast⟩:=hbar hb
      by_cases hzi:z=i
      ·subst hzi
       have:=hlast listed hr j oj hoj hji
       rw[hjun]at this;cases this
      ·by_cases hzj:z=j
       ·subst hzj
        have:=hlast listed hj i oi hi (Ne.symm hji)
        rw[(mem_ready.1 hr).1]at this;cases this
       ·have:=h3.2.2.1 z oz hz
        rw[getD_set_ne true (Ne.symm hzj),getD_set_ne true (Ne.symm hzi),hun]at this
        cases this
   ·rw[Array.setIfInBounds_comm _ _ hji]
    exact h3.2
def floats:Op->Bool
 | .move _| .assign _| .pick .. | .build .. | .load .. | .nilCheck _| .binOp .. | .unOp .. | .convert .. | .makeInterface .. | .makeFunc .. | .slice .. | .fieldAddr .. | .field .. | .indexAddr .. | .index .. | .lookup .. | .entry _| .typeAssert .. | .extract .. =>true
 | .call {callee:= .builtin b, ..}=>match b with| .len| .cap| .min| .max=>true|_=>false
 |_=>false
def y9 (ops:Array Oper)(i:Nat):Bool:=match ops[i]? with|some o=>floats o.op|none=>false
def nC (md:Region.Mode)(ops:Array Oper):List Nat->Array Bool->Bool
 |[],listed=>(List.range ops.size).all fun k=>listed.getD k true
 |k::rest,listed=>
  (if y9 ops k then(Region.ready md ops listed).contains k&&Region.free md ops listed k else Region.ready md ops listed==[k])&&
  nC md ops rest (listed.setIfInBounds k true)
def zB (ops:Array Oper):Bool:=
 match ops[ops.size-1]? with
 |some o=>!floats o.op&&(List.range (ops.size-1)).all fun k=>o.after.any fun e=>Region.binds .any e&&e.on==k
 |none=>false
def WH (ops:Array Oper)(ord:List Nat):Bool:=
 Region.noSelect ops&&(ord.getLast?==some (ops.size-1))&&ord.dropLast.all (fun k=>k !=ops.size-1)&&nC .any ops ord (Array.replicate ops.size false)
def KH (P:Program)(ops:Array Oper)(C:World->Prop)(Q:Act->World->Prop):List Nat->Act->World->Prop
 |[],a,w=>(zB ops=false->C w)/\Q a w
 |k::rest,a,w=>
  match ops[k]? with
  |none=>False
  |some o=>
   if Region.wanted o (yielded ops a.tmps)then
    if floats o.op then∃v,(∀w',C w'->(execOp a.eval o).run P w'= .ok (.value v) w')/\KH P ops C Q rest (a.put o.dst v) w
    else o.wp P a w (fun a' w'=>(rest≠[]->C w')/\KH P ops C Q rest a' w') (jY Q)
   else KH P ops C Q rest (a.put o.dst undef) w
theorem Oj (hb:zB ops=true): ∀l:Array Bool,ops.size-1∈Region.ready .any ops l-> ∀(k:Nat) o,ops[k]?=some o->k≠ops.size-1->l.getD k true=true:=by
 intro l hl k o hk hne
 obtain⟨_,oz,Zn,hall⟩:=mem_ready.1 hl
 simp only[zB,Zn,Bool.and_eq_true,List.all_eq_true,List.mem_range]at hb
 have hlt:=(Array.getElem?_eq_some_iff.1 hk).1
 have h1:=hb.2 k (by omega)
 rw[Array.any_eq_true]at h1
 obtain⟨i,hi,h1⟩:=h1
 simp only[Bool.and_eq_true,beq_iff_eq]at h1
 have h2:=hall _ (Array.getElem_mem hi) h1.1
 rw[h1.2]at h2
 rcases Nat.lt_or_ge k l.size with h'|h'
 ·simp[h']at h2⊢;exact h2
 ·simp[Array.getElem?_eq_none h']at h2
theorem mJ {Q:Act->World->Prop}(hs:Region.noSelect ops=true): ∀(l:List Nat)(listed:Array Bool)(a:Act)(w:World),
 (l=[]\/(l.getLast?=some (ops.size-1)/\(∀k∈l.dropLast,k≠ops.size-1)/\listed.getD (ops.size-1) true=false))->
 nC .any ops l listed=true->(l≠[]->C w)->KH P ops C Q l a w->xg P .any ops C (zB ops) Q l.length listed a w
 |[],listed,a,w,_,hB,_,h=>by
  refine⟨h.1,fun k o hk=>?_,h.2⟩
  simp only[nC,List.all_eq_true,List.mem_range]at hB
  exact hB k (Array.getElem?_eq_some_iff.1 hk).1
 |k::rest,listed,a,w,hl,hB,hC,h=>by
  simp only[nC,Bool.and_eq_true]at hB
  obtain⟨hk,hB'⟩:=hB
  have hC':=hC (by simp)
  rcases hl with hl|⟨hl1,hl2,hl3⟩
  ·cases hl
  have hrest:rest=[]\/(rest.getLast?=some (ops.size-1)/\(∀j∈rest.dropLast,j≠ops.size-1)/\(listed.setIfInBounds k true).getD (ops.size-1) true=false):=by
   cases rest with
   |nil=>exact .inl rfl
   |cons r rs=>
    right
    refine⟨by simpa using hl1,fun j hj=>hl2 j (by simp at hj⊢;exact .inr hj),?_⟩
    have hkn:k≠ops.size-1:=hl2 k (by simp)
    rw[getD_set_ne true hkn];exact hl3
  unfold KH at h
  cases hok:ops[k]? with
  |none=>rw[hok]at h;exact h.elim
  |some o=>
   rw[hok]at h
   simp only[y9,hok]at hk
   have QI:Barred .any ops (zB ops) listed:=fun hb=>by
    have hsz:0<ops.size:=Nat.lt_of_le_of_lt (Nat.zero_le _) (Array.getElem?_eq_some_iff.1 hok).1
    exact⟨ops.size-1,ops[ops.size-1]'(by omega),by simp,hl3,Oj hb⟩
   by_cases hf:floats o.op=true
   ·rw[if_pos hf]at hk
    simp only[Bool.and_eq_true]at hk
    have hr:k∈Region.ready .any ops listed:=by simpa using hk.1
    by_cases hw:Region.wanted o (yielded ops a.tmps)=true
    ·simp only[hw,if_true,hf]at h
     obtain⟨v,hv,hn⟩:=h
     exact uy hok (Region.noSelect_spec hs) rest.length listed a w (Region.free_spec hok hk.2) hC' QI hr (.inl ⟨hw,hv⟩)
      (mJ hs rest _ _ w hrest hB' (fun _=>hC') hn)
    ·simp only[hw]at h
     exact uy hok (Region.noSelect_spec hs) rest.length listed a w (Region.free_spec hok hk.2) hC' QI hr (.inr ⟨by simpa using hw,rfl⟩)
      (mJ hs rest _ _ w hrest hB' (fun _=>hC') h)
   ·rw[if_neg hf]at hk
    have hr:Region.ready .any ops listed=[k]:=by simpa using hk
    refine⟨hC',fun h0=>(by rw[h0]at hr;cases hr),fun j hj=>?_⟩
    rw[hr]at hj
    obtain rfl:j=k:=by simpa using hj
    unfold wpOp
    simp only[hok]
    by_cases hw:Region.wanted o (yielded ops a.tmps)=true
    ·simp only[hw,if_true,hf]at h⊢
     exact .inl (Oper.wp_mono (fun a' w' h'=>mJ hs rest _ a' w' hrest hB' h'.1 h'.2) h)
    ·simp only[hw]at h⊢
     exact mJ hs rest _ _ w hrest hB' (fun _=>hC') h
def jm (P:Program)(ops:Array Oper)(C:World->Prop)(Q:Act->World->Prop):List Oper->Act->World->Prop
 |[],a,w=>(zB ops=false->C w)/\Q a w
 |o::rest,a,w=>
  if Region.wanted o (yielded ops a.tmps)then
   if floats o.op then∃v,(∀w',C w'->(execOp a.eval o).run P w'= .ok (.value v) w')/\jm P ops C Q rest (a.put o.dst v) w
   else o.wp P a w (fun a' w'=>(rest≠[]->C w')/\jm P ops C Q rest a' w') (jY Q)
  else jm P ops C Q rest (a.put o.dst undef) w
theorem yA {Q:Act->World->Prop}: ∀(l:List Nat)(listed:Array Bool)(a:Act)(w:World),nC .any ops l listed=true->
 jm P ops C Q (l.map fun k=>(ops[k]?).getD default) a w->KH P ops C Q l a w
 |[],_,_,_,_,h=>h
 |k::rest,listed,a,w,hB,h=>by
  simp only[nC,Bool.and_eq_true]at hB
  obtain⟨hk,hB'⟩:=hB
  have hr:k∈Region.ready .any ops listed:=by
   split at hk
   ·simp only[Bool.and_eq_true]at hk;simpa using hk.1
   ·have:Region.ready .any ops listed=[k]:=by simpa using hk
    rw[this];simp
  obtain⟨_,o,ho,_⟩:=mem_ready.1 hr
  unfold KH
  simp only[List.map_cons,ho,Option.getD_some,jm]at h⊢
  split
  ·rename_i hw
   simp only[hw,if_true]at h
   split
   ·rename_i hf
    simp only[hf,if_true]at h
    obtain⟨v,hv,hn⟩:=h
    exact⟨v,hv,yA rest _ _ _ hB' hn⟩
   ·rename_i hf
    rw[if_neg hf]at h
    refine Oper.wp_mono (fun a' w' h'=>⟨fun hne=>h'.1 (by simpa using hne),yA rest _ _ _ hB' h'.2⟩) h
  ·rename_i hw
   simp only[hw]at h
   exact yA rest _ _ _ hB' h
theorem dX {id:Nat}{Q:Exit->Act->World->Prop}{a:Act}{w:World}(ord:List Nat)(C:World->Prop)(hm:P.follows .mixedOrders=true)(hB:WH ops ord=true)
 (hlen:ord.length=ops.size) (hC:C w.drew) (h:jm P ops C (Q .normal) (ord.map fun k=>(ops[k]?).getD default) a w.drew):(Code.region id ops true).wp P Q a w:=by
 simp only[WH,Bool.and_eq_true]at hB
 obtain⟨⟨⟨h1,h2⟩,h3⟩,h4⟩:=hB
 refine wp_region_any hm (yB (C:=C) (bar:=zB ops) (Q:=Q .normal) (fun _ _ h=>h) _ _ _ _ ?_)
 rw[<-hlen]
 have h2':ord.getLast?=some (ops.size-1):=by simpa using h2
 have hsz:0<ops.size:=by
  rw[<-hlen]
  cases ord with
  |nil=>simp at h2'
  |cons _ _=>simp
 refine mJ h1 ord _ a w.drew (.inr ⟨h2',fun k hk=>?_,?_⟩) (by rw[hlen];exact h4) (fun _=>hC) (yA ord _ _ _ h4 h)
 ·have:=List.all_eq_true.1 h3 k hk
  simpa using this
 ·rw[hlen,Array.getD_eq_getD_getElem?,Array.getElem?_replicate,if_pos (by omega)]
  rfl
theorem iQ {Q:Act->World->Prop}{rest:List Oper}{a:Act}{w:World}{o:Oper}(hw:Region.wanted o (yielded ops a.tmps)=false)
 (h:jm P ops C Q rest (a.put o.dst undef) w):jm P ops C Q (o::rest) a w:=by
 unfold jm;simp only[hw];exact h
theorem dK {Q:Act->World->Prop}{rest:List Oper}{a:Act}{w:World}{o:Oper}{v:Value}(hw:Region.wanted o (yielded ops a.tmps)=true)(hf:floats o.op=true)
 (hv: ∀w',C w'->(execOp a.eval o).run P w'= .ok (.value v) w') (h:jm P ops C Q rest (a.put o.dst v) w):jm P ops C Q (o::rest) a w:=by
 unfold jm;simp only[hw,hf,if_true];exact⟨v,hv,h⟩
theorem jl {Q:Act->World->Prop}{rest:List Oper}{a:Act}{w:World}{o:Oper}(hw:Region.wanted o (yielded ops a.tmps)=true)(hf:floats o.op=false)
 (h: ∀K:Act->World->Prop,(∀a' w',(rest≠[]->C w')->jm P ops C Q rest a' w'->K a' w')->o.wp P a w K (jY Q)):jm P ops C Q (o::rest) a w:=by
 unfold jm;simp only[hw,hf,if_true];exact h _ fun a' w' h1 h2=>⟨h1,h2⟩
theorem oL {Q:Act->World->Prop}{a:Act}{w:World}(hb:zB ops=false->C w)(h:Q a w):jm P ops C Q [] a w:=⟨hb,h⟩
theorem ZJ {Q:Act->World->Prop}{a:Act}{w:World}(hb:zB ops=true)(h:Q a w):jm P ops C Q [] a w:=⟨(fun h0=>absurd (hb.symm.trans h0) (by simp)),h⟩
end
end
section
open Go Go.RowKit
section
variable {P:Program} {w:World}
theorem oD (base:Nat)(t ty e:TypeId)(i:TypeInfo)(z:Value)(size bytes:Nat)(ht:P.underlying t=some (.slice e))(hi:P.info? e=some i)(hz:i.zero=some z)
 (hsize:i.size=size) (hby:i.bytes=bytes) (hzs:z.cells.size=size) (hsz:0<size)
 {v:Value} {n:Nat} {xs:List Value} (hown:w.ownsRow base e size v n xs) {u:Value} {cs:List Value} (hr:Reads w size u cs) (h1: ∀x∈cs,x.oneCell'=true)
 (hmax:(n*size+cs.length)*bytes<=140737488355328) (hbig:n*size+cs.length<=maxLen) (hbase:base<=w.heap.size):
 ∃v' n' w',(Builtin.append_ #[t,t] ty #[v,u]).run P w= .ok v' w'/\w'.ownsRow base e size v' n' (xs++cs)/\n'*size=n*size+cs.length/\w.grownBy w' v.ownBlock/\
  (v'= .slice none 0 0↔v= .slice none 0 0/\cs=[]):=by
 obtain⟨a,m,cap,rfl,hm1,hm2,hlen,hcells⟩:=hr
 have hnm:n+m<=n*size+cs.length:=by
  rw[hlen,<-Nat.add_mul];exact Nat.le_mul_of_pos_right _ hsz
 by_cases hc:cs=[]
 ·subst hc
  have hm:m=0:=by
   rcases Nat.eq_zero_or_pos m with h|h
   ·exact h
   ·have:=Nat.mul_pos h hsz;simp at hlen;omega
  subst hm
  have hf: ∀W,(Builtin.firstCells size 0 (.slice a 0 cap)).run P W= .ok #[] W:=fun W=>by
   cases a<;>simp[Builtin.firstCells,loadCells,loadCellsFrom]
  refine⟨v,n,w,?_,by simpa using hown,by simp,⟨rfl,rfl,rfl,Nat.le_refl _,fun _ _ _=>rfl⟩,by simp⟩
  rcases hown.2 with⟨rfl,rfl⟩|⟨g,vcap,cur,rfl,hbg,hg,hnc,hcm,hcs,htake⟩
  ·subst hsize
   simp[Builtin.append_,run_underlying ht,sizeOf,typeInfo,hi,Builtin.lenOf,hf]
  ·subst hsize
   simp[Builtin.append_,run_underlying ht,sizeOf,typeInfo,hi,Builtin.lenOf,hf,hnc,storeCells]
 ·obtain⟨b,off,rfl,hcl⟩:=hcells.resolve_left hc
  have hadd: ∀j,(⟨b,off,none⟩:Addr).add j=⟨b,off+j,none⟩:=fun j=>Addr.add_lit b off j
  obtain⟨v',w',g1,g2,g3,g4⟩:=run_append_own (P:=P) w base t ty e i z size bytes ht hi hz hsize hby hzs hsz v n xs hown ⟨b,off,none⟩ m cap cs hlen
   (fun j x hx=>by rw[hadd];exact hcl j x hx) h1 (Nat.le_trans hnm hbig) (Nat.le_trans (Nat.mul_le_mul_right _ hnm) hmax) hbase
  refine⟨v',n+m,w',g1,g2,by rw[Nat.add_mul,hlen],g3,?_⟩
  rw[g4]
  constructor
  ·rintro⟨h,rfl⟩;exact⟨h,absurd (List.eq_nil_of_length_eq_zero (by simpa using hlen)) hc⟩
  ·rintro⟨h,h'⟩;exact absurd h' hc
theorem Ei {o:Oper}{a:Act}{K:Act->World->Prop}{Q:Exit->Act->World->Prop}(s x:Operand)(t:TypeId)
 (ho:o.op= .call {callee:= .builtin .append,args:= #[s,x],argTypes:= #[t,t]})
 (base e:Nat) (i:TypeInfo) (z:Value) (size bytes:Nat) (ht:P.underlying t=some (.slice e)) (hi:P.info? e=some i) (hz:i.zero=some z)
 (hsize:i.size=size) (hby:i.bytes=bytes) (hzs:z.cells.size=size) (hsz:0<size)
 (v:Value) (n:Nat) (xs:List Value) (hs:a.eval s=v) (hown:w.ownsRow base e size v n xs) (u:Value) (cs:List Value) (hx:a.eval x=u) (hr:Reads w size u cs) (h1: ∀x∈cs,x.oneCell'=true)
 (hmax:(n*size+cs.length)*bytes<=140737488355328) (hbig:n*size+cs.length<=maxLen) (hbase:base<=w.heap.size)
 (h: ∀v' n' w',w'.ownsRow base e size v' n' (xs++cs)->n'*size=n*size+cs.length->w.grownBy w' v.ownBlock->(v'= .slice none 0 0↔v= .slice none 0 0/\cs=[])->K (a.put o.dst v') w'):o.wp P a w K Q:=by
 obtain⟨v',n',w',g1,g2,g3,g4,g5⟩:=oD (P:=P) base t o.type e i z size bytes ht hi hz hsize hby hzs hsz hown hr h1 hmax hbig hbase
 unfold Oper.wp execOp
 simp only[ho,resolve,invoke,builtin,Sem.run_bind,Sem.run_pure,Result.andThen_ok,List.map_toArray,List.map_cons,List.map_nil,hs,hx,g1]
 exact h v' n' w' g2 g3 g4 g5
theorem qy {ops:Array Oper}{rest:List Oper}{o:Oper}{a:Act}{Q:Exit->Act->World->Prop}(hgd:o.guard=none)(s x:Operand)(t:TypeId)
 (ho:o.op= .call {callee:= .builtin .append,args:= #[s,x],argTypes:= #[t,t]})
 (base e:Nat) (i:TypeInfo) (z:Value) (size bytes:Nat) (ht:P.underlying t=some (.slice e)) (hi:P.info? e=some i) (hz:i.zero=some z)
 (hsize:i.size=size) (hby:i.bytes=bytes) (hzs:z.cells.size=size) (hsz:0<size)
 (v:Value) (n:Nat) (xs:List Value) (hs:a.eval s=v) (hown:w.ownsRow base e size v n xs) (u:Value) (cs:List Value) (hx:a.eval x=u) (hr:Reads w size u cs) (h1: ∀x∈cs,x.oneCell'=true)
 (hmax:(n*size+cs.length)*bytes<=140737488355328) (hbig:n*size+cs.length<=maxLen) (hbase:base<=w.heap.size)
 (h: ∀v' n' w',w'.ownsRow base e size v' n' (xs++cs)->n'*size=n*size+cs.length->w.grownBy w' v.ownBlock->(v'= .slice none 0 0↔v= .slice none 0 0/\cs=[])->wpList P ops Q rest (a.put o.dst v') w'):
 wpList P ops Q (o::rest) a w:=
 wpList_plain hgd fun _ hK=>Ei s x t ho base e i z size bytes ht hi hz hsize hby hzs hsz v n xs hs hown u cs hx hr h1 hmax hbig hbase (fun v' n' w' g1 g2 g3 g4=>hK _ _ (h v' n' w' g1 g2 g3 g4))
theorem Reads.slice {k:Nat}{v:Value}{cs:List Value}(h:Reads w k v cs): ∃a n cap,v= .slice a n cap/\n<=cap/\cap<=maxLen/\cs.length=n*k/\(n=0\/k=0\/ ∃b off,a=some ⟨b,off,none⟩)/\
 (∀b off,a=some ⟨b,off,none⟩-> ∀i x,cs[i]?=some x->w.cell? ⟨b,off+i,none⟩=some x):=by
 obtain⟨a,n,cap,rfl,h1,h2,h3,h4⟩:=h
 refine⟨a,n,cap,rfl,h1,h2,h3,?_,?_⟩
 ·rcases h4 with rfl|⟨b,off,rfl,h4⟩
  ·have h3':n*k=0:=by rw[<-h3];rfl
   rcases Nat.mul_eq_zero.1 h3' with h5|h5
   ·exact .inl h5
   ·exact .inr (.inl h5)
  ·exact .inr (.inr ⟨b,off,rfl⟩)
 ·rcases h4 with rfl|⟨b,off,rfl,h4⟩
  ·intro b off _ i x hx;simp at hx
  ·rintro b' off' e i x hx
   cases e
   exact h4 i x hx
end
end
section
def aS (n:Int):Prop:= -9223372036854775808<=n/\n<=9223372036854775807
def grp (k:Int):Int:=k%8
theorem acu (k:Int):0<=grp k:=by unfold grp;omega
theorem acv (k:Int):grp k<8:=by unfold grp;omega
abbrev Cell:=Int×List Int
abbrev Tab:=List (Int×Cell)
def dw (a b:Int):Bool:=decide (grp a<grp b)||(decide (grp a=grp b)&&decide (a<b))
theorem oO {a b:Int}:dw a b=true↔grp a<grp b\/grp a=grp b/\a<b:=by simp[dw]
theorem dZ (a:Int):dw a a=false:=by simp[dw]
theorem lU {a b c:Int}(h:dw a b=true)(k:dw b c=true):dw a c=true:=by
 rw[oO]at*;omega
theorem lV {a b:Int}(h:a≠b):dw a b=true\/dw b a=true:=by
 rw[oO,oO];omega
theorem rD {a b:Int}(h:dw a b=true):dw b a=false:=by
 cases h':dw b a
 ·rfl
 ·have:=lU h h';rw[dZ]at this;cases this
def iq (T:Tab):Prop:=T.Pairwise fun p q=>dw p.1 q.1=true
def pz (T:Tab)(k:Int):Option Cell:=(T.find? fun p=>k==p.1).map (·.2)
def fE (T:Tab)(g:Int):Nat:=T.countP fun p=>grp p.1==g
def mM (k:Int)(c:Cell):Tab->Tab
 |[]=>[(k,c)]
 |p::r=>if dw p.1 k then p::mM k c r else if p.1=k then(k,c)::r else(k,c)::p::r
def fF (T:Tab):List Int:=T.map (·.1)
def ZF (c:Cell):Prop:=aS c.1/\(∀x∈c.2,aS x)/\c.2.length<=16
structure oZ (T:Tab):Prop where
 rises:iq T
 key: ∀p∈T,aS p.1
 cell: ∀p∈T,ZF p.2
 many: ∀g,fE T g<=40
theorem iq.nodup {T:Tab}(h:iq T):(fF T).Nodup:=by
 unfold fF
 rw[List.Nodup,List.pairwise_map]
 exact h.imp fun{a b} hab e=>by rw[e,dZ]at hab;cases hab
theorem yU {k:Int}{c:Cell}: ∀{T:Tab},iq T-> ∀{p:Int×Cell},p∈mM k c T↔p=(k,c)\/(p∈T/\p.1≠k)
 |[],_,p=>by simp[mM]
 |q::r,h,p=>by
  obtain⟨h1,h2⟩:=List.pairwise_cons.1 h
  unfold mM
  split
  ·rename_i hl
   have hne:q.1≠k:=fun e=>by rw[e,dZ]at hl;cases hl
   rw[List.mem_cons,yU h2,List.mem_cons]
   constructor
   ·rintro(rfl|h|h)
    ·exact .inr ⟨.inl rfl,hne⟩
    ·exact .inl h
    ·exact .inr ⟨.inr h.1,h.2⟩
   ·rintro(h|⟨rfl|h,h'⟩)
    ·exact .inr (.inl h)
    ·exact .inl rfl
    ·exact .inr (.inr ⟨h,h'⟩)
  ·rename_i hl
   split
   ·rename_i he
    rw[List.mem_cons,List.mem_cons]
    constructor
    ·rintro(h|h)
     ·exact .inl h
     ·refine .inr ⟨.inr h,fun e=>?_⟩
      have:=h1 p h
      rw[e,he,dZ]at this;cases this
    ·rintro(h|⟨rfl|h,h'⟩)
     ·exact .inl h
     ·exact absurd he h'
     ·exact .inr h
   ·rename_i he
    have hkq:dw k q.1=true:=(lV he).resolve_left hl
    rw[List.mem_cons]
    constructor
    ·rintro(h|h)
     ·exact .inl h
     ·refine .inr ⟨h,fun e=>?_⟩
      rcases List.mem_cons.1 h with rfl|h
      ·exact he e
      ·have:=lU hkq (h1 p h)
       rw[e,dZ]at this;cases this
    ·rintro(h|⟨h,_⟩)
     ·exact .inl h
     ·exact .inr h
theorem iq.mM {k:Int}{c:Cell}: ∀{T:Tab},iq T->iq (mM k c T)
 |[],_=>by simp[iq,Go.Proofs.YtakhobfamnjnoaaGreatDoor.mM]
 |q::r,h=>by
  obtain⟨h1,h2⟩:=List.pairwise_cons.1 h
  unfold Go.Proofs.YtakhobfamnjnoaaGreatDoor.mM
  split
  ·rename_i hl
   refine List.pairwise_cons.2 ⟨fun p hp=>?_,iq.mM h2⟩
   rcases(yU h2).1 hp with rfl|⟨hp,_⟩
   ·exact hl
   ·exact h1 p hp
  ·rename_i hl
   split
   ·rename_i he
    exact List.pairwise_cons.2 ⟨fun p hp=>by have:=h1 p hp;rw[he]at this;exact this,h2⟩
   ·rename_i he
    have hkq:dw k q.1=true:=(lV he).resolve_left hl
    refine List.pairwise_cons.2 ⟨fun p hp=>?_,h⟩
    rcases List.mem_cons.1 hp with rfl|hp
    ·exact hkq
    ·exact lU hkq (h1 p hp)
theorem Uz {T:Tab}{k:Int}:pz T k=none↔k∉fF T:=by
 unfold pz fF
 simp
 constructor
 ·intro h a b hc;exact h _ _ _ hc rfl
 ·intro h a b l hab e;subst e;exact h _ _ hab
theorem iq.ext: ∀{T U:Tab},iq T->iq U->(∀p,p∈T↔p∈U)->T=U
 |[],[],_,_,_=>rfl
 |[],q::r,_,_,h=>by have:=(h q).2 (by simp);cases this
 |q::r,[],_,_,h=>by have:=(h q).1 (by simp);cases this
 |p::r,q::s,hT,hU,h=>by
  obtain⟨a1,a2⟩:=List.pairwise_cons.1 hT
  obtain⟨b1,b2⟩:=List.pairwise_cons.1 hU
  have hpq:p=q:=by
   rcases List.mem_cons.1 ((h p).1 (by simp))with e|e
   ·exact e
   ·rcases List.mem_cons.1 ((h q).2 (by simp))with e'|e'
    ·exact e'.symm
    ·have h1:=b1 p e
     have h2:=a1 q e'
     rw[rD h1]at h2;cases h2
  subst hpq
  congr 1
  refine iq.ext a2 b2 fun x=>⟨fun hx=>?_,fun hx=>?_⟩
  ·rcases List.mem_cons.1 ((h x).1 (by simp[hx]))with e|e
   ·subst e;have:=a1 x hx;rw[dZ]at this;cases this
   ·exact e
  ·rcases List.mem_cons.1 ((h x).2 (by simp[hx]))with e|e
   ·subst e;have:=b1 x hx;rw[dZ]at this;cases this
   ·exact e
end
section
open Go Go.RowKit
theorem ji {k:IntKind}{a b:Int}(h:a=b):Ending.returned (.int k a)= .returned (.int k b):=by rw[h]
theorem adt (k:Int):k.tmod 8=if 0<=k then k%8 else-((-k)%8):=tmod_eq_if k 8
theorem Vo (k:Int)(w:World):
 Calls Tryz.prog 308 #[.int .i64 k] w fun e w'=>e= .returned (.int .i64 (grp k))/\w=w':=by
 have h1:=adt k
 have H:=Lib.hid h1
 clear h1
 go_enter Tryz.func308,Tryz.ntmps308
 go_wp2
 ·rename_i hlt
  go_ret
  refine⟨ji ?_,rfl⟩
  have e:=H.out
  unfold grp
  show wrap64 (k.tmod 8+8)=k%8
  rw[IntWalk.wrap64_in _ ⟨by split at e<;>omega,by split at e<;>omega⟩]
  split at e<;>omega
 ·rename_i hge
  go_ret
  refine⟨ji ?_,rfl⟩
  have e:=H.out
  unfold grp
  show k.tmod 8=k%8
  split at e<;>omega
theorem gY {w:World}{base e size n:Nat}{v:Value}{xs:List Value}(h:w.ownsRow base e size v n xs): ∃a cap,v= .slice a n cap:=by
 rcases h.2 with⟨rfl,rfl⟩|⟨g,cap,cur,rfl,_⟩
 ·exact⟨_,_,rfl⟩
 ·exact⟨_,_,rfl⟩
def ints (l:List Int):List Value:=l.map (Value.int .i64)
@[simp] theorem OZ (l:List Int):(ints l).length=l.length:=by simp[ints]
abbrev up (B:Nat):Nat->Prop:=fun k=>B<=k
theorem Kept.up {S:Nat->Prop}{w w':World}(h:Kept S w w'): ∀k,w'.heap.size<=k->up w.heap.size k:=fun _ hk=>Nat.le_trans h.size hk
theorem Reads.isCells {w:World}{v:Value}{cs:List Value}{k b:Nat}(h:Reads w k v cs)(hk:0<k)(hb:Value.blk v=some b): ∃c E f,w.heap[b]?=some (.cells c E f):=by
 obtain⟨a,n,cap,rfl,h1,h2,h3,h4⟩:=h
 have hn:n≠0:=by
  intro h;subst h
  cases a<;>simp[Value.blk]at hb
 have hlen:0<cs.length:=by rw[h3];exact Nat.mul_pos (by omega) hk
 rcases h4 with rfl|⟨b',off,rfl,h4⟩
 ·simp at hlen
 ·simp[Value.blk,hn]at hb
  subst hb
  have:=h4 0 (cs[0]) (by simp)
  unfold World.cell? at this
  split at this
  ·rename_i c E f he;exact⟨c,E,f,he⟩
  ·cases this
def Gives (w:World)(v:Value)(e:Ending)(w':World):Prop:=e= .returned v/\Kept none' w w'
end
section
open Go Go.RowKit Go.ChangeShapes Go.WideShapes Go.ChangeAt
theorem own:ownKnob Tryz.prog.godebug=none:=by kernel_rfl
theorem ZK (w:World)(h:w.ShapedOpen Tryz.prog):8<=w.heap.size:=by
 have h7:((((begin Tryz.prog (fun _ _=>0) default).world.heap[7]?).bind Obj.row?).isSome)=true:=by kernel_rfl
 obtain⟨x,hx⟩:=Option.isSome_iff_exists.1 h7
 obtain⟨zero,t⟩:=x
 obtain⟨cs,hh,_⟩:=h.1 7 zero t (of_decide_eq_true (by kernel_rfl)) hx
 have:=(Array.getElem?_eq_some_iff.1 hh).1
 omega
theorem laidOut:laidOutB Tryz.prog=true:=by kernel_rfl
noncomputable def readB (ts:List TypeId):Bool:=ts.all fun t=>Tryz.prog.readableRec t&&decide (t<Tryz.prog.types.size)
theorem Xa {H:Type}{enc:TypeId×Value->H}{W W':World}(hb:Below W.heap.size W W')(ts:List TypeId): ∀{vs:List Value}{ds:List (DataW H)}{ps:List MemPlace},readB ts=true->
 DataW.TrodAll enc Tryz.prog W 0 (fun _=>true) true ts vs ds ps-> ∃ps',DataW.TrodAll enc Tryz.prog W' 0 (fun b=>decide (b<W.heap.size)) true ts vs ds ps':=by
 induction ts with
 |nil=>
  intro vs ds ps _ h
  obtain⟨rfl,rfl,rfl⟩:=trodAll_nil h
  exact⟨[],trodAll_mk0⟩
 |cons t ts ih=>
  intro vs ds ps hr h
  obtain⟨v,vs',d,ds',p,q,rfl,rfl,rfl,h0,h1⟩:=trodAll_cons h
  unfold readB at hr
  rw[List.all_cons,Bool.and_eq_true,Bool.and_eq_true]at hr
  obtain⟨ps',h2⟩:=ih hr.2 h1
  have hlt: ∀x∈p,x.block<W.heap.size:=by obtain⟨m,hm⟩:=h0;exact DataW.trod_lt m _ _ _ hm
  exact⟨_,trodAll_cons_mk (Below.trod laidOut hr.1.1 (of_decide_eq_true hr.1.2) h0 hb hlt) h2⟩
theorem OQ {F:Nat}{fn:Func}{s:ChangeSpec}{laid:List (String×DataW Unit)}(hf:Tryz.prog.funcs[F]?=some fn)(hv:s.vars=[])(hvt:s.plain.varTypes Tryz.prog=[])(hr:fn.resultTypes= #[4])(hp:readB fn.params.toList=true)(hi:Tryz.prog.inits.idxOf? F=none)
 (hs: ∀(H:Type)(ds:List (DataW H)),ds.length=fn.params.toList.length->s.fn H ds={results:=[.lit (.bool true)],args:=ds})
 (walk: ∀(H:Type)(enc:TypeId×Value->H)(W:World)(base:Nat)(args:Array Value)(ds:List (DataW H))(p:List MemPlace),
   DataW.TrodAll enc Tryz.prog W 0 (fun _=>true) true fn.params.toList args.toList ds p->(∀(j:Nat) t v,fn.params[j]?=some t->args[j]?=some v->Value.okWide Tryz.prog W .any base t v)->
   (DataW.weightsEach Tryz.prog fn.params.toList ds).all (· <=reachBytes)=true->8<=W.heap.size->Calls Tryz.prog F args W (Gives W (.bool true)))
 (os:Os) (started:os.Started) (H:Type) (enc:TypeId×Value->H)
 (witness: ∃(w:World)(tape:Tape)(i:Input),w.os=os/\(w.forCall tape i).Shaped Tryz.prog/\i.vars=[]/\Input.okWide Tryz.prog (w.forCall tape i) .any w.heap.size F i/\
   (OpenSpec.ofChange s).preRow enc Tryz.prog fn [] false laid (w.forCall tape i).memory i.args/\({}:Assume).holds Tryz.prog (lone (Frame.enter Tryz.prog F i.args .normal) [] (w.forCall tape i))):
 ReturnsInHanded {} Tryz.checked os F .any ((OpenSpec.ofChange s).preRow enc Tryz.prog fn [] false laid) (s.post enc Tryz.prog fn false true false false):=by
 refine returnsInHanded_of_row (C:=Tryz.checked) (s:=OpenSpec.ofChange s) (F:=fun _ _ _=>0) own started hi hf witness ?_
 intro W base args ds gs before hval hW hcnd _ hsz _ hsh _
 have hW':=hW
 obtain⟨p,q,hA,hV,rfl,hfz,hnd⟩:=hW
 have hv':(OpenSpec.ofChange s).vars=[]:=hv
 rw[hv']at hV
 obtain⟨rfl,rfl⟩:=trodVars_none hV
 have hA':DataW.TrodAll enc Tryz.prog W 0 (fun _=>true) true fn.params.toList args.toList ds p:=hA
 have hsz':(DataW.weightsEach Tryz.prog fn.params.toList ds).all (· <=reachBytes)=true:=by
  have h1:(DataW.weightsEach Tryz.prog (fn.params.toList++s.plain.varTypes Tryz.prog) (ds++[])).all (· <=reachBytes)=true:=hsz
  rw[hvt,List.append_nil,List.append_nil]at h1
  exact h1
 refine(walk H enc W base args ds p hA' hval hsz' (ZK W hsh)).mono fun e W' ⟨he,k⟩=>?_
 subst he
 have bel:=k.below
 obtain⟨ps',acn⟩:=Xa bel fn.params.toList hp hA'
 have hlen:ds.length=fn.params.toList.length:=(trodAll_length hA').2
 have hfn:=hs H (ds++[]) (by rw[List.append_nil];exact hlen)
 refine⟨_,rfl,ds,[],_,[],ps',[],hW',?_,?_,?_,bel.frame _,fun h=>by cases h⟩
 ·rw[hr];show DataW.TrodAll _ _ _ _ _ _ _ _ (s.fn H (ds++[])).results _;rw[hfn];exact trodAll_mk1 (shut_bool Tryz.underlying4 _)
 ·show DataW.TrodAll _ _ _ _ _ _ _ _ (s.fn H (ds++[])).args _;rw[hfn,List.append_nil];exact acn
 ·have e1:((OpenSpec.ofChange s).at fun _ _ _=>0).vars=[]:=hv
  have e2:(((OpenSpec.ofChange s).at fun _ _ _=>0).fn H (ds++[]))={results:=[.lit (.bool true)],args:=ds++[]}:=hfn
  rw[e2,e1];rfl
end
end Go.Proofs.YtakhobfamnjnoaaGreatDoor
