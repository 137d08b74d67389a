/- A region that draws its order, walked once: whatever may be taken at once is taken first (it must yield one value in every world of a class C); an operation that turns the world is taken when nothing else can be. -/
import Derived.WalkSpells
import Derived.WalkLawsBesides
import Derived.Maps.RangeWalk
import Derived.Lib.Hide
import Derived.Test.YtglbkodmmogomaaGreatDoorProg
import Derived.Deep.LoopGhost
set_option linter.unusedVariables false
set_option linter.unusedSimpArgs false
set_option maxHeartbeats 400000
set_option maxRecDepth 100000
namespace Go.Proofs.YtglbkodmmogomaaGreatDoor
theorem θ{a b:Prop}(x:a)(y:b):a/\b:=⟨x,y⟩
abbrev ι:=@List.getElem?_eq_getElem
abbrev κ:=@Array.getElem?_eq_some_iff
abbrev μ:=@List.getElem?_eq_some_iff
abbrev ν:=@List.length_append
abbrev ξ:=@Nat.le_refl
abbrev ς:=@List.mem_of_getElem?
abbrev σ:=@List.getD_eq_getElem?_getD
abbrev τ:=@List.eq_nil_of_length_eq_zero
abbrev υ:=@List.length_take
abbrev φ:=@List.length_cons
abbrev χ:=@List.take_of_length_le
abbrev ψ:=@List.take_add_one
abbrev ω:=@Nat.le_trans
abbrev Γ:=@List.length_nil
abbrev Δ:=@Option.getD_some
abbrev Θ:=@List.map_cons
abbrev Ξ:=@List.map_nil
abbrev Φ:=@Bool.and_eq_true
abbrev Ψ:=@List.getElem?_append_right
abbrev Ω:=@List.getElem?_append_left
abbrev Pe:=@Nat.lt_of_lt_of_le
abbrev aak:=@List.getElem?_eq_none
abbrev aap:=@List.getElem?_cons_zero
abbrev aat:=@List.getElem?_cons_succ
abbrev aau:=@List.getElem?_toArray
abbrev aav:=@List.getElem?_map
abbrev aaw:=@List.mem_map
abbrev aax:=@List.mem_append
abbrev aay:=@List.map_append
abbrev aaA:=@List.getElem?_take
abbrev acg:=@Option.map_eq_some_iff
abbrev ach:=@List.mem_singleton
abbrev aci:=@List.mem_cons
abbrev acn:=@List.drop_eq_getElem_cons
theorem aco:(∀{α β:Type}{f:α->β}{a:α}{l:List α},List.map f (a::l)=f a::List.map f l)/\(∀{α β:Type}{f:α->β},List.map f []=[])/\(∀{α:Type}{l:List α}{i:Nat},l.toArray[i]?=l[i]?)/\(∀{α:Type}{a:α}{l:List α},(a::l)[0]?=some a)/\(∀{α:Type}{a:α}{i:Nat}{l:List α},(a::l)[i+1]?=l[i]?)/\∀{α:Type}{a b:α},(some a).getD b=a:=⟨List.map_cons,List.map_nil,List.getElem?_toArray,List.getElem?_cons_zero,List.getElem?_cons_succ,Option.getD_some⟩
theorem acp:(∀{α:Type}[BEq α][LawfulBEq α]{a b:α},((a==b)=true)↔a=b)/\(∀{α:Type}[BEq α][LawfulBEq α]{a b:α},((a==b)=false)↔a≠b)/\∀{α:Type}{a b:α},(a≠b)=¬a=b:=⟨beq_iff_eq,beq_eq_false_iff_ne,ne_eq _ _⟩
def acr(p:Prop):Prop:=p
theorem acr.o{p:Prop}(h:acr p):p:=h
theorem γ{p:Prop}(h:p):acr p:=h
theorem acu{α:Type}(a:α): ∃x,a=x:=⟨a,rfl⟩
open List Go.Proofs.Tryz
section
open Go
section
variable {P:Program} {ops:Array Oper} {md:Region.Mode} {C:World->Prop} {bar:Bool}
def mD (Q:Act->World->Prop):Exit->Act->World->Prop
 | .normal,a,w=>Q a w
 |_,_,_=>False
theorem Oper.aaB {o:Oper}{a:Act}{w:World}{K:Act->World->Prop}{Q Q':Exit->Act->World->Prop}(h: ∀e a w,Q e a w->Q' e a w)
 (hh:o.wp P a w K Q):o.wp P a w K Q':=by
 unfold Oper.wp at*;generalize(execOp a.eval o).run P w=r at*
 cases r with
 |ok n w'=>
  cases n<;>simp only[Oper.upon]at hh⊢ <;>
   first
    |exact hh
    |exact Calls.mono hh (fun e w'' he=>by
      cases e
      ·exact he
      ·exact h _ _ _ he
      ·obtain⟨a,w,hx⟩:=he;exact⟨a,w,h _ _ _ hx⟩)
 |halt x w'=>cases x<;>simp only[Oper.upon]at hh⊢ <;>first|exact h _ _ _ hh|exact hh
theorem zS {i:Nat}{a:Act}{w:World}{K:Act->World->Prop}{Q Q':Exit->Act->World->Prop}(h: ∀e a w,Q e a w->Q' e a w)
 (hh:wpOp P ops Q i K a w):wpOp P ops Q' i K a w:=by
 unfold wpOp at*;split
 ·simpa[*]using hh
 ·rename_i o ho
  simp only[ho]at hh;split
  ·rename_i hw
   simp only[hw,if_true]at hh
   rcases hh with hh|⟨h1,a,w,h2⟩
   ·exact .inl (Oper.aaB h hh)
   ·exact .inr ⟨h1,a,w,h _ _ _ h2⟩
  ·rename_i hw;simp only[hw]at hh;exact hh
def zy (P:Program)(md:Region.Mode)(ops:Array Oper)(C:World->Prop)(bar:Bool)(Q:Act->World->Prop):Nat->Array Bool->Act->World->Prop
 |0,listed,a,w=>(bar=false->C w)/\(∀(k:Nat) o,ops[k]?=some o->listed.getD k true=true)/\Q a w
 |fuel+1,listed,a,w=>C w/\(Region.ready md ops listed=[]->Q a w)/\
  ∀i∈Region.ready md ops listed,wpOp P ops (mD Q) i (zy P md ops C bar Q fuel (listed.setIfInBounds i true)) a w
theorem ready_nil {listed:Array Bool}(h: ∀(k:Nat) o,ops[k]?=some o->listed.getD k true=true):Region.ready md ops listed=[]:=by
 cases hr:Region.ready md ops listed with
 |nil=>rfl
 |cons x xs=>have hx:x∈Region.ready md ops listed:=(by rw[hr];simp);obtain⟨h0,o,ho,_⟩:=mem_ready.1 hx;rw[h x o ho]at h0;cases h0
theorem zU {Q:Act->World->Prop}{Q':Exit->Act->World->Prop}(hQ: ∀a w,Q a w->Q' .normal a w): ∀(fuel:Nat)(listed:Array Bool)(a:Act)(w:World),
 zy P md ops C bar Q fuel listed a w->wpAny P md ops Q' fuel listed a w
 |0,_,_,_,h=>⟨ready_nil h.2.1,hQ _ _ h.2.2⟩
 |fuel+1,_,_,_,h=>⟨fun h0=>hQ _ _ (h.2.1 h0),fun i hi=>wpOp_mono (fun a w=>zU hQ fuel _ a w)
   (zS (fun e a w h=>by cases e<;>first|exact hQ _ _ h|exact h.elim) (h.2.2 i hi))⟩
def ku (P:Program)(ops:Array Oper)(C:World->Prop)(o:Oper)(v:Value)(a:Act):Prop:=
 (Region.wanted o (yielded ops a.tmps)=true/\ ∀w,C w->(execOp a.eval o).run P w= .ok (.value v) w)\/
 (Region.wanted o (yielded ops a.tmps)=false/\v=undef)
theorem ku.wpOp {Q:Exit->Act->World->Prop}{i:Nat}{o:Oper}{v:Value}{a:Act}(hi:ops[i]?=some o)(hy:ku P ops C o v a)
 {K:Act->World->Prop} {w:World} (hw:C w) (h:K (a.put o.dst v) w):wpOp P ops Q i K a w:=by
 unfold Go.wpOp;simp only[hi]
 rcases hy with⟨hw',hv⟩|⟨hw',rfl⟩
 ·simp only[hw',if_true,Oper.wp,hv w hw,Oper.upon];exact .inl h
 ·simp only[hw',Bool.false_eq_true,if_false];exact h
theorem ku.of_same {o:Oper}{v:Value}{a a':Act}(hy:ku P ops C o v a)(he:execOp a'.eval o=execOp a.eval o)
 (hw:Region.wanted o (yielded ops a'.tmps)=Region.wanted o (yielded ops a.tmps)):ku P ops C o v a':=by
 unfold ku at*;rw[he,hw];exact hy
theorem BA {Q:Act->World->Prop}{j:Nat}{oi oj:Oper}{v:Value}(hj:ops[j]?=some oj)(hap:oi.apart ops oj=true)
 (hsi: ∀cs b,oi.op≠ .select cs b) (hsj: ∀cs b,oj.op≠ .select cs b) {K:Act->World->Prop} {a:Act} {w:World}
 (hy:ku P ops C oi v a) (h:wpOp P ops (mD Q) j K (a.put oi.dst v) w):
 wpOp P ops (mD Q) j (fun a' w'=>ku P ops C oi v a'/\K (a'.put oi.dst v) w') a w:=by
 obtain⟨h1,h2,h3⟩:=Oper.apart_spec hap
 have keep: ∀(a:Act),ku P ops C oi v a-> ∀u,ku P ops C oi v (a.put oj.dst u):=fun a hy u=>
  hy.of_same (execOp_put oi hsi a oj.dst u h3) (wanted_put oi a oj.dst u h3)
 have keepD: ∀d,ku P ops C oi v {a with defers:=d::a.defers}:=fun d=>hy.of_same rfl rfl;unfold Go.wpOp at*;simp only[hj]at*;rw[wanted_put oj a oi.dst v h1]at h;split
 ·rename_i hw
  simp only[hw,if_true]at h
  rcases h with h|⟨hasks,hlets⟩
  case inr=>exact .inr ⟨by unfold Oper.asks at*;rw[execOp_put oj hsj a oi.dst v h1]at hasks;exact hasks,hlets⟩
  refine .inl ?_;unfold Oper.wp at*;rw[execOp_put oj hsj a oi.dst v h1]at h;generalize(execOp a.eval oj).run P w=r at*
  cases r with
  |ok n w'=>
   cases n<;>simp only[Oper.upon]at h⊢
   case value u=>exact⟨keep a hy u,by rw[<-Act.put_comm a v u h2];exact h⟩
   case skip=>exact⟨keep a hy _,by rw[<-Act.put_comm a v undef h2];exact h⟩
   case defer d=>refine⟨keep _ (keepD d) _,?_⟩;rw[<-Act.put_comm _ v undef h2,<-Act.put_defers];exact h
   case enter f args=>
    refine Calls.mono h fun e w'' he=>?_
    cases e with
    |returned u=>exact⟨keep a hy u,by rw[<-Act.put_comm a v u h2];exact he⟩
    |panicked c=>exact he
    |outgrown=>exact he
   case row row args=>exact Rows.mono h fun u w'' he=>⟨keep a hy u,by rw[<-Act.put_comm a v u h2];exact he⟩
  |halt x w'=>
   cases x<;>simp only[Oper.upon]at h⊢
   case panic u=>exact h
 ·rename_i hw
  simp only[hw]at h;exact⟨keep a hy _,by rw[<-Act.put_comm a v undef h2];exact h⟩
def Barred (md:Region.Mode)(ops:Array Oper)(bar:Bool)(listed:Array Bool):Prop:=
 bar=true-> ∃z oz,ops[z]?=some oz/\listed.getD z true=false/\ ∀l:Array Bool,z∈Region.ready md ops l-> ∀(k:Nat) o,ops[k]?=some o->k≠z->l.getD k true=true
theorem xG {Q:Act->World->Prop}{i:Nat}{oi:Oper}{v:Value}(hi:ops[i]?=some oi)(hsel: ∀(j:Nat)(o:Oper) cs b,ops[j]?=some o->o.op≠ .select cs b):
 ∀(fuel:Nat)(listed:Array Bool)(a:Act)(w:World),
  (∀j oj,ops[j]?=some oj->j≠i->listed.getD j true=false->(∀e∈oj.after,Region.binds md e=true->e.on≠i)->oi.apart ops oj=true)->
  C w->Barred md ops bar listed->
  i∈Region.ready md ops listed->ku P ops C oi v a->
  zy P md ops C bar Q fuel (listed.setIfInBounds i true) (a.put oi.dst v) w->zy P md ops C bar Q (fuel+1) listed a w:=by
 intro fuel
 induction fuel with
 |zero=>
  intro listed a w _ hC _ hr hy H;refine⟨hC,fun h=>(by rw[h]at hr;cases hr),fun j hj=>?_⟩;by_cases hji:j=i
  ·subst hji;exact hy.wpOp hi hC H
  ·have:=ready_mono hj hji
   rw[ready_nil H.2.1]at this;cases this
 |succ fuel ih=>
  intro listed a w hfree hC hbar hr hy H;refine⟨hC,fun h=>(by rw[h]at hr;cases hr),fun j hj=>?_⟩;by_cases hji:j=i
  ·subst hji;exact hy.wpOp hi hC H
  ·have h1:=H.2.2 j (ready_mono hj hji)
   obtain⟨hjun,oj,hoj,hall⟩:=mem_ready.1 hj;have hnot: ∀e∈oj.after,Region.binds md e=true->e.on≠i:=fun e he hb heq=>by
    have h1:=hall e he hb;have h0:=(mem_ready.1 hr).1;rw[heq]at h1
    rcases Nat.lt_or_ge i listed.size with h'|h'
    ·simp[h']at h0 h1;rw[h0]at h1;cases h1
    ·simp[Array.getElem?_eq_none h']at h1
   have h2:=BA hoj (hfree j oj hoj hji hjun hnot) (fun cs b=>hsel i oi cs b hi) (fun cs b=>hsel j oj cs b hoj) hy h1;have hfree': ∀k ok,ops[k]?=some ok->k≠i->(listed.setIfInBounds j true).getD k true=false->
    (∀e∈ok.after,Region.binds md e=true->e.on≠i)->oi.apart ops ok=true:=fun k ok hk hki hun hno=>by
    refine hfree k ok hk hki ?_ hno;by_cases hjk:j=k
    ·subst hjk;exact hjun
    ·rw[getD_set_ne true hjk]at hun;exact hun
   have agy:Barred md ops bar (listed.setIfInBounds j true):=fun hb=>by
    obtain⟨z,oz,hz,hun,hlast⟩:=hbar hb;refine⟨z,oz,hz,?_,hlast⟩;by_cases hjz:j=z
    ·subst hjz
     have:=hlast listed hj i oi hi (Ne.symm hji);rw[(mem_ready.1 hr).1]at this;cases this
    ·rw[getD_set_ne true hjz];exact hun
   refine wpOp_mono (fun a' w' h3=>ih (listed.setIfInBounds j true) a' w' hfree' ?_ agy (ready_mono hr (Ne.symm hji)) h3.1 ?_) h2
   ·cases fuel with
    |succ f=>exact h3.2.1
    |zero=>
     cases hb:bar with
     |false=>exact h3.2.1 hb
     |true=>
      obtain⟨z,oz,hz,hun,hlast⟩:=hbar hb;by_cases hzi:z=i
      ·subst hzi
       have:=hlast listed hr j oj hoj hji;rw[hjun]at this;cases this
      ·by_cases hzj:z=j
       ·subst hzj
        have:=hlast listed hj i oi hi (Ne.symm hji);rw[(mem_ready.1 hr).1]at this;cases this
       ·have:=h3.2.2.1 z oz hz
        rw[getD_set_ne true (Ne.symm hzj),getD_set_ne true (Ne.symm hzi),hun]at this;cases this
   ·rw[Array.setIfInBounds_comm _ _ hji]
    exact h3.2
def floats:Op->Bool
 | .move _| .assign _| .pick .. | .build .. | .load .. | .nilCheck _| .binOp .. | .unOp .. | .convert .. | .makeInterface .. | .makeFunc .. | .slice .. | .fieldAddr .. | .field .. | .indexAddr .. | .index .. | .lookup .. | .entry _| .typeAssert .. | .extract .. =>true
 | .call {callee:= .builtin b, ..}=>match b with| .len| .cap| .min| .max=>true|_=>false
 |_=>false
def yA (ops:Array Oper)(i:Nat):Bool:=match ops[i]? with|some o=>floats o.op|none=>false
def gJ (md:Region.Mode)(ops:Array Oper):List Nat->Array Bool->Bool
 |[],listed=>(range ops.size).all fun k=>listed.getD k true
 |k::rest,listed=>
  (if yA ops k then(Region.ready md ops listed).contains k&&Region.free md ops listed k else Region.ready md ops listed==[k])&&
  gJ md ops rest (listed.setIfInBounds k true)
def AP (ops:Array Oper):Bool:=
 match ops[ops.size-1]? with
 |some o=>!floats o.op&&(range (ops.size-1)).all fun k=>o.after.any fun e=>Region.binds .any e&&e.on==k
 |none=>false
def aac (ops:Array Oper)(ord:List Nat):Bool:=
 Region.noSelect ops&&(ord.getLast?==some (ops.size-1))&&ord.dropLast.all (fun k=>k !=ops.size-1)&&gJ .any ops ord (Array.replicate ops.size false)
def LG (P:Program)(ops:Array Oper)(C:World->Prop)(Q:Act->World->Prop):List Nat->Act->World->Prop
 |[],a,w=>(AP ops=false->C w)/\Q a w
 |k::rest,a,w=>
  match ops[k]? with
  |none=>False
  |some o=>
   if Region.wanted o (yielded ops a.tmps)then
    if floats o.op then∃v,(∀w',C w'->(execOp a.eval o).run P w'= .ok (.value v) w')/\LG P ops C Q rest (a.put o.dst v) w
    else o.wp P a w (fun a' w'=>(rest≠[]->C w')/\LG P ops C Q rest a' w') (mD Q)
   else LG P ops C Q rest (a.put o.dst undef) w
theorem Rt (hb:AP ops=true): ∀l:Array Bool,ops.size-1∈Region.ready .any ops l-> ∀(k:Nat) o,ops[k]?=some o->k≠ops.size-1->l.getD k true=true:=by
 intro l hl k o hk hne;obtain⟨_,oz,hoz,hall⟩:=mem_ready.1 hl;simp only[AP,hoz,Φ,all_eq_true,mem_range]at hb;have hlt:=(κ.1 hk).1;have h1:=hb.2 k (by omega);rw[Array.any_eq_true]at h1;obtain⟨i,hi,h1⟩:=h1;simp only[Φ,beq_iff_eq]at h1;have h2:=hall _ (Array.getElem_mem hi) h1.1;rw[h1.2]at h2
 rcases Nat.lt_or_ge k l.size with h'|h'
 ·simp[h']at h2⊢;exact h2
 ·simp[Array.getElem?_eq_none h']at h2
theorem pV {Q:Act->World->Prop}(hs:Region.noSelect ops=true): ∀(l:List Nat)(listed:Array Bool)(a:Act)(w:World),
 (l=[]\/(l.getLast?=some (ops.size-1)/\(∀k∈l.dropLast,k≠ops.size-1)/\listed.getD (ops.size-1) true=false))->
 gJ .any ops l listed=true->(l≠[]->C w)->LG P ops C Q l a w->zy P .any ops C (AP ops) Q l.length listed a w
 |[],listed,a,w,_,hB,_,h=>by refine⟨h.1,fun k o hk=>?_,h.2⟩;simp only[gJ,all_eq_true,mem_range]at hB;exact hB k (κ.1 hk).1
 |k::rest,listed,a,w,hl,hB,hC,h=>by
  simp only[gJ,Φ]at hB;obtain⟨hk,hB'⟩:=hB;have hC':=hC (by simp)
  rcases hl with hl|⟨hl1,hl2,hl3⟩
  ·cases hl
  have hrest:rest=[]\/(rest.getLast?=some (ops.size-1)/\(∀j∈rest.dropLast,j≠ops.size-1)/\(listed.setIfInBounds k true).getD (ops.size-1) true=false):=by
   cases rest with
   |nil=>exact .inl rfl
   |cons r rs=>right;refine⟨by simpa using hl1,fun j hj=>hl2 j (by simp at hj⊢;exact .inr hj),?_⟩;have hkn:k≠ops.size-1:=hl2 k (by simp);rw[getD_set_ne true hkn];exact hl3
  unfold LG at h
  cases hok:ops[k]? with
  |none=>rw[hok]at h;exact h.elim
  |some o=>
   rw[hok]at h;simp only[yA,hok]at hk;have UG:Barred .any ops (AP ops) listed:=fun hb=>(by have hsz:0<ops.size:=Nat.lt_of_le_of_lt (Nat.zero_le _) (κ.1 hok).1;exact⟨ops.size-1,ops[ops.size-1]'(by omega),by simp,hl3,Rt hb⟩);by_cases hf:floats o.op=true
   ·rw[if_pos hf]at hk
    simp only[Φ]at hk;have hr:k∈Region.ready .any ops listed:=(by simpa using hk.1);by_cases hw:Region.wanted o (yielded ops a.tmps)=true
    ·simp only[hw,if_true,hf]at h
     obtain⟨v,hv,hn⟩:=h;exact xG hok (Region.noSelect_spec hs) rest.length listed a w (Region.free_spec hok hk.2) hC' UG hr (.inl ⟨hw,hv⟩)
      (pV hs rest _ _ w hrest hB' (fun _=>hC') hn)
    ·simp only[hw]at h
     exact xG hok (Region.noSelect_spec hs) rest.length listed a w (Region.free_spec hok hk.2) hC' UG hr (.inr ⟨by simpa using hw,rfl⟩)
      (pV hs rest _ _ w hrest hB' (fun _=>hC') h)
   ·rw[if_neg hf]at hk
    have hr:Region.ready .any ops listed=[k]:=(by simpa using hk);refine⟨hC',fun h0=>(by rw[h0]at hr;cases hr),fun j hj=>?_⟩;rw[hr]at hj;obtain rfl:j=k:=(by simpa using hj);unfold wpOp;simp only[hok];by_cases hw:Region.wanted o (yielded ops a.tmps)=true
    ·simp only[hw,if_true,hf]at h⊢
     exact .inl (Oper.wp_mono (fun a' w' h'=>pV hs rest _ a' w' hrest hB' h'.1 h'.2) h)
    ·simp only[hw]at h⊢
     exact pV hs rest _ _ w hrest hB' (fun _=>hC') h
def dI (P:Program)(ops:Array Oper)(C:World->Prop)(Q:Act->World->Prop):List Oper->Act->World->Prop
 |[],a,w=>(AP ops=false->C w)/\Q a w
 |o::rest,a,w=>
  if Region.wanted o (yielded ops a.tmps)then
   if floats o.op then∃v,(∀w',C w'->(execOp a.eval o).run P w'= .ok (.value v) w')/\dI P ops C Q rest (a.put o.dst v) w
   else o.wp P a w (fun a' w'=>(rest≠[]->C w')/\dI P ops C Q rest a' w') (mD Q)
  else dI P ops C Q rest (a.put o.dst undef) w
theorem zT {Q:Act->World->Prop}: ∀(l:List Nat)(listed:Array Bool)(a:Act)(w:World),gJ .any ops l listed=true->
 dI P ops C Q (l.map fun k=>(ops[k]?).getD default) a w->LG P ops C Q l a w
 |[],_,_,_,_,h=>h
 |k::rest,listed,a,w,hB,h=>by
  simp only[gJ,Φ]at hB;obtain⟨hk,hB'⟩:=hB;have hr:k∈Region.ready .any ops listed:=by
   split at hk
   ·simp only[Φ]at hk;simpa using hk.1
   ·have:Region.ready .any ops listed=[k]:=by simpa using hk
    rw[this];simp
  obtain⟨_,o,ho,_⟩:=mem_ready.1 hr;unfold LG;simp only[Θ,ho,Δ,dI]at h⊢;split
  ·rename_i hw
   simp only[hw,if_true]at h;split
   ·rename_i hf
    simp only[hf,if_true]at h;obtain⟨v,hv,hn⟩:=h;exact⟨v,hv,zT rest _ _ _ hB' hn⟩
   ·rename_i hf
    rw[if_neg hf]at h;refine Oper.wp_mono (fun a' w' h'=>⟨fun hne=>h'.1 (by simpa using hne),zT rest _ _ _ hB' h'.2⟩) h
  ·rename_i hw
   simp only[hw]at h;exact zT rest _ _ _ hB' h
theorem ak {id:Nat}{Q:Exit->Act->World->Prop}{a:Act}{w:World}(ord:List Nat)(C:World->Prop)(hm:P.follows .mixedOrders=true)(hB:aac ops ord=true)
 (hlen:ord.length=ops.size) (hC:C w.drew) (h:dI P ops C (Q .normal) (ord.map fun k=>(ops[k]?).getD default) a w.drew):(Code.region id ops true).wp P Q a w:=by
 simp only[aac,Φ]at hB;obtain⟨⟨⟨h1,h2⟩,h3⟩,h4⟩:=hB;refine wp_region_any hm (zU (C:=C) (bar:=AP ops) (Q:=Q .normal) (fun _ _ h=>h) _ _ _ _ ?_);rw[<-hlen];have h2':ord.getLast?=some (ops.size-1):=(by simpa using h2);have hsz:0<ops.size:=by
  rw[<-hlen]
  cases ord with
  |nil=>simp at h2'
  |cons _ _=>simp
 refine pV h1 ord _ a w.drew (.inr ⟨h2',fun k hk=>?_,?_⟩) (by rw[hlen];exact h4) (fun _=>hC) (zT ord _ _ _ h4 h)
 ·have:=all_eq_true.1 h3 k hk
  simpa using this
 ·rw[hlen,Array.getD_eq_getD_getElem?,Array.getElem?_replicate,if_pos (by omega)]
  rfl
theorem aT {Q:Act->World->Prop}{rest:List Oper}{a:Act}{w:World}{o:Oper}(hw:Region.wanted o (yielded ops a.tmps)=false)
 (h:dI P ops C Q rest (a.put o.dst undef) w):dI P ops C Q (o::rest) a w:=by
 unfold dI;simp only[hw];exact h
theorem aj {Q:Act->World->Prop}{rest:List Oper}{a:Act}{w:World}{o:Oper}{v:Value}(hw:Region.wanted o (yielded ops a.tmps)=true)(hf:floats o.op=true)
 (hv: ∀w',C w'->(execOp a.eval o).run P w'= .ok (.value v) w') (h:dI P ops C Q rest (a.put o.dst v) w):dI P ops C Q (o::rest) a w:=by
 unfold dI;simp only[hw,hf,if_true];exact⟨v,hv,h⟩
theorem ay {Q:Act->World->Prop}{rest:List Oper}{a:Act}{w:World}{o:Oper}(hw:Region.wanted o (yielded ops a.tmps)=true)(hf:floats o.op=false)
 (h: ∀K:Act->World->Prop,(∀a' w',(rest≠[]->C w')->dI P ops C Q rest a' w'->K a' w')->o.wp P a w K (mD Q)):dI P ops C Q (o::rest) a w:=by
 unfold dI;simp only[hw,hf,if_true];exact h _ fun a' w' h1 h2=>⟨h1,h2⟩
theorem aA {Q:Act->World->Prop}{a:Act}{w:World}(hb:AP ops=false->C w)(h:Q a w):dI P ops C Q [] a w:=⟨hb,h⟩
theorem jG {Q:Act->World->Prop}{a:Act}{w:World}(hb:AP ops=true)(h:Q a w):dI P ops C Q [] a w:=⟨(fun h0=>absurd (hb.symm.trans h0) (by simp)),h⟩
end
end
section
open Go Go.RowKit
structure ε (S:Nat->Prop)(w w':World):Prop where
 os:w'.os=w.os
 tape:w'.tape=w.tape
 output:w'.output=w.output
 size:w.heap.size<=w'.heap.size
 block: ∀k,k<w.heap.size-> ¬S k->w'.heap[k]?=w.heap[k]?
def η:Nat->Prop:=fun _=>False
def one (m:Nat):Nat->Prop:=fun k=>k=m
section
variable {S S':Nat->Prop} {w w' w'':World}
theorem ε.refl (S:Nat->Prop)(w:World):ε S w w:=⟨rfl,rfl,rfl,ξ _,fun _ _ _=>rfl⟩
theorem δ{S:Nat->Prop}{w:World}:ε S w w:=ε.refl S w
theorem ε.trans (h:ε S w w')(k:ε S w' w''):ε S w w'':=
 ⟨k.os.trans h.os,k.tape.trans h.tape,k.output.trans h.output,ω h.size k.size,fun i hi hn=>(k.block i (Pe hi h.size) hn).trans (h.block i hi hn)⟩
theorem ε.mono (h:ε S w w')(hS: ∀k,k<w.heap.size->S k->S' k):ε S' w w':=
 ⟨h.os,h.tape,h.output,h.size,fun k hk hn=>h.block k hk (fun hs=>hn (hS k hk hs))⟩
theorem ε.drew (h:ε S w w'):ε S w w'.drew:=⟨h.os,h.tape,h.output,h.size,h.block⟩
theorem acv{P:Program}{ops:Array Oper}{id:Nat}{Q:Exit->Act->World->Prop}{a:Act}{w:World}(ord:List Nat)(h:dI P ops (fun W=>ε η w W) (Q .normal) (ord.map fun k=>(ops[k]?).getD default) a w.drew)(hm:P.follows .mixedOrders=true:=by kernel_rfl)(hB:aac ops ord=true:=by kernel_rfl)(hl:ord.length=ops.size:=by rfl):(Code.region id ops true).wp P Q a w:=ak ord _ hm hB hl δ.drew h
theorem ε.aW (h:ε S w.drew w'):ε S w w':=⟨h.os,h.tape,h.output,h.size,h.block⟩
theorem ε.of_below (h:Below w.heap.size w w'):ε S w w':=⟨h.os,h.tape,h.output,h.size,fun k hk _=>h.block k hk⟩
theorem ε.below (h:ε η w w'):Below w.heap.size w w':=⟨h.os,h.tape,h.output,h.size,fun k hk=>h.block k hk id⟩
theorem ε.pure (h:ε η w w'):ε S w w':=h.mono (fun _ _ h=>h.elim)
theorem ε.alloc (h:ε S w w')(o:Obj):ε S w (w'.alloc o):=
 h.trans ⟨rfl,rfl,rfl,by simp,fun k hk _=>Below.heap_alloc _ _ _ hk⟩
theorem ε.setCell (h:ε S w w'){p:Addr}(hp:S p.block\/w.heap.size<=p.block)(u:Value):ε S w (w'.setCell p u):=
 ⟨h.os,h.tape,h.output,by simpa using h.size,fun k hk hn=>by
   rw[Below.heap_setCell _ _ _ _ (fun e=>?_)]
   ·exact h.block k hk hn
   ·subst e
    rcases hp with hp|hp
    ·exact hn hp
    ·omega⟩
theorem ε.new (h:ε S w w')(k:ε S' w' w'')(hS: ∀i,i<w.heap.size->S' i->S i):ε S w w'':=
 ⟨k.os.trans h.os,k.tape.trans h.tape,k.output.trans h.output,ω h.size k.size,
  fun i hi hn=>(k.block i (Pe hi h.size) (fun hs=>hn (hS i hi hs))).trans (h.block i hi hn)⟩
theorem ε.grown {row:Option Nat}(hg:w.grownBy w' row)(hr: ∀k,row=some k->k<w.heap.size->S k):ε S w w':=
 ⟨hg.os,hg.tape,hg.output,hg.size,fun k hk hn=>hg.block k hk (fun e=>hn (hr k e.symm hk))⟩
theorem ε.cell (h:ε S w w'){p:Addr}(hp: ¬S p.block){v:Value}(hv:w.cell? p=some v):w'.cell? p=some v:=
 (World.cell?_of_block (w:=w) (h.block p.block (block_lt_of_cell hv) hp)).trans hv
theorem ε.agz (h:ε S w w'): ∀b o,b<w.heap.size-> ¬S b->w'.cell? ⟨b,o,none⟩=w.cell? ⟨b,o,none⟩:=fun b _ hb hn=>World.cell?_of_block (w:=w) (h.block b hb hn)
theorem ε.adO (h:ε S w w'): ∀b o,b<w.heap.size-> ¬S b->w'.frozen? ⟨b,o,none⟩=w.frozen? ⟨b,o,none⟩:=fun b _ hb hn=>World.frozen?_of_block (w:=w) (h.block b hb hn)
theorem ε.cq (h:ε η w w'): ∀b o,b<w.heap.size->w'.cell? ⟨b,o,none⟩=w.cell? ⟨b,o,none⟩:=fun b o hb=>h.agz b o hb id
theorem ε.fq (h:ε η w w'): ∀b o,b<w.heap.size->w'.frozen? ⟨b,o,none⟩=w.frozen? ⟨b,o,none⟩:=fun b o hb=>h.adO b o hb id
theorem ε.heap (h:ε S w w'){k:Nat}{o:Obj}(hk:w.heap[k]?=some o)(hn: ¬S k):w'.heap[k]?=some o:=
 (h.block k (κ.1 hk).1 hn).trans hk
theorem ε.owns (h:ε S w w'){base e size n:Nat}{v:Value}{xs:List Value}(ho:w.ownsRow base e size v n xs)(hn: ∀k,v.ownBlock=some k-> ¬S k):w'.ownsRow base e size v n xs:=by
 refine⟨ho.1,?_⟩
 rcases ho.2 with hn'|⟨g,cap,cur,rfl,hb,hgg,rest⟩
 ·exact .inl hn'
 ·exact .inr ⟨g,cap,cur,rfl,hb,h.heap hgg (hn g (by simp[Value.ownBlock])),rest⟩
end
def Reads (w:World)(k:Nat)(v:Value)(cs:List Value):Prop:=
 ∃a n cap,v= .slice a n cap/\n<=cap/\cap<=maxLen/\cs.length=n*k/\
  (cs=[]\/ ∃b off,a=some ⟨b,off,none⟩/\ ∀i x,cs[i]?=some x->w.cell? ⟨b,off+i,none⟩=some x)
def Value.blk:Value->Option Nat
 | .slice (some a) n _=>if n=0 then none else some a.block
 |_=>none
theorem Reads.kept {S:Nat->Prop}{w w':World}{k:Nat}{v:Value}{cs:List Value}(h:Reads w k v cs)(hk:ε S w w')(hn: ∀b,Value.blk v=some b-> ¬S b):Reads w' k v cs:=by
 obtain⟨a,n,cap,rfl,h1,h2,h3,h4⟩:=h;refine⟨a,n,cap,rfl,h1,h2,h3,?_⟩
 rcases h4 with h4|⟨b,off,rfl,h4⟩
 ·exact .inl h4
 ·by_cases h0:cs=[]
  ·exact .inl h0
  ·right
   refine⟨b,off,rfl,fun i x hx=>hk.cell (hn b ?_) (h4 i x hx)⟩;have:n≠0:=(by intro h;subst h;simp at h3;exact h0 h3);simp[Value.blk,this]
theorem Reads.pure {w w':World}{k:Nat}{v:Value}{cs:List Value}(h:Reads w k v cs)(hk:ε η w w'):Reads w' k v cs:=h.kept hk (fun _ _ h=>h)
theorem Reads.aN {w:World}{base e size n:Nat}{v:Value}{xs:List Value}(h:w.ownsRow base e size v n xs):Reads w size v xs:=by
 obtain⟨h1,h2⟩:=h
 rcases h2 with⟨rfl,rfl⟩|⟨g,cap,cur,rfl,hb,hg,hn,hc,hs,ht⟩
 ·exact⟨none,0,0,rfl,ξ _,Nat.zero_le _,h1,.inl (τ (by simpa using h1))⟩
 ·refine⟨_,n,cap,rfl,hn,hc,h1,.inr ⟨g,0,rfl,fun i x hx=>?_⟩⟩
  rw[cell_of_row w g (0+i) cur e (0,0) hg];rw[<-ht,aaA]at hx;split at hx
  ·simpa using hx
  ·cases hx
theorem Reads.nil (w:World)(k:Nat):Reads w k (.slice none 0 0) []:=⟨none,0,0,rfl,ξ _,Nat.zero_le _,by simp,.inl rfl⟩
theorem Reads.lit (w:World)(cs:List Value)(E k n:Nat)(h:cs.length=n*k)(hn:n<=maxLen):Reads (w.alloc (.cells cs.toArray E)) k (.slice (some ⟨w.heap.size,0,none⟩) n n) cs:=
 ⟨_,n,n,rfl,ξ _,hn,h,.inr ⟨_,0,rfl,fun i x hx=>by rw[World.cell?_alloc_new];simpa using hx⟩⟩
theorem oN {w:World}{base e size n:Nat}{v:Value}{xs:List Value}(h:w.ownsRow base e size v n xs){b:Nat}(hb:Value.blk v=some b):base<=b/\b<w.heap.size:=by
 rcases h.2 with⟨rfl,_⟩|⟨g,cap,cur,rfl,hg,hh,_⟩
 ·simp[Value.blk]at hb
 ·by_cases hn:n=0
  ·simp[Value.blk,hn]at hb
  ·simp[Value.blk,hn]at hb
   subst hb;exact⟨hg,(κ.1 hh).1⟩
abbrev T3:=Int×Value×Nat
def ent (t:T3):MapEntry:={key:= .int .i64 t.1,val:=t.2.1,born:=t.2.2}
structure RP (w:World)(m:Nat)(L:List T3)(clock:Nat):Prop where
 heap:w.heap[m]?=some (.map (L.map ent).toArray clock)
 keys:(L.map (·.1)).Nodup
 born:(L.map (·.2.2)).Nodup
 old: ∀t∈L,t.2.2<clock
def kv (t:T3):Int×Value:=(t.1,t.2.1)
def dW (w:World)(m:Nat)(l:List (Int×Value)):Prop:= ∃L clock,RP w m L clock/\L.map kv=l
def uI (key:Int):List T3->Nat->Option (Nat×Value)
 |[],_=>none
 |t::r,i=>if key==t.1 then some (i,t.2.1)else uI key r (i+1)
def look (l:List (Int×Value))(key:Int):Option Value:=(l.find? fun p=>key==p.1).map (·.2)
def upd (key:Int)(v:Value):List (Int×Value)->List (Int×Value)
 |[]=>[(key,v)]
 |p::r=>if key==p.1 then(key,v)::r else p::upd key v r
def del (key:Int)(l:List (Int×Value)):List (Int×Value):=l.filter fun p=>key !=p.1
theorem Ic (q:IntKind)(key:Int): ∀(L:List T3)(i:Nat),Instr.findNow (.int q) (.int .i64 key) (L.map ent) i=some (uI key L i)
 |[],_=>rfl
 |t::r,i=>by
  simp only[Θ,Instr.findNow,ent,Instr.sameNow,uI,if_true];cases h:key==t.1
  ·exact Ic q key r (i+1)
  ·rfl
theorem Aw (key:Int): ∀(L:List T3)(i:Nat),(uI key L i).map (·.2)=look (L.map kv) key
 |[],_=>rfl
 |t::r,i=>by
  simp only[uI,Θ,look,find?_cons,kv];cases h:key==t.1
  ·have:=Aw key r (i+1);simpa[look,kv]using this
  ·rfl
section
variable {P:Program} {w:World} {m:Nat} {l:List (Int×Value)} {T K E:TypeId} {q:IntKind}
theorem run_findKey (hK:P.underlying K=some (.int q))(key:Int)(L:List T3):(Instr.findKey K (.int .i64 key) (L.map ent)).run P w= .ok (uI key L 0) w:=by simp[Instr.findKey,run_underlying hK,Ic]
theorem KX (hK:P.underlying K=some (.int q))(key:Int)(b:Bool)(n:Nat):(Instr.checkKey b (n+1) K (.int .i64 key)).run P w= .ok () w:=by unfold Instr.checkKey;simp[run_underlying hK]
theorem run_checkKey (hK:P.underlying K=some (.int q))(key:Int)(b:Bool):(Instr.checkKey b 10000 K (.int .i64 key)).run P w= .ok () w:=KX hK key b 9999
theorem gU {L:List T3}{clock:Nat}(h:w.heap[m]?=some (.map (L.map ent).toArray clock)):(getObj m).run P w= .ok (.map (L.map ent).toArray clock) w:=by simp[getObj,Sem.run,h]
theorem dW.lookup (h:dW w m l)(hT:P.underlying T=some (.map K E))(hK:P.underlying K=some (.int q))(key:Int){z:Value}(hz:(zeroValue E).run P w= .ok z w):
 (Instr.lookup T (.map (some m)) (.int .i64 key) true).run P w= .ok (.tuple #[(look l key).getD z,.bool (look l key).isSome]) w:=by
 obtain⟨L,clock,h,rfl⟩:=h;have h1:=Aw key L 0;simp[Instr.lookup,run_underlying hT,gU h.heap,run_checkKey hK,run_findKey hK]
 cases hf:uI key L 0 with
 |none=>rw[hf]at h1;simp[hz,<-h1]
 |some x=>rw[hf]at h1;simp[<-h1]
theorem dW.adM (h:dW w m l)(hT:P.underlying T=some (.map K E))(hK:P.underlying K=some (.int q))(key:Int){z:Value}(hz:(zeroValue E).run P w= .ok z w):
 (Instr.lookup T (.map (some m)) (.int .i64 key) false).run P w= .ok ((look l key).getD z) w:=by
 obtain⟨L,clock,h,rfl⟩:=h;have h1:=Aw key L 0;simp[Instr.lookup,run_underlying hT,gU h.heap,run_checkKey hK,run_findKey hK]
 cases hf:uI key L 0 with
 |none=>rw[hf]at h1;simp[hz,<-h1]
 |some x=>rw[hf]at h1;simp[<-h1]
theorem dW.len (h:dW w m l)(hT:P.underlying T=some (.map K E))(ty:TypeId):(Builtin.len_ #[T] ty #[.map (some m)]).run P w= .ok (.int .i64 l.length) w:=by obtain⟨L,clock,h,rfl⟩:=h;simp[Builtin.len_,run_underlying hT,gU h.heap,goInt]
end
def tq (key:Int)(v:Value):List T3->List T3
 |[]=>[]
 |t::r=>if key==t.1 then(key,v,t.2.2)::r else t::tq key v r
theorem Au {key:Int}: ∀{L:List T3}{i:Nat},uI key L i=none-> ∀t∈L,t.1≠key
 |[],_,_,_,ht=>by cases ht
 |t::r,i,h,u,hu=>by
  simp only[uI]at h;split at h
  ·cases h
  ·rename_i hne
   rcases aci.1 hu with rfl|hu
   ·intro e;apply hne;simp[e]
   ·exact Au h u hu
theorem FQ {key:Int}{v:Value}: ∀{L:List T3}{i j:Nat}{x:Value},uI key L i=some (j,x)->
 i<=j/\(L.map ent).modify (j-i) (fun e=>{e with key:= .int .i64 key,val:=v})=(tq key v L).map ent/\((L.map ent)[j-i]?).map (·.key)=some (.int .i64 key)/\
 (L.map ent).eraseIdx (j-i)=(L.eraseP (fun t=>key==t.1)).map ent
 |[],_,_,_,h=>by cases h
 |t::r,i,j,x,h=>by
  simp only[uI]at h;split at h
  ·rename_i he
   have he':key=t.1:=(by simpa using he);simp at h;obtain⟨rfl,rfl⟩:=h;refine⟨ξ _,?_,?_,?_⟩
   ·simp[tq,he',ent]
   ·simp[ent,he']
   ·simp[he']
  ·rename_i hne
   obtain⟨h1,h2,h3,h4⟩:=FQ (v:=v) h;have e1:j-i=(j-(i+1))+1:=(by omega);refine⟨by omega,?_,?_,?_⟩
   ·rw[e1];simp[tq,hne,h2]
   ·rw[e1];simpa using h3
   ·rw[e1];simp[hne,h4]
theorem UC {key:Int}{v:Value}: ∀{L:List T3}{i:Nat},(uI key L i).isSome=true->(tq key v L).map kv=upd key v (L.map kv)
 |[],_,h=>by cases h
 |t::r,i,h=>by
  simp only[uI]at h;simp only[tq,Θ,upd,kv];split
  ·rfl
  ·rename_i hne
   rw[if_neg hne]at h;have:=UC (v:=v) h;simp[kv]at this⊢;exact this
theorem Iw {key:Int}{v:Value}: ∀{l:List (Int×Value)},(∀p∈l,p.1≠key)->upd key v l=l++[(key,v)]
 |[],_=>rfl
 |p::r,h=>by have h1:(key==p.1)=false:=(by simp;exact fun e=>h p (by simp) e.symm);simp[upd,h1,Iw (l:=r) (fun q hq=>h q (by simp[hq]))]
theorem JU {key:Int}{v:Value}: ∀(L:List T3),(tq key v L).map (·.1)=L.map (·.1)
 |[]=>rfl
 |t::r=>by
  simp only[tq];split
  ·rename_i h;simp at h;simp[h]
  ·simp[JU r]
theorem Dj {key:Int}{v:Value}: ∀(L:List T3),(tq key v L).map (·.2.2)=L.map (·.2.2)
 |[]=>rfl
 |t::r=>by
  simp only[tq];split
  ·simp
  ·simp[Dj r]
theorem abd {key:Int}{v:Value}{t:T3}{L:List T3}(h:t∈tq key v L): ∃u∈L,u.2.2=t.2.2:=by have:t.2.2∈(tq key v L).map (·.2.2):=aaw.2 ⟨t,h,rfl⟩;rw[Dj]at this;obtain⟨u,hu,he⟩:=aaw.1 this;exact⟨u,hu,he⟩
def World.iF (w:World)(m:Nat)(es:Array MapEntry)(clock:Nat):World:={w with heap:=w.heap.setIfInBounds m (.map es clock)}
theorem nK {w:World}{m:Nat}{o:Obj}(h:w.heap[m]?=some o)(es:Array MapEntry)(clock:Nat):(World.iF w m es clock).heap[m]?=some (.map es clock):=by have:=(κ.1 h).1;simp[World.iF,this]
theorem nJ (w:World)(m:Nat)(es:Array MapEntry)(clock:Nat):ε (one m) w (World.iF w m es clock):=
 ⟨rfl,rfl,rfl,by simp[World.iF],fun k _ hn=>by
   have:m≠k:=fun e=>hn e.symm
   simp[World.iF,Array.getElem?_setIfInBounds_ne this]⟩
theorem oL {P:Program}{w:World}{m:Nat}{es es':Array MapEntry}{clock clock':Nat}(h:w.heap[m]?=some (.map es clock)):
 (setObj m (.map es' clock')).run P w= .ok () (World.iF w m es' clock'):=by
 simp[setObj,Sem.run,h,World.iF]
section
variable {P:Program} {w:World} {m:Nat} {l:List (Int×Value)} {T K E:TypeId} {q:IntKind}
theorem dW.update (h:dW w m l)(hT:P.underlying T=some (.map K E))(hK:P.underlying K=some (.int q))(key:Int)(v:Value):
 ∃w',(Instr.mapUpdate T (.map (some m)) (.int .i64 key) v).run P w= .ok () w'/\dW w' m (upd key v l)/\ε (one m) w w'/\w'.heap.size=w.heap.size:=by
 obtain⟨L,clock,h,rfl⟩:=h
 cases hf:uI key L 0 with
 |none=>
  have hno:=Au hf;refine⟨World.iF w m (((L++[(key,v,clock)]).map ent).toArray) (clock+1),?_,⟨L++[(key,v,clock)],clock+1,⟨nK h.heap _ _,?_,?_,?_⟩,?_⟩,nJ _ _ _ _,by simp[World.iF]⟩
  ·simp[Instr.mapUpdate,run_underlying hT,gU h.heap,run_checkKey hK,run_findKey hK,hf,oL h.heap,ent]
  ·rw[aay,nodup_append]
   refine⟨h.keys,by simp,?_⟩;intro a ha b hb;obtain⟨t,ht,rfl⟩:=aaw.1 ha;simp at hb;subst hb;exact hno t ht
  ·rw[aay,nodup_append]
   refine⟨h.born,by simp,?_⟩;intro a ha b hb;obtain⟨t,ht,rfl⟩:=aaw.1 ha;simp at hb;subst hb;exact Nat.ne_of_lt (h.old t ht)
  ·intro t ht
   rcases aax.1 ht with ht|ht
   ·exact Nat.lt_succ_of_lt (h.old t ht)
   ·simp at ht;subst ht;exact Nat.lt_succ_self _
  ·rw[aay,Iw]
   ·rfl
   ·intro p hp
    obtain⟨t,ht,rfl⟩:=aaw.1 hp;exact hno t ht
 |some x=>
  obtain⟨j,y⟩:=x;obtain⟨_,h2,h3,_⟩:=FQ (v:=v) hf;simp only[Nat.sub_zero]at h2 h3;refine⟨World.iF w m (((tq key v L).map ent).toArray) clock,?_,⟨tq key v L,clock,⟨nK h.heap _ _,?_,?_,?_⟩,UC (i:=0) (by rw[hf];rfl)⟩,nJ _ _ _ _,by simp[World.iF]⟩
  ·have hk:((L.map ent)[j]?.map fun x=>x.key).getD (.int .i64 key)= .int .i64 key:=by rw[h3];rfl
   have hsame:(Instr.keyThatStays (.int .i64 key) (.int .i64 key)).run P w= .ok (.int .i64 key) w:=(by simp[Instr.keyThatStays,Instr.sameBits]);simp only[Instr.mapUpdate,Sem.run_bind,run_underlying hT,Result.andThen_ok,gU h.heap,run_checkKey hK,run_findKey hK,hf,aau,hk,hsame];rw[modify_toArray,h2,oL h.heap]
  ·rw[JU];exact h.keys
  ·rw[Dj];exact h.born
  ·intro t ht
   obtain⟨u,hu,he⟩:=abd ht;rw[<-he];exact h.old u hu
theorem JQ {key:Int}: ∀{L:List T3},(L.map (·.1)).Nodup->(L.eraseP (fun t=>key==t.1)).map kv=del key (L.map kv)
 |[],_=>rfl
 |t::r,h=>by
  simp only[Θ,nodup_cons]at h;by_cases he:key=t.1
  ·have: ∀p∈r.map kv,(key !=p.1)=true:=by
    intro p hp;obtain⟨u,hu,rfl⟩:=aaw.1 hp;simp[kv];intro e;exact h.1 (aaw.2 ⟨u,hu,by rw[<-e,he]⟩)
   simp only[Θ,eraseP_cons,he,beq_self_eq_true,cond_true,del,filter_cons,kv,bne_self_eq_false,Bool.false_eq_true,if_false];exact(filter_eq_self.2 (fun p hp=>by rw[<-he];exact this p hp)).symm
  ·have:=JQ (key:=key) h.2
   simp[he,del,kv]at this⊢;exact this
theorem RP.delete {L:List T3}{clock:Nat}(h:RP w m L clock)(hT:P.underlying T=some (.map K E))(hK:P.underlying K=some (.int q))(key:Int):
 ∃w',(∀(ty k:TypeId),(Builtin.delete_ #[T,k] ty #[.map (some m),.int .i64 key]).run P w= .ok (.tuple #[]) w')/\RP w' m (L.eraseP (fun t=>key==t.1)) clock/\ε (one m) w w'/\w'.heap.size=w.heap.size:=by
 cases hf:uI key L 0 with
 |none=>have hno:=Au hf;have he:L.eraseP (fun t=>key==t.1)=L:=eraseP_of_forall_not (fun t ht=>by simp;exact fun e=>hno t ht e.symm);refine⟨World.iF w m ((L.map ent).toArray) clock,fun ty k=>?_,⟨by rw[he];exact nK h.heap _ _,by rw[he];exact h.keys,by rw[he];exact h.born,by rw[he];exact h.old⟩,nJ _ _ _ _,by simp[World.iF]⟩;simp[Builtin.delete_,run_underlying hT,gU h.heap,run_checkKey hK,run_findKey hK,hf,oL h.heap]
 |some x=>
  obtain⟨j,y⟩:=x;obtain⟨_,_,h3,h4⟩:=FQ (v:= .nilFunc) hf;simp only[Nat.sub_zero]at h3 h4;refine⟨World.iF w m (((L.eraseP (fun t=>key==t.1)).map ent).toArray) clock,fun ty k=>?_,⟨nK h.heap _ _,?_,?_,?_⟩,nJ _ _ _ _,by simp[World.iF]⟩
  ·have hj:j<(L.map ent).length:=by
    cases hg:(L.map ent)[j]? with
    |none=>rw[hg]at h3;cases h3
    |some _=>exact(μ.1 hg).1
   simp[Builtin.delete_,run_underlying hT,gU h.heap,run_checkKey hK,run_findKey hK,hf,oL h.heap,h4]
  ·exact h.keys.sublist ((eraseP_sublist ..).map _)
  ·exact h.born.sublist ((eraseP_sublist ..).map _)
  ·exact fun t ht=>h.old t (mem_of_mem_eraseP ht)
theorem dW.delete (h:dW w m l)(hT:P.underlying T=some (.map K E))(hK:P.underlying K=some (.int q))(key:Int):
 ∃w',(∀(ty k:TypeId),(Builtin.delete_ #[T,k] ty #[.map (some m),.int .i64 key]).run P w= .ok (.tuple #[]) w')/\dW w' m (del key l)/\ε (one m) w w'/\w'.heap.size=w.heap.size:=by
 obtain⟨L,clock,h,rfl⟩:=h;obtain⟨w',h1,h2,h3,h4⟩:=h.delete (P:=P) hT hK key;exact⟨w',h1,⟨_,_,h2,JQ h.keys⟩,h3,h4⟩
theorem dW.made (w:World):dW (w.alloc (.map #[] 0)) w.heap.size []:=
 ⟨[],0,⟨by simpa using heap_alloc_new w (.map #[] 0),by simp,by simp,by simp⟩,rfl⟩
theorem dW.kept {S:Nat->Prop}{w':World}(h:dW w m l)(hk:ε S w w')(hn: ¬S m):dW w' m l:=by obtain⟨L,clock,h,rfl⟩:=h;exact⟨L,clock,⟨hk.heap h.heap hn,h.keys,h.born,h.old⟩,rfl⟩
theorem dW.lt (h:dW w m l):m<w.heap.size:=by obtain⟨L,clock,h,rfl⟩:=h;exact(κ.1 h.heap).1
theorem dW.nodup (h:dW w m l):(l.map (·.1)).Nodup:=by obtain⟨L,clock,h,rfl⟩:=h;have:=h.keys;simpa[kv,Function.comp_def]using this
end
def rP (w:World)(r m:Nat)(l left:List (Int×Value)):Prop:=
 ∃L clock seen,RP w m L clock/\L.map kv=l/\w.heap[r]?=some (.mapIter (some m) clock seen clock)/\(L.filter (fun t=>!seen.contains t.2.2)).map kv=left
section
variable {P:Program} {w:World} {m r:Nat} {l left:List (Int×Value)} {T K E:TypeId} {q:IntKind}
theorem rP.map (h:rP w r m l left):dW w m l:=by obtain⟨L,clock,seen,h1,h2,_⟩:=h;exact⟨L,clock,h1,h2⟩
theorem rP.kept {S:Nat->Prop}{w':World}(h:rP w r m l left)(hk:ε S w w')(hm: ¬S m)(hr: ¬S r):rP w' r m l left:=by obtain⟨L,clock,seen,h1,h2,h3,h4⟩:=h;exact⟨L,clock,seen,⟨hk.heap h1.heap hm,h1.keys,h1.born,h1.old⟩,h2,hk.heap h3 hr,h4⟩
theorem rP.ne (h:rP w r m l left):r≠m:=by obtain⟨L,clock,seen,h1,h2,h3,h4⟩:=h;intro e;have:=h1.heap;rw[<-e,h3]at this;cases this
theorem dW.range (h:dW w m l)(hT:P.underlying T=some (.map K E)):
 ∃w',(Instr.range T (.map (some m))).run P w= .ok (.pointer (some ⟨w.heap.size,0,none⟩)) w'/\rP w' w.heap.size m l l/\ε η w w'/\w'.heap.size=w.heap.size+1:=by
 obtain⟨L,clock,h,rfl⟩:=h;refine⟨w.alloc (.mapIter (some m) clock #[] clock),?_,?_,δ.alloc _,by simp⟩
 ·simp[Instr.range,run_underlying hT,gU h.heap]
 ·refine⟨L,clock,#[],⟨?_,h.keys,h.born,h.old⟩,rfl,heap_alloc_new _ _,by rw[filter_eq_self.2 (fun _ _=>by simp)]⟩
  rw[Below.heap_alloc _ _ _ (κ.1 h.heap).1];exact h.heap
theorem vK {w:World}{r k:Nat}(o:Obj)(h:r≠k):({w with heap:=w.heap.setIfInBounds r o}:World).heap[k]?=w.heap[k]?:=by simp[Array.getElem?_setIfInBounds_ne h]
theorem Fp {L:List T3}(hb:(L.map (·.2.2)).Nodup){t:T3}(ht:t∈L):L.Perm (t::L.filter (fun u=>u.2.2 !=t.2.2)):=by
 induction L with
 |nil=>cases ht
 |cons u r ih=>
  simp only[Θ,nodup_cons]at hb
  rcases aci.1 ht with rfl|ht
  ·have:r.filter (fun v=>v.2.2 !=t.2.2)=r:=filter_eq_self.2 (fun v hv=>by
    simp;intro e
    exact hb.1 (aaw.2 ⟨v,hv,e⟩))
   simp[this]
  ·have hne:u.2.2≠t.2.2:=fun e=>hb.1 (aaw.2 ⟨t,ht,e.symm⟩)
   have h2:(u.2.2 !=t.2.2)=true:=(by simp[hne]);rw[filter_cons,if_pos h2];exact((ih hb.2 ht).cons u).trans (List.Perm.swap ..)
theorem Ee {clock:Nat}{seen:Array Nat}(h:w.heap[r]?=some (.mapIter (some m) clock seen clock)):(getObj r).run P w= .ok (.mapIter (some m) clock seen clock) w:=by simp[getObj,Sem.run,h]
theorem rP.next (h:rP w r m l left)(ty:TypeId):
 (left=[]/\(Instr.next (.pointer (some ⟨r,0,none⟩)) false ty).run P w= .ok (.tuple #[.bool false]) w)\/
 ∃p left' w',left.Perm (p::left')/\(Instr.next (.pointer (some ⟨r,0,none⟩)) false ty).run P w= .ok (.tuple #[.bool true,.int .i64 p.1,p.2]) w'/\rP w' r m l left'/\ε (one r) w w'/\w'.heap.size=w.heap.size/\
  (Instr.entry (.pointer (some ⟨r,0,none⟩))).run P w'= .ok (.tuple #[.int .i64 p.1,p.2]) w':=by
 have hrm:=h.ne;obtain⟨L,clock,seen,h1,rfl,h3,rfl⟩:=h;have hall:((!seen.isEmpty&&!(L.map ent).toArray.isEmpty&&(L.map ent).toArray.all (fun e=>decide (e.born>=clock))):Bool)=false:=by
  cases L with
  |nil=>simp
  |cons t rest=>have:=h1.old t (by simp);simp[ent];intro _ hge;omega
 have hold:((L.map ent).toArray.filter (fun e=>!seen.contains e.born)).filter (fun e=>decide (e.born<clock))=((L.filter (fun t=>!seen.contains t.2.2)).map ent).toArray:=by
  rw[filter_toArray,filter_toArray]
  congr 1
  rw[filter_map,filter_map,filter_filter]
  congr 1
  apply filter_congr;intro t ht;have:=h1.old t ht;show(decide (t.2.2<clock)&&!seen.contains t.2.2)=!seen.contains t.2.2;rw[decide_eq_true this,Bool.true_and]
 have hnew:((L.map ent).toArray.filter (fun e=>!seen.contains e.born)).filter (fun e=>decide (e.born>=clock))= #[]:=by
  rw[filter_toArray,filter_toArray]
  congr 1
  rw[filter_eq_nil_iff];intro e he;obtain⟨he1,_⟩:=mem_filter.1 he;obtain⟨t,ht,rfl⟩:=aaw.1 he1;have:=h1.old t ht;simp[ent];exact this
 have hrun: ∀cont:Nat->Sem Value,True:=fun _=>trivial
 cases hl:(L.filter (fun t=>!seen.contains t.2.2))with
 |nil=>left;refine⟨rfl,?_⟩;rw[hl]at hold;simp only[Instr.next,Sem.run_bind,Ee h3,Result.andThen_ok,gU h1.heap,hall,hold,hnew];simp[Question.forced]
 |cons t0 rest=>
  right;have hne:(((L.filter (fun t=>!seen.contains t.2.2)).map ent).toArray.isEmpty)=false:=(by rw[hl];rfl);obtain⟨n,hn,w1,hw1,V4⟩: ∃n,n<(L.filter (fun t=>!seen.contains t.2.2)).length/\ ∃w1:World,w1.heap=w.heap/\w1.os=w.os/\w1.tape=w.tape/\w1.output=w.output/\
   (choose (.mapNext (L.filter (fun t=>!seen.contains t.2.2)).length)).run P w= .ok n w1:=by
   rw[hl];by_cases hf:(rest.length+1)<=1
   ·exact⟨0,by simp,w,rfl,rfl,rfl,rfl,by simp[Question.forced,hf]⟩
   ·refine⟨_,Nat.mod_lt (w.tape w.drawn (.mapNext (rest.length+1))) (by simp),w.drew,rfl,rfl,rfl,rfl,?_⟩
    simp[Question.forced,hf,Question.cut]
  obtain⟨hos,htape,hout,V4⟩:=V4;have hget:((L.filter (fun t=>!seen.contains t.2.2)))[n]?=some ((L.filter (fun t=>!seen.contains t.2.2))[n]):=(by simp);generalize ht:(L.filter (fun t=>!seen.contains t.2.2))[n]=t at hget;have htl:t∈L.filter (fun t=>!seen.contains t.2.2):=ς hget;have htL:t∈L:=(mem_filter.1 htl).1;have hns:seen.contains t.2.2=false:=(by have:=(mem_filter.1 htl).2;simpa using this);have aeS:r<w1.heap.size:=(by rw[hw1];exact(κ.1 h3).1);have h3':w1.heap[r]?=some (.mapIter (some m) clock seen clock):=(by rw[hw1];exact h3);refine⟨kv t,((L.filter (fun t=>!seen.contains t.2.2)).filter (fun u=>u.2.2 !=t.2.2)).map kv,{w1 with heap:=w1.heap.setIfInBounds r (.mapIter (some m) clock (seen.push t.2.2) clock)},?_,?_,?_,?_,?_,?_⟩
  ·have hb:=h1.born.sublist ((filter_sublist (p:=fun t:T3=>!seen.contains t.2.2) (l:=L)).map (·.2.2))
   rw[<-hl];exact(Fp hb htl).map kv
  ·have hsz:(((L.filter (fun t=>!seen.contains t.2.2)).map ent).toArray.map some).size=(L.filter (fun t=>!seen.contains t.2.2)).length:=by simp
   have hat:(((L.filter (fun t=>!seen.contains t.2.2)).map ent).toArray.map some)[n]?=some (some (ent t)):=(by simp only[map_toArray,aau,aav,hget,Option.map_some]);simp only[Instr.next,Sem.run_bind,Ee h3,Result.andThen_ok,gU h1.heap,hall,hold,hnew,hne,Bool.false_eq_true,if_false,Array.append_empty,Array.empty_append,hsz,V4,hat];simp[setObj,Sem.run,h3',ent,kv]
  ·refine⟨L,clock,seen.push t.2.2,⟨?_,h1.keys,h1.born,h1.old⟩,rfl,?_,?_⟩
   ·rw[vK _ hrm,hw1];exact h1.heap
   ·simp[aeS]
   ·congr 1
    rw[filter_filter];apply filter_congr;intro u _;simp[Bool.and_comm,bne];by_cases e:u.2.2=t.2.2<;>simp[e]
  ·refine⟨hos,htape,hout,by simp[hw1],fun k _ hk=>?_⟩
   rw[vK _ (fun e=>hk e.symm),hw1]
  ·simp[hw1]
  ·have g1:(getObj r).run P ({w1 with heap:=w1.heap.setIfInBounds r (.mapIter (some m) clock (seen.push t.2.2) clock)}:World)= .ok (.mapIter (some m) clock (seen.push t.2.2) clock) {w1 with heap:=w1.heap.setIfInBounds r (.mapIter (some m) clock (seen.push t.2.2) clock)}:=by
    simp[getObj,Sem.run,aeS]
   have g2:(getObj m).run P ({w1 with heap:=w1.heap.setIfInBounds r (.mapIter (some m) clock (seen.push t.2.2) clock)}:World)= .ok (.map (L.map ent).toArray clock) {w1 with heap:=w1.heap.setIfInBounds r (.mapIter (some m) clock (seen.push t.2.2) clock)}:=(by have:({w1 with heap:=w1.heap.setIfInBounds r (.mapIter (some m) clock (seen.push t.2.2) clock)}:World).heap[m]?=some (.map (L.map ent).toArray clock):=(by rw[vK _ hrm,hw1];exact h1.heap);exact gU this);have hfind:(L.map ent).toArray.find? (fun e=>e.born==t.2.2)=some (ent t):=by
    rw[find?_toArray,find?_map];have:L.find? ((fun e:MapEntry=>e.born==t.2.2)∘ent)=some t:=by
     have key: ∀(M:List T3),(M.map (·.2.2)).Nodup->t∈M->M.find? ((fun e:MapEntry=>e.born==t.2.2)∘ent)=some t:=by
      intro M
      induction M with
      |nil=>intro _ h;cases h
      |cons u M ih=>
       intro hnd hmem;simp only[Θ,nodup_cons]at hnd;rw[find?_cons]
       rcases aci.1 hmem with rfl|hmem
       ·simp[ent]
       ·have hne:u.2.2≠t.2.2:=fun e=>hnd.1 (aaw.2 ⟨t,hmem,e.symm⟩)
        have:((fun e:MapEntry=>e.born==t.2.2)∘ent) u=false:=(by simp[ent,hne]);rw[this];exact ih hnd.2 hmem
     exact key L h1.born htL
    rw[this];rfl
   simp only[Instr.entry,Sem.run_bind,g1,g2,Result.andThen_ok,Array.back?_push,hfind];simp[ent,kv]
end
end
section
open Go Go.RowKit
section
variable {P:Program} {w:World}
theorem aZ (base:Nat)(t ty e:TypeId)(i:TypeInfo)(z:Value)(size bytes:Nat)(ht:P.underlying t=some (.slice e))(hi:P.info? e=some i)(hz:i.zero=some z)
 (hsize:i.size=size) (hby:i.bytes=bytes) (hzs:z.cells.size=size) (hsz:0<size)
 {v:Value} {n:Nat} {xs:List Value} (hown:w.ownsRow base e size v n xs) {u:Value} {cs:List Value} (hr:Reads w size u cs) (h1: ∀x∈cs,x.oneCell'=true)
 (hmax:(n*size+cs.length)*bytes<=140737488355328) (hbig:n*size+cs.length<=maxLen) (hbase:base<=w.heap.size):
 ∃v' n' w',(Builtin.append_ #[t,t] ty #[v,u]).run P w= .ok v' w'/\w'.ownsRow base e size v' n' (xs++cs)/\n'*size=n*size+cs.length/\w.grownBy w' v.ownBlock/\
  (v'= .slice none 0 0↔v= .slice none 0 0/\cs=[]):=by
 obtain⟨a,m,cap,rfl,hm1,hm2,hlen,hcells⟩:=hr;have hnm:n+m<=n*size+cs.length:=(by rw[hlen,<-Nat.add_mul];exact Nat.le_mul_of_pos_right _ hsz);by_cases hc:cs=[]
 ·subst hc
  have hm:m=0:=by
   rcases Nat.eq_zero_or_pos m with h|h
   ·exact h
   ·have:=Nat.mul_pos h hsz;simp at hlen;omega
  subst hm;have hf: ∀W,(Builtin.firstCells size 0 (.slice a 0 cap)).run P W= .ok #[] W:=fun W=>(by cases a<;>simp[Builtin.firstCells,loadCells,loadCellsFrom]);refine⟨v,n,w,?_,by simpa using hown,by simp,⟨rfl,rfl,rfl,ξ _,fun _ _ _=>rfl⟩,by simp⟩
  rcases hown.2 with⟨rfl,rfl⟩|⟨g,dK,cur,rfl,hbg,hg,hnc,hcm,hcs,htake⟩
  ·subst hsize
   simp[Builtin.append_,run_underlying ht,sizeOf,typeInfo,hi,Builtin.lenOf,hf]
  ·subst hsize
   simp[Builtin.append_,run_underlying ht,sizeOf,typeInfo,hi,Builtin.lenOf,hf,hnc,storeCells]
 ·obtain⟨b,off,rfl,hcl⟩:=hcells.resolve_left hc
  have hadd: ∀j,(⟨b,off,none⟩:Addr).add j=⟨b,off+j,none⟩:=fun j=>Addr.add_lit b off j;obtain⟨v',w',g1,g2,g3,g4⟩:=run_append_own (P:=P) w base t ty e i z size bytes ht hi hz hsize hby hzs hsz v n xs hown ⟨b,off,none⟩ m cap cs hlen
   (fun j x hx=>by rw[hadd];exact hcl j x hx) h1 (ω hnm hbig) (ω (Nat.mul_le_mul_right _ hnm) hmax) hbase
  refine⟨v',n+m,w',g1,g2,by rw[Nat.add_mul,hlen],g3,?_⟩;rw[g4];constructor
  ·rintro⟨h,rfl⟩;exact⟨h,absurd (τ (by simpa using hlen)) hc⟩
  ·rintro⟨h,h'⟩;exact absurd h' hc
theorem FV {o:Oper}{a:Act}{K:Act->World->Prop}{Q:Exit->Act->World->Prop}(s x:Operand)(t:TypeId)
 (ho:o.op= .call {callee:= .builtin .append,args:= #[s,x],argTypes:= #[t,t]})
 (base e:Nat) (i:TypeInfo) (z:Value) (size bytes:Nat) (ht:P.underlying t=some (.slice e)) (hi:P.info? e=some i) (hz:i.zero=some z)
 (hsize:i.size=size) (hby:i.bytes=bytes) (hzs:z.cells.size=size) (hsz:0<size)
 (v:Value) (n:Nat) (xs:List Value) (hs:a.eval s=v) (hown:w.ownsRow base e size v n xs) (u:Value) (cs:List Value) (hx:a.eval x=u) (hr:Reads w size u cs) (h1: ∀x∈cs,x.oneCell'=true)
 (hmax:(n*size+cs.length)*bytes<=140737488355328) (hbig:n*size+cs.length<=maxLen) (hbase:base<=w.heap.size)
 (h: ∀v' n' w',w'.ownsRow base e size v' n' (xs++cs)->n'*size=n*size+cs.length->w.grownBy w' v.ownBlock->(v'= .slice none 0 0↔v= .slice none 0 0/\cs=[])->K (a.put o.dst v') w'):o.wp P a w K Q:=by
 obtain⟨v',n',w',g1,g2,g3,g4,g5⟩:=aZ (P:=P) base t o.type e i z size bytes ht hi hz hsize hby hzs hsz hown hr h1 hmax hbig hbase;unfold Oper.wp execOp;simp only[ho,resolve,invoke,builtin,Sem.run_bind,Sem.run_pure,Result.andThen_ok,map_toArray,Θ,Ξ,hs,hx,g1];exact h v' n' w' g2 g3 g4 g5
theorem pJ {ops:Array Oper}{rest:List Oper}{o:Oper}{a:Act}{Q:Exit->Act->World->Prop}(hgd:o.guard=none)(s x:Operand)(t:TypeId)
 (ho:o.op= .call {callee:= .builtin .append,args:= #[s,x],argTypes:= #[t,t]})
 (base e:Nat) (i:TypeInfo) (z:Value) (size bytes:Nat) (ht:P.underlying t=some (.slice e)) (hi:P.info? e=some i) (hz:i.zero=some z)
 (hsize:i.size=size) (hby:i.bytes=bytes) (hzs:z.cells.size=size) (hsz:0<size)
 (v:Value) (n:Nat) (xs:List Value) (hs:a.eval s=v) (hown:w.ownsRow base e size v n xs) (u:Value) (cs:List Value) (hx:a.eval x=u) (hr:Reads w size u cs) (h1: ∀x∈cs,x.oneCell'=true)
 (hmax:(n*size+cs.length)*bytes<=140737488355328) (hbig:n*size+cs.length<=maxLen) (hbase:base<=w.heap.size)
 (h: ∀v' n' w',w'.ownsRow base e size v' n' (xs++cs)->n'*size=n*size+cs.length->w.grownBy w' v.ownBlock->(v'= .slice none 0 0↔v= .slice none 0 0/\cs=[])->wpList P ops Q rest (a.put o.dst v') w'):
 wpList P ops Q (o::rest) a w:=
 wpList_plain hgd fun _ hK=>FV s x t ho base e i z size bytes ht hi hz hsize hby hzs hsz v n xs hs hown u cs hx hr h1 hmax hbig hbase (fun v' n' w' g1 g2 g3 g4=>hK _ _ (h v' n' w' g1 g2 g3 g4))
theorem Reads.slice {k:Nat}{v:Value}{cs:List Value}(h:Reads w k v cs): ∃a n cap,v= .slice a n cap/\n<=cap/\cap<=maxLen/\cs.length=n*k/\(n=0\/k=0\/ ∃b off,a=some ⟨b,off,none⟩)/\
 (∀b off,a=some ⟨b,off,none⟩-> ∀i x,cs[i]?=some x->w.cell? ⟨b,off+i,none⟩=some x):=by
 obtain⟨a,n,cap,rfl,h1,h2,h3,h4⟩:=h;refine⟨a,n,cap,rfl,h1,h2,h3,?_,?_⟩
 ·rcases h4 with rfl|⟨b,off,rfl,h4⟩
  ·have h3':n*k=0:=by rw[<-h3];rfl
   rcases Nat.mul_eq_zero.1 h3' with h5|h5
   ·exact .inl h5
   ·exact .inr (.inl h5)
  ·exact .inr (.inr ⟨b,off,rfl⟩)
 ·rcases h4 with rfl|⟨b,off,rfl,h4⟩
  ·intro b off _ i x hx;simp at hx
  ·rintro b' off' e i x hx
   cases e;exact h4 i x hx
end
end
section
def aJ (n:Int):Prop:= -9223372036854775808<=n/\n<=9223372036854775807
def grp (k:Int):Int:=k%8
theorem ZK (k:Int):0<=grp k:=by unfold grp;omega
theorem ZL (k:Int):grp k<8:=by unfold grp;omega
abbrev Cell:=Int×List Int
abbrev Tab:=List (Int×Cell)
def bH (a b:Int):Bool:=decide (grp a<grp b)||(decide (grp a=grp b)&&decide (a<b))
theorem qA {a b:Int}:bH a b=true↔grp a<grp b\/grp a=grp b/\a<b:=by simp[bH]
theorem bM (a:Int):bH a a=false:=by simp[bH]
theorem iY {a b c:Int}(h:bH a b=true)(k:bH b c=true):bH a c=true:=by rw[qA]at*;omega
theorem jO {a b:Int}(h:a≠b):bH a b=true\/bH b a=true:=by rw[qA,qA];omega
theorem vS {a b:Int}(h:bH a b=true):bH b a=false:=by
 cases h':bH b a
 ·rfl
 ·have:=iY h h';rw[bM]at this;cases this
def dO (T:Tab):Prop:=T.Pairwise fun p q=>bH p.1 q.1=true
def bZ (T:Tab)(k:Int):Option Cell:=(T.find? fun p=>k==p.1).map (·.2)
def aX (T:Tab)(g:Int):Nat:=T.countP fun p=>grp p.1==g
def iq (k:Int)(c:Cell):Tab->Tab
 |[]=>[(k,c)]
 |p::r=>if bH p.1 k then p::iq k c r else if p.1=k then(k,c)::r else(k,c)::p::r
def eu (k:Int)(T:Tab):Tab:=T.filter fun p=>k !=p.1
def dD (T:Tab):List Int:=T.map (·.1)
def KO (c:Cell):Prop:=aJ c.1/\(∀x∈c.2,aJ x)/\c.2.length<=16
structure fC (T:Tab):Prop where
 rises:dO T
 key: ∀p∈T,aJ p.1
 cell: ∀p∈T,KO p.2
 many: ∀g,aX T g<=40
theorem dO.nodup {T:Tab}(h:dO T):(dD T).Nodup:=by unfold dD;rw[Nodup,pairwise_map];exact h.imp fun{a b} hab e=>by rw[e,bM]at hab;cases hab
theorem kL {k:Int}{c:Cell}: ∀{T:Tab},dO T-> ∀{p:Int×Cell},p∈iq k c T↔p=(k,c)\/(p∈T/\p.1≠k)
 |[],_,p=>by simp[iq]
 |q::r,h,p=>by
  obtain⟨h1,h2⟩:=pairwise_cons.1 h;unfold iq;split
  ·rename_i hl
   have hne:q.1≠k:=fun e=>(by rw[e,bM]at hl;cases hl);rw[aci,kL h2,aci];constructor
   ·rintro(rfl|h|h)
    ·exact .inr ⟨.inl rfl,hne⟩
    ·exact .inl h
    ·exact .inr ⟨.inr h.1,h.2⟩
   ·rintro(h|⟨rfl|h,h'⟩)
    ·exact .inr (.inl h)
    ·exact .inl rfl
    ·exact .inr (.inr ⟨h,h'⟩)
  ·rename_i hl
   split
   ·rename_i he
    rw[aci,aci];constructor
    ·rintro(h|h)
     ·exact .inl h
     ·refine .inr ⟨.inr h,fun e=>?_⟩
      have:=h1 p h;rw[e,he,bM]at this;cases this
    ·rintro(h|⟨rfl|h,h'⟩)
     ·exact .inl h
     ·exact absurd he h'
     ·exact .inr h
   ·rename_i he
    have hkq:bH k q.1=true:=(jO he).resolve_left hl;rw[aci];constructor
    ·rintro(h|h)
     ·exact .inl h
     ·refine .inr ⟨h,fun e=>?_⟩
      rcases aci.1 h with rfl|h
      ·exact he e
      ·have:=iY hkq (h1 p h)
       rw[e,bM]at this;cases this
    ·rintro(h|⟨h,_⟩)
     ·exact .inl h
     ·exact .inr h
theorem dO.iq {k:Int}{c:Cell}: ∀{T:Tab},dO T->dO (iq k c T)
 |[],_=>by simp[dO,Go.Proofs.YtglbkodmmogomaaGreatDoor.iq]
 |q::r,h=>by
  obtain⟨h1,h2⟩:=pairwise_cons.1 h;unfold Go.Proofs.YtglbkodmmogomaaGreatDoor.iq;split
  ·rename_i hl
   refine pairwise_cons.2 ⟨fun p hp=>?_,dO.iq h2⟩
   rcases(kL h2).1 hp with rfl|⟨hp,_⟩
   ·exact hl
   ·exact h1 p hp
  ·rename_i hl
   split
   ·rename_i he
    exact pairwise_cons.2 ⟨fun p hp=>by have:=h1 p hp;rw[he]at this;exact this,h2⟩
   ·rename_i he
    have hkq:bH k q.1=true:=(jO he).resolve_left hl;refine pairwise_cons.2 ⟨fun p hp=>?_,h⟩
    rcases aci.1 hp with rfl|hp
    ·exact hkq
    ·exact iY hkq (h1 p hp)
theorem qc {T:Tab}(h:dO T){k:Int}{c:Cell}:bZ T k=some c↔(k,c)∈T:=by
 induction T with
 |nil=>simp[bZ]
 |cons q r ih=>
  obtain⟨h1,h2⟩:=pairwise_cons.1 h;unfold bZ at*;rw[find?_cons];by_cases he:k=q.1
  ·subst he
   simp;constructor
   ·intro h;exact .inl (by rw[<-h])
   ·rintro(h|h)
    ·rw[<-h]
    ·have:=h1 _ h;simp[bM]at this
  ·have:(k==q.1)=false:=by simp[he]
   rw[this];simp only[aci];rw[ih h2];constructor
   ·exact .inr
   ·rintro(h|h)
    ·rw[<-h]at he;exact absurd rfl he
    ·exact h
theorem Jo {T:Tab}{k:Int}:bZ T k=none↔k∉dD T:=by
 unfold bZ dD;simp;constructor
 ·intro h a b hc;exact h _ _ _ hc rfl
 ·intro h a b l hab e;subst e;exact h _ _ hab
theorem dO.ext: ∀{T U:Tab},dO T->dO U->(∀p,p∈T↔p∈U)->T=U
 |[],[],_,_,_=>rfl
 |[],q::r,_,_,h=>by have:=(h q).2 (by simp);cases this
 |q::r,[],_,_,h=>by have:=(h q).1 (by simp);cases this
 |p::r,q::s,hT,hU,h=>by
  obtain⟨a1,a2⟩:=pairwise_cons.1 hT;obtain⟨b1,b2⟩:=pairwise_cons.1 hU;have hpq:p=q:=by
   rcases aci.1 ((h p).1 (by simp))with e|e
   ·exact e
   ·rcases aci.1 ((h q).2 (by simp))with e'|e'
    ·exact e'.symm
    ·have h1:=b1 p e
     have h2:=a1 q e';rw[vS h1]at h2;cases h2
  subst hpq
  congr 1
  refine dO.ext a2 b2 fun x=>⟨fun hx=>?_,fun hx=>?_⟩
  ·rcases aci.1 ((h x).1 (by simp[hx]))with e|e
   ·subst e;have:=a1 x hx;rw[bM]at this;cases this
   ·exact e
  ·rcases aci.1 ((h x).2 (by simp[hx]))with e|e
   ·subst e;have:=b1 x hx;rw[bM]at this;cases this
   ·exact e
theorem sF {k:Int}{T:Tab}{p:Int×Cell}:p∈eu k T↔p∈T/\p.1≠k:=by unfold eu;simp;intro _;exact⟨fun h e=>h e.symm,fun h e=>h e.symm⟩
theorem dO.eu {k:Int}{T:Tab}(h:dO T):dO (eu k T):=h.sublist filter_sublist
end
section
open Go Go.RowKit
theorem gV {k:IntKind}{a b:Int}(h:a=b):Ending.returned (.int k a)= .returned (.int k b):=by rw[h]
theorem acd (k:Int):k.tmod 8=if 0<=k then k%8 else-((-k)%8):=tmod_eq_if k 8
theorem wE (k:Int)(w:World):
 Calls prog 52 #[.int .i64 k] w fun e w'=>e= .returned (.int .i64 (grp k))/\w=w':=by
 have h1:=acd k;have H:=γ h1;clear h1;go_enter func52,ntmps52;go_wp2
 ·rename_i hlt
  go_ret;refine⟨gV ?_,rfl⟩;have e:=H.o;unfold grp;show wrap64 (k.tmod 8+8)=k%8;rw[IntWalk.wrap64_in _ ⟨by split at e<;>omega,by split at e<;>omega⟩];split at e<;>omega
 ·rename_i hge
  go_ret;refine⟨gV ?_,rfl⟩;have e:=H.o;unfold grp;show k.tmod 8=k%8;split at e<;>omega
def UR (w:World)(E k:Nat)(cs:List Value)(e:Ending)(w':World):Prop:=
 ∃v' n',e= .returned v'/\w'.ownsRow w.heap.size E k v' n' cs/\n'*k=cs.length/\ε η w w'
theorem Tryz.info2:(Tryz.prog.info? 2).map (fun i=>(i.zero,i.size,i.bytes))=some (some (.int .i64 0),1,8):=by kernel_rfl
theorem aai (v:Value)(cs:List Value)(w:World)(hr:Reads w 1 v cs)(h1: ∀x∈cs,x.oneCell'=true)(hlen:cs.length<=17592186044416):
 Calls prog 142 #[v] w (UR w 2 1 cs):=by
 obtain⟨i0,hi,hz0,hz1,hz2⟩:=info_parts Tryz.info2;obtain⟨a,n,cap,rfl,hn,hc,hl,hp,hcell⟩:=hr.slice;have hnil:=fun(w:World) a n c=>Lib.run_eql_slice_nil (P:=prog) w 97 2 a n c 0 0 underlying97
 cases a with
 |none=>
  have hcs:cs=[]:=by
   rcases hp with rfl|h|⟨b,off,h⟩
   ·exact τ (by simpa using hl)
   ·cases h
   ·cases h
  subst hcs;clear hcell hp h1 hr;go_enter func142,ntmps142;go_wp2;go_ret;exact⟨_,0,rfl,World.ownsRow_nil _ _ _ _,rfl,ε.refl _ _⟩
 |some ad=>have H:=γ hr;have HH:=γ hl;have HC:=γ hlen;clear hcell hp hr hl hlen;go_enter func142,ntmps142;have hnew:(w.alloc (.cells #[] 2)).ownsRow w.heap.size 2 1 (.slice (some ⟨w.heap.size,0,none⟩) 0 0) 0 []:=World.ownsRow_made w #[] 0 (ξ _) (Nat.zero_le _) rfl;have hrd:=H.o.pure ((ε.refl η w).alloc (.cells #[] 2));have N1:=γ hnew;have N2:=γ hrd;clear hnew hrd;have B1:acr ((0*1+cs.length)*8<=140737488355328):=(by have:=HC.o;show(0*1+cs.length)*8<=140737488355328;omega);have B2:acr (0*1+cs.length<=maxLen):=(by have:=HC.o;show 0*1+cs.length<=maxLen;unfold maxLen;omega);go_wp2_with (at_builtin;(refine pJ rfl (.tmp 5) (.tmp 6) 97 rfl w.heap.size 2 i0 (.int .i64 0) 1 8 underlying97 hi hz0 hz1 hz2 rfl (by decide) _ 0 [] rfl N1.o _ cs rfl N2.o h1 B1.o B2.o (by simp) ?_);intro v' n' w' g1 g2 g3 g4);go_ret;refine⟨v',n',rfl,g1,by simpa using g2,?_⟩;exact((ε.refl η w).alloc _).new (ε.grown (S:=one w.heap.size) g3 (fun k hk _=>by cases hk;rfl)) (fun k hk e=>by unfold one at e;omega)
theorem jV {w:World}{base base' e size n:Nat}{v:Value}{xs:List Value}(h:w.ownsRow base e size v n xs)(hb:base'<=base):w.ownsRow base' e size v n xs:=by
 refine⟨h.1,?_⟩
 rcases h.2 with h2|⟨g,cap,cur,h1,h2,h3⟩
 ·exact .inl h2
 ·exact .inr ⟨g,cap,cur,h1,ω hb h2,h3⟩
theorem au {w:World}{base e size n:Nat}{v:Value}{xs:List Value}(h:w.ownsRow base e size v n xs): ∃a cap,v= .slice a n cap:=by
 rcases h.2 with⟨rfl,rfl⟩|⟨g,cap,cur,rfl,_⟩
 ·exact⟨_,_,rfl⟩
 ·exact⟨_,_,rfl⟩
def D9 (w:World)(acc:Int)(cs:List Value)(e:Ending)(w':World):Prop:=
 ∃v' n',e= .returned (.agg #[.int .i64 acc,v'])/\w'.ownsRow w.heap.size 2 1 v' n' cs/\n'*1=cs.length/\ε η w w'
theorem DI (acc:Int)(v:Value)(cs:List Value)(w:World)(hr:Reads w 1 v cs)(h1: ∀x∈cs,x.oneCell'=true)(hlen:cs.length<=17592186044416):
 Calls prog 101 #[.agg #[.int .i64 acc,v]] w (D9 w acc cs):=by
 obtain⟨a,n,cap,rfl,hn,hc,hl,hp,hcell⟩:=hr.slice;clear hcell hp hl;have H:=γ hr;clear hr;go_enter func101,ntmps101;go_wp2_with fail;obtain⟨W0,hW0⟩:=acu ((w.alloc (Obj.cells #[Value.int IntKind.i64 acc,Value.slice a n cap] 109)).alloc (Obj.cells #[Value.int IntKind.i64 0,Value.slice none 0 0] 109));have c0:W0.cell? ⟨w.heap.size,0,none⟩=some (.int .i64 acc):=(by rw[<-hW0];simp);have c1:W0.cell? ⟨w.heap.size,1,none⟩=some (.slice a n cap):=(by rw[<-hW0];simp);have c2:W0.cell? ⟨w.heap.size+1,0,none⟩=some (.int .i64 0):=(by rw[<-hW0];simp);have c3:W0.cell? ⟨w.heap.size+1,1,none⟩=some (.slice none 0 0):=(by rw[<-hW0];simp);have f2:W0.frozen? ⟨w.heap.size+1,0,none⟩=false:=(by rw[<-hW0];simp);have f3:W0.frozen? ⟨w.heap.size+1,1,none⟩=false:=(by rw[<-hW0];simp);have hs:W0.heap.size=w.heap.size+2:=(by rw[<-hW0];simp);have hk0:ε η w W0:=(by rw[<-hW0];exact(δ.alloc _).alloc _);rw[hW0];clear hW0;refine acv [0,1,2,3,4,5,6] ?_;simp only[aco];iterate 4 (apply aj rfl rfl;(intro W hW;have hc:=hW.cq;go_simp;rfl);go_frame)
 apply ay rfl rfl;intro K hK;go_wp2_with fail;refine(aai _ cs _ (H.o.pure (hk0.drew)) h1 hlen).mono ?_;rintro e w1 ⟨v',n',rfl,g1,g2,g3⟩;obtain⟨a',cap',rfl⟩:=au g1;have k1:ε η W0 w1:=g3.aW;go_wp2;refine hK _ _ (fun _=>k1) ?_;apply aj rfl rfl
 ·intro W hW;have hc:=hW.cq;go_simp;rfl
 go_frame;apply ay rfl rfl;intro K2 hK2;have hc:=k1.cq;have hf:=k1.fq;go_wp2;refine hK2 _ _ (fun h=>absurd rfl h) (jG (by kernel_rfl) ?_);go_wp2_with fail;have hs1:W0.heap.size<=w1.heap.size:=k1.size;have q0:=k1.cell (p:=⟨w.heap.size+1,0,none⟩) id c2;have q1:=k1.cell (p:=⟨w.heap.size+1,1,none⟩) id c3;refine bodyPost_ret (v:= .agg #[.int .i64 acc,.slice a' n' cap']) (by simp[results,results101,go_sem,q0,q1]) rfl ⟨_,n',rfl,?_,g2,?_⟩
 ·refine jV (base:=W0.heap.size) ?_ (by omega)
  exact(((ε.refl (fun k=>k<W0.heap.size) w1).setCell (p:=⟨w.heap.size+1,0,none⟩) (.inl (by simp;omega)) _).setCell (p:=⟨w.heap.size+1,1,none⟩) (.inl (by simp;omega)) _).owns g1
   (fun k hk h=>by have:=(g1.lt k hk).1;simp at this;omega)
 ·exact((hk0.trans k1).setCell (p:=⟨w.heap.size+1,0,none⟩) (.inr (by simp)) _).setCell (p:=⟨w.heap.size+1,1,none⟩) (.inr (by simp)) _
def ints (l:List Int):List Value:=l.map (Value.int .i64)
theorem nM (l:List Int): ∀x∈ints l,x.oneCell'=true:=by intro x hx;obtain⟨n,_,rfl⟩:=aaw.1 hx;rfl
@[simp] theorem vT (l:List Int):(ints l).length=l.length:=by simp[ints]
abbrev up (B:Nat):Nat->Prop:=fun k=>B<=k
def CellIs (w:World)(B:Nat->Prop)(v:Value)(c:Cell):Prop:=
 ∃lv,v= .agg #[.int .i64 c.1,lv]/\Reads w 1 lv (ints c.2)/\ ∀b,Value.blk lv=some b->B b
structure TabAt (w:World)(B:Nat->Prop)(b m:Nat)(T:Tab):Prop where
 hb:B b
 hm:B m
 obj:w.heap[b]?=some (.cells #[.map (some m)] 115 (0,0))
 map: ∃l,dW w m l/\(l.map (·.1)).Perm (dD T)/\ ∀p∈l,∃c,(p.1,c)∈T/\CellIs w B p.2 c
 ok:fC T
theorem Reads.isCells {w:World}{v:Value}{cs:List Value}{k b:Nat}(h:Reads w k v cs)(hk:0<k)(hb:Value.blk v=some b): ∃c E f,w.heap[b]?=some (.cells c E f):=by
 obtain⟨a,n,cap,rfl,h1,h2,h3,h4⟩:=h;have hn:n≠0:=(by intro h;subst h;cases a<;>simp[Value.blk]at hb);have hlen:0<cs.length:=by rw[h3];exact Nat.mul_pos (by omega) hk
 rcases h4 with rfl|⟨b',off,rfl,h4⟩
 ·simp at hlen
 ·simp[Value.blk,hn]at hb
  subst hb;have:=h4 0 (cs[0]) (by simp);unfold World.cell? at this;split at this
  ·rename_i c E f he;exact⟨c,E,f,he⟩
  ·cases this
def lI (w:World)(S:Nat->Prop)(B:Nat->Prop):Prop:= ∀k,S k->B k->k<w.heap.size-> ∀c E f,w.heap[k]?≠some (.cells c E f)
theorem lI.none (w:World)(B:Nat->Prop):lI w η B:=fun _ h=>h.elim
theorem lI.map {w:World}{m:Nat}{l:List (Int×Value)}(h:dW w m l)(B:Nat->Prop):lI w (one m) B:=by intro k hk _ _ c E f e;cases hk;obtain⟨L,clock,h,_⟩:=h;rw[h.heap]at e;cases e
theorem CellIs.kept {w w':World}{B:Nat->Prop}{v:Value}{c:Cell}{S:Nat->Prop}(h:CellIs w B v c)(hk:ε S w w')(hS:lI w S B):CellIs w' B v c:=by obtain⟨lv,h1,h2,h3⟩:=h;refine⟨lv,h1,h2.kept hk (fun b hb hs=>?_),h3⟩;obtain⟨c,E,f,he⟩:=h2.isCells (by decide) hb;exact hS b hs (h3 b hb) (κ.1 he).1 c E f he
theorem CellIs.mono {w:World}{B B':Nat->Prop}{v:Value}{c:Cell}(h:CellIs w B v c)(hB: ∀k,B k->k<w.heap.size->B' k):CellIs w B' v c:=by obtain⟨lv,h1,h2,h3⟩:=h;refine⟨lv,h1,h2,fun b hb=>hB b (h3 b hb) ?_⟩;obtain⟨c,E,f,he⟩:=h2.isCells (by decide) hb;exact(κ.1 he).1
theorem TabAt.kept {w w':World}{B:Nat->Prop}{b m:Nat}{T:Tab}{S:Nat->Prop}(h:TabAt w B b m T)(hk:ε S w w')(hS:lI w S B)(hm: ¬S m):TabAt w' B b m T:=by obtain⟨h1,h2,h3,⟨l,h4,h5,h6⟩,h7⟩:=h;refine⟨h1,h2,hk.heap h3 (fun hs=>hS b hs h1 (κ.1 h3).1 _ _ _ h3),⟨l,h4.kept hk hm,h5,fun p hp=>?_⟩,h7⟩;obtain⟨c,hc,hcc⟩:=h6 p hp;exact⟨c,hc,hcc.kept hk hS⟩
theorem TabAt.pure {w w':World}{B:Nat->Prop}{b m:Nat}{T:Tab}(h:TabAt w B b m T)(hk:ε η w w'):TabAt w' B b m T:=h.kept hk (.none _ _) id
theorem TabAt.mono {w:World}{B B':Nat->Prop}{b m:Nat}{T:Tab}(h:TabAt w B b m T)(hB: ∀k,B k->k<w.heap.size->B' k):TabAt w B' b m T:=by obtain⟨h1,h2,h3,⟨l,h4,h5,h6⟩,h7⟩:=h;have hm:m<w.heap.size:=h4.lt;refine⟨hB b h1 (κ.1 h3).1,hB m h2 hm,h3,⟨l,h4,h5,fun p hp=>?_⟩,h7⟩;obtain⟨c,hc,hcc⟩:=h6 p hp;exact⟨c,hc,hcc.mono hB⟩
theorem TabAt.cell {w:World}{B:Nat->Prop}{b m:Nat}{T:Tab}(h:TabAt w B b m T):w.cell? ⟨b,0,none⟩=some (.map (some m)):=by rw[cell_of_row w b 0 _ _ _ h.obj];rfl
theorem Vd {T:Tab}{l:List Int}(h:l.Perm (dD T))(g:Int):l.countP (fun k=>grp k==g)=aX T g:=by rw[h.countP_eq];unfold dD aX;rw[countP_map];rfl
def Gives (w:World)(v:Value)(e:Ending)(w':World):Prop:=e= .returned v/\ε η w w'
theorem Ai (B:Nat->Prop)(b m:Nat)(T:Tab)(g:Int)(w:World)(h:TabAt w B b m T):
 Calls prog 51 #[.pointer (some ⟨b,0,none⟩),.int .i64 g] w (Gives w (.int .i64 (aX T g))):=by
 have hcell:=h.cell;obtain⟨l,hl,hperm,hcs⟩:=h.map;obtain⟨w0,hrun,hit,hk0,hs0⟩:=hl.range (P:=prog) underlying113;have gu:=h.ok.many g;have IT:=γ hit;have HS:=γ hs0;have HP:=γ (Vd hperm g);clear hit hs0 hperm hcs hl h;go_enter func51,ntmps51;go_wp2;go_loopg [5] l.length (fun k i wr=> ∃left c,rP wr w.heap.size m l left/\left.length=k/\i= .int .i64 ((c:Nat):Int)/\c+(left.map (·.1)).countP (fun k=>grp k==g)=aX T g/\ε η w wr)
 case atStart=>exact⟨l,0,IT.o,rfl,rfl,by rw[<-HP.o];simp,hk0⟩
 case round=>
  obtain⟨left,c,hit,hlen,rfl,hsum,hk⟩:=hrel;have hc:c<=40:=(by omega);have A:=γ (θ hlen hsum);clear hlen hsum gu
  rcases hit.next (P:=prog) 0 with⟨rfl,hrun⟩|⟨p,left',w2,hp,hrun,hit2,hk2,hs2,hen⟩
  ·clear hit
   go_wp2;go_ret;exact⟨gV (by have:=A.o.2;simp at this;omega),hk⟩
  ·clear hit
   have I2:=γ hit2;have HP:=γ hp;clear hit2 hs2 hp;have hk3:ε η w w2:=hk.new hk2 (fun k hk e=>by unfold one at e;omega);clear hk2;go_wp2_with (go_at_call 52;refine(wE _ _).mono ?_;rintro e w' ⟨rfl,rfl⟩)
   ·rename_i hg
    go_roundg left'.length
    case rel=>refine⟨left',c+1,I2.o,rfl,by go_num,?_,hk3⟩;have h1:=(HP.o.map (·.1)).countP_eq (fun k=>grp k==g);rw[Θ,countP_cons,if_pos hg]at h1;have h2:=A.o.2;omega
    case measure=>have h1:=HP.o.length_eq;have h2:=A.o.1;simp at h1;omega
   ·rename_i hg
    go_roundg left'.length
    case rel=>refine⟨left',c,I2.o,rfl,rfl,?_,hk3⟩;have h1:=(HP.o.map (·.1)).countP_eq (fun k=>grp k==g);rw[Θ,countP_cons,if_neg (by rw[hg];simp)]at h1;have h2:=A.o.2;omega
    case measure=>have h1:=HP.o.length_eq;have h2:=A.o.1;simp at h1;omega
theorem new_any (w:World):Calls prog 49 #[] w fun e w'=> ∃b m,e= .returned (.pointer (some ⟨b,0,none⟩))/\TabAt w' (up w.heap.size) b m []/\ε η w w':=by
 have hmm:= @run_makeMap prog;go_enter func49,ntmps49;go_wp2;go_ret;refine⟨w.heap.size+1,w.heap.size,rfl,⟨Nat.le_succ _,ξ _,?_,⟨[],?_,by simp[dD],by simp⟩,⟨by simp[dO],by simp,by simp,fun g=>by simp[aX]⟩⟩,?_⟩
 ·have:=heap_alloc_new (w.alloc (.map #[] 0)) (.cells #[.map (some w.heap.size)] 115)
  rwa[World.size_alloc]at this
 ·exact(dW.made w).kept ((ε.refl η _).alloc _) id
 ·exact((ε.refl η _).alloc _).alloc _
end
section
structure Rec where
 pos:Int
 key:Int
 val:Int
deriving DecidableEq
instance:Inhabited Rec:=⟨⟨0,0,0⟩⟩
def Same (L M:List Rec):Prop:= ∀p:Int,L.filter (fun r=>r.pos==p)=M.filter (fun r=>r.pos==p)
def Sorted (L:List Rec):Prop:=L.Pairwise fun a b=>a.pos<=b.pos
theorem Same.refl (L:List Rec):Same L L:=fun _=>rfl
theorem Same.symm {L M:List Rec}(h:Same L M):Same M L:=fun p=>(h p).symm
theorem Same.trans {L M N:List Rec}(h:Same L M)(k:Same M N):Same L N:=fun p=>(h p).trans (k p)
theorem Same.append {L L' M M':List Rec}(h:Same L L')(k:Same M M'):Same (L++M) (L'++M'):=fun p=>by rw[filter_append,filter_append,h p,k p]
theorem Same.mem {L M:List Rec}(h:Same L M){r:Rec}:r∈L↔r∈M:=by have e: ∀K:List Rec,r∈K↔r∈K.filter (fun x=>x.pos==r.pos):=fun K=>(by simp);rw[e L,e M,h r.pos]
theorem Same.nil {L:List Rec}(h:Same [] L):L=[]:=by
 cases L with
 |nil=>rfl
 |cons x L=>exact absurd (h.mem.2 (mem_cons_self (a:=x) (l:=L))) (by simp)
theorem Same.comm {A B:List Rec}(h: ∀a∈A,∀b∈B,a.pos≠b.pos):Same (A++B) (B++A):=by
 intro p;rw[filter_append,filter_append]
 cases hA:A.filter (fun r=>r.pos==p)with
 |nil=>simp
 |cons x l=>have hx:x∈A.filter (fun r=>r.pos==p):=(by rw[hA];simp);have hx1:=(mem_filter.1 hx).1;have hx2:x.pos=p:=(by simpa using(mem_filter.1 hx).2);have hB:B.filter (fun r=>r.pos==p)=[]:=(by rw[filter_eq_nil_iff];intro b hb e;exact h x hx1 b hb (by rw[hx2];exact(by simpa using e:b.pos=p).symm));rw[hB];simp
theorem Same.cons_inv {x:Rec}{L M:List Rec}(h:Same (x::L) (x::M)):Same L M:=by
 intro p;have:=h p;rw[filter_cons,filter_cons]at this;split at this
 ·exact List.cons.inj this|>.2
 ·exact this
theorem Sorted.unique: ∀{L M:List Rec},Sorted L->Sorted M->Same L M->L=M
 |[],M,_,_,h=>h.nil.symm
 |x::L,[],_,_,h=>by cases h.symm.nil
 |x::L,y::M,hL,hM,h=>by
  obtain⟨hx,hL'⟩:=pairwise_cons.1 hL;obtain⟨hy,hM'⟩:=pairwise_cons.1 hM;have h1:y.pos<=x.pos:=by
   rcases aci.1 (h.mem.1 (mem_cons_self (a:=x) (l:=L)))with e|e
   ·rw[e];exact Int.le_refl _
   ·exact hy x e
  have h2:x.pos<=y.pos:=by
   rcases aci.1 (h.mem.2 (mem_cons_self (a:=y) (l:=M)))with e|e
   ·rw[e];exact Int.le_refl _
   ·exact hx y e
  have he:x.pos=y.pos:=(by omega);have:=h x.pos;rw[filter_cons,filter_cons,if_pos (by simp),if_pos (by simp[he])]at this;obtain⟨rfl,_⟩:=List.cons.inj this;rw[Sorted.unique hL' hM' h.cons_inv]
theorem Same.length {L M:List Rec}(h:Same L M):L.length=M.length:=by have hp: ∀(L M:List Rec),Same L M->L.Perm M:=(by intro L M h;rw[perm_iff_count];intro r;have e: ∀K:List Rec,K.count r=(K.filter (fun x=>x.pos==r.pos)).count r:=fun K=>(count_filter (by simp)).symm;rw[e L,e M,h r.pos]);exact(hp L M h).length_eq
theorem Sorted.append {A B:List Rec}(hA:Sorted A)(hB:Sorted B)(h: ∀a∈A,∀b∈B,a.pos<=b.pos):Sorted (A++B):=pairwise_append.2 ⟨hA,hB,h⟩
theorem Sorted.left {A B:List Rec}(h:Sorted (A++B)):Sorted A:=(pairwise_append.1 h).1
theorem Sorted.right {A B:List Rec}(h:Sorted (A++B)):Sorted B:=(pairwise_append.1 h).2.1
theorem Sorted.le {A B:List Rec}(h:Sorted (A++B)): ∀a∈A,∀b∈B,a.pos<=b.pos:=(pairwise_append.1 h).2.2
def aO (L:List Rec):List Rec:=L.mergeSort fun x y=>decide (x.pos<=y.pos)
theorem rH (L:List Rec):Sorted (aO L):=by have:=pairwise_mergeSort (le:=fun x y:Rec=>decide (x.pos<=y.pos)) (fun a b c h k=>by simp at*;omega) (fun a b=>by simp;omega) L;exact this.imp (fun h=>by simpa using h)
theorem vJ (L:List Rec):Same L (aO L):=by intro p;have hs:(L.filter (fun r=>r.pos==p)).Sublist (aO L):=(by refine sublist_mergeSort (fun a b c h k=>by simp at*;omega) (fun a b=>by simp;omega) ?_ filter_sublist;refine pairwise_of_forall_mem_list (fun a ha b hb=>?_);have h1:a.pos=p:=(by simpa using(mem_filter.1 ha).2);have h2:b.pos=p:=(by simpa using(mem_filter.1 hb).2);simp;omega);have h2:=hs.filter (fun r=>r.pos==p);rw[filter_filter]at h2;simp only[Bool.and_self]at h2;refine h2.eq_of_length ?_;exact((mergeSort_perm L _).filter _).length_eq.symm
theorem Bc {L M:List Rec}(h:Sorted M)(k:Same L M):M=aO L:=(Sorted.unique (rH L) h ((vJ L).symm.trans k)).symm
theorem jq (L:List Rec):(aO L).length=L.length:=(vJ L).length.symm
theorem tZ {L:List Rec}{r:Rec}:r∈aO L↔r∈L:=(vJ L).mem.symm
end
section
open Go Go.RowKit
theorem aJ.small {n:Int}(h1: -1000<=n)(h2:n<=1000):aJ n:=⟨by omega,by omega⟩
inductive Ex where
 |mk (op n:Int) (args:List Ex)
instance:Inhabited Ex:=⟨.mk 0 0 []⟩
def Ex.op:Ex->Int| .mk o _ _=>o
def Ex.n:Ex->Int| .mk _ n _=>n
def Ex.args:Ex->List Ex| .mk _ _ l=>l
def arity (op:Int):Int:=if op=0\/18<op then-1 else if op<=4 then 0 else if op<=6 then 1 else if op=18 then 3 else 2
def bg:Nat->Ex->Bool
 |0,_=>false
 |f+1,.mk op n args=>decide (arity op=args.length)&&decide (0<=n)&&decide (n=0\/op=1)&&args.all (bg f)
abbrev yH:=(Int×Int×Int×Int)×Int
def qg:List yH:=
 [((1,0,0,0),1),((2,0,0,0),1),((3,0,0,0),1),((4,0,0,0),1),((5,1,0,0),1),
  ((7,1,1,0),1),((8,1,1,0),1),((9,1,1,0),1),((10,1,1,0),1),((11,1,1,0),1),((6,2,0,0),2),
  ((16,2,2,0),2),((17,2,2,0),2),((14,2,2,0),2),((15,2,2,0),2),
  ((12,1,1,0),2),((13,1,1,0),2),((14,1,1,0),2),((15,1,1,0),2),((18,2,1,1),1),((18,2,2,2),2)]
def jh (k:Int×Int×Int×Int):Int:=((qg.find? fun r=>r.1==k).map (·.2)).getD 0
def aC:Nat->Ex->Int
 |0,_=>0
 |f+1,.mk op _ args=>if(args.map (aC f)).contains 0 then 0 else jh (op,(args.map (aC f)).getD 0 0,(args.map (aC f)).getD 1 0,(args.map (aC f)).getD 2 0)
inductive EV where
 |num (n:Int)
 |jE (b:Bool)
def EV.ty:EV->Int| .num _=>1| .jE _=>2
def EV.n:EV->Int| .num n=>n| .jE _=>0
def EV.b:EV->Bool| .num _=>false| .jE b=>b
def fH (op:Int):EV->EV->EV
 | .num a,y=>if op=7 then .num (wrap64 (a+y.n))else if op=8 then .num (wrap64 (a-y.n))else if op=9 then .num (wrap64 (a*y.n))
   else if op=12 then .jE (decide (a<y.n))else if op=13 then .jE (decide (a<=y.n))else if op=14 then .jE (a==y.n)else if op=15 then .jE (a !=y.n)
   else if y.n=0 then .num 0 else if op=10 then .num (wrap64 (a.tdiv y.n))else .num (a.tmod y.n)
 | .jE a,y=>if op=16 then .jE (a&&y.b)else if op=17 then .jE (a||y.b)else if op=14 then .jE (a==y.b)else .jE (a !=y.b)
structure Env where
 key:Int
 val:Int
 acc:Int
def aK:Nat->Env->Ex->EV
 |0,_,_=> .num 0
 |f+1,env,.mk op n args=>
  if op=1 then .num n else if op=2 then .num env.key else if op=3 then .num env.val else if op=4 then .num env.acc
  else if op=5 then .num (wrap64 (-(aK f env (args.getD 0 default)).n))
  else if op=6 then .jE (!(aK f env (args.getD 0 default)).b)
  else if op=18 then(if(aK f env (args.getD 0 default)).b then aK f env (args.getD 1 default)else aK f env (args.getD 2 default))
  else fH op (aK f env (args.getD 0 default)) (aK f env (args.getD 1 default))
def Df (x:Ex):Bool:=bg 16 x&&aC 16 x !=0
def dF (x:Ex)(env:Env):Int:=if Df x then(aK 16 env x).n else 0
def nZ (x:Ex)(env:Env):Bool:=Df x&&(aK 16 env x).b
theorem Vs {k:Int×Int×Int×Int}(h:jh k≠0):(k,jh k)∈qg:=by
 unfold jh at*
 cases hf:qg.find? (fun r=>r.1==k)with
 |none=>rw[hf]at h;exact absurd rfl h
 |some r=>have h1:=find?_some hf;have h2:=mem_of_find?_eq_some hf;simp only[beq_iff_eq]at h1;simp only[Option.map_some,Δ];rw[<-h1];exact h2
theorem qh {op a b c:Int}(h:jh (op,a,b,c)≠0):
 (jh (op,a,b,c)=1/\((op=1\/op=2\/op=3\/op=4)\/(op=5/\a=1)\/((op=7\/op=8\/op=9\/op=10\/op=11)/\a=1/\b=1)\/(op=18/\a=2/\b=1/\c=1)))\/
 (jh (op,a,b,c)=2/\((op=6/\a=2)\/((op=16\/op=17\/op=14\/op=15)/\a=2/\b=2)\/((op=12\/op=13\/op=14\/op=15)/\a=1/\b=1)\/(op=18/\a=2/\b=2/\c=2))):=by
 have h1:=Vs h;clear h;generalize jh (op,a,b,c)=t at*;simp only[qg,aci,not_mem_nil,or_false,Prod.mk.injEq]at h1
 rcases h1 with h1|h1|h1|h1|h1|h1|h1|h1|h1|h1|h1|h1|h1|h1|h1|h1|h1|h1|h1|h1|h1<;>
  (obtain⟨⟨rfl,rfl,rfl,rfl⟩,rfl⟩:=h1;decide)
theorem nH (n:Int):aJ (wrap64 n):=by unfold aJ wrap64;omega
theorem uq {f:Nat}{op n:Int}{args:List Ex}(h:bg (f+1) (.mk op n args)=true):arity op=args.length/\0<=n/\(n=0\/op=1)/\ ∀a∈args,bg f a=true:=by simp only[bg,Φ,decide_eq_true_eq,all_eq_true]at h;exact⟨h.1.1.1,h.1.1.2,h.1.2,h.2⟩
theorem Kt {f:Nat}{op n:Int}{args:List Ex}(h:aC (f+1) (.mk op n args)≠0):
 (∀a∈args,aC f a≠0)/\aC (f+1) (.mk op n args)=jh (op,(args.map (aC f)).getD 0 0,(args.map (aC f)).getD 1 0,(args.map (aC f)).getD 2 0):=by
 rw[aC]at h⊢;by_cases hc:(args.map (aC f)).contains 0=true
 ·rw[if_pos hc]at h;exact absurd rfl h
 ·rw[if_neg hc]
  refine⟨fun a ha e=>hc ?_,rfl⟩;simp only[contains_eq_mem,aaw,decide_eq_true_eq];exact⟨a,ha,e⟩
theorem F7 {k:Int}{c:Cell}{g:Int}: ∀{T:Tab},dO T->aX (iq k c T) g=aX T g+(if bZ T k=none/\grp k=g then 1 else 0)
 |[],_=>by simp[aX,iq,bZ,countP_cons]
 |q::r,h=>by
  obtain⟨h1,h2⟩:=pairwise_cons.1 h;unfold iq;split
  ·rename_i hl
   have hne:k≠q.1:=fun e=>(by rw[e,bM]at hl;cases hl);have ih:=F7 (k:=k) (c:=c) (g:=g) h2;have hg:bZ (q::r) k=bZ r k:=(by have hf:(k==q.1)=false:=(by simp[hne]);unfold bZ;rw[find?_cons,hf]);rw[hg];unfold aX at*;rw[countP_cons,countP_cons,ih];omega
  ·rename_i hl
   split
   ·rename_i he
    have hg:bZ (q::r) k≠none:=(by unfold bZ;rw[find?_cons];simp[he]);rw[if_neg (fun h=>hg h.1)];unfold aX;rw[countP_cons,countP_cons];simp only[he];omega
   ·rename_i he
    have hkq:bH k q.1=true:=(jO he).resolve_left hl;have hg:bZ (q::r) k=none:=by
     rw[Jo];unfold dD;intro hm;obtain⟨p,hp,e⟩:=aaw.1 hm
     rcases aci.1 hp with rfl|hp
     ·exact he e
     ·have:=iY hkq (h1 p hp);rw[e,bM]at this;cases this
    rw[hg];unfold aX;rw[countP_cons];simp
theorem fC.iq {T:Tab}(h:fC T){k:Int}{c:Cell}(hk:aJ k)(hc:KO c)(hm:bZ T k≠none\/aX T (grp k)<40):fC (iq k c T):=by
 refine⟨h.rises.iq,fun p hp=>?_,fun p hp=>?_,fun g=>?_⟩
 ·rcases(kL h.rises).1 hp with rfl|hp
  ·exact hk
  ·exact h.key p hp.1
 ·rcases(kL h.rises).1 hp with rfl|hp
  ·exact hc
  ·exact h.cell p hp.1
 ·rw[F7 h.rises]
  split
  ·rename_i hh
   obtain⟨h1,rfl⟩:=hh;have:=hm.resolve_left (fun h=>h h1);omega
  ·have:=h.many g;omega
def eP (T:Tab)(k:Int)(n:Nat):Int:=if 16<n then 2 else if bZ T k=none/\40<=aX T (grp k)then 7 else 0
def dL (T:Tab)(k:Int)(c:Cell):Tab:=if eP T k c.2.length=0 then iq k c T else T
theorem fC.eu {T:Tab}(h:fC T)(k:Int):fC (eu k T):=
 ⟨h.rises.eu,fun p hp=>h.key p (sF.1 hp).1,fun p hp=>h.cell p (sF.1 hp).1,fun g=>ω (Sublist.countP_le filter_sublist) (h.many g)⟩
theorem Ya (T:Tab):T.length=aX T 0+aX T 1+aX T 2+aX T 3+aX T 4+aX T 5+aX T 6+aX T 7:=by
 unfold aX
 induction T with
 |nil=>rfl
 |cons p r ih=>
  have h1:=ZK p.1;have h2:=ZL p.1;simp only[φ,countP_cons,ih];have h3:grp p.1=0\/grp p.1=1\/grp p.1=2\/grp p.1=3\/grp p.1=4\/grp p.1=5\/grp p.1=6\/grp p.1=7:=by omega
  rcases h3 with h|h|h|h|h|h|h|h<;>simp[h]<;>omega
theorem fC.len {T:Tab}(h:fC T):T.length<=320:=by have:=Ya T;have:=h.many 0;have:=h.many 1;have:=h.many 2;have:=h.many 3;have:=h.many 4;have:=h.many 5;have:=h.many 6;have:=h.many 7;omega
structure dG where
 kind:Int
 x:Ex
 n:Int
def aH (r:Rec):Env:=⟨r.key,r.val,0⟩
def jk (r:Rec)(k:Nat):List Rec:=(range k).map fun(i:Nat)=>(⟨wrap64 (wrap64 (8*r.pos)+(i:Int)),r.key,wrap64 (r.val+(i:Int))⟩:Rec)
def jP (x:Int):Nat:=(min x 4).toNat
def sumW (l:List Int):Int:=l.foldl (fun a x=>wrap64 (a+x)) 0
def cellOf (T:Tab)(k:Int):Cell:=(bZ T k).getD (0,[])
def aG (nd:dG)(T:Tab)(r:Rec):List Rec×Tab:=
 if nd.kind=2 then([{r with val:=dF nd.x (aH r)}],T)
 else if nd.kind=5 then([{r with key:=dF nd.x (aH r)}],T)
 else if nd.kind=3 then(if nZ nd.x (aH r)then[r]else[],T)
 else if nd.kind=4 then(jk r (jP (dF nd.x (aH r))),T)
 else if nd.kind=6 then
  (if eP T r.key 0=0 then[{r with val:=dF nd.x {aH r with acc:=(cellOf T r.key).1}}]else[],
   dL T r.key (dF nd.x {aH r with acc:=(cellOf T r.key).1},[]))
 else if nd.kind=7 then
  (if eP T r.key ((cellOf T r.key).2.length+1)≠0\/(((cellOf T r.key).2.length+1:Nat):Int)<nd.n then([],dL T r.key ((cellOf T r.key).1,(cellOf T r.key).2++[r.val]))
   else([{r with val:=sumW ((cellOf T r.key).2++[r.val])}],eu r.key (dL T r.key ((cellOf T r.key).1,(cellOf T r.key).2++[r.val]))))
 else([r],T)
def aI (nd:dG):Tab->List Rec->List Rec×Tab
 |T,[]=>([],T)
 |T,r::l=>((aG nd T r).1++(aI nd (aG nd T r).2 l).1,(aI nd (aG nd T r).2 l).2)
theorem vW (nd:dG)(r:Rec): ∀(l:List Rec)(T:Tab),aI nd T (l++[r])=((aI nd T l).1++(aG nd (aI nd T l).2 r).1,(aG nd (aI nd T l).2 r).2)
 |[],T=>by simp[aI]
 |x::l,T=>by simp only[cons_append,aI,vW nd r l];simp
structure iK (env:Env):Prop where
 key:aJ env.key
 val:aJ env.val
 acc:aJ env.acc
theorem fF:aJ 0:=⟨by omega,by omega⟩
structure bF (r:Rec):Prop where
 pos:aJ r.pos
 key:aJ r.key
 val:aJ r.val
theorem uY {r:Rec}(h:bF r):iK (aH r):=⟨h.key,h.val,fF⟩
def jc (b:Nat)(r:Rec):Rec:={r with pos:=wrap64 (wrap64 (8*r.pos)+(b:Int))}
def jd:Nat->List (List Rec)->List (List Rec)
 |_,[]=>[]
 |b,L::LL=>L.map (jc b)::jd (b+1) LL
def jC (kind:Int)(LL:List (List Rec)):List Rec:=aO (if kind=8 then jd 0 LL else LL).flatten
theorem xH: ∀(b:Nat)(LL:List (List Rec)),(jd b LL).length=LL.length
 |_,[]=>rfl
 |b,L::LL=>by simp[jd,xH (b+1) LL]
theorem BF: ∀(b:Nat)(LL:List (List Rec))(i:Nat),(jd b LL)[i]?=LL[i]?.map (fun L=>L.map (jc (b+i)))
 |_,[],i=>by simp[jd]
 |b,L::LL,0=>by simp[jd]
 |b,L::LL,i+1=>by
  simp only[jd,aat,BF (b+1) LL i]
  congr 2;funext L;congr 2;omega
theorem wY: ∀(b:Nat)(LL:List (List Rec)),(jd b LL).flatten.length=LL.flatten.length
 |_,[]=>rfl
 |b,L::LL=>by simp[jd,wY (b+1) LL]
end
