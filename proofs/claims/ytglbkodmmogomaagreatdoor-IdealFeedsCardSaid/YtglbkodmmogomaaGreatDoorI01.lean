/- A region that draws its order, walked once: whatever may be taken at once is taken first (it must yield one value in every world of a class C); an operation that turns the world is taken when nothing else can be. -/
import Derived.WalkSpells
import Derived.WalkLawsBesides
import Derived.Maps.RangeWalk
import Derived.Lib.Hide
set_option linter.unusedVariables false
set_option linter.unusedSimpArgs false
namespace Go.Proofs.YtglbkodmmogomaaGreatDoor
theorem θ{a b:Prop}(x:a)(y:b):a/\b:=⟨x,y⟩
abbrev ι:=@List.getElem?_eq_getElem
abbrev κ:=@Array.getElem?_eq_some_iff
abbrev μ:=@List.getElem?_eq_some_iff
abbrev ν:=@List.length_append
abbrev ξ:=@Nat.le_refl
abbrev ς:=@List.mem_of_getElem?
abbrev σ:=@List.getD_eq_getElem?_getD
abbrev τ:=@List.eq_nil_of_length_eq_zero
abbrev υ:=@List.length_take
abbrev φ:=@List.length_cons
abbrev χ:=@List.take_of_length_le
abbrev ψ:=@List.take_add_one
abbrev ω:=@Nat.le_trans
abbrev Γ:=@List.length_nil
abbrev Δ:=@Option.getD_some
abbrev Θ:=@List.map_cons
abbrev Ξ:=@List.map_nil
abbrev Φ:=@Bool.and_eq_true
abbrev Ψ:=@List.getElem?_append_right
abbrev Ω:=@List.getElem?_append_left
abbrev Pe:=@Nat.lt_of_lt_of_le
abbrev abA:=@List.getElem?_eq_none
abbrev abE:=@List.getElem?_cons_zero
abbrev abG:=@List.getElem?_cons_succ
abbrev abH:=@List.getElem?_toArray
abbrev abJ:=@List.getElem?_map
abbrev abK:=@List.mem_map
abbrev abL:=@List.mem_append
abbrev abM:=@List.map_append
abbrev abO:=@List.getElem?_take
abbrev abP:=@Option.map_eq_some_iff
abbrev abQ:=@List.mem_singleton
abbrev abR:=@List.mem_cons
abbrev abS:=@List.drop_eq_getElem_cons
theorem abU:(∀{α β:Type}{f:α->β}{a:α}{l:List α},List.map f (a::l)=f a::List.map f l)/\(∀{α β:Type}{f:α->β},List.map f []=[])/\(∀{α:Type}{l:List α}{i:Nat},l.toArray[i]?=l[i]?)/\(∀{α:Type}{a:α}{l:List α},(a::l)[0]?=some a)/\(∀{α:Type}{a:α}{i:Nat}{l:List α},(a::l)[i+1]?=l[i]?)/\∀{α:Type}{a b:α},(some a).getD b=a:=⟨List.map_cons,List.map_nil,List.getElem?_toArray,List.getElem?_cons_zero,List.getElem?_cons_succ,Option.getD_some⟩
theorem acd:(∀{α:Type}[BEq α][LawfulBEq α]{a b:α},((a==b)=true)↔a=b)/\(∀{α:Type}[BEq α][LawfulBEq α]{a b:α},((a==b)=false)↔a≠b)/\∀{α:Type}{a b:α},(a≠b)=¬a=b:=⟨beq_iff_eq,beq_eq_false_iff_ne,ne_eq _ _⟩
def ace(p:Prop):Prop:=p
theorem ace.o{p:Prop}(h:ace p):p:=h
theorem γ{p:Prop}(h:p):ace p:=h
theorem acf{α:Type}(a:α): ∃x,a=x:=⟨a,rfl⟩
section
open Go
section
variable {P:Program} {ops:Array Oper} {md:Region.Mode} {C:World->Prop} {bar:Bool}
def lu (Q:Act->World->Prop):Exit->Act->World->Prop
 | .normal,a,w=>Q a w
 |_,_,_=>False
theorem Oper.ZT {o:Oper}{a:Act}{w:World}{K:Act->World->Prop}{Q Q':Exit->Act->World->Prop}(h: ∀e a w,Q e a w->Q' e a w)
 (hh:o.wp P a w K Q):o.wp P a w K Q':=by
 unfold Oper.wp at*;generalize(execOp a.eval o).run P w=r at*
 cases r with
 |ok n w'=>
  cases n<;>simp only[Oper.upon]at hh⊢ <;>
   first
    |exact hh
    |exact Calls.mono hh (fun e w'' he=>by
      cases e
      ·exact he
      ·exact h _ _ _ he
      ·obtain⟨a,w,hx⟩:=he;exact⟨a,w,h _ _ _ hx⟩)
 |halt x w'=>cases x<;>simp only[Oper.upon]at hh⊢ <;>first|exact h _ _ _ hh|exact hh
theorem zC {i:Nat}{a:Act}{w:World}{K:Act->World->Prop}{Q Q':Exit->Act->World->Prop}(h: ∀e a w,Q e a w->Q' e a w)
 (hh:wpOp P ops Q i K a w):wpOp P ops Q' i K a w:=by
 unfold wpOp at*;split
 ·simpa[*]using hh
 ·rename_i o ho
  simp only[ho]at hh;split
  ·rename_i hw
   simp only[hw,if_true]at hh
   rcases hh with hh|⟨h1,a,w,h2⟩
   ·exact .inl (Oper.ZT h hh)
   ·exact .inr ⟨h1,a,w,h _ _ _ h2⟩
  ·rename_i hw;simp only[hw]at hh;exact hh
def yX (P:Program)(md:Region.Mode)(ops:Array Oper)(C:World->Prop)(bar:Bool)(Q:Act->World->Prop):Nat->Array Bool->Act->World->Prop
 |0,listed,a,w=>(bar=false->C w)/\(∀(k:Nat) o,ops[k]?=some o->listed.getD k true=true)/\Q a w
 |fuel+1,listed,a,w=>C w/\(Region.ready md ops listed=[]->Q a w)/\
  ∀i∈Region.ready md ops listed,wpOp P ops (lu Q) i (yX P md ops C bar Q fuel (listed.setIfInBounds i true)) a w
theorem ready_nil {listed:Array Bool}(h: ∀(k:Nat) o,ops[k]?=some o->listed.getD k true=true):Region.ready md ops listed=[]:=by
 cases hr:Region.ready md ops listed with
 |nil=>rfl
 |cons x xs=>have hx:x∈Region.ready md ops listed:=(by rw[hr];simp);obtain⟨h0,o,ho,_⟩:=mem_ready.1 hx;rw[h x o ho]at h0;cases h0
theorem zF {Q:Act->World->Prop}{Q':Exit->Act->World->Prop}(hQ: ∀a w,Q a w->Q' .normal a w): ∀(fuel:Nat)(listed:Array Bool)(a:Act)(w:World),
 yX P md ops C bar Q fuel listed a w->wpAny P md ops Q' fuel listed a w
 |0,_,_,_,h=>⟨ready_nil h.2.1,hQ _ _ h.2.2⟩
 |fuel+1,_,_,_,h=>⟨fun h0=>hQ _ _ (h.2.1 h0),fun i hi=>wpOp_mono (fun a w=>zF hQ fuel _ a w)
   (zC (fun e a w h=>by cases e<;>first|exact hQ _ _ h|exact h.elim) (h.2.2 i hi))⟩
def jO (P:Program)(ops:Array Oper)(C:World->Prop)(o:Oper)(v:Value)(a:Act):Prop:=
 (Region.wanted o (yielded ops a.tmps)=true/\ ∀w,C w->(execOp a.eval o).run P w= .ok (.value v) w)\/
 (Region.wanted o (yielded ops a.tmps)=false/\v=undef)
theorem jO.wpOp {Q:Exit->Act->World->Prop}{i:Nat}{o:Oper}{v:Value}{a:Act}(hi:ops[i]?=some o)(hy:jO P ops C o v a)
 {K:Act->World->Prop} {w:World} (hw:C w) (h:K (a.put o.dst v) w):wpOp P ops Q i K a w:=by
 unfold Go.wpOp;simp only[hi]
 rcases hy with⟨hw',hv⟩|⟨hw',rfl⟩
 ·simp only[hw',if_true,Oper.wp,hv w hw,Oper.upon];exact .inl h
 ·simp only[hw',Bool.false_eq_true,if_false];exact h
theorem jO.of_same {o:Oper}{v:Value}{a a':Act}(hy:jO P ops C o v a)(he:execOp a'.eval o=execOp a.eval o)
 (hw:Region.wanted o (yielded ops a'.tmps)=Region.wanted o (yielded ops a.tmps)):jO P ops C o v a':=by
 unfold jO at*;rw[he,hw];exact hy
theorem Ba {Q:Act->World->Prop}{j:Nat}{oi oj:Oper}{v:Value}(hj:ops[j]?=some oj)(hap:oi.apart ops oj=true)
 (hsi: ∀cs b,oi.op≠ .select cs b) (hsj: ∀cs b,oj.op≠ .select cs b) {K:Act->World->Prop} {a:Act} {w:World}
 (hy:jO P ops C oi v a) (h:wpOp P ops (lu Q) j K (a.put oi.dst v) w):
 wpOp P ops (lu Q) j (fun a' w'=>jO P ops C oi v a'/\K (a'.put oi.dst v) w') a w:=by
 obtain⟨h1,h2,h3⟩:=Oper.apart_spec hap
 have keep: ∀(a:Act),jO P ops C oi v a-> ∀u,jO P ops C oi v (a.put oj.dst u):=fun a hy u=>
  hy.of_same (execOp_put oi hsi a oj.dst u h3) (wanted_put oi a oj.dst u h3)
 have keepD: ∀d,jO P ops C oi v {a with defers:=d::a.defers}:=fun d=>hy.of_same rfl rfl;unfold Go.wpOp at*;simp only[hj]at*;rw[wanted_put oj a oi.dst v h1]at h;split
 ·rename_i hw
  simp only[hw,if_true]at h
  rcases h with h|⟨hasks,hlets⟩
  case inr=>exact .inr ⟨by unfold Oper.asks at*;rw[execOp_put oj hsj a oi.dst v h1]at hasks;exact hasks,hlets⟩
  refine .inl ?_;unfold Oper.wp at*;rw[execOp_put oj hsj a oi.dst v h1]at h;generalize(execOp a.eval oj).run P w=r at*
  cases r with
  |ok n w'=>
   cases n<;>simp only[Oper.upon]at h⊢
   case value u=>exact⟨keep a hy u,by rw[<-Act.put_comm a v u h2];exact h⟩
   case skip=>exact⟨keep a hy _,by rw[<-Act.put_comm a v undef h2];exact h⟩
   case defer d=>refine⟨keep _ (keepD d) _,?_⟩;rw[<-Act.put_comm _ v undef h2,<-Act.put_defers];exact h
   case enter f args=>
    refine Calls.mono h fun e w'' he=>?_
    cases e with
    |returned u=>exact⟨keep a hy u,by rw[<-Act.put_comm a v u h2];exact he⟩
    |panicked c=>exact he
    |outgrown=>exact he
   case row row args=>exact Rows.mono h fun u w'' he=>⟨keep a hy u,by rw[<-Act.put_comm a v u h2];exact he⟩
  |halt x w'=>
   cases x<;>simp only[Oper.upon]at h⊢
   case panic u=>exact h
 ·rename_i hw
  simp only[hw]at h;exact⟨keep a hy _,by rw[<-Act.put_comm a v undef h2];exact h⟩
def Barred (md:Region.Mode)(ops:Array Oper)(bar:Bool)(listed:Array Bool):Prop:=
 bar=true-> ∃z oz,ops[z]?=some oz/\listed.getD z true=false/\ ∀l:Array Bool,z∈Region.ready md ops l-> ∀(k:Nat) o,ops[k]?=some o->k≠z->l.getD k true=true
theorem wR {Q:Act->World->Prop}{i:Nat}{oi:Oper}{v:Value}(hi:ops[i]?=some oi)(hsel: ∀(j:Nat)(o:Oper) cs b,ops[j]?=some o->o.op≠ .select cs b):
 ∀(fuel:Nat)(listed:Array Bool)(a:Act)(w:World),
  (∀j oj,ops[j]?=some oj->j≠i->listed.getD j true=false->(∀e∈oj.after,Region.binds md e=true->e.on≠i)->oi.apart ops oj=true)->
  C w->Barred md ops bar listed->
  i∈Region.ready md ops listed->jO P ops C oi v a->
  yX P md ops C bar Q fuel (listed.setIfInBounds i true) (a.put oi.dst v) w->yX P md ops C bar Q (fuel+1) listed a w:=by
 intro fuel
 induction fuel with
 |zero=>
  intro listed a w _ hC _ hr hy H;refine⟨hC,fun h=>(by rw[h]at hr;cases hr),fun j hj=>?_⟩;by_cases hji:j=i
  ·subst hji;exact hy.wpOp hi hC H
  ·have:=ready_mono hj hji
   rw[ready_nil H.2.1]at this;cases this
 |succ fuel ih=>
  intro listed a w hfree hC hbar hr hy H;refine⟨hC,fun h=>(by rw[h]at hr;cases hr),fun j hj=>?_⟩;by_cases hji:j=i
  ·subst hji;exact hy.wpOp hi hC H
  ·have h1:=H.2.2 j (ready_mono hj hji)
   obtain⟨hjun,oj,hoj,hall⟩:=mem_ready.1 hj;have hnot: ∀e∈oj.after,Region.binds md e=true->e.on≠i:=fun e he hb heq=>by
    have h1:=hall e he hb;have h0:=(mem_ready.1 hr).1;rw[heq]at h1
    rcases Nat.lt_or_ge i listed.size with h'|h'
    ·simp[h']at h0 h1;rw[h0]at h1;cases h1
    ·simp[Array.getElem?_eq_none h']at h1
   have h2:=Ba hoj (hfree j oj hoj hji hjun hnot) (fun cs b=>hsel i oi cs b hi) (fun cs b=>hsel j oj cs b hoj) hy h1;have hfree': ∀k ok,ops[k]?=some ok->k≠i->(listed.setIfInBounds j true).getD k true=false->
    (∀e∈ok.after,Region.binds md e=true->e.on≠i)->oi.apart ops ok=true:=fun k ok hk hki hun hno=>by
    refine hfree k ok hk hki ?_ hno;by_cases hjk:j=k
    ·subst hjk;exact hjun
    ·rw[getD_set_ne true hjk]at hun;exact hun
   have afO:Barred md ops bar (listed.setIfInBounds j true):=fun hb=>by
    obtain⟨z,oz,hz,hun,hlast⟩:=hbar hb;refine⟨z,oz,hz,?_,hlast⟩;by_cases hjz:j=z
    ·subst hjz
     have:=hlast listed hj i oi hi (Ne.symm hji);rw[(mem_ready.1 hr).1]at this;cases this
    ·rw[getD_set_ne true hjz];exact hun
   refine wpOp_mono (fun a' w' h3=>ih (listed.setIfInBounds j true) a' w' hfree' ?_ afO (ready_mono hr (Ne.symm hji)) h3.1 ?_) h2
   ·cases fuel with
    |succ f=>exact h3.2.1
    |zero=>
     cases hb:bar with
     |false=>exact h3.2.1 hb
     |true=>
      obtain⟨z,oz,hz,hun,hlast⟩:=hbar hb;by_cases hzi:z=i
      ·subst hzi
       have:=hlast listed hr j oj hoj hji;rw[hjun]at this;cases this
      ·by_cases hzj:z=j
       ·subst hzj
        have:=hlast listed hj i oi hi (Ne.symm hji);rw[(mem_ready.1 hr).1]at this;cases this
       ·have:=h3.2.2.1 z oz hz
        rw[getD_set_ne true (Ne.symm hzj),getD_set_ne true (Ne.symm hzi),hun]at this;cases this
   ·rw[Array.setIfInBounds_comm _ _ hji]
    exact h3.2
def floats:Op->Bool
 | .move _| .assign _| .pick .. | .build .. | .load .. | .nilCheck _| .binOp .. | .unOp .. | .convert .. | .makeInterface .. | .makeFunc .. | .slice .. | .fieldAddr .. | .field .. | .indexAddr .. | .index .. | .lookup .. | .entry _| .typeAssert .. | .extract .. =>true
 | .call {callee:= .builtin b, ..}=>match b with| .len| .cap| .min| .max=>true|_=>false
 |_=>false
def xK (ops:Array Oper)(i:Nat):Bool:=match ops[i]? with|some o=>floats o.op|none=>false
def fP (md:Region.Mode)(ops:Array Oper):List Nat->Array Bool->Bool
 |[],listed=>(List.range ops.size).all fun k=>listed.getD k true
 |k::rest,listed=>
  (if xK ops k then(Region.ready md ops listed).contains k&&Region.free md ops listed k else Region.ready md ops listed==[k])&&
  fP md ops rest (listed.setIfInBounds k true)
def Ak (ops:Array Oper):Bool:=
 match ops[ops.size-1]? with
 |some o=>!floats o.op&&(List.range (ops.size-1)).all fun k=>o.after.any fun e=>Region.binds .any e&&e.on==k
 |none=>false
def Zo (ops:Array Oper)(ord:List Nat):Bool:=
 Region.noSelect ops&&(ord.getLast?==some (ops.size-1))&&ord.dropLast.all (fun k=>k !=ops.size-1)&&fP .any ops ord (Array.replicate ops.size false)
def KG (P:Program)(ops:Array Oper)(C:World->Prop)(Q:Act->World->Prop):List Nat->Act->World->Prop
 |[],a,w=>(Ak ops=false->C w)/\Q a w
 |k::rest,a,w=>
  match ops[k]? with
  |none=>False
  |some o=>
   if Region.wanted o (yielded ops a.tmps)then
    if floats o.op then∃v,(∀w',C w'->(execOp a.eval o).run P w'= .ok (.value v) w')/\KG P ops C Q rest (a.put o.dst v) w
    else o.wp P a w (fun a' w'=>(rest≠[]->C w')/\KG P ops C Q rest a' w') (lu Q)
   else KG P ops C Q rest (a.put o.dst undef) w
theorem QD (hb:Ak ops=true): ∀l:Array Bool,ops.size-1∈Region.ready .any ops l-> ∀(k:Nat) o,ops[k]?=some o->k≠ops.size-1->l.getD k true=true:=by
 intro l hl k o hk hne;obtain⟨_,oz,hoz,hall⟩:=mem_ready.1 hl;simp only[Ak,hoz,Φ,List.all_eq_true,List.mem_range]at hb;have hlt:=(κ.1 hk).1;have h1:=hb.2 k (by omega);rw[Array.any_eq_true]at h1;obtain⟨i,hi,h1⟩:=h1;simp only[Φ,beq_iff_eq]at h1;have h2:=hall _ (Array.getElem_mem hi) h1.1;rw[h1.2]at h2
 rcases Nat.lt_or_ge k l.size with h'|h'
 ·simp[h']at h2⊢;exact h2
 ·simp[Array.getElem?_eq_none h']at h2
theorem oZ {Q:Act->World->Prop}(hs:Region.noSelect ops=true): ∀(l:List Nat)(listed:Array Bool)(a:Act)(w:World),
 (l=[]\/(l.getLast?=some (ops.size-1)/\(∀k∈l.dropLast,k≠ops.size-1)/\listed.getD (ops.size-1) true=false))->
 fP .any ops l listed=true->(l≠[]->C w)->KG P ops C Q l a w->yX P .any ops C (Ak ops) Q l.length listed a w
 |[],listed,a,w,_,hB,_,h=>by refine⟨h.1,fun k o hk=>?_,h.2⟩;simp only[fP,List.all_eq_true,List.mem_range]at hB;exact hB k (κ.1 hk).1
 |k::rest,listed,a,w,hl,hB,hC,h=>by
  simp only[fP,Φ]at hB;obtain⟨hk,hB'⟩:=hB;have hC':=hC (by simp)
  rcases hl with hl|⟨hl1,hl2,hl3⟩
  ·cases hl
  have hrest:rest=[]\/(rest.getLast?=some (ops.size-1)/\(∀j∈rest.dropLast,j≠ops.size-1)/\(listed.setIfInBounds k true).getD (ops.size-1) true=false):=by
   cases rest with
   |nil=>exact .inl rfl
   |cons r rs=>right;refine⟨by simpa using hl1,fun j hj=>hl2 j (by simp at hj⊢;exact .inr hj),?_⟩;have hkn:k≠ops.size-1:=hl2 k (by simp);rw[getD_set_ne true hkn];exact hl3
  unfold KG at h
  cases hok:ops[k]? with
  |none=>rw[hok]at h;exact h.elim
  |some o=>
   rw[hok]at h;simp only[xK,hok]at hk;have Ub:Barred .any ops (Ak ops) listed:=fun hb=>(by have hsz:0<ops.size:=Nat.lt_of_le_of_lt (Nat.zero_le _) (κ.1 hok).1;exact⟨ops.size-1,ops[ops.size-1]'(by omega),by simp,hl3,QD hb⟩);by_cases hf:floats o.op=true
   ·rw[if_pos hf]at hk
    simp only[Φ]at hk;have hr:k∈Region.ready .any ops listed:=(by simpa using hk.1);by_cases hw:Region.wanted o (yielded ops a.tmps)=true
    ·simp only[hw,if_true,hf]at h
     obtain⟨v,hv,hn⟩:=h;exact wR hok (Region.noSelect_spec hs) rest.length listed a w (Region.free_spec hok hk.2) hC' Ub hr (.inl ⟨hw,hv⟩)
      (oZ hs rest _ _ w hrest hB' (fun _=>hC') hn)
    ·simp only[hw]at h
     exact wR hok (Region.noSelect_spec hs) rest.length listed a w (Region.free_spec hok hk.2) hC' Ub hr (.inr ⟨by simpa using hw,rfl⟩)
      (oZ hs rest _ _ w hrest hB' (fun _=>hC') h)
   ·rw[if_neg hf]at hk
    have hr:Region.ready .any ops listed=[k]:=(by simpa using hk);refine⟨hC',fun h0=>(by rw[h0]at hr;cases hr),fun j hj=>?_⟩;rw[hr]at hj;obtain rfl:j=k:=(by simpa using hj);unfold wpOp;simp only[hok];by_cases hw:Region.wanted o (yielded ops a.tmps)=true
    ·simp only[hw,if_true,hf]at h⊢
     exact .inl (Oper.wp_mono (fun a' w' h'=>oZ hs rest _ a' w' hrest hB' h'.1 h'.2) h)
    ·simp only[hw]at h⊢
     exact oZ hs rest _ _ w hrest hB' (fun _=>hC') h
def cZ (P:Program)(ops:Array Oper)(C:World->Prop)(Q:Act->World->Prop):List Oper->Act->World->Prop
 |[],a,w=>(Ak ops=false->C w)/\Q a w
 |o::rest,a,w=>
  if Region.wanted o (yielded ops a.tmps)then
   if floats o.op then∃v,(∀w',C w'->(execOp a.eval o).run P w'= .ok (.value v) w')/\cZ P ops C Q rest (a.put o.dst v) w
   else o.wp P a w (fun a' w'=>(rest≠[]->C w')/\cZ P ops C Q rest a' w') (lu Q)
  else cZ P ops C Q rest (a.put o.dst undef) w
theorem zD {Q:Act->World->Prop}: ∀(l:List Nat)(listed:Array Bool)(a:Act)(w:World),fP .any ops l listed=true->
 cZ P ops C Q (l.map fun k=>(ops[k]?).getD default) a w->KG P ops C Q l a w
 |[],_,_,_,_,h=>h
 |k::rest,listed,a,w,hB,h=>by
  simp only[fP,Φ]at hB;obtain⟨hk,hB'⟩:=hB;have hr:k∈Region.ready .any ops listed:=by
   split at hk
   ·simp only[Φ]at hk;simpa using hk.1
   ·have:Region.ready .any ops listed=[k]:=by simpa using hk
    rw[this];simp
  obtain⟨_,o,ho,_⟩:=mem_ready.1 hr;unfold KG;simp only[Θ,ho,Δ,cZ]at h⊢;split
  ·rename_i hw
   simp only[hw,if_true]at h;split
   ·rename_i hf
    simp only[hf,if_true]at h;obtain⟨v,hv,hn⟩:=h;exact⟨v,hv,zD rest _ _ _ hB' hn⟩
   ·rename_i hf
    rw[if_neg hf]at h;refine Oper.wp_mono (fun a' w' h'=>⟨fun hne=>h'.1 (by simpa using hne),zD rest _ _ _ hB' h'.2⟩) h
  ·rename_i hw
   simp only[hw]at h;exact zD rest _ _ _ hB' h
theorem ak {id:Nat}{Q:Exit->Act->World->Prop}{a:Act}{w:World}(ord:List Nat)(C:World->Prop)(hm:P.follows .mixedOrders=true)(hB:Zo ops ord=true)
 (hlen:ord.length=ops.size) (hC:C w.drew) (h:cZ P ops C (Q .normal) (ord.map fun k=>(ops[k]?).getD default) a w.drew):(Code.region id ops true).wp P Q a w:=by
 simp only[Zo,Φ]at hB;obtain⟨⟨⟨h1,h2⟩,h3⟩,h4⟩:=hB;refine wp_region_any hm (zF (C:=C) (bar:=Ak ops) (Q:=Q .normal) (fun _ _ h=>h) _ _ _ _ ?_);rw[<-hlen];have h2':ord.getLast?=some (ops.size-1):=(by simpa using h2);have hsz:0<ops.size:=by
  rw[<-hlen]
  cases ord with
  |nil=>simp at h2'
  |cons _ _=>simp
 refine oZ h1 ord _ a w.drew (.inr ⟨h2',fun k hk=>?_,?_⟩) (by rw[hlen];exact h4) (fun _=>hC) (zD ord _ _ _ h4 h)
 ·have:=List.all_eq_true.1 h3 k hk
  simpa using this
 ·rw[hlen,Array.getD_eq_getD_getElem?,Array.getElem?_replicate,if_pos (by omega)]
  rfl
theorem bf {Q:Act->World->Prop}{rest:List Oper}{a:Act}{w:World}{o:Oper}(hw:Region.wanted o (yielded ops a.tmps)=false)
 (h:cZ P ops C Q rest (a.put o.dst undef) w):cZ P ops C Q (o::rest) a w:=by
 unfold cZ;simp only[hw];exact h
theorem aj {Q:Act->World->Prop}{rest:List Oper}{a:Act}{w:World}{o:Oper}{v:Value}(hw:Region.wanted o (yielded ops a.tmps)=true)(hf:floats o.op=true)
 (hv: ∀w',C w'->(execOp a.eval o).run P w'= .ok (.value v) w') (h:cZ P ops C Q rest (a.put o.dst v) w):cZ P ops C Q (o::rest) a w:=by
 unfold cZ;simp only[hw,hf,if_true];exact⟨v,hv,h⟩
theorem aA {Q:Act->World->Prop}{rest:List Oper}{a:Act}{w:World}{o:Oper}(hw:Region.wanted o (yielded ops a.tmps)=true)(hf:floats o.op=false)
 (h: ∀K:Act->World->Prop,(∀a' w',(rest≠[]->C w')->cZ P ops C Q rest a' w'->K a' w')->o.wp P a w K (lu Q)):cZ P ops C Q (o::rest) a w:=by
 unfold cZ;simp only[hw,hf,if_true];exact h _ fun a' w' h1 h2=>⟨h1,h2⟩
theorem aG {Q:Act->World->Prop}{a:Act}{w:World}(hb:Ak ops=false->C w)(h:Q a w):cZ P ops C Q [] a w:=⟨hb,h⟩
theorem jo {Q:Act->World->Prop}{a:Act}{w:World}(hb:Ak ops=true)(h:Q a w):cZ P ops C Q [] a w:=⟨(fun h0=>absurd (hb.symm.trans h0) (by simp)),h⟩
end
end
section
open Go Go.RowKit
structure ε (S:Nat->Prop)(w w':World):Prop where
 os:w'.os=w.os
 tape:w'.tape=w.tape
 output:w'.output=w.output
 size:w.heap.size<=w'.heap.size
 block: ∀k,k<w.heap.size-> ¬S k->w'.heap[k]?=w.heap[k]?
def η:Nat->Prop:=fun _=>False
def one (m:Nat):Nat->Prop:=fun k=>k=m
section
variable {S S':Nat->Prop} {w w' w'':World}
theorem ε.refl (S:Nat->Prop)(w:World):ε S w w:=⟨rfl,rfl,rfl,ξ _,fun _ _ _=>rfl⟩
theorem δ{S:Nat->Prop}{w:World}:ε S w w:=ε.refl S w
theorem ε.trans (h:ε S w w')(k:ε S w' w''):ε S w w'':=
 ⟨k.os.trans h.os,k.tape.trans h.tape,k.output.trans h.output,ω h.size k.size,fun i hi hn=>(k.block i (Pe hi h.size) hn).trans (h.block i hi hn)⟩
theorem ε.mono (h:ε S w w')(hS: ∀k,k<w.heap.size->S k->S' k):ε S' w w':=
 ⟨h.os,h.tape,h.output,h.size,fun k hk hn=>h.block k hk (fun hs=>hn (hS k hk hs))⟩
theorem ε.drew (h:ε S w w'):ε S w w'.drew:=⟨h.os,h.tape,h.output,h.size,h.block⟩
theorem ε.aZ (h:ε S w.drew w'):ε S w w':=⟨h.os,h.tape,h.output,h.size,h.block⟩
theorem ε.of_below (h:Below w.heap.size w w'):ε S w w':=⟨h.os,h.tape,h.output,h.size,fun k hk _=>h.block k hk⟩
theorem ε.below (h:ε η w w'):Below w.heap.size w w':=⟨h.os,h.tape,h.output,h.size,fun k hk=>h.block k hk id⟩
theorem ε.pure (h:ε η w w'):ε S w w':=h.mono (fun _ _ h=>h.elim)
theorem ε.alloc (h:ε S w w')(o:Obj):ε S w (w'.alloc o):=
 h.trans ⟨rfl,rfl,rfl,by simp,fun k hk _=>Below.heap_alloc _ _ _ hk⟩
theorem ε.setCell (h:ε S w w'){p:Addr}(hp:S p.block\/w.heap.size<=p.block)(u:Value):ε S w (w'.setCell p u):=
 ⟨h.os,h.tape,h.output,by simpa using h.size,fun k hk hn=>by
   rw[Below.heap_setCell _ _ _ _ (fun e=>?_)]
   ·exact h.block k hk hn
   ·subst e
    rcases hp with hp|hp
    ·exact hn hp
    ·omega⟩
theorem ε.new (h:ε S w w')(k:ε S' w' w'')(hS: ∀i,i<w.heap.size->S' i->S i):ε S w w'':=
 ⟨k.os.trans h.os,k.tape.trans h.tape,k.output.trans h.output,ω h.size k.size,
  fun i hi hn=>(k.block i (Pe hi h.size) (fun hs=>hn (hS i hi hs))).trans (h.block i hi hn)⟩
theorem ε.grown {row:Option Nat}(hg:w.grownBy w' row)(hr: ∀k,row=some k->k<w.heap.size->S k):ε S w w':=
 ⟨hg.os,hg.tape,hg.output,hg.size,fun k hk hn=>hg.block k hk (fun e=>hn (hr k e.symm hk))⟩
theorem ε.cell (h:ε S w w'){p:Addr}(hp: ¬S p.block){v:Value}(hv:w.cell? p=some v):w'.cell? p=some v:=
 (World.cell?_of_block (w:=w) (h.block p.block (block_lt_of_cell hv) hp)).trans hv
theorem ε.afP (h:ε S w w'): ∀b o,b<w.heap.size-> ¬S b->w'.cell? ⟨b,o,none⟩=w.cell? ⟨b,o,none⟩:=fun b _ hb hn=>World.cell?_of_block (w:=w) (h.block b hb hn)
theorem ε.ac5 (h:ε S w w'): ∀b o,b<w.heap.size-> ¬S b->w'.frozen? ⟨b,o,none⟩=w.frozen? ⟨b,o,none⟩:=fun b _ hb hn=>World.frozen?_of_block (w:=w) (h.block b hb hn)
theorem ε.cq (h:ε η w w'): ∀b o,b<w.heap.size->w'.cell? ⟨b,o,none⟩=w.cell? ⟨b,o,none⟩:=fun b o hb=>h.afP b o hb id
theorem ε.fq (h:ε η w w'): ∀b o,b<w.heap.size->w'.frozen? ⟨b,o,none⟩=w.frozen? ⟨b,o,none⟩:=fun b o hb=>h.ac5 b o hb id
theorem ε.heap (h:ε S w w'){k:Nat}{o:Obj}(hk:w.heap[k]?=some o)(hn: ¬S k):w'.heap[k]?=some o:=
 (h.block k (κ.1 hk).1 hn).trans hk
theorem ε.owns (h:ε S w w'){base e size n:Nat}{v:Value}{xs:List Value}(ho:w.ownsRow base e size v n xs)(hn: ∀k,v.ownBlock=some k-> ¬S k):w'.ownsRow base e size v n xs:=by
 refine⟨ho.1,?_⟩
 rcases ho.2 with hn'|⟨g,cap,cur,rfl,hb,hgg,rest⟩
 ·exact .inl hn'
 ·exact .inr ⟨g,cap,cur,rfl,hb,h.heap hgg (hn g (by simp[Value.ownBlock])),rest⟩
end
def Reads (w:World)(k:Nat)(v:Value)(cs:List Value):Prop:=
 ∃a n cap,v= .slice a n cap/\n<=cap/\cap<=maxLen/\cs.length=n*k/\
  (cs=[]\/ ∃b off,a=some ⟨b,off,none⟩/\ ∀i x,cs[i]?=some x->w.cell? ⟨b,off+i,none⟩=some x)
def Value.blk:Value->Option Nat
 | .slice (some a) n _=>if n=0 then none else some a.block
 |_=>none
theorem Reads.kept {S:Nat->Prop}{w w':World}{k:Nat}{v:Value}{cs:List Value}(h:Reads w k v cs)(hk:ε S w w')(hn: ∀b,Value.blk v=some b-> ¬S b):Reads w' k v cs:=by
 obtain⟨a,n,cap,rfl,h1,h2,h3,h4⟩:=h;refine⟨a,n,cap,rfl,h1,h2,h3,?_⟩
 rcases h4 with h4|⟨b,off,rfl,h4⟩
 ·exact .inl h4
 ·by_cases h0:cs=[]
  ·exact .inl h0
  ·right
   refine⟨b,off,rfl,fun i x hx=>hk.cell (hn b ?_) (h4 i x hx)⟩;have:n≠0:=(by intro h;subst h;simp at h3;exact h0 h3);simp[Value.blk,this]
theorem Reads.pure {w w':World}{k:Nat}{v:Value}{cs:List Value}(h:Reads w k v cs)(hk:ε η w w'):Reads w' k v cs:=h.kept hk (fun _ _ h=>h)
theorem Reads.aN {w:World}{base e size n:Nat}{v:Value}{xs:List Value}(h:w.ownsRow base e size v n xs):Reads w size v xs:=by
 obtain⟨h1,h2⟩:=h
 rcases h2 with⟨rfl,rfl⟩|⟨g,cap,cur,rfl,hb,hg,hn,hc,hs,ht⟩
 ·exact⟨none,0,0,rfl,ξ _,Nat.zero_le _,h1,.inl (τ (by simpa using h1))⟩
 ·refine⟨_,n,cap,rfl,hn,hc,h1,.inr ⟨g,0,rfl,fun i x hx=>?_⟩⟩
  rw[cell_of_row w g (0+i) cur e (0,0) hg];rw[<-ht,abO]at hx;split at hx
  ·simpa using hx
  ·cases hx
theorem Reads.nil (w:World)(k:Nat):Reads w k (.slice none 0 0) []:=⟨none,0,0,rfl,ξ _,Nat.zero_le _,by simp,.inl rfl⟩
theorem Reads.lit (w:World)(cs:List Value)(E k n:Nat)(h:cs.length=n*k)(hn:n<=maxLen):Reads (w.alloc (.cells cs.toArray E)) k (.slice (some ⟨w.heap.size,0,none⟩) n n) cs:=
 ⟨_,n,n,rfl,ξ _,hn,h,.inr ⟨_,0,rfl,fun i x hx=>by rw[World.cell?_alloc_new];simpa using hx⟩⟩
theorem nZ {w:World}{base e size n:Nat}{v:Value}{xs:List Value}(h:w.ownsRow base e size v n xs){b:Nat}(hb:Value.blk v=some b):base<=b/\b<w.heap.size:=by
 rcases h.2 with⟨rfl,_⟩|⟨g,cap,cur,rfl,hg,hh,_⟩
 ·simp[Value.blk]at hb
 ·by_cases hn:n=0
  ·simp[Value.blk,hn]at hb
  ·simp[Value.blk,hn]at hb
   subst hb;exact⟨hg,(κ.1 hh).1⟩
abbrev T3:=Int×Value×Nat
def ent (t:T3):MapEntry:={key:= .int .i64 t.1,val:=t.2.1,born:=t.2.2}
structure QT (w:World)(m:Nat)(L:List T3)(clock:Nat):Prop where
 heap:w.heap[m]?=some (.map (L.map ent).toArray clock)
 keys:(L.map (·.1)).Nodup
 born:(L.map (·.2.2)).Nodup
 old: ∀t∈L,t.2.2<clock
def kv (t:T3):Int×Value:=(t.1,t.2.1)
def dQ (w:World)(m:Nat)(l:List (Int×Value)):Prop:= ∃L clock,QT w m L clock/\L.map kv=l
def uo (key:Int):List T3->Nat->Option (Nat×Value)
 |[],_=>none
 |t::r,i=>if key==t.1 then some (i,t.2.1)else uo key r (i+1)
def look (l:List (Int×Value))(key:Int):Option Value:=(l.find? fun p=>key==p.1).map (·.2)
def upd (key:Int)(v:Value):List (Int×Value)->List (Int×Value)
 |[]=>[(key,v)]
 |p::r=>if key==p.1 then(key,v)::r else p::upd key v r
def del (key:Int)(l:List (Int×Value)):List (Int×Value):=l.filter fun p=>key !=p.1
theorem GL (q:IntKind)(key:Int): ∀(L:List T3)(i:Nat),Instr.findNow (.int q) (.int .i64 key) (L.map ent) i=some (uo key L i)
 |[],_=>rfl
 |t::r,i=>by
  simp only[Θ,Instr.findNow,ent,Instr.sameNow,uo,if_true];cases h:key==t.1
  ·exact GL q key r (i+1)
  ·rfl
theorem Ad (key:Int): ∀(L:List T3)(i:Nat),(uo key L i).map (·.2)=look (L.map kv) key
 |[],_=>rfl
 |t::r,i=>by
  simp only[uo,Θ,look,List.find?_cons,kv];cases h:key==t.1
  ·have:=Ad key r (i+1);simpa[look,kv]using this
  ·rfl
section
variable {P:Program} {w:World} {m:Nat} {l:List (Int×Value)} {T K E:TypeId} {q:IntKind}
theorem run_findKey (hK:P.underlying K=some (.int q))(key:Int)(L:List T3):(Instr.findKey K (.int .i64 key) (L.map ent)).run P w= .ok (uo key L 0) w:=by simp[Instr.findKey,run_underlying hK,GL]
theorem JZ (hK:P.underlying K=some (.int q))(key:Int)(b:Bool)(n:Nat):(Instr.checkKey b (n+1) K (.int .i64 key)).run P w= .ok () w:=by unfold Instr.checkKey;simp[run_underlying hK]
theorem run_checkKey (hK:P.underlying K=some (.int q))(key:Int)(b:Bool):(Instr.checkKey b 10000 K (.int .i64 key)).run P w= .ok () w:=JZ hK key b 9999
theorem gq {L:List T3}{clock:Nat}(h:w.heap[m]?=some (.map (L.map ent).toArray clock)):(getObj m).run P w= .ok (.map (L.map ent).toArray clock) w:=by simp[getObj,Sem.run,h]
theorem dQ.lookup (h:dQ w m l)(hT:P.underlying T=some (.map K E))(hK:P.underlying K=some (.int q))(key:Int){z:Value}(hz:(zeroValue E).run P w= .ok z w):
 (Instr.lookup T (.map (some m)) (.int .i64 key) true).run P w= .ok (.tuple #[(look l key).getD z,.bool (look l key).isSome]) w:=by
 obtain⟨L,clock,h,rfl⟩:=h;have h1:=Ad key L 0;simp[Instr.lookup,run_underlying hT,gq h.heap,run_checkKey hK,run_findKey hK]
 cases hf:uo key L 0 with
 |none=>rw[hf]at h1;simp[hz,<-h1]
 |some x=>rw[hf]at h1;simp[<-h1]
theorem dQ.TT (h:dQ w m l)(hT:P.underlying T=some (.map K E))(hK:P.underlying K=some (.int q))(key:Int){z:Value}(hz:(zeroValue E).run P w= .ok z w):
 (Instr.lookup T (.map (some m)) (.int .i64 key) false).run P w= .ok ((look l key).getD z) w:=by
 obtain⟨L,clock,h,rfl⟩:=h;have h1:=Ad key L 0;simp[Instr.lookup,run_underlying hT,gq h.heap,run_checkKey hK,run_findKey hK]
 cases hf:uo key L 0 with
 |none=>rw[hf]at h1;simp[hz,<-h1]
 |some x=>rw[hf]at h1;simp[<-h1]
theorem dQ.len (h:dQ w m l)(hT:P.underlying T=some (.map K E))(ty:TypeId):(Builtin.len_ #[T] ty #[.map (some m)]).run P w= .ok (.int .i64 l.length) w:=by obtain⟨L,clock,h,rfl⟩:=h;simp[Builtin.len_,run_underlying hT,gq h.heap,goInt]
end
def sK (key:Int)(v:Value):List T3->List T3
 |[]=>[]
 |t::r=>if key==t.1 then(key,v,t.2.2)::r else t::sK key v r
theorem Ac {key:Int}: ∀{L:List T3}{i:Nat},uo key L i=none-> ∀t∈L,t.1≠key
 |[],_,_,_,ht=>by cases ht
 |t::r,i,h,u,hu=>by
  simp only[uo]at h;split at h
  ·cases h
  ·rename_i hne
   rcases abR.1 hu with rfl|hu
   ·intro e;apply hne;simp[e]
   ·exact Ac h u hu
theorem EU {key:Int}{v:Value}: ∀{L:List T3}{i j:Nat}{x:Value},uo key L i=some (j,x)->
 i<=j/\(L.map ent).modify (j-i) (fun e=>{e with key:= .int .i64 key,val:=v})=(sK key v L).map ent/\((L.map ent)[j-i]?).map (·.key)=some (.int .i64 key)/\
 (L.map ent).eraseIdx (j-i)=(L.eraseP (fun t=>key==t.1)).map ent
 |[],_,_,_,h=>by cases h
 |t::r,i,j,x,h=>by
  simp only[uo]at h;split at h
  ·rename_i he
   have he':key=t.1:=(by simpa using he);simp at h;obtain⟨rfl,rfl⟩:=h;refine⟨ξ _,?_,?_,?_⟩
   ·simp[sK,he',ent]
   ·simp[ent,he']
   ·simp[he']
  ·rename_i hne
   obtain⟨h1,h2,h3,h4⟩:=EU (v:=v) h;have e1:j-i=(j-(i+1))+1:=(by omega);refine⟨by omega,?_,?_,?_⟩
   ·rw[e1];simp[sK,hne,h2]
   ·rw[e1];simpa using h3
   ·rw[e1];simp[hne,h4]
theorem TV {key:Int}{v:Value}: ∀{L:List T3}{i:Nat},(uo key L i).isSome=true->(sK key v L).map kv=upd key v (L.map kv)
 |[],_,h=>by cases h
 |t::r,i,h=>by
  simp only[uo]at h;simp only[sK,Θ,upd,kv];split
  ·rfl
  ·rename_i hne
   rw[if_neg hne]at h;have:=TV (v:=v) h;simp[kv]at this⊢;exact this
theorem He {key:Int}{v:Value}: ∀{l:List (Int×Value)},(∀p∈l,p.1≠key)->upd key v l=l++[(key,v)]
 |[],_=>rfl
 |p::r,h=>by have h1:(key==p.1)=false:=(by simp;exact fun e=>h p (by simp) e.symm);simp[upd,h1,He (l:=r) (fun q hq=>h q (by simp[hq]))]
theorem Jq {key:Int}{v:Value}: ∀(L:List T3),(sK key v L).map (·.1)=L.map (·.1)
 |[]=>rfl
 |t::r=>by
  simp only[sK];split
  ·rename_i h;simp at h;simp[h]
  ·simp[Jq r]
theorem CO {key:Int}{v:Value}: ∀(L:List T3),(sK key v L).map (·.2.2)=L.map (·.2.2)
 |[]=>rfl
 |t::r=>by
  simp only[sK];split
  ·simp
  ·simp[CO r]
theorem aaA {key:Int}{v:Value}{t:T3}{L:List T3}(h:t∈sK key v L): ∃u∈L,u.2.2=t.2.2:=by have:t.2.2∈(sK key v L).map (·.2.2):=abK.2 ⟨t,h,rfl⟩;rw[CO]at this;obtain⟨u,hu,he⟩:=abK.1 this;exact⟨u,hu,he⟩
def World.gX (w:World)(m:Nat)(es:Array MapEntry)(clock:Nat):World:={w with heap:=w.heap.setIfInBounds m (.map es clock)}
theorem mP {w:World}{m:Nat}{o:Obj}(h:w.heap[m]?=some o)(es:Array MapEntry)(clock:Nat):(World.gX w m es clock).heap[m]?=some (.map es clock):=by have:=(κ.1 h).1;simp[World.gX,this]
theorem mO (w:World)(m:Nat)(es:Array MapEntry)(clock:Nat):ε (one m) w (World.gX w m es clock):=
 ⟨rfl,rfl,rfl,by simp[World.gX],fun k _ hn=>by
   have:m≠k:=fun e=>hn e.symm
   simp[World.gX,Array.getElem?_setIfInBounds_ne this]⟩
theorem nY {P:Program}{w:World}{m:Nat}{es es':Array MapEntry}{clock clock':Nat}(h:w.heap[m]?=some (.map es clock)):
 (setObj m (.map es' clock')).run P w= .ok () (World.gX w m es' clock'):=by
 simp[setObj,Sem.run,h,World.gX]
section
variable {P:Program} {w:World} {m:Nat} {l:List (Int×Value)} {T K E:TypeId} {q:IntKind}
theorem dQ.update (h:dQ w m l)(hT:P.underlying T=some (.map K E))(hK:P.underlying K=some (.int q))(key:Int)(v:Value):
 ∃w',(Instr.mapUpdate T (.map (some m)) (.int .i64 key) v).run P w= .ok () w'/\dQ w' m (upd key v l)/\ε (one m) w w'/\w'.heap.size=w.heap.size:=by
 obtain⟨L,clock,h,rfl⟩:=h
 cases hf:uo key L 0 with
 |none=>
  have hno:=Ac hf;refine⟨World.gX w m (((L++[(key,v,clock)]).map ent).toArray) (clock+1),?_,⟨L++[(key,v,clock)],clock+1,⟨mP h.heap _ _,?_,?_,?_⟩,?_⟩,mO _ _ _ _,by simp[World.gX]⟩
  ·simp[Instr.mapUpdate,run_underlying hT,gq h.heap,run_checkKey hK,run_findKey hK,hf,nY h.heap,ent]
  ·rw[abM,List.nodup_append]
   refine⟨h.keys,by simp,?_⟩;intro a ha b hb;obtain⟨t,ht,rfl⟩:=abK.1 ha;simp at hb;subst hb;exact hno t ht
  ·rw[abM,List.nodup_append]
   refine⟨h.born,by simp,?_⟩;intro a ha b hb;obtain⟨t,ht,rfl⟩:=abK.1 ha;simp at hb;subst hb;exact Nat.ne_of_lt (h.old t ht)
  ·intro t ht
   rcases abL.1 ht with ht|ht
   ·exact Nat.lt_succ_of_lt (h.old t ht)
   ·simp at ht;subst ht;exact Nat.lt_succ_self _
  ·rw[abM,He]
   ·rfl
   ·intro p hp
    obtain⟨t,ht,rfl⟩:=abK.1 hp;exact hno t ht
 |some x=>
  obtain⟨j,y⟩:=x;obtain⟨_,h2,h3,_⟩:=EU (v:=v) hf;simp only[Nat.sub_zero]at h2 h3;refine⟨World.gX w m (((sK key v L).map ent).toArray) clock,?_,⟨sK key v L,clock,⟨mP h.heap _ _,?_,?_,?_⟩,TV (i:=0) (by rw[hf];rfl)⟩,mO _ _ _ _,by simp[World.gX]⟩
  ·have hk:((L.map ent)[j]?.map fun x=>x.key).getD (.int .i64 key)= .int .i64 key:=by rw[h3];rfl
   have hsame:(Instr.keyThatStays (.int .i64 key) (.int .i64 key)).run P w= .ok (.int .i64 key) w:=(by simp[Instr.keyThatStays,Instr.sameBits]);simp only[Instr.mapUpdate,Sem.run_bind,run_underlying hT,Result.andThen_ok,gq h.heap,run_checkKey hK,run_findKey hK,hf,abH,hk,hsame];rw[List.modify_toArray,h2,nY h.heap]
  ·rw[Jq];exact h.keys
  ·rw[CO];exact h.born
  ·intro t ht
   obtain⟨u,hu,he⟩:=aaA ht;rw[<-he];exact h.old u hu
theorem Jp {key:Int}: ∀{L:List T3},(L.map (·.1)).Nodup->(L.eraseP (fun t=>key==t.1)).map kv=del key (L.map kv)
 |[],_=>rfl
 |t::r,h=>by
  simp only[Θ,List.nodup_cons]at h;by_cases he:key=t.1
  ·have: ∀p∈r.map kv,(key !=p.1)=true:=by
    intro p hp;obtain⟨u,hu,rfl⟩:=abK.1 hp;simp[kv];intro e;exact h.1 (abK.2 ⟨u,hu,by rw[<-e,he]⟩)
   simp only[Θ,List.eraseP_cons,he,beq_self_eq_true,cond_true,del,List.filter_cons,kv,bne_self_eq_false,Bool.false_eq_true,if_false];exact(List.filter_eq_self.2 (fun p hp=>by rw[<-he];exact this p hp)).symm
  ·have:=Jp (key:=key) h.2
   simp[he,del,kv]at this⊢;exact this
theorem QT.delete {L:List T3}{clock:Nat}(h:QT w m L clock)(hT:P.underlying T=some (.map K E))(hK:P.underlying K=some (.int q))(key:Int):
 ∃w',(∀(ty k:TypeId),(Builtin.delete_ #[T,k] ty #[.map (some m),.int .i64 key]).run P w= .ok (.tuple #[]) w')/\QT w' m (L.eraseP (fun t=>key==t.1)) clock/\ε (one m) w w'/\w'.heap.size=w.heap.size:=by
 cases hf:uo key L 0 with
 |none=>have hno:=Ac hf;have he:L.eraseP (fun t=>key==t.1)=L:=List.eraseP_of_forall_not (fun t ht=>by simp;exact fun e=>hno t ht e.symm);refine⟨World.gX w m ((L.map ent).toArray) clock,fun ty k=>?_,⟨by rw[he];exact mP h.heap _ _,by rw[he];exact h.keys,by rw[he];exact h.born,by rw[he];exact h.old⟩,mO _ _ _ _,by simp[World.gX]⟩;simp[Builtin.delete_,run_underlying hT,gq h.heap,run_checkKey hK,run_findKey hK,hf,nY h.heap]
 |some x=>
  obtain⟨j,y⟩:=x;obtain⟨_,_,h3,h4⟩:=EU (v:= .nilFunc) hf;simp only[Nat.sub_zero]at h3 h4;refine⟨World.gX w m (((L.eraseP (fun t=>key==t.1)).map ent).toArray) clock,fun ty k=>?_,⟨mP h.heap _ _,?_,?_,?_⟩,mO _ _ _ _,by simp[World.gX]⟩
  ·have hj:j<(L.map ent).length:=by
    cases hg:(L.map ent)[j]? with
    |none=>rw[hg]at h3;cases h3
    |some _=>exact(μ.1 hg).1
   simp[Builtin.delete_,run_underlying hT,gq h.heap,run_checkKey hK,run_findKey hK,hf,nY h.heap,h4]
  ·exact h.keys.sublist ((List.eraseP_sublist ..).map _)
  ·exact h.born.sublist ((List.eraseP_sublist ..).map _)
  ·exact fun t ht=>h.old t (List.mem_of_mem_eraseP ht)
theorem dQ.delete (h:dQ w m l)(hT:P.underlying T=some (.map K E))(hK:P.underlying K=some (.int q))(key:Int):
 ∃w',(∀(ty k:TypeId),(Builtin.delete_ #[T,k] ty #[.map (some m),.int .i64 key]).run P w= .ok (.tuple #[]) w')/\dQ w' m (del key l)/\ε (one m) w w'/\w'.heap.size=w.heap.size:=by
 obtain⟨L,clock,h,rfl⟩:=h;obtain⟨w',h1,h2,h3,h4⟩:=h.delete (P:=P) hT hK key;exact⟨w',h1,⟨_,_,h2,Jp h.keys⟩,h3,h4⟩
theorem dQ.made (w:World):dQ (w.alloc (.map #[] 0)) w.heap.size []:=
 ⟨[],0,⟨by simpa using heap_alloc_new w (.map #[] 0),by simp,by simp,by simp⟩,rfl⟩
theorem dQ.kept {S:Nat->Prop}{w':World}(h:dQ w m l)(hk:ε S w w')(hn: ¬S m):dQ w' m l:=by obtain⟨L,clock,h,rfl⟩:=h;exact⟨L,clock,⟨hk.heap h.heap hn,h.keys,h.born,h.old⟩,rfl⟩
theorem dQ.lt (h:dQ w m l):m<w.heap.size:=by obtain⟨L,clock,h,rfl⟩:=h;exact(κ.1 h.heap).1
theorem dQ.nodup (h:dQ w m l):(l.map (·.1)).Nodup:=by obtain⟨L,clock,h,rfl⟩:=h;have:=h.keys;simpa[kv,Function.comp_def]using this
end
def qY (w:World)(r m:Nat)(l left:List (Int×Value)):Prop:=
 ∃L clock seen,QT w m L clock/\L.map kv=l/\w.heap[r]?=some (.mapIter (some m) clock seen clock)/\(L.filter (fun t=>!seen.contains t.2.2)).map kv=left
section
variable {P:Program} {w:World} {m r:Nat} {l left:List (Int×Value)} {T K E:TypeId} {q:IntKind}
theorem qY.map (h:qY w r m l left):dQ w m l:=by obtain⟨L,clock,seen,h1,h2,_⟩:=h;exact⟨L,clock,h1,h2⟩
theorem qY.kept {S:Nat->Prop}{w':World}(h:qY w r m l left)(hk:ε S w w')(hm: ¬S m)(hr: ¬S r):qY w' r m l left:=by obtain⟨L,clock,seen,h1,h2,h3,h4⟩:=h;exact⟨L,clock,seen,⟨hk.heap h1.heap hm,h1.keys,h1.born,h1.old⟩,h2,hk.heap h3 hr,h4⟩
theorem qY.ne (h:qY w r m l left):r≠m:=by obtain⟨L,clock,seen,h1,h2,h3,h4⟩:=h;intro e;have:=h1.heap;rw[<-e,h3]at this;cases this
theorem dQ.range (h:dQ w m l)(hT:P.underlying T=some (.map K E)):
 ∃w',(Instr.range T (.map (some m))).run P w= .ok (.pointer (some ⟨w.heap.size,0,none⟩)) w'/\qY w' w.heap.size m l l/\ε η w w'/\w'.heap.size=w.heap.size+1:=by
 obtain⟨L,clock,h,rfl⟩:=h;refine⟨w.alloc (.mapIter (some m) clock #[] clock),?_,?_,δ.alloc _,by simp⟩
 ·simp[Instr.range,run_underlying hT,gq h.heap]
 ·refine⟨L,clock,#[],⟨?_,h.keys,h.born,h.old⟩,rfl,heap_alloc_new _ _,by rw[List.filter_eq_self.2 (fun _ _=>by simp)]⟩
  rw[Below.heap_alloc _ _ _ (κ.1 h.heap).1];exact h.heap
theorem vg {w:World}{r k:Nat}(o:Obj)(h:r≠k):({w with heap:=w.heap.setIfInBounds r o}:World).heap[k]?=w.heap[k]?:=by simp[Array.getElem?_setIfInBounds_ne h]
theorem EK {L:List T3}(hb:(L.map (·.2.2)).Nodup){t:T3}(ht:t∈L):L.Perm (t::L.filter (fun u=>u.2.2 !=t.2.2)):=by
 induction L with
 |nil=>cases ht
 |cons u r ih=>
  simp only[Θ,List.nodup_cons]at hb
  rcases abR.1 ht with rfl|ht
  ·have:r.filter (fun v=>v.2.2 !=t.2.2)=r:=List.filter_eq_self.2 (fun v hv=>by
    simp;intro e
    exact hb.1 (abK.2 ⟨v,hv,e⟩))
   simp[this]
  ·have hne:u.2.2≠t.2.2:=fun e=>hb.1 (abK.2 ⟨t,ht,e.symm⟩)
   have h2:(u.2.2 !=t.2.2)=true:=(by simp[hne]);rw[List.filter_cons,if_pos h2];exact((ih hb.2 ht).cons u).trans (List.Perm.swap ..)
theorem DJ {clock:Nat}{seen:Array Nat}(h:w.heap[r]?=some (.mapIter (some m) clock seen clock)):(getObj r).run P w= .ok (.mapIter (some m) clock seen clock) w:=by simp[getObj,Sem.run,h]
theorem qY.next (h:qY w r m l left)(ty:TypeId):
 (left=[]/\(Instr.next (.pointer (some ⟨r,0,none⟩)) false ty).run P w= .ok (.tuple #[.bool false]) w)\/
 ∃p left' w',left.Perm (p::left')/\(Instr.next (.pointer (some ⟨r,0,none⟩)) false ty).run P w= .ok (.tuple #[.bool true,.int .i64 p.1,p.2]) w'/\qY w' r m l left'/\ε (one r) w w'/\w'.heap.size=w.heap.size/\
  (Instr.entry (.pointer (some ⟨r,0,none⟩))).run P w'= .ok (.tuple #[.int .i64 p.1,p.2]) w':=by
 have hrm:=h.ne;obtain⟨L,clock,seen,h1,rfl,h3,rfl⟩:=h;have hall:((!seen.isEmpty&&!(L.map ent).toArray.isEmpty&&(L.map ent).toArray.all (fun e=>decide (e.born>=clock))):Bool)=false:=by
  cases L with
  |nil=>simp
  |cons t rest=>have:=h1.old t (by simp);simp[ent];intro _ hge;omega
 have hold:((L.map ent).toArray.filter (fun e=>!seen.contains e.born)).filter (fun e=>decide (e.born<clock))=((L.filter (fun t=>!seen.contains t.2.2)).map ent).toArray:=by
  rw[List.filter_toArray,List.filter_toArray]
  congr 1
  rw[List.filter_map,List.filter_map,List.filter_filter]
  congr 1
  apply List.filter_congr;intro t ht;have:=h1.old t ht;show(decide (t.2.2<clock)&&!seen.contains t.2.2)=!seen.contains t.2.2;rw[decide_eq_true this,Bool.true_and]
 have hnew:((L.map ent).toArray.filter (fun e=>!seen.contains e.born)).filter (fun e=>decide (e.born>=clock))= #[]:=by
  rw[List.filter_toArray,List.filter_toArray]
  congr 1
  rw[List.filter_eq_nil_iff];intro e he;obtain⟨he1,_⟩:=List.mem_filter.1 he;obtain⟨t,ht,rfl⟩:=abK.1 he1;have:=h1.old t ht;simp[ent];exact this
 have hrun: ∀cont:Nat->Sem Value,True:=fun _=>trivial
 cases hl:(L.filter (fun t=>!seen.contains t.2.2))with
 |nil=>left;refine⟨rfl,?_⟩;rw[hl]at hold;simp only[Instr.next,Sem.run_bind,DJ h3,Result.andThen_ok,gq h1.heap,hall,hold,hnew];simp[Question.forced]
 |cons t0 rest=>
  right;have hne:(((L.filter (fun t=>!seen.contains t.2.2)).map ent).toArray.isEmpty)=false:=(by rw[hl];rfl);obtain⟨n,hn,w1,hw1,Vq⟩: ∃n,n<(L.filter (fun t=>!seen.contains t.2.2)).length/\ ∃w1:World,w1.heap=w.heap/\w1.os=w.os/\w1.tape=w.tape/\w1.output=w.output/\
   (choose (.mapNext (L.filter (fun t=>!seen.contains t.2.2)).length)).run P w= .ok n w1:=by
   rw[hl];by_cases hf:(rest.length+1)<=1
   ·exact⟨0,by simp,w,rfl,rfl,rfl,rfl,by simp[Question.forced,hf]⟩
   ·refine⟨_,Nat.mod_lt (w.tape w.drawn (.mapNext (rest.length+1))) (by simp),w.drew,rfl,rfl,rfl,rfl,?_⟩
    simp[Question.forced,hf,Question.cut]
  obtain⟨hos,htape,hout,Vq⟩:=Vq;have hget:((L.filter (fun t=>!seen.contains t.2.2)))[n]?=some ((L.filter (fun t=>!seen.contains t.2.2))[n]):=(by simp);generalize ht:(L.filter (fun t=>!seen.contains t.2.2))[n]=t at hget;have htl:t∈L.filter (fun t=>!seen.contains t.2.2):=ς hget;have htL:t∈L:=(List.mem_filter.1 htl).1;have hns:seen.contains t.2.2=false:=(by have:=(List.mem_filter.1 htl).2;simpa using this);have aei:r<w1.heap.size:=(by rw[hw1];exact(κ.1 h3).1);have h3':w1.heap[r]?=some (.mapIter (some m) clock seen clock):=(by rw[hw1];exact h3);refine⟨kv t,((L.filter (fun t=>!seen.contains t.2.2)).filter (fun u=>u.2.2 !=t.2.2)).map kv,{w1 with heap:=w1.heap.setIfInBounds r (.mapIter (some m) clock (seen.push t.2.2) clock)},?_,?_,?_,?_,?_,?_⟩
  ·have hb:=h1.born.sublist ((List.filter_sublist (p:=fun t:T3=>!seen.contains t.2.2) (l:=L)).map (·.2.2))
   rw[<-hl];exact(EK hb htl).map kv
  ·have hsz:(((L.filter (fun t=>!seen.contains t.2.2)).map ent).toArray.map some).size=(L.filter (fun t=>!seen.contains t.2.2)).length:=by simp
   have hat:(((L.filter (fun t=>!seen.contains t.2.2)).map ent).toArray.map some)[n]?=some (some (ent t)):=(by simp only[List.map_toArray,abH,abJ,hget,Option.map_some]);simp only[Instr.next,Sem.run_bind,DJ h3,Result.andThen_ok,gq h1.heap,hall,hold,hnew,hne,Bool.false_eq_true,if_false,Array.append_empty,Array.empty_append,hsz,Vq,hat];simp[setObj,Sem.run,h3',ent,kv]
  ·refine⟨L,clock,seen.push t.2.2,⟨?_,h1.keys,h1.born,h1.old⟩,rfl,?_,?_⟩
   ·rw[vg _ hrm,hw1];exact h1.heap
   ·simp[aei]
   ·congr 1
    rw[List.filter_filter];apply List.filter_congr;intro u _;simp[Bool.and_comm,bne];by_cases e:u.2.2=t.2.2<;>simp[e]
  ·refine⟨hos,htape,hout,by simp[hw1],fun k _ hk=>?_⟩
   rw[vg _ (fun e=>hk e.symm),hw1]
  ·simp[hw1]
  ·have g1:(getObj r).run P ({w1 with heap:=w1.heap.setIfInBounds r (.mapIter (some m) clock (seen.push t.2.2) clock)}:World)= .ok (.mapIter (some m) clock (seen.push t.2.2) clock) {w1 with heap:=w1.heap.setIfInBounds r (.mapIter (some m) clock (seen.push t.2.2) clock)}:=by
    simp[getObj,Sem.run,aei]
   have g2:(getObj m).run P ({w1 with heap:=w1.heap.setIfInBounds r (.mapIter (some m) clock (seen.push t.2.2) clock)}:World)= .ok (.map (L.map ent).toArray clock) {w1 with heap:=w1.heap.setIfInBounds r (.mapIter (some m) clock (seen.push t.2.2) clock)}:=(by have:({w1 with heap:=w1.heap.setIfInBounds r (.mapIter (some m) clock (seen.push t.2.2) clock)}:World).heap[m]?=some (.map (L.map ent).toArray clock):=(by rw[vg _ hrm,hw1];exact h1.heap);exact gq this);have hfind:(L.map ent).toArray.find? (fun e=>e.born==t.2.2)=some (ent t):=by
    rw[List.find?_toArray,List.find?_map];have:L.find? ((fun e:MapEntry=>e.born==t.2.2)∘ent)=some t:=by
     have key: ∀(M:List T3),(M.map (·.2.2)).Nodup->t∈M->M.find? ((fun e:MapEntry=>e.born==t.2.2)∘ent)=some t:=by
      intro M
      induction M with
      |nil=>intro _ h;cases h
      |cons u M ih=>
       intro hnd hmem;simp only[Θ,List.nodup_cons]at hnd;rw[List.find?_cons]
       rcases abR.1 hmem with rfl|hmem
       ·simp[ent]
       ·have hne:u.2.2≠t.2.2:=fun e=>hnd.1 (abK.2 ⟨t,hmem,e.symm⟩)
        have:((fun e:MapEntry=>e.born==t.2.2)∘ent) u=false:=(by simp[ent,hne]);rw[this];exact ih hnd.2 hmem
     exact key L h1.born htL
    rw[this];rfl
   simp only[Instr.entry,Sem.run_bind,g1,g2,Result.andThen_ok,Array.back?_push,hfind];simp[ent,kv]
end
end
