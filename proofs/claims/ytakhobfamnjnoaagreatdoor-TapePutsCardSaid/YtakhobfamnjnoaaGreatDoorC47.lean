/- The machine's regions whose order is drawn tell the truth. -/
import Derived.Test.YtakhobfamnjnoaaGreatDoorC46
set_option linter.unusedVariables false
set_option linter.unusedSimpArgs false
namespace Go.Proofs.YtakhobfamnjnoaaGreatDoor
section
namespace bU
open Go Go.RowKit
theorem Fp {α β:Type}{R S:α->β->Prop}(h: ∀a b b',R a b->S a b'->R a b'){l:List α}{m:List β}(hl:F2 R l m): ∀{m':List β},F2 S l m'->F2 R l m':=by
 induction hl with
 |nil=>intro m' h';cases h';exact .nil
 |cons a _ ih=>intro m' h';cases h' with
  |cons b t=>exact .cons (h _ _ _ a b) (ih t)
section
variable {P:Program} {ρ ρ':Ren}
theorem G.back (hρ:ρ.le ρ'){v:CV}{x y:Value}(h:G ρ v x)(h':G ρ' v y):G ρ v y:=by
 have:=G.Gn (h.mono hρ) h'
 subst this
 exact h
theorem GA.back (hρ:ρ.le ρ'){v:AV}{x y:Value}(h:GA ρ v x)(h':GA ρ' v y):GA ρ v y:=by
 have:=GA.Gn (h.mono hρ) h'
 subst this
 exact h
theorem GR.back (hρ:ρ.le ρ'){v:RV}{x y:Value}(h:GR ρ v x)(h':GR ρ' v y):GR ρ v y:=by
 cases h with
 |c h=>cases h' with
  |c h'=>exact .c (G.back hρ h h')
 |agg h=>cases h' with
  |agg h'=>exact .agg (Fp (R:=G ρ) (S:=G ρ') (fun _ _ _ h1 h2=>G.back hρ h1 h2) h h')
 |aK h=>cases h' with
  |aK h'=>exact .aK (Fp (R:=GA ρ) (S:=GA ρ') (fun _ _ _ h1 h2=>GA.back hρ h1 h2) h h')
theorem GE.back (hρ:ρ.le ρ'){v:ME}{x y:MapEntry}(h:GE ρ v x)(h':GE ρ' v y):GE ρ v y:=⟨GA.back hρ h.1 h'.1,GA.back hρ h.2.1 h'.2.1,h'.2.2⟩
theorem Ob.back (hρ:ρ.le ρ'){id:Nat}{o:AO}{w w':World}(h:Ob P ρ id o w)(h':Ob P ρ' id o w'):Ob P ρ id o w':=by
 cases h with
 |row hr hh hc hcap hsz hm=>cases h' with
  |row hr' hh' hc' hcap' hsz' hm'=>
   have e:=hρ _ _ hr
   rw[hr']at e;cases e
   exact .row hr hh' (fun j v hv=>let⟨x,h1,_⟩:=hc j v hv;let⟨y,h3,h4⟩:=hc' j v hv;⟨y,h1.back hρ h3,h4⟩) hcap hsz' hm
 |ro hr hh hc=>cases h' with
  |ro hr' hh' hc'=>
   have e:=hρ _ _ hr
   rw[hr']at e;cases e
   exact .ro hr hh' (fun j v hv=>let⟨x,h1,_⟩:=hc j v hv;let⟨y,h3,h4⟩:=hc' j v hv;⟨y,h1.back hρ h3,h4⟩)
 |map hr hh hx=>cases h' with
  |map hr' hh' hx'=>
   have e:=hρ _ _ hr
   rw[hr']at e;cases e
   exact .map hr hh' (Fp (R:=GE ρ) (S:=GE ρ') (fun _ _ _ h1 h2=>GE.back hρ h1 h2) hx hx')
 |chan hr hh hx=>cases h' with
  |chan hr' hh' hx'=>
   have e:=hρ _ _ hr
   rw[hr']at e;cases e
   exact .chan hr hh' (Fp (R:=GA ρ) (S:=GA ρ') (fun _ _ _ h1 h2=>GA.back hρ h1 h2) hx hx')
 |sit hr hh hs=>cases h' with
  |sit hr' hh' hs'=>
   have e:=hρ _ _ hr
   rw[hr']at e;cases e
   exact .sit hr hh' hs
 |fJ hr hm hh=>cases h' with
  |fJ hr' hm' hh'=>
   have e:=hρ _ _ hr
   rw[hr']at e;cases e
   have e:=hρ _ _ hm
   rw[hm']at e;cases e
   exact .fJ hr hm hh'
 |clo hr hx hy=>exact .clo hr hx hy
 |gY hr hx=>exact .gY hr hx
 |kE hr hh=>cases h' with
  |kE hr' hh'=>
   have e:=hρ _ _ hr
   rw[hr']at e;cases e
   exact .kE hr hh'
 |any hr=>exact .any hr
 |loop hr hh hn he hp ha hd hs hq=>cases h' with
  |loop hr' hh' hn' he' hp' ha' hd' hs' hq'=>
   have e:=hρ _ _ hr
   rw[hr']at e;cases e
   exact .loop hr hh' hn' (fun i v hv=>let⟨x,_,h2⟩:=he i v hv;let⟨y,h3,h4⟩:=he' i v hv;⟨y,h3,h2.back hρ h4⟩) hp' ha' hd' hs' hq'
end
section
variable {P:Program} {g:Nat} {w0:World} {ρ:Ren} {h:Hp} {nx:Nat} {w:World} {N:Nat} {env:Env} {a:Act} {D:List Deferred}
theorem aes {h:Hp}{ids:List Nat}: ∀{rs:List (Nat×AO)}{k:List (Nat×AO)->Bool},X3 h ids rs k=true-> ∃rs',k rs'=true/\(∀p∈rs,p∈rs')/\(∀id∈ids,∃o,h.get id=some o/\(id,o)∈rs')/\ ∀p∈rs',p∈rs\/h.get p.1=some p.2:=by
 induction ids with
 |nil=>intro rs k hk;exact⟨rs,hk,fun _ h=>h,fun _ h=>(by cases h),fun _ h=> .inl h⟩
 |cons i ids ih=>
  intro rs k hk
  obtain⟨o,ho,hk⟩:=ah hk
  obtain⟨rs',hk,h1,h2,h3⟩:=ih (rs:=(i,o)::rs) hk
  refine⟨rs',hk,fun p hp=>h1 p (by simp[hp]),fun id hid=>?_,fun p hp=>?_⟩
  ·rcases List.mem_cons.1 hid with rfl|hid
   ·exact⟨o,ho,h1 _ (by simp)⟩
   ·exact h2 id hid
  ·rcases h3 p hp with h|h
   ·rcases List.mem_cons.1 h with rfl|h
    ·exact .inr ho
    ·exact .inl h
   ·exact .inr h
theorem Qb {h:Hp}{rs:List (Nat×AO)}(hk:Ja h rs=true): ∀p∈rs,h.get p.1=some p.2:=by
 induction rs with
 |nil=>intro p hp;cases hp
 |cons q rs ih=>
  obtain⟨o,ho,hk⟩:=ah hk
  obtain⟨h1,hk⟩:=aj hk
  have h1:o=q.2:=KG h1
  intro p hp
  rcases List.mem_cons.1 hp with rfl|hp
  ·rw[ho,h1]
  ·exact ih hk p hp
theorem UG {h:Hp}{rs:RS}(hk:WC h rs=true): ∀p∈rs,h.get p.2.1=some p.2.2:=by
 induction rs with
 |nil=>intro p hp;cases hp
 |cons q rs ih=>
  obtain⟨o,ho,hk⟩:=ah hk
  obtain⟨h1,hk⟩:=aj hk
  have h1:o=q.2.2:=KG h1
  intro p hp
  rcases List.mem_cons.1 hp with rfl|hp
  ·rw[ho,h1]
  ·exact ih hk p hp
theorem abB {ops:Array Oper}{i:Nat}{h:Hp}{rs:RS}{k:RS->Bool}(hk:JF ops i h rs k=true): ∃rs',k rs'=true/\(∀p∈rs',h.get p.2.1=some p.2.2)/\ ∀p∈rs,wo ops p.1 i=false->p∈rs':=by
 unfold JF at hk
 cases hr:WC h rs with
 |true=>rw[hr]at hk;exact⟨rs,hk,UG hr,fun _ h _=>h⟩
 |false=>
  rw[hr]at hk
  dsimp only at hk
  rw[iF]at hk
  obtain⟨h1,hk⟩:=aj hk
  exact⟨_,hk,UG h1,fun p hp hd=>List.mem_filter.2 ⟨hp,by rw[hd];rfl⟩⟩
theorem Hq {i:Nat}{l:List (Nat×AO)}{rs:RS}{p:Nat×(Nat×AO)}:p∈KZ i l rs↔(p.1=i/\p.2∈l)\/p∈rs:=by
 induction l with
 |nil=>simp[KZ]
 |cons q l ih=>
  show p∈(i,q)::KZ i l rs↔_
  obtain⟨x,y⟩:=p
  rw[List.mem_cons,ih]
  simp only[Prod.mk.injEq,List.mem_cons]
  constructor
  ·rintro(⟨h1,h2⟩|⟨h1,h2⟩|h)
   ·exact .inl ⟨h1, .inl h2⟩
   ·exact .inl ⟨h1, .inr h2⟩
   ·exact .inr h
  ·rintro(⟨h1,h2|h2⟩|h)
   ·exact .inl ⟨h1,h2⟩
   ·exact .inr (.inl ⟨h1,h2⟩)
   ·exact .inr (.inr h)
theorem HR.lay (H:HR P g w0 ρ h nx w){id:Nat}(hid:id<nx)(hn:ρ id=none){o:Option AO}{h':Hp}(hh: ∀m,h'.get m=if m=id then o else h.get m):HR P g w0 ρ h' nx w:=by
 refine⟨H.fresh,H.tV,fun i p hp hi=>?_,fun i j oi oj b hi hj bi bj=>?_,H.own,H.lt,H.kept,H.glob,fun i hi=>by rw[hh,if_neg (by omega)];exact H.hfr i hi⟩
 ·have:i≠id:=fun e=>by subst e;exact hi hn
  rw[hh,if_neg this]at hp
  exact H.objs i p hp hi
 ·have hb: ∀{i b},jw ρ i b->i≠id:=fun⟨_,_,hb⟩ e=>by subst e;rw[hn]at hb;cases hb
  rw[hh,if_neg (hb bi)]at hi
  rw[hh,if_neg (hb bj)]at hj
  exact H.inj i j _ _ b hi hj bi bj
theorem HR.widen (H:HR P g w0 ρ h nx w){nx':Nat}(hl:nx<=nx'):HR P g w0 ρ h nx' w:=
 ⟨fun i hi=>H.fresh i (by omega),by have:=H.tV;omega,H.objs,H.inj,H.own,H.lt,H.kept,H.glob,fun i hi=>H.hfr i (by omega)⟩
theorem HR.fill (H:HR P g w0 ρ h nx w){r:Nat}(hr:r<nx)(hg:g<=r)(hn:ρ r=none){cells:List CV}{e:TypeId}(ho:h.get r=some (.row cells e (some 0))){xs:List Value}(hx:F2 (G ρ) cells xs):
 HR P g w0 (ρ.put r (.blk w.heap.size 0 0)) h nx (w.alloc (.cells xs.toArray e)):=by
 have hle:=Ren.kT hn (.blk w.heap.size 0 0)
 have hb: ∀id b,jw (ρ.put r (.blk w.heap.size 0 0)) id b->(id=r/\b=w.heap.size)\/(id≠r/\jw ρ id b):=fun id b ⟨bs,cp,hb⟩=>by
  unfold Ren.put at hb
  split at hb
  ·rename_i e;cases hb;exact .inl ⟨e,rfl⟩
  ·exact .inr ⟨by assumption,_,_,hb⟩
 have hle0:w0.heap.size<=w.heap.size:=H.kept.size
 refine⟨fun id hid=>?_,H.tV,fun id p hp hid=>?_,fun i j oi oj b hi hj bi bj=>?_,fun id b hid hg=>?_,fun id b hid=>?_,?_,fun i hi=>(H.glob i hi).imp fun _ h=>hle _ _ h,H.hfr⟩
 ·unfold Ren.put;rw[if_neg (by omega)];exact H.fresh id hid
 ·by_cases e:id=r
  ·subst e
   rw[ho]at hp;cases hp
   refine .row (Ren.fA _ _ _) (heap_alloc_new _ _) (fun j v hv=>?_) (fun m hm=>by cases hm;exact⟨rfl,fun _=>rfl⟩) (by simp) (by simp)
   obtain⟨x,h1,h2⟩:=fO hx hv
   exact⟨x,h2.mono hle,by simpa using h1⟩
  ·rw[Ren.kD e]at hid
   exact((H.objs id p hp hid).frame (fun b _ hb=>Below.heap_alloc _ _ _ hb)).mono hle
 ·rcases hb _ _ bi with⟨ei,eb⟩|⟨ni,bi⟩<;>rcases hb _ _ bj with⟨ej,eb'⟩|⟨nj,bj⟩
  ·rw[ei,ej]
  ·exact absurd (H.lt _ _ bj) (by omega)
  ·exact absurd (H.lt _ _ bi) (by omega)
  ·exact H.inj i j _ _ b hi hj bi bj
 ·rcases hb _ _ hid with⟨_,eb⟩|⟨_,hid⟩
  ·omega
  ·exact H.own id b hid hg
 ·rw[World.size_alloc]
  rcases hb _ _ hid with⟨_,eb⟩|⟨_,hid⟩
  ·omega
  ·have:=H.lt id b hid;omega
 ·exact⟨H.kept.os,H.kept.tape,H.kept.output,by rw[World.size_alloc];omega,fun k hk=>(Below.heap_alloc _ _ _ (by omega)).trans (H.kept.block k hk)⟩
theorem Zj {l:List Value}: ∀{k:List CV->Bool},OM l k=true-> ∃cs,k cs=true/\ ∀ρ,F2 (G ρ) cs l:=by
 induction l with
 |nil=>intro k h;exact⟨[],h,fun _=> .nil⟩
 |cons v l ih=>
  intro k h
  obtain⟨c,hc,h⟩:=ah h
  rw[XG]at h
  obtain⟨cs,hk,hl⟩:=ih h
  exact⟨_,hk,fun ρ=> .cons (Qx hc) (hl ρ)⟩
def V3 (P:Program)(ops:Array Oper)(bY:Nat)(pre:List (Nat×AO))(i:Nat):Prop:=
 ∃o t d cs inf z,ops[i]?=some o/\o.op= .alloc t/\o.guard=none/\(∀e∈o.after,False)/\o.dst=some d/\P.info? t=some inf/\inf.zero=some z/\(∀ρ,F2 (G ρ) cs z.cells.toList)/\(bY+i,AO.row cs t (some 0))∈pre
theorem adG {ops:Array Oper}{bY nx:Nat}(hnx:bY+ops.size<=nx): ∀{al:List Nat}{env:Env}{h:Hp}{pre:List (Nat×AO)}{k:Env->Hp->List (Nat×AO)->Bool},(∀i∈al,S9 ops i=true)->(∀i∈al,ρ (bY+i)=none)->HR P g w0 ρ h nx w->Fr D ρ N env a->ae3 P ops bY al env h pre k=true->
 ∃env' h' pre',k env' h' pre'=true/\HR P g w0 ρ h' nx w/\Fr D ρ N env' a/\(∀p∈pre,p∈pre')/\(∀d,env.get d=none->env'.get d=none)/\ ∀i∈al,V3 P ops bY pre' i/\ ∀o d,ops[i]?=some o->o.dst=some d->env'.get d=none:=by
 intro al
 induction al with
 |nil=>intro env h pre k _ _ H hF hk;exact⟨env,h,pre,hk,H,hF,fun _ h=>h,fun _ h=>h,fun _ h=>(by cases h)⟩
 |cons i al ih=>
  intro env h pre k hal hn H hF hk
  obtain⟨o,ho,hk⟩:=ah hk
  obtain⟨d,hd,hk⟩:=ah hk
  try simp only[aG,aH,aW]at hd
  rw[aJ]at ho
  have ho:ops[i]?=some o:=by simpa using ho
  have hi:i<ops.size:=(Array.getElem?_eq_some_iff.1 ho).1
  split at hk
  ·rename_i t hop
   obtain⟨inf,XA,hk⟩:=ah hk
   try simp only[aG,aH,aW]at XA
   obtain⟨z,hz,hk⟩:=ah hk
   obtain⟨cs,hk,hcs⟩:=Zj hk
   rw[gW]at hk
   obtain⟨h1,hk,hh1⟩:=Tr.bJ hk
   obtain⟨kX,hk,hh2⟩:=Tr.bJ hk
   have hni:=hn i (by simp)
   have hF1:Fr D ρ N kX a:=⟨fun j v hv=>by
    rw[hh2]at hv
    split at hv
    ·cases hv
    ·exact hF.er j v hv,hF.size,hF.kE⟩
   have H1:=H.lay (by omega:bY+i<nx) hni hh1
   obtain⟨env',h',pre',hk,H',hF',q1,q2,q3⟩:=ih (fun j hj=>hal j (by simp[hj])) (fun j hj=>hn j (by simp[hj])) H1 hF1 hk
   have hnone: ∀d,env.get d=none->kX.get d=none:=fun d hd=>by rw[hh2];split;rfl;exact hd
   have hself:kX.get d=none:=by rw[hh2,if_pos rfl]
   refine⟨env',h',pre',hk,H',hF',fun p hp=>q1 p (by simp[hp]),fun d hd=>q2 d (hnone d hd),fun j hj=>?_⟩
   rcases List.mem_cons.1 hj with rfl|hj
   ·have hA:=hal j (by simp)
    simp only[S9,ho,afE,hop,Bool.and_eq_true,Bool.true_and]at hA
    obtain⟨⟨hg,ha⟩,_⟩:=hA
    refine⟨⟨o,t,d,cs,inf,z,ho,hop,by simpa using hg,fun e he=>?_,hd,XA,hz,hcs,q1 _ (List.mem_cons_self)⟩,fun o' d' ho' hd'=>?_⟩
    ·have ha:o.after.toList=[]:=by simpa using ha
     have:e∈o.after.toList:=by simpa using he
     rw[ha]at this;cases this
    ·rw[ho]at ho';cases ho'
     rw[hd]at hd';cases hd'
     exact q2 _ hself
   ·exact q3 j hj
  ·cases hk
theorem acf {ops:Array Oper}{bY:Nat}{pre:List (Nat×AO)}{i:Nat}(hA:V3 P ops bY pre i)(H:HR P g w0 ρ h nx w)(hg:g<=bY)(hnx:bY+i<nx)(hn:ρ (bY+i)=none)(hp: ∀p∈pre,h.get p.1=some p.2){Q:Exit->Act->World->Prop}{K:Act->World->Prop}
 (hK: ∀o d w',ops[i]?=some o->o.dst=some d->HR P g w0 (ρ.put (bY+i) (.blk w.heap.size 0 0)) h nx w'->K (a.put (some d) (.pointer (some ⟨w.heap.size,0,none⟩))) w'):wpOp P ops Q i K a w:=by
 obtain⟨o,t,d,cs,inf,z,ho,hop,hgd,_,hd,XA,hz,hcs,hpre⟩:=hA
 have H':=H.fill hnx (by omega) hn (hp _ hpre) (hcs ρ)
 have hk:=hK o d _ ho hd H'
 obtain⟨dst,op,type,pos,after,guard⟩:=o
 cases hop;cases hgd;cases hd
 unfold wpOp
 rw[ho]
 have hw:Region.wanted ({dst:=some d,op:= .alloc t,type,pos,after,guard:=none}:Oper) (yielded ops a.tmps)=true:=by simp[Region.wanted]
 dsimp only
 rw[if_pos hw]
 refine .inl ?_
 unfold Oper.wp
 have hrun:(execOp a.eval ({dst:=some d,op:= .alloc t,type,pos,after,guard:=none}:Oper)).run P w= .ok (.value (.pointer (some ⟨w.heap.size,0,none⟩))) (w.alloc (.cells z.cells.toList.toArray t)):=by
  have:execOp a.eval ({dst:=some d,op:= .alloc t,type,pos,after,guard:=none}:Oper)=(Instr.alloc t true (.tuple #[])>>=fun v=>pure (.value v)):=rfl
  rw[this]
  simp[Instr.alloc,zeroValue,typeInfo,XA,hz,newVar,newRow]
 rw[hrun,Oper.upon_value]
 exact hk
theorem abb {ops:Array Oper}{bY:Nat}: ∀{al:List Nat}{env:Env}{k:Env->Bool},(∀i∈al,∀o d,ops[i]?=some o->o.dst=some d-> ∃b,ρ (bY+i)=some (.blk b 0 0)/\(d<N->a.tmps[d]?=some (.pointer (some ⟨b,0,none⟩))))->Fr D ρ N env a->WO ops N bY al env k=true-> ∃env',k env'=true/\Fr D ρ N env' a:=by
 intro al
 induction al with
 |nil=>intro env k _ hF hk;exact⟨env,hk,hF⟩
 |cons i al ih=>
  intro env k hA hF hk
  obtain⟨o,ho,hk⟩:=ah hk
  rw[aJ]at ho
  have ho:ops[i]?=some o:=by simpa using ho
  rw[gW]at hk
  have key: ∃env',WO ops N bY al env' k=true/\Fr D ρ N env' a:=by
   cases hd:o.dst with
   |none=>rw[hd]at hk;exact⟨env,hk,hF⟩
   |some d=>
    rw[hd]at hk
    obtain⟨hdN,hk⟩:=aj hk
    have hdN:d<N:=aT hdN
    obtain⟨env',hk,hh⟩:=Tr.bJ hk
    obtain⟨b,hb,ht⟩:=hA i (by simp) o d ho hd
    refine⟨env',hk,fun j v hv=>?_,hF.size,hF.kE⟩
    rw[hh]at hv
    split at hv
    ·rename_i e
     cases hv;subst e
     exact⟨_,ht hdN, .c (.ptr 0 hb)⟩
    ·exact hF.er j v hv
  obtain⟨env',hk,hF'⟩:=key
  exact ih (fun j hj=>hA j (by simp[hj])) hF' hk
end
end bU
end
section
namespace bU
open Go Go.RowKit
theorem adW {ops:Array Oper}{al:List Nat}{L:Array Bool}{i:Nat}(h1:zC ops al L i=true):early ops al i=true/\Region.free .any ops L i=true/\(barT ops=true->L.getD (ops.size-1) true=false):=by
 unfold zC at h1
 simp only[Bool.and_eq_true,Bool.or_eq_true,Bool.not_eq_true']at h1
 refine⟨h1.1.1.1,h1.1.2,fun hb=>?_⟩
 rcases h1.2 with h|h
 ·rw[hb]at h;cases h
 ·exact h
theorem E5 {ops:Array Oper}{al:List Nat}{L:Array Bool}:match wB ops al L with
 | .done=>CX ops al L=true
 | .float i=>i∈Region.ready .any ops L/\zC ops al L i=true
 | .loud i=>Region.ready .any ops L=[i]/\early ops al i=true
 | .fork i js=>Region.ready .any ops L=i::js/\al=[]
 | .bad=>True:=by
 unfold wB
 dsimp only
 generalize Region.ready .any ops L=r
 cases h1:r.find? (fun i=>Y3 ops i&&zC ops al L i)with
 |some i=>
  have h2:=List.find?_some h1
  simp only[Bool.and_eq_true]at h2
  exact⟨List.mem_of_find?_eq_some h1,h2.2⟩
 |none=>
  clear h1
  dsimp only
  cases hE:CX ops al L with
  |true=>simp only[↓reduceIte]
  |false=>
   simp only[Bool.false_eq_true,if_false]
   have rest:match(match r.find? (zC ops al L)with
    |some i=>Nxt.float i
    |none=>(match r with
     |i::j::js=>if al.isEmpty then .fork i (j::js)else .bad
     |_=> .bad))with
    | .done=>CX ops al L=true
    | .float i=>i∈r/\zC ops al L i=true
    | .loud i=>r=[i]/\early ops al i=true
    | .fork i js=>r=i::js/\al=[]
    | .bad=>True:=by
    cases h3:r.find? (zC ops al L)with
    |some i=>exact⟨List.mem_of_find?_eq_some h3,List.find?_some h3⟩
    |none=>
     rcases r with _|⟨i,_|⟨j,js⟩⟩
     ·trivial
     ·trivial
     ·dsimp only
      cases ha:al.isEmpty with
      |true=>exact⟨rfl,by simpa using ha⟩
      |false=>trivial
   rcases r with _|⟨i,_|⟨j,js⟩⟩
   ·exact rest
   ·dsimp only
    cases he:early ops al i with
    |true=>exact⟨rfl,he⟩
    |false=>trivial
   ·clear rest
    dsimp only
    cases h3:List.find? (zC ops al L) (i::j::js)with
    |some m=>exact⟨List.mem_of_find?_eq_some h3,List.find?_some h3⟩
    |none=>
     dsimp only
     cases ha:al.isEmpty with
     |true=>exact⟨rfl,by simpa using ha⟩
     |false=>trivial
theorem Hf {ops:Array Oper}{al:List Nat}{L:Array Bool}(h:wB ops al L= .done):CX ops al L=true:=by
 have:=E5 (ops:=ops) (al:=al) (L:=L);rw[h]at this;exact this
theorem Zk {ops:Array Oper}{al:List Nat}{L:Array Bool}{i:Nat}(h:wB ops al L= .float i):i∈Region.ready .any ops L/\early ops al i=true/\Region.free .any ops L i=true/\(barT ops=true->L.getD (ops.size-1) true=false):=by
 have:=E5 (ops:=ops) (al:=al) (L:=L);rw[h]at this;exact⟨this.1,adW this.2⟩
theorem abj {ops:Array Oper}{al:List Nat}{L:Array Bool}{i:Nat}(h:wB ops al L= .loud i):Region.ready .any ops L=[i]/\early ops al i=true:=by
 have:=E5 (ops:=ops) (al:=al) (L:=L);rw[h]at this;exact this
theorem abk {ops:Array Oper}{al:List Nat}{L:Array Bool}{i:Nat}{js:List Nat}(h:wB ops al L= .fork i js):Region.ready .any ops L=i::js/\al=[]:=by
 have:=E5 (ops:=ops) (al:=al) (L:=L);rw[h]at this;exact this
section
variable {P:Program} {g:Nat} {w0:World} {ρ:Ren} {h:Hp} {nx:Nat} {w:World} {N:Nat} {env:Env} {a:Act} {D:List Deferred}
theorem BG {d:Option Tmp}{v:RV}{k:Env->Bool}{x:Value}(hF:Fr D ρ N env a)(hx:GR ρ v x)(hk:oP N env d v k=true): ∃env',k env'=true/\Fr D ρ N env' (a.put d x)/\ ∀j,d≠some j->env'.get j=env.get j:=by
 cases d with
 |none=>exact⟨env,hk,hF,fun _ _=>rfl⟩
 |some d=>
  obtain⟨hd,hk⟩:=aj hk
  have hd:d<N:=aT hd
  obtain⟨env',hk,hh⟩:=Tr.bJ hk
  refine⟨env',hk,⟨fun i r hr=>?_,by simp[Act.put,hF.size],hF.kE⟩,fun j hj=>by rw[hh,if_neg (fun e=>hj (by rw[e]))]⟩
  rw[hh]at hr
  split at hr
  ·rename_i e
   cases hr;subst e
   exact⟨x,by simp[Act.put,hF.size,hd],hx⟩
  ·rename_i hne
   obtain⟨y,h1,h2⟩:=hF.er i r hr
   exact⟨y,by simp only[Act.put];rw[Array.getElem?_setIfInBounds_ne (Ne.symm hne)];exact h1,h2⟩
theorem G7 {a:Act}{d:Option Tmp}{x:Value}{j:Tmp}(h:d≠some j):(a.put d x).tmps[j]?=a.tmps[j]?:=by
 cases d with
 |none=>rfl
 |some d=>simp only[Act.put];rw[Array.getElem?_setIfInBounds_ne (fun e=>h (by rw[e]))]
def bsB (o:Oper):Bool:=match o.op with| .buildSlice .. =>true|_=>false
structure St (D:List Deferred)(P:Program)(g:Nat)(w0:World)(N:Nat)(ops:Array Oper)(al:List Nat)(bY:Nat)(pre:List (Nat×AO))(ρ0:Ren)(n:Nat)(L:Array Bool)(rs:RS)(env:Env)(h:Hp)(nx:Nat)(pend:List Nat)(cl:Array Bool)(C:Nat->World->Prop)(ρ:Ren)(a:Act)(w:World):Prop where
 H:HR P g w0 ρ h nx w
 F:Fr D ρ N env a
 up:bY+ops.size<=nx
 g0:g<=bY
 ext:Ext bY nx ρ0 ρ
 s1:L.size=ops.size
 s2:cl.size=ops.size
 clo:Closed ops cl
 rel: ∀j,j∉pend-> ∀d,L.getD j d=cl.getD j d
 Q8: ∀j∈al,∀d,L.getD j d=true
 unl: ∀j∈pend,cl.getD j true=false
 sub: ∀j∈pend,j∈al
 nd:pend.Nodup
 unn: ∀j∈pend,ρ (bY+j)=none
 done: ∀i∈al,i∉pend-> ∀o d,ops[i]?=some o->o.dst=some d-> ∃b,ρ (bY+i)=some (.blk b 0 0)/\(d<N->a.tmps[d]?=some (.pointer (some ⟨b,0,none⟩)))
 non: ∀i∈al,∀o d,ops[i]?=some o->o.dst=some d->env.get d=none
 pr: ∀p∈pre,h.get p.1=some p.2
 UK: ∀p∈rs,h.get p.2.1=some p.2.2
 bs: ∀i o,ops[i]?=some o->bsB o=true->L.getD i true=false->ρ (bY+i)=none
 GL: ∀ρ' h' nx' w',ρ.le ρ'->HR P g w0 ρ' h' nx' w'-> ∀m,(∀p∈rs,p.1=m->h'.get p.2.1=some p.2.2)->C m w'
section
variable {ops:Array Oper} {al:List Nat} {bY:Nat} {pre:List (Nat×AO)} {ρ0:Ren} {n:Nat} {L:Array Bool} {rs:RS} {pend:List Nat} {cl:Array Bool} {C:Nat->World->Prop}
theorem St.cw (S:St D P g w0 N ops al bY pre ρ0 n L rs env h nx pend cl C ρ a w): ∀m,C m w:=fun m=>S.GL ρ h nx w ρ.le_refl S.H m fun p hp _=>S.UK p hp
theorem St.Bq (S:St D P g w0 N ops al bY pre ρ0 n L rs env h nx pend cl C ρ a w){i:Nat}(hi:i∈Region.ready .any ops L)(he:early ops al i=true):i∉pend/\i∈Region.ready .any ops cl:=by
 obtain⟨hun,o,ho,hall⟩:=mem_ready.1 hi
 have Dn:i∉pend:=fun hp=>by rw[S.Q8 i (S.sub i hp)]at hun;cases hun
 refine⟨Dn,mem_ready.2 ⟨by rw[<-S.rel i Dn];exact hun,o,ho,fun e hee hb=>?_⟩⟩
 have hl:=hall e hee hb
 have hon:e.on∉pend:=fun hp=>by
  simp only[early,ho,List.all_eq_true,Bool.and_eq_true,Bool.not_eq_true']at he
  have:=(he e.on (S.sub _ hp)).1
  have h2:Qr o e.on=true:=by
   unfold Qr
   rw[Array.any_eq_true']
   exact⟨e,hee,by rw[hb];simp⟩
  rw[h2]at this;cases this
 rw[<-S.rel _ hon];exact hl
theorem St.Bv (S:St D P g w0 N ops al bY pre ρ0 n L rs env h nx pend cl C ρ a w){i:Nat}(hi:i∈Region.ready .any ops cl)(hp:i∉pend):i∈Region.ready .any ops L:=by
 obtain⟨hun,o,ho,hall⟩:=mem_ready.1 hi
 refine mem_ready.2 ⟨by rw[S.rel i hp];exact hun,o,ho,fun e hee hb=>?_⟩
 by_cases hon:e.on∈pend
 ·exact S.Q8 _ (S.sub _ hon) _
 ·rw[S.rel _ hon];exact hall e hee hb
theorem St.I8 (S:St D P g w0 N ops al bY pre ρ0 n L rs env h nx pend cl C ρ a w)(hAl: ∀i∈al,V3 P ops bY pre i){j:Nat}(hj:j∈pend):j∈Region.ready .any ops cl:=by
 obtain⟨o,t,d,cs,inf,z,ho,hop,hg,ha,_⟩:=hAl j (S.sub j hj)
 exact mem_ready.2 ⟨S.unl j hj,o,ho,fun e he _=>(ha e he).elim⟩
theorem St.lay (S:St D P g w0 N ops al bY pre ρ0 n L rs env h nx pend cl C ρ a w)(hAl: ∀i∈al,V3 P ops bY pre i)(hdist: ∀i∈al,∀j∈al,i≠j-> ∀oi oj d,ops[i]?=some oi->ops[j]?=some oj->oi.dst=some d->oj.dst≠some d){j:Nat}(hj:j∈pend){o:Oper}{d:Tmp}(ho:ops[j]?=some o)(hd:o.dst=some d){w':World}
 (H':HR P g w0 (ρ.put (bY+j) (.blk w.heap.size 0 0)) h nx w'):
 St D P g w0 N ops al bY pre ρ0 n L rs env h nx (pend.erase j) (cl.setIfInBounds j true) C (ρ.put (bY+j) (.blk w.heap.size 0 0)) (a.put (some d) (.pointer (some ⟨w.heap.size,0,none⟩))) w':=by
 have hja:=S.sub j hj
 have hle:=Ren.kT (S.unn j hj) (.blk w.heap.size 0 0)
 have hlt:j<cl.size:=by rw[S.s2];exact(Array.getElem?_eq_some_iff.1 ho).1
 have hmem: ∀k,k∈pend.erase j->k∈pend/\k≠j:=fun k hk=>⟨List.mem_of_mem_erase hk,fun e=>by subst e;exact(List.Nodup.not_mem_erase S.nd) hk⟩
 have hnot: ∀k,k∉pend.erase j->k≠j->k∉pend:=fun k hk hne hm=>hk ((List.mem_erase_of_ne hne).2 hm)
 refine⟨H',⟨fun i v hv=>?_,by simp[Act.put,S.F.size],S.F.kE⟩,S.up,S.g0,⟨S.ext.le.le_trans hle,S.ext.up,fun i hi hn=>?_⟩,S.s1,by simp[S.s2],uj S.clo (S.I8 hAl hj),fun k hk d'=>?_,S.Q8,fun k hk=>?_,fun k hk=>S.sub k (hmem k hk).1,S.nd.erase j,fun k hk=>?_,fun i hi Dn oi di hoi hdi=>?_,S.non,S.pr,S.UK,fun i oi hoi hbi hun=>?_,fun ρ' h' nx' w' hl=>S.GL ρ' h' nx' w' (hle.le_trans hl)⟩
 ·obtain⟨x,h1,h2⟩:=S.F.er i v hv
  refine⟨x,?_,h2.mono hle⟩
  rw[G7];exact h1
  intro e;cases e
  rw[S.non j hja o d ho hd]at hv;cases hv
 ·rw[Ren.kD (by omega)];exact S.ext.keep i hi hn
 ·by_cases e:k=j
  ·subst e
   rw[S.Q8 k hja]
   simp[hlt]
  ·rw[getD_set_ne d' (Ne.symm e)];exact S.rel k (hnot k hk e) d'
 ·rw[getD_set_ne true (Ne.symm (hmem k hk).2)];exact S.unl k (hmem k hk).1
 ·rw[Ren.kD (by have:=(hmem k hk).2;omega)];exact S.unn k (hmem k hk).1
 ·by_cases e:i=j
  ·subst e
   rw[ho]at hoi;cases hoi
   rw[hd]at hdi;cases hdi
   exact⟨_,Ren.fA _ _ _,fun hdN=>by simp[Act.put,S.F.size,hdN]⟩
  ·obtain⟨b,h1,h2⟩:=S.done i hi (hnot i Dn e) oi di hoi hdi
   refine⟨b,hle _ _ h1,fun hdN=>?_⟩
   rw[G7];exact h2 hdN
   intro e';cases e'
   exact hdist i hi j hja e oi o d hoi ho hdi hd
 ·have hne:i≠j:=fun e=>by
   subst e
   obtain⟨o2,t,d2,cs,inf,z,ho2,hop,_⟩:=hAl i hja
   rw[hoi]at ho2;cases ho2
   simp[bsB,hop]at hbi
  rw[Ren.kD (by omega)];exact S.bs i oi hoi hbi hun
theorem St.step (S:St D P g w0 N ops al bY pre ρ0 n L rs env h nx pend cl C ρ a w){i:Nat}(hi:i∈Region.ready .any ops L)(he:early ops al i=true)(hAl: ∀i∈al,V3 P ops bY pre i){o:Oper}(ho:ops[i]?=some o){m:Nat}{rs':RS}{env':Env}{h':Hp}{nx':Nat}{ρ':Ren}{x:Value}{w':World}{C':Nat->World->Prop}
 (hE:ρ.le ρ'/\nx<=nx'/\ ∀j,j<nx->j≠bY+i->ρ j=none->ρ' j=none) (H':HR P g w0 ρ' h' nx' w') (hF:Fr D ρ' N env' (a.put o.dst x)) (hv: ∀j,o.dst≠some j->env'.get j=env.get j) (hpr: ∀p∈pre,h'.get p.1=some p.2) (ain: ∀p∈rs',h'.get p.2.1=some p.2.2)
 (hst: ∀ρ'' h'' uJ w'',ρ'.le ρ''->HR P g w0 ρ'' h'' uJ w''-> ∀m,(∀p∈rs',p.1=m->h''.get p.2.1=some p.2.2)->C' m w''):
 St D P g w0 N ops al bY pre ρ0 m (L.setIfInBounds i true) rs' env' h' nx' pend (cl.setIfInBounds i true) C' ρ' (a.put o.dst x) w':=by
 obtain⟨Dn,hic⟩:=S.Bq hi he
 have hlt:i<ops.size:=(Array.getElem?_eq_some_iff.1 ho).1
 have hdst: ∀k∈al,∀ok d,ops[k]?=some ok->ok.dst=some d->o.dst≠some d:=fun k hk ok d hok hd e=>by
  simp only[early,ho,List.all_eq_true,Bool.and_eq_true]at he
  have:=(he k hk).2
  rw[hok]at this
  exact(Oper.apart_spec this).2.1 d e hd
 refine⟨H',hF,Nat.le_trans S.up hE.2.1,S.g0,⟨S.ext.le.le_trans hE.1,Nat.le_trans S.ext.up hE.2.1,fun j hj hn=>hE.2.2 j (by have:=S.up;omega) (by omega) (S.ext.keep j hj hn)⟩,by simp[S.s1],by simp[S.s2],uj S.clo hic,fun k hk d=>?_,fun k hk d=>?_,fun k hk=>?_,S.sub,S.nd,fun k hk=>?_,fun k hk hkp ok d hok hd=>?_,fun k hk ok d hok hd=>?_,hpr,ain,fun k ok hok hbk hun=>?_,hst⟩
 ·by_cases e:i=k
  ·subst e;simp[S.s1,S.s2,hlt]
  ·rw[getD_set_ne d e,getD_set_ne d e];exact S.rel k hk d
 ·by_cases e:i=k
  ·subst e;simp[S.s1,hlt]
  ·rw[getD_set_ne d e];exact S.Q8 k hk d
 ·have e:i≠k:=fun e=>by subst e;exact Dn hk
  rw[getD_set_ne true e];exact S.unl k hk
 ·obtain⟨ok,t,d,cs,inf,z,hok,_⟩:=hAl k (S.sub k hk)
  have hk':k<ops.size:=(Array.getElem?_eq_some_iff.1 hok).1
  exact hE.2.2 _ (by have:=S.up;omega) (by intro e;have:k=i:=by omega
                                           subst this;exact Dn hk) (S.unn k hk)
 ·obtain⟨b,h1,h2⟩:=S.done k hk hkp ok d hok hd
  exact⟨b,hE.1 _ _ h1,fun hdN=>by rw[G7 (hdst k hk ok d hok hd)];exact h2 hdN⟩
 ·rw[hv d (hdst k hk ok d hok hd)];exact S.non k hk ok d hok hd
 ·by_cases e:i=k
  ·subst e
   simp[S.s1,hlt]at hun
  ·rw[getD_set_ne true e]at hun
   have hk':k<ops.size:=(Array.getElem?_eq_some_iff.1 hok).1
   exact hE.2.2 _ (by have:=S.up;omega) (by omega) (S.bs k ok hok hbk hun)
end
end
end bU
end
section
namespace bU
open Go Go.RowKit
section
variable {P:Program} {g:Nat} {w0:World} {N:Nat} {ops:Array Oper} {al:List Nat} {bY:Nat} {pre:List (Nat×AO)} {ρ0:Ren} {D:List Deferred}
theorem Nh {bG:mV}{ih:Run}{n:Nat}{L:Array Bool}{rs:RS}{env:Env}{h:Hp}{nx:Nat}{k:KR}(hk:oN P g bG ih ops N al pre bY n L rs env h nx k=true):
 (wB ops al L= .done/\k n L rs env h nx=true)\/
 (∃m i o,n=m+1/\wB ops al L= .float i/\ops[i]?=some o/\yC ops.toList o env (fun want=>Bool.casesOn want (oP N env o.dst .undef fun env=>oN P g bG ih ops N al pre bY m (L.setIfInBounds i true) rs env h nx k)
   (Qq P g o.op env h nx fun r h nx ids=>X3 h ids [] fun l=>fL (KZ i l rs) fun rs=>oP N env o.dst r fun env=>oN P g bG ih ops N al pre bY m (L.setIfInBounds i true) rs env h nx k))=true)\/
 (∃m i,n=m+1/\wB ops al L= .loud i/\rE P g bG ih ops N al pre bY (fun L rs env h nx=>oN P g bG ih ops N al pre bY m L rs env h nx k) i L rs env h nx=true)\/
 (∃m i js,n=m+1/\wB ops al L= .fork i js/\rE P g bG ih ops N al pre bY (fun L0 zY qP h0 BK=>oN P g bG ih ops N al pre bY m L0 zY qP h0 BK fun n1 L1 Dc kX h1 Di=>
   iff (SX js fun j=>rE P g bG ih ops N al pre bY (fun L0 zY qP h0 BK=>oN P g bG ih ops N al pre bY m L0 zY qP h0 BK (IU n1 L1 Dc kX h1 Di)) j L rs env h nx) (k n1 L1 Dc kX h1 Di)) i L rs env h nx=true):=by
 cases n with
 |zero=>
  change(match wB ops al L with| .done=>k 0 L rs env h nx|_=>false)=true at hk
  cases hn:wB ops al L<;>rw[hn]at hk<;>first|exact .inl ⟨rfl,hk⟩|cases hk
 |succ m=>
  have h0:oN P g bG ih ops N al pre bY (m+1) L rs env h nx k=(match wB ops al L with
   | .done=>k (Nat.succ m) L rs env h nx
   | .float i=>fN i fun i=>au (aF ops.toList i) fun o=>yC ops.toList o env fun want=>Bool.casesOn want (oP N env o.dst .undef fun env=>oN P g bG ih ops N al pre bY m (L.setIfInBounds i true) rs env h nx k)
      (Qq P g o.op env h nx fun r h nx ids=>X3 h ids [] fun l=>fL (KZ i l rs) fun rs=>oP N env o.dst r fun env=>oN P g bG ih ops N al pre bY m (L.setIfInBounds i true) rs env h nx k)
   | .loud i=>rE P g bG ih ops N al pre bY (fun L rs env h nx=>oN P g bG ih ops N al pre bY m L rs env h nx k) i L rs env h nx
   | .fork i js=>rE P g bG ih ops N al pre bY (fun L0 zY qP h0 BK=>oN P g bG ih ops N al pre bY m L0 zY qP h0 BK fun n1 L1 Dc kX h1 Di=>
      iff (SX js fun j=>rE P g bG ih ops N al pre bY (fun L0 zY qP h0 BK=>oN P g bG ih ops N al pre bY m L0 zY qP h0 BK (IU n1 L1 Dc kX h1 Di)) j L rs env h nx) (k n1 L1 Dc kX h1 Di)) i L rs env h nx
   | .bad=>false):=rfl
  rw[h0]at hk
  cases hn:wB ops al L with
  |done=>rw[hn]at hk;exact .inl ⟨rfl,hk⟩
  |bad=>rw[hn]at hk;cases hk
  |float i=>
   rw[hn]at hk
   dsimp only at hk
   rw[gW]at hk
   obtain⟨o,ho,hk⟩:=ah hk
   rw[aJ]at ho
   exact .inr (.inl ⟨m,i,o,rfl,rfl,by simpa using ho,hk⟩)
  |loud i=>rw[hn]at hk;exact .inr (.inr (.inl ⟨m,i,rfl,rfl,hk⟩))
  |fork i js=>rw[hn]at hk;exact .inr (.inr (.inr ⟨m,i,js,rfl,rfl,hk⟩))
theorem adL {P:Program}{o:Oper}{a:Act}{w:World}{K:Act->World->Prop}{Q:Act->World->Prop}(h:o.wp P a w K (mX Q)): ∃a' w',K a' w':=by
 unfold Oper.wp Oper.upon at h
 split at h
 ·exact⟨_,_,h⟩
 ·exact⟨_,_,h⟩
 ·exact⟨_,_,h⟩
 ·obtain⟨e,w',fr,hR,_⟩:=h []
  cases e with
  |returned v=>exact⟨_,_,hR⟩
  |panicked chain=>exact hR.elim
  |outgrown=>obtain⟨_,_,hq⟩:=hR;exact hq.elim
 ·obtain⟨v,w',hR,_⟩:=h default []
  exact⟨_,_,hR⟩
 ·exact h.elim
 ·exact h.elim
theorem Uo {P:Program}{i:Nat}{a:Act}{w:World}{K:Act->World->Prop}{Q:Act->World->Prop}(h:wpOp P ops (mX Q) i K a w): ∃a' w',K a' w':=by
 unfold wpOp at h
 split at h
 ·exact⟨_,_,h⟩
 ·split at h
  ·rcases h with h|⟨_,_,_,hq⟩
   ·exact adL h
   ·exact hq.elim
  ·exact⟨_,_,h⟩
theorem MJ {bar:Bool}{Q:Act->World->Prop}: ∀(fuel:Nat){listed:Array Bool}{C:Nat->World->Prop}{a:Act}{w:World},jJ P ops bar Q fuel listed C a w-> ∃a' w',Q a' w'
 |0,_,_,_,_,h=>⟨_,_,h.2.2⟩
 |fuel+1,listed,C,a,w,h=>by
  cases hr:Region.ready .any ops listed with
  |nil=>exact⟨_,_,h.2.1 hr⟩
  |cons i l=>
   obtain⟨a',w',C',_,h'⟩:=Uo (h.2.2 i (by rw[hr];simp))
   exact MJ fuel h'
theorem MI {bar:Bool}{Q Q':Act->World->Prop}(hQ: ∀a w,Q a w->Q' a w): ∀{fuel:Nat}{listed:Array Bool}{C:Nat->World->Prop}{a:Act}{w:World},jJ P ops bar Q fuel listed C a w->jJ P ops bar Q' fuel listed C a w
 |0,_,_,_,_,h=>⟨h.1,h.2.1,hQ _ _ h.2.2⟩
 |_+1,_,_,_,_,h=>⟨h.1,fun h0=>hQ _ _ (h.2.1 h0),fun i hi=>wpOp_mono (fun _ _ ⟨C',hs,h⟩=>⟨C',hs,MI hQ h⟩) (AY (fun e a w h=>by cases e<;>first|exact hQ _ _ h|exact h.elim) (h.2.2 i hi))⟩
theorem Qa {bG:mV}{ih:Run}(hO:yO P g w0 bG)(hI:yM P g w0 ih)(hs:Region.noSelect ops=true)(hAl: ∀i∈al,V3 P ops bY pre i)
 (hdist: ∀i∈al,∀j∈al,i≠j-> ∀oi oj d,ops[i]?=some oi->ops[j]?=some oj->oi.dst=some d->oj.dst≠some d)
 (hcond: ∀j,j<ops.size->j∈al\/early ops al j=true\/late ops al j=true):
 ∀(M:Nat){Q:Act->World->Prop}{k:KR},(∀n L rs env h nx cl C ρ a w,k n L rs env h nx=true->CX ops al L=true->St D P g w0 N ops al bY pre ρ0 n L rs env h nx [] cl C ρ a w->jJ P ops (barT ops) Q n cl C a w)->
 ∀(n:Nat)(pend:List Nat),n+pend.length=M-> ∀(L:Array Bool)(rs:RS)(env:Env)(h:Hp)(nx:Nat)(cl:Array Bool)(C:Nat->World->Prop)(ρ:Ren)(a:Act)(w:World),
  oN P g bG ih ops N al pre bY n L rs env h nx k=true->St D P g w0 N ops al bY pre ρ0 n L rs env h nx pend cl C ρ a w->jJ P ops (barT ops) Q M cl C a w:=by
 intro M
 induction M with
 |zero=>
  intro Q k HK n pend hM L rs env h nx cl C ρ a w hk S
  obtain rfl:n=0:=by omega
  have hp:pend=[]:=List.length_eq_zero_iff.1 (by omega)
  subst hp
  rcases Nh hk with⟨hn,hk⟩|⟨m,i,o,h0,_⟩|⟨m,i,h0,_⟩|⟨m,i,js,h0,_⟩
  ·exact HK _ _ _ _ _ _ _ _ _ _ _ hk (Hf hn) S
  ·omega
  ·omega
  ·omega
 |succ M IH0=>
  intro Q k HK n pend hM L rs env h nx cl C ρ a w hk S
  have IH:= @IH0 Q k HK
  have one: ∀{Q':Act->World->Prop}{k':KR}{m i:Nat},(∀n L rs env h nx cl C ρ a w,k' n L rs env h nx=true->CX ops al L=true->St D P g w0 N ops al bY pre ρ0 n L rs env h nx [] cl C ρ a w->jJ P ops (barT ops) Q' n cl C a w)->
   n=m+1->i∈Region.ready .any ops L->early ops al i=true->rE P g bG ih ops N al pre bY (fun L rs env h nx=>oN P g bG ih ops N al pre bY m L rs env h nx k') i L rs env h nx=true->
   wpOp P ops (mX Q') i (fun a' w'=> ∃C':Nat->World->Prop,(∀m,wo ops m i=false-> ∀u,C' m u->C m u)/\jJ P ops (barT ops) Q' M (cl.setIfInBounds i true) C' a' w') a w:=by
   intro Q' k' m i HK' h0 Ak he hk2
   subst h0
   unfold rE at hk2
   rw[gW]at hk2
   obtain⟨o,ho,hk2⟩:=ah hk2
   rw[aJ]at ho
   have ho:ops[i]?=some o:=by simpa using ho
   replace hk:=Ei (ops:=ops) S.F hk2
   have hM':m+pend.length=M:=by omega
   unfold wpOp
   rw[ho]
   dsimp only
   cases hw:Region.wanted o (yielded ops a.tmps)with
   |false=>
    rw[hw]at hk
    obtain⟨env',hk,hF',hv⟩:=BG S.F GR.undef hk
    rw[if_neg (by simp)]
    exact⟨C,fun _ _ _ h=>h,IH0 HK' m pend hM' _ rs env' h nx _ C ρ _ w hk (S.step Ak he hAl ho ⟨ρ.le_refl,Nat.le_refl _,fun _ _ _ h=>h⟩ S.H hF' hv S.pr S.UK S.GL)⟩
   |true=>
    rw[hw]at hk
    rw[if_pos rfl]
    have on: ∀r x ρ' h' nx' w',ρ.le ρ'/\nx<=nx'/\(∀j,j<nx->j≠bY+i->ρ j=none->ρ' j=none)->HR P g w0 ρ' h' nx' w'->GR ρ' r x->(iff (Ja h' pre) (JF ops i h' rs fun rs=>oP N env o.dst r fun env=>oN P g bG ih ops N al pre bY m (L.setIfInBounds i true) rs env h' nx' k'))=true->
     ∃C':Nat->World->Prop,(∀m,wo ops m i=false-> ∀u,C' m u->C m u)/\jJ P ops (barT ops) Q' M (cl.setIfInBounds i true) C' (a.put o.dst x) w':=fun r x ρ' h' nx' w' hE H' hx hk'=>by
     refine⟨fun m u=>wo ops m i=false->C m u,fun m hm u h=>h hm,?_⟩
     obtain⟨hp,hk'⟩:=aj hk'
     obtain⟨rs',hk',hr1,hr2⟩:=abB hk'
     obtain⟨env',hk',hF',hv⟩:=BG (S.F.mono hE.1) hx hk'
     exact IH0 HK' m pend hM' _ rs' env' h' nx' _ _ ρ' _ w' hk' (S.step Ak he hAl ho hE H' hF' hv (Qb hp) hr1 fun ρ'' h'' uJ w'' hl Tm q hq hd=>S.GL ρ'' h'' uJ w'' (hE.1.le_trans hl) Tm q fun p hp e=>hq p (hr2 p hp (by rw[e];exact hd)) e)
    dsimp only at hk
    split at hk
    ·rename_i t len parts hop
     obtain⟨ps,hk,hps⟩:=DW S.H S.F hk
     rw[gW]at hk
     have hlt:i<ops.size:=(Array.getElem?_eq_some_iff.1 ho).1
     obtain⟨v,x,ρ',h',w',hk,hle,hkeep,H',hx,hrun⟩:=Ii S.H (r:=bY+i) (by have:=S.up;omega) (by have:=S.g0;omega) (S.bs i o ho (by simp[bsB,hop]) (mem_ready.1 Ak).1) hps hk
     have hnext:=on v x ρ' h' nx w' ⟨hle,Nat.le_refl _,fun j _=>hkeep j⟩ H' hx hk
     refine .inl ?_
     obtain⟨dst,op,type,pos,after,guard⟩:=o
     dsimp only at hop
     subst hop
     unfold Oper.wp
     have e1:(List.map (fun p=>(p.1,a.eval p.2)) parts.toList).toArray=parts.map fun p=>(p.1,a.eval p.2):=by apply Array.ext';simp
     rw[e1]at hrun
     have e2:(execOp a.eval ({dst,op:= .buildSlice t len parts,type,pos,after,guard}:Oper)).run P w= .ok (.value x) w':=by
      show(Instr.buildSlice t len (parts.map fun p=>(p.1,a.eval p.2))>>=fun v=>pure (Next.value v):Sem Next).run P w=_
      rw[Sem.run_bind,hrun];rfl
     rw[e2,Oper.upon_value]
     exact hnext
    ·exact .inl (UZ hO hI S.H S.F hk _ _ fun r x ρ' h' nx' w' ids hk' hE H' hx=>on r x ρ' h' nx' w' ⟨hE.le,hE.up,fun j hj _=>hE.keep j hj⟩ H' hx hk')
  have lay: ∀j∈pend,wpOp P ops (mX Q) j (fun a' w'=> ∃C':Nat->World->Prop,(∀m,wo ops m j=false-> ∀u,C' m u->C m u)/\jJ P ops (barT ops) Q M (cl.setIfInBounds j true) C' a' w') a w:=fun j hj=>by
   obtain⟨oj,_,_,_,_,_,hoj,_⟩:=hAl j (S.sub j hj)
   have hj':j<ops.size:=(Array.getElem?_eq_some_iff.1 hoj).1
   refine acf (hAl j (S.sub j hj)) S.H S.g0 (by have:=S.up;omega) (S.unn j hj) S.pr fun o d w' ho hd H'=>⟨C,fun _ _ _ h=>h,?_⟩
   refine IH n (pend.erase j) ?_ L rs env h nx _ C _ _ w' hk (S.lay hAl hdist hj ho hd H')
   rw[List.length_erase_of_mem hj]
   have:0<pend.length:=List.length_pos_of_mem hj
   omega
  rcases Nh hk with⟨hn,hk⟩|⟨m,i,o,h0,hn,ho,hk2⟩|⟨m,i,h0,hn,hk2⟩|⟨m,i,js,h0,hn,hk2⟩
  ·by_cases hp:pend=[]
   ·subst hp
    obtain rfl:n=M+1:=by simpa using hM
    exact HK _ _ _ _ _ _ _ _ _ _ _ hk (Hf hn) S
   ·refine⟨S.cw,fun h0=>?_,fun i hi=>?_⟩
    ·obtain⟨j,hj⟩:=List.exists_mem_of_ne_nil _ hp
     have:=S.I8 hAl hj
     rw[h0]at this;cases this
    ·by_cases Dn:i∈pend
     ·exact lay i Dn
     ·exfalso
      obtain⟨hun,o,ho,hall⟩:=mem_ready.1 (S.Bv hi Dn)
      have hlt:=(Array.getElem?_eq_some_iff.1 ho).1
      have hE:=Hf hn
      simp only[CX,List.all_eq_true,List.mem_range,Bool.or_eq_true,Bool.not_eq_true']at hE
      have hE:=hE i hlt
      rw[hun]at hE
      rcases hcond i hlt with h1|h1|h1
      ·rw[S.Q8 i h1]at hun;cases hun
      ·rw[h1]at hE;rcases hE with hE|hE<;>cases hE
      ·obtain⟨j,hj⟩:=List.exists_mem_of_ne_nil _ hp
       simp only[late,ho,List.all_eq_true]at h1
       have h1:=h1 j (S.sub j hj)
       unfold Qr at h1
       rw[Array.any_eq_true']at h1
       obtain⟨e,he,h1⟩:=h1
       simp only[Bool.and_eq_true,beq_iff_eq]at h1
       obtain⟨_,o',ho',hall'⟩:=mem_ready.1 hi
       rw[ho]at ho';cases ho'
       have h2:=hall' e he h1.1
       rw[h1.2]at h2
       have h3:=S.unl j hj
       have hjlt:j<cl.size:=by
        rcases Nat.lt_or_ge j cl.size with h'|h'
        ·exact h'
        ·simp[Array.getElem?_eq_none h']at h3
       simp[hjlt]at h2 h3
       rw[h2]at h3;cases h3
  ·
   subst h0
   obtain⟨hr,he,hf,hb⟩:=Zk hn
   obtain⟨Dn,hic⟩:=S.Bq hr he
   replace hk:=Ei (ops:=ops) S.F hk2
   have hfree: ∀j oj,ops[j]?=some oj->j≠i->cl.getD j true=false->(∀e∈oj.after,Region.binds .any e=true->e.on≠i)->o.apart ops oj=true:=fun j oj hj hji hun hno=>by
    by_cases hjp:j∈pend
    ·simp only[early,ho,List.all_eq_true,Bool.and_eq_true]at he
     have:=(he j (S.sub j hjp)).2
     rw[hj]at this;exact this
    ·exact Region.free_spec ho hf j oj hj hji (by rw[S.rel j hjp];exact hun) hno
   have hbar:MG ops (barT ops) cl:=fun hB=>by
    have hsz:0<ops.size:=Nat.lt_of_le_of_lt (Nat.zero_le _) (Array.getElem?_eq_some_iff.1 ho).1
    have hu:=hb hB
    have hzp:ops.size-1∉pend:=fun hp=>by rw[S.Q8 _ (S.sub _ hp)]at hu;cases hu
    exact⟨ops.size-1,ops[ops.size-1]'(by omega),by simp,by rw[<-S.rel _ hzp];exact hu,SG hB⟩
   have hM':m+pend.length=M:=by omega
   cases hw:Region.wanted o (yielded ops a.tmps)with
   |false=>
    rw[hw]at hk
    obtain⟨env',hk,hF',hv⟩:=BG S.F GR.undef hk
    refine sN ho (Region.noSelect_spec hs) M cl C a w hfree S.cw S.clo hbar hic (.inr ⟨hw,rfl⟩) ?_
    exact IH m pend hM' _ rs env' h nx _ C ρ _ w hk (S.step hr he hAl ho ⟨ρ.le_refl,Nat.le_refl _,fun _ _ _ h=>h⟩ S.H hF' hv S.pr S.UK S.GL)
   |true=>
    rw[hw]at hk
    obtain⟨r,x,ρ',h',nx',ids,hk,hE,hx,hnn,hmono,hH,hrun⟩:=Zd S.H S.F hk
    obtain⟨l,hk,_,q2,q3⟩:=aes hk
    rw[iF]at hk
    obtain⟨env',hk,hF',hv⟩:=BG (S.F.mono hE.le) hx hk
    let C':Nat->World->Prop:=fun q u=>C q u/\(q=i-> ∀id∈ids,∀o,h.get id=some o->Ob P ρ id o u)
    have hC': ∀q,C' q w:=fun q=>⟨S.cw q,fun _ id hid o ho=>S.H.objs id o ho (hnn id hid)⟩
    refine FQ (C:=C') (fun _ _ h=>h.1) ?_
    refine sN ho (Region.noSelect_spec hs) M cl C' a w hfree hC' S.clo hbar hic (.inl ⟨hw,fun u hu=>hrun u (hu.2 rfl)⟩) ?_
    refine IH m pend hM' _ _ env' h' nx' _ C' ρ' _ w hk (S.step hr he hAl ho ⟨hE.le,hE.up,fun j hj _=>hE.keep j hj⟩ (hH w S.H) hF' hv (fun p hp=>hmono _ _ (S.pr p hp)) (fun p hp=>?_) fun ρ'' h'' uJ w'' hl Tm q hrs=>⟨?_,fun e id hid ob hob=>?_⟩)
    ·rcases Hq.1 hp with⟨_,h1⟩|h1
     ·rcases q3 _ h1 with h1|h1
      ·cases h1
      ·exact h1
     ·exact hmono _ _ (S.UK p h1)
    ·exact S.GL ρ'' h'' uJ w'' (hE.le.le_trans hl) Tm q fun p hp e=>hrs p (Hq.2 (.inr hp)) e
    ·obtain⟨ob',ho',hm⟩:=q2 id hid
     have e1:=hmono _ _ hob
     rw[ho']at e1;cases e1
     have hget:=hrs (i,(id,ob)) (Hq.2 (.inl ⟨rfl,hm⟩)) e.symm
     obtain⟨y,hy⟩:=Option.ne_none_iff_exists'.1 (hnn id hid)
     have hle:=hE.le.le_trans hl
     exact(S.H.objs id _ hob (hnn id hid)).back hle (Tm.ob hget (hle _ _ hy))
  ·
   obtain⟨hr,he⟩:=abj hn
   have Ak:i∈Region.ready .any ops L:=by rw[hr];simp
   obtain⟨Dn,hic⟩:=S.Bq Ak he
   refine⟨S.cw,fun h0=>(by rw[h0]at hic;cases hic),fun j hj=>?_⟩
   by_cases hjp:j∈pend
   ·exact lay j hjp
   ·have hj':=S.Bv hj hjp
    rw[hr]at hj'
    obtain rfl:j=i:=by simpa using hj'
    exact one HK h0 Ak he hk2
  ·
   obtain⟨hr,hal⟩:=abk hn
   have hnp: ∀j,j∉pend:=fun j hj=>by have:=S.sub j hj;rw[hal]at this;cases this
   have JL: ∀j∈Region.ready .any ops L,early ops al j=true:=fun j hj=>by
    obtain⟨_,o,ho,_⟩:=mem_ready.1 hj
    simp[early,ho,hal]
   have Ak:i∈Region.ready .any ops L:=by rw[hr];simp
   obtain⟨_,hic⟩:=S.Bq Ak (JL i Ak)
   refine⟨S.cw,fun h0=>(by rw[h0]at hic;cases hic),fun j hj=>?_⟩
   have hj':=S.Bv hj (hnp j)
   have hj2:=hj'
   rw[hr]at hj2
   cases hj2 with
   |head=>exact one (fun n L rs env h nx cl C ρ a w hk=>HK n L rs env h nx cl C ρ a w (aj hk).2) h0 Ak (JL _ Ak) hk2
   |tail _ hj2=>
    have h1:=one (Q':=fun _ _=> ∃n1 L1 Dc kX h1 Di,(iff (SX js fun j=>rE P g bG ih ops N al pre bY (fun L0 zY qP h0 BK=>oN P g bG ih ops N al pre bY m L0 zY qP h0 BK (IU n1 L1 Dc kX h1 Di)) j L rs env h nx) (k n1 L1 Dc kX h1 Di))=true)
     (fun n L rs env h nx cl C ρ a w hk hE S=>by
       have:=HK n L rs env h nx cl C ρ a w (aj hk).2 hE S
       exact MI (fun _ _ _=>⟨_,_,_,_,_,_,hk⟩) this) h0 Ak (JL _ Ak) hk2
    obtain⟨a1,w1,C1,_,h1⟩:=Uo h1
    obtain⟨_,_,n1,L1,Dc,kX,h1,Di,h2⟩:=MJ M h1
    obtain⟨h3,h4⟩:=aj h2
    exact one (fun n L rs env h nx cl C ρ a w hk hE S=>by
     obtain⟨rfl,rfl,rfl,rfl,rfl,rfl⟩:=aaX hk
     exact HK _ _ _ _ _ _ cl C ρ a w h4 hE S) h0 hj' (JL j hj') (aer h3 j hj2)
end
end bU
end
end Go.Proofs.YtakhobfamnjnoaaGreatDoor
