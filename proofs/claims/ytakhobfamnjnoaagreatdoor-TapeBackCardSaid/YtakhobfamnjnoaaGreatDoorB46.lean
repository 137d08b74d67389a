/- The machine's regions whose order is drawn tell the truth. -/
import Derived.Test.YtakhobfamnjnoaaGreatDoorB45
set_option linter.unusedVariables false
set_option linter.unusedSimpArgs false
namespace Go.Proofs.YtakhobfamnjnoaaGreatDoor
section
namespace bC
open Go Go.RowKit
theorem BO {α β:Type}{R S:α->β->Prop}(h: ∀a b b',R a b->S a b'->R a b'){l:List α}{m:List β}(hl:F2 R l m): ∀{m':List β},F2 S l m'->F2 R l m':=by
 induction hl with
 |nil=>intro m' h';cases h';exact .nil
 |cons a _ ih=>intro m' h';cases h' with
  |cons b t=>exact .cons (h _ _ _ a b) (ih t)
section
variable {P:Program} {ρ ρ':Ren}
theorem G.back (hρ:ρ.le ρ'){v:CV}{x y:Value}(h:G ρ v x)(h':G ρ' v y):G ρ v y:=by
 have:=G.CQ (h.mono hρ) h'
 subst this
 exact h
theorem GA.back (hρ:ρ.le ρ'){v:AV}{x y:Value}(h:GA ρ v x)(h':GA ρ' v y):GA ρ v y:=by
 have:=GA.CQ (h.mono hρ) h'
 subst this
 exact h
theorem GR.back (hρ:ρ.le ρ'){v:RV}{x y:Value}(h:GR ρ v x)(h':GR ρ' v y):GR ρ v y:=by
 cases h with
 |c h=>cases h' with
  |c h'=>exact .c (G.back hρ h h')
 |agg h=>cases h' with
  |agg h'=>exact .agg (BO (R:=G ρ) (S:=G ρ') (fun _ _ _ h1 h2=>G.back hρ h1 h2) h h')
 |aN h=>cases h' with
  |aN h'=>exact .aN (BO (R:=GA ρ) (S:=GA ρ') (fun _ _ _ h1 h2=>GA.back hρ h1 h2) h h')
theorem GE.back (hρ:ρ.le ρ'){v:ME}{x y:MapEntry}(h:GE ρ v x)(h':GE ρ' v y):GE ρ v y:=⟨GA.back hρ h.1 h'.1,GA.back hρ h.2.1 h'.2.1,h'.2.2⟩
theorem Ob.back (hρ:ρ.le ρ'){id:Nat}{o:AO}{w w':World}(h:Ob P ρ id o w)(h':Ob P ρ' id o w'):Ob P ρ id o w':=by
 cases h with
 |row hr hh hc hcap hsz hm=>cases h' with
  |row hr' hh' hc' hcap' hsz' hm'=>
   have e:=hρ _ _ hr
   rw[hr']at e;cases e
   exact .row hr hh' (fun j v hv=>let⟨x,h1,_⟩:=hc j v hv;let⟨y,h3,h4⟩:=hc' j v hv;⟨y,h1.back hρ h3,h4⟩) hcap hsz' hm
 |ro hr hh hc=>cases h' with
  |ro hr' hh' hc'=>
   have e:=hρ _ _ hr
   rw[hr']at e;cases e
   exact .ro hr hh' (fun j v hv=>let⟨x,h1,_⟩:=hc j v hv;let⟨y,h3,h4⟩:=hc' j v hv;⟨y,h1.back hρ h3,h4⟩)
 |map hr hh hx=>cases h' with
  |map hr' hh' hx'=>
   have e:=hρ _ _ hr
   rw[hr']at e;cases e
   exact .map hr hh' (BO (R:=GE ρ) (S:=GE ρ') (fun _ _ _ h1 h2=>GE.back hρ h1 h2) hx hx')
 |chan hr hh hx=>cases h' with
  |chan hr' hh' hx'=>
   have e:=hρ _ _ hr
   rw[hr']at e;cases e
   exact .chan hr hh' (BO (R:=GA ρ) (S:=GA ρ') (fun _ _ _ h1 h2=>GA.back hρ h1 h2) hx hx')
 |sit hr hh hs=>cases h' with
  |sit hr' hh' hs'=>
   have e:=hρ _ _ hr
   rw[hr']at e;cases e
   exact .sit hr hh' hs
 |dN hr hm hh=>cases h' with
  |dN hr' hm' hh'=>
   have e:=hρ _ _ hr
   rw[hr']at e;cases e
   have e:=hρ _ _ hm
   rw[hm']at e;cases e
   exact .dN hr hm hh'
 |clo hr hx hy=>exact .clo hr hx hy
 |eF hr hx=>exact .eF hr hx
 |jd hr hh=>cases h' with
  |jd hr' hh'=>
   have e:=hρ _ _ hr
   rw[hr']at e;cases e
   exact .jd hr hh'
 |any hr=>exact .any hr
 |loop hr hh hn he hp ha hd hs hq=>cases h' with
  |loop hr' hh' hn' he' hp' ha' hd' hs' hq'=>
   have e:=hρ _ _ hr
   rw[hr']at e;cases e
   exact .loop hr hh' hn' (fun i v hv=>let⟨x,_,h2⟩:=he i v hv;let⟨y,h3,h4⟩:=he' i v hv;⟨y,h3,h2.back hρ h4⟩) hp' ha' hd' hs' hq'
end
section
variable {P:Program} {g:Nat} {w0:World} {ρ:Ren} {h:Hp} {nx:Nat} {w:World} {N:Nat} {env:Env} {a:Act} {D:List Deferred}
theorem aaS {h:Hp}{ids:List Nat}: ∀{rs:List (Nat×AO)}{k:List (Nat×AO)->Bool},Uf h ids rs k=true-> ∃rs',k rs'=true/\(∀p∈rs,p∈rs')/\(∀id∈ids,∃o,h.get id=some o/\(id,o)∈rs')/\ ∀p∈rs',p∈rs\/h.get p.1=some p.2:=by
 induction ids with
 |nil=>intro rs k hk;exact⟨rs,hk,fun _ h=>h,fun _ h=>(by cases h),fun _ h=> .inl h⟩
 |cons i ids ih=>
  intro rs k hk
  obtain⟨o,ho,hk⟩:=ah hk
  obtain⟨rs',hk,h1,h2,h3⟩:=ih (rs:=(i,o)::rs) hk
  refine⟨rs',hk,fun p hp=>h1 p (by simp[hp]),fun id hid=>?_,fun p hp=>?_⟩
  ·rcases List.mem_cons.1 hid with rfl|hid
   ·exact⟨o,ho,h1 _ (by simp)⟩
   ·exact h2 id hid
  ·rcases h3 p hp with h|h
   ·rcases List.mem_cons.1 h with rfl|h
    ·exact .inr ho
    ·exact .inl h
   ·exact .inr h
theorem Ls {h:Hp}{rs:List (Nat×AO)}(hk:EJ h rs=true): ∀p∈rs,h.get p.1=some p.2:=by
 induction rs with
 |nil=>intro p hp;cases hp
 |cons q rs ih=>
  obtain⟨o,ho,hk⟩:=ah hk
  obtain⟨h1,hk⟩:=aj hk
  have h1:o=q.2:=Gw h1
  intro p hp
  rcases List.mem_cons.1 hp with rfl|hp
  ·rw[ho,h1]
  ·exact ih hk p hp
theorem PL {h:Hp}{rs:RS}(hk:RD h rs=true): ∀p∈rs,h.get p.2.1=some p.2.2:=by
 induction rs with
 |nil=>intro p hp;cases hp
 |cons q rs ih=>
  obtain⟨o,ho,hk⟩:=ah hk
  obtain⟨h1,hk⟩:=aj hk
  have h1:o=q.2.2:=Gw h1
  intro p hp
  rcases List.mem_cons.1 hp with rfl|hp
  ·rw[ho,h1]
  ·exact ih hk p hp
theorem Yd {ops:Array Oper}{i:Nat}{h:Hp}{rs:RS}{k:RS->Bool}(hk:FC ops i h rs k=true): ∃rs',k rs'=true/\(∀p∈rs',h.get p.2.1=some p.2.2)/\ ∀p∈rs,sN ops p.1 i=false->p∈rs':=by
 unfold FC at hk
 cases hr:RD h rs with
 |true=>rw[hr]at hk;exact⟨rs,hk,PL hr,fun _ h _=>h⟩
 |false=>
  rw[hr]at hk
  dsimp only at hk
  rw[eP]at hk
  obtain⟨h1,hk⟩:=aj hk
  exact⟨_,hk,PL h1,fun p hp hd=>List.mem_filter.2 ⟨hp,by rw[hd];rfl⟩⟩
theorem DC {i:Nat}{l:List (Nat×AO)}{rs:RS}{p:Nat×(Nat×AO)}:p∈GV i l rs↔(p.1=i/\p.2∈l)\/p∈rs:=by
 induction l with
 |nil=>simp[GV]
 |cons q l ih=>
  show p∈(i,q)::GV i l rs↔_
  obtain⟨x,y⟩:=p
  rw[List.mem_cons,ih]
  simp only[Prod.mk.injEq,List.mem_cons]
  constructor
  ·rintro(⟨h1,h2⟩|⟨h1,h2⟩|h)
   ·exact .inl ⟨h1, .inl h2⟩
   ·exact .inl ⟨h1, .inr h2⟩
   ·exact .inr h
  ·rintro(⟨h1,h2|h2⟩|h)
   ·exact .inl ⟨h1,h2⟩
   ·exact .inr (.inl ⟨h1,h2⟩)
   ·exact .inr (.inr h)
theorem HR.lay (H:HR P g w0 ρ h nx w){id:Nat}(hid:id<nx)(hn:ρ id=none){o:Option AO}{h':Hp}(hh: ∀m,h'.get m=if m=id then o else h.get m):HR P g w0 ρ h' nx w:=by
 refine⟨H.fresh,H.pX,fun i p hp hi=>?_,fun i j oi oj b hi hj bi bj=>?_,H.own,H.lt,H.kept,H.glob,fun i hi=>by rw[hh,if_neg (by omega)];exact H.hfr i hi⟩
 ·have:i≠id:=fun e=>by subst e;exact hi hn
  rw[hh,if_neg this]at hp
  exact H.objs i p hp hi
 ·have hb: ∀{i b},gI ρ i b->i≠id:=fun⟨_,_,hb⟩ e=>by subst e;rw[hn]at hb;cases hb
  rw[hh,if_neg (hb bi)]at hi
  rw[hh,if_neg (hb bj)]at hj
  exact H.inj i j _ _ b hi hj bi bj
theorem HR.widen (H:HR P g w0 ρ h nx w){nx':Nat}(hl:nx<=nx'):HR P g w0 ρ h nx' w:=
 ⟨fun i hi=>H.fresh i (by omega),by have:=H.pX;omega,H.objs,H.inj,H.own,H.lt,H.kept,H.glob,fun i hi=>H.hfr i (by omega)⟩
theorem HR.fill (H:HR P g w0 ρ h nx w){r:Nat}(hr:r<nx)(hg:g<=r)(hn:ρ r=none){cells:List CV}{e:TypeId}(ho:h.get r=some (.row cells e (some 0))){xs:List Value}(hx:F2 (G ρ) cells xs):
 HR P g w0 (ρ.put r (.blk w.heap.size 0 0)) h nx (w.alloc (.cells xs.toArray e)):=by
 have hle:=Ren.jq hn (.blk w.heap.size 0 0)
 have hb: ∀id b,gI (ρ.put r (.blk w.heap.size 0 0)) id b->(id=r/\b=w.heap.size)\/(id≠r/\gI ρ id b):=fun id b ⟨bs,cp,hb⟩=>by
  unfold Ren.put at hb
  split at hb
  ·rename_i e;cases hb;exact .inl ⟨e,rfl⟩
  ·exact .inr ⟨by assumption,_,_,hb⟩
 have hle0:w0.heap.size<=w.heap.size:=H.kept.size
 refine⟨fun id hid=>?_,H.pX,fun id p hp hid=>?_,fun i j oi oj b hi hj bi bj=>?_,fun id b hid hg=>?_,fun id b hid=>?_,?_,fun i hi=>(H.glob i hi).imp fun _ h=>hle _ _ h,H.hfr⟩
 ·unfold Ren.put;rw[if_neg (by omega)];exact H.fresh id hid
 ·by_cases e:id=r
  ·subst e
   rw[ho]at hp;cases hp
   refine .row (Ren.dF _ _ _) (heap_alloc_new _ _) (fun j v hv=>?_) (fun m hm=>by cases hm;exact⟨rfl,fun _=>rfl⟩) (by simp) (by simp)
   obtain⟨x,h1,h2⟩:=dQ hx hv
   exact⟨x,h2.mono hle,by simpa using h1⟩
  ·rw[Ren.jc e]at hid
   exact((H.objs id p hp hid).frame (fun b _ hb=>Below.heap_alloc _ _ _ hb)).mono hle
 ·rcases hb _ _ bi with⟨ei,eb⟩|⟨ni,bi⟩<;>rcases hb _ _ bj with⟨ej,eb'⟩|⟨nj,bj⟩
  ·rw[ei,ej]
  ·exact absurd (H.lt _ _ bj) (by omega)
  ·exact absurd (H.lt _ _ bi) (by omega)
  ·exact H.inj i j _ _ b hi hj bi bj
 ·rcases hb _ _ hid with⟨_,eb⟩|⟨_,hid⟩
  ·omega
  ·exact H.own id b hid hg
 ·rw[World.size_alloc]
  rcases hb _ _ hid with⟨_,eb⟩|⟨_,hid⟩
  ·omega
  ·have:=H.lt id b hid;omega
 ·exact⟨H.kept.os,H.kept.tape,H.kept.output,by rw[World.size_alloc];omega,fun k hk=>(Below.heap_alloc _ _ _ (by omega)).trans (H.kept.block k hk)⟩
theorem Vs {l:List Value}: ∀{k:List CV->Bool},J4 l k=true-> ∃cs,k cs=true/\ ∀ρ,F2 (G ρ) cs l:=by
 induction l with
 |nil=>intro k h;exact⟨[],h,fun _=> .nil⟩
 |cons v l ih=>
  intro k h
  obtain⟨c,hc,h⟩:=ah h
  rw[TK]at h
  obtain⟨cs,hk,hl⟩:=ih h
  exact⟨_,hk,fun ρ=> .cons (LZ hc) (hl ρ)⟩
def Q9 (P:Program)(ops:Array Oper)(bF:Nat)(pre:List (Nat×AO))(i:Nat):Prop:=
 ∃o t d cs inf z,ops[i]?=some o/\o.op= .alloc t/\o.guard=none/\(∀e∈o.after,False)/\o.dst=some d/\P.info? t=some inf/\inf.zero=some z/\(∀ρ,F2 (G ρ) cs z.cells.toList)/\(bF+i,AO.row cs t (some 0))∈pre
theorem Z4 {ops:Array Oper}{bF nx:Nat}(hnx:bF+ops.size<=nx): ∀{al:List Nat}{env:Env}{h:Hp}{pre:List (Nat×AO)}{k:Env->Hp->List (Nat×AO)->Bool},(∀i∈al,Ot ops i=true)->(∀i∈al,ρ (bF+i)=none)->HR P g w0 ρ h nx w->Fr D ρ N env a->abm P ops bF al env h pre k=true->
 ∃env' h' pre',k env' h' pre'=true/\HR P g w0 ρ h' nx w/\Fr D ρ N env' a/\(∀p∈pre,p∈pre')/\(∀d,env.get d=none->env'.get d=none)/\ ∀i∈al,Q9 P ops bF pre' i/\ ∀o d,ops[i]?=some o->o.dst=some d->env'.get d=none:=by
 intro al
 induction al with
 |nil=>intro env h pre k _ _ H hF hk;exact⟨env,h,pre,hk,H,hF,fun _ h=>h,fun _ h=>h,fun _ h=>(by cases h)⟩
 |cons i al ih=>
  intro env h pre k hal hn H hF hk
  obtain⟨o,ho,hk⟩:=ah hk
  obtain⟨d,hd,hk⟩:=ah hk
  try simp only[aB,aC,aO]at hd
  rw[aF]at ho
  have ho:ops[i]?=some o:=by simpa using ho
  have hi:i<ops.size:=(Array.getElem?_eq_some_iff.1 ho).1
  split at hk
  ·rename_i t hop
   obtain⟨inf,TB,hk⟩:=ah hk
   try simp only[aB,aC,aO]at TB
   obtain⟨z,hz,hk⟩:=ah hk
   obtain⟨cs,hk,hcs⟩:=Vs hk
   rw[dY]at hk
   obtain⟨h1,hk,hh1⟩:=Tr.aW hk
   obtain⟨jw,hk,hh2⟩:=Tr.aW hk
   have hni:=hn i (by simp)
   have hF1:Fr D ρ N jw a:=⟨fun j v hv=>by
    rw[hh2]at hv
    split at hv
    ·cases hv
    ·exact hF.er j v hv,hF.size,hF.jd⟩
   have H1:=H.lay (by omega:bF+i<nx) hni hh1
   obtain⟨env',h',pre',hk,H',hF',q1,q2,q3⟩:=ih (fun j hj=>hal j (by simp[hj])) (fun j hj=>hn j (by simp[hj])) H1 hF1 hk
   have hnone: ∀d,env.get d=none->jw.get d=none:=fun d hd=>by rw[hh2];split;rfl;exact hd
   have hself:jw.get d=none:=by rw[hh2,if_pos rfl]
   refine⟨env',h',pre',hk,H',hF',fun p hp=>q1 p (by simp[hp]),fun d hd=>q2 d (hnone d hd),fun j hj=>?_⟩
   rcases List.mem_cons.1 hj with rfl|hj
   ·have hA:=hal j (by simp)
    simp only[Ot,ho,abY,hop,Bool.and_eq_true,Bool.true_and]at hA
    obtain⟨⟨hg,ha⟩,_⟩:=hA
    refine⟨⟨o,t,d,cs,inf,z,ho,hop,by simpa using hg,fun e he=>?_,hd,TB,hz,hcs,q1 _ (List.mem_cons_self)⟩,fun o' d' ho' hd'=>?_⟩
    ·have ha:o.after.toList=[]:=by simpa using ha
     have:e∈o.after.toList:=by simpa using he
     rw[ha]at this;cases this
    ·rw[ho]at ho';cases ho'
     rw[hd]at hd';cases hd'
     exact q2 _ hself
   ·exact q3 j hj
  ·cases hk
theorem YM {ops:Array Oper}{bF:Nat}{pre:List (Nat×AO)}{i:Nat}(hA:Q9 P ops bF pre i)(H:HR P g w0 ρ h nx w)(hg:g<=bF)(hnx:bF+i<nx)(hn:ρ (bF+i)=none)(hp: ∀p∈pre,h.get p.1=some p.2){Q:Exit->Act->World->Prop}{K:Act->World->Prop}
 (hK: ∀o d w',ops[i]?=some o->o.dst=some d->HR P g w0 (ρ.put (bF+i) (.blk w.heap.size 0 0)) h nx w'->K (a.put (some d) (.pointer (some ⟨w.heap.size,0,none⟩))) w'):wpOp P ops Q i K a w:=by
 obtain⟨o,t,d,cs,inf,z,ho,hop,hgd,_,hd,TB,hz,hcs,hpre⟩:=hA
 have H':=H.fill hnx (by omega) hn (hp _ hpre) (hcs ρ)
 have hk:=hK o d _ ho hd H'
 obtain⟨dst,op,type,pos,after,guard⟩:=o
 cases hop;cases hgd;cases hd
 unfold wpOp
 rw[ho]
 have hw:Region.wanted ({dst:=some d,op:= .alloc t,type,pos,after,guard:=none}:Oper) (yielded ops a.tmps)=true:=by simp[Region.wanted]
 dsimp only
 rw[if_pos hw]
 refine .inl ?_
 unfold Oper.wp
 have hrun:(execOp a.eval ({dst:=some d,op:= .alloc t,type,pos,after,guard:=none}:Oper)).run P w= .ok (.value (.pointer (some ⟨w.heap.size,0,none⟩))) (w.alloc (.cells z.cells.toList.toArray t)):=by
  have:execOp a.eval ({dst:=some d,op:= .alloc t,type,pos,after,guard:=none}:Oper)=(Instr.alloc t true (.tuple #[])>>=fun v=>pure (.value v)):=rfl
  rw[this]
  simp[Instr.alloc,zeroValue,typeInfo,TB,hz,newVar,newRow]
 rw[hrun,Oper.upon_value]
 exact hk
theorem XJ {ops:Array Oper}{bF:Nat}: ∀{al:List Nat}{env:Env}{k:Env->Bool},(∀i∈al,∀o d,ops[i]?=some o->o.dst=some d-> ∃b,ρ (bF+i)=some (.blk b 0 0)/\(d<N->a.tmps[d]?=some (.pointer (some ⟨b,0,none⟩))))->Fr D ρ N env a->RY ops N bF al env k=true-> ∃env',k env'=true/\Fr D ρ N env' a:=by
 intro al
 induction al with
 |nil=>intro env k _ hF hk;exact⟨env,hk,hF⟩
 |cons i al ih=>
  intro env k hA hF hk
  obtain⟨o,ho,hk⟩:=ah hk
  rw[aF]at ho
  have ho:ops[i]?=some o:=by simpa using ho
  rw[dY]at hk
  have key: ∃env',RY ops N bF al env' k=true/\Fr D ρ N env' a:=by
   cases hd:o.dst with
   |none=>rw[hd]at hk;exact⟨env,hk,hF⟩
   |some d=>
    rw[hd]at hk
    obtain⟨hdN,hk⟩:=aj hk
    have hdN:d<N:=aK hdN
    obtain⟨env',hk,hh⟩:=Tr.aW hk
    obtain⟨b,hb,ht⟩:=hA i (by simp) o d ho hd
    refine⟨env',hk,fun j v hv=>?_,hF.size,hF.jd⟩
    rw[hh]at hv
    split at hv
    ·rename_i e
     cases hv;subst e
     exact⟨_,ht hdN, .c (.ptr 0 hb)⟩
    ·exact hF.er j v hv
  obtain⟨env',hk,hF'⟩:=key
  exact ih (fun j hj=>hA j (by simp[hj])) hF' hk
end
end bC
end
section
namespace bC
open Go Go.RowKit
theorem aao {ops:Array Oper}{al:List Nat}{L:Array Bool}{i:Nat}(h1:wO ops al L i=true):early ops al i=true/\Region.free .any ops L i=true/\(barT ops=true->L.getD (ops.size-1) true=false):=by
 unfold wO at h1
 simp only[Bool.and_eq_true,Bool.or_eq_true,Bool.not_eq_true']at h1
 refine⟨h1.1.1.1,h1.1.2,fun hb=>?_⟩
 rcases h1.2 with h|h
 ·rw[hb]at h;cases h
 ·exact h
theorem BI {ops:Array Oper}{al:List Nat}{L:Array Bool}:match sQ ops al L with
 | .done=>zD ops al L=true
 | .float i=>i∈Region.ready .any ops L/\wO ops al L i=true
 | .loud i=>Region.ready .any ops L=[i]/\early ops al i=true
 | .fork i js=>Region.ready .any ops L=i::js/\al=[]
 | .bad=>True:=by
 unfold sQ
 dsimp only
 generalize Region.ready .any ops L=r
 cases h1:r.find? (fun i=>Vb ops i&&wO ops al L i)with
 |some i=>
  have h2:=List.find?_some h1
  simp only[Bool.and_eq_true]at h2
  exact⟨List.mem_of_find?_eq_some h1,h2.2⟩
 |none=>
  clear h1
  dsimp only
  cases hE:zD ops al L with
  |true=>simp only[↓reduceIte]
  |false=>
   simp only[Bool.false_eq_true,if_false]
   have rest:match(match r.find? (wO ops al L)with
    |some i=>Nxt.float i
    |none=>(match r with
     |i::j::js=>if al.isEmpty then .fork i (j::js)else .bad
     |_=> .bad))with
    | .done=>zD ops al L=true
    | .float i=>i∈r/\wO ops al L i=true
    | .loud i=>r=[i]/\early ops al i=true
    | .fork i js=>r=i::js/\al=[]
    | .bad=>True:=by
    cases h3:r.find? (wO ops al L)with
    |some i=>exact⟨List.mem_of_find?_eq_some h3,List.find?_some h3⟩
    |none=>
     rcases r with _|⟨i,_|⟨j,js⟩⟩
     ·trivial
     ·trivial
     ·dsimp only
      cases ha:al.isEmpty with
      |true=>exact⟨rfl,by simpa using ha⟩
      |false=>trivial
   rcases r with _|⟨i,_|⟨j,js⟩⟩
   ·exact rest
   ·dsimp only
    cases he:early ops al i with
    |true=>exact⟨rfl,he⟩
    |false=>trivial
   ·clear rest
    dsimp only
    cases h3:List.find? (wO ops al L) (i::j::js)with
    |some m=>exact⟨List.mem_of_find?_eq_some h3,List.find?_some h3⟩
    |none=>
     dsimp only
     cases ha:al.isEmpty with
     |true=>exact⟨rfl,by simpa using ha⟩
     |false=>trivial
theorem Dw {ops:Array Oper}{al:List Nat}{L:Array Bool}(h:sQ ops al L= .done):zD ops al L=true:=by
 have:=BI (ops:=ops) (al:=al) (L:=L);rw[h]at this;exact this
theorem Vu {ops:Array Oper}{al:List Nat}{L:Array Bool}{i:Nat}(h:sQ ops al L= .float i):i∈Region.ready .any ops L/\early ops al i=true/\Region.free .any ops L i=true/\(barT ops=true->L.getD (ops.size-1) true=false):=by
 have:=BI (ops:=ops) (al:=al) (L:=L);rw[h]at this;exact⟨this.1,aao this.2⟩
theorem XR {ops:Array Oper}{al:List Nat}{L:Array Bool}{i:Nat}(h:sQ ops al L= .loud i):Region.ready .any ops L=[i]/\early ops al i=true:=by
 have:=BI (ops:=ops) (al:=al) (L:=L);rw[h]at this;exact this
theorem XT {ops:Array Oper}{al:List Nat}{L:Array Bool}{i:Nat}{js:List Nat}(h:sQ ops al L= .fork i js):Region.ready .any ops L=i::js/\al=[]:=by
 have:=BI (ops:=ops) (al:=al) (L:=L);rw[h]at this;exact this
section
variable {P:Program} {g:Nat} {w0:World} {ρ:Ren} {h:Hp} {nx:Nat} {w:World} {N:Nat} {env:Env} {a:Act} {D:List Deferred}
theorem yN {d:Option Tmp}{v:RV}{k:Env->Bool}{x:Value}(hF:Fr D ρ N env a)(hx:GR ρ v x)(hk:lZ N env d v k=true): ∃env',k env'=true/\Fr D ρ N env' (a.put d x)/\ ∀j,d≠some j->env'.get j=env.get j:=by
 cases d with
 |none=>exact⟨env,hk,hF,fun _ _=>rfl⟩
 |some d=>
  obtain⟨hd,hk⟩:=aj hk
  have hd:d<N:=aK hd
  obtain⟨env',hk,hh⟩:=Tr.aW hk
  refine⟨env',hk,⟨fun i r hr=>?_,by simp[Act.put,hF.size],hF.jd⟩,fun j hj=>by rw[hh,if_neg (fun e=>hj (by rw[e]))]⟩
  rw[hh]at hr
  split at hr
  ·rename_i e
   cases hr;subst e
   exact⟨x,by simp[Act.put,hF.size,hd],hx⟩
  ·rename_i hne
   obtain⟨y,h1,h2⟩:=hF.er i r hr
   exact⟨y,by simp only[Act.put];rw[Array.getElem?_setIfInBounds_ne (Ne.symm hne)];exact h1,h2⟩
theorem Dp {a:Act}{d:Option Tmp}{x:Value}{j:Tmp}(h:d≠some j):(a.put d x).tmps[j]?=a.tmps[j]?:=by
 cases d with
 |none=>rfl
 |some d=>simp only[Act.put];rw[Array.getElem?_setIfInBounds_ne (fun e=>h (by rw[e]))]
def bsB (o:Oper):Bool:=match o.op with| .buildSlice .. =>true|_=>false
structure St (D:List Deferred)(P:Program)(g:Nat)(w0:World)(N:Nat)(ops:Array Oper)(al:List Nat)(bF:Nat)(pre:List (Nat×AO))(ρ0:Ren)(n:Nat)(L:Array Bool)(rs:RS)(env:Env)(h:Hp)(nx:Nat)(pend:List Nat)(cl:Array Bool)(C:Nat->World->Prop)(ρ:Ren)(a:Act)(w:World):Prop where
 H:HR P g w0 ρ h nx w
 F:Fr D ρ N env a
 up:bF+ops.size<=nx
 g0:g<=bF
 ext:Ext bF nx ρ0 ρ
 s1:L.size=ops.size
 s2:cl.size=ops.size
 clo:Closed ops cl
 rel: ∀j,j∉pend-> ∀d,L.getD j d=cl.getD j d
 Nb: ∀j∈al,∀d,L.getD j d=true
 Y1: ∀j∈pend,cl.getD j true=false
 sub: ∀j∈pend,j∈al
 nd:pend.Nodup
 Y0: ∀j∈pend,ρ (bF+j)=none
 done: ∀i∈al,i∉pend-> ∀o d,ops[i]?=some o->o.dst=some d-> ∃b,ρ (bF+i)=some (.blk b 0 0)/\(d<N->a.tmps[d]?=some (.pointer (some ⟨b,0,none⟩)))
 non: ∀i∈al,∀o d,ops[i]?=some o->o.dst=some d->env.get d=none
 pr: ∀p∈pre,h.get p.1=some p.2
 PS: ∀p∈rs,h.get p.2.1=some p.2.2
 bs: ∀i o,ops[i]?=some o->bsB o=true->L.getD i true=false->ρ (bF+i)=none
 Dh: ∀ρ' h' nx' w',ρ.le ρ'->HR P g w0 ρ' h' nx' w'-> ∀m,(∀p∈rs,p.1=m->h'.get p.2.1=some p.2.2)->C m w'
section
variable {ops:Array Oper} {al:List Nat} {bF:Nat} {pre:List (Nat×AO)} {ρ0:Ren} {n:Nat} {L:Array Bool} {rs:RS} {pend:List Nat} {cl:Array Bool} {C:Nat->World->Prop}
theorem St.cw (S:St D P g w0 N ops al bF pre ρ0 n L rs env h nx pend cl C ρ a w): ∀m,C m w:=fun m=>S.Dh ρ h nx w ρ.le_refl S.H m fun p hp _=>S.PS p hp
theorem St.yJ (S:St D P g w0 N ops al bF pre ρ0 n L rs env h nx pend cl C ρ a w){i:Nat}(hi:i∈Region.ready .any ops L)(he:early ops al i=true):i∉pend/\i∈Region.ready .any ops cl:=by
 obtain⟨hun,o,ho,hall⟩:=mem_ready.1 hi
 have zO:i∉pend:=fun hp=>by rw[S.Nb i (S.sub i hp)]at hun;cases hun
 refine⟨zO,mem_ready.2 ⟨by rw[<-S.rel i zO];exact hun,o,ho,fun e hee hb=>?_⟩⟩
 have hl:=hall e hee hb
 have hon:e.on∉pend:=fun hp=>by
  simp only[early,ho,List.all_eq_true,Bool.and_eq_true,Bool.not_eq_true']at he
  have:=(he e.on (S.sub _ hp)).1
  have h2:LV o e.on=true:=by
   unfold LV
   rw[Array.any_eq_true']
   exact⟨e,hee,by rw[hb];simp⟩
  rw[h2]at this;cases this
 rw[<-S.rel _ hon];exact hl
theorem St.yK (S:St D P g w0 N ops al bF pre ρ0 n L rs env h nx pend cl C ρ a w){i:Nat}(hi:i∈Region.ready .any ops cl)(hp:i∉pend):i∈Region.ready .any ops L:=by
 obtain⟨hun,o,ho,hall⟩:=mem_ready.1 hi
 refine mem_ready.2 ⟨by rw[S.rel i hp];exact hun,o,ho,fun e hee hb=>?_⟩
 by_cases hon:e.on∈pend
 ·exact S.Nb _ (S.sub _ hon) _
 ·rw[S.rel _ hon];exact hall e hee hb
theorem St.EH (S:St D P g w0 N ops al bF pre ρ0 n L rs env h nx pend cl C ρ a w)(hAl: ∀i∈al,Q9 P ops bF pre i){j:Nat}(hj:j∈pend):j∈Region.ready .any ops cl:=by
 obtain⟨o,t,d,cs,inf,z,ho,hop,hg,ha,_⟩:=hAl j (S.sub j hj)
 exact mem_ready.2 ⟨S.Y1 j hj,o,ho,fun e he _=>(ha e he).elim⟩
theorem St.lay (S:St D P g w0 N ops al bF pre ρ0 n L rs env h nx pend cl C ρ a w)(hAl: ∀i∈al,Q9 P ops bF pre i)(hdist: ∀i∈al,∀j∈al,i≠j-> ∀oi oj d,ops[i]?=some oi->ops[j]?=some oj->oi.dst=some d->oj.dst≠some d){j:Nat}(hj:j∈pend){o:Oper}{d:Tmp}(ho:ops[j]?=some o)(hd:o.dst=some d){w':World}
 (H':HR P g w0 (ρ.put (bF+j) (.blk w.heap.size 0 0)) h nx w'):
 St D P g w0 N ops al bF pre ρ0 n L rs env h nx (pend.erase j) (cl.setIfInBounds j true) C (ρ.put (bF+j) (.blk w.heap.size 0 0)) (a.put (some d) (.pointer (some ⟨w.heap.size,0,none⟩))) w':=by
 have hja:=S.sub j hj
 have hle:=Ren.jq (S.Y0 j hj) (.blk w.heap.size 0 0)
 have hlt:j<cl.size:=by rw[S.s2];exact(Array.getElem?_eq_some_iff.1 ho).1
 have hmem: ∀k,k∈pend.erase j->k∈pend/\k≠j:=fun k hk=>⟨List.mem_of_mem_erase hk,fun e=>by subst e;exact(List.Nodup.not_mem_erase S.nd) hk⟩
 have hnot: ∀k,k∉pend.erase j->k≠j->k∉pend:=fun k hk hne hm=>hk ((List.mem_erase_of_ne hne).2 hm)
 refine⟨H',⟨fun i v hv=>?_,by simp[Act.put,S.F.size],S.F.jd⟩,S.up,S.g0,⟨S.ext.le.le_trans hle,S.ext.up,fun i hi hn=>?_⟩,S.s1,by simp[S.s2],qp S.clo (S.EH hAl hj),fun k hk d'=>?_,S.Nb,fun k hk=>?_,fun k hk=>S.sub k (hmem k hk).1,S.nd.erase j,fun k hk=>?_,fun i hi zO oi di hoi hdi=>?_,S.non,S.pr,S.PS,fun i oi hoi hbi hun=>?_,fun ρ' h' nx' w' hl=>S.Dh ρ' h' nx' w' (hle.le_trans hl)⟩
 ·obtain⟨x,h1,h2⟩:=S.F.er i v hv
  refine⟨x,?_,h2.mono hle⟩
  rw[Dp];exact h1
  intro e;cases e
  rw[S.non j hja o d ho hd]at hv;cases hv
 ·rw[Ren.jc (by omega)];exact S.ext.keep i hi hn
 ·by_cases e:k=j
  ·subst e
   rw[S.Nb k hja]
   simp[hlt]
  ·rw[getD_set_ne d' (Ne.symm e)];exact S.rel k (hnot k hk e) d'
 ·rw[getD_set_ne true (Ne.symm (hmem k hk).2)];exact S.Y1 k (hmem k hk).1
 ·rw[Ren.jc (by have:=(hmem k hk).2;omega)];exact S.Y0 k (hmem k hk).1
 ·by_cases e:i=j
  ·subst e
   rw[ho]at hoi;cases hoi
   rw[hd]at hdi;cases hdi
   exact⟨_,Ren.dF _ _ _,fun hdN=>by simp[Act.put,S.F.size,hdN]⟩
  ·obtain⟨b,h1,h2⟩:=S.done i hi (hnot i zO e) oi di hoi hdi
   refine⟨b,hle _ _ h1,fun hdN=>?_⟩
   rw[Dp];exact h2 hdN
   intro e';cases e'
   exact hdist i hi j hja e oi o d hoi ho hdi hd
 ·have hne:i≠j:=fun e=>by
   subst e
   obtain⟨o2,t,d2,cs,inf,z,ho2,hop,_⟩:=hAl i hja
   rw[hoi]at ho2;cases ho2
   simp[bsB,hop]at hbi
  rw[Ren.jc (by omega)];exact S.bs i oi hoi hbi hun
theorem St.step (S:St D P g w0 N ops al bF pre ρ0 n L rs env h nx pend cl C ρ a w){i:Nat}(hi:i∈Region.ready .any ops L)(he:early ops al i=true)(hAl: ∀i∈al,Q9 P ops bF pre i){o:Oper}(ho:ops[i]?=some o){m:Nat}{rs':RS}{env':Env}{h':Hp}{nx':Nat}{ρ':Ren}{x:Value}{w':World}{C':Nat->World->Prop}
 (hE:ρ.le ρ'/\nx<=nx'/\ ∀j,j<nx->j≠bF+i->ρ j=none->ρ' j=none) (H':HR P g w0 ρ' h' nx' w') (hF:Fr D ρ' N env' (a.put o.dst x)) (hv: ∀j,o.dst≠some j->env'.get j=env.get j) (hpr: ∀p∈pre,h'.get p.1=some p.2) (aeI: ∀p∈rs',h'.get p.2.1=some p.2.2)
 (hst: ∀ρ'' h'' qK w'',ρ'.le ρ''->HR P g w0 ρ'' h'' qK w''-> ∀m,(∀p∈rs',p.1=m->h''.get p.2.1=some p.2.2)->C' m w''):
 St D P g w0 N ops al bF pre ρ0 m (L.setIfInBounds i true) rs' env' h' nx' pend (cl.setIfInBounds i true) C' ρ' (a.put o.dst x) w':=by
 obtain⟨zO,hic⟩:=S.yJ hi he
 have hlt:i<ops.size:=(Array.getElem?_eq_some_iff.1 ho).1
 have hdst: ∀k∈al,∀ok d,ops[k]?=some ok->ok.dst=some d->o.dst≠some d:=fun k hk ok d hok hd e=>by
  simp only[early,ho,List.all_eq_true,Bool.and_eq_true]at he
  have:=(he k hk).2
  rw[hok]at this
  exact(Oper.apart_spec this).2.1 d e hd
 refine⟨H',hF,Nat.le_trans S.up hE.2.1,S.g0,⟨S.ext.le.le_trans hE.1,Nat.le_trans S.ext.up hE.2.1,fun j hj hn=>hE.2.2 j (by have:=S.up;omega) (by omega) (S.ext.keep j hj hn)⟩,by simp[S.s1],by simp[S.s2],qp S.clo hic,fun k hk d=>?_,fun k hk d=>?_,fun k hk=>?_,S.sub,S.nd,fun k hk=>?_,fun k hk hkp ok d hok hd=>?_,fun k hk ok d hok hd=>?_,hpr,aeI,fun k ok hok hbk hun=>?_,hst⟩
 ·by_cases e:i=k
  ·subst e;simp[S.s1,S.s2,hlt]
  ·rw[getD_set_ne d e,getD_set_ne d e];exact S.rel k hk d
 ·by_cases e:i=k
  ·subst e;simp[S.s1,hlt]
  ·rw[getD_set_ne d e];exact S.Nb k hk d
 ·have e:i≠k:=fun e=>by subst e;exact zO hk
  rw[getD_set_ne true e];exact S.Y1 k hk
 ·obtain⟨ok,t,d,cs,inf,z,hok,_⟩:=hAl k (S.sub k hk)
  have hk':k<ops.size:=(Array.getElem?_eq_some_iff.1 hok).1
  exact hE.2.2 _ (by have:=S.up;omega) (by intro e;have:k=i:=by omega
                                           subst this;exact zO hk) (S.Y0 k hk)
 ·obtain⟨b,h1,h2⟩:=S.done k hk hkp ok d hok hd
  exact⟨b,hE.1 _ _ h1,fun hdN=>by rw[Dp (hdst k hk ok d hok hd)];exact h2 hdN⟩
 ·rw[hv d (hdst k hk ok d hok hd)];exact S.non k hk ok d hok hd
 ·by_cases e:i=k
  ·subst e
   simp[S.s1,hlt]at hun
  ·rw[getD_set_ne true e]at hun
   have hk':k<ops.size:=(Array.getElem?_eq_some_iff.1 hok).1
   exact hE.2.2 _ (by have:=S.up;omega) (by omega) (S.bs k ok hok hbk hun)
end
end
end bC
end
end Go.Proofs.YtakhobfamnjnoaaGreatDoor
