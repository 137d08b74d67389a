/- Symbolic runs: a function's own small memory within its caller's. -/
import Derived.Test.YtakhobfamnjnoaaGreatDoorC11
set_option linter.unusedVariables false
set_option linter.unusedSimpArgs false
namespace Go.Proofs.YtakhobfamnjnoaaGreatDoor
section
namespace Sx
open Go Go.RowKit
def zy (is:List Pl)(h:Hp)(O:Own):Own:=fun i k q=> ∃a b,dM is a b=some (i,k)/\(∃o,bI h i k=some o)/\O a b q
section
variable {P:Program} {T:jE} [lN P T] {ρ:Ren} {is:List Pl} {F:Fs} {H h:Hp} {O:Own} {w:World}
theorem abK {a b c d i k:Nat}(h1:dM is a b=some (i,k))(h2:dM is c d=some (i,k)):a=c/\b=d:=by
 rcases iR h1 with⟨e1,rfl⟩|⟨e1,rfl⟩<;>rcases iR h2 with⟨e2,e3⟩|⟨e2,e3⟩<;>(rw[e1]at e2;cases e2)
 ·exact⟨rfl,rfl⟩
 ·exact⟨rfl,e3⟩
theorem JW {i k:Nat}{o:AO}(hi:bI h i k=some o): ∃c,aF h i=some c/\c.at k=some o:=by
 unfold bI at hi
 cases hc:aF h i with
 |none=>rw[hc]at hi;cases hi
 |some c=>rw[hc]at hi;exact⟨c,rfl,hi⟩
theorem LW {i k:Nat}{c:gU}{o:AO}(hi:aF h i=some c)(hk:c.at k=some o):bI h i k=some o:=by unfold bI;rw[hi];exact hk
theorem afB {L:Nat}{c d:gU}(hc:NQ is L F c d){k:Nat}{o:AO}(ho:c.at k=some o): ∃o',d.at k=some o'/\QZ is L F o o':=by
 unfold NQ at hc
 split at hc
 ·cases k with
  |zero=>cases ho;exact⟨_,rfl,hc⟩
  |succ k=>cases ho
 ·rename_i f g
  have:=hc k
  unfold abv at this
  have ho:f k=some o:=ho
  rw[ho]at this
  show∃o',g k=some o'/\_
  cases hg:g k with
  |none=>rw[hg]at this;exact this.elim
  |some o'=>rw[hg]at this;exact⟨o',rfl,this⟩
 ·exact hc.elim
theorem adu (hd:oU is=true)(hs:vY is H.length F H is h){i k:Nat}{o:AO}(ho:bI h i k=some o):
 (∃a b o',dM is a b=some (i,k)/\bI H a b=some o'/\QZ is H.length F o o'/\(∀ρ:Ren,(eY ρ is).nm i k=ρ.nm a b)/\kR is H.length i k=(a,b))\/(aF is i=some .jh/\k=0/\ ∃t,o= .row [] t\/o= .bH [] t):=by
 obtain⟨c,hc,hk⟩:=JW ho
 obtain⟨_,hg⟩:=mJ hs
 obtain⟨p,hp,hg⟩:=hg hc
 unfold XC at hg
 split at hg
 ·cases hk
 ·subst hg
  cases k with
  |zero=>cases hk;exact .inr ⟨hp,rfl,_, .inl rfl⟩
  |succ k=>cases hk
 ·subst hg
  cases k with
  |zero=>cases hk;exact .inr ⟨hp,rfl,_, .inr rfl⟩
  |succ k=>cases hk
 ·rename_i a
  split at hg
  ·rename_i c' hc'
   obtain⟨o',h1,h2⟩:=afB hg hk
   exact .inl ⟨a,k,o',yw hd hp k,LW hc' h1,h2,fun ρ=>by simp[eY,hp],by simp[kR,hp]⟩
  ·exact hg.elim
 ·rename_i a b o0
  split at hg
  ·rename_i o' ho'
   cases k with
   |zero=>cases hk;exact .inl ⟨a,b,o',LP hd hp,ho',hg,fun ρ=>by simp[eY,hp],by simp[kR,hp]⟩
   |succ k=>cases hk
  ·exact hg.elim
 ·exact hg.elim
theorem Yo {i k:Nat}(hi:is.length<=i):(eY ρ is).nm i k=none:=by simp[eY,aJ,List.getElem?_eq_none hi]
theorem HR.sub (R:HR P ρ H O w)(hF:EH ρ F)(hd:oU is=true)(hs:vY is H.length F H is h):HR P (eY ρ is) h (zy is h O) w:=by
 have hlen:=(mJ hs).1
 refine⟨fun i k o ho=>?_,fun i k j l q ⟨a,b,h1,_,h2⟩ ⟨c,d,h3,_,h4⟩=>?_,fun i k q ⟨a,b,_,_,h2⟩=>R.lt a b q h2,fun i k q ⟨a,b,_,h1,_⟩=>h1,fun i k hi=>Yo (by omega),fun i k hi hk=>?_,fun i o hi=>?_,fun i hi=>?_,fun b cs hb=>?_,R.sz⟩
 ·rcases adu hd hs ho with⟨a,b,o',h1,h2,h3,h4,_⟩|⟨h1,rfl,t,h2⟩
  ·have e:zy is h O i k=O a b:=by
    funext q
    refine propext ⟨fun⟨c,d,q1,_,q2⟩=>?_,fun q1=>⟨a,b,h1,⟨o,ho⟩,q1⟩⟩
    obtain⟨rfl,rfl⟩:=abK q1 h1
    exact q2
   rw[e]
   exact afz R.fr hF h3 (fun x hx=>by rw[h4];exact hx) (R.ob a b o' h2)
  ·refine .eG (e:=t) h2 (by simp[eY,h1]) fun q ⟨a,b,q1,_⟩=>?_
   rcases iR q1 with⟨q2,_⟩|⟨q2,_⟩<;>(rw[h1]at q2;cases q2)
 ·obtain⟨rfl,rfl⟩:=R.dj a b c d q h2 h4
  rw[h1]at h3;cases h3;exact⟨rfl,rfl⟩
 ·have hi:(match aF is i with
   |some (.pt ..)=>true
   |some (.all a)=>ρ.on a
   |some (.gone a)=>ρ.on a
   |some .jh=>true
   |none=>false)=true:=hi
  obtain⟨k,rfl⟩: ∃m,k=m+1:=⟨k-1,by omega⟩
  unfold eY
  dsimp only
  split<;>rename_i hp<;>rw[hp]at hi
  ·exact R.on _ _ hi (by omega)
  ·exact R.on _ _ hi (by omega)
 ·obtain⟨p,hp,hg⟩:=(mJ hs).2 hi
  show(match aF is i with
   |some (.pt ..)=>true
   |some (.all a)=>ρ.on a
   |some (.gone a)=>ρ.on a
   |some .jh=>true
   |none=>false)=true
  rw[hp]
  cases p with
  |pt=>rfl
  |jh=>rfl
  |gone=>exact hg.elim
  |all a=>
   have hg:(match aF H a with|some c'=>NQ is H.length F (.one o) c'|none=>False):=hg
   split at hg
   ·rename_i c' hc'
    cases c' with
    |one o'=>exact R.sg a o' hc'
    |no=>exact hg.elim
    |many=>exact hg.elim
   ·exact hg.elim
 ·show(match aF is i with
   |some (.pt ..)=>true
   |some (.all a)=>ρ.on a
   |some (.gone a)=>ρ.on a
   |some .jh=>true
   |none=>false)=false
  rw[aJ,List.getElem?_eq_none (by omega)]
 ·exact⟨(R.fz b cs hb).1,fun i k ⟨a,c,_,_,h2⟩=>(R.fz b cs hb).2 a c h2⟩
theorem Fm.sub:Fm ρ.fz O w (eY ρ is).fz (zy is h O) w:=⟨rfl,rfl,rfl,Nat.le_refl _,fun _ _ _=>rfl,fun q _ ⟨_,_,a,b,_,_,h⟩=>⟨a,b,h⟩,fun _ _ h _=> .inl h⟩
end
section
variable (is:List Pl) (L:Nat)
def aa5:RV->RV
 | .u=> .u
 | .a v=> .a (P9 is L v)
 | .aK l=> .aK (EU is L l)
def DN:AO->AO
 | .row l t=> .row (wM is L l) t
 | .bH l t=> .bH l t
 | .map es c=> .map (aeX is L es) c
 | .chan c b s r=> .chan c (aeW is L b) s r
 | .clo f a b=> .clo f (EU is L a) (EU is L b)
 | .fJ i k s l c=> .fJ (kR is L i k).1 (kR is L i k).2 s l c
 | .sit s p=> .sit s p
def aa6:gU->gU
 | .no=> .no
 | .one o=> .one (DN is L o)
 | .many f=> .many fun k=>(f k).map (DN is L)
def vg:List gU->Hp
 |[]=>[]
 |c::l=>aa6 is L c::vg l
variable {is L}
theorem adE (c:gU)(k:Nat):(aa6 is L c).at k=(c.at k).map (DN is L):=by
 cases c with
 |no=>rfl
 |one o=>cases k<;>rfl
 |many f=>rfl
theorem wV: ∀(h:Hp)(i:Nat),aF (vg is L h) i=(aF h i).map (aa6 is L)
 |[],_=>rfl
 |_::_,0=>rfl
 |_::l,i+1=>wV l i
theorem JU (h:Hp)(i k:Nat):bI (vg is L h) i k=(bI h i k).map (DN is L):=by
 unfold bI
 rw[wV]
 cases aF h i with
 |none=>rfl
 |some c=>exact adE c k
theorem DR: ∀(h:Hp),(vg is L h).length=h.length
 |[]=>rfl
 |_::l=>congrArg (· +1) (DR l)
def Back (is:List Pl)(L:Nat)(c ρ:Ren):Prop:=c.fz=ρ.fz/\ ∀i k x,c.nm i k=some x->(aF is i=some .jh/\x= .eG)\/(aF is i≠some .jh/\ρ.nm (kR is L i k).1 (kR is L i k).2=some x)
section
variable {c ρ:Ren} (hb:Back is L c ρ)
include hb
theorem Back.blk {i k b base cap:Nat}(h:c.nm i k=some (.blk b base cap)):aF is i≠some .jh/\ρ.nm (kR is L i k).1 (kR is L i k).2=some (.blk b base cap):=by
 rcases hb.2 i k _ h with⟨_,e⟩|h
 ·cases e
 ·exact h
theorem Back.g {v:SV}{x:Value}(h:G c v x):G ρ (Ll is L v) x:=by
 cases h with
 |p h=>exact .p (hb.1▸h)
 |ptr off h=>exact .ptr _ (hb.blk h).2
 |pts off h=>exact .pts _ (hb.blk h).2
 |fp h hl=>rw[hb.1]at h hl;exact .fp h hl
 |sl off len cap h h1 h2 h3=>
  simp only[Ll]
  obtain⟨n,h⟩:=hb.blk h
  split
  ·rename_i e;exact absurd e n
  ·exact .sl _ _ _ h h1 h2 h3
 |eG h h0=>
  simp only[Ll]
  rcases hb.2 _ _ _ h with⟨e,_⟩|⟨n,h⟩
  ·rw[e];exact .p rfl
  ·split
   ·rename_i e;exact absurd e n
   ·exact .eG h h0
 |mp h=>exact .mp (hb.blk h).2
 |ch h=>exact .ch (hb.blk h).2
 |clo h=>
  rcases hb.2 _ _ _ h with⟨_,e⟩|⟨_,h⟩
  ·cases e
  ·exact .clo h
theorem Back.gs: ∀{l:List SV}{xs:List Value},F2 (G c) l xs->F2 (G ρ) (wM is L l) xs
 |[],_,h=>by cases h;exact .nil
 |_::_,_,h=>by cases h with|cons h1 h2=>exact .cons (hb.g h1) (Back.gs h2)
theorem Back.ga {v:AV}{x:Value}(h:GA c v x):GA ρ (P9 is L v) x:=by
 cases h with
 |c h=>exact .c (hb.g h)
 |agg h=>exact .agg (hb.gs h)
theorem Back.ZV: ∀{l:List AV}{xs:List Value},F2 (GA c) l xs->F2 (GA ρ) (EU is L l) xs
 |[],_,h=>by cases h;exact .nil
 |_::_,_,h=>by cases h with|cons h1 h2=>exact .cons (hb.ga h1) (Back.ZV h2)
theorem Back.gr {v:RV}{x:Value}(h:GR c v x):GR ρ (aa5 is L v) x:=by
 cases h with
 |u=>exact .u _
 |a h=>exact .a (hb.ga h)
 |aK h=>exact .aK (hb.ZV h)
theorem Back.gms: ∀{l:List ME}{xs:List MapEntry},F2 (GE c) l xs->F2 (GE ρ) (WI is L l) xs
 |[],_,h=>by cases h;exact .nil
 |_::_,_,h=>by cases h with|cons h1 h2=>exact .cons ⟨hb.1▸h1.1,hb.ga h1.2.1,h1.2.2⟩ (Back.gms h2)
theorem Back.gp {v:PA}{x:Value}(h:GA c v.av x):GA ρ v.av x:=by
 have:=hb.ga h
 cases v with
 |c p=>exact this
 |agg l=>
  have e: ∀l:List PV,wM is L (l.map .p)=l.map .p:=fun l=>by
   induction l with
   |nil=>rfl
   |cons a l ih=>exact congrArg (_:: ·) ih
  simp only[PA.av,P9,e]at this
  exact this
theorem Back.gm: ∀{m:Ms}{xs:List MapEntry},F2 (GE c) m.li xs->F2 (GE ρ) (aeX is L m).li xs
 | .l _,_,h=>hb.gms h
 | .r ..,_,h=>hb.gms h
 | .o es,xs,h=>by
   revert h
   show F2 (GE c) (es.map PE.me) xs->F2 (GE ρ) (es.map PE.me) xs
   induction es generalizing xs with
   |nil=>intro h;cases h;exact .nil
   |cons e es ih=>intro h;cases h with|cons h1 h2=>exact .cons ⟨hb.1▸h1.1,hb.gp h1.2.1,h1.2.2⟩ (ih _ h2)
theorem Back.gq: ∀{m:Qs}{xs:List Value},F2 (GA c) m.li xs->F2 (GA ρ) (aeW is L m).li xs
 | .l _,_,h=>hb.ZV h
 | .o es,xs,h=>by
   revert h
   show F2 (GA c) (es.map PA.av) xs->F2 (GA ρ) (es.map PA.av) xs
   induction es generalizing xs with
   |nil=>intro h;cases h;exact .nil
   |cons e es ih=>intro h;cases h with|cons h1 h2=>exact .cons (hb.gp h1) (ih _ h2)
omit hb in
theorem Nc: ∀{l:List SV}{j:Nat}{v:SV},(wM is L l)[j]?=some v-> ∃u,l[j]?=some u/\v=Ll is L u
 |[],_,_,h=>by simp[wM]at h
 |u::_,0,_,h=>by simp[wM]at h;exact⟨u,rfl,h.symm⟩
 |_::l,j+1,v,h=>by simp[wM]at h;simpa using Nc h
theorem Back.ob {P:Program}{i k a b:Nat}{o:AO}{B:Nat->Prop}{w:World}(hi:aF is i≠some .jh)(he:kR is L i k=(a,b))(h:Ob P c i k o B w):Ob P ρ a b (DN is L o) B w:=by
 have hn: ∀{x:RI},c.nm i k=some x->ρ.nm a b=some x:=fun{x} hx=>by
  rcases hb.2 i k x hx with⟨e,_⟩|⟨_,h⟩
  ·exact absurd e hi
  ·rw[he]at h;exact h
 cases h with
 |row ho hr hB hh hc hsz=>
  rcases ho with rfl|⟨l,rfl,rfl⟩
  ·refine .row (.inl rfl) (hn hr) hB hh (fun j v hv=>?_) hsz
   obtain⟨u,hu,rfl⟩:=Nc hv
   obtain⟨x,h1,h2⟩:=hc j u hu
   exact⟨x,hb.g h1,h2⟩
  ·refine .row (.inr ⟨l,rfl,rfl⟩) (hn hr) hB hh (fun j v hv=>?_) hsz
   obtain⟨x,h1,h2⟩:=hc j v hv
   obtain⟨p,hp,rfl⟩:=List.mem_map.1 (List.mem_of_getElem? hv)
   exact⟨x,hb.g h1,h2⟩
 |eG ho hr hB=>
  rcases ho with rfl|rfl
  ·exact .eG (.inl rfl) (hn hr) hB
  ·exact .eG (.inr rfl) (hn hr) hB
 |map hr hB hh hx=>exact .map (hn hr) hB hh (hb.gm hx)
 |chan hr hB hh hx=>exact .chan (hn hr) hB hh (hb.gq hx)
 |clo hr hB hx hy=>exact .clo (hn hr) hB (hb.ZV hx) (hb.ZV hy)
 |fJ hr hm hB hh=>exact .fJ (hn hr) (hb.blk hm).2 hB hh
 |sit hr hB hh=>exact .sit (hn hr) hB hh
end
end
def aff:Option AO->gU
 |some o=> .one o
 |none=> .no
def uG (H:Hp)(p:Pl)(c:gU):Hp:=match p with
 | .all a=>fM .no H a c
 | .pt a b=>(match aF H a with
   |some (.many f)=>fM .no H a (.many fun j=>if j=b then c.at 0 else f j)
   |_=>fM .no H a (aff (c.at 0)))
 |_=>H
def jT:List Pl->Hp->Hp->Hp
 |[],cs,H=>app H cs
 |p::ps,c::cs,H=>jT ps cs (uG H p c)
 |_::_,[],H=>H
def plug (is:List Pl)(H h':Hp):Hp:=jT is (vg is (llen H) h') H
def F6 (H:Hp):Pl->Prop
 | .pt a b=> ∃o,bI H a b=some o
 | .all a=>a<H.length
 |_=>True
section
variable {H:Hp}
theorem uF {p:Pl}(hp:F6 H p)(c:gU):(uG H p c).length=H.length:=by
 cases p with
 |all a=>exact jG _ _ _ _ hp
 |pt a b=>
  obtain⟨o,ho⟩:=hp
  have:=cZ ho
  simp only[uG]
  split<;>exact jG _ _ _ _ this
 |jh=>rfl
 |gone=>rfl
theorem ZF {p:Pl}{a b:Nat}:(dM [p] a b=some (0,0)\/dM [p] a b=some (0,b))\/dM [p] a b=none:=by
 cases p<;>simp only[dM]<;>(try split)<;>simp
theorem NZ {p:Pl}(hp:F6 H p)(c:gU)(a b:Nat):bI (uG H p c) a b=match dM [p] a b with
 |some (_,k)=>c.at k
 |none=>bI H a b:=by
 cases p with
 |jh=>rfl
 |gone=>rfl
 |all d=>
  have hp:d<H.length:=hp
  simp only[uG,dM,bI,fD _ hp,Option.map_none]
  by_cases h:a=d
  ·subst h;simp
  ·rw[if_neg h,if_neg (fun e=>h e.symm)]
 |pt d f=>
  obtain⟨o,ho⟩:=hp
  have hlt:=cZ ho
  obtain⟨cc,h1,h2⟩:=JW ho
  simp only[uG,dM,Option.map_none]
  rw[h1]
  cases cc with
  |no=>cases h2
  |one o1=>
   have hf:f=0:=by cases f with|zero=>rfl|succ f=>cases h2
   subst hf
   simp only[bI,fD _ hlt]
   by_cases h:a=d
   ·subst h
    simp only[if_true,Option.bind_some,true_and]
    cases b with
    |zero=>simp only[if_true];cases hc:c.at 0<;>rfl
    |succ b=>cases hc:c.at 0<;>simp[h1,aff,gU.at]
   ·rw[if_neg h,if_neg (fun e=>h e.1.symm)]
  |many g=>
   simp only[bI,fD _ hlt]
   by_cases h:a=d
   ·subst h
    simp only[if_true,Option.bind_some,true_and,h1,gU.at]
    by_cases hb:b=f
    ·subst hb;simp
    ·rw[if_neg hb,if_neg (fun e=>hb e.symm)]
   ·rw[if_neg h,if_neg (fun e=>h e.1.symm)]
theorem EY {p q:Pl}(hp:F6 H p)(hq:F6 H q)(hpq:qj p q=true)(c:gU):F6 (uG H p c) q:=by
 cases q with
 |jh=>trivial
 |gone=>trivial
 |all a=>show a<_;rw[uF hp];exact hq
 |pt a b=>
  obtain⟨o,ho⟩:=hq
  refine⟨o,?_⟩
  rw[NZ hp]
  cases p with
  |jh=>exact ho
  |gone=>exact ho
  |all d=>
   simp only[dM]
   rw[if_neg (fun e=>by subst e;simp[qj]at hpq)]
   exact ho
  |pt d f=>
   simp only[dM]
   rw[if_neg (fun e=>by obtain⟨rfl,rfl⟩:=e;simp[qj]at hpq)]
   exact ho
end
theorem ZE (p:Pl)(ps:List Pl)(a b:Nat):dM (p::ps) a b=match dM [p] a b with
 |some x=>some x
 |none=>(dM ps a b).map fun q=>(q.1+1,q.2):=by
 cases p with
 |pt c d=>simp only[dM];split<;>rfl
 |all c=>simp only[dM];split<;>rfl
 |jh=>rfl
 |gone=>rfl
theorem Nz: ∀{is:List Pl}{cs H:Hp},(∀p∈is,F6 H p)->oU is=true->is.length<=cs.length->(jT is cs H).length=H.length+(cs.length-is.length)
 |[],cs,H,_,_,_=>by simp[jT,jP]
 |p::ps,c::cs,H,ho,hd,hl=>by
  obtain⟨h1,h2⟩:=rZ hd
  have hp:=ho p (.head _)
  have:=Nz (is:=ps) (cs:=cs) (H:=uG H p c) (fun q hq=>by
   obtain⟨i,hi⟩:=List.mem_iff_getElem?.1 hq
   exact EY hp (ho q (.tail _ hq)) (nK h1 (i:=i) (by rw[aJ];exact hi)) c) h2 (by simpa using hl)
  simp only[jT,this,uF hp,List.length_cons]
  omega
 |_::_,[],_,_,_,h=>by simp at h
theorem abX {H G:Hp}{a b:Nat}(ha:H.length<=a):bI (app H G) a b=bI G (a-H.length) b:=by
 unfold bI
 rw[jP,aJ,aJ,List.getElem?_append_right ha]
theorem JV: ∀{is:List Pl}{cs H:Hp},(∀p∈is,F6 H p)->oU is=true->is.length<=cs.length-> ∀{a:Nat}(b:Nat),(a<H.length->bI (jT is cs H) a b=match dM is a b with
 |some (i,k)=>bI cs i k
 |none=>bI H a b)/\(H.length<=a->bI (jT is cs H) a b=bI cs (a-H.length+is.length) b)
 |[],cs,H,_,_,_,a,b=>⟨fun ha=>by simp only[jT,jP,pY ha,dM],fun ha=>by simp only[jT,abX ha,List.length_nil,Nat.add_zero]⟩
 |p::ps,c::cs,H,ho,hd,hl,a,b=>by
  obtain⟨h1,h2⟩:=rZ hd
  have hp:=ho p (.head _)
  have ih:=JV (is:=ps) (cs:=cs) (H:=uG H p c) (fun q hq=>by
   obtain⟨i,hi⟩:=List.mem_iff_getElem?.1 hq
   exact EY hp (ho q (.tail _ hq)) (nK h1 (i:=i) (by rw[aJ];exact hi)) c) h2 (by simpa using hl) (a:=a) b
  rw[uF hp]at ih
  constructor
  ·intro ha
   simp only[jT,ih.1 ha,ZE p ps a b,NZ hp]
   cases hi:dM ps a b with
   |none=>cases hq:dM [p] a b with
    |none=>rfl
    |some q=>
     obtain⟨i,k⟩:=q
     have:i=0:=by
      have:=ZF (p:=p) (a:=a) (b:=b)
      rw[hq]at this
      simp at this
      omega
     subst this
     rfl
   |some q=>
    obtain⟨i,k⟩:=q
    cases hq:dM [p] a b with
    |none=>rfl
    |some r=>
     obtain⟨i',k'⟩:=r
     have h3:=iR hi
     have h4:=iR hq
     have h5: ∀{q:Pl},aF ps i=some q->qj p q=true:=fun h=>nK h1 h
     have i0:i'=0:=by
      have:=ZF (p:=p) (a:=a) (b:=b)
      rw[hq]at this
      simp at this
      omega
     subst i0
     rcases h4 with⟨h4,_⟩|⟨h4,_⟩<;>cases h4<;>rcases h3 with⟨h3,_⟩|⟨h3,_⟩<;>(have:=h5 h3;simp[qj]at this)
  ·intro ha
   simp only[jT,ih.2 ha,List.length_cons]
   show bI cs _ b=bI (c::cs) (a-H.length+(ps.length+1)) b
   rfl
 |_::_,[],_,_,_,h,_,_=>by simp at h
theorem NG: ∀{is:List Pl}{cs H:Hp},(∀p∈is,F6 H p)->oU is=true-> ∀{a:Nat}{o:AO},a<H.length->aF (jT is cs H) a=some (.one o)->(∃o',aF H a=some (.one o'))\/ ∃i o',aF is i=some (.all a)/\aF cs i=some (.one o')
 |[],cs,H,_,_,a,o,ha,h=>by
  simp only[jT,jP,aJ,List.getElem?_append_left ha]at h
  exact .inl ⟨o,by rw[aJ];exact h⟩
 |p::ps,c::cs,H,ho,hd,a,o,ha,h=>by
  obtain⟨h1,h2⟩:=rZ hd
  have hp:=ho p (.head _)
  rcases NG (is:=ps) (cs:=cs) (H:=uG H p c) (fun q hq=>by
   obtain⟨i,hi⟩:=List.mem_iff_getElem?.1 hq
   exact EY hp (ho q (.tail _ hq)) (nK h1 (i:=i) (by rw[aJ];exact hi)) c) h2 (by rw[uF hp];exact ha) h with⟨o',h3⟩|⟨i,o',h3,h4⟩
  ·cases p with
   |jh=>exact .inl ⟨o',h3⟩
   |gone=>exact .inl ⟨o',h3⟩
   |all d=>
    have hp:d<H.length:=hp
    simp only[uG,fD _ hp]at h3
    by_cases e:a=d
    ·subst e
     rw[if_pos rfl]at h3
     cases h3
     exact .inr ⟨0,o',rfl,rfl⟩
    ·rw[if_neg e]at h3;exact .inl ⟨o',h3⟩
   |pt d f=>
    obtain⟨o1,ho1⟩:=hp
    have hlt:=cZ ho1
    obtain⟨cc,q1,q2⟩:=JW ho1
    simp only[uG]at h3
    rw[q1]at h3
    by_cases e:a=d
    ·subst e
     cases cc with
     |no=>cases q2
     |one o2=>exact .inl ⟨o2,q1⟩
     |many g=>simp[fD _ hlt]at h3
    ·cases cc<;>(simp only[fD _ hlt,if_neg e]at h3;exact .inl ⟨o',h3⟩)
  ·exact .inr ⟨i+1,o',h3,h4⟩
 |_::_,[],H,_,_,a,o,ha,h=> .inl ⟨o,h⟩
end Sx
end
section
namespace Sx
open Go Go.RowKit
def Jp (is:List Pl):List Nat->List Nat
 |[]=>[]
 |t::T=>(match aF is t with
  |some (.pt a _)=>a::Jp is T
  |some (.all a)=>a::Jp is T
  |_=>Jp is T)
theorem Vb {is:List Pl}{i a b:Nat}(h:aF is i=some (.pt a b)\/aF is i=some (.all a)): ∀{T:List Nat},i∈T->a∈Jp is T
 |t::T,hm=>by
  cases hm with
  |head=>unfold Jp;rcases h with h|h<;>(rw[h];exact .head _)
  |tail _ hm=>
   unfold Jp
   have:=Vb h hm
   split
   ·exact .tail _ this
   ·exact .tail _ this
   ·exact this
def Zo:List Pl->Bool
 |[]=>true
 | .gone _::_=>false
 |_::l=>Zo l
theorem Jo: ∀{is:List Pl},Zo is=true-> ∀{i a:Nat},aF is i≠some (.gone a)
 |[],_,_,_=>by simp[aF]
 | .gone _::_,h,_,_=>by cases h
 | .pt .. ::l,h,i,a=>by
   cases i with
   |zero=>simp[aF]
   |succ i=>exact Jo (is:=l) h
 | .all .. ::l,h,i,a=>by
   cases i with
   |zero=>simp[aF]
   |succ i=>exact Jo (is:=l) h
 | .jh::l,h,i,a=>by
   cases i with
   |zero=>simp[aF]
   |succ i=>exact Jo (is:=l) h
theorem Ob.nm {P:Program}{ρ:Ren}{i k:Nat}{o:AO}{B:Nat->Prop}{w:World}(h:Ob P ρ i k o B w): ∃x,ρ.nm i k=some x:=let⟨x,hx,_⟩:=h.bl;⟨x,hx⟩
theorem abw {is:List Pl}{L:Nat}{F:Fs}{c d:gU}(hc:NQ is L F c d){k:Nat}{o:AO}(ho:d.at k=some o): ∃o',c.at k=some o':=by
 unfold NQ at hc
 split at hc
 ·cases k with
  |zero=>exact⟨_,rfl⟩
  |succ k=>cases ho
 ·rename_i f g
  have:=hc k
  unfold abv at this
  have ho:g k=some o:=ho
  rw[ho]at this
  show∃o',f k=some o'
  cases hf:f k with
  |none=>rw[hf]at this;exact this.elim
  |some o'=>exact⟨o',rfl⟩
 ·exact hc.elim
theorem QU: ∀{is:List Pl}{cs H:Hp},(∀p∈is,F6 H p)->oU is=true->is.length<=cs.length-> ∀{a:Nat},H.length<=a->aF (jT is cs H) a=aF cs (a-H.length+is.length)
 |[],cs,H,_,_,_,a,ha=>by simp only[jT,jP,aJ,List.getElem?_append_right ha];rfl
 |p::ps,c::cs,H,ho,hd,hl,a,ha=>by
  obtain⟨h1,h2⟩:=rZ hd
  have hp:=ho p (.head _)
  have ih:=QU (is:=ps) (cs:=cs) (H:=uG H p c) (fun q hq=>by
   obtain⟨i,hi⟩:=List.mem_iff_getElem?.1 hq
   exact EY hp (ho q (.tail _ hq)) (nK h1 (i:=i) (by rw[aJ];exact hi)) c) h2 (by simpa using hl) (a:=a) (by rw[uF hp];exact ha)
  simp only[jT,ih,uF hp]
  rfl
 |_::_,[],_,_,_,h,_,_=>by simp at h
section
variable {P:Program} {T:jE} [lN P T] {ρ:Ren} {is:List Pl} {F:Fs} {H h:Hp} {O:Own} {w:World}
theorem adt (hs:vY is H.length F H is h): ∀p∈is,F6 H p:=fun p hp=>by
 obtain⟨i,hi⟩:=List.mem_iff_getElem?.1 hp
 obtain⟨hl,hg⟩:=mJ hs
 have hi':i<h.length:=by rw[<-hl];exact(List.getElem?_eq_some_iff.1 hi).1
 obtain⟨c,hc⟩:=LM hi'
 obtain⟨q,hq,hg⟩:=hg hc
 rw[aJ,hi]at hq
 cases hq
 unfold XC at hg
 split at hg
 ·trivial
 ·trivial
 ·trivial
 ·split at hg
  ·rename_i hc';exact QT hc'
  ·exact hg.elim
 ·split at hg
  ·rename_i o' ho';exact⟨o',ho'⟩
  ·exact hg.elim
 ·exact hg.elim
theorem PK (hs:vY is H.length F H is h){a b i k:Nat}{o':AO}(hi:dM is a b=some (i,k))(ho:bI H a b=some o'): ∃o,bI h i k=some o:=by
 obtain⟨hl,hg⟩:=mJ hs
 have hp:=iR hi
 have hi':i<h.length:=by rw[<-hl];rcases hp with⟨hp,_⟩|⟨hp,_⟩<;>exact QT hp
 obtain⟨c,hc⟩:=LM hi'
 obtain⟨q,hq,hg⟩:=hg hc
 rcases hp with⟨hp,rfl⟩|⟨hp,rfl⟩<;>(rw[hp]at hq;cases hq)
 ·cases c with
  |one o=>exact⟨o,LW hc rfl⟩
  |no=>exact hg.elim
  |many=>exact hg.elim
 ·have hg:(match aF H a with|some c'=>NQ is H.length F c c'|none=>False):=by
   cases c with
   |no=>exact hg
   |one=>exact hg
   |many=>exact hg
  split at hg
  ·rename_i c' hc'
   obtain⟨c2,h1,h2⟩:=JW ho
   rw[hc']at h1;cases h1
   obtain⟨o,ho⟩:=abw hg h2
   exact⟨o,LW hc ho⟩
  ·exact hg.elim
def ix (is:List Pl)(L a b:Nat):Option (Nat×Nat):=if a<L then dM is a b else some (a-L+is.length,b)
theorem Xo {L a b i k:Nat}(h:ix is L a b=some (i,k)):kR is L i k=(a,b)/\aF is i≠some .jh:=by
 unfold ix at h
 split at h
 ·rcases iR h with⟨e,rfl⟩|⟨e,rfl⟩<;>(unfold kR;rw[e];exact⟨rfl,by simp⟩)
 ·cases h
  have:aF is (a-L+is.length)=none:=by rw[aJ];exact List.getElem?_eq_none (by omega)
  unfold kR;rw[this]
  refine⟨?_,by simp⟩
  simp only[aI]
  show(L+(a-L+is.length-is.length),b)=_
  congr 1
  omega
open Classical in
noncomputable def qM (ρ c:Ren)(is:List Pl)(L:Nat):Ren where
 nm a b:=if a<L then(match ρ.nm a b with
  |some x=>some x
  |none=>(match dM is a b with
   |some (i,k)=>c.nm i k
   |none=>none))else c.nm (a-L+is.length) b
 fz:=c.fz
 on a:=if a<L then ρ.on a||decide (∃i,aF is i=some (.all a)/\c.on i=true)else c.on (a-L+is.length)
def sS (O Oc:Own)(is:List Pl)(L:Nat):Own:=fun a b q=>match ix is L a b with
 |some (i,k)=>Oc i k q
 |none=>O a b q
theorem aeH (R:HR P ρ H O w)(hd:oU is=true)(hg:Zo is=true)(hs:vY is H.length F H is h){c:Ren}{Oc:Own}{h':Hp}{w':World}{T:List Nat}(hle:(eY ρ is).le c)(hfm:Fm (eY ρ is).fz (zy is h O) w c.fz Oc w')(C:HR P c h' Oc w')(hl:h.length<=h'.length)(hU:Un T (zy is h O) w Oc w'):
 ρ.le (qM ρ c is H.length)/\Back is H.length c (qM ρ c is H.length)/\Fm ρ.fz O w c.fz (sS O Oc is H.length) w'/\HR P (qM ρ c is H.length) (jT is (vg is H.length h') H) (sS O Oc is H.length) w'/\H.length<=(jT is (vg is H.length h') H).length/\Un (Jp is T) O w (sS O Oc is H.length) w':=by
 have hlen:=(mJ hs).1
 have hok:=adt hs
 have hlc:is.length<=(vg is H.length h').length:=by rw[DR];omega
 have le:ρ.le (qM ρ c is H.length):=⟨fun a b x hx=>by
  have ha:a<H.length:=by
   rcases Nat.lt_or_ge a H.length with ha|ha
   ·exact ha
   ·rw[R.fr a b ha]at hx;cases hx
  simp only[qM,if_pos ha,hx],hle.fz,fun a ha=>by
  have hl:a<H.length:=by
   rcases Nat.lt_or_ge a H.length with hl|hl
   ·exact hl
   ·rw[R.of a hl]at ha;cases ha
  simp only[qM,if_pos hl,ha,Bool.true_or]⟩
 have ptn: ∀{i a b:Nat},aF is i=some (.pt a b)-> ∀{k:Nat},k≠0->c.nm i k=none:=fun{i a b} hp {k} hk=>C.on i k (hle.on i (by simp[eY,hp])) hk
 have nun: ∀{i:Nat},aF is i=some .jh-> ∀{k:Nat},k≠0->c.nm i k=none:=fun{i} hp {k} hk=>C.on i k (hle.on i (by simp[eY,hp])) hk
 have back:Back is H.length c (qM ρ c is H.length):=⟨rfl,fun i k x hx=>by
  cases hp:aF is i with
  |none=>
   have:=Zv hp
   refine .inr ⟨by simp,?_⟩
   unfold kR
   rw[hp]
   simp only[aI]
   show(qM ρ c is H.length).nm (H.length+(i-is.length)) k=_
   simp only[qM]
   rw[if_neg (by omega),show H.length+(i-is.length)-H.length+is.length=i by omega]
   exact hx
  |some p=>
   cases p with
   |gone a=>exact absurd hp (Jo hg)
   |jh=>
    refine .inl ⟨rfl,?_⟩
    by_cases hk:k=0
    ·subst hk
     rw[hle.nm i 0 .eG (by simp[eY,hp])]at hx
     cases hx;rfl
    ·rw[nun hp hk]at hx;cases hx
   |pt a b=>
    refine .inr ⟨by simp,?_⟩
    by_cases hk:k=0
    ·subst hk
     obtain⟨o,ho⟩:=hok _ (List.mem_of_getElem? (by rw[<-aJ];exact hp))
     have ha:=cZ ho
     unfold kR
     rw[hp]
     simp only[qM,if_pos ha]
     cases hr:ρ.nm a b with
     |some y=>
      rw[hle.nm i 0 y (by simp[eY,hp,hr])]at hx
      exact hx
     |none=>simp only[LP hd hp];exact hx
    ·rw[ptn hp hk]at hx;cases hx
   |all a=>
    refine .inr ⟨by simp,?_⟩
    have ha:a<H.length:=hok (.all a) (List.mem_of_getElem? (by rw[<-aJ];exact hp))
    unfold kR
    rw[hp]
    simp only[qM,if_pos ha]
    cases hr:ρ.nm a k with
    |some y=>
     rw[hle.nm i k y (by simp[eY,hp,hr])]at hx
     exact hx
    |none=>simp only[yw hd hp k];exact hx⟩
 have apart: ∀{a b q:Nat},dM is a b=none->O a b q-> ¬(zy is h O).any q:=fun{a b q} hi hq ⟨i,k,e,f,h1,_,h2⟩=>by
  obtain⟨rfl,rfl⟩:=R.dj _ _ _ _ _ hq h2
  rw[hi]at h1;cases h1
 have abm: ∀{a b:Nat},ix is H.length a b=none->a<H.length/\dM is a b=none:=fun{a b} hi=>by
  unfold ix at hi
  split at hi
  ·exact⟨by assumption,hi⟩
  ·cases hi
 have any: ∀{q:Nat},(zy is h O).any q->O.any q:=fun⟨i,k,e,f,_,_,h2⟩=>⟨e,f,h2⟩
 have look: ∀a b,bI (jT is (vg is H.length h') H) a b=match ix is H.length a b with
  |some (i,k)=>(bI h' i k).map (DN is H.length)
  |none=>bI H a b:=fun a b=>by
  have:=JV hok hd hlc (a:=a) b
  unfold ix
  by_cases ha:a<H.length
  ·rw[this.1 ha,if_pos ha]
   cases dM is a b with
   |none=>rfl
   |some q=>exact JU h' q.1 q.2
  ·rw[this.2 (by omega),if_neg ha]
   exact JU h' _ _
 have len:(jT is (vg is H.length h') H).length=H.length+(h'.length-is.length):=by rw[Nz hok hd hlc,DR]
 have cross: ∀{a b q:Nat}{i k:Nat},ix is H.length a b=none->O a b q->Oc i k q->False:=fun{a b q i k} hi hq hc=>by
  have:=abm hi
  exact apart this.2 hq (hfm.own q (R.lt a b q hq) ⟨i,k,hc⟩)
 refine⟨le,back,⟨hfm.os,hfm.tape,hfm.output,hfm.size,fun b hb hn=>hfm.block b hb fun ha=>hn (any ha),fun b hb ⟨a,d,ho⟩=>?_,fun b cs hb hlt=>(hfm.fz b cs hb hlt).imp id any⟩,
  ⟨fun a b o ho=>?_,fun a b d e q h1 h2=>?_,fun a b q hq=>?_,fun a b q hq=>?_,fun a b ha=>?_,fun a b ha hb=>?_,fun a o ho=>?_,fun a ha=>?_,fun b cs hb=>?_,C.sz⟩,by rw[len];omega,fun a b q hn hq=>?_⟩
 ·unfold sS at ho
  split at ho
  ·exact any (hfm.own b hb ⟨_,_,ho⟩)
  ·exact⟨a,d,ho⟩
 ·rw[look]at ho
  cases hi:ix is H.length a b with
  |some q=>
   obtain⟨i,k⟩:=q
   rw[hi]at ho
   have ho:(bI h' i k).map (DN is H.length)=some o:=ho
   obtain⟨o1,h1,rfl⟩:=Option.map_eq_some_iff.1 ho
   obtain⟨e1,e2⟩:=Xo hi
   have e:sS O Oc is H.length a b=Oc i k:=by funext q;simp only[sS,hi]
   rw[e]
   exact back.ob e2 e1 (C.ob i k o1 h1)
  |none=>
   rw[hi]at ho
   have e:sS O Oc is H.length a b=O a b:=by funext q;simp only[sS,hi]
   rw[e]
   exact((R.ob a b o ho).frame fun q hq hlt=>hfm.block q hlt (apart (abm hi).2 hq)).mono le
 ·unfold sS at h1 h2
  split at h1<;>split at h2
  ·rename_i i k hi _ j l hj
   obtain⟨rfl,rfl⟩:=C.dj _ _ _ _ _ h1 h2
   have h3:=(Xo hi).1
   rw[(Xo hj).1]at h3
   cases h3;exact⟨rfl,rfl⟩
  ·rename_i hj;exact(cross hj h2 h1).elim
  ·rename_i hi _ _ _ _;exact(cross hi h1 h2).elim
  ·exact R.dj _ _ _ _ _ h1 h2
 ·unfold sS at hq
  split at hq
  ·exact C.lt _ _ _ hq
  ·exact Nat.lt_of_lt_of_le (R.lt _ _ _ hq) hfm.size
 ·rw[look]
  unfold sS at hq
  split at hq
  ·obtain⟨o,ho⟩:=C.live _ _ _ hq
   rename_i hi
   exact⟨DN is H.length o,by simp only[ho];rfl⟩
  ·exact R.live _ _ _ hq
 ·rw[len]at ha
  simp only[qM]
  rw[if_neg (by omega)]
  exact C.fr _ _ (by omega)
 ·simp only[qM]at ha⊢
  by_cases hlt:a<H.length
  ·rw[if_pos hlt]at ha⊢
   cases hr:ρ.nm a b with
   |some x=>
    by_cases hon:ρ.on a=true
    ·rw[R.on a b hon hb]at hr;cases hr
    ·simp[hon]at ha
     obtain⟨i,h1,h2⟩:=ha
     have:=hle.nm i b x (by simp[eY,h1,hr])
     rw[C.on i b h2 hb]at this;cases this
   |none=>
    dsimp only
    cases hi:dM is a b with
    |none=>rfl
    |some q=>
     obtain⟨i,k⟩:=q
     dsimp only
     rcases iR hi with⟨h1,rfl⟩|⟨h1,rfl⟩
     ·obtain⟨o,ho⟩:=hok _ (List.mem_of_getElem? (by rw[<-aJ];exact h1))
      obtain⟨x,hx⟩:=(R.ob a b o ho).nm
      rw[hr]at hx;cases hx
     ·by_cases hon:ρ.on a=true
      ·exact C.on i k (hle.on i (by simp[eY,h1,hon])) hb
      ·simp[hon]at ha
       obtain⟨j,h3,h4⟩:=ha
       have:=yw hd h3 k
       rw[hi]at this;cases this
       exact C.on i k h4 hb
  ·rw[if_neg hlt]at ha⊢
   exact C.on _ _ ha hb
 ·by_cases hlt:a<H.length
  ·simp only[qM,if_pos hlt]
   rcases NG hok hd hlt ho with⟨o',h1⟩|⟨i,o',h1,h2⟩
   ·simp[R.sg a o' h1]
   ·rw[wV]at h2
    obtain⟨cc,h3,h4⟩:=Option.map_eq_some_iff.1 h2
    have:c.on i=true:=by
     cases cc with
     |no=>cases h4
     |one o2=>exact C.sg i o2 h3
     |many=>cases h4
    rw[Bool.or_eq_true]
    exact .inr (@decide_eq_true _ (Classical.propDecidable _) ⟨i,h1,this⟩)
  ·rw[QU hok hd hlc (by omega),wV]at ho
   obtain⟨cc,h3,h4⟩:=Option.map_eq_some_iff.1 ho
   simp only[qM,if_neg hlt]
   cases cc with
   |no=>cases h4
   |one o2=>exact C.sg _ o2 h3
   |many=>cases h4
 ·rw[len]at ha
  simp only[qM]
  rw[if_neg (by omega)]
  exact C.of _ (by omega)
 ·obtain⟨h1,h2⟩:=C.fz b cs hb
  refine⟨h1,fun a d hq=>?_⟩
  unfold sS at hq
  split at hq
  ·exact h2 _ _ hq
  ·rename_i hi
   have hlt:=R.lt a d b hq
   rcases hfm.fz b cs hb hlt with h3|h3
   ·exact(R.fz b cs h3).2 a d hq
   ·exact apart (abm hi).2 hq h3
 ·obtain⟨o,ho⟩:=R.live a b q hq
  have ha:=cZ ho
  have hlt:=R.lt a b q hq
  cases hi:dM is a b with
  |none=>
   have:ix is H.length a b=none:=by unfold ix;rw[if_pos ha];exact hi
   exact⟨by simp only[sS,this];exact hq,hfm.block q hlt (apart hi hq)⟩
  |some p=>
   obtain⟨i,k⟩:=p
   have e:ix is H.length a b=some (i,k):=by unfold ix;rw[if_pos ha];exact hi
   obtain⟨o1,ho1⟩:=PK hs hi ho
   have:=hU i k q (fun hT=>hn (Vb ((iR hi).imp (fun h=>h.1) fun h=>h.1) hT)) ⟨a,b,hi,⟨o1,ho1⟩,hq⟩
   exact⟨by simp only[sS,e];exact this.1,this.2⟩
end
theorem iM.frame {P:Program}{f:FuncId}{args args':List AV}{h H:Hp}{K K':List Nat->RV->Hp->Prop}(C:iM P f args h K)(is:List Pl)(hd:oU is=true)(hg:Zo is=true)(hs:vY is (llen H) (fun _=>none) H is h)(ha:zF is (llen H) (fun _=>none) args args')
 (hK: ∀T r h',K T r h'->K' (Jp is T) (aa5 is (llen H) r) (plug is H h')):iM P f args' H K':=by
 rw[aI]at hs ha
 simp only[plug,aI]at hK
 have hF: ∀ρ,EH ρ fun _=>none:=fun ρ j r hr=>by cases hr
 refine⟨C.enter,fun ρ O w xs R hx=>?_⟩
 refine Calls.mono (C.run (eY ρ is) (zy is h O) w xs (R.sub (hF ρ) hd hs) (uP R.fr (hF ρ) ha hx)) fun e w'=>?_
 rintro⟨T,r,x,c,h',Oc,rfl,hk,hle,hfm,hc,hl,hU,hr⟩
 obtain⟨q1,q2,q3,q4,q5,q6⟩:=aeH R hd hg hs hle hfm hc hl hU
 exact⟨_,_,x,_,_,_,rfl,hK T r h' hk,q1,q3,q4,q5,q6,q2.gr hr⟩
end Sx
end
end Go.Proofs.YtakhobfamnjnoaaGreatDoor
