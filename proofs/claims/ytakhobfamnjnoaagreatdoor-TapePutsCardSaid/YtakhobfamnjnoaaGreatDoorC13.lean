/- Symbolic runs: what is told is told anew; loops; how a run is gone on with. -/
import Derived.Test.YtakhobfamnjnoaaGreatDoorC12
import Derived.Test.YtakhobfamnjnoaaGreatDoorC01
set_option linter.unusedVariables false
set_option linter.unusedSimpArgs false
namespace Go.Proofs.YtakhobfamnjnoaaGreatDoor
section
namespace Sx
open Go Go.RowKit
def Ji:Option AO->Option (List PV)
 |some (.bH l _)=>some l
 |some (.row l _)=>wu l
 |_=>none
def zk:List Nat->Hp->Bool
 |[],_=>true
 |j::fs,h=>(match Ji (bI h j 0)with|some _=>zk fs (iV h j)|none=>false)
def zH:List Nat->Hp->Fs
 |[],_=>fun _=>none
 |j::fs,h=>fun m=>(match Nat.beq m j with|true=>Ji (bI h j 0)|false=>zH fs (iV h j) m)
def uh:List Nat->Hp->Hp
 |[],h=>h
 |j::fs,h=>uh fs (iV h j)
section
variable {P:Program} {T:jE} [lN P T] {ρ:Ren} {h:Hp} {O:Own} {w:World} {N:Nat} {e:bK} {a:Act}
theorem EH.mono {ρ':Ren}(hρ:ρ.le ρ'){F:Fs}(hF:EH ρ F):EH ρ' F:=fun j r hr=>(hF j r hr).imp (fun⟨h1,h2⟩=>⟨hρ.nm _ _ _ h1,h2⟩) fun⟨b,base,cs,⟨cap,h1⟩,h2,h3⟩=>⟨b,base,cs,⟨cap,hρ.nm _ _ _ h1⟩,hρ.fz _ _ h2,h3.mono hρ.fz⟩
theorem HR.pure (H:HR P ρ h O w){i:Nat}{l:List PV}(hi:Ji (bI h i 0)=some l): ∃t h',HR P ρ h' O w/\bI h' i 0=some (.bH l t)/\iV h' i=iV h i/\h'.length=h.length:=by
 unfold Ji at hi
 split at hi
 ·rename_i h0
  cases hi;exact⟨_,h,H,h0,rfl,rfl⟩
 ·rename_i r t h0
  have e:=Me hi
  subst e
  have hlt:=cZ h0
  obtain⟨_,H'⟩:=H.turn h0 (o':= .bH l t) rfl rfl rfl rfl (fun _ _=>rfl) (by
   have:=H.ob _ _ _ h0
   cases this with
   |row ho hr hB hh hc hsz=>rcases ho with e|⟨_,e,_⟩<;>cases e;exact .row (.inr ⟨l,rfl,rfl⟩) hr hB hh hc hsz
   |eG ho hr hB=>
    rcases ho with e|e
    ·injection e with e1 e2
     rw[List.map_eq_nil_iff.1 e1]
     exact .eG (.inr rfl) hr hB
    ·cases e)
  refine⟨t,_,H',by rw[Ej h0,if_pos ⟨rfl,rfl⟩],?_,iJ hlt⟩
  have: ∀(l:Hp)(n:Nat)(x y:gU),n<l.length->fM .no (fM .no l n x) n y=fM .no l n y:=by
   intro l
   induction l with
   |nil=>intro n x y h;simp at h
   |cons a l ih=>intro n x y h;cases n with
    |zero=>rfl
    |succ n=>exact congrArg (a:: ·) (ih n x y (by simpa using h))
  unfold iV nR
  split<;>exact this _ _ _ _ hlt
 ·cases hi
theorem HR.freezes: ∀{fs:List Nat}{ρ:Ren}{h:Hp}{O:Own},HR P ρ h O w->zk fs h=true-> ∃ρ' O',ρ.le ρ'/\Fm ρ.fz O w ρ'.fz O' w/\HR P ρ' (uh fs h) O' w/\EH ρ' (zH fs h)/\(uh fs h).length=h.length
 |[],ρ,h,O,H,_=>⟨ρ,O,ρ.le_refl,Fm.refl _ _ _,H,fun j r hr=>(by cases hr),rfl⟩
 |j::fs,ρ,h,O,H,hf=>by
  unfold zk at hf
  split at hf
  ·rename_i l hl
   obtain⟨t,h1,H1,g1,g2,g3⟩:=H.pure hl
   obtain⟨ρ2,O2,q1,q2,q3,q4⟩:=H1.freeze g1
   rw[g2]at q3
   obtain⟨ρ3,O3,r1,r2,r3,r4,r5⟩:=HR.freezes (fs:=fs) q3 hf
   have hlt:j<h.length:=by rw[<-g3];exact cZ g1
   refine⟨ρ3,O3,q1.le_trans r1,q2.trans r2,r3,fun m r hr=>?_,by unfold uh;rw[r5,jk hlt]⟩
   simp only[zH]at hr
   split at hr
   ·rename_i hm
    have e:=aQ hm
    subst e
    rw[hl]at hr;cases hr
    rcases q4 with⟨q4,q5⟩|⟨b,base,cs,⟨cap,q4⟩,q5,q6⟩
    ·exact .inl ⟨r1.nm _ _ _ (q1.nm _ _ _ q4),q5⟩
    ·exact .inr ⟨b,base,cs,⟨cap,r1.nm _ _ _ (q1.nm _ _ _ q4)⟩,r1.fz _ _ q5,q6.mono r1.fz⟩
   ·exact r4 m r hr
  ·cases hf
end
def Eo:Nat->Nat->List Pl->Bool
 |_,0,_=>true
 |i,n+1, .all a::l=>(match Nat.beq a i with|true=>Eo (Nat.succ i) n l|false=>false)
 |i,n+1, .gone a::l=>(match Nat.beq a i with|true=>Eo (Nat.succ i) n l|false=>false)
 |_,_+1,_=>false
theorem nG: ∀{n i:Nat}{is:List Pl},Eo i n is=true-> ∀{j:Nat},j<n->aF is j=some (.all (i+j))\/aF is j=some (.gone (i+j))
 |0,_,_,_,_,h=>by omega
 |n+1,i, .all a::l,h,j,hj=>by
  unfold Eo at h
  split at h
  ·rename_i e
   have e:=aQ e
   subst e
   cases j with
   |zero=>exact .inl rfl
   |succ j=>
    have:=nG h (j:=j) (by omega)
    simp only[Nat.succ_eq_add_one,Nat.add_assoc,Nat.add_comm 1]at this
    exact this
  ·cases h
 |n+1,i, .gone a::l,h,j,hj=>by
  unfold Eo at h
  split at h
  ·rename_i e
   have e:=aQ e
   subst e
   cases j with
   |zero=>exact .inr rfl
   |succ j=>
    have:=nG h (j:=j) (by omega)
    simp only[Nat.succ_eq_add_one,Nat.add_assoc,Nat.add_comm 1]at this
    exact this
  ·cases h
 |n+1,i, .pt .. ::l,h,_,_=>by cases h
 |n+1,i, .jh::l,h,_,_=>by cases h
 |n+1,i,[],h,_,_=>by cases h
def Q5 (is:List Pl)(L:Nat)(F:Fs):bK->bK->Prop
 |[],_=>True
 | .u::l,[]=>Q5 is L F l []
 |_::_,[]=>False
 | .u::l,_::m=>Q5 is L F l m
 |a::l,b::m=>Gi is L F a b/\Q5 is L F l m
def Tq (P:Program)(n:Nat)(e:bK)(h:Hp)(e':bK)(h':Hp):Prop:= ∀ρ O a w N,HR P ρ h O w->Fr ρ N e a-> ∃ρ' O',Le n ρ ρ'/\Fm ρ.fz O w ρ'.fz O' w/\HR P ρ' h' O' w/\Fr ρ' N e' a
theorem D9 {ρ:Ren}{is:List Pl}{L:Nat}{F:Fs}(hfr: ∀i k,L<=i->ρ.nm i k=none)(hF:EH ρ F): ∀{e' e:bK}{f:Nat->Value},Q5 is L F e' e->(∀i,GR ρ (eg e i) (f i))-> ∀i,GR (eY ρ is) (eg e' i) (f i)
 |[],_,_,_,_,i=> .u _
 | .u::l,[],f,h,hg,0=> .u _
 | .u::l,[],f,h,hg,i+1=>D9 hfr hF (e':=l) (e:=[]) (f:=fun i=>f (i+1)) h (fun i=> .u _) i
 | .a _::_,[],_,h,_,_=>h.elim
 | .aK _::_,[],_,h,_,_=>h.elim
 | .u::l,_::m,f,h,hg,0=> .u _
 | .u::l,_::m,f,h,hg,i+1=>D9 hfr hF (e':=l) (e:=m) (f:=fun i=>f (i+1)) h (fun i=>hg (i+1)) i
 | .a _::l,_::m,f,h,hg,0=>QX hfr hF h.1 (hg 0)
 | .a _::l,_::m,f,h,hg,i+1=>D9 hfr hF (e':=l) (e:=m) (f:=fun i=>f (i+1)) h.2 (fun i=>hg (i+1)) i
 | .aK _::l,_::m,f,h,hg,0=>QX hfr hF h.1 (hg 0)
 | .aK _::l,_::m,f,h,hg,i+1=>D9 hfr hF (e':=l) (e:=m) (f:=fun i=>f (i+1)) h.2 (fun i=>hg (i+1)) i
theorem ent {P:Program}{n:Nat}{e e':bK}{h h':Hp}(fs:List Nat)(is:List Pl)(hs:vY is (llen h) (zH fs h) (uh fs h) is h':=by((try cbv)<;>repeat' (first|trivial|rfl|apply And.intro|exact eP _|exact ql _ _ _ _|exact qo _ _ _ _|(refine⟨?_⟩;(first|exact hms _ _ _|(try cbv)))|(simp only[Nat.beq_refl];done)|(simp[hb];done)|(simp only[hb];omega))))(he:Q5 is (llen h) (zH fs h) e' e:=by((try cbv)<;>repeat' (first|trivial|rfl|apply And.intro|exact eP _|exact ql _ _ _ _|exact qo _ _ _ _|(refine⟨?_⟩;(first|exact hms _ _ _|(try cbv)))|(simp only[Nat.beq_refl];done)|(simp[hb];done)|(simp only[hb];omega))))(h1:zk fs h=true:=by cbv)(h2:Eo 0 n is=true:=by cbv)(h3:oU is=true:=by cbv):Tq P n e h e' h':=fun ρ O a w N H hF=>by
 obtain⟨ρ1,O1,q1,q2,q3,q4,q5⟩:=H.freezes h1
 rw[aI,<-q5]at hs he
 refine⟨eY ρ1 is,zy is h' O1,⟨fun i k x hi hx=>?_,q1.fz,fun i hi hx=>?_⟩,q2.trans Fm.sub,q3.sub q4 h3 hs,⟨D9 q3.fr q4 he fun i=>(hF.er i).mono q1,hF.size,hF.kE⟩⟩
 ·have:=q1.nm i k x hx
  rcases nG h2 hi with e|e<;>(simp only[Nat.zero_add]at e;simp[eY,e,this])
 ·have:=q1.on i hx
  rcases nG h2 hi with e|e<;>(simp only[Nat.zero_add]at e;simp[eY,e,this])
def EI (P:Program)(n:Nat)(r:RV)(h:Hp)(r':RV)(h':Hp):Prop:=n<=h'.length/\ ∀ρ O x w,HR P ρ h O w->GR ρ r x-> ∃ρ' O',Le n ρ ρ'/\Fm ρ.fz O w ρ'.fz O' w/\HR P ρ' h' O' w/\GR ρ' r' x
theorem aS {P:Program}{n:Nat}{r r':RV}{h h':Hp}(fs:List Nat)(is:List Pl)(hs:vY is (llen h) (zH fs h) (uh fs h) is h':=by((try cbv)<;>repeat' (first|trivial|rfl|apply And.intro|exact eP _|exact ql _ _ _ _|exact qo _ _ _ _|(refine⟨?_⟩;(first|exact hms _ _ _|(try cbv)))|(simp only[Nat.beq_refl];done)|(simp[hb];done)|(simp only[hb];omega))))(he:Gi is (llen h) (zH fs h) r' r:=by((try cbv)<;>repeat' (first|trivial|rfl|apply And.intro|exact eP _|exact ql _ _ _ _|exact qo _ _ _ _|(refine⟨?_⟩;(first|exact hms _ _ _|(try cbv)))|(simp only[Nat.beq_refl];done)|(simp[hb];done)|(simp only[hb];omega))))(h1:zk fs h=true:=by cbv)(h2:Eo 0 n is=true:=by cbv)(h3:oU is=true:=by cbv):EI P n r h r' h':=⟨by
 rw[<-(mJ hs).1]
 rcases Nat.lt_or_ge is.length n with hl|hl
 ·rcases nG h2 hl with e|e<;>(rw[aJ,List.getElem?_eq_none (Nat.le_refl _)]at e;cases e)
 ·exact hl,fun ρ O x w H hF=>by
 obtain⟨ρ1,O1,q1,q2,q3,q4,q5⟩:=H.freezes h1
 rw[aI,<-q5]at hs he
 refine⟨eY ρ1 is,zy is h' O1,⟨fun i k x hi hx=>?_,q1.fz,fun i hi hx=>?_⟩,q2.trans Fm.sub,q3.sub q4 h3 hs,QX q3.fr q4 he (hF.mono q1)⟩
 ·have:=q1.nm i k x hx
  rcases nG h2 hi with e|e<;>(simp only[Nat.zero_add]at e;simp[eY,e,this])
 ·have:=q1.on i hx
  rcases nG h2 hi with e|e<;>(simp only[Nat.zero_add]at e;simp[eY,e,this])⟩
def Ig:List RO->bK->bK
 |[],e=>e
 |o::l,e=>(match o.d with|some i=>Ig l (fM .u e i .u)|none=>Ig l e)
def oG:pq->bK->bK
 | .reg l,e=>Ig l e
 | .draw _ l,e=>Ig l e
 | .seq a b,e=>oG b (oG a e)
 | .cond _ a b,e=>oG b (oG a e)
 | .block _ c,e=>oG c e
 | .loop c,e=>oG c e
 | .scope c,e=>oG c e
 |_,e=>e
def lH:bK->List (Nat×RV)->bK
 |e,[]=>e
 |e,(i,v)::l=>lH (fM .u e i v) l
def jv:Hp->List (Nat×gU)->Hp
 |h,[]=>h
 |h,(i,v)::l=>jv (fM .no h i v) l
def rnd (k:KX)(m:bK->Hp->Prop)(x:Xt)(e:bK)(h:Hp):Prop:=match x with
 | .normal=>m e h
 | .exit i=>k (.exit i) e h
 | .ret=>k .ret e h
structure Next {α:Type}(P:Program)(n:Nat)(I:α->Prop)(m:α->Nat)(E:α->bK)(H:α->Hp)(a:α)(e:bK)(h:Hp):Prop where
 h: ∃b,I b/\m b<m a/\Tq P n e h (E b) (H b)
theorem loop {α:Type}{bx:{α:Type}->α->α}(hb: ∀{α:Type}(x:α),bx x=x){P:Program}{N n:Nat}{c:pq}{e:bK}{h:Hp}{k:KX}(I:α->Prop)(m:α->Nat)(V:α->List (Nat×RV))(U:α->List (Nat×gU))(a0:α)(i0:I a0)
 (h0:Tq P n e h (lH (oG c e) (V a0)) (jv h (U a0)))
 (hr: ∀a,I a->run bx P N n c (lH (oG c e) (V a)) (jv h (U a)) (rnd k (Next P n I m (fun a=>lH (oG c e) (V a)) (fun a=>jv h (U a)) a))) (hl: ∀a,Nat.ble n (llen (jv h (U a)))=true:=by intro _;cbv):O7 P N n c e h k:=by
 have eb: @bx= @I0:=o9 hb
 subst eb
 generalize hE:(fun a=>lH (oG c e) (V a))=E at hr
 generalize hH:(fun a=>jv h (U a))=H at hr
 have hE': ∀a,lH (oG c e) (V a)=E a:=fun a=>congrFun hE a
 have hH': ∀a,jv h (U a)=H a:=fun a=>congrFun hH a
 simp only[hE',hH']at h0 hl hr
 clear hE hH hE' hH'
 refine⟨fun T hT code hc hn ρ O a w hR hF Q hQ=>?_⟩
 subst hc
 obtain⟨ρ0,O0,p1,p2,p3,p4⟩:=h0 ρ O a w N hR hF
 refine wp_loop_ghost (fun j a' w'=> ∃b ρ' O',I b/\m b=j/\Le n ρ ρ'/\Fm ρ.fz O w ρ'.fz O' w'/\HR P ρ' (H b) O' w'/\Fr ρ' N (E b) a') (m a0) ⟨a0,ρ0,O0,i0,rfl,p1,p2,p3,p4⟩ fun j a' w' ⟨b,ρ',O',hib,hj,q1,q2,q3,q4⟩=>?_
 have hlb:n<=(H b).length:=by rw[<-aI];exact Nat.le_of_ble_eq_true (hl b)
 refine YE code (hr b hib) hlb ρ' O' a' w' q3 q4 _ fun x e' h' ρ2 O2 a2 w2 r1 r2 r3 r4 r5 r6=>?_
 cases x with
 |normal=>
  obtain⟨b2,hi2,hm,he⟩:=r1.h
  obtain⟨ρ3,O3,s1,s2,s3,s4⟩:=he ρ2 O2 a2 w2 N r4 r6
  exact⟨m b2,by rw[<-hj];exact hm,b2,ρ3,O3,hi2,rfl,(q1.trans r2 (Nat.le_refl _)).trans s1 (Nat.le_refl _),(q2.trans r3).trans s2,s3,s4⟩
 |exit i=>exact hQ (.exit i) e' h' ρ2 O2 a2 w2 r1 (q1.trans r2 (Nat.le_refl _)) (q2.trans r3) r4 r5 r6
 |ret=>exact hQ .ret e' h' ρ2 O2 a2 w2 r1 (q1.trans r2 (Nat.le_refl _)) (q2.trans r3) r4 r5 r6
theorem chk {c:Bool}{k:Unit->Prop}(h:c=true)(h2:k ()):lu c k:=⟨h,h2⟩
theorem get {α:Type}{c:Option α}{k:α->Prop}(v:α)(h:c=some v)(h2:k v):EG c k:=⟨v,h,h2⟩
theorem iM.mono {P:Program}{f:FuncId}{args:List AV}{h:Hp}{K K':List Nat->RV->Hp->Prop}(C:iM P f args h K)(hK: ∀T r h',K T r h'->K' T r h'):iM P f args h K':=⟨C.enter,fun ρ O w xs H hx=>(C.run ρ O w xs H hx).mono fun _ _ ⟨T,r,x,ρ',h',O',q1,q2,q3⟩=>⟨T,r,x,ρ',h',O',q1,hK T r h' q2,q3⟩⟩
def rng:Nat->List Nat
 |0=>[]
 |n+1=>app (rng n) [n]
theorem P6: ∀n,rng n=List.range n
 |0=>rfl
 |n+1=>by rw[rng,jP,P6 n,List.range_succ]
def Ct (P:Program)(f:FuncId)(args:List AV)(h:Hp)(K:RV->Hp->Prop):Prop:=iM P f args h fun T r h'=>T=rng (llen h)/\K r h'
theorem fn {bx:{α:Type}->α->α}(hb: ∀{α:Type}(x:α),bx x=x){P:Program}{T:jE}[lN P T]{f:FuncId}{F:Func}(hf:P.funcs[f]?=some F){args:List AV}{h:Hp}{K:RV->Hp->Prop}(hk: ∀Q:Program,Q=P-> ∀K':RV->Hp->Prop,(∀r h1 r' h2,EI Q (llen h) r h1 r' h2->K r' h2->K' r h1)->body bx Q args h K' (JX T F)):Ct P f args h K:=by
 have eb: @bx= @I0:=o9 hb
 subst eb
 have C:=enter (P:=P) (T:=T) hf (args:=args) (h:=h) (k:=fun r h1=> ∃r' h2,EI P (llen h) r h1 r' h2/\K r' h2) fun bx' hb' Q hQ=>by
  have eb': @bx'= @I0:=o9 hb'
  subst eb'
  exact hk Q hQ _ fun r h1 r' h2 q1 q2=>⟨r',h2,hQ▸q1,q2⟩
 refine⟨C.enter,fun ρ O w xs H hx=>(C.run ρ O w xs H hx).mono ?_⟩
 rintro _ w' ⟨T,r,x,ρ',h',O',rfl,⟨rfl,r2,h2,he,hk⟩,q1,q2,q3,q4,q5,q6⟩
 rw[aI]at he
 obtain⟨ρ2,O2,p1,p2,p3,p4⟩:=he.2 ρ' O' x w' q3 q6
 refine⟨List.range h.length,r2,x,ρ2,h2,O2,rfl,⟨by rw[P6,aI],hk⟩,⟨fun i j y hy=>?_,fun b cs hb=>p1.fz b cs (q1.fz b cs hb),fun i hi=>?_⟩,q2.trans p2,p3,he.1,fun i j q hn hq=>?_,p4⟩
 ·rcases Nat.lt_or_ge i h.length with hi|hi
  ·exact p1.nm i j y hi (q1.nm i j y hy)
  ·rw[H.fr i j hi]at hy;cases hy
 ·rcases Nat.lt_or_ge i h.length with hl|hl
  ·exact p1.on i hl (q1.on i hi)
  ·rw[H.of i hl]at hi;cases hi
 ·obtain⟨p,hp⟩:=H.live i j q hq
  exact absurd (List.mem_range.2 (cZ hp)) hn
theorem inl {P Q:Program}{bx:{α:Type}->α->α}(hb: ∀{α:Type}(x:α),bx x=x)(hQ:Q=P){T:jE}[lN P T]{f:FuncId}{F:Func}(hf:P.funcs[f]?=some F){args:List AV}{h:Hp}{K:List Nat->RV->Hp->Prop}(hk:body bx Q args h (K (rng (llen h))) (JX T F)):iM Q f args h K:=by
 subst hQ
 have eb: @bx= @I0:=o9 hb
 subst eb
 refine(enter (P:=Q) (T:=T) hf (args:=args) (h:=h) (k:=K (rng (llen h))) fun bx' hb' Q' hQ'=>?_).mono fun T r h' ⟨e,q⟩=>?_
 ·subst hQ'
  have eb': @bx'= @I0:=o9 hb'
  subst eb'
  exact hk
 ·rw[P6,aI]at q
  exact e▸q
theorem call {P Q:Program}(hQ:Q=P){f:FuncId}{args args':List AV}{h H:Hp}{K:RV->Hp->Prop}{K':List Nat->RV->Hp->Prop}(C:Ct P f args h K)(is:List Pl)(hK: ∀r h',K r h'->K' (Jp is (rng (llen h))) (aa5 is (llen H) r) (plug is H h'))(hs:vY is (llen H) (fun _=>none) H is h:=by((try cbv)<;>repeat' (first|trivial|rfl|apply And.intro|exact eP _|exact ql _ _ _ _|exact qo _ _ _ _|(refine⟨?_⟩;(first|exact hms _ _ _|(try cbv)))|(simp only[Nat.beq_refl];done)|(simp[hb];done)|(simp only[hb];omega))))(ha:zF is (llen H) (fun _=>none) args args':=by((try cbv)<;>repeat' (first|trivial|rfl|apply And.intro|exact eP _|exact ql _ _ _ _|exact qo _ _ _ _|(refine⟨?_⟩;(first|exact hms _ _ _|(try cbv)))|(simp only[Nat.beq_refl];done)|(simp[hb];done)|(simp only[hb];omega))))(hd:oU is=true:=by cbv)(hg:Zo is=true:=by cbv):iM Q f args' H K':=by
 subst hQ
 exact iM.frame C is hd hg hs ha fun T r h' ⟨e,q⟩=>e▸hK r h' q
end Sx
end
section
namespace bU
open Go
section
variable {P:Program} {ops:Array Oper} {bar:Bool}
def Ie (ops:Array Oper):Nat->List Nat->List Nat
 |0,l=>l
 |k+1,l=>Ie ops k (if l.contains k then(match ops[k]? with|some o=>(o.after.toList.filter (Region.binds .any)).map (·.on)++l|none=>l)else l)
def wo (ops:Array Oper)(i j:Nat):Bool:=i==j||(Ie ops (j+1) [j]).contains i
theorem VI {ops:Array Oper}{listed:Array Bool}(hc: ∀(k:Nat) o,ops[k]?=some o->listed.getD k false=true-> ∀e∈o.after,Region.binds .any e=true->listed.getD e.on false=true){j:Nat}(hj: ∀o,ops[j]?=some o-> ∀e∈o.after,Region.binds .any e=true->listed.getD e.on false=true):
 ∀(n:Nat)(l:List Nat),(∀i∈l,i=j\/listed.getD i false=true)-> ∀i∈Ie ops n l,i=j\/listed.getD i false=true
 |0,_,hl=>hl
 |n+1,l,hl=>VI hc hj n _ fun i hi=>by
  split at hi
  ·rename_i hn
   have hn:n∈l:=by simpa using hn
   split at hi
   ·rename_i o ho
    rcases List.mem_append.1 hi with h|h
    ·obtain⟨e,he,rfl⟩:=List.mem_map.1 h
     obtain⟨he,hb⟩:=List.mem_filter.1 he
     have he:e∈o.after:=by simpa using he
     rcases hl n hn with rfl|hln
     ·exact .inr (hj o ho e he hb)
     ·exact .inr (hc n o ho hln e he hb)
    ·exact hl i h
   ·exact hl i hi
  ·exact hl i hi
def jJ (P:Program)(ops:Array Oper)(bar:Bool)(Q:Act->World->Prop):Nat->Array Bool->(Nat->World->Prop)->Act->World->Prop
 |0,listed,C,a,w=>(bar=false-> ∀m,C m w)/\(∀(k:Nat) o,ops[k]?=some o->listed.getD k true=true)/\Q a w
 |fuel+1,listed,C,a,w=>(∀m,C m w)/\(Region.ready .any ops listed=[]->Q a w)/\
  ∀i∈Region.ready .any ops listed,wpOp P ops (mX Q) i (fun a' w'=> ∃C':Nat->World->Prop,(∀m,wo ops m i=false-> ∀u,C' m u->C m u)/\jJ P ops bar Q fuel (listed.setIfInBounds i true) C' a' w') a w
theorem FQ {Q:Act->World->Prop}{C D:Nat->World->Prop}(hCD: ∀m u,C m u->D m u): ∀{fuel:Nat}{listed:Array Bool}{a:Act}{w:World},jJ P ops bar Q fuel listed C a w->jJ P ops bar Q fuel listed D a w
 |0,_,_,_,h=>⟨fun hb m=>hCD m _ (h.1 hb m),h.2⟩
 |_+1,_,_,_,h=>⟨fun m=>hCD m _ (h.1 m),h.2.1,fun i hi=>wpOp_mono (fun _ _ ⟨C',hs,h⟩=>⟨C',fun m hm u hu=>hCD m u (hs m hm u hu),h⟩) (h.2.2 i hi)⟩
theorem Ir {Q:Act->World->Prop}{Q':Exit->Act->World->Prop}(hQ: ∀a w,Q a w->Q' .normal a w): ∀(fuel:Nat)(listed:Array Bool)(C:Nat->World->Prop)(a:Act)(w:World),
 jJ P ops bar Q fuel listed C a w->wpAny P .any ops Q' fuel listed a w
 |0,_,_,_,_,h=>⟨ready_nil h.2.1,hQ _ _ h.2.2⟩
 |fuel+1,_,_,_,_,h=>⟨fun h0=>hQ _ _ (h.2.1 h0),fun i hi=>wpOp_mono (fun a w ⟨C',_,h⟩=>Ir hQ fuel _ C' a w h)
   (AY (fun e a w h=>by cases e<;>first|exact hQ _ _ h|exact h.elim) (h.2.2 i hi))⟩
theorem iU.sub {C D:World->Prop}{o:Oper}{v:Value}{a:Act}(h:iU P ops C o v a)(hs: ∀u,D u->C u):iU P ops D o v a:=
 h.imp (fun h=>⟨h.1,fun w hw=>h.2 w (hs w hw)⟩) id
def Closed (ops:Array Oper)(l:Array Bool):Prop:= ∀(k:Nat) o,ops[k]?=some o->l.getD k false=true-> ∀e∈o.after,Region.binds .any e=true->l.getD e.on false=true
theorem uj {l:Array Bool}{j:Nat}(h:Closed ops l)(hj:j∈Region.ready .any ops l):Closed ops (l.setIfInBounds j true):=fun k o ho hl e he hb=>by
 obtain⟨_,oj,hoj,hall⟩:=mem_ready.1 hj
 by_cases hk:j=k
 ·subst hk
  rw[hoj]at ho;cases ho
  exact getD_set_true (hall e he hb)
 ·rw[getD_set_ne false hk]at hl
  exact getD_set_true (h k o ho hl e he hb)
def barT (ops:Array Oper):Bool:=
 match ops[ops.size-1]? with
 |some o=>!floats o.op&&(List.range (ops.size-1)).all fun k=>(List.range ops.size).any fun j=>Nat.ble (Nat.succ k) j&&match ops[j]? with|some oj=>oj.after.any fun e=>Region.binds .any e&&e.on==k|none=>false
 |none=>false
theorem VA {l:Array Bool}{k:Nat}(h:l.getD k false=true):l.getD k true=true:=by
 rcases Nat.lt_or_ge k l.size with h'|h'
 ·simp[h']at h⊢;exact h
 ·simp[Array.getElem?_eq_none h']at h
theorem SG (hb:barT ops=true): ∀l:Array Bool,Closed ops l->ops.size-1∈Region.ready .any ops l-> ∀(k:Nat) o,ops[k]?=some o->k≠ops.size-1->l.getD k true=true:=by
 intro l hc hl
 obtain⟨_,oz,hoz,hall⟩:=mem_ready.1 hl
 simp only[barT,hoz,Bool.and_eq_true,List.all_eq_true,List.mem_range,List.any_eq_true]at hb
 have key: ∀m k,ops.size-1-k=m->k<ops.size-1->l.getD k false=true:=by
  intro m
  induction m using Nat.strongRecOn with
  |_ m ih=>
   intro k hm hk
   obtain⟨j,hj,hkj,h1⟩:=hb.2 k hk
   have hkj:k<j:=Nat.le_of_ble_eq_true hkj
   cases hoj:ops[j]? with
   |none=>rw[hoj]at h1;cases h1
   |some oj=>
    rw[hoj]at h1
    dsimp only at h1
    rw[Array.any_eq_true']at h1
    obtain⟨e,he,h1⟩:=h1
    simp only[Bool.and_eq_true,beq_iff_eq]at h1
    by_cases hz:j=ops.size-1
    ·subst hz
     rw[hoz]at hoj;cases hoj
     rw[<-h1.2];exact hall e he h1.1
    ·rw[<-h1.2];exact hc j oj hoj (ih (ops.size-1-j) (by omega) j rfl (by omega)) e he h1.1
 intro k o hk hne
 have hlt:=(Array.getElem?_eq_some_iff.1 hk).1
 exact VA (key _ k rfl (by omega))
def MG (ops:Array Oper)(bar:Bool)(listed:Array Bool):Prop:=
 bar=true-> ∃z oz,ops[z]?=some oz/\listed.getD z true=false/\ ∀l:Array Bool,Closed ops l->z∈Region.ready .any ops l-> ∀(k:Nat) o,ops[k]?=some o->k≠z->l.getD k true=true
theorem sN {Q:Act->World->Prop}{i:Nat}{oi:Oper}{v:Value}(hi:ops[i]?=some oi)(hsel: ∀(j:Nat)(o:Oper) cs b,ops[j]?=some o->o.op≠ .select cs b):
 ∀(fuel:Nat)(listed:Array Bool)(C:Nat->World->Prop)(a:Act)(w:World),
  (∀j oj,ops[j]?=some oj->j≠i->listed.getD j true=false->(∀e∈oj.after,Region.binds .any e=true->e.on≠i)->oi.apart ops oj=true)->
  (∀m,C m w)->Closed ops listed->MG ops bar listed->
  i∈Region.ready .any ops listed->iU P ops (C i) oi v a->
  jJ P ops bar Q fuel (listed.setIfInBounds i true) C (a.put oi.dst v) w->jJ P ops bar Q (fuel+1) listed C a w:=by
 intro fuel
 induction fuel with
 |zero=>
  intro listed C a w _ hC _ _ hr hy H
  refine⟨hC,fun h=>(by rw[h]at hr;cases hr),fun j hj=>?_⟩
  by_cases hji:j=i
  ·subst hji;exact hy.wpOp hi (hC _) ⟨C,fun _ _ _ h=>h,H⟩
  ·have:=ready_mono hj hji
   rw[ready_nil H.2.1]at this
   cases this
 |succ fuel ih=>
  intro listed C a w hfree hC hcl hbar hr hy H
  refine⟨hC,fun h=>(by rw[h]at hr;cases hr),fun j hj=>?_⟩
  by_cases hji:j=i
  ·subst hji;exact hy.wpOp hi (hC _) ⟨C,fun _ _ _ h=>h,H⟩
  ·have h1:=H.2.2 j (ready_mono hj hji)
   obtain⟨hjun,oj,hoj,hall⟩:=mem_ready.1 hj
   have hnot: ∀e∈oj.after,Region.binds .any e=true->e.on≠i:=fun e he hb heq=>by
    have h1:=hall e he hb
    have h0:=(mem_ready.1 hr).1
    rw[heq]at h1
    rcases Nat.lt_or_ge i listed.size with h'|h'
    ·simp[h']at h0 h1;rw[h0]at h1;cases h1
    ·simp[Array.getElem?_eq_none h']at h1
   have h2:=MH hoj (hfree j oj hoj hji hjun hnot) (fun cs b=>hsel i oi cs b hi) (fun cs b=>hsel j oj cs b hoj) hy h1
   have hfree': ∀k ok,ops[k]?=some ok->k≠i->(listed.setIfInBounds j true).getD k true=false->
    (∀e∈ok.after,Region.binds .any e=true->e.on≠i)->oi.apart ops ok=true:=fun k ok hk hki hun hno=>by
    refine hfree k ok hk hki ?_ hno
    by_cases hjk:j=k
    ·subst hjk;exact hjun
    ·rw[getD_set_ne true hjk]at hun;exact hun
   have hcl':=uj hcl hj
   have XB:MG ops bar (listed.setIfInBounds j true):=fun hb=>by
    obtain⟨z,oz,hz,hun,hlast⟩:=hbar hb
    refine⟨z,oz,hz,?_,hlast⟩
    by_cases hjz:j=z
    ·subst hjz
     have:=hlast listed hcl hj i oi hi (Ne.symm hji)
     rw[(mem_ready.1 hr).1]at this
     cases this
    ·rw[getD_set_ne true hjz];exact hun
   refine wpOp_mono (fun a' w' h3=>?_) h2
   obtain⟨hy',C',hsub,h3⟩:=h3
   have air:wo ops i j=false:=by
    cases hd:wo ops i j with
    |false=>rfl
    |true=>
     exfalso
     unfold wo at hd
     simp only[Bool.or_eq_true,beq_iff_eq]at hd
     rcases hd with hd|hd
     ·exact hji hd.symm
     ·have h5:=VI (j:=j) hcl (fun o ho e he hb=>by
       rw[hoj]at ho;cases ho
       exact hall e he hb) (j+1) [j] (fun k hk=> .inl (by simpa using hk)) i (by simpa using hd)
      rcases h5 with h5|h5
      ·exact hji h5.symm
      ·have h0:=(mem_ready.1 hr).1
       rw[VA h5]at h0;cases h0
   refine⟨C',hsub,ih (listed.setIfInBounds j true) C' a' w' hfree' ?_ hcl' XB (ready_mono hr (Ne.symm hji)) (iU.sub hy' (hsub i air)) ?_⟩
   ·cases fuel with
    |succ f=>exact h3.1
    |zero=>
     cases hb:bar with
     |false=>exact h3.1 hb
     |true=>
      obtain⟨z,oz,hz,hun,hlast⟩:=hbar hb
      by_cases hzi:z=i
      ·subst hzi
       have:=hlast listed hcl hr j oj hoj hji
       rw[hjun]at this;cases this
      ·by_cases hzj:z=j
       ·subst hzj
        have:=hlast listed hcl hj i oi hi (Ne.symm hji)
        rw[(mem_ready.1 hr).1]at this;cases this
       ·have:=h3.2.1 z oz hz
        rw[getD_set_ne true (Ne.symm hzj),getD_set_ne true (Ne.symm hzi),hun]at this
        cases this
   ·rw[Array.setIfInBounds_comm _ _ hji]
    exact h3
end
end bU
end
end Go.Proofs.YtakhobfamnjnoaaGreatDoor
