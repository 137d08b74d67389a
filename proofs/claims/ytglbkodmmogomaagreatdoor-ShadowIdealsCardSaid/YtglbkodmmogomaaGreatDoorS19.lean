/- The document's tables in memory; less, find, many. -/
import Derived.Test.YtglbkodmmogomaaGreatDoorS16
set_option linter.unusedVariables false
set_option linter.unusedSimpArgs false
set_option maxHeartbeats 8000000
set_option maxRecDepth 100000
namespace Go.Proofs.YtglbkodmmogomaaGreatDoor
open List Go.Proofs.Tryz
section
open Go Go.RowKit
attribute [local irreducible] dI
theorem jZ (k:Int)(h:aJ k)(w:World):Calls prog 57 #[.int .i64 k] w fun e w'=>e= .returned (.int .i64 (grp k))/\w=w':=by
 have h1:(wrap64 (k.tmod 8+8)).tmod 8=grp k:=by
  have e:=acd k;obtain⟨a,b⟩:=h;unfold grp;rw[e];split
  ·rw[IntWalk.wrap64_in _ (by omega),Int.tmod_eq_emod_of_nonneg (by omega)];omega
  ·rw[IntWalk.wrap64_in _ (by omega),Int.tmod_eq_emod_of_nonneg (by omega)];omega
 go_enter func57,ntmps57;go_wp2;go_ret;exact⟨rfl,rfl⟩
theorem P9 (a b:Int)(ha:aJ a)(hb:aJ b)(w:World):Calls prog 55 #[.int .i64 a,.int .i64 b] w fun e w'=>e= .returned (.bool (bH a b))/\w=w':=by
 have H1:=γ ha;have H2:=γ hb;clear ha hb;by_cases h1:grp a<grp b
 ·have e:bH a b=true:=qA.2 (.inl h1)
  rw[e];clear e;go_enter func55,ntmps55;go_wp2_with fail;refine(jZ a H1.o _).mono ?_;rintro e w' ⟨rfl,rfl⟩;go_wp2_with fail;refine(jZ b H2.o _).mono ?_;rintro e w' ⟨rfl,rfl⟩;go_wp2;go_ret;exact⟨rfl,rfl⟩
 ·have h1':decide (grp a<grp b)=false:=decide_eq_false h1
  by_cases h2:grp a=grp b
  ·have h3:(grp a==grp b)=true:=by simp[h2]
   have e:bH a b=decide (a<b):=(by unfold bH;rw[decide_eq_false h1,decide_eq_true h2];simp);rw[e];clear e h2;by_cases h4:a<b
   ·have h5:decide (a<b)=true:=decide_eq_true h4
    rw[h5];go_enter func55,ntmps55;go_wp2_with fail;refine(jZ a H1.o _).mono ?_;rintro e w' ⟨rfl,rfl⟩;go_wp2_with fail;refine(jZ b H2.o _).mono ?_;rintro e w' ⟨rfl,rfl⟩;go_wp2;go_ret;exact⟨rfl,rfl⟩
   ·have h5:decide (a<b)=false:=decide_eq_false h4
    rw[h5];go_enter func55,ntmps55;go_wp2_with fail;refine(jZ a H1.o _).mono ?_;rintro e w' ⟨rfl,rfl⟩;go_wp2_with fail;refine(jZ b H2.o _).mono ?_;rintro e w' ⟨rfl,rfl⟩;go_wp2;go_ret;exact⟨rfl,rfl⟩
  ·have h3:(grp a==grp b)=false:=by simp[h2]
   have e:bH a b=false:=(by unfold bH;rw[decide_eq_false h1,decide_eq_false h2];rfl);rw[e];clear e h2;go_enter func55,ntmps55;go_wp2_with fail;refine(jZ a H1.o _).mono ?_;rintro e w' ⟨rfl,rfl⟩;go_wp2_with fail;refine(jZ b H2.o _).mono ?_;rintro e w' ⟨rfl,rfl⟩;go_wp2;go_ret;exact⟨rfl,rfl⟩
def WX (w:World)(b o:Nat)(p:Int×Cell):Prop:=
 w.cell? ⟨b,o,none⟩=some (.int .i64 p.1)/\w.cell? ⟨b,o+1,none⟩=some (.int .i64 p.2.1)/\ ∃lv,w.cell? ⟨b,o+2,none⟩=some lv/\Reads w 1 lv (ints p.2.2)
def cu (w:World)(cs:List Value)(T:Tab):Prop:=
 cs.length=T.length*3/\ ∀(i:Nat)(p:Int×Cell),T[i]?=some p->cs[i*3]?=some (.int .i64 p.1)/\cs[i*3+1]?=some (.int .i64 p.2.1)/\ ∃lv,cs[i*3+2]?=some lv/\Reads w 1 lv (ints p.2.2)
def AV (w:World)(v:Value)(T:Tab):Prop:= ∃cs,Reads w 3 v cs/\cu w cs T
theorem cu.pure {w w':World}{cs:List Value}{T:Tab}(h:cu w cs T)(hk:ε η w w'):cu w' cs T:=
 ⟨h.1,fun i p hp=>by obtain⟨a,b,lv,c,d⟩:=h.2 i p hp;exact⟨a,b,lv,c,d.pure hk⟩⟩
theorem AV.pure {w w':World}{v:Value}{T:Tab}(h:AV w v T)(hk:ε η w w'):AV w' v T:=by obtain⟨cs,h1,h2⟩:=h;exact⟨cs,h1.pure hk,h2.pure hk⟩
theorem AV.parts {w:World}{v:Value}{T:Tab}(h:AV w v T): ∃a cap,v= .slice a T.length cap/\T.length<=cap/\cap<=maxLen/\(T=[]\/ ∃b off,a=some ⟨b,off,none⟩/\ ∀i p,T[i]?=some p->WX w b (off+i*3) p):=by
 obtain⟨cs,⟨a,n,cap,rfl,h1,h2,h3,h4⟩,h5,h6⟩:=h;have hn:n=T.length:=(by omega);subst hn;refine⟨a,cap,rfl,h1,h2,?_⟩
 rcases h4 with h4|⟨b,off,rfl,h4⟩
 ·left
  rw[h4]at h5;exact τ (by simp at h5;omega)
 ·right
  refine⟨b,off,rfl,fun i p hp=>?_⟩;obtain⟨x,y,lv,z,t⟩:=h6 i p hp;exact⟨h4 _ _ x,h4 _ _ y,lv,h4 _ _ z,t⟩
theorem WX.pure {w w':World}{b o:Nat}{p:Int×Cell}(h:WX w b o p)(hk:ε η w w'):WX w' b o p:=by obtain⟨a,b,lv,c,d⟩:=h;exact⟨hk.cell id a,hk.cell id b,lv,hk.cell id c,d.pure hk⟩
structure RTabAt (w:World)(b:Nat)(T:Tab):Prop where
 obj: ∃v,w.heap[b]?=some (.cells #[v] 103 (0,0))/\AV w v T
 ok:fC T
theorem RTabAt.pure {w w':World}{b:Nat}{T:Tab}(h:RTabAt w b T)(hk:ε η w w'):RTabAt w' b T:=by obtain⟨⟨v,h1,h2⟩,h3⟩:=h;exact⟨⟨v,hk.heap h1 id,h2.pure hk⟩,h3⟩
def aV (k:Int):Tab->Nat
 |[]=>0
 |p::T=>if bH p.1 k then aV k T+1 else 0
theorem xI (k:Int): ∀T:Tab,aV k T<=T.length
 |[]=>ξ _
 |p::T=>by unfold aV;split;have:=xI k T;simp;omega;exact Nat.zero_le _
theorem Gh {k:Int}: ∀{T:Tab}{i:Nat}{p:Int×Cell},i<aV k T->T[i]?=some p->bH p.1 k=true
 |q::T,0,p,h,hp=>by
  cases hp;unfold aV at h;split at h
  ·assumption
  ·omega
 |q::T,i+1,p,h,hp=>by
  unfold aV at h;split at h
  ·exact Gh (T:=T) (i:=i) (by omega) (by simpa using hp)
  ·omega
theorem Gg {k:Int}: ∀{T:Tab}{p:Int×Cell},T[aV k T]?=some p->bH p.1 k=false
 |q::T,p,hp=>by
  unfold aV at hp;split at hp
  ·exact Gg (T:=T) (by simpa using hp)
  ·rename_i h
   cases hp;simpa using h
theorem EX {k:Int}{T:Tab}(hT:dO T):(match T[aV k T]? with|some p=>p.1==k|none=>false)=(bZ T k).isSome:=by
 induction T with
 |nil=>rfl
 |cons q T ih=>
  obtain⟨h1,h2⟩:=pairwise_cons.1 hT;unfold aV bZ;rw[find?_cons];by_cases hl:bH q.1 k=true
  ·rw[if_pos hl]
   have hne:(k==q.1)=false:=(by simp;intro e;subst e;rw[bM]at hl;cases hl);rw[hne];have:=ih h2;unfold bZ at this;simpa using this
  ·rw[if_neg hl]
   by_cases he:k=q.1
   ·subst he;simp
   ·have hkq:bH k q.1=true:=(jO he).resolve_right hl
    have e1:(k==q.1)=false:=(by simp[he]);have e2:(q.1==k)=false:=(by simp;exact fun e=>he e.symm);rw[e1];have:T.find? (fun p=>k==p.1)=none:=(by rw[find?_eq_none];intro x hx e;have:=iY hkq (h1 x hx);simp at e;rw[e,bM]at this;cases this);rw[this];simp[e2]
def agH (w:World)(n:Nat)(b:Bool)(e:Ending)(w':World):Prop:=e= .returned (.tuple #[.int .i64 (n:Int),.bool b])/\ε η w w'
theorem yB (b:Nat)(T:Tab)(k:Int)(w:World)(h:RTabAt w b T)(hk:aJ k):Calls prog 179 #[.pointer (some ⟨b,0,none⟩),.int .i64 k] w (agH w (aV k T) (bZ T k).isSome):=by
 obtain⟨⟨v,eU,hrt⟩,hok⟩:=h;obtain⟨pa,jI,rfl,hc1,hc2,hcl⟩:=hrt.parts;have c0:w.cell? ⟨b,0,none⟩=some (.slice pa T.length jI):=ζ eU rfl;have hT:=hok.len;unfold maxLen at hc2;have HC:=γ (θ hcl hok);have HIS:=γ (EX (k:=k) hok.rises);have HK:=γ hk;have hfl:=xI k T;clear eU hrt hcl hok hk;go_enter func179,ntmps179;go_wp2;go_loopg [6] T.length (fun g vi wr=> ∃i:Nat,i<=aV k T/\vi= .int .i64 (i:Int)/\T.length-i<=g/\wr=w)
 case atStart=>exact⟨0,Nat.zero_le _,rfl,by omega,rfl⟩
 case round=>
  obtain⟨i,hif,rfl,hg,rfl⟩:=hrel;by_cases hlt:i<T.length
  ·obtain⟨p,hp⟩: ∃p,T[i]?=some p:=⟨_,ι hlt⟩
   obtain⟨rb,ro,rfl,hr⟩:=HC.o.1.resolve_left (fun h=>by rw[h]at hp;cases hp);obtain⟨x0,x1,lv,x2,x3⟩:=hr i p hp;have Qv:=HC.o.2.key p (ς hp);have LS:=γ (fun W=>P9 p.1 k Qv HK.o W);have HP:=γ hp;clear hr x1 x2 x3 Qv;by_cases hii:i<aV k T
   ·have hl:=Gh hii hp
    have HL:=γ hl;clear hp hl;go_wp2_with fail;refine(LS.o _).mono ?_;rintro e w' ⟨rfl,rfl⟩;rw[HL.o];go_wp2;go_roundg (T.length-(i+1))
    case rel=>exact⟨i+1,by omega,by go_num,ξ _,rfl⟩
    case measure=>omega
   ·have hie:i=aV k T:=by omega
    have hl:bH p.1 k=false:=Gg (by rw[<-hie];exact hp);have his:(p.1==k)=(bZ T k).isSome:=(by have:=HIS.o;rw[<-hie,hp]at this;exact this);have HL:=γ (θ hl (θ hie his));clear hp hl hie his;go_wp2_with fail;refine(LS.o _).mono ?_;rintro e w' ⟨rfl,rfl⟩;rw[HL.o.1];go_wp2_with fail;obtain⟨bb,hbb⟩:=acu (p.1==k);have HB:=γ hbb;refine acv [0,1,2,3,4,5,6,7,8,9,10,11,12,13,14,15,16,17,18,19,20,21] ?_;simp only[aco];iterate 22 (first|(apply aT rfl;go_frame)|(apply aj rfl rfl;(intro W hW;have z0:=hW.cell id c0;have z1:=hW.cell id x0;go_simp;rfl);go_frame))
    refine aA (fun _=>δ.drew) ?_;go_wp2;go_ret2;rw[<-HL.o.2.1,<-HL.o.2.2,HB.o];exact⟨rfl,δ.drew⟩
  ·have hie:i=T.length:=by omega
   have hit:i=aV k T:=(by omega);have his:(bZ T k).isSome=false:=(by have:=HIS.o;rw[<-hit,aak (by omega)]at this;exact this.symm);have HL:=γ (θ hit his);have hlt2: ¬((i:Nat):Int)<(T.length:Int):=(by omega);have hlt3:decide (i<T.length)=false:=decide_eq_false hlt;clear hie hit his;go_wp2;refine acv [0,1,2,3,4,5,6,7,8,9,10,11,12,13,14,15,16,17,18,19,20,21] ?_;simp only[aco];iterate 22 (first|(apply aT rfl;go_frame)|(apply aj rfl rfl;(intro W hW;have z0:=hW.cell id c0;go_simp;rfl);go_frame))
   refine aA (fun _=>δ.drew) ?_;go_wp2;go_ret2;rw[<-HL.o.1,HL.o.2];exact⟨rfl,δ.drew⟩
theorem Va {T:Tab}{i:Nat}{p:Int×Cell}{g:Int}(h:T[i]?=some p):aX (T.take (i+1)) g=aX (T.take i) g+if grp p.1=g then 1 else 0:=by unfold aX;rw[ψ,h,countP_append];simp[countP_cons]
theorem BQ (b:Nat)(T:Tab)(g:Int)(w:World)(h:RTabAt w b T):Calls prog 56 #[.pointer (some ⟨b,0,none⟩),.int .i64 g] w (Is w (.int .i64 (aX T g))):=by
 obtain⟨⟨v,eU,hrt⟩,hok⟩:=h;obtain⟨pa,jI,rfl,hc1,hc2,hcl⟩:=hrt.parts;have c0:w.cell? ⟨b,0,none⟩=some (.slice pa T.length jI):=ζ eU rfl;have hT:=hok.len;unfold maxLen at hc2;have HC:=γ (θ hcl hok);clear eU hrt hcl hok;go_enter func56,ntmps56;go_wp2;go_loopg [5,6] T.length (fun gg vn vi wr=> ∃i:Nat,i<=T.length/\vi= .int .i64 (i:Int)/\vn= .int .i64 ((aX (T.take i) g:Nat):Int)/\T.length-i<=gg/\wr=w)
 case atStart=>exact⟨0,Nat.zero_le _,rfl,by simp[aX],by omega,rfl⟩
 case round=>
  obtain⟨i,hif,rfl,rfl,hg,rfl⟩:=hrel;by_cases hlt:i<T.length
  ·obtain⟨p,hp⟩: ∃p,T[i]?=some p:=⟨_,ι hlt⟩
   obtain⟨rb,ro,rfl,hr⟩:=HC.o.1.resolve_left (fun h=>by rw[h]at hp;cases hp);obtain⟨x0,x1,lv,x2,x3⟩:=hr i p hp;have Qv:=HC.o.2.key p (ς hp);have hm:aX (T.take i) g<=320:=(by have h1:aX (T.take i) g<=(T.take i).length:=countP_le_length;have h2:=length_take_le' i T;omega);have HP:=γ (θ hp Qv);have hst:=Va (g:=g) hp;have HS:=γ hst;obtain⟨N,hN⟩:=acu (aX (T.take i) g);rw[hN]at hm HS⊢;clear hr x1 x2 x3 Qv hp hst hN;by_cases he:grp p.1=g
   ·have heb:(grp p.1==g)=true:=by simp[he]
    have HE:=γ he;clear he;go_wp2_with fail;refine(jZ p.1 HP.o.2 _).mono ?_;rintro e w' ⟨rfl,rfl⟩;go_wp2;go_roundg (T.length-(i+1))
    case rel=>exact⟨i+1,by omega,by go_num,by rw[HS.o,if_pos HE.o];go_num,ξ _,rfl⟩
    case measure=>omega
   ·have heb:(grp p.1==g)=false:=by simp[he]
    have HE:=γ he;clear he;go_wp2_with fail;refine(jZ p.1 HP.o.2 _).mono ?_;rintro e w' ⟨rfl,rfl⟩;go_wp2;go_roundg (T.length-(i+1))
    case rel=>exact⟨i+1,by omega,by go_num,by rw[HS.o,if_neg HE.o];rfl,ξ _,rfl⟩
    case measure=>omega
  ·have hie:i=T.length:=by omega
   subst hie;rw[χ (ξ _)];have hlt2: ¬((T.length:Nat):Int)<(T.length:Int):=(by omega);go_wp2;go_ret;exact⟨rfl,rfl⟩
end
section
open Go Go.RowKit
attribute [local irreducible] dI iO H2.eX
theorem Yr (key:Int)(h:aJ key)(w:World):Calls prog 80 #[.int .i64 key] w fun e w'=>e= .returned (.int .i64 ((partOf key:Nat):Int))/\w=w':=by
 have co:=jZ key h w;unfold partOf;obtain⟨g,hgg⟩:=acu (grp key);rw[hgg]at co⊢;clear hgg;go_enter func80,ntmps80;go_wp2_with fail;refine co.mono ?_;clear co;rintro e w' ⟨rfl,rfl⟩;by_cases hg:g<4
 ·go_wp2
  go_ret;first|exact⟨rfl,rfl⟩|(rw[if_pos hg];exact⟨rfl,rfl⟩)
 ·go_wp2
  go_ret;first|exact⟨rfl,rfl⟩|(rw[if_neg (by omega)];exact⟨rfl,rfl⟩)
def um (x y:List dU):Int:=match eH x y 0 with
 |some n=>(n:Int)
 |none=> -1
theorem vU {x y:List dU}{n:Nat}(h:eH x y 0=some n):um x y=(n:Int):=by unfold um;rw[h]
theorem ED {x y:List dU}(h:eH x y 0=none):um x y= -1:=by unfold um;rw[h]
theorem Vz (u v:Value)(X Y:List dU)(w:World)(hx:Reads w 2 u (lM X))(hy:Reads w 2 v (lM Y)):Calls prog 66 #[u,v] w (Gives w (.int .i64 (um X Y))):=by
 obtain⟨pa,ca,rfl,a1,a2,a3⟩:=hx.DJ;obtain⟨pb,cb,rfl,d1,d2,d3⟩:=hy.DJ;unfold maxLen at a2 d2;have H:=γ (θ a3 d3);clear hx hy a3 d3;go_enter func66,ntmps66;go_wp2;go_loopg [5] X.length (fun g vi wq=> ∃(k:Nat),k<=X.length/\k<=Y.length/\vi= .int .i64 (k:Int)/\X.length-k<=g/\eH X Y 0=eH (X.drop k) (Y.drop k) k/\ε η w wq)
 case atStart=>exact⟨0,by omega,by omega,rfl,by omega,rfl,ε.refl _ _⟩
 case round=>
  obtain⟨wq,rfl⟩: ∃wq:World,wq=wr:=⟨_,rfl⟩;obtain⟨k,hkX,hkY,rfl,hg,hfu,hkq⟩:=hrel;have Q:=γ (θ hg (θ hfu hkq));clear hg hfu hkq;by_cases hx1:X.length<=k
  ·have hkx:k=X.length:=by omega
   have hxI: ¬((k:Int)<(X.length:Int)):=(by omega);by_cases hy1:Y.length<=k
   ·have hky:k=Y.length:=by omega
    have F:=γ (show um X Y= -1 from ED (by rw[Q.o.2.1];exact Ia hx1 hy1 k));have e1:((k:Int)=(X.length:Int)):=(by omega);have e2:((k:Int)=(Y.length:Int)):=(by omega);have E:=γ (θ e1 e2);clear hkx hky e1 e2;go_wp2;refine acv [0,1,2,3,4,5,6,7,8,9,10,11,12,13,14,15,16,17,18,19,20] ?_;simp only[aco];iterate 3 (apply aj rfl rfl;(intro W hW;go_simp;rfl);go_frame)
    refine aj (v:= .bool false) rfl rfl (by intro W hW;go_simp;try(simp;try omega)) ?_;go_frame;iterate 1 (apply aj rfl rfl;(intro W hW;go_simp;rfl);go_frame)
    iterate 4 (apply aT rfl;go_frame)
    iterate 2 (apply aj rfl rfl;(intro W hW;go_simp;rfl);go_frame)
    iterate 9 (apply aT rfl;go_frame)
    iterate 1 (apply aj rfl rfl;(intro W hW;go_simp;rfl);go_frame)
    refine aA (fun _=>δ.drew) ?_;have e1:=E.o.1;have e2:=E.o.2;go_wp2;go_ret;rw[F.o];exact⟨rfl,Q.o.2.2.drew⟩
   ·have hy2:k<Y.length:=by omega
    have F:=γ (show um X Y=(k:Int)from vU (by rw[Q.o.2.1];exact Ez hx1 hy2 k));have e1:((k:Int)=(X.length:Int)):=(by omega);have e2: ¬((k:Int)=(Y.length:Int)):=(by omega);have E:=γ (θ e1 e2);clear hkx e1 e2;go_wp2;refine acv [0,1,2,3,4,5,6,7,8,9,10,11,12,13,14,15,16,17,18,19,20] ?_;simp only[aco];iterate 3 (apply aj rfl rfl;(intro W hW;go_simp;rfl);go_frame)
    refine aj (v:= .bool false) rfl rfl (by intro W hW;go_simp;try(simp;try omega)) ?_;go_frame;iterate 1 (apply aj rfl rfl;(intro W hW;go_simp;rfl);go_frame)
    iterate 4 (apply aT rfl;go_frame)
    iterate 2 (apply aj rfl rfl;(intro W hW;go_simp;rfl);go_frame)
    iterate 9 (apply aT rfl;go_frame)
    iterate 1 (apply aj rfl rfl;(intro W hW;go_simp;rfl);go_frame)
    refine aA (fun _=>δ.drew) ?_;have e1:=E.o.1;have e2:=E.o.2;go_wp2;go_ret;rw[F.o];exact⟨rfl,Q.o.2.2.drew⟩
  ·have hx2:k<X.length:=by omega
   have e1: ¬((k:Int)=(X.length:Int)):=(by omega);have E:=γ e1;clear e1;by_cases hy1:Y.length<=k
   ·have F:=γ (show um X Y=(k:Int)from vU (by rw[Q.o.2.1];exact Dc hx2 hy1 k))
    have hyI: ¬((k:Int)<(Y.length:Int)):=(by omega);go_wp2;refine acv [0,1,2,3,4,5,6,7,8,9,10,11,12,13,14,15,16,17,18,19,20] ?_;simp only[aco];iterate 3 (apply aj rfl rfl;(intro W hW;go_simp;rfl);go_frame)
    refine aj (v:= .bool true) rfl rfl (by intro W hW;go_simp;try(simp;try omega)) ?_;go_frame;iterate 1 (apply aj rfl rfl;(intro W hW;go_simp;rfl);go_frame)
    iterate 3 (apply aj rfl rfl;(intro W hW;go_simp;rfl);go_frame)
    refine aj (v:= .bool false) rfl rfl (by intro W hW;go_simp;try(simp;try omega)) ?_;go_frame;iterate 2 (apply aj rfl rfl;(intro W hW;go_simp;rfl);go_frame)
    iterate 9 (apply aT rfl;go_frame)
    iterate 1 (apply aj rfl rfl;(intro W hW;go_simp;rfl);go_frame)
    refine aA (fun _=>δ.drew) ?_;have e1:=E.o;go_wp2;go_ret;rw[F.o];exact⟨rfl,Q.o.2.2.drew⟩
   ·have hy2:k<Y.length:=by omega
    obtain⟨bx,ox,rfl,hcx⟩:=H.o.1.resolve_left (fun h=>by rw[h]at hx2;simp at hx2);obtain⟨by',oy,rfl,hcy⟩:=H.o.2.resolve_left (fun h=>by rw[h]at hy2;simp at hy2);have x0:=Q.o.2.2.cell (p:=⟨bx,ox+k*2,none⟩) id (hcx k _ (ι hx2)).1;have x1:=Q.o.2.2.cell (p:=⟨bx,ox+k*2+1,none⟩) id (hcx k _ (ι hx2)).2;have y0:=Q.o.2.2.cell (p:=⟨by',oy+k*2,none⟩) id (hcy k _ (ι hy2)).1;have y1:=Q.o.2.2.cell (p:=⟨by',oy+k*2+1,none⟩) id (hcy k _ (ι hy2)).2;have hfd:=γ (EC hx2 hy2 k);obtain⟨s,hs⟩:=acu (X[k]);obtain⟨t,ht⟩:=acu (Y[k]);rw[hs]at x0 x1 hfd;rw[ht]at y0 y1 hfd;clear hcx hcy hs ht;go_wp2;refine acv [0,1,2,3,4,5,6,7,8,9,10,11,12,13,14,15,16,17,18,19,20] ?_;simp only[aco];iterate 3 (apply aj rfl rfl;(intro W hW;go_simp;rfl);go_frame)
    refine aj (v:= .bool true) rfl rfl (by intro W hW;go_simp;try(simp;try omega)) ?_;go_frame;iterate 1 (apply aj rfl rfl;(intro W hW;go_simp;rfl);go_frame)
    iterate 3 (apply aj rfl rfl;(intro W hW;go_simp;rfl);go_frame)
    refine aj (v:= .bool true) rfl rfl (by intro W hW;go_simp;try(simp;try omega)) ?_;go_frame;iterate 2 (apply aj rfl rfl;(intro W hW;go_simp;rfl);go_frame)
    iterate 8 (apply aj rfl rfl;(intro W hW;have c0:=hW.cell (p:=⟨bx,ox+k*2,none⟩) id x0;have c1:=hW.cell (p:=⟨bx,ox+k*2+1,none⟩) id x1;have d0:=hW.cell (p:=⟨by',oy+k*2,none⟩) id y0;have d1:=hW.cell (p:=⟨by',oy+k*2+1,none⟩) id y1;go_simp;rfl);go_frame)
    refine aj (v:= .bool (decide (s=t))) rfl rfl ?_ ?_
    ·intro W hW
     go_simp;by_cases hst:s=t
     ·subst hst;simp
     ·have:s.1≠t.1\/s.2≠t.2:=by
       by_cases h1:s.1=t.1
       ·right;intro h2;exact hst (Prod.ext h1 h2)
       ·left;exact h1
      rcases this with h|h
      ·simp[h,hst]
      ·simp[h,hst]
    go_frame;clear x0 x1 y0 y1;by_cases hst:s=t
    ·have hf:decide (s=t)=true:=by simp[hst]
     rw[hf];rw[if_pos hst]at hfd;have HF:=γ hfd;clear hf hst hfd;apply aj rfl rfl;(intro W hW;go_simp;rfl);go_frame;refine aA (fun _=>δ.drew) ?_;go_wp2;go_roundg (X.length-(k+1))
     case rel=>exact⟨k+1,by omega,by omega,by go_num,ξ _,by rw[Q.o.2.1];exact HF.o.o,Q.o.2.2.drew⟩
     case measure=>have:=Q.o.1;omega
    ·have hf:decide (s=t)=false:=by simp[hst]
     rw[hf];rw[if_neg hst]at hfd;have F:=γ (show um X Y=(k:Int)from vU (by rw[Q.o.2.1];exact hfd.o));clear hf hst hfd;apply aj rfl rfl;(intro W hW;go_simp;rfl);go_frame;refine aA (fun _=>δ.drew) ?_;have e1:=E.o;go_wp2;go_ret;rw[F.o];exact⟨rfl,Q.o.2.2.drew⟩
end
section
open Go Go.RowKit
def ji:Nat->Ex->Nat
 |0,_=>0
 |f+1,.mk _ _ l=>if f=0 then 1 else(l.map (ji f)).foldl max 0+1
def gQ:Nat->Ex->Bool
 |0,_=>true
 |f+1,.mk op n l=>decide (arity op=l.length)&&decide (0<=n)&&decide (n=0\/op=1)&&l.all (gQ f)
theorem tu (f:Nat)(x:Ex):gQ (f+1) x=(decide (arity x.op=x.args.length)&&decide (0<=x.n)&&decide (x.n=0\/x.op=1)&&x.args.all (gQ f)):=by cases x;rfl
theorem Fj (f:Nat)(x:Ex):ji (f+2) x=(x.args.map (ji (f+1))).foldl max 0+1:=by cases x;rfl
theorem yx {l:List Nat}{b n:Nat}:l.foldl max b<=n↔b<=n/\ ∀y∈l,y<=n:=by
 induction l generalizing b with
 |nil=>simp
 |cons y l ih=>simp only[foldl_cons,ih,Nat.max_le,aci,forall_eq_or_imp,and_assoc]
theorem yF: ∀(f:Nat)(x:Ex),bg f x=(decide (ji (f+1) x<=f)&&gQ (f+1) x)
 |0,.mk op n l=>by simp[bg,ji]
 |f+1,x=>by
  have h1:x.args.all (bg f)=(x.args.all (fun y=>decide (ji (f+1) y<=f))&&x.args.all (gQ (f+1))):=by
   rw[Bool.eq_iff_iff];simp only[Φ,all_eq_true];constructor
   ·intro h
    refine⟨fun y hy=>?_,fun y hy=>?_⟩;all_goals
     have:=h y hy;rw[yF f y,Φ]at this
    ·exact this.1
    ·exact this.2
   ·rintro⟨ha,hb⟩ y hy
    rw[yF f y,Φ];exact⟨ha y hy,hb y hy⟩
  have h2:decide (ji (f+2) x<=f+1)=x.args.all (fun y=>decide (ji (f+1) y<=f)):=(by rw[Bool.eq_iff_iff,decide_eq_true_iff,Fj,all_eq_true];have: ∀n:Nat,n+1<=f+1↔n<=f:=fun n=>(by omega);rw[this,yx];simp);rw[uV,tu,h1,h2];cases(x.args.all fun y=>decide (ji (f+1) y<=f))<;>cases(x.args.all (gQ (f+1)))<;>simp
theorem xP: ∀(f:Nat)(x:Ex),ji f x<=f
 |0,x=>by cases x;exact ξ 0
 |1,x=>by cases x;exact ξ 1
 |f+2,x=>by
  rw[Fj]
  have:(x.args.map (ji (f+1))).foldl max 0<=f+1:=yx.2 ⟨by omega,fun y hy=>by
   obtain⟨z,_,rfl⟩:=aaw.1 hy
   exact xP (f+1) z⟩
  omega
theorem Lh {a b:Int}(h:a=b):Ending.returned (.int .i64 a)= .returned (.int .i64 b):=by rw[h]
def ad2 (f:Nat):Prop:= ∀(x:Ex)(a:Array Value)(L:Int)(w:World),L=f->f<=17->aF w a x->Calls prog 262 #[.agg a,.int .i64 L] w (Gives w (.int .i64 (ji f x:Int)))
theorem Wy {l:List Nat}{k n:Nat}(h:l[k]?=some n):(l.take (k+1)).foldl max 0=max ((l.take k).foldl max 0) n:=by rw[ψ,h,foldl_append];rfl
theorem JD: ∀f,ad2 f
 |0=>fun x a L w hL hf h=>by obtain⟨p,cap,rfl,h0,h1,h2,h3,h4,h5⟩:=h.parts;subst hL;clear h5 h;unfold maxLen at h4;have e:ji 0 x=0:=(by cases x;rfl);rw[e];go_enter func262,ntmps262;go_wp2;go_ret;exact⟨rfl,δ.alloc _⟩
 |1=>fun x a L w hL hf h=>by obtain⟨p,cap,rfl,h0,h1,h2,h3,h4,h5⟩:=h.parts;subst hL;clear h5 h;unfold maxLen at h4;have e:ji 1 x=1:=(by cases x;rfl);rw[e];go_enter func262,ntmps262;go_wp2;go_ret;exact⟨rfl,δ.alloc _⟩
 |f+2=>fun x a L w hL hf h=>by
  obtain⟨p,cap,rfl,h0,h1,h2,h3,h4,h5⟩:=h.parts;have IH:=γ (JD (f+1));have HL:=γ hL;have H5:=γ h5;unfold aJ at h2;unfold maxLen at h4;obtain⟨h2,h2'⟩:=h2;have hL1:2<=L:=(by omega);have hL2:L<=17:=(by omega);obtain⟨R,hR⟩:=acu (x.args.map (ji (f+1)));have HR:=γ hR
  have HB:=γ (show∀y∈R,y<=17 by
   intro y hy;rw[<-hR]at hy;obtain⟨z,_,rfl⟩:=aaw.1 hy
   have:=xP (f+1) z;omega)
  have HX:=γ (show ji (f+2) x=R.foldl max 0+1 by rw[Fj,hR]);clear h h5 hL hR;rw[HX.o];go_enter func262,ntmps262;go_wp2_with fail;obtain⟨W0,hW0⟩:=acu (w.alloc (.cells #[.int .u8 x.op,.int .i64 x.n,.slice p x.args.length cap] 40));have k0:ε η w W0:=(by rw[<-hW0];exact δ.alloc _);have d2:W0.cell? ⟨w.heap.size,2,none⟩=some (.slice p x.args.length cap):=(by rw[<-hW0];simp);rw[hW0];have K0:=γ k0;clear hW0 k0;go_loopg [5,6] x.args.length (fun g vb vi wr=> ∃k:Nat,k<=x.args.length/\vi= .int .i64 (k:Int)/\vb= .int .i64 (((R.take k).foldl max 0:Nat):Int)/\x.args.length-k<=g/\ε η W0 wr)
  case atStart=>exact⟨0,by omega,rfl,rfl,by omega,ε.refl _ _⟩
  case round=>
   obtain⟨k,hkl,rfl,rfl,hg,hkp⟩:=hrel;have dd:=hkp.cell (p:=⟨w.heap.size,2,none⟩) id d2;have hM:(R.take k).foldl max 0<=17:=yx.2 ⟨by omega,fun y hy=>HB.o y (mem_of_mem_take hy)⟩;obtain⟨M,hMe⟩:=acu ((R.take k).foldl max 0);rw[hMe]at hM;rw[hMe];by_cases hlt:k<x.args.length
   ·obtain⟨y,hy⟩: ∃y,x.args[k]?=some y:=⟨_,ι hlt⟩
    obtain⟨b,off,p',cap',rfl,q0,q1,q2,hy2⟩:=H5.o k y hy;have hW:=(K0.o.trans hkp:ε η w wr);have r0:=hW.cell (p:=⟨b,off+k*3,none⟩) id q0;have r1:=hW.cell (p:=⟨b,off+k*3+1,none⟩) id q1;have r2:=hW.cell (p:=⟨b,off+k*3+2,none⟩) id q2
    have HN:=γ (show(R.take (k+1)).foldl max 0=max M (ji (f+1) y) by
     rw[Wy (n:=ji (f+1) y) (by rw[<-HR.o,aav,hy];rfl),hMe])
    have HY:=γ (aF.pure hW hy2);have uD:=γ (θ hg hkp);have hd:=xP (f+1) y;have aiH:ji (f+1) y<=17:=(by omega);clear q0 q1 q2 hy hy2 hW hkp hg hMe hd;go_wp2_with fail;have c:=IH.o y _ (L-1) wr (by have:=HL.o;omega) (by omega) HY.o;obtain⟨D,hD⟩:=acu (ji (f+1) y);rw[hD]at c aiH;have HD:=γ hD;clear hD;refine c.mono ?_;clear c;rintro e w2 ⟨rfl,k2⟩;have EO:=γ (uD.o.2.trans k2);clear k2;by_cases hDM:(M:Int)<(D:Int)
    ·go_wp2
     go_roundg (x.args.length-(k+1))
     case rel=>exact⟨k+1,by omega,by go_num,by rw[HN.o,HD.o];go_num,ξ _,EO.o⟩
     case measure=>have:=uD.o.1;omega
    ·go_wp2
     go_roundg (x.args.length-(k+1))
     case rel=>exact⟨k+1,by omega,by go_num,by rw[HN.o,HD.o];go_num,ξ _,EO.o⟩
     case measure=>have:=uD.o.1;omega
   ·have hk:k=x.args.length:=by omega
    have HF:=γ (show R.foldl max 0=M by
     rw[<-hMe,χ (by rw[<-HR.o];simp;omega)])
    have HK:=γ (K0.o.trans hkp);clear hkp hMe hg;go_wp2;go_ret;exact⟨Lh (by rw[HF.o];omega),HK.o⟩
theorem JF (op:Int)(h0:0<=op)(h1:op<=18)(w:World):Calls prog 263 #[.int .u8 op] w (Gives w (.int .i64 (arity op))):=by
 obtain rfl|rfl|rfl|rfl|rfl|rfl|rfl|rfl|rfl|rfl|rfl|rfl|rfl|rfl|rfl|rfl|rfl|rfl|rfl:op=0\/op=1\/op=2\/op=3\/op=4\/op=5\/op=6\/op=7\/op=8\/op=9\/op=10\/op=11\/op=12\/op=13\/op=14\/op=15\/op=16\/op=17\/op=18:=(by omega);all_goals
  go_enter func263,ntmps263;go_wp2;go_ret;exact⟨rfl,δ.alloc _⟩
theorem BL (x:Ex)(a:Array Value)(L:Int)(w:World)(hL0:1<=L)(hL:L<=17)(h:aF w a x)
 (hno:arity x.op≠x.args.length\/x.n<0\/x.n≠0/\x.op≠1):Calls prog 241 #[.agg a,.int .i64 L] w (Gives w (.bool false)):=by
 obtain⟨p,cap,rfl,h0,h1,h2,h3,h4,h5⟩:=h.parts;have hk:ε η w (w.alloc (.cells #[.int .u8 x.op,.int .i64 x.n,.slice p x.args.length cap] 40)):=δ.alloc _;obtain⟨W0,hW0⟩:=acu (w.alloc (.cells #[.int .u8 x.op,.int .i64 x.n,.slice p x.args.length cap] 40));have d0:W0.cell? ⟨w.heap.size,0,none⟩=some (.int .u8 x.op):=(by rw[<-hW0];simp);have d1:W0.cell? ⟨w.heap.size,1,none⟩=some (.int .i64 x.n):=(by rw[<-hW0];simp);have d2:W0.cell? ⟨w.heap.size,2,none⟩=some (.slice p x.args.length cap):=(by rw[<-hW0];simp);have HK:=γ hk;have HW0:=γ hW0;unfold aJ at h2;unfold maxLen at h4;obtain⟨h2,h2'⟩:=h2;have hL1:(L==0)=false:=(by simp;omega);clear hk h h5 hW0;by_cases c0:18<x.op
 ·have g18:decide (18<x.op)=true:=decide_eq_true c0
  clear hno c0;go_enter func241,ntmps241;go_wp2_with fail;rw[HW0.o];refine acv [0,1,2,3,4,5,7,8,9,6,10,11,12,13,14,15,16,17,18,19,20,21,22,23,24,25,26] ?_;simp only[aco];iterate 9 (first|(apply aT rfl;go_frame)|(apply aj rfl rfl;(intro W hW;have z0:=hW.cell id d0;have z1:=hW.cell id d1;have z2:=hW.cell id d2;go_simp;rfl);go_frame))
  iterate 18 (first|(apply aT rfl;go_frame)|(apply aj rfl rfl;(intro W hW;have z0:=hW.cell id d0;have z1:=hW.cell id d1;have z2:=hW.cell id d2;go_simp;rfl);go_frame))
  refine aA (fun _=>δ.drew) ?_;go_wp2;go_ret;exact⟨rfl,HK.o.trans (by rw[HW0.o];exact δ.drew)⟩
 have g18:decide (18<x.op)=false:=decide_eq_false c0;have HM:=γ (JF x.op h0 (by omega));by_cases c1:arity x.op=x.args.length
 ·have f1:(arity x.op !=(x.args.length:Int))=false:=by rw[c1];simp
  by_cases c2:x.n<0
  ·have g2:decide (x.n<0)=true:=decide_eq_true c2
   clear hno c1 c0;go_enter func241,ntmps241;go_wp2_with fail;rw[HW0.o];refine acv [0,1,2,3,4,5,7,8,9,6,10,11,12,13,14,15,16,17,18,19,20,21,22,23,24,25,26] ?_;simp only[aco];iterate 9 (first|(apply aT rfl;go_frame)|(apply aj rfl rfl;(intro W hW;have z0:=hW.cell id d0;have z1:=hW.cell id d1;have z2:=hW.cell id d2;go_simp;rfl);go_frame))
   apply ay rfl rfl;intro K hK;go_wp2_with fail;refine(HM.o _).mono ?_;rintro e W2 ⟨rfl,k2⟩;have k2':ε η W0 W2:=k2.aW;clear k2;go_wp2;refine hK _ _ (fun _=>k2') ?_;clear hK;iterate 17 (first|(apply aT rfl;go_frame)|(apply aj rfl rfl;(intro W hW;have z0:=hW.cell id d0;have z1:=hW.cell id d1;have z2:=hW.cell id d2;go_simp;rfl);go_frame))
   refine aA (fun _=>k2') ?_;go_wp2;go_ret;exact⟨rfl,HK.o.trans (by rw[HW0.o];exact k2')⟩
  have g2:decide (x.n<0)=false:=decide_eq_false c2;have c3:x.n≠0/\x.op≠1:=by
   rcases hno with hn|hn|hn
   ·exact absurd c1 hn
   ·exact absurd hn c2
   ·exact hn
  have g3:(x.n !=0)=true:=(by simp[c3.1]);have f4:(x.op !=1)=true:=(by simp[c3.2]);clear c1 c3 hno c0 c2;go_enter func241,ntmps241;go_wp2_with fail;rw[HW0.o];refine acv [0,1,2,3,4,5,7,8,9,6,10,11,12,13,14,15,16,17,18,19,20,21,22,23,24,25,26] ?_;simp only[aco];iterate 9 (first|(apply aT rfl;go_frame)|(apply aj rfl rfl;(intro W hW;have z0:=hW.cell id d0;have z1:=hW.cell id d1;have z2:=hW.cell id d2;go_simp;rfl);go_frame))
  apply ay rfl rfl;intro K hK;go_wp2_with fail;refine(HM.o _).mono ?_;rintro e W2 ⟨rfl,k2⟩;have k2':ε η W0 W2:=k2.aW;clear k2;go_wp2;refine hK _ _ (fun _=>k2') ?_;clear hK;iterate 17 (first|(apply aT rfl;go_frame)|(apply aj rfl rfl;(intro W hW;have z0:=hW.cell id d0;have z1:=hW.cell id d1;have z2:=hW.cell id d2;go_simp;rfl);go_frame))
  refine aA (fun _=>k2') ?_;go_wp2;go_ret;exact⟨rfl,HK.o.trans (by rw[HW0.o];exact k2')⟩
 ·have f1:(arity x.op !=(x.args.length:Int))=true:=by simp[c1]
  clear c1 hno c0;go_enter func241,ntmps241;go_wp2_with fail;rw[HW0.o];refine acv [0,1,2,3,4,5,7,8,9,6,10,11,12,13,14,15,16,17,18,19,20,21,22,23,24,25,26] ?_;simp only[aco];iterate 9 (first|(apply aT rfl;go_frame)|(apply aj rfl rfl;(intro W hW;have z0:=hW.cell id d0;have z1:=hW.cell id d1;have z2:=hW.cell id d2;go_simp;rfl);go_frame))
  apply ay rfl rfl;intro K hK;go_wp2_with fail;refine(HM.o _).mono ?_;rintro e W2 ⟨rfl,k2⟩;have k2':ε η W0 W2:=k2.aW;clear k2;go_wp2;refine hK _ _ (fun _=>k2') ?_;clear hK;iterate 17 (first|(apply aT rfl;go_frame)|(apply aj rfl rfl;(intro W hW;have z0:=hW.cell id d0;have z1:=hW.cell id d1;have z2:=hW.cell id d2;go_simp;rfl);go_frame))
  refine aA (fun _=>k2') ?_;go_wp2;go_ret;exact⟨rfl,HK.o.trans (by rw[HW0.o];exact k2')⟩
def KH (f:Nat):Prop:= ∀(x:Ex)(a:Array Value)(L:Int)(w:World),L=f->f<=17->aF w a x->Calls prog 241 #[.agg a,.int .i64 L] w (Gives w (.bool (gQ f x)))
theorem Vp (f:Nat)(ih:KH f)(x:Ex)(a:Array Value)(L:Int)(w:World)(hL:L=((f+1:Nat):Int))(hf:f+1<=17)(h:aF w a x)
 (c1:arity x.op=x.args.length) (c2: ¬x.n<0) (c3: ¬(x.n≠0/\x.op≠1)):Calls prog 241 #[.agg a,.int .i64 L] w (Gives w (.bool (gQ (f+1) x))):=by
 have hx:gQ (f+1) x=x.args.all (gQ f):=by rw[tu];have e1:decide (arity x.op=x.args.length)=true:=decide_eq_true c1;have e2:decide (0<=x.n)=true:=decide_eq_true (by omega);have e3:decide (x.n=0\/x.op=1)=true:=decide_eq_true (by omega);rw[e1,e2,e3];rfl
 rw[hx];obtain⟨p,cap,rfl,h0,h1,h2,h3,h4,h5⟩:=h.parts;have hk:ε η w (w.alloc (.cells #[.int .u8 x.op,.int .i64 x.n,.slice p x.args.length cap] 40)):=δ.alloc _;obtain⟨W0,hW0⟩:=acu (w.alloc (.cells #[.int .u8 x.op,.int .i64 x.n,.slice p x.args.length cap] 40));have d0:W0.cell? ⟨w.heap.size,0,none⟩=some (.int .u8 x.op):=(by rw[<-hW0];simp);have d1:W0.cell? ⟨w.heap.size,1,none⟩=some (.int .i64 x.n):=(by rw[<-hW0];simp);have d2:W0.cell? ⟨w.heap.size,2,none⟩=some (.slice p x.args.length cap):=(by rw[<-hW0];simp);have HK:=γ hk;have HW0:=γ hW0;unfold aJ at h2;unfold maxLen at h4;obtain⟨h2,h2'⟩:=h2;have f1:(arity x.op !=(x.args.length:Int))=false:=(by rw[c1];simp);have hL1:1<=L:=(by omega);have hL2:L<=17:=(by omega);have f6:(L==0)=false:=(by simp;omega);have g2:decide (x.n<0)=false:=decide_eq_false c2;have c0:x.op<=18:=by
  rcases Int.lt_or_le 18 x.op with c|c
  ·unfold arity at c1;rw[if_pos (.inr c)]at c1;omega
  ·exact c
 have g18:decide (18<x.op)=false:=decide_eq_false (by omega);have HM:=γ (JF x.op h0 c0);have IH:=γ ih;have HL:=γ hL;have H5:=γ h5;clear hk h h5 hW0 hx c1 ih hL;have main:((x.n !=0)=false\/(x.n !=0)=true/\(x.op !=1)=false)->Calls prog 241 #[.agg #[.int .u8 x.op,.int .i64 x.n,.slice p x.args.length cap],.int .i64 L] w (Gives w (.bool (x.args.all (gQ f)))):=by
  clear c3;rintro(f3|⟨f3,f4⟩);all_goals
   go_enter func241,ntmps241;go_wp2_with fail;rw[HW0.o];refine acv [0,1,2,3,4,5,7,8,9,6,10,11,12,13,14,15,16,17,18,19,20,21,22,23,24,25,26] ?_;simp only[aco];iterate 9 (first|(apply aT rfl;go_frame)|(apply aj rfl rfl;(intro W hW;have z0:=hW.cell id d0;have z1:=hW.cell id d1;have z2:=hW.cell id d2;go_simp;rfl);go_frame))
   apply ay rfl rfl;intro K hK;go_wp2_with fail;refine(HM.o _).mono ?_;rintro e W2 ⟨rfl,k2⟩;have k2':ε η W0 W2:=k2.aW;clear k2;go_wp2;refine hK _ _ (fun _=>k2') ?_;clear hK;iterate 17 (first|(apply aT rfl;go_frame)|(apply aj rfl rfl;(intro W hW;have z0:=hW.cell id d0;have z1:=hW.cell id d1;have z2:=hW.cell id d2;go_simp;rfl);go_frame))
   refine aA (fun _=>k2') ?_;go_wp2_with fail;obtain⟨W1,hW1⟩:=acu W2;rw[hW1]at k2';have KK:=γ (HK.o.trans (by rw[HW0.o];exact k2'));have HW1:=γ k2';rw[hW1];clear hW1 k2';go_loopg [5] x.args.length (fun g vi wr=> ∃k:Nat,k<=x.args.length/\vi= .int .i64 (k:Int)/\x.args.length-k<=g/\(x.args.take k).all (gQ f)=true/\ε η W0 wr)
   case atStart=>exact⟨0,by omega,rfl,by omega,by simp,HW1.o⟩
   case round=>
    obtain⟨k,hkl,rfl,hg,ht,hkp⟩:=hrel;have HT:=γ (θ hg ht);clear hg ht;have dd:=hkp.cell (p:=⟨w.heap.size,2,none⟩) id d2;by_cases hlt:k<x.args.length
    ·obtain⟨y,hy⟩: ∃y,x.args[k]?=some y:=⟨_,ι hlt⟩
     obtain⟨b,off,p',cap',rfl,q0,q1,q2,hy2⟩:=H5.o k y hy;have hW:=(HK.o.trans (by rw[HW0.o];exact hkp):ε η w wr);have r0:=hW.cell (p:=⟨b,off+k*3,none⟩) id q0;have r1:=hW.cell (p:=⟨b,off+k*3+1,none⟩) id q1;have r2:=hW.cell (p:=⟨b,off+k*3+2,none⟩) id q2;have HY:=γ (θ hy (aF.pure hW hy2));have uD:=γ (θ hW hkp);clear q0 q1 q2 hy hy2 hW hkp H5;go_wp2_with fail;have c:=IH.o y _ (L-1) wr (by have:=HL.o;omega) (by omega) HY.o.2;refine c.mono ?_;clear c;rintro e w2 ⟨rfl,k3⟩;have EO:=γ k3;clear k3
     cases hm:gQ f y with
     |false=>have RS:=γ hm;clear hm;go_wp2;go_ret;exact⟨aP (Uw HY.o.1 RS.o).symm,uD.o.1.trans EO.o⟩
     |true=>
      have RS:=γ hm;clear hm;go_wp2;go_roundg (x.args.length-(k+1))
      case rel=>exact⟨k+1,by omega,by go_num,ξ _,Bq HY.o.1 HT.o.2 RS.o,uD.o.2.trans EO.o⟩
      case measure=>have:=HT.o.1;omega
    ·go_wp2
     go_ret;exact⟨aP (EM HT.o.2 (by omega)).symm,HK.o.trans (by rw[HW0.o];exact hkp)⟩
 clear HM HW0 HK d0 d1 d2;apply main;by_cases c4:x.n=0
 ·left;simp[c4]
 ·right
  have:x.op=1:=(by omega);simp[this,c4]
theorem Gj: ∀f,KH f
 |0=>fun x a L w hL hf h=>by obtain⟨p,cap,rfl,h0,h1,h2,h3,h4,h5⟩:=h.parts;subst hL;clear h5 h;unfold maxLen at h4;have e:gQ 0 x=true:=(by cases x;rfl);rw[e];go_enter func241,ntmps241;go_wp2;go_ret;exact⟨rfl,δ.alloc _⟩
 |f+1=>fun x a L w hL hf h=>by
  by_cases c1:arity x.op=x.args.length
  ·by_cases c2:x.n<0
   ·have e:gQ (f+1) x=false:=by rw[tu];simp;omega
    rw[e];exact BL x a L w (by omega) (by omega) h (.inr (.inl c2))
   ·by_cases c3:x.n≠0/\x.op≠1
    ·have e:gQ (f+1) x=false:=by rw[tu];simp;omega
     rw[e];exact BL x a L w (by omega) (by omega) h (.inr (.inr c3))
    ·exact Vp f (Gj f) x a L w hL hf h c1 c2 c3
  ·have e:gQ (f+1) x=false:=by rw[tu];simp[c1]
   rw[e];exact BL x a L w (by omega) (by omega) h (.inl c1)
theorem adN: ∃i,prog.info? 5=some i/\i.zero=some (.int .u8 0)/\i.size=1/\i.bytes=1:=by
 have h:(prog.info? 5).map (fun i=>(i.zero,i.size,i.bytes))=some (some (.int .u8 0),1,1):=(by kernel_rfl);obtain⟨i,h1,h2⟩:=acg.1 h
 injection h2 with h2 h3
 injection h3 with h3 h4
 exact⟨i,h1,h2,h3,h4⟩
def je:List Int->Int
 |[]=>0
 |a::l=>l.foldl (fun s b=>if s=b then b else 3) a
theorem SL (l:List Int)(t:Int):je (l++[t])=if l=[]\/je l=t then t else 3:=by
 cases l with
 |nil=>simp[je]
 |cons a l=>simp[je,foldl_append]
theorem Ed {l:List Int}{k:Nat}{t:Int}(h:l[k]?=some t):je (l.take (k+1))=if k=0\/je (l.take k)=t then t else 3:=by
 have hk:k<l.length:=by rcases Nat.lt_or_ge k l.length with h'|h';exact h';rw[aak h']at h;cases h
 rw[ψ,h,Option.toList_some,SL];have:l.take k=[]↔k=0:=by
  rw[take_eq_nil_iff];constructor
  ·rintro(h'|h')
   ·exact h'
   ·rw[h']at hk;simp at hk
  ·exact .inl
 simp only[this]
theorem Pq {l:List Int}(h: ∀t∈l,0<=t/\t<=2):0<=je l/\je l<=3:=by
 have: ∀n,n<=l.length->0<=je (l.take n)/\je (l.take n)<=3:=by
  intro n
  induction n with
  |zero=>intro _;rw[take_zero];exact⟨Int.le_refl 0,by decide⟩
  |succ n ih=>intro hn;have e:l[n]?=some l[n]:=ι (by omega);have:=h l[n] (getElem_mem _);rw[Ed e];split<;>omega
 have:=this l.length (ξ _);rwa[take_length]at this
def cZ (op s:Int)(ts:List Int):Int:=
 if op<=4 then 1 else if op=5\/(7<=op/\op<=11)then(if s=1 then 1 else 0)else if op=6\/op=16\/op=17 then(if s=2 then 2 else 0)else if op=12\/op=13 then(if s=1 then 2 else 0)else if op=14\/op=15 then(if s≠3 then 2 else 0)else(if ts.getD 0 0=2/\ts.getD 1 0=ts.getD 2 0 then ts.getD 1 0 else 0)
theorem zo {op:Int}{n:Nat}(h0:0<=op)(h:arity op=n):1<=op/\op<=18:=by
 unfold arity at h;split at h
 ·omega
 ·omega
theorem adG (op:Int)(ts:List Int)(h0:0<=op)(h:arity op=ts.length)(ht: ∀t∈ts,t=1\/t=2):jh (op,ts.getD 0 0,ts.getD 1 0,ts.getD 2 0)=cZ op (je ts) ts:=by
 obtain⟨l1,l2⟩:=zo h0 h;have h3:=yG op
 match ts,h,ht with
 |[],h,_=>have:op<=4:=(by unfold arity at h;simp at h;split at h<;>(try omega)<;>(split at h<;>(try omega)<;>(split at h<;>(try omega)<;>(split at h<;>omega))));obtain rfl|rfl|rfl|rfl:op=1\/op=2\/op=3\/op=4:=(by omega);all_goals decide
 |[a],h,ht=>
  have:op=5\/op=6:=(by unfold arity at h;simp at h;split at h<;>(try omega)<;>(split at h<;>(try omega)<;>(split at h<;>(try omega)<;>(split at h<;>omega))));have ha:=ht a (by simp)
  rcases ha with rfl|rfl<;>rcases this with rfl|rfl<;>decide
 |[a,b],h,ht=>have:7<=op/\op<=17:=(by unfold arity at h;simp at h;split at h<;>(try omega)<;>(split at h<;>(try omega)<;>(split at h<;>(try omega)<;>(split at h<;>omega))));have ha:=ht a (by simp);have hb:=ht b (by simp);obtain rfl|rfl|rfl|rfl|rfl|rfl|rfl|rfl|rfl|rfl|rfl:op=7\/op=8\/op=9\/op=10\/op=11\/op=12\/op=13\/op=14\/op=15\/op=16\/op=17:=(by omega);all_goals(rcases ha with rfl|rfl<;>rcases hb with rfl|rfl<;>decide)
 |[a,b,c],h,ht=>
  have:op=18:=(by unfold arity at h;simp at h;split at h<;>(try omega)<;>(split at h<;>(try omega)<;>(split at h<;>(try omega)<;>(split at h<;>omega))));have ha:=ht a (by simp);have hb:=ht b (by simp);have hc:=ht c (by simp);subst this
  rcases ha with rfl|rfl<;>rcases hb with rfl|rfl<;>rcases hc with rfl|rfl<;>decide
 |a::b::c::d::l,h,_=>simp at h;omega
theorem Pv (k:Int×Int×Int×Int):jh k=0\/jh k=1\/jh k=2:=by
 obtain⟨op,a,b,c⟩:=k;by_cases h:jh (op,a,b,c)=0
 ·exact .inl h
 ·rcases qh h with h|h
  ·exact .inr (.inl h.1)
  ·exact .inr (.inr h.1)
theorem uo: ∀(f:Nat)(x:Ex),aC f x=0\/aC f x=1\/aC f x=2
 |0,x=>by cases x;exact .inl rfl
 |f+1,x=>by
  rw[zL];split
  ·exact .inl rfl
  ·exact Pv _
theorem adQ {f:Nat}{x:Ex}(h0:0<=x.op)(h:arity x.op=x.args.length)(hz: ∀t∈x.args.map (aC f),t≠0):aC (f+1) x=cZ x.op (je (x.args.map (aC f))) (x.args.map (aC f)):=by
 have hr: ∀t∈x.args.map (aC f),t=1\/t=2:=by
  intro t ht;have h1:=hz t ht;obtain⟨y,_,rfl⟩:=aaw.1 ht
  rcases uo f y with h|h|h
  ·exact absurd h h1
  ·exact .inl h
  ·exact .inr h
 rw[zL,if_neg,adG x.op _ h0 (by simpa using h) hr];intro hc;rw[contains_iff_mem]at hc;exact hz 0 hc rfl
theorem adR {f:Nat}{x:Ex}(h:0∈x.args.map (aC f)):aC (f+1) x=0:=by rw[zL,if_pos (contains_iff_mem.2 h)]
end
