/- PLAIN WORDS, no program in sight: tapes taken from bytes. -/
import Derived.Test.YtakhobfamnjnoaaGreatDoorB29
set_option linter.unusedVariables false
set_option linter.unusedSimpArgs false
namespace Go.Proofs.YtakhobfamnjnoaaGreatDoor
section
namespace Sx
open Go Go.RowKit
def aI (st:St):Int×St:=((eX st.1).1,(st.1.drop (eX st.1).2.1,max st.2 (eX st.1).2.2))
def iR (st:St):Jb×St:=((pR (fO st.1).1).1,(st.1.drop (fO st.1).2.1,max (max st.2 (fO st.1).2.2) (pR (fO st.1).1).2))
def bodyT (kind n m:Int)(st:St):Ac×St:=
 if kind=0 then(⟨kind,n,m,(aI st).1,(aI (aI st).2).1,(aI (aI (aI st).2).2).1,zJ⟩,(aI (aI (aI st).2).2).2)
 else if kind=5 then(⟨kind,n,m,0,0,0,(iR st).1⟩,(iR st).2)
 else(⟨kind,n,m,0,0,0,zJ⟩,st)
def qw (st:St):Ac×St:=bodyT (IntKind.wrap .u8 (aI st).1) (aI (aI st).2).1 (aI (aI (aI st).2).2).1 (aI (aI (aI st).2).2).2
def cO:Nat->St->List Ac×St
 |0,st=>([],st)
 |n+1,st=>if(cO n st).2.2≠0 then cO n st else((cO n st).1++[(qw (cO n st).2).1],(qw (cO n st).2).2)
def lJ (c:Int):Nat:=if 0<c/\c<=2000 then c.toNat else 0
abbrev zT:Tp:=⟨0,0,zJ,[]⟩
def DZ (s:List UInt8)(t:Tp)(e:Int):Tp×Int:=if e≠0 then(zT,21)else if iU t=true/\eY t=s then(t,0)else(zT,21)
def vU (s:List UInt8):Tp×Int:=
 let b:=aI (s,0);let r:=aI b.2;let f:=iR r.2;let c:=aI f.2;let L:=cO (lJ c.1) c.2
 (⟨b.1,r.1,f.1,L.1⟩,L.2.2)
def kX (s:List UInt8):Tp×Int:=DZ s (vU s).1 (vU s).2
theorem dU (st:St):aS (aI st).1/\(aI st).2.1.length<=st.1.length:=⟨Pv _,by simp[aI]⟩
theorem Dc (st:St)(hl:st.1.length<=maxLen):gK (iR st).1/\(iR st).2.1.length<=st.1.length:=
 ⟨Yh _ (Nat.le_trans (yD _).2 hl),by simp[iR]⟩
theorem YT (st:St)(hl:st.1.length<=maxLen):lQ (qw st).1/\(qw st).2.1.length<=st.1.length:=by
 have h1:=dU st
 have h2:=dU (aI st).2
 have h3:=dU (aI (aI st).2).2
 have hk:IntKind.wrap .u8 (aI st).1=(aI st).1%256:=IntKind.wrap_u8 _
 have k1:0<=IntKind.wrap .u8 (aI st).1/\IntKind.wrap .u8 (aI st).1<=255:=by rw[hk];omega
 have hle:(aI (aI (aI st).2).2).2.1.length<=st.1.length:=Nat.le_trans h3.2 (Nat.le_trans h2.2 h1.2)
 have z:aS 0:=by unfold aS;simp
 unfold qw
 generalize IntKind.wrap .u8 (aI st).1=kind at k1
 generalize(aI (aI (aI st).2).2).2=u at hle
 have h4:=dU u
 have h5:=dU (aI u).2
 have h6:=dU (aI (aI u).2).2
 unfold bodyT
 split
 ·exact⟨⟨k1.1,k1.2,h2.1,h3.1,h4.1,h5.1,h6.1,Kz⟩,Nat.le_trans h6.2 (Nat.le_trans h5.2 (Nat.le_trans h4.2 hle))⟩
 ·split
  ·have h7:=Dc u (Nat.le_trans hle hl)
   exact⟨⟨k1.1,k1.2,h2.1,h3.1,z,z,z,h7.1⟩,Nat.le_trans h7.2 hle⟩
  ·exact⟨⟨k1.1,k1.2,h2.1,h3.1,z,z,z,Kz⟩,hle⟩
theorem sD (st:St)(hl:st.1.length<=maxLen): ∀n,(∀d∈(cO n st).1,lQ d)/\(cO n st).1.length<=n/\(cO n st).2.1.length<=st.1.length
 |0=>⟨by simp[cO],Nat.le_refl _,Nat.le_refl _⟩
 |n+1=>by
  obtain⟨h1,h2,h3⟩:=sD st hl n
  have h4:=YT (cO n st).2 (by omega)
  simp only[cO]
  split
  ·exact⟨h1,by omega,h3⟩
  ·refine⟨fun d hd=>?_,by simp;omega,by dsimp only;omega⟩
   simp only[List.mem_append,List.mem_singleton]at hd
   rcases hd with hd|rfl
   ·exact h1 d hd
   ·exact h4.1
theorem Gy {st:St}{n:Nat}(h:(cO n st).2.2≠0): ∀k,cO (n+k) st=cO n st
 |0=>rfl
 |k+1=>by
  have ih:=Gy h k
  have:cO (n+k+1) st=if(cO (n+k) st).2.2≠0 then cO (n+k) st else((cO (n+k) st).1++[(qw (cO (n+k) st).2).1],(qw (cO (n+k) st).2).2):=rfl
  rw[<-Nat.add_assoc,this,ih,if_pos h]
theorem QU (c:Int):lJ c<=2000:=by unfold lJ;split<;>omega
end Sx
end
section
namespace Sx
open Go Go.RowKit
theorem qL {n:Int}(h:aS n)(r:List UInt8):aQ (aH [n]++r,0)=(n,(r,0)):=by
 unfold aQ
 dsimp only
 rw[if_pos rfl,GU h]
 simp
theorem EK {n:Int}(h:0<=n)(h2:n<=65536):aS n:=by unfold aS;omega
theorem Ey {n:Int}(h:0<=n)(h2:n<=255)(r:List UInt8):aY (aH [n]++r,0)=(n,(r,0)):=by
 unfold aY
 rw[qL (EK h (by omega))]
 dsimp only
 rw[if_neg (by omega),IntKind.wrap_u8]
 congr 1
 omega
theorem Aj {m n:Int}(h:0<=n)(h2:n<=m)(h3:m<=65536)(r:List UInt8):bg m (aH [n]++r,0)=(n,(r,0)):=by
 unfold bg
 rw[qL (EK h (by omega))]
 dsimp only
 rw[if_neg (by omega)]
theorem UA {t:List UInt8}(ht:t.length<=65536)(r:List UInt8):textS (iJ t++r,0)=(t,(r,0)):=by
 unfold textS
 dsimp only
 rw[if_pos rfl,IG ht]
 simp
theorem Aw {α:Type}{f:St->α×St}{enc:α->List UInt8}{l:List α}(hf: ∀x∈l,∀r,f (enc x++r,0)=(x,(r,0)))(r:List UInt8): ∀n,n<=l.length->dD f n (l.flatMap enc++r,0)=(l.take n,((l.drop n).flatMap enc++r,0))
 |0,_=>by simp[dD]
 |n+1,h=>by
  have ih:=Aw hf r n (by omega)
  have hd:l.drop n=l[n]::l.drop (n+1):=List.drop_eq_getElem_cons (by omega)
  unfold dD
  rw[ih]
  dsimp only
  rw[hd,List.flatMap_cons,List.append_assoc,hf l[n] (List.getElem_mem _)]
  rw[List.take_succ_eq_append_getElem (by omega)]
def qh:Nat->Ex->Prop
 |0,_=>False
 |k+1,x=>0<=x.op/\x.op<=255/\aS x.n/\x.args.length<=3/\ ∀y∈x.args,qh k y
theorem EO: ∀l:List Ex,iI l=l.flatMap iC
 |[]=>by simp[iI]
 |x::l=>by simp[iI,EO l]
theorem II: ∀(k:Nat)(x:Ex),qh k x-> ∀r,dR k (iC x++r,0)=(x,(r,0))
 |0,_,h,_=>h.elim
 |k+1,x,⟨h1,h2,h3,h4,h5⟩,r=>by
  have e:iC x++r=aH [x.op]++(aH [x.n]++(aH [Int.ofNat x.args.length]++(x.args.flatMap iC++r))):=by
   rw[He,iD x.op,iD x.n,EO]
   simp only[List.append_assoc]
  have hi:=Aw (f:=dR k) (enc:=iC) (l:=x.args) (fun y hy r=>II k y (h5 y hy) r) r x.args.length (Nat.le_refl _)
  unfold dR
  rw[e,Ey h1 h2]
  dsimp only
  rw[qL h3]
  dsimp only
  rw[Aj (by simp) (by simp;omega) (by omega)]
  dsimp only
  have e2:(Int.ofNat x.args.length).toNat=x.args.length:=rfl
  rw[e2,hi]
  obtain⟨o,n,a⟩:=x
  simp[Ex.op,Ex.n,Ex.args]
def Dx (d:JN):Prop:=d.uid.data.toList.length<=65536/\0<=d.kind/\d.kind<=255/\aS d.n/\d.ins.length<=12/\(∀v∈d.ins,aS v)/\qh 17 d.x
theorem I9: ∀l:List Int,aH l=l.flatMap fun v=>aH [v]
 |[]=>by simp[aH]
 |v::l=>by rw[iD,I9 l];simp
theorem Vy {d:JN}(h:Dx d)(r:List UInt8):mD (uJ d++r,0)=(d,(r,0)):=by
 obtain⟨h1,h2,h3,h4,h5,h6,h7⟩:=h
 have e:uJ d++r=iJ d.uid.data.toList++(aH [d.kind]++(aH [d.n]++(aH [Int.ofNat d.ins.length]++((d.ins.flatMap fun v=>aH [v])++(iC d.x++r))))):=by
  unfold uJ
  rw[iD d.kind,iD d.n,I9 d.ins]
  simp only[List.append_assoc]
 have hi:=Aw (f:=aQ) (enc:=fun v=>aH [v]) (l:=d.ins) (fun v hv r=>qL (h6 v hv) r) (iC d.x++r) d.ins.length (Nat.le_refl _)
 have e2:(Int.ofNat d.ins.length).toNat=d.ins.length:=rfl
 have e3:(d.ins.drop d.ins.length).flatMap (fun v=>aH [v])++(iC d.x++r)=iC d.x++r:=by simp
 have hc:bg 12 (aH [Int.ofNat d.ins.length]++((d.ins.flatMap fun v=>aH [v])++(iC d.x++r)),0)=(Int.ofNat d.ins.length,((d.ins.flatMap fun v=>aH [v])++(iC d.x++r),0)):=Aj (by simp) (by simp;omega) (by omega) _
 simp only[mD,e,UA h1,Ey h2 h3,qL h4,hc,e2,hi,e3,II 17 d.x h7]
 have hb:bs d.uid.data.toList=d.uid:=uo d.uid
 rw[hb]
 obtain⟨a,b,c,x,n⟩:=d
 simp
theorem EW {l:List JN}(hl: ∀d∈l,Dx d)(r:List UInt8): ∀n,n<=l.length->bD n (fG l++r,0)=(l.take n,(fG (l.drop n)++r,0))
 |0,_=>by simp[bD]
 |n+1,h=>by
  have ih:=EW hl r n (by omega)
  have hd:l.drop n=l[n]::l.drop (n+1):=List.drop_eq_getElem_cons (by omega)
  have e:fG (l.drop n)++r=uJ l[n]++(fG (l.drop (n+1))++r):=by
   rw[hd];unfold fG;rw[List.flatMap_cons,List.append_assoc]
  have hn:=Vy (hl l[n] (List.getElem_mem _)) (fG (l.drop (n+1))++r)
  unfold bD
  rw[ih]
  dsimp only
  rw[if_neg (by simp),e,hn,List.take_succ_eq_append_getElem (by omega)]
def xO (j:Jb):Prop:=aS j.par/\j.nodes.length<=12/\(∀d∈j.nodes,Dx d)/\(dV j).2=0
theorem Yg {j:Jb}(h:xO j):pR (mP j)=(j,0):=by
 obtain⟨h1,h2,h3,h4⟩:=h
 have e:mP j=aH [j.par]++(aH [Int.ofNat j.nodes.length]++(fG j.nodes++[])):=by
  unfold mP
  rw[iD j.par]
  simp only[List.append_assoc,List.append_nil]
 have hc:bg 12 (aH [Int.ofNat j.nodes.length]++(fG j.nodes++[]),0)=(Int.ofNat j.nodes.length,(fG j.nodes++[],0)):=Aj (by simp) (by simp;omega) (by omega) _
 have hn:=EW h3 [] j.nodes.length (Nat.le_refl _)
 have e2:(Int.ofNat j.nodes.length).toNat=j.nodes.length:=rfl
 have e3:fG (j.nodes.drop j.nodes.length)++[]=[]:=by simp[fG]
 have e4:(⟨j.par,j.nodes.take j.nodes.length⟩:Jb)=j:=by rw[List.take_length]
 simp only[pR,e,qL h1,hc,e2,hn,e3,e4]
 have he:Ie j ([],0)=([],0):=by unfold Ie;rw[if_pos h4];simp
 rw[he]
 rfl
theorem lC {n:Int}(h:aS n)(r:List UInt8):aI (aH [n]++r,0)=(n,(r,0)):=by
 unfold aI
 dsimp only
 rw[GU h]
 simp
theorem KN {j:Jb}(h:xO j)(hs:(mP j).length<=65536)(r:List UInt8):iR (sK j++r,0)=(j,(r,0)):=by
 unfold iR sK
 dsimp only
 rw[IG hs]
 dsimp only
 rw[Yg h]
 simp
theorem Ku {j:Jb}(h:zS j zJ=true):j=zJ:=by
 obtain⟨p,l⟩:=j
 unfold zS at h
 rw[Bool.and_eq_true,decide_eq_true_eq]at h
 have h1:p=0:=h.1
 cases l with
 |nil=>rw[h1]
 |cons a l=>exact absurd h.2 (by simp[kQ])
theorem Rf {a:Ac}(h:wE a (Em a)=true):(a.kind≠0->a.part=0/\a.key=0/\a.val=0)/\(a.kind≠5->a.j=zJ):=by
 unfold wE at h
 simp only[Bool.and_eq_true,decide_eq_true_eq]at h
 obtain⟨⟨⟨⟨h1,h2⟩,h3⟩,h4,h5,h6⟩,h7⟩:=h
 unfold Em at*
 split at h4
 ·rename_i k
  simp only[k,if_true]at h7
  exact⟨fun c=>absurd k c,fun _=>Ku h7⟩
 ·split at h4
  ·rename_i k0 k
   simp only[if_neg k0,if_pos k]at h4 h5 h6 h7
   exact⟨fun _=>⟨h4,h5,h6⟩,fun _=>Ku h7⟩
  ·split at h4
   ·rename_i k0 k k4
    simp only[if_neg k0,if_neg k,if_pos k4]at h4 h5 h6 h7
    exact⟨fun _=>⟨h4,h5,h6⟩,fun _=>Ku h7⟩
   ·split at h4
    ·rename_i k0 k k4 k5
     simp only[if_neg k0,if_neg k,if_neg k4,if_pos k5]at h4 h5 h6 h7
     exact⟨fun _=>⟨h4,h5,h6⟩,fun c=>absurd k5 c⟩
    ·rename_i k0 k k4 k5
     simp only[if_neg k0,if_neg k,if_neg k4,if_neg k5]at h4 h5 h6 h7
     exact⟨fun _=>⟨h4,h5,h6⟩,fun _=>Ku h7⟩
def Il (a:Ac):Prop:=lQ a/\bY a=true/\(a.kind=5->xO a.j/\(mP a.j).length<=65536)
theorem YS {a:Ac}(h:Il a)(r:List UInt8):qw (kZ a++r,0)=(a,(r,0)):=by
 obtain⟨⟨f1,f2,f3,f4,f5,f6,f7,f8⟩,hm,h5⟩:=h
 have hu:wE a (Em a)=true:=by
  unfold bY at hm
  simp only[Bool.and_eq_true]at hm
  exact hm.1.1.2
 obtain⟨u1,u2⟩:=Rf hu
 have hk:IntKind.wrap .u8 a.kind=a.kind:=by rw[IntKind.wrap_u8];omega
 obtain⟨kind,n,m,part,key,val,j⟩:=a
 dsimp only at*
 have r1:aS kind:=EK f1 (by omega)
 have e: ∀t,aH [kind,n,m]++t=aH [kind]++(aH [n]++(aH [m]++t)):=fun t=>by
  rw[iD kind,iD n]
  simp only[List.append_assoc]
 unfold kZ qw
 dsimp only
 rw[List.append_assoc,e]
 simp only[lC r1,lC f3,lC f4,hk]
 unfold bodyT
 by_cases k0:kind=0
 ·simp only[if_pos k0]
  have e3:aH [part,key,val]++r=aH [part]++(aH [key]++(aH [val]++r)):=by
   rw[iD part,iD key]
   simp only[List.append_assoc]
  simp only[e3,lC f5,lC f6,lC f7]
  rw[u2 (by omega)]
 ·simp only[if_neg k0]
  obtain⟨p0,p1,p2⟩:=u1 k0
  by_cases k5:kind=5
  ·simp only[if_pos k5]
   obtain⟨g1,g2⟩:=h5 k5
   simp only[KN g1 g2]
   rw[p0,p1,p2]
  ·simp only[if_neg k5]
   rw[p0,p1,p2,u2 k5]
   simp
theorem JK {l:List Ac}(hl: ∀a∈l,Il a)(r:List UInt8): ∀n,n<=l.length->cO n (iK l++r,0)=(l.take n,(iK (l.drop n)++r,0))
 |0,_=>by simp[cO]
 |n+1,h=>by
  have ih:=JK hl r n (by omega)
  have hd:l.drop n=l[n]::l.drop (n+1):=List.drop_eq_getElem_cons (by omega)
  have e:iK (l.drop n)++r=kZ l[n]++(iK (l.drop (n+1))++r):=by
   rw[hd];unfold iK;rw[List.flatMap_cons,List.append_assoc]
  have hn:=YS (hl l[n] (List.getElem_mem _)) (iK (l.drop (n+1))++r)
  unfold cO
  rw[ih]
  dsimp only
  rw[if_neg (by simp),e,hn,List.take_succ_eq_append_getElem (by omega)]
def uD (t:Tp):Prop:=gQ t/\iU t=true/\xO t.first/\(mP t.first).length<=65536/\ ∀a∈t.acts,Il a
theorem vT {t:Tp}(h:uD t)(r:List UInt8):vU (eY t++r)=(t,0):=by
 obtain⟨⟨f1,f2,f3,f4,f5⟩,hm,g1,g2,g3⟩:=h
 have hlen:t.acts.length<=2000:=by
  unfold iU at hm
  simp only[Bool.and_eq_true,decide_eq_true_eq]at hm
  exact hm.1.2
 have e:eY t++r=aH [t.bytes]++(aH [t.room]++(sK t.first++(aH [Int.ofNat t.acts.length]++(iK t.acts++r)))):=by
  unfold eY
  rw[iD t.bytes]
  simp only[List.append_assoc]
 have rl:aS (Int.ofNat t.acts.length):=EK (by simp) (by simp;omega)
 have hc:lJ (Int.ofNat t.acts.length)=t.acts.length:=by
  unfold lJ
  split
  ·rfl
  ·rename_i h
   simp only[Int.ofNat_eq_natCast]at h
   omega
 have ha:=JK g3 r t.acts.length (Nat.le_refl _)
 simp only[vU,e,lC f1,lC f2,KN g1 g2,lC rl,hc,ha]
 obtain⟨a,b,c,d⟩:=t
 simp
theorem Rt {t:Tp}(h:uD t):kX (eY t)=(t,0):=by
 have:=vT h []
 rw[List.append_nil]at this
 unfold kX DZ
 rw[this]
 dsimp only
 rw[if_neg (by simp),if_pos ⟨h.2.1,rfl⟩]
theorem Rq {t:Tp}(h:uD t)(m:List UInt8):((kX (eY t++m)).2=0)↔m=[]:=by
 unfold kX DZ
 rw[vT h m]
 dsimp only
 rw[if_neg (by simp)]
 constructor
 ·intro h2
  split at h2
  ·rename_i h3
   have:=congrArg List.length h3.2
   rw[List.length_append]at this
   exact List.eq_nil_of_length_eq_zero (by omega)
  ·cases h2
 ·rintro rfl
  rw[if_pos ⟨h.2.1,by simp⟩]
end Sx
end
section
namespace Sx
open Go Go.RowKit _root_.Go.Proofs.Tryz
set_option maxRecDepth 100000
set_option maxHeartbeats 4000000
theorem aaE {c:Int}{i:Nat}(h:i<=lJ c):(c-Int.ofNat i<=0\/2000<c-Int.ofNat i->i=lJ c)/\(0<c-Int.ofNat i->c-Int.ofNat i<=2000->i<lJ c):=by
 unfold lJ at*
 simp only[Int.ofNat_eq_natCast]
 by_cases hc:0<c/\c<=2000
 ·rw[if_pos hc]at*;omega
 ·rw[if_neg hc]at*;omega
theorem zF (l:List Ac)(a:Ac):jD (l++[a])=jD l++zG a:=by simp[jD]
theorem Bf (l:List Ac):(jD l).length=l.length*8:=zf oK l
theorem aeS {bx:{α:Type}->α->α}(hb: ∀{α:Type}(x:α),bx x=x){c:Int}{i:Nat}(hc:aS c)(h:0<c-Int.ofNat i):PV.int .i64 (bx (c-Int.ofNat (i+1)))=PV.int .i64 (bx (wr .i64 (bx (c-Int.ofNat i)-1))):=by
 unfold aS at hc
 simp only[Int.ofNat_eq_natCast]at h
 have hw:wr .i64 (c-Int.ofNat i-1)=c-Int.ofNat i-1:=vJ (by simp only[Int.ofNat_eq_natCast];omega)
 have:c-Int.ofNat (i+1)=wr .i64 (c-Int.ofNat i-1):=by rw[hw];simp only[Int.ofNat_eq_natCast];omega
 rw[hb,hb,hb,this]
abbrev A7:List Pl:=[.all 0, .all 1, .all 2, .all 3, .all 4, .all 5, .all 6]
section
variable (bx:{α:Type}->α->α)
def Po (l:List UInt8)(e:Int):Hp:=[.one (.row [.p (.str (bx (bs l)))] 9), .one (.row [.p (.int .i64 (bx e))] 30)]
end
section
variable {bx:{α:Type}->α->α} (hb: ∀{α:Type}(x:α),bx x=x)
include hb
theorem tJ (l:List UInt8)(e:Int)(hl:l.length<=4611686018427387904):Ct prog 35 [.c (.ptr 0 0 0), .c (.ptr 1 0 0)] (Po bx l e) fun r h=>r= .a (.c (.p (.int .i64 (bx (aI (l,e)).1))))/\h=Po bx (aI (l,e)).2.1 (aI (l,e)).2.2:=ct hb func35 fun Q hQ K hK=>by
 have hz:=eG l
 have hle:=Eu l
 have c:=Ru hb l (by unfold maxLen;omega)
 have en:aI (l,e)=((eX l).1,(l.drop (eX l).2.1,max e (eX l).2.2)):=rfl
 rw[en]at hK
 clear en
 generalize eX l=t at hle c hK
 obtain⟨n0,z,f⟩:=t
 dsimp only at hle c hK
 cbv
 refine call hQ c [] ?_
 rintro _ _ ⟨rfl,rfl⟩
 have hm:=Hr e f
 cbv
 refine rZ hb hQ iW [] [] [(0, .one (.row [.p (.str (bx (bs (l.drop z))))] 9)),(1, .one (.row [.p (.int .i64 (bx (max e f)))] 30))] ?_ ?_
 ·cbv
  repeat' (first
   |apply And.intro
   |(refine chk (by simp only[hb,hz,nc];simp only[Bool.and_eq_true,decide_eq_true_eq,Int.ofNat_eq_natCast];omega) ?_;cbv)
   |exact⟨ent [] [.all 0, .all 1] (hs:=by cbv;(repeat' (first|trivial|rfl|apply And.intro|(simp only[hb,hm];done)|(simp only[hb,hz,<-Cc];rfl))))⟩)
 ·cbv
  exact hK _ _ (.a (.c (.p (.int .i64 (bx n0))))) (Po bx (l.drop z) (max e f)) (aZ [] [.all 0, .all 1]) ⟨rfl,rfl⟩
theorem YZ (l:List UInt8)(e:Int)(hl:l.length<=4611686018427387904):Ct prog 37 [.c (.ptr 0 0 0), .c (.ptr 1 0 0)] (Po bx l e) fun r h=>r= .a (qR bx (iR (l,e)).1)/\h=Po bx (iR (l,e)).2.1 (iR (l,e)).2.2:=ct hb func37 fun Q hQ K hK=>by
 have hz:=eG l
 have hle:=yD l
 have c:=UC hb l hl
 have en:iR (l,e)=((pR (fO l).1).1,(l.drop (fO l).2.1,max (max e (fO l).2.2) (pR (fO l).1).2)):=rfl
 rw[en]at hK
 clear en
 generalize fO l=t at hle c hK
 obtain⟨n0,z,f⟩:=t
 dsimp only at hle c hK
 have c2:=adG hb n0 (by omega)
 generalize pR n0=t at c2 hK
 obtain⟨j,g⟩:=t
 dsimp only at c2 hK
 cbv
 refine call hQ c [] ?_
 rintro _ _ ⟨rfl,rfl⟩
 have hm:=Hr
 obtain⟨l2,hl2⟩: ∃t,t=l.drop z:=⟨_,rfl⟩
 obtain⟨e1,he1⟩: ∃t,t=max e f:=⟨_,rfl⟩
 obtain⟨e2,he2⟩: ∃t,t=max e1 g:=⟨_,rfl⟩
 rw[<-hl2,<-he1,<-he2]at hK
 cbv
 refine rZ hb hQ iW [] [] [(0, .one (.row [.p (.str (bx (bs l2)))] 9)),(1, .one (.row [.p (.int .i64 (bx e1))] 30))] ?_ ?_
 ·cbv
  repeat' (first
   |apply And.intro
   |(refine chk (by simp only[hb,hz,nc];simp only[Bool.and_eq_true,decide_eq_true_eq,Int.ofNat_eq_natCast];omega) ?_;cbv)
   |exact⟨ent [] [.all 0, .all 1, .all 2] (hs:=by cbv;(repeat' (first|trivial|rfl|apply And.intro|(simp only[hb,hm,he1];done)|(simp only[hb,hz,hl2,<-Cc];rfl))))⟩)
 ·cbv
  refine call hQ c2 [] ?_
  rintro _ _ ⟨rfl,rfl⟩
  cbv
  exact hK _ _ (.a (qR bx j)) (Po bx l2 e2) (aZ [] [.all 0, .all 1] (hs:=by cbv;(repeat' (first|trivial|rfl|apply And.intro|(simp only[hb,hm,he2];done))))) ⟨rfl,rfl⟩
theorem KQ (l:List UInt8)(hS:nI)(hl:l.length<=4611686018427387904):Ct prog 13 [.c (.p (.str (bx (bs l))))] [] fun r h=>r= .aN [jX bx (kX l).1, .c (.p (.int .i64 (bx (kX l).2)))]/\h=[]:=ct hb func13 fun Q hQ K hK=>by
 have et:kX l=DZ l ⟨(aI (l,0)).1,(aI (aI (l,0)).2).1,(iR (aI (aI (l,0)).2).2).1,(cO (lJ (aI (iR (aI (aI (l,0)).2).2).2).1) (aI (iR (aI (aI (l,0)).2).2).2).2).1⟩ (cO (lJ (aI (iR (aI (aI (l,0)).2).2).2).1) (aI (iR (aI (aI (l,0)).2).2).2).2).2.2:=by simp only[kX,vU]
 rw[et]at hK
 clear et
 have q1:=dU (l,0)
 have k1:=tJ hb l 0 hl
 generalize aI (l,0)=t at q1 k1 hK
 obtain⟨b,l1,e1⟩:=t
 dsimp only at q1 k1 hK
 have hl1:=Nat.le_trans q1.2 hl
 have q2:=dU (l1,e1)
 have k2:=tJ hb l1 e1 hl1
 generalize aI (l1,e1)=t at q2 k2 hK
 obtain⟨r,l2,e2⟩:=t
 dsimp only at q2 k2 hK
 have hl2:=Nat.le_trans q2.2 hl1
 have q3:=Dc (l2,e2) (Nat.le_trans hl2 (by unfold maxLen;omega))
 have k3:=YZ hb l2 e2 hl2
 generalize iR (l2,e2)=t at q3 k3 hK
 obtain⟨j,l3,e3⟩:=t
 dsimp only at q3 k3 hK
 have hl3:=Nat.le_trans q3.2 hl2
 have q4:=dU (l3,e3)
 have k4:=tJ hb l3 e3 hl3
 generalize aI (l3,e3)=t at q4 k4 hK
 obtain⟨c,l4,e4⟩:=t
 dsimp only at q4 k4 hK
 have hl4:=Nat.le_trans q4.2 hl3
 have Yq:l4.length<=maxLen:=Nat.le_trans hl4 (by unfold maxLen;omega)
 have hN:=QU c
 cbv
 refine rZ hb hQ iW [] [(4, .a (.c (.ptr 2 0 0))),(5, .a (.c (.p (.str (bx (bs l))))))] [(2, .one (.row [.p (.int .i64 (bx 0))] 30))] ?_ ?_
 ·cbv
  repeat' (first
   |apply And.intro
   |exact⟨ent [] [.all 0, .all 1, .all 2] (hs:=by cbv;(repeat' (first|trivial|rfl|apply And.intro|(simp[hb];done))))⟩)
 ·cbv
  refine call hQ k1 [.all 0, .all 2] ?_
  rintro _ _ ⟨rfl,rfl⟩
  cbv
  refine call hQ k2 [.all 0, .all 2] ?_
  rintro _ _ ⟨rfl,rfl⟩
  cbv
  refine call hQ k3 [.all 0, .all 2] ?_
  rintro _ _ ⟨rfl,rfl⟩
  cbv
  refine call hQ k4 [.all 0, .all 2] ?_
  rintro _ _ ⟨rfl,rfl⟩
  cbv
  refine VF hb (fun a:Nat×List Ac×List UInt8×Int=>a.1<=lJ c/\cO a.1 (l4,e4)=(a.2.1,(a.2.2.1,a.2.2.2))) (fun a=>lJ c-a.1) (fun a=>[(9, .a (.c (.p (.int .i64 (bx (c-Int.ofNat a.1))))))])
   (fun a=>[(0, .one (.row [.p (.str (bx (bs a.2.2.1)))] 9)),(2, .one (.row [.p (.int .i64 (bx a.2.2.2))] 30)),(5, .one (.row [.p (.int .i64 (bx b)), .p (.int .i64 (bx r)), .p (.int .i64 (bx j.par)), .p (.fz (bx j.nodes.length) (bx (dO j.nodes))), .sl 6 0 0 (bx a.2.1.length)] 27)),(6, .one (.bG (bx (jD a.2.1)) 41))])
   (0,[],l4,e4) ⟨Nat.zero_le _,rfl⟩
   0 (fun a:List Ac×List UInt8×Int=>cO (lJ c) (l4,e4)=(a.1,(a.2.1,a.2.2))) (fun _=>[])
   (fun a=>[(0, .one (.row [.p (.str (bx (bs a.2.1)))] 9)),(2, .one (.row [.p (.int .i64 (bx a.2.2))] 30)),(5, .one (.row [.p (.int .i64 (bx b)), .p (.int .i64 (bx r)), .p (.int .i64 (bx j.par)), .p (.fz (bx j.nodes.length) (bx (dO j.nodes))), .sl 6 0 0 (bx a.1.length)] 27)),(6, .one (.bG (bx (jD a.1)) 41))])
   (ent [] [.all 0, .all 1, .all 2, .all 3, .all 4, .all 5, .iE] (hs:=by cbv;(repeat' (first|trivial|rfl|apply And.intro|(simp[hb,jD];done)))) (he:=by cbv;(repeat' (first|trivial|rfl|apply And.intro|(simp[hb];done))))) ?_ ?_
  ·rintro⟨i,xs,l',e'⟩ ⟨i1,i2⟩
   dsimp only at i1 i2⊢
   obtain⟨hx,hi⟩:=aaE i1
   have out:i=lJ c\/e'≠0->cO (lJ c) (l4,e4)=(xs,l',e'):=by
    rintro(h|h)
    ·rw[<-h];exact i2
    ·have:=Gy (st:=(l4,e4)) (n:=i) (by rw[i2];exact h) (lJ c-i)
     rw[Nat.add_sub_cancel' i1,i2]at this
     exact this
   cbv
   refine⟨fun h1=>?_,fun h1=>?_⟩<;>simp only[hb,pl]at h1
   ·cbv
    refine⟨fun h2=>?_,fun h2=>?_⟩<;>simp only[hb,pl]at h2
    ·cbv
     refine⟨fun h3=>?_,fun h3=>?_⟩<;>simp only[hb,pl]at h3
     ·replace hi:=hi h1 h2
      have hl':l'.length<=4611686018427387904:=by
       have:=(sD (l4,e4) Yq i).2.2
       rw[i2]at this
       exact Nat.le_trans this hl4
      have hnl:xs.length<=i:=by
       have:=(sD (l4,e4) Yq i).2.1
       rw[i2]at this
       exact this
      have i4:cO (i+1) (l4,e4)=(xs++[(qw (l',e')).1],(qw (l',e')).2):=by
       have:cO (i+1) (l4,e4)=if(cO i (l4,e4)).2.2≠0 then cO i (l4,e4)else((cO i (l4,e4)).1++[(qw (cO i (l4,e4)).2).1],(qw (cO i (l4,e4)).2).2):=rfl
       rw[this,i2]
       exact if_neg (by dsimp only;omega)
      have ea:qw (l',e')=bodyT (IntKind.wrap .u8 (aI (l',e')).1) (aI (aI (l',e')).2).1 (aI (aI (aI (l',e')).2).2).1 (aI (aI (aI (l',e')).2).2).2:=rfl
      rw[ea]at i4
      clear ea
      have fa:=dU (l',e')
      have ka:=tJ hb l' e' hl'
      generalize aI (l',e')=t at i4 fa ka
      obtain⟨kd,la,ea⟩:=t
      dsimp only at i4 fa ka
      have hla:=Nat.le_trans fa.2 hl'
      have fb:=dU (la,ea)
      have kb:=tJ hb la ea hla
      generalize aI (la,ea)=t at i4 fb kb
      obtain⟨n,lb,eb⟩:=t
      dsimp only at i4 fb kb
      have hlb:=Nat.le_trans fb.2 hla
      have fc:=dU (lb,eb)
      have kc:=tJ hb lb eb hlb
      generalize aI (lb,eb)=t at i4 fc kc
      obtain⟨m,lc,ec⟩:=t
      dsimp only at i4 fc kc
      have hlc:=Nat.le_trans fc.2 hlb
      obtain⟨kind,hk⟩: ∃k,k=IntKind.wrap .u8 kd:=⟨_,rfl⟩
      rw[<-hk]at i4
      cbv
      refine call hQ ka [.all 0, .all 2] ?_
      rintro _ _ ⟨rfl,rfl⟩
      cbv
      refine call hQ kb [.all 0, .all 2] ?_
      rintro _ _ ⟨rfl,rfl⟩
      cbv
      refine call hQ kc [.all 0, .all 2] ?_
      rintro _ _ ⟨rfl,rfl⟩
      cbv
      have hk2:wr .u8 kd=kind:=hk.symm
      have hu:=aeS hb q4.1 h1
      refine⟨fun h4=>?_,fun h4=>?_⟩<;>simp only[hb,hk2,pl]at h4
      ·have eb:bodyT kind n m (lc,ec)=(⟨kind,n,m,(aI (lc,ec)).1,(aI (aI (lc,ec)).2).1,(aI (aI (aI (lc,ec)).2).2).1,zJ⟩,(aI (aI (aI (lc,ec)).2).2).2):=if_pos h4
       rw[eb]at i4
       clear eb
       have fd1:=dU (lc,ec)
       have kd1:=tJ hb lc ec hlc
       generalize aI (lc,ec)=t at i4 fd1 kd1
       obtain⟨p,ld,ed⟩:=t
       dsimp only at i4 fd1 kd1
       have hld:=Nat.le_trans fd1.2 hlc
       have fe1:=dU (ld,ed)
       have ke1:=tJ hb ld ed hld
       generalize aI (ld,ed)=t at i4 fe1 ke1
       obtain⟨key,le,ee⟩:=t
       dsimp only at i4 fe1 ke1
       have hle:=Nat.le_trans fe1.2 hld
       have ff1:=dU (le,ee)
       have kf1:=tJ hb le ee hle
       generalize aI (le,ee)=t at i4 ff1 kf1
       obtain⟨v,lf,ef⟩:=t
       dsimp only at i4 ff1 kf1
       have hlf:=Nat.le_trans ff1.2 hle
       cbv
       refine call hQ kd1 [.all 0, .all 2] ?_
       rintro _ _ ⟨rfl,rfl⟩
       cbv
       refine call hQ ke1 [.all 0, .all 2] ?_
       rintro _ _ ⟨rfl,rfl⟩
       cbv
       refine call hQ kf1 [.all 0, .all 2] ?_
       rintro _ _ ⟨rfl,rfl⟩
       cbv
       obtain⟨a,ha⟩: ∃a:Ac,a=⟨kind,n,m,p,key,v,zJ⟩:=⟨_,rfl⟩
       rw[<-ha]at i4
       refine chk (by simp only[hb,pO,wP,Bf];simp;omega) ?_
       cbv
       exact⟨(i+1,xs++[a],lf,ef),⟨by dsimp only;omega,i4⟩,by dsimp only;omega,ent [] [.all 0, .all 1, .all 2, .all 3, .all 4, .all 5, .all 9] (hs:=by cbv;(repeat' (first|trivial|rfl|apply And.intro|(simp only[hb,zF,ha,zG,qM,wM,hk2,zJ,yR,List.length_nil];done)|(simp[hb];done)))) (he:=by cbv;(repeat' (first|trivial|rfl|apply And.intro|exact hu|(simp only[hb];done))))⟩
      ·cbv
       refine⟨fun h5=>?_,fun h5=>?_⟩<;>simp only[hb,hk2,pl]at h5
       ·have eb:bodyT kind n m (lc,ec)=(⟨kind,n,m,0,0,0,(iR (lc,ec)).1⟩,(iR (lc,ec)).2):=(if_neg h4).trans (if_pos h5)
        rw[eb]at i4
        clear eb
        have ku:=YZ hb lc ec hlc
        generalize iR (lc,ec)=t at i4 ku
        obtain⟨jj,ld,ed⟩:=t
        dsimp only at i4 ku
        cbv
        refine call hQ ku [.all 0, .all 2] ?_
        rintro _ _ ⟨rfl,rfl⟩
        cbv
        obtain⟨a,ha⟩: ∃a:Ac,a=⟨kind,n,m,0,0,0,jj⟩:=⟨_,rfl⟩
        rw[<-ha]at i4
        refine chk (by simp only[hb,pO,wP,Bf];simp;omega) ?_
        cbv
        exact⟨(i+1,xs++[a],ld,ed),⟨by dsimp only;omega,i4⟩,by dsimp only;omega,ent [] [.all 0, .all 1, .all 2, .all 3, .all 4, .all 5, .all 9] (hs:=by cbv;(repeat' (first|trivial|rfl|apply And.intro|(simp only[hb,zF,ha,zG,qM,wM,hk2,zJ,yR,List.length_nil];done)|(simp[hb];done)))) (he:=by cbv;(repeat' (first|trivial|rfl|apply And.intro|exact hu|(simp only[hb];done))))⟩
       ·have eb:bodyT kind n m (lc,ec)=(⟨kind,n,m,0,0,0,zJ⟩,(lc,ec)):=(if_neg h4).trans (if_neg h5)
        rw[eb]at i4
        clear eb
        cbv
        obtain⟨a,ha⟩: ∃a:Ac,a=⟨kind,n,m,0,0,0,zJ⟩:=⟨_,rfl⟩
        rw[<-ha]at i4
        refine chk (by simp only[hb,pO,wP,Bf];simp;omega) ?_
        cbv
        exact⟨(i+1,xs++[a],lc,ec),⟨by dsimp only;omega,i4⟩,by dsimp only;omega,ent [] [.all 0, .all 1, .all 2, .all 3, .all 4, .all 5, .all 9] (hs:=by cbv;(repeat' (first|trivial|rfl|apply And.intro|(simp only[hb,zF,ha,zG,qM,wM,hk2,zJ,yR,List.length_nil];done)|(simp[hb];done)))) (he:=by cbv;(repeat' (first|trivial|rfl|apply And.intro|exact hu|(simp only[hb];done))))⟩
     ·cbv
      exact⟨(xs,l',e'),out (.inr h3),rfl,ent [] A7⟩
    ·cbv
     exact⟨(xs,l',e'),out (.inl (hx (.inr (Int.not_le.1 h2)))),rfl,ent [] A7⟩
   ·cbv
    exact⟨(xs,l',e'),out (.inl (hx (.inl (Int.not_lt.1 h1)))),rfl,ent [] A7⟩
  ·rintro⟨xs,l',e'⟩ j1
   rw[j1]at hK
   dsimp only at j1 hK⊢
   have ft:gQ ⟨b,r,j,xs⟩:=by
    have:=sD (l4,e4) Yq (lJ c)
    rw[j1]at this
    exact⟨q1.1,q2.1,q3.1,Nat.lt_of_le_of_lt this.2.1 (Nat.lt_of_le_of_lt hN (by omega)),this.1⟩
   cbv
   refine⟨fun h1=>?_,fun h1=>?_⟩<;>simp only[hb,pl]at h1
   ·have ee:DZ l ⟨b,r,j,xs⟩ e'=(zT,21):=if_pos h1
    rw[ee]at hK
    dsimp only at hK
    cbv
    exact hK _ _ (.aN [jX bx zT, .c (.p (.int .i64 (bx 21)))]) [] (aZ [] [] (he:=by cbv;(repeat' (first|trivial|rfl|apply And.intro|(simp[hb,jD];done))))) ⟨rfl,rfl⟩
   ·have ee:DZ l ⟨b,r,j,xs⟩ e'=if iU ⟨b,r,j,xs⟩=true/\eY ⟨b,r,j,xs⟩=l then(⟨b,r,j,xs⟩,0)else(zT,21):=if_neg (by omega)
    rw[ee]at hK
    clear ee
    have kp:=abk hb ⟨b,r,j,xs⟩ hS ft
    obtain⟨pt,hpt⟩: ∃t,t=eY ⟨b,r,j,xs⟩:=⟨_,rfl⟩
    rw[<-hpt]at hK kp
    generalize iU ⟨b,r,j,xs⟩=my at hK kp
    cbv
    refine gJ.Ll (args2:=[jX bx ⟨b,r,j,xs⟩]) [6] [.all 0, .all 1, .all 2, .all 3, .all 4, .all 5, .gone 6] [.one (.row [.p (.str (bx (bs l')))] 9), .one (.row [.p (.lit .i64 0), .p (.lit .i64 0), .p (.lit .i64 0), .p .bW, .p .bW] 27), .one (.row [.p (.int .i64 (bx e'))] 30), .one (.clo 35 [] [.c (.ptr 0 0 0), .c (.ptr 2 0 0)]), .one (.clo 37 [] [.c (.ptr 0 0 0), .c (.ptr 2 0 0)]), .one (.row [.p (.int .i64 (bx b)), .p (.int .i64 (bx r)), .p (.int .i64 (bx j.par)), .p (.fz (bx j.nodes.length) (bx (dO j.nodes))), .p (.fz (bx xs.length) (bx (jD xs)))] 27), .no] ?_
    cbv
    refine call hQ kp [] ?_
    rintro rr _ ⟨rfl,hr⟩
    by_cases Jq:my=true
    ·rw[if_pos Jq]at hr
     subst hr
     have bq:((bs pt).toList==(bs l).toList)=decide (pt=l):=by
      rw[<-beq_toListBytes,su]
      congr 1
      exact propext ⟨fun h=>by have:=congrArg (fun b:ByteArray=>b.data.toList) h;simpa[bs]using this,fun h=>by rw[h]⟩
     cbv
     refine⟨fun h2=>?_,fun _=>?_⟩
     ·rw[hb]at h2
      exact absurd h2 (by decide)
     ·cbv
      refine⟨fun h3=>?_,fun h3=>?_⟩<;>simp only[hb,bq,pl]at h3
      ·rw[if_neg (fun h=>h3 h.2)]at hK
       dsimp only at hK
       cbv
       exact hK _ _ (.aN [jX bx zT, .c (.p (.int .i64 (bx 21)))]) [] (aZ [] [] (he:=by cbv;(repeat' (first|trivial|rfl|apply And.intro|(simp[hb,jD];done))))) ⟨rfl,rfl⟩
      ·rw[if_pos ⟨Jq,h3⟩]at hK
       dsimp only at hK
       cbv
       exact hK _ _ (.aN [jX bx ⟨b,r,j,xs⟩, .c (.p (.int .i64 (bx 0)))]) [] (aZ [] [] (he:=by cbv;(repeat' (first|trivial|rfl|apply And.intro|(simp[hb];done))))) ⟨rfl,rfl⟩
    ·rw[if_neg Jq]at hr
     subst hr
     rw[if_neg (fun h=>Jq h.1)]at hK
     dsimp only at hK
     cbv
     refine⟨fun _=>?_,fun h2=>?_⟩
     ·cbv
      exact hK _ _ (.aN [jX bx zT, .c (.p (.int .i64 (bx 21)))]) [] (aZ [] [] (he:=by cbv;(repeat' (first|trivial|rfl|apply And.intro|(simp[hb,jD];done))))) ⟨rfl,rfl⟩
     ·rw[hb]at h2
      exact absurd h2 (by decide)
end
end Sx
end
end Go.Proofs.YtakhobfamnjnoaaGreatDoor
