/- The document's Take of a number, changelingref02.Take(99). -/
import Derived.Test.YtglbkodmmogomaaGreatDoorS21
set_option linter.unusedVariables false
set_option linter.unusedSimpArgs false
set_option maxHeartbeats 8000000
set_option maxRecDepth 100000
namespace Go.Proofs.YtglbkodmmogomaaGreatDoor
open List Go.Proofs.Tryz
section
open Go Go.RowKit
def hor:List UInt8->Nat
 |[]=>0
 |c::r=>c.toNat%128+128*hor r
theorem Ap: ∀(p q:List UInt8),hor (p++q)=hor p+128^p.length*hor q
 |[],q=>by simp[hor]
 |c::p,q=>by simp only[cons_append,hor,Ap p q,φ,Nat.pow_succ];rw[Nat.mul_add,<-Nat.mul_assoc,Nat.mul_comm 128 (128^p.length)];omega
theorem Zu: ∀p:List UInt8,hor p<128^p.length
 |[]=>by simp[hor]
 |c::p=>by have ih:=Zu p;simp only[hor,φ,Nat.pow_succ];omega
theorem F8: ∀(p:List UInt8)(i U:Nat)(r:List UInt8),(∀c∈p,128<=c.toNat)->i+p.length<=9->gY i U (p++r)=gY (i+p.length) (U+hor p*128^i) r
 |[],i,U,r,_,_=>by simp[hor]
 |c::p,i,U,r,h,hi=>by rw[φ]at hi;have hc:=h c (by simp);rw[cons_append,gY,if_neg (by omega),if_pos hc,F8 p (i+1) _ r (fun d hd=>h d (by simp[hd])) (by omega)];have e1:i+1+p.length=i+(c::p).length:=(by rw[φ];omega);have e2:U+c.toNat%128*128^i+hor p*128^(i+1)=U+hor (c::p)*128^i:=(by simp only[hor];rw[Nat.pow_succ,Nat.add_mul,Nat.mul_comm 128 (hor p),Nat.mul_assoc,Nat.mul_comm 128 (128^i)];omega);rw[e1,e2]
theorem IB {l p r:List UInt8}(hl:l=p++r)(hp: ∀c∈p,128<=c.toNat)(h9:p.length<=9):tk l=gY p.length (hor p) r:=by unfold tk;rw[hl,F8 p 0 0 r hp (by omega)];simp
theorem O1 {l:List UInt8}(hp: ∀c∈l,128<=c.toNat)(h9:l.length<=9):tk l=(0,0,20):=by rw[IB (p:=l) (r:=[]) (by simp) hp h9];rfl
theorem Ua {p r:List UInt8}{c:UInt8}(hp: ∀c∈p,128<=c.toNat)(h9:p.length<=9)(hc:c.toNat<128)(CW:p.length=9->c.toNat<=1):
 tk (p++c::r)=if 0<p.length/\c.toNat=0 then(0,0,21)else(mF (hor (p++[c])),p.length+1,0):=by
 rw[IB (p:=p) (r:=c::r) rfl hp h9,gY,if_neg (fun h=>by have:=CW h.1;omega),if_neg (by omega)];by_cases h0:0<p.length/\c.toNat=0
 ·rw[if_pos ⟨h0.2,h0.1⟩,if_pos h0]
 ·rw[if_neg (fun h=>h0 ⟨h.2,h.1⟩),if_neg h0,Ap]
  simp only[hor,Nat.mul_zero,Nat.add_zero];rw[Nat.mul_comm (128^p.length)]
theorem O5 {p r:List UInt8}{c:UInt8}(hp: ∀c∈p,128<=c.toNat)(h9:p.length=9)(hc:1<c.toNat):tk (p++c::r)=(0,0,21):=by rw[IB (p:=p) (r:=c::r) rfl hp (by omega),gY,if_pos ⟨h9,hc⟩]
theorem Qw {l:List UInt8}{j:Nat}(h:j<l.length):hor (l.drop j)=l[j].toNat%128+128*hor (l.drop (j+1)):=by rw[acn h];rfl
theorem JZ {p:List UInt8}{c:UInt8}(h9:p.length<=9)(hc:c.toNat<128)(CW:p.length=9->c.toNat<=1){i:Nat}(hi:i<=p.length):hor ((p++[c]).drop i)<18446744073709551616:=by
 rw[drop_append_of_le_length hi,Ap];have h1:=Zu (p.drop i);rw[length_drop]at*;simp only[hor,Nat.mul_zero,Nat.add_zero];rw[Nat.mod_eq_of_lt hc];by_cases h:p.length=9
 ·have h2:128^(p.length-i)<=128^9:=Nat.pow_le_pow_right (by omega) (by omega)
  rw[VD]at h2;have h3:128^(p.length-i)*c.toNat<=128^(p.length-i)*1:=Nat.mul_le_mul_left _ (CW h);omega
 ·have h2:128^(p.length-i)<=128^8:=Nat.pow_le_pow_right (by omega) (by omega)
  have h4:(128:Nat)^8=72057594037927936:=(by decide);have h3:128^(p.length-i)*c.toNat<=128^(p.length-i)*127:=Nat.mul_le_mul_left _ (by omega);omega
theorem Il {u:Nat}(h: ¬u%2=1):mF u=((u/2:Nat):Int):=by unfold mF;rw[if_pos (by omega)]
theorem KG {u:Nat}(h:u%2=1):mF u= -((u/2:Nat):Int)-1:=by unfold mF;rw[if_neg (by omega)]
theorem wB {s:ByteArray}{k:Nat}(h:k<s.size):s.data.toList=s.data.toList.take k++s[k]::s.data.toList.drop (k+1):=by have e:s.data.toList.drop k=s[k]::s.data.toList.drop (k+1):=(by rw[acn (by simpa using h)];rfl);rw[<-e,take_append_drop]
theorem Yp (s:ByteArray)(hs:s.size<=maxLen)(w:World):Calls prog 100 #[.string s] w (TkQ w (tk s.data.toList)):=by
 unfold maxLen at hs;have hsz:s.data.toList.length=s.size:=(by simp);have lF:=γ hsz;clear hsz;go_enter func100,ntmps100;go_wp2;go_loopg [5] 11 (fun g vi wr=> ∃k:Nat,vi= .int .i64 (k:Int)/\k<=10/\k<=s.size/\(∀c∈s.data.toList.take k,128<=c.toNat)/\11-k<=g/\wr=w)
 case atStart=>exact⟨0,rfl,by omega,by omega,by simp,by omega,rfl⟩
 case round=>
  obtain⟨k,rfl,hk,hks,hp,hg,rfl⟩:=hrel;have HP:=γ (θ hp hg);clear hp hg;by_cases hgo:k<s.size/\k<10/\ ∃h:k<s.size,127<s[k].toNat
  ·obtain⟨h1,h2,_,h3⟩:=hgo
   have h3i:(127:Int)<(s[k].toNat:Int):=by omega
   have F:=γ (show∀c∈s.data.toList.take (k+1),128<=c.toNat from by
    intro c hc;rw[ψ,ι (by rw[lF.o];exact h1)]at hc
    rcases aax.1 hc with hc|hc
    ·exact HP.o.1 c hc
    ·simp only[Option.toList_some,ach]at hc
     rw[hc];exact h3)
   clear h3;go_wp2;go_roundg (11-(k+1))
   case rel=>exact⟨k+1,by go_num,by omega,by omega,F.o,ξ _,rfl⟩
   case measure=>have:=HP.o.2;omega
  ·have ways:(k=10/\s.size=10)\/(k=10/\10<s.size)\/(k=9/\s.size=9)\/(k=s.size/\k<9)\/(∃h:k<s.size,k=9/\ ¬127<s[k].toNat/\1<s[k].toNat)\/(∃h:k<s.size,k=9/\s[k].toNat<=1)\/(∃h:k<s.size,k<9/\ ¬127<s[k].toNat):=by
    by_cases h1:k<s.size
    ·by_cases h2:k<10
     ·have h3: ¬127<s[k].toNat:=fun h=>hgo ⟨h1,h2,h1,h⟩
      by_cases h4:k=9
      ·by_cases h5:1<s[k].toNat
       ·exact .inr (.inr (.inr (.inr (.inl ⟨h1,h4,h3,h5⟩))))
       ·exact .inr (.inr (.inr (.inr (.inr (.inl ⟨h1,h4,by omega⟩)))))
      ·exact .inr (.inr (.inr (.inr (.inr (.inr ⟨h1,by omega,h3⟩)))))
     ·exact .inr (.inl ⟨by omega,by omega⟩)
    ·by_cases h2:k=10
     ·exact .inl ⟨h2,by omega⟩
     ·by_cases h3:k=9
      ·exact .inr (.inr (.inl ⟨h3,by omega⟩))
      ·exact .inr (.inr (.inr (.inl ⟨by omega,by omega⟩)))
   clear hgo
   rcases ways with⟨rfl,h1⟩|⟨rfl,h1⟩|⟨rfl,h1⟩|⟨h1,h2⟩|⟨hlt,rfl,h1,h2⟩|⟨hlt,h1,h2⟩|⟨hlt,h1,h2⟩
   ·have Bj:9<s.size:=by omega
    have T:=γ (show tk s.data.toList=(0,0,21)from by
     rw[wB (k:=9) Bj];refine O5 (fun c hc=>HP.o.1 c (by rw[ψ];exact mem_append_left _ hc)) (by rw[υ,lF.o];omega) ?_;have:=HP.o.1 (s[9]'Bj) (by rw[ψ,ι (by rw[lF.o];omega)];exact mem_append_right _ (by simp;rfl))
     omega)
    have b1:(1:Int)<((s[9]'Bj).toNat:Int):=(by have:=HP.o.1 (s[9]'Bj) (by rw[ψ,ι (by rw[lF.o];omega)];exact mem_append_right _ (by simp;rfl));omega);have b2: ¬(10:Int)<(s.size:Int):=(by omega);have b3:(9:Int)<(s.size:Int):=(by omega);have H1:=γ h1;clear h1;go_wp2
    go_ret3
    rw[T.o];exact⟨rfl,rfl⟩
   ·have Bj:9<s.size:=by omega
    have T:=γ (show tk s.data.toList=(0,0,21)from by
     rw[wB (k:=9) Bj];refine O5 (fun c hc=>HP.o.1 c (by rw[ψ];exact mem_append_left _ hc)) (by rw[υ,lF.o];omega) ?_;have:=HP.o.1 (s[9]'Bj) (by rw[ψ,ι (by rw[lF.o];omega)];exact mem_append_right _ (by simp;rfl))
     omega)
    have b1:(1:Int)<((s[9]'Bj).toNat:Int):=(by have:=HP.o.1 (s[9]'Bj) (by rw[ψ,ι (by rw[lF.o];omega)];exact mem_append_right _ (by simp;rfl));omega);have b2:(10:Int)<(s.size:Int):=(by omega);have b3:(9:Int)<(s.size:Int):=(by omega);go_wp2
    go_ret3
    rw[T.o];exact⟨rfl,rfl⟩
   ·have T:=γ (show tk s.data.toList=(0,0,20)from by
     have hp:=HP.o.1;rw[χ (by rw[lF.o];omega)]at hp
     exact O1 hp (by rw[lF.o];omega))
    have b2: ¬(9:Int)<(s.size:Int):=(by omega);have b3:((9:Int)==(s.size:Int))=true:=beq_iff_eq.2 (by omega);have H1:=γ h1;clear h1;go_wp2
    go_ret3
    rw[T.o];exact⟨rfl,rfl⟩
   ·have T:=γ (show tk s.data.toList=(0,0,20)from by
     have hp:=HP.o.1;rw[χ (by rw[lF.o];omega)]at hp
     exact O1 hp (by rw[lF.o];omega))
    have b2: ¬(k:Int)<(s.size:Int):=(by omega);have b3:((k:Int)==(s.size:Int))=true:=beq_iff_eq.2 (by omega);have b4: ¬(9:Int)<=(k:Int):=(by omega);have H1:=γ h1;clear h1;go_wp2
    go_ret3
    rw[T.o];exact⟨rfl,rfl⟩
   ·have T:=γ (show tk s.data.toList=(0,0,21)from by
     rw[wB hlt]
     exact O5 HP.o.1 (by rw[υ,lF.o];omega) h2)
    have b1:(1:Int)<(s[9].toNat:Int):=(by omega);have b2: ¬(127:Int)<(s[9].toNat:Int):=(by omega);have b3:(9:Int)<(s.size:Int):=(by omega);go_wp2
    go_ret3
    rw[T.o];exact⟨rfl,rfl⟩
   ·have Bj:9<s.size:=by omega
    have b1: ¬(1:Int)<((s[9]'Bj).toNat:Int):=(by have e:s[9]'Bj=s[k]:=(by congr 1;omega);rw[e];omega);have hc128:s[k].toNat<128:=(by omega);have CW:k=9->s[k].toNat<=1:=fun h=>(by omega);have b2: ¬(127:Int)<(s[k].toNat:Int):=(by omega);have b3:(9:Int)<(s.size:Int):=(by omega);have b4:(9:Int)<=(k:Int):=(by omega);have hk9:k<=9:=(by omega);have HK9:=γ h1;clear h1;have HL:=γ (θ HP.o.1 (θ hc128 (θ CW hlt)));have hkz:((k:Int)==(s.size:Int))=false:=beq_eq_false_iff_ne.2 (by omega);have htk:=Ua (r:=s.data.toList.drop (k+1)) (c:=s[k]) HP.o.1 (by rw[υ];omega) hc128 (fun h=>CW (by rw[υ,lF.o]at h;omega));rw[<-wB hlt,υ,lF.o,Nat.min_eq_left (by omega)]at htk;have uF:=γ htk;clear htk CW;by_cases hz:0<k/\s[k].toNat=0
    ·have T:=γ (show tk s.data.toList=(0,0,21) by rw[uF.o,if_pos hz])
     have z1:(0:Int)<(k:Int):=(by omega);have z2:((s[k].toNat:Int)==0)=true:=(by rw[hz.2];rfl);clear hz;go_wp2
     go_ret3
     rw[T.o];exact⟨rfl,rfl⟩
    ·have T:=γ (show tk s.data.toList=(mF (hor (s.data.toList.take (k+1))),k+1,0) by
      rw[uF.o,if_neg hz,ψ,ι (by rw[lF.o];exact hlt)]
      rfl)
     have HB:=γ (show∀i,i<=k->hor ((s.data.toList.take (k+1)).drop i)<18446744073709551616 from fun i hi=>by
      have:=JZ (p:=s.data.toList.take k) (c:=s[k]) (by rw[υ];omega) hc128 (fun h=>HL.o.2.2.1 (by rw[υ,lF.o]at h;omega)) (i:=i) (by rw[υ,lF.o];omega);rw[ψ,ι (by rw[lF.o];exact hlt)]
      exact this)
     have hz':(¬(0:Int)<(k:Int))\/((0:Int)<(k:Int)/\((s[k].toNat:Int)==0)=false):=by
      by_cases h0:0<k
      ·exact .inr ⟨by omega,beq_eq_false_iff_ne.2 (fun e=>hz ⟨h0,by omega⟩)⟩
      ·exact .inl (by omega)
     clear hz hc128;obtain⟨z1,z2⟩:=hz'.resolve_left (by omega);all_goals
      go_wp2;go_loopg [6,7] 11 (fun g vu vi wr2=> ∃(j u:Nat)(x:Int),j<=k+1/\x=(j:Int)-1/\vi= .int .i64 x/\vu= .int .u64 (u:Int)/\u=hor ((s.data.toList.take (k+1)).drop j)/\j<=g/\wr2=wr)
      case atStart=>exact⟨k+1,0,(k:Int),by omega,by omega,rfl,rfl,by rw[drop_eq_nil_of_le (length_take_le _ _)];rfl,by omega,rfl⟩
      case round=>
       obtain⟨j,u,x,hj,hx,rfl,rfl,hu,hg,rfl⟩:=hrel;have HU:=γ (θ hu hg)
       cases j with
       |zero=>
        obtain rfl:x= -1:=(by omega);have hub:=HB.o 0 (by omega);rw[<-hu]at hub;rw[drop_zero]at hu;have HU2:=γ hu;clear hu hx hg;by_cases hodd:u%2=1
        ·have o1:(((u:Int)%2)==1)=true:=beq_iff_eq.2 (by omega)
         have Si:=γ (KG hodd);clear hodd;go_wp2
         go_ret3
         rw[T.o,<-HU2.o,Si.o];exact⟨rfl,rfl⟩
        ·have o1:(((u:Int)%2)==1)=false:=beq_eq_false_iff_ne.2 (by omega)
         have Si:=γ (Il hodd);clear hodd;go_wp2
         go_ret3
         rw[T.o,<-HU2.o,Si.o];exact⟨rfl,rfl⟩
       |succ i=>
        obtain rfl:x=(i:Int):=(by omega);have hsi:i<s.size:=(by omega);have hil:i<(s.data.toList.take (k+1)).length:=(by rw[υ,lF.o];omega);have hst:=Qw hil;have hget:(s.data.toList.take (k+1))[i]=s[i]'hsi:=(by rw[getElem_take];rfl);rw[hget,<-hu]at hst;have hb:=HB.o i (by omega);rw[hst]at hb;obtain⟨d,hd⟩:=acu ((s[i]'hsi).toNat%128);rw[hd]at hst hb;have hdi:((s[i]'hsi).toNat:Int)%128=(d:Int):=(by omega);have agx:d<128:=(by omega);have HS:=γ hst;clear hst hd hget hu hx hg hil;go_wp2;go_roundg i
        case rel=>exact⟨i,128*u+d,(i:Int)-1,by omega,rfl,rfl,by go_num,by rw[HS.o];omega,ξ _,rfl⟩
        case measure=>have:=HU.o.2;omega
   ·have hc128:s[k].toNat<128:=by omega
    have CW:k=9->s[k].toNat<=1:=fun h=>(by omega);have b2: ¬(127:Int)<(s[k].toNat:Int):=(by omega);have b4: ¬(9:Int)<=(k:Int):=(by omega);have HL:=γ (θ HP.o.1 (θ hc128 (θ CW hlt)));have hkz:((k:Int)==(s.size:Int))=false:=beq_eq_false_iff_ne.2 (by omega);have htk:=Ua (r:=s.data.toList.drop (k+1)) (c:=s[k]) HP.o.1 (by rw[υ];omega) hc128 (fun h=>CW (by rw[υ,lF.o]at h;omega));rw[<-wB hlt,υ,lF.o,Nat.min_eq_left (by omega)]at htk;have uF:=γ htk;clear htk CW;by_cases hz:0<k/\s[k].toNat=0
    ·have T:=γ (show tk s.data.toList=(0,0,21) by rw[uF.o,if_pos hz])
     have z1:(0:Int)<(k:Int):=(by omega);have z2:((s[k].toNat:Int)==0)=true:=(by rw[hz.2];rfl);clear hz;go_wp2
     go_ret3
     rw[T.o];exact⟨rfl,rfl⟩
    ·have T:=γ (show tk s.data.toList=(mF (hor (s.data.toList.take (k+1))),k+1,0) by
      rw[uF.o,if_neg hz,ψ,ι (by rw[lF.o];exact hlt)]
      rfl)
     have HB:=γ (show∀i,i<=k->hor ((s.data.toList.take (k+1)).drop i)<18446744073709551616 from fun i hi=>by
      have:=JZ (p:=s.data.toList.take k) (c:=s[k]) (by rw[υ];omega) hc128 (fun h=>HL.o.2.2.1 (by rw[υ,lF.o]at h;omega)) (i:=i) (by rw[υ,lF.o];omega);rw[ψ,ι (by rw[lF.o];exact hlt)]
      exact this)
     have hz':(¬(0:Int)<(k:Int))\/((0:Int)<(k:Int)/\((s[k].toNat:Int)==0)=false):=by
      by_cases h0:0<k
      ·exact .inr ⟨by omega,beq_eq_false_iff_ne.2 (fun e=>hz ⟨h0,by omega⟩)⟩
      ·exact .inl (by omega)
     clear hz hc128
     rcases hz' with z1|⟨z1,z2⟩
     all_goals
      go_wp2;go_loopg [6,7] 11 (fun g vu vi wr2=> ∃(j u:Nat)(x:Int),j<=k+1/\x=(j:Int)-1/\vi= .int .i64 x/\vu= .int .u64 (u:Int)/\u=hor ((s.data.toList.take (k+1)).drop j)/\j<=g/\wr2=wr)
      case atStart=>exact⟨k+1,0,(k:Int),by omega,by omega,rfl,rfl,by rw[drop_eq_nil_of_le (length_take_le _ _)];rfl,by omega,rfl⟩
      case round=>
       obtain⟨j,u,x,hj,hx,rfl,rfl,hu,hg,rfl⟩:=hrel;have HU:=γ (θ hu hg)
       cases j with
       |zero=>
        obtain rfl:x= -1:=(by omega);have hub:=HB.o 0 (by omega);rw[<-hu]at hub;rw[drop_zero]at hu;have HU2:=γ hu;clear hu hx hg;by_cases hodd:u%2=1
        ·have o1:(((u:Int)%2)==1)=true:=beq_iff_eq.2 (by omega)
         have Si:=γ (KG hodd);clear hodd;go_wp2
         go_ret3
         rw[T.o,<-HU2.o,Si.o];exact⟨rfl,rfl⟩
        ·have o1:(((u:Int)%2)==1)=false:=beq_eq_false_iff_ne.2 (by omega)
         have Si:=γ (Il hodd);clear hodd;go_wp2
         go_ret3
         rw[T.o,<-HU2.o,Si.o];exact⟨rfl,rfl⟩
       |succ i=>
        obtain rfl:x=(i:Int):=(by omega);have hsi:i<s.size:=(by omega);have hil:i<(s.data.toList.take (k+1)).length:=(by rw[υ,lF.o];omega);have hst:=Qw hil;have hget:(s.data.toList.take (k+1))[i]=s[i]'hsi:=(by rw[getElem_take];rfl);rw[hget,<-hu]at hst;have hb:=HB.o i (by omega);rw[hst]at hb;obtain⟨d,hd⟩:=acu ((s[i]'hsi).toNat%128);rw[hd]at hst hb;have hdi:((s[i]'hsi).toNat:Int)%128=(d:Int):=(by omega);have agx:d<128:=(by omega);have HS:=γ hst;clear hst hd hget hu hx hg hil;go_wp2;go_roundg i
        case rel=>exact⟨i,128*u+d,(i:Int)-1,by omega,rfl,rfl,by go_num,by rw[HS.o];omega,ξ _,rfl⟩
        case measure=>have:=HU.o.2;omega
def qH {α:Type}(w:World)(X:Nat):Rd α->Prop
 | .ok _ r=> ∃s:ByteArray,w.heap[X]?=some (.cells #[.string s,.int .i64 0] 118 (0,0))/\s.data.toList=r/\s.size<=maxLen
 | .err f=>f≠0/\ ∃s:ByteArray,w.heap[X]?=some (.cells #[.string s,.int .i64 f] 118 (0,0))
theorem qH.kept {α:Type}{w w':World}{X:Nat}{x:Rd α}{Q:Nat->Prop}(h:qH w X x)(hk:ε Q w w')(hX: ¬Q X):qH w' X x:=by
 cases x with
 |ok a r=>obtain⟨s,h2,h3⟩:=h;exact⟨s,hk.heap h2 hX,h3⟩
 |err f=>obtain⟨h0,s,h2⟩:=h;exact⟨h0,s,hk.heap h2 hX⟩
theorem qH.lt {α:Type}{w:World}{X:Nat}{x:Rd α}(h:qH w X x):X<w.heap.size:=by
 cases x with
 |ok a r=>obtain⟨s,h2,h3⟩:=h;exact lt_of_block h2
 |err f=>obtain⟨h0,s,h2⟩:=h;exact lt_of_block h2
theorem qH.same {α β:Type}{w:World}{X:Nat}{x:Rd α}{y:Rd β}(h:qH w X x)(hok: ∀a r,x= .ok a r-> ∃b,y= .ok b r)(herr: ∀f,x= .err f->y= .err f):qH w X y:=by
 cases x with
 |ok a r=>obtain⟨b,rfl⟩:=hok a r rfl;exact h
 |err f=>rw[herr f rfl];exact h
theorem dP {w:World}{b:Nat}{a u:Value}{E:TypeId}(h:w.heap[b]?=some (.cells #[a,u] E (0,0))):w.cell? ⟨b,0,none⟩=some a/\w.cell? ⟨b,1,none⟩=some u/\w.frozen? ⟨b,0,none⟩=false/\w.frozen? ⟨b,1,none⟩=false:=by refine⟨?_,?_,?_,?_⟩<;>simp[World.cell?,World.frozen?,h]
theorem adx {w:World}{b:Nat}{a u v:Value}{E:TypeId}(h:w.heap[b]?=some (.cells #[a,u] E (0,0))):(w.setCell ⟨b,0,none⟩ v).heap[b]?=some (.cells #[v,u] E (0,0)):=by have hlt:=lt_of_block h;have h':w.heap[b]= .cells #[a,u] E (0,0):=(by simpa[Array.getElem?_eq_getElem hlt]using h);show(w.heap.modify b _)[b]?=_;rw[Array.getElem?_eq_getElem (by simpa using hlt),Array.getElem_modify_self,h'];rfl
theorem uO {w:World}{b:Nat}{a u v:Value}{E:TypeId}(h:w.heap[b]?=some (.cells #[a,u] E (0,0))):(w.setCell ⟨b,1,none⟩ v).heap[b]?=some (.cells #[a,v] E (0,0)):=(mY h).2.2.2 v
theorem Uu {l:List UInt8}{n:Int}{z:Nat}(h:tk l=(n,z,0)):num bC hi64 l= .ok n (l.drop z):=by unfold num;have h4:=(ace h).2.2.2;rw[h];simp only[ne_eq,not_true,if_false];rw[if_neg (by have:=h4.in;omega)]
theorem IU {lo hi:Int}{l:List UInt8}{n:Int}{z:Nat}{f:Int}(h:tk l=(n,z,f))(hf:f≠0):num lo hi l= .err f:=by unfold num;rw[h,if_pos hf]
theorem ads {l:List UInt8}{n:Int}{z:Nat}{f:Int}(h:tk l=(n,z,f))(hf:f≠0):n=0/\z=0:=by
 have h0:(gY 0 0 l).2.2=f:=(by unfold tk at h;rw[h]);have h1:=Gf l 0 0 (by rw[h0];exact hf);unfold tk at h;rw[h]at h1
 injection h1 with h1 h2
 injection h2 with h2 h3
 exact⟨h1,h2⟩
def DY {α:Type}(w:World)(X:Nat)(x:Rd α)(e:Ending)(w':World):Prop:=
 e= .returned (.int .i64 (dQ 0 (numAt bC hi64 x)))/\qH w' X (numAt bC hi64 x)/\ε (one X) w w'
theorem vM {α:Type}(X:Nat)(x:Rd α)(w:World)(h:qH w X x):Calls prog 54 #[.pointer (some ⟨X,0,none⟩)] w (DY w X x):=by
 cases x with
 |err f=>obtain⟨h0,s,h1⟩:=h;obtain⟨c0,c1,f0,f1⟩:=dP h1;have F:DY (α:=α) w X (.err f) (.returned (.int .i64 0)) w:=⟨rfl,⟨h0,s,h1⟩,ε.refl _ _⟩;have FF:=γ F;have hf:(f !=0)=true:=bne_iff_ne.2 h0;clear F h0 h1;go_enter func54,ntmps54;go_wp2;go_ret;exact FF.o
 |ok a r=>
  obtain⟨s,h1,rfl,h3⟩:=h;obtain⟨c0,c1,f0,f1⟩:=dP h1;have hX:=lt_of_block h1;have hb:=Yp s h3;obtain⟨x,hx⟩:=acu (tk s.data.toList);rw[hx]at hb;obtain⟨n,z,f⟩:=x;have hz:z<=s.size:=(by have:=Yb s.data.toList;rw[hx]at this;exact this);have hzi: ¬(s.size:Int)<(z:Int):=(by omega);have F:acr (DY w X (.ok a s.data.toList) (.returned (.int .i64 n)) ((w.setCell ⟨X,1,none⟩ (.int .i64 f)).setCell ⟨X,0,none⟩ (.string (s.extract z s.size)))):=by
   show DY _ _ _ _ _;have hh:=adx (v:= .string (s.extract z s.size)) (uO (v:= .int .i64 f) h1);have hk:ε (one X) w ((w.setCell ⟨X,1,none⟩ (.int .i64 f)).setCell ⟨X,0,none⟩ (.string (s.extract z s.size))):=((ε.refl (one X) w).setCell (p:=⟨X,1,none⟩) (.inl rfl) _).setCell (p:=⟨X,0,none⟩) (.inl rfl) _;unfold DY;by_cases hf:f=0
   ·subst hf
    have e:numAt bC hi64 (Rd.ok a s.data.toList)= .ok n (s.data.toList.drop z):=Uu hx;rw[e];exact⟨rfl,⟨_,hh,Lib.extract_to_end s z,by simp;omega⟩,hk⟩
   ·have e:numAt bC hi64 (Rd.ok a s.data.toList)= .err f:=IU hx hf
    rw[e];obtain⟨rfl,rfl⟩:=ads hx hf;exact⟨rfl,⟨hf,_,hh⟩,hk⟩
  have HB:=γ hb;clear hx h1 h3 hb;go_enter func54,ntmps54;go_wp2_with fail;refine(HB.o _).mono ?_;rintro e w1 ⟨rfl,rfl⟩;go_wp2;go_ret;exact F.o
theorem aa9 {α:Type}(most:Int)(x:Rd α):numAt 0 most x=match numAt bC hi64 x with
 | .ok n r=>if n<0\/most<n then .err 21 else .ok n r
 | .err f=> .err f:=by
 cases x with
 |err f=>rfl
 |ok a l=>
  show num 0 most l=match num bC hi64 l with| .ok n r=>_| .err f=>_
  obtain⟨y,hy⟩:=acu (tk l);obtain⟨n,z,f⟩:=y;by_cases hf:f=0
  ·subst hf
   rw[Uu hy];unfold num;rw[hy];simp
  ·rw[IU hy hf,IU hy hf]
def og {α:Type}(w:World)(X:Nat)(most:Int)(x:Rd α)(e:Ending)(w':World):Prop:=
 e= .returned (.int .i64 (dQ 0 (numAt 0 most x)))/\qH w' X (numAt 0 most x)/\ε (one X) w w'
theorem Gn {α:Type}(X:Nat)(most:Int)(x:Rd α)(w:World)(h:qH w X x):Calls prog 53 #[.pointer (some ⟨X,0,none⟩),.int .i64 most] w (og w X most x):=by
 have HN:=γ (vM X x w h);have HE:=γ (aa9 most x);clear h;go_enter func53,ntmps53;go_wp2_with fail;refine HN.o.mono ?_;rintro e w1 ⟨rfl,hst,k1⟩;have K1:=γ k1
 cases hx:numAt bC hi64 x with
 |err f=>rw[hx]at hst;have e2:numAt 0 most x= .err f:=(by rw[HE.o,hx]);have F:acr (og w X most x (.returned (.int .i64 0)) w1):=(by show og _ _ _ _ _ _;unfold og;rw[e2];exact⟨rfl,hst,k1⟩);obtain⟨hf0,s,hs⟩:=hst;obtain⟨c0,c1,f0,f1⟩:=dP hs;have hf1:(f==0)=false:=beq_eq_false_iff_ne.2 hf0;have hf2:(f !=0)=true:=bne_iff_ne.2 hf0;simp only[dQ];clear hx e2 hs hf0 k1;go_wp2;go_ret;exact F.o
 |ok n r=>
  rw[hx]at hst;obtain⟨s,hs,hr,hl⟩:=hst;obtain⟨c0,c1,f0,f1⟩:=dP hs;have hX:=lt_of_block hs;simp only[dQ];have ways:n<0\/(¬n<0/\most<n)\/(¬n<0/\ ¬most<n):=by omega
  rcases ways with g1|⟨g1,g2⟩|⟨g1,g2⟩
  ·have e2:numAt 0 most x= .err 21:=by rw[HE.o,hx];simp only;rw[if_pos (.inl g1)]
   have F:acr (og w X most x (.returned (.int .i64 0)) (w1.setCell ⟨X,1,none⟩ (.int .i64 21))):=(by show og _ _ _ _ _ _;unfold og;rw[e2];exact⟨rfl,⟨by decide,s,uO hs⟩,k1.trans ((ε.refl (one X) w1).setCell (p:=⟨X,1,none⟩) (.inl rfl) _)⟩);clear hx e2 hs hr hl k1;go_wp2;go_ret;exact F.o
  ·have e2:numAt 0 most x= .err 21:=by rw[HE.o,hx];simp only;rw[if_pos (.inr g2)]
   have F:acr (og w X most x (.returned (.int .i64 0)) (w1.setCell ⟨X,1,none⟩ (.int .i64 21))):=(by show og _ _ _ _ _ _;unfold og;rw[e2];exact⟨rfl,⟨by decide,s,uO hs⟩,k1.trans ((ε.refl (one X) w1).setCell (p:=⟨X,1,none⟩) (.inl rfl) _)⟩);clear hx e2 hs hr hl k1;go_wp2;go_ret;exact F.o
  ·have e2:numAt 0 most x= .ok n r:=by rw[HE.o,hx];simp only;rw[if_neg (by omega)]
   have F:acr (og w X most x (.returned (.int .i64 n)) w1):=(by show og _ _ _ _ _ _;unfold og;rw[e2];exact⟨rfl,⟨s,hs,hr,hl⟩,k1⟩);clear hx e2 hs hr hl k1;go_wp2;go_ret;exact F.o
theorem noneE {P:Prop}{k:Nat}(h:η k):P:=False.elim h
def gK (w:World)(l:List UInt8)(e:Ending)(w':World):Prop:=
 match nR l with
 | .ok T _=> ∃D,e= .returned (.tuple #[.pointer (some ⟨D,0,none⟩),.int .i64 0])/\RTabAt w' D T/\ε η w w'/\bP w' (fun q=>w.heap.size<=q) D T
 | .err f=>e= .returned (.tuple #[.pointer none,.int .i64 f])/\f≠0/\ε η w w'
theorem qH.VI {w:World}{X j:Nat}{x:Rd Int}(h:qH w X (numAt bC hi64 (bV j x))):qH w X (bV (j+1) x):=by
 rw[vN];refine h.same (fun a r e=>?_) (fun f e=>?_)
 ·cases h1:bV j x with
  |err f=>rw[h1]at e;cases e
  |ok ns r1=>rw[h1]at e;have e:num bC hi64 r1= .ok a r:=e;exact⟨ns++[a],by simp only[Rd.bind];rw[e]⟩
 ·cases h1:bV j x with
  |err f'=>
   rw[h1]at e;have e:Rd.err f'=Rd.err f:=e
   injection e with e
   rw[e];rfl
  |ok ns r1=>rw[h1]at e;have e:num bC hi64 r1= .err f:=e;simp only[Rd.bind];rw[e]
theorem adA {r:List UInt8}{x1 x2 x3:Rd Int}{M:Nat}(h1:numAt bC hi64 (Rd.ok () r)=x1)(h2:numAt bC hi64 x1=x2)(h3:numAt 0 16 x2=x3)(hM:dQ 0 x3=(M:Int)):
 (∀f,bV M x3= .err f->row r= .err f)/\(∀ns r4,bV M x3= .ok ns r4->row r= .ok (dQ 0 x1,(dQ 0 x2,ns)) r4):=by
 have h:=row_of h1 h2 h3 hM;refine⟨h.1,fun ns r4 h4=>?_⟩;rw[h.2 ns r4 h4]
 cases x1 with
 |err f1=>have e2:x2= .err f1:=(by rw[<-h2];rfl);subst e2;have e3:x3= .err f1:=(by rw[<-h3];rfl);subst e3;cases h4
 |ok key r1=>
  cases x2 with
  |err f2=>have e3:x3= .err f2:=(by rw[<-h3];rfl);subst e3;cases h4
  |ok acc r2=>rfl
structure yT (wr:World)(D:Nat)(T:Tab)(v:Value)(nv:Nat)(cs:List Value):Prop where
 obj:wr.heap[D]?=some (.cells #[v] 103 (0,0))
 rows:wr.ownsRow (D+1) 122 3 v nv cs
 rr:cu wr cs T
 sep: ∀(i:Nat)(lv:Value),cs[i*3+2]?=some lv-> ∀k,Value.blk lv=some k->D<k/\k<wr.heap.size/\v.ownBlock≠some k
 ok:fC T
theorem yT.kept {wr w':World}{D:Nat}{T:Tab}{v:Value}{nv:Nat}{cs:List Value}{S:Nat->Prop}(h:yT wr D T v nv cs)(hk:ε S wr w')(hS: ∀k,S k->k<D\/wr.heap.size<=k):yT w' D T v nv cs:=by
 have hD:=lt_of_block h.obj;refine⟨hk.heap h.obj (fun hs=>by have:=hS D hs;omega),hk.owns h.rows (fun k hv hs=>?_),⟨h.rr.1,fun i p hp=>?_⟩,fun i lv hi k hb=>?_,h.ok⟩
 ·have h1:=eY h.rows hv
  have:=hS k hs;omega
 ·obtain⟨a,b,lv,c,d⟩:=h.rr.2 i p hp
  refine⟨a,b,lv,c,d.kept hk (fun k hb hs=>?_)⟩;have h1:=h.sep i lv c k hb;have:=hS k hs;omega
 ·have h1:=h.sep i lv hi k hb
  exact⟨h1.1,Pe h1.2.1 hk.size,h1.2.2⟩
theorem yT.tab {wr:World}{D:Nat}{T:Tab}{v:Value}{nv:Nat}{cs:List Value}(h:yT wr D T v nv cs):RTabAt wr D T:=⟨⟨v,h.obj,cs,Reads.aN h.rows,h.rr⟩,h.ok⟩
theorem yT.agf {wr:World}{D n:Nat}{T:Tab}{v:Value}{nv:Nat}{cs:List Value}(h:yT wr D T v nv cs)(hn:n<=D):bP wr (fun q=>n<=q) D T:=
 ⟨h.ok,hn,v,cs,h.obj,Reads.aN h.rows,h.rr,fun b hb=>by have:=(eY h.rows (vw hb)).1;omega,fun i lv hl b hb=>by have:=(h.sep i lv hl b hb).1;omega⟩
def Zj (X C:Nat):Nat->Prop:=fun k=>k=X\/C<=k
structure Dt (W4 wr:World)(X C:Nat)(v2:Int)(x:Rd Int)(j:Nat)(lv:Value)(n:Nat)(L:List Int):Prop where
 st:qH wr X (bV j x)
 cell:wr.heap[C]?=some (.cells #[.int .i64 v2,lv] 109 (0,0))
 own:wr.ownsRow (C+1) 2 1 lv n (ints L)
 len:L.length=j
 val: ∀ns r,bV j x= .ok ns r->L=ns
 kept:ε (Zj X C) W4 wr
theorem Dt.step {W4 wr w3:World}{X C:Nat}{v2:Int}{x:Rd Int}{j n:Nat}{lv:Value}{L:List Int}{e:Ending}(h:Dt W4 wr X C v2 x j lv n L)
 (hX:X<C) (hj:j<16) (hq:DY wr.drew X (bV j x) e w3):
 ∃v7 n7 w7,(Builtin.append_ #[97,97] 97 #[lv,.slice (some ⟨w3.heap.size,0,none⟩) 1 1]).run prog (w3.alloc (.cells #[.int .i64 (dQ 0 (numAt bC hi64 (bV j x)))] 2))= .ok v7 w7/\
  ε (fun k=>k=X\/C<k) wr w3/\ε (fun k=>k=X\/C<k) wr w7/\w7.cell? ⟨C,1,none⟩=some lv/\w7.frozen? ⟨C,1,none⟩=false/\(∃a c,v7= .slice a n7 c)/\
  Dt W4 (w7.setCell ⟨C,1,none⟩ v7) X C v2 x (j+1) v7 n7 (L++[dQ 0 (numAt bC hi64 (bV j x))]):=by
 have hCl:=lt_of_block h.cell;have dN:ε (one X) wr w3:=hq.2.2.aW;have k3:ε (fun k=>k=X\/C<k) wr w3:=dN.mono (fun k _ hk=> .inl hk)
 have hnS: ¬(C=X\/C<C):=fun h=>by rcases h with h|h<;>omega
 have hown3:w3.ownsRow (C+1) 2 1 lv n (ints L):=dN.owns h.own (fun k hk hs=>by have:=(eY h.own hk).1;unfold one at hs;omega);have kA:ε η w3 (w3.alloc (.cells #[.int .i64 (dQ 0 (numAt bC hi64 (bV j x)))] 2)):=δ.alloc _;obtain⟨vv,hvv⟩:=acu (dQ 0 (numAt bC hi64 (bV j x)));have hval: ∀n r,numAt bC hi64 (bV j x)= .ok n r->vv=n:=fun n r hn=>(by rw[<-hvv,hn];rfl);rw[hvv]at kA⊢;clear hvv;have hn:n=L.length:=(by have:=hown3.1;simp[ints]at this;omega);have hl:=h.len;obtain⟨i2,hi2,hz2,hs2,hb2⟩:=info_parts Tryz.info2;obtain⟨v7,n7,w7,b1,b2,b3,b4,b5⟩:=aZ (P:=prog) (C+1) 97 97 2 i2 (.int .i64 0) 1 8 underlying97 hi2 hz2 hs2 hb2 rfl (by omega) (kA.owns hown3 (fun _ _ h=>h)) (Reads.lit w3 [.int .i64 vv] 2 1 1 rfl (by unfold maxLen;omega)) (nM [vv]) (by simp;omega) (by unfold maxLen;simp;omega) (by have:=k3.size;simp;omega);have k37:ε (fun k=>C<k) w3 w7:=kA.pure.trans (ε.grown b4 (fun g hg _=>by have:=(eY (kA.owns hown3 (fun _ _ h=>h)) hg).1;omega));have k7:ε (fun k=>k=X\/C<k) wr w7:=k3.trans (k37.mono (fun k _ hk=> .inr hk));have c7:=mY (k7.heap h.cell hnS);have k8:ε (one C) w7 (w7.setCell ⟨C,1,none⟩ v7):=(ε.refl (one C) w7).setCell (p:=⟨C,1,none⟩) (.inl rfl) _;refine⟨v7,n7,w7,b1,k3,k7,c7.2.1,c7.2.2.1,au b2,⟨?_,c7.2.2.2 v7,?_,?_,?_,?_⟩⟩
 ·refine qH.VI ?_
  exact((hq.2.1.kept k37 (fun h=>by omega)).kept k8 (fun h=>by unfold one at h;omega))
 ·refine k8.owns ?_ (fun k hk e=>by have:=(eY b2 hk).1;unfold one at e;omega)
  unfold ints at b2⊢;rw[aay];exact b2
 ·rw[ν,hl];rfl
 ·intro ns r hnr
  rw[vN]at hnr
  cases h1:bV j x with
  |err f=>rw[h1]at hnr;cases hnr
  |ok ms r1=>
   rw[h1]at hnr;simp only[Rd.bind]at hnr
   cases h2:num bC hi64 r1 with
   |err f=>rw[h2]at hnr;cases hnr
   |ok q r2=>
    rw[h2]at hnr
    injection hnr with h3 h4
    rw[<-h3,h.val ms r1 h1,hval q r2 (by rw[h1];exact h2)]
 ·exact(h.kept.trans (k7.mono (fun k _ hk=>by rcases hk with h|h;exact .inl h;exact .inr (by omega)))).trans (k8.mono (fun k _ hk=> .inr (by unfold one at hk;omega)))
theorem yT.push {wr:World}{D C:Nat}{T:Tab}{v:Value}{nv:Nat}{cs:List Value}(h:yT wr D T v nv cs){key acc:Int}{lv:Value}{L:List Int}(hlv:Reads wr 1 lv (ints L))(hb: ∀k,Value.blk lv=some k->C<k)
 (G8: ∀k,v.ownBlock=some k->k<C) (hDC:D<C) (h1:aJ key) (h2:KO (acc,L)) (hm:iG T key=true) (hone:lv.oneCell'=true):
 ∃v' n' w',(Builtin.append_ #[101,101] 101 #[v,.slice (some ⟨wr.heap.size,0,none⟩) 1 1]).run prog (wr.alloc (.cells #[.int .i64 key,.int .i64 acc,lv] 122))= .ok v' w'/\(∃a c,v'= .slice a n' c)/\
  ε (fun k=>v.ownBlock=some k) wr w'/\w'.heap[D]?=some (.cells #[v] 103 (0,0))/\yT (w'.setCell ⟨D,0,none⟩ v') D (T++[(key,(acc,L))]) v' n' (cs++[.int .i64 key,.int .i64 acc,lv]):=by
 have hD:=lt_of_block h.obj;have kA:ε η wr (wr.alloc (.cells #[.int .i64 key,.int .i64 acc,lv] 122)):=δ.alloc _;have hown:=kA.owns h.rows (fun _ _ h=>h);have hcl:=h.rr.1;have hTl:=h.ok.len;obtain⟨i,z,hi,hz,hs,hby,hzs⟩:=Tryz.info122;have hn:=hown.1;have acH: ∀x∈[Value.int .i64 key,.int .i64 acc,lv],x.oneCell'=true:=by
  intro x hx;simp only[aci,not_mem_nil,or_false]at hx
  rcases hx with rfl|rfl|rfl
  ·rfl
  ·rfl
  ·exact hone
 obtain⟨v',n',w',g1,g2,g3,g4,g5⟩:=aZ (P:=prog) (D+1) 101 101 122 i z 3 40 underlying101 hi hz hs hby hzs (by omega) hown (Reads.lit wr [.int .i64 key,.int .i64 acc,lv] 122 3 1 rfl (by unfold maxLen;omega)) acH (by simp only[φ,Γ];omega) (by unfold maxLen;simp only[φ,Γ];omega) (ω (by omega) kA.size)
 have hw:=uw (P:=prog) (D+1) 101 101 122 i z 3 40 underlying101 hi hz hs hby v nv cs hown ⟨wr.heap.size,0,none⟩ 1 1 [.int .i64 key,.int .i64 acc,lv] rfl (fun j x hj=>by
  match j,hj with
  |0,hj=>simp at hj;subst hj;rw[Addr.add_lit];simp
  |1,hj=>simp at hj;subst hj;rw[Addr.add_lit];simp
  |2,hj=>simp at hj;subst hj;rw[Addr.add_lit];simp) acH (by omega) (by unfold maxLen;omega) (by omega) g1
 have k7:ε (fun k=>v.ownBlock=some k) wr w':=kA.pure.trans (ε.grown g4 (fun k hk _=>hk));have kD:ε (fun k=>D<k) wr w':=k7.mono (fun k _ hk=>by have:=(eY h.rows hk).1;omega);have eU:w'.heap[D]?=some (.cells #[v] 103 (0,0)):=kD.heap h.obj (fun hh=>by omega);have k8:ε (one D) w' (w'.setCell ⟨D,0,none⟩ v'):=(ε.refl (one D) w').setCell (p:=⟨D,0,none⟩) (.inl rfl) _;have hsz:wr.heap.size+1<=w'.heap.size:=(by have:=g4.size;simpa using this);have agu: ∀k,Value.blk lv=some k->k<wr.heap.size:=fun k hk=>by obtain⟨c,E,f,he⟩:=hlv.isCells (by omega) hk;exact(κ.1 he).1
 have keep: ∀(u:Value)(M:List Int),Reads wr 1 u (ints M)->(∀k,Value.blk u=some k->D<k/\v.ownBlock≠some k)->Reads (w'.setCell ⟨D,0,none⟩ v') 1 u (ints M):=fun u M hu hub=>
  (hu.kept k7 (fun k hk hs=>(hub k hk).2 hs)).kept k8 (fun k hk hs=>by have:=(hub k hk).1;unfold one at hs;omega)
 have abz: ∀k,Value.blk lv=some k->D<k/\v.ownBlock≠some k:=fun k hk=>⟨by have:=hb k hk;omega,fun e=>by have:=hb k hk;have:=G8 k e;omega⟩;refine⟨v',n',w',g1,au g2,k7,eU,⟨one_setCell eU,k8.owns g2 (fun k hk e=>by have:=(eY g2 hk).1;unfold one at e;omega),⟨by rw[ν,ν,hcl];simp;omega,fun j p hp=>?_⟩,fun j u hj k hk=>?_,h.ok.push h1 h2 hm⟩⟩
 ·by_cases hj:j<T.length
  ·rw[Ω hj]at hp
   obtain⟨a,b,u,c,d⟩:=h.rr.2 j p hp;refine⟨by rw[Ω (by omega)];exact a,by rw[Ω (by omega)];exact b,u,by rw[Ω (by omega)];exact c,keep u _ d (fun k hk=>?_)⟩;have h3:=h.sep j u c k hk;exact⟨h3.1,h3.2.2⟩
  ·have hjT:j=T.length:=by
    have:=(μ.1 hp).1;rw[ν,length_singleton]at this;omega
   subst hjT;rw[Ψ (ξ _),Nat.sub_self]at hp;simp only[aap,Option.some.injEq]at hp;subst hp;have e0:T.length*3-cs.length=0:=(by omega);have e1:T.length*3+1-cs.length=1:=(by omega);have e2:T.length*3+2-cs.length=2:=(by omega);exact⟨by rw[Ψ (by omega),e0];rfl,by rw[Ψ (by omega),e1];rfl,lv,by rw[Ψ (by omega),e2];rfl,keep lv L hlv abz⟩
 ·have hh:D<k/\k<wr.heap.size/\v.ownBlock≠some k:=by
   by_cases hj2:j*3+2<cs.length
   ·rw[Ω hj2]at hj
    exact h.sep j u hj k hk
   ·have hjc:j*3+2=cs.length+2:=by
     have:=(μ.1 hj).1;rw[ν]at this;simp only[φ,Γ]at this;omega
    rw[Ψ (by omega),hjc,Nat.add_sub_cancel_left]at hj;simp only[aat,aap,Option.some.injEq]at hj;subst hj;exact⟨(abz k hk).1,agu k hk,(abz k hk).2⟩
  refine⟨hh.1,by have:=k8.size;omega,fun e=>?_⟩
  rcases hw k e with h3|h3
  ·exact hh.2.2 h3
  ·rw[World.size_alloc]at h3;omega
end
section
open Go Go.RowKit
attribute [local irreducible] dI
structure afZ (w W:World)(nd:dG)(uid:ByteArray)(inv:Value)(p:Option Addr)(cap:Nat)(r:Rec):Prop where
 kept:ε η w W
 nB:W.heap[w.heap.size]?=some (.cells #[.string uid,.int .u8 nd.kind,inv,.int .u8 nd.x.op,.int .i64 nd.x.n,.slice p nd.x.args.length cap,.int .i64 nd.n] 42 (0,0))
 rB:W.heap[w.heap.size+1]?=some (.cells #[.int .i64 r.pos,.int .i64 r.key,.int .i64 r.val] 68 (0,0))
 eB:W.heap[w.heap.size+2]?=some (.cells #[.int .i64 r.key,.int .i64 r.val,.int .i64 0] 182 (0,0))
theorem PV (w:World)(nd:dG)(uid:ByteArray)(inv:Value)(p:Option Addr)(cap:Nat)(r:Rec):
 afZ w (((w.alloc (.cells #[.string uid,.int .u8 nd.kind,inv,.int .u8 nd.x.op,.int .i64 nd.x.n,.slice p nd.x.args.length cap,.int .i64 nd.n] 42)).alloc (.cells #[.int .i64 r.pos,.int .i64 r.key,.int .i64 r.val] 68)).alloc (.cells #[.int .i64 r.key,.int .i64 r.val,.int .i64 0] 182)) nd uid inv p cap r:=by
 refine⟨((δ.alloc _).alloc _).alloc _,?_,?_,?_⟩
 ·exact(((ε.refl η _).alloc _).alloc _).heap (heap_alloc_new w _) id
 ·have:=heap_alloc_new (w.alloc (.cells #[.string uid,.int .u8 nd.kind,inv,.int .u8 nd.x.op,.int .i64 nd.x.n,.slice p nd.x.args.length cap,.int .i64 nd.n] 42)) (.cells #[.int .i64 r.pos,.int .i64 r.key,.int .i64 r.val] 68)
  rw[World.size_alloc]at this;exact((ε.refl η _).alloc _).heap this id
 ·have:=heap_alloc_new ((w.alloc (.cells #[.string uid,.int .u8 nd.kind,inv,.int .u8 nd.x.op,.int .i64 nd.x.n,.slice p nd.x.args.length cap,.int .i64 nd.n] 42)).alloc (.cells #[.int .i64 r.pos,.int .i64 r.key,.int .i64 r.val] 68)) (.cells #[.int .i64 r.key,.int .i64 r.val,.int .i64 0] 182)
  rw[World.size_alloc,World.size_alloc]at this;exact this
theorem Ar (w:World){w0:World}(r:Rec)(hk:ε η w0 w):mG w0 [r] (.returned (.slice (some ⟨w.heap.size,0,none⟩) 1 1)) (w.alloc (.cells #[.int .i64 r.pos,.int .i64 r.key,.int .i64 r.val] 68)):=
 ⟨_,rfl,Reads.lit w [.int .i64 r.pos,.int .i64 r.key,.int .i64 r.val] 68 3 1 rfl (by unfold maxLen;omega),fun b hb=>by cases hb;exact hk.size,hk.alloc _⟩
theorem ZM (w:World){w0:World}(hk:ε η w0 w):mG w0 [] (.returned (.slice none 0 0)) w:=⟨_,rfl,Reads.nil _ _,(fun b (hb:(none:Option Nat)=some b)=>nomatch hb),hk⟩
theorem WH (r:Rec){i n:Nat}(h:i<n):(jk r n).take (i+1)=(jk r n).take i++[(⟨wrap64 (wrap64 (8*r.pos)+(i:Int)),r.key,wrap64 (r.val+(i:Int))⟩:Rec)]:=by
 rw[ψ]
 congr 1
 unfold jk;rw[aav,getElem?_range h];rfl
theorem Vy (nd:dG)(na:Array Value)(tv:Option Addr)(T:Tab)(r:Rec)(w:World)(hn:dR w na nd)(hr:bF r)(h6:nd.kind≠6)(h7:nd.kind≠7):
 Calls prog 118 #[.agg na,.pointer tv,.agg #[.int .i64 r.pos,.int .i64 r.key,.int .i64 r.val]] w (mG w (aG nd T r).1):=by
 obtain⟨uid,inv,p,cap,rfl,hx,hk0,hk1,hn1⟩:=hn;have hbx:=PV w nd uid inv p cap r;obtain⟨W0,hW0⟩:=acu (((w.alloc (.cells #[.string uid,.int .u8 nd.kind,inv,.int .u8 nd.x.op,.int .i64 nd.x.n,.slice p nd.x.args.length cap,.int .i64 nd.n] 42)).alloc (.cells #[.int .i64 r.pos,.int .i64 r.key,.int .i64 r.val] 68)).alloc (.cells #[.int .i64 r.key,.int .i64 r.val,.int .i64 0] 182));rw[hW0]at hbx;have HW:=γ hW0;have HB:=γ hbx;have HX:=γ hx;have he:iK (aH r):=⟨hr.key,hr.val,fF⟩;have HE:=γ he;obtain⟨⟨rp1,rp2⟩,⟨rk1,rk2⟩,⟨rv1,rv2⟩⟩:=(show aJ r.pos/\aJ r.key/\aJ r.val from⟨hr.pos,hr.key,hr.val⟩);have c1:=Ac nd.x _ (aH r) W0 (aF.pure hbx.kept hx) he;unfold fD aH at c1;dsimp only at c1;have n1:W0.cell? ⟨w.heap.size,1,none⟩=some (.int .u8 nd.kind):=ζ hbx.nB rfl;have n3:W0.cell? ⟨w.heap.size,3,none⟩=some (.int .u8 nd.x.op):=ζ hbx.nB rfl;have n4:W0.cell? ⟨w.heap.size,4,none⟩=some (.int .i64 nd.x.n):=ζ hbx.nB rfl;have n5:W0.cell? ⟨w.heap.size,5,none⟩=some (.slice p nd.x.args.length cap):=ζ hbx.nB rfl;have e0:W0.cell? ⟨w.heap.size+2,0,none⟩=some (.int .i64 r.key):=ζ hbx.eB rfl;have e1:W0.cell? ⟨w.heap.size+2,1,none⟩=some (.int .i64 r.val):=ζ hbx.eB rfl;have e2:W0.cell? ⟨w.heap.size+2,2,none⟩=some (.int .i64 0):=ζ hbx.eB rfl;clear hW0 hbx hx he hr;go_enter func118,ntmps118;go_wp2_with fail;rw[HW.o];clear HW;refine c1.mono ?_;clear c1;rintro e W1 ⟨rfl,k1⟩;have hi64:aJ (dF nd.x (aH r)):=wK HX.o HE.o;obtain⟨v,hv⟩:=acu (dF nd.x (aH r));have HV:=γ hv;rw[show(⟨r.key,r.val,0⟩:Env)=aH r from rfl,hv];rw[hv]at hi64;obtain⟨hv1,hv2⟩:=hi64;have rB:=k1.heap HB.o.rB id;have n1:=k1.cell (p:=⟨w.heap.size,1,none⟩) id n1;have r0:W1.cell? ⟨w.heap.size+1,0,none⟩=some (.int .i64 r.pos):=ζ rB rfl;have r1:W1.cell? ⟨w.heap.size+1,1,none⟩=some (.int .i64 r.key):=ζ rB rfl;have r2:W1.cell? ⟨w.heap.size+1,2,none⟩=some (.int .i64 r.val):=ζ rB rfl;have hsz:w.heap.size+1<W1.heap.size:=block_lt_of_cell r0;have K1:=γ (θ (HB.o.kept.trans k1) rB);by_cases h2:nd.kind=2
 ·have f2:=free_at rB 2
  have F:=γ (show mG w (aG nd T r).1 (.returned (.slice (some ⟨(W1.setCell ⟨w.heap.size+1,2,none⟩ (.int .i64 v)).heap.size,0,none⟩) 1 1)) ((W1.setCell ⟨w.heap.size+1,2,none⟩ (.int .i64 v)).alloc (.cells #[.int .i64 r.pos,.int .i64 r.key,.int .i64 v] 68))from by
   rw[show(aG nd T r).1=[{r with val:=v}] by unfold aG;rw[if_pos h2,HV.o]]
   exact Ar _ {r with val:=v} (K1.o.1.setCell (p:=⟨w.heap.size+1,2,none⟩) (.inr (by show w.heap.size<=w.heap.size+1;omega)) _))
  rw[h2]at n1⊢;clear rB k1 h6 h7 n3 n4 n5 e0 e1 e2;go_wp2;go_ret;simpa using F.o
 by_cases h5:nd.kind=5
 ·have f2:=free_at rB 1
  have F:=γ (show mG w (aG nd T r).1 (.returned (.slice (some ⟨(W1.setCell ⟨w.heap.size+1,1,none⟩ (.int .i64 v)).heap.size,0,none⟩) 1 1)) ((W1.setCell ⟨w.heap.size+1,1,none⟩ (.int .i64 v)).alloc (.cells #[.int .i64 r.pos,.int .i64 v,.int .i64 r.val] 68))from by
   rw[show(aG nd T r).1=[{r with key:=v}] by unfold aG;rw[if_neg h2,if_pos h5,HV.o]]
   exact Ar _ {r with key:=v} (K1.o.1.setCell (p:=⟨w.heap.size+1,1,none⟩) (.inr (by show w.heap.size<=w.heap.size+1;omega)) _))
  rw[h5]at n1⊢;clear rB k1 h6 h7 n3 n4 n5 e0 e1 e2 h2;go_wp2;go_ret;simpa using F.o
 by_cases h3:nd.kind=3
 ·have n3:=k1.cell (p:=⟨w.heap.size,3,none⟩) id n3
  have n4:=k1.cell (p:=⟨w.heap.size,4,none⟩) id n4;have n5:=k1.cell (p:=⟨w.heap.size,5,none⟩) id n5;have e0:=k1.cell (p:=⟨w.heap.size+2,0,none⟩) id e0;have e1:=k1.cell (p:=⟨w.heap.size+2,1,none⟩) id e1;have e2:=k1.cell (p:=⟨w.heap.size+2,2,none⟩) id e2;have c2:=YE nd.x _ (aH r) W1 (aF.pure K1.o.1 HX.o) HE.o;unfold fD aH at c2;dsimp only at c2;have HS:=γ (show(aG nd T r).1=if nZ nd.x (aH r)then[r]else[] by unfold aG;rw[if_neg h2,if_neg h5,if_pos h3]);rw[h3]at n1⊢;clear rB k1 h6 h7 h2 h5;go_wp2_with fail;refine c2.mono ?_;clear c2 n3 n4 n5 e0 e1 e2;rintro e W2 ⟨rfl,k2⟩;rw[show(⟨r.key,r.val,0⟩:Env)=aH r from rfl];have r0:=k2.cell (p:=⟨w.heap.size+1,0,none⟩) id r0;have r1:=k2.cell (p:=⟨w.heap.size+1,1,none⟩) id r1;have r2:=k2.cell (p:=⟨w.heap.size+1,2,none⟩) id r2;have hsz2:w.heap.size+1<W2.heap.size:=block_lt_of_cell r0;have K2:=γ (K1.o.1.trans k2);clear k2
  cases hb:nZ nd.x (aH r)with
  |true=>
   have F:=γ (show mG w (aG nd T r).1 (.returned (.slice (some ⟨W2.heap.size,0,none⟩) 1 1)) (W2.alloc (.cells #[.int .i64 r.pos,.int .i64 r.key,.int .i64 r.val] 68))from by
    rw[HS.o,hb,if_pos rfl];exact Ar _ r K2.o)
   clear hb;go_wp2;go_ret;exact F.o
  |false=>
   have F:=γ (show mG w (aG nd T r).1 (.returned (.slice none 0 0)) W2 from by
    rw[HS.o,hb,if_neg (by decide)];exact ZM _ K2.o)
   clear hb;go_wp2;go_ret;exact F.o
 by_cases h4:nd.kind=4
 ·have HS:=γ (show(aG nd T r).1=jk r (jP v) by unfold aG;rw[if_neg h2,if_neg h5,if_neg h3,if_pos h4,HV.o])
  obtain⟨N,hN⟩:=acu (jP v);have hN4:N<=4/\((N:Int)=min v 4\/(v<0/\N=0)):=(by rw[<-hN];unfold jP;omega);rw[hN]at HS;rw[h4]at n1⊢;clear rB k1 h6 h7 n3 n4 n5 e0 e1 e2 h2 h5 h3 hN;go_wp2;go_loopg [9,10] N (fun g vo vi wr=> ∃i:Nat,i<=N/\vi= .int .i64 (i:Int)/\N-i<=g/\wr.ownsRow W1.heap.size 68 3 vo i (recs ((jk r N).take i))/\ε η W1 wr)
  case atStart=>exact⟨0,by omega,rfl,by omega,World.ownsRow_nil _ _ _ _,ε.refl _ _⟩
  case round=>
   obtain⟨i,hiN,rfl,hg,hown,hkp⟩:=hrel;obtain⟨wo,rfl⟩: ∃wo:World,wo=wr:=⟨_,rfl⟩;obtain⟨oa,oc,rfl⟩:=au hown;have r0:=hkp.cell (p:=⟨w.heap.size+1,0,none⟩) id r0;have r1:=hkp.cell (p:=⟨w.heap.size+1,1,none⟩) id r1;have r2:=hkp.cell (p:=⟨w.heap.size+1,2,none⟩) id r2;have hszo:w.heap.size+1<wo.heap.size:=block_lt_of_cell r0;by_cases hlt:i<N
   ·have hi4:(i:Int)<4:=by omega
    have hiv:(i:Int)<v:=(by omega);have kA:ε η wo (wo.alloc (.cells #[.int .i64 (wrap64 (wrap64 (8*r.pos)+(i:Int))),.int .i64 r.key,.int .i64 (wrap64 (r.val+(i:Int)))] 68)):=δ.alloc _;have hr:=Reads.lit wo [.int .i64 (wrap64 (wrap64 (8*r.pos)+(i:Int))),.int .i64 r.key,.int .i64 (wrap64 (r.val+(i:Int)))] 68 3 1 rfl (by unfold maxLen;omega);obtain⟨v',n',w',b1,b2,b3,b4,-⟩:=pF (M:=[(⟨wrap64 (wrap64 (8*r.pos)+(i:Int)),r.key,wrap64 (r.val+(i:Int))⟩:Rec)]) (kA.owns hown (fun _ _ h=>h)) hr (by have:=hkp.size;have:=kA.size;omega) (by rw[υ,qF];simp;omega);have hn':n'=i+1:=(by rw[b3,υ,qF];simp;omega);subst hn';obtain⟨va,vc,rfl⟩:=au b2
    have F:=γ (θ (show w'.ownsRow W1.heap.size 68 3 (.slice va (i+1) vc) (i+1) (recs ((jk r N).take (i+1)))from by rw[WH r hlt];exact b2)
     ((hkp.trans kA).new (ε.grown (S:=fun q=>(Value.slice oa i oc).ownBlock=some q) b4 (fun k hk _=>hk)) (fun q hq hs=>by have:=(hown.lt q hs).1;omega)))
    have B1:=γ b1;have HG:=γ hg;clear b1 b2 b3 b4 hr kA hown hkp hg;go_wp2_with (at_builtin;refine wpList_append_run rfl (.tmp 54) (.tmp 67) 60 rfl (.slice oa i oc) (.slice (some ⟨wo.heap.size,0,none⟩) 1 1) _ rfl rfl B1.o ?_);go_roundg (N-(i+1))
    case rel=>exact⟨i+1,by omega,by go_num,ξ _,F.o⟩
    case measure=>have:=HG.o;omega
   ·obtain rfl:i=N:=by omega
    have hc: ¬((i:Int)<4/\(i:Int)<v):=by omega
    have F:=γ (show mG w (aG nd T r).1 (.returned (.slice oa i oc)) wo from by
     rw[HS.o];rw[χ (by rw[qF];exact ξ _)]at hown
     exact⟨_,rfl,Reads.aN hown,fun b hb=>by have:=(hown.lt b (vw hb)).1;have:=K1.o.1.size;omega,K1.o.1.trans hkp⟩)
    clear hown hkp hg;by_cases hi4:(i:Int)<4
    ·have hiv: ¬(i:Int)<v:=fun h=>hc ⟨hi4,h⟩
     clear hc;go_wp2;go_ret;exact F.o
    ·clear hc
     go_wp2;go_ret;exact F.o
 have F:=γ (show mG w (aG nd T r).1 (.returned (.slice (some ⟨W1.heap.size,0,none⟩) 1 1)) (W1.alloc (.cells #[.int .i64 r.pos,.int .i64 r.key,.int .i64 r.val] 68))from by
  rw[show(aG nd T r).1=[r] by unfold aG;rw[if_neg h2,if_neg h5,if_neg h3,if_neg h4,if_neg h6,if_neg h7]]
  exact Ar _ r K1.o.1)
 have b2:(nd.kind==2)=false:=beq_eq_false_iff_ne.2 h2;have b3:(nd.kind==3)=false:=beq_eq_false_iff_ne.2 h3;have b4:(nd.kind==4)=false:=beq_eq_false_iff_ne.2 h4;have b5:(nd.kind==5)=false:=beq_eq_false_iff_ne.2 h5;have b6:(nd.kind==6)=false:=beq_eq_false_iff_ne.2 h6;have b7:(nd.kind==7)=false:=beq_eq_false_iff_ne.2 h7;clear rB k1 h6 h7 n3 n4 n5 e0 e1 e2 h2 h3 h4 h5;go_wp2;go_ret;exact F.o
end
section
open Go Go.RowKit
end
section
open Go Go.RowKit
attribute [local irreducible] dI H2.eX
theorem Vt (s:ByteArray)(hs:s.size<=maxLen)(w:World):Calls prog 16 #[.string s] w (gK w s.data.toList):=by
 go_enter func16,ntmps16;go_wp2_with fail;obtain⟨W0,hW0⟩:=acu ((w.alloc (.cells #[.string s,.int .i64 0] 118)).alloc (.cells #[.slice none 0 0] 103));have hst:qH W0 w.heap.size (Rd.ok () s.data.toList):=(by rw[<-hW0];refine⟨s,?_,rfl,hs⟩;rw[Below.heap_alloc _ _ _ (by simp)];exact heap_alloc_new _ _);have hdd:yT W0 (w.heap.size+1) [] (.slice none 0 0) 0 []:=(by refine⟨?_,World.ownsRow_nil _ _ _ _,cu.nil _,fun i lv h=>by simp at h,fC.nil⟩;rw[<-hW0];have:=heap_alloc_new (w.alloc (.cells #[.string s,.int .i64 0] 118)) (.cells #[.slice none 0 0] 103);rwa[World.size_alloc]at this);have k0:ε η w W0:=(by rw[<-hW0];exact(δ.alloc _).alloc _);have hs0:W0.heap.size=w.heap.size+2:=(by rw[<-hW0];simp);rw[hW0];clear hW0;obtain⟨X,hX⟩:=acu w.heap.size;obtain⟨D,hD⟩:=acu (X+1);rw[hX]at hst hdd hs0⊢;rw[hD]at hdd⊢;have rG:=γ (show w.heap.size<=X/\X<D from⟨by omega,by omega⟩);have J0:=γ (θ hst (θ hdd k0));clear hst hdd k0 hs0 hX hD;refine(Gn X 320 (Rd.ok () s.data.toList) W0 J0.o.1).mono ?_;rintro e W2 hq;have k2:=hq.2.2;have J1:=γ (θ hq.2.1 (θ (J0.o.2.1.kept k2 (fun k hk=> .inl (by have:=rG.o;unfold one at hk;omega))) (J0.o.2.2.new k2 (fun i hi e=>by have:=rG.o;unfold one at e;omega))));obtain⟨rfl,_,_⟩:=hq;clear J0 k2
 cases hx:numAt 0 320 (Rd.ok () s.data.toList)with
 |err f=>
  rw[hx]at J1;have hT:nR s.data.toList= .err f:=(by have hx':num 0 320 s.data.toList= .err f:=hx;unfold nR;rw[hx'];rfl);obtain⟨hf,s4,hs4⟩:=J1.o.1;have F:acr (gK w s.data.toList (.returned (.tuple #[.pointer none,.int .i64 f])) W2.drew):=(by show gK _ _ _ _;unfold gK;rw[hT];exact⟨rfl,hf,J1.o.2.2.drew⟩);have hf1:(f==0)=false:=beq_eq_false_iff_ne.2 hf;have hf2:(f !=0)=true:=bne_iff_ne.2 hf;have c0:=(dP hs4).2.1;simp only[dQ];clear hx hT hf hs4;go_wp2;go_loopg [7] 1 (fun g vi wr=>vi= .int .i64 0/\wr=W2)
  case atStart=>exact⟨rfl,rfl⟩
  case round=>
   obtain⟨rfl,rfl⟩:=hrel;go_wp2;refine ak [0,1,2,3,4,5] (fun W=>ε η wr W) (by kernel_rfl) (by kernel_rfl) rfl (ε.refl η wr).drew ?_;simp only[aco];iterate 6 (apply aj rfl rfl;(intro W hW;have z0:=hW.cell id c0;go_simp;rfl);go_frame)
   refine aA (fun _=>(ε.refl η wr).drew) ?_;go_wp2;go_ret2;exact F.o
 |ok n0 r0=>
  rw[hx]at J1;have hnb:=vO (x:=Rd.ok () s.data.toList) (lo:=0) (hi:=320) (by decide);rw[hx]at hnb;simp only[dQ]at hnb⊢;obtain⟨N,rfl⟩:=Int.eq_ofNat_of_zero_le hnb.1;have hN:N<=320:=(by omega);have hT:nR s.data.toList=(fA N [] r0).bind fun T r=>if r=[]then .ok T []else .err 21:=(by have hx':num 0 320 s.data.toList= .ok (N:Int) r0:=hx;unfold nR;rw[hx'];rfl);have HT:=γ hT;clear hx hnb hT;go_wp2;go_loopg [7] 320 (fun g vi wr=> ∃(k:Nat)(T:Tab)(r:List UInt8)(v:Value)(nv:Nat)(cs:List Value),k<=N/\vi= .int .i64 (k:Int)/\T.length=k/\qH wr X (Rd.ok () r)/\yT wr D T v nv cs/\ε η w wr/\fA N [] r0=fA (N-k) T r/\N-k<=g)
  case atStart=>exact⟨0,[],r0,_,_,_,by omega,rfl,rfl,J1.o.1,J1.o.2.1,J1.o.2.2,rfl,by omega⟩
  case round=>
   obtain⟨k,T,r,v,nv,cs,hk,rfl,hTl,hst,hdd,hkp,hrr,hg⟩:=hrel;obtain⟨va,dK,rfl⟩:=au hdd.rows;have HI:=γ (θ hst (θ hdd (θ hkp (θ hrr (θ hg hTl)))));clear hst hdd hkp hrr hg hTl;by_cases hlt:k<N
   ·go_wp2_with fail
    refine(vM X (Rd.ok () r) wr HI.o.1).mono ?_;rintro e W3 hq;have k3:=hq.2.2;have I3:=γ (θ hq.2.1 (θ (HI.o.2.1.kept k3 (fun k hk=> .inl (by have:=rG.o;unfold one at hk;omega))) (HI.o.2.2.1.new k3 (fun i hi e=>by have:=rG.o;unfold one at e;omega))));obtain⟨rfl,_,_⟩:=hq;obtain⟨x1,hx1⟩:=acu (numAt bC hi64 (Rd.ok () r));rw[hx1]at I3⊢;obtain⟨v1,hv1⟩:=acu (dQ 0 x1);rw[hv1];have X1:=γ (θ hx1 hv1);clear hx1 hv1 k3;go_wp2_with fail;refine(vM X x1 W3 I3.o.1).mono ?_;rintro e W4 hq;have k4:=hq.2.2;have I4:=γ (θ hq.2.1 (θ (I3.o.2.1.kept k4 (fun k hk=> .inl (by have:=rG.o;unfold one at hk;omega))) (I3.o.2.2.new k4 (fun i hi e=>by have:=rG.o;unfold one at e;omega))));obtain⟨rfl,_,_⟩:=hq;obtain⟨x2,hx2⟩:=acu (numAt bC hi64 x1);rw[hx2]at I4⊢;obtain⟨v2,hv2⟩:=acu (dQ 0 x2);rw[hv2];have X2:=γ (θ hx2 hv2);clear hx2 hv2 I3 k4;go_wp2_with fail;obtain⟨C,hC⟩:=acu W4.heap.size;obtain⟨W5,oI⟩:=acu (W4.alloc (.cells #[.int .i64 v2,.slice none 0 0] 109));have k5:ε η W4 W5:=(by rw[<-oI];exact δ.alloc _);have hcb:W5.heap[C]?=some (.cells #[.int .i64 v2,.slice none 0 0] 109 (0,0)):=(by rw[<-oI,<-hC];exact heap_alloc_new _ _);have hs5:W5.heap.size=C+1:=(by rw[<-oI,<-hC];simp);have hXC:X<C:=(by rw[<-hC];exact I4.o.1.lt);have hDC:D<C:=(by rw[<-hC];exact lt_of_block I4.o.2.1.obj);have hwC:w.heap.size<=C:=(by rw[<-hC];exact I4.o.2.2.size);have hown4: ∀g,(Value.slice va nv dK).ownBlock=some g->g<C:=fun g hg=>(by rw[<-hC];exact(eY I4.o.2.1.rows hg).2);rw[oI,hC];have I5:=γ (θ (I4.o.1.kept k5 id) (θ I4.o.2.1 (θ I4.o.2.2 (θ hcb (θ hs5 (θ k5 hC))))));clear k5 hcb hs5 oI I4;refine(Gn X 16 x2 W5 I5.o.1).mono ?_;rintro e W6 hq;have k6:=hq.2.2;have I6:=γ (θ hq.2.1 (θ (k6.heap I5.o.2.2.2.1 (fun h=>by unfold one at h;omega)) ((show ε (Zj X C) W4 W5 from I5.o.2.2.2.2.2.1.pure).trans (k6.mono (fun k _ hk=> .inl hk)))));obtain⟨rfl,_,_⟩:=hq;obtain⟨x3,hx3⟩:=acu (numAt 0 16 x2);have hr3:=vO (x:=x2) (lo:=0) (hi:=16) (by decide);rw[hx3]at I6 hr3⊢;obtain⟨M,hM⟩: ∃M:Nat,dQ 0 x3=(M:Int):=⟨(dQ 0 x3).toNat,by omega⟩;rw[hM]at hr3⊢;have aiN:M<=16:=(by omega);have X3:=γ (θ hx3 hM);clear hr3 hx3 hM k6 hC;go_wp2_with fail;have hc0:Dt W4 W6 X C v2 x3 0 (.slice none 0 0) 0 []:=by
     refine⟨?_,I6.o.2.1,World.ownsRow_nil _ _ _ _,rfl,fun ns r h=>?_,I6.o.2.2⟩
     ·exact I6.o.1.same (fun a r h=>⟨[],by rw[h];rfl⟩) (fun f h=>by rw[h];rfl)
     ·cases x3 with
      |err f=>cases h
      |ok a r'=>injection h with h1 h2
    have HC0:=γ hc0;clear hc0 I6;go_loopg [11] 16 (fun g vj wr2=> ∃(j n:Nat)(lv:Value)(L:List Int),j<=M/\vj= .int .i64 (j:Int)/\Dt W4 wr2 X C v2 x3 j lv n L/\M-j<=g)
    case atStart=>exact⟨0,0,_,[],by omega,rfl,HC0.o,by omega⟩
    case round=>
     obtain⟨j,n,lv,L,hj,rfl,hi,hg⟩:=hrel;have HI2:=γ (θ hi hg);clear hi hg;by_cases hjl:j<M
     ·have c1:=(mY HI2.o.1.cell).2.1
      obtain⟨la,lc,rfl⟩:=au HI2.o.1.own;have KD:=γ (show ε (fun k=>k=X\/C<k) wr wr.drew from δ.drew);go_wp2;refine ak [0,1,2,3,4,5,6,7] (fun W=>ε (fun k=>k=X\/C<k) wr W) (by kernel_rfl) (by kernel_rfl) rfl KD.o ?_;simp only[aco]
      have hnC: ¬(C=X\/C<C):=fun h=>by rcases h with h|h<;>omega
      iterate 3 (apply aj rfl rfl;(intro W hW;have z1:=hW.cell (p:=⟨C,1,none⟩) hnC c1;go_simp;rfl);go_frame)
      apply ay rfl rfl;intro K hK;go_wp2_with fail;refine(vM X (bV j x3) wr.drew (HI2.o.1.st.kept (ε.refl η wr).drew id)).mono ?_;rintro e W7 hq;obtain⟨v7,n7,w7,f1,f2,f3,f4,f5,⟨a7,c7,rfl⟩,f6⟩:=HI2.o.1.step hXC (by omega) hq;obtain⟨rfl,_,_⟩:=hq;obtain⟨vv,hvv⟩:=acu (dQ 0 (numAt bC hi64 (bV j x3)));rw[hvv]at f1 f6⊢;have F6:=γ f6;have F1:=γ f1;clear f6 f1 hvv;go_wp2;refine hK _ _ (fun _=>f2) ?_;clear hK;apply ay rfl rfl;intro K hK;go_wp2;refine hK _ _ (fun _=>f2.alloc _) ?_;clear hK;apply ay rfl rfl;intro K hK;refine wp_append_run (.tmp 37) (.tmp 40) 97 rfl (.slice la n lc) (.slice (some ⟨W7.heap.size,0,none⟩) 1 1) _ rfl rfl F1.o ?_;refine hK _ _ (fun _=>f3) ?_;clear hK;apply aj rfl rfl
      ·intro W hW;go_simp;rfl
      go_frame;apply ay rfl rfl;intro K hK;go_wp2;refine hK _ _ (fun h=>absurd rfl h) (jG (by kernel_rfl) ?_);clear hK;go_wp2;go_roundg (M-(j+1))
      case rel=>exact⟨j+1,n7,_,_,by omega,by go_num,F6.o,ξ _⟩
      case measure=>have:=HI2.o.2;omega
     ·have hjM:j=M:=by omega
      subst hjM;have KR:=γ (show ε η w wr from I5.o.2.2.1.new HI2.o.1.kept (fun i hi e=>by have:=rG.o;rcases e with e|e<;>omega));have DR:=γ (I5.o.2.1.kept HI2.o.1.kept (fun k hk=>by have:=rG.o;have:=I5.o.2.2.2.2.2.2;rcases hk with h|h;exact .inl (by omega);exact .inr (by omega)));have hro:=adA X1.o.1 X2.o.1 X3.o.1 X3.o.2;rw[X1.o.2,X2.o.2]at hro;have eN:N-k=(N-(k+1))+1:=by omega
      cases hx4:bV j x3 with
      |err f=>
       have hst:=HI2.o.1.st;rw[hx4]at hst;obtain⟨hf,s4,hs4⟩:=hst;have c0:=(dP hs4).2.1;have hf1:(f==0)=false:=beq_eq_false_iff_ne.2 hf;have hf2:(f !=0)=true:=bne_iff_ne.2 hf;have F:acr (gK w s.data.toList (.returned (.tuple #[.pointer none,.int .i64 f])) wr.drew):=(by show gK _ _ _ _;unfold gK;rw[HT.o,HI.o.2.2.2.1,eN,fA,hro.1 f hx4];exact⟨rfl,hf,KR.o.drew⟩);clear hs4 hf hro eN hx4;go_wp2;refine ak [0,1,2,3,4,5] (fun W=>ε η wr W) (by kernel_rfl) (by kernel_rfl) rfl (ε.refl η wr).drew ?_;simp only[aco];iterate 6 (apply aj rfl rfl;(intro W hW;have z0:=hW.cell id c0;go_simp;rfl);go_frame)
       refine aA (fun _=>(ε.refl η wr).drew) ?_;go_wp2;go_ret2;exact F.o
      |ok ns r4=>
       have hst:=HI2.o.1.st;rw[hx4]at hst;have c0:=(dP hst.choose_spec.1).2.1;have f0:=(dP hst.choose_spec.1).2.2.2;have hEl:=lt_of_block hst.choose_spec.1;have hrow:=hro.2 ns r4 hx4;have hL:=HI2.o.1.val ns r4 hx4;have RW:=γ (θ hst (θ hrow (θ hL eN)));have ab5:=γ (zD hrow).2.1;clear hro hx4 hst hrow hL eN;obtain⟨la,lc,hlv⟩:=au HI2.o.1.own;subst hlv;have xD:=cell_of_one DR.o.obj;have KJ:=γ HI.o.2.2.2.2.2;by_cases hkz:k=0
       ·have hk0: ¬(0:Int)<(k:Int):=by omega
        have HZ:=γ hkz;clear hkz;go_wp2_with fail;refine(jZ v1 ab5.o _).mono ?_;rintro e w' ⟨rfl,rfl⟩;go_wp2_with fail;refine(BQ D T (grp v1) _ (DR.o.kept (ε.refl η wr) (fun _ h=>noneE h)).tab).mono ?_;rintro e WM ⟨rfl,rfl⟩;have KB:=γ (show ε η wr wr from(ε.refl η wr));by_cases Ey:40<=aX T (grp v1)
        ·have FN:(40:Int)<=((aX T (grp v1):Nat):Int):=by omega
         have pz:=γ (show iG T v1=false from by rw[lu,decide_eq_false (by omega: ¬aX T (grp v1)<40),Bool.and_false]);have hb1:=KB.o.heap RW.o.1.choose_spec.1 id;have cb:=(dP hb1).2.1;have fb:=(dP hb1).2.2.2;have ZI:=lt_of_block hb1;have cb2:=(dP (uO (v:= .int .i64 21) hb1)).2.1;have F:acr (gK w s.data.toList (.returned (.tuple #[.pointer none,.int .i64 21])) (wr.setCell ⟨X,1,none⟩ (.int .i64 21)).drew):=(by show gK _ _ _ _;unfold gK;rw[HT.o,HI.o.2.2.2.1,RW.o.2.2.2,fA,RW.o.2.1];simp only[Rd.bind];rw[if_neg (by rw[pz.o];decide)];exact⟨rfl,by decide,((KR.o.trans KB.o).setCell (p:=⟨X,1,none⟩) (.inr (by have:=rG.o;show w.heap.size<=X;omega)) _).drew⟩);clear hb1;go_wp2_with fail;obtain⟨WW,qC⟩:=acu (wr.setCell ⟨X,1,none⟩ (.int .i64 21));rw[qC]at F cb2⊢;clear qC;refine ak [0,1,2,3,4,5] (fun W=>ε η WW W) (by kernel_rfl) (by kernel_rfl) rfl (ε.refl η WW).drew ?_;simp only[aco];iterate 6 (apply aj rfl rfl;(intro W hW;have z0:=hW.cell id cb2;go_simp;rfl);go_frame)
         refine aA (fun _=>(ε.refl η WW).drew) ?_;go_wp2;go_ret2;exact F.o
        ·have FN: ¬(40:Int)<=((aX T (grp v1):Nat):Int):=by omega
         have pz:=γ (show iG T v1=true from by rw[lu,decide_eq_true (by omega:aX T (grp v1)<40),Bool.and_true];exact by rw[KJ.o,decide_eq_true HZ.o];rfl);have hb1:=KB.o.heap RW.o.1.choose_spec.1 id;have cb:=(dP hb1).2.1;have DD:=(DR.o.kept KB.o (fun _ h=>noneE h)).kept (ε.refl η wr).drew (fun _ h=>noneE h);have hcm:=mY (KB.o.heap HI2.o.1.cell id);have y0:=hcm.1;have y1:=hcm.2.1;have x2:=cell_of_one (DR.o.kept KB.o (fun _ h=>noneE h)).obj;obtain⟨_,R1,R2⟩:=zD RW.o.2.1;have hlv:Reads wr.drew 1 (.slice la n lc) (ints ns):=(by have:=((Reads.aN HI2.o.1.own).pure KB.o).pure (ε.refl η wr).drew;rw[RW.o.2.2.1]at this;exact this);have G8: ∀g,(Value.slice va nv dK).ownBlock=some g->g<C:=fun g hg=>hown4 g hg;obtain⟨v9,n9,w9,p1,⟨a9,c9',rfl⟩,p3,p4,p5⟩:=DD.push (C:=C) hlv (fun g hg=>by have:=(oN HI2.o.1.own hg).1;omega) G8 hDC R1 R2 pz.o rfl;have c9:=cell_of_one p4;have f9:=free_of_one p4;have k9:ε (fun k=>(Value.slice va nv dK).ownBlock=some k) wr w9:=(show ε (fun k=>(Value.slice va nv dK).ownBlock=some k) wr wr.drew from δ.drew).trans p3;have hl9:=lt_of_block p4;have Zo:(Value.slice va nv dK).ownBlock≠some X:=fun e=>by have:=(eY I5.o.2.1.rows e).1;have:=rG.o;omega
         have F:=γ (show qH (w9.setCell ⟨D,0,none⟩ (.slice a9 n9 c9')) X (Rd.ok () r4)/\yT (w9.setCell ⟨D,0,none⟩ (.slice a9 n9 c9')) D (T++[(v1,(v2,ns))]) (.slice a9 n9 c9') n9 (cs++[.int .i64 v1,.int .i64 v2,.slice la n lc])/\ε η w (w9.setCell ⟨D,0,none⟩ (.slice a9 n9 c9'))from
          ⟨((show qH wr X (Rd.ok () r4)from RW.o.1).kept KB.o id|>.kept k9 (fun h=>Zo h)).kept (show ε (one D) w9 (w9.setCell ⟨D,0,none⟩ (.slice a9 n9 c9'))from(ε.refl (one D) w9).setCell (p:=⟨D,0,none⟩) (.inl rfl) _) (fun e=>by have:=rG.o;unfold one at e;omega),p5,
           ((KR.o.trans KB.o).new k9 (fun i hi e=>by have:=(eY I5.o.2.1.rows e).1;have:=rG.o;omega)).setCell (p:=⟨D,0,none⟩) (.inr (by have:=rG.o;show w.heap.size<=D;omega)) _⟩)
         have F2:=γ (show fA N [] r0=fA (N-(k+1)) (T++[(v1,(v2,ns))]) r4 from by
          rw[HI.o.2.2.2.1,RW.o.2.2.2,fA,RW.o.2.1];simp only[Rd.bind]
          rw[if_pos pz.o])
         have K9:=γ (θ k9 p1);have Zp:(Value.slice va nv dK).ownBlock≠some D:=fun e=>(by have:=(eY I5.o.2.1.rows e).1;omega);have Qo:(Value.slice va nv dK).ownBlock≠some C:=fun e=>(by have:=G8 C e;omega);have HV:=γ (θ Zp Qo);clear hb1 DD hcm R1 R2 hlv G8 p1 p3 p4 p5 k9 Zo Zp Qo;go_wp2_with fail;refine H2.fJ [0,1,2,3,4,5,6,7,8,9,10,11,12] (fun W=>ε (fun k=>(Value.slice va nv dK).ownBlock=some k) wr W) (by kernel_rfl) (by kernel_rfl) rfl (ε.refl _ wr).drew ?_;simp only[aco];iterate 8 (first|(apply H2.dZ rfl rfl;(intro W;go_simp;rfl);go_frame)|(apply H2.lJ rfl rfl rfl;(intro W hW;have z0:=hW.cell (p:=⟨D,0,none⟩) HV.o.1 x2;have z1:=hW.cell (p:=⟨C,0,none⟩) HV.o.2 y0;have z2:=hW.cell (p:=⟨C,1,none⟩) HV.o.2 y1;go_simp;rfl);go_frame))
         apply H2.iZ rfl rfl rfl;intro K hK;go_wp2;refine hK _ _ (fun _=>(ε.refl _ wr).drew.alloc _) ?_;clear hK;apply H2.iZ rfl rfl rfl;intro K hK;refine wp_append_run (.tmp 89) (.tmp 93) 101 rfl (.slice va nv dK) (.slice (some ⟨wr.heap.size,0,none⟩) 1 1) _ rfl rfl K9.o.2 ?_;refine hK _ _ (fun _=>K9.o.1) ?_;clear hK;iterate 2 (apply H2.dZ rfl rfl;(intro W;go_simp;rfl);go_frame)
         apply H2.jH rfl rfl rfl;intro K2 hK2;go_wp2_with fail;apply H2.nT;go_wp2;go_roundg (N-(k+1))
         case rel=>exact⟨k+1,_,r4,_,_,_,by omega,by go_num,by rw[ν,HI.o.2.2.2.2.2];rfl,F.o.1,F.o.2.1,F.o.2.2,F2.o,ξ _⟩
         case measure=>have:=HI.o.2.2.2.2.1;omega
       ·obtain⟨k',rfl⟩: ∃k',k=k'+1:=⟨k-1,by omega⟩
        have hk0:(0:Int)<(k':Int)+1:=(by omega);obtain⟨q,hq⟩: ∃q,T[k']?=some q:=⟨_,ι (by rw[KJ.o];omega)⟩;have hlast:qO T=q.1:=(by unfold qO;rw[getLast?_eq_getElem?,KJ.o,Nat.add_sub_cancel,hq]);have aeU:=DR.o.ok.key q (ς hq);obtain⟨tv,htv,htr⟩:=DR.o.tab.obj;have etv:tv= .slice va nv dK:=(by have:=htv.symm.trans DR.o.obj;simpa using this);subst etv;obtain⟨pa,jI,hpe,hpc1,aiz,hpr⟩:=htr.parts
        injection hpe with e1 e2 e3
        subst e1 e2 e3;unfold maxLen at aiz;obtain⟨rb,ro,rfl,hrr⟩:=hpr.resolve_left (fun h=>by rw[h]at hq;cases hq);obtain⟨z0,z1,lq,z2,_⟩:=hrr k' q hq;have hkl:k'<T.length:=(by rw[KJ.o];omega);have HQ:=γ (θ hlast aeU);clear hlast aeU hq hrr hpr htr htv z1 z2;go_wp2_with fail;refine(P9 q.1 v1 HQ.o.2 ab5.o wr).mono ?_;rintro e w' ⟨rfl,rfl⟩;by_cases hless:bH q.1 v1=true
        ·rw[hless]
         have HLS:=γ hless;clear hless;go_wp2_with fail;refine(jZ v1 ab5.o _).mono ?_;rintro e w' ⟨rfl,rfl⟩;go_wp2_with fail;refine(BQ D T (grp v1) _ (DR.o.kept (ε.refl η wr) (fun _ h=>noneE h)).tab).mono ?_;rintro e WM ⟨rfl,rfl⟩;have KB:=γ (show ε η wr wr from(ε.refl η wr));by_cases Ey:40<=aX T (grp v1)
         ·have FN:(40:Int)<=((aX T (grp v1):Nat):Int):=by omega
          have pz:=γ (show iG T v1=false from by rw[lu,decide_eq_false (by omega: ¬aX T (grp v1)<40),Bool.and_false]);have hb1:=KB.o.heap RW.o.1.choose_spec.1 id;have cb:=(dP hb1).2.1;have fb:=(dP hb1).2.2.2;have ZI:=lt_of_block hb1;have cb2:=(dP (uO (v:= .int .i64 21) hb1)).2.1;have F:acr (gK w s.data.toList (.returned (.tuple #[.pointer none,.int .i64 21])) (wr.setCell ⟨X,1,none⟩ (.int .i64 21)).drew):=(by show gK _ _ _ _;unfold gK;rw[HT.o,HI.o.2.2.2.1,RW.o.2.2.2,fA,RW.o.2.1];simp only[Rd.bind];rw[if_neg (by rw[pz.o];decide)];exact⟨rfl,by decide,((KR.o.trans KB.o).setCell (p:=⟨X,1,none⟩) (.inr (by have:=rG.o;show w.heap.size<=X;omega)) _).drew⟩);clear hb1;go_wp2_with fail;obtain⟨WW,qC⟩:=acu (wr.setCell ⟨X,1,none⟩ (.int .i64 21));rw[qC]at F cb2⊢;clear qC;refine ak [0,1,2,3,4,5] (fun W=>ε η WW W) (by kernel_rfl) (by kernel_rfl) rfl (ε.refl η WW).drew ?_;simp only[aco];iterate 6 (apply aj rfl rfl;(intro W hW;have z0:=hW.cell id cb2;go_simp;rfl);go_frame)
          refine aA (fun _=>(ε.refl η WW).drew) ?_;go_wp2;go_ret2;exact F.o
         ·have FN: ¬(40:Int)<=((aX T (grp v1):Nat):Int):=by omega
          have pz:=γ (show iG T v1=true from by rw[lu,decide_eq_true (by omega:aX T (grp v1)<40),Bool.and_true];exact by rw[HQ.o.1,HLS.o,Bool.or_true]);have hb1:=KB.o.heap RW.o.1.choose_spec.1 id;have cb:=(dP hb1).2.1;have DD:=(DR.o.kept KB.o (fun _ h=>noneE h)).kept (ε.refl η wr).drew (fun _ h=>noneE h);have hcm:=mY (KB.o.heap HI2.o.1.cell id);have y0:=hcm.1;have y1:=hcm.2.1;have x2:=cell_of_one (DR.o.kept KB.o (fun _ h=>noneE h)).obj;obtain⟨_,R1,R2⟩:=zD RW.o.2.1;have hlv:Reads wr.drew 1 (.slice la n lc) (ints ns):=(by have:=((Reads.aN HI2.o.1.own).pure KB.o).pure (ε.refl η wr).drew;rw[RW.o.2.2.1]at this;exact this);have G8: ∀g,(Value.slice (some ⟨rb,ro,none⟩) T.length dK).ownBlock=some g->g<C:=fun g hg=>hown4 g hg;obtain⟨v9,n9,w9,p1,⟨a9,c9',rfl⟩,p3,p4,p5⟩:=DD.push (C:=C) hlv (fun g hg=>by have:=(oN HI2.o.1.own hg).1;omega) G8 hDC R1 R2 pz.o rfl;have c9:=cell_of_one p4;have f9:=free_of_one p4;have k9:ε (fun k=>(Value.slice (some ⟨rb,ro,none⟩) T.length dK).ownBlock=some k) wr w9:=(show ε (fun k=>(Value.slice (some ⟨rb,ro,none⟩) T.length dK).ownBlock=some k) wr wr.drew from δ.drew).trans p3;have hl9:=lt_of_block p4;have Zo:(Value.slice (some ⟨rb,ro,none⟩) T.length dK).ownBlock≠some X:=fun e=>by have:=(eY I5.o.2.1.rows e).1;have:=rG.o;omega
          have F:=γ (show qH (w9.setCell ⟨D,0,none⟩ (.slice a9 n9 c9')) X (Rd.ok () r4)/\yT (w9.setCell ⟨D,0,none⟩ (.slice a9 n9 c9')) D (T++[(v1,(v2,ns))]) (.slice a9 n9 c9') n9 (cs++[.int .i64 v1,.int .i64 v2,.slice la n lc])/\ε η w (w9.setCell ⟨D,0,none⟩ (.slice a9 n9 c9'))from
           ⟨((show qH wr X (Rd.ok () r4)from RW.o.1).kept KB.o id|>.kept k9 (fun h=>Zo h)).kept (show ε (one D) w9 (w9.setCell ⟨D,0,none⟩ (.slice a9 n9 c9'))from(ε.refl (one D) w9).setCell (p:=⟨D,0,none⟩) (.inl rfl) _) (fun e=>by have:=rG.o;unfold one at e;omega),p5,
            ((KR.o.trans KB.o).new k9 (fun i hi e=>by have:=(eY I5.o.2.1.rows e).1;have:=rG.o;omega)).setCell (p:=⟨D,0,none⟩) (.inr (by have:=rG.o;show w.heap.size<=D;omega)) _⟩)
          have F2:=γ (show fA N [] r0=fA (N-((k'+1)+1)) (T++[(v1,(v2,ns))]) r4 from by
           rw[HI.o.2.2.2.1,RW.o.2.2.2,fA,RW.o.2.1];simp only[Rd.bind]
           rw[if_pos pz.o])
          have K9:=γ (θ k9 p1);have Zp:(Value.slice (some ⟨rb,ro,none⟩) T.length dK).ownBlock≠some D:=fun e=>(by have:=(eY I5.o.2.1.rows e).1;omega);have Qo:(Value.slice (some ⟨rb,ro,none⟩) T.length dK).ownBlock≠some C:=fun e=>(by have:=G8 C e;omega);have HV:=γ (θ Zp Qo);clear hb1 DD hcm R1 R2 hlv G8 p1 p3 p4 p5 k9 Zo Zp Qo;go_wp2_with fail;refine H2.fJ [0,1,2,3,4,5,6,7,8,9,10,11,12] (fun W=>ε (fun k=>(Value.slice (some ⟨rb,ro,none⟩) T.length dK).ownBlock=some k) wr W) (by kernel_rfl) (by kernel_rfl) rfl (ε.refl _ wr).drew ?_;simp only[aco];iterate 8 (first|(apply H2.dZ rfl rfl;(intro W;go_simp;rfl);go_frame)|(apply H2.lJ rfl rfl rfl;(intro W hW;have z0:=hW.cell (p:=⟨D,0,none⟩) HV.o.1 x2;have z1:=hW.cell (p:=⟨C,0,none⟩) HV.o.2 y0;have z2:=hW.cell (p:=⟨C,1,none⟩) HV.o.2 y1;go_simp;rfl);go_frame))
          apply H2.iZ rfl rfl rfl;intro K hK;go_wp2;refine hK _ _ (fun _=>(ε.refl _ wr).drew.alloc _) ?_;clear hK;apply H2.iZ rfl rfl rfl;intro K hK;refine wp_append_run (.tmp 89) (.tmp 93) 101 rfl (.slice (some ⟨rb,ro,none⟩) T.length dK) (.slice (some ⟨wr.heap.size,0,none⟩) 1 1) _ rfl rfl K9.o.2 ?_;refine hK _ _ (fun _=>K9.o.1) ?_;clear hK;iterate 2 (apply H2.dZ rfl rfl;(intro W;go_simp;rfl);go_frame)
          apply H2.jH rfl rfl rfl;intro K2 hK2;go_wp2_with fail;apply H2.nT;go_wp2;go_roundg (N-((k'+1)+1))
          case rel=>exact⟨(k'+1)+1,_,r4,_,_,_,by omega,by go_num,by rw[ν,HI.o.2.2.2.2.2];rfl,F.o.1,F.o.2.1,F.o.2.2,F2.o,ξ _⟩
          case measure=>have:=HI.o.2.2.2.2.1;omega
        ·have hlf:bH q.1 v1=false:=by simpa using hless
         rw[hlf];have pz:=γ (show iG T v1=false from by rw[lu,HQ.o.1,hlf,KJ.o,decide_eq_false hkz];rfl);have KB:=γ (ε.refl η wr);clear hless hlf;have hb1:=KB.o.heap RW.o.1.choose_spec.1 id;have cb:=(dP hb1).2.1;have fb:=(dP hb1).2.2.2;have ZI:=lt_of_block hb1;have cb2:=(dP (uO (v:= .int .i64 21) hb1)).2.1;have F:acr (gK w s.data.toList (.returned (.tuple #[.pointer none,.int .i64 21])) (wr.setCell ⟨X,1,none⟩ (.int .i64 21)).drew):=(by show gK _ _ _ _;unfold gK;rw[HT.o,HI.o.2.2.2.1,RW.o.2.2.2,fA,RW.o.2.1];simp only[Rd.bind];rw[if_neg (by rw[pz.o];decide)];exact⟨rfl,by decide,((KR.o.trans KB.o).setCell (p:=⟨X,1,none⟩) (.inr (by have:=rG.o;show w.heap.size<=X;omega)) _).drew⟩);clear hb1;go_wp2_with fail;obtain⟨WW,qC⟩:=acu (wr.setCell ⟨X,1,none⟩ (.int .i64 21));rw[qC]at F cb2⊢;clear qC;refine ak [0,1,2,3,4,5] (fun W=>ε η WW W) (by kernel_rfl) (by kernel_rfl) rfl (ε.refl η WW).drew ?_;simp only[aco];iterate 6 (apply aj rfl rfl;(intro W hW;have z0:=hW.cell id cb2;go_simp;rfl);go_frame)
         refine aA (fun _=>(ε.refl η WW).drew) ?_;go_wp2;go_ret2;exact F.o
   ·have hkN:k=N:=by omega
    have hr1:fA N [] r0= .ok T r:=(by rw[HI.o.2.2.2.1,hkN,Nat.sub_self];rfl);obtain⟨s',h1,h3,h4⟩:=HI.o.1;obtain⟨c1,c0,f1,f0⟩:=dP h1;have hEl:=lt_of_block h1;have HE:=γ (θ hr1 (θ h1 h3));clear h1 hr1 hkN h4;by_cases hr:r=[]
    ·obtain rfl:s'=⟨#[]⟩:=by
      rw[hr]at h3
      cases s' with
      |mk d=>congr 1;exact Array.toList_inj.1 (by simpa using h3)
     have F:acr (gK w s.data.toList (.returned (.tuple #[.pointer (some ⟨D,0,none⟩),.int .i64 0])) wr):=(by show gK _ _ _ _;unfold gK;rw[HT.o,HE.o.1];simp only[Rd.bind];rw[if_pos hr];exact⟨D,rfl,HI.o.2.1.tab,HI.o.2.2.1,HI.o.2.1.agf (by have:=rG.o;omega)⟩);clear h3 hr;go_wp2;go_ret2;exact F.o
    ·have hne:(!s'.toList.isEmpty)=true:=by
      rw[Lib.toList_data,h3]
      cases r with
      |nil=>exact absurd rfl hr
      |cons a l=>rfl
     have cb2:=(dP (uO (v:= .int .i64 21) HE.o.2.1)).2.1;have F:acr (gK w s.data.toList (.returned (.tuple #[.pointer none,.int .i64 21])) (wr.setCell ⟨X,1,none⟩ (.int .i64 21)).drew):=(by show gK _ _ _ _;unfold gK;rw[HT.o,HE.o.1];simp only[Rd.bind];rw[if_neg hr];exact⟨rfl,by decide,(HI.o.2.2.1.setCell (p:=⟨X,1,none⟩) (.inr (by have:=rG.o;show w.heap.size<=X;omega)) _).drew⟩);clear h3 hr;go_wp2_with fail;obtain⟨WW,qC⟩:=acu (wr.setCell ⟨X,1,none⟩ (.int .i64 21));rw[qC]at F cb2⊢;clear qC;refine ak [0,1,2,3,4,5] (fun W=>ε η WW W) (by kernel_rfl) (by kernel_rfl) rfl (ε.refl η WW).drew ?_;simp only[aco];iterate 6 (apply aj rfl rfl;(intro W hW;have z0:=hW.cell id cb2;go_simp;rfl);go_frame)
     refine aA (fun _=>(ε.refl η WW).drew) ?_;go_wp2;go_ret2;exact F.o
end
