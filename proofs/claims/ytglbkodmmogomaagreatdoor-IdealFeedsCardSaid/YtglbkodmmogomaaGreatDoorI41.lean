/- The document's Take of a number, changelingref02.Take(99). -/
import Derived.Test.YtglbkodmmogomaaGreatDoorI27
import Derived.Test.YtglbkodmmogomaaGreatDoorI40
set_option linter.unusedVariables false
set_option linter.unusedSimpArgs false
set_option maxHeartbeats 4000000
set_option maxRecDepth 100000
namespace Go.Proofs.YtglbkodmmogomaaGreatDoor
open Go Go.RowKit
def hor:List UInt8->Nat
 |[]=>0
 |c::r=>c.toNat%128+128*hor r
theorem zY: ∀(p q:List UInt8),hor (p++q)=hor p+128^p.length*hor q
 |[],q=>by simp[hor]
 |c::p,q=>by simp only[List.cons_append,hor,zY p q,φ,Nat.pow_succ];rw[Nat.mul_add,<-Nat.mul_assoc,Nat.mul_comm 128 (128^p.length)];omega
theorem YW: ∀p:List UInt8,hor p<128^p.length
 |[]=>by simp[hor]
 |c::p=>by have ih:=YW p;simp only[hor,φ,Nat.pow_succ];omega
theorem Fq: ∀(p:List UInt8)(i U:Nat)(r:List UInt8),(∀c∈p,128<=c.toNat)->i+p.length<=9->gJ i U (p++r)=gJ (i+p.length) (U+hor p*128^i) r
 |[],i,U,r,_,_=>by simp[hor]
 |c::p,i,U,r,h,hi=>by rw[φ]at hi;have hc:=h c (by simp);rw[List.cons_append,gJ,if_neg (by omega),if_pos hc,Fq p (i+1) _ r (fun d hd=>h d (by simp[hd])) (by omega)];have e1:i+1+p.length=i+(c::p).length:=(by rw[φ];omega);have e2:U+c.toNat%128*128^i+hor p*128^(i+1)=U+hor (c::p)*128^i:=(by simp only[hor];rw[Nat.pow_succ,Nat.add_mul,Nat.mul_comm 128 (hor p),Nat.mul_assoc,Nat.mul_comm 128 (128^i)];omega);rw[e1,e2]
theorem Hl {l p r:List UInt8}(hl:l=p++r)(hp: ∀c∈p,128<=c.toNat)(h9:p.length<=9):tk l=gJ p.length (hor p) r:=by unfold tk;rw[hl,Fq p 0 0 r hp (by omega)];simp
theorem Ox {l:List UInt8}(hp: ∀c∈l,128<=c.toNat)(h9:l.length<=9):tk l=(0,0,20):=by rw[Hl (p:=l) (r:=[]) (by simp) hp h9];rfl
theorem SY {p r:List UInt8}{c:UInt8}(hp: ∀c∈p,128<=c.toNat)(h9:p.length<=9)(hc:c.toNat<128)(Ce:p.length=9->c.toNat<=1):
 tk (p++c::r)=if 0<p.length/\c.toNat=0 then(0,0,21)else(lD (hor (p++[c])),p.length+1,0):=by
 rw[Hl (p:=p) (r:=c::r) rfl hp h9,gJ,if_neg (fun h=>by have:=Ce h.1;omega),if_neg (by omega)];by_cases h0:0<p.length/\c.toNat=0
 ·rw[if_pos ⟨h0.2,h0.1⟩,if_pos h0]
 ·rw[if_neg (fun h=>h0 ⟨h.2,h.1⟩),if_neg h0,zY]
  simp only[hor,Nat.mul_zero,Nat.add_zero];rw[Nat.mul_comm (128^p.length)]
theorem Oy {p r:List UInt8}{c:UInt8}(hp: ∀c∈p,128<=c.toNat)(h9:p.length=9)(hc:1<c.toNat):tk (p++c::r)=(0,0,21):=by rw[Hl (p:=p) (r:=c::r) rfl hp (by omega),gJ,if_pos ⟨h9,hc⟩]
theorem PX {l:List UInt8}{j:Nat}(h:j<l.length):hor (l.drop j)=l[j].toNat%128+128*hor (l.drop (j+1)):=by rw[abS h];rfl
theorem Ju {p:List UInt8}{c:UInt8}(h9:p.length<=9)(hc:c.toNat<128)(Ce:p.length=9->c.toNat<=1){i:Nat}(hi:i<=p.length):hor ((p++[c]).drop i)<18446744073709551616:=by
 rw[List.drop_append_of_le_length hi,zY];have h1:=YW (p.drop i);rw[List.length_drop]at*;simp only[hor,Nat.mul_zero,Nat.add_zero];rw[Nat.mod_eq_of_lt hc];by_cases h:p.length=9
 ·have h2:128^(p.length-i)<=128^9:=Nat.pow_le_pow_right (by omega) (by omega)
  rw[Va]at h2;have h3:128^(p.length-i)*c.toNat<=128^(p.length-i)*1:=Nat.mul_le_mul_left _ (Ce h);omega
 ·have h2:128^(p.length-i)<=128^8:=Nat.pow_le_pow_right (by omega) (by omega)
  have h4:(128:Nat)^8=72057594037927936:=(by decide);have h3:128^(p.length-i)*c.toNat<=128^(p.length-i)*127:=Nat.mul_le_mul_left _ (by omega);omega
theorem GZ {u:Nat}(h: ¬u%2=1):lD u=((u/2:Nat):Int):=by unfold lD;rw[if_pos (by omega)]
theorem JM {u:Nat}(h:u%2=1):lD u= -((u/2:Nat):Int)-1:=by unfold lD;rw[if_neg (by omega)]
theorem vP {s:ByteArray}{k:Nat}(h:k<s.size):s.data.toList=s.data.toList.take k++s[k]::s.data.toList.drop (k+1):=by have e:s.data.toList.drop k=s[k]::s.data.toList.drop (k+1):=(by rw[abS (by simpa using h)];rfl);rw[<-e,List.take_append_drop]
theorem XT (s:ByteArray)(hs:s.size<=maxLen)(w:World):Calls Tryz.prog 100 #[.string s] w (TkQ w (tk s.data.toList)):=by
 unfold maxLen at hs;have hsz:s.data.toList.length=s.size:=(by simp);have kH:=γ hsz;clear hsz;go_enter Tryz.func100,Tryz.ntmps100;go_wp2_with fail;go_loopg [5] 11 (fun g vi wr=> ∃k:Nat,vi= .int .i64 (k:Int)/\k<=10/\k<=s.size/\(∀c∈s.data.toList.take k,128<=c.toNat)/\11-k<=g/\wr=w)
 case atStart=>exact⟨0,rfl,by omega,by omega,by simp,by omega,rfl⟩
 case round=>
  obtain⟨k,rfl,hk,hks,hp,hg,rfl⟩:=hrel;have HP:=γ (θ hp hg);clear hp hg;by_cases hgo:k<s.size/\k<10/\ ∃h:k<s.size,127<s[k].toNat
  ·obtain⟨h1,h2,_,h3⟩:=hgo
   have h3i:(127:Int)<(s[k].toNat:Int):=by omega
   have F:=γ (show∀c∈s.data.toList.take (k+1),128<=c.toNat from by
    intro c hc;rw[ψ,ι (by rw[kH.o];exact h1)]at hc
    rcases abL.1 hc with hc|hc
    ·exact HP.o.1 c hc
    ·simp only[Option.toList_some,abQ]at hc
     rw[hc];exact h3)
   clear h3;go_wp2_with fail;go_roundg (11-(k+1))
   case rel=>exact⟨k+1,by go_num,by omega,by omega,F.o,ξ _,rfl⟩
   case measure=>have:=HP.o.2;omega
  ·have ways:(k=10/\s.size=10)\/(k=10/\10<s.size)\/(k=9/\s.size=9)\/(k=s.size/\k<9)\/(∃h:k<s.size,k=9/\ ¬127<s[k].toNat/\1<s[k].toNat)\/(∃h:k<s.size,k=9/\s[k].toNat<=1)\/(∃h:k<s.size,k<9/\ ¬127<s[k].toNat):=by
    by_cases h1:k<s.size
    ·by_cases h2:k<10
     ·have h3: ¬127<s[k].toNat:=fun h=>hgo ⟨h1,h2,h1,h⟩
      by_cases h4:k=9
      ·by_cases h5:1<s[k].toNat
       ·exact .inr (.inr (.inr (.inr (.inl ⟨h1,h4,h3,h5⟩))))
       ·exact .inr (.inr (.inr (.inr (.inr (.inl ⟨h1,h4,by omega⟩)))))
      ·exact .inr (.inr (.inr (.inr (.inr (.inr ⟨h1,by omega,h3⟩)))))
     ·exact .inr (.inl ⟨by omega,by omega⟩)
    ·by_cases h2:k=10
     ·exact .inl ⟨h2,by omega⟩
     ·by_cases h3:k=9
      ·exact .inr (.inr (.inl ⟨h3,by omega⟩))
      ·exact .inr (.inr (.inr (.inl ⟨by omega,by omega⟩)))
   clear hgo
   rcases ways with⟨rfl,h1⟩|⟨rfl,h1⟩|⟨rfl,h1⟩|⟨h1,h2⟩|⟨hlt,rfl,h1,h2⟩|⟨hlt,h1,h2⟩|⟨hlt,h1,h2⟩
   ·have AV:9<s.size:=by omega
    have T:=γ (show tk s.data.toList=(0,0,21)from by
     rw[vP (k:=9) AV];refine Oy (fun c hc=>HP.o.1 c (by rw[ψ];exact List.mem_append_left _ hc)) (by rw[υ,kH.o];omega) ?_;have:=HP.o.1 (s[9]'AV) (by rw[ψ,ι (by rw[kH.o];omega)];exact List.mem_append_right _ (by simp;rfl))
     omega)
    have b1:(1:Int)<((s[9]'AV).toNat:Int):=(by have:=HP.o.1 (s[9]'AV) (by rw[ψ,ι (by rw[kH.o];omega)];exact List.mem_append_right _ (by simp;rfl));omega);have b2: ¬(10:Int)<(s.size:Int):=(by omega);have b3:(9:Int)<(s.size:Int):=(by omega);have H1:=γ h1;clear h1;go_wp2_with fail
    go_ret3
    rw[T.o];exact⟨rfl,rfl⟩
   ·have AV:9<s.size:=by omega
    have T:=γ (show tk s.data.toList=(0,0,21)from by
     rw[vP (k:=9) AV];refine Oy (fun c hc=>HP.o.1 c (by rw[ψ];exact List.mem_append_left _ hc)) (by rw[υ,kH.o];omega) ?_;have:=HP.o.1 (s[9]'AV) (by rw[ψ,ι (by rw[kH.o];omega)];exact List.mem_append_right _ (by simp;rfl))
     omega)
    have b1:(1:Int)<((s[9]'AV).toNat:Int):=(by have:=HP.o.1 (s[9]'AV) (by rw[ψ,ι (by rw[kH.o];omega)];exact List.mem_append_right _ (by simp;rfl));omega);have b2:(10:Int)<(s.size:Int):=(by omega);have b3:(9:Int)<(s.size:Int):=(by omega);go_wp2_with fail
    go_ret3
    rw[T.o];exact⟨rfl,rfl⟩
   ·have T:=γ (show tk s.data.toList=(0,0,20)from by
     have hp:=HP.o.1;rw[χ (by rw[kH.o];omega)]at hp
     exact Ox hp (by rw[kH.o];omega))
    have b2: ¬(9:Int)<(s.size:Int):=(by omega);have b3:((9:Int)==(s.size:Int))=true:=beq_iff_eq.2 (by omega);have H1:=γ h1;clear h1;go_wp2_with fail
    go_ret3
    rw[T.o];exact⟨rfl,rfl⟩
   ·have T:=γ (show tk s.data.toList=(0,0,20)from by
     have hp:=HP.o.1;rw[χ (by rw[kH.o];omega)]at hp
     exact Ox hp (by rw[kH.o];omega))
    have b2: ¬(k:Int)<(s.size:Int):=(by omega);have b3:((k:Int)==(s.size:Int))=true:=beq_iff_eq.2 (by omega);have b4: ¬(9:Int)<=(k:Int):=(by omega);have H1:=γ h1;clear h1;go_wp2_with fail
    go_ret3
    rw[T.o];exact⟨rfl,rfl⟩
   ·have T:=γ (show tk s.data.toList=(0,0,21)from by
     rw[vP hlt]
     exact Oy HP.o.1 (by rw[υ,kH.o];omega) h2)
    have b1:(1:Int)<(s[9].toNat:Int):=(by omega);have b2: ¬(127:Int)<(s[9].toNat:Int):=(by omega);have b3:(9:Int)<(s.size:Int):=(by omega);go_wp2_with fail
    go_ret3
    rw[T.o];exact⟨rfl,rfl⟩
   ·have AV:9<s.size:=by omega
    have b1: ¬(1:Int)<((s[9]'AV).toNat:Int):=(by have e:s[9]'AV=s[k]:=(by congr 1;omega);rw[e];omega);have hc128:s[k].toNat<128:=(by omega);have Ce:k=9->s[k].toNat<=1:=fun h=>(by omega);have b2: ¬(127:Int)<(s[k].toNat:Int):=(by omega);have b3:(9:Int)<(s.size:Int):=(by omega);have b4:(9:Int)<=(k:Int):=(by omega);have hk9:k<=9:=(by omega);have HK9:=γ h1;clear h1;have HL:=γ (θ HP.o.1 (θ hc128 (θ Ce hlt)));have hkz:((k:Int)==(s.size:Int))=false:=beq_eq_false_iff_ne.2 (by omega);have htk:=SY (r:=s.data.toList.drop (k+1)) (c:=s[k]) HP.o.1 (by rw[υ];omega) hc128 (fun h=>Ce (by rw[υ,kH.o]at h;omega));rw[<-vP hlt,υ,kH.o,Nat.min_eq_left (by omega)]at htk;have qJ:=γ htk;clear htk Ce;by_cases hz:0<k/\s[k].toNat=0
    ·have T:=γ (show tk s.data.toList=(0,0,21) by rw[qJ.o,if_pos hz])
     have z1:(0:Int)<(k:Int):=(by omega);have z2:((s[k].toNat:Int)==0)=true:=(by rw[hz.2];rfl);clear hz;go_wp2_with fail
     go_ret3
     rw[T.o];exact⟨rfl,rfl⟩
    ·have T:=γ (show tk s.data.toList=(lD (hor (s.data.toList.take (k+1))),k+1,0) by
      rw[qJ.o,if_neg hz,ψ,ι (by rw[kH.o];exact hlt)]
      rfl)
     have HB:=γ (show∀i,i<=k->hor ((s.data.toList.take (k+1)).drop i)<18446744073709551616 from fun i hi=>by
      have:=Ju (p:=s.data.toList.take k) (c:=s[k]) (by rw[υ];omega) hc128 (fun h=>HL.o.2.2.1 (by rw[υ,kH.o]at h;omega)) (i:=i) (by rw[υ,kH.o];omega);rw[ψ,ι (by rw[kH.o];exact hlt)]
      exact this)
     have hz':(¬(0:Int)<(k:Int))\/((0:Int)<(k:Int)/\((s[k].toNat:Int)==0)=false):=by
      by_cases h0:0<k
      ·exact .inr ⟨by omega,beq_eq_false_iff_ne.2 (fun e=>hz ⟨h0,by omega⟩)⟩
      ·exact .inl (by omega)
     clear hz hc128;obtain⟨z1,z2⟩:=hz'.resolve_left (by omega);all_goals
      go_wp2_with fail;go_loopg [6,7] 11 (fun g vu vi wr2=> ∃(j u:Nat)(x:Int),j<=k+1/\x=(j:Int)-1/\vi= .int .i64 x/\vu= .int .u64 (u:Int)/\u=hor ((s.data.toList.take (k+1)).drop j)/\j<=g/\wr2=wr)
      case atStart=>exact⟨k+1,0,(k:Int),by omega,by omega,rfl,rfl,by rw[List.drop_eq_nil_of_le (List.length_take_le _ _)];rfl,by omega,rfl⟩
      case round=>
       obtain⟨j,u,x,hj,hx,rfl,rfl,hu,hg,rfl⟩:=hrel;have HU:=γ (θ hu hg)
       cases j with
       |zero=>
        obtain rfl:x= -1:=(by omega);have hub:=HB.o 0 (by omega);rw[<-hu]at hub;rw[List.drop_zero]at hu;have JV:=γ hu;clear hu hx hg;by_cases hodd:u%2=1
        ·have o1:(((u:Int)%2)==1)=true:=beq_iff_eq.2 (by omega)
         have Q5:=γ (JM hodd);clear hodd;go_wp2_with fail
         go_ret3
         rw[T.o,<-JV.o,Q5.o];exact⟨rfl,rfl⟩
        ·have o1:(((u:Int)%2)==1)=false:=beq_eq_false_iff_ne.2 (by omega)
         have Q5:=γ (GZ hodd);clear hodd;go_wp2_with fail
         go_ret3
         rw[T.o,<-JV.o,Q5.o];exact⟨rfl,rfl⟩
       |succ i=>
        obtain rfl:x=(i:Int):=(by omega);have hsi:i<s.size:=(by omega);have hil:i<(s.data.toList.take (k+1)).length:=(by rw[υ,kH.o];omega);have hst:=PX hil;have hget:(s.data.toList.take (k+1))[i]=s[i]'hsi:=(by rw[List.getElem_take];rfl);rw[hget,<-hu]at hst;have hb:=HB.o i (by omega);rw[hst]at hb;obtain⟨d,hd⟩: ∃d,(s[i]'hsi).toNat%128=d:=⟨_,rfl⟩;rw[hd]at hst hb;have hdi:((s[i]'hsi).toNat:Int)%128=(d:Int):=(by omega);have afN:d<128:=(by omega);have HS:=γ hst;clear hst hd hget hu hx hg hil;go_wp2_with fail;go_roundg i
        case rel=>exact⟨i,128*u+d,(i:Int)-1,by omega,rfl,rfl,by go_num,by rw[HS.o];omega,ξ _,rfl⟩
        case measure=>have:=HU.o.2;omega
   ·have hc128:s[k].toNat<128:=by omega
    have Ce:k=9->s[k].toNat<=1:=fun h=>(by omega);have b2: ¬(127:Int)<(s[k].toNat:Int):=(by omega);have b4: ¬(9:Int)<=(k:Int):=(by omega);have HL:=γ (θ HP.o.1 (θ hc128 (θ Ce hlt)));have hkz:((k:Int)==(s.size:Int))=false:=beq_eq_false_iff_ne.2 (by omega);have htk:=SY (r:=s.data.toList.drop (k+1)) (c:=s[k]) HP.o.1 (by rw[υ];omega) hc128 (fun h=>Ce (by rw[υ,kH.o]at h;omega));rw[<-vP hlt,υ,kH.o,Nat.min_eq_left (by omega)]at htk;have qJ:=γ htk;clear htk Ce;by_cases hz:0<k/\s[k].toNat=0
    ·have T:=γ (show tk s.data.toList=(0,0,21) by rw[qJ.o,if_pos hz])
     have z1:(0:Int)<(k:Int):=(by omega);have z2:((s[k].toNat:Int)==0)=true:=(by rw[hz.2];rfl);clear hz;go_wp2_with fail
     go_ret3
     rw[T.o];exact⟨rfl,rfl⟩
    ·have T:=γ (show tk s.data.toList=(lD (hor (s.data.toList.take (k+1))),k+1,0) by
      rw[qJ.o,if_neg hz,ψ,ι (by rw[kH.o];exact hlt)]
      rfl)
     have HB:=γ (show∀i,i<=k->hor ((s.data.toList.take (k+1)).drop i)<18446744073709551616 from fun i hi=>by
      have:=Ju (p:=s.data.toList.take k) (c:=s[k]) (by rw[υ];omega) hc128 (fun h=>HL.o.2.2.1 (by rw[υ,kH.o]at h;omega)) (i:=i) (by rw[υ,kH.o];omega);rw[ψ,ι (by rw[kH.o];exact hlt)]
      exact this)
     have hz':(¬(0:Int)<(k:Int))\/((0:Int)<(k:Int)/\((s[k].toNat:Int)==0)=false):=by
      by_cases h0:0<k
      ·exact .inr ⟨by omega,beq_eq_false_iff_ne.2 (fun e=>hz ⟨h0,by omega⟩)⟩
      ·exact .inl (by omega)
     clear hz hc128
     rcases hz' with z1|⟨z1,z2⟩
     all_goals
      go_wp2_with fail;go_loopg [6,7] 11 (fun g vu vi wr2=> ∃(j u:Nat)(x:Int),j<=k+1/\x=(j:Int)-1/\vi= .int .i64 x/\vu= .int .u64 (u:Int)/\u=hor ((s.data.toList.take (k+1)).drop j)/\j<=g/\wr2=wr)
      case atStart=>exact⟨k+1,0,(k:Int),by omega,by omega,rfl,rfl,by rw[List.drop_eq_nil_of_le (List.length_take_le _ _)];rfl,by omega,rfl⟩
      case round=>
       obtain⟨j,u,x,hj,hx,rfl,rfl,hu,hg,rfl⟩:=hrel;have HU:=γ (θ hu hg)
       cases j with
       |zero=>
        obtain rfl:x= -1:=(by omega);have hub:=HB.o 0 (by omega);rw[<-hu]at hub;rw[List.drop_zero]at hu;have JV:=γ hu;clear hu hx hg;by_cases hodd:u%2=1
        ·have o1:(((u:Int)%2)==1)=true:=beq_iff_eq.2 (by omega)
         have Q5:=γ (JM hodd);clear hodd;go_wp2_with fail
         go_ret3
         rw[T.o,<-JV.o,Q5.o];exact⟨rfl,rfl⟩
        ·have o1:(((u:Int)%2)==1)=false:=beq_eq_false_iff_ne.2 (by omega)
         have Q5:=γ (GZ hodd);clear hodd;go_wp2_with fail
         go_ret3
         rw[T.o,<-JV.o,Q5.o];exact⟨rfl,rfl⟩
       |succ i=>
        obtain rfl:x=(i:Int):=(by omega);have hsi:i<s.size:=(by omega);have hil:i<(s.data.toList.take (k+1)).length:=(by rw[υ,kH.o];omega);have hst:=PX hil;have hget:(s.data.toList.take (k+1))[i]=s[i]'hsi:=(by rw[List.getElem_take];rfl);rw[hget,<-hu]at hst;have hb:=HB.o i (by omega);rw[hst]at hb;obtain⟨d,hd⟩: ∃d,(s[i]'hsi).toNat%128=d:=⟨_,rfl⟩;rw[hd]at hst hb;have hdi:((s[i]'hsi).toNat:Int)%128=(d:Int):=(by omega);have afN:d<128:=(by omega);have HS:=γ hst;clear hst hd hget hu hx hg hil;go_wp2_with fail;go_roundg i
        case rel=>exact⟨i,128*u+d,(i:Int)-1,by omega,rfl,rfl,by go_num,by rw[HS.o];omega,ξ _,rfl⟩
        case measure=>have:=HU.o.2;omega
def qg {α:Type}(w:World)(X:Nat):Rd α->Prop
 | .ok _ r=> ∃s:ByteArray,w.heap[X]?=some (.cells #[.string s,.int .i64 0] 118 (0,0))/\s.data.toList=r/\s.size<=maxLen
 | .err f=>f≠0/\ ∃s:ByteArray,w.heap[X]?=some (.cells #[.string s,.int .i64 f] 118 (0,0))
theorem qg.kept {α:Type}{w w':World}{X:Nat}{x:Rd α}{Q:Nat->Prop}(h:qg w X x)(hk:ε Q w w')(hX: ¬Q X):qg w' X x:=by
 cases x with
 |ok a r=>obtain⟨s,h2,h3⟩:=h;exact⟨s,hk.heap h2 hX,h3⟩
 |err f=>obtain⟨h0,s,h2⟩:=h;exact⟨h0,s,hk.heap h2 hX⟩
theorem qg.lt {α:Type}{w:World}{X:Nat}{x:Rd α}(h:qg w X x):X<w.heap.size:=by
 cases x with
 |ok a r=>obtain⟨s,h2,h3⟩:=h;exact lt_of_block h2
 |err f=>obtain⟨h0,s,h2⟩:=h;exact lt_of_block h2
theorem qg.same {α β:Type}{w:World}{X:Nat}{x:Rd α}{y:Rd β}(h:qg w X x)(hok: ∀a r,x= .ok a r-> ∃b,y= .ok b r)(herr: ∀f,x= .err f->y= .err f):qg w X y:=by
 cases x with
 |ok a r=>obtain⟨b,rfl⟩:=hok a r rfl;exact h
 |err f=>rw[herr f rfl];exact h
theorem dK {w:World}{b:Nat}{a u:Value}{E:TypeId}(h:w.heap[b]?=some (.cells #[a,u] E (0,0))):w.cell? ⟨b,0,none⟩=some a/\w.cell? ⟨b,1,none⟩=some u/\w.frozen? ⟨b,0,none⟩=false/\w.frozen? ⟨b,1,none⟩=false:=by refine⟨?_,?_,?_,?_⟩<;>simp[World.cell?,World.frozen?,h]
theorem acQ {w:World}{b:Nat}{a u v:Value}{E:TypeId}(h:w.heap[b]?=some (.cells #[a,u] E (0,0))):(w.setCell ⟨b,0,none⟩ v).heap[b]?=some (.cells #[v,u] E (0,0)):=by have hlt:=lt_of_block h;have h':w.heap[b]= .cells #[a,u] E (0,0):=(by simpa[Array.getElem?_eq_getElem hlt]using h);show(w.heap.modify b _)[b]?=_;rw[Array.getElem?_eq_getElem (by simpa using hlt),Array.getElem_modify_self,h'];rfl
theorem uD {w:World}{b:Nat}{a u v:Value}{E:TypeId}(h:w.heap[b]?=some (.cells #[a,u] E (0,0))):(w.setCell ⟨b,1,none⟩ v).heap[b]?=some (.cells #[a,v] E (0,0)):=(lW h).2.2.2 v
theorem TL {l:List UInt8}{n:Int}{z:Nat}(h:tk l=(n,z,0)):num bg hi64 l= .ok n (l.drop z):=by unfold num;have h4:=(abC h).2.2.2;rw[h];simp only[ne_eq,not_true,if_false];rw[if_neg (by have:=h4.in;omega)]
theorem H8 {lo hi:Int}{l:List UInt8}{n:Int}{z:Nat}{f:Int}(h:tk l=(n,z,f))(hf:f≠0):num lo hi l= .err f:=by unfold num;rw[h,if_pos hf]
theorem acL {l:List UInt8}{n:Int}{z:Nat}{f:Int}(h:tk l=(n,z,f))(hf:f≠0):n=0/\z=0:=by
 have h0:(gJ 0 0 l).2.2=f:=(by unfold tk at h;rw[h]);have h1:=Fz l 0 0 (by rw[h0];exact hf);unfold tk at h;rw[h]at h1
 injection h1 with h1 h2
 injection h2 with h2 h3
 exact⟨h1,h2⟩
def Du {α:Type}(w:World)(X:Nat)(x:Rd α)(e:Ending)(w':World):Prop:=
 e= .returned (.int .i64 (dM 0 (numAt bg hi64 x)))/\qg w' X (numAt bg hi64 x)/\ε (one X) w w'
theorem vw {α:Type}(X:Nat)(x:Rd α)(w:World)(h:qg w X x):Calls Tryz.prog 54 #[.pointer (some ⟨X,0,none⟩)] w (Du w X x):=by
 cases x with
 |err f=>obtain⟨h0,s,h1⟩:=h;obtain⟨c0,c1,f0,f1⟩:=dK h1;have F:Du (α:=α) w X (.err f) (.returned (.int .i64 0)) w:=⟨rfl,⟨h0,s,h1⟩,ε.refl _ _⟩;have FF:=γ F;have hf:(f !=0)=true:=bne_iff_ne.2 h0;clear F h0 h1;go_enter Tryz.func54,Tryz.ntmps54;go_wp2_with fail;go_ret;exact FF.o
 |ok a r=>
  obtain⟨s,h1,rfl,h3⟩:=h;obtain⟨c0,c1,f0,f1⟩:=dK h1;have hX:=lt_of_block h1;have hb:=XT s h3;obtain⟨x,hx⟩: ∃x,tk s.data.toList=x:=⟨_,rfl⟩;rw[hx]at hb;obtain⟨n,z,f⟩:=x;have hz:z<=s.size:=(by have:=XC s.data.toList;rw[hx]at this;exact this);have hzi: ¬(s.size:Int)<(z:Int):=(by omega);have F:ace (Du w X (.ok a s.data.toList) (.returned (.int .i64 n)) ((w.setCell ⟨X,1,none⟩ (.int .i64 f)).setCell ⟨X,0,none⟩ (.string (s.extract z s.size)))):=by
   show Du _ _ _ _ _;have hh:=acQ (v:= .string (s.extract z s.size)) (uD (v:= .int .i64 f) h1);have hk:ε (one X) w ((w.setCell ⟨X,1,none⟩ (.int .i64 f)).setCell ⟨X,0,none⟩ (.string (s.extract z s.size))):=((ε.refl (one X) w).setCell (p:=⟨X,1,none⟩) (.inl rfl) _).setCell (p:=⟨X,0,none⟩) (.inl rfl) _;unfold Du;by_cases hf:f=0
   ·subst hf
    have e:numAt bg hi64 (Rd.ok a s.data.toList)= .ok n (s.data.toList.drop z):=TL hx;rw[e];exact⟨rfl,⟨_,hh,Lib.extract_to_end s z,by simp;omega⟩,hk⟩
   ·have e:numAt bg hi64 (Rd.ok a s.data.toList)= .err f:=H8 hx hf
    rw[e];obtain⟨rfl,rfl⟩:=acL hx hf;exact⟨rfl,⟨hf,_,hh⟩,hk⟩
  have HB:=γ hb;clear hx h1 h3 hb;go_enter Tryz.func54,Tryz.ntmps54;go_wp2_with fail;(with_reducible refine(HB.o _).mono ?_);rintro e w1 ⟨rfl,rfl⟩;go_wp2_with fail;go_ret;exact F.o
theorem aax {α:Type}(most:Int)(x:Rd α):numAt 0 most x=match numAt bg hi64 x with
 | .ok n r=>if n<0\/most<n then .err 21 else .ok n r
 | .err f=> .err f:=by
 cases x with
 |err f=>rfl
 |ok a l=>
  show num 0 most l=match num bg hi64 l with| .ok n r=>_| .err f=>_
  obtain⟨y,hy⟩: ∃y,tk l=y:=⟨_,rfl⟩;obtain⟨n,z,f⟩:=y;by_cases hf:f=0
  ·subst hf
   rw[TL hy];unfold num;rw[hy];simp
  ·rw[H8 hy hf,H8 hy hf]
def nN {α:Type}(w:World)(X:Nat)(most:Int)(x:Rd α)(e:Ending)(w':World):Prop:=
 e= .returned (.int .i64 (dM 0 (numAt 0 most x)))/\qg w' X (numAt 0 most x)/\ε (one X) w w'
theorem FP {α:Type}(X:Nat)(most:Int)(x:Rd α)(w:World)(h:qg w X x):Calls Tryz.prog 53 #[.pointer (some ⟨X,0,none⟩),.int .i64 most] w (nN w X most x):=by
 have HN:=γ (vw X x w h);have HE:=γ (aax most x);clear h;go_enter Tryz.func53,Tryz.ntmps53;go_wp2_with fail;(with_reducible refine HN.o.mono ?_);rintro e w1 ⟨rfl,hst,k1⟩;have K1:=γ k1
 cases hx:numAt bg hi64 x with
 |err f=>rw[hx]at hst;have e2:numAt 0 most x= .err f:=(by rw[HE.o,hx]);have F:ace (nN w X most x (.returned (.int .i64 0)) w1):=(by show nN _ _ _ _ _ _;unfold nN;rw[e2];exact⟨rfl,hst,k1⟩);obtain⟨hf0,s,hs⟩:=hst;obtain⟨c0,c1,f0,f1⟩:=dK hs;have hf1:(f==0)=false:=beq_eq_false_iff_ne.2 hf0;have hf2:(f !=0)=true:=bne_iff_ne.2 hf0;simp only[dM];clear hx e2 hs hf0 k1;go_wp2_with fail;go_ret;exact F.o
 |ok n r=>
  rw[hx]at hst;obtain⟨s,hs,hr,hl⟩:=hst;obtain⟨c0,c1,f0,f1⟩:=dK hs;have hX:=lt_of_block hs;simp only[dM];have ways:n<0\/(¬n<0/\most<n)\/(¬n<0/\ ¬most<n):=by omega
  rcases ways with g1|⟨g1,g2⟩|⟨g1,g2⟩
  ·have e2:numAt 0 most x= .err 21:=by rw[HE.o,hx];simp only;rw[if_pos (.inl g1)]
   have F:ace (nN w X most x (.returned (.int .i64 0)) (w1.setCell ⟨X,1,none⟩ (.int .i64 21))):=(by show nN _ _ _ _ _ _;unfold nN;rw[e2];exact⟨rfl,⟨by decide,s,uD hs⟩,k1.trans ((ε.refl (one X) w1).setCell (p:=⟨X,1,none⟩) (.inl rfl) _)⟩);clear hx e2 hs hr hl k1;go_wp2_with fail;go_ret;exact F.o
  ·have e2:numAt 0 most x= .err 21:=by rw[HE.o,hx];simp only;rw[if_pos (.inr g2)]
   have F:ace (nN w X most x (.returned (.int .i64 0)) (w1.setCell ⟨X,1,none⟩ (.int .i64 21))):=(by show nN _ _ _ _ _ _;unfold nN;rw[e2];exact⟨rfl,⟨by decide,s,uD hs⟩,k1.trans ((ε.refl (one X) w1).setCell (p:=⟨X,1,none⟩) (.inl rfl) _)⟩);clear hx e2 hs hr hl k1;go_wp2_with fail;go_ret;exact F.o
  ·have e2:numAt 0 most x= .ok n r:=by rw[HE.o,hx];simp only;rw[if_neg (by omega)]
   have F:ace (nN w X most x (.returned (.int .i64 n)) w1):=(by show nN _ _ _ _ _ _;unfold nN;rw[e2];exact⟨rfl,⟨s,hs,hr,hl⟩,k1⟩);clear hx e2 hs hr hl k1;go_wp2_with fail;go_ret;exact F.o
theorem noneE {P:Prop}{k:Nat}(h:η k):P:=False.elim h
def fQ (w:World)(l:List UInt8)(e:Ending)(w':World):Prop:=
 match mZ l with
 | .ok T _=> ∃D,e= .returned (.tuple #[.pointer (some ⟨D,0,none⟩),.int .i64 0])/\RTabAt w' D T/\ε η w w'/\bF w' (fun q=>w.heap.size<=q) D T
 | .err f=>e= .returned (.tuple #[.pointer none,.int .i64 f])/\f≠0/\ε η w w'
theorem qg.Ve {w:World}{X j:Nat}{x:Rd Int}(h:qg w X (numAt bg hi64 (bU j x))):qg w X (bU (j+1) x):=by
 rw[vC];refine h.same (fun a r e=>?_) (fun f e=>?_)
 ·cases h1:bU j x with
  |err f=>rw[h1]at e;cases e
  |ok ns r1=>rw[h1]at e;have e:num bg hi64 r1= .ok a r:=e;exact⟨ns++[a],by simp only[Rd.bind];rw[e]⟩
 ·cases h1:bU j x with
  |err f'=>
   rw[h1]at e;have e:Rd.err f'=Rd.err f:=e
   injection e with e
   rw[e];rfl
  |ok ns r1=>rw[h1]at e;have e:num bg hi64 r1= .err f:=e;simp only[Rd.bind];rw[e]
theorem acT {r:List UInt8}{x1 x2 x3:Rd Int}{M:Nat}(h1:numAt bg hi64 (Rd.ok () r)=x1)(h2:numAt bg hi64 x1=x2)(h3:numAt 0 16 x2=x3)(hM:dM 0 x3=(M:Int)):
 (∀f,bU M x3= .err f->row r= .err f)/\(∀ns r4,bU M x3= .ok ns r4->row r= .ok (dM 0 x1,(dM 0 x2,ns)) r4):=by
 have h:=row_of h1 h2 h3 hM;refine⟨h.1,fun ns r4 h4=>?_⟩;rw[h.2 ns r4 h4]
 cases x1 with
 |err f1=>have e2:x2= .err f1:=(by rw[<-h2];rfl);subst e2;have e3:x3= .err f1:=(by rw[<-h3];rfl);subst e3;cases h4
 |ok key r1=>
  cases x2 with
  |err f2=>have e3:x3= .err f2:=(by rw[<-h3];rfl);subst e3;cases h4
  |ok acc r2=>rfl
structure yG (wr:World)(D:Nat)(T:Tab)(v:Value)(nv:Nat)(cs:List Value):Prop where
 obj:wr.heap[D]?=some (.cells #[v] 103 (0,0))
 rows:wr.ownsRow (D+1) 122 3 v nv cs
 rr:cu wr cs T
 sep: ∀(i:Nat)(lv:Value),cs[i*3+2]?=some lv-> ∀k,Value.blk lv=some k->D<k/\k<wr.heap.size/\v.ownBlock≠some k
 ok:eP T
theorem yG.kept {wr w':World}{D:Nat}{T:Tab}{v:Value}{nv:Nat}{cs:List Value}{S:Nat->Prop}(h:yG wr D T v nv cs)(hk:ε S wr w')(hS: ∀k,S k->k<D\/wr.heap.size<=k):yG w' D T v nv cs:=by
 have hD:=lt_of_block h.obj;refine⟨hk.heap h.obj (fun hs=>by have:=hS D hs;omega),hk.owns h.rows (fun k hv hs=>?_),⟨h.rr.1,fun i p hp=>?_⟩,fun i lv hi k hb=>?_,h.ok⟩
 ·have h1:=dY h.rows hv
  have:=hS k hs;omega
 ·obtain⟨a,b,lv,c,d⟩:=h.rr.2 i p hp
  refine⟨a,b,lv,c,d.kept hk (fun k hb hs=>?_)⟩;have h1:=h.sep i lv c k hb;have:=hS k hs;omega
 ·have h1:=h.sep i lv hi k hb
  exact⟨h1.1,Pe h1.2.1 hk.size,h1.2.2⟩
theorem yG.tab {wr:World}{D:Nat}{T:Tab}{v:Value}{nv:Nat}{cs:List Value}(h:yG wr D T v nv cs):RTabAt wr D T:=⟨⟨v,h.obj,cs,Reads.aN h.rows,h.rr⟩,h.ok⟩
theorem yG.afy {wr:World}{D n:Nat}{T:Tab}{v:Value}{nv:Nat}{cs:List Value}(h:yG wr D T v nv cs)(hn:n<=D):bF wr (fun q=>n<=q) D T:=
 ⟨h.ok,hn,v,cs,h.obj,Reads.aN h.rows,h.rr,fun b hb=>by have:=(dY h.rows (uQ hb)).1;omega,fun i lv hl b hb=>by have:=(h.sep i lv hl b hb).1;omega⟩
def YM (X C:Nat):Nat->Prop:=fun k=>k=X\/C<=k
structure CV (W4 wr:World)(X C:Nat)(v2:Int)(x:Rd Int)(j:Nat)(lv:Value)(n:Nat)(L:List Int):Prop where
 st:qg wr X (bU j x)
 cell:wr.heap[C]?=some (.cells #[.int .i64 v2,lv] 109 (0,0))
 own:wr.ownsRow (C+1) 2 1 lv n (ints L)
 len:L.length=j
 val: ∀ns r,bU j x= .ok ns r->L=ns
 kept:ε (YM X C) W4 wr
theorem CV.step {W4 wr w3:World}{X C:Nat}{v2:Int}{x:Rd Int}{j n:Nat}{lv:Value}{L:List Int}{e:Ending}(h:CV W4 wr X C v2 x j lv n L)
 (hX:X<C) (hj:j<16) (hq:Du wr.drew X (bU j x) e w3):
 ∃v7 n7 w7,(Builtin.append_ #[97,97] 97 #[lv,.slice (some ⟨w3.heap.size,0,none⟩) 1 1]).run Tryz.prog (w3.alloc (.cells #[.int .i64 (dM 0 (numAt bg hi64 (bU j x)))] 2))= .ok v7 w7/\
  ε (fun k=>k=X\/C<k) wr w3/\ε (fun k=>k=X\/C<k) wr w7/\w7.cell? ⟨C,1,none⟩=some lv/\w7.frozen? ⟨C,1,none⟩=false/\(∃a c,v7= .slice a n7 c)/\
  CV W4 (w7.setCell ⟨C,1,none⟩ v7) X C v2 x (j+1) v7 n7 (L++[dM 0 (numAt bg hi64 (bU j x))]):=by
 have hCl:=lt_of_block h.cell;have dI:ε (one X) wr w3:=hq.2.2.aZ;have k3:ε (fun k=>k=X\/C<k) wr w3:=dI.mono (fun k _ hk=> .inl hk)
 have hnS: ¬(C=X\/C<C):=fun h=>by rcases h with h|h<;>omega
 have hown3:w3.ownsRow (C+1) 2 1 lv n (ints L):=dI.owns h.own (fun k hk hs=>by have:=(dY h.own hk).1;unfold one at hs;omega);have kA:ε η w3 (w3.alloc (.cells #[.int .i64 (dM 0 (numAt bg hi64 (bU j x)))] 2)):=δ.alloc _;obtain⟨vv,hvv⟩: ∃vv,dM 0 (numAt bg hi64 (bU j x))=vv:=⟨_,rfl⟩;have hval: ∀n r,numAt bg hi64 (bU j x)= .ok n r->vv=n:=fun n r hn=>(by rw[<-hvv,hn];rfl);rw[hvv]at kA⊢;clear hvv;have hn:n=L.length:=(by have:=hown3.1;simp[ints]at this;omega);have hl:=h.len;obtain⟨i2,hi2,hz2,hs2,hb2⟩:=info_parts Tryz.info2;obtain⟨v7,n7,w7,b1,b2,b3,b4,b5⟩:=aW (P:=Tryz.prog) (C+1) 97 97 2 i2 (.int .i64 0) 1 8 Tryz.underlying97 hi2 hz2 hs2 hb2 rfl (by omega) (kA.owns hown3 (fun _ _ h=>h)) (Reads.lit w3 [.int .i64 vv] 2 1 1 rfl (by unfold maxLen;omega)) (mQ [vv]) (by simp;omega) (by unfold maxLen;simp;omega) (by have:=k3.size;simp;omega);have k37:ε (fun k=>C<k) w3 w7:=kA.pure.trans (ε.grown b4 (fun g hg _=>by have:=(dY (kA.owns hown3 (fun _ _ h=>h)) hg).1;omega));have k7:ε (fun k=>k=X\/C<k) wr w7:=k3.trans (k37.mono (fun k _ hk=> .inr hk));have c7:=lW (k7.heap h.cell hnS);have k8:ε (one C) w7 (w7.setCell ⟨C,1,none⟩ v7):=(ε.refl (one C) w7).setCell (p:=⟨C,1,none⟩) (.inl rfl) _;refine⟨v7,n7,w7,b1,k3,k7,c7.2.1,c7.2.2.1,au b2,⟨?_,c7.2.2.2 v7,?_,?_,?_,?_⟩⟩
 ·refine qg.Ve ?_
  exact((hq.2.1.kept k37 (fun h=>by omega)).kept k8 (fun h=>by unfold one at h;omega))
 ·refine k8.owns ?_ (fun k hk e=>by have:=(dY b2 hk).1;unfold one at e;omega)
  unfold ints at b2⊢;rw[abM];exact b2
 ·rw[ν,hl];rfl
 ·intro ns r hnr
  rw[vC]at hnr
  cases h1:bU j x with
  |err f=>rw[h1]at hnr;cases hnr
  |ok ms r1=>
   rw[h1]at hnr;simp only[Rd.bind]at hnr
   cases h2:num bg hi64 r1 with
   |err f=>rw[h2]at hnr;cases hnr
   |ok q r2=>
    rw[h2]at hnr
    injection hnr with h3 h4
    rw[<-h3,h.val ms r1 h1,hval q r2 (by rw[h1];exact h2)]
 ·exact(h.kept.trans (k7.mono (fun k _ hk=>by rcases hk with h|h;exact .inl h;exact .inr (by omega)))).trans (k8.mono (fun k _ hk=> .inr (by unfold one at hk;omega)))
theorem yG.push {wr:World}{D C:Nat}{T:Tab}{v:Value}{nv:Nat}{cs:List Value}(h:yG wr D T v nv cs){key acc:Int}{lv:Value}{L:List Int}(hlv:Reads wr 1 lv (ints L))(hb: ∀k,Value.blk lv=some k->C<k)
 (Gn: ∀k,v.ownBlock=some k->k<C) (hDC:D<C) (h1:aH key) (h2:G8 (acc,L)) (hm:gY T key=true) (hone:lv.oneCell'=true):
 ∃v' n' w',(Builtin.append_ #[101,101] 101 #[v,.slice (some ⟨wr.heap.size,0,none⟩) 1 1]).run Tryz.prog (wr.alloc (.cells #[.int .i64 key,.int .i64 acc,lv] 122))= .ok v' w'/\(∃a c,v'= .slice a n' c)/\
  ε (fun k=>v.ownBlock=some k) wr w'/\w'.heap[D]?=some (.cells #[v] 103 (0,0))/\yG (w'.setCell ⟨D,0,none⟩ v') D (T++[(key,(acc,L))]) v' n' (cs++[.int .i64 key,.int .i64 acc,lv]):=by
 have hD:=lt_of_block h.obj;have kA:ε η wr (wr.alloc (.cells #[.int .i64 key,.int .i64 acc,lv] 122)):=δ.alloc _;have hown:=kA.owns h.rows (fun _ _ h=>h);have hcl:=h.rr.1;have hTl:=h.ok.len;obtain⟨i,z,hi,hz,hs,hby,hzs⟩:=Tryz.info122;have hn:=hown.1;have abW: ∀x∈[Value.int .i64 key,.int .i64 acc,lv],x.oneCell'=true:=by
  intro x hx;simp only[abR,List.not_mem_nil,or_false]at hx
  rcases hx with rfl|rfl|rfl
  ·rfl
  ·rfl
  ·exact hone
 obtain⟨v',n',w',g1,g2,g3,g4,g5⟩:=aW (P:=Tryz.prog) (D+1) 101 101 122 i z 3 40 Tryz.underlying101 hi hz hs hby hzs (by omega) hown (Reads.lit wr [.int .i64 key,.int .i64 acc,lv] 122 3 1 rfl (by unfold maxLen;omega)) abW (by simp only[φ,Γ];omega) (by unfold maxLen;simp only[φ,Γ];omega) (ω (by omega) kA.size)
 have hw:=tZ (P:=Tryz.prog) (D+1) 101 101 122 i z 3 40 Tryz.underlying101 hi hz hs hby v nv cs hown ⟨wr.heap.size,0,none⟩ 1 1 [.int .i64 key,.int .i64 acc,lv] rfl (fun j x hj=>by
  match j,hj with
  |0,hj=>simp at hj;subst hj;rw[Addr.add_lit];simp
  |1,hj=>simp at hj;subst hj;rw[Addr.add_lit];simp
  |2,hj=>simp at hj;subst hj;rw[Addr.add_lit];simp) abW (by omega) (by unfold maxLen;omega) (by omega) g1
 have k7:ε (fun k=>v.ownBlock=some k) wr w':=kA.pure.trans (ε.grown g4 (fun k hk _=>hk));have kD:ε (fun k=>D<k) wr w':=k7.mono (fun k _ hk=>by have:=(dY h.rows hk).1;omega);have dP:w'.heap[D]?=some (.cells #[v] 103 (0,0)):=kD.heap h.obj (fun hh=>by omega);have k8:ε (one D) w' (w'.setCell ⟨D,0,none⟩ v'):=(ε.refl (one D) w').setCell (p:=⟨D,0,none⟩) (.inl rfl) _;have hsz:wr.heap.size+1<=w'.heap.size:=(by have:=g4.size;simpa using this);have afK: ∀k,Value.blk lv=some k->k<wr.heap.size:=fun k hk=>by obtain⟨c,E,f,he⟩:=hlv.isCells (by omega) hk;exact(κ.1 he).1
 have keep: ∀(u:Value)(M:List Int),Reads wr 1 u (ints M)->(∀k,Value.blk u=some k->D<k/\v.ownBlock≠some k)->Reads (w'.setCell ⟨D,0,none⟩ v') 1 u (ints M):=fun u M hu hub=>
  (hu.kept k7 (fun k hk hs=>(hub k hk).2 hs)).kept k8 (fun k hk hs=>by have:=(hub k hk).1;unfold one at hs;omega)
 have aaV: ∀k,Value.blk lv=some k->D<k/\v.ownBlock≠some k:=fun k hk=>⟨by have:=hb k hk;omega,fun e=>by have:=hb k hk;have:=Gn k e;omega⟩;refine⟨v',n',w',g1,au g2,k7,dP,⟨one_setCell dP,k8.owns g2 (fun k hk e=>by have:=(dY g2 hk).1;unfold one at e;omega),⟨by rw[ν,ν,hcl];simp;omega,fun j p hp=>?_⟩,fun j u hj k hk=>?_,h.ok.push h1 h2 hm⟩⟩
 ·by_cases hj:j<T.length
  ·rw[Ω hj]at hp
   obtain⟨a,b,u,c,d⟩:=h.rr.2 j p hp;refine⟨by rw[Ω (by omega)];exact a,by rw[Ω (by omega)];exact b,u,by rw[Ω (by omega)];exact c,keep u _ d (fun k hk=>?_)⟩;have h3:=h.sep j u c k hk;exact⟨h3.1,h3.2.2⟩
  ·have hjT:j=T.length:=by
    have:=(μ.1 hp).1;rw[ν,List.length_singleton]at this;omega
   subst hjT;rw[Ψ (ξ _),Nat.sub_self]at hp;simp only[abE,Option.some.injEq]at hp;subst hp;have e0:T.length*3-cs.length=0:=(by omega);have e1:T.length*3+1-cs.length=1:=(by omega);have e2:T.length*3+2-cs.length=2:=(by omega);exact⟨by rw[Ψ (by omega),e0];rfl,by rw[Ψ (by omega),e1];rfl,lv,by rw[Ψ (by omega),e2];rfl,keep lv L hlv aaV⟩
 ·have hh:D<k/\k<wr.heap.size/\v.ownBlock≠some k:=by
   by_cases hj2:j*3+2<cs.length
   ·rw[Ω hj2]at hj
    exact h.sep j u hj k hk
   ·have hjc:j*3+2=cs.length+2:=by
     have:=(μ.1 hj).1;rw[ν]at this;simp only[φ,Γ]at this;omega
    rw[Ψ (by omega),hjc,Nat.add_sub_cancel_left]at hj;simp only[abG,abE,Option.some.injEq]at hj;subst hj;exact⟨(aaV k hk).1,afK k hk,(aaV k hk).2⟩
  refine⟨hh.1,by have:=k8.size;omega,fun e=>?_⟩
  rcases hw k e with h3|h3
  ·exact hh.2.2 h3
  ·rw[World.size_alloc]at h3;omega
