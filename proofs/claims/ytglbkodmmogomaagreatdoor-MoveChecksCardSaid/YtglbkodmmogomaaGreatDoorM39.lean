/- The document's Take of a number, changelingref02.Take(99). -/
import Derived.Test.YtglbkodmmogomaaGreatDoorM38
set_option linter.unusedVariables false
set_option linter.unusedSimpArgs false
set_option maxHeartbeats 4000000
set_option maxRecDepth 100000
namespace Go.Proofs.YtglbkodmmogomaaGreatDoor
open Go Go.RowKit
def hor:List UInt8->Nat
 |[]=>0
 |c::r=>c.toNat%128+128*hor r
theorem vI: ∀(p q:List UInt8),hor (p++q)=hor p+128^p.length*hor q
 |[],q=>by simp[hor]
 |c::p,q=>by
  simp only[List.cons_append,hor,vI p q,List.length_cons,Nat.pow_succ]
  rw[Nat.mul_add,<-Nat.mul_assoc,Nat.mul_comm 128 (128^p.length)]
  omega
theorem NK: ∀p:List UInt8,hor p<128^p.length
 |[]=>by simp[hor]
 |c::p=>by
  have ih:=NK p
  simp only[hor,List.length_cons,Nat.pow_succ]
  omega
theorem zM: ∀(p:List UInt8)(i U:Nat)(r:List UInt8),(∀c∈p,128<=c.toNat)->i+p.length<=9->eF i U (p++r)=eF (i+p.length) (U+hor p*128^i) r
 |[],i,U,r,_,_=>by simp[hor]
 |c::p,i,U,r,h,hi=>by
  rw[List.length_cons]at hi
  have hc:=h c (by simp)
  rw[List.cons_append,eF,if_neg (by omega),if_pos hc,zM p (i+1) _ r (fun d hd=>h d (by simp[hd])) (by omega)]
  have e1:i+1+p.length=i+(c::p).length:=by rw[List.length_cons];omega
  have e2:U+c.toNat%128*128^i+hor p*128^(i+1)=U+hor (c::p)*128^i:=by
   simp only[hor]
   rw[Nat.pow_succ,Nat.add_mul,Nat.mul_comm 128 (hor p),Nat.mul_assoc,Nat.mul_comm 128 (128^i)]
   omega
  rw[e1,e2]
theorem Bv {l p r:List UInt8}(hl:l=p++r)(hp: ∀c∈p,128<=c.toNat)(h9:p.length<=9):tk l=eF p.length (hor p) r:=by
 unfold tk
 rw[hl,zM p 0 0 r hp (by omega)]
 simp
theorem EG {l:List UInt8}(hp: ∀c∈l,128<=c.toNat)(h9:l.length<=9):tk l=(0,0,20):=by
 rw[Bv (p:=l) (r:=[]) (by simp) hp h9];rfl
theorem IQ {p r:List UInt8}{c:UInt8}(hp: ∀c∈p,128<=c.toNat)(h9:p.length<=9)(hc:c.toNat<128)(xI:p.length=9->c.toNat<=1):
 tk (p++c::r)=if 0<p.length/\c.toNat=0 then(0,0,21)else(je (hor (p++[c])),p.length+1,0):=by
 rw[Bv (p:=p) (r:=c::r) rfl hp h9,eF,if_neg (fun h=>by have:=xI h.1;omega),if_neg (by omega)]
 by_cases h0:0<p.length/\c.toNat=0
 ·rw[if_pos ⟨h0.2,h0.1⟩,if_pos h0]
 ·rw[if_neg (fun h=>h0 ⟨h.2,h.1⟩),if_neg h0,vI]
  simp only[hor,Nat.mul_zero,Nat.add_zero]
  rw[Nat.mul_comm (128^p.length)]
theorem EH {p r:List UInt8}{c:UInt8}(hp: ∀c∈p,128<=c.toNat)(h9:p.length=9)(hc:1<c.toNat):tk (p++c::r)=(0,0,21):=by
 rw[Bv (p:=p) (r:=c::r) rfl hp (by omega),eF,if_pos ⟨h9,hc⟩]
theorem FX {l:List UInt8}{j:Nat}(h:j<l.length):hor (l.drop j)=l[j].toNat%128+128*hor (l.drop (j+1)):=by
 rw[List.drop_eq_getElem_cons h];rfl
theorem DF {p:List UInt8}{c:UInt8}(h9:p.length<=9)(hc:c.toNat<128)(xI:p.length=9->c.toNat<=1){i:Nat}(hi:i<=p.length):hor ((p++[c]).drop i)<18446744073709551616:=by
 rw[List.drop_append_of_le_length hi,vI]
 have h1:=NK (p.drop i)
 rw[List.length_drop]at*
 simp only[hor,Nat.mul_zero,Nat.add_zero]
 rw[Nat.mod_eq_of_lt hc]
 by_cases h:p.length=9
 ·have h2:128^(p.length-i)<=128^9:=Nat.pow_le_pow_right (by omega) (by omega)
  rw[Kr]at h2
  have h3:128^(p.length-i)*c.toNat<=128^(p.length-i)*1:=Nat.mul_le_mul_left _ (xI h)
  omega
 ·have h2:128^(p.length-i)<=128^8:=Nat.pow_le_pow_right (by omega) (by omega)
  have h4:(128:Nat)^8=72057594037927936:=by decide
  have h3:128^(p.length-i)*c.toNat<=128^(p.length-i)*127:=Nat.mul_le_mul_left _ (by omega)
  omega
theorem AZ {u:Nat}(h: ¬u%2=1):je u=((u/2:Nat):Int):=by unfold je;rw[if_pos (by omega)]
theorem D6 {u:Nat}(h:u%2=1):je u= -((u/2:Nat):Int)-1:=by unfold je;rw[if_neg (by omega)]
theorem qm {s:ByteArray}{k:Nat}(h:k<s.size):s.data.toList=s.data.toList.take k++s[k]::s.data.toList.drop (k+1):=by
 have e:s.data.toList.drop k=s[k]::s.data.toList.drop (k+1):=by rw[List.drop_eq_getElem_cons (by simpa using h)];rfl
 rw[<-e,List.take_append_drop]
theorem Me (s:ByteArray)(hs:s.size<=maxLen)(w:World):Calls Tryz.prog 100 #[.string s] w (Xo w (tk s.data.toList)):=by
 unfold maxLen at hs
 have hsz:s.data.toList.length=s.size:=by simp
 have jV:=Lib.hid hsz
 clear hsz
 go_enter Tryz.func100,Tryz.ntmps100
 go_wp2_with fail
 go_loopg [5] 11 (fun g vi wr=> ∃k:Nat,vi= .int .i64 (k:Int)/\k<=10/\k<=s.size/\(∀c∈s.data.toList.take k,128<=c.toNat)/\11-k<=g/\wr=w)
 case atStart=>exact⟨0,rfl,by omega,by omega,by simp,by omega,rfl⟩
 case round=>
  obtain⟨k,rfl,hk,hks,hp,hg,rfl⟩:=hrel
  have HP:=Lib.hid (And.intro hp hg)
  clear hp hg
  by_cases hgo:k<s.size/\k<10/\ ∃h:k<s.size,127<s[k].toNat
  ·obtain⟨h1,h2,_,h3⟩:=hgo
   have h3i:(127:Int)<(s[k].toNat:Int):=by omega
   have F:=Lib.hid (show∀c∈s.data.toList.take (k+1),128<=c.toNat from by
    intro c hc
    rw[List.take_add_one,List.getElem?_eq_getElem (by rw[jV.out];exact h1)]at hc
    rcases List.mem_append.1 hc with hc|hc
    ·exact HP.out.1 c hc
    ·simp only[Option.toList_some,List.mem_singleton]at hc
     rw[hc];exact h3)
   clear h3
   go_wp2_with fail
   go_roundg (11-(k+1))
   case rel=>exact⟨k+1,by go_num,by omega,by omega,F.out,Nat.le_refl _,rfl⟩
   case measure=>have:=HP.out.2;omega
  ·have ways:(k=10/\s.size=10)\/(k=10/\10<s.size)\/(k=9/\s.size=9)\/(k=s.size/\k<9)\/(∃h:k<s.size,k=9/\ ¬127<s[k].toNat/\1<s[k].toNat)\/(∃h:k<s.size,k=9/\s[k].toNat<=1)\/(∃h:k<s.size,k<9/\ ¬127<s[k].toNat):=by
    by_cases h1:k<s.size
    ·by_cases h2:k<10
     ·have h3: ¬127<s[k].toNat:=fun h=>hgo ⟨h1,h2,h1,h⟩
      by_cases h4:k=9
      ·by_cases h5:1<s[k].toNat
       ·exact .inr (.inr (.inr (.inr (.inl ⟨h1,h4,h3,h5⟩))))
       ·exact .inr (.inr (.inr (.inr (.inr (.inl ⟨h1,h4,by omega⟩)))))
      ·exact .inr (.inr (.inr (.inr (.inr (.inr ⟨h1,by omega,h3⟩)))))
     ·exact .inr (.inl ⟨by omega,by omega⟩)
    ·by_cases h2:k=10
     ·exact .inl ⟨h2,by omega⟩
     ·by_cases h3:k=9
      ·exact .inr (.inr (.inl ⟨h3,by omega⟩))
      ·exact .inr (.inr (.inr (.inl ⟨by omega,by omega⟩)))
   clear hgo
   rcases ways with⟨rfl,h1⟩|⟨rfl,h1⟩|⟨rfl,h1⟩|⟨h1,h2⟩|⟨hlt,rfl,h1,h2⟩|⟨hlt,h1,h2⟩|⟨hlt,h1,h2⟩
   ·have wE:9<s.size:=by omega
    have T:=Lib.hid (show tk s.data.toList=(0,0,21)from by
     rw[qm (k:=9) wE]
     refine EH (fun c hc=>HP.out.1 c (by rw[List.take_add_one];exact List.mem_append_left _ hc)) (by rw[List.length_take,jV.out];omega) ?_
     have:=HP.out.1 (s[9]'wE) (by rw[List.take_add_one,List.getElem?_eq_getElem (by rw[jV.out];omega)];exact List.mem_append_right _ (by simp;rfl))
     omega)
    have b1:(1:Int)<((s[9]'wE).toNat:Int):=by
     have:=HP.out.1 (s[9]'wE) (by rw[List.take_add_one,List.getElem?_eq_getElem (by rw[jV.out];omega)];exact List.mem_append_right _ (by simp;rfl))
     omega
    have b2: ¬(10:Int)<(s.size:Int):=by omega
    have b3:(9:Int)<(s.size:Int):=by omega
    have H1:=Lib.hid h1
    clear h1
    go_wp2_with fail
    go_ret3
    rw[T.out]
    exact⟨rfl,rfl⟩
   ·have wE:9<s.size:=by omega
    have T:=Lib.hid (show tk s.data.toList=(0,0,21)from by
     rw[qm (k:=9) wE]
     refine EH (fun c hc=>HP.out.1 c (by rw[List.take_add_one];exact List.mem_append_left _ hc)) (by rw[List.length_take,jV.out];omega) ?_
     have:=HP.out.1 (s[9]'wE) (by rw[List.take_add_one,List.getElem?_eq_getElem (by rw[jV.out];omega)];exact List.mem_append_right _ (by simp;rfl))
     omega)
    have b1:(1:Int)<((s[9]'wE).toNat:Int):=by
     have:=HP.out.1 (s[9]'wE) (by rw[List.take_add_one,List.getElem?_eq_getElem (by rw[jV.out];omega)];exact List.mem_append_right _ (by simp;rfl))
     omega
    have b2:(10:Int)<(s.size:Int):=by omega
    have b3:(9:Int)<(s.size:Int):=by omega
    go_wp2_with fail
    go_ret3
    rw[T.out]
    exact⟨rfl,rfl⟩
   ·have T:=Lib.hid (show tk s.data.toList=(0,0,20)from by
     have hp:=HP.out.1
     rw[List.take_of_length_le (by rw[jV.out];omega)]at hp
     exact EG hp (by rw[jV.out];omega))
    have b2: ¬(9:Int)<(s.size:Int):=by omega
    have b3:((9:Int)==(s.size:Int))=true:=beq_iff_eq.2 (by omega)
    have H1:=Lib.hid h1
    clear h1
    go_wp2_with fail
    go_ret3
    rw[T.out]
    exact⟨rfl,rfl⟩
   ·have T:=Lib.hid (show tk s.data.toList=(0,0,20)from by
     have hp:=HP.out.1
     rw[List.take_of_length_le (by rw[jV.out];omega)]at hp
     exact EG hp (by rw[jV.out];omega))
    have b2: ¬(k:Int)<(s.size:Int):=by omega
    have b3:((k:Int)==(s.size:Int))=true:=beq_iff_eq.2 (by omega)
    have b4: ¬(9:Int)<=(k:Int):=by omega
    have H1:=Lib.hid h1
    clear h1
    go_wp2_with fail
    go_ret3
    rw[T.out]
    exact⟨rfl,rfl⟩
   ·have T:=Lib.hid (show tk s.data.toList=(0,0,21)from by
     rw[qm hlt]
     exact EH HP.out.1 (by rw[List.length_take,jV.out];omega) h2)
    have b1:(1:Int)<(s[9].toNat:Int):=by omega
    have b2: ¬(127:Int)<(s[9].toNat:Int):=by omega
    have b3:(9:Int)<(s.size:Int):=by omega
    go_wp2_with fail
    go_ret3
    rw[T.out]
    exact⟨rfl,rfl⟩
   ·have wE:9<s.size:=by omega
    have b1: ¬(1:Int)<((s[9]'wE).toNat:Int):=by
     have e:s[9]'wE=s[k]:=by congr 1;omega
     rw[e];omega
    have hc128:s[k].toNat<128:=by omega
    have xI:k=9->s[k].toNat<=1:=fun h=>by omega
    have b2: ¬(127:Int)<(s[k].toNat:Int):=by omega
    have b3:(9:Int)<(s.size:Int):=by omega
    have b4:(9:Int)<=(k:Int):=by omega
    have hk9:k<=9:=by omega
    have HK9:=Lib.hid h1
    clear h1
    have HL:=Lib.hid (And.intro HP.out.1 (And.intro hc128 (And.intro xI hlt)))
    have hkz:((k:Int)==(s.size:Int))=false:=beq_eq_false_iff_ne.2 (by omega)
    have htk:=IQ (r:=s.data.toList.drop (k+1)) (c:=s[k]) HP.out.1 (by rw[List.length_take];omega) hc128 (fun h=>xI (by rw[List.length_take,jV.out]at h;omega))
    rw[<-qm hlt,List.length_take,jV.out,Nat.min_eq_left (by omega)]at htk
    have Eb:=Lib.hid htk
    clear htk xI
    by_cases hz:0<k/\s[k].toNat=0
    ·have T:=Lib.hid (show tk s.data.toList=(0,0,21) by rw[Eb.out,if_pos hz])
     have z1:(0:Int)<(k:Int):=by omega
     have z2:((s[k].toNat:Int)==0)=true:=by rw[hz.2];rfl
     clear hz
     go_wp2_with fail
     go_ret3
     rw[T.out]
     exact⟨rfl,rfl⟩
    ·have T:=Lib.hid (show tk s.data.toList=(je (hor (s.data.toList.take (k+1))),k+1,0) by
      rw[Eb.out,if_neg hz,List.take_add_one,List.getElem?_eq_getElem (by rw[jV.out];exact hlt)]
      rfl)
     have HB:=Lib.hid (show∀i,i<=k->hor ((s.data.toList.take (k+1)).drop i)<18446744073709551616 from fun i hi=>by
      have:=DF (p:=s.data.toList.take k) (c:=s[k]) (by rw[List.length_take];omega) hc128 (fun h=>HL.out.2.2.1 (by rw[List.length_take,jV.out]at h;omega)) (i:=i) (by rw[List.length_take,jV.out];omega)
      rw[List.take_add_one,List.getElem?_eq_getElem (by rw[jV.out];exact hlt)]
      exact this)
     have hz':(¬(0:Int)<(k:Int))\/((0:Int)<(k:Int)/\((s[k].toNat:Int)==0)=false):=by
      by_cases h0:0<k
      ·exact .inr ⟨by omega,beq_eq_false_iff_ne.2 (fun e=>hz ⟨h0,by omega⟩)⟩
      ·exact .inl (by omega)
     clear hz hc128
     obtain⟨z1,z2⟩:=hz'.resolve_left (by omega)
     all_goals
      go_wp2_with fail
      go_loopg [6,7] 11 (fun g vu vi wr2=> ∃(j u:Nat)(x:Int),j<=k+1/\x=(j:Int)-1/\vi= .int .i64 x/\vu= .int .u64 (u:Int)/\u=hor ((s.data.toList.take (k+1)).drop j)/\j<=g/\wr2=wr)
      case atStart=>exact⟨k+1,0,(k:Int),by omega,by omega,rfl,rfl,by rw[List.drop_eq_nil_of_le (List.length_take_le _ _)];rfl,by omega,rfl⟩
      case round=>
       obtain⟨j,u,x,hj,hx,rfl,rfl,hu,hg,rfl⟩:=hrel
       have HU:=Lib.hid (And.intro hu hg)
       cases j with
       |zero=>
        obtain rfl:x= -1:=by omega
        have hub:=HB.out 0 (by omega)
        rw[<-hu]at hub
        rw[List.drop_zero]at hu
        have Ea:=Lib.hid hu
        clear hu hx hg
        by_cases hodd:u%2=1
        ·have o1:(((u:Int)%2)==1)=true:=beq_iff_eq.2 (by omega)
         have Hl:=Lib.hid (D6 hodd)
         clear hodd
         go_wp2_with fail
         go_ret3
         rw[T.out,<-Ea.out,Hl.out]
         exact⟨rfl,rfl⟩
        ·have o1:(((u:Int)%2)==1)=false:=beq_eq_false_iff_ne.2 (by omega)
         have Hl:=Lib.hid (AZ hodd)
         clear hodd
         go_wp2_with fail
         go_ret3
         rw[T.out,<-Ea.out,Hl.out]
         exact⟨rfl,rfl⟩
       |succ i=>
        obtain rfl:x=(i:Int):=by omega
        have hsi:i<s.size:=by omega
        have hil:i<(s.data.toList.take (k+1)).length:=by rw[List.length_take,jV.out];omega
        have hst:=FX hil
        have hget:(s.data.toList.take (k+1))[i]=s[i]'hsi:=by rw[List.getElem_take];rfl
        rw[hget,<-hu]at hst
        have hb:=HB.out i (by omega)
        rw[hst]at hb
        obtain⟨d,hd⟩: ∃d,(s[i]'hsi).toNat%128=d:=⟨_,rfl⟩
        rw[hd]at hst hb
        have hdi:((s[i]'hsi).toNat:Int)%128=(d:Int):=by omega
        have VD:d<128:=by omega
        have HS:=Lib.hid hst
        clear hst hd hget hu hx hg hil
        go_wp2_with fail
        go_roundg i
        case rel=>exact⟨i,128*u+d,(i:Int)-1,by omega,rfl,rfl,by go_num,by rw[HS.out];omega,Nat.le_refl _,rfl⟩
        case measure=>have:=HU.out.2;omega
   ·have hc128:s[k].toNat<128:=by omega
    have xI:k=9->s[k].toNat<=1:=fun h=>by omega
    have b2: ¬(127:Int)<(s[k].toNat:Int):=by omega
    have b4: ¬(9:Int)<=(k:Int):=by omega
    have HL:=Lib.hid (And.intro HP.out.1 (And.intro hc128 (And.intro xI hlt)))
    have hkz:((k:Int)==(s.size:Int))=false:=beq_eq_false_iff_ne.2 (by omega)
    have htk:=IQ (r:=s.data.toList.drop (k+1)) (c:=s[k]) HP.out.1 (by rw[List.length_take];omega) hc128 (fun h=>xI (by rw[List.length_take,jV.out]at h;omega))
    rw[<-qm hlt,List.length_take,jV.out,Nat.min_eq_left (by omega)]at htk
    have Eb:=Lib.hid htk
    clear htk xI
    by_cases hz:0<k/\s[k].toNat=0
    ·have T:=Lib.hid (show tk s.data.toList=(0,0,21) by rw[Eb.out,if_pos hz])
     have z1:(0:Int)<(k:Int):=by omega
     have z2:((s[k].toNat:Int)==0)=true:=by rw[hz.2];rfl
     clear hz
     go_wp2_with fail
     go_ret3
     rw[T.out]
     exact⟨rfl,rfl⟩
    ·have T:=Lib.hid (show tk s.data.toList=(je (hor (s.data.toList.take (k+1))),k+1,0) by
      rw[Eb.out,if_neg hz,List.take_add_one,List.getElem?_eq_getElem (by rw[jV.out];exact hlt)]
      rfl)
     have HB:=Lib.hid (show∀i,i<=k->hor ((s.data.toList.take (k+1)).drop i)<18446744073709551616 from fun i hi=>by
      have:=DF (p:=s.data.toList.take k) (c:=s[k]) (by rw[List.length_take];omega) hc128 (fun h=>HL.out.2.2.1 (by rw[List.length_take,jV.out]at h;omega)) (i:=i) (by rw[List.length_take,jV.out];omega)
      rw[List.take_add_one,List.getElem?_eq_getElem (by rw[jV.out];exact hlt)]
      exact this)
     have hz':(¬(0:Int)<(k:Int))\/((0:Int)<(k:Int)/\((s[k].toNat:Int)==0)=false):=by
      by_cases h0:0<k
      ·exact .inr ⟨by omega,beq_eq_false_iff_ne.2 (fun e=>hz ⟨h0,by omega⟩)⟩
      ·exact .inl (by omega)
     clear hz hc128
     rcases hz' with z1|⟨z1,z2⟩
     all_goals
      go_wp2_with fail
      go_loopg [6,7] 11 (fun g vu vi wr2=> ∃(j u:Nat)(x:Int),j<=k+1/\x=(j:Int)-1/\vi= .int .i64 x/\vu= .int .u64 (u:Int)/\u=hor ((s.data.toList.take (k+1)).drop j)/\j<=g/\wr2=wr)
      case atStart=>exact⟨k+1,0,(k:Int),by omega,by omega,rfl,rfl,by rw[List.drop_eq_nil_of_le (List.length_take_le _ _)];rfl,by omega,rfl⟩
      case round=>
       obtain⟨j,u,x,hj,hx,rfl,rfl,hu,hg,rfl⟩:=hrel
       have HU:=Lib.hid (And.intro hu hg)
       cases j with
       |zero=>
        obtain rfl:x= -1:=by omega
        have hub:=HB.out 0 (by omega)
        rw[<-hu]at hub
        rw[List.drop_zero]at hu
        have Ea:=Lib.hid hu
        clear hu hx hg
        by_cases hodd:u%2=1
        ·have o1:(((u:Int)%2)==1)=true:=beq_iff_eq.2 (by omega)
         have Hl:=Lib.hid (D6 hodd)
         clear hodd
         go_wp2_with fail
         go_ret3
         rw[T.out,<-Ea.out,Hl.out]
         exact⟨rfl,rfl⟩
        ·have o1:(((u:Int)%2)==1)=false:=beq_eq_false_iff_ne.2 (by omega)
         have Hl:=Lib.hid (AZ hodd)
         clear hodd
         go_wp2_with fail
         go_ret3
         rw[T.out,<-Ea.out,Hl.out]
         exact⟨rfl,rfl⟩
       |succ i=>
        obtain rfl:x=(i:Int):=by omega
        have hsi:i<s.size:=by omega
        have hil:i<(s.data.toList.take (k+1)).length:=by rw[List.length_take,jV.out];omega
        have hst:=FX hil
        have hget:(s.data.toList.take (k+1))[i]=s[i]'hsi:=by rw[List.getElem_take];rfl
        rw[hget,<-hu]at hst
        have hb:=HB.out i (by omega)
        rw[hst]at hb
        obtain⟨d,hd⟩: ∃d,(s[i]'hsi).toNat%128=d:=⟨_,rfl⟩
        rw[hd]at hst hb
        have hdi:((s[i]'hsi).toNat:Int)%128=(d:Int):=by omega
        have VD:d<128:=by omega
        have HS:=Lib.hid hst
        clear hst hd hget hu hx hg hil
        go_wp2_with fail
        go_roundg i
        case rel=>exact⟨i,128*u+d,(i:Int)-1,by omega,rfl,rfl,by go_num,by rw[HS.out];omega,Nat.le_refl _,rfl⟩
        case measure=>have:=HU.out.2;omega
def lU {α:Type}(w:World)(X:Nat):Rd α->Prop
 | .ok _ r=> ∃s:ByteArray,w.heap[X]?=some (.cells #[.string s, .int .i64 0] 118 (0,0))/\s.data.toList=r/\s.size<=maxLen
 | .err f=>f≠0/\ ∃s:ByteArray,w.heap[X]?=some (.cells #[.string s, .int .i64 f] 118 (0,0))
theorem lU.kept {α:Type}{w w':World}{X:Nat}{x:Rd α}{Q:Nat->Prop}(h:lU w X x)(hk:Kept Q w w')(hX: ¬Q X):lU w' X x:=by
 cases x with
 |ok a r=>obtain⟨s,h2,h3⟩:=h;exact⟨s,hk.heap h2 hX,h3⟩
 |err f=>obtain⟨h0,s,h2⟩:=h;exact⟨h0,s,hk.heap h2 hX⟩
theorem lU.lt {α:Type}{w:World}{X:Nat}{x:Rd α}(h:lU w X x):X<w.heap.size:=by
 cases x with
 |ok a r=>obtain⟨s,h2,h3⟩:=h;exact lt_of_block h2
 |err f=>obtain⟨h0,s,h2⟩:=h;exact lt_of_block h2
theorem lU.same {α β:Type}{w:World}{X:Nat}{x:Rd α}{y:Rd β}(h:lU w X x)(hok: ∀a r,x= .ok a r-> ∃b,y= .ok b r)(herr: ∀f,x= .err f->y= .err f):lU w X y:=by
 cases x with
 |ok a r=>obtain⟨b,rfl⟩:=hok a r rfl;exact h
 |err f=>rw[herr f rfl];exact h
theorem bJ {w:World}{b:Nat}{a u:Value}{E:TypeId}(h:w.heap[b]?=some (.cells #[a,u] E (0,0))):w.cell? ⟨b,0,none⟩=some a/\w.cell? ⟨b,1,none⟩=some u/\w.frozen? ⟨b,0,none⟩=false/\w.frozen? ⟨b,1,none⟩=false:=by
 refine⟨?_,?_,?_,?_⟩<;>simp[World.cell?,World.frozen?,h]
theorem Rq {w:World}{b:Nat}{a u v:Value}{E:TypeId}(h:w.heap[b]?=some (.cells #[a,u] E (0,0))):(w.setCell ⟨b,0,none⟩ v).heap[b]?=some (.cells #[v,u] E (0,0)):=by
 have hlt:=lt_of_block h
 have h':w.heap[b]= .cells #[a,u] E (0,0):=by simpa[Array.getElem?_eq_getElem hlt]using h
 show(w.heap.modify b _)[b]?=_
 rw[Array.getElem?_eq_getElem (by simpa using hlt),Array.getElem_modify_self,h']
 rfl
theorem oU {w:World}{b:Nat}{a u v:Value}{E:TypeId}(h:w.heap[b]?=some (.cells #[a,u] E (0,0))):(w.setCell ⟨b,1,none⟩ v).heap[b]?=some (.cells #[a,v] E (0,0)):=(jq h).2.2.2 v
theorem Jd {l:List UInt8}{n:Int}{z:Nat}(h:tk l=(n,z,0)):num aP hi64 l= .ok n (l.drop z):=by
 unfold num
 have h4:=(Qy h).2.2.2
 rw[h]
 simp only[ne_eq,not_true,if_false]
 rw[if_neg (by have:=h4.in;omega)]
theorem BH {lo hi:Int}{l:List UInt8}{n:Int}{z:Nat}{f:Int}(h:tk l=(n,z,f))(hf:f≠0):num lo hi l= .err f:=by
 unfold num;rw[h,if_pos hf]
theorem Rn {l:List UInt8}{n:Int}{z:Nat}{f:Int}(h:tk l=(n,z,f))(hf:f≠0):n=0/\z=0:=by
 have h0:(eF 0 0 l).2.2=f:=by unfold tk at h;rw[h]
 have h1:=zO l 0 0 (by rw[h0];exact hf)
 unfold tk at h
 rw[h]at h1
 injection h1 with h1 h2
 injection h2 with h2 h3
 exact⟨h1,h2⟩
def yA {α:Type}(w:World)(X:Nat)(x:Rd α)(e:Ending)(w':World):Prop:=
 e= .returned (.int .i64 (bK 0 (numAt aP hi64 x)))/\lU w' X (numAt aP hi64 x)/\Kept (one X) w w'
theorem pR {α:Type}(X:Nat)(x:Rd α)(w:World)(h:lU w X x):Calls Tryz.prog 54 #[.pointer (some ⟨X,0,none⟩)] w (yA w X x):=by
 cases x with
 |err f=>
  obtain⟨h0,s,h1⟩:=h
  obtain⟨c0,c1,f0,f1⟩:=bJ h1
  have F:yA (α:=α) w X (.err f) (.returned (.int .i64 0)) w:=⟨rfl,⟨h0,s,h1⟩,Kept.refl _ _⟩
  have FF:=Lib.hid F
  have hf:(f !=0)=true:=bne_iff_ne.2 h0
  clear F h0 h1
  go_enter Tryz.func54,Tryz.ntmps54
  go_wp2_with fail
  go_ret
  exact FF.out
 |ok a r=>
  obtain⟨s,h1,rfl,h3⟩:=h
  obtain⟨c0,c1,f0,f1⟩:=bJ h1
  have hX:=lt_of_block h1
  have hb:=Me s h3
  obtain⟨x,hx⟩: ∃x,tk s.data.toList=x:=⟨_,rfl⟩
  rw[hx]at hb
  obtain⟨n,z,f⟩:=x
  have hz:z<=s.size:=by
   have:=LZ s.data.toList
   rw[hx]at this
   exact this
  have hzi: ¬(s.size:Int)<(z:Int):=by omega
  have F:Hid (yA w X (.ok a s.data.toList) (.returned (.int .i64 n)) ((w.setCell ⟨X,1,none⟩ (.int .i64 f)).setCell ⟨X,0,none⟩ (.string (s.extract z s.size)))):=by
   show yA _ _ _ _ _
   have hh:=Rq (v:= .string (s.extract z s.size)) (oU (v:= .int .i64 f) h1)
   have hk:Kept (one X) w ((w.setCell ⟨X,1,none⟩ (.int .i64 f)).setCell ⟨X,0,none⟩ (.string (s.extract z s.size))):=((Kept.refl (one X) w).setCell (p:=⟨X,1,none⟩) (.inl rfl) _).setCell (p:=⟨X,0,none⟩) (.inl rfl) _
   unfold yA
   by_cases hf:f=0
   ·subst hf
    have e:numAt aP hi64 (Rd.ok a s.data.toList)= .ok n (s.data.toList.drop z):=Jd hx
    rw[e]
    exact⟨rfl,⟨_,hh,Lib.extract_to_end s z,by simp;omega⟩,hk⟩
   ·have e:numAt aP hi64 (Rd.ok a s.data.toList)= .err f:=BH hx hf
    rw[e]
    obtain⟨rfl,rfl⟩:=Rn hx hf
    exact⟨rfl,⟨hf,_,hh⟩,hk⟩
  have HB:=Lib.hid hb
  clear hx h1 h3 hb
  go_enter Tryz.func54,Tryz.ntmps54
  go_wp2_with fail
  (with_reducible refine(HB.out _).mono ?_)
  rintro e w1 ⟨rfl,rfl⟩
  go_wp2_with fail
  go_ret
  exact F.out
theorem O6 {α:Type}(most:Int)(x:Rd α):numAt 0 most x=match numAt aP hi64 x with
 | .ok n r=>if n<0\/most<n then .err 21 else .ok n r
 | .err f=> .err f:=by
 cases x with
 |err f=>rfl
 |ok a l=>
  show num 0 most l=match num aP hi64 l with| .ok n r=>_| .err f=>_
  obtain⟨y,hy⟩: ∃y,tk l=y:=⟨_,rfl⟩
  obtain⟨n,z,f⟩:=y
  by_cases hf:f=0
  ·subst hf
   rw[Jd hy]
   unfold num
   rw[hy]
   simp
  ·rw[BH hy hf,BH hy hf]
def jS {α:Type}(w:World)(X:Nat)(most:Int)(x:Rd α)(e:Ending)(w':World):Prop:=
 e= .returned (.int .i64 (bK 0 (numAt 0 most x)))/\lU w' X (numAt 0 most x)/\Kept (one X) w w'
theorem zV {α:Type}(X:Nat)(most:Int)(x:Rd α)(w:World)(h:lU w X x):Calls Tryz.prog 53 #[.pointer (some ⟨X,0,none⟩), .int .i64 most] w (jS w X most x):=by
 have HN:=Lib.hid (pR X x w h)
 have HE:=Lib.hid (O6 most x)
 clear h
 go_enter Tryz.func53,Tryz.ntmps53
 go_wp2_with fail
 (with_reducible refine HN.out.mono ?_)
 rintro e w1 ⟨rfl,hst,k1⟩
 have K1:=Lib.hid k1
 cases hx:numAt aP hi64 x with
 |err f=>
  rw[hx]at hst
  have e2:numAt 0 most x= .err f:=by rw[HE.out,hx]
  have F:Hid (jS w X most x (.returned (.int .i64 0)) w1):=by
   show jS _ _ _ _ _ _
   unfold jS
   rw[e2]
   exact⟨rfl,hst,k1⟩
  obtain⟨hf0,s,hs⟩:=hst
  obtain⟨c0,c1,f0,f1⟩:=bJ hs
  have hf1:(f==0)=false:=beq_eq_false_iff_ne.2 hf0
  have hf2:(f !=0)=true:=bne_iff_ne.2 hf0
  simp only[bK]
  clear hx e2 hs hf0 k1
  go_wp2_with fail
  go_ret
  exact F.out
 |ok n r=>
  rw[hx]at hst
  obtain⟨s,hs,hr,hl⟩:=hst
  obtain⟨c0,c1,f0,f1⟩:=bJ hs
  have hX:=lt_of_block hs
  simp only[bK]
  have ways:n<0\/(¬n<0/\most<n)\/(¬n<0/\ ¬most<n):=by omega
  rcases ways with g1|⟨g1,g2⟩|⟨g1,g2⟩
  ·have e2:numAt 0 most x= .err 21:=by rw[HE.out,hx];simp only;rw[if_pos (.inl g1)]
   have F:Hid (jS w X most x (.returned (.int .i64 0)) (w1.setCell ⟨X,1,none⟩ (.int .i64 21))):=by
    show jS _ _ _ _ _ _
    unfold jS
    rw[e2]
    exact⟨rfl,⟨by decide,s,oU hs⟩,k1.trans ((Kept.refl (one X) w1).setCell (p:=⟨X,1,none⟩) (.inl rfl) _)⟩
   clear hx e2 hs hr hl k1
   go_wp2_with fail
   go_ret
   exact F.out
  ·have e2:numAt 0 most x= .err 21:=by rw[HE.out,hx];simp only;rw[if_pos (.inr g2)]
   have F:Hid (jS w X most x (.returned (.int .i64 0)) (w1.setCell ⟨X,1,none⟩ (.int .i64 21))):=by
    show jS _ _ _ _ _ _
    unfold jS
    rw[e2]
    exact⟨rfl,⟨by decide,s,oU hs⟩,k1.trans ((Kept.refl (one X) w1).setCell (p:=⟨X,1,none⟩) (.inl rfl) _)⟩
   clear hx e2 hs hr hl k1
   go_wp2_with fail
   go_ret
   exact F.out
  ·have e2:numAt 0 most x= .ok n r:=by rw[HE.out,hx];simp only;rw[if_neg (by omega)]
   have F:Hid (jS w X most x (.returned (.int .i64 n)) w1):=by
    show jS _ _ _ _ _ _
    unfold jS
    rw[e2]
    exact⟨rfl,⟨s,hs,hr,hl⟩,k1⟩
   clear hx e2 hs hr hl k1
   go_wp2_with fail
   go_ret
   exact F.out
theorem noneE {P:Prop}{k:Nat}(h:none' k):P:=False.elim h
structure iq (w:World)(M:Nat->Prop)(D:Nat)(T:Tab):Prop where
 ok:iy T
 dot:M D
 out: ∃v cs,w.heap[D]?=some (.cells #[v] 103 (0,0))/\Reads w 3 v cs/\eH w cs T/\(∀b,Value.blk v=some b->M b)/\ ∀(i:Nat)(lv:Value),cs[i*3+2]?=some lv-> ∀b,Value.blk lv=some b->M b
theorem iq.at {w:World}{M:Nat->Prop}{D:Nat}{T:Tab}(h:iq w M D T):RTabAt w D T:=by
 obtain⟨v,cs,h1,h2,h3,_⟩:=h.out
 exact⟨⟨v,h1,cs,h2,h3⟩,h.ok⟩
theorem iq.mono {w:World}{M M':Nat->Prop}{D:Nat}{T:Tab}(h:iq w M D T)(hM: ∀q,M q->M' q):iq w M' D T:=by
 obtain⟨v,cs,h1,h2,h3,h4,h5⟩:=h.out
 exact⟨h.ok,hM _ h.dot,v,cs,h1,h2,h3,fun b hb=>hM b (h4 b hb),fun i lv hl b hb=>hM b (h5 i lv hl b hb)⟩
theorem iq.kept {w w':World}{M S:Nat->Prop}{D:Nat}{T:Tab}(h:iq w M D T)(hk:Kept S w w')(hS: ∀q,S q-> ¬M q):iq w' M D T:=by
 obtain⟨v,cs,h1,h2,h3,h4,h5⟩:=h.out
 refine⟨h.ok,h.dot,v,cs,hk.heap h1 (fun hs=>hS D hs h.dot),h2.kept hk (fun b hb hs=>hS b hs (h4 b hb)),⟨h3.1,fun i p hp=>?_⟩,h4,h5⟩
 obtain⟨a,b,lv,c,d⟩:=h3.2 i p hp
 exact⟨a,b,lv,c,d.kept hk (fun q hq hs=>hS q hs (h5 i lv c q hq))⟩
theorem RY {v:Value}{q:Nat}(h:Value.blk v=some q):v.ownBlock=some q:=by
 unfold Value.blk at h
 split at h
 ·split at h
  ·cases h
  ·exact h
 ·cases h
def dG (w:World)(l:List UInt8)(e:Ending)(w':World):Prop:=
 match gK l with
 | .ok T _=> ∃D,e= .returned (.tuple #[.pointer (some ⟨D,0,none⟩), .int .i64 0])/\RTabAt w' D T/\Kept none' w w'/\iq w' (fun q=>w.heap.size<=q) D T
 | .err f=>e= .returned (.tuple #[.pointer none, .int .i64 f])/\f≠0/\Kept none' w w'
theorem lU.Kz {w:World}{X j:Nat}{x:Rd Int}(h:lU w X (numAt aP hi64 (aU j x))):lU w X (aU (j+1) x):=by
 rw[pU]
 refine h.same (fun a r e=>?_) (fun f e=>?_)
 ·cases h1:aU j x with
  |err f=>rw[h1]at e;cases e
  |ok ns r1=>
   rw[h1]at e
   have e:num aP hi64 r1= .ok a r:=e
   exact⟨ns++[a],by simp only[Rd.bind];rw[e]⟩
 ·cases h1:aU j x with
  |err f'=>
   rw[h1]at e
   have e:Rd.err f'=Rd.err f:=e
   injection e with e
   rw[e];rfl
  |ok ns r1=>
   rw[h1]at e
   have e:num aP hi64 r1= .err f:=e
   simp only[Rd.bind];rw[e]
theorem Rw {r:List UInt8}{x1 x2 x3:Rd Int}{M:Nat}(h1:numAt aP hi64 (Rd.ok () r)=x1)(h2:numAt aP hi64 x1=x2)(h3:numAt 0 16 x2=x3)(hM:bK 0 x3=(M:Int)):
 (∀f,aU M x3= .err f->row r= .err f)/\(∀ns r4,aU M x3= .ok ns r4->row r= .ok (bK 0 x1,(bK 0 x2,ns)) r4):=by
 have h:=row_of h1 h2 h3 hM
 refine⟨h.1,fun ns r4 h4=>?_⟩
 rw[h.2 ns r4 h4]
 cases x1 with
 |err f1=>
  have e2:x2= .err f1:=by rw[<-h2];rfl
  subst e2
  have e3:x3= .err f1:=by rw[<-h3];rfl
  subst e3
  cases h4
 |ok key r1=>
  cases x2 with
  |err f2=>
   have e3:x3= .err f2:=by rw[<-h3];rfl
   subst e3
   cases h4
  |ok acc r2=>rfl
structure tu (wr:World)(D:Nat)(T:Tab)(v:Value)(nv:Nat)(cs:List Value):Prop where
 obj:wr.heap[D]?=some (.cells #[v] 103 (0,0))
 rows:wr.ownsRow (D+1) 122 3 v nv cs
 rr:eH wr cs T
 sep: ∀(i:Nat)(lv:Value),cs[i*3+2]?=some lv-> ∀k,Value.blk lv=some k->D<k/\k<wr.heap.size/\v.ownBlock≠some k
 ok:iy T
theorem tu.kept {wr w':World}{D:Nat}{T:Tab}{v:Value}{nv:Nat}{cs:List Value}{S:Nat->Prop}(h:tu wr D T v nv cs)(hk:Kept S wr w')(hS: ∀k,S k->k<D\/wr.heap.size<=k):tu w' D T v nv cs:=by
 have hD:=lt_of_block h.obj
 refine⟨hk.heap h.obj (fun hs=>by have:=hS D hs;omega),hk.owns h.rows (fun k hv hs=>?_),⟨h.rr.1,fun i p hp=>?_⟩,fun i lv hi k hb=>?_,h.ok⟩
 ·have h1:=dw h.rows hv
  have:=hS k hs
  omega
 ·obtain⟨a,b,lv,c,d⟩:=h.rr.2 i p hp
  refine⟨a,b,lv,c,d.kept hk (fun k hb hs=>?_)⟩
  have h1:=h.sep i lv c k hb
  have:=hS k hs
  omega
 ·have h1:=h.sep i lv hi k hb
  exact⟨h1.1,Nat.lt_of_lt_of_le h1.2.1 hk.size,h1.2.2⟩
theorem tu.tab {wr:World}{D:Nat}{T:Tab}{v:Value}{nv:Nat}{cs:List Value}(h:tu wr D T v nv cs):RTabAt wr D T:=⟨⟨v,h.obj,cs,Reads.bQ h.rows,h.rr⟩,h.ok⟩
theorem tu.Vr {wr:World}{D n:Nat}{T:Tab}{v:Value}{nv:Nat}{cs:List Value}(h:tu wr D T v nv cs)(hn:n<=D):iq wr (fun q=>n<=q) D T:=
 ⟨h.ok,hn,v,cs,h.obj,Reads.bQ h.rows,h.rr,fun b hb=>by have:=(dw h.rows (RY hb)).1;omega,fun i lv hl b hb=>by have:=(h.sep i lv hl b hb).1;omega⟩
def Nz (X C:Nat):Nat->Prop:=fun k=>k=X\/C<=k
structure xR (W4 wr:World)(X C:Nat)(v2:Int)(x:Rd Int)(j:Nat)(lv:Value)(n:Nat)(L:List Int):Prop where
 st:lU wr X (aU j x)
 cell:wr.heap[C]?=some (.cells #[.int .i64 v2,lv] 109 (0,0))
 own:wr.ownsRow (C+1) 2 1 lv n (ints L)
 len:L.length=j
 val: ∀ns r,aU j x= .ok ns r->L=ns
 kept:Kept (Nz X C) W4 wr
theorem xR.step {W4 wr w3:World}{X C:Nat}{v2:Int}{x:Rd Int}{j n:Nat}{lv:Value}{L:List Int}{e:Ending}(h:xR W4 wr X C v2 x j lv n L)
 (hX:X<C) (hj:j<16) (hq:yA wr.drew X (aU j x) e w3):
 ∃v7 n7 w7,(Builtin.append_ #[97,97] 97 #[lv, .slice (some ⟨w3.heap.size,0,none⟩) 1 1]).run Tryz.prog (w3.alloc (.cells #[.int .i64 (bK 0 (numAt aP hi64 (aU j x)))] 2))= .ok v7 w7/\
  Kept (fun k=>k=X\/C<k) wr w3/\Kept (fun k=>k=X\/C<k) wr w7/\w7.cell? ⟨C,1,none⟩=some lv/\w7.frozen? ⟨C,1,none⟩=false/\(∃a c,v7= .slice a n7 c)/\
  xR W4 (w7.setCell ⟨C,1,none⟩ v7) X C v2 x (j+1) v7 n7 (L++[bK 0 (numAt aP hi64 (aU j x))]):=by
 have hCl:=lt_of_block h.cell
 have jU:Kept (one X) wr w3:=hq.2.2.bP
 have k3:Kept (fun k=>k=X\/C<k) wr w3:=jU.mono (fun k _ hk=> .inl hk)
 have hnS: ¬(C=X\/C<C):=fun h=>by rcases h with h|h<;>omega
 have hown3:w3.ownsRow (C+1) 2 1 lv n (ints L):=jU.owns h.own (fun k hk hs=>by have:=(dw h.own hk).1;unfold one at hs;omega)
 have kA:Kept none' w3 (w3.alloc (.cells #[.int .i64 (bK 0 (numAt aP hi64 (aU j x)))] 2)):=(Kept.refl _ _).alloc _
 obtain⟨vv,hvv⟩: ∃vv,bK 0 (numAt aP hi64 (aU j x))=vv:=⟨_,rfl⟩
 have hval: ∀n r,numAt aP hi64 (aU j x)= .ok n r->vv=n:=fun n r hn=>by rw[<-hvv,hn];rfl
 rw[hvv]at kA⊢
 clear hvv
 have hn:n=L.length:=by have:=hown3.1;simp[ints]at this;omega
 have hl:=h.len
 obtain⟨i2,hi2,hz2,hs2,hb2⟩:=info_parts Tryz.info2
 obtain⟨v7,n7,w7,b1,b2,b3,b4,b5⟩:=bI (P:=Tryz.prog) (C+1) 97 97 2 i2 (.int .i64 0) 1 8 Tryz.underlying97 hi2 hz2 hs2 hb2 rfl (by omega) (kA.owns hown3 (fun _ _ h=>h)) (Reads.lit w3 [.int .i64 vv] 2 1 1 rfl (by unfold maxLen;omega)) (rU [vv]) (by simp;omega) (by unfold maxLen;simp;omega) (by have:=k3.size;simp;omega)
 have k37:Kept (fun k=>C<k) w3 w7:=kA.pure.trans (Kept.grown b4 (fun g hg _=>by have:=(dw (kA.owns hown3 (fun _ _ h=>h)) hg).1;omega))
 have k7:Kept (fun k=>k=X\/C<k) wr w7:=k3.trans (k37.mono (fun k _ hk=> .inr hk))
 have c7:=jq (k7.heap h.cell hnS)
 have k8:Kept (one C) w7 (w7.setCell ⟨C,1,none⟩ v7):=(Kept.refl (one C) w7).setCell (p:=⟨C,1,none⟩) (.inl rfl) _
 refine⟨v7,n7,w7,b1,k3,k7,c7.2.1,c7.2.2.1,ay b2,⟨?_,c7.2.2.2 v7,?_,?_,?_,?_⟩⟩
 ·refine lU.Kz ?_
  exact((hq.2.1.kept k37 (fun h=>by omega)).kept k8 (fun h=>by unfold one at h;omega))
 ·refine k8.owns ?_ (fun k hk e=>by have:=(dw b2 hk).1;unfold one at e;omega)
  unfold ints at b2⊢
  rw[List.map_append]
  exact b2
 ·rw[List.length_append,hl];rfl
 ·intro ns r hnr
  rw[pU]at hnr
  cases h1:aU j x with
  |err f=>rw[h1]at hnr;cases hnr
  |ok ms r1=>
   rw[h1]at hnr
   simp only[Rd.bind]at hnr
   cases h2:num aP hi64 r1 with
   |err f=>rw[h2]at hnr;cases hnr
   |ok q r2=>
    rw[h2]at hnr
    injection hnr with h3 h4
    rw[<-h3,h.val ms r1 h1,hval q r2 (by rw[h1];exact h2)]
 ·exact(h.kept.trans (k7.mono (fun k _ hk=>by rcases hk with h|h;exact .inl h;exact .inr (by omega)))).trans (k8.mono (fun k _ hk=> .inr (by unfold one at hk;omega)))
theorem tu.push {wr:World}{D C:Nat}{T:Tab}{v:Value}{nv:Nat}{cs:List Value}(h:tu wr D T v nv cs){key acc:Int}{lv:Value}{L:List Int}(hlv:Reads wr 1 lv (ints L))(hb: ∀k,Value.blk lv=some k->C<k)
 (Aq: ∀k,v.ownBlock=some k->k<C) (UY:D<C) (h1:bF key) (h2:Hr (acc,L)) (hm:eX T key=true) (hone:lv.oneCell'=true):
 ∃v' n' w',(Builtin.append_ #[101,101] 101 #[v, .slice (some ⟨wr.heap.size,0,none⟩) 1 1]).run Tryz.prog (wr.alloc (.cells #[.int .i64 key, .int .i64 acc,lv] 122))= .ok v' w'/\(∃a c,v'= .slice a n' c)/\
  Kept (fun k=>v.ownBlock=some k) wr w'/\w'.heap[D]?=some (.cells #[v] 103 (0,0))/\tu (w'.setCell ⟨D,0,none⟩ v') D (T++[(key,(acc,L))]) v' n' (cs++[.int .i64 key, .int .i64 acc,lv]):=by
 have hD:=lt_of_block h.obj
 have kA:Kept none' wr (wr.alloc (.cells #[.int .i64 key, .int .i64 acc,lv] 122)):=(Kept.refl _ _).alloc _
 have hown:=kA.owns h.rows (fun _ _ h=>h)
 have hcl:=h.rr.1
 have hTl:=h.ok.len
 obtain⟨i,z,hi,hz,hs,hby,hzs⟩:=Tryz.info122
 have hn:=hown.1
 have QM: ∀x∈[Value.int .i64 key, .int .i64 acc,lv],x.oneCell'=true:=by
  intro x hx
  simp only[List.mem_cons,List.not_mem_nil,or_false]at hx
  rcases hx with rfl|rfl|rfl
  ·rfl
  ·rfl
  ·exact hone
 obtain⟨v',n',w',g1,g2,g3,g4,g5⟩:=bI (P:=Tryz.prog) (D+1) 101 101 122 i z 3 40 Tryz.underlying101 hi hz hs hby hzs (by omega) hown (Reads.lit wr [.int .i64 key, .int .i64 acc,lv] 122 3 1 rfl (by unfold maxLen;omega)) QM (by simp only[List.length_cons,List.length_nil];omega) (by unfold maxLen;simp only[List.length_cons,List.length_nil];omega) (Nat.le_trans (by omega) kA.size)
 have hw:=G6 (P:=Tryz.prog) (D+1) 101 101 122 i z 3 40 Tryz.underlying101 hi hz hs hby v nv cs hown ⟨wr.heap.size,0,none⟩ 1 1 [.int .i64 key, .int .i64 acc,lv] rfl (fun j x hj=>by
  match j,hj with
  |0,hj=>simp at hj;subst hj;rw[Addr.add_lit];simp
  |1,hj=>simp at hj;subst hj;rw[Addr.add_lit];simp
  |2,hj=>simp at hj;subst hj;rw[Addr.add_lit];simp) QM (by omega) (by unfold maxLen;omega) (by omega) g1
 have k7:Kept (fun k=>v.ownBlock=some k) wr w':=kA.pure.trans (Kept.grown g4 (fun k hk _=>hk))
 have kD:Kept (fun k=>D<k) wr w':=k7.mono (fun k _ hk=>by have:=(dw h.rows hk).1;omega)
 have rX:w'.heap[D]?=some (.cells #[v] 103 (0,0)):=kD.heap h.obj (fun hh=>by omega)
 have k8:Kept (one D) w' (w'.setCell ⟨D,0,none⟩ v'):=(Kept.refl (one D) w').setCell (p:=⟨D,0,none⟩) (.inl rfl) _
 have hsz:wr.heap.size+1<=w'.heap.size:=by have:=g4.size;simpa using this
 have VB: ∀k,Value.blk lv=some k->k<wr.heap.size:=fun k hk=>by
  obtain⟨c,E,f,he⟩:=hlv.isCells (by omega) hk
  exact(Array.getElem?_eq_some_iff.1 he).1
 have keep: ∀(u:Value)(M:List Int),Reads wr 1 u (ints M)->(∀k,Value.blk u=some k->D<k/\v.ownBlock≠some k)->Reads (w'.setCell ⟨D,0,none⟩ v') 1 u (ints M):=fun u M hu hub=>
  (hu.kept k7 (fun k hk hs=>(hub k hk).2 hs)).kept k8 (fun k hk hs=>by have:=(hub k hk).1;unfold one at hs;omega)
 have P7: ∀k,Value.blk lv=some k->D<k/\v.ownBlock≠some k:=fun k hk=>⟨by have:=hb k hk;omega,fun e=>by have:=hb k hk;have:=Aq k e;omega⟩
 refine⟨v',n',w',g1,ay g2,k7,rX,⟨one_setCell rX,k8.owns g2 (fun k hk e=>by have:=(dw g2 hk).1;unfold one at e;omega),⟨by rw[List.length_append,List.length_append,hcl];simp;omega,fun j p hp=>?_⟩,fun j u hj k hk=>?_,h.ok.push h1 h2 hm⟩⟩
 ·by_cases hj:j<T.length
  ·rw[List.getElem?_append_left hj]at hp
   obtain⟨a,b,u,c,d⟩:=h.rr.2 j p hp
   refine⟨by rw[List.getElem?_append_left (by omega)];exact a,by rw[List.getElem?_append_left (by omega)];exact b,u,by rw[List.getElem?_append_left (by omega)];exact c,keep u _ d (fun k hk=>?_)⟩
   have h3:=h.sep j u c k hk
   exact⟨h3.1,h3.2.2⟩
  ·have hjT:j=T.length:=by
    have:=(List.getElem?_eq_some_iff.1 hp).1
    rw[List.length_append,List.length_singleton]at this
    omega
   subst hjT
   rw[List.getElem?_append_right (Nat.le_refl _),Nat.sub_self]at hp
   simp only[List.getElem?_cons_zero,Option.some.injEq]at hp
   subst hp
   have e0:T.length*3-cs.length=0:=by omega
   have e1:T.length*3+1-cs.length=1:=by omega
   have e2:T.length*3+2-cs.length=2:=by omega
   exact⟨by rw[List.getElem?_append_right (by omega),e0];rfl,by rw[List.getElem?_append_right (by omega),e1];rfl,lv,by rw[List.getElem?_append_right (by omega),e2];rfl,keep lv L hlv P7⟩
 ·have hh:D<k/\k<wr.heap.size/\v.ownBlock≠some k:=by
   by_cases hj2:j*3+2<cs.length
   ·rw[List.getElem?_append_left hj2]at hj
    exact h.sep j u hj k hk
   ·have hjc:j*3+2=cs.length+2:=by
     have:=(List.getElem?_eq_some_iff.1 hj).1
     rw[List.length_append]at this
     simp only[List.length_cons,List.length_nil]at this
     omega
    rw[List.getElem?_append_right (by omega),hjc,Nat.add_sub_cancel_left]at hj
    simp only[List.getElem?_cons_succ,List.getElem?_cons_zero,Option.some.injEq]at hj
    subst hj
    exact⟨(P7 k hk).1,VB k hk,(P7 k hk).2⟩
  refine⟨hh.1,by have:=k8.size;omega,fun e=>?_⟩
  rcases hw k e with h3|h3
  ·exact hh.2.2 h3
  ·rw[World.size_alloc]at h3;omega
end Go.Proofs.YtglbkodmmogomaaGreatDoor
