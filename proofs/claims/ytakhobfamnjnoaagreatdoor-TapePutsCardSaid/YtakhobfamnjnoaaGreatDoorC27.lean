/- The document's Take of a number, changelingref02.Take(99). -/
import Derived.Test.YtakhobfamnjnoaaGreatDoorC26
set_option linter.unusedVariables false
set_option linter.unusedSimpArgs false
set_option maxHeartbeats 4000000
set_option maxRecDepth 100000
namespace Go.Proofs.YtakhobfamnjnoaaGreatDoor
section
open Go Go.RowKit
def hor:List UInt8->Nat
 |[]=>0
 |c::r=>c.toNat%128+128*hor r
theorem BU: ∀(p q:List UInt8),hor (p++q)=hor p+128^p.length*hor q
 |[],q=>by simp[hor]
 |c::p,q=>by
  simp only[List.cons_append,hor,BU p q,List.length_cons,Nat.pow_succ]
  rw[Nat.mul_add,<-Nat.mul_assoc,Nat.mul_comm 128 (128^p.length)]
  omega
theorem ZR: ∀p:List UInt8,hor p<128^p.length
 |[]=>by simp[hor]
 |c::p=>by
  have ih:=ZR p
  simp only[hor,List.length_cons,Nat.pow_succ]
  omega
theorem IE: ∀(p:List UInt8)(i U:Nat)(r:List UInt8),(∀c∈p,128<=c.toNat)->i+p.length<=9->iw i U (p++r)=iw (i+p.length) (U+hor p*128^i) r
 |[],i,U,r,_,_=>by simp[hor]
 |c::p,i,U,r,h,hi=>by
  rw[List.length_cons]at hi
  have hc:=h c (by simp)
  rw[List.cons_append,iw,if_neg (by omega),if_pos hc,IE p (i+1) _ r (fun d hd=>h d (by simp[hd])) (by omega)]
  have e1:i+1+p.length=i+(c::p).length:=by rw[List.length_cons];omega
  have e2:U+c.toNat%128*128^i+hor p*128^(i+1)=U+hor (c::p)*128^i:=by
   simp only[hor]
   rw[Nat.pow_succ,Nat.add_mul,Nat.mul_comm 128 (hor p),Nat.mul_assoc,Nat.mul_comm 128 (128^i)]
   omega
  rw[e1,e2]
theorem KU {l p r:List UInt8}(hl:l=p++r)(hp: ∀c∈p,128<=c.toNat)(h9:p.length<=9):tk l=iw p.length (hor p) r:=by
 unfold tk
 rw[hl,IE p 0 0 r hp (by omega)]
 simp
theorem Py {l:List UInt8}(hp: ∀c∈l,128<=c.toNat)(h9:l.length<=9):tk l=(0,0,20):=by
 rw[KU (p:=l) (r:=[]) (by simp) hp h9];rfl
theorem Ut {p r:List UInt8}{c:UInt8}(hp: ∀c∈p,128<=c.toNat)(h9:p.length<=9)(hc:c.toNat<128)(Ef:p.length=9->c.toNat<=1):
 tk (p++c::r)=if 0<p.length/\c.toNat=0 then(0,0,21)else(jI (hor (p++[c])),p.length+1,0):=by
 rw[KU (p:=p) (r:=c::r) rfl hp h9,iw,if_neg (fun h=>by have:=Ef h.1;omega),if_neg (by omega)]
 by_cases h0:0<p.length/\c.toNat=0
 ·rw[if_pos ⟨h0.2,h0.1⟩,if_pos h0]
 ·rw[if_neg (fun h=>h0 ⟨h.2,h.1⟩),if_neg h0,BU]
  simp only[hor,Nat.mul_zero,Nat.add_zero]
  rw[Nat.mul_comm (128^p.length)]
theorem Pz {p r:List UInt8}{c:UInt8}(hp: ∀c∈p,128<=c.toNat)(h9:p.length=9)(hc:1<c.toNat):tk (p++c::r)=(0,0,21):=by
 rw[KU (p:=p) (r:=c::r) rfl hp (by omega),iw,if_pos ⟨h9,hc⟩]
theorem Rt {l:List UInt8}{j:Nat}(h:j<l.length):hor (l.drop j)=l[j].toNat%128+128*hor (l.drop (j+1)):=by
 rw[List.drop_eq_getElem_cons h];rfl
theorem NY {p:List UInt8}{c:UInt8}(h9:p.length<=9)(hc:c.toNat<128)(Ef:p.length=9->c.toNat<=1){i:Nat}(hi:i<=p.length):hor ((p++[c]).drop i)<18446744073709551616:=by
 rw[List.drop_append_of_le_length hi,BU]
 have h1:=ZR (p.drop i)
 rw[List.length_drop]at*
 simp only[hor,Nat.mul_zero,Nat.add_zero]
 rw[Nat.mod_eq_of_lt hc]
 by_cases h:p.length=9
 ·have h2:128^(p.length-i)<=128^9:=Nat.pow_le_pow_right (by omega) (by omega)
  rw[Ls]at h2
  have h3:128^(p.length-i)*c.toNat<=128^(p.length-i)*1:=Nat.mul_le_mul_left _ (Ef h)
  omega
 ·have h2:128^(p.length-i)<=128^8:=Nat.pow_le_pow_right (by omega) (by omega)
  have h4:(128:Nat)^8=72057594037927936:=by decide
  have h3:128^(p.length-i)*c.toNat<=128^(p.length-i)*127:=Nat.mul_le_mul_left _ (by omega)
  omega
theorem KE {u:Nat}(h: ¬u%2=1):jI u=((u/2:Nat):Int):=by unfold jI;rw[if_pos (by omega)]
theorem Oq {u:Nat}(h:u%2=1):jI u= -((u/2:Nat):Int)-1:=by unfold jI;rw[if_neg (by omega)]
theorem vI {s:ByteArray}{k:Nat}(h:k<s.size):s.data.toList=s.data.toList.take k++s[k]::s.data.toList.drop (k+1):=by
 have e:s.data.toList.drop k=s[k]::s.data.toList.drop (k+1):=by rw[List.drop_eq_getElem_cons (by simpa using h)];rfl
 rw[<-e,List.take_append_drop]
theorem YF (s:ByteArray)(hs:s.size<=maxLen)(w:World):Calls Tryz.prog 78 #[.string s] w (TkQ w (tk s.data.toList)):=by
 unfold maxLen at hs
 have hsz:s.data.toList.length=s.size:=by simp
 have nN:=Lib.hid hsz
 clear hsz
 go_enter Tryz.func78,Tryz.ntmps78
 go_wp2_with fail
 go_loopg [5] 11 (fun g vi wr=> ∃k:Nat,vi= .int .i64 (k:Int)/\k<=10/\k<=s.size/\(∀c∈s.data.toList.take k,128<=c.toNat)/\11-k<=g/\wr=w)
 case atStart=>exact⟨0,rfl,by omega,by omega,by simp,by omega,rfl⟩
 case round=>
  obtain⟨k,rfl,hk,hks,hp,hg,rfl⟩:=hrel
  have HP:=Lib.hid (And.intro hp hg)
  clear hp hg
  by_cases hgo:k<s.size/\k<10/\ ∃h:k<s.size,127<s[k].toNat
  ·obtain⟨h1,h2,_,h3⟩:=hgo
   have h3i:(127:Int)<(s[k].toNat:Int):=by omega
   have F:=Lib.hid (show∀c∈s.data.toList.take (k+1),128<=c.toNat from by
    intro c hc
    rw[List.take_add_one,List.getElem?_eq_getElem (by rw[nN.out];exact h1)]at hc
    rcases List.mem_append.1 hc with hc|hc
    ·exact HP.out.1 c hc
    ·simp only[Option.toList_some,List.mem_singleton]at hc
     rw[hc];exact h3)
   clear h3
   go_wp2_with fail
   go_roundg (11-(k+1))
   case rel=>exact⟨k+1,by go_num,by omega,by omega,F.out,Nat.le_refl _,rfl⟩
   case measure=>have:=HP.out.2;omega
  ·have ways:(k=10/\s.size=10)\/(k=10/\10<s.size)\/(k=9/\s.size=9)\/(k=s.size/\k<9)\/(∃h:k<s.size,k=9/\ ¬127<s[k].toNat/\1<s[k].toNat)\/(∃h:k<s.size,k=9/\s[k].toNat<=1)\/(∃h:k<s.size,k<9/\ ¬127<s[k].toNat):=by
    by_cases h1:k<s.size
    ·by_cases h2:k<10
     ·have h3: ¬127<s[k].toNat:=fun h=>hgo ⟨h1,h2,h1,h⟩
      by_cases h4:k=9
      ·by_cases h5:1<s[k].toNat
       ·exact .inr (.inr (.inr (.inr (.inl ⟨h1,h4,h3,h5⟩))))
       ·exact .inr (.inr (.inr (.inr (.inr (.inl ⟨h1,h4,by omega⟩)))))
      ·exact .inr (.inr (.inr (.inr (.inr (.inr ⟨h1,by omega,h3⟩)))))
     ·exact .inr (.inl ⟨by omega,by omega⟩)
    ·by_cases h2:k=10
     ·exact .inl ⟨h2,by omega⟩
     ·by_cases h3:k=9
      ·exact .inr (.inr (.inl ⟨h3,by omega⟩))
      ·exact .inr (.inr (.inr (.inl ⟨by omega,by omega⟩)))
   clear hgo
   rcases ways with⟨rfl,h1⟩|⟨rfl,h1⟩|⟨rfl,h1⟩|⟨h1,h2⟩|⟨hlt,rfl,h1,h2⟩|⟨hlt,h1,h2⟩|⟨hlt,h1,h2⟩
   ·have Dp:9<s.size:=by omega
    have T:=Lib.hid (show tk s.data.toList=(0,0,21)from by
     rw[vI (k:=9) Dp]
     refine Pz (fun c hc=>HP.out.1 c (by rw[List.take_add_one];exact List.mem_append_left _ hc)) (by rw[List.length_take,nN.out];omega) ?_
     have:=HP.out.1 (s[9]'Dp) (by rw[List.take_add_one,List.getElem?_eq_getElem (by rw[nN.out];omega)];exact List.mem_append_right _ (by simp;rfl))
     omega)
    have b1:(1:Int)<((s[9]'Dp).toNat:Int):=by
     have:=HP.out.1 (s[9]'Dp) (by rw[List.take_add_one,List.getElem?_eq_getElem (by rw[nN.out];omega)];exact List.mem_append_right _ (by simp;rfl))
     omega
    have b2: ¬(10:Int)<(s.size:Int):=by omega
    have b3:(9:Int)<(s.size:Int):=by omega
    have H1:=Lib.hid h1
    clear h1
    go_wp2_with fail
    go_ret3
    rw[T.out]
    exact⟨rfl,rfl⟩
   ·have Dp:9<s.size:=by omega
    have T:=Lib.hid (show tk s.data.toList=(0,0,21)from by
     rw[vI (k:=9) Dp]
     refine Pz (fun c hc=>HP.out.1 c (by rw[List.take_add_one];exact List.mem_append_left _ hc)) (by rw[List.length_take,nN.out];omega) ?_
     have:=HP.out.1 (s[9]'Dp) (by rw[List.take_add_one,List.getElem?_eq_getElem (by rw[nN.out];omega)];exact List.mem_append_right _ (by simp;rfl))
     omega)
    have b1:(1:Int)<((s[9]'Dp).toNat:Int):=by
     have:=HP.out.1 (s[9]'Dp) (by rw[List.take_add_one,List.getElem?_eq_getElem (by rw[nN.out];omega)];exact List.mem_append_right _ (by simp;rfl))
     omega
    have b2:(10:Int)<(s.size:Int):=by omega
    have b3:(9:Int)<(s.size:Int):=by omega
    go_wp2_with fail
    go_ret3
    rw[T.out]
    exact⟨rfl,rfl⟩
   ·have T:=Lib.hid (show tk s.data.toList=(0,0,20)from by
     have hp:=HP.out.1
     rw[List.take_of_length_le (by rw[nN.out];omega)]at hp
     exact Py hp (by rw[nN.out];omega))
    have b2: ¬(9:Int)<(s.size:Int):=by omega
    have b3:((9:Int)==(s.size:Int))=true:=beq_iff_eq.2 (by omega)
    have H1:=Lib.hid h1
    clear h1
    go_wp2_with fail
    go_ret3
    rw[T.out]
    exact⟨rfl,rfl⟩
   ·have T:=Lib.hid (show tk s.data.toList=(0,0,20)from by
     have hp:=HP.out.1
     rw[List.take_of_length_le (by rw[nN.out];omega)]at hp
     exact Py hp (by rw[nN.out];omega))
    have b2: ¬(k:Int)<(s.size:Int):=by omega
    have b3:((k:Int)==(s.size:Int))=true:=beq_iff_eq.2 (by omega)
    have b4: ¬(9:Int)<=(k:Int):=by omega
    have H1:=Lib.hid h1
    clear h1
    go_wp2_with fail
    go_ret3
    rw[T.out]
    exact⟨rfl,rfl⟩
   ·have T:=Lib.hid (show tk s.data.toList=(0,0,21)from by
     rw[vI hlt]
     exact Pz HP.out.1 (by rw[List.length_take,nN.out];omega) h2)
    have b1:(1:Int)<(s[9].toNat:Int):=by omega
    have b2: ¬(127:Int)<(s[9].toNat:Int):=by omega
    have b3:(9:Int)<(s.size:Int):=by omega
    go_wp2_with fail
    go_ret3
    rw[T.out]
    exact⟨rfl,rfl⟩
   ·have Dp:9<s.size:=by omega
    have b1: ¬(1:Int)<((s[9]'Dp).toNat:Int):=by
     have e:s[9]'Dp=s[k]:=by congr 1;omega
     rw[e];omega
    have hc128:s[k].toNat<128:=by omega
    have Ef:k=9->s[k].toNat<=1:=fun h=>by omega
    have b2: ¬(127:Int)<(s[k].toNat:Int):=by omega
    have b3:(9:Int)<(s.size:Int):=by omega
    have b4:(9:Int)<=(k:Int):=by omega
    have hk9:k<=9:=by omega
    have HK9:=Lib.hid h1
    clear h1
    have HL:=Lib.hid (And.intro HP.out.1 (And.intro hc128 (And.intro Ef hlt)))
    have hkz:((k:Int)==(s.size:Int))=false:=beq_eq_false_iff_ne.2 (by omega)
    have htk:=Ut (r:=s.data.toList.drop (k+1)) (c:=s[k]) HP.out.1 (by rw[List.length_take];omega) hc128 (fun h=>Ef (by rw[List.length_take,nN.out]at h;omega))
    rw[<-vI hlt,List.length_take,nN.out,Nat.min_eq_left (by omega)]at htk
    have HTK:=Lib.hid htk
    clear htk Ef
    by_cases hz:0<k/\s[k].toNat=0
    ·have T:=Lib.hid (show tk s.data.toList=(0,0,21) by rw[HTK.out,if_pos hz])
     have z1:(0:Int)<(k:Int):=by omega
     have z2:((s[k].toNat:Int)==0)=true:=by rw[hz.2];rfl
     clear hz
     go_wp2_with fail
     go_ret3
     rw[T.out]
     exact⟨rfl,rfl⟩
    ·have T:=Lib.hid (show tk s.data.toList=(jI (hor (s.data.toList.take (k+1))),k+1,0) by
      rw[HTK.out,if_neg hz,List.take_add_one,List.getElem?_eq_getElem (by rw[nN.out];exact hlt)]
      rfl)
     have HB:=Lib.hid (show∀i,i<=k->hor ((s.data.toList.take (k+1)).drop i)<18446744073709551616 from fun i hi=>by
      have:=NY (p:=s.data.toList.take k) (c:=s[k]) (by rw[List.length_take];omega) hc128 (fun h=>HL.out.2.2.1 (by rw[List.length_take,nN.out]at h;omega)) (i:=i) (by rw[List.length_take,nN.out];omega)
      rw[List.take_add_one,List.getElem?_eq_getElem (by rw[nN.out];exact hlt)]
      exact this)
     have hz':(¬(0:Int)<(k:Int))\/((0:Int)<(k:Int)/\((s[k].toNat:Int)==0)=false):=by
      by_cases h0:0<k
      ·exact .inr ⟨by omega,beq_eq_false_iff_ne.2 (fun e=>hz ⟨h0,by omega⟩)⟩
      ·exact .inl (by omega)
     clear hz hc128
     obtain⟨z1,z2⟩:=hz'.resolve_left (by omega)
     all_goals
      go_wp2_with fail
      go_loopg [6,7] 11 (fun g vu vi wr2=> ∃(j u:Nat)(x:Int),j<=k+1/\x=(j:Int)-1/\vi= .int .i64 x/\vu= .int .u64 (u:Int)/\u=hor ((s.data.toList.take (k+1)).drop j)/\j<=g/\wr2=wr)
      case atStart=>exact⟨k+1,0,(k:Int),by omega,by omega,rfl,rfl,by rw[List.drop_eq_nil_of_le (List.length_take_le _ _)];rfl,by omega,rfl⟩
      case round=>
       obtain⟨j,u,x,hj,hx,rfl,rfl,hu,hg,rfl⟩:=hrel
       have HU:=Lib.hid (And.intro hu hg)
       cases j with
       |zero=>
        obtain rfl:x= -1:=by omega
        have hub:=HB.out 0 (by omega)
        rw[<-hu]at hub
        rw[List.drop_zero]at hu
        have Oy:=Lib.hid hu
        clear hu hx hg
        by_cases hodd:u%2=1
        ·have o1:(((u:Int)%2)==1)=true:=beq_iff_eq.2 (by omega)
         have Tj:=Lib.hid (Oq hodd)
         clear hodd
         go_wp2_with fail
         go_ret3
         rw[T.out,<-Oy.out,Tj.out]
         exact⟨rfl,rfl⟩
        ·have o1:(((u:Int)%2)==1)=false:=beq_eq_false_iff_ne.2 (by omega)
         have Tj:=Lib.hid (KE hodd)
         clear hodd
         go_wp2_with fail
         go_ret3
         rw[T.out,<-Oy.out,Tj.out]
         exact⟨rfl,rfl⟩
       |succ i=>
        obtain rfl:x=(i:Int):=by omega
        have hsi:i<s.size:=by omega
        have hil:i<(s.data.toList.take (k+1)).length:=by rw[List.length_take,nN.out];omega
        have hst:=Rt hil
        have hget:(s.data.toList.take (k+1))[i]=s[i]'hsi:=by rw[List.getElem_take];rfl
        rw[hget,<-hu]at hst
        have hb:=HB.out i (by omega)
        rw[hst]at hb
        obtain⟨d,hd⟩: ∃d,(s[i]'hsi).toNat%128=d:=⟨_,rfl⟩
        rw[hd]at hst hb
        have hdi:((s[i]'hsi).toNat:Int)%128=(d:Int):=by omega
        have aht:d<128:=by omega
        have HS:=Lib.hid hst
        clear hst hd hget hu hx hg hil
        go_wp2_with fail
        go_roundg i
        case rel=>exact⟨i,128*u+d,(i:Int)-1,by omega,rfl,rfl,by go_num,by rw[HS.out];omega,Nat.le_refl _,rfl⟩
        case measure=>have:=HU.out.2;omega
   ·have hc128:s[k].toNat<128:=by omega
    have Ef:k=9->s[k].toNat<=1:=fun h=>by omega
    have b2: ¬(127:Int)<(s[k].toNat:Int):=by omega
    have b4: ¬(9:Int)<=(k:Int):=by omega
    have HL:=Lib.hid (And.intro HP.out.1 (And.intro hc128 (And.intro Ef hlt)))
    have hkz:((k:Int)==(s.size:Int))=false:=beq_eq_false_iff_ne.2 (by omega)
    have htk:=Ut (r:=s.data.toList.drop (k+1)) (c:=s[k]) HP.out.1 (by rw[List.length_take];omega) hc128 (fun h=>Ef (by rw[List.length_take,nN.out]at h;omega))
    rw[<-vI hlt,List.length_take,nN.out,Nat.min_eq_left (by omega)]at htk
    have HTK:=Lib.hid htk
    clear htk Ef
    by_cases hz:0<k/\s[k].toNat=0
    ·have T:=Lib.hid (show tk s.data.toList=(0,0,21) by rw[HTK.out,if_pos hz])
     have z1:(0:Int)<(k:Int):=by omega
     have z2:((s[k].toNat:Int)==0)=true:=by rw[hz.2];rfl
     clear hz
     go_wp2_with fail
     go_ret3
     rw[T.out]
     exact⟨rfl,rfl⟩
    ·have T:=Lib.hid (show tk s.data.toList=(jI (hor (s.data.toList.take (k+1))),k+1,0) by
      rw[HTK.out,if_neg hz,List.take_add_one,List.getElem?_eq_getElem (by rw[nN.out];exact hlt)]
      rfl)
     have HB:=Lib.hid (show∀i,i<=k->hor ((s.data.toList.take (k+1)).drop i)<18446744073709551616 from fun i hi=>by
      have:=NY (p:=s.data.toList.take k) (c:=s[k]) (by rw[List.length_take];omega) hc128 (fun h=>HL.out.2.2.1 (by rw[List.length_take,nN.out]at h;omega)) (i:=i) (by rw[List.length_take,nN.out];omega)
      rw[List.take_add_one,List.getElem?_eq_getElem (by rw[nN.out];exact hlt)]
      exact this)
     have hz':(¬(0:Int)<(k:Int))\/((0:Int)<(k:Int)/\((s[k].toNat:Int)==0)=false):=by
      by_cases h0:0<k
      ·exact .inr ⟨by omega,beq_eq_false_iff_ne.2 (fun e=>hz ⟨h0,by omega⟩)⟩
      ·exact .inl (by omega)
     clear hz hc128
     rcases hz' with z1|⟨z1,z2⟩
     all_goals
      go_wp2_with fail
      go_loopg [6,7] 11 (fun g vu vi wr2=> ∃(j u:Nat)(x:Int),j<=k+1/\x=(j:Int)-1/\vi= .int .i64 x/\vu= .int .u64 (u:Int)/\u=hor ((s.data.toList.take (k+1)).drop j)/\j<=g/\wr2=wr)
      case atStart=>exact⟨k+1,0,(k:Int),by omega,by omega,rfl,rfl,by rw[List.drop_eq_nil_of_le (List.length_take_le _ _)];rfl,by omega,rfl⟩
      case round=>
       obtain⟨j,u,x,hj,hx,rfl,rfl,hu,hg,rfl⟩:=hrel
       have HU:=Lib.hid (And.intro hu hg)
       cases j with
       |zero=>
        obtain rfl:x= -1:=by omega
        have hub:=HB.out 0 (by omega)
        rw[<-hu]at hub
        rw[List.drop_zero]at hu
        have Oy:=Lib.hid hu
        clear hu hx hg
        by_cases hodd:u%2=1
        ·have o1:(((u:Int)%2)==1)=true:=beq_iff_eq.2 (by omega)
         have Tj:=Lib.hid (Oq hodd)
         clear hodd
         go_wp2_with fail
         go_ret3
         rw[T.out,<-Oy.out,Tj.out]
         exact⟨rfl,rfl⟩
        ·have o1:(((u:Int)%2)==1)=false:=beq_eq_false_iff_ne.2 (by omega)
         have Tj:=Lib.hid (KE hodd)
         clear hodd
         go_wp2_with fail
         go_ret3
         rw[T.out,<-Oy.out,Tj.out]
         exact⟨rfl,rfl⟩
       |succ i=>
        obtain rfl:x=(i:Int):=by omega
        have hsi:i<s.size:=by omega
        have hil:i<(s.data.toList.take (k+1)).length:=by rw[List.length_take,nN.out];omega
        have hst:=Rt hil
        have hget:(s.data.toList.take (k+1))[i]=s[i]'hsi:=by rw[List.getElem_take];rfl
        rw[hget,<-hu]at hst
        have hb:=HB.out i (by omega)
        rw[hst]at hb
        obtain⟨d,hd⟩: ∃d,(s[i]'hsi).toNat%128=d:=⟨_,rfl⟩
        rw[hd]at hst hb
        have hdi:((s[i]'hsi).toNat:Int)%128=(d:Int):=by omega
        have aht:d<128:=by omega
        have HS:=Lib.hid hst
        clear hst hd hget hu hx hg hil
        go_wp2_with fail
        go_roundg i
        case rel=>exact⟨i,128*u+d,(i:Int)-1,by omega,rfl,rfl,by go_num,by rw[HS.out];omega,Nat.le_refl _,rfl⟩
        case measure=>have:=HU.out.2;omega
end
section
namespace Sx
open Go Go.RowKit _root_.Go.Proofs.Tryz
set_option maxRecDepth 100000
set_option maxHeartbeats 4000000
section
variable {bx:{α:Type}->α->α} (hb: ∀{α:Type}(x:α),bx x=x)
include hb
theorem xW (l:List Int)(hl:l.length<=1000)(h64: ∀n∈l,aO n):Ct prog 23 [.c (.sl 0 0 0 l.length)] [.one (.bH (iO l) 2)] fun r h=>r= .a (.c (.p (.str (bx (bs (ay l))))))/\h=[.one (.bH (iO l) 2)]:=by
 have eb: @bx= @I0:=o9 hb
 subst eb
 refine Ct.pure func23 rfl rfl fun ρ O w xs H h=>?_
 cases h with|cons h1 t=>
  cases t
  cases h1 with|c h1=>
   obtain⟨cs,q1,q2⟩:=Nj H (i:=0) rfl (uT l) h1
   have:=Fg q2
   subst this
   exact⟨_,fun _=> .a (.c (.p rfl)),Y2 _ l w q1 h64 (by omega)⟩
theorem adC (l:List Int)(hl:l.length<=1000)(h64: ∀n∈l,aO n):Ct prog 23 [.c (.sl 0 0 0 (bx l.length))] [.one (.bH (bx (iO l)) 2)] fun r h=>r= .a (.c (.p (.str (bx (bs (ay l))))))/\h=[.one (.bH (bx (iO l)) 2)]:=by
 rw[hb l.length,hb (iO l)]
 exact xW hb l hl h64
theorem aeT (n:Int)(h:aO n):Ct prog 54 [.c (.p (.int .i64 (bx n)))] [] fun r h=>r= .a (.c (.p (.str (bx (bs (ay [n]))))))/\h=[]:=by
 have eb: @bx= @I0:=o9 hb
 subst eb
 refine Ct.pure func54 rfl rfl fun ρ O w xs H hx=>?_
 cases hx with|cons h1 t=>
  cases t
  cases h1 with|c h1=>cases h1 with|p h1=>
   cases h1
   exact⟨.string (strOf (gG (fE n))),fun _=> .a (.c (.p (by rw[Qe];rfl))),one_any n h w⟩
theorem Lh (l:List UInt8)(hl:l.length<=maxLen):Ct prog 78 [.c (.p (.str (bx (bs l))))] [] fun r h=>r= .aK [.c (.p (.int .i64 (bx (dX l).1))), .c (.p (.int .i64 (bx (Int.ofNat (dX l).2.1)))), .c (.p (.int .i64 (bx (dX l).2.2)))]/\h=[]:=by
 have eb: @bx= @I0:=o9 hb
 subst eb
 refine Ct.pure func78 rfl rfl fun ρ O w xs H h=>?_
 cases h with|cons h1 t=>
  cases t
  cases h1 with|c h1=>cases h1 with|p h1=>
   cases h1
   refine⟨_,fun _=> .aK (xs:=[.int .i64 _, .int .i64 _, .int .i64 _]) (.cons (.c (.p rfl)) (.cons (.c (.p rfl)) (.cons (.c (.p rfl)) .nil))),(YF (bs l) (by rw[cu];exact hl) w).mono fun e w' ⟨h1,h2⟩=>⟨?_,h2▸Kept.refl _ _⟩⟩
   rw[h1,VK];rfl
theorem IX (l:List UInt8)(hl:l.length<=65536):Ct prog 56 [.c (.p (.str (bx (bs l))))] [] fun r h=>r= .aK [.c (.p (.str (bx (bs (fQ l))))), .c (.p (.int .i64 0))]/\h=[]:=ct hb func56 fun Q hQ K hK=>by
 have hz:(bs l).size=l.length:=cu l
 have h64:aO (Int.ofNat l.length):=uH (by omega)
 have hp:(ay [Int.ofNat l.length]).length<=10:=by
  have:=iD (l:=[Int.ofNat l.length]) (by simpa using h64)
  simpa only[List.length_singleton,Nat.mul_one]using this
 cbv
 refine⟨fun h1=>?_,fun h1=>?_⟩<;>simp only[hb,pl]at h1
 ·exact absurd h1 (by omega)
 ·cbv
  refine call hQ (aeT hb (Int.ofNat l.length) h64) [] ?_ (ha:=by cbv;(repeat' (first|trivial|rfl|apply And.intro|(simp[hb,hz];done))))
  rintro _ _ ⟨rfl,rfl⟩
  cbv
  refine chk (by simp only[hb,<-dS,cu,List.length_append,decide_eq_true_eq];omega) ?_
  cbv
  exact hK _ _ (.aK [.c (.p (.str (bx (bs (fQ l))))), .c (.p (.int .i64 0))]) [] (aS [] [] (he:=by
   cbv
   simp only[hb,fQ,dS,and_self])) ⟨rfl,rfl⟩
theorem YG (x:Ex)(hx:iG x)(hs:(dV x).length<=1000000):Ct prog 96 [qK bx x] [] fun r h=>r= .a (.c (.p (.str (bx (bs (dV x))))))/\h=[]:=by
 have ih: ∀z,∀hz:z∈x.args,iG z->(dV z).length<=1000000->Ct prog 96 [qK bx z] [] fun r h=>r= .a (.c (.p (.str (bx (bs (dV z))))))/\h=[]:=fun z hz=>YG z
 have hf:0<=x.op/\x.op<=255/\aO x.n:=by
  obtain⟨o,n,a⟩:=x
  exact⟨hx.1,hx.2.1,hx.2.2.1⟩
 obtain⟨ha,hfa⟩:=hx.args
 have hwo:wr .i64 x.op=x.op:=rD (by omega)
 have hwl:wr .i64 (Int.ofNat x.args.length)=Int.ofNat x.args.length:=rD (by simp;omega)
 have h64: ∀n∈[x.op,x.n,Int.ofNat x.args.length],aO n:=by
  intro n hn
  simp only[List.mem_cons,List.not_mem_nil,or_false]at hn
  rcases hn with rfl|rfl|rfl
  ·unfold aO;omega
  ·exact hf.2.2
  ·unfold aO;simp;omega
 refine ct hb func96 fun Q hQ K hK=>?_
 cbv
 refine call hQ (xW hb [bx x.op,bx x.n,bx (Int.ofNat x.args.length)] (by simp) (by simpa only[hb]using h64)) [.all 1] ?_ (hs:=by cbv;simp[hb,hwo,hwl])
 rintro _ _ ⟨rfl,rfl⟩
 cbv
 refine loop hb (fun k=>k<=x.args.length) (fun k=>x.args.length-k) (fun k=>[(4, .a (.c (.p (.int .i64 (bx (Int.ofNat k)))))),(3, .a (.c (.p (.str (bx (bs (ay [x.op,x.n,Int.ofNat x.args.length]++jg (x.args.take k))))))))]) (fun _=>[]) 0 (by omega) (ent [] [.all 0, .all 1] (he:=by cbv;(repeat' (first|trivial|rfl|apply And.intro|(simp[hb,jg,bs];done))))) fun k hI=>?_
 cbv
 refine⟨fun hd=>?_,fun hd=>?_⟩<;>simp only[hb,pl]at hd
 ·obtain⟨z,hz⟩: ∃z,x.args[k]?=some z:=⟨_,List.getElem?_eq_getElem hd⟩
  have hm:=List.mem_of_getElem? hz
  have hsn:=BD hz
  have hle:=BA x.args (k+1)
  have hxe:=xu x
  have hu:=mQ hb (k:=k) (by omega)
  have hls:(ay [x.op,x.n,Int.ofNat x.args.length]).length+(jg (x.args.take k)).length+(dV z).length<=1000000:=by
   rw[hxe,List.length_append]at hs
   rw[hsn,List.length_append]at hle
   omega
  cbv
  refine get (J9 bx z) (gJ hb nH (lT x.args) hz (yF hb z)) (chk (gK hb hd (by omega)) ?_)
  cbv
  refine call hQ (ih z hm (nY hfa hm) (by omega)) [] ?_
  rintro _ _ ⟨rfl,rfl⟩
  cbv
  refine chk (by simp only[hb,cu,List.length_append,decide_eq_true_eq];omega) ?_
  cbv
  exact⟨k+1,by omega,by omega,ent [] [.all 0, .all 1] (he:=by cbv;(repeat' (first|trivial|rfl|apply And.intro|exact hu|(simp only[hb,hsn,<-List.append_assoc,dS];done))))⟩
 ·cbv
  have hk:k=x.args.length:=by omega
  have hxe:=xu x
  exact hK _ _ (.a (.c (.p (.str (bx (bs (dV x))))))) [] (aS [] [] (he:=by
   cbv
   rw[hk,List.take_of_length_le (Nat.le_refl _),hxe])) ⟨rfl,rfl⟩
termination_by SizeOf.sizeOf x
decreasing_by exact AL hz
theorem UF (l:List UInt8)(hl:l.length<=4611686018427387904):Ct prog 79 [.c (.p (.str (bx (bs l))))] [] fun r h=>r= .aK [.c (.p (.str (bx (bs (dA l).1)))), .c (.p (.int .i64 (bx (Int.ofNat (dA l).2.1)))), .c (.p (.int .i64 (bx (dA l).2.2)))]/\h=[]:=ct hb func79 fun Q hQ K hK=>by
 have hz:=cu l
 obtain⟨⟨n0,z,f⟩,ht⟩: ∃t,dX l=t:=⟨_,rfl⟩
 have hle:=xI l
 have c:=Lh hb l (by unfold maxLen;omega)
 have et:dA l=if f≠0 then([],0,f)else if n0<0 then([],0,21)else if 65536<n0 then([],0,3)else if Int.ofNat l.length-Int.ofNat z<n0 then([],0,20)else((l.drop z).take n0.toNat,z+n0.toNat,0):=by unfold dA;rw[ht]
 simp only[ht]at hle c
 clear ht
 have out: ∀{H:Hp}{r:RV}{a:List UInt8}{b:Nat}{c:Int},dA l=(a,b,c)->Gi [] (llen H) (fun _=>none) (.aK [.c (.p (.str (bx (bs a)))), .c (.p (.int .i64 (bx (Int.ofNat b)))), .c (.p (.int .i64 (bx c)))]) r->K r H:=fun{H r a b c} h1 h2=>by
  rw[h1]at hK
  exact hK _ _ (.aK [.c (.p (.str (bx (bs a)))), .c (.p (.int .i64 (bx (Int.ofNat b)))), .c (.p (.int .i64 (bx c)))]) [] (aS [] [] (he:=h2)) ⟨rfl,rfl⟩
 cbv
 refine call hQ c [] ?_
 rintro _ _ ⟨rfl,rfl⟩
 cbv
 refine⟨fun h1=>?_,fun h1=>?_⟩<;>simp only[hb,pl]at h1
 ·replace et:=et.trans (if_pos h1)
  cbv
  refine out et ?_
  cbv
  simp[hb,bs]
 ·replace et:=et.trans (if_neg (by omega))
  cbv
  refine⟨fun h2=>?_,fun h2=>?_⟩<;>simp only[hb,pl]at h2
  ·replace et:=et.trans (if_pos h2)
   cbv
   refine out et ?_
   cbv
   simp[hb,bs]
  ·replace et:=et.trans (if_neg h2)
   cbv
   refine⟨fun h3=>?_,fun h3=>?_⟩<;>simp only[hb,pl]at h3
   ·replace et:=et.trans (if_pos h3)
    cbv
    refine out et ?_
    cbv
    simp[hb,bs]
   ·replace et:=et.trans (if_neg h3)
    obtain⟨n,rfl⟩: ∃n:Nat,n0=Int.ofNat n:=⟨n0.toNat,by simp only[Int.ofNat_eq_natCast];omega⟩
    have hn6:n<=65536:=by simp only[Int.ofNat_eq_natCast]at h3;omega
    have hw2:wr .i64 (Int.ofNat z+Int.ofNat n)=Int.ofNat (z+n):=by rw[rD (by simp only[Int.ofNat_eq_natCast];omega)];simp
    cbv
    refine⟨fun h4=>?_,fun h4=>?_⟩<;>simp only[hb,hz,hw2,decide_eq_true_eq,decide_eq_false_iff_not]at h4
    ·replace et:=et.trans (if_pos (by simp only[Int.ofNat_eq_natCast]at h4⊢;omega))
     cbv
     refine out et ?_
     cbv
     simp[hb,bs]
    ·replace et:=et.trans (if_neg (by simp only[Int.ofNat_eq_natCast]at h4⊢;omega))
     have h5:z+n<=l.length:=by simp only[Int.ofNat_eq_natCast]at h4;omega
     cbv
     refine chk (by simp only[hb,hz,hw2,nc];simp only[Bool.and_eq_true,decide_eq_true_eq,Int.ofNat_eq_natCast];omega) ?_
     cbv
     refine out et ?_
     cbv
     (repeat' (first|trivial|rfl|apply And.intro))
     ·simp only[hb,hw2,aat]
      show PV.str (bs (List.take n (List.drop z l)))=PV.str (bs (List.take (z+n-z) (List.drop z l)))
      rw[Nat.add_sub_cancel_left]
     ·simp only[hb,hw2];rfl
     ·rw[hb]
end
end Sx
end
section
namespace Sx
open Go Go.RowKit _root_.Go.Proofs.Tryz
set_option maxRecDepth 100000
set_option maxHeartbeats 4000000
section
variable {bx:{α:Type}->α->α} (hb: ∀{α:Type}(x:α),bx x=x)
include hb
theorem afF (a b:List Int)(hl:a.length<4611686018427387904):Ct prog 69 [.c (.p (.fz (bx a.length) (bx (iO a)))), .c (.p (.fz (bx b.length) (bx (iO b))))] [] fun r h=>r= .a (.c (.p (.bool (bx (decide (a=b))))))/\h=[]:=ct hb func69 fun Q hQ K hK=>by
 have no: ∀{H:Hp},a≠b->K (.a (.c (.p .ff))) H:=fun h=>hK _ _ (.a (.c (.p (.bool (bx (decide (a=b))))))) [] (aS [] [] (he:=lF (by rw[hb];exact decide_eq_false h))) ⟨rfl,rfl⟩
 cbv
 refine⟨fun hc=>?_,fun hc=>?_⟩<;>simp only[hb,pl]at hc
 ·cbv
  exact no fun h=>hc (congrArg _ h)
 ·cbv
  refine loop hb (fun k=>k<=a.length/\a.take k=b.take k) (fun k=>a.length-k) (fun k=>[(5, .a (.c (.p (.int .i64 (bx (Int.ofNat k))))))]) (fun _=>[]) 0 ⟨by omega,rfl⟩ (ent [] []) fun k hI=>?_
  cbv
  refine⟨fun hd=>?_,fun hd=>?_⟩<;>simp only[hb,pl]at hd
  ·obtain⟨x,hx⟩: ∃x,a[k]?=some x:=⟨_,List.getElem?_eq_getElem hd⟩
   obtain⟨y,hy⟩: ∃y,b[k]?=some y:=⟨_,List.getElem?_eq_getElem (by omega)⟩
   have hs:=take_snoc hx hy hI.2
   cbv
   refine draw hb hQ eU [] ?_
   cbv
   refine get [.int .i64 (bx x)] (gJ hb (f:=fun x=>[.int .i64 x]) (fun _=>rfl) rfl hx (by rw[hb])) (chk (gK hb hd (by omega)) ?_)
   cbv
   refine get [.int .i64 (bx y)] (gJ hb (f:=fun x=>[.int .i64 x]) (fun _=>rfl) rfl hy (by rw[hb])) (chk (gK hb (by omega) (by omega)) ?_)
   cbv
   refine⟨fun he=>?_,fun he=>?_⟩<;>simp only[hb,pl]at he
   ·cbv
    exact no fun h=>he (hs.1 (by rw[h]))
   ·have hu:=mQ hb (k:=k) (by omega)
    cbv
    exact⟨k+1,⟨by omega,hs.2 he⟩,by omega,ent [] [] (he:=by cbv;(repeat' (first|trivial|rfl|apply And.intro|exact hu)))⟩
  ·cbv
   have hk:k=a.length:=by omega
   have h1:=hI.2
   rw[hk,List.take_of_length_le (Nat.le_refl _),List.take_of_length_le (by omega)]at h1
   exact hK _ _ (.a (.c (.p (.bool (bx (decide (a=b))))))) [] (aS [] [] (he:=vC (by rw[hb];exact decide_eq_true h1))) ⟨rfl,rfl⟩
theorem Yz (x y:Ex)(hx:iG x):Ct prog 70 [qK bx x,qK bx y] [] fun r h=>r= .a (.c (.p (.bool (bx (rY x y)))))/\h=[]:=by
 have e:=aai x y
 have ih: ∀z,∀hz:z∈x.args,∀v,Ct prog 70 [qK bx z,qK bx v] [] fun r h=>r= .a (.c (.p (.bool (bx (rY z v)))))/\h=[]:=fun z hz v=>Yz z v (nY hx.args.2 hz)
 have hl:=hx.args.1
 refine ct hb func70 fun Q hQ K hK=>?_
 have no: ∀{H:Hp},rY x y=false->K (.a (.c (.p .ff))) H:=fun h=>hK _ _ (.a (.c (.p (.bool (bx (rY x y)))))) [] (aS [] [] (he:=lF (by rw[hb];exact h))) ⟨rfl,rfl⟩
 cbv
 refine⟨fun h1=>?_,fun h1=>?_⟩<;>simp only[hb,pl]at h1
 ·cbv
  exact no (by simp[e,h1])
 ·cbv
  refine⟨fun h2=>?_,fun h2=>?_⟩<;>simp only[hb,pl]at h2
  ·cbv
   exact no (by simp[e,h2])
  ·cbv
   refine⟨fun h3=>?_,fun h3=>?_⟩<;>simp only[hb,pl]at h3
   ·cbv
    exact no (by
     have:lK x.args y.args=false:=by rw[<-Bool.not_eq_true];exact fun h=>h3 (H7 h)
     simp[e,this])
   ·cbv
    refine loop hb (fun k=>k<=x.args.length/\lK (x.args.take k) (y.args.take k)=true) (fun k=>x.args.length-k) (fun k=>[(5, .a (.c (.p (.int .i64 (bx (Int.ofNat k))))))]) (fun _=>[]) 0 ⟨by omega,rfl⟩ (ent [] [.all 0, .all 1]) fun k hI=>?_
    cbv
    refine⟨fun hd=>?_,fun hd=>?_⟩<;>simp only[hb,pl]at hd
    ·obtain⟨u,hu⟩: ∃u,x.args[k]?=some u:=⟨_,List.getElem?_eq_getElem hd⟩
     obtain⟨v,hv⟩: ∃v,y.args[k]?=some v:=⟨_,List.getElem?_eq_getElem (by omega)⟩
     cbv
     refine draw hb hQ eU [] ?_
     cbv
     refine get (J9 bx u) (gJ hb nH (lT x.args) hu (yF hb u)) (chk (gK hb hd (by omega)) ?_)
     cbv
     refine get (J9 bx v) (gJ hb nH (lT y.args) hv (yF hb v)) (chk (gK hb (by omega) (by omega)) ?_)
     cbv
     refine call hQ (ih u (List.mem_of_getElem? hu) v) [] ?_
     rintro _ _ ⟨rfl,rfl⟩
     cbv
     refine⟨fun he=>?_,fun he=>?_⟩<;>simp only[hb,pl]at he
     ·cbv
      exact no (by simp[e,VD hu hv he])
     ·have hup:=mQ hb (k:=k) (by omega)
      cbv
      exact⟨k+1,⟨by omega,by rw[Et hu hv,hI.2,he];rfl⟩,by omega,ent [] [.all 0, .all 1] (he:=by cbv;(repeat' (first|trivial|rfl|apply And.intro|exact hup)))⟩
    ·cbv
     have hk:k=x.args.length:=by omega
     have h4:=hI.2
     rw[hk,List.take_of_length_le (Nat.le_refl _),List.take_of_length_le (by omega)]at h4
     exact hK _ _ (.a (.c (.p (.bool (bx (rY x y)))))) [] (aS [] [] (he:=vC (by rw[hb,e,h4];simp[h1,h2]))) ⟨rfl,rfl⟩
termination_by SizeOf.sizeOf x
decreasing_by exact AL hz
theorem PX (a b:Jb)(hf:gX a):Ct prog 34 [jM bx a,jM bx b] [] fun r h=>r= .a (.c (.p (.bool (bx (o8 a b)))))/\h=[]:=ct hb func34 fun Q hQ K hK=>by
 have e:o8 a b=(decide (a.par=b.par)&&kV a.nodes b.nodes):=rfl
 have hl:=hf.1
 have no: ∀{H:Hp},o8 a b=false->K (.a (.c (.p .ff))) H:=fun h=>hK _ _ (.a (.c (.p (.bool (bx (o8 a b)))))) [] (aS [] [] (he:=lF (by rw[hb];exact h))) ⟨rfl,rfl⟩
 cbv
 refine⟨fun h1=>?_,fun h1=>?_⟩<;>simp only[hb,pl]at h1
 ·cbv
  exact no (by simp[e,h1])
 ·cbv
  refine⟨fun h2=>?_,fun h2=>?_⟩<;>simp only[hb,pl]at h2
  ·cbv
   exact no (by
    have:kV a.nodes b.nodes=false:=by rw[<-Bool.not_eq_true];exact fun h=>h2 (H8 h)
    simp[e,this])
  ·cbv
   refine loop hb (fun k=>k<=a.nodes.length/\kV (a.nodes.take k) (b.nodes.take k)=true) (fun k=>a.nodes.length-k) (fun k=>[(5, .a (.c (.p (.int .i64 (bx (Int.ofNat k))))))]) (fun _=>[]) 0 ⟨by omega,rfl⟩ (ent [] [.all 0, .all 1]) fun k hI=>?_
   cbv
   refine⟨fun hd=>?_,fun hd=>?_⟩<;>simp only[hb,pl]at hd
   ·obtain⟨x,hx⟩: ∃x,a.nodes[k]?=some x:=⟨_,List.getElem?_eq_getElem hd⟩
    obtain⟨y,hy⟩: ∃y,b.nodes[k]?=some y:=⟨_,List.getElem?_eq_getElem (by omega)⟩
    have en:eqN x y=(decide (x.uid=y.uid)&&decide (x.kind=y.kind)&&decide (x.n=y.n)&&decide (x.ins=y.ins)&&rY x.x y.x):=rfl
    have hfx:=hf.2.1 x (List.mem_of_getElem? hx)
    have DY: ∀{H:Hp},eqN x y=false->K (.a (.c (.p .ff))) H:=fun h=>no (by simp[e,VE hx hy h])
    cbv
    refine get (wU bx x) (gJ hb kJ rfl hx (rJ hb x)) (chk (gK hb hd (by omega)) ?_)
    cbv
    refine get (wU bx y) (gJ hb kJ rfl hy (rJ hb y)) (chk (gK hb (by omega) (by omega)) ?_)
    cbv
    refine⟨fun h3=>?_,fun h3=>?_⟩<;>simp only[hb,str_eq,pl]at h3
    ·cbv
     exact DY (by simp[en,h3])
    cbv
    refine⟨fun h4=>?_,fun h4=>?_⟩<;>simp only[hb,pl]at h4
    ·cbv
     exact DY (by simp[en,h4])
    cbv
    refine⟨fun h5=>?_,fun h5=>?_⟩<;>simp only[hb,pl]at h5
    ·cbv
     exact DY (by simp[en,h5])
    cbv
    refine call hQ (afF hb x.ins y.ins hfx.1) [] ?_
    rintro _ _ ⟨rfl,rfl⟩
    cbv
    refine⟨fun h6=>?_,fun h6=>?_⟩<;>simp only[hb,pl]at h6
    ·cbv
     exact DY (by simp[en,h6])
    cbv
    refine call hQ (Yz hb x.x y.x hfx.2.1) [] ?_
    rintro _ _ ⟨rfl,rfl⟩
    cbv
    refine⟨fun h7=>?_,fun h7=>?_⟩<;>simp only[hb,pl]at h7
    ·cbv
     exact DY (by simp[en,h7])
    ·have hup:=mQ hb (k:=k) (by omega)
     cbv
     exact⟨k+1,⟨by omega,by rw[Eu hx hy,hI.2,en];simp[h3,h4,h5,h6,h7]⟩,by omega,ent [] [.all 0, .all 1] (he:=by cbv;(repeat' (first|trivial|rfl|apply And.intro|exact hup)))⟩
   ·cbv
    have hk:k=a.nodes.length:=by omega
    have h4:=hI.2
    rw[hk,List.take_of_length_le (Nat.le_refl _),List.take_of_length_le (by omega)]at h4
    exact hK _ _ (.a (.c (.p (.bool (bx (o8 a b)))))) [] (aS [] [] (he:=vC (by rw[hb,e,h4];simp[h1]))) ⟨rfl,rfl⟩
end
end Sx
end
section
namespace Sx
open Go Go.RowKit
structure Out {β:Type}(P:Program)(n:Nat)(J:β->Prop)(jx:Nat)(E:β->bK)(H:β->Hp)(x:Xt)(e:bK)(h:Hp):Prop where
 h: ∃b,J b/\x= .exit jx/\Tq P n e h (E b) (H b)
theorem QN {α β:Type}{bx:{α:Type}->α->α}(hb: ∀{α:Type}(x:α),bx x=x){P:Program}{N n:Nat}{c:pq}{e:bK}{h:Hp}{k:KX}(I:α->Prop)(m:α->Nat)(V:α->List (Nat×RV))(U:α->List (Nat×gU))(a0:α)(i0:I a0)
 (jx:Nat) (J:β->Prop) (VX:β->List (Nat×RV)) (UX:β->List (Nat×gU))
 (h0:Tq P n e h (lH (oG c e) (V a0)) (jv h (U a0)))
 (hr: ∀a,I a->run bx P N n c (lH (oG c e) (V a)) (jv h (U a)) (rnd (fun x e' h'=>Out P n J jx (fun b=>lH (oG c e) (VX b)) (fun b=>jv h (UX b)) x e' h') (Next P n I m (fun a=>lH (oG c e) (V a)) (fun a=>jv h (U a)) a)))
 (hx: ∀b,J b->k (.exit jx) (lH (oG c e) (VX b)) (jv h (UX b)))
 (hl: ∀a,Nat.ble n (llen (jv h (U a)))=true:=by intro _;cbv) (hlx: ∀b,Nat.ble n (llen (jv h (UX b)))=true:=by intro _;cbv):O7 P N n c e h k:=by
 have D:=loop (k:=fun x e' h'=>Out P n J jx (fun b=>lH (oG c e) (VX b)) (fun b=>jv h (UX b)) x e' h') hb I m V U a0 i0 h0 hr hl
 refine⟨fun T hT code hc hn ρ O a w H hF K hK=>D.h T hT code hc hn ρ O a w H hF _ fun x e' h' ρ' O' a' w' q1 q2 q3 q4 q5 q6=>?_⟩
 obtain⟨b,hjb,rfl,he⟩:=q1.h
 obtain⟨ρ3,O3,s1,s2,s3,s4⟩:=he ρ' O' a' w' N q4 q6
 exact hK (.exit jx) _ _ ρ3 O3 a' w' (hx b hjb) (q2.trans s1 (Nat.le_refl _)) (q3.trans s2) s3 (by rw[<-aI];exact Nat.le_of_ble_eq_true (hlx b)) s4
end Sx
end
end Go.Proofs.YtakhobfamnjnoaaGreatDoor
