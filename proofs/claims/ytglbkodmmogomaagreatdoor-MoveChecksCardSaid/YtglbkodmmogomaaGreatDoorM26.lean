/- Numbers out of bytes: what is read (plain); bytes.back(98). -/
import Derived.Test.YtglbkodmmogomaaGreatDoorM14
import Derived.OneCell
import Derived.Lib.IndexBytes
set_option linter.unusedVariables false
set_option linter.unusedSimpArgs false
set_option maxHeartbeats 1000000
set_option maxRecDepth 100000
namespace Go.Proofs.YtglbkodmmogomaaGreatDoor
section
open Go Go.RowKit
theorem Iz (a:Nat)(ha:a<9223372036854775808):bits .xor .i64 (a:Int) (-1)= -1-(a:Int):=by
 show IntKind.i64.wrap ((BitVec.ofInt 64 (a:Int)^^^BitVec.ofInt 64 (-1)).toNat:Int)=_
 have h1:BitVec.ofInt 64 (-1)=BitVec.allOnes 64:=by decide
 rw[h1,BitVec.xor_allOnes,BitVec.toNat_not,ofInt_u64 a (by omega)]
 simp[IntKind.wrap,IntKind.bits,IntKind.signed]
 omega
theorem FQ (a:Nat)(ha:a<9223372036854775808):bits .xor .i64 (a:Int) 0=(a:Int):=by
 show IntKind.i64.wrap ((BitVec.ofInt 64 (a:Int)^^^BitVec.ofInt 64 0).toNat:Int)=_
 have h1:BitVec.ofInt 64 0=0#64:=by decide
 rw[h1,BitVec.xor_zero,ofInt_u64 a (by omega)]
 simp[IntKind.wrap,IntKind.bits,IntKind.signed]
 omega
theorem Om {u:Nat}(hu:u<18446744073709551616):bits .xor .i64 ((u/2:Nat):Int) (-((u%2:Nat):Int))=je u:=by
 unfold je
 have h2:u%2=0\/u%2=1:=by omega
 rcases h2 with h2|h2
 ·rw[h2,if_pos rfl];exact FQ _ (by omega)
 ·rw[h2,if_neg (by omega)]
  have:=Iz (u/2) (by omega)
  rw[show(-((1:Nat):Int))= -1 from rfl,this];omega
theorem vV (u:Nat)(hu:u<18446744073709551616)(w:World):Calls Tryz.prog 96 #[.int .u64 (u:Int)] w fun e w'=>e= .returned (.int .i64 (je u))/\w=w':=by
 have e1:bits .and .u64 (u:Int) 1=((u%2:Nat):Int):=by
  have:=u64_and_nat u 1 hu (by omega)
  rw[nat_mask1]at this
  exact this
 have hb:=Om hu
 obtain⟨v,hv⟩: ∃v,u%2=v:=⟨_,rfl⟩
 have hv2:v<2:=by omega
 rw[hv]at e1 hb
 have HV:=Lib.hid hv
 have HB:=Lib.hid hb
 clear hv hb
 go_enter Tryz.func96,Tryz.ntmps96
 go_wp2
 go_ret
 exact⟨dY (by rw[show((u:Int)/2)=((u/2:Nat):Int) by omega];exact HB.out),rfl⟩
theorem OW (k:Nat):(2:Nat)^(7*k)=128^k:=by rw[Nat.pow_mul]
theorem Rz {U d k:Nat}(h1:U<128^k)(h2:U+d*128^k<18446744073709551616):bits .or .u64 (U:Int) (IntKind.u64.wrap ((d:Int)*2^(7*k)))=((U+d*128^k:Nat):Int):=by
 have e1:(d:Int)*2^(7*k)=((d*128^k:Nat):Int):=by rw[<-OW];simp
 rw[e1,IntKind.wrap_u64,Int.emod_eq_of_lt (by omega) (by omega),u64_or_nat _ _ (by omega) (by omega),Nat.or_comm,nat_join (7*k) _ _ (by rw[OW];simp) (by rw[OW];exact h1)]
 congr 1
 omega
theorem RZ {c:Nat}(h:c<256):bits .and .u8 (c:Int) 128=if 128<=c then 128 else 0:=by
 have:=u8_and_nat c 128 h (by omega)
 rw[show(128:Nat)=2^7 from rfl,nat_bit]at this
 have e:c/2^7%2=if 128<=c then 1 else 0:=by split<;>omega
 rw[e]at this
 split
 ·rename_i hc;rw[if_pos hc]at this;exact this
 ·rename_i hc;rw[if_neg hc]at this;exact this
def Xo (w:World)(x:Int×Nat×Int)(e:Ending)(w':World):Prop:=e= .returned (.tuple #[.int .i64 x.1, .int .i64 (x.2.1:Int), .int .i64 x.2.2])/\w=w'
theorem Ol (s:ByteArray)(hs:s.size<=maxLen)(w:World):Calls Tryz.prog 48 #[.string s] w (Xo w (tk s.data.toList)):=by
 unfold maxLen at hs
 go_enter Tryz.func48,Tryz.ntmps48
 go_wp2_with fail
 go_step3
 go_wp2_with fail
 go_step3
 go_wp2_with fail
 go_loopg [5,6] 11 (fun g vu vi wr=> ∃k U:Nat,vi= .int .i64 (k:Int)/\vu= .int .u64 (U:Int)/\k<=9/\k<=s.size/\U<128^k/\11-k<=g/\tk s.data.toList=eF k U (s.data.toList.drop k)/\wr=w)
 case atStart=>exact⟨0,0,rfl,rfl,by omega,by omega,by decide,by omega,rfl,rfl⟩
 case round=>
  obtain⟨k,U,rfl,rfl,hk9,hks,hU,hg,hT,rfl⟩:=hrel
  have HT:=Lib.hid (And.intro hT (And.intro hU hg))
  clear hT hU hg
  by_cases hlt:k<s.size
  ·obtain⟨c,hc⟩: ∃c,s[k].toNat=c:=⟨_,rfl⟩
   have hc256:c<256:=by rw[<-hc];exact s[k].toNat_lt
   have hU2:U<9223372036854775808:=by
    have h1:128^k<=128^9:=Nat.pow_le_pow_right (by omega) hk9
    rw[Kr]at h1
    have:=HT.out.2.1
    omega
   have hdr:s.data.toList.drop k=s[k]::s.data.toList.drop (k+1):=by
    rw[List.drop_eq_getElem_cons (by simpa using hlt)];rfl
   have HD:=Lib.hid hdr
   have HC:=Lib.hid hc
   clear hdr
   by_cases hbad:k=9/\1<c
   ·obtain⟨rfl,hc1⟩:=hbad
    have hcb:(1:Int)<(s[9].toNat:Int):=by omega
    clear hc
    go_wp2_with fail
    try rw[Exit.noGoto_ret]
    go_ret3
    have e:=HT.out.1
    rw[HD.out,eF,HC.out,if_pos ⟨rfl,hc1⟩]at e
    rw[e]
    exact⟨rfl,rfl⟩
   ·have h9:k=9-> ¬(1:Int)<(s[k].toNat:Int):=fun h h1=>hbad ⟨h,by omega⟩
    have b1:bits .andNot .u8 (s[k].toNat:Int) 128=((c%128:Nat):Int):=by
     rw[hc]
     have:=u8_andNot_nat c 128 hc256 (by omega)
     rw[show 255-128=127 from rfl,nat_mask7]at this
     exact this
    obtain⟨d,hd⟩: ∃d,c%128=d:=⟨_,rfl⟩
    rw[hd]at b1
    have hd2:d<128:=by omega
    have hV:U+d*128^k<18446744073709551616/\(k<=8->U+d*128^k<128^(k+1)):=by
     have hUk:=HT.out.2.1
     constructor
     ·by_cases hk:k=9
      ·subst hk
       have:d<=1:=by have:=h9 rfl;omega
       rw[Kr]at*
       have:d*9223372036854775808<=1*9223372036854775808:=Nat.mul_le_mul_right _ this
       omega
      ·have h1:128^k<=128^8:=Nat.pow_le_pow_right (by omega) (by omega)
       have h2:d*128^k<=127*128^k:=Nat.mul_le_mul_right _ (by omega)
       have h3:(128:Nat)^8=72057594037927936:=by decide
       omega
     ·intro _
      have h2:d*128^k<=127*128^k:=Nat.mul_le_mul_right _ (by omega)
      rw[Nat.pow_succ];omega
    have b2:=Rz HT.out.2.1 hV.1
    obtain⟨V,UQ⟩: ∃V,U+d*128^k=V:=⟨_,rfl⟩
    rw[UQ]at b2 hV
    have b4:bits .and .u8 (s[k].toNat:Int) 128=if 128<=c then 128 else 0:=by rw[hc];exact RZ hc256
    have hsk: ∀h:c=0,((s[k].toNat:Int)==0)=true:=fun h=>by rw[hc,h];rfl
    have KX: ∀h:c≠0,((s[k].toNat:Int)==0)=false:=fun h=>by rw[hc];exact beq_eq_false_iff_ne.2 (by omega)
    have hV1:=hV.1
    have e0:=HT.out.1
    rw[HD.out,eF,HC.out,if_neg hbad,hd,UQ]at e0
    have E0:=Lib.hid e0
    have HH:=Lib.hid (And.intro hd (And.intro hV.2 hbad))
    clear hd hc hbad e0 hV UQ
    by_cases hbig:128<=c
    ·have hk9':((k:Int)==9)=false:=beq_eq_false_iff_ne.2 (by have:=HH.out.2.2;omega)
     have hk8:k<=8:=by have:=HH.out.2.2;omega
     have F:=Lib.hid (show tk s.data.toList=eF (k+1) V (s.data.toList.drop (k+1))/\V<128^(k+1)from⟨by rw[E0.out,if_pos hbig],HH.out.2.1 hk8⟩)
     rw[if_pos hbig]at b4
     clear h9 hsk KX
     go_wp2_with fail
     go_roundg (11-(k+1))
     case rel=>exact⟨k+1,V,by go_num,rfl,by omega,by omega,F.out.2,Nat.le_refl _,F.out.1,rfl⟩
     case measure=>have:=HT.out.2.2;omega
    ·rw[if_neg hbig]at b4 E0
     have hk:((k:Int)==9)=false\/(((k:Int)==9)=true/\ ¬(1:Int)<(s[k].toNat:Int)):=by
      by_cases h:k=9
      ·exact .inr ⟨by rw[h];rfl,h9 h⟩
      ·exact .inl (beq_eq_false_iff_ne.2 (by omega))
     clear h9
     by_cases c0:c=0
     ·have z0:=hsk c0
      clear hsk KX
      by_cases k0:0<k
      ·have F:=Lib.hid (show tk s.data.toList=(0,0,21) by rw[E0.out,if_pos ⟨c0,k0⟩])
       have k1:(1:Int)<(k:Int)+1:=by omega
       rcases hk with hk|⟨hk,h1⟩
       ·go_wp2_with fail
        try rw[Exit.noGoto_ret]
        go_ret3
        rw[F.out]
        exact⟨rfl,rfl⟩
       ·go_wp2_with fail
        try rw[Exit.noGoto_ret]
        go_ret3
        rw[F.out]
        exact⟨rfl,rfl⟩
      ·have F:=Lib.hid (show tk s.data.toList=(je V,k+1,0) by rw[E0.out,if_neg (fun h=>k0 h.2)])
       have k1: ¬(1:Int)<(k:Int)+1:=by omega
       rcases hk with hk|⟨hk,h1⟩
       ·go_wp2_with fail
        (with_reducible refine(vV V hV1 _).mono ?_)
        rintro e w' ⟨rfl,rfl⟩
        go_wp2_with fail
        try rw[Exit.noGoto_ret]
        go_ret3
        rw[F.out]
        exact⟨rfl,rfl⟩
       ·go_wp2_with fail
        (with_reducible refine(vV V hV1 _).mono ?_)
        rintro e w' ⟨rfl,rfl⟩
        go_wp2_with fail
        try rw[Exit.noGoto_ret]
        go_ret3
        rw[F.out]
        exact⟨rfl,rfl⟩
     ·have z0:=KX c0
      have F:=Lib.hid (show tk s.data.toList=(je V,k+1,0) by rw[E0.out,if_neg (fun h=>c0 h.1)])
      clear hsk KX
      rcases hk with hk|⟨hk,h1⟩
      ·go_wp2_with fail
       (with_reducible refine(vV V hV1 _).mono ?_)
       rintro e w' ⟨rfl,rfl⟩
       go_wp2_with fail
       try rw[Exit.noGoto_ret]
       go_ret3
       rw[F.out]
       exact⟨rfl,rfl⟩
      ·go_wp2_with fail
       (with_reducible refine(vV V hV1 _).mono ?_)
       rintro e w' ⟨rfl,rfl⟩
       go_wp2_with fail
       try rw[Exit.noGoto_ret]
       go_ret3
       rw[F.out]
       exact⟨rfl,rfl⟩
  ·go_wp2_with fail
   try rw[Exit.noGoto_ret]
   go_ret3
   have e:=HT.out.1
   rw[List.drop_eq_nil_of_le (by simpa using hlt)]at e
   rw[e]
   exact⟨rfl,rfl⟩
def iG {α:Type}(w:World)(E S:Nat):Rd α->Prop
 | .ok _ r=>w.heap[E]?=some (.cells #[.int .i64 0] 28 (0,0))/\ ∃s:ByteArray,w.heap[S]?=some (.cells #[.string s] 9 (0,0))/\s.data.toList=r/\s.size<=maxLen
 | .err f=>w.heap[E]?=some (.cells #[.int .i64 f] 28 (0,0))/\f≠0/\ ∃s:ByteArray,w.heap[S]?=some (.cells #[.string s] 9 (0,0))
def SL (a b:Nat):Nat->Prop:=fun k=>k=a\/k=b
def numAt {α:Type}(lo hi:Int)(x:Rd α):Rd Int:=x.bind fun _ r=>num lo hi r
def bK (lo:Int):Rd Int->Int
 | .ok n _=>n
 | .err _=>lo
def nK {α:Type}(w:World)(E S:Nat)(lo hi:Int)(x:Rd α)(e:Ending)(w':World):Prop:=
 e= .returned (.int .i64 (bK lo (numAt lo hi x)))/\iG w' E S (numAt lo hi x)/\Kept (SL E S) w w'
theorem zN: ∀(l:List UInt8)(i u:Nat),(eF i u l).2.1<=i+l.length
 |[],_,_=>Nat.zero_le _
 |c::r,i,u=>by
  have h:=zN r (i+1) (u+c.toNat%128*128^i)
  unfold eF
  rw[List.length_cons]
  split
  ·exact Nat.zero_le _
  ·split
   ·omega
   ·split
    ·exact Nat.zero_le _
    ·show i+1<=_;omega
theorem LZ (l:List UInt8):(tk l).2.1<=l.length:=by have:=zN l 0 0;unfold tk;omega
theorem iG.set {w:World}{E S:Nat}{a u:Value}{f:Int}{s:ByteArray}(rZ:E≠S)(h1:w.heap[E]?=some (.cells #[a] 28 (0,0)))(h2:w.heap[S]?=some (.cells #[u] 9 (0,0)))(hu:u= .string s):
 (w.setCell ⟨E,0,none⟩ (.int .i64 f)).heap[E]?=some (.cells #[.int .i64 f] 28 (0,0))/\(w.setCell ⟨E,0,none⟩ (.int .i64 f)).heap[S]?=some (.cells #[.string s] 9 (0,0)):=
 ⟨one_setCell h1,by rw[Below.heap_setCell _ _ _ _ (fun e=>rZ e.symm),h2,hu]⟩
theorem iG.set2 {w:World}{E S:Nat}{a u:Value}{t:ByteArray}(rZ:E≠S)(h1:w.heap[E]?=some (.cells #[a] 28 (0,0)))(h2:w.heap[S]?=some (.cells #[u] 9 (0,0))):
 (w.setCell ⟨S,0,none⟩ (.string t)).heap[E]?=some (.cells #[a] 28 (0,0))/\(w.setCell ⟨S,0,none⟩ (.string t)).heap[S]?=some (.cells #[.string t] 9 (0,0)):=
 ⟨by rw[Below.heap_setCell _ _ _ _ rZ,h1],one_setCell h2⟩
theorem ou {α:Type}(lo hi:Int)(E S:Nat)(x:Rd α)(w:World)(rZ:E≠S)(h:iG w E S x):
 Calls Tryz.prog 47 #[.int .i64 lo, .int .i64 hi, .pointer (some ⟨E,0,none⟩), .pointer (some ⟨S,0,none⟩)] w (nK w E S lo hi x):=by
 cases x with
 |err f=>
  obtain⟨h1,h2,s,h3⟩:=h
  have c0:=cell_of_one h1
  have F:nK (α:=α) w E S lo hi (.err f) (.returned (.int .i64 lo)) w:=⟨rfl,⟨h1,h2,s,h3⟩,Kept.refl _ _⟩
  have FF:=Lib.hid F
  have hf:(f !=0)=true:=bne_iff_ne.2 h2
  clear F h1 h2 h3
  go_enter Tryz.func47,Tryz.ntmps47
  go_wp2_with fail
  go_ret
  exact FF.out
 |ok a r=>
  obtain⟨h1,s,h2,rfl,h3⟩:=h
  have c0:=cell_of_one h1
  have c1:=cell_of_one h2
  have f0:=free_of_one h1
  have f1:=free_of_one h2
  have hE:=lt_of_block h1
  have hS:=lt_of_block h2
  have hb:=Ol s h3
  obtain⟨x,hx⟩: ∃x,tk s.data.toList=x:=⟨_,rfl⟩
  rw[hx]at hb
  obtain⟨n,z,f⟩:=x
  have HX:=Lib.hid (And.intro hx (And.intro h1 (And.intro h2 h3)))
  have HB:=Lib.hid hb
  clear hx h1 h2 h3 hb
  by_cases hf:f=0
  ·subst hf
   have hz:z<=s.size:=by
    have:=LZ s.data.toList
    rw[HX.out.1]at this
    exact this
   have hzi: ¬(s.size:Int)<(z:Int):=by omega
   have hE0:=fun(f:Int)=>iG.set (w:=w) (f:=f) rZ HX.out.2.1 HX.out.2.2.1 rfl
   have hst: ∀f:Int,((((w.setCell ⟨E,0,none⟩ (.int .i64 0)).setCell ⟨S,0,none⟩ (.string (s.extract z s.size))).setCell ⟨E,0,none⟩ (.int .i64 f)).heap[E]?=some (.cells #[.int .i64 f] 28 (0,0))/\(((w.setCell ⟨E,0,none⟩ (.int .i64 0)).setCell ⟨S,0,none⟩ (.string (s.extract z s.size))).setCell ⟨E,0,none⟩ (.int .i64 f)).heap[S]?=some (.cells #[.string (s.extract z s.size)] 9 (0,0))):=fun f=>
    have h2:=iG.set2 (t:=s.extract z s.size) rZ (hE0 0).1 (hE0 0).2
    iG.set (f:=f) rZ h2.1 h2.2 rfl
   have h2:=iG.set2 (t:=s.extract z s.size) rZ (hE0 0).1 (hE0 0).2
   have hk2:Kept (SL E S) w ((w.setCell ⟨E,0,none⟩ (.int .i64 0)).setCell ⟨S,0,none⟩ (.string (s.extract z s.size))):=((Kept.refl _ _).setCell (.inl (.inl rfl)) _).setCell (.inl (.inr rfl)) _
   have hsz:(s.extract z s.size).size<=maxLen:=by have:=HX.out.2.2.2;simp;omega
   have ST:=Lib.hid (And.intro hst (And.intro h2 (And.intro hk2 hsz)))
   have hnum:num lo hi s.data.toList=if n<lo\/hi<n then .err 21 else .ok n (s.data.toList.drop z):=by
    unfold num;rw[HX.out.1];simp
   have HN:=Lib.hid hnum
   clear hE0 hst h2 hk2 hsz hnum
   have ways:n<lo\/(¬n<lo/\hi<n)\/(¬n<lo/\ ¬hi<n):=by omega
   rcases ways with w1|⟨w1,w2⟩|⟨w1,w2⟩
   ·have hn:numAt lo hi (Rd.ok a s.data.toList)= .err 21:=by show num lo hi _=_;rw[HN.out,if_pos (.inl w1)]
    have F:Hid (nK w E S lo hi (.ok a s.data.toList) (.returned (.int .i64 lo)) (((w.setCell ⟨E,0,none⟩ (.int .i64 0)).setCell ⟨S,0,none⟩ (.string (s.extract z s.size))).setCell ⟨E,0,none⟩ (.int .i64 21))):=by
     unfold nK
     rw[hn]
     exact⟨rfl,⟨(ST.out.1 21).1,by decide,_,(ST.out.1 21).2⟩,ST.out.2.2.1.setCell (.inl (.inl rfl)) _⟩
    clear hn
    go_enter Tryz.func47,Tryz.ntmps47
    go_wp2_with fail
    (with_reducible refine(HB.out _).mono ?_)
    rintro e w' ⟨rfl,rfl⟩
    go_wp2_with fail
    go_ret
    exact F.out
   ·have hn:numAt lo hi (Rd.ok a s.data.toList)= .err 21:=by show num lo hi _=_;rw[HN.out,if_pos (.inr w2)]
    have F:Hid (nK w E S lo hi (.ok a s.data.toList) (.returned (.int .i64 lo)) (((w.setCell ⟨E,0,none⟩ (.int .i64 0)).setCell ⟨S,0,none⟩ (.string (s.extract z s.size))).setCell ⟨E,0,none⟩ (.int .i64 21))):=by
     unfold nK
     rw[hn]
     exact⟨rfl,⟨(ST.out.1 21).1,by decide,_,(ST.out.1 21).2⟩,ST.out.2.2.1.setCell (.inl (.inl rfl)) _⟩
    clear hn
    go_enter Tryz.func47,Tryz.ntmps47
    go_wp2_with fail
    (with_reducible refine(HB.out _).mono ?_)
    rintro e w' ⟨rfl,rfl⟩
    go_wp2_with fail
    go_ret
    exact F.out
   ·have hn:numAt lo hi (Rd.ok a s.data.toList)= .ok n (s.data.toList.drop z):=by show num lo hi _=_;rw[HN.out,if_neg (by omega)]
    have F:Hid (nK w E S lo hi (.ok a s.data.toList) (.returned (.int .i64 n)) ((w.setCell ⟨E,0,none⟩ (.int .i64 0)).setCell ⟨S,0,none⟩ (.string (s.extract z s.size)))):=by
     unfold nK
     rw[hn]
     exact⟨rfl,⟨ST.out.2.1.1,_,ST.out.2.1.2,Lib.extract_to_end s z,ST.out.2.2.2⟩,ST.out.2.2.1⟩
    clear hn
    go_enter Tryz.func47,Tryz.ntmps47
    go_wp2_with fail
    (with_reducible refine(HB.out _).mono ?_)
    rintro e w' ⟨rfl,rfl⟩
    go_wp2_with fail
    go_ret
    exact F.out
  ·have hfb:(f !=0)=true:=bne_iff_ne.2 hf
   go_enter Tryz.func47,Tryz.ntmps47
   go_wp2_with fail
   (with_reducible refine(HB.out _).mono ?_)
   rintro e w1 ⟨rfl,rfl⟩
   have F:Hid (nK w E S lo hi (.ok a s.data.toList) (.returned (.int .i64 lo)) (w.setCell ⟨E,0,none⟩ (.int .i64 f))):=by
    have hn:numAt lo hi (Rd.ok a s.data.toList)= .err f:=by
     show num lo hi _=_
     unfold num
     rw[HX.out.1,if_pos hf]
    unfold nK
    rw[hn]
    have hs:=iG.set (f:=f) rZ HX.out.2.1 HX.out.2.2.1 rfl
    exact⟨rfl,⟨hs.1,hf,s,hs.2⟩,(Kept.refl _ _).setCell (.inl (.inl rfl)) _⟩
   go_wp2_with fail
   go_ret
   exact F.out
theorem modify_last {α:Type}(a:α)(f:α->α): ∀l:List α,(l++[a]).modify l.length f=l++[f a]
 |[]=>rfl
 |b::l=>by simp[modify_last a f l]
section
variable {P:Program} {w:World} {m:Nat} {l:List (Int×Value)} {T K E:TypeId} {q:IntKind}
theorem dh.entry (h:dh w m l)(hT:P.underlying T=some (.map K E))(hK:P.underlying K=some (.int q)){key:Int}(hn:key∉l.map (·.1)){z:Value}(hz:(zeroValue E).run P w= .ok z w):
 ∃(w1:World)(born:Int),(Instr.mapEntry T (.map (some m)) (.int .i64 key)).run P w= .ok (.tuple #[z, .int .i64 born]) w1/\Kept (one m) w w1/\w1.heap.size=w.heap.size/\
  ∀v:Value,∃w2,(Instr.entryStore T (.map (some m)) (.int .i64 born) v).run P w1= .ok () w2/\dh w2 m (upd key v l)/\Kept (one m) w w2/\w2.heap.size=w.heap.size:=by
 obtain⟨L,clock,h,rfl⟩:=h
 have hf:qB key L 0=none:=by
  cases hf:qB key L 0 with
  |none=>rfl
  |some x=>
   exfalso
   have h1:=vK key L 0
   rw[hf]at h1
   obtain⟨j,y⟩:=x
   have:=Fq (l:=L.map kv) (key:=key) (v:=y) (by rw[<-h1];rfl)
   exact hn (List.mem_map.2 ⟨_,this,rfl⟩)
 have hno:=zB hf
 refine⟨World.gY w m (((L++[(key,z,clock)]).map ent).toArray) (clock+1),(clock:Int),?_,mX _ _ _ _,by simp[World.gY],fun v=>?_⟩
 ·simp[Instr.mapEntry,run_underlying hT,fO h.heap,run_checkKey hK,run_findKey hK,hf,og h.heap,ent,hz,goInt]
 ·have hh:=mY h.heap (((L++[(key,z,clock)]).map ent).toArray) (clock+1)
  refine⟨World.gY w m (((L++[(key,v,clock)]).map ent).toArray) (clock+1),?_,?_,mX _ _ _ _,by simp[World.gY]⟩
  ·have hidx:((L++[(key,z,clock)]).map ent).toArray.findIdx? (fun e=>(e.born:Int)==(clock:Int))=some L.length:=by
    rw[List.findIdx?_toArray,List.map_append,List.findIdx?_append]
    have h0:(L.map ent).findIdx? (fun e=>(e.born:Int)==(clock:Int))=none:=by
     rw[List.findIdx?_eq_none_iff]
     intro e he
     obtain⟨t,ht,rfl⟩:=List.mem_map.1 he
     have:=h.old t ht
     simp[ent];omega
    rw[h0]
    simp[ent]
   have hmod:((L++[(key,z,clock)]).map ent).toArray.modify L.length (fun e=>{e with val:=v})=((L++[(key,v,clock)]).map ent).toArray:=by
    rw[List.modify_toArray,List.map_append,List.map_append]
    congr 1
    have e:(L.map ent).length=L.length:=by simp
    rw[<-e,List.map_cons,List.map_nil,modify_last]
    simp[ent]
   simp only[Instr.entryStore,Sem.run_bind,fO hh,Result.andThen_ok,asInt,asIntOf,Sem.run_pure,hidx,hmod]
   rw[og hh]
   simp[World.gY]
  ·refine⟨L++[(key,v,clock)],clock+1,⟨mY h.heap _ _,?_,?_,?_⟩,?_⟩
   ·rw[List.map_append,List.nodup_append]
    refine⟨h.keys,by simp,?_⟩
    intro a ha b hb
    obtain⟨t,ht,rfl⟩:=List.mem_map.1 ha
    simp at hb
    subst hb
    exact hno t ht
   ·rw[List.map_append,List.nodup_append]
    refine⟨h.born,by simp,?_⟩
    intro a ha b hb
    obtain⟨t,ht,rfl⟩:=List.mem_map.1 ha
    simp at hb
    subst hb
    exact Nat.ne_of_lt (h.old t ht)
   ·intro t ht
    rcases List.mem_append.1 ht with ht|ht
    ·exact Nat.lt_succ_of_lt (h.old t ht)
    ·simp at ht;subst ht;exact Nat.lt_succ_self _
   ·rw[List.map_append,Bj]
    ·rfl
    ·intro p hp
     obtain⟨t,ht,rfl⟩:=List.mem_map.1 hp
     exact hno t ht
end
end
section
open Go Go.RowKit
def aU (j:Nat)(x:Rd Int):Rd (List Int):=x.bind fun _ r=>nums j r
theorem Dl: ∀(k:Nat)(l:List UInt8),nums (k+1) l=(nums k l).bind fun ns r=>(num aP hi64 r).bind fun n r'=> .ok (ns++[n]) r'
 |0,l=>rfl
 |k+1,l=>by
  rw[nums,nums]
  cases h1:num aP hi64 l with
  |err e=>rfl
  |ok n r=>
   simp only[Rd.bind]
   rw[Dl k r]
   cases h2:nums k r with
   |err e=>rfl
   |ok ns r2=>
    simp only[Rd.bind]
    cases h3:num aP hi64 r2 with
    |err e=>rfl
    |ok n' r3=>rfl
theorem pU (j:Nat)(x:Rd Int):aU (j+1) x=(aU j x).bind fun ns r=>(num aP hi64 r).bind fun n r'=> .ok (ns++[n]) r':=by
 cases x with
 |err f=>rfl
 |ok n r=>exact Dl j r
theorem iG.same {α β:Type}{w:World}{E S:Nat}{x:Rd α}{y:Rd β}(h:iG w E S x)(hok: ∀a r,x= .ok a r-> ∃b,y= .ok b r)(herr: ∀f,x= .err f->y= .err f):iG w E S y:=by
 cases x with
 |ok a r=>
  obtain⟨b,rfl⟩:=hok a r rfl
  exact h
 |err f=>
  rw[herr f rfl]
  exact h
theorem iG.Kz {w:World}{E S j:Nat}{x:Rd Int}(h:iG w E S (numAt aP hi64 (aU j x))):iG w E S (aU (j+1) x):=by
 rw[pU]
 refine h.same (fun a r e=>?_) (fun f e=>?_)
 ·cases h1:aU j x with
  |err f=>rw[h1]at e;cases e
  |ok ns r1=>
   rw[h1]at e
   have e:num aP hi64 r1= .ok a r:=e
   exact⟨ns++[a],by simp only[Rd.bind];rw[e]⟩
 ·cases h1:aU j x with
  |err f'=>
   rw[h1]at e
   have e:Rd.err f'=Rd.err f:=e
   injection e with e
   rw[e];rfl
  |ok ns r1=>
   rw[h1]at e
   have e:num aP hi64 r1= .err f:=e
   simp only[Rd.bind];rw[e]
theorem iG.kept {α:Type}{w w':World}{E S:Nat}{x:Rd α}{Q:Nat->Prop}(h:iG w E S x)(hk:Kept Q w w')(hE: ¬Q E)(hS: ¬Q S):iG w' E S x:=by
 cases x with
 |ok a r=>
  obtain⟨h1,s,h2,h3⟩:=h
  exact⟨hk.heap h1 hE,s,hk.heap h2 hS,h3⟩
 |err f=>
  obtain⟨h1,h0,s,h2⟩:=h
  exact⟨hk.heap h1 hE,h0,s,hk.heap h2 hS⟩
theorem iG.lt {α:Type}{w:World}{E S:Nat}{x:Rd α}(h:iG w E S x):E<w.heap.size/\S<w.heap.size:=by
 cases x with
 |ok a r=>obtain⟨h1,s,h2,h3⟩:=h;exact⟨lt_of_block h1,lt_of_block h2⟩
 |err f=>obtain⟨h1,h0,s,h2⟩:=h;exact⟨lt_of_block h1,lt_of_block h2⟩
theorem Tc (l:List UInt8):row l=(numAt aP hi64 (Rd.ok () l)).bind fun key _=>(numAt aP hi64 (numAt aP hi64 (Rd.ok () l))).bind fun acc _=>
 (numAt 0 16 (numAt aP hi64 (numAt aP hi64 (Rd.ok () l)))).bind fun n _=>(aU n.toNat (numAt 0 16 (numAt aP hi64 (numAt aP hi64 (Rd.ok () l))))).bind fun ns r=> .ok (key,(acc,ns)) r:=by
 unfold row
 cases h1:num aP hi64 l with
 |err e=>have e1:numAt aP hi64 (Rd.ok () l)= .err e:=h1
         rw[e1];rfl
 |ok key r1=>
  have e1:numAt aP hi64 (Rd.ok () l)= .ok key r1:=h1
  rw[e1]
  simp only[Rd.bind]
  cases h2:num aP hi64 r1 with
  |err e=>have e2:numAt aP hi64 (Rd.ok key r1)= .err e:=h2
          rw[e2]
  |ok acc r2=>
   have e2:numAt aP hi64 (Rd.ok key r1)= .ok acc r2:=h2
   rw[e2]
   simp only
   cases h3:num 0 16 r2 with
   |err e=>have e3:numAt 0 16 (Rd.ok acc r2)= .err e:=h3
           rw[e3]
   |ok n r3=>
    have e3:numAt 0 16 (Rd.ok acc r2)= .ok n r3:=h3
    rw[e3]
    rfl
theorem pV {α:Type}{lo hi:Int}{x:Rd α}(h:lo<=hi):lo<=bK lo (numAt lo hi x)/\bK lo (numAt lo hi x)<=hi:=by
 cases x with
 |err f=>exact⟨Int.le_refl _,h⟩
 |ok a r=>
  show lo<=bK lo (num lo hi r)/\bK lo (num lo hi r)<=hi
  unfold num
  split
  ·exact⟨Int.le_refl _,h⟩
  ·split
   ·exact⟨Int.le_refl _,h⟩
   ·simp only[bK];omega
def fC (w:World)(l:List UInt8)(e:Ending)(w':World):Prop:=
 match gK l with
 | .ok T _=> ∃b m,e= .returned (.tuple #[.pointer (some ⟨b,0,none⟩), .int .i64 0])/\TabAt w' (up w.heap.size) b m T/\Kept none' w w'
 | .err f=>e= .returned (.tuple #[.pointer none, .int .i64 f])/\f≠0/\Kept none' w w'
def mD (T:Tab):Int:=match T.getLast? with|some p=>p.1|none=>0
abbrev yC (w:World)(E S:Nat):Nat->Prop:=fun k=>w.heap.size<=k/\k≠E/\k≠S
structure qI {α:Type}(w wr:World)(B:Nat->Prop)(E S b m:Nat)(T:Tab)(x:Rd α):Prop where
 st:iG wr E S x
 tab:TabAt wr B b m T
 kept:Kept none' w wr
theorem qI.num {α:Type}{w wr w':World}{B:Nat->Prop}{E S b m:Nat}{T:Tab}{x:Rd α}{lo hi:Int}{e:Ending}(h:qI w wr B E S b m T x)(hB: ∀k,B k->k≠E/\k≠S)(hE:w.heap.size<=E)(hS:w.heap.size<=S)(hq:nK wr E S lo hi x e w'):qI w w' B E S b m T (numAt lo hi x):=
 ⟨hq.2.1,h.tab.kept hq.2.2 (fun k hk hb=>by
   rcases hk with rfl|rfl
   ·exact absurd rfl (hB _ hb).1
   ·exact absurd rfl (hB _ hb).2) (fun hk=>by
   rcases hk with e|e
   ·exact(hB _ h.tab.hm).1 e
   ·exact(hB _ h.tab.hm).2 e),
   h.kept.new hq.2.2 (fun i hi hk=>by rcases hk with e|e<;>omega)⟩
theorem qI.pure {α:Type}{w wr w':World}{B:Nat->Prop}{E S b m:Nat}{T:Tab}{x:Rd α}(h:qI w wr B E S b m T x)(hk:Kept none' wr w'):qI w w' B E S b m T x:=
 ⟨h.st.kept hk (fun h=>h) (fun h=>h),h.tab.pure hk,h.kept.trans hk⟩
structure xQ (w wr:World)(B:Nat->Prop)(E S C b m:Nat)(T:Tab)(v2:Int)(x:Rd Int)(j:Nat)(lv:Value)(n:Nat)(L:List Int):Prop where
 inn:qI w wr B E S b m T (aU j x)
 cell:wr.heap[C]?=some (.cells #[.int .i64 v2,lv] 109 (0,0))
 own:wr.ownsRow (C+1) 2 1 lv n (ints L)
 len:L.length=j
 val: ∀ns r,aU j x= .ok ns r->L=ns
theorem jq {w:World}{C:Nat}{a u:Value}{E:TypeId}(h:w.heap[C]?=some (.cells #[a,u] E (0,0))):w.cell? ⟨C,0,none⟩=some a/\w.cell? ⟨C,1,none⟩=some u/\w.frozen? ⟨C,1,none⟩=false/\ ∀v,(w.setCell ⟨C,1,none⟩ v).heap[C]?=some (.cells #[a,v] E (0,0)):=by
 refine⟨by simp[World.cell?,h],by simp[World.cell?,h],by simp[World.frozen?,h],fun v=>?_⟩
 have hlt:=lt_of_block h
 have h':w.heap[C]= .cells #[a,u] E (0,0):=by simpa[Array.getElem?_eq_getElem hlt]using h
 show(w.heap.modify C _)[C]?=_
 rw[Array.getElem?_eq_getElem (by simpa using hlt),Array.getElem_modify_self,h']
 rfl
theorem dw {w:World}{base e size n:Nat}{v:Value}{xs:List Value}(h:w.ownsRow base e size v n xs){b:Nat}(hb:v.ownBlock=some b):base<=b/\b<w.heap.size:=by
 rcases h.2 with⟨rfl,_⟩|⟨g,cap,cur,rfl,h1,h2,_⟩
 ·cases hb
 ·cases hb;exact⟨h1,(Array.getElem?_eq_some_iff.1 h2).1⟩
theorem Ew {P:Program}{w w':World}{o:Oper}{a:Act}{K:Act->World->Prop}{Q:Exit->Act->World->Prop}(s x:Operand)(t:TypeId)
 (ho:o.op= .call {callee:= .builtin .append,args:= #[s,x],argTypes:= #[t,t]}) (v u v':Value) (hs:a.eval s=v) (hx:a.eval x=u) (hr:(Builtin.append_ #[t,t] o.type #[v,u]).run P w= .ok v' w')
 (h:K (a.put o.dst v') w'):o.wp P a w K Q:=by
 unfold Oper.wp execOp
 simp only[ho,resolve,invoke,builtin,Sem.run_bind,Sem.run_pure,Result.andThen_ok,List.map_toArray,List.map_cons,List.map_nil,hs,hx,hr]
 exact h
def sW (E S C:Nat):Nat->Prop:=fun k=>k=E\/k=S\/C<k
theorem xQ.step {w wr w3:World}{B:Nat->Prop}{E S C b m:Nat}{T:Tab}{v2:Int}{x:Rd Int}{j n:Nat}{lv:Value}{L:List Int}{e:Ending}(h:xQ w wr B E S C b m T v2 x j lv n L)(hB: ∀k,B k->k<C/\k≠E/\k≠S)
 (hE:w.heap.size<=E/\E<C) (hS:w.heap.size<=S/\S<C) (hj:j<16) (hq:nK wr.drew E S aP hi64 (aU j x) e w3):
 ∃v7 n7 w7,(Builtin.append_ #[97,97] 97 #[lv, .slice (some ⟨w3.heap.size,0,none⟩) 1 1]).run Tryz.prog (w3.alloc (.cells #[.int .i64 (bK aP (numAt aP hi64 (aU j x)))] 2))= .ok v7 w7/\
  Kept (sW E S C) wr w3/\Kept (sW E S C) wr w7/\w7.cell? ⟨C,1,none⟩=some lv/\w7.frozen? ⟨C,1,none⟩=false/\(∃a c,v7= .slice a n7 c)/\
  xQ w (w7.setCell ⟨C,1,none⟩ v7) B E S C b m T v2 x (j+1) v7 n7 (L++[bK aP (numAt aP hi64 (aU j x))]):=by
 have hCl:=lt_of_block h.cell
 have k3:Kept (sW E S C) wr w3:=(hq.2.2.bP).mono (fun k _ hk=>by rcases hk with h|h;exact .inl h;exact .inr (.inl h))
 have hnS: ¬sW E S C C:=fun h=>by rcases h with h|h|h<;>omega
 have hown3:w3.ownsRow (C+1) 2 1 lv n (ints L):=(hq.2.2.bP).owns h.own (fun k hk hs=>by have:=(dw h.own hk).1;rcases hs with h|h<;>omega)
 have kA:Kept none' w3 (w3.alloc (.cells #[.int .i64 (bK aP (numAt aP hi64 (aU j x)))] 2)):=(Kept.refl _ _).alloc _
 obtain⟨vv,hvv⟩: ∃vv,bK aP (numAt aP hi64 (aU j x))=vv:=⟨_,rfl⟩
 have hval: ∀n r,numAt aP hi64 (aU j x)= .ok n r->vv=n:=fun n r hn=>by rw[<-hvv,hn];rfl
 rw[hvv]at kA⊢
 clear hvv
 have hn:n=L.length:=by have:=hown3.1;simp[ints]at this;omega
 have hl:=h.len
 obtain⟨i2,hi2,hz2,hs2,hb2⟩:=info_parts Tryz.info2
 obtain⟨v7,n7,w7,b1,b2,b3,b4,b5⟩:=bI (P:=Tryz.prog) (C+1) 97 97 2 i2 (.int .i64 0) 1 8 Tryz.underlying97 hi2 hz2 hs2 hb2 rfl (by omega) (kA.owns hown3 (fun _ _ h=>h)) (Reads.lit w3 [.int .i64 vv] 2 1 1 rfl (by unfold maxLen;omega)) (rU [vv]) (by simp;omega) (by unfold maxLen;simp;omega) (by have:=k3.size;simp;omega)
 have k7:Kept (sW E S C) wr w7:=k3.trans (kA.pure.trans (Kept.grown b4 (fun g hg _=> .inr (.inr (by have:=(dw (kA.owns hown3 (fun _ _ h=>h)) hg).1;omega)))))
 have k37:Kept (fun k=>C<k) w3 w7:=kA.pure.trans (Kept.grown b4 (fun g hg _=>by have:=(dw (kA.owns hown3 (fun _ _ h=>h)) hg).1;omega))
 have c7:=jq (k7.heap h.cell hnS)
 have k8:Kept (one C) w7 (w7.setCell ⟨C,1,none⟩ v7):=(Kept.refl (one C) w7).setCell (p:=⟨C,1,none⟩) (.inl rfl) _
 refine⟨v7,n7,w7,b1,k3,k7,c7.2.1,c7.2.2.1,ay b2,⟨⟨?_,?_,?_⟩,c7.2.2.2 v7,?_,?_,?_⟩⟩
 ·refine iG.Kz ?_
  exact((hq.2.1.kept k37 (fun h=>by omega) (fun h=>by omega)).kept k8 (fun h=>by unfold one at h;omega) (fun h=>by unfold one at h;omega))
 ·have t3:=h.inn.tab.kept k7 (fun k hk hb=>by
   exfalso
   have:=hB k hb
   rcases hk with h|h|h
   ·exact this.2.1 h
   ·exact this.2.2 h
   ·omega) (fun hk=>by
   have:=hB m h.inn.tab.hm
   rcases hk with h|h|h
   ·exact this.2.1 h
   ·exact this.2.2 h
   ·omega)
  exact t3.kept k8 (fun k hk hb=>by have:=hB k hb;unfold one at hk;omega) (fun e=>by have:=hB m h.inn.tab.hm;unfold one at e;omega)
 ·refine(h.inn.kept.new k7 (fun i hi hs=>?_)).new k8 (fun i hi hs=>by unfold one at hs;omega)
  have:=h.inn.kept.size
  rcases hs with h|h|h<;>omega
 ·refine k8.owns ?_ (fun k hk e=>by have:=(dw b2 hk).1;unfold one at e;omega)
  unfold ints at b2⊢
  rw[List.map_append]
  exact b2
 ·rw[List.length_append,hl];rfl
 ·intro ns r hnr
  rw[pU]at hnr
  cases h1:aU j x with
  |err f=>rw[h1]at hnr;cases hnr
  |ok ms r1=>
   rw[h1]at hnr
   simp only[Rd.bind]at hnr
   cases h2:num aP hi64 r1 with
   |err f=>rw[h2]at hnr;cases hnr
   |ok q r2=>
    rw[h2]at hnr
    injection hnr with h3 h4
    rw[<-h3,h.val ms r1 h1,hval q r2 (by rw[h1];exact h2)]
end
end Go.Proofs.YtglbkodmmogomaaGreatDoor
