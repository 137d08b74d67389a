/- Numbers as bytes: the turned form; its bytes. -/
import Derived.Test.YtakhobfamnjnoaaGreatDoorB24
import Derived.OneCell
import Derived.Lib.IndexBytes
set_option linter.unusedVariables false
set_option linter.unusedSimpArgs false
set_option maxHeartbeats 1000000
set_option maxRecDepth 100000
namespace Go.Proofs.YtakhobfamnjnoaaGreatDoor
section
open Go Go.RowKit
theorem Xg {a:Nat}(h:a<2^64):a^^^(2^64-1)=2^64-1-a:=by
 have:= @BitVec.toNat_not 64 (BitVec.ofNat 64 a)
 have h2:=BitVec.xor_allOnes (x:=BitVec.ofNat 64 a)
 rw[<-h2,BitVec.toNat_xor,BitVec.toNat_allOnes,BitVec.toNat_ofNat,Nat.mod_eq_of_lt h]at this
 exact this
theorem Uw {n:Int}(h: -9223372036854775808<=n/\n<=9223372036854775807):
 bits BinOp.xor IntKind.u64 (IntKind.u64.wrap (IntKind.u64.wrap n*2)) (IntKind.u64.wrap (n/9223372036854775808))=((fQ n:Nat):Int):=by
 rw[IntKind.wrap_u64,IntKind.wrap_u64,IntKind.wrap_u64]
 by_cases h0:0<=n
 ·obtain⟨m,rfl⟩:=Int.eq_ofNat_of_zero_le h0
  rw[show((m:Int)%18446744073709551616*2%18446744073709551616)=((2*m:Nat):Int) by omega,show((m:Int)/9223372036854775808%18446744073709551616)=((0:Nat):Int) by omega,
   bits_xor_u64_nat _ _ (by omega) (by omega),Nat.xor_zero]
  unfold fQ;rw[if_pos h0];omega
 ·obtain⟨m,hm⟩: ∃m:Nat,n= -(m:Int)-1:=⟨(-n-1).toNat,by omega⟩
  subst hm
  rw[show((-(m:Int)-1)%18446744073709551616*2%18446744073709551616)=((18446744073709551616-2-2*m:Nat):Int) by omega,
   show((-(m:Int)-1)/9223372036854775808%18446744073709551616)=((2^64-1:Nat):Int) by omega,
   bits_xor_u64_nat _ _ (by omega) (by omega),Xg (by omega)]
  unfold fQ;rw[if_neg h0];omega
theorem Rl (n:Int)(h:aS n)(w:World):Calls Tryz.prog 51 #[.int .i64 n] w fun e w'=>e= .returned (.int .u64 (fQ n))/\w=w':=by
 unfold aS at h
 have e:=Uw h
 go_enter Tryz.func51,Tryz.ntmps51
 go_wp2
 go_ret
 exact⟨rfl,rfl⟩
def uY (l:List UInt8):List Value:=l.map fun x=> .int .u8 x.toNat
theorem abr:(List.range 256).all (fun a=>bits BinOp.or IntKind.u8 (a:Int) 128==((a%128+128:Nat):Int))=true:=by kernel_rfl
theorem abt (u:Nat):bits BinOp.or IntKind.u8 ((u:Int)%256) 128=((u%128+128:Nat):Int):=by
 have:=List.all_eq_true.1 abr (u%256) (List.mem_range.2 (Nat.mod_lt _ (by omega)))
 rw[beq_iff_eq]at this
 rw[show((u:Int)%256)=((u%256:Nat):Int) by omega,this]
 congr 1;omega
@[simp] theorem wX (l:List UInt8):(uY l).length=l.length:=by simp[uY]
theorem WL {q:Nat}(h:q<256):Value.int .u8 (q:Int)= .int .u8 ((UInt8.ofNat q).toNat:Int):=by rw[UInt8.toNat_ofNat_of_lt' (by simpa using h)]
theorem LK {w:World}{base e n:Nat}{v:Value}{xs:List Value}(h:w.ownsRow base e 1 v n xs):n=xs.length:=by have:=h.1;omega
theorem Tryz.info5:(Tryz.prog.info? 5).map (fun i=>(i.zero,i.size,i.bytes))=some (some (.int .u8 0),1,1):=by kernel_rfl
theorem Jd {w:World}{base e size n:Nat}{v:Value}{xs:List Value}(h:w.ownsRow base e size v n xs){b:Nat}(hb:v.ownBlock=some b):base<=b/\b<w.heap.size:=by
 rcases h.2 with⟨rfl,_⟩|⟨g,cap,cur,rfl,h1,h2,_⟩
 ·cases hb
 ·cases hb;exact⟨h1,(Array.getElem?_eq_some_iff.1 h2).1⟩
theorem put_walk (v:Value)(l:List Int)(w:World)(h:Reads w 1 v (ints l))(h64: ∀n∈l,aS n)(hb:l.length<=1073741824):
 Calls Tryz.prog 21 #[v] w fun e w'=>e= .returned (.string ⟨(aH l).toArray⟩)/\Kept none' w w':=by
 obtain⟨i0,hi,hz0,hz1,hz2⟩:=info_parts Tryz.info5
 obtain⟨a,cap,rfl,h1,h2,h3⟩:=h.at
 unfold maxLen at h2
 have H3:=Lib.hid h3
 have Xd:=Lib.hid h64
 clear h h3 h64
 go_enter Tryz.func21,Tryz.ntmps21
 go_wp2
 go_loopg [3,9] l.length (fun g vb vi wr=> ∃(k n:Nat),vi= .int .i64 (k:Int)/\k<=l.length/\l.length-k<=g/\wr.ownsRow w.heap.size 5 1 vb n (uY (aH (l.take k)))/\Kept none' w wr)
 case atStart=>exact⟨0,0,rfl,by omega,by omega,⟨by simp[uY,aH], .inl ⟨rfl,rfl⟩⟩,Kept.refl _ _⟩
 case round=>
  obtain⟨k,n,rfl,hk,hg,ho,hkp⟩:=hrel
  have HG:=Lib.hid (And.intro hg hkp)
  by_cases hlt:k<l.length
  ·obtain⟨x,hx⟩: ∃x,l[k]?=some x:=⟨_,List.getElem?_eq_getElem hlt⟩
   obtain⟨b0,off,rfl,hcl⟩:=H3.out.resolve_left (fun h=>by rw[h]at hx;cases hx)
   have q0:=hkp.cell (p:=⟨b0,off+k,none⟩) (fun h=>h) (hcl k _ hx)
   have ab1:=Xd.out x (List.mem_of_getElem? hx)
   have HX:=Lib.hid hx
   have HT:=Lib.hid (fun W=>Rl x ab1 W)
   obtain⟨oa,oc,rfl⟩:=gY ho
   have HO:=Lib.hid ho
   clear hcl hx ab1 ho hg hkp
   go_wp2_with fail
   refine(HT.out _).mono ?_
   rintro e w2 ⟨rfl,rfl⟩
   go_wp2_with fail
   obtain⟨u0,hu0⟩: ∃u0,fQ x=u0:=⟨_,rfl⟩
   rw[hu0]
   have HU:=Lib.hid hu0
   clear hu0
   go_loopg [3,6] u0 (fun g vb vu wr2=> ∃(u n:Nat)(dn:List UInt8),vu= .int .u64 (u:Int)/\u<=g/\iF u0=dn++iF u/\wr2.ownsRow w.heap.size 5 1 vb n (uY (aH (l.take k)++dn))/\Kept none' w wr2)
   case atStart=>exact⟨u0,n,[],rfl,Nat.le_refl _,rfl,by simpa using HO.out,HG.out.2⟩
   case round=>
    obtain⟨u,n,dn,rfl,Zm,hdig,ho,hkp⟩:=hrel
    by_cases hbig:128<=u
    ·obtain⟨Vt,Qc,rfl⟩:=gY ho
     have hi1:(128:Int)<=(u:Int):=by omega
     have eo:=abt u
     obtain⟨q,hq⟩: ∃q,u%128+128=q:=⟨_,rfl⟩
     rw[hq]at eo
     have hn:=LK ho
     have hd1:=D5 (Xd.out x (List.mem_of_getElem? HX.out))
     rw[HU.out,hdig,List.length_append]at hd1
     have hd2:=fV (l:=l.take k) (fun n hn=>Xd.out n (List.mem_of_mem_take hn))
     rw[List.length_take]at hd2
     rw[wX,List.length_append]at hn
     have hks:=hkp.size
     have B1:Hid ((n*1+[Value.int .u8 (q:Int)].length)*1<=140737488355328):=by show _<=_;simp only[List.length_cons,List.length_nil];omega
     have B2:Hid (n*1+[Value.int .u8 (q:Int)].length<=maxLen):=by show _<=_;unfold maxLen;simp only[List.length_cons,List.length_nil];omega
     have B3:Hid (w.heap.size<=(wr.alloc (.cells #[.int .u8 (q:Int)] 5)).heap.size):=by show _<=_;simp;omega
     have kk:Kept none' wr (wr.alloc (.cells #[.int .u8 (q:Int)] 5)):=(Kept.refl _ _).alloc _
     have Xc:=Lib.hid (kk.owns ho (fun _ _ h=>h))
     have HR2:=Lib.hid (Reads.lit wr [.int .u8 (q:Int)] 5 1 1 rfl (by unfold maxLen;omega))
     have A:=Lib.hid (And.intro Zm (And.intro hdig (And.intro (hkp.trans kk) (And.intro hq (And.intro (by omega:q<256) hbig)))))
     have ho1: ∀y∈[Value.int .u8 (q:Int)],y.oneCell'=true:=by intro y hy;simp at hy;subst hy;rfl
     have es:(u:Int)/128=((u/128:Nat):Int):=by omega
     obtain⟨u2,hu2⟩: ∃u2,u/128=u2:=⟨_,rfl⟩
     rw[hu2]at es
     have HU2:=Lib.hid hu2
     clear ho hn hd1 hd2 hks kk Zm hdig hq hkp hu2
     go_wp2_with (at_builtin;(refine qy rfl (.tmp 19) (.tmp 23) 107 rfl w.heap.size 5 i0 (.int .u8 0) 1 1 Tryz.underlying107 hi hz0 hz1 hz2 rfl (by decide) _ n _ rfl Xc.out _ [.int .u8 (q:Int)] rfl HR2.out ho1 B1.out B2.out B3.out ?_);intro v' n' w' g1 g2 g3 g4)
     obtain⟨va,vc,rfl⟩:=gY g1
     have F:Hid (w'.ownsRow w.heap.size 5 1 (.slice va n' vc) n' (uY (aH (l.take k)++(dn++[UInt8.ofNat q])))/\Kept none' w w'):=by
      refine⟨?_,A.out.2.2.1.new (Kept.grown (S:=fun j=>w.heap.size<=j) g3 (fun j hj _=>(Jd Xc.out hj).1)) (fun j hj e=>by omega)⟩
      rw[WL A.out.2.2.2.2.1]at g1
      simpa[uY]using g1
     clear g1 g2 g3 g4
     go_wp2_with fail
     go_roundg u2
     case rel=>
      refine⟨u2,n',dn++[UInt8.ofNat q],rfl,Nat.le_refl _,?_,F.out.1,F.out.2⟩
      rw[A.out.2.1,zq (by have:=A.out.2.2.2.2.2;omega),A.out.2.2.2.1,HU2.out];simp
     case measure=>have:=A.out.1;have:=HU2.out;omega
    ·obtain⟨Vt,Qc,rfl⟩:=gY ho
     have hi1: ¬(128:Int)<=(u:Int):=by omega
     have eu:(u:Int)%256=(u:Int):=by omega
     have hn:=LK ho
     have hd1:=D5 (Xd.out x (List.mem_of_getElem? HX.out))
     rw[HU.out,hdig,List.length_append]at hd1
     have hd2:=fV (l:=l.take k) (fun n hn=>Xd.out n (List.mem_of_mem_take hn))
     rw[List.length_take]at hd2
     rw[wX,List.length_append]at hn
     have hks:=hkp.size
     have B1:Hid ((n*1+[Value.int .u8 (u:Int)].length)*1<=140737488355328):=by show _<=_;simp only[List.length_cons,List.length_nil];omega
     have B2:Hid (n*1+[Value.int .u8 (u:Int)].length<=maxLen):=by show _<=_;unfold maxLen;simp only[List.length_cons,List.length_nil];omega
     have B3:Hid (w.heap.size<=(wr.alloc (.cells #[.int .u8 (u:Int)] 5)).heap.size):=by show _<=_;simp;omega
     have kk:Kept none' wr (wr.alloc (.cells #[.int .u8 (u:Int)] 5)):=(Kept.refl _ _).alloc _
     have Xc:=Lib.hid (kk.owns ho (fun _ _ h=>h))
     have HR2:=Lib.hid (Reads.lit wr [.int .u8 (u:Int)] 5 1 1 rfl (by unfold maxLen;omega))
     have A:=Lib.hid (And.intro Zm (And.intro hdig (And.intro (hkp.trans kk) hbig)))
     have ho1: ∀y∈[Value.int .u8 (u:Int)],y.oneCell'=true:=by intro y hy;simp at hy;subst hy;rfl
     clear ho hn hd1 hd2 hks kk Zm hdig hkp
     go_wp2_with (at_builtin;(refine qy rfl (.tmp 25) (.tmp 28) 107 rfl w.heap.size 5 i0 (.int .u8 0) 1 1 Tryz.underlying107 hi hz0 hz1 hz2 rfl (by decide) _ n _ rfl Xc.out _ [.int .u8 (u:Int)] rfl HR2.out ho1 B1.out B2.out B3.out ?_);intro v' n' w' g1 g2 g3 g4)
     obtain⟨va,vc,rfl⟩:=gY g1
     have F:Hid (w'.ownsRow w.heap.size 5 1 (.slice va n' vc) n' (uY (aH (l.take (k+1))))/\Kept none' w w'):=by
      refine⟨?_,A.out.2.2.1.new (Kept.grown (S:=fun j=>w.heap.size<=j) g3 (fun j hj _=>(Jd Xc.out hj).1)) (fun j hj e=>by omega)⟩
      have hub:=A.out.2.2.2
      rw[WL (by omega)]at g1
      rw[U8 HX.out,HU.out,A.out.2.1,qo (by omega)]
      simpa[uY]using g1
     clear g1 g2 g3 g4
     go_wp2_with fail
     go_roundg (l.length-(k+1))
     case rel=>exact⟨k+1,n',by go_num,by omega,Nat.le_refl _,F.out.1,F.out.2⟩
     case measure=>have:=HG.out.1;omega
  ·have hkl:k=l.length:=by omega
   subst hkl
   rw[List.take_of_length_le (Nat.le_refl _)]at ho
   obtain⟨Vt,Qc,rfl⟩:=gY ho
   have hcv:(convert 107 9 (.slice Vt n Qc)).run Tryz.prog wr= .ok (.string ⟨(aH l).toArray⟩) wr:=by
    have hn:=LK ho
    rw[wX]at hn
    rcases ho.2 with⟨h1,h2⟩|⟨g,cp,cur,h1,_,hg2,_,_,_,ht⟩
    ·injection h1 with h1 _ _
     subst h1
     have e1:aH l=[]:=List.eq_nil_of_length_eq_zero (by omega)
     rw[e1]
     exact run_convert_bytes_nil _ 107 5 Tryz.underlying107 Tryz.underlying5 _ _ 9 Tryz.underlying9
    ·injection h1 with h1 _ _
     subst h1
     rw[hn]
     refine run_convert_bytes_back wr 107 9 5 ⟨g,0,none⟩ Qc (aH l) Tryz.underlying107 Tryz.underlying5 Tryz.underlying9 (fun j hj=>?_)
     rw[Addr.add_lit,Nat.zero_add,cell_of_row wr g j cur 5 (0,0) hg2]
     have h3:(uY (aH l))[j]?=some (.int .u8 ((aH l)[j].toNat:Int)):=by unfold uY;rw[List.getElem?_map,List.getElem?_eq_getElem hj];rfl
     rw[<-ht,List.getElem?_take]at h3
     split at h3
     ·simpa using h3
     ·cases h3
   have HK:=Lib.hid hkp
   clear ho hg hkp HG
   go_wp2_with fail
   go_ret
   exact⟨rfl,HK.out⟩
theorem O4 (a:Nat)(ha:a<9223372036854775808):bits .xor .i64 (a:Int) (-1)= -1-(a:Int):=by
 show IntKind.i64.wrap ((BitVec.ofInt 64 (a:Int)^^^BitVec.ofInt 64 (-1)).toNat:Int)=_
 have h1:BitVec.ofInt 64 (-1)=BitVec.allOnes 64:=by decide
 rw[h1,BitVec.xor_allOnes,BitVec.toNat_not,ofInt_u64 a (by omega)]
 simp[IntKind.wrap,IntKind.bits,IntKind.signed]
 omega
theorem Nl (a:Nat)(ha:a<9223372036854775808):bits .xor .i64 (a:Int) 0=(a:Int):=by
 show IntKind.i64.wrap ((BitVec.ofInt 64 (a:Int)^^^BitVec.ofInt 64 0).toNat:Int)=_
 have h1:BitVec.ofInt 64 0=0#64:=by decide
 rw[h1,BitVec.xor_zero,ofInt_u64 a (by omega)]
 simp[IntKind.wrap,IntKind.bits,IntKind.signed]
 omega
theorem WT {u:Nat}(hu:u<18446744073709551616):bits .xor .i64 ((u/2:Nat):Int) (-((u%2:Nat):Int))=mG u:=by
 unfold mG
 have h2:u%2=0\/u%2=1:=by omega
 rcases h2 with h2|h2
 ·rw[h2,if_pos rfl];exact Nl _ (by omega)
 ·rw[h2,if_neg (by omega)]
  have:=O4 (u/2) (by omega)
  rw[show(-((1:Nat):Int))= -1 from rfl,this];omega
theorem zC (u:Nat)(hu:u<18446744073709551616)(w:World):Calls Tryz.prog 71 #[.int .u64 (u:Int)] w fun e w'=>e= .returned (.int .i64 (mG u))/\w=w':=by
 have e1:bits .and .u64 (u:Int) 1=((u%2:Nat):Int):=by
  have:=u64_and_nat u 1 hu (by omega)
  rw[nat_mask1]at this
  exact this
 have hb:=WT hu
 obtain⟨v,hv⟩: ∃v,u%2=v:=⟨_,rfl⟩
 have hv2:v<2:=by omega
 rw[hv]at e1 hb
 have HV:=Lib.hid hv
 have HB:=Lib.hid hb
 clear hv hb
 go_enter Tryz.func71,Tryz.ntmps71
 go_wp2
 go_ret
 exact⟨ji (by rw[show((u:Int)/2)=((u/2:Nat):Int) by omega];exact HB.out),rfl⟩
theorem XI (k:Nat):(2:Nat)^(7*k)=128^k:=by rw[Nat.pow_mul]
theorem Z7 {U d k:Nat}(h1:U<128^k)(h2:U+d*128^k<18446744073709551616):bits .or .u64 (U:Int) (IntKind.u64.wrap ((d:Int)*2^(7*k)))=((U+d*128^k:Nat):Int):=by
 have e1:(d:Int)*2^(7*k)=((d*128^k:Nat):Int):=by rw[<-XI];simp
 rw[e1,IntKind.wrap_u64,Int.emod_eq_of_lt (by omega) (by omega),u64_or_nat _ _ (by omega) (by omega),Nat.or_comm,nat_join (7*k) _ _ (by rw[XI];simp) (by rw[XI];exact h1)]
 congr 1
 omega
theorem aaQ {c:Nat}(h:c<256):bits .and .u8 (c:Int) 128=if 128<=c then 128 else 0:=by
 have:=u8_and_nat c 128 h (by omega)
 rw[show(128:Nat)=2^7 from rfl,nat_bit]at this
 have e:c/2^7%2=if 128<=c then 1 else 0:=by split<;>omega
 rw[e]at this
 split
 ·rename_i hc;rw[if_pos hc]at this;exact this
 ·rename_i hc;rw[if_neg hc]at this;exact this
def TkQ (w:World)(x:Int×Nat×Int)(e:Ending)(w':World):Prop:=e= .returned (.tuple #[.int .i64 x.1, .int .i64 (x.2.1:Int), .int .i64 x.2.2])/\w=w'
theorem WQ (s:ByteArray)(hs:s.size<=maxLen)(w:World):Calls Tryz.prog 36 #[.string s] w (TkQ w (tk s.data.toList)):=by
 unfold maxLen at hs
 go_enter Tryz.func36,Tryz.ntmps36
 go_wp2_with fail
 go_step3
 go_wp2_with fail
 go_step3
 go_wp2_with fail
 go_loopg [5,6] 11 (fun g vu vi wr=> ∃k U:Nat,vi= .int .i64 (k:Int)/\vu= .int .u64 (U:Int)/\k<=9/\k<=s.size/\U<128^k/\11-k<=g/\tk s.data.toList=iZ k U (s.data.toList.drop k)/\wr=w)
 case atStart=>exact⟨0,0,rfl,rfl,by omega,by omega,by decide,by omega,rfl,rfl⟩
 case round=>
  obtain⟨k,U,rfl,rfl,hk9,hks,hU,hg,hT,rfl⟩:=hrel
  have HT:=Lib.hid (And.intro hT (And.intro hU hg))
  clear hT hU hg
  by_cases hlt:k<s.size
  ·obtain⟨c,hc⟩: ∃c,s[k].toNat=c:=⟨_,rfl⟩
   have hc256:c<256:=by rw[<-hc];exact s[k].toNat_lt
   have hU2:U<9223372036854775808:=by
    have h1:128^k<=128^9:=Nat.pow_le_pow_right (by omega) hk9
    rw[LD]at h1
    have:=HT.out.2.1
    omega
   have hdr:s.data.toList.drop k=s[k]::s.data.toList.drop (k+1):=by
    rw[List.drop_eq_getElem_cons (by simpa using hlt)];rfl
   have HD:=Lib.hid hdr
   have HC:=Lib.hid hc
   clear hdr
   by_cases hbad:k=9/\1<c
   ·obtain⟨rfl,hc1⟩:=hbad
    have hcb:(1:Int)<(s[9].toNat:Int):=by omega
    clear hc
    go_wp2_with fail
    try rw[Exit.noGoto_ret]
    go_ret3
    have e:=HT.out.1
    rw[HD.out,iZ,HC.out,if_pos ⟨rfl,hc1⟩]at e
    rw[e]
    exact⟨rfl,rfl⟩
   ·have h9:k=9-> ¬(1:Int)<(s[k].toNat:Int):=fun h h1=>hbad ⟨h,by omega⟩
    have b1:bits .andNot .u8 (s[k].toNat:Int) 128=((c%128:Nat):Int):=by
     rw[hc]
     have:=u8_andNot_nat c 128 hc256 (by omega)
     rw[show 255-128=127 from rfl,nat_mask7]at this
     exact this
    obtain⟨d,hd⟩: ∃d,c%128=d:=⟨_,rfl⟩
    rw[hd]at b1
    have hd2:d<128:=by omega
    have hV:U+d*128^k<18446744073709551616/\(k<=8->U+d*128^k<128^(k+1)):=by
     have hUk:=HT.out.2.1
     constructor
     ·by_cases hk:k=9
      ·subst hk
       have:d<=1:=by have:=h9 rfl;omega
       rw[LD]at*
       have:d*9223372036854775808<=1*9223372036854775808:=Nat.mul_le_mul_right _ this
       omega
      ·have h1:128^k<=128^8:=Nat.pow_le_pow_right (by omega) (by omega)
       have h2:d*128^k<=127*128^k:=Nat.mul_le_mul_right _ (by omega)
       have h3:(128:Nat)^8=72057594037927936:=by decide
       omega
     ·intro _
      have h2:d*128^k<=127*128^k:=Nat.mul_le_mul_right _ (by omega)
      rw[Nat.pow_succ];omega
    have b2:=Z7 HT.out.2.1 hV.1
    obtain⟨V,hVV⟩: ∃V,U+d*128^k=V:=⟨_,rfl⟩
    rw[hVV]at b2 hV
    have b4:bits .and .u8 (s[k].toNat:Int) 128=if 128<=c then 128 else 0:=by rw[hc];exact aaQ hc256
    have hsk: ∀h:c=0,((s[k].toNat:Int)==0)=true:=fun h=>by rw[hc,h];rfl
    have Tt: ∀h:c≠0,((s[k].toNat:Int)==0)=false:=fun h=>by rw[hc];exact beq_eq_false_iff_ne.2 (by omega)
    have hV1:=hV.1
    have e0:=HT.out.1
    rw[HD.out,iZ,HC.out,if_neg hbad,hd,hVV]at e0
    have E0:=Lib.hid e0
    have HH:=Lib.hid (And.intro hd (And.intro hV.2 hbad))
    clear hd hc hbad e0 hV hVV
    by_cases hbig:128<=c
    ·have hk9':((k:Int)==9)=false:=beq_eq_false_iff_ne.2 (by have:=HH.out.2.2;omega)
     have hk8:k<=8:=by have:=HH.out.2.2;omega
     have F:=Lib.hid (show tk s.data.toList=iZ (k+1) V (s.data.toList.drop (k+1))/\V<128^(k+1)from⟨by rw[E0.out,if_pos hbig],HH.out.2.1 hk8⟩)
     rw[if_pos hbig]at b4
     clear h9 hsk Tt
     go_wp2_with fail
     go_roundg (11-(k+1))
     case rel=>exact⟨k+1,V,by go_num,rfl,by omega,by omega,F.out.2,Nat.le_refl _,F.out.1,rfl⟩
     case measure=>have:=HT.out.2.2;omega
    ·rw[if_neg hbig]at b4 E0
     have hk:((k:Int)==9)=false\/(((k:Int)==9)=true/\ ¬(1:Int)<(s[k].toNat:Int)):=by
      by_cases h:k=9
      ·exact .inr ⟨by rw[h];rfl,h9 h⟩
      ·exact .inl (beq_eq_false_iff_ne.2 (by omega))
     clear h9
     by_cases c0:c=0
     ·have z0:=hsk c0
      clear hsk Tt
      by_cases k0:0<k
      ·have F:=Lib.hid (show tk s.data.toList=(0,0,21) by rw[E0.out,if_pos ⟨c0,k0⟩])
       have k1:(1:Int)<(k:Int)+1:=by omega
       rcases hk with hk|⟨hk,h1⟩
       ·go_wp2_with fail
        try rw[Exit.noGoto_ret]
        go_ret3
        rw[F.out]
        exact⟨rfl,rfl⟩
       ·go_wp2_with fail
        try rw[Exit.noGoto_ret]
        go_ret3
        rw[F.out]
        exact⟨rfl,rfl⟩
      ·have F:=Lib.hid (show tk s.data.toList=(mG V,k+1,0) by rw[E0.out,if_neg (fun h=>k0 h.2)])
       have k1: ¬(1:Int)<(k:Int)+1:=by omega
       rcases hk with hk|⟨hk,h1⟩
       ·go_wp2_with fail
        (with_reducible refine(zC V hV1 _).mono ?_)
        rintro e w' ⟨rfl,rfl⟩
        go_wp2_with fail
        try rw[Exit.noGoto_ret]
        go_ret3
        rw[F.out]
        exact⟨rfl,rfl⟩
       ·go_wp2_with fail
        (with_reducible refine(zC V hV1 _).mono ?_)
        rintro e w' ⟨rfl,rfl⟩
        go_wp2_with fail
        try rw[Exit.noGoto_ret]
        go_ret3
        rw[F.out]
        exact⟨rfl,rfl⟩
     ·have z0:=Tt c0
      have F:=Lib.hid (show tk s.data.toList=(mG V,k+1,0) by rw[E0.out,if_neg (fun h=>c0 h.1)])
      clear hsk Tt
      rcases hk with hk|⟨hk,h1⟩
      ·go_wp2_with fail
       (with_reducible refine(zC V hV1 _).mono ?_)
       rintro e w' ⟨rfl,rfl⟩
       go_wp2_with fail
       try rw[Exit.noGoto_ret]
       go_ret3
       rw[F.out]
       exact⟨rfl,rfl⟩
      ·go_wp2_with fail
       (with_reducible refine(zC V hV1 _).mono ?_)
       rintro e w' ⟨rfl,rfl⟩
       go_wp2_with fail
       try rw[Exit.noGoto_ret]
       go_ret3
       rw[F.out]
       exact⟨rfl,rfl⟩
  ·go_wp2_with fail
   try rw[Exit.noGoto_ret]
   go_ret3
   have e:=HT.out.1
   rw[List.drop_eq_nil_of_le (by simpa using hlt)]at e
   rw[e]
   exact⟨rfl,rfl⟩
theorem modify_last {α:Type}(a:α)(f:α->α): ∀l:List α,(l++[a]).modify l.length f=l++[f a]
 |[]=>rfl
 |b::l=>by simp[modify_last a f l]
section
variable {P:Program} {w:World} {m:Nat} {l:List (Int×Value)} {T K E:TypeId} {q:IntKind}
theorem iY.entry (h:iY w m l)(hT:P.underlying T=some (.map K E))(hK:P.underlying K=some (.int q)){key:Int}(hn:key∉l.map (·.1)){z:Value}(hz:(zeroValue E).run P w= .ok z w):
 ∃(w1:World)(born:Int),(Instr.mapEntry T (.map (some m)) (.int .i64 key)).run P w= .ok (.tuple #[z, .int .i64 born]) w1/\Kept (one m) w w1/\w1.heap.size=w.heap.size/\
  ∀v:Value,∃w2,(Instr.entryStore T (.map (some m)) (.int .i64 born) v).run P w1= .ok () w2/\iY w2 m (upd key v l)/\Kept (one m) w w2/\w2.heap.size=w.heap.size:=by
 obtain⟨L,clock,h,rfl⟩:=h
 have hf:wB key L 0=none:=by
  cases hf:wB key L 0 with
  |none=>rfl
  |some x=>
   exfalso
   have h1:=DV key L 0
   rw[hf]at h1
   obtain⟨j,y⟩:=x
   have:=X5 (l:=L.map kv) (key:=key) (v:=y) (by rw[<-h1];rfl)
   exact hn (List.mem_map.2 ⟨_,this,rfl⟩)
 have hno:=DU hf
 refine⟨World.iy w m (((L++[(key,z,clock)]).map ent).toArray) (clock+1),(clock:Int),?_,nX _ _ _ _,by simp[World.iy],fun v=>?_⟩
 ·simp[Instr.mapEntry,run_underlying hT,gW h.heap,run_checkKey hK,run_findKey hK,hf,pI h.heap,ent,hz,goInt]
 ·have hh:=nY h.heap (((L++[(key,z,clock)]).map ent).toArray) (clock+1)
  refine⟨World.iy w m (((L++[(key,v,clock)]).map ent).toArray) (clock+1),?_,?_,nX _ _ _ _,by simp[World.iy]⟩
  ·have hidx:((L++[(key,z,clock)]).map ent).toArray.findIdx? (fun e=>(e.born:Int)==(clock:Int))=some L.length:=by
    rw[List.findIdx?_toArray,List.map_append,List.findIdx?_append]
    have h0:(L.map ent).findIdx? (fun e=>(e.born:Int)==(clock:Int))=none:=by
     rw[List.findIdx?_eq_none_iff]
     intro e he
     obtain⟨t,ht,rfl⟩:=List.mem_map.1 he
     have:=h.old t ht
     simp[ent];omega
    rw[h0]
    simp[ent]
   have hmod:((L++[(key,z,clock)]).map ent).toArray.modify L.length (fun e=>{e with val:=v})=((L++[(key,v,clock)]).map ent).toArray:=by
    rw[List.modify_toArray,List.map_append,List.map_append]
    congr 1
    have e:(L.map ent).length=L.length:=by simp
    rw[<-e,List.map_cons,List.map_nil,modify_last]
    simp[ent]
   simp only[Instr.entryStore,Sem.run_bind,gW hh,Result.andThen_ok,asInt,asIntOf,Sem.run_pure,hidx,hmod]
   rw[pI hh]
   simp[World.iy]
  ·refine⟨L++[(key,v,clock)],clock+1,⟨nY h.heap _ _,?_,?_,?_⟩,?_⟩
   ·rw[List.map_append,List.nodup_append]
    refine⟨h.keys,by simp,?_⟩
    intro a ha b hb
    obtain⟨t,ht,rfl⟩:=List.mem_map.1 ha
    simp at hb
    subst hb
    exact hno t ht
   ·rw[List.map_append,List.nodup_append]
    refine⟨h.born,by simp,?_⟩
    intro a ha b hb
    obtain⟨t,ht,rfl⟩:=List.mem_map.1 ha
    simp at hb
    subst hb
    exact Nat.ne_of_lt (h.old t ht)
   ·intro t ht
    rcases List.mem_append.1 ht with ht|ht
    ·exact Nat.lt_succ_of_lt (h.old t ht)
    ·simp at ht;subst ht;exact Nat.lt_succ_self _
   ·rw[List.map_append,Pm]
    ·rfl
    ·intro p hp
     obtain⟨t,ht,rfl⟩:=List.mem_map.1 hp
     exact hno t ht
end
end
section
open Go Go.RowKit
end
end Go.Proofs.YtakhobfamnjnoaaGreatDoor
