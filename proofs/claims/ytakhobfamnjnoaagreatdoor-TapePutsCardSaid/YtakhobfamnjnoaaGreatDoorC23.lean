/- Numbers as bytes: the turned form; its bytes. -/
import Derived.OneCell
import Derived.Lib.IndexBytes
import Derived.Shelf.SlGeneric
import Derived.Shelf.Strings.OnBuilder
import Derived.Test.YtakhobfamnjnoaaGreatDoorC22
set_option linter.unusedVariables false
set_option linter.unusedSimpArgs false
set_option maxHeartbeats 1000000
set_option maxRecDepth 100000
namespace Go.Proofs.YtakhobfamnjnoaaGreatDoor
section
open Go Go.RowKit
theorem aaM {a:Nat}(h:a<2^64):a^^^(2^64-1)=2^64-1-a:=by
 have:= @BitVec.toNat_not 64 (BitVec.ofNat 64 a)
 have h2:=BitVec.xor_allOnes (x:=BitVec.ofNat 64 a)
 rw[<-h2,BitVec.toNat_xor,BitVec.toNat_allOnes,BitVec.toNat_ofNat,Nat.mod_eq_of_lt h]at this
 exact this
theorem Yf {n:Int}(h: -9223372036854775808<=n/\n<=9223372036854775807):
 bits BinOp.xor IntKind.u64 (IntKind.u64.wrap (IntKind.u64.wrap n*2)) (IntKind.u64.wrap (n/9223372036854775808))=((fE n:Nat):Int):=by
 rw[IntKind.wrap_u64,IntKind.wrap_u64,IntKind.wrap_u64]
 by_cases h0:0<=n
 ·obtain⟨m,rfl⟩:=Int.eq_ofNat_of_zero_le h0
  rw[show((m:Int)%18446744073709551616*2%18446744073709551616)=((2*m:Nat):Int) by omega,show((m:Int)/9223372036854775808%18446744073709551616)=((0:Nat):Int) by omega,
   bits_xor_u64_nat _ _ (by omega) (by omega),Nat.xor_zero]
  unfold fE;rw[if_pos h0];omega
 ·obtain⟨m,hm⟩: ∃m:Nat,n= -(m:Int)-1:=⟨(-n-1).toNat,by omega⟩
  subst hm
  rw[show((-(m:Int)-1)%18446744073709551616*2%18446744073709551616)=((18446744073709551616-2-2*m:Nat):Int) by omega,
   show((-(m:Int)-1)/9223372036854775808%18446744073709551616)=((2^64-1:Nat):Int) by omega,
   bits_xor_u64_nat _ _ (by omega) (by omega),aaM (by omega)]
  unfold fE;rw[if_neg h0];omega
theorem V8 (n:Int)(h:aO n)(w:World):Calls Tryz.prog 51 #[.int .i64 n] w fun e w'=>e= .returned (.int .u64 (fE n))/\w=w':=by
 unfold aO at h
 have e:=Yf h
 go_enter Tryz.func51,Tryz.ntmps51
 go_wp2
 go_ret
 exact⟨rfl,rfl⟩
def yG (l:List UInt8):List Value:=l.map fun x=> .int .u8 x.toNat
theorem ae9:(List.range 256).all (fun a=>bits BinOp.or IntKind.u8 (a:Int) 128==((a%128+128:Nat):Int))=true:=by kernel_rfl
theorem afa (u:Nat):bits BinOp.or IntKind.u8 ((u:Int)%256) 128=((u%128+128:Nat):Int):=by
 have:=List.all_eq_true.1 ae9 (u%256) (List.mem_range.2 (Nat.mod_lt _ (by omega)))
 rw[beq_iff_eq]at this
 rw[show((u:Int)%256)=((u%256:Nat):Int) by omega,this]
 congr 1;omega
@[simp] theorem zM (l:List UInt8):(yG l).length=l.length:=by simp[yG]
theorem SC {q:Nat}(h:q<256):Value.int .u8 (q:Int)= .int .u8 ((UInt8.ofNat q).toNat:Int):=by rw[UInt8.toNat_ofNat_of_lt' (by simpa using h)]
theorem Ql {w:World}{base e n:Nat}{v:Value}{xs:List Value}(h:w.ownsRow base e 1 v n xs):n=xs.length:=by have:=h.1;omega
theorem Tryz.info5:(Tryz.prog.info? 5).map (fun i=>(i.zero,i.size,i.bytes))=some (some (.int .u8 0),1,1):=by kernel_rfl
theorem ND {w:World}{base e size n:Nat}{v:Value}{xs:List Value}(h:w.ownsRow base e size v n xs){b:Nat}(hb:v.ownBlock=some b):base<=b/\b<w.heap.size:=by
 rcases h.2 with⟨rfl,_⟩|⟨g,cap,cur,rfl,h1,h2,_⟩
 ·cases hb
 ·cases hb;exact⟨h1,(Array.getElem?_eq_some_iff.1 h2).1⟩
theorem put_walk (v:Value)(l:List Int)(w:World)(h:Reads w 1 v (ints l))(h64: ∀n∈l,aO n)(hb:l.length<=1073741824):
 Calls Tryz.prog 21 #[v] w fun e w'=>e= .returned (.string ⟨(ay l).toArray⟩)/\Kept none' w w':=by
 obtain⟨i0,hi,hz0,hz1,hz2⟩:=info_parts Tryz.info5
 obtain⟨a,cap,rfl,h1,h2,h3⟩:=h.at
 unfold maxLen at h2
 have H3:=Lib.hid h3
 have Oz:=Lib.hid h64
 clear h h3 h64
 go_enter Tryz.func21,Tryz.ntmps21
 go_wp2
 go_loopg [3,9] l.length (fun g vb vi wr=> ∃(k n:Nat),vi= .int .i64 (k:Int)/\k<=l.length/\l.length-k<=g/\wr.ownsRow w.heap.size 5 1 vb n (yG (ay (l.take k)))/\Kept none' w wr)
 case atStart=>exact⟨0,0,rfl,by omega,by omega,⟨by simp[yG,ay], .inl ⟨rfl,rfl⟩⟩,Kept.refl _ _⟩
 case round=>
  obtain⟨k,n,rfl,hk,hg,ho,hkp⟩:=hrel
  have HG:=Lib.hid (And.intro hg hkp)
  by_cases hlt:k<l.length
  ·obtain⟨x,hx⟩: ∃x,l[k]?=some x:=⟨_,List.getElem?_eq_getElem hlt⟩
   obtain⟨b0,off,rfl,hcl⟩:=H3.out.resolve_left (fun h=>by rw[h]at hx;cases hx)
   have q0:=hkp.cell (p:=⟨b0,off+k,none⟩) (fun h=>h) (hcl k _ hx)
   have LU:=Oz.out x (List.mem_of_getElem? hx)
   have HX:=Lib.hid hx
   have HT:=Lib.hid (fun W=>V8 x LU W)
   obtain⟨oa,oc,rfl⟩:=dP ho
   have HO:=Lib.hid ho
   clear hcl hx LU ho hg hkp
   go_wp2_with fail
   refine(HT.out _).mono ?_
   rintro e w2 ⟨rfl,rfl⟩
   go_wp2_with fail
   obtain⟨u0,hu0⟩: ∃u0,fE x=u0:=⟨_,rfl⟩
   rw[hu0]
   have HU:=Lib.hid hu0
   clear hu0
   go_loopg [3,6] u0 (fun g vb vu wr2=> ∃(u n:Nat)(dn:List UInt8),vu= .int .u64 (u:Int)/\u<=g/\gG u0=dn++gG u/\wr2.ownsRow w.heap.size 5 1 vb n (yG (ay (l.take k)++dn))/\Kept none' w wr2)
   case atStart=>exact⟨u0,n,[],rfl,Nat.le_refl _,rfl,by simpa using HO.out,HG.out.2⟩
   case round=>
    obtain⟨u,n,dn,rfl,Dl,hdig,ho,hkp⟩:=hrel
    by_cases hbig:128<=u
    ·obtain⟨F8,F7,rfl⟩:=dP ho
     have hi1:(128:Int)<=(u:Int):=by omega
     have eo:=afa u
     obtain⟨q,hq⟩: ∃q,u%128+128=q:=⟨_,rfl⟩
     rw[hq]at eo
     have hn:=Ql ho
     have hd1:=CO (Oz.out x (List.mem_of_getElem? HX.out))
     rw[HU.out,hdig,List.length_append]at hd1
     have hd2:=iD (l:=l.take k) (fun n hn=>Oz.out n (List.mem_of_mem_take hn))
     rw[List.length_take]at hd2
     rw[zM,List.length_append]at hn
     have hks:=hkp.size
     have B1:Hid ((n*1+[Value.int .u8 (q:Int)].length)*1<=140737488355328):=by show _<=_;simp only[List.length_cons,List.length_nil];omega
     have B2:Hid (n*1+[Value.int .u8 (q:Int)].length<=maxLen):=by show _<=_;unfold maxLen;simp only[List.length_cons,List.length_nil];omega
     have B3:Hid (w.heap.size<=(wr.alloc (.cells #[.int .u8 (q:Int)] 5)).heap.size):=by show _<=_;simp;omega
     have kk:Kept none' wr (wr.alloc (.cells #[.int .u8 (q:Int)] 5)):=(Kept.refl _ _).alloc _
     have HO2:=Lib.hid (kk.owns ho (fun _ _ h=>h))
     have HR2:=Lib.hid (Reads.lit wr [.int .u8 (q:Int)] 5 1 1 rfl (by unfold maxLen;omega))
     have A:=Lib.hid (And.intro Dl (And.intro hdig (And.intro (hkp.trans kk) (And.intro hq (And.intro (by omega:q<256) hbig)))))
     have ho1: ∀y∈[Value.int .u8 (q:Int)],y.oneCell'=true:=by intro y hy;simp at hy;subst hy;rfl
     have es:(u:Int)/128=((u/128:Nat):Int):=by omega
     obtain⟨u2,hu2⟩: ∃u2,u/128=u2:=⟨_,rfl⟩
     rw[hu2]at es
     have Oy:=Lib.hid hu2
     clear ho hn hd1 hd2 hks kk Dl hdig hq hkp hu2
     go_wp2_with (at_builtin;(refine uq rfl (.tmp 19) (.tmp 23) 107 rfl w.heap.size 5 i0 (.int .u8 0) 1 1 Tryz.underlying107 hi hz0 hz1 hz2 rfl (by decide) _ n _ rfl HO2.out _ [.int .u8 (q:Int)] rfl HR2.out ho1 B1.out B2.out B3.out ?_);intro v' n' w' g1 g2 g3 g4)
     obtain⟨va,vc,rfl⟩:=dP g1
     have F:Hid (w'.ownsRow w.heap.size 5 1 (.slice va n' vc) n' (yG (ay (l.take k)++(dn++[UInt8.ofNat q])))/\Kept none' w w'):=by
      refine⟨?_,A.out.2.2.1.new (Kept.grown (S:=fun j=>w.heap.size<=j) g3 (fun j hj _=>(ND HO2.out hj).1)) (fun j hj e=>by omega)⟩
      rw[SC A.out.2.2.2.2.1]at g1
      simpa[yG]using g1
     clear g1 g2 g3 g4
     go_wp2_with fail
     go_roundg u2
     case rel=>
      refine⟨u2,n',dn++[UInt8.ofNat q],rfl,Nat.le_refl _,?_,F.out.1,F.out.2⟩
      rw[A.out.2.1,uX (by have:=A.out.2.2.2.2.2;omega),A.out.2.2.2.1,Oy.out];simp
     case measure=>have:=A.out.1;have:=Oy.out;omega
    ·obtain⟨F8,F7,rfl⟩:=dP ho
     have hi1: ¬(128:Int)<=(u:Int):=by omega
     have eu:(u:Int)%256=(u:Int):=by omega
     have hn:=Ql ho
     have hd1:=CO (Oz.out x (List.mem_of_getElem? HX.out))
     rw[HU.out,hdig,List.length_append]at hd1
     have hd2:=iD (l:=l.take k) (fun n hn=>Oz.out n (List.mem_of_mem_take hn))
     rw[List.length_take]at hd2
     rw[zM,List.length_append]at hn
     have hks:=hkp.size
     have B1:Hid ((n*1+[Value.int .u8 (u:Int)].length)*1<=140737488355328):=by show _<=_;simp only[List.length_cons,List.length_nil];omega
     have B2:Hid (n*1+[Value.int .u8 (u:Int)].length<=maxLen):=by show _<=_;unfold maxLen;simp only[List.length_cons,List.length_nil];omega
     have B3:Hid (w.heap.size<=(wr.alloc (.cells #[.int .u8 (u:Int)] 5)).heap.size):=by show _<=_;simp;omega
     have kk:Kept none' wr (wr.alloc (.cells #[.int .u8 (u:Int)] 5)):=(Kept.refl _ _).alloc _
     have HO2:=Lib.hid (kk.owns ho (fun _ _ h=>h))
     have HR2:=Lib.hid (Reads.lit wr [.int .u8 (u:Int)] 5 1 1 rfl (by unfold maxLen;omega))
     have A:=Lib.hid (And.intro Dl (And.intro hdig (And.intro (hkp.trans kk) hbig)))
     have ho1: ∀y∈[Value.int .u8 (u:Int)],y.oneCell'=true:=by intro y hy;simp at hy;subst hy;rfl
     clear ho hn hd1 hd2 hks kk Dl hdig hkp
     go_wp2_with (at_builtin;(refine uq rfl (.tmp 25) (.tmp 28) 107 rfl w.heap.size 5 i0 (.int .u8 0) 1 1 Tryz.underlying107 hi hz0 hz1 hz2 rfl (by decide) _ n _ rfl HO2.out _ [.int .u8 (u:Int)] rfl HR2.out ho1 B1.out B2.out B3.out ?_);intro v' n' w' g1 g2 g3 g4)
     obtain⟨va,vc,rfl⟩:=dP g1
     have F:Hid (w'.ownsRow w.heap.size 5 1 (.slice va n' vc) n' (yG (ay (l.take (k+1))))/\Kept none' w w'):=by
      refine⟨?_,A.out.2.2.1.new (Kept.grown (S:=fun j=>w.heap.size<=j) g3 (fun j hj _=>(ND HO2.out hj).1)) (fun j hj e=>by omega)⟩
      have hub:=A.out.2.2.2
      rw[SC (by omega)]at g1
      rw[Nw HX.out,HU.out,A.out.2.1,nZ (by omega)]
      simpa[yG]using g1
     clear g1 g2 g3 g4
     go_wp2_with fail
     go_roundg (l.length-(k+1))
     case rel=>exact⟨k+1,n',by go_num,by omega,Nat.le_refl _,F.out.1,F.out.2⟩
     case measure=>have:=HG.out.1;omega
  ·have hkl:k=l.length:=by omega
   subst hkl
   rw[List.take_of_length_le (Nat.le_refl _)]at ho
   obtain⟨F8,F7,rfl⟩:=dP ho
   have hcv:(convert 107 9 (.slice F8 n F7)).run Tryz.prog wr= .ok (.string ⟨(ay l).toArray⟩) wr:=by
    have hn:=Ql ho
    rw[zM]at hn
    rcases ho.2 with⟨h1,h2⟩|⟨g,cp,cur,h1,_,hg2,_,_,_,ht⟩
    ·injection h1 with h1 _ _
     subst h1
     have e1:ay l=[]:=List.eq_nil_of_length_eq_zero (by omega)
     rw[e1]
     exact run_convert_bytes_nil _ 107 5 Tryz.underlying107 Tryz.underlying5 _ _ 9 Tryz.underlying9
    ·injection h1 with h1 _ _
     subst h1
     rw[hn]
     refine run_convert_bytes_back wr 107 9 5 ⟨g,0,none⟩ F7 (ay l) Tryz.underlying107 Tryz.underlying5 Tryz.underlying9 (fun j hj=>?_)
     rw[Addr.add_lit,Nat.zero_add,cell_of_row wr g j cur 5 (0,0) hg2]
     have h3:(yG (ay l))[j]?=some (.int .u8 ((ay l)[j].toNat:Int)):=by unfold yG;rw[List.getElem?_map,List.getElem?_eq_getElem hj];rfl
     rw[<-ht,List.getElem?_take]at h3
     split at h3
     ·simpa using h3
     ·cases h3
   have HK:=Lib.hid hkp
   clear ho hg hkp HG
   go_wp2_with fail
   go_ret
   exact⟨rfl,HK.out⟩
theorem Ue (a:Nat)(ha:a<9223372036854775808):bits .xor .i64 (a:Int) (-1)= -1-(a:Int):=by
 show IntKind.i64.wrap ((BitVec.ofInt 64 (a:Int)^^^BitVec.ofInt 64 (-1)).toNat:Int)=_
 have h1:BitVec.ofInt 64 (-1)=BitVec.allOnes 64:=by decide
 rw[h1,BitVec.xor_allOnes,BitVec.toNat_not,ofInt_u64 a (by omega)]
 simp[IntKind.wrap,IntKind.bits,IntKind.signed]
 omega
theorem Rk (a:Nat)(ha:a<9223372036854775808):bits .xor .i64 (a:Int) 0=(a:Int):=by
 show IntKind.i64.wrap ((BitVec.ofInt 64 (a:Int)^^^BitVec.ofInt 64 0).toNat:Int)=_
 have h1:BitVec.ofInt 64 0=0#64:=by decide
 rw[h1,BitVec.xor_zero,ofInt_u64 a (by omega)]
 simp[IntKind.wrap,IntKind.bits,IntKind.signed]
 omega
theorem aav {u:Nat}(hu:u<18446744073709551616):bits .xor .i64 ((u/2:Nat):Int) (-((u%2:Nat):Int))=jI u:=by
 unfold jI
 have h2:u%2=0\/u%2=1:=by omega
 rcases h2 with h2|h2
 ·rw[h2,if_pos rfl];exact Rk _ (by omega)
 ·rw[h2,if_neg (by omega)]
  have:=Ue (u/2) (by omega)
  rw[show(-((1:Nat):Int))= -1 from rfl,this];omega
theorem CW (u:Nat)(hu:u<18446744073709551616)(w:World):Calls Tryz.prog 71 #[.int .u64 (u:Int)] w fun e w'=>e= .returned (.int .i64 (jI u))/\w=w':=by
 have e1:bits .and .u64 (u:Int) 1=((u%2:Nat):Int):=by
  have:=u64_and_nat u 1 hu (by omega)
  rw[nat_mask1]at this
  exact this
 have hb:=aav hu
 obtain⟨v,hv⟩: ∃v,u%2=v:=⟨_,rfl⟩
 have hv2:v<2:=by omega
 rw[hv]at e1 hb
 have HV:=Lib.hid hv
 have HB:=Lib.hid hb
 clear hv hb
 go_enter Tryz.func71,Tryz.ntmps71
 go_wp2
 go_ret
 exact⟨kM (by rw[show((u:Int)/2)=((u/2:Nat):Int) by omega];exact HB.out),rfl⟩
theorem aa9 (k:Nat):(2:Nat)^(7*k)=128^k:=by rw[Nat.pow_mul]
theorem adI {U d k:Nat}(h1:U<128^k)(h2:U+d*128^k<18446744073709551616):bits .or .u64 (U:Int) (IntKind.u64.wrap ((d:Int)*2^(7*k)))=((U+d*128^k:Nat):Int):=by
 have e1:(d:Int)*2^(7*k)=((d*128^k:Nat):Int):=by rw[<-aa9];simp
 rw[e1,IntKind.wrap_u64,Int.emod_eq_of_lt (by omega) (by omega),u64_or_nat _ _ (by omega) (by omega),Nat.or_comm,nat_join (7*k) _ _ (by rw[aa9];simp) (by rw[aa9];exact h1)]
 congr 1
 omega
theorem aep {c:Nat}(h:c<256):bits .and .u8 (c:Int) 128=if 128<=c then 128 else 0:=by
 have:=u8_and_nat c 128 h (by omega)
 rw[show(128:Nat)=2^7 from rfl,nat_bit]at this
 have e:c/2^7%2=if 128<=c then 1 else 0:=by split<;>omega
 rw[e]at this
 split
 ·rename_i hc;rw[if_pos hc]at this;exact this
 ·rename_i hc;rw[if_neg hc]at this;exact this
def TkQ (w:World)(x:Int×Nat×Int)(e:Ending)(w':World):Prop:=e= .returned (.tuple #[.int .i64 x.1, .int .i64 (x.2.1:Int), .int .i64 x.2.2])/\w=w'
theorem aas (s:ByteArray)(hs:s.size<=maxLen)(w:World):Calls Tryz.prog 36 #[.string s] w (TkQ w (tk s.data.toList)):=by
 unfold maxLen at hs
 go_enter Tryz.func36,Tryz.ntmps36
 go_wp2_with fail
 go_step3
 go_wp2_with fail
 go_step3
 go_wp2_with fail
 go_loopg [5,6] 11 (fun g vu vi wr=> ∃k U:Nat,vi= .int .i64 (k:Int)/\vu= .int .u64 (U:Int)/\k<=9/\k<=s.size/\U<128^k/\11-k<=g/\tk s.data.toList=iw k U (s.data.toList.drop k)/\wr=w)
 case atStart=>exact⟨0,0,rfl,rfl,by omega,by omega,by decide,by omega,rfl,rfl⟩
 case round=>
  obtain⟨k,U,rfl,rfl,hk9,hks,hU,hg,hT,rfl⟩:=hrel
  have HT:=Lib.hid (And.intro hT (And.intro hU hg))
  clear hT hU hg
  by_cases hlt:k<s.size
  ·obtain⟨c,hc⟩: ∃c,s[k].toNat=c:=⟨_,rfl⟩
   have hc256:c<256:=by rw[<-hc];exact s[k].toNat_lt
   have hU2:U<9223372036854775808:=by
    have h1:128^k<=128^9:=Nat.pow_le_pow_right (by omega) hk9
    rw[Ls]at h1
    have:=HT.out.2.1
    omega
   have hdr:s.data.toList.drop k=s[k]::s.data.toList.drop (k+1):=by
    rw[List.drop_eq_getElem_cons (by simpa using hlt)];rfl
   have HD:=Lib.hid hdr
   have HC:=Lib.hid hc
   clear hdr
   by_cases hbad:k=9/\1<c
   ·obtain⟨rfl,hc1⟩:=hbad
    have hcb:(1:Int)<(s[9].toNat:Int):=by omega
    clear hc
    go_wp2_with fail
    try rw[Exit.noGoto_ret]
    go_ret3
    have e:=HT.out.1
    rw[HD.out,iw,HC.out,if_pos ⟨rfl,hc1⟩]at e
    rw[e]
    exact⟨rfl,rfl⟩
   ·have h9:k=9-> ¬(1:Int)<(s[k].toNat:Int):=fun h h1=>hbad ⟨h,by omega⟩
    have b1:bits .andNot .u8 (s[k].toNat:Int) 128=((c%128:Nat):Int):=by
     rw[hc]
     have:=u8_andNot_nat c 128 hc256 (by omega)
     rw[show 255-128=127 from rfl,nat_mask7]at this
     exact this
    obtain⟨d,hd⟩: ∃d,c%128=d:=⟨_,rfl⟩
    rw[hd]at b1
    have hd2:d<128:=by omega
    have hV:U+d*128^k<18446744073709551616/\(k<=8->U+d*128^k<128^(k+1)):=by
     have hUk:=HT.out.2.1
     constructor
     ·by_cases hk:k=9
      ·subst hk
       have:d<=1:=by have:=h9 rfl;omega
       rw[Ls]at*
       have:d*9223372036854775808<=1*9223372036854775808:=Nat.mul_le_mul_right _ this
       omega
      ·have h1:128^k<=128^8:=Nat.pow_le_pow_right (by omega) (by omega)
       have h2:d*128^k<=127*128^k:=Nat.mul_le_mul_right _ (by omega)
       have h3:(128:Nat)^8=72057594037927936:=by decide
       omega
     ·intro _
      have h2:d*128^k<=127*128^k:=Nat.mul_le_mul_right _ (by omega)
      rw[Nat.pow_succ];omega
    have b2:=adI HT.out.2.1 hV.1
    obtain⟨V,hVV⟩: ∃V,U+d*128^k=V:=⟨_,rfl⟩
    rw[hVV]at b2 hV
    have b4:bits .and .u8 (s[k].toNat:Int) 128=if 128<=c then 128 else 0:=by rw[hc];exact aep hc256
    have hsk: ∀h:c=0,((s[k].toNat:Int)==0)=true:=fun h=>by rw[hc,h];rfl
    have Xx: ∀h:c≠0,((s[k].toNat:Int)==0)=false:=fun h=>by rw[hc];exact beq_eq_false_iff_ne.2 (by omega)
    have hV1:=hV.1
    have e0:=HT.out.1
    rw[HD.out,iw,HC.out,if_neg hbad,hd,hVV]at e0
    have E0:=Lib.hid e0
    have HH:=Lib.hid (And.intro hd (And.intro hV.2 hbad))
    clear hd hc hbad e0 hV hVV
    by_cases hbig:128<=c
    ·have hk9':((k:Int)==9)=false:=beq_eq_false_iff_ne.2 (by have:=HH.out.2.2;omega)
     have hk8:k<=8:=by have:=HH.out.2.2;omega
     have F:=Lib.hid (show tk s.data.toList=iw (k+1) V (s.data.toList.drop (k+1))/\V<128^(k+1)from⟨by rw[E0.out,if_pos hbig],HH.out.2.1 hk8⟩)
     rw[if_pos hbig]at b4
     clear h9 hsk Xx
     go_wp2_with fail
     go_roundg (11-(k+1))
     case rel=>exact⟨k+1,V,by go_num,rfl,by omega,by omega,F.out.2,Nat.le_refl _,F.out.1,rfl⟩
     case measure=>have:=HT.out.2.2;omega
    ·rw[if_neg hbig]at b4 E0
     have hk:((k:Int)==9)=false\/(((k:Int)==9)=true/\ ¬(1:Int)<(s[k].toNat:Int)):=by
      by_cases h:k=9
      ·exact .inr ⟨by rw[h];rfl,h9 h⟩
      ·exact .inl (beq_eq_false_iff_ne.2 (by omega))
     clear h9
     by_cases c0:c=0
     ·have z0:=hsk c0
      clear hsk Xx
      by_cases k0:0<k
      ·have F:=Lib.hid (show tk s.data.toList=(0,0,21) by rw[E0.out,if_pos ⟨c0,k0⟩])
       have k1:(1:Int)<(k:Int)+1:=by omega
       rcases hk with hk|⟨hk,h1⟩
       ·go_wp2_with fail
        try rw[Exit.noGoto_ret]
        go_ret3
        rw[F.out]
        exact⟨rfl,rfl⟩
       ·go_wp2_with fail
        try rw[Exit.noGoto_ret]
        go_ret3
        rw[F.out]
        exact⟨rfl,rfl⟩
      ·have F:=Lib.hid (show tk s.data.toList=(jI V,k+1,0) by rw[E0.out,if_neg (fun h=>k0 h.2)])
       have k1: ¬(1:Int)<(k:Int)+1:=by omega
       rcases hk with hk|⟨hk,h1⟩
       ·go_wp2_with fail
        (with_reducible refine(CW V hV1 _).mono ?_)
        rintro e w' ⟨rfl,rfl⟩
        go_wp2_with fail
        try rw[Exit.noGoto_ret]
        go_ret3
        rw[F.out]
        exact⟨rfl,rfl⟩
       ·go_wp2_with fail
        (with_reducible refine(CW V hV1 _).mono ?_)
        rintro e w' ⟨rfl,rfl⟩
        go_wp2_with fail
        try rw[Exit.noGoto_ret]
        go_ret3
        rw[F.out]
        exact⟨rfl,rfl⟩
     ·have z0:=Xx c0
      have F:=Lib.hid (show tk s.data.toList=(jI V,k+1,0) by rw[E0.out,if_neg (fun h=>c0 h.1)])
      clear hsk Xx
      rcases hk with hk|⟨hk,h1⟩
      ·go_wp2_with fail
       (with_reducible refine(CW V hV1 _).mono ?_)
       rintro e w' ⟨rfl,rfl⟩
       go_wp2_with fail
       try rw[Exit.noGoto_ret]
       go_ret3
       rw[F.out]
       exact⟨rfl,rfl⟩
      ·go_wp2_with fail
       (with_reducible refine(CW V hV1 _).mono ?_)
       rintro e w' ⟨rfl,rfl⟩
       go_wp2_with fail
       try rw[Exit.noGoto_ret]
       go_ret3
       rw[F.out]
       exact⟨rfl,rfl⟩
  ·go_wp2_with fail
   try rw[Exit.noGoto_ret]
   go_ret3
   have e:=HT.out.1
   rw[List.drop_eq_nil_of_le (by simpa using hlt)]at e
   rw[e]
   exact⟨rfl,rfl⟩
section
variable {P:Program} {w:World} {m:Nat} {l:List (Int×Value)} {T K E:TypeId} {q:IntKind}
end
end
section
open Go Go.RowKit
end
end Go.Proofs.YtakhobfamnjnoaaGreatDoor
namespace Go.Proofs
open Go.Shelf
def Tryz.joinL_ren:Go.Shelf.Ren:=⟨fun|156=>95|165=>140|166=>141|169=>142|240=>202|241=>203|276=>288|277=>289|n=>n,fun|31=>115|9=>9|3=>3|4=>4|0=>0|20=>20|72=>199|76=>203|70=>197|37=>107|75=>202|127=>278|164=>393|5=>5|80=>129|n=>n,fun|n=>n⟩
theorem Tryz.joinL:Go.Proofs.Lays.n156 Tryz.prog Tryz.joinL_ren:={
 mixed:=by kernel_rfl
 f156:=Tryz.func95.trans (congrArg some (by kernel_rfl))
 f165:=Tryz.func140.trans (congrArg some (by kernel_rfl))
 f166:=Tryz.func141.trans (congrArg some (by kernel_rfl))
 f169:=Tryz.func142.trans (congrArg some (by kernel_rfl))
 f240:=Tryz.func202.trans (congrArg some (by kernel_rfl))
 f241:=Tryz.func203.trans (congrArg some (by kernel_rfl))
 f276:=Tryz.func288.trans (congrArg some (by kernel_rfl))
 f277:=Tryz.func289.trans (congrArg some (by kernel_rfl))
 t0:=Tryz.underlying0
 a0:=Tryz.isAgg0
 z0:=Tryz.sizeOf0
 v0:=Tryz.zeroValue0
 t3:=Tryz.underlying3
 a3:=Tryz.isAgg3
 z3:=Tryz.sizeOf3
 v3:=Tryz.zeroValue3
 t4:=Tryz.underlying4
 a4:=Tryz.isAgg4
 z4:=Tryz.sizeOf4
 v4:=Tryz.zeroValue4
 t9:=Tryz.underlying9
 a9:=Tryz.isAgg9
 z9:=Tryz.sizeOf9
 v9:=Tryz.zeroValue9
 t20:=Tryz.underlying20
 a20:=Tryz.isAgg20
 z20:=Tryz.sizeOf20
 v20:=Tryz.zeroValue20
 t31:=Tryz.underlying115
 a31:=Tryz.isAgg115
 z31:=Tryz.sizeOf115
 v31:=Tryz.zeroValue115
 t37:=Tryz.underlying107
 a37:=Tryz.isAgg107
 z37:=Tryz.sizeOf107
 v37:=Tryz.zeroValue107
 t70:=Tryz.underlying197
 a70:=Tryz.isAgg197
 z70:=Tryz.sizeOf197
 v70:=Tryz.zeroValue197
 t72:=Tryz.underlying199
 a72:=Tryz.isAgg199
 z72:=Tryz.sizeOf199
 v72:=Tryz.zeroValue199
 t75:=Tryz.underlying202
 a75:=Tryz.isAgg202
 z75:=Tryz.sizeOf202
 v75:=Tryz.zeroValue202
 t76:=Tryz.underlying203
 a76:=Tryz.isAgg203
 z76:=Tryz.sizeOf203
 v76:=Tryz.zeroValue203
 t127:=Tryz.underlying278
 a127:=Tryz.isAgg278
 z127:=Tryz.sizeOf278
 v127:=Tryz.zeroValue278
 t164:=Tryz.underlying393
 a164:=Tryz.isAgg393
 z164:=Tryz.sizeOf393
 v164:=Tryz.zeroValue393}
theorem Tryz.joinX:Builder.Extra Tryz.prog Tryz.joinL_ren:={
 sizeBuilder:=by kernel_rfl
 liesBuilder:=by kernel_rfl
 t5:=Tryz.underlying5
 a5:=Tryz.isAgg5
 z5:=Tryz.sizeOf5
 v5:=Tryz.zeroValue5
 infoByte:=by kernel_rfl
 cellsByte:=by kernel_rfl
 sizeByte:=by kernel_rfl
 neB5:=by decide}
end Go.Proofs
namespace Go.Proofs.YtakhobfamnjnoaaGreatDoor
namespace Sx
open Go Go.RowKit _root_.Go.Proofs.Tryz
section
variable {P:Program} {ρ:Ren} {h:Hp} {O:Own} {w w':World}
theorem HR.kept (H:HR P ρ h O w)(hk:Kept none' w w'):HR P ρ h O w':=
 ⟨fun i k o ho=>(H.ob i k o ho).frame fun b _ hlt=>hk.block b hlt id,H.dj,fun i k b hb=>Nat.lt_of_lt_of_le (H.lt i k b hb) hk.size,H.live,H.fr,H.on,H.sg,H.of,fun b cs hb=>by
   obtain⟨⟨e,fr,h1⟩,h2⟩:=H.fz b cs hb
   exact⟨⟨e,fr,by rw[hk.block b (Array.getElem?_eq_some_iff.1 h1).1 id];exact h1⟩,h2⟩,Nat.le_trans H.sz hk.size⟩
def Ren.more (ρ:Ren)(N:Fz):Ren:={ρ with fz:=fun b=>match ρ.fz b with|some c=>some c|none=>N b}
theorem Ren.Vh (ρ:Ren)(N:Fz):ρ.le (ρ.more N):=⟨fun _ _ _ h=>h,fun b cs hb=>by show(match ρ.fz b with|some c=>some c|none=>N b)=some cs;rw[hb],fun _ h=>h⟩
theorem HR.more (H:HR P ρ h O w){N:Fz}(hN: ∀b cs,N b=some cs->(∃e fr,w.heap[b]?=some (.cells cs e fr))/\ ∀i k,¬O i k b):HR P (ρ.more N) h O w:=
 ⟨fun i k o ho=>(H.ob i k o ho).mono (ρ.Vh N),H.dj,H.lt,H.live,H.fr,H.on,H.sg,H.of,fun b cs hb=>by
   have hb:(match ρ.fz b with|some c=>some c|none=>N b)=some cs:=hb
   cases hf:ρ.fz b with
   |some c=>rw[hf]at hb;cases hb;exact H.fz b _ hf
   |none=>rw[hf]at hb;exact hN b cs hb,H.sz⟩
theorem Ct.of {f:FuncId}{F:Func}(hf:P.funcs[f]?=some F)(hF:F.body.isSome=true)(hn:(F.name== "runtime.NumGoroutine")=false){args:List AV}{K:RV->Hp->Prop}(hc: ∀ρ O w xs,HR P ρ h O w->F2 (GA ρ) args xs->Calls P f xs.toArray w fun e w'=> ∃x,e= .returned x/\Kept none' w w'/\
 ∃(N:Fz)(r:RV),(∀b cs,N b=some cs->w.heap.size<=b/\ ∃e fr,w'.heap[b]?=some (.cells cs e fr))/\K r h/\GR (ρ.more N) r x):Ct P f args h K:=by
 refine⟨fun w xs=>?_,fun ρ O w xs H hx=>(hc ρ O w xs H hx).mono ?_⟩
 ·obtain⟨c,h3⟩:=Option.isSome_iff_exists.1 hF
  have hb': ¬F.body=none:=by simp[h3]
  have hn': ¬F.name= "runtime.NumGoroutine":=by simpa using hn
  simp[callFunc,hf,hn',hb']
 ·rintro e w' ⟨x,rfl,hk,N,r,hN,hK,hr⟩
  refine⟨rng (llen h),r,x,ρ.more N,h,O,rfl,⟨rfl,hK⟩,ρ.Vh N,⟨hk.os,hk.tape,hk.output,hk.size,fun b hb _=>hk.block b hb id,fun _ _ h=>h,fun b cs hb hlt=>?_⟩,(H.kept hk).more fun b cs hb=>⟨(hN b cs hb).2,fun i k ho=>?_⟩,Nat.le_refl _,fun i k q _ hq=>⟨hq,hk.block q (H.lt i k q hq) id⟩,hr⟩
  ·have hb:(match ρ.fz b with|some c=>some c|none=>N b)=some cs:=hb
   cases hf:ρ.fz b with
   |some c=>rw[hf]at hb;cases hb;exact .inl rfl
   |none=>rw[hf]at hb;have:=(hN b cs hb).1;omega
  ·have:=H.lt i k b ho
   have:=(hN b cs hb).1
   omega
theorem Ct.pure {f:FuncId}{F:Func}(hf:P.funcs[f]?=some F)(hF:F.body.isSome=true)(hn:(F.name== "runtime.NumGoroutine")=false){args:List AV}{r:RV}(hc: ∀ρ O w xs,HR P ρ h O w->F2 (GA ρ) args xs-> ∃x,(∀ρ':Ren,GR ρ' r x)/\Calls P f xs.toArray w fun e w'=>e= .returned x/\Kept none' w w'):Ct P f args h fun r' h'=>r'=r/\h'=h:=
 Ct.of hf hF hn fun ρ O w xs H hx=>by
  obtain⟨x,h1,h2⟩:=hc ρ O w xs H hx
  refine h2.mono fun e w' ⟨h3,h4⟩=>⟨x,h3,h4,fun _=>none,r,fun _ _ h=>(by cases h),⟨rfl,rfl⟩,h1 _⟩
theorem GX {F:Fz}(hw:CZ F w){n:Nat}{l:List PV}{v:Value}(hg:GP F (.fz n l) v){k:Nat}(hl:l.length=n*k): ∃cs,Reads w k v cs/\F2 (GP F) l cs:=by
 obtain⟨a,cap,rfl,h1,h2,h3⟩:=hg
 rcases h3 with⟨rfl,rfl⟩|⟨b,o,arr,rfl,hb,hl2⟩
 ·exact⟨[],⟨a,0,cap,rfl,h1,h2,by simp, .inl rfl⟩, .nil⟩
 ·obtain⟨e,fr,hh⟩:=hw b arr hb
  obtain⟨cs,h4,h5⟩:=Fj (R:=GP F) (l:=l) (f:=fun j=>arr[o+j]?) fun j v hv=>let⟨x,q1,q2⟩:=hl2.get hv;⟨x,q2,q1⟩
  refine⟨cs,⟨_,n,cap,rfl,h1,h2,by rw[<-dw h4,hl], .inr ⟨b,o,rfl,fun i x hx=>?_⟩⟩,h4⟩
  simp[World.cell?,hh,h5 i x hx]
theorem Nj (H:HR P ρ h O w){i:Nat}{L:List PV}{e:TypeId}(hi:bI h i 0=some (.bH L e)){n:Nat}(hn:L.length=n){x:Value}(hx:G ρ (.sl i 0 0 n) x): ∃cs,Reads w 1 x cs/\F2 (GP ρ.fz) L cs:=by
 have ob:=H.ob i 0 _ hi
 cases hx with
 |sl off len cap h0 h1 h2 h3=>
  cases ob with
  |row ho hr hB hh hc hsz=>
   rcases ho with e|⟨l,e,rfl⟩<;>cases e
   rw[h0]at hr;cases hr
   obtain⟨cs,q1,q2⟩:=Fj (R:=GP ρ.fz) (l:=L) (f:=fun j=>_) fun j v hv=>by
    obtain⟨x,g1,g2⟩:=hc j (.p v) (by simp[hv])
    cases g1 with|p g1=>exact⟨x,g1,g2⟩
   refine⟨cs,⟨_,n,cap,rfl,h1,h2,by rw[<-dw q1,hn];omega, .inr ⟨_,_,rfl,fun j x hx=>?_⟩⟩,q1⟩
   simp[World.cell?,hh,q2 j x hx]
  |eG ho hr hB=>rw[h0]at hr;cases hr
 |eG h0 h00=>
  subst h00
  have:L=[]:=List.eq_nil_of_length_eq_zero hn
  subst this
  exact⟨[],⟨none,0,0,rfl,Nat.le_refl _,by unfold maxLen;omega,rfl, .inl rfl⟩, .nil⟩
end
theorem Cm (l:List Ex):(gQ l).length=l.length*3:=by rw[lT];exact Cc nH l
mutual
theorem agf {F:Fz}{w:World}(hw:CZ F w): ∀{x:Ex}{cs:List Value},iG x->F2 (GP F) (Au x) cs->bg w cs.toArray x
 | .mk op n args,cs,hf,h=>by
   unfold Au at h
   cases h with|cons h1 t=>cases t with|cons h2 t=>cases t with|cons h3 t=>
    cases t
    cases h1;cases h2
    obtain⟨cs,q1,q2⟩:=GX hw h3 (k:=3) (Cm args)
    obtain⟨f1,f2,f3,_,f4⟩:=hf
    exact .mk f1 f2 f3 q1 (by rw[<-dw q2,Cm]) (ac6 hw f4 q2)
theorem ac6 {F:Fz}{w:World}(hw:CZ F w): ∀{args:List Ex}{cs:List Value},vU args->F2 (GP F) (gQ args) cs-> ∀i x,args[i]?=some x->bg w ((cs.drop (i*3)).take 3).toArray x
 |[],_,_,_,i,x,h=>by simp at h
 |y::l,cs,hf,h,i,x,hi=>by
  unfold gQ at h
  have h1:=xB h 3
  have h2:=xC h 3
  rw[List.take_left' (nH y)]at h1
  rw[List.drop_left' (nH y)]at h2
  cases i with
  |zero=>simp at hi;subst hi;simpa using agf hw hf.1 h1
  |succ i=>
   have:=ac6 hw hf.2 h2 i x (by simpa using hi)
   rw[List.drop_drop]at this
   rw[show(i+1)*3=3+i*3 by omega]
   exact this
end
theorem uT (l:List Int):(iO l).length=l.length:=by
 have:=Cc (f:=fun x:Int=>[PV.int .i64 x]) (n:=1) (fun _=>rfl) l
 unfold iO;omega
theorem Fg {F:Fz}: ∀{l:List Int}{cs:List Value},F2 (GP F) (iO l) cs->cs=ints l
 |[],_,h=>by cases h;rfl
 |x::l,_,h=>by
  cases h with|cons h1 t=>
   cases h1
   exact congrArg (_:: ·) (Fg t)
theorem nodeAt {F:Fz}{w:World}(hw:CZ F w){d:JN}{cs:List Value}(hf:lS d)(h:F2 (GP F) (y9 d) cs):yP w cs.toArray d:=by
 unfold y9 at h
 cases h with|cons h1 t=>cases t with|cons h2 t=>cases t with|cons h3 t=>cases t with|cons h4 t=>cases t with|cons h5 t=>cases t with|cons h6 t=>cases t with|cons h7 t=>
  cases t
  cases h1;cases h2;cases h4;cases h5;cases h7
  obtain⟨f1,f2,f3,f4,f5,f6,f7⟩:=hf
  obtain⟨ci,q1,q2⟩:=GX hw h3 (k:=1) (by rw[uT];omega)
  have:=Fg q2
  subst this
  have hx: ∀v,GP F (.fz d.x.args.length (gQ d.x.args)) v->bg w #[.int .u8 d.x.op, .int .i64 d.x.n,v] d.x:=fun v hv=>by
   refine agf hw (cs:=[.int .u8 d.x.op, .int .i64 d.x.n,v]) f2 ?_
   have e:Au d.x=[.int .u8 d.x.op, .int .i64 d.x.n, .fz d.x.args.length (gQ d.x.args)]:=by
    cases d.x;rfl
   rw[e]
   exact .cons rfl (.cons rfl (.cons hv .nil))
  have hx:=hx _ h6
  obtain⟨pi,cp,rfl,_⟩:=h3
  obtain⟨p,cap,rfl,_⟩:=h6
  exact⟨pi,cp,p,cap,rfl,hx,q1,f3,f4,f5,f6,f7⟩
theorem wS (l:List JN):(dI l).length=l.length*7:=Cc kJ l
theorem adQ {F:Fz}{w:World}(hw:CZ F w){l:List JN}(hf: ∀d∈l,lS d){v:Value}(h:GP F (.fz l.length (dI l)) v):lV w v l:=by
 obtain⟨cs,q1,q2⟩:=GX hw h (k:=7) (wS l)
 refine⟨cs,q1,by rw[<-dw q2,wS],fun i d hd=>?_⟩
 have hc:=Sj kJ hd
 obtain⟨c1,c2⟩:=FD hc
 refine nodeAt hw (hf d (List.mem_of_getElem? hd)) ?_
 rw[c2]
 exact xB (xC q2 _) _
theorem acV {ρ:Ren}{w:World}(hw:CZ ρ.fz w){j:Jb}(hf:gX j){x:Value}(h:GA ρ (jM I0 j) x): ∃a,x= .agg a/\CY w a j:=by
 cases h with|agg h=>cases h with|cons h1 t=>cases t with|cons h2 t=>
  cases t
  cases h1 with|p h1=>cases h2 with|p h2=>
   cases h1
   exact⟨_,rfl,_,rfl,adQ hw hf.2.1 h2,hf.2.2⟩
section
variable {bx:{α:Type}->α->α} (hb: ∀{α:Type}(x:α),bx x=x)
include hb
theorem OO (j:Jb)(hf:gX j):Ct prog 25 [jM bx j] [] fun r h=>r= .aK [.c (.p (.int .i64 (bx (dB j).1))), .c (.p (.int .i64 (bx (dB j).2)))]/\h=[]:=by
 have eb: @bx= @I0:=o9 hb
 subst eb
 refine Ct.pure func25 rfl rfl fun ρ O w xs H h=>?_
 cases h with|cons h1 t=>
  cases t
  obtain⟨a,rfl,ha⟩:=acV (fun b cs hb=>(H.fz b cs hb).1) hf h1
  exact⟨_,fun _=> .aK (xs:=[.int .i64 (dB j).1, .int .i64 (dB j).2]) (.cons (.c (.p rfl)) (.cons (.c (.p rfl)) .nil)),abI j a w ha⟩
def G9 (l:List Int):ByteArray:=⟨(ay l).toArray⟩
theorem wQ (l:List Int)(hl:l.length<=1000)(h64: ∀n∈l,aO n):Ct prog 21 [.c (.sl 0 0 0 l.length)] [.one (.bH (iO l) 2)] fun r h=>r= .a (.c (.p (.str (bx (G9 l)))))/\h=[.one (.bH (iO l) 2)]:=by
 have eb: @bx= @I0:=o9 hb
 subst eb
 refine Ct.pure func21 rfl rfl fun ρ O w xs H h=>?_
 cases h with|cons h1 t=>
  cases t
  cases h1 with|c h1=>
   obtain⟨cs,q1,q2⟩:=Nj H (i:=0) rfl (uT l) h1
   have:=Fg q2
   subst this
   exact⟨_,fun _=> .a (.c (.p rfl)),put_walk _ l w q1 h64 (by omega)⟩
def Yh (s:ByteArray):Int×Nat×Int:=_root_.Go.Proofs.YtakhobfamnjnoaaGreatDoor.tk s.data.toList
theorem aeF (s:ByteArray)(hs:s.size<=maxLen):Ct prog 36 [.c (.p (.str (bx s)))] [] fun r h=>r= .aK [.c (.p (.int .i64 (bx (Yh s).1))), .c (.p (.int .i64 (bx (((Yh s).2.1:Nat):Int)))), .c (.p (.int .i64 (bx (Yh s).2.2)))]/\h=[]:=by
 have eb: @bx= @I0:=o9 hb
 subst eb
 refine Ct.pure func36 rfl rfl fun ρ O w xs H h=>?_
 cases h with|cons h1 t=>
  cases t
  cases h1 with|c h1=>cases h1 with|p h1=>
   cases h1
   exact⟨_,fun _=> .aK (xs:=[.int .i64 _, .int .i64 _, .int .i64 _]) (.cons (.c (.p rfl)) (.cons (.c (.p rfl)) (.cons (.c (.p rfl)) .nil))),(aas s hs w).mono fun e w' ⟨h1,h2⟩=>⟨h1,h2▸Kept.refl _ _⟩⟩
end
end Sx
end Go.Proofs.YtakhobfamnjnoaaGreatDoor
