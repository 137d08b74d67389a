/- Numbers as bytes: the turned form; its bytes. -/
import Derived.Test.YtglbkodmmogomaaGreatDoorM14
set_option linter.unusedVariables false
set_option linter.unusedSimpArgs false
set_option maxHeartbeats 1000000
set_option maxRecDepth 100000
namespace Go.Proofs.YtglbkodmmogomaaGreatDoor
section
open Go Go.RowKit
theorem OD {a:Nat}(h:a<2^64):a^^^(2^64-1)=2^64-1-a:=by
 have:= @BitVec.toNat_not 64 (BitVec.ofNat 64 a)
 have h2:=BitVec.xor_allOnes (x:=BitVec.ofNat 64 a)
 rw[<-h2,BitVec.toNat_xor,BitVec.toNat_allOnes,BitVec.toNat_ofNat,Nat.mod_eq_of_lt h]at this
 exact this
theorem LW {n:Int}(h: -9223372036854775808<=n/\n<=9223372036854775807):
 bits BinOp.xor IntKind.u64 (IntKind.u64.wrap (IntKind.u64.wrap n*2)) (IntKind.u64.wrap (n/9223372036854775808))=((gy n:Nat):Int):=by
 rw[IntKind.wrap_u64,IntKind.wrap_u64,IntKind.wrap_u64]
 by_cases h0:0<=n
 ·obtain⟨m,rfl⟩:=Int.eq_ofNat_of_zero_le h0
  rw[show((m:Int)%18446744073709551616*2%18446744073709551616)=((2*m:Nat):Int) by omega,show((m:Int)/9223372036854775808%18446744073709551616)=((0:Nat):Int) by omega,
   bits_xor_u64_nat _ _ (by omega) (by omega),Nat.xor_zero]
  unfold gy;rw[if_pos h0];omega
 ·obtain⟨m,hm⟩: ∃m:Nat,n= -(m:Int)-1:=⟨(-n-1).toNat,by omega⟩
  subst hm
  rw[show((-(m:Int)-1)%18446744073709551616*2%18446744073709551616)=((18446744073709551616-2-2*m:Nat):Int) by omega,
   show((-(m:Int)-1)/9223372036854775808%18446744073709551616)=((2^64-1:Nat):Int) by omega,
   bits_xor_u64_nat _ _ (by omega) (by omega),OD (by omega)]
  unfold gy;rw[if_neg h0];omega
theorem JJ (n:Int)(h:bF n)(w:World):Calls Tryz.prog 151 #[.int .i64 n] w fun e w'=>e= .returned (.int .u64 (gy n))/\w=w':=by
 unfold bF at h
 have e:=LW h
 go_enter Tryz.func151,Tryz.ntmps151
 go_wp2
 go_ret
 exact⟨rfl,rfl⟩
def sJ (l:List UInt8):List Value:=l.map fun x=> .int .u8 x.toNat
theorem Tq:(List.range 256).all (fun a=>bits BinOp.or IntKind.u8 (a:Int) 128==((a%128+128:Nat):Int))=true:=by kernel_rfl
theorem Tt (u:Nat):bits BinOp.or IntKind.u8 ((u:Int)%256) 128=((u%128+128:Nat):Int):=by
 have:=List.all_eq_true.1 Tq (u%256) (List.mem_range.2 (Nat.mod_lt _ (by omega)))
 rw[beq_iff_eq]at this
 rw[show((u:Int)%256)=((u%256:Nat):Int) by omega,this]
 congr 1;omega
@[simp] theorem uf (l:List UInt8):(sJ l).length=l.length:=by simp[sJ]
theorem GR {q:Nat}(h:q<256):Value.int .u8 (q:Int)= .int .u8 ((UInt8.ofNat q).toNat:Int):=by rw[UInt8.toNat_ofNat_of_lt' (by simpa using h)]
theorem E5 {w:World}{base e n:Nat}{v:Value}{xs:List Value}(h:w.ownsRow base e 1 v n xs):n=xs.length:=by have:=h.1;omega
theorem Tryz.info5:(Tryz.prog.info? 5).map (fun i=>(i.zero,i.size,i.bytes))=some (some (.int .u8 0),1,1):=by kernel_rfl
theorem Dj {w:World}{base e size n:Nat}{v:Value}{xs:List Value}(h:w.ownsRow base e size v n xs){b:Nat}(hb:v.ownBlock=some b):base<=b/\b<w.heap.size:=by
 rcases h.2 with⟨rfl,_⟩|⟨g,cap,cur,rfl,h1,h2,_⟩
 ·cases hb
 ·cases hb;exact⟨h1,(Array.getElem?_eq_some_iff.1 h2).1⟩
theorem put_walk (v:Value)(l:List Int)(w:World)(h:Reads w 1 v (ints l))(h64: ∀n∈l,bF n)(hb:l.length<=1073741824):
 Calls Tryz.prog 119 #[v] w fun e w'=>e= .returned (.string ⟨(cZ l).toArray⟩)/\Kept none' w w':=by
 obtain⟨i0,hi,hz0,hz1,hz2⟩:=info_parts Tryz.info5
 obtain⟨a,cap,rfl,h1,h2,h3⟩:=h.at
 unfold maxLen at h2
 have H3:=Lib.hid h3
 have Ec:=Lib.hid h64
 clear h h3 h64
 go_enter Tryz.func119,Tryz.ntmps119
 go_wp2
 go_loopg [3,9] l.length (fun g vb vi wr=> ∃(k n:Nat),vi= .int .i64 (k:Int)/\k<=l.length/\l.length-k<=g/\wr.ownsRow w.heap.size 5 1 vb n (sJ (cZ (l.take k)))/\Kept none' w wr)
 case atStart=>exact⟨0,0,rfl,by omega,by omega,⟨by simp[sJ,cZ], .inl ⟨rfl,rfl⟩⟩,Kept.refl _ _⟩
 case round=>
  obtain⟨k,n,rfl,hk,hg,ho,hkp⟩:=hrel
  have HG:=Lib.hid (And.intro hg hkp)
  by_cases hlt:k<l.length
  ·obtain⟨x,hx⟩: ∃x,l[k]?=some x:=⟨_,List.getElem?_eq_getElem hlt⟩
   obtain⟨b0,off,rfl,hcl⟩:=H3.out.resolve_left (fun h=>by rw[h]at hx;cases hx)
   have q0:=hkp.cell (p:=⟨b0,off+k,none⟩) (fun h=>h) (hcl k _ hx)
   have BQ:=Ec.out x (List.mem_of_getElem? hx)
   have HX:=Lib.hid hx
   have HT:=Lib.hid (fun W=>JJ x BQ W)
   obtain⟨oa,oc,rfl⟩:=ay ho
   have HO:=Lib.hid ho
   clear hcl hx BQ ho hg hkp
   go_wp2_with fail
   refine(HT.out _).mono ?_
   rintro e w2 ⟨rfl,rfl⟩
   go_wp2_with fail
   obtain⟨u0,hu0⟩: ∃u0,gy x=u0:=⟨_,rfl⟩
   rw[hu0]
   have HU:=Lib.hid hu0
   clear hu0
   go_loopg [3,6] u0 (fun g vb vu wr2=> ∃(u n:Nat)(dn:List UInt8),vu= .int .u64 (u:Int)/\u<=g/\iF u0=dn++iF u/\wr2.ownsRow w.heap.size 5 1 vb n (sJ (cZ (l.take k)++dn))/\Kept none' w wr2)
   case atStart=>exact⟨u0,n,[],rfl,Nat.le_refl _,rfl,by simpa using HO.out,HG.out.2⟩
   case round=>
    obtain⟨u,n,dn,rfl,wC,hdig,ho,hkp⟩:=hrel
    by_cases hbig:128<=u
    ·obtain⟨yL,yK,rfl⟩:=ay ho
     have hi1:(128:Int)<=(u:Int):=by omega
     have eo:=Tt u
     obtain⟨q,hq⟩: ∃q,u%128+128=q:=⟨_,rfl⟩
     rw[hq]at eo
     have hn:=E5 ho
     have hd1:=vT (Ec.out x (List.mem_of_getElem? HX.out))
     rw[HU.out,hdig,List.length_append]at hd1
     have hd2:=oZ (l:=l.take k) (fun n hn=>Ec.out n (List.mem_of_mem_take hn))
     rw[List.length_take]at hd2
     rw[uf,List.length_append]at hn
     have hks:=hkp.size
     have B1:Hid ((n*1+[Value.int .u8 (q:Int)].length)*1<=140737488355328):=by show _<=_;simp only[List.length_cons,List.length_nil];omega
     have B2:Hid (n*1+[Value.int .u8 (q:Int)].length<=maxLen):=by show _<=_;unfold maxLen;simp only[List.length_cons,List.length_nil];omega
     have B3:Hid (w.heap.size<=(wr.alloc (.cells #[.int .u8 (q:Int)] 5)).heap.size):=by show _<=_;simp;omega
     have kk:Kept none' wr (wr.alloc (.cells #[.int .u8 (q:Int)] 5)):=(Kept.refl _ _).alloc _
     have Ox:=Lib.hid (kk.owns ho (fun _ _ h=>h))
     have HR2:=Lib.hid (Reads.lit wr [.int .u8 (q:Int)] 5 1 1 rfl (by unfold maxLen;omega))
     have A:=Lib.hid (And.intro wC (And.intro hdig (And.intro (hkp.trans kk) (And.intro hq (And.intro (by omega:q<256) hbig)))))
     have ho1: ∀y∈[Value.int .u8 (q:Int)],y.oneCell'=true:=by intro y hy;simp at hy;subst hy;rfl
     have es:(u:Int)/128=((u/128:Nat):Int):=by omega
     obtain⟨u2,hu2⟩: ∃u2,u/128=u2:=⟨_,rfl⟩
     rw[hu2]at es
     have Ea:=Lib.hid hu2
     clear ho hn hd1 hd2 hks kk wC hdig hq hkp hu2
     go_wp2_with (at_builtin;(refine kX rfl (.tmp 19) (.tmp 23) 220 rfl w.heap.size 5 i0 (.int .u8 0) 1 1 Tryz.underlying220 hi hz0 hz1 hz2 rfl (by decide) _ n _ rfl Ox.out _ [.int .u8 (q:Int)] rfl HR2.out ho1 B1.out B2.out B3.out ?_);intro v' n' w' g1 g2 g3 g4)
     obtain⟨va,vc,rfl⟩:=ay g1
     have F:Hid (w'.ownsRow w.heap.size 5 1 (.slice va n' vc) n' (sJ (cZ (l.take k)++(dn++[UInt8.ofNat q])))/\Kept none' w w'):=by
      refine⟨?_,A.out.2.2.1.new (Kept.grown (S:=fun j=>w.heap.size<=j) g3 (fun j hj _=>(Dj Ox.out hj).1)) (fun j hj e=>by omega)⟩
      rw[GR A.out.2.2.2.2.1]at g1
      simpa[sJ]using g1
     clear g1 g2 g3 g4
     go_wp2_with fail
     go_roundg u2
     case rel=>
      refine⟨u2,n',dn++[UInt8.ofNat q],rfl,Nat.le_refl _,?_,F.out.1,F.out.2⟩
      rw[A.out.2.1,sH (by have:=A.out.2.2.2.2.2;omega),A.out.2.2.2.1,Ea.out];simp
     case measure=>have:=A.out.1;have:=Ea.out;omega
    ·obtain⟨yL,yK,rfl⟩:=ay ho
     have hi1: ¬(128:Int)<=(u:Int):=by omega
     have eu:(u:Int)%256=(u:Int):=by omega
     have hn:=E5 ho
     have hd1:=vT (Ec.out x (List.mem_of_getElem? HX.out))
     rw[HU.out,hdig,List.length_append]at hd1
     have hd2:=oZ (l:=l.take k) (fun n hn=>Ec.out n (List.mem_of_mem_take hn))
     rw[List.length_take]at hd2
     rw[uf,List.length_append]at hn
     have hks:=hkp.size
     have B1:Hid ((n*1+[Value.int .u8 (u:Int)].length)*1<=140737488355328):=by show _<=_;simp only[List.length_cons,List.length_nil];omega
     have B2:Hid (n*1+[Value.int .u8 (u:Int)].length<=maxLen):=by show _<=_;unfold maxLen;simp only[List.length_cons,List.length_nil];omega
     have B3:Hid (w.heap.size<=(wr.alloc (.cells #[.int .u8 (u:Int)] 5)).heap.size):=by show _<=_;simp;omega
     have kk:Kept none' wr (wr.alloc (.cells #[.int .u8 (u:Int)] 5)):=(Kept.refl _ _).alloc _
     have Ox:=Lib.hid (kk.owns ho (fun _ _ h=>h))
     have HR2:=Lib.hid (Reads.lit wr [.int .u8 (u:Int)] 5 1 1 rfl (by unfold maxLen;omega))
     have A:=Lib.hid (And.intro wC (And.intro hdig (And.intro (hkp.trans kk) hbig)))
     have ho1: ∀y∈[Value.int .u8 (u:Int)],y.oneCell'=true:=by intro y hy;simp at hy;subst hy;rfl
     clear ho hn hd1 hd2 hks kk wC hdig hkp
     go_wp2_with (at_builtin;(refine kX rfl (.tmp 25) (.tmp 28) 220 rfl w.heap.size 5 i0 (.int .u8 0) 1 1 Tryz.underlying220 hi hz0 hz1 hz2 rfl (by decide) _ n _ rfl Ox.out _ [.int .u8 (u:Int)] rfl HR2.out ho1 B1.out B2.out B3.out ?_);intro v' n' w' g1 g2 g3 g4)
     obtain⟨va,vc,rfl⟩:=ay g1
     have F:Hid (w'.ownsRow w.heap.size 5 1 (.slice va n' vc) n' (sJ (cZ (l.take (k+1))))/\Kept none' w w'):=by
      refine⟨?_,A.out.2.2.1.new (Kept.grown (S:=fun j=>w.heap.size<=j) g3 (fun j hj _=>(Dj Ox.out hj).1)) (fun j hj e=>by omega)⟩
      have hub:=A.out.2.2.2
      rw[GR (by omega)]at g1
      rw[Df HX.out,HU.out,A.out.2.1,mJ (by omega)]
      simpa[sJ]using g1
     clear g1 g2 g3 g4
     go_wp2_with fail
     go_roundg (l.length-(k+1))
     case rel=>exact⟨k+1,n',by go_num,by omega,Nat.le_refl _,F.out.1,F.out.2⟩
     case measure=>have:=HG.out.1;omega
  ·have hkl:k=l.length:=by omega
   subst hkl
   rw[List.take_of_length_le (Nat.le_refl _)]at ho
   obtain⟨yL,yK,rfl⟩:=ay ho
   have hcv:(convert 220 9 (.slice yL n yK)).run Tryz.prog wr= .ok (.string ⟨(cZ l).toArray⟩) wr:=by
    have hn:=E5 ho
    rw[uf]at hn
    rcases ho.2 with⟨h1,h2⟩|⟨g,cp,cur,h1,_,hg2,_,_,_,ht⟩
    ·injection h1 with h1 _ _
     subst h1
     have e1:cZ l=[]:=List.eq_nil_of_length_eq_zero (by omega)
     rw[e1]
     exact run_convert_bytes_nil _ 220 5 Tryz.underlying220 Tryz.underlying5 _ _ 9 Tryz.underlying9
    ·injection h1 with h1 _ _
     subst h1
     rw[hn]
     refine run_convert_bytes_back wr 220 9 5 ⟨g,0,none⟩ yK (cZ l) Tryz.underlying220 Tryz.underlying5 Tryz.underlying9 (fun j hj=>?_)
     rw[Addr.add_lit,Nat.zero_add,cell_of_row wr g j cur 5 (0,0) hg2]
     have h3:(sJ (cZ l))[j]?=some (.int .u8 ((cZ l)[j].toNat:Int)):=by unfold sJ;rw[List.getElem?_map,List.getElem?_eq_getElem hj];rfl
     rw[<-ht,List.getElem?_take]at h3
     split at h3
     ·simpa using h3
     ·cases h3
   have HK:=Lib.hid hkp
   clear ho hg hkp HG
   go_wp2_with fail
   go_ret
   exact⟨rfl,HK.out⟩
end
section
open Go Go.RowKit
attribute [local irreducible] bH
theorem L6 {w:World}{B:Nat->Prop}{b m:Nat}{T:Tab}(h:TabAt w B b m T)(ty:TypeId):(Builtin.len_ #[113] ty #[.map (some m)]).run Tryz.prog w= .ok (.int .i64 T.length) w:=by
 obtain⟨l,h1,h2,_⟩:=h.map
 have:=h2.length_eq
 unfold aQ at this
 simp only[List.length_map]at this
 rw[h1.len (P:=Tryz.prog) Tryz.underlying113 ty,this]
theorem Oj (B:Nat->Prop)(b m:Nat)(T:Tab)(w:World)(h:TabAt w B b m T):Calls Tryz.prog 74 #[.pointer (some ⟨b,0,none⟩)] w (Gives w (.string (strOf (cZ (oP T))))):=by
 have hcb:=h.cell
 have hlen:=fun ty=>L6 h ty
 have HT:=Lib.hid h
 clear h
 go_enter Tryz.func74,Tryz.ntmps74
 go_wp2_with fail
 have kk:Kept none' w (w.alloc (.cells #[.int .i64 (T.length:Int)] 2)):=(Kept.refl _ _).alloc _
 have hTl:=HT.out.ok.len
 refine(put_walk _ [(T.length:Int)] _ (Reads.lit w (ints [(T.length:Int)]) 2 1 1 rfl (by unfold maxLen;omega)) (by intro n hn;simp at hn;subst hn;exact .small (by omega) (by omega)) (by simp)).mono ?_
 rintro e w1 ⟨rfl,k1⟩
 go_wp2_with fail
 refine(rP B b m T w1 (HT.out.pure (kk.trans k1))).mono ?_
 rintro e w2 ⟨kv,rfl,g1,g2,g3⟩
 have hr:=Reads.bQ g1
 obtain⟨pa,ca,rfl,ka1,ka2,yN⟩:=hr.at
 unfold maxLen at ka2
 have K2:=Lib.hid (And.intro yN ((kk.trans k1).trans g3))
 clear g1 g2 g3 yN hr hlen kk k1
 have WZ:(aQ T).length=T.length:=by simp[aQ]
 have Eb:=Lib.hid WZ
 clear WZ
 go_wp2_with fail
 go_loopg [3,19] T.length (fun g vs vi wr=> ∃k:Nat,vi= .int .i64 (k:Int)/\vs= .string (strOf (cZ ((T.length:Int)::(T.take k).flatMap iI)))/\k<=T.length/\T.length-k<=g/\Kept none' w2 wr)
 case atStart=>exact⟨0,rfl,rfl,by omega,by omega,Kept.refl _ _⟩
 case round=>
  obtain⟨k,rfl,rfl,hk,hg,hkp⟩:=hrel
  by_cases hlt:k<T.length
  ·obtain⟨p,hp⟩: ∃p,T[k]?=some p:=⟨_,List.getElem?_eq_getElem hlt⟩
   have hkey:(aQ T)[k]?=some p.1:=by unfold aQ;rw[List.getElem?_map,hp];rfl
   obtain⟨kb,ko,rfl,hkc⟩:=K2.out.1.resolve_left (fun h=>by rw[h]at hkey;cases hkey)
   have r0:=hkp.cell (p:=⟨kb,ko+k,none⟩) (fun h=>h) (hkc k _ hkey)
   have hT2:=HT.out.pure (K2.out.2.trans hkp)
   have hcb2:=hT2.cell
   obtain⟨l,hml,hperm,hcs⟩:=hT2.map
   have hlk:=hml.BL (P:=Tryz.prog) Tryz.underlying113 Tryz.underlying2 p.1 (Tryz.zeroValue109 wr)
   have hget:iQ T p.1=some p.2:=(sQ HT.out.ok.rises).2 (List.mem_of_getElem? hp)
   rcases EI HT.out.ok.rises hperm hcs p.1 with⟨_,h2⟩|⟨cv,c,h1,h2,lv,rfl,hrd,_⟩
   ·rw[hget]at h2;cases h2
   ·rw[hget]at h2
    cases h2
    rw[h1]at hlk
    simp only[Option.getD_some]at hlk
    obtain⟨la,lc,rfl,hl1,hl2,_⟩:=hrd.at
    unfold maxLen at hl2
    have hlt2:((k:Nat):Int)<((aQ T).length:Int):=by rw[Eb.out];omega
    have A:=Lib.hid (And.intro hg (And.intro hkp (And.intro hp (And.intro hrd (HT.out.ok.cell p (List.mem_of_getElem? hp))))))
    have Uu:k<(aQ T).length:=by omega
    clear hml hperm hcs hget h1 hrd hp hkey hkc hg hkp hT2
    go_wp2_with fail
    obtain⟨W1,hW1⟩: ∃W1,wr.alloc (.cells #[.int .i64 p.2.1, .slice la p.2.2.length lc] 109)=W1:=⟨_,rfl⟩
    have kw:Kept none' wr W1:=by rw[<-hW1];exact(Kept.refl _ _).alloc _
    have d0:W1.cell? ⟨wr.heap.size,0,none⟩=some (.int .i64 p.2.1):=by rw[<-hW1];simp
    have d1:W1.cell? ⟨wr.heap.size,1,none⟩=some (.slice la p.2.2.length lc):=by rw[<-hW1];simp
    rw[hW1]
    clear hW1 hlk r0 hcb2
    obtain⟨s0,hs0⟩: ∃s0,strOf (cZ ((T.length:Int)::(T.take k).flatMap iI))=s0:=⟨_,rfl⟩
    rw[hs0]
    have HS:=Lib.hid hs0
    clear hs0
    refine ak [0,1,2,3,4,5,6,9,10,7,8,11,12,13,14] (fun W=>Kept none' W1 W) (by kernel_rfl) (by kernel_rfl) rfl (Kept.refl _ _).drew ?_
    simp only[List.map_cons,List.map_nil,List.getElem?_toArray,List.getElem?_cons_zero,List.getElem?_cons_succ,Option.getD_some]
    iterate 9 (apply aj rfl rfl;(intro W hW;have c0:=hW.cell (fun h=>h) d0;have c1:=hW.cell (fun h=>h) d1;go_simp;rfl);go_frame)
    apply aB rfl rfl
    intro K hK
    go_wp2_with fail
    have k3:Kept none' W1 (W1.drew.alloc (.cells #[.int .i64 p.1, .int .i64 p.2.1, .int .i64 (p.2.2.length:Int)] 2)):=(Kept.refl _ _).drew.alloc _
    refine hK _ _ (fun _=>k3) ?_
    clear hK
    apply aB rfl rfl
    intro K2 hK2
    go_wp2_with fail
    have hck:=A.out.2.2.2.2
    have QO:=HT.out.ok.key p (List.mem_of_getElem? A.out.2.2.1)
    have c1:=put_walk _ [p.1,p.2.1,(p.2.2.length:Int)] _ (Reads.lit W1.drew (ints [p.1,p.2.1,(p.2.2.length:Int)]) 2 1 3 rfl (by unfold maxLen;omega)) (by
     intro n hn
     simp only[List.mem_cons,List.not_mem_nil,or_false]at hn
     rcases hn with rfl|rfl|rfl
     ·exact QO
     ·exact hck.1
     ·have:=hck.2.2;exact .small (by omega) (by omega)) (by simp)
    refine c1.mono ?_
    clear c1
    rintro e w5 ⟨rfl,k5⟩
    obtain⟨b1,hb1⟩: ∃b1,(⟨(cZ [p.1,p.2.1,(p.2.2.length:Int)]).toArray⟩:ByteArray)=b1:=⟨_,rfl⟩
    rw[hb1]
    have HB1:=Lib.hid hb1
    clear hb1
    have k6:Kept none' W1 w5:=k3.trans k5
    go_wp2_with fail
    refine hK2 _ _ (fun _=>k6) ?_
    clear hK2
    apply aB rfl rfl
    intro K3 hK3
    go_wp2_with fail
    have c2:=put_walk _ p.2.2 _ (A.out.2.2.2.1.pure (kw.trans k6)) hck.2.1 (by have:=hck.2.2;omega)
    refine c2.mono ?_
    clear c2
    rintro e w7 ⟨rfl,k7⟩
    obtain⟨b2,hb2⟩: ∃b2,(⟨(cZ p.2.2).toArray⟩:ByteArray)=b2:=⟨_,rfl⟩
    rw[hb2]
    have HB2:=Lib.hid hb2
    clear hb2
    have k8:Kept none' W1 w7:=k6.trans k7
    go_wp2_with fail
    refine hK3 _ _ (fun _=>k8) ?_
    clear hK3
    have z1:b1.size<=30:=by
     rw[<-HB1.out]
     exact oZ (l:=[p.1,p.2.1,(p.2.2.length:Int)]) (by
      intro n hn
      simp only[List.mem_cons,List.not_mem_nil,or_false]at hn
      rcases hn with rfl|rfl|rfl
      ·exact QO
      ·exact hck.1
      ·have:=hck.2.2;exact .small (by omega) (by omega))
    have z2:b2.size<=160:=by
     rw[<-HB2.out]
     have:=oZ hck.2.1
     show(cZ p.2.2).length<=160
     have:=hck.2.2
     omega
    have z0:s0.size<=1000000:=by
     rw[<-HS.out,nY]
     have hr:=rows_ok (T:=T.take k) (fun q hq=>HT.out.ok.key q (List.mem_of_mem_take hq)) (fun q hq=>HT.out.ok.cell q (List.mem_of_mem_take hq))
     have h1:=oZ (l:=(T.length:Int)::(T.take k).flatMap iI) (by
      intro n hn
      rcases List.mem_cons.1 hn with rfl|hn
      ·exact .small (by omega) (by omega)
      ·exact hr.1 n hn)
     have h2:=hr.2
     rw[List.length_take]at h2
     rw[List.length_cons]at h1
     omega
    have z3: ¬9223372036854775807<b1.size+b2.size:=by omega
    have z4: ¬9223372036854775807<s0.size+(b1.size+b2.size):=by omega
    iterate 3 (apply aj rfl rfl;(intro W hW;go_simp;rfl);go_frame)
    refine aG (fun _=>k8) ?_
    go_wp2_with fail
    go_roundg (T.length-(k+1))
    case rel=>
     refine⟨k+1,by go_num,?_,by omega,Nat.le_refl _,A.out.2.1.trans (kw.trans k8)⟩
     rw[CV A.out.2.2.1,<-HS.out,<-HB1.out,<-HB2.out]
     have e1:((T.length:Int)::((T.take k).flatMap iI++iI p))=((T.length:Int)::(T.take k).flatMap iI)++([p.1,p.2.1,(p.2.2.length:Int)]++p.2.2):=by simp[iI]
     rw[e1,tX,tX,<-iR,<-iR]
     rfl
    case measure=>have:=A.out.1;omega
  ·have hkl:k=T.length:=by omega
   subst hkl
   have hlt2: ¬((T.length:Nat):Int)<((aQ T).length:Int):=by rw[Eb.out];omega
   rw[List.take_of_length_le (Nat.le_refl _)]
   go_wp2_with fail
   go_ret
   exact⟨rfl,K2.out.2.trans hkp⟩
end
end Go.Proofs.YtglbkodmmogomaaGreatDoor
