/- The document's numbers as bytes: one, Put. -/
import Derived.Test.YtglbkodmmogomaaGreatDoorM41
import Derived.Test.YtglbkodmmogomaaGreatDoorM40
set_option linter.unusedVariables false
set_option linter.unusedSimpArgs false
set_option maxHeartbeats 4000000
set_option maxRecDepth 100000
namespace Go.Proofs.YtglbkodmmogomaaGreatDoor
section
open Go Go.RowKit
attribute [local irreducible] bH
theorem xZ {u0 u:Nat}{dn:List UInt8}(h:u0<18446744073709551616)(hd:iF u0=dn++iF u)(b:UInt8): ¬9223372036854775807<(strOf dn).size+(strOf [b]).size:=by
 have h1:=zD 9 u0 (Nat.lt_of_lt_of_le h (by decide))
 rw[hd,List.length_append]at h1
 rw[nY,nY,List.length_singleton];omega
theorem one_byte (q:Nat)(h:q<256)(wr:World):(convert 220 9 (.slice (some ⟨wr.heap.size,0,none⟩) 1 1)).run Tryz.prog (wr.alloc (.cells #[.int .u8 (q:Int)] 5))= .ok (.string (strOf [UInt8.ofNat q])) (wr.alloc (.cells #[.int .u8 (q:Int)] 5)):=by
 refine run_convert_bytes_back _ 220 9 5 ⟨wr.heap.size,0,none⟩ 1 [UInt8.ofNat q] Tryz.underlying220 Tryz.underlying5 Tryz.underlying9 (fun j hj=>?_)
 obtain rfl:j=0:=by simpa using hj
 rw[Addr.add_zero',GR h]
 simp
theorem one_any (n:Int)(h:bF n)(w:World):Calls Tryz.prog 152 #[.int .i64 n] w fun e w'=>e= .returned (.string (strOf (iF (gy n))))/\Kept none' w w':=by
 unfold bF at h
 by_cases h0:n<0
 ·have hu0:2* -(n+1)+1=((gy n:Nat):Int):=by unfold gy;rw[if_neg (by omega)];omega
  have hlt:=yZ (n:=n) h
  obtain⟨u0,hu⟩: ∃u0,gy n=u0:=⟨_,rfl⟩
  rw[hu]at hu0 hlt⊢
  have HU:=Lib.hid hu0
  clear hu hu0
  go_enter Tryz.func152,Tryz.ntmps152
  go_wp2_with fail
  rw[HU.out]
  clear HU
  go_loopg [3,4] u0 (fun g vu vs wr=> ∃(u:Nat)(dn:List UInt8),vu= .int .u64 (u:Int)/\vs= .string (strOf dn)/\u<=g/\u<=u0/\iF u0=dn++iF u/\Kept none' w wr)
  case atStart=>exact⟨u0,[],rfl,rfl,Nat.le_refl _,Nat.le_refl _,rfl,Kept.refl _ _⟩
  case round=>
   obtain⟨u,dn,rfl,rfl,wC,huu,hdig,hkp⟩:=hrel
   have hub:u<18446744073709551616:=by omega
   by_cases hbig:127<u
   ·have hi1:(127:Int)<(u:Int):=by omega
    obtain⟨q,hq⟩: ∃q,u%128=q:=⟨_,rfl⟩
    have eq1:(u:Int)%128=(q:Int):=by omega
    obtain⟨u2,hu2⟩: ∃u2,u/128=u2:=⟨_,rfl⟩
    have es:(u:Int)/128=(u2:Int):=by omega
    have hq2:q<128:=by omega
    have A:=Lib.hid (And.intro wC (And.intro hdig (And.intro hq hu2)))
    clear wC hdig hq hu2
    have hcv:=one_byte (q+128) (by omega) wr
    rw[show(((q+128:Nat)):Int)=(q:Int)+128 by omega]at hcv
    obtain⟨bb,hbb⟩: ∃bb,UInt8.ofNat (q+128)=bb:=⟨_,rfl⟩
    rw[hbb]at hcv
    have hsz:=xZ hlt (by have:=A.out.2.1;exact this) bb
    have HB:=Lib.hid (And.intro hbb hkp)
    clear hbb hkp
    go_wp2_with fail
    go_roundg u2
    case rel=>
     refine⟨u2,dn++[bb],rfl,by rw[<-iR],Nat.le_refl _,by have:=A.out.2.2.2;omega,?_,HB.out.2.alloc _⟩
     rw[A.out.2.1,sH (by omega),A.out.2.2.1,A.out.2.2.2,HB.out.1];simp
    case measure=>have h1:=A.out.1;have h2:=A.out.2.2.2;omega
   ·have hi1: ¬(127:Int)<(u:Int):=by omega
    have hcv:=one_byte u (by omega) wr
    obtain⟨bb,hbb⟩: ∃bb,UInt8.ofNat u=bb:=⟨_,rfl⟩
    rw[hbb]at hcv
    have F:Hid (dn++[bb]=iF u0/\Kept none' w wr):=⟨by rw[hdig,mJ (by omega),hbb],hkp⟩
    have eu:(u:Int)%256=(u:Int):=by omega
    have hsz:=xZ hlt hdig bb
    clear hdig hbb hkp wC
    go_wp2_with fail
    go_ret
    exact⟨by show Ending.returned (Value.string (strOf dn++strOf [bb]))=_;rw[<-F.out.1,<-iR],F.out.2.alloc _⟩
 ·have hu0:2*n=((gy n:Nat):Int):=by unfold gy;rw[if_pos (by omega)];omega
  have hlt:=yZ (n:=n) h
  obtain⟨u0,hu⟩: ∃u0,gy n=u0:=⟨_,rfl⟩
  rw[hu]at hu0 hlt⊢
  have HU:=Lib.hid hu0
  clear hu hu0
  go_enter Tryz.func152,Tryz.ntmps152
  go_wp2_with fail
  rw[HU.out]
  clear HU
  go_loopg [3,4] u0 (fun g vu vs wr=> ∃(u:Nat)(dn:List UInt8),vu= .int .u64 (u:Int)/\vs= .string (strOf dn)/\u<=g/\u<=u0/\iF u0=dn++iF u/\Kept none' w wr)
  case atStart=>exact⟨u0,[],rfl,rfl,Nat.le_refl _,Nat.le_refl _,rfl,Kept.refl _ _⟩
  case round=>
   obtain⟨u,dn,rfl,rfl,wC,huu,hdig,hkp⟩:=hrel
   have hub:u<18446744073709551616:=by omega
   by_cases hbig:127<u
   ·have hi1:(127:Int)<(u:Int):=by omega
    obtain⟨q,hq⟩: ∃q,u%128=q:=⟨_,rfl⟩
    have eq1:(u:Int)%128=(q:Int):=by omega
    obtain⟨u2,hu2⟩: ∃u2,u/128=u2:=⟨_,rfl⟩
    have es:(u:Int)/128=(u2:Int):=by omega
    have hq2:q<128:=by omega
    have A:=Lib.hid (And.intro wC (And.intro hdig (And.intro hq hu2)))
    clear wC hdig hq hu2
    have hcv:=one_byte (q+128) (by omega) wr
    rw[show(((q+128:Nat)):Int)=(q:Int)+128 by omega]at hcv
    obtain⟨bb,hbb⟩: ∃bb,UInt8.ofNat (q+128)=bb:=⟨_,rfl⟩
    rw[hbb]at hcv
    have hsz:=xZ hlt (by have:=A.out.2.1;exact this) bb
    have HB:=Lib.hid (And.intro hbb hkp)
    clear hbb hkp
    go_wp2_with fail
    go_roundg u2
    case rel=>
     refine⟨u2,dn++[bb],rfl,by rw[<-iR],Nat.le_refl _,by have:=A.out.2.2.2;omega,?_,HB.out.2.alloc _⟩
     rw[A.out.2.1,sH (by omega),A.out.2.2.1,A.out.2.2.2,HB.out.1];simp
    case measure=>have h1:=A.out.1;have h2:=A.out.2.2.2;omega
   ·have hi1: ¬(127:Int)<(u:Int):=by omega
    have hcv:=one_byte u (by omega) wr
    obtain⟨bb,hbb⟩: ∃bb,UInt8.ofNat u=bb:=⟨_,rfl⟩
    rw[hbb]at hcv
    have F:Hid (dn++[bb]=iF u0/\Kept none' w wr):=⟨by rw[hdig,mJ (by omega),hbb],hkp⟩
    have eu:(u:Int)%256=(u:Int):=by omega
    have hsz:=xZ hlt hdig bb
    clear hdig hbb hkp wC
    go_wp2_with fail
    go_ret
    exact⟨by show Ending.returned (Value.string (strOf dn++strOf [bb]))=_;rw[<-F.out.1,<-iR],F.out.2.alloc _⟩
end
section
open Go Go.RowKit
theorem MJ (v:Value)(l:List Int)(w:World)(h:Reads w 1 v (ints l))(h64: ∀n∈l,bF n)(hb:l.length<=1073741824):
 Calls Tryz.prog 120 #[v] w (Gives w (.string (strOf (cZ l)))):=by
 obtain⟨a,cap,rfl,h1,h2,h3⟩:=h.at
 unfold maxLen at h2
 have H3:=Lib.hid h3
 have Ec:=Lib.hid h64
 clear h h3 h64
 go_enter Tryz.func120,Tryz.ntmps120
 go_wp2
 go_loopg [3,4] l.length (fun g vs vi wr=> ∃k:Nat,vi= .int .i64 (k:Int)/\vs= .string (strOf (cZ (l.take k)))/\k<=l.length/\l.length-k<=g/\Kept none' w wr)
 case atStart=>exact⟨0,rfl,rfl,by omega,by omega,Kept.refl _ _⟩
 case round=>
  obtain⟨k,rfl,rfl,hk,hg,hkp⟩:=hrel
  by_cases hlt:k<l.length
  ·obtain⟨x,hx⟩: ∃x,l[k]?=some x:=⟨_,List.getElem?_eq_getElem hlt⟩
   obtain⟨b0,off,rfl,hcl⟩:=H3.out.resolve_left (fun h=>by rw[h]at hx;cases hx)
   have q0:=hkp.cell (p:=⟨b0,off+k,none⟩) (fun h=>h) (hcl k _ hx)
   have BQ:=Ec.out x (List.mem_of_getElem? hx)
   have HT:=Lib.hid (fun W=>one_any x BQ W)
   have F:=Lib.hid (And.intro hg (And.intro hkp (Df hx)))
   obtain⟨P,hP⟩: ∃P,cZ (l.take k)=P:=⟨_,rfl⟩
   obtain⟨D,hD⟩: ∃D,iF (gy x)=D:=⟨_,rfl⟩
   have hsz: ¬9223372036854775807<(strOf P).size+(strOf D).size:=by
    have e1:=oZ (l:=l.take k) (fun n hn=>Ec.out n (List.mem_of_mem_take hn))
    have e2:=vT BQ
    rw[List.length_take]at e1
    rw[nY,nY,<-hP,<-hD];omega
   rw[hP]
   have HP:=Lib.hid (And.intro hP hD)
   clear hcl hx BQ hg hkp hP
   go_wp2_with fail
   refine(HT.out _).mono ?_
   rintro e w2 ⟨rfl,k2⟩
   rw[hD]
   clear hD
   go_wp2_with fail
   go_roundg (l.length-(k+1))
   case rel=>exact⟨k+1,by go_num,by rw[F.out.2.2,HP.out.1,HP.out.2,<-iR],by omega,Nat.le_refl _,F.out.2.1.trans k2⟩
   case measure=>have:=F.out.1;omega
  ·have hkl:k=l.length:=by omega
   subst hkl
   rw[List.take_of_length_le (Nat.le_refl _)]
   go_wp2_with fail
   go_ret
   exact⟨rfl,hkp⟩
end
section
open Go Go.RowKit
attribute [local irreducible] bH
theorem QC {w:World}{base n:Nat}{v u:Value}{L M:List Int}(hown:w.ownsRow base 2 1 v n (ints L))(hr:Reads w 1 u (ints M))(hb:base<=w.heap.size)(hlen:L.length+M.length<=1000000):
 ∃v' n' w',(Builtin.append_ #[97,97] 97 #[v,u]).run Tryz.prog w= .ok v' w'/\w'.ownsRow base 2 1 v' n' (ints (L++M))/\w.grownBy w' v.ownBlock:=by
 obtain⟨i,hi,hz,hs,hby⟩:=info_parts Tryz.info2
 have hn:=hown.1
 rw[pY]at hn
 obtain⟨v',n',w',g1,g2,g3,g4,g5⟩:=bI (P:=Tryz.prog) base 97 97 2 i (.int .i64 0) 1 8 Tryz.underlying97 hi hz hs hby rfl (by omega) hown hr (rU M) (by rw[pY];omega) (by rw[pY];unfold maxLen;omega) hb
 refine⟨v',n',w',g1,?_,g4⟩
 unfold ints at g2⊢
 rw[List.map_append]
 exact g2
theorem Dk {w wr w':World}{e s n:Nat}{v:Value}{xs:List Value}(hk:Kept none' w wr)(ho:wr.ownsRow w.heap.size e s v n xs)(hg:wr.grownBy w' v.ownBlock):Kept none' w w':=
 hk.new (Kept.grown (S:=fun j=>w.heap.size<=j) hg (fun j hj _=>(gG ho hj).1)) (fun j hj hs=>by omega)
theorem MB {T:Tab}{k:Nat}{p:Int×Cell}(h:T[k]?=some p)(N:Int):N::(T.take (k+1)).flatMap iI=(N::(T.take k).flatMap iI)++([p.1,p.2.1,(p.2.2.length:Int)]++p.2.2):=by
 rw[CV h];simp[iI]
theorem IV {T:Tab}(h:iy T):(∀n∈oP T,bF n)/\(oP T).length<=6100:=by
 have hr:=rows_ok h.key h.cell
 have hl:=h.len
 refine⟨fun n hn=>?_,?_⟩
 ·unfold oP at hn
  rcases List.mem_cons.1 hn with rfl|hn
  ·exact .small (by omega) (by omega)
  ·exact hr.1 n hn
 ·unfold oP;rw[List.length_cons];have:=hr.2;omega
theorem Ko (D:Nat)(T:Tab)(w:World)(h:RTabAt w D T):Calls Tryz.prog 76 #[.pointer (some ⟨D,0,none⟩)] w (Gives w (.string (strOf (cZ (oP T))))):=by
 have HT:=Lib.hid h
 obtain⟨⟨v,rX,hrt⟩,hok⟩:=h
 obtain⟨pa,zl,rfl,hc1,hc2,hcl⟩:=hrt.parts
 have c0:w.cell? ⟨D,0,none⟩=some (.slice pa T.length zl):=cells_at rX rfl
 have hD:D<w.heap.size:=block_lt_of_cell c0
 have hT:=hok.len
 unfold maxLen at hc2
 have HC:=Lib.hid (And.intro hcl hok)
 clear rX hrt hcl hok
 go_enter Tryz.func76,Tryz.ntmps76
 go_wp2_with fail
 have I0:Hid ((w.alloc (.cells #[.int .i64 (T.length:Int)] 2)).ownsRow w.heap.size 2 1 (.slice (some ⟨w.heap.size,0,none⟩) 1 1) 1 (ints ((T.length:Int)::(T.take 0).flatMap iI))/\Kept none' w (w.alloc (.cells #[.int .i64 (T.length:Int)] 2))):=
  ⟨⟨by simp, .inr ⟨w.heap.size,1,#[.int .i64 (T.length:Int)],rfl,Nat.le_refl _,heap_alloc_new w _,Nat.le_refl _,by unfold maxLen;omega,rfl,rfl⟩⟩,(Kept.refl _ _).alloc _⟩
 go_loopg [3,4] T.length (fun g vl vi wr=> ∃k n:Nat,k<=T.length/\vi= .int .i64 (k:Int)/\wr.ownsRow w.heap.size 2 1 vl n (ints ((T.length:Int)::(T.take k).flatMap iI))/\Kept none' w wr/\T.length-k<=g)
 case atStart=>exact⟨0,1,by omega,rfl,I0.out.1,I0.out.2,by omega⟩
 case round=>
  obtain⟨k,n,hk,rfl,hown,hkp,hg⟩:=hrel
  obtain⟨oa,oc,rfl⟩:=ay hown
  have c0:=hkp.cell (p:=⟨D,0,none⟩) (fun h=>h) c0
  have HI:=Lib.hid (And.intro hown (And.intro hkp hg))
  clear hown hkp hg I0
  by_cases hlt:k<T.length
  ·obtain⟨p,hp⟩: ∃p,T[k]?=some p:=⟨_,List.getElem?_eq_getElem hlt⟩
   obtain⟨rb,ro,rfl,hr⟩:=HC.out.1.resolve_left (fun h=>by rw[h]at hp;cases hp)
   obtain⟨x0,x1,lv,x2,P8⟩:=hr k p hp
   have hrbw:rb<w.heap.size:=block_lt_of_cell x0
   have Um: ∀g,Value.blk lv=some g->g<w.heap.size:=fun g hg=>by
    obtain⟨c,E,f,he⟩:=P8.isCells (by omega) hg
    exact(Array.getElem?_eq_some_iff.1 he).1
   have x0:=HI.out.2.1.cell (fun h=>h) x0
   have x1:=HI.out.2.1.cell (fun h=>h) x1
   have x2:=HI.out.2.1.cell (fun h=>h) x2
   have hlv:=P8.pure HI.out.2.1
   obtain⟨la,lc,rfl,hl1,hl2,_⟩:=hlv.at
   unfold maxLen at hl2
   have hpc:=HC.out.2.cell p (List.mem_of_getElem? hp)
   have hpl:p.2.2.length<=16:=hpc.2.2
   have hcl:((T.length:Int)::(T.take k).flatMap iI).length<=6100:=by
    have h1:=(rows_ok (T:=T.take k) (fun q hq=>HC.out.2.key q (List.mem_of_mem_take hq)) (fun q hq=>HC.out.2.cell q (List.mem_of_mem_take hq))).2
    have h2:=List.length_take_le' k T
    rw[List.length_cons];omega
   have Q:=Lib.hid (And.intro hp (And.intro hlv hcl))
   clear hr hp hlv hpc hcl P8
   go_wp2_with fail
   obtain⟨W1,hW1⟩: ∃W1,wr.alloc (.cells #[.int .i64 p.2.1, .slice la p.2.2.length lc] 109)=W1:=⟨_,rfl⟩
   have kA:Kept none' wr W1:=by rw[<-hW1];exact(Kept.refl _ _).alloc _
   have y0:W1.cell? ⟨wr.heap.size,0,none⟩=some (.int .i64 p.2.1):=by rw[<-hW1];simp
   have y1:W1.cell? ⟨wr.heap.size,1,none⟩=some (.slice la p.2.2.length lc):=by rw[<-hW1];simp
   rw[hW1]
   clear hW1
   have c1:=kA.cell (p:=⟨D,0,none⟩) (fun h=>h) c0
   have z0:=kA.cell (fun h=>h) x0
   have hown1:=kA.owns HI.out.1 (fun _ _ h=>h)
   have hob: ∀g,(Value.slice oa n oc).ownBlock=some g->w.heap.size<=g/\g<wr.heap.size:=fun g hg=>gG HI.out.1 hg
   have nD:(Value.slice oa n oc).ownBlock≠some D:=fun e=>by have:=hob D e;omega
   have nR:(Value.slice oa n oc).ownBlock≠some rb:=fun e=>by have:=hob rb e;omega
   have nC:(Value.slice oa n oc).ownBlock≠some wr.heap.size:=fun e=>by have:=hob _ e;omega
   have kB:Kept none' W1 (W1.drew.alloc (.cells #[.int .i64 p.1, .int .i64 p.2.1, .int .i64 (p.2.2.length:Int)] 2)):=(Kept.refl _ _).drew.alloc _
   obtain⟨v7,n7,w7,f1,f2,f3⟩:=QC (M:=[p.1,p.2.1,(p.2.2.length:Int)]) (kB.owns hown1 (fun _ _ h=>h)) (Reads.lit W1.drew (ints [p.1,p.2.1,(p.2.2.length:Int)]) 2 1 3 rfl (by unfold maxLen;omega)) (Nat.le_trans (Nat.le_trans HI.out.2.1.size kA.size) kB.size) (by have:=Q.out.2.2;simp only[List.length_cons,List.length_nil]at*;omega)
   obtain⟨a7,c7,rfl⟩:=ay f2
   have k7:Kept (fun g=>(Value.slice oa n oc).ownBlock=some g) W1 w7:=kB.pure.trans (Kept.grown f3 (fun g hg _=>hg))
   have Un:Reads w7 1 (.slice la p.2.2.length lc) (ints p.2.2):=
    (Q.out.2.1.pure kA).kept k7 (fun g hg hs=>by have h1:=Um g hg;have h2:=hob g hs;omega)
   have y17:=k7.cell (p:=⟨wr.heap.size,1,none⟩) (fun e=>nC e) y1
   have hown7:=Lib.hid f2
   have K7:=Lib.hid (And.intro k7 (Dk (HI.out.2.1.trans (kA.trans kB)) (kB.owns hown1 (fun _ _ h=>h)) f3))
   have KB:=Lib.hid kB
   have F1:=Lib.hid f1
   obtain⟨v9,n9,w9,g1,g2,g3⟩:=QC (M:=p.2.2) f2 Un K7.out.2.size (by have:=Q.out.2.2;rw[List.length_append];simp only[List.length_cons,List.length_nil]at*;omega)
   rw[List.append_assoc,<-MB Q.out.1]at g2
   have F:=Lib.hid (And.intro g2 (Dk K7.out.2 f2 g3))
   have G1:=Lib.hid g1
   have hki0:(0:Int)<=(k:Int):=by omega
   have hki1:(k:Int)<(T.length:Int):=by omega
   have ND:=Lib.hid (And.intro nD (And.intro nR nC))
   clear f1 f2 f3 g1 g2 g3 Un k7 kB kA hown1 hob nD nR nC Um
   refine ak [0,1,2,3,4,5,6,7,8,9,10,11,12,13,14,15,16] (fun W=>Kept (fun g=>(Value.slice oa n oc).ownBlock=some g) W1 W) (by kernel_rfl) (by kernel_rfl) rfl (Kept.refl _ W1).drew ?_
   simp only[List.map_cons,List.map_nil,List.getElem?_toArray,List.getElem?_cons_zero,List.getElem?_cons_succ,Option.getD_some]
   iterate 14 (apply aj rfl rfl;(intro W hW;have e1:=hW.cell (p:=⟨D,0,none⟩) ND.out.1 c1;have e2:=hW.cell (p:=⟨rb,ro+k*3,none⟩) ND.out.2.1 z0;have e3:=hW.cell (p:=⟨wr.heap.size,0,none⟩) ND.out.2.2 y0;have e4:=hW.cell (p:=⟨wr.heap.size,1,none⟩) ND.out.2.2 y1;go_simp;rfl);go_frame)
   apply aB rfl rfl
   intro K hK
   go_wp2_with fail
   refine hK _ _ (fun _=>KB.out.pure) ?_
   clear hK
   apply aB rfl rfl
   intro K hK
   refine wp_append_run (.tmp 29) (.tmp 43) 97 rfl (.slice oa n oc) (.slice (some ⟨W1.heap.size,0,none⟩) 3 3) _ rfl rfl F1.out ?_
   refine hK _ _ (fun _=>K7.out.1) ?_
   clear hK
   apply aj rfl rfl
   ·intro W hW;go_simp;rfl
   go_frame
   refine aG (fun _=>K7.out.1) ?_
   go_wp2_with (at_builtin;refine wpList_append_run rfl (.tmp 45) (.tmp 47) 97 rfl (.slice a7 n7 c7) (.slice la p.2.2.length lc) _ rfl rfl G1.out ?_)
   go_roundg (T.length-(k+1))
   case rel=>exact⟨k+1,n9,by omega,by go_num,F.out.1,F.out.2,Nat.le_refl _⟩
   case measure=>have:=HI.out.2.2;omega
  ·have Uu:k=T.length:=by omega
   have F:=Lib.hid (show Reads wr 1 (.slice oa n oc) (ints (oP T))from by
    have:=HI.out.1
    rw[List.take_of_length_le (by omega)]at this
    exact Reads.bQ this)
   have HK:=Lib.hid Uu
   clear Uu
   go_wp2_with fail
   (with_reducible refine(MJ (.slice oa n oc) (oP T) wr F.out (IV HC.out.2).1 (by have:=(IV HC.out.2).2;omega)).mono ?_)
   rintro e w5 ⟨rfl,k5⟩
   go_wp2_with fail
   go_ret
   exact⟨rfl,HI.out.2.1.trans k5⟩
end
section
open Go Go.RowKit
attribute [local irreducible] bH H2.bW
section
variable {P:Program}
end
end
section
open Go Go.RowKit
end
section
open Go Go.RowKit
attribute [local irreducible] bH
theorem H8 (j:Jb)(b:Nat)(Ts:Tabs)(tv:Value)(pm:Nat->Nat)(w:World)(h:Ba w b j Ts tv pm)(hlen:Ts.length=j.nodes.length)(hsm:j.nodes.length<=1000):
 Calls Tryz.prog 30 #[.pointer (some ⟨b,0,none⟩)] w (yw w (kT j.nodes Ts)):=by
 obtain⟨nv,bn,hob,hn,hrow,htb⟩:=h
 obtain⟨na,cap,rfl,h1,h2,h3⟩:=hn.at
 obtain⟨ta,tc,rfl⟩:=ay hrow
 have x1:w.cell? ⟨b,1,none⟩=some (.slice na j.nodes.length cap):=cells_at hob rfl
 have x2:w.cell? ⟨b,2,none⟩=some (.slice ta Ts.length tc):=cells_at hob rfl
 have hbl:b<w.heap.size:=(Array.getElem?_eq_some_iff.1 hob).1
 rw[hlen]at x2 hrow
 have H:=Lib.hid (And.intro htb (And.intro h3 (And.intro hlen hrow)))
 clear hob hn htb h3 hlen hrow
 unfold maxLen at h2
 go_enter Tryz.func30,Tryz.ntmps30
 go_wp2
 go_loopg [3,4] j.nodes.length (fun g vo vi wr=> ∃k:Nat,k<=j.nodes.length/\vi= .int .i64 (k:Int)/\j.nodes.length-k<=g/\wr.ownsRow w.heap.size 35 2 vo (mO j.nodes Ts k).length (dK (mO j.nodes Ts k))/\Kept none' w wr)
 case atStart=>exact⟨0,by omega,rfl,by omega,World.ownsRow_nil _ _ _ _,Kept.refl _ _⟩
 case round=>
  obtain⟨k,hkn,rfl,hg,hown,hkp⟩:=hrel
  obtain⟨wo,rfl⟩: ∃wo:World,wo=wr:=⟨_,rfl⟩
  obtain⟨va,vc,rfl⟩:=ay hown
  have x1:=hkp.cell (p:=⟨b,1,none⟩) (fun h=>h) x1
  have x2:=hkp.cell (p:=⟨b,2,none⟩) (fun h=>h) x2
  have hle:=L9 j.nodes Ts k
  have hbw:b<wo.heap.size:=Nat.lt_of_lt_of_le hbl hkp.size
  by_cases hlt:k<j.nodes.length
  ·obtain⟨d,hd⟩: ∃d,j.nodes[k]?=some d:=⟨_,List.getElem?_eq_getElem hlt⟩
   obtain⟨t,ht⟩: ∃t,Ts[k]?=some t:=⟨_,List.getElem?_eq_getElem (by have:=H.out.2.2.1;omega)⟩
   obtain⟨nb,off,pi,ci,p,cap',rfl,hc,hjn⟩:=H.out.2.1 k d hd
   have hnl:nb<w.heap.size:=block_lt_of_cell hc.1
   obtain⟨c0,-⟩:=hc.kept hkp (fun h=>h)
   have hrw:=hkp.owns H.out.2.2.2 (fun _ _ h=>h)
   rw[<-H.out.2.2.1]at hrw
   obtain⟨gb,rfl,-,ht1,ht2,-,z0,-⟩:=yg (show wo.ownsRow bn 46 1 (.slice ta j.nodes.length tc) Ts.length (rp pm Ts)from by rw[<-H.out.2.2.1];exact hrw) ht
   unfold maxLen at ht2
   have hsn:=EK hd ht
   have G:=Lib.hid (And.intro hg (And.intro hown (And.intro hkp hsn)))
   clear hg hown hkp hsn hc hjn hd hrw
   cases t with
   |none=>
    simp only[Option.map_none]at z0
    clear ht
    go_wp2_with fail
    go_roundg (j.nodes.length-(k+1))
    case rel=>exact⟨k+1,by omega,by go_num,Nat.le_refl _,by rw[G.out.2.2.2,show(qX (d,none)).toList=[]from rfl,List.append_nil];exact G.out.2.1,G.out.2.2.1⟩
    case measure=>have:=G.out.1;omega
   |some T=>
    simp only[Option.map_some]at z0
    have HT:=Lib.hid ((H.out.1.tab k T ht).at.pure G.out.2.2.1)
    clear ht
    have hno: ∀q,q<w.heap.size-> ¬(Value.slice va (mO j.nodes Ts k).length vc).ownBlock=some q:=fun q hq h=>by have:=(G.out.2.1.lt _ h).1;omega
    have hgl:gb<w.heap.size:=by have:=(H.out.2.2.2.lt gb rfl).2;omega
    have Y:=Lib.hid (And.intro x1 (And.intro x2 (And.intro c0 z0)))
    go_wp2_with fail
    refine ak [0,1,2,3,4,5,6,7,8,9,10,11,12,13,14,15,16,17,18,19,20,21] (fun W=>Kept (fun q=>(Value.slice va (mO j.nodes Ts k).length vc).ownBlock=some q) wo W) (by kernel_rfl) (by kernel_rfl) rfl (Kept.refl _ _).drew ?_
    simp only[List.map_cons,List.map_nil,List.getElem?_toArray,List.getElem?_cons_zero,List.getElem?_cons_succ,Option.getD_some]
    iterate 17 (apply aj rfl rfl;(intro W hW;have q1:=hW.cell (p:=⟨b,1,none⟩) (hno _ hbl) Y.out.1;have q2:=hW.cell (p:=⟨b,2,none⟩) (hno _ hbl) Y.out.2.1;have q3:=hW.cell (p:=⟨nb,off+k*7,none⟩) (hno _ hnl) Y.out.2.2.1;have q4:=hW.cell (p:=⟨gb,k,none⟩) (hno _ hgl) Y.out.2.2.2;go_simp;rfl);go_frame)
    apply aB rfl rfl
    intro K hK
    go_wp2_with fail
    (with_reducible refine(Ko _ T _ (HT.out.pure (Kept.refl none' wo).drew)).mono ?_)
    rintro e w5 ⟨rfl,k5⟩
    go_wp2_with fail
    have wB:=k5.bP
    refine hK _ _ (fun _=>wB.pure) ?_
    clear hK
    have hown5:=wB.owns G.out.2.1 (fun _ _ h=>h)
    have FK:=G.out.2.2.1.trans wB
    obtain⟨v6,w6,g1,g2,g3,a6,c6,rfl⟩:=BA hown5 (d.uid,strOf (cZ (oP T))) FK.size (by omega)
    apply aj rfl rfl
    ·intro W hW
     go_simp
     rfl
    go_frame
    apply aB rfl rfl
    intro K2 hK2
    go_wp2_with fail
    refine hK2 _ _ (fun _=>(wB.alloc _).pure) ?_
    clear hK2
    have Z:=Lib.hid (And.intro (show w6.ownsRow w.heap.size 35 2 (.slice a6 ((mO j.nodes Ts k).length+1) c6) (mO j.nodes Ts (k+1)).length (dK (mO j.nodes Ts (k+1))) by
     rw[G.out.2.2.2]
     simpa[qX]using g2) (FK.new g3 (fun i hi hs=>by have:=(hown5.lt i hs).1;omega)))
    apply aB rfl rfl
    intro K3 hK3
    refine xX (.tmp 23) (.tmp 42) 25 rfl _ _ _ rfl rfl g1 ?_
    refine hK3 _ _ (fun _=>wB.pure.trans g3) ?_
    clear hK3
    apply aj rfl rfl
    ·intro W hW
     go_simp
     rfl
    go_frame
    refine aG (fun _=>wB.pure.trans g3) ?_
    clear g1 g2 g3 hown5 k5 FK wB
    go_wp2_with fail
    go_roundg (j.nodes.length-(k+1))
    case rel=>exact⟨k+1,by omega,by go_num,Nat.le_refl _,Z.out⟩
    case measure=>have:=G.out.1;omega
  ·have e1:k=j.nodes.length:=by omega
   subst e1
   have F:=Lib.hid (show yw w (kT j.nodes Ts) (.returned (.slice va (mO j.nodes Ts j.nodes.length).length vc)) wo from⟨_,rfl,by rw[<-IX H.out.2.2.1];exact Reads.bQ hown,fun q hq=>(hown.lt q (GU hq)).1,hkp⟩)
   clear hown hkp hg hlt x2
   go_wp2_with fail
   go_ret
   exact F.out
end
end Go.Proofs.YtglbkodmmogomaaGreatDoor
