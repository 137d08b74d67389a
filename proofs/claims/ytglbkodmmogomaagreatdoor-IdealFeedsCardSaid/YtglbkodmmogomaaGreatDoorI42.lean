/- The document's nodes: what one makes of a record, without a table. -/
import Derived.Test.YtglbkodmmogomaaGreatDoorI39
import Derived.Test.YtglbkodmmogomaaGreatDoorI41
set_option linter.unusedVariables false
set_option linter.unusedSimpArgs false
set_option maxHeartbeats 8000000
set_option maxRecDepth 100000
namespace Go.Proofs.YtglbkodmmogomaaGreatDoor
section
open Go Go.RowKit
attribute [local irreducible] cZ
structure afp (w W:World)(nd:dD)(uid:ByteArray)(inv:Value)(p:Option Addr)(cap:Nat)(r:Rec):Prop where
 kept:ε η w W
 nB:W.heap[w.heap.size]?=some (.cells #[.string uid,.int .u8 nd.kind,inv,.int .u8 nd.x.op,.int .i64 nd.x.n,.slice p nd.x.args.length cap,.int .i64 nd.n] 42 (0,0))
 rB:W.heap[w.heap.size+1]?=some (.cells #[.int .i64 r.pos,.int .i64 r.key,.int .i64 r.val] 68 (0,0))
 eB:W.heap[w.heap.size+2]?=some (.cells #[.int .i64 r.key,.int .i64 r.val,.int .i64 0] 182 (0,0))
theorem O4 (w:World)(nd:dD)(uid:ByteArray)(inv:Value)(p:Option Addr)(cap:Nat)(r:Rec):
 afp w (((w.alloc (.cells #[.string uid,.int .u8 nd.kind,inv,.int .u8 nd.x.op,.int .i64 nd.x.n,.slice p nd.x.args.length cap,.int .i64 nd.n] 42)).alloc (.cells #[.int .i64 r.pos,.int .i64 r.key,.int .i64 r.val] 68)).alloc (.cells #[.int .i64 r.key,.int .i64 r.val,.int .i64 0] 182)) nd uid inv p cap r:=by
 refine⟨((δ.alloc _).alloc _).alloc _,?_,?_,?_⟩
 ·exact(((ε.refl η _).alloc _).alloc _).heap (heap_alloc_new w _) id
 ·have:=heap_alloc_new (w.alloc (.cells #[.string uid,.int .u8 nd.kind,inv,.int .u8 nd.x.op,.int .i64 nd.x.n,.slice p nd.x.args.length cap,.int .i64 nd.n] 42)) (.cells #[.int .i64 r.pos,.int .i64 r.key,.int .i64 r.val] 68)
  rw[World.size_alloc]at this;exact((ε.refl η _).alloc _).heap this id
 ·have:=heap_alloc_new ((w.alloc (.cells #[.string uid,.int .u8 nd.kind,inv,.int .u8 nd.x.op,.int .i64 nd.x.n,.slice p nd.x.args.length cap,.int .i64 nd.n] 42)).alloc (.cells #[.int .i64 r.pos,.int .i64 r.key,.int .i64 r.val] 68)) (.cells #[.int .i64 r.key,.int .i64 r.val,.int .i64 0] 182)
  rw[World.size_alloc,World.size_alloc]at this;exact this
theorem Aa (w:World){w0:World}(r:Rec)(hk:ε η w0 w):lF w0 [r] (.returned (.slice (some ⟨w.heap.size,0,none⟩) 1 1)) (w.alloc (.cells #[.int .i64 r.pos,.int .i64 r.key,.int .i64 r.val] 68)):=
 ⟨_,rfl,Reads.lit w [.int .i64 r.pos,.int .i64 r.key,.int .i64 r.val] 68 3 1 rfl (by unfold maxLen;omega),fun b hb=>by cases hb;exact hk.size,hk.alloc _⟩
theorem Za (w:World){w0:World}(hk:ε η w0 w):lF w0 [] (.returned (.slice none 0 0)) w:=⟨_,rfl,Reads.nil _ _,(fun b (hb:(none:Option Nat)=some b)=>nomatch hb),hk⟩
theorem VK (r:Rec){i n:Nat}(h:i<n):(iR r n).take (i+1)=(iR r n).take i++[(⟨wrap64 (wrap64 (8*r.pos)+(i:Int)),r.key,wrap64 (r.val+(i:Int))⟩:Rec)]:=by
 rw[ψ]
 congr 1
 unfold iR;rw[abJ,List.getElem?_range h];rfl
theorem U6 (nd:dD)(na:Array Value)(tv:Option Addr)(T:Tab)(r:Rec)(w:World)(hn:dO w na nd)(hr:bQ r)(h6:nd.kind≠6)(h7:nd.kind≠7):
 Calls Tryz.prog 118 #[.agg na,.pointer tv,.agg #[.int .i64 r.pos,.int .i64 r.key,.int .i64 r.val]] w (lF w (aF nd T r).1):=by
 obtain⟨uid,inv,p,cap,rfl,hx,hk0,hk1,hn1⟩:=hn;have hbx:=O4 w nd uid inv p cap r;obtain⟨W0,hW0⟩: ∃W0,(((w.alloc (.cells #[.string uid,.int .u8 nd.kind,inv,.int .u8 nd.x.op,.int .i64 nd.x.n,.slice p nd.x.args.length cap,.int .i64 nd.n] 42)).alloc (.cells #[.int .i64 r.pos,.int .i64 r.key,.int .i64 r.val] 68)).alloc (.cells #[.int .i64 r.key,.int .i64 r.val,.int .i64 0] 182))=W0:=⟨_,rfl⟩;rw[hW0]at hbx;have HW:=γ hW0;have HB:=γ hbx;have HX:=γ hx;have he:iq (aI r):=⟨hr.key,hr.val,eX⟩;have HE:=γ he;obtain⟨⟨rp1,rp2⟩,⟨rk1,rk2⟩,⟨rv1,rv2⟩⟩:=(show aH r.pos/\aH r.key/\aH r.val from⟨hr.pos,hr.key,hr.val⟩);have c1:=zN nd.x _ (aI r) W0 (aC.pure hbx.kept hx) he;unfold eU aI at c1;dsimp only at c1;have n1:W0.cell? ⟨w.heap.size,1,none⟩=some (.int .u8 nd.kind):=ζ hbx.nB rfl;have n3:W0.cell? ⟨w.heap.size,3,none⟩=some (.int .u8 nd.x.op):=ζ hbx.nB rfl;have n4:W0.cell? ⟨w.heap.size,4,none⟩=some (.int .i64 nd.x.n):=ζ hbx.nB rfl;have n5:W0.cell? ⟨w.heap.size,5,none⟩=some (.slice p nd.x.args.length cap):=ζ hbx.nB rfl;have e0:W0.cell? ⟨w.heap.size+2,0,none⟩=some (.int .i64 r.key):=ζ hbx.eB rfl;have e1:W0.cell? ⟨w.heap.size+2,1,none⟩=some (.int .i64 r.val):=ζ hbx.eB rfl;have e2:W0.cell? ⟨w.heap.size+2,2,none⟩=some (.int .i64 0):=ζ hbx.eB rfl;clear hW0 hbx hx he hr;go_enter Tryz.func118,Tryz.ntmps118;go_wp2_with fail;rw[HW.o];clear HW;(with_reducible refine c1.mono ?_);clear c1;rintro e W1 ⟨rfl,k1⟩;have hi64:aH (dA nd.x (aI r)):=vW HX.o HE.o;obtain⟨v,hv⟩: ∃v,dA nd.x (aI r)=v:=⟨_,rfl⟩;have HV:=γ hv;rw[show(⟨r.key,r.val,0⟩:Env)=aI r from rfl,hv];rw[hv]at hi64;obtain⟨hv1,hv2⟩:=hi64;have rB:=k1.heap HB.o.rB id;have n1:=k1.cell (p:=⟨w.heap.size,1,none⟩) id n1;have r0:W1.cell? ⟨w.heap.size+1,0,none⟩=some (.int .i64 r.pos):=ζ rB rfl;have r1:W1.cell? ⟨w.heap.size+1,1,none⟩=some (.int .i64 r.key):=ζ rB rfl;have r2:W1.cell? ⟨w.heap.size+1,2,none⟩=some (.int .i64 r.val):=ζ rB rfl;have hsz:w.heap.size+1<W1.heap.size:=block_lt_of_cell r0;have K1:=γ (θ (HB.o.kept.trans k1) rB);by_cases h2:nd.kind=2
 ·have f2:=free_at rB 2
  have F:=γ (show lF w (aF nd T r).1 (.returned (.slice (some ⟨(W1.setCell ⟨w.heap.size+1,2,none⟩ (.int .i64 v)).heap.size,0,none⟩) 1 1)) ((W1.setCell ⟨w.heap.size+1,2,none⟩ (.int .i64 v)).alloc (.cells #[.int .i64 r.pos,.int .i64 r.key,.int .i64 v] 68))from by
   rw[show(aF nd T r).1=[{r with val:=v}] by unfold aF;rw[if_pos h2,HV.o]]
   exact Aa _ {r with val:=v} (K1.o.1.setCell (p:=⟨w.heap.size+1,2,none⟩) (.inr (by show w.heap.size<=w.heap.size+1;omega)) _))
  rw[h2]at n1⊢;clear rB k1 h6 h7 n3 n4 n5 e0 e1 e2;go_wp2_with fail;go_ret;simpa using F.o
 by_cases h5:nd.kind=5
 ·have f2:=free_at rB 1
  have F:=γ (show lF w (aF nd T r).1 (.returned (.slice (some ⟨(W1.setCell ⟨w.heap.size+1,1,none⟩ (.int .i64 v)).heap.size,0,none⟩) 1 1)) ((W1.setCell ⟨w.heap.size+1,1,none⟩ (.int .i64 v)).alloc (.cells #[.int .i64 r.pos,.int .i64 v,.int .i64 r.val] 68))from by
   rw[show(aF nd T r).1=[{r with key:=v}] by unfold aF;rw[if_neg h2,if_pos h5,HV.o]]
   exact Aa _ {r with key:=v} (K1.o.1.setCell (p:=⟨w.heap.size+1,1,none⟩) (.inr (by show w.heap.size<=w.heap.size+1;omega)) _))
  rw[h5]at n1⊢;clear rB k1 h6 h7 n3 n4 n5 e0 e1 e2 h2;go_wp2_with fail;go_ret;simpa using F.o
 by_cases h3:nd.kind=3
 ·have n3:=k1.cell (p:=⟨w.heap.size,3,none⟩) id n3
  have n4:=k1.cell (p:=⟨w.heap.size,4,none⟩) id n4;have n5:=k1.cell (p:=⟨w.heap.size,5,none⟩) id n5;have e0:=k1.cell (p:=⟨w.heap.size+2,0,none⟩) id e0;have e1:=k1.cell (p:=⟨w.heap.size+2,1,none⟩) id e1;have e2:=k1.cell (p:=⟨w.heap.size+2,2,none⟩) id e2;have c2:=Yc nd.x _ (aI r) W1 (aC.pure K1.o.1 HX.o) HE.o;unfold eU aI at c2;dsimp only at c2;have HS:=γ (show(aF nd T r).1=if nM nd.x (aI r)then[r]else[] by unfold aF;rw[if_neg h2,if_neg h5,if_pos h3]);rw[h3]at n1⊢;clear rB k1 h6 h7 h2 h5;go_wp2_with fail;(with_reducible refine c2.mono ?_);clear c2 n3 n4 n5 e0 e1 e2;rintro e W2 ⟨rfl,k2⟩;rw[show(⟨r.key,r.val,0⟩:Env)=aI r from rfl];have r0:=k2.cell (p:=⟨w.heap.size+1,0,none⟩) id r0;have r1:=k2.cell (p:=⟨w.heap.size+1,1,none⟩) id r1;have r2:=k2.cell (p:=⟨w.heap.size+1,2,none⟩) id r2;have hsz2:w.heap.size+1<W2.heap.size:=block_lt_of_cell r0;have K2:=γ (K1.o.1.trans k2);clear k2
  cases hb:nM nd.x (aI r)with
  |true=>
   have F:=γ (show lF w (aF nd T r).1 (.returned (.slice (some ⟨W2.heap.size,0,none⟩) 1 1)) (W2.alloc (.cells #[.int .i64 r.pos,.int .i64 r.key,.int .i64 r.val] 68))from by
    rw[HS.o,hb,if_pos rfl];exact Aa _ r K2.o)
   clear hb;go_wp2_with fail;go_ret;exact F.o
  |false=>
   have F:=γ (show lF w (aF nd T r).1 (.returned (.slice none 0 0)) W2 from by
    rw[HS.o,hb,if_neg (by decide)];exact Za _ K2.o)
   clear hb;go_wp2_with fail;go_ret;exact F.o
 by_cases h4:nd.kind=4
 ·have HS:=γ (show(aF nd T r).1=iR r (jC v) by unfold aF;rw[if_neg h2,if_neg h5,if_neg h3,if_pos h4,HV.o])
  obtain⟨N,hN⟩: ∃N,jC v=N:=⟨_,rfl⟩;have hN4:N<=4/\((N:Int)=min v 4\/(v<0/\N=0)):=(by rw[<-hN];unfold jC;omega);rw[hN]at HS;rw[h4]at n1⊢;clear rB k1 h6 h7 n3 n4 n5 e0 e1 e2 h2 h5 h3 hN;go_wp2_with fail;go_loopg [9,10] N (fun g vo vi wr=> ∃i:Nat,i<=N/\vi= .int .i64 (i:Int)/\N-i<=g/\wr.ownsRow W1.heap.size 68 3 vo i (recs ((iR r N).take i))/\ε η W1 wr)
  case atStart=>exact⟨0,by omega,rfl,by omega,World.ownsRow_nil _ _ _ _,ε.refl _ _⟩
  case round=>
   obtain⟨i,hiN,rfl,hg,hown,hkp⟩:=hrel;obtain⟨wo,rfl⟩: ∃wo:World,wo=wr:=⟨_,rfl⟩;obtain⟨oa,oc,rfl⟩:=au hown;have r0:=hkp.cell (p:=⟨w.heap.size+1,0,none⟩) id r0;have r1:=hkp.cell (p:=⟨w.heap.size+1,1,none⟩) id r1;have r2:=hkp.cell (p:=⟨w.heap.size+1,2,none⟩) id r2;have hszo:w.heap.size+1<wo.heap.size:=block_lt_of_cell r0;by_cases hlt:i<N
   ·have hi4:(i:Int)<4:=by omega
    have hiv:(i:Int)<v:=(by omega);have kA:ε η wo (wo.alloc (.cells #[.int .i64 (wrap64 (wrap64 (8*r.pos)+(i:Int))),.int .i64 r.key,.int .i64 (wrap64 (r.val+(i:Int)))] 68)):=δ.alloc _;have hr:=Reads.lit wo [.int .i64 (wrap64 (wrap64 (8*r.pos)+(i:Int))),.int .i64 r.key,.int .i64 (wrap64 (r.val+(i:Int)))] 68 3 1 rfl (by unfold maxLen;omega);obtain⟨v',n',w',b1,b2,b3,b4,-⟩:=oL (M:=[(⟨wrap64 (wrap64 (8*r.pos)+(i:Int)),r.key,wrap64 (r.val+(i:Int))⟩:Rec)]) (kA.owns hown (fun _ _ h=>h)) hr (by have:=hkp.size;have:=kA.size;omega) (by rw[υ,pY];simp;omega);have hn':n'=i+1:=(by rw[b3,υ,pY];simp;omega);subst hn';obtain⟨va,vc,rfl⟩:=au b2
    have F:=γ (θ (show w'.ownsRow W1.heap.size 68 3 (.slice va (i+1) vc) (i+1) (recs ((iR r N).take (i+1)))from by rw[VK r hlt];exact b2)
     ((hkp.trans kA).new (ε.grown (S:=fun q=>(Value.slice oa i oc).ownBlock=some q) b4 (fun k hk _=>hk)) (fun q hq hs=>by have:=(hown.lt q hs).1;omega)))
    have B1:=γ b1;have HG:=γ hg;clear b1 b2 b3 b4 hr kA hown hkp hg;go_wp2_with (at_builtin;refine wpList_append_run rfl (.tmp 54) (.tmp 67) 60 rfl (.slice oa i oc) (.slice (some ⟨wo.heap.size,0,none⟩) 1 1) _ rfl rfl B1.o ?_);go_roundg (N-(i+1))
    case rel=>exact⟨i+1,by omega,by go_num,ξ _,F.o⟩
    case measure=>have:=HG.o;omega
   ·obtain rfl:i=N:=by omega
    have hc: ¬((i:Int)<4/\(i:Int)<v):=by omega
    have F:=γ (show lF w (aF nd T r).1 (.returned (.slice oa i oc)) wo from by
     rw[HS.o];rw[χ (by rw[pY];exact ξ _)]at hown
     exact⟨_,rfl,Reads.aN hown,fun b hb=>by have:=(hown.lt b (uQ hb)).1;have:=K1.o.1.size;omega,K1.o.1.trans hkp⟩)
    clear hown hkp hg;by_cases hi4:(i:Int)<4
    ·have hiv: ¬(i:Int)<v:=fun h=>hc ⟨hi4,h⟩
     clear hc;go_wp2_with fail;go_ret;exact F.o
    ·clear hc
     go_wp2_with fail;go_ret;exact F.o
 have F:=γ (show lF w (aF nd T r).1 (.returned (.slice (some ⟨W1.heap.size,0,none⟩) 1 1)) (W1.alloc (.cells #[.int .i64 r.pos,.int .i64 r.key,.int .i64 r.val] 68))from by
  rw[show(aF nd T r).1=[r] by unfold aF;rw[if_neg h2,if_neg h5,if_neg h3,if_neg h4,if_neg h6,if_neg h7]]
  exact Aa _ r K1.o.1)
 have b2:(nd.kind==2)=false:=beq_eq_false_iff_ne.2 h2;have b3:(nd.kind==3)=false:=beq_eq_false_iff_ne.2 h3;have b4:(nd.kind==4)=false:=beq_eq_false_iff_ne.2 h4;have b5:(nd.kind==5)=false:=beq_eq_false_iff_ne.2 h5;have b6:(nd.kind==6)=false:=beq_eq_false_iff_ne.2 h6;have b7:(nd.kind==7)=false:=beq_eq_false_iff_ne.2 h7;clear rB k1 h6 h7 n3 n4 n5 e0 e1 e2 h2 h3 h4 h5;go_wp2_with fail;go_ret;exact F.o
theorem CZ {u0 u:Nat}{dn:List UInt8}(h:u0<18446744073709551616)(hd:jW u0=dn++jW u)(b:UInt8): ¬9223372036854775807<(strOf dn).size+(strOf [b]).size:=by have h1:=E8 9 u0 (Pe h (by decide));rw[hd,ν]at h1;rw[sN,sN,List.length_singleton];omega
theorem one_byte (q:Nat)(h:q<256)(wr:World):(convert 220 9 (.slice (some ⟨wr.heap.size,0,none⟩) 1 1)).run Tryz.prog (wr.alloc (.cells #[.int .u8 (q:Int)] 5))= .ok (.string (strOf [UInt8.ofNat q])) (wr.alloc (.cells #[.int .u8 (q:Int)] 5)):=by refine run_convert_bytes_back _ 220 9 5 ⟨wr.heap.size,0,none⟩ 1 [UInt8.ofNat q] Tryz.underlying220 Tryz.underlying5 Tryz.underlying9 (fun j hj=>?_);obtain rfl:j=0:=(by simpa using hj);rw[Addr.add_zero',QB h];simp
theorem one_any (n:Int)(h:aH n)(w:World):Calls Tryz.prog 152 #[.int .i64 n] w fun e w'=>e= .returned (.string (strOf (jW (je n))))/\ε η w w':=by
 unfold aH at h;by_cases h0:n<0
 ·have hu0:2* -(n+1)+1=((je n:Nat):Int):=by unfold je;rw[if_neg (by omega)];omega
  have hlt:=Ew (n:=n) h;obtain⟨u0,hu⟩: ∃u0,je n=u0:=⟨_,rfl⟩;rw[hu]at hu0 hlt⊢;have HU:=γ hu0;clear hu hu0;go_enter Tryz.func152,Tryz.ntmps152;go_wp2_with fail;rw[HU.o];clear HU;go_loopg [3,4] u0 (fun g vu vs wr=> ∃(u:Nat)(dn:List UInt8),vu= .int .u64 (u:Int)/\vs= .string (strOf dn)/\u<=g/\u<=u0/\jW u0=dn++jW u/\ε η w wr)
  case atStart=>exact⟨u0,[],rfl,rfl,ξ _,ξ _,rfl,ε.refl _ _⟩
  case round=>
   obtain⟨u,dn,rfl,rfl,AU,huu,hdig,hkp⟩:=hrel;have hub:u<18446744073709551616:=(by omega);by_cases hbig:127<u
   ·have hi1:(127:Int)<(u:Int):=by omega
    obtain⟨q,hq⟩: ∃q,u%128=q:=⟨_,rfl⟩;have eq1:(u:Int)%128=(q:Int):=(by omega);obtain⟨u2,hu2⟩: ∃u2,u/128=u2:=⟨_,rfl⟩;have es:(u:Int)/128=(u2:Int):=(by omega);have hq2:q<128:=(by omega);have A:=γ (θ AU (θ hdig (θ hq hu2)));clear AU hdig hq hu2;have hcv:=one_byte (q+128) (by omega) wr;rw[show(((q+128:Nat)):Int)=(q:Int)+128 by omega]at hcv;obtain⟨bb,hbb⟩: ∃bb,UInt8.ofNat (q+128)=bb:=⟨_,rfl⟩;rw[hbb]at hcv;have hsz:=CZ hlt (by have:=A.o.2.1;exact this) bb;have HB:=γ (θ hbb hkp);clear hbb hkp;go_wp2_with fail;go_roundg u2
    case rel=>refine⟨u2,dn++[bb],rfl,by rw[<-kP],ξ _,by have:=A.o.2.2.2;omega,?_,HB.o.2.alloc _⟩;rw[A.o.2.1,xR (by omega),A.o.2.2.1,A.o.2.2.2,HB.o.1];simp
    case measure=>have h1:=A.o.1;have h2:=A.o.2.2.2;omega
   ·have hi1: ¬(127:Int)<(u:Int):=by omega
    have hcv:=one_byte u (by omega) wr;obtain⟨bb,hbb⟩: ∃bb,UInt8.ofNat u=bb:=⟨_,rfl⟩;rw[hbb]at hcv;have F:ace (dn++[bb]=jW u0/\ε η w wr):=⟨by rw[hdig,qE (by omega),hbb],hkp⟩;have eu:(u:Int)%256=(u:Int):=(by omega);have hsz:=CZ hlt hdig bb;clear hdig hbb hkp AU;go_wp2_with fail;go_ret;exact⟨by show Ending.returned (Value.string (strOf dn++strOf [bb]))=_;rw[<-F.o.1,<-kP],F.o.2.alloc _⟩
 ·have hu0:2*n=((je n:Nat):Int):=by unfold je;rw[if_pos (by omega)];omega
  have hlt:=Ew (n:=n) h;obtain⟨u0,hu⟩: ∃u0,je n=u0:=⟨_,rfl⟩;rw[hu]at hu0 hlt⊢;have HU:=γ hu0;clear hu hu0;go_enter Tryz.func152,Tryz.ntmps152;go_wp2_with fail;rw[HU.o];clear HU;go_loopg [3,4] u0 (fun g vu vs wr=> ∃(u:Nat)(dn:List UInt8),vu= .int .u64 (u:Int)/\vs= .string (strOf dn)/\u<=g/\u<=u0/\jW u0=dn++jW u/\ε η w wr)
  case atStart=>exact⟨u0,[],rfl,rfl,ξ _,ξ _,rfl,ε.refl _ _⟩
  case round=>
   obtain⟨u,dn,rfl,rfl,AU,huu,hdig,hkp⟩:=hrel;have hub:u<18446744073709551616:=(by omega);by_cases hbig:127<u
   ·have hi1:(127:Int)<(u:Int):=by omega
    obtain⟨q,hq⟩: ∃q,u%128=q:=⟨_,rfl⟩;have eq1:(u:Int)%128=(q:Int):=(by omega);obtain⟨u2,hu2⟩: ∃u2,u/128=u2:=⟨_,rfl⟩;have es:(u:Int)/128=(u2:Int):=(by omega);have hq2:q<128:=(by omega);have A:=γ (θ AU (θ hdig (θ hq hu2)));clear AU hdig hq hu2;have hcv:=one_byte (q+128) (by omega) wr;rw[show(((q+128:Nat)):Int)=(q:Int)+128 by omega]at hcv;obtain⟨bb,hbb⟩: ∃bb,UInt8.ofNat (q+128)=bb:=⟨_,rfl⟩;rw[hbb]at hcv;have hsz:=CZ hlt (by have:=A.o.2.1;exact this) bb;have HB:=γ (θ hbb hkp);clear hbb hkp;go_wp2_with fail;go_roundg u2
    case rel=>refine⟨u2,dn++[bb],rfl,by rw[<-kP],ξ _,by have:=A.o.2.2.2;omega,?_,HB.o.2.alloc _⟩;rw[A.o.2.1,xR (by omega),A.o.2.2.1,A.o.2.2.2,HB.o.1];simp
    case measure=>have h1:=A.o.1;have h2:=A.o.2.2.2;omega
   ·have hi1: ¬(127:Int)<(u:Int):=by omega
    have hcv:=one_byte u (by omega) wr;obtain⟨bb,hbb⟩: ∃bb,UInt8.ofNat u=bb:=⟨_,rfl⟩;rw[hbb]at hcv;have F:ace (dn++[bb]=jW u0/\ε η w wr):=⟨by rw[hdig,qE (by omega),hbb],hkp⟩;have eu:(u:Int)%256=(u:Int):=(by omega);have hsz:=CZ hlt hdig bb;clear hdig hbb hkp AU;go_wp2_with fail;go_ret;exact⟨by show Ending.returned (Value.string (strOf dn++strOf [bb]))=_;rw[<-F.o.1,<-kP],F.o.2.alloc _⟩
end
section
open Go Go.RowKit
theorem Yh (v:Value)(l:List Int)(w:World)(h:Reads w 1 v (ints l))(h64: ∀n∈l,aH n)(hb:l.length<=1073741824):
 Calls Tryz.prog 120 #[v] w (Gives w (.string (strOf (dV l)))):=by
 obtain⟨a,cap,rfl,h1,h2,h3⟩:=h.at;unfold maxLen at h2;have H3:=γ h3;have JY:=γ h64;clear h h3 h64;go_enter Tryz.func120,Tryz.ntmps120;go_wp2;go_loopg [3,4] l.length (fun g vs vi wr=> ∃k:Nat,vi= .int .i64 (k:Int)/\vs= .string (strOf (dV (l.take k)))/\k<=l.length/\l.length-k<=g/\ε η w wr)
 case atStart=>exact⟨0,rfl,rfl,by omega,by omega,ε.refl _ _⟩
 case round=>
  obtain⟨k,rfl,rfl,hk,hg,hkp⟩:=hrel;by_cases hlt:k<l.length
  ·obtain⟨x,hx⟩: ∃x,l[k]?=some x:=⟨_,ι hlt⟩
   obtain⟨b0,off,rfl,hcl⟩:=H3.o.resolve_left (fun h=>by rw[h]at hx;cases hx);have q0:=hkp.cell (p:=⟨b0,off+k,none⟩) id (hcl k _ hx);have Ij:=JY.o x (ς hx);have HT:=γ (fun W=>one_any x Ij W);have F:=γ (θ hg (θ hkp (Jd hx)));obtain⟨P,hP⟩: ∃P,dV (l.take k)=P:=⟨_,rfl⟩;obtain⟨D,hD⟩: ∃D,jW (je x)=D:=⟨_,rfl⟩;have hsz: ¬9223372036854775807<(strOf P).size+(strOf D).size:=(by have e1:=uH (l:=l.take k) (fun n hn=>JY.o n (List.mem_of_mem_take hn));have e2:=Aj Ij;rw[υ]at e1;rw[sN,sN,<-hP,<-hD];omega);rw[hP];have HP:=γ (θ hP hD);clear hcl hx Ij hg hkp hP;go_wp2_with fail;refine(HT.o _).mono ?_;rintro e w2 ⟨rfl,k2⟩;rw[hD];clear hD;go_wp2_with fail;go_roundg (l.length-(k+1))
   case rel=>exact⟨k+1,by go_num,by rw[F.o.2.2,HP.o.1,HP.o.2,<-kP],by omega,ξ _,F.o.2.1.trans k2⟩
   case measure=>have:=F.o.1;omega
  ·have hkl:k=l.length:=by omega
   subst hkl;rw[χ (ξ _)];go_wp2_with fail;go_ret;exact⟨rfl,hkp⟩
end
