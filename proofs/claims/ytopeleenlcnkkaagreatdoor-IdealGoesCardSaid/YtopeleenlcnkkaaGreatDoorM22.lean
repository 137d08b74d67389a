/- job: parts, readers, Find. -/
import Derived.Test.YtopeleenlcnkkaaGreatDoorM21
import Derived.Deep.DeepHandedRow
import Derived.LaidMore
set_option linter.unusedVariables false
set_option linter.unusedSimpArgs false
set_option maxHeartbeats 1000000
set_option maxRecDepth 100000
namespace Go.Proofs.YtopeleenlcnkkaaGreatDoor
section
open Go Go.RowKit
attribute [local irreducible] bU
theorem Bj: ∀(l m:List Ex)(n:Nat),iy (l++m) n=iy m (iy l n)
 |[],m,n=>by simp[iy]
 |x::l,m,n=>by simp only[List.cons_append,iy];exact Bj l m _
theorem FY {l:List Ex}{k:Nat}{y:Ex}(h:l[k]?=some y)(n:Nat):iy (l.take (k+1)) n=Aa y (iy (l.take k) n):=by
 rw[List.take_add_one,h,Bj];simp[iy]
theorem ZK (x:Ex)(n:Nat):Aa x n=if 0<n then iy x.args (n-1)else n:=by cases x;rfl
theorem Ak (l:List Ex)(n:Nat):iy l n<=n:=by rw[EN];omega
structure sJ (w0 w:World)(B1 B2:Nat)(n:Nat):Prop where
 left:w.heap[B1]?=some (.cells #[.int .i64 (n:Int)] 3 (0,0))
 self:w.heap[B2]?=some (.cells #[.func (.func 100) #[] #[.pointer (some ⟨B1,0,none⟩), .pointer (some ⟨B2,0,none⟩)]] 171 (0,0))
 ne:B1≠B2
 b1:w0.heap.size<=B1
 kept:Kept none' w0 w
theorem sJ.alloc {w0 w:World}{B1 B2 n:Nat}(h:sJ w0 w B1 B2 n)(o:Obj):sJ w0 (w.alloc o) B1 B2 n:=
 ⟨((Kept.refl none' w).alloc o).heap h.left (fun h=>h),((Kept.refl none' w).alloc o).heap h.self (fun h=>h),h.ne,h.b1,h.kept.alloc o⟩
def aeZ (w0 w:World)(B1 B2 n:Nat)(e:Ending)(w':World):Prop:=e= .returned (.tuple #[])/\sJ w0 w' B1 B2 n
theorem O4: ∀(N:Nat)(x:Ex)(a:Array Value)(w0 w:World)(B1 B2 n:Nat),SizeOf.sizeOf x<=N->aF w0 a x->n<=1001->sJ w0 w B1 B2 n->
 Calls Tryz.prog 100 #[.agg a, .pointer (some ⟨B1,0,none⟩), .pointer (some ⟨B2,0,none⟩)] w (aeZ w0 w B1 B2 (Aa x n))
 |0,x,_,_,_,_,_,_,h,_,_,_=>by cases x;simp at h
 |N+1,x,a,w0,w,B1,B2,n,hN,h,hn,hst=>by
  obtain⟨p,cap,rfl,h0,h1,h2,h3,h4,h5⟩:=h.parts
  have sub: ∀(i:Nat)(y:Ex),x.args[i]?=some y->SizeOf.sizeOf y<=N:=by
   intro i y hy
   obtain⟨op,n,args⟩:=x
   have h1:=List.sizeOf_lt_of_mem (List.mem_of_getElem? (show args[i]?=some y from hy))
   simp at hN
   omega
  have IH:=Lib.hid (fun y a w n hy h hn hst=>O4 N y a w0 w B1 B2 n hy h hn hst)
  have SB:=Lib.hid sub
  have H5:=Lib.hid h5
  have HX:=Lib.hid (ZK x n)
  unfold maxLen at h4
  have hb1:B1<w.heap.size:=(Array.getElem?_eq_some_iff.1 hst.left).1
  have hb2:B2<w.heap.size:=(Array.getElem?_eq_some_iff.1 hst.self).1
  have c0:w.cell? ⟨B1,0,none⟩=some (.int .i64 (n:Int)):=cells_at hst.left rfl
  have f0:=free_at hst.left 0
  have S0:=Lib.hid hst
  clear h h5 sub hN hst
  go_enter Tryz.func100,Tryz.ntmps100
  by_cases hn0:0<n
  ·have hwn:wrap64 ((n:Int)-1)=((n-1:Nat):Int):=by unfold wrap64;omega
   have HY:=Lib.hid (show Aa x n=iy x.args (n-1) by rw[HX.out,if_pos hn0])
   clear HX
   go_wp2_with fail
   obtain⟨W1,hW1⟩: ∃W1,(w.setCell ⟨B1,0,none⟩ (.int .i64 ((n:Int)-1))).alloc (.cells #[.int .u8 x.op, .int .i64 x.n, .slice p x.args.length cap] 95)=W1:=⟨_,rfl⟩
   have kS:sJ w0 W1 B1 B2 (n-1):=by
    have st1:=S0.out
    rw[<-hW1]
    have e1:((n:Int)-1)=((n-1:Nat):Int):=by omega
    rw[e1]
    exact sJ.alloc ⟨by have:=aS st1.left 0 (.int .i64 ((n-1:Nat):Int));simpa using this,((Kept.refl (one B1) _).setCell (p:=⟨B1,0,none⟩) (.inl rfl) _).heap st1.self (fun e=>st1.ne e.symm),st1.ne,st1.b1,st1.kept.setCell (p:=⟨B1,0,none⟩) (.inr st1.b1) _⟩ _
   rw[hW1]
   have KS:=Lib.hid kS
   clear hW1 kS S0 c0 f0
   go_loopg [13] x.args.length (fun g vi wr=> ∃(k:Nat),k<=x.args.length/\vi= .int .i64 (k:Int)/\x.args.length-k<=g/\sJ w0 wr B1 B2 (iy (x.args.take k) (n-1)))
   case atStart=>exact⟨0,by omega,rfl,by omega,by simpa[iy]using KS.out⟩
   case round=>
    obtain⟨k,hkl,rfl,hg,hst⟩:=hrel
    by_cases hlt:k<x.args.length
    ·obtain⟨y,hy⟩: ∃y,x.args[k]?=some y:=⟨_,List.getElem?_eq_getElem hlt⟩
     obtain⟨b,off,p',cap',rfl,q0,q1,q2,hy2⟩:=H5.out k y hy
     have hkp:=hst.kept
     have r0:=hkp.cell (p:=⟨b,off+k*3,none⟩) (fun h=>h) q0
     have r1:=hkp.cell (p:=⟨b,off+k*3+1,none⟩) (fun h=>h) q1
     have r2:=hkp.cell (p:=⟨b,off+k*3+2,none⟩) (fun h=>h) q2
     have s0:wr.cell? ⟨B2,0,none⟩=some (.func (.func 100) #[] #[.pointer (some ⟨B1,0,none⟩), .pointer (some ⟨B2,0,none⟩)]):=cells_at hst.self rfl
     have hb2:B2<wr.heap.size:=(Array.getElem?_eq_some_iff.1 hst.self).1
     have G:=Lib.hid (And.intro hg (And.intro hy2 (And.intro hst (And.intro (SB.out k y hy) hy))))
     have HM:=Lib.hid (show iy (x.args.take k) (n-1)<=1001 by have:=Ak (x.args.take k) (n-1);omega)
     clear q0 q1 q2 hy hy2 hkp hg H5 hst
     go_wp2_with fail
     have c:=IH.out y _ _ _ G.out.2.2.2.1 G.out.2.1 HM.out (G.out.2.2.1.alloc (.cells #[.int .u8 y.op, .int .i64 y.n, .slice p' y.args.length cap'] 95))
     (with_reducible refine c.mono ?_)
     clear c
     rintro e w2 ⟨rfl,st2⟩
     rw[<-FY G.out.2.2.2.2]at st2
     have S2:=Lib.hid st2
     clear st2
     go_wp2_with fail
     go_roundg (x.args.length-(k+1))
     case rel=>exact⟨k+1,by omega,by go_num,Nat.le_refl _,S2.out⟩
     case measure=>have:=G.out.1;omega
    ·have S2:=Lib.hid hst
     have e1:k=x.args.length:=by omega
     subst e1
     clear hst
     go_wp2_with fail
     go_end0
     exact⟨rfl,by rw[HY.out];have:=S2.out;rwa[List.take_length]at this⟩
  ·have F:=Lib.hid (show Aa x n=n by rw[HX.out,if_neg hn0])
   clear HX
   go_wp2_with fail
   go_end0
   exact⟨rfl,by rw[F.out];exact S0.out.alloc _⟩
def gI (w:World)(a:Array Value)(j:Jb):Prop:= ∃v,a= #[.int .i64 j.par,v]/\dV w v j.nodes/\aK j.par
theorem gI.pure {w w':World}(hk:Kept none' w w'){a:Array Value}{j:Jb}(h:gI w a j):gI w' a j:=by
 obtain⟨v,h1,h2,h3⟩:=h
 exact⟨v,h1,h2.pure hk,h3⟩
theorem TR (j:Jb)(a:Array Value)(w:World)(h:gI w a j):Calls Tryz.prog 65 #[.agg a] w (Gives w (.int .i64 ((1001-iy (j.nodes.map (·.x)) 1001:Nat):Int))):=by
 obtain⟨v,rfl,hn,hp⟩:=h
 obtain⟨na,cap,rfl,h1,h2,h3⟩:=hn.at
 unfold maxLen at h2
 have H3:=Lib.hid h3
 clear h3 hn hp
 go_enter Tryz.func65,Tryz.ntmps65
 go_wp2_with fail
 obtain⟨W0,hW0⟩: ∃W0,(((w.alloc (.cells #[.int .i64 j.par, .slice na j.nodes.length cap] 24)).alloc (.cells #[.int .i64 1001] 3)).alloc (.cells #[.func (.func 100) #[] #[.pointer (some ⟨w.heap.size+1,0,none⟩), .pointer (some ⟨w.heap.size+1+1,0,none⟩)]] 171))=W0:=⟨_,rfl⟩
 have st0:sJ w W0 (w.heap.size+1) (w.heap.size+1+1) 1001:=by
  rw[<-hW0]
  refine⟨?_,?_,by omega,by omega,((Kept.refl _ _).alloc _).alloc _|>.alloc _⟩
  ·rw[Below.heap_alloc _ _ _ (by simp)]
   have:=heap_alloc_new (w.alloc (.cells #[.int .i64 j.par, .slice na j.nodes.length cap] 24)) (.cells #[.int .i64 1001] 3)
   rwa[World.size_alloc]at this
  ·have:=heap_alloc_new ((w.alloc (.cells #[.int .i64 j.par, .slice na j.nodes.length cap] 24)).alloc (.cells #[.int .i64 1001] 3)) (.cells #[.func (.func 100) #[] #[.pointer (some ⟨w.heap.size+1,0,none⟩), .pointer (some ⟨w.heap.size+1+1,0,none⟩)]] 171)
   rwa[World.size_alloc,World.size_alloc]at this
 rw[hW0]
 have ST:=Lib.hid st0
 clear hW0 st0
 go_loopg [11] j.nodes.length (fun g vi wr=> ∃(k:Nat),k<=j.nodes.length/\vi= .int .i64 (k:Int)/\j.nodes.length-k<=g/\sJ w wr (w.heap.size+1) (w.heap.size+1+1) (iy ((j.nodes.map (·.x)).take k) 1001))
 case atStart=>exact⟨0,by omega,rfl,by omega,by simpa[iy]using ST.out⟩
 case round=>
  obtain⟨k,hkl,rfl,hg,hst⟩:=hrel
  by_cases hlt:k<j.nodes.length
  ·obtain⟨d,hd⟩: ∃d,j.nodes[k]?=some d:=⟨_,List.getElem?_eq_getElem hlt⟩
   obtain⟨b,off,pi,ci,p,cap',rfl,hc,hj⟩:=H3.out k d hd
   have hc':=hc.kept hst.kept (fun h=>h)
   obtain⟨c0,c1,c2,c3,c4,c5,c6⟩:=hc'
   have s0:wr.cell? ⟨w.heap.size+1+1,0,none⟩=some (.func (.func 100) #[] #[.pointer (some ⟨w.heap.size+1,0,none⟩), .pointer (some ⟨w.heap.size+1+1,0,none⟩)]):=cells_at hst.self rfl
   have hb2:w.heap.size+1+1<wr.heap.size:=(Array.getElem?_eq_some_iff.1 hst.self).1
   have hx:aF w #[.int .u8 d.x.op, .int .i64 d.x.n, .slice p d.x.args.length cap'] d.x:=by
    obtain⟨_,_,_,_,e,hx,_⟩:=hj
    injection e with e
    simp only[List.cons.injEq,and_true,true_and]at e
    obtain⟨e1,e2⟩:=e
    rw[e2];exact hx
   have hxk:(j.nodes.map (·.x))[k]?=some d.x:=by rw[List.getElem?_map,hd];rfl
   have G:=Lib.hid (And.intro hg (And.intro hx (And.intro hst hxk)))
   have HM:=Lib.hid (Ak ((j.nodes.map (·.x)).take k) 1001)
   clear hd hj hc hg hst hx hxk H3
   go_wp2_with fail
   have c:=O4 _ d.x _ _ _ _ _ _ (Nat.le_refl _) G.out.2.1 HM.out (G.out.2.2.1.alloc (.cells (bF d pi ci p cap') 97))
   (with_reducible refine c.mono ?_)
   clear c
   rintro e w2 ⟨rfl,st2⟩
   rw[<-FY G.out.2.2.2]at st2
   have S2:=Lib.hid st2
   clear st2
   go_wp2_with fail
   go_roundg (j.nodes.length-(k+1))
   case rel=>exact⟨k+1,by omega,by go_num,Nat.le_refl _,S2.out⟩
   case measure=>have:=G.out.1;omega
  ·have e1:k=j.nodes.length:=by omega
   subst e1
   have l0:wr.cell? ⟨w.heap.size+1,0,none⟩=some (.int .i64 ((iy ((j.nodes.map (·.x)).take j.nodes.length) 1001:Nat):Int)):=cells_at hst.left rfl
   have hle:=Ak (j.nodes.map (·.x)) 1001
   have el:(j.nodes.map (·.x)).take j.nodes.length=j.nodes.map (·.x):=List.take_of_length_le (by simp)
   rw[el]at l0
   have K:=Lib.hid hst.kept
   clear hst el
   obtain⟨m,hm⟩: ∃m,iy (j.nodes.map (·.x)) 1001=m:=⟨_,rfl⟩
   rw[hm]at l0 hle
   have HM:=Lib.hid hm
   clear hm
   go_wp2_with fail
   go_ret
   exact⟨fG (by rw[HM.out];omega),K.out⟩
theorem La: ∃i,Tryz.prog.info? 3=some i/\i.zero=some (.int .i64 0)/\i.size=1/\i.bytes=8:=by
 have h:(Tryz.prog.info? 3).map (fun i=>(i.zero,i.size,i.bytes))=some (some (.int .i64 0),1,8):=by kernel_rfl
 obtain⟨i,h1,h2⟩:=Option.map_eq_some_iff.1 h
 injection h2 with h2 h3
 injection h3 with h3 h4
 exact⟨i,h1,h2,h3,h4⟩
theorem Xj: ∃i,Tryz.prog.info? 9=some i/\i.zero=some (.string ByteArray.empty)/\i.size=1/\i.bytes=16:=by
 have h:(Tryz.prog.info? 9).map (fun i=>(i.zero,i.size,i.bytes))=some (some (.string ByteArray.empty),1,16):=by kernel_rfl
 obtain⟨i,h1,h2⟩:=Option.map_eq_some_iff.1 h
 injection h2 with h2 h3
 injection h3 with h3 h4
 exact⟨i,h1,h2,h3,h4⟩
theorem WJ {T E bytes:Nat}{z x:Value}{i:TypeInfo}(hT:Tryz.prog.underlying T=some (.slice E))(hi:Tryz.prog.info? E=some i)(hz:i.zero=some z)(hs:i.size=1)(hb:i.bytes=bytes)(hzc:z.cells.size=1)(hx:x.oneCell'=true)
 {wr:World} {base m:Nat} {v:Value} {xs:List Value} (hown:wr.ownsRow base E 1 v m xs) (hm:m<=100000) (hbb:bytes<=1000) (hbase:base<=wr.heap.size) (ty:TypeId):
 ∃v' w',(Builtin.append_ #[T,T] ty #[v, .slice (some ⟨wr.heap.size,0,none⟩) 1 1]).run Tryz.prog (wr.alloc (.cells #[x] E))= .ok v' w'/\w'.ownsRow base E 1 v' (m+1) (xs++[x])/\Kept (fun k=>base<=k) wr w':=by
 have kA:Kept none' wr (wr.alloc (.cells #[x] E)):=(Kept.refl _ _).alloc _
 have hr:=Reads.lit wr [x] E 1 1 rfl (by unfold maxLen;omega)
 obtain⟨v',n',w',b1,b2,b3,b4,_⟩:=bM (P:=Tryz.prog) base T ty E i z 1 bytes hT hi hz hs hb hzc (by omega) (kA.owns hown (fun _ _ h=>h)) hr (by intro y hy;rw[List.mem_singleton.1 hy];exact hx)
  (by
    simp only[List.length_singleton,Nat.mul_one]
    calc(m+1)*bytes<=100001*1000:=Nat.mul_le_mul (by omega) hbb
     _<=140737488355328:=by decide) (by simp;unfold maxLen;omega) (by have:=kA.size;omega)
 have hn:n'=m+1:=by simpa using b3
 subst hn
 exact⟨v',w',b1,b2,kA.pure.trans (Kept.grown b4 (fun k hk _=>(eU hown hk).1))⟩
def fD (nodes:List JN)(i:Nat)(k:Nat):List Int:=((List.range k).filter fun m=>decide ((i:Int)∈(nodes.getD m default).ins)).map fun(m:Nat)=>(m:Int)
theorem tY {nodes:List JN}{i k:Nat}{d:JN}(hd:nodes[k]?=some d):fD nodes i (k+1)=fD nodes i k++if(i:Int)∈d.ins then[(k:Int)]else[]:=by
 unfold fD
 rw[List.range_succ,List.filter_append,List.map_append]
 congr 1
 have e:nodes.getD k default=d:=by rw[List.getD_eq_getElem?_getD,hd];rfl
 by_cases h:(i:Int)∈d.ins
 ·have e2:decide ((i:Int)∈(nodes.getD k default).ins)=true:=by rw[e];exact decide_eq_true h
  rw[List.filter_cons,if_pos e2,if_pos h];rfl
 ·have e2: ¬(decide ((i:Int)∈(nodes.getD k default).ins)=true):=by rw[e];simpa using h
  rw[List.filter_cons,if_neg e2,if_neg h];rfl
theorem vX (nodes:List JN)(i:Nat): ∀k,k<=nodes.length->(fD nodes i k).length=(nodes.take k).countP fun d=>d.ins.contains (i:Int)
 |0,_=>rfl
 |k+1,hk=>by
  have hd:nodes[k]?=some nodes[k]:=List.getElem?_eq_getElem (by omega)
  rw[tY hd,List.length_append,vX nodes i k (by omega),List.take_add_one,hd,List.countP_append]
  congr 1
  by_cases h:(i:Int)∈(nodes[k]).ins
  ·simp[h]
  ·simp[h]
theorem Ny (nodes:List JN)(i k:Nat):(fD nodes i k).length<=k:=by
 unfold fD
 rw[List.length_map]
 exact Nat.le_trans (List.length_filter_le _ _) (by simp)
def Yk (w:World)(n:Nat)(e:Ending)(w':World):Prop:= ∃a cap,e= .returned (.slice a n cap)/\Kept none' w w'
theorem wM (j:Jb)(a:Array Value)(i:Nat)(w:World)(h:gI w a j)(aeG:j.nodes.length<=1000):Calls Tryz.prog 68 #[.agg a, .int .i64 (i:Int)] w (Yk w (ny j.nodes i)):=by
 obtain⟨v,rfl,hn,hp⟩:=h
 obtain⟨na,cap,rfl,h1,h2,h3⟩:=hn.at
 unfold maxLen at h2
 have H3:=Lib.hid h3
 clear h3 hn hp
 go_enter Tryz.func68,Tryz.ntmps68
 go_wp2_with fail
 obtain⟨W0,hW0⟩: ∃W0,(w.alloc (.cells #[.int .i64 j.par, .slice na j.nodes.length cap] 24))=W0:=⟨_,rfl⟩
 have k0:Kept none' w W0:=by rw[<-hW0];exact(Kept.refl _ _).alloc _
 rw[hW0]
 have K0:=Lib.hid k0
 clear hW0 k0
 go_loopg [5,11] j.nodes.length (fun g vo vi wr=> ∃(k:Nat),k<=j.nodes.length/\vi= .int .i64 (k:Int)/\j.nodes.length-k<=g/\wr.ownsRow w.heap.size 3 1 vo (fD j.nodes i k).length (ints (fD j.nodes i k))/\Kept none' w wr)
 case atStart=>exact⟨0,by omega,rfl,by omega,World.ownsRow_nil _ _ _ _,K0.out⟩
 case round=>
  obtain⟨k,hkl,rfl,hg,hown,hkp⟩:=hrel
  obtain⟨oa,oc,rfl⟩:=ay hown
  by_cases hlt:k<j.nodes.length
  ·obtain⟨d,hd⟩: ∃d,j.nodes[k]?=some d:=⟨_,List.getElem?_eq_getElem hlt⟩
   obtain⟨b,off,pi,ci,p,cap',rfl,hc,hj⟩:=H3.out k d hd
   obtain⟨c0,c1,c2,c3,c4,c5,c6⟩:=hc.kept hkp (fun h=>h)
   have hin:Reads w 1 (.slice pi d.ins.length ci) (ints d.ins):=by
    obtain⟨_,_,_,_,e,_,hx,_⟩:=hj
    injection e with e
    simp only[List.cons.injEq,and_true,true_and]at e
    obtain⟨e1,e2⟩:=e
    rw[e1];exact hx
   have kA:Kept none' wr (wr.alloc (.cells (bF d pi ci p cap') 97)):=(Kept.refl _ _).alloc _
   have cc:=yX _ d.ins (i:Int) _ (hin.pure (hkp.trans kA))
   have hsz:=Lib.hid hkp.size
   have G:=Lib.hid (And.intro hg (And.intro hown (And.intro (hkp.trans kA) (And.intro hd kA))))
   clear hd hj hc hg hown hkp hin H3
   by_cases hm:(i:Int)∈d.ins
   ·have e1:decide ((i:Int)∈d.ins)=true:=decide_eq_true hm
    rw[e1]at cc
    have E1:=Lib.hid (tY (i:=i) G.out.2.2.2.1)
    rw[if_pos hm]at E1
    obtain⟨ti,hi3,hz3,hs3,hb3⟩:=La
    have hle:=Ny j.nodes i k
    obtain⟨v',w',b1,b2,b3⟩:=WJ (x:= .int .i64 (k:Int)) (bytes:=8) Tryz.underlying92 hi3 hz3 hs3 hb3 rfl rfl (kA.owns G.out.2.1 (fun _ _ h=>h)) (by omega) (by omega) (Nat.le_trans hsz.out kA.size) 45
    have hnew:w'.ownsRow w.heap.size 3 1 v' (fD j.nodes i (k+1)).length (ints (fD j.nodes i (k+1))):=by
     rw[E1.out,List.length_append]
     unfold ints at b2⊢
     rw[List.map_append]
     exact b2
    have F:=Lib.hid (And.intro hnew (G.out.2.2.1.new b3 (fun i hi h=>by omega)))
    rw[World.size_alloc]at b1
    have B1:=Lib.hid b1
    clear b1 b2 b3 hnew hi3 hz3 hs3 hb3 kA hm e1
    go_wp2_with (first|(go_at_call 109;refine cc.mono ?_;rintro e w' ⟨rfl,rfl⟩)|(at_builtin;refine wpList_append_run rfl (.tmp 20) (.tmp 22) 92 rfl (.slice oa (fD j.nodes i k).length oc) (.slice (some ⟨wr.heap.size+1,0,none⟩) 1 1) v' rfl rfl B1.out ?_))
    go_roundg (j.nodes.length-(k+1))
    case rel=>exact⟨k+1,by omega,by go_num,Nat.le_refl _,F.out⟩
    case measure=>have:=G.out.1;omega
   ·have e1:decide ((i:Int)∈d.ins)=false:=decide_eq_false hm
    rw[e1]at cc
    have E1:=tY (i:=i) G.out.2.2.2.1
    rw[if_neg hm,List.append_nil]at E1
    have F:=Lib.hid (show(wr.alloc (.cells (bF d pi ci p cap') 97)).ownsRow w.heap.size 3 1 (.slice oa (fD j.nodes i k).length oc) (fD j.nodes i (k+1)).length (ints (fD j.nodes i (k+1))) by rw[E1];exact kA.owns G.out.2.1 (fun _ _ h=>h))
    clear kA hm e1 E1
    go_wp2_with (go_at_call 109;refine cc.mono ?_;rintro e w' ⟨rfl,rfl⟩)
    go_roundg (j.nodes.length-(k+1))
    case rel=>exact⟨k+1,by omega,by go_num,Nat.le_refl _,F.out,G.out.2.2.1⟩
    case measure=>have:=G.out.1;omega
  ·have e1:k=j.nodes.length:=by omega
   subst e1
   have hF:(fD j.nodes i j.nodes.length).length=ny j.nodes i:=by rw[vX _ _ _ (Nat.le_refl _),List.take_length];rfl
   rw[hF]
   clear hF
   have HK:=Lib.hid hkp
   clear hkp hown
   go_wp2_with fail
   go_ret
   exact⟨oa,oc,rfl,HK.out⟩
end
section
open Go Go.RowKit Go.ChangeShapes Go.WideShapes Go.ChangeAt Go.Deep
section
variable {H:Type} {enc:TypeId×Value->H} {w:World}
theorem Qg {fuel:Nat}{cs:List Value}{x:DataW H×List MemPlace}(h:DataW.trod enc Tryz.prog w 0 (fun _=>true) true fuel 97 cs=some x): ∃d:JN,mV w cs.toArray d:=by
 obtain⟨xs,n,rfl,_,hl,hxl,hf⟩:=DataW.trod_struct Tryz.underlying97 h
 rw[show Tryz.prog.cellsOf 97=7 by kernel_rfl]at hl
 match cs,hl with
 |[c0,c1,c2,c3,c4,c5,c6],_=>
  have g0:DataW.trod enc Tryz.prog w 0 (fun _=>true) true n 9 ([c0,c1,c2,c3,c4,c5,c6].drop 0|>.take (Tryz.prog.cellsOf 9))=xs[0]?:=hf 0 _ rfl
  have g1:DataW.trod enc Tryz.prog w 0 (fun _=>true) true n 5 ([c0,c1,c2,c3,c4,c5,c6].drop 1|>.take (Tryz.prog.cellsOf 5))=xs[1]?:=hf 1 _ rfl
  have g2:DataW.trod enc Tryz.prog w 0 (fun _=>true) true n 92 ([c0,c1,c2,c3,c4,c5,c6].drop 2|>.take (Tryz.prog.cellsOf 92))=xs[2]?:=hf 2 _ rfl
  have g3:DataW.trod enc Tryz.prog w 0 (fun _=>true) true n 95 ([c0,c1,c2,c3,c4,c5,c6].drop 3|>.take (Tryz.prog.cellsOf 95))=xs[3]?:=hf 3 _ rfl
  have g4:DataW.trod enc Tryz.prog w 0 (fun _=>true) true n 3 ([c0,c1,c2,c3,c4,c5,c6].drop 6|>.take (Tryz.prog.cellsOf 3))=xs[4]?:=hf 4 _ rfl
  rw[show Tryz.prog.cellsOf 9=1 by kernel_rfl]at g0
  rw[show Tryz.prog.cellsOf 5=1 by kernel_rfl]at g1
  rw[show Tryz.prog.cellsOf 92=1 by kernel_rfl]at g2
  rw[show Tryz.prog.cellsOf 95=3 by kernel_rfl]at g3
  rw[show Tryz.prog.cellsOf 3=1 by kernel_rfl]at g4
  simp only[List.drop_succ_cons,List.drop_zero,List.take_succ_cons,List.take_zero]at g0 g1 g2 g3 g4
  match xs,hxl with
  |[x0,x1,x2,x3,x4],_=>
   obtain⟨s,hs,_,hsz⟩:=DataW.trod_string Tryz.underlying9 g0
   obtain⟨z1,hz1,_,hw1⟩:=DataW.trod_int Tryz.underlying5 g1
   obtain⟨z4,hz4,_,hw4⟩:=DataW.trod_int Tryz.underlying3 g4
   injection hs with hs _
   injection hz1 with hz1 _
   injection hz4 with hz4 _
   subst hs hz1 hz4
   obtain⟨ai,ni,ci,rfl⟩: ∃a n cap,c2= .slice a n cap:=by
    rcases DataW.trod_slice Tryz.underlying92 g2 with⟨h,_⟩|⟨a,len,cap,_,_,_,_,h,_⟩
    ·injection h with h _;exact⟨_,_,_,h⟩
    ·injection h with h _;exact⟨_,_,_,h⟩
   obtain⟨l,rfl,hr,h64⟩:=TT Tryz.underlying92 Tryz.underlying3 (by kernel_rfl) g2
   obtain⟨ex,hex⟩:=TV n _ _ g3
   obtain⟨p,cap,he,_⟩:=hex.parts
   have he':[c3,c4,c5].toArray= #[.int .u8 ex.op, .int .i64 ex.n, .slice p ex.args.length cap]:=he
   injection he' with he'
   injection he' with e3 he'
   injection he' with e4 he'
   injection he' with e5 he'
   subst e3 e4 e5
   exact⟨⟨s,z1,l,ex,z4⟩,_,_,p,cap,rfl,hex,hr,h64,(yg hw1).1,(yg hw1).2, .wu hw4,hsz⟩
theorem BI {fuel:Nat}{cs:List Value}{x:DataW H×List MemPlace}(h:DataW.trod enc Tryz.prog w 0 (fun _=>true) true fuel 24 cs=some x): ∃j:Jb,gI w cs.toArray j:=by
 obtain⟨xs,n,rfl,_,hl,hxl,hf⟩:=DataW.trod_struct Tryz.underlying24 h
 rw[show Tryz.prog.cellsOf 24=2 by kernel_rfl]at hl
 match cs,hl with
 |[c0,c1],_=>
  have g0:DataW.trod enc Tryz.prog w 0 (fun _=>true) true n 3 ([c0,c1].drop 0|>.take (Tryz.prog.cellsOf 3))=xs[0]?:=hf 0 _ rfl
  have g1:DataW.trod enc Tryz.prog w 0 (fun _=>true) true n 22 ([c0,c1].drop 1|>.take (Tryz.prog.cellsOf 22))=xs[1]?:=hf 1 _ rfl
  rw[show Tryz.prog.cellsOf 3=1 by kernel_rfl]at g0
  rw[show Tryz.prog.cellsOf 22=1 by kernel_rfl]at g1
  simp only[List.drop_succ_cons,List.drop_zero,List.take_succ_cons,List.take_zero]at g0 g1
  match xs,hxl with
  |[x0,x1],_=>
   obtain⟨z0,hz0,_,hw0⟩:=DataW.trod_int Tryz.underlying3 g0
   injection hz0 with hz0 _
   subst hz0
   obtain⟨a,ln,cap,rfl⟩: ∃a n cap,c1= .slice a n cap:=by
    rcases DataW.trod_slice Tryz.underlying22 g1 with⟨h,_⟩|⟨a,len,cap,_,_,_,_,h,_⟩
    ·injection h with h _;exact⟨_,_,_,h⟩
    ·injection h with h _;exact⟨_,_,_,h⟩
   obtain⟨ks,hl,hr,hel⟩:=uw (k:=7) Tryz.underlying22 (by kernel_rfl) (by omega) g1
   have each: ∀i,i<ln-> ∃d:JN,mV w ((ks.drop (i*7)).take 7).toArray d:=fun i hi=>by
    obtain⟨m,y,hy⟩:=hel i hi
    exact Qg hy
   obtain⟨O,hO⟩:=choose_lt each
   refine⟨⟨z0,(List.range ln).map O⟩,_,rfl,⟨ks,hr,by simpa using hl,fun i d hd=>?_⟩, .wu hw0⟩
   rw[List.getElem?_map]at hd
   obtain⟨i',hi',rfl⟩:=Option.map_eq_some_iff.1 hd
   obtain⟨hlt,rfl⟩:=List.getElem?_eq_some_iff.1 hi'
   simp only[List.length_range]at hlt
   simpa using hO i hlt
theorem TU {fuel:Nat}{v:Value}{x:DataW H×List MemPlace}(h:DataW.trod enc Tryz.prog w 0 (fun _=>true) true fuel 3 [v]=some x): ∃z:Int,v= .int .i64 z/\aK z:=by
 obtain⟨z,hz,_,hw⟩:=DataW.trod_int Tryz.underlying3 h
 injection hz with hz _
 exact⟨z,hz, .wu hw⟩
end
theorem AU {F:Nat}{fn:Func}{s:ChangeSpec}{laid:List (String×DataW Unit)}(hf:Tryz.prog.funcs[F]?=some fn)(hv:s.vars=[])(hvt:s.plain.varTypes Tryz.prog=[])(hr:fn.resultTypes= #[4])(hp:readB fn.params.toList=true)(hi:Tryz.prog.inits.idxOf? F=none)
 (hs: ∀(H:Type)(ds:List (DataW H)),ds.length=fn.params.toList.length->s.fn H ds={results:=[.lit (.bool true)],args:=ds})
 (walk: ∀(H:Type)(enc:TypeId×Value->H)(W:World)(base:Nat)(args:Array Value)(ds:List (DataW H))(p:List MemPlace),
   DataW.TrodAll enc Tryz.prog W 0 (fun _=>true) true fn.params.toList args.toList ds p->(∀(j:Nat) t v,fn.params[j]?=some t->args[j]?=some v->Value.okWide Tryz.prog W .any base t v)->
   W.noneFrozen p->(DataW.weightsEach Tryz.prog fn.params.toList ds).all (· <=reachBytes)=true->W.ShapedOpen Tryz.prog->Calls Tryz.prog F args W (Gives W (.bool true)))
 (os:Os) (started:os.Started) (H:Type) (enc:TypeId×Value->H)
 (witness: ∃(w:World)(tape:Tape)(i:Input),w.os=os/\(w.forCall tape i).Shaped Tryz.prog/\i.vars=[]/\Input.okWide Tryz.prog (w.forCall tape i) .any w.heap.size F i/\
   (OpenSpec.ofChange s).preRow enc Tryz.prog fn [] false laid (w.forCall tape i).memory i.args/\({}:Assume).holds Tryz.prog (lone (Frame.enter Tryz.prog F i.args .normal) [] (w.forCall tape i))):
 ReturnsInHanded {} Tryz.checked os F .any ((OpenSpec.ofChange s).preRow enc Tryz.prog fn [] false laid) (s.post enc Tryz.prog fn false true false false):=by
 refine returnsInHanded_of_row (C:=Tryz.checked) (s:=OpenSpec.ofChange s) (F:=fun _ _ _=>0) own started hi hf witness ?_
 intro W base args ds gs before hval hW hcnd _ hsz _ hsh _
 have hW':=hW
 obtain⟨p,q,hA,hV,rfl,hfz,hnd⟩:=hW
 have hv':(OpenSpec.ofChange s).vars=[]:=hv
 rw[hv']at hV
 obtain⟨rfl,rfl⟩:=trodVars_none hV
 have hA':DataW.TrodAll enc Tryz.prog W 0 (fun _=>true) true fn.params.toList args.toList ds p:=hA
 have hsz':(DataW.weightsEach Tryz.prog fn.params.toList ds).all (· <=reachBytes)=true:=by
  have h1:(DataW.weightsEach Tryz.prog (fn.params.toList++s.plain.varTypes Tryz.prog) (ds++[])).all (· <=reachBytes)=true:=hsz
  rw[hvt,List.append_nil,List.append_nil]at h1
  exact h1
 refine(walk H enc W base args ds p hA' hval (fun b o h=>hfz b o (List.mem_append_left _ h)) hsz' hsh).mono fun e W' ⟨he,k⟩=>?_
 subst he
 have bel:=k.below
 obtain⟨ps',abA⟩:=Vz bel fn.params.toList hp hA'
 have hlen:ds.length=fn.params.toList.length:=(trodAll_length hA').2
 have hfn:=hs H (ds++[]) (by rw[List.append_nil];exact hlen)
 refine⟨_,rfl,ds,[],_,[],ps',[],hW',?_,?_,?_,bel.frame _,fun h=>by cases h⟩
 ·rw[hr];show DataW.TrodAll _ _ _ _ _ _ _ _ (s.fn H (ds++[])).results _;rw[hfn];exact trodAll_mk1 (shut_bool Tryz.underlying4 _)
 ·show DataW.TrodAll _ _ _ _ _ _ _ _ (s.fn H (ds++[])).args _;rw[hfn,List.append_nil];exact abA
 ·have e1:((OpenSpec.ofChange s).at fun _ _ _=>0).vars=[]:=hv
  have e2:(((OpenSpec.ofChange s).at fun _ _ _=>0).fn H (ds++[]))={results:=[.lit (.bool true)],args:=ds++[]}:=hfn
  rw[e2,e1];rfl
theorem FN (w:World)(h:w.ShapedOpen Tryz.prog): ∃m,w.cell? ⟨0,0,none⟩=some (.int .i64 m):=
 cell_of_shapedOpen_int (t:=3) (zero:= #[.int .i64 0]) h (of_decide_eq_true (by kernel_rfl)) (by kernel_rfl) rfl (by kernel_rfl) (by kernel_rfl) Tryz.underlying3
end
end Go.Proofs.YtopeleenlcnkkaaGreatDoor
