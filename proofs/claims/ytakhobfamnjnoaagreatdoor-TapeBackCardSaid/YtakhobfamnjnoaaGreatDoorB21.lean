/- job: parts, readers, Find. -/
import Derived.Test.YtakhobfamnjnoaaGreatDoorB20
set_option linter.unusedVariables false
set_option linter.unusedSimpArgs false
set_option maxHeartbeats 1000000
set_option maxRecDepth 100000
namespace Go.Proofs.YtakhobfamnjnoaaGreatDoor
open Go Go.RowKit
attribute [local irreducible] jm
theorem CU: ∀(l m:List Ex)(n:Nat),fD (l++m) n=fD m (fD l n)
 |[],m,n=>by simp[fD]
 |x::l,m,n=>by simp only[List.cons_append,fD];exact CU l m _
theorem JF {l:List Ex}{k:Nat}{y:Ex}(h:l[k]?=some y)(n:Nat):fD (l.take (k+1)) n=Bc y (fD (l.take k) n):=by
 rw[List.take_add_one,h,CU];simp[fD]
theorem aaF (x:Ex)(n:Nat):Bc x n=if 0<n then fD x.args (n-1)else n:=by cases x;rfl
theorem BX (l:List Ex)(n:Nat):fD l n<=n:=by rw[qW];omega
structure rJ (w0 w:World)(B1 B2:Nat)(n:Nat):Prop where
 left:w.heap[B1]?=some (.cells #[.int .i64 (n:Int)] 3 (0,0))
 self:w.heap[B2]?=some (.cells #[.func (.func 97) #[] #[.pointer (some ⟨B1,0,none⟩), .pointer (some ⟨B2,0,none⟩)]] 158 (0,0))
 ne:B1≠B2
 b1:w0.heap.size<=B1
 kept:Kept none' w0 w
theorem rJ.alloc {w0 w:World}{B1 B2 n:Nat}(h:rJ w0 w B1 B2 n)(o:Obj):rJ w0 (w.alloc o) B1 B2 n:=
 ⟨((Kept.refl none' w).alloc o).heap h.left (fun h=>h),((Kept.refl none' w).alloc o).heap h.self (fun h=>h),h.ne,h.b1,h.kept.alloc o⟩
def aeX (w0 w:World)(B1 B2 n:Nat)(e:Ending)(w':World):Prop:=e= .returned (.tuple #[])/\rJ w0 w' B1 B2 n
theorem QT: ∀(N:Nat)(x:Ex)(a:Array Value)(w0 w:World)(B1 B2 n:Nat),SizeOf.sizeOf x<=N->bP w0 a x->n<=1001->rJ w0 w B1 B2 n->
 Calls Tryz.prog 97 #[.agg a, .pointer (some ⟨B1,0,none⟩), .pointer (some ⟨B2,0,none⟩)] w (aeX w0 w B1 B2 (Bc x n))
 |0,x,_,_,_,_,_,_,h,_,_,_=>by cases x;simp at h
 |N+1,x,a,w0,w,B1,B2,n,hN,h,hn,hst=>by
  obtain⟨p,cap,rfl,h0,h1,h2,h3,h4,h5⟩:=h.parts
  have sub: ∀(i:Nat)(y:Ex),x.args[i]?=some y->SizeOf.sizeOf y<=N:=by
   intro i y hy
   obtain⟨op,n,args⟩:=x
   have h1:=List.sizeOf_lt_of_mem (List.mem_of_getElem? (show args[i]?=some y from hy))
   simp at hN
   omega
  have IH:=Lib.hid (fun y a w n hy h hn hst=>QT N y a w0 w B1 B2 n hy h hn hst)
  have SB:=Lib.hid sub
  have H5:=Lib.hid h5
  have HX:=Lib.hid (aaF x n)
  unfold maxLen at h4
  have hb1:B1<w.heap.size:=(Array.getElem?_eq_some_iff.1 hst.left).1
  have hb2:B2<w.heap.size:=(Array.getElem?_eq_some_iff.1 hst.self).1
  have c0:w.cell? ⟨B1,0,none⟩=some (.int .i64 (n:Int)):=cells_at hst.left rfl
  have f0:=free_at hst.left 0
  have S0:=Lib.hid hst
  clear h h5 sub hN hst
  go_enter Tryz.func97,Tryz.ntmps97
  by_cases hn0:0<n
  ·have hwn:wrap64 ((n:Int)-1)=((n-1:Nat):Int):=by unfold wrap64;omega
   have HY:=Lib.hid (show Bc x n=fD x.args (n-1) by rw[HX.out,if_pos hn0])
   clear HX
   go_wp2_with fail
   obtain⟨W1,hW1⟩: ∃W1,(w.setCell ⟨B1,0,none⟩ (.int .i64 ((n:Int)-1))).alloc (.cells #[.int .u8 x.op, .int .i64 x.n, .slice p x.args.length cap] 77)=W1:=⟨_,rfl⟩
   have kS:rJ w0 W1 B1 B2 (n-1):=by
    have st1:=S0.out
    rw[<-hW1]
    have e1:((n:Int)-1)=((n-1:Nat):Int):=by omega
    rw[e1]
    exact rJ.alloc ⟨by have:=uF st1.left 0 (.int .i64 ((n-1:Nat):Int));simpa using this,((Kept.refl (one B1) _).setCell (p:=⟨B1,0,none⟩) (.inl rfl) _).heap st1.self (fun e=>st1.ne e.symm),st1.ne,st1.b1,st1.kept.setCell (p:=⟨B1,0,none⟩) (.inr st1.b1) _⟩ _
   rw[hW1]
   have KS:=Lib.hid kS
   clear hW1 kS S0 c0 f0
   go_loopg [13] x.args.length (fun g vi wr=> ∃(k:Nat),k<=x.args.length/\vi= .int .i64 (k:Int)/\x.args.length-k<=g/\rJ w0 wr B1 B2 (fD (x.args.take k) (n-1)))
   case atStart=>exact⟨0,by omega,rfl,by omega,by simpa[fD]using KS.out⟩
   case round=>
    obtain⟨k,hkl,rfl,hg,hst⟩:=hrel
    by_cases hlt:k<x.args.length
    ·obtain⟨y,hy⟩: ∃y,x.args[k]?=some y:=⟨_,List.getElem?_eq_getElem hlt⟩
     obtain⟨b,off,p',cap',rfl,q0,q1,q2,hy2⟩:=H5.out k y hy
     have hkp:=hst.kept
     have r0:=hkp.cell (p:=⟨b,off+k*3,none⟩) (fun h=>h) q0
     have r1:=hkp.cell (p:=⟨b,off+k*3+1,none⟩) (fun h=>h) q1
     have r2:=hkp.cell (p:=⟨b,off+k*3+2,none⟩) (fun h=>h) q2
     have s0:wr.cell? ⟨B2,0,none⟩=some (.func (.func 97) #[] #[.pointer (some ⟨B1,0,none⟩), .pointer (some ⟨B2,0,none⟩)]):=cells_at hst.self rfl
     have hb2:B2<wr.heap.size:=(Array.getElem?_eq_some_iff.1 hst.self).1
     have G:=Lib.hid (And.intro hg (And.intro hy2 (And.intro hst (And.intro (SB.out k y hy) hy))))
     have HM:=Lib.hid (show fD (x.args.take k) (n-1)<=1001 by have:=BX (x.args.take k) (n-1);omega)
     clear q0 q1 q2 hy hy2 hkp hg H5 hst
     go_wp2_with fail
     have c:=IH.out y _ _ _ G.out.2.2.2.1 G.out.2.1 HM.out (G.out.2.2.1.alloc (.cells #[.int .u8 y.op, .int .i64 y.n, .slice p' y.args.length cap'] 77))
     (with_reducible refine c.mono ?_)
     clear c
     rintro e w2 ⟨rfl,st2⟩
     rw[<-JF G.out.2.2.2.2]at st2
     have S2:=Lib.hid st2
     clear st2
     go_wp2_with fail
     go_roundg (x.args.length-(k+1))
     case rel=>exact⟨k+1,by omega,by go_num,Nat.le_refl _,S2.out⟩
     case measure=>have:=G.out.1;omega
    ·have S2:=Lib.hid hst
     have e1:k=x.args.length:=by omega
     subst e1
     clear hst
     go_wp2_with fail
     go_end0
     exact⟨rfl,by rw[HY.out];have:=S2.out;rwa[List.take_length]at this⟩
  ·have F:=Lib.hid (show Bc x n=n by rw[HX.out,if_neg hn0])
   clear HX
   go_wp2_with fail
   go_end0
   exact⟨rfl,by rw[F.out];exact S0.out.alloc _⟩
def Ee (w:World)(a:Array Value)(j:Jb):Prop:= ∃v,a= #[.int .i64 j.par,v]/\jJ w v j.nodes/\aS j.par
theorem Ee.pure {w w':World}(hk:Kept none' w w'){a:Array Value}{j:Jb}(h:Ee w a j):Ee w' a j:=by
 obtain⟨v,h1,h2,h3⟩:=h
 exact⟨v,h1,h2.pure hk,h3⟩
theorem Vg (j:Jb)(a:Array Value)(w:World)(h:Ee w a j):Calls Tryz.prog 57 #[.agg a] w (Gives w (.int .i64 ((1001-fD (j.nodes.map (·.x)) 1001:Nat):Int))):=by
 obtain⟨v,rfl,hn,hp⟩:=h
 obtain⟨na,cap,rfl,h1,h2,h3⟩:=hn.at
 unfold maxLen at h2
 have H3:=Lib.hid h3
 clear h3 hn hp
 go_enter Tryz.func57,Tryz.ntmps57
 go_wp2_with fail
 obtain⟨W0,hW0⟩: ∃W0,(((w.alloc (.cells #[.int .i64 j.par, .slice na j.nodes.length cap] 24)).alloc (.cells #[.int .i64 1001] 3)).alloc (.cells #[.func (.func 97) #[] #[.pointer (some ⟨w.heap.size+1,0,none⟩), .pointer (some ⟨w.heap.size+1+1,0,none⟩)]] 158))=W0:=⟨_,rfl⟩
 have st0:rJ w W0 (w.heap.size+1) (w.heap.size+1+1) 1001:=by
  rw[<-hW0]
  refine⟨?_,?_,by omega,by omega,((Kept.refl _ _).alloc _).alloc _|>.alloc _⟩
  ·rw[Below.heap_alloc _ _ _ (by simp)]
   have:=heap_alloc_new (w.alloc (.cells #[.int .i64 j.par, .slice na j.nodes.length cap] 24)) (.cells #[.int .i64 1001] 3)
   rwa[World.size_alloc]at this
  ·have:=heap_alloc_new ((w.alloc (.cells #[.int .i64 j.par, .slice na j.nodes.length cap] 24)).alloc (.cells #[.int .i64 1001] 3)) (.cells #[.func (.func 97) #[] #[.pointer (some ⟨w.heap.size+1,0,none⟩), .pointer (some ⟨w.heap.size+1+1,0,none⟩)]] 158)
   rwa[World.size_alloc,World.size_alloc]at this
 rw[hW0]
 have ST:=Lib.hid st0
 clear hW0 st0
 go_loopg [11] j.nodes.length (fun g vi wr=> ∃(k:Nat),k<=j.nodes.length/\vi= .int .i64 (k:Int)/\j.nodes.length-k<=g/\rJ w wr (w.heap.size+1) (w.heap.size+1+1) (fD ((j.nodes.map (·.x)).take k) 1001))
 case atStart=>exact⟨0,by omega,rfl,by omega,by simpa[fD]using ST.out⟩
 case round=>
  obtain⟨k,hkl,rfl,hg,hst⟩:=hrel
  by_cases hlt:k<j.nodes.length
  ·obtain⟨d,hd⟩: ∃d,j.nodes[k]?=some d:=⟨_,List.getElem?_eq_getElem hlt⟩
   obtain⟨b,off,pi,ci,p,cap',rfl,hc,hj⟩:=H3.out k d hd
   have hc':=hc.kept hst.kept (fun h=>h)
   obtain⟨c0,c1,c2,c3,c4,c5,c6⟩:=hc'
   have s0:wr.cell? ⟨w.heap.size+1+1,0,none⟩=some (.func (.func 97) #[] #[.pointer (some ⟨w.heap.size+1,0,none⟩), .pointer (some ⟨w.heap.size+1+1,0,none⟩)]):=cells_at hst.self rfl
   have hb2:w.heap.size+1+1<wr.heap.size:=(Array.getElem?_eq_some_iff.1 hst.self).1
   have hx:bP w #[.int .u8 d.x.op, .int .i64 d.x.n, .slice p d.x.args.length cap'] d.x:=by
    obtain⟨_,_,_,_,e,hx,_⟩:=hj
    injection e with e
    simp only[List.cons.injEq,and_true,true_and]at e
    obtain⟨e1,e2⟩:=e
    rw[e2];exact hx
   have hxk:(j.nodes.map (·.x))[k]?=some d.x:=by rw[List.getElem?_map,hd];rfl
   have G:=Lib.hid (And.intro hg (And.intro hx (And.intro hst hxk)))
   have HM:=Lib.hid (BX ((j.nodes.map (·.x)).take k) 1001)
   clear hd hj hc hg hst hx hxk H3
   go_wp2_with fail
   have c:=QT _ d.x _ _ _ _ _ _ (Nat.le_refl _) G.out.2.1 HM.out (G.out.2.2.1.alloc (.cells (qB d pi ci p cap') 79))
   (with_reducible refine c.mono ?_)
   clear c
   rintro e w2 ⟨rfl,st2⟩
   rw[<-JF G.out.2.2.2]at st2
   have S2:=Lib.hid st2
   clear st2
   go_wp2_with fail
   go_roundg (j.nodes.length-(k+1))
   case rel=>exact⟨k+1,by omega,by go_num,Nat.le_refl _,S2.out⟩
   case measure=>have:=G.out.1;omega
  ·have e1:k=j.nodes.length:=by omega
   subst e1
   have l0:wr.cell? ⟨w.heap.size+1,0,none⟩=some (.int .i64 ((fD ((j.nodes.map (·.x)).take j.nodes.length) 1001:Nat):Int)):=cells_at hst.left rfl
   have hle:=BX (j.nodes.map (·.x)) 1001
   have el:(j.nodes.map (·.x)).take j.nodes.length=j.nodes.map (·.x):=List.take_of_length_le (by simp)
   rw[el]at l0
   have K:=Lib.hid hst.kept
   clear hst el
   obtain⟨m,hm⟩: ∃m,fD (j.nodes.map (·.x)) 1001=m:=⟨_,rfl⟩
   rw[hm]at l0 hle
   have HM:=Lib.hid hm
   clear hm
   go_wp2_with fail
   go_ret
   exact⟨ji (by rw[HM.out];omega),K.out⟩
theorem Nh: ∃i,Tryz.prog.info? 3=some i/\i.zero=some (.int .i64 0)/\i.size=1/\i.bytes=8:=by
 have h:(Tryz.prog.info? 3).map (fun i=>(i.zero,i.size,i.bytes))=some (some (.int .i64 0),1,8):=by kernel_rfl
 obtain⟨i,h1,h2⟩:=Option.map_eq_some_iff.1 h
 injection h2 with h2 h3
 injection h3 with h3 h4
 exact⟨i,h1,h2,h3,h4⟩
theorem Ym: ∃i,Tryz.prog.info? 9=some i/\i.zero=some (.string ByteArray.empty)/\i.size=1/\i.bytes=16:=by
 have h:(Tryz.prog.info? 9).map (fun i=>(i.zero,i.size,i.bytes))=some (some (.string ByteArray.empty),1,16):=by kernel_rfl
 obtain⟨i,h1,h2⟩:=Option.map_eq_some_iff.1 h
 injection h2 with h2 h3
 injection h3 with h3 h4
 exact⟨i,h1,h2,h3,h4⟩
theorem XH {T E bytes:Nat}{z x:Value}{i:TypeInfo}(hT:Tryz.prog.underlying T=some (.slice E))(hi:Tryz.prog.info? E=some i)(hz:i.zero=some z)(hs:i.size=1)(hb:i.bytes=bytes)(hzc:z.cells.size=1)(hx:x.oneCell'=true)
 {wr:World} {base m:Nat} {v:Value} {xs:List Value} (hown:wr.ownsRow base E 1 v m xs) (hm:m<=100000) (hbb:bytes<=1000) (hbase:base<=wr.heap.size) (ty:TypeId):
 ∃v' w',(Builtin.append_ #[T,T] ty #[v, .slice (some ⟨wr.heap.size,0,none⟩) 1 1]).run Tryz.prog (wr.alloc (.cells #[x] E))= .ok v' w'/\w'.ownsRow base E 1 v' (m+1) (xs++[x])/\Kept (fun k=>base<=k) wr w':=by
 have kA:Kept none' wr (wr.alloc (.cells #[x] E)):=(Kept.refl _ _).alloc _
 have hr:=Reads.lit wr [x] E 1 1 rfl (by unfold maxLen;omega)
 obtain⟨v',n',w',b1,b2,b3,b4,_⟩:=oD (P:=Tryz.prog) base T ty E i z 1 bytes hT hi hz hs hb hzc (by omega) (kA.owns hown (fun _ _ h=>h)) hr (by intro y hy;rw[List.mem_singleton.1 hy];exact hx)
  (by
    simp only[List.length_singleton,Nat.mul_one]
    calc(m+1)*bytes<=100001*1000:=Nat.mul_le_mul (by omega) hbb
     _<=140737488355328:=by decide) (by simp;unfold maxLen;omega) (by have:=kA.size;omega)
 have hn:n'=m+1:=by simpa using b3
 subst hn
 exact⟨v',w',b1,b2,kA.pure.trans (Kept.grown b4 (fun k hk _=>(qI hown hk).1))⟩
def fH (nodes:List JN)(i:Nat)(k:Nat):List Int:=((List.range k).filter fun m=>decide ((i:Int)∈(nodes.getD m default).ins)).map fun(m:Nat)=>(m:Int)
theorem sJ {nodes:List JN}{i k:Nat}{d:JN}(hd:nodes[k]?=some d):fH nodes i (k+1)=fH nodes i k++if(i:Int)∈d.ins then[(k:Int)]else[]:=by
 unfold fH
 rw[List.range_succ,List.filter_append,List.map_append]
 congr 1
 have e:nodes.getD k default=d:=by rw[List.getD_eq_getElem?_getD,hd];rfl
 by_cases h:(i:Int)∈d.ins
 ·have e2:decide ((i:Int)∈(nodes.getD k default).ins)=true:=by rw[e];exact decide_eq_true h
  rw[List.filter_cons,if_pos e2,if_pos h];rfl
 ·have e2: ¬(decide ((i:Int)∈(nodes.getD k default).ins)=true):=by rw[e];simpa using h
  rw[List.filter_cons,if_neg e2,if_neg h];rfl
theorem vS (nodes:List JN)(i:Nat): ∀k,k<=nodes.length->(fH nodes i k).length=(nodes.take k).countP fun d=>d.ins.contains (i:Int)
 |0,_=>rfl
 |k+1,hk=>by
  have hd:nodes[k]?=some nodes[k]:=List.getElem?_eq_getElem (by omega)
  rw[sJ hd,List.length_append,vS nodes i k (by omega),List.take_add_one,hd,List.countP_append]
  congr 1
  by_cases h:(i:Int)∈(nodes[k]).ins
  ·simp[h]
  ·simp[h]
theorem OI (nodes:List JN)(i k:Nat):(fH nodes i k).length<=k:=by
 unfold fH
 rw[List.length_map]
 exact Nat.le_trans (List.length_filter_le _ _) (by simp)
def YU (w:World)(n:Nat)(e:Ending)(w':World):Prop:= ∃a cap,e= .returned (.slice a n cap)/\Kept none' w w'
theorem wL (j:Jb)(a:Array Value)(i:Nat)(w:World)(h:Ee w a j)(aeL:j.nodes.length<=1000):Calls Tryz.prog 60 #[.agg a, .int .i64 (i:Int)] w (YU w (mO j.nodes i)):=by
 obtain⟨v,rfl,hn,hp⟩:=h
 obtain⟨na,cap,rfl,h1,h2,h3⟩:=hn.at
 unfold maxLen at h2
 have H3:=Lib.hid h3
 clear h3 hn hp
 go_enter Tryz.func60,Tryz.ntmps60
 go_wp2_with fail
 obtain⟨W0,hW0⟩: ∃W0,(w.alloc (.cells #[.int .i64 j.par, .slice na j.nodes.length cap] 24))=W0:=⟨_,rfl⟩
 have k0:Kept none' w W0:=by rw[<-hW0];exact(Kept.refl _ _).alloc _
 rw[hW0]
 have K0:=Lib.hid k0
 clear hW0 k0
 go_loopg [5,11] j.nodes.length (fun g vo vi wr=> ∃(k:Nat),k<=j.nodes.length/\vi= .int .i64 (k:Int)/\j.nodes.length-k<=g/\wr.ownsRow w.heap.size 3 1 vo (fH j.nodes i k).length (ints (fH j.nodes i k))/\Kept none' w wr)
 case atStart=>exact⟨0,by omega,rfl,by omega,World.ownsRow_nil _ _ _ _,K0.out⟩
 case round=>
  obtain⟨k,hkl,rfl,hg,hown,hkp⟩:=hrel
  obtain⟨oa,oc,rfl⟩:=gY hown
  by_cases hlt:k<j.nodes.length
  ·obtain⟨d,hd⟩: ∃d,j.nodes[k]?=some d:=⟨_,List.getElem?_eq_getElem hlt⟩
   obtain⟨b,off,pi,ci,p,cap',rfl,hc,hj⟩:=H3.out k d hd
   obtain⟨c0,c1,c2,c3,c4,c5,c6⟩:=hc.kept hkp (fun h=>h)
   have hin:Reads w 1 (.slice pi d.ins.length ci) (ints d.ins):=by
    obtain⟨_,_,_,_,e,_,hx,_⟩:=hj
    injection e with e
    simp only[List.cons.injEq,and_true,true_and]at e
    obtain⟨e1,e2⟩:=e
    rw[e1];exact hx
   have kA:Kept none' wr (wr.alloc (.cells (qB d pi ci p cap') 79)):=(Kept.refl _ _).alloc _
   have cc:=zU _ d.ins (i:Int) _ (hin.pure (hkp.trans kA))
   have hsz:=Lib.hid hkp.size
   have G:=Lib.hid (And.intro hg (And.intro hown (And.intro (hkp.trans kA) (And.intro hd kA))))
   clear hd hj hc hg hown hkp hin H3
   by_cases hm:(i:Int)∈d.ins
   ·have e1:decide ((i:Int)∈d.ins)=true:=decide_eq_true hm
    rw[e1]at cc
    have E1:=Lib.hid (sJ (i:=i) G.out.2.2.2.1)
    rw[if_pos hm]at E1
    obtain⟨ti,hi3,hz3,hs3,hb3⟩:=Nh
    have hle:=OI j.nodes i k
    obtain⟨v',w',b1,b2,b3⟩:=XH (x:= .int .i64 (k:Int)) (bytes:=8) Tryz.underlying74 hi3 hz3 hs3 hb3 rfl rfl (kA.owns G.out.2.1 (fun _ _ h=>h)) (by omega) (by omega) (Nat.le_trans hsz.out kA.size) 45
    have hnew:w'.ownsRow w.heap.size 3 1 v' (fH j.nodes i (k+1)).length (ints (fH j.nodes i (k+1))):=by
     rw[E1.out,List.length_append]
     unfold ints at b2⊢
     rw[List.map_append]
     exact b2
    have F:=Lib.hid (And.intro hnew (G.out.2.2.1.new b3 (fun i hi h=>by omega)))
    rw[World.size_alloc]at b1
    have B1:=Lib.hid b1
    clear b1 b2 b3 hnew hi3 hz3 hs3 hb3 kA hm e1
    go_wp2_with (first|(go_at_call 105;refine cc.mono ?_;rintro e w' ⟨rfl,rfl⟩)|(at_builtin;refine wpList_append_run rfl (.tmp 20) (.tmp 22) 74 rfl (.slice oa (fH j.nodes i k).length oc) (.slice (some ⟨wr.heap.size+1,0,none⟩) 1 1) v' rfl rfl B1.out ?_))
    go_roundg (j.nodes.length-(k+1))
    case rel=>exact⟨k+1,by omega,by go_num,Nat.le_refl _,F.out⟩
    case measure=>have:=G.out.1;omega
   ·have e1:decide ((i:Int)∈d.ins)=false:=decide_eq_false hm
    rw[e1]at cc
    have E1:=sJ (i:=i) G.out.2.2.2.1
    rw[if_neg hm,List.append_nil]at E1
    have F:=Lib.hid (show(wr.alloc (.cells (qB d pi ci p cap') 79)).ownsRow w.heap.size 3 1 (.slice oa (fH j.nodes i k).length oc) (fH j.nodes i (k+1)).length (ints (fH j.nodes i (k+1))) by rw[E1];exact kA.owns G.out.2.1 (fun _ _ h=>h))
    clear kA hm e1 E1
    go_wp2_with (go_at_call 105;refine cc.mono ?_;rintro e w' ⟨rfl,rfl⟩)
    go_roundg (j.nodes.length-(k+1))
    case rel=>exact⟨k+1,by omega,by go_num,Nat.le_refl _,F.out,G.out.2.2.1⟩
    case measure=>have:=G.out.1;omega
  ·have e1:k=j.nodes.length:=by omega
   subst e1
   have hF:(fH j.nodes i j.nodes.length).length=mO j.nodes i:=by rw[vS _ _ _ (Nat.le_refl _),List.take_length];rfl
   rw[hF]
   clear hF
   have HK:=Lib.hid hkp
   clear hkp hown
   go_wp2_with fail
   go_ret
   exact⟨oa,oc,rfl,HK.out⟩
end Go.Proofs.YtakhobfamnjnoaaGreatDoor
