/- job: parts, readers, Find. -/
import Derived.Test.YtakhobfamnjnoaaGreatDoorC19
import Derived.Great.BuildSlice
set_option linter.unusedVariables false
set_option linter.unusedSimpArgs false
set_option maxHeartbeats 1000000
set_option maxRecDepth 100000
namespace Go.Proofs.YtakhobfamnjnoaaGreatDoor
section
open Go Go.RowKit
attribute [local irreducible] kC
theorem Gq: ∀(l m:List Ex)(n:Nat),iq (l++m) n=iq m (iq l n)
 |[],m,n=>by simp[iq]
 |x::l,m,n=>by simp only[List.cons_append,iq];exact Gq l m _
theorem Oj {l:List Ex}{k:Nat}{y:Ex}(h:l[k]?=some y)(n:Nat):iq (l.take (k+1)) n=Ez y (iq (l.take k) n):=by
 rw[List.take_add_one,h,Gq];simp[iq]
theorem aee (x:Ex)(n:Nat):Ez x n=if 0<n then iq x.args (n-1)else n:=by cases x;rfl
theorem FH (l:List Ex)(n:Nat):iq l n<=n:=by rw[su];omega
structure vG (w0 w:World)(B1 B2:Nat)(n:Nat):Prop where
 left:w.heap[B1]?=some (.cells #[.int .i64 (n:Int)] 3 (0,0))
 self:w.heap[B2]?=some (.cells #[.func (.func 97) #[] #[.pointer (some ⟨B1,0,none⟩), .pointer (some ⟨B2,0,none⟩)]] 158 (0,0))
 ne:B1≠B2
 b1:w0.heap.size<=B1
 kept:Kept none' w0 w
theorem vG.alloc {w0 w:World}{B1 B2 n:Nat}(h:vG w0 w B1 B2 n)(o:Obj):vG w0 (w.alloc o) B1 B2 n:=
 ⟨((Kept.refl none' w).alloc o).heap h.left (fun h=>h),((Kept.refl none' w).alloc o).heap h.self (fun h=>h),h.ne,h.b1,h.kept.alloc o⟩
def aiC (w0 w:World)(B1 B2 n:Nat)(e:Ending)(w':World):Prop:=e= .returned (.tuple #[])/\vG w0 w' B1 B2 n
theorem VL: ∀(N:Nat)(x:Ex)(a:Array Value)(w0 w:World)(B1 B2 n:Nat),SizeOf.sizeOf x<=N->bg w0 a x->n<=1001->vG w0 w B1 B2 n->
 Calls Tryz.prog 97 #[.agg a, .pointer (some ⟨B1,0,none⟩), .pointer (some ⟨B2,0,none⟩)] w (aiC w0 w B1 B2 (Ez x n))
 |0,x,_,_,_,_,_,_,h,_,_,_=>by cases x;simp at h
 |N+1,x,a,w0,w,B1,B2,n,hN,h,hn,hst=>by
  obtain⟨p,cap,rfl,h0,h1,h2,h3,h4,h5⟩:=h.parts
  have sub: ∀(i:Nat)(y:Ex),x.args[i]?=some y->SizeOf.sizeOf y<=N:=by
   intro i y hy
   obtain⟨op,n,args⟩:=x
   have h1:=List.sizeOf_lt_of_mem (List.mem_of_getElem? (show args[i]?=some y from hy))
   simp at hN
   omega
  have IH:=Lib.hid (fun y a w n hy h hn hst=>VL N y a w0 w B1 B2 n hy h hn hst)
  have SB:=Lib.hid sub
  have H5:=Lib.hid h5
  have HX:=Lib.hid (aee x n)
  unfold maxLen at h4
  have hb1:B1<w.heap.size:=(Array.getElem?_eq_some_iff.1 hst.left).1
  have hb2:B2<w.heap.size:=(Array.getElem?_eq_some_iff.1 hst.self).1
  have c0:w.cell? ⟨B1,0,none⟩=some (.int .i64 (n:Int)):=cells_at hst.left rfl
  have f0:=free_at hst.left 0
  have S0:=Lib.hid hst
  clear h h5 sub hN hst
  go_enter Tryz.func97,Tryz.ntmps97
  by_cases hn0:0<n
  ·have hwn:wrap64 ((n:Int)-1)=((n-1:Nat):Int):=by unfold wrap64;omega
   have HY:=Lib.hid (show Ez x n=iq x.args (n-1) by rw[HX.out,if_pos hn0])
   clear HX
   go_wp2_with fail
   obtain⟨W1,hW1⟩: ∃W1,(w.setCell ⟨B1,0,none⟩ (.int .i64 ((n:Int)-1))).alloc (.cells #[.int .u8 x.op, .int .i64 x.n, .slice p x.args.length cap] 77)=W1:=⟨_,rfl⟩
   have kS:vG w0 W1 B1 B2 (n-1):=by
    have st1:=S0.out
    rw[<-hW1]
    have e1:((n:Int)-1)=((n-1:Nat):Int):=by omega
    rw[e1]
    exact vG.alloc ⟨by have:=xK st1.left 0 (.int .i64 ((n-1:Nat):Int));simpa using this,((Kept.refl (one B1) _).setCell (p:=⟨B1,0,none⟩) (.inl rfl) _).heap st1.self (fun e=>st1.ne e.symm),st1.ne,st1.b1,st1.kept.setCell (p:=⟨B1,0,none⟩) (.inr st1.b1) _⟩ _
   rw[hW1]
   have KS:=Lib.hid kS
   clear hW1 kS S0 c0 f0
   go_loopg [13] x.args.length (fun g vi wr=> ∃(k:Nat),k<=x.args.length/\vi= .int .i64 (k:Int)/\x.args.length-k<=g/\vG w0 wr B1 B2 (iq (x.args.take k) (n-1)))
   case atStart=>exact⟨0,by omega,rfl,by omega,by simpa[iq]using KS.out⟩
   case round=>
    obtain⟨k,hkl,rfl,hg,hst⟩:=hrel
    by_cases hlt:k<x.args.length
    ·obtain⟨y,hy⟩: ∃y,x.args[k]?=some y:=⟨_,List.getElem?_eq_getElem hlt⟩
     obtain⟨b,off,p',cap',rfl,q0,q1,q2,hy2⟩:=H5.out k y hy
     have hkp:=hst.kept
     have r0:=hkp.cell (p:=⟨b,off+k*3,none⟩) (fun h=>h) q0
     have r1:=hkp.cell (p:=⟨b,off+k*3+1,none⟩) (fun h=>h) q1
     have r2:=hkp.cell (p:=⟨b,off+k*3+2,none⟩) (fun h=>h) q2
     have s0:wr.cell? ⟨B2,0,none⟩=some (.func (.func 97) #[] #[.pointer (some ⟨B1,0,none⟩), .pointer (some ⟨B2,0,none⟩)]):=cells_at hst.self rfl
     have hb2:B2<wr.heap.size:=(Array.getElem?_eq_some_iff.1 hst.self).1
     have G:=Lib.hid (And.intro hg (And.intro hy2 (And.intro hst (And.intro (SB.out k y hy) hy))))
     have HM:=Lib.hid (show iq (x.args.take k) (n-1)<=1001 by have:=FH (x.args.take k) (n-1);omega)
     clear q0 q1 q2 hy hy2 hkp hg H5 hst
     go_wp2_with fail
     have c:=IH.out y _ _ _ G.out.2.2.2.1 G.out.2.1 HM.out (G.out.2.2.1.alloc (.cells #[.int .u8 y.op, .int .i64 y.n, .slice p' y.args.length cap'] 77))
     (with_reducible refine c.mono ?_)
     clear c
     rintro e w2 ⟨rfl,st2⟩
     rw[<-Oj G.out.2.2.2.2]at st2
     have S2:=Lib.hid st2
     clear st2
     go_wp2_with fail
     go_roundg (x.args.length-(k+1))
     case rel=>exact⟨k+1,by omega,by go_num,Nat.le_refl _,S2.out⟩
     case measure=>have:=G.out.1;omega
    ·have S2:=Lib.hid hst
     have e1:k=x.args.length:=by omega
     subst e1
     clear hst
     go_wp2_with fail
     go_end0
     exact⟨rfl,by rw[HY.out];have:=S2.out;rwa[List.take_length]at this⟩
  ·have F:=Lib.hid (show Ez x n=n by rw[HX.out,if_neg hn0])
   clear HX
   go_wp2_with fail
   go_end0
   exact⟨rfl,by rw[F.out];exact S0.out.alloc _⟩
def CY (w:World)(a:Array Value)(j:Jb):Prop:= ∃v,a= #[.int .i64 j.par,v]/\lV w v j.nodes/\aO j.par
theorem CY.pure {w w':World}(hk:Kept none' w w'){a:Array Value}{j:Jb}(h:CY w a j):CY w' a j:=by
 obtain⟨v,h1,h2,h3⟩:=h
 exact⟨v,h1,h2.pure hk,h3⟩
theorem Y7 (j:Jb)(a:Array Value)(w:World)(h:CY w a j):Calls Tryz.prog 57 #[.agg a] w (Gives w (.int .i64 ((1001-iq (j.nodes.map (·.x)) 1001:Nat):Int))):=by
 obtain⟨v,rfl,hn,hp⟩:=h
 obtain⟨na,cap,rfl,h1,h2,h3⟩:=hn.at
 unfold maxLen at h2
 have H3:=Lib.hid h3
 clear h3 hn hp
 go_enter Tryz.func57,Tryz.ntmps57
 go_wp2_with fail
 obtain⟨W0,hW0⟩: ∃W0,(((w.alloc (.cells #[.int .i64 j.par, .slice na j.nodes.length cap] 24)).alloc (.cells #[.int .i64 1001] 3)).alloc (.cells #[.func (.func 97) #[] #[.pointer (some ⟨w.heap.size+1,0,none⟩), .pointer (some ⟨w.heap.size+1+1,0,none⟩)]] 158))=W0:=⟨_,rfl⟩
 have st0:vG w W0 (w.heap.size+1) (w.heap.size+1+1) 1001:=by
  rw[<-hW0]
  refine⟨?_,?_,by omega,by omega,((Kept.refl _ _).alloc _).alloc _|>.alloc _⟩
  ·rw[Below.heap_alloc _ _ _ (by simp)]
   have:=heap_alloc_new (w.alloc (.cells #[.int .i64 j.par, .slice na j.nodes.length cap] 24)) (.cells #[.int .i64 1001] 3)
   rwa[World.size_alloc]at this
  ·have:=heap_alloc_new ((w.alloc (.cells #[.int .i64 j.par, .slice na j.nodes.length cap] 24)).alloc (.cells #[.int .i64 1001] 3)) (.cells #[.func (.func 97) #[] #[.pointer (some ⟨w.heap.size+1,0,none⟩), .pointer (some ⟨w.heap.size+1+1,0,none⟩)]] 158)
   rwa[World.size_alloc,World.size_alloc]at this
 rw[hW0]
 have ST:=Lib.hid st0
 clear hW0 st0
 go_loopg [11] j.nodes.length (fun g vi wr=> ∃(k:Nat),k<=j.nodes.length/\vi= .int .i64 (k:Int)/\j.nodes.length-k<=g/\vG w wr (w.heap.size+1) (w.heap.size+1+1) (iq ((j.nodes.map (·.x)).take k) 1001))
 case atStart=>exact⟨0,by omega,rfl,by omega,by simpa[iq]using ST.out⟩
 case round=>
  obtain⟨k,hkl,rfl,hg,hst⟩:=hrel
  by_cases hlt:k<j.nodes.length
  ·obtain⟨d,hd⟩: ∃d,j.nodes[k]?=some d:=⟨_,List.getElem?_eq_getElem hlt⟩
   obtain⟨b,off,pi,ci,p,cap',rfl,hc,hj⟩:=H3.out k d hd
   have hc':=hc.kept hst.kept (fun h=>h)
   obtain⟨c0,c1,c2,c3,c4,c5,c6⟩:=hc'
   have s0:wr.cell? ⟨w.heap.size+1+1,0,none⟩=some (.func (.func 97) #[] #[.pointer (some ⟨w.heap.size+1,0,none⟩), .pointer (some ⟨w.heap.size+1+1,0,none⟩)]):=cells_at hst.self rfl
   have hb2:w.heap.size+1+1<wr.heap.size:=(Array.getElem?_eq_some_iff.1 hst.self).1
   have hx:bg w #[.int .u8 d.x.op, .int .i64 d.x.n, .slice p d.x.args.length cap'] d.x:=by
    obtain⟨_,_,_,_,e,hx,_⟩:=hj
    injection e with e
    simp only[List.cons.injEq,and_true,true_and]at e
    obtain⟨e1,e2⟩:=e
    rw[e2];exact hx
   have hxk:(j.nodes.map (·.x))[k]?=some d.x:=by rw[List.getElem?_map,hd];rfl
   have G:=Lib.hid (And.intro hg (And.intro hx (And.intro hst hxk)))
   have HM:=Lib.hid (FH ((j.nodes.map (·.x)).take k) 1001)
   clear hd hj hc hg hst hx hxk H3
   go_wp2_with fail
   have c:=VL _ d.x _ _ _ _ _ _ (Nat.le_refl _) G.out.2.1 HM.out (G.out.2.2.1.alloc (.cells (o7 d pi ci p cap') 79))
   (with_reducible refine c.mono ?_)
   clear c
   rintro e w2 ⟨rfl,st2⟩
   rw[<-Oj G.out.2.2.2]at st2
   have S2:=Lib.hid st2
   clear st2
   go_wp2_with fail
   go_roundg (j.nodes.length-(k+1))
   case rel=>exact⟨k+1,by omega,by go_num,Nat.le_refl _,S2.out⟩
   case measure=>have:=G.out.1;omega
  ·have e1:k=j.nodes.length:=by omega
   subst e1
   have l0:wr.cell? ⟨w.heap.size+1,0,none⟩=some (.int .i64 ((iq ((j.nodes.map (·.x)).take j.nodes.length) 1001:Nat):Int)):=cells_at hst.left rfl
   have hle:=FH (j.nodes.map (·.x)) 1001
   have el:(j.nodes.map (·.x)).take j.nodes.length=j.nodes.map (·.x):=List.take_of_length_le (by simp)
   rw[el]at l0
   have K:=Lib.hid hst.kept
   clear hst el
   obtain⟨m,hm⟩: ∃m,iq (j.nodes.map (·.x)) 1001=m:=⟨_,rfl⟩
   rw[hm]at l0 hle
   have HM:=Lib.hid hm
   clear hm
   go_wp2_with fail
   go_ret
   exact⟨kM (by rw[HM.out];omega),K.out⟩
theorem rM: ∃i,Tryz.prog.info? 3=some i/\i.zero=some (.int .i64 0)/\i.size=1/\i.bytes=8:=by
 have h:(Tryz.prog.info? 3).map (fun i=>(i.zero,i.size,i.bytes))=some (some (.int .i64 0),1,8):=by kernel_rfl
 obtain⟨i,h1,h2⟩:=Option.map_eq_some_iff.1 h
 injection h2 with h2 h3
 injection h3 with h3 h4
 exact⟨i,h1,h2,h3,h4⟩
theorem abL: ∃i,Tryz.prog.info? 9=some i/\i.zero=some (.string ByteArray.empty)/\i.size=1/\i.bytes=16:=by
 have h:(Tryz.prog.info? 9).map (fun i=>(i.zero,i.size,i.bytes))=some (some (.string ByteArray.empty),1,16):=by kernel_rfl
 obtain⟨i,h1,h2⟩:=Option.map_eq_some_iff.1 h
 injection h2 with h2 h3
 injection h3 with h3 h4
 exact⟨i,h1,h2,h3,h4⟩
theorem Qg {T E bytes:Nat}{z x:Value}{i:TypeInfo}(hT:Tryz.prog.underlying T=some (.slice E))(hi:Tryz.prog.info? E=some i)(hz:i.zero=some z)(hs:i.size=1)(hb:i.bytes=bytes)(hzc:z.cells.size=1)(hx:x.oneCell'=true)
 {wr:World} {base m:Nat} {v:Value} {xs:List Value} (hown:wr.ownsRow base E 1 v m xs) (hm:m<=100000) (hbb:bytes<=1000) (hbase:base<=wr.heap.size) (ty:TypeId):
 ∃v' w',(Builtin.append_ #[T,T] ty #[v, .slice (some ⟨wr.heap.size,0,none⟩) 1 1]).run Tryz.prog (wr.alloc (.cells #[x] E))= .ok v' w'/\w'.ownsRow base E 1 v' (m+1) (xs++[x])/\Kept (fun k=>base<=k) wr w':=by
 have kA:Kept none' wr (wr.alloc (.cells #[x] E)):=(Kept.refl _ _).alloc _
 have hr:=Reads.lit wr [x] E 1 1 rfl (by unfold maxLen;omega)
 obtain⟨v',n',w',b1,b2,b3,b4,_⟩:=rH (P:=Tryz.prog) base T ty E i z 1 bytes hT hi hz hs hb hzc (by omega) (kA.owns hown (fun _ _ h=>h)) hr (by intro y hy;rw[List.mem_singleton.1 hy];exact hx)
  (by
    simp only[List.length_singleton,Nat.mul_one]
    calc(m+1)*bytes<=100001*1000:=Nat.mul_le_mul (by omega) hbb
     _<=140737488355328:=by decide) (by simp;unfold maxLen;omega) (by have:=kA.size;omega)
 have hn:n'=m+1:=by simpa using b3
 subst hn
 exact⟨v',w',b1,b2,kA.pure.trans (Kept.grown b4 (fun k hk _=>(kP hown hk).1))⟩
def dG (nodes:List JN)(i:Nat)(k:Nat):List Int:=((List.range k).filter fun m=>decide ((i:Int)∈(nodes.getD m default).ins)).map fun(m:Nat)=>(m:Int)
theorem oD {nodes:List JN}{i k:Nat}{d:JN}(hd:nodes[k]?=some d):dG nodes i (k+1)=dG nodes i k++if(i:Int)∈d.ins then[(k:Int)]else[]:=by
 unfold dG
 rw[List.range_succ,List.filter_append,List.map_append]
 congr 1
 have e:nodes.getD k default=d:=by rw[List.getD_eq_getElem?_getD,hd];rfl
 by_cases h:(i:Int)∈d.ins
 ·have e2:decide ((i:Int)∈(nodes.getD k default).ins)=true:=by rw[e];exact decide_eq_true h
  rw[List.filter_cons,if_pos e2,if_pos h];rfl
 ·have e2: ¬(decide ((i:Int)∈(nodes.getD k default).ins)=true):=by rw[e];simpa using h
  rw[List.filter_cons,if_neg e2,if_neg h];rfl
theorem tC (nodes:List JN)(i:Nat): ∀k,k<=nodes.length->(dG nodes i k).length=(nodes.take k).countP fun d=>d.ins.contains (i:Int)
 |0,_=>rfl
 |k+1,hk=>by
  have hd:nodes[k]?=some nodes[k]:=List.getElem?_eq_getElem (by omega)
  rw[oD hd,List.length_append,tC nodes i k (by omega),List.take_add_one,hd,List.countP_append]
  congr 1
  by_cases h:(i:Int)∈(nodes[k]).ins
  ·simp[h]
  ·simp[h]
theorem FX (nodes:List JN)(i k:Nat):(dG nodes i k).length<=k:=by
 unfold dG
 rw[List.length_map]
 exact Nat.le_trans (List.length_filter_le _ _) (by simp)
def acr (w:World)(n:Nat)(e:Ending)(w':World):Prop:= ∃a cap,e= .returned (.slice a n cap)/\Kept none' w w'
theorem zB (j:Jb)(a:Array Value)(i:Nat)(w:World)(h:CY w a j)(afQ:j.nodes.length<=1000):Calls Tryz.prog 60 #[.agg a, .int .i64 (i:Int)] w (acr w (fZ j.nodes i)):=by
 obtain⟨v,rfl,hn,hp⟩:=h
 obtain⟨na,cap,rfl,h1,h2,h3⟩:=hn.at
 unfold maxLen at h2
 have H3:=Lib.hid h3
 clear h3 hn hp
 go_enter Tryz.func60,Tryz.ntmps60
 go_wp2_with fail
 obtain⟨W0,hW0⟩: ∃W0,(w.alloc (.cells #[.int .i64 j.par, .slice na j.nodes.length cap] 24))=W0:=⟨_,rfl⟩
 have k0:Kept none' w W0:=by rw[<-hW0];exact(Kept.refl _ _).alloc _
 rw[hW0]
 have K0:=Lib.hid k0
 clear hW0 k0
 go_loopg [5,11] j.nodes.length (fun g vo vi wr=> ∃(k:Nat),k<=j.nodes.length/\vi= .int .i64 (k:Int)/\j.nodes.length-k<=g/\wr.ownsRow w.heap.size 3 1 vo (dG j.nodes i k).length (ints (dG j.nodes i k))/\Kept none' w wr)
 case atStart=>exact⟨0,by omega,rfl,by omega,World.ownsRow_nil _ _ _ _,K0.out⟩
 case round=>
  obtain⟨k,hkl,rfl,hg,hown,hkp⟩:=hrel
  obtain⟨oa,oc,rfl⟩:=dP hown
  by_cases hlt:k<j.nodes.length
  ·obtain⟨d,hd⟩: ∃d,j.nodes[k]?=some d:=⟨_,List.getElem?_eq_getElem hlt⟩
   obtain⟨b,off,pi,ci,p,cap',rfl,hc,hj⟩:=H3.out k d hd
   obtain⟨c0,c1,c2,c3,c4,c5,c6⟩:=hc.kept hkp (fun h=>h)
   have hin:Reads w 1 (.slice pi d.ins.length ci) (ints d.ins):=by
    obtain⟨_,_,_,_,e,_,hx,_⟩:=hj
    injection e with e
    simp only[List.cons.injEq,and_true,true_and]at e
    obtain⟨e1,e2⟩:=e
    rw[e1];exact hx
   have kA:Kept none' wr (wr.alloc (.cells (o7 d pi ci p cap') 79)):=(Kept.refl _ _).alloc _
   have cc:=Dq _ d.ins (i:Int) _ (hin.pure (hkp.trans kA))
   have hsz:=Lib.hid hkp.size
   have G:=Lib.hid (And.intro hg (And.intro hown (And.intro (hkp.trans kA) (And.intro hd kA))))
   clear hd hj hc hg hown hkp hin H3
   by_cases hm:(i:Int)∈d.ins
   ·have e1:decide ((i:Int)∈d.ins)=true:=decide_eq_true hm
    rw[e1]at cc
    have E1:=Lib.hid (oD (i:=i) G.out.2.2.2.1)
    rw[if_pos hm]at E1
    obtain⟨ti,hi3,hz3,hs3,hb3⟩:=rM
    have hle:=FX j.nodes i k
    obtain⟨v',w',b1,b2,b3⟩:=Qg (x:= .int .i64 (k:Int)) (bytes:=8) Tryz.underlying74 hi3 hz3 hs3 hb3 rfl rfl (kA.owns G.out.2.1 (fun _ _ h=>h)) (by omega) (by omega) (Nat.le_trans hsz.out kA.size) 45
    have hnew:w'.ownsRow w.heap.size 3 1 v' (dG j.nodes i (k+1)).length (ints (dG j.nodes i (k+1))):=by
     rw[E1.out,List.length_append]
     unfold ints at b2⊢
     rw[List.map_append]
     exact b2
    have F:=Lib.hid (And.intro hnew (G.out.2.2.1.new b3 (fun i hi h=>by omega)))
    rw[World.size_alloc]at b1
    have B1:=Lib.hid b1
    clear b1 b2 b3 hnew hi3 hz3 hs3 hb3 kA hm e1
    go_wp2_with (first|(go_at_call 105;refine cc.mono ?_;rintro e w' ⟨rfl,rfl⟩)|(at_builtin;refine wpList_append_run rfl (.tmp 20) (.tmp 22) 74 rfl (.slice oa (dG j.nodes i k).length oc) (.slice (some ⟨wr.heap.size+1,0,none⟩) 1 1) v' rfl rfl B1.out ?_))
    go_roundg (j.nodes.length-(k+1))
    case rel=>exact⟨k+1,by omega,by go_num,Nat.le_refl _,F.out⟩
    case measure=>have:=G.out.1;omega
   ·have e1:decide ((i:Int)∈d.ins)=false:=decide_eq_false hm
    rw[e1]at cc
    have E1:=oD (i:=i) G.out.2.2.2.1
    rw[if_neg hm,List.append_nil]at E1
    have F:=Lib.hid (show(wr.alloc (.cells (o7 d pi ci p cap') 79)).ownsRow w.heap.size 3 1 (.slice oa (dG j.nodes i k).length oc) (dG j.nodes i (k+1)).length (ints (dG j.nodes i (k+1))) by rw[E1];exact kA.owns G.out.2.1 (fun _ _ h=>h))
    clear kA hm e1 E1
    go_wp2_with (go_at_call 105;refine cc.mono ?_;rintro e w' ⟨rfl,rfl⟩)
    go_roundg (j.nodes.length-(k+1))
    case rel=>exact⟨k+1,by omega,by go_num,Nat.le_refl _,F.out,G.out.2.2.1⟩
    case measure=>have:=G.out.1;omega
  ·have e1:k=j.nodes.length:=by omega
   subst e1
   have hF:(dG j.nodes i j.nodes.length).length=fZ j.nodes i:=by rw[tC _ _ _ (Nat.le_refl _),List.take_length];rfl
   rw[hF]
   clear hF
   have HK:=Lib.hid hkp
   clear hkp hown
   go_wp2_with fail
   go_ret
   exact⟨oa,oc,rfl,HK.out⟩
theorem V7 (v:Value)(l:List ByteArray)(w:World)(h:Reads w 1 v (strs l)):Calls Tryz.prog 59 #[v] w (fun e w'=>e= .returned (.bool (!decide l.Nodup))/\w=w'):=by
 have hR:=h
 obtain⟨pa,ca,rfl,a1,a2,a3⟩:=h.atS
 have A3:=Lib.hid (And.intro a3 hR)
 clear a3 hR
 have hlen:l.length<=9223372036854775807:=by unfold maxLen at a2;omega
 go_enter Tryz.func59,Tryz.ntmps59
 go_wp2_with fail
 go_loopg [7] l.length (fun m vk wr=> ∃k:Nat,k<=l.length/\m=l.length-k/\vk= .int .i64 (k:Int)/\(l.take k).Nodup/\wr=w)
 case atStart=>exact⟨0,Nat.zero_le _,rfl,rfl,by simp,rfl⟩
 case round=>
  obtain⟨k,hk,hm,rfl,ht,rfl⟩:=hrel
  have HT:=Lib.hid (And.intro ht hm)
  clear ht hm
  by_cases hlt:k<l.length
  ·obtain⟨y,hy⟩: ∃y,l[k]?=some y:=⟨_,List.getElem?_eq_getElem hlt⟩
   obtain⟨b,off,rfl,hc⟩:=A3.out.1.resolve_left (fun h=>by rw[h]at hlt;simp at hlt)
   have y0:=hc k y hy
   have hsl:=DF (P:=Tryz.prog) (w:=wr) (a:=some ⟨b,off,none⟩) (n:=l.length) (cap:=ca) (i:=k) Tryz.underlying115 (ahd wr) (by omega) a1
   have hrd:=Reads.take A3.out.2 (i:=k) (by omega)
   have Rn:Reads wr 1 (.slice (some ⟨b,off,none⟩) k ca) (strs (l.take k)):=by
    have:(strs l).take (k*1)=strs (l.take k):=by rw[Nat.mul_one];unfold strs;rw[List.map_take]
    rwa[this]at hrd
   have cc:=OG _ (l.take k) y wr Rn
   have HY:=Lib.hid hy
   clear hc hy A3 hrd Rn
   by_cases hm:y∈l.take k
   ·have e1:decide (y∈l.take k)=true:=decide_eq_true hm
    rw[e1]at cc
    have F:=Lib.hid (NI HY.out hm)
    clear hm e1
    go_wp2_with (go_at_call 104;refine cc.mono ?_;rintro e w' ⟨rfl,rfl⟩)
    go_ret
    exact⟨jA (by rw[decide_eq_false F.out];rfl),rfl⟩
   ·have e1:decide (y∈l.take k)=false:=decide_eq_false hm
    rw[e1]at cc
    have F:=Lib.hid ((Jl HY.out).2 ⟨HT.out.1,hm⟩)
    clear hm e1
    go_wp2_with (go_at_call 104;refine cc.mono ?_;rintro e w' ⟨rfl,rfl⟩)
    go_roundg (l.length-(k+1))
    case rel=>exact⟨k+1,by omega,rfl,by go_num,F.out,rfl⟩
    case measure=>have:=HT.out.2;omega
  ·have e1:k=l.length:=by omega
   subst e1
   have F:=Lib.hid (show l.Nodup by have:=HT.out.1;rwa[List.take_length]at this)
   clear HT
   go_wp2_with fail
   go_ret
   exact⟨jA (by rw[decide_eq_true F.out];rfl),rfl⟩
theorem abq (i n:Int)(B:Nat)(w:World)(hc:w.cell? ⟨B,0,none⟩=some (.int .i64 n)):Calls Tryz.prog 102 #[.int .i64 i, .pointer (some ⟨B,0,none⟩)] w (fun e w'=>e= .returned (.bool (!(decide (0<=i)&&decide (i<n))))/\w=w'):=by
 by_cases h0:i<0
 ·have e1:(!(decide (0<=i)&&decide (i<n)))=true:=by rw[decide_eq_false (by omega)];rfl
  rw[e1]
  go_enter Tryz.func102,Tryz.ntmps102
  go_wp2
  go_ret
  exact⟨rfl,rfl⟩
 ·have e1:(!(decide (0<=i)&&decide (i<n)))=decide (n<=i):=by
   rw[decide_eq_true (by omega),Bool.true_and,<-decide_not];exact decide_eq_decide.2 (by omega)
  rw[e1]
  go_enter Tryz.func102,Tryz.ntmps102
  go_wp2
  go_ret
  exact⟨rfl,rfl⟩
def uI (n:Int)(i:Int):Bool:=!(decide (0<=i)&&decide (i<n))
theorem LQ (v:Value)(l:List Int)(n:Int)(B:Nat)(w:World)(h:Reads w 1 v (ints l))(hc:w.cell? ⟨B,0,none⟩=some (.int .i64 n)):
 Calls Tryz.prog 145 #[v, .func (.func 102) #[] #[.pointer (some ⟨B,0,none⟩)]] w (fun e w'=> ∃r:Int,e= .returned (.int .i64 r)/\(decide (0<=r)=l.any (uI n))/\w=w'):=by
 obtain⟨pa,ca,rfl,a1,a2,a3⟩:=h.at
 unfold maxLen at a2
 have A3:=Lib.hid a3
 have HC:=Lib.hid hc
 clear h a3 hc
 go_enter Tryz.func145,Tryz.ntmps145
 go_wp2_with fail
 go_loopw [8] (fun i wr=> ∃k:Nat,k<=l.length/\i= .int .i64 (k:Int)/\(l.take k).any (uI n)=false/\wr=w) (fun i _=>l.length-(intOf i).toNat)
 case atStart=>exact⟨0,by omega,rfl,by simp,rfl⟩
 case round=>
  obtain⟨k,hk,rfl,ht,rfl⟩:=hrel
  have HT:=Lib.hid ht
  clear ht
  by_cases hlt:k<l.length
  ·obtain⟨y,hy⟩: ∃y,l[k]?=some y:=⟨_,List.getElem?_eq_getElem hlt⟩
   obtain⟨b,off,rfl,hcc⟩:=A3.out.resolve_left (fun h=>by rw[h]at hlt;simp at hlt)
   have y0:=hcc k y hy
   have HY:=Lib.hid hy
   have cc:=abq y n B wr HC.out
   change Calls Tryz.prog 102 #[.int .i64 y, .pointer (some ⟨B,0,none⟩)] wr (fun e w'=>e= .returned (.bool (uI n y))/\wr=w')at cc
   clear hcc hy A3
   cases ho:uI n y with
   |true=>
    rw[ho]at cc
    have F:=Lib.hid (show l.any (uI n)=true by rw[List.any_eq_true];exact⟨y,List.mem_of_getElem? HY.out,ho⟩)
    clear ho
    go_wp2_with (go_at_call 102;refine cc.mono ?_;rintro e w' ⟨rfl,rfl⟩)
    go_ret
    exact⟨k,rfl,by rw[F.out,decide_eq_true (by omega)],rfl⟩
   |false=>
    rw[ho]at cc
    have F:=Lib.hid (zN HY.out HT.out ho)
    clear ho
    go_wp2_with (go_at_call 102;refine cc.mono ?_;rintro e w' ⟨rfl,rfl⟩)
    go_roundw
    case rel=>exact⟨k+1,by omega,by go_num,F.out,by first|trivial|rfl⟩
    case measure=>simp[intOf];omega
  ·have F:=Lib.hid (show l.any (uI n)=false by have:=HT.out;rwa[List.take_of_length_le (by omega)]at this)
   have e1:k=l.length:=by omega
   subst e1
   go_wp2_with fail
   go_ret
   exact⟨-1,rfl,by rw[F.out];rfl,rfl⟩
theorem wC (v:Value)(l:List Int)(n:Int)(B:Nat)(w:World)(h:Reads w 1 v (ints l))(hc:w.cell? ⟨B,0,none⟩=some (.int .i64 n)):
 Calls Tryz.prog 101 #[v, .func (.func 102) #[] #[.pointer (some ⟨B,0,none⟩)]] w (fun e w'=>e= .returned (.bool (l.any (uI n)))/\w=w'):=by
 have c:=LQ v l n B w h hc
 obtain⟨pa,ca,rfl,a1,a2,a3⟩:=h.at
 clear h a3 hc
 go_enter Tryz.func101,Tryz.ntmps101
 go_wp2_with fail
 refine c.mono ?_
 rintro e w2 ⟨r,rfl,hn,rfl⟩
 have F:=Lib.hid hn
 clear hn
 go_wp2_with fail
 go_ret
 exact⟨jA (by rw[<-F.out]),rfl⟩
theorem aad (x:Ex):jO x=(x.op==0&&x.n==0&&decide (x.args.length=0)):=by
 unfold jO
 cases x.args<;>simp
theorem RY (p:Option Addr)(n cap:Nat)(w:World):Calls Tryz.prog 108 #[.slice p n cap, .slice none 0 0, .func (.func 68) #[] #[]] w (fun e w'=>e= .returned (.bool (decide (n=0)))/\w=w'):=by
 go_enter Tryz.func108,Tryz.ntmps108
 by_cases h:n=0
 ·subst h
  go_wp2_with fail
  go_loopg [17] 1 (fun g vi wr=>vi= .int .i64 0/\wr=w)
  case atStart=>exact⟨rfl,rfl⟩
  case round=>
   obtain⟨rfl,rfl⟩:=hrel
   go_wp2_with fail
   go_ret
   exact⟨rfl,rfl⟩
 ·have e:((n:Int) !=0)=true:=by simp;omega
  rw[decide_eq_false h]
  clear h
  go_wp2_with fail
  go_ret
  exact⟨rfl,rfl⟩
theorem MV (x:Ex)(a:Array Value)(w:World)(h:bg w a x):Calls Tryz.prog 68 #[.agg a, .agg #[.int .u8 0, .int .i64 0, .slice none 0 0]] w (Gives w (.bool (jO x))):=by
 obtain⟨p,cap,rfl,h0,h1,h2,h3,h4,h5⟩:=h.parts
 have HX:=Lib.hid (aad x)
 unfold maxLen at h4
 clear h h5
 go_enter Tryz.func68,Tryz.ntmps68
 by_cases b1:x.op=0
 ·have c1:(x.op==0)=true:=by simp[b1]
  rw[c1]at HX
  by_cases b2:x.n=0
  ·have c2:(x.n==0)=true:=by simp[b2]
   rw[c2]at HX
   by_cases b3:x.args.length=0
   ·have c3:decide (x.args.length=0)=true:=by simp[b3]
    rw[c3]at HX
    have cc:=fun w=>RY p x.args.length cap w
    rw[c3]at cc
    clear b1 b2 b3 c3
    go_wp2_with fail
    refine(cc _).mono ?_
    rintro e w2 ⟨rfl,rfl⟩
    go_wp2_with fail
    go_ret
    exact⟨aU (by rw[HX.out];rfl),((Kept.refl _ _).alloc _).alloc _⟩
   ·have c3:decide (x.args.length=0)=false:=by simp[b3]
    rw[c3]at HX
    have cc:=fun w=>RY p x.args.length cap w
    rw[c3]at cc
    clear b1 b2 b3 c3
    go_wp2_with fail
    refine(cc _).mono ?_
    rintro e w2 ⟨rfl,rfl⟩
    go_wp2_with fail
    go_ret
    exact⟨aU (by rw[HX.out];rfl),((Kept.refl _ _).alloc _).alloc _⟩
  ·have c2:(x.n==0)=false:=by simp[b2]
   rw[c2]at HX
   clear b1 b2
   go_wp2_with fail
   go_ret
   exact⟨aU (by rw[HX.out];rfl),((Kept.refl _ _).alloc _).alloc _⟩
 ·have c1:(x.op==0)=false:=by simp[b1]
  rw[c1]at HX
  clear b1
  go_wp2_with fail
  go_ret
  exact⟨aU (by rw[HX.out];rfl),((Kept.refl _ _).alloc _).alloc _⟩
end
section
open Go Go.RowKit
def jF (a b t:Int)(c:Bool)(n:Int):List Value:=[.int .i64 a, .int .i64 b, .int .u8 t, .bool c, .int .i64 n]
def rX:Array Value:=(jF 0 0 0 false 0++jF 0 0 0 false 0++jF 1 1 1 false 0++jF 1 1 2 false 0++jF 1 1 1 false 0++jF 1 1 1 false 0++jF 1 1 1 true 0++jF 1 1 0 false 16++jF 2 3 0 false 0++jF 1 1 0 false 0).toArray
theorem Xj (w:World):Calls Tryz.prog 99 #[] w (fun e w'=>e= .returned (.agg rX)/\Kept none' w w'/\w'.heap.size=w.heap.size+1):=by
 go_enter Tryz.func99,Tryz.ntmps99
 apply wp_seq_k;intro K0 hK0
 have VZ:=Lib.hid hK0
 clear hK0
 go_wp2_with fail
 refine VZ.out _ _ ?_
 clear VZ
 obtain⟨W0,hW0⟩: ∃W0,(w.alloc (.cells #[.int .i64 0, .int .i64 0, .int .u8 0, .bool false, .int .i64 0, .int .i64 0, .int .i64 0, .int .u8 0, .bool false, .int .i64 0, .int .i64 0, .int .i64 0, .int .u8 0, .bool false, .int .i64 0, .int .i64 0, .int .i64 0, .int .u8 0, .bool false, .int .i64 0, .int .i64 0, .int .i64 0, .int .u8 0, .bool false, .int .i64 0, .int .i64 0, .int .i64 0, .int .u8 0, .bool false, .int .i64 0, .int .i64 0, .int .i64 0, .int .u8 0, .bool false, .int .i64 0, .int .i64 0, .int .i64 0, .int .u8 0, .bool false, .int .i64 0, .int .i64 0, .int .i64 0, .int .u8 0, .bool false, .int .i64 0, .int .i64 0, .int .i64 0, .int .u8 0, .bool false, .int .i64 0] 162))=W0:=⟨_,rfl⟩
 have hB: ∃old,W0.heap[w.heap.size]?=some (.cells old 162 (0,0))/\old.size=50:=by rw[<-hW0];exact⟨_,heap_alloc_new _ _,rfl⟩
 have hk:Kept none' w W0/\W0.heap.size=w.heap.size+1:=by rw[<-hW0];exact⟨(Kept.refl _ _).alloc _,by simp⟩
 rw[hW0]
 clear hW0
 obtain⟨old,hB,hold⟩:=hB
 apply wp_seq_k;intro K1 hK1
 apply wp_region_lit
 refine wpList_buildTo rfl 161 _ rfl (some 1) rfl (jF 0 0 0 false 0).toArray (by kernel_rfl) ?_
 refine wpList_buildTo rfl 161 _ rfl (some 2) rfl (jF 1 1 1 false 0).toArray (by kernel_rfl) ?_
 refine wpList_buildTo rfl 161 _ rfl (some 3) rfl (jF 1 1 2 false 0).toArray (by kernel_rfl) ?_
 refine wpList_buildTo rfl 161 _ rfl (some 4) rfl (jF 1 1 1 false 0).toArray (by kernel_rfl) ?_
 refine wpList_buildTo rfl 161 _ rfl (some 5) rfl (jF 1 1 1 false 0).toArray (by kernel_rfl) ?_
 refine wpList_buildTo rfl 161 _ rfl (some 6) rfl (jF 1 1 1 true 0).toArray (by kernel_rfl) ?_
 refine wpList_buildTo rfl 161 _ rfl (some 7) rfl (jF 1 1 0 false 16).toArray (by kernel_rfl) ?_
 refine wpList_buildTo rfl 161 _ rfl (some 8) rfl (jF 2 3 0 false 0).toArray (by kernel_rfl) ?_
 refine wpList_buildTo rfl 161 _ rfl (some 9) rfl (jF 1 1 0 false 0).toArray (by kernel_rfl) ?_
 refine wpList_buildTo rfl 162 _ rfl (some 10) rfl rX (by kernel_rfl) ?_
 refine wpList_store_rowTo rfl 162 _ _ rfl rfl w.heap.size rX (by as_aux_lemma=>kernel_rfl) (by as_aux_lemma=>kernel_rfl) 162 old hB (by kernel_rfl) hold (by kernel_rfl) ?_
 apply wpList_nil
 refine hK1 _ _ ?_
 have hset:=setRow_heap W0 w.heap.size old rX 162 (0,0) hB
 have hks:Kept none' w (W0.setRow w.heap.size rX)/\(W0.setRow w.heap.size rX).heap.size=w.heap.size+1:=by
  unfold World.setRow
  refine⟨⟨hk.1.os,hk.1.tape,hk.1.output,by simp[hk.2],fun k hkk hn=>?_⟩,by simp[hk.2]⟩
  rw[<-hk.1.block k hkk hn]
  simp only[Array.getElem?_modify]
  rw[if_neg (by omega)]
 have HS:=Lib.hid (And.intro hset hks)
 clear hset hks hk hB
 apply wp_ret
 refine bodyPost_ret (results_cell_row (p:=0) (ty:=162) rfl _ _ w.heap.size 162 rX (0,0) _ (by as_aux_lemma=>kernel_rfl) HS.out.1 Tryz.underlying162 rfl (by kernel_rfl)) rfl ⟨rfl,HS.out.2⟩
theorem xY {a b:Bool}(h:a=b):Ending.returned (.bool a)= .returned (.bool b):=by rw[h]
theorem Gh (r:Nat):jo r=true↔(97<=(r:Int)/\(r:Int)<=122)\/(65<=(r:Int)/\(r:Int)<=90)\/(191<(r:Int)/\(r:Int)≠65533):=by
 unfold jo
 simp only[Bool.or_eq_true,Bool.and_eq_true,decide_eq_true_eq,bne_iff_ne,ne_eq]
 omega
theorem JE (r:Nat):iQ r=true↔jo r=true\/(48<=(r:Int)/\(r:Int)<=57)\/(r:Int)=45:=by
 unfold iQ
 simp only[Bool.or_eq_true,Bool.and_eq_true,decide_eq_true_eq,beq_iff_eq]
 have e:r=45↔(r:Int)=45:=by omega
 have e1:48<=r/\r<=57↔48<=(r:Int)/\(r:Int)<=57:=by omega
 rw[or_assoc,e,e1]
theorem abp {s:ByteArray}(hd: ∀q∈runes s,iQ q.2=true)(hh: ∀q,(runes s).head?=some q->jo q.2=true):
 fK s=(decide (0<((runes s).length:Int))&&decide (((runes s).length:Int)<=24)):=by
 unfold fK
 cases e:runes s with
 |nil=>rfl
 |cons p l=>
  rw[e]at hd hh
  show(jo p.2&&(p::l).all (fun q=>iQ q.2)&&decide ((p::l).length<=24))=_
  rw[hh p rfl,List.all_eq_true.2 hd,Bool.true_and,Bool.true_and,decide_eq_true (show 0<((p::l).length:Int) by simp),Bool.true_and]
  exact decide_eq_decide.2 (by omega)
theorem LD {s:ByteArray}{done left:List (Nat×Nat)}{p:Nat×Nat}(h:runes s=done++p::left)(hp:(done=[]/\jo p.2=false)\/iQ p.2=false):fK s=false:=by
 unfold fK
 rw[h]
 rcases hp with⟨rfl,hp⟩|hp
 ·rw[List.nil_append,Js,hp];rfl
 ·have: ∀l:List (Nat×Nat),p∈l->Js l=false:=by
   intro l hl
   cases l with
   |nil=>rfl
   |cons q l=>
    have:(q::l).all (fun q=>iQ q.2)=false:=List.all_eq_false.2 ⟨p,hl,by simp[hp]⟩
    rw[Js,this];simp
  exact this _ (by simp)
theorem JC (r:Nat)(w:World):Calls Tryz.prog 143 #[.int .i32 (r:Int)] w fun e w'=>e= .returned (.bool (jo r))/\w=w':=by
 go_enter Tryz.func143,Tryz.ntmps143
 go_wp2
 all_goals
  go_ret
  refine⟨xY ?_,rfl⟩
  rw[Bool.eq_iff_iff,Gh]
  simp only[Bool.or_eq_true,decide_eq_true_eq,bne_iff_ne,ne_eq,Bool.false_eq_true,true_iff,false_iff]
  omega
theorem ZB (r:Nat)(w:World):Calls Tryz.prog 144 #[.int .i32 (r:Int)] w fun e w'=>e= .returned (.bool (iQ r))/\w=w':=by
 have hr:=JE r
 go_enter Tryz.func144,Tryz.ntmps144
 go_wp2_with (go_at_call 143;refine(JC _ _).mono ?_;rintro e w' ⟨rfl,rfl⟩)
 all_goals
  go_ret
  refine⟨xY ?_,rfl⟩
  rw[Bool.eq_iff_iff,hr]
  simp only[Bool.or_eq_true,decide_eq_true_eq,beq_iff_eq,Bool.false_eq_true,true_or,false_or,true_and, *]
  try omega
theorem name_any (s:ByteArray)(hs:s.size<=maxLen)(w:World):Calls Tryz.prog 98 #[.string s] w fun e w'=>e= .returned (.bool (fK s))/\Kept none' w w':=by
 obtain⟨w0,hrun,hit,hk0,hs0⟩:=C9 (P:=Tryz.prog) w 9 s Tryz.underlying9
 have hlen:=sV s
 have H:=Lib.hid (And.intro hit (And.intro hk0 hs0))
 clear hit hk0 hs0
 unfold maxLen at hs
 go_enter Tryz.func98,Tryz.ntmps98
 go_wp2
 go_loopg [3] (runes s).length (fun k i wr=> ∃left done,rF wr w.heap.size s left/\runes s=done++left/\left.length=k/\i= .int .i64 ((done.length:Nat):Int)/\(∀q∈done,iQ q.2=true)/\(∀q,done.head?=some q->jo q.2=true)/\Kept none' w wr)
 case atStart=>exact⟨runes s,[],H.out.1,rfl,rfl,rfl,by simp,by simp,H.out.2.1⟩
 case round=>
  obtain⟨left,done,hit,hall,hk,rfl,hd,hh,hk1⟩:=hrel
  have A:=Lib.hid (And.intro hall (And.intro hd (And.intro hh (And.intro hk hk1))))
  clear hall hd hh hk hk1
  rcases hit.next (P:=Tryz.prog) 0 with⟨rfl,hrun⟩|⟨p,left',w2,hp,hrun,hit2,hk2,hs2⟩
  ·clear hit
   obtain⟨h1,h2,h3,h4,h5⟩:=A.out
   rw[List.append_nil]at h1
   subst h1
   have F:=Lib.hid (abp h2 h3)
   clear h2 h3 A
   go_wp2
   all_goals
    go_ret
    refine⟨xY ?_,h5⟩
    rw[F.out,Bool.eq_iff_iff]
    simp only[Bool.and_eq_true,decide_eq_true_eq,Bool.false_eq_true,false_iff,iff_and_self, *]
    try omega
  ·clear hit
   have hk3:Kept none' w w2:=A.out.2.2.2.2.new hk2 (fun i hi e=>by unfold one at e;omega)
   have hl:runes s=done++p::left':=by rw[A.out.1,hp]
   have hstep:iQ p.2=true->(done=[]->jo p.2=true)->(∀q∈done++[p],iQ q.2=true)/\(∀q,(done++[p]).head?=some q->jo q.2=true):=fun g1 g2=>by
    refine⟨fun q hq=>?_,fun q hq=>?_⟩
    ·rcases List.mem_append.1 hq with hq|hq
     ·exact A.out.2.1 q hq
     ·rw[List.mem_singleton.1 hq];exact g1
    ·cases done with
     |nil=>simp at hq;subst hq;exact g2 rfl
     |cons x d=>exact A.out.2.2.1 q (by simpa using hq)
   have hm:left'.length<gk:=by have:=A.out.2.2.2.1;rw[hp]at this;simp at this;omega
   have G:=Lib.hid (And.intro hit2 (And.intro hk3 (And.intro hl (And.intro hstep hm))))
   clear hit2 hk3 hl hstep hm hp hk2 hs2 A H hlen
   go_wp2_with (first|(go_at_call 143;refine(JC _ _).mono ?_;rintro e w' ⟨rfl,rfl⟩)|(go_at_call 144;refine(ZB _ _).mono ?_;rintro e w' ⟨rfl,rfl⟩))
   ·rename_i h1 h2 h3
    go_ret
    exact⟨xY (LD G.out.2.2.1 (.inr (by simpa using h3))).symm,G.out.2.1⟩
   ·rename_i h1 h2 h3
    go_roundg left'.length
    case rel=>
     obtain⟨g1,g2⟩:=G.out.2.2.2.1 (by simpa using h3) (fun _=>h2)
     exact⟨left',done++[p],G.out.1,by rw[G.out.2.2.1];simp,rfl,by subst h1;rfl,g1,g2,G.out.2.1⟩
    case measure=>exact G.out.2.2.2.2
   ·rename_i h1 h2
    go_ret
    exact⟨xY (LD G.out.2.2.1 (.inl ⟨h1,by simpa using h2⟩)).symm,G.out.2.1⟩
   ·rename_i h1 h3
    go_ret
    exact⟨xY (LD G.out.2.2.1 (.inr (by simpa using h3))).symm,G.out.2.1⟩
   ·rename_i h1 h3
    have hlt:done.length<9223372036854775807:=by
     have:=sV s
     rw[G.out.2.2.1]at this
     simp at this
     omega
    go_roundg left'.length
    case rel=>
     obtain⟨g1,g2⟩:=G.out.2.2.2.1 (by simpa using h3) (fun h=>absurd h h1)
     exact⟨left',done++[p],G.out.1,by rw[G.out.2.2.1];simp,rfl,by rw[show wrap64 ((done.length:Int)+1)=((done.length+1:Nat):Int) by unfold wrap64;omega,List.length_append];rfl,g1,g2,G.out.2.1⟩
    case measure=>exact G.out.2.2.2.2
end
section
open Go
section
variable {P:Program} {ops:Array Oper} {C:World->Prop} {Q:Act->World->Prop}
def OJ (ops:Array Oper)(listed:Array Bool):Option Nat:=
 (List.range ops.size).find? fun k=>Cb ops k&&(Region.ready .any ops listed).contains k&&Region.free .any ops listed k
def oM (P:Program)(ops:Array Oper)(C:World->Prop)(Q:Act->World->Prop):Nat->Array Bool->Act->World->Prop
 |0,listed,a,w=>C w/\(List.range ops.size).all (fun k=>listed.getD k true)=true/\Q a w
 |n+1,listed,a,w=>
  match OJ ops listed with
  |some k=>match ops[k]? with
   |none=>False
   |some o=> ∃v,(Region.wanted o (yielded ops a.tmps)=true/\(∀w',C w'->(execOp a.eval o).run P w'= .ok (.value v) w')\/Region.wanted o (yielded ops a.tmps)=false/\v=undef)/\oM P ops C Q n (listed.setIfInBounds k true) (a.put o.dst v) w
  |none=>Region.ready .any ops listed≠[]/\ ∀k∈Region.ready .any ops listed,∃o,ops[k]?=some o/\
    (if Region.wanted o (yielded ops a.tmps)=true then o.wp P a w (fun a' w'=>C w'/\oM P ops C Q n (listed.setIfInBounds k true) a' w') (mX Q)
     else oM P ops C Q n (listed.setIfInBounds k true) (a.put o.dst undef) w)
theorem uY (hs:Region.noSelect ops=true): ∀(n:Nat)(listed:Array Bool)(a:Act)(w:World),C w->oM P ops C Q n listed a w->zU P .any ops C false Q n listed a w
 |0,listed,a,w,hC,h=>by
  refine⟨fun _=>hC,fun k o hk=>?_,h.2.2⟩
  have:=h.2.1
  simp only[List.all_eq_true,List.mem_range]at this
  exact this k (Array.getElem?_eq_some_iff.1 hk).1
 |n+1,listed,a,w,hC,h=>by
  unfold oM at h
  split at h
  ·rename_i k hk
   have hk2:=List.find?_some hk
   simp only[Bool.and_eq_true]at hk2
   split at h
   ·exact h.elim
   ·rename_i o hok
    obtain⟨v,hv,hn⟩:=h
    have hr:k∈Region.ready .any ops listed:=by simpa using hk2.1.2
    exact xH hok (Region.noSelect_spec hs) n listed a w (Region.free_spec hok hk2.2) hC (fun hb=>by cases hb) hr hv (uY hs n _ _ w hC hn)
  ·refine⟨hC,fun h0=>absurd h0 h.1,fun k hk=>?_⟩
   obtain⟨o,hok,h2⟩:=h.2 k hk
   unfold wpOp
   simp only[hok]
   by_cases hw:Region.wanted o (yielded ops a.tmps)=true
   ·simp only[hw,if_true]at h2⊢
    exact .inl (Oper.wp_mono (fun a' w' h'=>uY hs n _ a' w' h'.1 h'.2) h2)
   ·simp only[hw]at h2⊢
    exact uY hs n _ _ w hC h2
theorem KN {id:Nat}{Q:Exit->Act->World->Prop}{a:Act}{w:World}(C:World->Prop)(hm:P.follows .mixedOrders=true)(hs:Region.noSelect ops=true)
 (hC:C w.drew) (h:oM P ops C (Q .normal) ops.size (Array.replicate ops.size false) a w.drew):(Code.region id ops true).wp P Q a w:=
 wp_region_any hm (A8 (C:=C) (bar:=false) (Q:=Q .normal) (fun _ _ h=>h) _ _ _ _ (uY hs _ _ _ _ hC h))
theorem wF {n k:Nat}{listed:Array Bool}{a:Act}{w:World}{o:Oper}{v:Value}(hp:OJ ops listed=some k)(ho:ops[k]?=some o)(hw:Region.wanted o (yielded ops a.tmps)=true)
 (hv: ∀w',C w'->(execOp a.eval o).run P w'= .ok (.value v) w') (h:oM P ops C Q n (listed.setIfInBounds k true) (a.put o.dst v) w):oM P ops C Q (n+1) listed a w:=by
 unfold oM
 rw[hp]
 simp only[ho]
 exact⟨v, .inl ⟨hw,hv⟩,h⟩
theorem yT {n k:Nat}{listed:Array Bool}{a:Act}{w:World}{o:Oper}(hp:OJ ops listed=none)(hr:Region.ready .any ops listed=[k])(ho:ops[k]?=some o)(hw:Region.wanted o (yielded ops a.tmps)=true)
 (h: ∀K:Act->World->Prop,(∀a' w',C w'->oM P ops C Q n (listed.setIfInBounds k true) a' w'->K a' w')->o.wp P a w K (mX Q)):oM P ops C Q (n+1) listed a w:=by
 unfold oM
 rw[hp,hr]
 refine⟨by simp,fun j hj=>?_⟩
 obtain rfl:j=k:=by simpa using hj
 refine⟨o,ho,?_⟩
 rw[if_pos hw]
 exact h _ fun a' w' h1 h2=>⟨h1,h2⟩
theorem aaN {n i k:Nat}{listed:Array Bool}{a:Act}{w:World}{o o':Oper}(hp:OJ ops listed=none)(hr:Region.ready .any ops listed=[i,k])(ho:ops[i]?=some o)(hw:Region.wanted o (yielded ops a.tmps)=true)
 (ho':ops[k]?=some o') (hw':Region.wanted o' (yielded ops a.tmps)=true)
 (h: ∀K:Act->World->Prop,(∀a' w',C w'->oM P ops C Q n (listed.setIfInBounds i true) a' w'->K a' w')->o.wp P a w K (mX Q))
 (h': ∀K:Act->World->Prop,(∀a' w',C w'->oM P ops C Q n (listed.setIfInBounds k true) a' w'->K a' w')->o'.wp P a w K (mX Q)):oM P ops C Q (n+1) listed a w:=by
 unfold oM
 rw[hp,hr]
 refine⟨by simp,fun j hj=>?_⟩
 have hj:j=i\/j=k:=by simpa using hj
 rcases hj with rfl|rfl
 ·refine⟨o,ho,?_⟩
  rw[if_pos hw]
  exact h _ fun a' w' h1 h2=>⟨h1,h2⟩
 ·refine⟨o',ho',?_⟩
  rw[if_pos hw']
  exact h' _ fun a' w' h1 h2=>⟨h1,h2⟩
theorem Ph {listed:Array Bool}{a:Act}{w:World}(hl:(List.range ops.size).all (fun k=>listed.getD k true)=true)(hC:C w)(h:Q a w):oM P ops C Q 0 listed a w:=⟨hC,hl,h⟩
end
end
end Go.Proofs.YtakhobfamnjnoaaGreatDoor
