/- kind: accs, Of, Is; expr: Same at none. -/
import Derived.Test.YtopeleenlcnkkaaGreatDoorM20
set_option linter.unusedVariables false
set_option linter.unusedSimpArgs false
set_option maxHeartbeats 1000000
set_option maxRecDepth 100000
namespace Go.Proofs.YtopeleenlcnkkaaGreatDoor
section
open Go Go.RowKit
attribute [local irreducible] bU
theorem Va (x:Ex):jB x=(x.op==4||x.args.any jB):=by
 cases x
 rw[jB,Ba];rfl
theorem Bl {α:Type}{l:List α}{k:Nat}{x:α}{p:α->Bool}(h:l[k]?=some x)(ht:(l.take k).any p=false)(hx:p x=false):(l.take (k+1)).any p=false:=by
 rw[List.take_add_one,h,List.any_append,ht];simp[hx]
theorem ML: ∀(N:Nat)(x:Ex)(a:Array Value)(w:World),SizeOf.sizeOf x<=N->aF w a x->Calls Tryz.prog 154 #[.agg a] w (Gives w (.bool (jB x)))
 |0,x,_,_,h,_=>by cases x;simp at h
 |N+1,x,a,w,hN,h=>by
  obtain⟨p,cap,rfl,h0,h1,h2,h3,h4,h5⟩:=h.parts
  have sub: ∀(i:Nat)(y:Ex),x.args[i]?=some y->SizeOf.sizeOf y<=N:=by
   intro i y hy
   obtain⟨op,n,args⟩:=x
   have h1:=List.sizeOf_lt_of_mem (List.mem_of_getElem? (show args[i]?=some y from hy))
   simp at hN
   omega
  have IH:=Lib.hid (fun y a w hy=>ML N y a w hy)
  have SB:=Lib.hid sub
  have H5:=Lib.hid h5
  have HX:=Lib.hid (Va x)
  unfold maxLen at h4
  clear h h5 sub hN
  go_enter Tryz.func154,Tryz.ntmps154
  by_cases hop:x.op=4
  ·have hb:(x.op==4)=true:=by simp[hop]
   have F:=Lib.hid (show jB x=true by rw[HX.out,hb];rfl)
   clear hop
   go_wp2_with fail
   go_ret
   exact⟨dO (by rw[F.out]),(Kept.refl _ _).alloc _⟩
  ·have hb:(x.op==4)=false:=by simp[hop]
   have HY:=Lib.hid (show jB x=x.args.any jB by rw[HX.out,hb];rfl)
   clear hop
   go_wp2_with fail
   obtain⟨W0,hW0⟩: ∃W0,w.alloc (.cells #[.int .u8 x.op, .int .i64 x.n, .slice p x.args.length cap] 95)=W0:=⟨_,rfl⟩
   have k0:Kept none' w W0:=by rw[<-hW0];exact(Kept.refl _ _).alloc _
   rw[hW0]
   have K0:=Lib.hid k0
   clear hW0 k0
   go_loopg [11] x.args.length (fun g vi wr=> ∃(k:Nat),k<=x.args.length/\vi= .int .i64 (k:Int)/\x.args.length-k<=g/\(x.args.take k).any jB=false/\Kept none' w wr)
   case atStart=>exact⟨0,by omega,rfl,by omega,by simp,K0.out⟩
   case round=>
    obtain⟨k,hkl,rfl,hg,hno,hkp⟩:=hrel
    by_cases hlt:k<x.args.length
    ·obtain⟨y,hy⟩: ∃y,x.args[k]?=some y:=⟨_,List.getElem?_eq_getElem hlt⟩
     obtain⟨b,off,p',cap',rfl,q0,q1,q2,hy2⟩:=H5.out k y hy
     have r0:=hkp.cell (p:=⟨b,off+k*3,none⟩) (fun h=>h) q0
     have r1:=hkp.cell (p:=⟨b,off+k*3+1,none⟩) (fun h=>h) q1
     have r2:=hkp.cell (p:=⟨b,off+k*3+2,none⟩) (fun h=>h) q2
     have G:=Lib.hid (And.intro hg (And.intro (aF.pure hkp hy2) (And.intro hkp (And.intro (SB.out k y hy) (And.intro hy hno)))))
     clear q0 q1 q2 hy hy2 hkp hg H5 hno
     go_wp2_with fail
     have ka:Kept none' wr (wr.alloc (.cells #[.int .u8 y.op, .int .i64 y.n, .slice p' y.args.length cap'] 95)):=(Kept.refl _ _).alloc _
     have c:=IH.out y _ (wr.alloc (.cells #[.int .u8 y.op, .int .i64 y.n, .slice p' y.args.length cap'] 95)) G.out.2.2.2.1 (aF.pure ka G.out.2.1)
     (with_reducible refine c.mono ?_)
     clear c
     rintro e w2 ⟨rfl,k2⟩
     have K2:=Lib.hid (G.out.2.2.1.trans (ka.trans k2))
     clear k2 ka
     cases hA:jB y with
     |true=>
      have F:=Lib.hid (show jB x=true by rw[HY.out,List.any_eq_true];exact⟨y,List.mem_of_getElem? G.out.2.2.2.2.1,hA⟩)
      clear hA
      go_wp2_with fail
      go_ret
      exact⟨dO (by rw[F.out]),K2.out⟩
     |false=>
      have F:=Lib.hid (Bl G.out.2.2.2.2.1 G.out.2.2.2.2.2 hA)
      clear hA
      go_wp2_with fail
      go_roundg (x.args.length-(k+1))
      case rel=>exact⟨k+1,by omega,by go_num,Nat.le_refl _,F.out,K2.out⟩
      case measure=>have:=G.out.1;omega
    ·have F:=Lib.hid (And.intro (show jB x=false by rw[HY.out];rwa[List.take_of_length_le (by omega)]at hno) hkp)
     clear hno hkp
     go_wp2_with fail
     go_ret
     exact⟨dO (by rw[F.out.1]),F.out.2⟩
theorem Qo (x:Ex):jZ x true=nZ x:=by
 unfold jZ nZ
 split
 ·rfl
 ·rw[if_neg (by simp)]
theorem NQ (x:Ex)(a:Array Value)(w:World)(h:aF w a x):Calls Tryz.prog 128 #[.agg a, .bool false] w (sH w (jZ x false)):=by
 obtain⟨p,cap,rfl,h0,h1,h2,h3,h4,h5⟩:=h.parts
 have H:=Lib.hid h
 clear h h5
 have hk0:Kept none' w (w.alloc (.cells #[.int .u8 x.op, .int .i64 x.n, .slice p x.args.length cap] 95)):=(Kept.refl _ _).alloc _
 obtain⟨W0,hW0⟩: ∃W0,w.alloc (.cells #[.int .u8 x.op, .int .i64 x.n, .slice p x.args.length cap] 95)=W0:=⟨_,rfl⟩
 have d0:W0.cell? ⟨w.heap.size,0,none⟩=some (.int .u8 x.op):=by rw[<-hW0];simp
 have d1:W0.cell? ⟨w.heap.size,1,none⟩=some (.int .i64 x.n):=by rw[<-hW0];simp
 have d2:W0.cell? ⟨w.heap.size,2,none⟩=some (.slice p x.args.length cap):=by rw[<-hW0];simp
 rw[hW0]at hk0
 have HK:=Lib.hid hk0
 have HW0:=Lib.hid hW0
 clear hk0 hW0
 go_enter Tryz.func128,Tryz.ntmps128
 go_wp2_with fail
 rw[HW0.out]
 (with_reducible refine(Ph x _ W0 (aF.pure HK.out H.out)).mono ?_)
 rintro e W1 ⟨rfl,k1⟩
 have c0:=k1.cell (p:=⟨w.heap.size,0,none⟩) (fun h=>h) d0
 have c1:=k1.cell (p:=⟨w.heap.size,1,none⟩) (fun h=>h) d1
 have c2:=k1.cell (p:=⟨w.heap.size,2,none⟩) (fun h=>h) d2
 have tK:=Lib.hid (HK.out.trans k1)
 clear k1 d0 d1 d2
 cases hm:bf 16 x with
 |false=>
  have F:sH w (jZ x false) (.returned (.tuple #[.int .u8 0, .int .i64 2])) W1:=⟨by unfold jZ;rw[if_pos hm],tK.out⟩
  have F':=Lib.hid F
  clear hm F
  go_wp2_with fail
  go_ret2
  exact F'.out
 |true=>
  have HM:=Lib.hid hm
  clear hm
  go_wp2_with fail
  (with_reducible refine(ML _ x _ W1 (Nat.le_refl _) (aF.pure tK.out H.out)).mono ?_)
  rintro e W1' ⟨rfl,k1⟩
  have c0:=k1.cell (p:=⟨w.heap.size,0,none⟩) (fun h=>h) c0
  have c1:=k1.cell (p:=⟨w.heap.size,1,none⟩) (fun h=>h) c1
  have c2:=k1.cell (p:=⟨w.heap.size,2,none⟩) (fun h=>h) c2
  have tK:=Lib.hid (tK.out.trans k1)
  clear k1
  cases hA:jB x with
  |true=>
   have F:sH w (jZ x false) (.returned (.tuple #[.int .u8 0, .int .i64 90])) W1':=⟨by unfold jZ;rw[if_neg (by rw[HM.out];simp),if_pos ⟨rfl,hA⟩],tK.out⟩
   have F':=Lib.hid F
   clear hA F
   go_wp2_with fail
   go_ret2
   exact F'.out
  |false=>
  have HA:=Lib.hid hA
  clear hA
  go_wp2_with fail
  refine ak [1,0,2,3] (fun W=>Kept none' W1' W) (by kernel_rfl) (by kernel_rfl) rfl (Kept.refl _ _).drew ?_
  simp only[List.map_cons,List.map_nil,List.getElem?_toArray,List.getElem?_cons_zero,List.getElem?_cons_succ,Option.getD_some]
  (apply aj rfl rfl;(intro W hW;have z0:=hW.cell (fun h=>h) c0;have z1:=hW.cell (fun h=>h) c1;have z2:=hW.cell (fun h=>h) c2;go_simp;rfl);go_frame)
  apply aA rfl rfl
  intro K hK
  go_wp2_with fail
  (with_reducible refine(Fj _).mono ?_)
  rintro e W2 ⟨m,rfl,r2,k2⟩
  have k2':Kept none' W1' W2:=k2.bI
  clear k2
  go_wp2_with fail
  refine hK _ _ (fun _=>k2') ?_
  clear hK
  apply aA rfl rfl
  intro K hK
  go_wp2_with fail
  have c:=J5 16 x _ m _ (aF.pure (tK.out.trans k2') H.out) HM.out r2
  (with_reducible refine c.mono ?_)
  clear c
  rintro e W3 ⟨rfl,k3⟩
  have dM:Kept none' W1' W3:=k2'.trans k3
  clear k2' k3 r2
  go_wp2_with fail
  refine hK _ _ (fun _=>dM) ?_
  clear hK
  (apply aj rfl rfl;(intro W hW;go_simp;rfl);go_frame)
  refine aI (fun _=>dM) ?_
  by_cases ht:aG 16 x=0
  ·have F:sH w (jZ x false) (.returned (.tuple #[.int .u8 0, .int .i64 91])) W3:=⟨by unfold jZ;rw[if_neg (by rw[HM.out];simp),if_neg (by rw[HA.out];simp),if_pos ht],tK.out.trans dM⟩
   have F':=Lib.hid F
   have hb:(aG 16 x==0)=true:=by simp[ht]
   clear F ht dM
   go_wp2_with fail
   go_ret2
   exact F'.out
  ·have F:sH w (jZ x false) (.returned (.tuple #[.int .u8 (aG 16 x), .int .i64 0])) W3:=⟨by unfold jZ;rw[if_neg (by rw[HM.out];simp),if_neg (by rw[HA.out];simp),if_neg ht],tK.out.trans dM⟩
   have F':=Lib.hid F
   have hb:(aG 16 x==0)=false:=by simp[ht]
   clear F ht dM
   go_wp2_with fail
   go_ret2
   exact F'.out
theorem NP (x:Ex)(acc:Bool)(a:Array Value)(w:World)(h:aF w a x):Calls Tryz.prog 128 #[.agg a, .bool acc] w (sH w (jZ x acc)):=by
 cases acc with
 |true=>rw[Qo];exact Du x a w h
 |false=>exact NQ x a w h
theorem Ux (x:Ex)(acc:Bool)(ty:Int)(a:Array Value)(w:World)(h:aF w a x):Calls Tryz.prog 107 #[.agg a, .bool acc, .int .u8 ty] w (Gives w (.bool (wR x acc ty))):=by
 obtain⟨p,cap,rfl,h0,h1,h2,h3,h4,h5⟩:=h.parts
 have H:=Lib.hid h
 clear h h5
 go_enter Tryz.func107,Tryz.ntmps107
 go_wp2_with fail
 have k0:Kept none' w (w.alloc (.cells #[.int .u8 x.op, .int .i64 x.n, .slice p x.args.length cap] 95)):=(Kept.refl _ _).alloc _
 have c:=NP x acc _ _ (aF.pure k0 H.out)
 (with_reducible refine c.mono ?_)
 clear c
 rintro e W2 ⟨rfl,k2⟩
 have HX:=Lib.hid (show wR x acc ty=((jZ x acc).2==0&&(jZ x acc).1==ty)from rfl)
 generalize jZ x acc=r at*
 obtain⟨r1,r2⟩:=r
 have K:=Lib.hid (k0.trans k2)
 clear k0 k2
 by_cases hr:r2=0
 ·have hb:(r2==0)=true:=by simp[hr]
  rw[hb]at HX
  clear hr
  go_wp2_with fail
  go_ret
  exact⟨dO (by rw[HX.out];rfl),K.out⟩
 ·have hb:(r2==0)=false:=by simp[hr]
  rw[hb]at HX
  clear hr
  go_wp2_with fail
  go_ret
  exact⟨dO (by rw[HX.out];rfl),K.out⟩
end
section
open Go Go.RowKit
def mV (w:World)(a:Array Value)(d:JN):Prop:=
 ∃pi ci p cap,a= #[.string d.uid, .int .u8 d.kind, .slice pi d.ins.length ci, .int .u8 d.x.op, .int .i64 d.x.n, .slice p d.x.args.length cap, .int .i64 d.n]/\
  aF w #[.int .u8 d.x.op, .int .i64 d.x.n, .slice p d.x.args.length cap] d.x/\Reads w 1 (.slice pi d.ins.length ci) (ints d.ins)/\(∀k∈d.ins,aK k)/\0<=d.kind/\d.kind<=255/\aK d.n/\d.uid.size<=maxLen
theorem Reads.EG {w w':World}{S:Nat->Prop}{k:Nat}{v:Value}{cs:List Value}(h:Reads w k v cs)(hk0:0<k)(hk:Kept S w w')(hS: ∀k,S k-> ∀c E f,w.heap[k]?≠some (.cells c E f)):Reads w' k v cs:=
 h.kept hk (fun b hb hs=>by obtain⟨c,E,f,h⟩:=h.isCells hk0 hb;exact hS b hs c E f h)
theorem mV.kept {w w':World}{S:Nat->Prop}(hk:Kept S w w')(hS: ∀k,S k-> ∀c E f,w.heap[k]?≠some (.cells c E f)){a:Array Value}{d:JN}(h:mV w a d):mV w' a d:=by
 obtain⟨pi,ci,p,cap,h1,h2,h3,h4⟩:=h
 exact⟨pi,ci,p,cap,h1,h2.kept hk hS,h3.EG (by omega) hk hS,h4⟩
theorem mV.pure {w w':World}(hk:Kept none' w w'){a:Array Value}{d:JN}(h:mV w a d):mV w' a d:=h.kept hk (fun _ h=>h.elim)
def dV (w:World)(v:Value)(L:List JN):Prop:=
 ∃cs:List Value,Reads w 7 v cs/\cs.length=L.length*7/\ ∀i d,L[i]?=some d->mV w ((cs.drop (i*7)).take 7).toArray d
theorem dV.kept {w w':World}{S:Nat->Prop}(hk:Kept S w w')(hS: ∀k,S k-> ∀c E f,w.heap[k]?≠some (.cells c E f)){v:Value}{L:List JN}(h:dV w v L):dV w' v L:=by
 obtain⟨cs,h1,h2,h3⟩:=h
 exact⟨cs,h1.EG (by omega) hk hS,h2,fun i d hd=>(h3 i d hd).kept hk hS⟩
theorem dV.pure {w w':World}(hk:Kept none' w w'){v:Value}{L:List JN}(h:dV w v L):dV w' v L:=h.kept hk (fun _ h=>h.elim)
structure Aq (w:World)(b o:Nat)(d:JN)(pi:Option Addr)(ci:Nat)(p:Option Addr)(cap:Nat):Prop where
 c0:w.cell? ⟨b,o,none⟩=some (.string d.uid)
 c1:w.cell? ⟨b,o+1,none⟩=some (.int .u8 d.kind)
 c2:w.cell? ⟨b,o+2,none⟩=some (.slice pi d.ins.length ci)
 c3:w.cell? ⟨b,o+3,none⟩=some (.int .u8 d.x.op)
 c4:w.cell? ⟨b,o+4,none⟩=some (.int .i64 d.x.n)
 c5:w.cell? ⟨b,o+5,none⟩=some (.slice p d.x.args.length cap)
 c6:w.cell? ⟨b,o+6,none⟩=some (.int .i64 d.n)
theorem Aq.kept {w w':World}{S:Nat->Prop}{b o:Nat}{d:JN}{pi:Option Addr}{ci:Nat}{p:Option Addr}{cap:Nat}(h:Aq w b o d pi ci p cap)(hk:Kept S w w')(hb: ¬S b):Aq w' b o d pi ci p cap:=
 ⟨hk.cell (p:=⟨b,o,none⟩) hb h.c0,hk.cell (p:=⟨b,o+1,none⟩) hb h.c1,hk.cell (p:=⟨b,o+2,none⟩) hb h.c2,hk.cell (p:=⟨b,o+3,none⟩) hb h.c3,hk.cell (p:=⟨b,o+4,none⟩) hb h.c4,hk.cell (p:=⟨b,o+5,none⟩) hb h.c5,hk.cell (p:=⟨b,o+6,none⟩) hb h.c6⟩
abbrev bF (d:JN)(pi:Option Addr)(ci:Nat)(p:Option Addr)(cap:Nat):Array Value:=
 #[.string d.uid, .int .u8 d.kind, .slice pi d.ins.length ci, .int .u8 d.x.op, .int .i64 d.x.n, .slice p d.x.args.length cap, .int .i64 d.n]
theorem dV.at {w:World}{v:Value}{L:List JN}(h:dV w v L): ∃a cap,v= .slice a L.length cap/\L.length<=cap/\cap<=maxLen/\
 ∀i d,L[i]?=some d-> ∃b off pi ci p cap',a=some ⟨b,off,none⟩/\Aq w b (off+i*7) d pi ci p cap'/\mV w (bF d pi ci p cap') d:=by
 obtain⟨cs,⟨a,n,cap,rfl,h1,h2,h3,h4⟩,h5,h6⟩:=h
 have hn:n=L.length:=by omega
 subst hn
 refine⟨a,cap,rfl,h1,h2,fun i d hd=>?_⟩
 have hi:i<L.length:=(List.getElem?_eq_some_iff.1 hd).1
 have hj:=h6 i d hd
 have hne:cs≠[]:=fun e=>by rw[e]at h5;simp at h5;omega
 obtain⟨b,off,rfl,hc⟩:=h4.resolve_left hne
 obtain⟨pi,ci,p,cap',e,hrest⟩:=hj
 have hl:(cs.drop (i*7)).take 7=(bF d pi ci p cap').toList:=by
  have:=congrArg Array.toList e
  simpa using this
 have get: ∀j v,(bF d pi ci p cap').toList[j]?=some v->cs[i*7+j]?=some v:=by
  intro j v hj
  rw[<-hl,List.getElem?_take]at hj
  split at hj
  ·rwa[List.getElem?_drop]at hj
  ·cases hj
 have cell: ∀j v,(bF d pi ci p cap').toList[j]?=some v->w.cell? ⟨b,off+i*7+j,none⟩=some v:=fun j v hj=>by
  have:=hc _ _ (get j v hj)
  rwa[<-Nat.add_assoc]at this
 exact⟨b,off,pi,ci,p,cap',rfl,⟨cell 0 _ rfl,cell 1 _ rfl,cell 2 _ rfl,cell 3 _ rfl,cell 4 _ rfl,cell 5 _ rfl,cell 6 _ rfl⟩,pi,ci,p,cap',rfl,hrest⟩
theorem dV.nil (w:World):dV w (.slice none 0 0) []:=⟨[],Reads.nil w 7,rfl,fun i d h=>by cases h⟩
end
end Go.Proofs.YtopeleenlcnkkaaGreatDoor
