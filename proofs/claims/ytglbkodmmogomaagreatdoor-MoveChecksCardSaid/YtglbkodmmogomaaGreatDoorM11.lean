/- kind: accs, Of, Is; expr: Same at none. -/
import Derived.Test.YtglbkodmmogomaaGreatDoorM10
set_option linter.unusedVariables false
set_option linter.unusedSimpArgs false
set_option maxHeartbeats 1000000
set_option maxRecDepth 100000
namespace Go.Proofs.YtglbkodmmogomaaGreatDoor
section
open Go Go.RowKit
attribute [local irreducible] bH
theorem DV (x:Ex):eG x=(x.op==4||x.args.any eG):=by
 cases x
 rw[eG,yQ];rfl
theorem uj {α:Type}{l:List α}{k:Nat}{x:α}{p:α->Bool}(h:l[k]?=some x)(ht:(l.take k).any p=false)(hx:p x=false):(l.take (k+1)).any p=false:=by
 rw[List.take_add_one,h,List.any_append,ht];simp[hx]
theorem G7: ∀(N:Nat)(x:Ex)(a:Array Value)(w:World),SizeOf.sizeOf x<=N->aC w a x->Calls Tryz.prog 197 #[.agg a] w (Gives w (.bool (eG x)))
 |0,x,_,_,h,_=>by cases x;simp at h
 |N+1,x,a,w,hN,h=>by
  obtain⟨p,cap,rfl,h0,h1,h2,h3,h4,h5⟩:=h.parts
  have sub: ∀(i:Nat)(y:Ex),x.args[i]?=some y->SizeOf.sizeOf y<=N:=by
   intro i y hy
   obtain⟨op,n,args⟩:=x
   have h1:=List.sizeOf_lt_of_mem (List.mem_of_getElem? (show args[i]?=some y from hy))
   simp at hN
   omega
  have IH:=Lib.hid (fun y a w hy=>G7 N y a w hy)
  have SB:=Lib.hid sub
  have H5:=Lib.hid h5
  have HX:=Lib.hid (DV x)
  unfold maxLen at h4
  clear h h5 sub hN
  go_enter Tryz.func197,Tryz.ntmps197
  by_cases hop:x.op=4
  ·have hb:(x.op==4)=true:=by simp[hop]
   have F:=Lib.hid (show eG x=true by rw[HX.out,hb];rfl)
   clear hop
   go_wp2_with fail
   go_ret
   exact⟨aF (by rw[F.out]),(Kept.refl _ _).alloc _⟩
  ·have hb:(x.op==4)=false:=by simp[hop]
   have HY:=Lib.hid (show eG x=x.args.any eG by rw[HX.out,hb];rfl)
   clear hop
   go_wp2_with fail
   obtain⟨W0,hW0⟩: ∃W0,w.alloc (.cells #[.int .u8 x.op, .int .i64 x.n, .slice p x.args.length cap] 40)=W0:=⟨_,rfl⟩
   have k0:Kept none' w W0:=by rw[<-hW0];exact(Kept.refl _ _).alloc _
   rw[hW0]
   have K0:=Lib.hid k0
   clear hW0 k0
   go_loopg [11] x.args.length (fun g vi wr=> ∃(k:Nat),k<=x.args.length/\vi= .int .i64 (k:Int)/\x.args.length-k<=g/\(x.args.take k).any eG=false/\Kept none' w wr)
   case atStart=>exact⟨0,by omega,rfl,by omega,by simp,K0.out⟩
   case round=>
    obtain⟨k,hkl,rfl,hg,hno,hkp⟩:=hrel
    by_cases hlt:k<x.args.length
    ·obtain⟨y,hy⟩: ∃y,x.args[k]?=some y:=⟨_,List.getElem?_eq_getElem hlt⟩
     obtain⟨b,off,p',cap',rfl,q0,q1,q2,hy2⟩:=H5.out k y hy
     have r0:=hkp.cell (p:=⟨b,off+k*3,none⟩) (fun h=>h) q0
     have r1:=hkp.cell (p:=⟨b,off+k*3+1,none⟩) (fun h=>h) q1
     have r2:=hkp.cell (p:=⟨b,off+k*3+2,none⟩) (fun h=>h) q2
     have G:=Lib.hid (And.intro hg (And.intro (aC.pure hkp hy2) (And.intro hkp (And.intro (SB.out k y hy) (And.intro hy hno)))))
     clear q0 q1 q2 hy hy2 hkp hg H5 hno
     go_wp2_with fail
     have ka:Kept none' wr (wr.alloc (.cells #[.int .u8 y.op, .int .i64 y.n, .slice p' y.args.length cap'] 40)):=(Kept.refl _ _).alloc _
     have c:=IH.out y _ (wr.alloc (.cells #[.int .u8 y.op, .int .i64 y.n, .slice p' y.args.length cap'] 40)) G.out.2.2.2.1 (aC.pure ka G.out.2.1)
     (with_reducible refine c.mono ?_)
     clear c
     rintro e w2 ⟨rfl,k2⟩
     have K2:=Lib.hid (G.out.2.2.1.trans (ka.trans k2))
     clear k2 ka
     cases hA:eG y with
     |true=>
      have F:=Lib.hid (show eG x=true by rw[HY.out,List.any_eq_true];exact⟨y,List.mem_of_getElem? G.out.2.2.2.2.1,hA⟩)
      clear hA
      go_wp2_with fail
      go_ret
      exact⟨aF (by rw[F.out]),K2.out⟩
     |false=>
      have F:=Lib.hid (uj G.out.2.2.2.2.1 G.out.2.2.2.2.2 hA)
      clear hA
      go_wp2_with fail
      go_roundg (x.args.length-(k+1))
      case rel=>exact⟨k+1,by omega,by go_num,Nat.le_refl _,F.out,K2.out⟩
      case measure=>have:=G.out.1;omega
    ·have F:=Lib.hid (And.intro (show eG x=false by rw[HY.out];rwa[List.take_of_length_le (by omega)]at hno) hkp)
     clear hno hkp
     go_wp2_with fail
     go_ret
     exact⟨aF (by rw[F.out.1]),F.out.2⟩
theorem KL (x:Ex):bU x true=qR x:=by
 unfold bU qR
 split
 ·rfl
 ·rw[if_neg (by simp)]
theorem Ir (x:Ex)(a:Array Value)(w:World)(h:aC w a x):Calls Tryz.prog 166 #[.agg a, .bool false] w (nG w (bU x false)):=by
 obtain⟨p,cap,rfl,h0,h1,h2,h3,h4,h5⟩:=h.parts
 have H:=Lib.hid h
 clear h h5
 have hk0:Kept none' w (w.alloc (.cells #[.int .u8 x.op, .int .i64 x.n, .slice p x.args.length cap] 40)):=(Kept.refl _ _).alloc _
 obtain⟨W0,hW0⟩: ∃W0,w.alloc (.cells #[.int .u8 x.op, .int .i64 x.n, .slice p x.args.length cap] 40)=W0:=⟨_,rfl⟩
 have d0:W0.cell? ⟨w.heap.size,0,none⟩=some (.int .u8 x.op):=by rw[<-hW0];simp
 have d1:W0.cell? ⟨w.heap.size,1,none⟩=some (.int .i64 x.n):=by rw[<-hW0];simp
 have d2:W0.cell? ⟨w.heap.size,2,none⟩=some (.slice p x.args.length cap):=by rw[<-hW0];simp
 rw[hW0]at hk0
 have HK:=Lib.hid hk0
 have HW0:=Lib.hid hW0
 clear hk0 hW0
 go_enter Tryz.func166,Tryz.ntmps166
 go_wp2_with fail
 rw[HW0.out]
 (with_reducible refine(JC x _ W0 (aC.pure HK.out H.out)).mono ?_)
 rintro e W1 ⟨rfl,k1⟩
 have c0:=k1.cell (p:=⟨w.heap.size,0,none⟩) (fun h=>h) d0
 have c1:=k1.cell (p:=⟨w.heap.size,1,none⟩) (fun h=>h) d1
 have c2:=k1.cell (p:=⟨w.heap.size,2,none⟩) (fun h=>h) d2
 have qM:=Lib.hid (HK.out.trans k1)
 clear k1 d0 d1 d2
 cases hm:bV 16 x with
 |false=>
  have F:nG w (bU x false) (.returned (.tuple #[.int .u8 0, .int .i64 2])) W1:=⟨by unfold bU;rw[if_pos hm],qM.out⟩
  have F':=Lib.hid F
  clear hm F
  go_wp2_with fail
  go_ret2
  exact F'.out
 |true=>
  have HM:=Lib.hid hm
  clear hm
  go_wp2_with fail
  (with_reducible refine(G7 _ x _ W1 (Nat.le_refl _) (aC.pure qM.out H.out)).mono ?_)
  rintro e W1' ⟨rfl,k1⟩
  have c0:=k1.cell (p:=⟨w.heap.size,0,none⟩) (fun h=>h) c0
  have c1:=k1.cell (p:=⟨w.heap.size,1,none⟩) (fun h=>h) c1
  have c2:=k1.cell (p:=⟨w.heap.size,2,none⟩) (fun h=>h) c2
  have qM:=Lib.hid (qM.out.trans k1)
  clear k1
  cases hA:eG x with
  |true=>
   have F:nG w (bU x false) (.returned (.tuple #[.int .u8 0, .int .i64 90])) W1':=⟨by unfold bU;rw[if_neg (by rw[HM.out];simp),if_pos ⟨rfl,hA⟩],qM.out⟩
   have F':=Lib.hid F
   clear hA F
   go_wp2_with fail
   go_ret2
   exact F'.out
  |false=>
  have HA:=Lib.hid hA
  clear hA
  go_wp2_with fail
  refine ak [1,0,2,3] (fun W=>Kept none' W1' W) (by kernel_rfl) (by kernel_rfl) rfl (Kept.refl _ _).drew ?_
  simp only[List.map_cons,List.map_nil,List.getElem?_toArray,List.getElem?_cons_zero,List.getElem?_cons_succ,Option.getD_some]
  (apply aj rfl rfl;(intro W hW;have z0:=hW.cell (fun h=>h) c0;have z1:=hW.cell (fun h=>h) c1;have z2:=hW.cell (fun h=>h) c2;go_simp;rfl);go_frame)
  apply aB rfl rfl
  intro K hK
  go_wp2_with fail
  (with_reducible refine(CQ _).mono ?_)
  rintro e W2 ⟨m,rfl,r2,k2⟩
  have k2':Kept none' W1' W2:=k2.bP
  clear k2
  go_wp2_with fail
  refine hK _ _ (fun _=>k2') ?_
  clear hK
  apply aB rfl rfl
  intro K hK
  go_wp2_with fail
  have c:=EF 16 x _ m _ (aC.pure (qM.out.trans k2') H.out) HM.out r2
  (with_reducible refine c.mono ?_)
  clear c
  rintro e W3 ⟨rfl,k3⟩
  have jU:Kept none' W1' W3:=k2'.trans k3
  clear k2' k3 r2
  go_wp2_with fail
  refine hK _ _ (fun _=>jU) ?_
  clear hK
  (apply aj rfl rfl;(intro W hW;go_simp;rfl);go_frame)
  refine aG (fun _=>jU) ?_
  by_cases ht:aI 16 x=0
  ·have F:nG w (bU x false) (.returned (.tuple #[.int .u8 0, .int .i64 91])) W3:=⟨by unfold bU;rw[if_neg (by rw[HM.out];simp),if_neg (by rw[HA.out];simp),if_pos ht],qM.out.trans jU⟩
   have F':=Lib.hid F
   have hb:(aI 16 x==0)=true:=by simp[ht]
   clear F ht jU
   go_wp2_with fail
   go_ret2
   exact F'.out
  ·have F:nG w (bU x false) (.returned (.tuple #[.int .u8 (aI 16 x), .int .i64 0])) W3:=⟨by unfold bU;rw[if_neg (by rw[HM.out];simp),if_neg (by rw[HA.out];simp),if_neg ht],qM.out.trans jU⟩
   have F':=Lib.hid F
   have hb:(aI 16 x==0)=false:=by simp[ht]
   clear F ht jU
   go_wp2_with fail
   go_ret2
   exact F'.out
theorem Iq (x:Ex)(acc:Bool)(a:Array Value)(w:World)(h:aC w a x):Calls Tryz.prog 166 #[.agg a, .bool acc] w (nG w (bU x acc)):=by
 cases acc with
 |true=>rw[KL];exact KJ x a w h
 |false=>exact Ir x a w h
theorem Nw (x:Ex)(acc:Bool)(ty:Int)(a:Array Value)(w:World)(h:aC w a x):Calls Tryz.prog 132 #[.agg a, .bool acc, .int .u8 ty] w (Gives w (.bool (jH x acc ty))):=by
 obtain⟨p,cap,rfl,h0,h1,h2,h3,h4,h5⟩:=h.parts
 have H:=Lib.hid h
 clear h h5
 go_enter Tryz.func132,Tryz.ntmps132
 go_wp2_with fail
 have k0:Kept none' w (w.alloc (.cells #[.int .u8 x.op, .int .i64 x.n, .slice p x.args.length cap] 40)):=(Kept.refl _ _).alloc _
 have c:=Iq x acc _ _ (aC.pure k0 H.out)
 (with_reducible refine c.mono ?_)
 clear c
 rintro e W2 ⟨rfl,k2⟩
 have HX:=Lib.hid (show jH x acc ty=((bU x acc).2==0&&(bU x acc).1==ty)from rfl)
 generalize bU x acc=r at*
 obtain⟨r1,r2⟩:=r
 have K:=Lib.hid (k0.trans k2)
 clear k0 k2
 by_cases hr:r2=0
 ·have hb:(r2==0)=true:=by simp[hr]
  rw[hb]at HX
  clear hr
  go_wp2_with fail
  go_ret
  exact⟨aF (by rw[HX.out];rfl),K.out⟩
 ·have hb:(r2==0)=false:=by simp[hr]
  rw[hb]at HX
  clear hr
  go_wp2_with fail
  go_ret
  exact⟨aF (by rw[HX.out];rfl),K.out⟩
end
section
open Go Go.RowKit
def lV (w:World)(a:Array Value)(d:JN):Prop:=
 ∃pi ci p cap,a= #[.string d.uid, .int .u8 d.kind, .slice pi d.ins.length ci, .int .u8 d.x.op, .int .i64 d.x.n, .slice p d.x.args.length cap, .int .i64 d.n]/\
  aC w #[.int .u8 d.x.op, .int .i64 d.x.n, .slice p d.x.args.length cap] d.x/\Reads w 1 (.slice pi d.ins.length ci) (ints d.ins)/\(∀k∈d.ins,bF k)/\0<=d.kind/\d.kind<=255/\bF d.n/\d.uid.size<=maxLen
theorem Reads.Jk {w w':World}{S:Nat->Prop}{k:Nat}{v:Value}{cs:List Value}(h:Reads w k v cs)(hk0:0<k)(hk:Kept S w w')(hS: ∀k,S k-> ∀c E f,w.heap[k]?≠some (.cells c E f)):Reads w' k v cs:=
 h.kept hk (fun b hb hs=>by obtain⟨c,E,f,h⟩:=h.isCells hk0 hb;exact hS b hs c E f h)
theorem lV.kept {w w':World}{S:Nat->Prop}(hk:Kept S w w')(hS: ∀k,S k-> ∀c E f,w.heap[k]?≠some (.cells c E f)){a:Array Value}{d:JN}(h:lV w a d):lV w' a d:=by
 obtain⟨pi,ci,p,cap,h1,h2,h3,h4⟩:=h
 exact⟨pi,ci,p,cap,h1,h2.kept hk hS,h3.Jk (by omega) hk hS,h4⟩
theorem lV.pure {w w':World}(hk:Kept none' w w'){a:Array Value}{d:JN}(h:lV w a d):lV w' a d:=h.kept hk (fun _ h=>h.elim)
def fG (w:World)(v:Value)(L:List JN):Prop:=
 ∃cs:List Value,Reads w 7 v cs/\cs.length=L.length*7/\ ∀i d,L[i]?=some d->lV w ((cs.drop (i*7)).take 7).toArray d
theorem fG.kept {w w':World}{S:Nat->Prop}(hk:Kept S w w')(hS: ∀k,S k-> ∀c E f,w.heap[k]?≠some (.cells c E f)){v:Value}{L:List JN}(h:fG w v L):fG w' v L:=by
 obtain⟨cs,h1,h2,h3⟩:=h
 exact⟨cs,h1.Jk (by omega) hk hS,h2,fun i d hd=>(h3 i d hd).kept hk hS⟩
theorem fG.pure {w w':World}(hk:Kept none' w w'){v:Value}{L:List JN}(h:fG w v L):fG w' v L:=h.kept hk (fun _ h=>h.elim)
structure yB (w:World)(b o:Nat)(d:JN)(pi:Option Addr)(ci:Nat)(p:Option Addr)(cap:Nat):Prop where
 c0:w.cell? ⟨b,o,none⟩=some (.string d.uid)
 c1:w.cell? ⟨b,o+1,none⟩=some (.int .u8 d.kind)
 c2:w.cell? ⟨b,o+2,none⟩=some (.slice pi d.ins.length ci)
 c3:w.cell? ⟨b,o+3,none⟩=some (.int .u8 d.x.op)
 c4:w.cell? ⟨b,o+4,none⟩=some (.int .i64 d.x.n)
 c5:w.cell? ⟨b,o+5,none⟩=some (.slice p d.x.args.length cap)
 c6:w.cell? ⟨b,o+6,none⟩=some (.int .i64 d.n)
theorem yB.kept {w w':World}{S:Nat->Prop}{b o:Nat}{d:JN}{pi:Option Addr}{ci:Nat}{p:Option Addr}{cap:Nat}(h:yB w b o d pi ci p cap)(hk:Kept S w w')(hb: ¬S b):yB w' b o d pi ci p cap:=
 ⟨hk.cell (p:=⟨b,o,none⟩) hb h.c0,hk.cell (p:=⟨b,o+1,none⟩) hb h.c1,hk.cell (p:=⟨b,o+2,none⟩) hb h.c2,hk.cell (p:=⟨b,o+3,none⟩) hb h.c3,hk.cell (p:=⟨b,o+4,none⟩) hb h.c4,hk.cell (p:=⟨b,o+5,none⟩) hb h.c5,hk.cell (p:=⟨b,o+6,none⟩) hb h.c6⟩
abbrev aZ (d:JN)(pi:Option Addr)(ci:Nat)(p:Option Addr)(cap:Nat):Array Value:=
 #[.string d.uid, .int .u8 d.kind, .slice pi d.ins.length ci, .int .u8 d.x.op, .int .i64 d.x.n, .slice p d.x.args.length cap, .int .i64 d.n]
theorem fG.at {w:World}{v:Value}{L:List JN}(h:fG w v L): ∃a cap,v= .slice a L.length cap/\L.length<=cap/\cap<=maxLen/\
 ∀i d,L[i]?=some d-> ∃b off pi ci p cap',a=some ⟨b,off,none⟩/\yB w b (off+i*7) d pi ci p cap'/\lV w (aZ d pi ci p cap') d:=by
 obtain⟨cs,⟨a,n,cap,rfl,h1,h2,h3,h4⟩,h5,h6⟩:=h
 have hn:n=L.length:=by omega
 subst hn
 refine⟨a,cap,rfl,h1,h2,fun i d hd=>?_⟩
 have hi:i<L.length:=(List.getElem?_eq_some_iff.1 hd).1
 have hj:=h6 i d hd
 have hne:cs≠[]:=fun e=>by rw[e]at h5;simp at h5;omega
 obtain⟨b,off,rfl,hc⟩:=h4.resolve_left hne
 obtain⟨pi,ci,p,cap',e,hrest⟩:=hj
 have hl:(cs.drop (i*7)).take 7=(aZ d pi ci p cap').toList:=by
  have:=congrArg Array.toList e
  simpa using this
 have get: ∀j v,(aZ d pi ci p cap').toList[j]?=some v->cs[i*7+j]?=some v:=by
  intro j v hj
  rw[<-hl,List.getElem?_take]at hj
  split at hj
  ·rwa[List.getElem?_drop]at hj
  ·cases hj
 have cell: ∀j v,(aZ d pi ci p cap').toList[j]?=some v->w.cell? ⟨b,off+i*7+j,none⟩=some v:=fun j v hj=>by
  have:=hc _ _ (get j v hj)
  rwa[<-Nat.add_assoc]at this
 exact⟨b,off,pi,ci,p,cap',rfl,⟨cell 0 _ rfl,cell 1 _ rfl,cell 2 _ rfl,cell 3 _ rfl,cell 4 _ rfl,cell 5 _ rfl,cell 6 _ rfl⟩,pi,ci,p,cap',rfl,hrest⟩
theorem fG.nil (w:World):fG w (.slice none 0 0) []:=⟨[],Reads.nil w 7,rfl,fun i d h=>by cases h⟩
end
section
open Go Go.RowKit
attribute [local irreducible] bH
theorem yR: ∀(l m:List Ex)(n:Nat),fV (l++m) n=fV m (fV l n)
 |[],m,n=>by simp[fV]
 |x::l,m,n=>by simp only[List.cons_append,fV];exact yR l m _
theorem DY {l:List Ex}{k:Nat}{y:Ex}(h:l[k]?=some y)(n:Nat):fV (l.take (k+1)) n=xK y (fV (l.take k) n):=by
 rw[List.take_add_one,h,yR];simp[fV]
theorem RS (x:Ex)(n:Nat):xK x n=if 0<n then fV x.args (n-1)else n:=by cases x;rfl
theorem yt (l:List Ex)(n:Nat):fV l n<=n:=by rw[yu];omega
structure qh (w0 w:World)(B1 B2:Nat)(n:Nat):Prop where
 left:w.heap[B1]?=some (.cells #[.int .i64 (n:Int)] 3 (0,0))
 self:w.heap[B2]?=some (.cells #[.func (.func 125) #[] #[.pointer (some ⟨B1,0,none⟩), .pointer (some ⟨B2,0,none⟩)]] 199 (0,0))
 ne:B1≠B2
 b1:w0.heap.size<=B1
 kept:Kept none' w0 w
theorem qh.alloc {w0 w:World}{B1 B2 n:Nat}(h:qh w0 w B1 B2 n)(o:Obj):qh w0 (w.alloc o) B1 B2 n:=
 ⟨((Kept.refl none' w).alloc o).heap h.left (fun h=>h),((Kept.refl none' w).alloc o).heap h.self (fun h=>h),h.ne,h.b1,h.kept.alloc o⟩
def Yc (w0 w:World)(B1 B2 n:Nat)(e:Ending)(w':World):Prop:=e= .returned (.tuple #[])/\qh w0 w' B1 B2 n
theorem Ju: ∀(N:Nat)(x:Ex)(a:Array Value)(w0 w:World)(B1 B2 n:Nat),SizeOf.sizeOf x<=N->aC w0 a x->n<=1001->qh w0 w B1 B2 n->
 Calls Tryz.prog 125 #[.agg a, .pointer (some ⟨B1,0,none⟩), .pointer (some ⟨B2,0,none⟩)] w (Yc w0 w B1 B2 (xK x n))
 |0,x,_,_,_,_,_,_,h,_,_,_=>by cases x;simp at h
 |N+1,x,a,w0,w,B1,B2,n,hN,h,hn,hst=>by
  obtain⟨p,cap,rfl,h0,h1,h2,h3,h4,h5⟩:=h.parts
  have sub: ∀(i:Nat)(y:Ex),x.args[i]?=some y->SizeOf.sizeOf y<=N:=by
   intro i y hy
   obtain⟨op,n,args⟩:=x
   have h1:=List.sizeOf_lt_of_mem (List.mem_of_getElem? (show args[i]?=some y from hy))
   simp at hN
   omega
  have IH:=Lib.hid (fun y a w n hy h hn hst=>Ju N y a w0 w B1 B2 n hy h hn hst)
  have SB:=Lib.hid sub
  have H5:=Lib.hid h5
  have HX:=Lib.hid (RS x n)
  unfold maxLen at h4
  have hb1:B1<w.heap.size:=(Array.getElem?_eq_some_iff.1 hst.left).1
  have hb2:B2<w.heap.size:=(Array.getElem?_eq_some_iff.1 hst.self).1
  have c0:w.cell? ⟨B1,0,none⟩=some (.int .i64 (n:Int)):=cells_at hst.left rfl
  have f0:=free_at hst.left 0
  have S0:=Lib.hid hst
  clear h h5 sub hN hst
  go_enter Tryz.func125,Tryz.ntmps125
  by_cases hn0:0<n
  ·have hwn:wrap64 ((n:Int)-1)=((n-1:Nat):Int):=by unfold wrap64;omega
   have HY:=Lib.hid (show xK x n=fV x.args (n-1) by rw[HX.out,if_pos hn0])
   clear HX
   go_wp2_with fail
   obtain⟨W1,hW1⟩: ∃W1,(w.setCell ⟨B1,0,none⟩ (.int .i64 ((n:Int)-1))).alloc (.cells #[.int .u8 x.op, .int .i64 x.n, .slice p x.args.length cap] 40)=W1:=⟨_,rfl⟩
   have kS:qh w0 W1 B1 B2 (n-1):=by
    have st1:=S0.out
    rw[<-hW1]
    have e1:((n:Int)-1)=((n-1:Nat):Int):=by omega
    rw[e1]
    exact qh.alloc ⟨by have:=aS st1.left 0 (.int .i64 ((n-1:Nat):Int));simpa using this,((Kept.refl (one B1) _).setCell (p:=⟨B1,0,none⟩) (.inl rfl) _).heap st1.self (fun e=>st1.ne e.symm),st1.ne,st1.b1,st1.kept.setCell (p:=⟨B1,0,none⟩) (.inr st1.b1) _⟩ _
   rw[hW1]
   have KS:=Lib.hid kS
   clear hW1 kS S0 c0 f0
   go_loopg [13] x.args.length (fun g vi wr=> ∃(k:Nat),k<=x.args.length/\vi= .int .i64 (k:Int)/\x.args.length-k<=g/\qh w0 wr B1 B2 (fV (x.args.take k) (n-1)))
   case atStart=>exact⟨0,by omega,rfl,by omega,by simpa[fV]using KS.out⟩
   case round=>
    obtain⟨k,hkl,rfl,hg,hst⟩:=hrel
    by_cases hlt:k<x.args.length
    ·obtain⟨y,hy⟩: ∃y,x.args[k]?=some y:=⟨_,List.getElem?_eq_getElem hlt⟩
     obtain⟨b,off,p',cap',rfl,q0,q1,q2,hy2⟩:=H5.out k y hy
     have hkp:=hst.kept
     have r0:=hkp.cell (p:=⟨b,off+k*3,none⟩) (fun h=>h) q0
     have r1:=hkp.cell (p:=⟨b,off+k*3+1,none⟩) (fun h=>h) q1
     have r2:=hkp.cell (p:=⟨b,off+k*3+2,none⟩) (fun h=>h) q2
     have s0:wr.cell? ⟨B2,0,none⟩=some (.func (.func 125) #[] #[.pointer (some ⟨B1,0,none⟩), .pointer (some ⟨B2,0,none⟩)]):=cells_at hst.self rfl
     have hb2:B2<wr.heap.size:=(Array.getElem?_eq_some_iff.1 hst.self).1
     have G:=Lib.hid (And.intro hg (And.intro hy2 (And.intro hst (And.intro (SB.out k y hy) hy))))
     have HM:=Lib.hid (show fV (x.args.take k) (n-1)<=1001 by have:=yt (x.args.take k) (n-1);omega)
     clear q0 q1 q2 hy hy2 hkp hg H5 hst
     go_wp2_with fail
     have c:=IH.out y _ _ _ G.out.2.2.2.1 G.out.2.1 HM.out (G.out.2.2.1.alloc (.cells #[.int .u8 y.op, .int .i64 y.n, .slice p' y.args.length cap'] 40))
     (with_reducible refine c.mono ?_)
     clear c
     rintro e w2 ⟨rfl,st2⟩
     rw[<-DY G.out.2.2.2.2]at st2
     have S2:=Lib.hid st2
     clear st2
     go_wp2_with fail
     go_roundg (x.args.length-(k+1))
     case rel=>exact⟨k+1,by omega,by go_num,Nat.le_refl _,S2.out⟩
     case measure=>have:=G.out.1;omega
    ·have S2:=Lib.hid hst
     have e1:k=x.args.length:=by omega
     subst e1
     clear hst
     go_wp2_with fail
     go_end0
     exact⟨rfl,by rw[HY.out];have:=S2.out;rwa[List.take_length]at this⟩
  ·have F:=Lib.hid (show xK x n=n by rw[HX.out,if_neg hn0])
   clear HX
   go_wp2_with fail
   go_end0
   exact⟨rfl,by rw[F.out];exact S0.out.alloc _⟩
def fA (w:World)(a:Array Value)(j:Jb):Prop:= ∃v,a= #[.int .i64 j.par,v]/\fG w v j.nodes/\bF j.par
theorem fA.pure {w w':World}(hk:Kept none' w w'){a:Array Value}{j:Jb}(h:fA w a j):fA w' a j:=by
 obtain⟨v,h1,h2,h3⟩:=h
 exact⟨v,h1,h2.pure hk,h3⟩
theorem MK (j:Jb)(a:Array Value)(w:World)(h:fA w a j):Calls Tryz.prog 85 #[.agg a] w (Gives w (.int .i64 ((1001-fV (j.nodes.map (·.x)) 1001:Nat):Int))):=by
 obtain⟨v,rfl,hn,hp⟩:=h
 obtain⟨na,cap,rfl,h1,h2,h3⟩:=hn.at
 unfold maxLen at h2
 have H3:=Lib.hid h3
 clear h3 hn hp
 go_enter Tryz.func85,Tryz.ntmps85
 go_wp2_with fail
 obtain⟨W0,hW0⟩: ∃W0,(((w.alloc (.cells #[.int .i64 j.par, .slice na j.nodes.length cap] 24)).alloc (.cells #[.int .i64 1001] 3)).alloc (.cells #[.func (.func 125) #[] #[.pointer (some ⟨w.heap.size+1,0,none⟩), .pointer (some ⟨w.heap.size+1+1,0,none⟩)]] 199))=W0:=⟨_,rfl⟩
 have st0:qh w W0 (w.heap.size+1) (w.heap.size+1+1) 1001:=by
  rw[<-hW0]
  refine⟨?_,?_,by omega,by omega,((Kept.refl _ _).alloc _).alloc _|>.alloc _⟩
  ·rw[Below.heap_alloc _ _ _ (by simp)]
   have:=heap_alloc_new (w.alloc (.cells #[.int .i64 j.par, .slice na j.nodes.length cap] 24)) (.cells #[.int .i64 1001] 3)
   rwa[World.size_alloc]at this
  ·have:=heap_alloc_new ((w.alloc (.cells #[.int .i64 j.par, .slice na j.nodes.length cap] 24)).alloc (.cells #[.int .i64 1001] 3)) (.cells #[.func (.func 125) #[] #[.pointer (some ⟨w.heap.size+1,0,none⟩), .pointer (some ⟨w.heap.size+1+1,0,none⟩)]] 199)
   rwa[World.size_alloc,World.size_alloc]at this
 rw[hW0]
 have ST:=Lib.hid st0
 clear hW0 st0
 go_loopg [11] j.nodes.length (fun g vi wr=> ∃(k:Nat),k<=j.nodes.length/\vi= .int .i64 (k:Int)/\j.nodes.length-k<=g/\qh w wr (w.heap.size+1) (w.heap.size+1+1) (fV ((j.nodes.map (·.x)).take k) 1001))
 case atStart=>exact⟨0,by omega,rfl,by omega,by simpa[fV]using ST.out⟩
 case round=>
  obtain⟨k,hkl,rfl,hg,hst⟩:=hrel
  by_cases hlt:k<j.nodes.length
  ·obtain⟨d,hd⟩: ∃d,j.nodes[k]?=some d:=⟨_,List.getElem?_eq_getElem hlt⟩
   obtain⟨b,off,pi,ci,p,cap',rfl,hc,hj⟩:=H3.out k d hd
   have hc':=hc.kept hst.kept (fun h=>h)
   obtain⟨c0,c1,c2,c3,c4,c5,c6⟩:=hc'
   have s0:wr.cell? ⟨w.heap.size+1+1,0,none⟩=some (.func (.func 125) #[] #[.pointer (some ⟨w.heap.size+1,0,none⟩), .pointer (some ⟨w.heap.size+1+1,0,none⟩)]):=cells_at hst.self rfl
   have hb2:w.heap.size+1+1<wr.heap.size:=(Array.getElem?_eq_some_iff.1 hst.self).1
   have hx:aC w #[.int .u8 d.x.op, .int .i64 d.x.n, .slice p d.x.args.length cap'] d.x:=by
    obtain⟨_,_,_,_,e,hx,_⟩:=hj
    injection e with e
    simp only[List.cons.injEq,and_true,true_and]at e
    obtain⟨e1,e2⟩:=e
    rw[e2];exact hx
   have hxk:(j.nodes.map (·.x))[k]?=some d.x:=by rw[List.getElem?_map,hd];rfl
   have G:=Lib.hid (And.intro hg (And.intro hx (And.intro hst hxk)))
   have HM:=Lib.hid (yt ((j.nodes.map (·.x)).take k) 1001)
   clear hd hj hc hg hst hx hxk H3
   go_wp2_with fail
   have c:=Ju _ d.x _ _ _ _ _ _ (Nat.le_refl _) G.out.2.1 HM.out (G.out.2.2.1.alloc (.cells (aZ d pi ci p cap') 42))
   (with_reducible refine c.mono ?_)
   clear c
   rintro e w2 ⟨rfl,st2⟩
   rw[<-DY G.out.2.2.2]at st2
   have S2:=Lib.hid st2
   clear st2
   go_wp2_with fail
   go_roundg (j.nodes.length-(k+1))
   case rel=>exact⟨k+1,by omega,by go_num,Nat.le_refl _,S2.out⟩
   case measure=>have:=G.out.1;omega
  ·have e1:k=j.nodes.length:=by omega
   subst e1
   have l0:wr.cell? ⟨w.heap.size+1,0,none⟩=some (.int .i64 ((fV ((j.nodes.map (·.x)).take j.nodes.length) 1001:Nat):Int)):=cells_at hst.left rfl
   have hle:=yt (j.nodes.map (·.x)) 1001
   have el:(j.nodes.map (·.x)).take j.nodes.length=j.nodes.map (·.x):=List.take_of_length_le (by simp)
   rw[el]at l0
   have K:=Lib.hid hst.kept
   clear hst el
   obtain⟨m,hm⟩: ∃m,fV (j.nodes.map (·.x)) 1001=m:=⟨_,rfl⟩
   rw[hm]at l0 hle
   have HM:=Lib.hid hm
   clear hm
   go_wp2_with fail
   go_ret
   exact⟨dY (by rw[HM.out];omega),K.out⟩
theorem nJ: ∃i,Tryz.prog.info? 3=some i/\i.zero=some (.int .i64 0)/\i.size=1/\i.bytes=8:=by
 have h:(Tryz.prog.info? 3).map (fun i=>(i.zero,i.size,i.bytes))=some (some (.int .i64 0),1,8):=by kernel_rfl
 obtain⟨i,h1,h2⟩:=Option.map_eq_some_iff.1 h
 injection h2 with h2 h3
 injection h3 with h3 h4
 exact⟨i,h1,h2,h3,h4⟩
theorem Py: ∃i,Tryz.prog.info? 9=some i/\i.zero=some (.string ByteArray.empty)/\i.size=1/\i.bytes=16:=by
 have h:(Tryz.prog.info? 9).map (fun i=>(i.zero,i.size,i.bytes))=some (some (.string ByteArray.empty),1,16):=by kernel_rfl
 obtain⟨i,h1,h2⟩:=Option.map_eq_some_iff.1 h
 injection h2 with h2 h3
 injection h3 with h3 h4
 exact⟨i,h1,h2,h3,h4⟩
theorem EY {T E bytes:Nat}{z x:Value}{i:TypeInfo}(hT:Tryz.prog.underlying T=some (.slice E))(hi:Tryz.prog.info? E=some i)(hz:i.zero=some z)(hs:i.size=1)(hb:i.bytes=bytes)(hzc:z.cells.size=1)(hx:x.oneCell'=true)
 {wr:World} {base m:Nat} {v:Value} {xs:List Value} (hown:wr.ownsRow base E 1 v m xs) (hm:m<=100000) (hbb:bytes<=1000) (hbase:base<=wr.heap.size) (ty:TypeId):
 ∃v' w',(Builtin.append_ #[T,T] ty #[v, .slice (some ⟨wr.heap.size,0,none⟩) 1 1]).run Tryz.prog (wr.alloc (.cells #[x] E))= .ok v' w'/\w'.ownsRow base E 1 v' (m+1) (xs++[x])/\Kept (fun k=>base<=k) wr w':=by
 have kA:Kept none' wr (wr.alloc (.cells #[x] E)):=(Kept.refl _ _).alloc _
 have hr:=Reads.lit wr [x] E 1 1 rfl (by unfold maxLen;omega)
 obtain⟨v',n',w',b1,b2,b3,b4,_⟩:=bI (P:=Tryz.prog) base T ty E i z 1 bytes hT hi hz hs hb hzc (by omega) (kA.owns hown (fun _ _ h=>h)) hr (by intro y hy;rw[List.mem_singleton.1 hy];exact hx)
  (by
    simp only[List.length_singleton,Nat.mul_one]
    calc(m+1)*bytes<=100001*1000:=Nat.mul_le_mul (by omega) hbb
     _<=140737488355328:=by decide) (by simp;unfold maxLen;omega) (by have:=kA.size;omega)
 have hn:n'=m+1:=by simpa using b3
 subst hn
 exact⟨v',w',b1,b2,kA.pure.trans (Kept.grown b4 (fun k hk _=>(gG hown hk).1))⟩
def bG (nodes:List JN)(i:Nat)(k:Nat):List Int:=((List.range k).filter fun m=>decide ((i:Int)∈(nodes.getD m default).ins)).map fun(m:Nat)=>(m:Int)
theorem kJ {nodes:List JN}{i k:Nat}{d:JN}(hd:nodes[k]?=some d):bG nodes i (k+1)=bG nodes i k++if(i:Int)∈d.ins then[(k:Int)]else[]:=by
 unfold bG
 rw[List.range_succ,List.filter_append,List.map_append]
 congr 1
 have e:nodes.getD k default=d:=by rw[List.getD_eq_getElem?_getD,hd];rfl
 by_cases h:(i:Int)∈d.ins
 ·have e2:decide ((i:Int)∈(nodes.getD k default).ins)=true:=by rw[e];exact decide_eq_true h
  rw[List.filter_cons,if_pos e2,if_pos h];rfl
 ·have e2: ¬(decide ((i:Int)∈(nodes.getD k default).ins)=true):=by rw[e];simpa using h
  rw[List.filter_cons,if_neg e2,if_neg h];rfl
theorem oq (nodes:List JN)(i:Nat): ∀k,k<=nodes.length->(bG nodes i k).length=(nodes.take k).countP fun d=>d.ins.contains (i:Int)
 |0,_=>rfl
 |k+1,hk=>by
  have hd:nodes[k]?=some nodes[k]:=List.getElem?_eq_getElem (by omega)
  rw[kJ hd,List.length_append,oq nodes i k (by omega),List.take_add_one,hd,List.countP_append]
  congr 1
  by_cases h:(i:Int)∈(nodes[k]).ins
  ·simp[h]
  ·simp[h]
theorem yH (nodes:List JN)(i k:Nat):(bG nodes i k).length<=k:=by
 unfold bG
 rw[List.length_map]
 exact Nat.le_trans (List.length_filter_le _ _) (by simp)
def Qr (w:World)(n:Nat)(e:Ending)(w':World):Prop:= ∃a cap,e= .returned (.slice a n cap)/\Kept none' w w'
theorem tV (j:Jb)(a:Array Value)(i:Nat)(w:World)(h:fA w a j)(Ul:j.nodes.length<=1000):Calls Tryz.prog 88 #[.agg a, .int .i64 (i:Int)] w (Qr w (dL j.nodes i)):=by
 obtain⟨v,rfl,hn,hp⟩:=h
 obtain⟨na,cap,rfl,h1,h2,h3⟩:=hn.at
 unfold maxLen at h2
 have H3:=Lib.hid h3
 clear h3 hn hp
 go_enter Tryz.func88,Tryz.ntmps88
 go_wp2_with fail
 obtain⟨W0,hW0⟩: ∃W0,(w.alloc (.cells #[.int .i64 j.par, .slice na j.nodes.length cap] 24))=W0:=⟨_,rfl⟩
 have k0:Kept none' w W0:=by rw[<-hW0];exact(Kept.refl _ _).alloc _
 rw[hW0]
 have K0:=Lib.hid k0
 clear hW0 k0
 go_loopg [5,11] j.nodes.length (fun g vo vi wr=> ∃(k:Nat),k<=j.nodes.length/\vi= .int .i64 (k:Int)/\j.nodes.length-k<=g/\wr.ownsRow w.heap.size 3 1 vo (bG j.nodes i k).length (ints (bG j.nodes i k))/\Kept none' w wr)
 case atStart=>exact⟨0,by omega,rfl,by omega,World.ownsRow_nil _ _ _ _,K0.out⟩
 case round=>
  obtain⟨k,hkl,rfl,hg,hown,hkp⟩:=hrel
  obtain⟨oa,oc,rfl⟩:=ay hown
  by_cases hlt:k<j.nodes.length
  ·obtain⟨d,hd⟩: ∃d,j.nodes[k]?=some d:=⟨_,List.getElem?_eq_getElem hlt⟩
   obtain⟨b,off,pi,ci,p,cap',rfl,hc,hj⟩:=H3.out k d hd
   obtain⟨c0,c1,c2,c3,c4,c5,c6⟩:=hc.kept hkp (fun h=>h)
   have hin:Reads w 1 (.slice pi d.ins.length ci) (ints d.ins):=by
    obtain⟨_,_,_,_,e,_,hx,_⟩:=hj
    injection e with e
    simp only[List.cons.injEq,and_true,true_and]at e
    obtain⟨e1,e2⟩:=e
    rw[e1];exact hx
   have kA:Kept none' wr (wr.alloc (.cells (aZ d pi ci p cap') 42)):=(Kept.refl _ _).alloc _
   have cc:=wF _ d.ins (i:Int) _ (hin.pure (hkp.trans kA))
   have hsz:=Lib.hid hkp.size
   have G:=Lib.hid (And.intro hg (And.intro hown (And.intro (hkp.trans kA) (And.intro hd kA))))
   clear hd hj hc hg hown hkp hin H3
   by_cases hm:(i:Int)∈d.ins
   ·have e1:decide ((i:Int)∈d.ins)=true:=decide_eq_true hm
    rw[e1]at cc
    have E1:=Lib.hid (kJ (i:=i) G.out.2.2.2.1)
    rw[if_pos hm]at E1
    obtain⟨ti,hi3,hz3,hs3,hb3⟩:=nJ
    have hle:=yH j.nodes i k
    obtain⟨v',w',b1,b2,b3⟩:=EY (x:= .int .i64 (k:Int)) (bytes:=8) Tryz.underlying37 hi3 hz3 hs3 hb3 rfl rfl (kA.owns G.out.2.1 (fun _ _ h=>h)) (by omega) (by omega) (Nat.le_trans hsz.out kA.size) 45
    have hnew:w'.ownsRow w.heap.size 3 1 v' (bG j.nodes i (k+1)).length (ints (bG j.nodes i (k+1))):=by
     rw[E1.out,List.length_append]
     unfold ints at b2⊢
     rw[List.map_append]
     exact b2
    have F:=Lib.hid (And.intro hnew (G.out.2.2.1.new b3 (fun i hi h=>by omega)))
    rw[World.size_alloc]at b1
    have B1:=Lib.hid b1
    clear b1 b2 b3 hnew hi3 hz3 hs3 hb3 kA hm e1
    go_wp2_with (first|(go_at_call 134;refine cc.mono ?_;rintro e w' ⟨rfl,rfl⟩)|(at_builtin;refine wpList_append_run rfl (.tmp 20) (.tmp 22) 37 rfl (.slice oa (bG j.nodes i k).length oc) (.slice (some ⟨wr.heap.size+1,0,none⟩) 1 1) v' rfl rfl B1.out ?_))
    go_roundg (j.nodes.length-(k+1))
    case rel=>exact⟨k+1,by omega,by go_num,Nat.le_refl _,F.out⟩
    case measure=>have:=G.out.1;omega
   ·have e1:decide ((i:Int)∈d.ins)=false:=decide_eq_false hm
    rw[e1]at cc
    have E1:=kJ (i:=i) G.out.2.2.2.1
    rw[if_neg hm,List.append_nil]at E1
    have F:=Lib.hid (show(wr.alloc (.cells (aZ d pi ci p cap') 42)).ownsRow w.heap.size 3 1 (.slice oa (bG j.nodes i k).length oc) (bG j.nodes i (k+1)).length (ints (bG j.nodes i (k+1))) by rw[E1];exact kA.owns G.out.2.1 (fun _ _ h=>h))
    clear kA hm e1 E1
    go_wp2_with (go_at_call 134;refine cc.mono ?_;rintro e w' ⟨rfl,rfl⟩)
    go_roundg (j.nodes.length-(k+1))
    case rel=>exact⟨k+1,by omega,by go_num,Nat.le_refl _,F.out,G.out.2.2.1⟩
    case measure=>have:=G.out.1;omega
  ·have e1:k=j.nodes.length:=by omega
   subst e1
   have hF:(bG j.nodes i j.nodes.length).length=dL j.nodes i:=by rw[oq _ _ _ (Nat.le_refl _),List.take_length];rfl
   rw[hF]
   clear hF
   have HK:=Lib.hid hkp
   clear hkp hown
   go_wp2_with fail
   go_ret
   exact⟨oa,oc,rfl,HK.out⟩
end
end Go.Proofs.YtglbkodmmogomaaGreatDoor
