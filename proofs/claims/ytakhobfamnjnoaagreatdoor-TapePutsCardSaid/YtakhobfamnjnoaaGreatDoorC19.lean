/- What an expression comes to: the walk of do. -/
import Derived.Test.YtakhobfamnjnoaaGreatDoorC18
import Derived.Deep.DeepCutAuto
import Derived.Lib.AppendZerosOnto
import Derived.Shelf.Abstract
set_option linter.unusedVariables false
set_option linter.unusedSimpArgs false
set_option maxHeartbeats 1000000
set_option maxRecDepth 100000
namespace Go.Proofs.YtakhobfamnjnoaaGreatDoor
section
open Go Go.RowKit
attribute [local irreducible] kC
theorem Oe (x:Ex):iy x=(x.op==4||x.args.any iy):=by
 cases x
 rw[iy,Gm];rfl
theorem zN {α:Type}{l:List α}{k:Nat}{x:α}{p:α->Bool}(h:l[k]?=some x)(ht:(l.take k).any p=false)(hx:p x=false):(l.take (k+1)).any p=false:=by
 rw[List.take_add_one,h,List.any_append,ht];simp[hx]
theorem Td: ∀(N:Nat)(x:Ex)(a:Array Value)(w:World),SizeOf.sizeOf x<=N->bg w a x->Calls Tryz.prog 205 #[.agg a] w (Gives w (.bool (iy x)))
 |0,x,_,_,h,_=>by cases x;simp at h
 |N+1,x,a,w,hN,h=>by
  obtain⟨p,cap,rfl,h0,h1,h2,h3,h4,h5⟩:=h.parts
  have sub: ∀(i:Nat)(y:Ex),x.args[i]?=some y->SizeOf.sizeOf y<=N:=by
   intro i y hy
   obtain⟨op,n,args⟩:=x
   have h1:=List.sizeOf_lt_of_mem (List.mem_of_getElem? (show args[i]?=some y from hy))
   simp at hN
   omega
  have IH:=Lib.hid (fun y a w hy=>Td N y a w hy)
  have SB:=Lib.hid sub
  have H5:=Lib.hid h5
  have HX:=Lib.hid (Oe x)
  unfold maxLen at h4
  clear h h5 sub hN
  go_enter Tryz.func205,Tryz.ntmps205
  by_cases hop:x.op=4
  ·have hb:(x.op==4)=true:=by simp[hop]
   have F:=Lib.hid (show iy x=true by rw[HX.out,hb];rfl)
   clear hop
   go_wp2_with fail
   go_ret
   exact⟨aU (by rw[F.out]),(Kept.refl _ _).alloc _⟩
  ·have hb:(x.op==4)=false:=by simp[hop]
   have HY:=Lib.hid (show iy x=x.args.any iy by rw[HX.out,hb];rfl)
   clear hop
   go_wp2_with fail
   obtain⟨W0,hW0⟩: ∃W0,w.alloc (.cells #[.int .u8 x.op, .int .i64 x.n, .slice p x.args.length cap] 77)=W0:=⟨_,rfl⟩
   have k0:Kept none' w W0:=by rw[<-hW0];exact(Kept.refl _ _).alloc _
   rw[hW0]
   have K0:=Lib.hid k0
   clear hW0 k0
   go_loopg [11] x.args.length (fun g vi wr=> ∃(k:Nat),k<=x.args.length/\vi= .int .i64 (k:Int)/\x.args.length-k<=g/\(x.args.take k).any iy=false/\Kept none' w wr)
   case atStart=>exact⟨0,by omega,rfl,by omega,by simp,K0.out⟩
   case round=>
    obtain⟨k,hkl,rfl,hg,hno,hkp⟩:=hrel
    by_cases hlt:k<x.args.length
    ·obtain⟨y,hy⟩: ∃y,x.args[k]?=some y:=⟨_,List.getElem?_eq_getElem hlt⟩
     obtain⟨b,off,p',cap',rfl,q0,q1,q2,hy2⟩:=H5.out k y hy
     have r0:=hkp.cell (p:=⟨b,off+k*3,none⟩) (fun h=>h) q0
     have r1:=hkp.cell (p:=⟨b,off+k*3+1,none⟩) (fun h=>h) q1
     have r2:=hkp.cell (p:=⟨b,off+k*3+2,none⟩) (fun h=>h) q2
     have G:=Lib.hid (And.intro hg (And.intro (bg.pure hkp hy2) (And.intro hkp (And.intro (SB.out k y hy) (And.intro hy hno)))))
     clear q0 q1 q2 hy hy2 hkp hg H5 hno
     go_wp2_with fail
     have ka:Kept none' wr (wr.alloc (.cells #[.int .u8 y.op, .int .i64 y.n, .slice p' y.args.length cap'] 77)):=(Kept.refl _ _).alloc _
     have c:=IH.out y _ (wr.alloc (.cells #[.int .u8 y.op, .int .i64 y.n, .slice p' y.args.length cap'] 77)) G.out.2.2.2.1 (bg.pure ka G.out.2.1)
     (with_reducible refine c.mono ?_)
     clear c
     rintro e w2 ⟨rfl,k2⟩
     have K2:=Lib.hid (G.out.2.2.1.trans (ka.trans k2))
     clear k2 ka
     cases hA:iy y with
     |true=>
      have F:=Lib.hid (show iy x=true by rw[HY.out,List.any_eq_true];exact⟨y,List.mem_of_getElem? G.out.2.2.2.2.1,hA⟩)
      clear hA
      go_wp2_with fail
      go_ret
      exact⟨aU (by rw[F.out]),K2.out⟩
     |false=>
      have F:=Lib.hid (zN G.out.2.2.2.2.1 G.out.2.2.2.2.2 hA)
      clear hA
      go_wp2_with fail
      go_roundg (x.args.length-(k+1))
      case rel=>exact⟨k+1,by omega,by go_num,Nat.le_refl _,F.out,K2.out⟩
      case measure=>have:=G.out.1;omega
    ·have F:=Lib.hid (And.intro (show iy x=false by rw[HY.out];rwa[List.take_of_length_le (by omega)]at hno) hkp)
     clear hno hkp
     go_wp2_with fail
     go_ret
     exact⟨aU (by rw[F.out.1]),F.out.2⟩
theorem Xi (x:Ex):dZ x true=wX x:=by
 unfold dZ wX
 split
 ·rfl
 ·rw[if_neg (by simp)]
theorem TY (x:Ex)(a:Array Value)(w:World)(h:bg w a x):Calls Tryz.prog 146 #[.agg a, .bool false] w (rG w (dZ x false)):=by
 obtain⟨p,cap,rfl,h0,h1,h2,h3,h4,h5⟩:=h.parts
 have H:=Lib.hid h
 clear h h5
 have hk0:Kept none' w (w.alloc (.cells #[.int .u8 x.op, .int .i64 x.n, .slice p x.args.length cap] 77)):=(Kept.refl _ _).alloc _
 obtain⟨W0,hW0⟩: ∃W0,w.alloc (.cells #[.int .u8 x.op, .int .i64 x.n, .slice p x.args.length cap] 77)=W0:=⟨_,rfl⟩
 have d0:W0.cell? ⟨w.heap.size,0,none⟩=some (.int .u8 x.op):=by rw[<-hW0];simp
 have d1:W0.cell? ⟨w.heap.size,1,none⟩=some (.int .i64 x.n):=by rw[<-hW0];simp
 have d2:W0.cell? ⟨w.heap.size,2,none⟩=some (.slice p x.args.length cap):=by rw[<-hW0];simp
 rw[hW0]at hk0
 have HK:=Lib.hid hk0
 have HW0:=Lib.hid hW0
 clear hk0 hW0
 go_enter Tryz.func146,Tryz.ntmps146
 go_wp2_with fail
 rw[HW0.out]
 (with_reducible refine(VW x _ W0 (bg.pure HK.out H.out)).mono ?_)
 rintro e W1 ⟨rfl,k1⟩
 have c0:=k1.cell (p:=⟨w.heap.size,0,none⟩) (fun h=>h) d0
 have c1:=k1.cell (p:=⟨w.heap.size,1,none⟩) (fun h=>h) d1
 have c2:=k1.cell (p:=⟨w.heap.size,2,none⟩) (fun h=>h) d2
 have wE:=Lib.hid (HK.out.trans k1)
 clear k1 d0 d1 d2
 cases hm:dU 16 x with
 |false=>
  have F:rG w (dZ x false) (.returned (.tuple #[.int .u8 0, .int .i64 2])) W1:=⟨by unfold dZ;rw[if_pos hm],wE.out⟩
  have F':=Lib.hid F
  clear hm F
  go_wp2_with fail
  go_ret2
  exact F'.out
 |true=>
  have HM:=Lib.hid hm
  clear hm
  go_wp2_with fail
  (with_reducible refine(Td _ x _ W1 (Nat.le_refl _) (bg.pure wE.out H.out)).mono ?_)
  rintro e W1' ⟨rfl,k1⟩
  have c0:=k1.cell (p:=⟨w.heap.size,0,none⟩) (fun h=>h) c0
  have c1:=k1.cell (p:=⟨w.heap.size,1,none⟩) (fun h=>h) c1
  have c2:=k1.cell (p:=⟨w.heap.size,2,none⟩) (fun h=>h) c2
  have wE:=Lib.hid (wE.out.trans k1)
  clear k1
  cases hA:iy x with
  |true=>
   have F:rG w (dZ x false) (.returned (.tuple #[.int .u8 0, .int .i64 90])) W1':=⟨by unfold dZ;rw[if_neg (by rw[HM.out];simp),if_pos ⟨rfl,hA⟩],wE.out⟩
   have F':=Lib.hid F
   clear hA F
   go_wp2_with fail
   go_ret2
   exact F'.out
  |false=>
  have HA:=Lib.hid hA
  clear hA
  go_wp2_with fail
  refine aZ [1,0,2,3] (fun W=>Kept none' W1' W) (by kernel_rfl) (by kernel_rfl) rfl (Kept.refl _ _).drew ?_
  simp only[List.map_cons,List.map_nil,List.getElem?_toArray,List.getElem?_cons_zero,List.getElem?_cons_succ,Option.getD_some]
  (apply bC rfl rfl;(intro W hW;have z0:=hW.cell (fun h=>h) c0;have z1:=hW.cell (fun h=>h) c1;have z2:=hW.cell (fun h=>h) c2;go_simp;rfl);go_frame)
  apply iC rfl rfl
  intro K hK
  go_wp2_with fail
  (with_reducible refine(MX _).mono ?_)
  rintro e W2 ⟨m,rfl,r2,k2⟩
  have k2':Kept none' W1' W2:=k2.kL
  clear k2
  go_wp2_with fail
  refine hK _ _ (fun _=>k2') ?_
  clear hK
  apply iC rfl rfl
  intro K hK
  go_wp2_with fail
  have c:=Px 16 x _ m _ (bg.pure (wE.out.trans k2') H.out) HM.out r2
  (with_reducible refine c.mono ?_)
  clear c
  rintro e W3 ⟨rfl,k3⟩
  have Aj:Kept none' W1' W3:=k2'.trans k3
  clear k2' k3 r2
  go_wp2_with fail
  refine hK _ _ (fun _=>Aj) ?_
  clear hK
  (apply bC rfl rfl;(intro W hW;go_simp;rfl);go_frame)
  refine fU (fun _=>Aj) ?_
  by_cases ht:aV 16 x=0
  ·have F:rG w (dZ x false) (.returned (.tuple #[.int .u8 0, .int .i64 91])) W3:=⟨by unfold dZ;rw[if_neg (by rw[HM.out];simp),if_neg (by rw[HA.out];simp),if_pos ht],wE.out.trans Aj⟩
   have F':=Lib.hid F
   have hb:(aV 16 x==0)=true:=by simp[ht]
   clear F ht Aj
   go_wp2_with fail
   go_ret2
   exact F'.out
  ·have F:rG w (dZ x false) (.returned (.tuple #[.int .u8 (aV 16 x), .int .i64 0])) W3:=⟨by unfold dZ;rw[if_neg (by rw[HM.out];simp),if_neg (by rw[HA.out];simp),if_neg ht],wE.out.trans Aj⟩
   have F':=Lib.hid F
   have hb:(aV 16 x==0)=false:=by simp[ht]
   clear F ht Aj
   go_wp2_with fail
   go_ret2
   exact F'.out
theorem TW (x:Ex)(acc:Bool)(a:Array Value)(w:World)(h:bg w a x):Calls Tryz.prog 146 #[.agg a, .bool acc] w (rG w (dZ x acc)):=by
 cases acc with
 |true=>rw[Xi];exact Xh x a w h
 |false=>exact TY x a w h
theorem ZC (x:Ex)(acc:Bool)(ty:Int)(a:Array Value)(w:World)(h:bg w a x):Calls Tryz.prog 103 #[.agg a, .bool acc, .int .u8 ty] w (Gives w (.bool (lJ x acc ty))):=by
 obtain⟨p,cap,rfl,h0,h1,h2,h3,h4,h5⟩:=h.parts
 have H:=Lib.hid h
 clear h h5
 go_enter Tryz.func103,Tryz.ntmps103
 go_wp2_with fail
 have k0:Kept none' w (w.alloc (.cells #[.int .u8 x.op, .int .i64 x.n, .slice p x.args.length cap] 77)):=(Kept.refl _ _).alloc _
 have c:=TW x acc _ _ (bg.pure k0 H.out)
 (with_reducible refine c.mono ?_)
 clear c
 rintro e W2 ⟨rfl,k2⟩
 have HX:=Lib.hid (show lJ x acc ty=((dZ x acc).2==0&&(dZ x acc).1==ty)from rfl)
 generalize dZ x acc=r at*
 obtain⟨r1,r2⟩:=r
 have K:=Lib.hid (k0.trans k2)
 clear k0 k2
 by_cases hr:r2=0
 ·have hb:(r2==0)=true:=by simp[hr]
  rw[hb]at HX
  clear hr
  go_wp2_with fail
  go_ret
  exact⟨aU (by rw[HX.out];rfl),K.out⟩
 ·have hb:(r2==0)=false:=by simp[hr]
  rw[hb]at HX
  clear hr
  go_wp2_with fail
  go_ret
  exact⟨aU (by rw[HX.out];rfl),K.out⟩
end
section
open Go Go.RowKit
def yP (w:World)(a:Array Value)(d:JN):Prop:=
 ∃pi ci p cap,a= #[.string d.uid, .int .u8 d.kind, .slice pi d.ins.length ci, .int .u8 d.x.op, .int .i64 d.x.n, .slice p d.x.args.length cap, .int .i64 d.n]/\
  bg w #[.int .u8 d.x.op, .int .i64 d.x.n, .slice p d.x.args.length cap] d.x/\Reads w 1 (.slice pi d.ins.length ci) (ints d.ins)/\(∀k∈d.ins,aO k)/\0<=d.kind/\d.kind<=255/\aO d.n/\d.uid.size<=maxLen
theorem Reads.Vp {w w':World}{S:Nat->Prop}{k:Nat}{v:Value}{cs:List Value}(h:Reads w k v cs)(hk0:0<k)(hk:Kept S w w')(hS: ∀k,S k-> ∀c E f,w.heap[k]?≠some (.cells c E f)):Reads w' k v cs:=
 h.kept hk (fun b hb hs=>by obtain⟨c,E,f,h⟩:=h.isCells hk0 hb;exact hS b hs c E f h)
theorem yP.kept {w w':World}{S:Nat->Prop}(hk:Kept S w w')(hS: ∀k,S k-> ∀c E f,w.heap[k]?≠some (.cells c E f)){a:Array Value}{d:JN}(h:yP w a d):yP w' a d:=by
 obtain⟨pi,ci,p,cap,h1,h2,h3,h4⟩:=h
 exact⟨pi,ci,p,cap,h1,h2.kept hk hS,h3.Vp (by omega) hk hS,h4⟩
theorem yP.pure {w w':World}(hk:Kept none' w w'){a:Array Value}{d:JN}(h:yP w a d):yP w' a d:=h.kept hk (fun _ h=>h.elim)
def lV (w:World)(v:Value)(L:List JN):Prop:=
 ∃cs:List Value,Reads w 7 v cs/\cs.length=L.length*7/\ ∀i d,L[i]?=some d->yP w ((cs.drop (i*7)).take 7).toArray d
theorem lV.kept {w w':World}{S:Nat->Prop}(hk:Kept S w w')(hS: ∀k,S k-> ∀c E f,w.heap[k]?≠some (.cells c E f)){v:Value}{L:List JN}(h:lV w v L):lV w' v L:=by
 obtain⟨cs,h1,h2,h3⟩:=h
 exact⟨cs,h1.Vp (by omega) hk hS,h2,fun i d hd=>(h3 i d hd).kept hk hS⟩
theorem lV.pure {w w':World}(hk:Kept none' w w'){v:Value}{L:List JN}(h:lV w v L):lV w' v L:=h.kept hk (fun _ h=>h.elim)
structure FP (w:World)(b o:Nat)(d:JN)(pi:Option Addr)(ci:Nat)(p:Option Addr)(cap:Nat):Prop where
 c0:w.cell? ⟨b,o,none⟩=some (.string d.uid)
 c1:w.cell? ⟨b,o+1,none⟩=some (.int .u8 d.kind)
 c2:w.cell? ⟨b,o+2,none⟩=some (.slice pi d.ins.length ci)
 c3:w.cell? ⟨b,o+3,none⟩=some (.int .u8 d.x.op)
 c4:w.cell? ⟨b,o+4,none⟩=some (.int .i64 d.x.n)
 c5:w.cell? ⟨b,o+5,none⟩=some (.slice p d.x.args.length cap)
 c6:w.cell? ⟨b,o+6,none⟩=some (.int .i64 d.n)
theorem FP.kept {w w':World}{S:Nat->Prop}{b o:Nat}{d:JN}{pi:Option Addr}{ci:Nat}{p:Option Addr}{cap:Nat}(h:FP w b o d pi ci p cap)(hk:Kept S w w')(hb: ¬S b):FP w' b o d pi ci p cap:=
 ⟨hk.cell (p:=⟨b,o,none⟩) hb h.c0,hk.cell (p:=⟨b,o+1,none⟩) hb h.c1,hk.cell (p:=⟨b,o+2,none⟩) hb h.c2,hk.cell (p:=⟨b,o+3,none⟩) hb h.c3,hk.cell (p:=⟨b,o+4,none⟩) hb h.c4,hk.cell (p:=⟨b,o+5,none⟩) hb h.c5,hk.cell (p:=⟨b,o+6,none⟩) hb h.c6⟩
abbrev o7 (d:JN)(pi:Option Addr)(ci:Nat)(p:Option Addr)(cap:Nat):Array Value:=
 #[.string d.uid, .int .u8 d.kind, .slice pi d.ins.length ci, .int .u8 d.x.op, .int .i64 d.x.n, .slice p d.x.args.length cap, .int .i64 d.n]
theorem lV.at {w:World}{v:Value}{L:List JN}(h:lV w v L): ∃a cap,v= .slice a L.length cap/\L.length<=cap/\cap<=maxLen/\
 ∀i d,L[i]?=some d-> ∃b off pi ci p cap',a=some ⟨b,off,none⟩/\FP w b (off+i*7) d pi ci p cap'/\yP w (o7 d pi ci p cap') d:=by
 obtain⟨cs,⟨a,n,cap,rfl,h1,h2,h3,h4⟩,h5,h6⟩:=h
 have hn:n=L.length:=by omega
 subst hn
 refine⟨a,cap,rfl,h1,h2,fun i d hd=>?_⟩
 have hi:i<L.length:=(List.getElem?_eq_some_iff.1 hd).1
 have hj:=h6 i d hd
 have hne:cs≠[]:=fun e=>by rw[e]at h5;simp at h5;omega
 obtain⟨b,off,rfl,hc⟩:=h4.resolve_left hne
 obtain⟨pi,ci,p,cap',e,hrest⟩:=hj
 have hl:(cs.drop (i*7)).take 7=(o7 d pi ci p cap').toList:=by
  have:=congrArg Array.toList e
  simpa using this
 have get: ∀j v,(o7 d pi ci p cap').toList[j]?=some v->cs[i*7+j]?=some v:=by
  intro j v hj
  rw[<-hl,List.getElem?_take]at hj
  split at hj
  ·rwa[List.getElem?_drop]at hj
  ·cases hj
 have cell: ∀j v,(o7 d pi ci p cap').toList[j]?=some v->w.cell? ⟨b,off+i*7+j,none⟩=some v:=fun j v hj=>by
  have:=hc _ _ (get j v hj)
  rwa[<-Nat.add_assoc]at this
 exact⟨b,off,pi,ci,p,cap',rfl,⟨cell 0 _ rfl,cell 1 _ rfl,cell 2 _ rfl,cell 3 _ rfl,cell 4 _ rfl,cell 5 _ rfl,cell 6 _ rfl⟩,pi,ci,p,cap',rfl,hrest⟩
theorem lV.nil (w:World):lV w (.slice none 0 0) []:=⟨[],Reads.nil w 7,rfl,fun i d h=>by cases h⟩
def recs (L:List Rec):List Value:=L.flatMap fun r=>[.int .i64 r.pos, .int .i64 r.key, .int .i64 r.val]
def oh (a b:Int):Int:=if a<b then-1 else if b<a then 1 else 0
def UW (a b:Int):Int:=if a=0 then b else a
def CS (a b:Int):Int:=UW (oh (grp a) (grp b)) (oh a b)
theorem aeo (a b:Int):decide (CS a b<0)=fF a b:=by
 rw[Bool.eq_iff_iff,rW]
 unfold CS UW oh
 simp only[decide_eq_true_eq]
 by_cases h1:grp a<grp b
 ·simp[h1]
 ·by_cases h2:grp b<grp a
  ·simp[h1,h2];omega
  ·have:grp a=grp b:=by omega
   simp[this]
   by_cases h3:a<b
   ·simp[h3]
   ·by_cases h4:b<a<;>simp[h3,h4]
theorem ahy (a b:Int)(w:World):Calls Tryz.prog 332 #[.int .i64 a, .int .i64 b] w fun e w'=>e= .returned (.int .i64 (oh a b))/\w=w':=by
 by_cases h1:a<b
 ·have e:oh a b= -1:=by simp[oh,h1]
  have E:=Lib.hid e
  clear e
  go_enter Tryz.func332,Tryz.ntmps332
  go_wp2
  go_ret
  exact⟨kM E.out.symm,rfl⟩
 ·by_cases h2:b<a
  ·have e:oh a b=1:=by simp[oh,h1,h2]
   have E:=Lib.hid e
   clear e
   go_enter Tryz.func332,Tryz.ntmps332
   go_wp2
   go_ret
   exact⟨kM E.out.symm,rfl⟩
  ·have e:oh a b=0:=by simp[oh,h1,h2]
   have E:=Lib.hid e
   clear e
   go_enter Tryz.func332,Tryz.ntmps332
   go_wp2
   go_ret
   exact⟨kM E.out.symm,rfl⟩
theorem cmpInt (a b:Int)(w:World):Calls Tryz.prog 379 #[.int .i64 a, .int .i64 b] w fun e w'=>e= .returned (.int .i64 (oh a b))/\w=w':=by
 by_cases h1:a<b
 ·have e:oh a b= -1:=by simp[oh,h1]
  have E:=Lib.hid e
  clear e
  go_enter Tryz.func379,Tryz.ntmps379
  go_wp2
  go_ret
  exact⟨kM E.out.symm,rfl⟩
 ·by_cases h2:b<a
  ·have e:oh a b=1:=by simp[oh,h1,h2]
   have E:=Lib.hid e
   clear e
   go_enter Tryz.func379,Tryz.ntmps379
   go_wp2
   go_ret
   exact⟨kM E.out.symm,rfl⟩
  ·have e:oh a b=0:=by simp[oh,h1,h2]
   have E:=Lib.hid e
   clear e
   go_enter Tryz.func379,Tryz.ntmps379
   go_wp2
   go_ret
   exact⟨kM E.out.symm,rfl⟩
theorem ae8 (a b:Int)(g cap:Nat)(w:World)(h0:w.cell? ⟨g,0,none⟩=some (.int .i64 a))(h1:w.cell? ⟨g,0+1,none⟩=some (.int .i64 b)):
 Calls Tryz.prog 378 #[.slice (some ⟨g,0,none⟩) 2 cap] w fun e w'=>e= .returned (.int .i64 (UW a b))/\w=w':=by
 go_enter Tryz.func378,Tryz.ntmps378
 go_wp2
 go_loop [8] (fun i=> ∃k:Nat,k<=2/\i= .int .i64 k/\(1<=k->a=0)/\(2<=k->b=0)) (fun i=>2-(intOf i).toNat)
 case atStart=>exact⟨0,by omega,rfl,by omega,by omega⟩
 case round=>
  obtain⟨k,hk,rfl,ha,hb⟩:=hrel
  have hk3:k=0\/k=1\/k=2:=by omega
  rcases hk3 with rfl|rfl|rfl
  ·clear ha hb
   by_cases hz:a=0
   ·subst hz
    go_wp2
    go_round
    case rel=>exact⟨1,by omega,by go_num,fun _=>(by simp),by omega⟩
    case measure=>simp[intOf]
   ·have hz1:(a !=0)=true:=by simp[hz]
    go_wp2
    go_ret
    exact⟨kM (by unfold UW;rw[if_neg hz]),rfl⟩
  ·have ha':=ha (Nat.le_refl _)
   clear ha hb
   have A:=Lib.hid ha'
   clear ha'
   by_cases hz:b=0
   ·subst hz
    go_wp2
    go_round
    case rel=>exact⟨2,by omega,by go_num,fun _=>A.out,fun _=>(by simp)⟩
    case measure=>simp[intOf]
   ·have hz1:(b !=0)=true:=by simp[hz]
    go_wp2
    go_ret
    exact⟨kM (by unfold UW;rw[if_pos A.out]),rfl⟩
  ·have A:=Lib.hid (And.intro (ha (by omega)) (hb (by omega)))
   clear ha hb
   go_wp2
   go_ret
   exact⟨kM (by unfold UW;rw[if_pos A.out.1,A.out.2]),rfl⟩
end
section
open Go Go.RowKit
attribute [local irreducible] kC Ur
end
section
open Go Go.RowKit Go.Lib
attribute [local irreducible] kC Ur
theorem TM (L:List Rec):(recs L).length=L.length*3:=by
 unfold recs
 induction L with
 |nil=>rfl
 |cons x L ih=>simp only[List.flatMap_cons,List.length_append,List.length_cons,List.length_nil];omega
theorem Reads.len {w:World}{v:Value}{L:List Rec}(h:Reads w 3 v (recs L)): ∃a cap,v= .slice a L.length cap/\L.length<=cap/\cap<=maxLen:=by
 obtain⟨a,n,cap,rfl,h1,h2,h3,_⟩:=h
 rw[TM]at h3
 obtain rfl:L.length=n:=by omega
 exact⟨a,cap,rfl,h1,h2⟩
theorem kP {w:World}{base e size n:Nat}{v:Value}{xs:List Value}(h:w.ownsRow base e size v n xs){b:Nat}(hb:v.ownBlock=some b):base<=b/\b<w.heap.size:=by
 rcases h.2 with⟨rfl,_⟩|⟨g,cap,cur,rfl,h1,h2,_⟩
 ·cases hb
 ·cases hb;exact⟨h1,(Array.getElem?_eq_some_iff.1 h2).1⟩
end
section
open Go Go.RowKit
attribute [local irreducible] kC
theorem wpList_append_run {P:Program}{w w':World}{ops:Array Oper}{rest:List Oper}{o:Oper}{a:Act}{Q:Exit->Act->World->Prop}(hgd:o.guard=none)(s x:Operand)(t:TypeId)
 (ho:o.op= .call {callee:= .builtin .append,args:= #[s,x],argTypes:= #[t,t]}) (v u v':Value) (hs:a.eval s=v) (hx:a.eval x=u) (hr:(Builtin.append_ #[t,t] o.type #[v,u]).run P w= .ok v' w')
 (h:wpList P ops Q rest (a.put o.dst v') w'):wpList P ops Q (o::rest) a w:=
 wpList_plain hgd fun K hK=>by
  unfold Oper.wp execOp
  simp only[ho,resolve,invoke,builtin,Sem.run_bind,Sem.run_pure,Result.andThen_ok,List.map_toArray,List.map_cons,List.map_nil,hs,hx,hr]
  exact hK _ _ h
section
variable {S:Nat->Prop} {w0 w w':World} {Bn Bi Bo Bg base:Nat} {na:Array Value} {nd:Nod} {v:Value} {L out out':List Rec}
end
end
section
open Go Go.RowKit
attribute [local irreducible] kC
end
section
open Go Go.RowKit
section
variable {Gs:Nat->Prop} {w w':World} {Bo base tb tm:Nat} {X:Nat->Prop} {out:List Rec} {T:Tab}
end
end
section
open Go Go.RowKit
attribute [local irreducible] kC
def aez (T:Tab)(key n:Int)(len:Nat):Prop:=ae0 T key len≠0\/((len:Nat):Int)<n
instance (T:Tab) (key n:Int) (len:Nat):Decidable (aez T key n len):=by unfold aez;exact inferInstance
end
section
open Go Go.RowKit Go.Shelf
attribute [local irreducible] kC
end
section
open Go Go.RowKit
attribute [local irreducible] kC
end
end Go.Proofs.YtakhobfamnjnoaaGreatDoor
