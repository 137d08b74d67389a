/- The document's expressions: what shape, whether it may be, whether it reads the state. -/
import Derived.Test.YtakhobfamnjnoaaGreatDoorC29
set_option linter.unusedVariables false
set_option linter.unusedSimpArgs false
set_option maxHeartbeats 8000000
set_option maxRecDepth 100000
namespace Go.Proofs.YtakhobfamnjnoaaGreatDoor
open Go Go.RowKit
theorem Dz (x:Ex)(a:Array Value)(L:Int)(w:World)(hL0:1<=L)(hL:L<=17)(h:bg w a x)
 (hno:arity x.op≠x.args.length\/x.n<0\/x.n≠0/\x.op≠1):Calls Tryz.prog 293 #[.agg a, .int .i64 L] w (Gives w (.bool false)):=by
 obtain⟨p,cap,rfl,h0,h1,h2,h3,h4,h5⟩:=h.parts
 have hk:Kept none' w (w.alloc (.cells #[.int .u8 x.op, .int .i64 x.n, .slice p x.args.length cap] 77)):=(Kept.refl _ _).alloc _
 obtain⟨W0,hW0⟩: ∃W0,w.alloc (.cells #[.int .u8 x.op, .int .i64 x.n, .slice p x.args.length cap] 77)=W0:=⟨_,rfl⟩
 have d0:W0.cell? ⟨w.heap.size,0,none⟩=some (.int .u8 x.op):=by rw[<-hW0];simp
 have d1:W0.cell? ⟨w.heap.size,1,none⟩=some (.int .i64 x.n):=by rw[<-hW0];simp
 have d2:W0.cell? ⟨w.heap.size,2,none⟩=some (.slice p x.args.length cap):=by rw[<-hW0];simp
 have HK:=Lib.hid hk
 have HW0:=Lib.hid hW0
 unfold aO at h2
 unfold maxLen at h4
 obtain⟨h2,h2'⟩:=h2
 have hL1:(L==0)=false:=by simp;omega
 clear hk h h5 hW0
 by_cases c0:18<x.op
 ·have g18:decide (18<x.op)=true:=decide_eq_true c0
  clear hno c0
  go_enter Tryz.func293,Tryz.ntmps293
  go_wp2_with fail
  rw[HW0.out]
  refine aZ [0,1,2,3,4,5,7,8,9,6,10,11,12,13,14,15,16,17,18,19,20,21,22,23,24,25,26] (fun W=>Kept none' W0 W) (by kernel_rfl) (by kernel_rfl) rfl (Kept.refl _ _).drew ?_
  simp only[List.map_cons,List.map_nil,List.getElem?_toArray,List.getElem?_cons_zero,List.getElem?_cons_succ,Option.getD_some]
  iterate 9 (first|(apply dJ rfl;go_frame)|(apply bC rfl rfl;(intro W hW;have z0:=hW.cell (fun h=>h) d0;have z1:=hW.cell (fun h=>h) d1;have z2:=hW.cell (fun h=>h) d2;go_simp;rfl);go_frame))
  iterate 18 (first|(apply dJ rfl;go_frame)|(apply bC rfl rfl;(intro W hW;have z0:=hW.cell (fun h=>h) d0;have z1:=hW.cell (fun h=>h) d1;have z2:=hW.cell (fun h=>h) d2;go_simp;rfl);go_frame))
  refine fU (fun _=>(Kept.refl _ _).drew) ?_
  go_wp2_with fail
  go_ret
  exact⟨rfl,HK.out.trans (by rw[HW0.out];exact(Kept.refl _ _).drew)⟩
 have g18:decide (18<x.op)=false:=decide_eq_false c0
 have HM:=Lib.hid (Np x.op h0 (by omega))
 by_cases c1:arity x.op=x.args.length
 ·have f1:(arity x.op !=(x.args.length:Int))=false:=by rw[c1];simp
  by_cases c2:x.n<0
  ·have g2:decide (x.n<0)=true:=decide_eq_true c2
   clear hno c1 c0
   go_enter Tryz.func293,Tryz.ntmps293
   go_wp2_with fail
   rw[HW0.out]
   refine aZ [0,1,2,3,4,5,7,8,9,6,10,11,12,13,14,15,16,17,18,19,20,21,22,23,24,25,26] (fun W=>Kept none' W0 W) (by kernel_rfl) (by kernel_rfl) rfl (Kept.refl _ _).drew ?_
   simp only[List.map_cons,List.map_nil,List.getElem?_toArray,List.getElem?_cons_zero,List.getElem?_cons_succ,Option.getD_some]
   iterate 9 (first|(apply dJ rfl;go_frame)|(apply bC rfl rfl;(intro W hW;have z0:=hW.cell (fun h=>h) d0;have z1:=hW.cell (fun h=>h) d1;have z2:=hW.cell (fun h=>h) d2;go_simp;rfl);go_frame))
   apply iC rfl rfl
   intro K hK
   go_wp2_with fail
   (with_reducible refine(HM.out _).mono ?_)
   rintro e W2 ⟨rfl,k2⟩
   have k2':Kept none' W0 W2:=k2.kL
   clear k2
   go_wp2_with fail
   refine hK _ _ (fun _=>k2') ?_
   clear hK
   iterate 17 (first|(apply dJ rfl;go_frame)|(apply bC rfl rfl;(intro W hW;have z0:=hW.cell (fun h=>h) d0;have z1:=hW.cell (fun h=>h) d1;have z2:=hW.cell (fun h=>h) d2;go_simp;rfl);go_frame))
   refine fU (fun _=>k2') ?_
   go_wp2_with fail
   go_ret
   exact⟨rfl,HK.out.trans (by rw[HW0.out];exact k2')⟩
  have g2:decide (x.n<0)=false:=decide_eq_false c2
  have c3:x.n≠0/\x.op≠1:=by
   rcases hno with hn|hn|hn
   ·exact absurd c1 hn
   ·exact absurd hn c2
   ·exact hn
  have g3:(x.n !=0)=true:=by simp[c3.1]
  have f4:(x.op !=1)=true:=by simp[c3.2]
  clear c1 c3 hno c0 c2
  go_enter Tryz.func293,Tryz.ntmps293
  go_wp2_with fail
  rw[HW0.out]
  refine aZ [0,1,2,3,4,5,7,8,9,6,10,11,12,13,14,15,16,17,18,19,20,21,22,23,24,25,26] (fun W=>Kept none' W0 W) (by kernel_rfl) (by kernel_rfl) rfl (Kept.refl _ _).drew ?_
  simp only[List.map_cons,List.map_nil,List.getElem?_toArray,List.getElem?_cons_zero,List.getElem?_cons_succ,Option.getD_some]
  iterate 9 (first|(apply dJ rfl;go_frame)|(apply bC rfl rfl;(intro W hW;have z0:=hW.cell (fun h=>h) d0;have z1:=hW.cell (fun h=>h) d1;have z2:=hW.cell (fun h=>h) d2;go_simp;rfl);go_frame))
  apply iC rfl rfl
  intro K hK
  go_wp2_with fail
  (with_reducible refine(HM.out _).mono ?_)
  rintro e W2 ⟨rfl,k2⟩
  have k2':Kept none' W0 W2:=k2.kL
  clear k2
  go_wp2_with fail
  refine hK _ _ (fun _=>k2') ?_
  clear hK
  iterate 17 (first|(apply dJ rfl;go_frame)|(apply bC rfl rfl;(intro W hW;have z0:=hW.cell (fun h=>h) d0;have z1:=hW.cell (fun h=>h) d1;have z2:=hW.cell (fun h=>h) d2;go_simp;rfl);go_frame))
  refine fU (fun _=>k2') ?_
  go_wp2_with fail
  go_ret
  exact⟨rfl,HK.out.trans (by rw[HW0.out];exact k2')⟩
 ·have f1:(arity x.op !=(x.args.length:Int))=true:=by simp[c1]
  clear c1 hno c0
  go_enter Tryz.func293,Tryz.ntmps293
  go_wp2_with fail
  rw[HW0.out]
  refine aZ [0,1,2,3,4,5,7,8,9,6,10,11,12,13,14,15,16,17,18,19,20,21,22,23,24,25,26] (fun W=>Kept none' W0 W) (by kernel_rfl) (by kernel_rfl) rfl (Kept.refl _ _).drew ?_
  simp only[List.map_cons,List.map_nil,List.getElem?_toArray,List.getElem?_cons_zero,List.getElem?_cons_succ,Option.getD_some]
  iterate 9 (first|(apply dJ rfl;go_frame)|(apply bC rfl rfl;(intro W hW;have z0:=hW.cell (fun h=>h) d0;have z1:=hW.cell (fun h=>h) d1;have z2:=hW.cell (fun h=>h) d2;go_simp;rfl);go_frame))
  apply iC rfl rfl
  intro K hK
  go_wp2_with fail
  (with_reducible refine(HM.out _).mono ?_)
  rintro e W2 ⟨rfl,k2⟩
  have k2':Kept none' W0 W2:=k2.kL
  clear k2
  go_wp2_with fail
  refine hK _ _ (fun _=>k2') ?_
  clear hK
  iterate 17 (first|(apply dJ rfl;go_frame)|(apply bC rfl rfl;(intro W hW;have z0:=hW.cell (fun h=>h) d0;have z1:=hW.cell (fun h=>h) d1;have z2:=hW.cell (fun h=>h) d2;go_simp;rfl);go_frame))
  refine fU (fun _=>k2') ?_
  go_wp2_with fail
  go_ret
  exact⟨rfl,HK.out.trans (by rw[HW0.out];exact k2')⟩
def Ov (f:Nat):Prop:= ∀(x:Ex)(a:Array Value)(L:Int)(w:World),L=f->f<=17->bg w a x->Calls Tryz.prog 293 #[.agg a, .int .i64 L] w (Gives w (.bool (gZ f x)))
theorem Wp (f:Nat)(ih:Ov f)(x:Ex)(a:Array Value)(L:Int)(w:World)(hL:L=((f+1:Nat):Int))(hf:f+1<=17)(h:bg w a x)
 (c1:arity x.op=x.args.length) (c2: ¬x.n<0) (c3: ¬(x.n≠0/\x.op≠1)):Calls Tryz.prog 293 #[.agg a, .int .i64 L] w (Gives w (.bool (gZ (f+1) x))):=by
 have hx:gZ (f+1) x=x.args.all (gZ f):=by
  rw[sU]
  have e1:decide (arity x.op=x.args.length)=true:=decide_eq_true c1
  have e2:decide (0<=x.n)=true:=decide_eq_true (by omega)
  have e3:decide (x.n=0\/x.op=1)=true:=decide_eq_true (by omega)
  rw[e1,e2,e3];rfl
 rw[hx]
 obtain⟨p,cap,rfl,h0,h1,h2,h3,h4,h5⟩:=h.parts
 have hk:Kept none' w (w.alloc (.cells #[.int .u8 x.op, .int .i64 x.n, .slice p x.args.length cap] 77)):=(Kept.refl _ _).alloc _
 obtain⟨W0,hW0⟩: ∃W0,w.alloc (.cells #[.int .u8 x.op, .int .i64 x.n, .slice p x.args.length cap] 77)=W0:=⟨_,rfl⟩
 have d0:W0.cell? ⟨w.heap.size,0,none⟩=some (.int .u8 x.op):=by rw[<-hW0];simp
 have d1:W0.cell? ⟨w.heap.size,1,none⟩=some (.int .i64 x.n):=by rw[<-hW0];simp
 have d2:W0.cell? ⟨w.heap.size,2,none⟩=some (.slice p x.args.length cap):=by rw[<-hW0];simp
 have HK:=Lib.hid hk
 have HW0:=Lib.hid hW0
 unfold aO at h2
 unfold maxLen at h4
 obtain⟨h2,h2'⟩:=h2
 have f1:(arity x.op !=(x.args.length:Int))=false:=by rw[c1];simp
 have hL1:1<=L:=by omega
 have hL2:L<=17:=by omega
 have f6:(L==0)=false:=by simp;omega
 have g2:decide (x.n<0)=false:=decide_eq_false c2
 have c0:x.op<=18:=by
  rcases Int.lt_or_le 18 x.op with c|c
  ·unfold arity at c1;rw[if_pos (.inr c)]at c1;omega
  ·exact c
 have g18:decide (18<x.op)=false:=decide_eq_false (by omega)
 have HM:=Lib.hid (Np x.op h0 c0)
 have IH:=Lib.hid ih
 have HL:=Lib.hid hL
 have H5:=Lib.hid h5
 clear hk h h5 hW0 hx c1 ih hL
 have main:((x.n !=0)=false\/(x.n !=0)=true/\(x.op !=1)=false)->Calls Tryz.prog 293 #[.agg #[.int .u8 x.op, .int .i64 x.n, .slice p x.args.length cap], .int .i64 L] w (Gives w (.bool (x.args.all (gZ f)))):=by
  clear c3
  rintro(f3|⟨f3,f4⟩)
  all_goals
   go_enter Tryz.func293,Tryz.ntmps293
   go_wp2_with fail
   rw[HW0.out]
   refine aZ [0,1,2,3,4,5,7,8,9,6,10,11,12,13,14,15,16,17,18,19,20,21,22,23,24,25,26] (fun W=>Kept none' W0 W) (by kernel_rfl) (by kernel_rfl) rfl (Kept.refl _ _).drew ?_
   simp only[List.map_cons,List.map_nil,List.getElem?_toArray,List.getElem?_cons_zero,List.getElem?_cons_succ,Option.getD_some]
   iterate 9 (first|(apply dJ rfl;go_frame)|(apply bC rfl rfl;(intro W hW;have z0:=hW.cell (fun h=>h) d0;have z1:=hW.cell (fun h=>h) d1;have z2:=hW.cell (fun h=>h) d2;go_simp;rfl);go_frame))
   apply iC rfl rfl
   intro K hK
   go_wp2_with fail
   (with_reducible refine(HM.out _).mono ?_)
   rintro e W2 ⟨rfl,k2⟩
   have k2':Kept none' W0 W2:=k2.kL
   clear k2
   go_wp2_with fail
   refine hK _ _ (fun _=>k2') ?_
   clear hK
   iterate 17 (first|(apply dJ rfl;go_frame)|(apply bC rfl rfl;(intro W hW;have z0:=hW.cell (fun h=>h) d0;have z1:=hW.cell (fun h=>h) d1;have z2:=hW.cell (fun h=>h) d2;go_simp;rfl);go_frame))
   refine fU (fun _=>k2') ?_
   go_wp2_with fail
   obtain⟨W1,hW1⟩: ∃W1,W2=W1:=⟨_,rfl⟩
   rw[hW1]at k2'
   have KK:=Lib.hid (HK.out.trans (by rw[HW0.out];exact k2'))
   have HW1:=Lib.hid k2'
   rw[hW1]
   clear hW1 k2'
   go_loopg [5] x.args.length (fun g vi wr=> ∃k:Nat,k<=x.args.length/\vi= .int .i64 (k:Int)/\x.args.length-k<=g/\(x.args.take k).all (gZ f)=true/\Kept none' W0 wr)
   case atStart=>exact⟨0,by omega,rfl,by omega,by simp,HW1.out⟩
   case round=>
    obtain⟨k,hkl,rfl,hg,ht,hkp⟩:=hrel
    have HT:=Lib.hid (And.intro hg ht)
    clear hg ht
    have dd:=hkp.cell (p:=⟨w.heap.size,2,none⟩) (fun h=>h) d2
    by_cases hlt:k<x.args.length
    ·obtain⟨y,hy⟩: ∃y,x.args[k]?=some y:=⟨_,List.getElem?_eq_getElem hlt⟩
     obtain⟨b,off,p',cap',rfl,q0,q1,q2,hy2⟩:=H5.out k y hy
     have hW:=(HK.out.trans (by rw[HW0.out];exact hkp):Kept none' w wr)
     have r0:=hW.cell (p:=⟨b,off+k*3,none⟩) (fun h=>h) q0
     have r1:=hW.cell (p:=⟨b,off+k*3+1,none⟩) (fun h=>h) q1
     have r2:=hW.cell (p:=⟨b,off+k*3+2,none⟩) (fun h=>h) q2
     have HY:=Lib.hid (And.intro hy (bg.pure hW hy2))
     have zq:=Lib.hid (And.intro hW hkp)
     clear q0 q1 q2 hy hy2 hW hkp H5
     go_wp2_with fail
     have c:=IH.out y _ (L-1) wr (by have:=HL.out;omega) (by omega) HY.out.2
     (with_reducible refine c.mono ?_)
     clear c
     rintro e w2 ⟨rfl,k3⟩
     have Gw:=Lib.hid k3
     clear k3
     cases hm:gZ f y with
     |false=>
      have Ti:=Lib.hid hm
      clear hm
      go_wp2_with fail
      go_ret
      exact⟨aU (U5 HY.out.1 Ti.out).symm,zq.out.1.trans Gw.out⟩
     |true=>
      have Ti:=Lib.hid hm
      clear hm
      go_wp2_with fail
      go_roundg (x.args.length-(k+1))
      case rel=>exact⟨k+1,by omega,by go_num,Nat.le_refl _,Du HY.out.1 HT.out.2 Ti.out,zq.out.2.trans Gw.out⟩
      case measure=>have:=HT.out.1;omega
    ·go_wp2_with fail
     go_ret
     exact⟨aU (Gv HT.out.2 (by omega)).symm,HK.out.trans (by rw[HW0.out];exact hkp)⟩
 clear HM HW0 HK d0 d1 d2
 apply main
 by_cases c4:x.n=0
 ·left;simp[c4]
 ·right
  have:x.op=1:=by omega
  simp[this,c4]
theorem IL: ∀f,Ov f
 |0=>fun x a L w hL hf h=>by
  obtain⟨p,cap,rfl,h0,h1,h2,h3,h4,h5⟩:=h.parts
  subst hL
  clear h5 h
  unfold maxLen at h4
  have e:gZ 0 x=true:=by cases x;rfl
  rw[e]
  go_enter Tryz.func293,Tryz.ntmps293
  go_wp2_with fail
  go_ret
  exact⟨rfl,(Kept.refl _ _).alloc _⟩
 |f+1=>fun x a L w hL hf h=>by
  by_cases c1:arity x.op=x.args.length
  ·by_cases c2:x.n<0
   ·have e:gZ (f+1) x=false:=by rw[sU];simp;omega
    rw[e];exact Dz x a L w (by omega) (by omega) h (.inr (.inl c2))
   ·by_cases c3:x.n≠0/\x.op≠1
    ·have e:gZ (f+1) x=false:=by rw[sU];simp;omega
     rw[e];exact Dz x a L w (by omega) (by omega) h (.inr (.inr c3))
    ·exact Wp f (IL f) x a L w hL hf h c1 c2 c3
  ·have e:gZ (f+1) x=false:=by rw[sU];simp[c1]
   rw[e];exact Dz x a L w (by omega) (by omega) h (.inl c1)
theorem ad2: ∃i,Tryz.prog.info? 5=some i/\i.zero=some (.int .u8 0)/\i.size=1/\i.bytes=1:=by
 have h:(Tryz.prog.info? 5).map (fun i=>(i.zero,i.size,i.bytes))=some (some (.int .u8 0),1,1):=by kernel_rfl
 obtain⟨i,h1,h2⟩:=Option.map_eq_some_iff.1 h
 injection h2 with h2 h3
 injection h3 with h3 h4
 exact⟨i,h1,h2,h3,h4⟩
def jc:List Int->Int
 |[]=>0
 |a::l=>l.foldl (fun s b=>if s=b then b else 3) a
theorem TI (l:List Int)(t:Int):jc (l++[t])=if l=[]\/jc l=t then t else 3:=by
 cases l with
 |nil=>simp[jc]
 |cons a l=>simp[jc,List.foldl_append]
theorem FU {l:List Int}{k:Nat}{t:Int}(h:l[k]?=some t):jc (l.take (k+1))=if k=0\/jc (l.take k)=t then t else 3:=by
 have hk:k<l.length:=by rcases Nat.lt_or_ge k l.length with h'|h';exact h';rw[List.getElem?_eq_none h']at h;cases h
 rw[List.take_add_one,h,Option.toList_some,TI]
 have:l.take k=[]↔k=0:=by
  rw[List.take_eq_nil_iff]
  constructor
  ·rintro(h'|h')
   ·exact h'
   ·rw[h']at hk;simp at hk
  ·exact .inl
 simp only[this]
theorem PW {l:List Int}(h: ∀t∈l,0<=t/\t<=2):0<=jc l/\jc l<=3:=by
 have: ∀n,n<=l.length->0<=jc (l.take n)/\jc (l.take n)<=3:=by
  intro n
  induction n with
  |zero=>intro _;rw[List.take_zero];exact⟨Int.le_refl 0,by decide⟩
  |succ n ih=>
   intro hn
   have e:l[n]?=some l[n]:=List.getElem?_eq_getElem (by omega)
   have:=h l[n] (List.getElem_mem _)
   rw[FU e]
   split<;>omega
 have:=this l.length (Nat.le_refl _)
 rwa[List.take_length]at this
def dD (op s:Int)(ts:List Int):Int:=
 if op<=4 then 1 else if op=5\/(7<=op/\op<=11)then(if s=1 then 1 else 0)else if op=6\/op=16\/op=17 then(if s=2 then 2 else 0)else if op=12\/op=13 then(if s=1 then 2 else 0)else if op=14\/op=15 then(if s≠3 then 2 else 0)else(if ts.getD 0 0=2/\ts.getD 1 0=ts.getD 2 0 then ts.getD 1 0 else 0)
theorem Gu {op:Int}{n:Nat}(h0:0<=op)(h:arity op=n):1<=op/\op<=18:=by
 unfold arity at h
 split at h
 ·omega
 ·omega
theorem adN (op:Int)(ts:List Int)(h0:0<=op)(h:arity op=ts.length)(ht: ∀t∈ts,t=1\/t=2):jy (op,ts.getD 0 0,ts.getD 1 0,ts.getD 2 0)=dD op (jc ts) ts:=by
 obtain⟨l1,l2⟩:=Gu h0 h
 have h3:=yJ op
 match ts,h,ht with
 |[],h,_=>
  have:op<=4:=by unfold arity at h;simp at h;split at h<;>(try omega)<;>(split at h<;>(try omega)<;>(split at h<;>(try omega)<;>(split at h<;>omega)))
  obtain rfl|rfl|rfl|rfl:op=1\/op=2\/op=3\/op=4:=by omega
  all_goals decide
 |[a],h,ht=>
  have:op=5\/op=6:=by unfold arity at h;simp at h;split at h<;>(try omega)<;>(split at h<;>(try omega)<;>(split at h<;>(try omega)<;>(split at h<;>omega)))
  have ha:=ht a (by simp)
  rcases ha with rfl|rfl<;>rcases this with rfl|rfl<;>decide
 |[a,b],h,ht=>
  have:7<=op/\op<=17:=by unfold arity at h;simp at h;split at h<;>(try omega)<;>(split at h<;>(try omega)<;>(split at h<;>(try omega)<;>(split at h<;>omega)))
  have ha:=ht a (by simp)
  have hb:=ht b (by simp)
  obtain rfl|rfl|rfl|rfl|rfl|rfl|rfl|rfl|rfl|rfl|rfl:op=7\/op=8\/op=9\/op=10\/op=11\/op=12\/op=13\/op=14\/op=15\/op=16\/op=17:=by omega
  all_goals(rcases ha with rfl|rfl<;>rcases hb with rfl|rfl<;>decide)
 |[a,b,c],h,ht=>
  have:op=18:=by unfold arity at h;simp at h;split at h<;>(try omega)<;>(split at h<;>(try omega)<;>(split at h<;>(try omega)<;>(split at h<;>omega)))
  have ha:=ht a (by simp)
  have hb:=ht b (by simp)
  have hc:=ht c (by simp)
  subst this
  rcases ha with rfl|rfl<;>rcases hb with rfl|rfl<;>rcases hc with rfl|rfl<;>decide
 |a::b::c::d::l,h,_=>simp at h;omega
theorem PY (k:Int×Int×Int×Int):jy k=0\/jy k=1\/jy k=2:=by
 obtain⟨op,a,b,c⟩:=k
 by_cases h:jy (op,a,b,c)=0
 ·exact .inl h
 ·rcases PZ h with h|h
  ·exact .inr (.inl h.1)
  ·exact .inr (.inr h.1)
theorem tZ: ∀(f:Nat)(x:Ex),aV f x=0\/aV f x=1\/aV f x=2
 |0,x=>by cases x;exact .inl rfl
 |f+1,x=>by
  rw[Ar]
  split
  ·exact .inl rfl
  ·exact PY _
theorem ad6 {f:Nat}{x:Ex}(h0:0<=x.op)(h:arity x.op=x.args.length)(hz: ∀t∈x.args.map (aV f),t≠0):aV (f+1) x=dD x.op (jc (x.args.map (aV f))) (x.args.map (aV f)):=by
 have hr: ∀t∈x.args.map (aV f),t=1\/t=2:=by
  intro t ht
  have h1:=hz t ht
  obtain⟨y,_,rfl⟩:=List.mem_map.1 ht
  rcases tZ f y with h|h|h
  ·exact absurd h h1
  ·exact .inl h
  ·exact .inr h
 rw[Ar,if_neg,adN x.op _ h0 (by simpa using h) hr]
 intro hc
 rw[List.contains_iff_mem]at hc
 exact hz 0 hc rfl
theorem ad7 {f:Nat}{x:Ex}(h:0∈x.args.map (aV f)):aV (f+1) x=0:=by
 rw[Ar,if_pos (List.contains_iff_mem.2 h)]
theorem Nq: ∀(N:Nat)(x:Ex)(a:Array Value)(w:World),SizeOf.sizeOf x<=N->bg w a x->Calls Tryz.prog 209 #[.agg a] w (Gives w (.bool (iy x)))
 |0,x,_,_,h,_=>by cases x;simp at h
 |N+1,x,a,w,hN,h=>by
  obtain⟨p,cap,rfl,h0,h1,h2,h3,h4,h5⟩:=h.parts
  have sub: ∀(i:Nat)(y:Ex),x.args[i]?=some y->SizeOf.sizeOf y<=N:=by
   intro i y hy
   obtain⟨op,n,args⟩:=x
   have h1:=List.sizeOf_lt_of_mem (List.mem_of_getElem? (show args[i]?=some y from hy))
   simp at hN
   omega
  have IH:=Lib.hid (fun y a w hy=>Nq N y a w hy)
  have SB:=Lib.hid sub
  have H5:=Lib.hid h5
  have HX:=Lib.hid (Oe x)
  unfold maxLen at h4
  clear h h5 sub hN
  go_enter Tryz.func209,Tryz.ntmps209
  go_wp2_with fail
  obtain⟨W0,hW0⟩: ∃W0,w.alloc (.cells #[.int .u8 x.op, .int .i64 x.n, .slice p x.args.length cap] 77)=W0:=⟨_,rfl⟩
  have k0:Kept none' w W0:=by rw[<-hW0];exact(Kept.refl _ _).alloc _
  have d0:W0.cell? ⟨w.heap.size,0,none⟩=some (.int .u8 x.op):=by rw[<-hW0];simp
  have d2:W0.cell? ⟨w.heap.size,2,none⟩=some (.slice p x.args.length cap):=by rw[<-hW0];simp
  rw[hW0]
  have K0:=Lib.hid k0
  clear hW0 k0
  go_loopg [3] x.args.length (fun g vi wr=> ∃(k:Nat),k<=x.args.length/\vi= .int .i64 (k:Int)/\x.args.length-k<=g/\(x.args.take k).any iy=false/\Kept none' W0 wr)
  case atStart=>exact⟨0,by omega,rfl,by omega,by simp,Kept.refl _ _⟩
  case round=>
   obtain⟨k,hkl,rfl,hg,hno,hkp⟩:=hrel
   have e0:=hkp.cell (p:=⟨w.heap.size,0,none⟩) (fun h=>h) d0
   have e2:=hkp.cell (p:=⟨w.heap.size,2,none⟩) (fun h=>h) d2
   have HKP:=Lib.hid hkp
   have hW:=(K0.out.trans hkp:Kept none' w wr)
   clear hkp
   by_cases hlt:k<x.args.length
   ·obtain⟨y,hy⟩: ∃y,x.args[k]?=some y:=⟨_,List.getElem?_eq_getElem hlt⟩
    obtain⟨b,off,p',cap',rfl,q0,q1,q2,hy2⟩:=H5.out k y hy
    have r0:=hW.cell (p:=⟨b,off+k*3,none⟩) (fun h=>h) q0
    have r1:=hW.cell (p:=⟨b,off+k*3+1,none⟩) (fun h=>h) q1
    have r2:=hW.cell (p:=⟨b,off+k*3+2,none⟩) (fun h=>h) q2
    have G:=Lib.hid (And.intro hg (And.intro (bg.pure hW hy2) (And.intro (SB.out k y hy) (And.intro hy hno))))
    have KW:=Lib.hid hW
    clear q0 q1 q2 hy hy2 hW hg H5 hno
    go_wp2_with fail
    have c:=IH.out y _ wr G.out.2.2.1 G.out.2.1
    (with_reducible refine c.mono ?_)
    clear c
    rintro e w2 ⟨rfl,k2⟩
    have K2:=Lib.hid (And.intro (KW.out.trans k2) (HKP.out.trans k2))
    clear k2
    cases hA:iy y with
    |true=>
     have F:=Lib.hid (show iy x=true by rw[HX.out,Bool.or_eq_true];right;rw[List.any_eq_true];exact⟨y,List.mem_of_getElem? G.out.2.2.2.1,hA⟩)
     clear hA
     go_wp2_with fail
     go_ret
     exact⟨aU (by rw[F.out]),K2.out.1⟩
    |false=>
     have F:=Lib.hid (zN G.out.2.2.2.1 G.out.2.2.2.2 hA)
     clear hA
     go_wp2_with fail
     go_roundg (x.args.length-(k+1))
     case rel=>exact⟨k+1,by omega,by go_num,Nat.le_refl _,F.out,K2.out.2⟩
     case measure=>have:=G.out.1;omega
   ·have F:=Lib.hid (show iy x=(x.op==4) by
     rw[List.take_of_length_le (by omega)]at hno
     rw[HX.out,hno,Bool.or_false])
    have KW:=Lib.hid hW
    clear hno hW hg
    go_wp2_with fail
    go_ret
    exact⟨aU (by rw[F.out]),KW.out⟩
theorem acw (x:Ex)(a:Array Value)(w:World)(h:bg w a x):Calls Tryz.prog 292 #[.agg a] w (Gives w (.int .i64 (jd 17 x:Int))):=by
 obtain⟨p,cap,rfl,h0,h1,h2,h3,h4,h5⟩:=h.parts
 have H:=Lib.hid h
 clear h h5
 go_enter Tryz.func292,Tryz.ntmps292
 go_wp2_with fail
 have k1:Kept none' w (w.alloc (.cells #[.int .u8 x.op, .int .i64 x.n, .slice p x.args.length cap] 77)):=(Kept.refl _ _).alloc _
 have c:=Nl 17 x _ 17 _ rfl (Nat.le_refl _) (bg.pure k1 H.out)
 (with_reducible refine c.mono ?_)
 clear c
 rintro e w2 ⟨rfl,k2⟩
 have hd:=xX 17 x
 obtain⟨D,hD⟩: ∃D,jd 17 x=D:=⟨_,rfl⟩
 rw[hD]at hd
 rw[hD]
 have HK:=Lib.hid (k1.trans k2)
 have HD:=Lib.hid hD
 clear hD k1 k2
 go_wp2_with fail
 go_ret
 exact⟨OI (by rw[HD.out]),HK.out⟩
theorem acs (x:Ex)(a:Array Value)(w:World)(h:bg w a x):Calls Tryz.prog 208 #[.agg a] w (Gives w (.bool (dU 16 x))):=by
 have hE:=yE 16 x
 obtain⟨p,cap,rfl,h0,h1,h2,h3,h4,h5⟩:=h.parts
 have H:=Lib.hid h
 have HE:=Lib.hid hE
 clear h h5 hE
 go_enter Tryz.func208,Tryz.ntmps208
 go_wp2_with fail
 have k1:Kept none' w (w.alloc (.cells #[.int .u8 x.op, .int .i64 x.n, .slice p x.args.length cap] 77)):=(Kept.refl _ _).alloc _
 (with_reducible refine(acw x _ _ (bg.pure k1 H.out)).mono ?_)
 rintro e w2 ⟨rfl,k2⟩
 have hd:=xX 17 x
 obtain⟨D,hD⟩: ∃D,jd 17 x=D:=⟨_,rfl⟩
 rw[hD]at hd
 rw[hD]
 have HK:=Lib.hid (k1.trans k2)
 have d0:=k2.cell (p:=⟨w.heap.size,0,none⟩) (v:= .int .u8 x.op) (fun h=>h) (by simp)
 have d1:=k2.cell (p:=⟨w.heap.size,1,none⟩) (v:= .int .i64 x.n) (fun h=>h) (by simp)
 have d2:=k2.cell (p:=⟨w.heap.size,2,none⟩) (v:= .slice p x.args.length cap) (fun h=>h) (by simp)
 have HD:=Lib.hid hD
 clear hD k1 k2
 by_cases c:D<=16
 ·have c':(D:Int)<=16:=by omega
  have F:=Lib.hid (show dU 16 x=gZ 17 x by rw[HE.out,HD.out,decide_eq_true c];rfl)
  go_wp2_with fail
  have c:=IL 17 x _ 17 _ rfl (Nat.le_refl _) (bg.pure HK.out H.out)
  (with_reducible refine c.mono ?_)
  clear c
  rintro e w3 ⟨rfl,k3⟩
  have Gw:=Lib.hid (HK.out.trans k3)
  clear k3
  obtain⟨B,hB⟩: ∃B,gZ 17 x=B:=⟨_,rfl⟩
  have FB:=Lib.hid (show dU 16 x=B by rw[F.out,hB])
  rw[hB]
  clear hB
  go_wp2_with fail
  go_ret
  exact⟨aU FB.out.symm,Gw.out⟩
 ·have c': ¬(D:Int)<=16:=by omega
  have F:=Lib.hid (show dU 16 x=false by rw[HE.out,HD.out,decide_eq_false c];rfl)
  go_wp2_with fail
  go_ret
  exact⟨aU F.out.symm,HK.out⟩
end Go.Proofs.YtakhobfamnjnoaaGreatDoor
