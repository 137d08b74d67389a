/- The document's expressions: how deep one is, what shape, whether it may be, whether it reads the state. -/
import Derived.Test.YtglbkodmmogomaaGreatDoorM23
set_option linter.unusedVariables false
set_option linter.unusedSimpArgs false
set_option maxHeartbeats 4000000
set_option maxRecDepth 100000
namespace Go.Proofs.YtglbkodmmogomaaGreatDoor
open Go Go.RowKit
def fP:Nat->Ex->Nat
 |0,_=>0
 |f+1, .mk _ _ l=>if f=0 then 1 else(l.map (fP f)).foldl max 0+1
def dX:Nat->Ex->Bool
 |0,_=>true
 |f+1, .mk op n l=>decide (arity op=l.length)&&decide (0<=n)&&decide (n=0\/op=1)&&l.all (dX f)
theorem nZ (f:Nat)(x:Ex):dX (f+1) x=(decide (arity x.op=x.args.length)&&decide (0<=x.n)&&decide (x.n=0\/x.op=1)&&x.args.all (dX f)):=by
 cases x;rfl
theorem zi (f:Nat)(x:Ex):fP (f+2) x=(x.args.map (fP (f+1))).foldl max 0+1:=by
 cases x;rfl
theorem su {l:List Nat}{b n:Nat}:l.foldl max b<=n↔b<=n/\ ∀y∈l,y<=n:=by
 induction l generalizing b with
 |nil=>simp
 |cons y l ih=>simp only[List.foldl_cons,ih,Nat.max_le,List.mem_cons,forall_eq_or_imp,and_assoc]
theorem sG: ∀(f:Nat)(x:Ex),bV f x=(decide (fP (f+1) x<=f)&&dX (f+1) x)
 |0, .mk op n l=>by simp[bV,fP]
 |f+1,x=>by
  have h1:x.args.all (bV f)=(x.args.all (fun y=>decide (fP (f+1) y<=f))&&x.args.all (dX (f+1))):=by
   rw[Bool.eq_iff_iff]
   simp only[Bool.and_eq_true,List.all_eq_true]
   constructor
   ·intro h
    refine⟨fun y hy=>?_,fun y hy=>?_⟩
    all_goals
     have:=h y hy
     rw[sG f y,Bool.and_eq_true]at this
    ·exact this.1
    ·exact this.2
   ·rintro⟨ha,hb⟩ y hy
    rw[sG f y,Bool.and_eq_true]
    exact⟨ha y hy,hb y hy⟩
  have h2:decide (fP (f+2) x<=f+1)=x.args.all (fun y=>decide (fP (f+1) y<=f)):=by
   rw[Bool.eq_iff_iff,decide_eq_true_iff,zi,List.all_eq_true]
   have: ∀n:Nat,n+1<=f+1↔n<=f:=fun n=>by omega
   rw[this,su]
   simp
  rw[pz,nZ,h1,h2]
  cases(x.args.all fun y=>decide (fP (f+1) y<=f))<;>cases(x.args.all (dX (f+1)))<;>simp
theorem rH: ∀(f:Nat)(x:Ex),fP f x<=f
 |0,x=>by cases x;exact Nat.le_refl 0
 |1,x=>by cases x;exact Nat.le_refl 1
 |f+2,x=>by
  rw[zi]
  have:(x.args.map (fP (f+1))).foldl max 0<=f+1:=su.2 ⟨by omega,fun y hy=>by
   obtain⟨z,_,rfl⟩:=List.mem_map.1 hy
   exact rH (f+1) z⟩
  omega
theorem Ej {a b:Int}(h:a=b):Ending.returned (.int .i64 a)= .returned (.int .i64 b):=by rw[h]
def Sl (f:Nat):Prop:= ∀(x:Ex)(a:Array Value)(L:Int)(w:World),L=f->f<=17->aC w a x->Calls Tryz.prog 262 #[.agg a, .int .i64 L] w (Gives w (.int .i64 (fP f x:Int)))
theorem Lj {l:List Nat}{k n:Nat}(h:l[k]?=some n):(l.take (k+1)).foldl max 0=max ((l.take k).foldl max 0) n:=by
 rw[List.take_add_one,h,List.foldl_append];rfl
theorem CZ: ∀f,Sl f
 |0=>fun x a L w hL hf h=>by
  obtain⟨p,cap,rfl,h0,h1,h2,h3,h4,h5⟩:=h.parts
  subst hL
  clear h5 h
  unfold maxLen at h4
  have e:fP 0 x=0:=by cases x;rfl
  rw[e]
  go_enter Tryz.func262,Tryz.ntmps262
  go_wp2_with fail
  go_ret
  exact⟨rfl,(Kept.refl _ _).alloc _⟩
 |1=>fun x a L w hL hf h=>by
  obtain⟨p,cap,rfl,h0,h1,h2,h3,h4,h5⟩:=h.parts
  subst hL
  clear h5 h
  unfold maxLen at h4
  have e:fP 1 x=1:=by cases x;rfl
  rw[e]
  go_enter Tryz.func262,Tryz.ntmps262
  go_wp2_with fail
  go_ret
  exact⟨rfl,(Kept.refl _ _).alloc _⟩
 |f+2=>fun x a L w hL hf h=>by
  obtain⟨p,cap,rfl,h0,h1,h2,h3,h4,h5⟩:=h.parts
  have IH:=Lib.hid (CZ (f+1))
  have HL:=Lib.hid hL
  have H5:=Lib.hid h5
  unfold bF at h2
  unfold maxLen at h4
  obtain⟨h2,h2'⟩:=h2
  have hL1:2<=L:=by omega
  have hL2:L<=17:=by omega
  obtain⟨R,hR⟩: ∃R,(x.args.map (fP (f+1)))=R:=⟨_,rfl⟩
  have HR:=Lib.hid hR
  have HB:=Lib.hid (show∀y∈R,y<=17 by
   intro y hy;rw[<-hR]at hy
   obtain⟨z,_,rfl⟩:=List.mem_map.1 hy
   have:=rH (f+1) z;omega)
  have HX:=Lib.hid (show fP (f+2) x=R.foldl max 0+1 by rw[zi,hR])
  clear h h5 hL hR
  rw[HX.out]
  go_enter Tryz.func262,Tryz.ntmps262
  go_wp2_with fail
  obtain⟨W0,hW0⟩: ∃W0,w.alloc (.cells #[.int .u8 x.op, .int .i64 x.n, .slice p x.args.length cap] 40)=W0:=⟨_,rfl⟩
  have k0:Kept none' w W0:=by rw[<-hW0];exact(Kept.refl _ _).alloc _
  have d2:W0.cell? ⟨w.heap.size,2,none⟩=some (.slice p x.args.length cap):=by rw[<-hW0];simp
  rw[hW0]
  have K0:=Lib.hid k0
  clear hW0 k0
  go_loopg [5,6] x.args.length (fun g vb vi wr=> ∃k:Nat,k<=x.args.length/\vi= .int .i64 (k:Int)/\vb= .int .i64 (((R.take k).foldl max 0:Nat):Int)/\x.args.length-k<=g/\Kept none' W0 wr)
  case atStart=>exact⟨0,by omega,rfl,rfl,by omega,Kept.refl _ _⟩
  case round=>
   obtain⟨k,hkl,rfl,rfl,hg,hkp⟩:=hrel
   have dd:=hkp.cell (p:=⟨w.heap.size,2,none⟩) (fun h=>h) d2
   have hM:(R.take k).foldl max 0<=17:=su.2 ⟨by omega,fun y hy=>HB.out y (List.mem_of_mem_take hy)⟩
   obtain⟨M,hMe⟩: ∃M,(R.take k).foldl max 0=M:=⟨_,rfl⟩
   rw[hMe]at hM
   rw[hMe]
   by_cases hlt:k<x.args.length
   ·obtain⟨y,hy⟩: ∃y,x.args[k]?=some y:=⟨_,List.getElem?_eq_getElem hlt⟩
    obtain⟨b,off,p',cap',rfl,q0,q1,q2,hy2⟩:=H5.out k y hy
    have hW:=(K0.out.trans hkp:Kept none' w wr)
    have r0:=hW.cell (p:=⟨b,off+k*3,none⟩) (fun h=>h) q0
    have r1:=hW.cell (p:=⟨b,off+k*3+1,none⟩) (fun h=>h) q1
    have r2:=hW.cell (p:=⟨b,off+k*3+2,none⟩) (fun h=>h) q2
    have HN:=Lib.hid (show(R.take (k+1)).foldl max 0=max M (fP (f+1) y) by
     rw[Lj (n:=fP (f+1) y) (by rw[<-HR.out,List.getElem?_map,hy];rfl),hMe])
    have HY:=Lib.hid (aC.pure hW hy2)
    have tH:=Lib.hid (And.intro hg hkp)
    have hd:=rH (f+1) y
    have XU:fP (f+1) y<=17:=by omega
    clear q0 q1 q2 hy hy2 hW hkp hg hMe hd
    go_wp2_with fail
    have c:=IH.out y _ (L-1) wr (by have:=HL.out;omega) (by omega) HY.out
    obtain⟨D,hD⟩: ∃D,fP (f+1) y=D:=⟨_,rfl⟩
    rw[hD]at c XU
    have HD:=Lib.hid hD
    clear hD
    (with_reducible refine c.mono ?_)
    clear c
    rintro e w2 ⟨rfl,k2⟩
    have yX:=Lib.hid (tH.out.2.trans k2)
    clear k2
    by_cases hDM:(M:Int)<(D:Int)
    ·go_wp2_with fail
     go_roundg (x.args.length-(k+1))
     case rel=>exact⟨k+1,by omega,by go_num,by rw[HN.out,HD.out];go_num,Nat.le_refl _,yX.out⟩
     case measure=>have:=tH.out.1;omega
    ·go_wp2_with fail
     go_roundg (x.args.length-(k+1))
     case rel=>exact⟨k+1,by omega,by go_num,by rw[HN.out,HD.out];go_num,Nat.le_refl _,yX.out⟩
     case measure=>have:=tH.out.1;omega
   ·have hk:k=x.args.length:=by omega
    have HF:=Lib.hid (show R.foldl max 0=M by
     rw[<-hMe,List.take_of_length_le (by rw[<-HR.out];simp;omega)])
    have HK:=Lib.hid (K0.out.trans hkp)
    clear hkp hMe hg
    go_wp2_with fail
    go_ret
    exact⟨Ej (by rw[HF.out];omega),HK.out⟩
theorem C9 (op:Int)(h0:0<=op)(h1:op<=18)(w:World):Calls Tryz.prog 263 #[.int .u8 op] w (Gives w (.int .i64 (arity op))):=by
 obtain rfl|rfl|rfl|rfl|rfl|rfl|rfl|rfl|rfl|rfl|rfl|rfl|rfl|rfl|rfl|rfl|rfl|rfl|rfl:op=0\/op=1\/op=2\/op=3\/op=4\/op=5\/op=6\/op=7\/op=8\/op=9\/op=10\/op=11\/op=12\/op=13\/op=14\/op=15\/op=16\/op=17\/op=18:=by omega
 all_goals
  go_enter Tryz.func263,Tryz.ntmps263
  go_wp2_with fail
  go_ret
  exact⟨rfl,(Kept.refl _ _).alloc _⟩
theorem sU (j:Jb)(a:Array Value)(uid:ByteArray)(w:World)(h:fA w a j):Calls Tryz.prog 46 #[.agg a, .string uid] w (Gives w (.int .i64 (aA j.nodes uid))):=by
 obtain⟨v,rfl,hn,hp⟩:=h
 obtain⟨na,cap,rfl,h1,h2,h3⟩:=hn.at
 unfold maxLen at h2
 have H3:=Lib.hid h3
 clear h3 hn hp
 go_enter Tryz.func46,Tryz.ntmps46
 go_wp2_with fail
 obtain⟨W0,hW0⟩: ∃W0,w.alloc (.cells #[.int .i64 j.par, .slice na j.nodes.length cap] 24)=W0:=⟨_,rfl⟩
 have k0:Kept none' w W0:=by rw[<-hW0];exact(Kept.refl _ _).alloc _
 have d1:W0.cell? ⟨w.heap.size,1,none⟩=some (.slice na j.nodes.length cap):=by rw[<-hW0];simp
 rw[hW0]
 have K0:=Lib.hid k0
 clear hW0 k0
 go_loopg [5] j.nodes.length (fun g vi wr=> ∃k:Nat,k<=j.nodes.length/\vi= .int .i64 (k:Int)/\j.nodes.length-k<=g/\wr=W0/\ ∀m e,m<k->j.nodes[m]?=some e->e.uid≠uid)
 case atStart=>exact⟨0,by omega,rfl,by omega,rfl,fun m e hm=>by omega⟩
 case round=>
  obtain⟨k,hk,rfl,hg,rfl,hno⟩:=hrel
  by_cases hlt:k<j.nodes.length
  ·obtain⟨d,hd⟩: ∃d,j.nodes[k]?=some d:=⟨_,List.getElem?_eq_getElem hlt⟩
   obtain⟨b,off,pi,ci,p,cap',rfl,hcc,hj⟩:=H3.out k d hd
   obtain⟨c0,c1,c2,c3,c4,c5,c6⟩:=hcc.kept K0.out (fun h=>h)
   have G:=Lib.hid (And.intro hg (And.intro hd hno))
   clear hg hd hno hj hcc H3
   by_cases hu:d.uid=uid
   ·have F:=Lib.hid (GH G.out.2.1 hu G.out.2.2)
    have hb:(d.uid.toList==uid.toList)=true:=by rw[str_eq];exact decide_eq_true hu
    clear hu
    go_wp2_with fail
    go_ret
    exact⟨dY F.out.symm,K0.out⟩
   ·have F:=Lib.hid (show∀m e,m<k+1->j.nodes[m]?=some e->e.uid≠uid from fun m e hm he=>by
     by_cases h:m<k
     ·exact G.out.2.2 m e h he
     ·have e1:m=k:=by omega
      subst e1
      rw[G.out.2.1]at he
      injection he with he
      rw[<-he];exact hu)
    have hb:(d.uid.toList==uid.toList)=false:=by rw[str_eq];exact decide_eq_false hu
    clear hu
    go_wp2_with fail
    go_roundg (j.nodes.length-(k+1))
    case rel=>exact⟨k+1,by omega,by go_num,Nat.le_refl _,rfl,F.out⟩
    case measure=>have:=G.out.1;omega
  ·have e1:k=j.nodes.length:=by omega
   subst e1
   have F:=Lib.hid (Gz hno)
   clear hno
   go_wp2_with fail
   go_ret
   exact⟨dY F.out.symm,K0.out⟩
theorem rG (j:Jb)(a:Array Value)(i:Nat)(w:World)(h:fA w a j)(Ul:j.nodes.length<=1000):Calls Tryz.prog 95 #[.agg a, .int .i64 (i:Int)] w (fun e w'=> ∃v,e= .returned v/\w'.ownsRow w.heap.size 3 1 v (dL j.nodes i) (ints (bG j.nodes i j.nodes.length))/\Kept none' w w'):=by
 obtain⟨v,rfl,hn,hp⟩:=h
 obtain⟨na,cap,rfl,h1,h2,h3⟩:=hn.at
 unfold maxLen at h2
 have H3:=Lib.hid h3
 clear h3 hn hp
 go_enter Tryz.func95,Tryz.ntmps95
 go_wp2_with fail
 obtain⟨W0,hW0⟩: ∃W0,(w.alloc (.cells #[.int .i64 j.par, .slice na j.nodes.length cap] 24))=W0:=⟨_,rfl⟩
 have k0:Kept none' w W0:=by rw[<-hW0];exact(Kept.refl _ _).alloc _
 have d1:W0.cell? ⟨w.heap.size,1,none⟩=some (.slice na j.nodes.length cap):=by rw[<-hW0];simp
 have hs0:w.heap.size+1=W0.heap.size:=by rw[<-hW0];simp
 rw[hW0]
 have K0:=Lib.hid k0
 clear hW0 k0
 go_loopg [5,6] j.nodes.length (fun g vo vi wr=> ∃(k:Nat),k<=j.nodes.length/\vi= .int .i64 (k:Int)/\j.nodes.length-k<=g/\wr.ownsRow W0.heap.size 3 1 vo (bG j.nodes i k).length (ints (bG j.nodes i k))/\Kept none' W0 wr)
 case atStart=>exact⟨0,by omega,rfl,by omega,World.ownsRow_nil _ _ _ _,Kept.refl _ _⟩
 case round=>
  obtain⟨k,hkl,rfl,hg,hown,hkp⟩:=hrel
  obtain⟨oa,oc,rfl⟩:=ay hown
  have e1:=hkp.cell (p:=⟨w.heap.size,1,none⟩) (fun h=>h) d1
  by_cases hlt:k<j.nodes.length
  ·obtain⟨d,hd⟩: ∃d,j.nodes[k]?=some d:=⟨_,List.getElem?_eq_getElem hlt⟩
   obtain⟨b,off,pi,ci,p,cap',rfl,hc,hj⟩:=H3.out k d hd
   obtain⟨c0,c1,c2,c3,c4,c5,c6⟩:=hc.kept (K0.out.trans hkp) (fun h=>h)
   have hin:Reads w 1 (.slice pi d.ins.length ci) (ints d.ins):=by
    obtain⟨_,_,_,_,e,_,hx,_⟩:=hj
    injection e with e
    simp only[List.cons.injEq,and_true,true_and]at e
    obtain⟨e1,e2⟩:=e
    rw[e1];exact hx
   obtain⟨ia,il,ic,ie,i1,i2,_,Dz⟩:=hin.pure (K0.out.trans hkp)
   injection ie with NH NG NC
   subst NH NG NC
   unfold maxLen at i2
   have i3: ∀(m:Nat)(x:Int),d.ins[m]?=some x-> ∃b off,pi=some ⟨b,off,none⟩/\wr.cell? ⟨b,off+m,none⟩=some (.int .i64 x):=by
    intro m x hx
    have hne:ints d.ins≠[]:=fun e=>by unfold ints at e;rw[List.map_eq_nil_iff]at e;rw[e]at hx;cases hx
    obtain⟨b,off,e,hc⟩:=Dz.resolve_left hne
    exact⟨b,off,e,hc m _ (by unfold ints;rw[List.getElem?_map,hx];rfl)⟩
   clear Dz
   have I3:=Lib.hid i3
   have G:=Lib.hid (And.intro hg (And.intro hown (And.intro hkp hd)))
   clear hd hj hc hg hown hkp hin H3 i3
   go_wp2_with fail
   go_loopg [7,8] d.ins.length (fun g vb vi W=> ∃(m:Nat),m<=d.ins.length/\vi= .int .i64 (m:Int)/\vb= .bool (decide ((i:Int)∈d.ins.take m))/\d.ins.length-m<=g/\W=wr)
   case atStart=>exact⟨0,by omega,rfl,by simp,by omega,rfl⟩
   case round=>
    obtain⟨m,hml,rfl,rfl,hgm,rfl⟩:=hrel
    by_cases hmt:m<d.ins.length
    ·obtain⟨x,hx⟩: ∃x,d.ins[m]?=some x:=⟨_,List.getElem?_eq_getElem hmt⟩
     obtain⟨bi,oi,rfl,y⟩:=I3.out m x hx
     have E:=Lib.hid (show((i:Int)∈d.ins.take (m+1))↔((i:Int)∈d.ins.take m\/x=(i:Int)) by
      rw[List.take_add_one,hx,List.mem_append];simp[eq_comm])
     have HG:=Lib.hid hgm
     clear hx hgm
     by_cases hm:(i:Int)∈d.ins.take m
     ·have b1:decide ((i:Int)∈d.ins.take m)=true:=decide_eq_true hm
      have b2:=Lib.hid (decide_eq_true (E.out.2 (.inl hm)))
      rw[b1]
      clear b1 hm
      go_wp2_with fail
      go_roundg (d.ins.length-(m+1))
      case rel=>exact⟨m+1,by omega,by go_num,by rw[b2.out],Nat.le_refl _,rfl⟩
      case measure=>have:=HG.out;omega
     ·have b1:decide ((i:Int)∈d.ins.take m)=false:=decide_eq_false hm
      have b2:=Lib.hid (show(x==(i:Int))=decide ((i:Int)∈d.ins.take (m+1)) by
       rw[Bool.eq_iff_iff,beq_iff_eq,decide_eq_true_iff,E.out]
       exact⟨.inr,fun h=>h.resolve_left hm⟩)
      rw[b1]
      clear b1 hm
      go_wp2_with fail
      go_roundg (d.ins.length-(m+1))
      case rel=>exact⟨m+1,by omega,by go_num,by rw[<-b2.out],Nat.le_refl _,rfl⟩
      case measure=>have:=HG.out;omega
    ·obtain rfl:m=d.ins.length:=by omega
     rw[List.take_length]
     clear hgm
     have hle:=yH j.nodes i k
     by_cases hm:(i:Int)∈d.ins
     ·have b1:decide ((i:Int)∈d.ins)=true:=decide_eq_true hm
      rw[b1]
      have E1:=Lib.hid (kJ (i:=i) G.out.2.2.2)
      rw[if_pos hm]at E1
      obtain⟨ti,hi3,hz3,hs3,hb3⟩:=nJ
      obtain⟨v',w',b1,b2,b3⟩:=EY (x:= .int .i64 (k:Int)) (bytes:=8) Tryz.underlying37 hi3 hz3 hs3 hb3 rfl rfl G.out.2.1 (by omega) (by omega) G.out.2.2.1.size 37
      have hnew:w'.ownsRow W0.heap.size 3 1 v' (bG j.nodes i (k+1)).length (ints (bG j.nodes i (k+1))):=by
       rw[E1.out,List.length_append]
       unfold ints at b2⊢
       rw[List.map_append]
       exact b2
      have F:=Lib.hid (And.intro hnew (G.out.2.2.1.new b3 (fun i hi h=>by omega)))
      have B1:=Lib.hid b1
      clear b1 b2 b3 hnew hi3 hz3 hs3 hb3 hm
      go_wp2_with (at_builtin;refine wpList_append_run rfl (.tmp 42) (.tmp 44) 37 rfl (.slice oa (bG j.nodes i k).length oc) (.slice (some ⟨wr.heap.size,0,none⟩) 1 1) v' rfl rfl B1.out ?_)
      go_roundg (j.nodes.length-(k+1))
      case rel=>exact⟨k+1,by omega,by go_num,Nat.le_refl _,F.out⟩
      case measure=>have:=G.out.1;omega
     ·have b1:decide ((i:Int)∈d.ins)=false:=decide_eq_false hm
      rw[b1]
      have E1:=kJ (i:=i) G.out.2.2.2
      rw[if_neg hm,List.append_nil]at E1
      have F:=Lib.hid (show wr.ownsRow W0.heap.size 3 1 (.slice oa (bG j.nodes i k).length oc) (bG j.nodes i (k+1)).length (ints (bG j.nodes i (k+1))) by rw[E1];exact G.out.2.1)
      clear hm b1 E1
      go_wp2_with fail
      go_roundg (j.nodes.length-(k+1))
      case rel=>exact⟨k+1,by omega,by go_num,Nat.le_refl _,F.out,G.out.2.2.1⟩
      case measure=>have:=G.out.1;omega
  ·have e1:k=j.nodes.length:=by omega
   subst e1
   have hF:(bG j.nodes i j.nodes.length).length=dL j.nodes i:=by rw[oq _ _ _ (Nat.le_refl _),List.take_length];rfl
   rw[hF]at hown
   rw[hF]
   have HK:=Lib.hid (And.intro (K0.out.trans hkp) (show wr.ownsRow w.heap.size 3 1 (.slice oa (dL j.nodes i) oc) (dL j.nodes i) (ints (bG j.nodes i j.nodes.length))from⟨hown.1,hown.2.imp id fun⟨g,cap,cur,e1,e2,rest⟩=>⟨g,cap,cur,e1,by omega,rest⟩⟩))
   clear hkp hown hF
   go_wp2_with fail
   go_ret
   exact⟨_,rfl,HK.out.2,HK.out.1⟩
theorem wX (x:Ex)(most:Nat)(h:1<=most):1<=gZ x most/\gZ x most<=most:=by
 rw[wY x most h]
 have:1<=sF x:=by cases x;unfold sF;omega
 omega
theorem Ic (x:Ex)(most:Nat):gZ x most=lG x.args 1 most:=by cases x;rw[gZ];rfl
theorem Ie {l:List Ex}{k n most:Nat}{y:Ex}(h:l[k]?=some y):lG (l.drop k) n most=if n<most then lG (l.drop (k+1)) (n+gZ y (most-n)) most else n:=by
 have hk:k<l.length:=by rcases Nat.lt_or_ge k l.length with h'|h';exact h';rw[List.getElem?_eq_none h']at h;cases h
 have e:l.drop k=y::l.drop (k+1):=by
  rw[List.drop_eq_getElem_cons hk]
  rw[List.getElem?_eq_getElem hk]at h
  injection h with h
  rw[h]
 rw[e,lG]
theorem zU: ∀(N:Nat)(x:Ex)(a:Array Value)(most:Nat)(w:World),SizeOf.sizeOf x<=N->1<=most->most<=1001->aC w a x->Calls Tryz.prog 93 #[.agg a, .int .i64 (most:Int)] w (Gives w (.int .i64 (gZ x most:Int)))
 |0,x,_,_,_,h,_,_,_=>by cases x;simp at h
 |N+1,x,a,most,w,hN,hm1,hm2,h=>by
  obtain⟨p,cap,rfl,h0,h1,h2,h3,h4,h5⟩:=h.parts
  have sub: ∀(i:Nat)(y:Ex),x.args[i]?=some y->SizeOf.sizeOf y<=N:=by
   intro i y hy
   obtain⟨op,n,args⟩:=x
   have h1:=List.sizeOf_lt_of_mem (List.mem_of_getElem? (show args[i]?=some y from hy))
   simp at hN
   omega
  have IH:=Lib.hid (fun y a m w hy=>zU N y a m w hy)
  have SB:=Lib.hid sub
  have H5:=Lib.hid h5
  have HX:=Lib.hid (Ic x most)
  unfold maxLen at h4
  clear h h5 sub hN
  go_enter Tryz.func93,Tryz.ntmps93
  go_wp2_with fail
  obtain⟨W0,hW0⟩: ∃W0,w.alloc (.cells #[.int .u8 x.op, .int .i64 x.n, .slice p x.args.length cap] 40)=W0:=⟨_,rfl⟩
  have k0:Kept none' w W0:=by rw[<-hW0];exact(Kept.refl _ _).alloc _
  have d2:W0.cell? ⟨w.heap.size,2,none⟩=some (.slice p x.args.length cap):=by rw[<-hW0];simp
  rw[hW0]
  have K0:=Lib.hid k0
  clear hW0 k0
  go_loopg [5,6] x.args.length (fun g vn vi wr=> ∃(k n:Nat),k<=x.args.length/\vi= .int .i64 (k:Int)/\vn= .int .i64 (n:Int)/\x.args.length-k<=g/\(1<=n/\n<=most)/\lG (x.args.drop k) n most=gZ x most/\Kept none' W0 wr)
  case atStart=>exact⟨0,1,by omega,rfl,rfl,by omega,⟨by omega,by omega⟩,by rw[List.drop_zero,HX.out],Kept.refl _ _⟩
  case round=>
   obtain⟨k,n,hkl,rfl,rfl,hg,⟨hn1,hn2⟩,hpl,hkp⟩:=hrel
   have e2:=hkp.cell (p:=⟨w.heap.size,2,none⟩) (fun h=>h) d2
   have Oy:=Lib.hid hkp
   have hW:=(K0.out.trans hkp:Kept none' w wr)
   clear hkp
   by_cases hlt:k<x.args.length
   ·obtain⟨y,hy⟩: ∃y,x.args[k]?=some y:=⟨_,List.getElem?_eq_getElem hlt⟩
    have FW:=Ie (n:=n) (most:=most) hy
    rw[hpl]at FW
    by_cases hnm:n<most
    ·rw[if_pos hnm]at FW
     obtain⟨b,off,p',cap',rfl,q0,q1,q2,hy2⟩:=H5.out k y hy
     have r0:=hW.cell (p:=⟨b,off+k*3,none⟩) (fun h=>h) q0
     have r1:=hW.cell (p:=⟨b,off+k*3+1,none⟩) (fun h=>h) q1
     have r2:=hW.cell (p:=⟨b,off+k*3+2,none⟩) (fun h=>h) q2
     have hle:=wX y (most-n) (by omega)
     have G:=Lib.hid (And.intro hg (And.intro (aC.pure hW hy2) (And.intro (SB.out k y hy) FW)))
     have hsub:(most:Int)-(n:Int)=((most-n:Nat):Int):=by omega
     clear q0 q1 q2 hy hy2 hW hg H5 FW hpl
     go_wp2_with fail
     have c:=IH.out y _ (most-n) wr G.out.2.2.1 (by omega) (by omega) G.out.2.1
     obtain⟨P,hP⟩: ∃P,gZ y (most-n)=P:=⟨_,rfl⟩
     rw[hP]at c hle
     have HP:=Lib.hid hP
     clear hP
     (with_reducible refine c.mono ?_)
     clear c
     rintro e w2 ⟨rfl,k2⟩
     have K2:=Lib.hid (Oy.out.trans k2)
     clear k2
     go_wp2_with fail
     go_roundg (x.args.length-(k+1))
     case rel=>exact⟨k+1,n+P,by omega,by go_num,by go_num,Nat.le_refl _,⟨by omega,by omega⟩,by rw[<-HP.out];exact G.out.2.2.2.symm,K2.out⟩
     case measure=>have:=G.out.1;omega
    ·rw[if_neg hnm]at FW
     have F:=Lib.hid FW
     have KW:=Lib.hid hW
     clear hW hg FW hpl hy
     go_wp2_with fail
     go_ret
     exact⟨Ej (by rw[F.out]),KW.out⟩
   ·have F:=Lib.hid (show gZ x most=n by
     rw[<-hpl,List.drop_eq_nil_of_le (by omega),lG])
    have KW:=Lib.hid hW
    clear hW hg hpl
    go_wp2_with fail
    go_ret
    exact⟨Ej (by rw[F.out]),KW.out⟩
end Go.Proofs.YtglbkodmmogomaaGreatDoor
