/- job: may. -/
import Derived.Test.YtglbkodmmogomaaGreatDoorM22
import Derived.Test.YtglbkodmmogomaaGreatDoorM13
import Derived.Test.YtglbkodmmogomaaGreatDoorM14
set_option linter.unusedVariables false
set_option linter.unusedSimpArgs false
set_option maxHeartbeats 1000000
set_option maxRecDepth 100000
namespace Go.Proofs.YtglbkodmmogomaaGreatDoor
section
open Go Go.RowKit
attribute [local irreducible] bH dP
theorem Rt (k:Int)(h1:1<=k)(h2:k<=9)(w:World):(Instr.index 202 (.agg nS) (.int .u8 k)).run Tryz.prog w= .ok (.agg (gQ (jA k) (jy k) (qy k) (oJ k) (jN k)).toArray) w:=by
 have hk:k=1\/k=2\/k=3\/k=4\/k=5\/k=6\/k=7\/k=8\/k=9:=by omega
 rcases hk with h|h|h|h|h|h|h|h|h
 all_goals(subst h;clear h1 h2;apply Eq.symm;apply Eq.symm;kernel_rfl)
structure lT (w:World)(B:Nat)(L M:Int)(t:Int)(c:Bool)(N:Int):Prop where
 r0:w.cell? ⟨B,0,none⟩=some (.int .i64 L)
 r1:w.cell? ⟨B,1,none⟩=some (.int .i64 M)
 r2:w.cell? ⟨B,2,none⟩=some (.int .u8 t)
 r3:w.cell? ⟨B,3,none⟩=some (.bool c)
 r4:w.cell? ⟨B,4,none⟩=some (.int .i64 N)
theorem lT.of {w:World}{B E:Nat}{L M t N:Int}{c:Bool}(h:w.heap[B]?=some (.cells #[.int .i64 L, .int .i64 M, .int .u8 t, .bool c, .int .i64 N] E (0,0))):lT w B L M t c N:=
 ⟨cells_at h rfl,cells_at h rfl,cells_at h rfl,cells_at h rfl,cells_at h rfl⟩
theorem lT.pure {w w':World}{B:Nat}{L M t N:Int}{c:Bool}(h:lT w B L M t c N)(hk:Kept none' w w'):lT w' B L M t c N:=
 ⟨hk.cell (fun h=>h) h.r0,hk.cell (fun h=>h) h.r1,hk.cell (fun h=>h) h.r2,hk.cell (fun h=>h) h.r3,hk.cell (fun h=>h) h.r4⟩
theorem Xx {w:World}{B E:Nat}{a b c d e a' b' c' d' e':Value}(h:w.heap[B]?=some (.cells #[a,b,c,d,e] E (0,0))):
 (((((w.setCell ⟨B,0,none⟩ a').setCell ⟨B,1,none⟩ b').setCell ⟨B,2,none⟩ c').setCell ⟨B,3,none⟩ d').setCell ⟨B,4,none⟩ e').heap[B]?=some (.cells #[a',b',c',d',e'] E (0,0)):=by
 have h1:=aS h 0 a'
 have h2:=aS h1 1 b'
 have h3:=aS h2 2 c'
 have h4:=aS h3 3 d'
 have h5:=aS h4 4 e'
 simpa using h5
theorem Vx {w0 w:World}{B:Nat}{a b c d e:Value}(h:Kept none' w0 w)(hB:w0.heap.size<=B):
 Kept none' w0 (((((w.setCell ⟨B,0,none⟩ a).setCell ⟨B,1,none⟩ b).setCell ⟨B,2,none⟩ c).setCell ⟨B,3,none⟩ d).setCell ⟨B,4,none⟩ e):=
 ((((h.setCell (p:=⟨B,0,none⟩) (.inr hB) _).setCell (p:=⟨B,1,none⟩) (.inr hB) _).setCell (p:=⟨B,2,none⟩) (.inr hB) _).setCell (p:=⟨B,3,none⟩) (.inr hB) _).setCell (p:=⟨B,4,none⟩) (.inr hB) _
theorem Pg (d:JN)(a:Array Value)(at_:Nat)(w:World)(h:lV w a d)(hat:at_<=1000):Calls Tryz.prog 86 #[.agg a, .int .i64 (at_:Int)] w (Gives w (.bool (aK at_ d))):=by
 have h0:=h
 obtain⟨pi,ci,p,cap,rfl,h1,h2,h3,h4,h5,h6,h7⟩:=h0
 have H:=Lib.hid (And.intro h1 (And.intro h2 h7))
 clear h1 h2 h3 h h7
 go_enter Tryz.func86,Tryz.ntmps86
 go_wp2_with fail
 obtain⟨W0,hW0⟩: ∃W0,(w.alloc (.cells (aZ d pi ci p cap) 42)).alloc (.cells #[.int .i64 (at_:Int)] 3)=W0:=⟨_,rfl⟩
 have k0:Kept none' w W0:=by rw[<-hW0];exact((Kept.refl _ _).alloc _).alloc _
 have kA:Kept none' (w.alloc (.cells (aZ d pi ci p cap) 42)) W0:=by rw[<-hW0];exact(Kept.refl _ _).alloc _
 have c0:W0.cell? ⟨w.heap.size,0,none⟩=some (.string d.uid):=kA.cell (fun h=>h) (by simp)
 have c1:W0.cell? ⟨w.heap.size,1,none⟩=some (.int .u8 d.kind):=kA.cell (fun h=>h) (by simp)
 have c2:W0.cell? ⟨w.heap.size,2,none⟩=some (.slice pi d.ins.length ci):=kA.cell (fun h=>h) (by simp)
 have c3:W0.cell? ⟨w.heap.size,3,none⟩=some (.int .u8 d.x.op):=kA.cell (fun h=>h) (by simp)
 have c4:W0.cell? ⟨w.heap.size,4,none⟩=some (.int .i64 d.x.n):=kA.cell (fun h=>h) (by simp)
 have c5:W0.cell? ⟨w.heap.size,5,none⟩=some (.slice p d.x.args.length cap):=kA.cell (fun h=>h) (by simp)
 have c6:W0.cell? ⟨w.heap.size,6,none⟩=some (.int .i64 d.n):=kA.cell (fun h=>h) (by simp)
 have e0:W0.cell? ⟨w.heap.size+1,0,none⟩=some (.int .i64 (at_:Int)):=by rw[<-hW0];simp
 rw[hW0]
 have K0:=Lib.hid k0
 clear hW0 k0 kA
 (with_reducible refine(name_any d.uid H.out.2.2 W0).mono ?_)
 rintro e W1 ⟨rfl,k1⟩
 have c0:=k1.cell (p:=⟨w.heap.size,0,none⟩) (fun h=>h) c0
 have c1:=k1.cell (p:=⟨w.heap.size,1,none⟩) (fun h=>h) c1
 have c2:=k1.cell (p:=⟨w.heap.size,2,none⟩) (fun h=>h) c2
 have c3:=k1.cell (p:=⟨w.heap.size,3,none⟩) (fun h=>h) c3
 have c4:=k1.cell (p:=⟨w.heap.size,4,none⟩) (fun h=>h) c4
 have c5:=k1.cell (p:=⟨w.heap.size,5,none⟩) (fun h=>h) c5
 have c6:=k1.cell (p:=⟨w.heap.size,6,none⟩) (fun h=>h) c6
 have e0:=k1.cell (p:=⟨w.heap.size+1,0,none⟩) (fun h=>h) e0
 have K1:=Lib.hid (K0.out.trans k1)
 clear k1
 have HM:=Lib.hid (show aK at_ d=xu (dV d.uid) d.kind d.ins.length (eU d.ins at_) (iV d.x) (fun acc ty=>jH d.x acc ty) d.n from rfl)
 cases hn:dV d.uid with
 |false=>
  rw[hn]at HM
  clear hn
  go_wp2_with fail
  go_ret
  exact⟨aF (by rw[HM.out];rfl),K1.out⟩
 |true=>
  rw[hn]at HM
  clear hn
  by_cases hk:d.kind<1\/9<d.kind
  ·have F:=Lib.hid (show aK at_ d=false by rw[HM.out];unfold xu;rw[if_pos (.inr hk)])
   rcases hk with hk|hk
   ·go_wp2_with fail
    go_ret
    exact⟨aF (by rw[F.out]),K1.out⟩
   ·go_wp2_with fail
    go_ret
    exact⟨aF (by rw[F.out]),K1.out⟩
  ·have hk1:1<=d.kind:=by omega
   have hk2:d.kind<=9:=by omega
   have hidx:=fun W=>Rt d.kind hk1 hk2 W
   clear hk
   have Uc:(gQ (jA d.kind) (jy d.kind) (qy d.kind) (oJ d.kind) (jN d.kind)).toArray= #[.int .i64 (jA d.kind:Int), .int .i64 (jy d.kind:Int), .int .u8 (qy d.kind), .bool (oJ d.kind), .int .i64 (jN d.kind)]:=rfl
   rw[Uc]at hidx
   have hjr:=fun W=>KO W
   go_wp2_with fail
   refine oN (fun W=>Kept none' W1 W) (by kernel_rfl) (by kernel_rfl) (Kept.refl _ _).drew ?_
   refine aH (k:=1) (by kernel_rfl) rfl rfl (fun W hW=>by go_simp;rfl) ?_
   go_frame
   refine aH (k:=2) (by kernel_rfl) rfl rfl (fun W hW=>by have z1:=hW.cell (fun h=>h) c1;go_simp;rfl) ?_
   go_frame
   refine qZ (i:=0) (k:=4) (by kernel_rfl) (by kernel_rfl) rfl rfl rfl rfl ?_ ?_
   ·intro K hK
    go_wp2_with fail
    refine(hjr _).mono ?_
    rintro e W2 ⟨rfl,k2,s2⟩
    go_wp2_with fail
    refine hK _ _ k2.bP ?_
    clear hK
    refine aH (k:=3) (by kernel_rfl) rfl rfl (fun W hW=>by go_simp;rfl) ?_
    go_frame
    refine dJ (k:=4) (by kernel_rfl) (by kernel_rfl) rfl rfl ?_
    intro K hK
    go_wp2_with fail
    refine hK _ _ (k2.bP.alloc _) ?_
    clear hK
    refine dJ (k:=5) (by kernel_rfl) (by kernel_rfl) rfl rfl ?_
    intro K hK
    go_wp2_with fail
    have kW:Kept none' W1 (W2.alloc (.cells #[.int .i64 (jA d.kind:Int), .int .i64 (jy d.kind:Int), .int .u8 (qy d.kind), .bool (oJ d.kind), .int .i64 (jN d.kind)] 201)):=k2.bP.alloc _
    have hR:=lT.of (heap_alloc_new W2 (.cells #[.int .i64 (jA d.kind:Int), .int .i64 (jy d.kind:Int), .int .u8 (qy d.kind), .bool (oJ d.kind), .int .i64 (jN d.kind)] 201))
    have hs2:W2.heap.size=W1.heap.size+1:=s2
    rw[hs2]at hR
    refine hK _ _ kW ?_
    clear hK
    refine ru (by kernel_rfl) kW ?_
    generalize(W2.alloc (.cells #[.int .i64 (jA d.kind:Int), .int .i64 (jy d.kind:Int), .int .u8 (qy d.kind), .bool (oJ d.kind), .int .i64 (jN d.kind)] 201))=W3 at*
    generalize W1.heap.size+1=B at*
    have K3:=Lib.hid (K1.out.trans kW)
    have c0:=kW.cell (p:=⟨w.heap.size,0,none⟩) (fun h=>h) c0
    have c1:=kW.cell (p:=⟨w.heap.size,1,none⟩) (fun h=>h) c1
    have c2:=kW.cell (p:=⟨w.heap.size,2,none⟩) (fun h=>h) c2
    have c3:=kW.cell (p:=⟨w.heap.size,3,none⟩) (fun h=>h) c3
    have c4:=kW.cell (p:=⟨w.heap.size,4,none⟩) (fun h=>h) c4
    have c5:=kW.cell (p:=⟨w.heap.size,5,none⟩) (fun h=>h) c5
    have c6:=kW.cell (p:=⟨w.heap.size,6,none⟩) (fun h=>h) c6
    have e0:=kW.cell (p:=⟨w.heap.size+1,0,none⟩) (fun h=>h) e0
    have kL:aK at_ d=(if d.ins.length<jA d.kind\/jy d.kind<d.ins.length\/eU d.ins at_=false then false else if d.n<min (jN d.kind) 1\/jN d.kind<d.n then false else if qy d.kind=0 then iV d.x else jH d.x (oJ d.kind) (qy d.kind)):=by
     rw[HM.out];unfold xu;rw[if_neg (by simp;omega)]
    have kL:=Lib.hid kL
    generalize jA d.kind=L at*
    generalize jy d.kind=M at*
    generalize qy d.kind=ty at*
    generalize oJ d.kind=ac at*
    generalize jN d.kind=N at*
    obtain⟨r0,r1,r2,r3,r4⟩:=hR
    clear kW hidx Uc hjr HM k2 s2
    by_cases b1:d.ins.length<L
    ·have F:=Lib.hid (show aK at_ d=false by rw[kL.out,if_pos (.inl b1)])
     clear kL
     go_wp2_with fail
     go_ret
     exact⟨aF (by rw[F.out]),K3.out⟩
    ·by_cases b2:M<d.ins.length
     ·have F:=Lib.hid (show aK at_ d=false by rw[kL.out,if_pos (.inr (.inl b2))])
      clear kL
      go_wp2_with fail
      go_ret
      exact⟨aF (by rw[F.out]),K3.out⟩
     ·have ct:=zK _ d.ins W3 (H.out.2.1.pure K3.out)
      have cf:=qL _ d.ins (at_:Int) (w.heap.size+1) W3 (H.out.2.1.pure K3.out) e0
      have hg:eU d.ins at_=(decide d.ins.Nodup&&!(d.ins.any (o9 (at_:Int)))):=by
       unfold eU
       rw[List.not_any_eq_all_not]
       congr 2
       funext k
       unfold o9
       simp
      have HG:=Lib.hid hg
      clear hg
      generalize decide d.ins.Nodup=bn at*
      generalize d.ins.any (o9 (at_:Int))=bo at*
      cases bn with
      |false=>
       have F:=Lib.hid (show aK at_ d=false by rw[kL.out,if_pos (.inr (.inr (by rw[HG.out];rfl)))])
       clear kL
       go_wp2_with (go_at_call 128;refine ct.mono ?_;rintro e w' ⟨rfl,rfl⟩)
       go_ret
       exact⟨aF (by rw[F.out]),K3.out⟩
      |true=>
       cases bo with
       |true=>
        have F:=Lib.hid (show aK at_ d=false by rw[kL.out,if_pos (.inr (.inr (by rw[HG.out];rfl)))])
        clear kL
        go_wp2_with (first|(go_at_call 128;refine ct.mono ?_;rintro e w' ⟨rfl,rfl⟩)|(go_at_call 129;refine cf.mono ?_;rintro e w' ⟨rfl,rfl⟩))
        go_ret
        exact⟨aF (by rw[F.out]),K3.out⟩
       |false=>
        have qG:=Lib.hid (show aK at_ d=(if d.n<min N 1\/N<d.n then false else if ty=0 then iV d.x else jH d.x ac ty) by
         rw[kL.out,if_neg (by rw[HG.out];simp;omega)])
        clear kL HG
        by_cases b3:d.n<min N 1
        ·have F:=Lib.hid (show aK at_ d=false by rw[qG.out,if_pos (.inl b3)])
         clear qG
         go_wp2_with (first|(go_at_call 128;refine ct.mono ?_;rintro e w' ⟨rfl,rfl⟩)|(go_at_call 129;refine cf.mono ?_;rintro e w' ⟨rfl,rfl⟩))
         go_ret
         exact⟨aF (by rw[F.out]),K3.out⟩
        ·by_cases b4:N<d.n
         ·have F:=Lib.hid (show aK at_ d=false by rw[qG.out,if_pos (.inr b4)])
          clear qG
          go_wp2_with (first|(go_at_call 128;refine ct.mono ?_;rintro e w' ⟨rfl,rfl⟩)|(go_at_call 129;refine cf.mono ?_;rintro e w' ⟨rfl,rfl⟩))
          go_ret
          exact⟨aF (by rw[F.out]),K3.out⟩
         ·by_cases b5:ty=0
          ·subst b5
           have F:=Lib.hid (show aK at_ d=iV d.x by rw[qG.out,if_neg (by omega),if_pos rfl])
           have cs:=CP d.x _ W3 (aC.pure K3.out H.out.1)
           clear qG
           go_wp2_with (first|(go_at_call 128;refine ct.mono ?_;rintro e w' ⟨rfl,rfl⟩)|(go_at_call 129;refine cf.mono ?_;rintro e w' ⟨rfl,rfl⟩))
           (with_reducible refine cs.mono ?_)
           rintro e W4 ⟨rfl,k4⟩
           have K4:=Lib.hid (K3.out.trans k4)
           clear k4
           go_wp2_with fail
           go_ret
           exact⟨aF (by rw[F.out]),K4.out⟩
          ·have F:=Lib.hid (show aK at_ d=jH d.x ac ty by rw[qG.out,if_neg (by omega),if_neg b5])
           have ci:=Nw d.x ac ty _ W3 (aC.pure K3.out H.out.1)
           have hb:(ty==0)=false:=by simp[b5]
           clear qG
           go_wp2_with (first|(go_at_call 128;refine ct.mono ?_;rintro e w' ⟨rfl,rfl⟩)|(go_at_call 129;refine cf.mono ?_;rintro e w' ⟨rfl,rfl⟩))
           (with_reducible refine ci.mono ?_)
           rintro e W4 ⟨rfl,k4⟩
           have K4:=Lib.hid (K3.out.trans k4)
           clear k4
           go_wp2_with fail
           go_ret
           exact⟨aF (by rw[F.out]),K4.out⟩
   ·intro K hK
    go_wp2_with fail
    refine hK _ _ ((Kept.refl _ _).drew.alloc _) ?_
    clear hK
    refine dJ (k:=0) (by kernel_rfl) (by kernel_rfl) rfl rfl ?_
    intro K hK
    go_wp2_with fail
    refine(hjr _).mono ?_
    rintro e W2 ⟨rfl,k2,s2⟩
    go_wp2_with fail
    refine hK _ _ (((Kept.refl _ _).drew.alloc _).trans k2) ?_
    clear hK
    refine aH (k:=3) (by kernel_rfl) rfl rfl (fun W hW=>by go_simp;rfl) ?_
    go_frame
    have hB:W2.heap[W1.heap.size]?=some (.cells #[.int .i64 0, .int .i64 0, .int .u8 0, .bool false, .int .i64 0] 201 (0,0)):=k2.heap (heap_alloc_new W1.drew (.cells #[.int .i64 0, .int .i64 0, .int .u8 0, .bool false, .int .i64 0] 201)) (fun h=>h)
    have z0:W2.cell? ⟨W1.heap.size,0,none⟩=some (.int .i64 0):=cells_at hB rfl
    have z1:W2.cell? ⟨W1.heap.size,1,none⟩=some (.int .i64 0):=cells_at hB rfl
    have z2:W2.cell? ⟨W1.heap.size,2,none⟩=some (.int .u8 0):=cells_at hB rfl
    have z3:W2.cell? ⟨W1.heap.size,3,none⟩=some (.bool false):=cells_at hB rfl
    have z4:W2.cell? ⟨W1.heap.size,4,none⟩=some (.int .i64 0):=cells_at hB rfl
    have f0:=free_at hB 0
    have f1:=free_at hB 1
    have f2:=free_at hB 2
    have f3:=free_at hB 3
    have f4:=free_at hB 4
    have kW:=Vx (a:= .int .i64 (jA d.kind:Int)) (b:= .int .i64 (jy d.kind:Int)) (c:= .int .u8 (qy d.kind)) (d:= .bool (oJ d.kind)) (e:= .int .i64 (jN d.kind)) (((Kept.refl none' W1).drew.alloc (.cells #[.int .i64 0, .int .i64 0, .int .u8 0, .bool false, .int .i64 0] 201)).trans k2) (Nat.le_refl _)
    have hR:=lT.of (Xx (a':= .int .i64 (jA d.kind:Int)) (b':= .int .i64 (jy d.kind:Int)) (c':= .int .u8 (qy d.kind)) (d':= .bool (oJ d.kind)) (e':= .int .i64 (jN d.kind)) hB)
    have KW:=Lib.hid kW
    have HR:=Lib.hid hR
    clear kW hR hB
    refine dJ (k:=5) (by kernel_rfl) (by kernel_rfl) rfl rfl ?_
    intro K hK
    go_wp2_with fail
    refine hK _ _ KW.out ?_
    clear hK
    refine ru (by kernel_rfl) KW.out ?_
    have kW:=KW.out
    have hR:=HR.out
    clear KW HR z0 z1 z2 z3 z4 f0 f1 f2 f3 f4
    generalize(((((W2.setCell ⟨W1.heap.size,0,none⟩ (.int .i64 (jA d.kind:Int))).setCell ⟨W1.heap.size,1,none⟩ (.int .i64 (jy d.kind:Int))).setCell ⟨W1.heap.size,2,none⟩ (.int .u8 (qy d.kind))).setCell ⟨W1.heap.size,3,none⟩ (.bool (oJ d.kind))).setCell ⟨W1.heap.size,4,none⟩ (.int .i64 (jN d.kind)))=W3 at*
    have K3:=Lib.hid (K1.out.trans kW)
    have c0:=kW.cell (p:=⟨w.heap.size,0,none⟩) (fun h=>h) c0
    have c1:=kW.cell (p:=⟨w.heap.size,1,none⟩) (fun h=>h) c1
    have c2:=kW.cell (p:=⟨w.heap.size,2,none⟩) (fun h=>h) c2
    have c3:=kW.cell (p:=⟨w.heap.size,3,none⟩) (fun h=>h) c3
    have c4:=kW.cell (p:=⟨w.heap.size,4,none⟩) (fun h=>h) c4
    have c5:=kW.cell (p:=⟨w.heap.size,5,none⟩) (fun h=>h) c5
    have c6:=kW.cell (p:=⟨w.heap.size,6,none⟩) (fun h=>h) c6
    have e0:=kW.cell (p:=⟨w.heap.size+1,0,none⟩) (fun h=>h) e0
    have kL:aK at_ d=(if d.ins.length<jA d.kind\/jy d.kind<d.ins.length\/eU d.ins at_=false then false else if d.n<min (jN d.kind) 1\/jN d.kind<d.n then false else if qy d.kind=0 then iV d.x else jH d.x (oJ d.kind) (qy d.kind)):=by
     rw[HM.out];unfold xu;rw[if_neg (by simp;omega)]
    have kL:=Lib.hid kL
    generalize jA d.kind=L at*
    generalize jy d.kind=M at*
    generalize qy d.kind=ty at*
    generalize oJ d.kind=ac at*
    generalize jN d.kind=N at*
    obtain⟨r0,r1,r2,r3,r4⟩:=hR
    clear kW hidx Uc hjr HM k2 s2
    by_cases b1:d.ins.length<L
    ·have F:=Lib.hid (show aK at_ d=false by rw[kL.out,if_pos (.inl b1)])
     clear kL
     go_wp2_with fail
     go_ret
     exact⟨aF (by rw[F.out]),K3.out⟩
    ·by_cases b2:M<d.ins.length
     ·have F:=Lib.hid (show aK at_ d=false by rw[kL.out,if_pos (.inr (.inl b2))])
      clear kL
      go_wp2_with fail
      go_ret
      exact⟨aF (by rw[F.out]),K3.out⟩
     ·have ct:=zK _ d.ins W3 (H.out.2.1.pure K3.out)
      have cf:=qL _ d.ins (at_:Int) (w.heap.size+1) W3 (H.out.2.1.pure K3.out) e0
      have hg:eU d.ins at_=(decide d.ins.Nodup&&!(d.ins.any (o9 (at_:Int)))):=by
       unfold eU
       rw[List.not_any_eq_all_not]
       congr 2
       funext k
       unfold o9
       simp
      have HG:=Lib.hid hg
      clear hg
      generalize decide d.ins.Nodup=bn at*
      generalize d.ins.any (o9 (at_:Int))=bo at*
      cases bn with
      |false=>
       have F:=Lib.hid (show aK at_ d=false by rw[kL.out,if_pos (.inr (.inr (by rw[HG.out];rfl)))])
       clear kL
       go_wp2_with (go_at_call 128;refine ct.mono ?_;rintro e w' ⟨rfl,rfl⟩)
       go_ret
       exact⟨aF (by rw[F.out]),K3.out⟩
      |true=>
       cases bo with
       |true=>
        have F:=Lib.hid (show aK at_ d=false by rw[kL.out,if_pos (.inr (.inr (by rw[HG.out];rfl)))])
        clear kL
        go_wp2_with (first|(go_at_call 128;refine ct.mono ?_;rintro e w' ⟨rfl,rfl⟩)|(go_at_call 129;refine cf.mono ?_;rintro e w' ⟨rfl,rfl⟩))
        go_ret
        exact⟨aF (by rw[F.out]),K3.out⟩
       |false=>
        have qG:=Lib.hid (show aK at_ d=(if d.n<min N 1\/N<d.n then false else if ty=0 then iV d.x else jH d.x ac ty) by
         rw[kL.out,if_neg (by rw[HG.out];simp;omega)])
        clear kL HG
        by_cases b3:d.n<min N 1
        ·have F:=Lib.hid (show aK at_ d=false by rw[qG.out,if_pos (.inl b3)])
         clear qG
         go_wp2_with (first|(go_at_call 128;refine ct.mono ?_;rintro e w' ⟨rfl,rfl⟩)|(go_at_call 129;refine cf.mono ?_;rintro e w' ⟨rfl,rfl⟩))
         go_ret
         exact⟨aF (by rw[F.out]),K3.out⟩
        ·by_cases b4:N<d.n
         ·have F:=Lib.hid (show aK at_ d=false by rw[qG.out,if_pos (.inr b4)])
          clear qG
          go_wp2_with (first|(go_at_call 128;refine ct.mono ?_;rintro e w' ⟨rfl,rfl⟩)|(go_at_call 129;refine cf.mono ?_;rintro e w' ⟨rfl,rfl⟩))
          go_ret
          exact⟨aF (by rw[F.out]),K3.out⟩
         ·by_cases b5:ty=0
          ·subst b5
           have F:=Lib.hid (show aK at_ d=iV d.x by rw[qG.out,if_neg (by omega),if_pos rfl])
           have cs:=CP d.x _ W3 (aC.pure K3.out H.out.1)
           clear qG
           go_wp2_with (first|(go_at_call 128;refine ct.mono ?_;rintro e w' ⟨rfl,rfl⟩)|(go_at_call 129;refine cf.mono ?_;rintro e w' ⟨rfl,rfl⟩))
           (with_reducible refine cs.mono ?_)
           rintro e W4 ⟨rfl,k4⟩
           have K4:=Lib.hid (K3.out.trans k4)
           clear k4
           go_wp2_with fail
           go_ret
           exact⟨aF (by rw[F.out]),K4.out⟩
          ·have F:=Lib.hid (show aK at_ d=jH d.x ac ty by rw[qG.out,if_neg (by omega),if_neg b5])
           have ci:=Nw d.x ac ty _ W3 (aC.pure K3.out H.out.1)
           have hb:(ty==0)=false:=by simp[b5]
           clear qG
           go_wp2_with (first|(go_at_call 128;refine ct.mono ?_;rintro e w' ⟨rfl,rfl⟩)|(go_at_call 129;refine cf.mono ?_;rintro e w' ⟨rfl,rfl⟩))
           (with_reducible refine ci.mono ?_)
           rintro e W4 ⟨rfl,k4⟩
           have K4:=Lib.hid (K3.out.trans k4)
           clear k4
           go_wp2_with fail
           go_ret
           exact⟨aF (by rw[F.out]),K4.out⟩
end
section
open Go Go.RowKit
theorem Rk {n:Int}(h:bF n):wrap64 n=n:=by unfold bF at h;unfold wrap64;omega
theorem EM {α:Type}{p:List α->Prop}(h0:p [])(h1: ∀l a,p l->p (l++[a]))(l:List α):p l:=by
 rw[<-List.reverse_reverse l]
 induction l.reverse with
 |nil=>exact h0
 |cons a l ih=>rw[List.reverse_cons];exact h1 _ _ ih
theorem qN (l:List JN)(d:JN):aW (l++[d])=aW l++[uU (aW l) d]:=by
 unfold aW;rw[List.foldl_append];rfl
theorem LQ (l:List JN): ∀m:List JN,∃t,aW (l++m)=aW l++t:=by
 refine EM ⟨[],by simp⟩ fun m d ih=>?_
 ·obtain⟨t,ht⟩:=ih
  refine⟨t++[uU (aW (l++m)) d],?_⟩
  rw[<-List.append_assoc,qN,ht,List.append_assoc]
theorem lC (l:List JN):(aW l).length=l.length:=by
 refine EM (p:=fun l=>(aW l).length=l.length) rfl (fun l d ih=>?_) l
 rw[qN,List.length_append,List.length_append,ih];rfl
theorem LP (nodes:List JN)(k:Nat): ∃t,aW nodes=aW (nodes.take k)++t:=by
 have:=LQ (nodes.take k) (nodes.drop k)
 rwa[List.take_append_drop]at this
theorem OG {nodes:List JN}{k i:Nat}(hk:k<=nodes.length)(hi:i<k):(aW (nodes.take k)).getD i 0=(aW nodes).getD i 0:=by
 obtain⟨t,ht⟩:=LP nodes k
 rw[ht,List.getD_eq_getElem?_getD,List.getD_eq_getElem?_getD,List.getElem?_append_left (by rw[lC,List.length_take];omega)]
theorem Ez {nodes:List JN}{k:Nat}{d:JN}(hd:nodes[k]?=some d):(aW nodes).getD k 0=uU (aW (nodes.take k)) d:=by
 have hk:=(List.getElem?_eq_some_iff.1 hd).1
 have e:=OG (nodes:=nodes) (k:=k+1) (i:=k) (by omega) (by omega)
 rw[<-e,List.take_add_one,hd]
 show(aW (nodes.take k++[d])).getD k 0=_
 rw[qN,List.getD_eq_getElem?_getD,List.getElem?_append_right (by rw[lC,List.length_take];omega),lC,List.length_take]
 rw[show k-min k nodes.length=0 by omega]
 rfl
def iY (nodes:List JN)(i:Nat):Int:=if aK i (nodes.getD i default)=false then 120 else if gW nodes i (nodes.getD i default)=true then 121 else 0
def dM (j:Jb):Int×Int:=
 if eP j=true then(0,2)else
 match(List.range j.nodes.length).find? (fun i=>iY j.nodes i !=0)with
 |some i=>((i:Int),iY j.nodes i)
 |none=>match(List.range j.nodes.length).find? (fun i=>aJ j.nodes i (j.nodes.getD i default))with
  |some i=>((i:Int),122)
  |none=>(0,0)
theorem xw {j:Jb}(h:eP j=true):dM j=(0,2):=by unfold dM;rw[if_pos h]
theorem vw {j:Jb}(h0:eP j=false){k:Nat}(hk:k<j.nodes.length)(hp: ∀m,m<k->iY j.nodes m=0){e:Int}(he:iY j.nodes k=e)(hne:e≠0):dM j=((k:Int),e):=by
 have hf:(List.range j.nodes.length).find? (fun i=>iY j.nodes i !=0)=some k:=by
  rw[List.find?_range_eq_some]
  refine⟨by rw[he];simp[hne],by simp[hk],fun m hm=>by rw[hp m hm];rfl⟩
 unfold dM
 rw[if_neg (by rw[h0];simp),hf]
 show((k:Int),iY j.nodes k)=_
 rw[he]
theorem qU {j:Jb}(hp: ∀m,m<j.nodes.length->iY j.nodes m=0):(List.range j.nodes.length).find? (fun i=>iY j.nodes i !=0)=none:=by
 rw[List.find?_range_eq_none]
 intro m hm;rw[hp m hm];rfl
theorem mg {j:Jb}(h0:eP j=false)(h1: ∀m,m<j.nodes.length->iY j.nodes m=0){k:Nat}{d:JN}(hd:j.nodes[k]?=some d)(hp: ∀m e,m<k->j.nodes[m]?=some e->aJ j.nodes m e=false)(hs:aJ j.nodes k d=true):dM j=((k:Int),122):=by
 have hk:k<j.nodes.length:=(List.getElem?_eq_some_iff.1 hd).1
 have hf:(List.range j.nodes.length).find? (fun i=>aJ j.nodes i (j.nodes.getD i default))=some k:=by
  rw[List.find?_range_eq_some]
  refine⟨by rw[List.getD_eq_getElem?_getD,hd];exact hs,by simp[hk],fun m hm=>?_⟩
  have hm':m<j.nodes.length:=by omega
  rw[List.getD_eq_getElem?_getD,List.getElem?_eq_getElem hm']
  show(!aJ j.nodes m j.nodes[m])=true
  rw[hp m _ hm (List.getElem?_eq_getElem hm')];rfl
 unfold dM
 rw[if_neg (by rw[h0];simp),qU h1,hf]
theorem BK {j:Jb}(h0:eP j=false)(h1: ∀m,m<j.nodes.length->iY j.nodes m=0)(hp: ∀m e,m<j.nodes.length->j.nodes[m]?=some e->aJ j.nodes m e=false):dM j=(0,0):=by
 have hf:(List.range j.nodes.length).find? (fun i=>aJ j.nodes i (j.nodes.getD i default))=none:=by
  rw[List.find?_range_eq_none]
  intro m hm
  rw[List.getD_eq_getElem?_getD,List.getElem?_eq_getElem hm]
  show(!aJ j.nodes m j.nodes[m])=true
  rw[hp m _ hm (List.getElem?_eq_getElem hm)];rfl
 unfold dM
 rw[if_neg (by rw[h0];simp),qU h1,hf]
theorem nT {nodes:List JN}{k:Nat}{d:JN}(hd:nodes[k]?=some d):iY nodes k=0↔aK k d=true/\gW nodes k d=false:=by
 unfold iY
 rw[List.getD_eq_getElem?_getD,hd]
 show(if aK k d=false then(120:Int)else if gW nodes k d=true then 121 else 0)=0↔_
 cases aK k d<;>cases gW nodes k d<;>simp
theorem GY {nodes:List JN}{k:Nat}{d:JN}(hd:nodes[k]?=some d)(h:aK k d=false):iY nodes k=120:=by
 unfold iY
 rw[List.getD_eq_getElem?_getD,hd]
 show(if aK k d=false then(120:Int)else if gW nodes k d=true then 121 else 0)=_
 rw[if_pos h]
theorem GX {nodes:List JN}{k:Nat}{d:JN}(hd:nodes[k]?=some d)(h:aK k d=true)(h2:gW nodes k d=true):iY nodes k=121:=by
 unfold iY
 rw[List.getD_eq_getElem?_getD,hd]
 show(if aK k d=false then(120:Int)else if gW nodes k d=true then 121 else 0)=_
 rw[if_neg (by rw[h];simp),if_pos h2]
theorem oI (j:Jb):fU j=decide ((dM j).2=0):=by
 have:= @qU j
 cases h0:eP j with
 |true=>
  rw[xw h0]
  unfold fU;rw[h0];rfl
 |false=>
  cases h:fU j with
  |true=>
   obtain⟨_,h2⟩:=Dy h
   rw[BK h0 (fun m hm=>(nT (List.getElem?_eq_getElem hm)).2 ⟨(h2 m _ (List.getElem?_eq_getElem hm)).1,(h2 m _ (List.getElem?_eq_getElem hm)).2.1⟩) (fun m e _ he=>(h2 m e he).2.2)]
   rfl
  |false=>
   refine(decide_eq_false fun hz=>?_).symm
   have:fU j=true:=by
    have h1: ∀m,m<j.nodes.length->iY j.nodes m=0:=by
     intro m hm
     cases hf:(List.range j.nodes.length).find? (fun i=>iY j.nodes i !=0)with
     |none=>
      rw[List.find?_range_eq_none]at hf
      simpa using hf m hm
     |some i=>
      unfold dM at hz
      rw[if_neg (by rw[h0];simp),hf]at hz
      have:=List.find?_some hf
      rw[show iY j.nodes i=0 from hz]at this
      cases this
    refine Px h0 fun i d hd=>?_
    have hi:i<j.nodes.length:=(List.getElem?_eq_some_iff.1 hd).1
    have h3:=(nT hd).1 (h1 i hi)
    refine⟨h3.1,h3.2,?_⟩
    cases hf:(List.range j.nodes.length).find? (fun i=>aJ j.nodes i (j.nodes.getD i default))with
    |none=>
     rw[List.find?_range_eq_none]at hf
     have:=hf i hi
     rw[List.getD_eq_getElem?_getD,hd]at this
     simpa using this
    |some i=>
     unfold dM at hz
     rw[if_neg (by rw[h0];simp),qU h1,hf]at hz
     cases hz
   rw[h]at this;cases this
theorem Fh {k:Nat}{d:JN}(h1:aK k d=true):d.ins.length<=3/\ ∀x∈d.ins,0<=x/\x<(k:Int):=by
 unfold aK xu at h1
 split at h1
 ·cases h1
 split at h1
 ·cases h1
 rename_i hb
 have hgood:eU d.ins k=true:=by
  cases e:eU d.ins k with
  |true=>rfl
  |false=>exact absurd (.inr (.inr e)) hb
 have b2:d.ins.length<=jy d.kind:=Nat.le_of_not_lt fun h=>hb (.inr (.inl h))
 unfold eU at hgood
 rw[Bool.and_eq_true,List.all_eq_true,decide_eq_true_eq]at hgood
 refine⟨?_,fun x hx=>by simpa using hgood.2 x hx⟩
 have:jy d.kind<=3:=by unfold jy;split;omega;split<;>omega
 omega
def fH (W ins:List Int)(m:Nat):Int:=((ins.take m).map fun k=>W.getD k.toNat 0).sum
theorem wK {W ins:List Int}{m:Nat}{x:Int}(h:ins[m]?=some x):fH W ins (m+1)=fH W ins m+W.getD x.toNat 0:=by
 unfold fH
 rw[List.take_add_one,h]
 simp
theorem AA {W:List Int}(h: ∀x∈W,0<=x/\x<=64)(i:Nat):0<=W.getD i 0/\W.getD i 0<=64:=by
 rw[List.getD_eq_getElem?_getD]
 cases e:W[i]? with
 |none=>simp
 |some x=>exact h x (List.mem_of_getElem? e)
theorem qO {W ins:List Int}(h: ∀x∈W,0<=x/\x<=64): ∀m,0<=fH W ins m/\fH W ins m<=64*(m:Int)
 |0=>by simp[fH]
 |m+1=>by
  have ih:=qO (ins:=ins) h m
  cases e:ins[m]? with
  |none=>
   have:fH W ins (m+1)=fH W ins m:=by unfold fH;rw[List.take_add_one,e];simp
   rw[this];omega
  |some x=>
   have:=AA h x.toNat
   rw[wK e];omega
theorem Ci (W:List Int)(d:JN):uU W d=if d.kind=1 then 1 else fH W d.ins d.ins.length*(if d.kind=4 then 4 else 1):=by
 unfold uU fH;rw[List.take_length]
theorem row_ne {w:World}{base n B T E:Nat}{v:Value}{xs:List Value}{cs:Array Value}{f:Nat×Nat}(h:w.ownsRow base E 1 v n xs)(hB:w.heap[B]?=some (.cells cs T f))(hTE:T≠E):v.ownBlock≠some B:=by
 intro e
 rcases h.2 with⟨e1,_⟩|⟨g,cap,cur,e1,_,hg,_⟩
 ·rw[e1]at e;cases e
 ·rw[e1]at e
  have:g=B:=by simpa[Value.ownBlock]using e
  subst this
  rw[hg]at hB
  injection hB with hB
  injection hB with _ h2 _
  exact hTE h2.symm
theorem jZ {T E bytes:Nat}{z x:Value}{i:TypeInfo}(hT:Tryz.prog.underlying T=some (.slice E))(hi:Tryz.prog.info? E=some i)(hz:i.zero=some z)(hs:i.size=1)(hb:i.bytes=bytes)(hzc:z.cells.size=1)(hx:x.oneCell'=true)
 {wr:World} {base m:Nat} {v:Value} {xs:List Value} (hown:wr.ownsRow base E 1 v m xs) (hm:m<=100000) (hbb:bytes<=1000) (hbase:base<=wr.heap.size) (ty:TypeId):
 ∃g cap w',(Builtin.append_ #[T,T] ty #[v, .slice (some ⟨wr.heap.size,0,none⟩) 1 1]).run Tryz.prog (wr.alloc (.cells #[x] E))= .ok (.slice (some ⟨g,0,none⟩) (m+1) cap) w'/\w'.ownsRow base E 1 (.slice (some ⟨g,0,none⟩) (m+1) cap) (m+1) (xs++[x])/\Kept (fun k=>v.ownBlock=some k) wr w':=by
 have kA:Kept none' wr (wr.alloc (.cells #[x] E)):=(Kept.refl _ _).alloc _
 have hr:=Reads.lit wr [x] E 1 1 rfl (by unfold maxLen;omega)
 obtain⟨v',n',w',b1,b2,b3,b4,_⟩:=bI (P:=Tryz.prog) base T ty E i z 1 bytes hT hi hz hs hb hzc (by omega) (kA.owns hown (fun _ _ h=>h)) hr (by intro y hy;rw[List.mem_singleton.1 hy];exact hx)
  (by
    simp only[List.length_singleton,Nat.mul_one]
    calc(m+1)*bytes<=100001*1000:=Nat.mul_le_mul (by omega) hbb
     _<=140737488355328:=by decide) (by simp;unfold maxLen;omega) (by have:=kA.size;omega)
 have hn:n'=m+1:=by simpa using b3
 subst hn
 have hg: ∃g cap,v'= .slice (some ⟨g,0,none⟩) (m+1) cap:=by
  rcases b2.2 with⟨e1,_⟩|⟨g,cap,cur,e1,_⟩
  ·have:=b2.1
   have h2:=b2.2
   rcases h2 with⟨_,e2⟩|⟨g,cap,cur,e1',_⟩
   ·omega
   ·rw[e1]at e1';cases e1'
  ·exact⟨g,cap,e1⟩
 obtain⟨g,cap,rfl⟩:=hg
 exact⟨g,cap,w',b1,b2,kA.pure.trans (Kept.grown b4 (fun k hk _=>hk))⟩
end
end Go.Proofs.YtglbkodmmogomaaGreatDoor
