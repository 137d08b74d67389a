/- job: may. -/
import Derived.Test.YtakhobfamnjnoaaGreatDoorB22
set_option linter.unusedVariables false
set_option linter.unusedSimpArgs false
set_option maxHeartbeats 1000000
set_option maxRecDepth 100000
namespace Go.Proofs.YtakhobfamnjnoaaGreatDoor
open Go Go.RowKit
attribute [local irreducible] jm lX
theorem ZV (k:Int)(h1:1<=k)(h2:k<=9)(w:World):(Instr.index 162 (.agg oP) (.int .u8 k)).run Tryz.prog w= .ok (.agg (gX (jO k) (iM k) (rW k) (pU k) (jN k)).toArray) w:=by
 have hk:k=1\/k=2\/k=3\/k=4\/k=5\/k=6\/k=7\/k=8\/k=9:=by omega
 rcases hk with h|h|h|h|h|h|h|h|h
 all_goals(subst h;clear h1 h2;apply Eq.symm;apply Eq.symm;kernel_rfl)
structure nG (w:World)(B:Nat)(L M:Int)(t:Int)(c:Bool)(N:Int):Prop where
 r0:w.cell? ⟨B,0,none⟩=some (.int .i64 L)
 r1:w.cell? ⟨B,1,none⟩=some (.int .i64 M)
 r2:w.cell? ⟨B,2,none⟩=some (.int .u8 t)
 r3:w.cell? ⟨B,3,none⟩=some (.bool c)
 r4:w.cell? ⟨B,4,none⟩=some (.int .i64 N)
theorem nG.of {w:World}{B E:Nat}{L M t N:Int}{c:Bool}(h:w.heap[B]?=some (.cells #[.int .i64 L, .int .i64 M, .int .u8 t, .bool c, .int .i64 N] E (0,0))):nG w B L M t c N:=
 ⟨cells_at h rfl,cells_at h rfl,cells_at h rfl,cells_at h rfl,cells_at h rfl⟩
theorem nG.pure {w w':World}{B:Nat}{L M t N:Int}{c:Bool}(h:nG w B L M t c N)(hk:Kept none' w w'):nG w' B L M t c N:=
 ⟨hk.cell (fun h=>h) h.r0,hk.cell (fun h=>h) h.r1,hk.cell (fun h=>h) h.r2,hk.cell (fun h=>h) h.r3,hk.cell (fun h=>h) h.r4⟩
theorem aez {w:World}{B E:Nat}{a b c d e a' b' c' d' e':Value}(h:w.heap[B]?=some (.cells #[a,b,c,d,e] E (0,0))):
 (((((w.setCell ⟨B,0,none⟩ a').setCell ⟨B,1,none⟩ b').setCell ⟨B,2,none⟩ c').setCell ⟨B,3,none⟩ d').setCell ⟨B,4,none⟩ e').heap[B]?=some (.cells #[a',b',c',d',e'] E (0,0)):=by
 have h1:=uF h 0 a'
 have h2:=uF h1 1 b'
 have h3:=uF h2 2 c'
 have h4:=uF h3 3 d'
 have h5:=uF h4 4 e'
 simpa using h5
theorem adE {w0 w:World}{B:Nat}{a b c d e:Value}(h:Kept none' w0 w)(hB:w0.heap.size<=B):
 Kept none' w0 (((((w.setCell ⟨B,0,none⟩ a).setCell ⟨B,1,none⟩ b).setCell ⟨B,2,none⟩ c).setCell ⟨B,3,none⟩ d).setCell ⟨B,4,none⟩ e):=
 ((((h.setCell (p:=⟨B,0,none⟩) (.inr hB) _).setCell (p:=⟨B,1,none⟩) (.inr hB) _).setCell (p:=⟨B,2,none⟩) (.inr hB) _).setCell (p:=⟨B,3,none⟩) (.inr hB) _).setCell (p:=⟨B,4,none⟩) (.inr hB) _
theorem X0 (d:JN)(a:Array Value)(at_:Nat)(w:World)(h:wY w a d)(hat:at_<=1000):Calls Tryz.prog 58 #[.agg a, .int .i64 (at_:Int)] w (Gives w (.bool (dM at_ d))):=by
 have h0:=h
 obtain⟨pi,ci,p,cap,rfl,h1,h2,h3,h4,h5,h6,h7⟩:=h0
 have H:=Lib.hid (And.intro h1 (And.intro h2 h7))
 clear h1 h2 h3 h h7
 go_enter Tryz.func58,Tryz.ntmps58
 go_wp2_with fail
 obtain⟨W0,hW0⟩: ∃W0,(w.alloc (.cells (qB d pi ci p cap) 79)).alloc (.cells #[.int .i64 (at_:Int)] 3)=W0:=⟨_,rfl⟩
 have k0:Kept none' w W0:=by rw[<-hW0];exact((Kept.refl _ _).alloc _).alloc _
 have kA:Kept none' (w.alloc (.cells (qB d pi ci p cap) 79)) W0:=by rw[<-hW0];exact(Kept.refl _ _).alloc _
 have c0:W0.cell? ⟨w.heap.size,0,none⟩=some (.string d.uid):=kA.cell (fun h=>h) (by simp)
 have c1:W0.cell? ⟨w.heap.size,1,none⟩=some (.int .u8 d.kind):=kA.cell (fun h=>h) (by simp)
 have c2:W0.cell? ⟨w.heap.size,2,none⟩=some (.slice pi d.ins.length ci):=kA.cell (fun h=>h) (by simp)
 have c3:W0.cell? ⟨w.heap.size,3,none⟩=some (.int .u8 d.x.op):=kA.cell (fun h=>h) (by simp)
 have c4:W0.cell? ⟨w.heap.size,4,none⟩=some (.int .i64 d.x.n):=kA.cell (fun h=>h) (by simp)
 have c5:W0.cell? ⟨w.heap.size,5,none⟩=some (.slice p d.x.args.length cap):=kA.cell (fun h=>h) (by simp)
 have c6:W0.cell? ⟨w.heap.size,6,none⟩=some (.int .i64 d.n):=kA.cell (fun h=>h) (by simp)
 have e0:W0.cell? ⟨w.heap.size+1,0,none⟩=some (.int .i64 (at_:Int)):=by rw[<-hW0];simp
 rw[hW0]
 have K0:=Lib.hid k0
 clear hW0 k0 kA
 (with_reducible refine(name_any d.uid H.out.2.2 W0).mono ?_)
 rintro e W1 ⟨rfl,k1⟩
 have c0:=k1.cell (p:=⟨w.heap.size,0,none⟩) (fun h=>h) c0
 have c1:=k1.cell (p:=⟨w.heap.size,1,none⟩) (fun h=>h) c1
 have c2:=k1.cell (p:=⟨w.heap.size,2,none⟩) (fun h=>h) c2
 have c3:=k1.cell (p:=⟨w.heap.size,3,none⟩) (fun h=>h) c3
 have c4:=k1.cell (p:=⟨w.heap.size,4,none⟩) (fun h=>h) c4
 have c5:=k1.cell (p:=⟨w.heap.size,5,none⟩) (fun h=>h) c5
 have c6:=k1.cell (p:=⟨w.heap.size,6,none⟩) (fun h=>h) c6
 have e0:=k1.cell (p:=⟨w.heap.size+1,0,none⟩) (fun h=>h) e0
 have K1:=Lib.hid (K0.out.trans k1)
 clear k1
 have HM:=Lib.hid (show dM at_ d=DI (kH d.uid) d.kind d.ins.length (kJ d.ins at_) (kM d.x) (fun acc ty=>uV d.x acc ty) d.n from rfl)
 cases hn:kH d.uid with
 |false=>
  rw[hn]at HM
  clear hn
  go_wp2_with fail
  go_ret
  exact⟨dS (by rw[HM.out];rfl),K1.out⟩
 |true=>
  rw[hn]at HM
  clear hn
  by_cases hk:d.kind<1\/9<d.kind
  ·have F:=Lib.hid (show dM at_ d=false by rw[HM.out];unfold DI;rw[if_pos (.inr hk)])
   rcases hk with hk|hk
   ·go_wp2_with fail
    go_ret
    exact⟨dS (by rw[F.out]),K1.out⟩
   ·go_wp2_with fail
    go_ret
    exact⟨dS (by rw[F.out]),K1.out⟩
  ·have hk1:1<=d.kind:=by omega
   have hk2:d.kind<=9:=by omega
   have hidx:=fun W=>ZV d.kind hk1 hk2 W
   clear hk
   have hrv:(gX (jO d.kind) (iM d.kind) (rW d.kind) (pU d.kind) (jN d.kind)).toArray= #[.int .i64 (jO d.kind:Int), .int .i64 (iM d.kind:Int), .int .u8 (rW d.kind), .bool (pU d.kind), .int .i64 (jN d.kind)]:=rfl
   rw[hrv]at hidx
   have hjr:=fun W=>SX W
   go_wp2_with fail
   refine GH (fun W=>Kept none' W1 W) (by kernel_rfl) (by kernel_rfl) (Kept.refl _ _).drew ?_
   refine sU (k:=1) (by kernel_rfl) rfl rfl (fun W hW=>by go_simp;rfl) ?_
   go_frame
   refine sU (k:=2) (by kernel_rfl) rfl rfl (fun W hW=>by have z1:=hW.cell (fun h=>h) c1;go_simp;rfl) ?_
   go_frame
   refine Xh (i:=0) (k:=4) (by kernel_rfl) (by kernel_rfl) rfl rfl rfl rfl ?_ ?_
   ·intro K hK
    go_wp2_with fail
    refine(hjr _).mono ?_
    rintro e W2 ⟨rfl,k2,s2⟩
    go_wp2_with fail
    refine hK _ _ k2.rY ?_
    clear hK
    refine sU (k:=3) (by kernel_rfl) rfl rfl (fun W hW=>by go_simp;rfl) ?_
    go_frame
    refine vM (k:=4) (by kernel_rfl) (by kernel_rfl) rfl rfl ?_
    intro K hK
    go_wp2_with fail
    refine hK _ _ (k2.rY.alloc _) ?_
    clear hK
    refine vM (k:=5) (by kernel_rfl) (by kernel_rfl) rfl rfl ?_
    intro K hK
    go_wp2_with fail
    have kW:Kept none' W1 (W2.alloc (.cells #[.int .i64 (jO d.kind:Int), .int .i64 (iM d.kind:Int), .int .u8 (rW d.kind), .bool (pU d.kind), .int .i64 (jN d.kind)] 161)):=k2.rY.alloc _
    have hR:=nG.of (heap_alloc_new W2 (.cells #[.int .i64 (jO d.kind:Int), .int .i64 (iM d.kind:Int), .int .u8 (rW d.kind), .bool (pU d.kind), .int .i64 (jN d.kind)] 161))
    have hs2:W2.heap.size=W1.heap.size+1:=s2
    rw[hs2]at hR
    refine hK _ _ kW ?_
    clear hK
    refine KG (by kernel_rfl) kW ?_
    generalize(W2.alloc (.cells #[.int .i64 (jO d.kind:Int), .int .i64 (iM d.kind:Int), .int .u8 (rW d.kind), .bool (pU d.kind), .int .i64 (jN d.kind)] 161))=W3 at*
    generalize W1.heap.size+1=B at*
    have K3:=Lib.hid (K1.out.trans kW)
    have c0:=kW.cell (p:=⟨w.heap.size,0,none⟩) (fun h=>h) c0
    have c1:=kW.cell (p:=⟨w.heap.size,1,none⟩) (fun h=>h) c1
    have c2:=kW.cell (p:=⟨w.heap.size,2,none⟩) (fun h=>h) c2
    have c3:=kW.cell (p:=⟨w.heap.size,3,none⟩) (fun h=>h) c3
    have c4:=kW.cell (p:=⟨w.heap.size,4,none⟩) (fun h=>h) c4
    have c5:=kW.cell (p:=⟨w.heap.size,5,none⟩) (fun h=>h) c5
    have c6:=kW.cell (p:=⟨w.heap.size,6,none⟩) (fun h=>h) c6
    have e0:=kW.cell (p:=⟨w.heap.size+1,0,none⟩) (fun h=>h) e0
    have lS:dM at_ d=(if d.ins.length<jO d.kind\/iM d.kind<d.ins.length\/kJ d.ins at_=false then false else if d.n<min (jN d.kind) 1\/jN d.kind<d.n then false else if rW d.kind=0 then kM d.x else uV d.x (pU d.kind) (rW d.kind)):=by
     rw[HM.out];unfold DI;rw[if_neg (by simp;omega)]
    have lS:=Lib.hid lS
    generalize jO d.kind=L at*
    generalize iM d.kind=M at*
    generalize rW d.kind=ty at*
    generalize pU d.kind=ac at*
    generalize jN d.kind=N at*
    obtain⟨r0,r1,r2,r3,r4⟩:=hR
    clear kW hidx hrv hjr HM k2 s2
    by_cases b1:d.ins.length<L
    ·have F:=Lib.hid (show dM at_ d=false by rw[lS.out,if_pos (.inl b1)])
     clear lS
     go_wp2_with fail
     go_ret
     exact⟨dS (by rw[F.out]),K3.out⟩
    ·by_cases b2:M<d.ins.length
     ·have F:=Lib.hid (show dM at_ d=false by rw[lS.out,if_pos (.inr (.inl b2))])
      clear lS
      go_wp2_with fail
      go_ret
      exact⟨dS (by rw[F.out]),K3.out⟩
     ·have ct:=Es _ d.ins W3 (H.out.2.1.pure K3.out)
      have cf:=sS _ d.ins (at_:Int) (w.heap.size+1) W3 (H.out.2.1.pure K3.out) e0
      have hg:kJ d.ins at_=(decide d.ins.Nodup&&!(d.ins.any (qJ (at_:Int)))):=by
       unfold kJ
       rw[List.not_any_eq_all_not]
       congr 2
       funext k
       unfold qJ
       simp
      have HG:=Lib.hid hg
      clear hg
      generalize decide d.ins.Nodup=bn at*
      generalize d.ins.any (qJ (at_:Int))=bo at*
      cases bn with
      |false=>
       have F:=Lib.hid (show dM at_ d=false by rw[lS.out,if_pos (.inr (.inr (by rw[HG.out];rfl)))])
       clear lS
       go_wp2_with (go_at_call 100;refine ct.mono ?_;rintro e w' ⟨rfl,rfl⟩)
       go_ret
       exact⟨dS (by rw[F.out]),K3.out⟩
      |true=>
       cases bo with
       |true=>
        have F:=Lib.hid (show dM at_ d=false by rw[lS.out,if_pos (.inr (.inr (by rw[HG.out];rfl)))])
        clear lS
        go_wp2_with (first|(go_at_call 100;refine ct.mono ?_;rintro e w' ⟨rfl,rfl⟩)|(go_at_call 101;refine cf.mono ?_;rintro e w' ⟨rfl,rfl⟩))
        go_ret
        exact⟨dS (by rw[F.out]),K3.out⟩
       |false=>
        have sF:=Lib.hid (show dM at_ d=(if d.n<min N 1\/N<d.n then false else if ty=0 then kM d.x else uV d.x ac ty) by
         rw[lS.out,if_neg (by rw[HG.out];simp;omega)])
        clear lS HG
        by_cases b3:d.n<min N 1
        ·have F:=Lib.hid (show dM at_ d=false by rw[sF.out,if_pos (.inl b3)])
         clear sF
         go_wp2_with (first|(go_at_call 100;refine ct.mono ?_;rintro e w' ⟨rfl,rfl⟩)|(go_at_call 101;refine cf.mono ?_;rintro e w' ⟨rfl,rfl⟩))
         go_ret
         exact⟨dS (by rw[F.out]),K3.out⟩
        ·by_cases b4:N<d.n
         ·have F:=Lib.hid (show dM at_ d=false by rw[sF.out,if_pos (.inr b4)])
          clear sF
          go_wp2_with (first|(go_at_call 100;refine ct.mono ?_;rintro e w' ⟨rfl,rfl⟩)|(go_at_call 101;refine cf.mono ?_;rintro e w' ⟨rfl,rfl⟩))
          go_ret
          exact⟨dS (by rw[F.out]),K3.out⟩
         ·by_cases b5:ty=0
          ·subst b5
           have F:=Lib.hid (show dM at_ d=kM d.x by rw[sF.out,if_neg (by omega),if_pos rfl])
           have cs:=IL d.x _ W3 (bP.pure K3.out H.out.1)
           clear sF
           go_wp2_with (first|(go_at_call 100;refine ct.mono ?_;rintro e w' ⟨rfl,rfl⟩)|(go_at_call 101;refine cf.mono ?_;rintro e w' ⟨rfl,rfl⟩))
           (with_reducible refine cs.mono ?_)
           rintro e W4 ⟨rfl,k4⟩
           have K4:=Lib.hid (K3.out.trans k4)
           clear k4
           go_wp2_with fail
           go_ret
           exact⟨dS (by rw[F.out]),K4.out⟩
          ·have F:=Lib.hid (show dM at_ d=uV d.x ac ty by rw[sF.out,if_neg (by omega),if_neg b5])
           have ci:=VO d.x ac ty _ W3 (bP.pure K3.out H.out.1)
           have hb:(ty==0)=false:=by simp[b5]
           clear sF
           go_wp2_with (first|(go_at_call 100;refine ct.mono ?_;rintro e w' ⟨rfl,rfl⟩)|(go_at_call 101;refine cf.mono ?_;rintro e w' ⟨rfl,rfl⟩))
           (with_reducible refine ci.mono ?_)
           rintro e W4 ⟨rfl,k4⟩
           have K4:=Lib.hid (K3.out.trans k4)
           clear k4
           go_wp2_with fail
           go_ret
           exact⟨dS (by rw[F.out]),K4.out⟩
   ·intro K hK
    go_wp2_with fail
    refine hK _ _ ((Kept.refl _ _).drew.alloc _) ?_
    clear hK
    refine vM (k:=0) (by kernel_rfl) (by kernel_rfl) rfl rfl ?_
    intro K hK
    go_wp2_with fail
    refine(hjr _).mono ?_
    rintro e W2 ⟨rfl,k2,s2⟩
    go_wp2_with fail
    refine hK _ _ (((Kept.refl _ _).drew.alloc _).trans k2) ?_
    clear hK
    refine sU (k:=3) (by kernel_rfl) rfl rfl (fun W hW=>by go_simp;rfl) ?_
    go_frame
    have hB:W2.heap[W1.heap.size]?=some (.cells #[.int .i64 0, .int .i64 0, .int .u8 0, .bool false, .int .i64 0] 161 (0,0)):=k2.heap (heap_alloc_new W1.drew (.cells #[.int .i64 0, .int .i64 0, .int .u8 0, .bool false, .int .i64 0] 161)) (fun h=>h)
    have z0:W2.cell? ⟨W1.heap.size,0,none⟩=some (.int .i64 0):=cells_at hB rfl
    have z1:W2.cell? ⟨W1.heap.size,1,none⟩=some (.int .i64 0):=cells_at hB rfl
    have z2:W2.cell? ⟨W1.heap.size,2,none⟩=some (.int .u8 0):=cells_at hB rfl
    have z3:W2.cell? ⟨W1.heap.size,3,none⟩=some (.bool false):=cells_at hB rfl
    have z4:W2.cell? ⟨W1.heap.size,4,none⟩=some (.int .i64 0):=cells_at hB rfl
    have f0:=free_at hB 0
    have f1:=free_at hB 1
    have f2:=free_at hB 2
    have f3:=free_at hB 3
    have f4:=free_at hB 4
    have kW:=adE (a:= .int .i64 (jO d.kind:Int)) (b:= .int .i64 (iM d.kind:Int)) (c:= .int .u8 (rW d.kind)) (d:= .bool (pU d.kind)) (e:= .int .i64 (jN d.kind)) (((Kept.refl none' W1).drew.alloc (.cells #[.int .i64 0, .int .i64 0, .int .u8 0, .bool false, .int .i64 0] 161)).trans k2) (Nat.le_refl _)
    have hR:=nG.of (aez (a':= .int .i64 (jO d.kind:Int)) (b':= .int .i64 (iM d.kind:Int)) (c':= .int .u8 (rW d.kind)) (d':= .bool (pU d.kind)) (e':= .int .i64 (jN d.kind)) hB)
    have KW:=Lib.hid kW
    have HR:=Lib.hid hR
    clear kW hR hB
    refine vM (k:=5) (by kernel_rfl) (by kernel_rfl) rfl rfl ?_
    intro K hK
    go_wp2_with fail
    refine hK _ _ KW.out ?_
    clear hK
    refine KG (by kernel_rfl) KW.out ?_
    have kW:=KW.out
    have hR:=HR.out
    clear KW HR z0 z1 z2 z3 z4 f0 f1 f2 f3 f4
    generalize(((((W2.setCell ⟨W1.heap.size,0,none⟩ (.int .i64 (jO d.kind:Int))).setCell ⟨W1.heap.size,1,none⟩ (.int .i64 (iM d.kind:Int))).setCell ⟨W1.heap.size,2,none⟩ (.int .u8 (rW d.kind))).setCell ⟨W1.heap.size,3,none⟩ (.bool (pU d.kind))).setCell ⟨W1.heap.size,4,none⟩ (.int .i64 (jN d.kind)))=W3 at*
    have K3:=Lib.hid (K1.out.trans kW)
    have c0:=kW.cell (p:=⟨w.heap.size,0,none⟩) (fun h=>h) c0
    have c1:=kW.cell (p:=⟨w.heap.size,1,none⟩) (fun h=>h) c1
    have c2:=kW.cell (p:=⟨w.heap.size,2,none⟩) (fun h=>h) c2
    have c3:=kW.cell (p:=⟨w.heap.size,3,none⟩) (fun h=>h) c3
    have c4:=kW.cell (p:=⟨w.heap.size,4,none⟩) (fun h=>h) c4
    have c5:=kW.cell (p:=⟨w.heap.size,5,none⟩) (fun h=>h) c5
    have c6:=kW.cell (p:=⟨w.heap.size,6,none⟩) (fun h=>h) c6
    have e0:=kW.cell (p:=⟨w.heap.size+1,0,none⟩) (fun h=>h) e0
    have lS:dM at_ d=(if d.ins.length<jO d.kind\/iM d.kind<d.ins.length\/kJ d.ins at_=false then false else if d.n<min (jN d.kind) 1\/jN d.kind<d.n then false else if rW d.kind=0 then kM d.x else uV d.x (pU d.kind) (rW d.kind)):=by
     rw[HM.out];unfold DI;rw[if_neg (by simp;omega)]
    have lS:=Lib.hid lS
    generalize jO d.kind=L at*
    generalize iM d.kind=M at*
    generalize rW d.kind=ty at*
    generalize pU d.kind=ac at*
    generalize jN d.kind=N at*
    obtain⟨r0,r1,r2,r3,r4⟩:=hR
    clear kW hidx hrv hjr HM k2 s2
    by_cases b1:d.ins.length<L
    ·have F:=Lib.hid (show dM at_ d=false by rw[lS.out,if_pos (.inl b1)])
     clear lS
     go_wp2_with fail
     go_ret
     exact⟨dS (by rw[F.out]),K3.out⟩
    ·by_cases b2:M<d.ins.length
     ·have F:=Lib.hid (show dM at_ d=false by rw[lS.out,if_pos (.inr (.inl b2))])
      clear lS
      go_wp2_with fail
      go_ret
      exact⟨dS (by rw[F.out]),K3.out⟩
     ·have ct:=Es _ d.ins W3 (H.out.2.1.pure K3.out)
      have cf:=sS _ d.ins (at_:Int) (w.heap.size+1) W3 (H.out.2.1.pure K3.out) e0
      have hg:kJ d.ins at_=(decide d.ins.Nodup&&!(d.ins.any (qJ (at_:Int)))):=by
       unfold kJ
       rw[List.not_any_eq_all_not]
       congr 2
       funext k
       unfold qJ
       simp
      have HG:=Lib.hid hg
      clear hg
      generalize decide d.ins.Nodup=bn at*
      generalize d.ins.any (qJ (at_:Int))=bo at*
      cases bn with
      |false=>
       have F:=Lib.hid (show dM at_ d=false by rw[lS.out,if_pos (.inr (.inr (by rw[HG.out];rfl)))])
       clear lS
       go_wp2_with (go_at_call 100;refine ct.mono ?_;rintro e w' ⟨rfl,rfl⟩)
       go_ret
       exact⟨dS (by rw[F.out]),K3.out⟩
      |true=>
       cases bo with
       |true=>
        have F:=Lib.hid (show dM at_ d=false by rw[lS.out,if_pos (.inr (.inr (by rw[HG.out];rfl)))])
        clear lS
        go_wp2_with (first|(go_at_call 100;refine ct.mono ?_;rintro e w' ⟨rfl,rfl⟩)|(go_at_call 101;refine cf.mono ?_;rintro e w' ⟨rfl,rfl⟩))
        go_ret
        exact⟨dS (by rw[F.out]),K3.out⟩
       |false=>
        have sF:=Lib.hid (show dM at_ d=(if d.n<min N 1\/N<d.n then false else if ty=0 then kM d.x else uV d.x ac ty) by
         rw[lS.out,if_neg (by rw[HG.out];simp;omega)])
        clear lS HG
        by_cases b3:d.n<min N 1
        ·have F:=Lib.hid (show dM at_ d=false by rw[sF.out,if_pos (.inl b3)])
         clear sF
         go_wp2_with (first|(go_at_call 100;refine ct.mono ?_;rintro e w' ⟨rfl,rfl⟩)|(go_at_call 101;refine cf.mono ?_;rintro e w' ⟨rfl,rfl⟩))
         go_ret
         exact⟨dS (by rw[F.out]),K3.out⟩
        ·by_cases b4:N<d.n
         ·have F:=Lib.hid (show dM at_ d=false by rw[sF.out,if_pos (.inr b4)])
          clear sF
          go_wp2_with (first|(go_at_call 100;refine ct.mono ?_;rintro e w' ⟨rfl,rfl⟩)|(go_at_call 101;refine cf.mono ?_;rintro e w' ⟨rfl,rfl⟩))
          go_ret
          exact⟨dS (by rw[F.out]),K3.out⟩
         ·by_cases b5:ty=0
          ·subst b5
           have F:=Lib.hid (show dM at_ d=kM d.x by rw[sF.out,if_neg (by omega),if_pos rfl])
           have cs:=IL d.x _ W3 (bP.pure K3.out H.out.1)
           clear sF
           go_wp2_with (first|(go_at_call 100;refine ct.mono ?_;rintro e w' ⟨rfl,rfl⟩)|(go_at_call 101;refine cf.mono ?_;rintro e w' ⟨rfl,rfl⟩))
           (with_reducible refine cs.mono ?_)
           rintro e W4 ⟨rfl,k4⟩
           have K4:=Lib.hid (K3.out.trans k4)
           clear k4
           go_wp2_with fail
           go_ret
           exact⟨dS (by rw[F.out]),K4.out⟩
          ·have F:=Lib.hid (show dM at_ d=uV d.x ac ty by rw[sF.out,if_neg (by omega),if_neg b5])
           have ci:=VO d.x ac ty _ W3 (bP.pure K3.out H.out.1)
           have hb:(ty==0)=false:=by simp[b5]
           clear sF
           go_wp2_with (first|(go_at_call 100;refine ct.mono ?_;rintro e w' ⟨rfl,rfl⟩)|(go_at_call 101;refine cf.mono ?_;rintro e w' ⟨rfl,rfl⟩))
           (with_reducible refine ci.mono ?_)
           rintro e W4 ⟨rfl,k4⟩
           have K4:=Lib.hid (K3.out.trans k4)
           clear k4
           go_wp2_with fail
           go_ret
           exact⟨dS (by rw[F.out]),K4.out⟩
end Go.Proofs.YtakhobfamnjnoaaGreatDoor
