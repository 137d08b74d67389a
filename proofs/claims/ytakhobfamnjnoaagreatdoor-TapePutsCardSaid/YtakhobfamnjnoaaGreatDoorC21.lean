/- job: may. -/
import Derived.Test.YtakhobfamnjnoaaGreatDoorC20
set_option linter.unusedVariables false
set_option linter.unusedSimpArgs false
set_option maxHeartbeats 1000000
set_option maxRecDepth 100000
namespace Go.Proofs.YtakhobfamnjnoaaGreatDoor
section
open Go Go.RowKit
attribute [local irreducible] kC oM
theorem adA (k:Int)(h1:1<=k)(h2:k<=9)(w:World):(Instr.index 162 (.agg rX) (.int .u8 k)).run Tryz.prog w= .ok (.agg (jF (l9 k) (jU k) (vO k) (tK k) (jN k)).toArray) w:=by
 have hk:k=1\/k=2\/k=3\/k=4\/k=5\/k=6\/k=7\/k=8\/k=9:=by omega
 rcases hk with h|h|h|h|h|h|h|h|h
 all_goals(subst h;clear h1 h2;apply Eq.symm;apply Eq.symm;kernel_rfl)
structure zo (w:World)(B:Nat)(L M:Int)(t:Int)(c:Bool)(N:Int):Prop where
 r0:w.cell? ⟨B,0,none⟩=some (.int .i64 L)
 r1:w.cell? ⟨B,1,none⟩=some (.int .i64 M)
 r2:w.cell? ⟨B,2,none⟩=some (.int .u8 t)
 r3:w.cell? ⟨B,3,none⟩=some (.bool c)
 r4:w.cell? ⟨B,4,none⟩=some (.int .i64 N)
theorem zo.of {w:World}{B E:Nat}{L M t N:Int}{c:Bool}(h:w.heap[B]?=some (.cells #[.int .i64 L, .int .i64 M, .int .u8 t, .bool c, .int .i64 N] E (0,0))):zo w B L M t c N:=
 ⟨cells_at h rfl,cells_at h rfl,cells_at h rfl,cells_at h rfl,cells_at h rfl⟩
theorem aib {w:World}{B E:Nat}{a b c d e a' b' c' d' e':Value}(h:w.heap[B]?=some (.cells #[a,b,c,d,e] E (0,0))):
 (((((w.setCell ⟨B,0,none⟩ a').setCell ⟨B,1,none⟩ b').setCell ⟨B,2,none⟩ c').setCell ⟨B,3,none⟩ d').setCell ⟨B,4,none⟩ e').heap[B]?=some (.cells #[a',b',c',d',e'] E (0,0)):=by
 have h1:=xK h 0 a'
 have h2:=xK h1 1 b'
 have h3:=xK h2 2 c'
 have h4:=xK h3 3 d'
 have h5:=xK h4 4 e'
 simpa using h5
theorem ahm {w0 w:World}{B:Nat}{a b c d e:Value}(h:Kept none' w0 w)(hB:w0.heap.size<=B):
 Kept none' w0 (((((w.setCell ⟨B,0,none⟩ a).setCell ⟨B,1,none⟩ b).setCell ⟨B,2,none⟩ c).setCell ⟨B,3,none⟩ d).setCell ⟨B,4,none⟩ e):=
 ((((h.setCell (p:=⟨B,0,none⟩) (.inr hB) _).setCell (p:=⟨B,1,none⟩) (.inr hB) _).setCell (p:=⟨B,2,none⟩) (.inr hB) _).setCell (p:=⟨B,3,none⟩) (.inr hB) _).setCell (p:=⟨B,4,none⟩) (.inr hB) _
theorem abr (d:JN)(a:Array Value)(at_:Nat)(w:World)(h:yP w a d)(hat:at_<=1000):Calls Tryz.prog 58 #[.agg a, .int .i64 (at_:Int)] w (Gives w (.bool (bD at_ d))):=by
 have h0:=h
 obtain⟨pi,ci,p,cap,rfl,h1,h2,h3,h4,h5,h6,h7⟩:=h0
 have H:=Lib.hid (And.intro h1 (And.intro h2 h7))
 clear h1 h2 h3 h h7
 go_enter Tryz.func58,Tryz.ntmps58
 go_wp2_with fail
 obtain⟨W0,hW0⟩: ∃W0,(w.alloc (.cells (o7 d pi ci p cap) 79)).alloc (.cells #[.int .i64 (at_:Int)] 3)=W0:=⟨_,rfl⟩
 have k0:Kept none' w W0:=by rw[<-hW0];exact((Kept.refl _ _).alloc _).alloc _
 have kA:Kept none' (w.alloc (.cells (o7 d pi ci p cap) 79)) W0:=by rw[<-hW0];exact(Kept.refl _ _).alloc _
 have c0:W0.cell? ⟨w.heap.size,0,none⟩=some (.string d.uid):=kA.cell (fun h=>h) (by simp)
 have c1:W0.cell? ⟨w.heap.size,1,none⟩=some (.int .u8 d.kind):=kA.cell (fun h=>h) (by simp)
 have c2:W0.cell? ⟨w.heap.size,2,none⟩=some (.slice pi d.ins.length ci):=kA.cell (fun h=>h) (by simp)
 have c3:W0.cell? ⟨w.heap.size,3,none⟩=some (.int .u8 d.x.op):=kA.cell (fun h=>h) (by simp)
 have c4:W0.cell? ⟨w.heap.size,4,none⟩=some (.int .i64 d.x.n):=kA.cell (fun h=>h) (by simp)
 have c5:W0.cell? ⟨w.heap.size,5,none⟩=some (.slice p d.x.args.length cap):=kA.cell (fun h=>h) (by simp)
 have c6:W0.cell? ⟨w.heap.size,6,none⟩=some (.int .i64 d.n):=kA.cell (fun h=>h) (by simp)
 have e0:W0.cell? ⟨w.heap.size+1,0,none⟩=some (.int .i64 (at_:Int)):=by rw[<-hW0];simp
 rw[hW0]
 have K0:=Lib.hid k0
 clear hW0 k0 kA
 (with_reducible refine(name_any d.uid H.out.2.2 W0).mono ?_)
 rintro e W1 ⟨rfl,k1⟩
 have c0:=k1.cell (p:=⟨w.heap.size,0,none⟩) (fun h=>h) c0
 have c1:=k1.cell (p:=⟨w.heap.size,1,none⟩) (fun h=>h) c1
 have c2:=k1.cell (p:=⟨w.heap.size,2,none⟩) (fun h=>h) c2
 have c3:=k1.cell (p:=⟨w.heap.size,3,none⟩) (fun h=>h) c3
 have c4:=k1.cell (p:=⟨w.heap.size,4,none⟩) (fun h=>h) c4
 have c5:=k1.cell (p:=⟨w.heap.size,5,none⟩) (fun h=>h) c5
 have c6:=k1.cell (p:=⟨w.heap.size,6,none⟩) (fun h=>h) c6
 have e0:=k1.cell (p:=⟨w.heap.size+1,0,none⟩) (fun h=>h) e0
 have K1:=Lib.hid (K0.out.trans k1)
 clear k1
 have HM:=Lib.hid (show bD at_ d=BN (fK d.uid) d.kind d.ins.length (iI d.ins at_) (jO d.x) (fun acc ty=>lJ d.x acc ty) d.n from rfl)
 cases hn:fK d.uid with
 |false=>
  rw[hn]at HM
  clear hn
  go_wp2_with fail
  go_ret
  exact⟨aU (by rw[HM.out];rfl),K1.out⟩
 |true=>
  rw[hn]at HM
  clear hn
  by_cases hk:d.kind<1\/9<d.kind
  ·have F:=Lib.hid (show bD at_ d=false by rw[HM.out];unfold BN;rw[if_pos (.inr hk)])
   rcases hk with hk|hk
   ·go_wp2_with fail
    go_ret
    exact⟨aU (by rw[F.out]),K1.out⟩
   ·go_wp2_with fail
    go_ret
    exact⟨aU (by rw[F.out]),K1.out⟩
  ·have hk1:1<=d.kind:=by omega
   have hk2:d.kind<=9:=by omega
   have hidx:=fun W=>adA d.kind hk1 hk2 W
   clear hk
   have hrv:(jF (l9 d.kind) (jU d.kind) (vO d.kind) (tK d.kind) (jN d.kind)).toArray= #[.int .i64 (l9 d.kind:Int), .int .i64 (jU d.kind:Int), .int .u8 (vO d.kind), .bool (tK d.kind), .int .i64 (jN d.kind)]:=rfl
   rw[hrv]at hidx
   have hjr:=fun W=>Xj W
   go_wp2_with fail
   refine KN (fun W=>Kept none' W1 W) (by kernel_rfl) (by kernel_rfl) (Kept.refl _ _).drew ?_
   refine wF (k:=1) (by kernel_rfl) rfl rfl (fun W hW=>by go_simp;rfl) ?_
   go_frame
   refine wF (k:=2) (by kernel_rfl) rfl rfl (fun W hW=>by have z1:=hW.cell (fun h=>h) c1;go_simp;rfl) ?_
   go_frame
   refine aaN (i:=0) (k:=4) (by kernel_rfl) (by kernel_rfl) rfl rfl rfl rfl ?_ ?_
   ·intro K hK
    go_wp2_with fail
    refine(hjr _).mono ?_
    rintro e W2 ⟨rfl,k2,s2⟩
    go_wp2_with fail
    refine hK _ _ k2.kL ?_
    clear hK
    refine wF (k:=3) (by kernel_rfl) rfl rfl (fun W hW=>by go_simp;rfl) ?_
    go_frame
    refine yT (k:=4) (by kernel_rfl) (by kernel_rfl) rfl rfl ?_
    intro K hK
    go_wp2_with fail
    refine hK _ _ (k2.kL.alloc _) ?_
    clear hK
    refine yT (k:=5) (by kernel_rfl) (by kernel_rfl) rfl rfl ?_
    intro K hK
    go_wp2_with fail
    have kW:Kept none' W1 (W2.alloc (.cells #[.int .i64 (l9 d.kind:Int), .int .i64 (jU d.kind:Int), .int .u8 (vO d.kind), .bool (tK d.kind), .int .i64 (jN d.kind)] 161)):=k2.kL.alloc _
    have hR:=zo.of (heap_alloc_new W2 (.cells #[.int .i64 (l9 d.kind:Int), .int .i64 (jU d.kind:Int), .int .u8 (vO d.kind), .bool (tK d.kind), .int .i64 (jN d.kind)] 161))
    have hs2:W2.heap.size=W1.heap.size+1:=s2
    rw[hs2]at hR
    refine hK _ _ kW ?_
    clear hK
    refine Ph (by kernel_rfl) kW ?_
    generalize(W2.alloc (.cells #[.int .i64 (l9 d.kind:Int), .int .i64 (jU d.kind:Int), .int .u8 (vO d.kind), .bool (tK d.kind), .int .i64 (jN d.kind)] 161))=W3 at*
    generalize W1.heap.size+1=B at*
    have K3:=Lib.hid (K1.out.trans kW)
    have c0:=kW.cell (p:=⟨w.heap.size,0,none⟩) (fun h=>h) c0
    have c1:=kW.cell (p:=⟨w.heap.size,1,none⟩) (fun h=>h) c1
    have c2:=kW.cell (p:=⟨w.heap.size,2,none⟩) (fun h=>h) c2
    have c3:=kW.cell (p:=⟨w.heap.size,3,none⟩) (fun h=>h) c3
    have c4:=kW.cell (p:=⟨w.heap.size,4,none⟩) (fun h=>h) c4
    have c5:=kW.cell (p:=⟨w.heap.size,5,none⟩) (fun h=>h) c5
    have c6:=kW.cell (p:=⟨w.heap.size,6,none⟩) (fun h=>h) c6
    have e0:=kW.cell (p:=⟨w.heap.size+1,0,none⟩) (fun h=>h) e0
    have oH:bD at_ d=(if d.ins.length<l9 d.kind\/jU d.kind<d.ins.length\/iI d.ins at_=false then false else if d.n<min (jN d.kind) 1\/jN d.kind<d.n then false else if vO d.kind=0 then jO d.x else lJ d.x (tK d.kind) (vO d.kind)):=by
     rw[HM.out];unfold BN;rw[if_neg (by simp;omega)]
    have oH:=Lib.hid oH
    generalize l9 d.kind=L at*
    generalize jU d.kind=M at*
    generalize vO d.kind=ty at*
    generalize tK d.kind=ac at*
    generalize jN d.kind=N at*
    obtain⟨r0,r1,r2,r3,r4⟩:=hR
    clear kW hidx hrv hjr HM k2 s2
    by_cases b1:d.ins.length<L
    ·have F:=Lib.hid (show bD at_ d=false by rw[oH.out,if_pos (.inl b1)])
     clear oH
     go_wp2_with fail
     go_ret
     exact⟨aU (by rw[F.out]),K3.out⟩
    ·by_cases b2:M<d.ins.length
     ·have F:=Lib.hid (show bD at_ d=false by rw[oH.out,if_pos (.inr (.inl b2))])
      clear oH
      go_wp2_with fail
      go_ret
      exact⟨aU (by rw[F.out]),K3.out⟩
     ·have ct:=IB _ d.ins W3 (H.out.2.1.pure K3.out)
      have cf:=wC _ d.ins (at_:Int) (w.heap.size+1) W3 (H.out.2.1.pure K3.out) e0
      have hg:iI d.ins at_=(decide d.ins.Nodup&&!(d.ins.any (uI (at_:Int)))):=by
       unfold iI
       rw[List.not_any_eq_all_not]
       congr 2
       funext k
       unfold uI
       simp
      have HG:=Lib.hid hg
      clear hg
      generalize decide d.ins.Nodup=bn at*
      generalize d.ins.any (uI (at_:Int))=bo at*
      cases bn with
      |false=>
       have F:=Lib.hid (show bD at_ d=false by rw[oH.out,if_pos (.inr (.inr (by rw[HG.out];rfl)))])
       clear oH
       go_wp2_with (go_at_call 100;refine ct.mono ?_;rintro e w' ⟨rfl,rfl⟩)
       go_ret
       exact⟨aU (by rw[F.out]),K3.out⟩
      |true=>
       cases bo with
       |true=>
        have F:=Lib.hid (show bD at_ d=false by rw[oH.out,if_pos (.inr (.inr (by rw[HG.out];rfl)))])
        clear oH
        go_wp2_with (first|(go_at_call 100;refine ct.mono ?_;rintro e w' ⟨rfl,rfl⟩)|(go_at_call 101;refine cf.mono ?_;rintro e w' ⟨rfl,rfl⟩))
        go_ret
        exact⟨aU (by rw[F.out]),K3.out⟩
       |false=>
        have vW:=Lib.hid (show bD at_ d=(if d.n<min N 1\/N<d.n then false else if ty=0 then jO d.x else lJ d.x ac ty) by
         rw[oH.out,if_neg (by rw[HG.out];simp;omega)])
        clear oH HG
        by_cases b3:d.n<min N 1
        ·have F:=Lib.hid (show bD at_ d=false by rw[vW.out,if_pos (.inl b3)])
         clear vW
         go_wp2_with (first|(go_at_call 100;refine ct.mono ?_;rintro e w' ⟨rfl,rfl⟩)|(go_at_call 101;refine cf.mono ?_;rintro e w' ⟨rfl,rfl⟩))
         go_ret
         exact⟨aU (by rw[F.out]),K3.out⟩
        ·by_cases b4:N<d.n
         ·have F:=Lib.hid (show bD at_ d=false by rw[vW.out,if_pos (.inr b4)])
          clear vW
          go_wp2_with (first|(go_at_call 100;refine ct.mono ?_;rintro e w' ⟨rfl,rfl⟩)|(go_at_call 101;refine cf.mono ?_;rintro e w' ⟨rfl,rfl⟩))
          go_ret
          exact⟨aU (by rw[F.out]),K3.out⟩
         ·by_cases b5:ty=0
          ·subst b5
           have F:=Lib.hid (show bD at_ d=jO d.x by rw[vW.out,if_neg (by omega),if_pos rfl])
           have cs:=MV d.x _ W3 (bg.pure K3.out H.out.1)
           clear vW
           go_wp2_with (first|(go_at_call 100;refine ct.mono ?_;rintro e w' ⟨rfl,rfl⟩)|(go_at_call 101;refine cf.mono ?_;rintro e w' ⟨rfl,rfl⟩))
           (with_reducible refine cs.mono ?_)
           rintro e W4 ⟨rfl,k4⟩
           have K4:=Lib.hid (K3.out.trans k4)
           clear k4
           go_wp2_with fail
           go_ret
           exact⟨aU (by rw[F.out]),K4.out⟩
          ·have F:=Lib.hid (show bD at_ d=lJ d.x ac ty by rw[vW.out,if_neg (by omega),if_neg b5])
           have ci:=ZC d.x ac ty _ W3 (bg.pure K3.out H.out.1)
           have hb:(ty==0)=false:=by simp[b5]
           clear vW
           go_wp2_with (first|(go_at_call 100;refine ct.mono ?_;rintro e w' ⟨rfl,rfl⟩)|(go_at_call 101;refine cf.mono ?_;rintro e w' ⟨rfl,rfl⟩))
           (with_reducible refine ci.mono ?_)
           rintro e W4 ⟨rfl,k4⟩
           have K4:=Lib.hid (K3.out.trans k4)
           clear k4
           go_wp2_with fail
           go_ret
           exact⟨aU (by rw[F.out]),K4.out⟩
   ·intro K hK
    go_wp2_with fail
    refine hK _ _ ((Kept.refl _ _).drew.alloc _) ?_
    clear hK
    refine yT (k:=0) (by kernel_rfl) (by kernel_rfl) rfl rfl ?_
    intro K hK
    go_wp2_with fail
    refine(hjr _).mono ?_
    rintro e W2 ⟨rfl,k2,s2⟩
    go_wp2_with fail
    refine hK _ _ (((Kept.refl _ _).drew.alloc _).trans k2) ?_
    clear hK
    refine wF (k:=3) (by kernel_rfl) rfl rfl (fun W hW=>by go_simp;rfl) ?_
    go_frame
    have hB:W2.heap[W1.heap.size]?=some (.cells #[.int .i64 0, .int .i64 0, .int .u8 0, .bool false, .int .i64 0] 161 (0,0)):=k2.heap (heap_alloc_new W1.drew (.cells #[.int .i64 0, .int .i64 0, .int .u8 0, .bool false, .int .i64 0] 161)) (fun h=>h)
    have z0:W2.cell? ⟨W1.heap.size,0,none⟩=some (.int .i64 0):=cells_at hB rfl
    have z1:W2.cell? ⟨W1.heap.size,1,none⟩=some (.int .i64 0):=cells_at hB rfl
    have z2:W2.cell? ⟨W1.heap.size,2,none⟩=some (.int .u8 0):=cells_at hB rfl
    have z3:W2.cell? ⟨W1.heap.size,3,none⟩=some (.bool false):=cells_at hB rfl
    have z4:W2.cell? ⟨W1.heap.size,4,none⟩=some (.int .i64 0):=cells_at hB rfl
    have f0:=free_at hB 0
    have f1:=free_at hB 1
    have f2:=free_at hB 2
    have f3:=free_at hB 3
    have f4:=free_at hB 4
    have kW:=ahm (a:= .int .i64 (l9 d.kind:Int)) (b:= .int .i64 (jU d.kind:Int)) (c:= .int .u8 (vO d.kind)) (d:= .bool (tK d.kind)) (e:= .int .i64 (jN d.kind)) (((Kept.refl none' W1).drew.alloc (.cells #[.int .i64 0, .int .i64 0, .int .u8 0, .bool false, .int .i64 0] 161)).trans k2) (Nat.le_refl _)
    have hR:=zo.of (aib (a':= .int .i64 (l9 d.kind:Int)) (b':= .int .i64 (jU d.kind:Int)) (c':= .int .u8 (vO d.kind)) (d':= .bool (tK d.kind)) (e':= .int .i64 (jN d.kind)) hB)
    have KW:=Lib.hid kW
    have HR:=Lib.hid hR
    clear kW hR hB
    refine yT (k:=5) (by kernel_rfl) (by kernel_rfl) rfl rfl ?_
    intro K hK
    go_wp2_with fail
    refine hK _ _ KW.out ?_
    clear hK
    refine Ph (by kernel_rfl) KW.out ?_
    have kW:=KW.out
    have hR:=HR.out
    clear KW HR z0 z1 z2 z3 z4 f0 f1 f2 f3 f4
    generalize(((((W2.setCell ⟨W1.heap.size,0,none⟩ (.int .i64 (l9 d.kind:Int))).setCell ⟨W1.heap.size,1,none⟩ (.int .i64 (jU d.kind:Int))).setCell ⟨W1.heap.size,2,none⟩ (.int .u8 (vO d.kind))).setCell ⟨W1.heap.size,3,none⟩ (.bool (tK d.kind))).setCell ⟨W1.heap.size,4,none⟩ (.int .i64 (jN d.kind)))=W3 at*
    have K3:=Lib.hid (K1.out.trans kW)
    have c0:=kW.cell (p:=⟨w.heap.size,0,none⟩) (fun h=>h) c0
    have c1:=kW.cell (p:=⟨w.heap.size,1,none⟩) (fun h=>h) c1
    have c2:=kW.cell (p:=⟨w.heap.size,2,none⟩) (fun h=>h) c2
    have c3:=kW.cell (p:=⟨w.heap.size,3,none⟩) (fun h=>h) c3
    have c4:=kW.cell (p:=⟨w.heap.size,4,none⟩) (fun h=>h) c4
    have c5:=kW.cell (p:=⟨w.heap.size,5,none⟩) (fun h=>h) c5
    have c6:=kW.cell (p:=⟨w.heap.size,6,none⟩) (fun h=>h) c6
    have e0:=kW.cell (p:=⟨w.heap.size+1,0,none⟩) (fun h=>h) e0
    have oH:bD at_ d=(if d.ins.length<l9 d.kind\/jU d.kind<d.ins.length\/iI d.ins at_=false then false else if d.n<min (jN d.kind) 1\/jN d.kind<d.n then false else if vO d.kind=0 then jO d.x else lJ d.x (tK d.kind) (vO d.kind)):=by
     rw[HM.out];unfold BN;rw[if_neg (by simp;omega)]
    have oH:=Lib.hid oH
    generalize l9 d.kind=L at*
    generalize jU d.kind=M at*
    generalize vO d.kind=ty at*
    generalize tK d.kind=ac at*
    generalize jN d.kind=N at*
    obtain⟨r0,r1,r2,r3,r4⟩:=hR
    clear kW hidx hrv hjr HM k2 s2
    by_cases b1:d.ins.length<L
    ·have F:=Lib.hid (show bD at_ d=false by rw[oH.out,if_pos (.inl b1)])
     clear oH
     go_wp2_with fail
     go_ret
     exact⟨aU (by rw[F.out]),K3.out⟩
    ·by_cases b2:M<d.ins.length
     ·have F:=Lib.hid (show bD at_ d=false by rw[oH.out,if_pos (.inr (.inl b2))])
      clear oH
      go_wp2_with fail
      go_ret
      exact⟨aU (by rw[F.out]),K3.out⟩
     ·have ct:=IB _ d.ins W3 (H.out.2.1.pure K3.out)
      have cf:=wC _ d.ins (at_:Int) (w.heap.size+1) W3 (H.out.2.1.pure K3.out) e0
      have hg:iI d.ins at_=(decide d.ins.Nodup&&!(d.ins.any (uI (at_:Int)))):=by
       unfold iI
       rw[List.not_any_eq_all_not]
       congr 2
       funext k
       unfold uI
       simp
      have HG:=Lib.hid hg
      clear hg
      generalize decide d.ins.Nodup=bn at*
      generalize d.ins.any (uI (at_:Int))=bo at*
      cases bn with
      |false=>
       have F:=Lib.hid (show bD at_ d=false by rw[oH.out,if_pos (.inr (.inr (by rw[HG.out];rfl)))])
       clear oH
       go_wp2_with (go_at_call 100;refine ct.mono ?_;rintro e w' ⟨rfl,rfl⟩)
       go_ret
       exact⟨aU (by rw[F.out]),K3.out⟩
      |true=>
       cases bo with
       |true=>
        have F:=Lib.hid (show bD at_ d=false by rw[oH.out,if_pos (.inr (.inr (by rw[HG.out];rfl)))])
        clear oH
        go_wp2_with (first|(go_at_call 100;refine ct.mono ?_;rintro e w' ⟨rfl,rfl⟩)|(go_at_call 101;refine cf.mono ?_;rintro e w' ⟨rfl,rfl⟩))
        go_ret
        exact⟨aU (by rw[F.out]),K3.out⟩
       |false=>
        have vW:=Lib.hid (show bD at_ d=(if d.n<min N 1\/N<d.n then false else if ty=0 then jO d.x else lJ d.x ac ty) by
         rw[oH.out,if_neg (by rw[HG.out];simp;omega)])
        clear oH HG
        by_cases b3:d.n<min N 1
        ·have F:=Lib.hid (show bD at_ d=false by rw[vW.out,if_pos (.inl b3)])
         clear vW
         go_wp2_with (first|(go_at_call 100;refine ct.mono ?_;rintro e w' ⟨rfl,rfl⟩)|(go_at_call 101;refine cf.mono ?_;rintro e w' ⟨rfl,rfl⟩))
         go_ret
         exact⟨aU (by rw[F.out]),K3.out⟩
        ·by_cases b4:N<d.n
         ·have F:=Lib.hid (show bD at_ d=false by rw[vW.out,if_pos (.inr b4)])
          clear vW
          go_wp2_with (first|(go_at_call 100;refine ct.mono ?_;rintro e w' ⟨rfl,rfl⟩)|(go_at_call 101;refine cf.mono ?_;rintro e w' ⟨rfl,rfl⟩))
          go_ret
          exact⟨aU (by rw[F.out]),K3.out⟩
         ·by_cases b5:ty=0
          ·subst b5
           have F:=Lib.hid (show bD at_ d=jO d.x by rw[vW.out,if_neg (by omega),if_pos rfl])
           have cs:=MV d.x _ W3 (bg.pure K3.out H.out.1)
           clear vW
           go_wp2_with (first|(go_at_call 100;refine ct.mono ?_;rintro e w' ⟨rfl,rfl⟩)|(go_at_call 101;refine cf.mono ?_;rintro e w' ⟨rfl,rfl⟩))
           (with_reducible refine cs.mono ?_)
           rintro e W4 ⟨rfl,k4⟩
           have K4:=Lib.hid (K3.out.trans k4)
           clear k4
           go_wp2_with fail
           go_ret
           exact⟨aU (by rw[F.out]),K4.out⟩
          ·have F:=Lib.hid (show bD at_ d=lJ d.x ac ty by rw[vW.out,if_neg (by omega),if_neg b5])
           have ci:=ZC d.x ac ty _ W3 (bg.pure K3.out H.out.1)
           have hb:(ty==0)=false:=by simp[b5]
           clear vW
           go_wp2_with (first|(go_at_call 100;refine ct.mono ?_;rintro e w' ⟨rfl,rfl⟩)|(go_at_call 101;refine cf.mono ?_;rintro e w' ⟨rfl,rfl⟩))
           (with_reducible refine ci.mono ?_)
           rintro e W4 ⟨rfl,k4⟩
           have K4:=Lib.hid (K3.out.trans k4)
           clear k4
           go_wp2_with fail
           go_ret
           exact⟨aU (by rw[F.out]),K4.out⟩
end
section
open Go Go.RowKit
def fE (n:Int):Nat:=if 0<=n then(2*n).toNat else(-2*n-1).toNat
theorem Bd {n:Int}(h:aO n):fE n<18446744073709551616:=by
 unfold fE;unfold aO at h;split<;>omega
def gG (u:Nat):List UInt8:=if u<128 then[UInt8.ofNat u]else UInt8.ofNat (u%128+128)::gG (u/128)
termination_by u
decreasing_by omega
theorem nZ {u:Nat}(h:u<128):gG u=[UInt8.ofNat u]:=by rw[gG,if_pos h]
theorem uX {u:Nat}(h: ¬u<128):gG u=UInt8.ofNat (u%128+128)::gG (u/128):=by rw[gG,if_neg h]
def ay (l:List Int):List UInt8:=l.flatMap fun n=>gG (fE n)
theorem Ic: ∀(j u:Nat),u<128^(j+1)->(gG u).length<=j+1
 |0,u,h=>by rw[nZ (by simpa using h)];simp
 |j+1,u,h=>by
  by_cases hu:u<128
  ·rw[nZ hu];simp
  ·rw[uX hu,List.length_cons]
   have:=Ic j (u/128) (by rw[Nat.pow_succ]at h;exact Nat.div_lt_of_lt_mul (by rw[Nat.mul_comm];exact h))
   omega
theorem CO {n:Int}(h:aO n):(gG (fE n)).length<=10:=Ic 9 _ (Nat.lt_of_lt_of_le (Bd h) (by decide))
theorem iD {l:List Int}(h: ∀n∈l,aO n):(ay l).length<=10*l.length:=by
 unfold ay
 induction l with
 |nil=>simp
 |cons x l ih=>
  have h1:=CO (h x (by simp))
  have h2:=ih (fun n hn=>h n (by simp[hn]))
  simp only[List.flatMap_cons,List.length_append,List.length_cons];omega
theorem Nw {l:List Int}{k:Nat}{x:Int}(h:l[k]?=some x):ay (l.take (k+1))=ay (l.take k)++gG (fE x):=by
 unfold ay;rw[List.take_add_one,h,List.flatMap_append];simp
def strOf (l:List UInt8):ByteArray:=⟨l.toArray⟩
theorem pI (l m:List UInt8):strOf l++strOf m=strOf (l++m):=by
 simp[strOf,ByteArray.ext_iff]
theorem wI (l:List UInt8):(strOf l).size=l.length:=rfl
def aa1 (p:Int×Cell):List Int:=p.1::p.2.1::(p.2.2.length:Int)::p.2.2
def jI (u:Nat):Int:=if u%2=0 then((u/2:Nat):Int)else-((u/2:Nat):Int)-1
def iw (i u:Nat):List UInt8->Int×Nat×Int
 |[]=>(0,0,20)
 |c::r=>
  if i=9/\1<c.toNat then(0,0,21)
  else if 128<=c.toNat then iw (i+1) (u+c.toNat%128*128^i) r
  else if c.toNat=0/\0<i then(0,0,21)
  else(jI (u+c.toNat%128*128^i),i+1,0)
def tk (l:List UInt8):Int×Nat×Int:=iw 0 0 l
theorem Ls:128^9=9223372036854775808:=by decide
inductive Rd (α:Type) where
 |ok (a:α) (r:List UInt8)
 |err (e:Int)
def Rd.bind {α β:Type}(x:Rd α)(f:α->List UInt8->Rd β):Rd β:=match x with| .ok a r=>f a r| .err e=> .err e
def num (lo hi:Int)(l:List UInt8):Rd Int:=
 if(tk l).2.2≠0 then .err (tk l).2.2 else if(tk l).1<lo\/hi<(tk l).1 then .err 21 else .ok (tk l).1 (l.drop (tk l).2.1)
def Xb:Int:= -9223372036854775808
def hi64:Int:=9223372036854775807
def nums:Nat->List UInt8->Rd (List Int)
 |0,l=> .ok [] l
 |k+1,l=>(num Xb hi64 l).bind fun n r=>(nums k r).bind fun ns r=> .ok (n::ns) r
def row (l:List UInt8):Rd (Int×Cell):=
 (num Xb hi64 l).bind fun key r=>(num Xb hi64 r).bind fun acc r=>(num 0 16 r).bind fun n r=>(nums n.toNat r).bind fun ns r=> .ok (key,(acc,ns)) r
theorem Ul {n:Int}:jI (fE n)=n:=by
 unfold jI fE
 split<;>split<;>omega
theorem Tv {u:Nat}:fE (jI u)=u:=by
 unfold jI fE
 split<;>split<;>omega
theorem aaw {u:Nat}(h:u<18446744073709551616):aO (jI u):=by
 unfold jI aO
 split<;>omega
theorem byte_toNat {q:Nat}(h:q<256):(UInt8.ofNat q).toNat=q:=UInt8.toNat_ofNat_of_lt' (by simpa using h)
theorem Tz: ∀(v i u:Nat)(r:List UInt8),i<=9->v*128^i<18446744073709551616->(0<i->0<v)->
 iw i u (gG v++r)=(jI (u+v*128^i),i+(gG v).length,0):=by
 intro v
 induction v using Nat.strongRecOn with
 |ind v ih=>
  intro i u r hi hv h0
  by_cases hs:v<128
  ·rw[nZ hs]
   simp only[List.cons_append,List.nil_append,iw,List.length_singleton]
   rw[byte_toNat (by omega),if_neg,if_neg (by omega),if_neg (by omega),Nat.mod_eq_of_lt hs]
   rintro⟨rfl,h1⟩
   rw[Ls]at hv
   omega
  ·have hi9:i≠9:=by
    rintro rfl
    rw[Ls]at hv
    omega
   rw[uX hs]
   simp only[List.cons_append,iw,List.length_cons]
   rw[byte_toNat (by omega),if_neg (fun h=>hi9 h.1),if_pos (by omega)]
   have e1:(v%128+128)%128=v%128:=by omega
   have e2:v/128*128^(i+1)+v%128*128^i=v*128^i:=by
    rw[Nat.pow_succ,Nat.mul_comm (128^i) 128,<-Nat.mul_assoc,<-Nat.add_mul]
    congr 1;omega
   rw[ih (v/128) (by omega) (i+1) _ r (by omega) (by omega) (by omega),e1]
   have e3:u+v%128*128^i+v/128*128^(i+1)=u+v*128^i:=by omega
   rw[e3]
   have e4:i+1+(gG (v/128)).length=i+((gG (v/128)).length+1):=by omega
   rw[e4]
theorem Uu {n:Int}(h:aO n)(r:List UInt8):tk (gG (fE n)++r)=(n,(gG (fE n)).length,0):=by
 unfold tk
 rw[Tz _ 0 0 r (by omega) (by have:=Bd h;simpa using this) (by omega)]
 simp[Ul]
theorem MO: ∀(l:List UInt8)(i u:Nat)(n:Int)(z:Nat),i<=9->u<128^i->iw i u l=(n,z,0)->
 ∃v,i<z/\z-i<=l.length/\l.take (z-i)=gG v/\n=jI (u+v*128^i)/\u+v*128^i<18446744073709551616/\(0<i->0<v)
 |[],i,u,n,z,_,_,h=>by simp[iw]at h
 |c::r,i,u,n,z,hi,hu,h=>by
  have hc:=c.toNat_lt
  unfold iw at h
  split at h
  ·simp at h
  ·rename_i h9
   split at h
   ·rename_i hbig
    have hi9:i≠9:=by rintro rfl;exact h9 ⟨rfl,by omega⟩
    have hu':u+c.toNat%128*128^i<128^(i+1):=by
     have h1:c.toNat%128<=127:=by omega
     have h2:c.toNat%128*128^i<=127*128^i:=Nat.mul_le_mul_right _ h1
     rw[Nat.pow_succ];omega
    obtain⟨v,h1,h2,h3,h4,h5,h6⟩:=MO r (i+1) _ n z (by omega) hu' h
    have h6':=h6 (by omega)
    have hd: ¬(c.toNat%128+128*v)<128:=by omega
    have e2:(c.toNat%128+128*v)*128^i=c.toNat%128*128^i+v*128^(i+1):=by
     rw[Nat.pow_succ,Nat.add_mul,Nat.mul_comm 128 v,Nat.mul_assoc,Nat.mul_comm 128 (128^i)]
    refine⟨c.toNat%128+128*v,by omega,by rw[List.length_cons];omega,?_,by rw[h4,e2];congr 1;omega,by rw[e2];omega,fun _=>by omega⟩
    rw[uX hd]
    have e1:z-i=(z-(i+1))+1:=by omega
    rw[e1,List.take_succ_cons,h3,show(c.toNat%128+128*v)/128=v by omega,show(c.toNat%128+128*v)%128+128=c.toNat by omega,UInt8.ofNat_toNat]
   ·rename_i hsm
    split at h
    ·simp at h
    ·rename_i h0
     injection h with h1 h2
     injection h2 with h2 h3
     subst h1 h2
     have e1:i+1-i=1:=by omega
     refine⟨c.toNat,by omega,by rw[e1,List.length_cons];omega,?_,by rw[Nat.mod_eq_of_lt (by omega)],?_,fun h=>by omega⟩
     ·rw[e1,List.take_succ_cons,List.take_zero,nZ (by omega),UInt8.ofNat_toNat]
     ·have hp:i=9\/i<=8:=by omega
      rcases hp with rfl|hp
      ·have:c.toNat<=1:=by have:=fun h=>h9 ⟨rfl,h⟩;omega
       rw[Ls]at*
       have:c.toNat*9223372036854775808<=1*9223372036854775808:=Nat.mul_le_mul_right _ this
       omega
      ·have h1:128^i<=128^8:=Nat.pow_le_pow_right (by omega) hp
       have h2:c.toNat*128^i<=127*128^i:=Nat.mul_le_mul_right _ (by omega)
       have h3:(128:Nat)^8=72057594037927936:=by decide
       omega
theorem acC {l:List UInt8}{n:Int}{z:Nat}(h:tk l=(n,z,0)):0<z/\z<=l.length/\l.take z=gG (fE n)/\aO n:=by
 obtain⟨v,h1,h2,h3,h4,h5,_⟩:=MO l 0 0 n z (by omega) (by simp) h
 simp only[Nat.pow_zero,Nat.mul_one,Nat.zero_add,Nat.sub_zero]at*
 refine⟨h1,h2,?_,?_⟩
 ·rw[h3,h4,Tv]
 ·rw[h4];exact aaw h5
theorem sO: ∀(l:List UInt8)(i u:Nat),(iw i u l).2.2≠0->iw i u l=(0,0,(iw i u l).2.2)
 |[],i,u,_=>rfl
 |c::r,i,u,h=>by
  unfold iw at h⊢
  split
  ·rfl
  ·split
   ·rw[if_neg (by assumption),if_pos (by assumption)]at h
    exact sO r _ _ h
   ·split
    ·rfl
    ·rw[if_neg (by assumption),if_neg (by assumption),if_neg (by assumption)]at h
     exact absurd rfl h
theorem E8 {n lo hi:Int}(h:aO n)(h1:lo<=n)(h2:n<=hi)(r:List UInt8):num lo hi (gG (fE n)++r)= .ok n r:=by
 unfold num
 rw[Uu h r]
 simp only[ne_eq,not_true,if_false]
 rw[if_neg (by omega)]
 simp
theorem aO.in {n:Int}(h:aO n):Xb<=n/\n<=hi64:=h
theorem Qy: ∀(ns:List Int)(r:List UInt8),(∀n∈ns,aO n)->nums ns.length (ay ns++r)= .ok ns r
 |[],r,_=>rfl
 |n::ns,r,h=>by
  have e:ay (n::ns)++r=gG (fE n)++(ay ns++r):=by unfold ay;rw[List.flatMap_cons,List.append_assoc]
  have h1:=h n (by simp)
  rw[e,List.length_cons,nums,E8 h1 h1.in.1 h1.in.2]
  simp only[Rd.bind]
  rw[Qy ns r (fun m hm=>h m (by simp[hm]))]
theorem aO.small {n:Int}(h1: -1000<=n)(h2:n<=1000):aO n:=⟨by omega,by omega⟩
theorem UJ {p:Int×Cell}(h:aO p.1)(hc:COk p.2)(r:List UInt8):row (ay (aa1 p)++r)= .ok p r:=by
 have hl:aO (p.2.2.length:Int):=by have:=hc.2.2;exact .small (by omega) (by omega)
 have e:ay (aa1 p)++r=gG (fE p.1)++(gG (fE p.2.1)++(gG (fE (p.2.2.length:Int))++(ay p.2.2++r))):=by
  unfold aa1 ay;simp only[List.flatMap_cons,List.append_assoc]
 rw[e,row,E8 h h.in.1 h.in.2]
 simp only[Rd.bind]
 rw[E8 hc.1 hc.1.in.1 hc.1.in.2]
 simp only
 rw[E8 hl (by omega) (by have:=hc.2.2;omega)]
 simp only[Int.toNat_natCast]
 rw[Qy p.2.2 r hc.2.1]
theorem ED.nil:ED []:=⟨by simp[qJ],by simp,by simp,fun g=>by simp[jR]⟩
def nodeAt (nodes:List JN)(i:Int):JN:=nodes.getD i.toNat default
theorem ado {n:Int}(h:aO n):wrap64 n=n:=by unfold aO at h;unfold wrap64;omega
theorem flat_get {r:Rec}{k:Nat}:ahv r k=(List.range k).map fun(i:Nat)=>(⟨wrap64 (wrap64 (8*r.pos)+(i:Int)),r.key,wrap64 (r.val+(i:Int))⟩:Rec):=rfl
theorem PO {α:Type}{p:List α->Prop}(h0:p [])(h1: ∀l a,p l->p (l++[a]))(l:List α):p l:=by
 rw[<-List.reverse_reverse l]
 induction l.reverse with
 |nil=>exact h0
 |cons a l ih=>rw[List.reverse_cons];exact h1 _ _ ih
theorem wG (l:List JN)(d:JN):cO (l++[d])=cO l++[Ba (cO l) d]:=by
 unfold cO;rw[List.foldl_append];rfl
theorem Yb (l:List JN): ∀m:List JN,∃t,cO (l++m)=cO l++t:=by
 refine PO ⟨[],by simp⟩ fun m d ih=>?_
 ·obtain⟨t,ht⟩:=ih
  refine⟨t++[Ba (cO (l++m)) d],?_⟩
  rw[<-List.append_assoc,wG,ht,List.append_assoc]
theorem pF (l:List JN):(cO l).length=l.length:=by
 refine PO (p:=fun l=>(cO l).length=l.length) rfl (fun l d ih=>?_) l
 rw[wG,List.length_append,List.length_append,ih];rfl
theorem Ya (nodes:List JN)(k:Nat): ∃t,cO nodes=cO (nodes.take k)++t:=by
 have:=Yb (nodes.take k) (nodes.drop k)
 rwa[List.take_append_drop]at this
theorem aaO {nodes:List JN}{k i:Nat}(hk:k<=nodes.length)(hi:i<k):(cO (nodes.take k)).getD i 0=(cO nodes).getD i 0:=by
 obtain⟨t,ht⟩:=Ya nodes k
 rw[ht,List.getD_eq_getElem?_getD,List.getD_eq_getElem?_getD,List.getElem?_append_left (by rw[pF,List.length_take];omega)]
theorem Pm {nodes:List JN}{k:Nat}{d:JN}(hd:nodes[k]?=some d):(cO nodes).getD k 0=Ba (cO (nodes.take k)) d:=by
 have hk:=(List.getElem?_eq_some_iff.1 hd).1
 have e:=aaO (nodes:=nodes) (k:=k+1) (i:=k) (by omega) (by omega)
 rw[<-e,List.take_add_one,hd]
 show(cO (nodes.take k++[d])).getD k 0=_
 rw[wG,List.getD_eq_getElem?_getD,List.getElem?_append_right (by rw[pF,List.length_take];omega),pF,List.length_take]
 rw[show k-min k nodes.length=0 by omega]
 rfl
def kY (nodes:List JN)(i:Nat):Int:=if bD i (nodes.getD i default)=false then 120 else if jK nodes i (nodes.getD i default)=true then 121 else 0
def dB (j:Jb):Int×Int:=
 if iH j=true then(0,2)else
 match(List.range j.nodes.length).find? (fun i=>kY j.nodes i !=0)with
 |some i=>((i:Int),kY j.nodes i)
 |none=>match(List.range j.nodes.length).find? (fun i=>aX j.nodes i (j.nodes.getD i default))with
  |some i=>((i:Int),122)
  |none=>(0,0)
theorem D5 {j:Jb}(h:iH j=true):dB j=(0,2):=by unfold dB;rw[if_pos h]
theorem BO {j:Jb}(h0:iH j=false){k:Nat}(hk:k<j.nodes.length)(hp: ∀m,m<k->kY j.nodes m=0){e:Int}(he:kY j.nodes k=e)(hne:e≠0):dB j=((k:Int),e):=by
 have hf:(List.range j.nodes.length).find? (fun i=>kY j.nodes i !=0)=some k:=by
  rw[List.find?_range_eq_some]
  refine⟨by rw[he];simp[hne],by simp[hk],fun m hm=>by rw[hp m hm];rfl⟩
 unfold dB
 rw[if_neg (by rw[h0];simp),hf]
 show((k:Int),kY j.nodes k)=_
 rw[he]
theorem xg {j:Jb}(hp: ∀m,m<j.nodes.length->kY j.nodes m=0):(List.range j.nodes.length).find? (fun i=>kY j.nodes i !=0)=none:=by
 rw[List.find?_range_eq_none]
 intro m hm;rw[hp m hm];rfl
theorem qC {j:Jb}(h0:iH j=false)(h1: ∀m,m<j.nodes.length->kY j.nodes m=0){k:Nat}{d:JN}(hd:j.nodes[k]?=some d)(hp: ∀m e,m<k->j.nodes[m]?=some e->aX j.nodes m e=false)(hs:aX j.nodes k d=true):dB j=((k:Int),122):=by
 have hk:k<j.nodes.length:=(List.getElem?_eq_some_iff.1 hd).1
 have hf:(List.range j.nodes.length).find? (fun i=>aX j.nodes i (j.nodes.getD i default))=some k:=by
  rw[List.find?_range_eq_some]
  refine⟨by rw[List.getD_eq_getElem?_getD,hd];exact hs,by simp[hk],fun m hm=>?_⟩
  have hm':m<j.nodes.length:=by omega
  rw[List.getD_eq_getElem?_getD,List.getElem?_eq_getElem hm']
  show(!aX j.nodes m j.nodes[m])=true
  rw[hp m _ hm (List.getElem?_eq_getElem hm')];rfl
 unfold dB
 rw[if_neg (by rw[h0];simp),xg h1,hf]
theorem LJ {j:Jb}(h0:iH j=false)(h1: ∀m,m<j.nodes.length->kY j.nodes m=0)(hp: ∀m e,m<j.nodes.length->j.nodes[m]?=some e->aX j.nodes m e=false):dB j=(0,0):=by
 have hf:(List.range j.nodes.length).find? (fun i=>aX j.nodes i (j.nodes.getD i default))=none:=by
  rw[List.find?_range_eq_none]
  intro m hm
  rw[List.getD_eq_getElem?_getD,List.getElem?_eq_getElem hm]
  show(!aX j.nodes m j.nodes[m])=true
  rw[hp m _ hm (List.getElem?_eq_getElem hm)];rfl
 unfold dB
 rw[if_neg (by rw[h0];simp),xg h1,hf]
theorem sF {nodes:List JN}{k:Nat}{d:JN}(hd:nodes[k]?=some d):kY nodes k=0↔bD k d=true/\jK nodes k d=false:=by
 unfold kY
 rw[List.getD_eq_getElem?_getD,hd]
 show(if bD k d=false then(120:Int)else if jK nodes k d=true then 121 else 0)=0↔_
 cases bD k d<;>cases jK nodes k d<;>simp
theorem SL {nodes:List JN}{k:Nat}{d:JN}(hd:nodes[k]?=some d)(h:bD k d=false):kY nodes k=120:=by
 unfold kY
 rw[List.getD_eq_getElem?_getD,hd]
 show(if bD k d=false then(120:Int)else if jK nodes k d=true then 121 else 0)=_
 rw[if_pos h]
theorem SK {nodes:List JN}{k:Nat}{d:JN}(hd:nodes[k]?=some d)(h:bD k d=true)(h2:jK nodes k d=true):kY nodes k=121:=by
 unfold kY
 rw[List.getD_eq_getElem?_getD,hd]
 show(if bD k d=false then(120:Int)else if jK nodes k d=true then 121 else 0)=_
 rw[if_neg (by rw[h];simp),if_pos h2]
theorem Xm (j:Jb):wY j=decide ((dB j).2=0):=by
 have:= @xg j
 cases h0:iH j with
 |true=>
  rw[D5 h0]
  unfold wY;rw[h0];rfl
 |false=>
  cases h:wY j with
  |true=>
   obtain⟨_,h2⟩:=NT h
   rw[LJ h0 (fun m hm=>(sF (List.getElem?_eq_getElem hm)).2 ⟨(h2 m _ (List.getElem?_eq_getElem hm)).1,(h2 m _ (List.getElem?_eq_getElem hm)).2.1⟩) (fun m e _ he=>(h2 m e he).2.2)]
   rfl
  |false=>
   refine(decide_eq_false fun hz=>?_).symm
   have:wY j=true:=by
    have h1: ∀m,m<j.nodes.length->kY j.nodes m=0:=by
     intro m hm
     cases hf:(List.range j.nodes.length).find? (fun i=>kY j.nodes i !=0)with
     |none=>
      rw[List.find?_range_eq_none]at hf
      simpa using hf m hm
     |some i=>
      unfold dB at hz
      rw[if_neg (by rw[h0];simp),hf]at hz
      have:=List.find?_some hf
      rw[show kY j.nodes i=0 from hz]at this
      cases this
    refine abH h0 fun i d hd=>?_
    have hi:i<j.nodes.length:=(List.getElem?_eq_some_iff.1 hd).1
    have h3:=(sF hd).1 (h1 i hi)
    refine⟨h3.1,h3.2,?_⟩
    cases hf:(List.range j.nodes.length).find? (fun i=>aX j.nodes i (j.nodes.getD i default))with
    |none=>
     rw[List.find?_range_eq_none]at hf
     have:=hf i hi
     rw[List.getD_eq_getElem?_getD,hd]at this
     simpa using this
    |some i=>
     unfold dB at hz
     rw[if_neg (by rw[h0];simp),xg h1,hf]at hz
     cases hz
   rw[h]at this;cases this
theorem QC {k:Nat}{d:JN}(h1:bD k d=true):d.ins.length<=3/\ ∀x∈d.ins,0<=x/\x<(k:Int):=by
 unfold bD BN at h1
 split at h1
 ·cases h1
 split at h1
 ·cases h1
 rename_i hb
 have hgood:iI d.ins k=true:=by
  cases e:iI d.ins k with
  |true=>rfl
  |false=>exact absurd (.inr (.inr e)) hb
 have b2:d.ins.length<=jU d.kind:=Nat.le_of_not_lt fun h=>hb (.inr (.inl h))
 unfold iI at hgood
 rw[Bool.and_eq_true,List.all_eq_true,decide_eq_true_eq]at hgood
 refine⟨?_,fun x hx=>by simpa using hgood.2 x hx⟩
 have:jU d.kind<=3:=by unfold jU;split;omega;split<;>omega
 omega
def iW (W ins:List Int)(m:Nat):Int:=((ins.take m).map fun k=>W.getD k.toNat 0).sum
theorem Dx {W ins:List Int}{m:Nat}{x:Int}(h:ins[m]?=some x):iW W ins (m+1)=iW W ins m+W.getD x.toNat 0:=by
 unfold iW
 rw[List.take_add_one,h]
 simp
theorem JR {W:List Int}(h: ∀x∈W,0<=x/\x<=64)(i:Nat):0<=W.getD i 0/\W.getD i 0<=64:=by
 rw[List.getD_eq_getElem?_getD]
 cases e:W[i]? with
 |none=>simp
 |some x=>exact h x (List.mem_of_getElem? e)
theorem wH {W ins:List Int}(h: ∀x∈W,0<=x/\x<=64): ∀m,0<=iW W ins m/\iW W ins m<=64*(m:Int)
 |0=>by simp[iW]
 |m+1=>by
  have ih:=wH (ins:=ins) h m
  cases e:ins[m]? with
  |none=>
   have:iW W ins (m+1)=iW W ins m:=by unfold iW;rw[List.take_add_one,e];simp
   rw[this];omega
  |some x=>
   have:=JR h x.toNat
   rw[Dx e];omega
theorem ML (W:List Int)(d:JN):Ba W d=if d.kind=1 then 1 else iW W d.ins d.ins.length*(if d.kind=4 then 4 else 1):=by
 unfold Ba iW;rw[List.take_length]
theorem row_ne {w:World}{base n B T E:Nat}{v:Value}{xs:List Value}{cs:Array Value}{f:Nat×Nat}(h:w.ownsRow base E 1 v n xs)(hB:w.heap[B]?=some (.cells cs T f))(hTE:T≠E):v.ownBlock≠some B:=by
 intro e
 rcases h.2 with⟨e1,_⟩|⟨g,cap,cur,e1,_,hg,_⟩
 ·rw[e1]at e;cases e
 ·rw[e1]at e
  have:g=B:=by simpa[Value.ownBlock]using e
  subst this
  rw[hg]at hB
  injection hB with hB
  injection hB with _ h2 _
  exact hTE h2.symm
theorem pK {T E bytes:Nat}{z x:Value}{i:TypeInfo}(hT:Tryz.prog.underlying T=some (.slice E))(hi:Tryz.prog.info? E=some i)(hz:i.zero=some z)(hs:i.size=1)(hb:i.bytes=bytes)(hzc:z.cells.size=1)(hx:x.oneCell'=true)
 {wr:World} {base m:Nat} {v:Value} {xs:List Value} (hown:wr.ownsRow base E 1 v m xs) (hm:m<=100000) (hbb:bytes<=1000) (hbase:base<=wr.heap.size) (ty:TypeId):
 ∃g cap w',(Builtin.append_ #[T,T] ty #[v, .slice (some ⟨wr.heap.size,0,none⟩) 1 1]).run Tryz.prog (wr.alloc (.cells #[x] E))= .ok (.slice (some ⟨g,0,none⟩) (m+1) cap) w'/\w'.ownsRow base E 1 (.slice (some ⟨g,0,none⟩) (m+1) cap) (m+1) (xs++[x])/\Kept (fun k=>v.ownBlock=some k) wr w':=by
 have kA:Kept none' wr (wr.alloc (.cells #[x] E)):=(Kept.refl _ _).alloc _
 have hr:=Reads.lit wr [x] E 1 1 rfl (by unfold maxLen;omega)
 obtain⟨v',n',w',b1,b2,b3,b4,_⟩:=rH (P:=Tryz.prog) base T ty E i z 1 bytes hT hi hz hs hb hzc (by omega) (kA.owns hown (fun _ _ h=>h)) hr (by intro y hy;rw[List.mem_singleton.1 hy];exact hx)
  (by
    simp only[List.length_singleton,Nat.mul_one]
    calc(m+1)*bytes<=100001*1000:=Nat.mul_le_mul (by omega) hbb
     _<=140737488355328:=by decide) (by simp;unfold maxLen;omega) (by have:=kA.size;omega)
 have hn:n'=m+1:=by simpa using b3
 subst hn
 have hg: ∃g cap,v'= .slice (some ⟨g,0,none⟩) (m+1) cap:=by
  rcases b2.2 with⟨e1,_⟩|⟨g,cap,cur,e1,_⟩
  ·have:=b2.1
   have h2:=b2.2
   rcases h2 with⟨_,e2⟩|⟨g,cap,cur,e1',_⟩
   ·omega
   ·rw[e1]at e1';cases e1'
  ·exact⟨g,cap,e1⟩
 obtain⟨g,cap,rfl⟩:=hg
 exact⟨g,cap,w',b1,b2,kA.pure.trans (Kept.grown b4 (fun k hk _=>hk))⟩
end
end Go.Proofs.YtakhobfamnjnoaaGreatDoor
