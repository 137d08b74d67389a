/- job.Find: where a node of a name is. -/
import Derived.Test.YtopeleenlcnkkaaGreatDoorM22
set_option linter.unusedVariables false
set_option linter.unusedSimpArgs false
set_option maxHeartbeats 2000000
set_option maxRecDepth 100000
namespace Go.Proofs.YtopeleenlcnkkaaGreatDoor
open Go Go.RowKit
attribute [local irreducible] bU
theorem XU {nodes:List JN}{uid:ByteArray}{k:Nat}{d:JN}(hd:nodes[k]?=some d)(hu:d.uid=uid)(hp: ∀m e,m<k->nodes[m]?=some e->e.uid≠uid):aP nodes uid=(k:Int):=by
 have h:nodes.findIdx? (fun d=>decide (d.uid=uid))=some k:=by
  rw[List.findIdx?_eq_some_iff_getElem]
  obtain⟨hk,e⟩:=List.getElem?_eq_some_iff.1 hd
  refine⟨hk,by rw[e];exact decide_eq_true hu,fun j hj=>?_⟩
  have:=hp j _ hj (List.getElem?_eq_getElem (by omega))
  simpa using this
 unfold aP;rw[h]
theorem XT {nodes:List JN}{uid:ByteArray}(hp: ∀m e,m<nodes.length->nodes[m]?=some e->e.uid≠uid):aP nodes uid= -1:=by
 have h:nodes.findIdx? (fun d=>decide (d.uid=uid))=none:=by
  rw[List.findIdx?_eq_none_iff]
  intro x hx
  obtain⟨m,hm⟩:=List.getElem?_of_mem hx
  exact decide_eq_false (hp m x (List.getElem?_eq_some_iff.1 hm).1 hm)
 unfold aP;rw[h]
theorem UU (d:JN)(a:Array Value)(uid:ByteArray)(B:Nat)(w:World)(h:mV w a d)(hc:w.cell? ⟨B,0,none⟩=some (.string uid)):
 Calls Tryz.prog 73 #[.agg a, .pointer (some ⟨B,0,none⟩)] w (Gives w (.bool (decide (d.uid=uid)))):=by
 obtain⟨pi,ci,p,cap,rfl,_⟩:=h
 have kA:Kept none' w (w.alloc (.cells (bF d pi ci p cap) 97)):=(Kept.refl _ _).alloc _
 have c1:=kA.cell (p:=⟨B,0,none⟩) (fun h=>h) hc
 have HS:=Lib.hid (str_eq d.uid uid)
 go_enter Tryz.func73,Tryz.ntmps73
 go_wp2_with fail
 go_ret
 exact⟨by first|exact dF HS.out|exact qG rfl|rfl,kA⟩
theorem UR (nodes:List JN)(v:Value)(uid:ByteArray)(B:Nat)(w:World)(h:dV w v nodes)(hc:w.cell? ⟨B,0,none⟩=some (.string uid)):
 Calls Tryz.prog 72 #[v, .func (.func 73) #[] #[.pointer (some ⟨B,0,none⟩)]] w (Gives w (.int .i64 (aP nodes uid))):=by
 obtain⟨na,cap,rfl,h1,h2,h3⟩:=h.at
 unfold maxLen at h2
 have H3:=Lib.hid (And.intro h3 hc)
 clear h3 h hc
 go_enter Tryz.func72,Tryz.ntmps72
 go_wp2_with fail
 go_loopg [8] nodes.length (fun g vi wr=> ∃k:Nat,k<=nodes.length/\vi= .int .i64 (k:Int)/\nodes.length-k<=g/\Kept none' w wr/\ ∀m e,m<k->nodes[m]?=some e->e.uid≠uid)
 case atStart=>exact⟨0,by omega,rfl,by omega,Kept.refl _ _,fun m e hm=>by omega⟩
 case round=>
  obtain⟨k,hk,rfl,hg,hkp,hno⟩:=hrel
  by_cases hlt:k<nodes.length
  ·obtain⟨d,hd⟩: ∃d,nodes[k]?=some d:=⟨_,List.getElem?_eq_getElem hlt⟩
   obtain⟨b,off,pi,ci,p,cap',rfl,hcc,hj⟩:=H3.out.1 k d hd
   obtain⟨c0,c1,c2,c3,c4,c5,c6⟩:=hcc.kept hkp (fun h=>h)
   have cc:=UU d _ uid B wr (hj.pure hkp) (hkp.cell (fun h=>h) H3.out.2)
   have G:=Lib.hid (And.intro hg (And.intro hkp (And.intro hd hno)))
   clear hg hkp hd hno hj hcc H3
   by_cases hu:d.uid=uid
   ·rw[decide_eq_true hu]at cc
    have F:=Lib.hid (XU G.out.2.2.1 hu G.out.2.2.2)
    clear hu
    go_wp2_with (go_at_call 73;refine cc.mono ?_;rintro e w2 ⟨rfl,k2⟩)
    go_ret
    exact⟨fG F.out.symm,G.out.2.1.trans k2⟩
   ·rw[decide_eq_false hu]at cc
    have F:=Lib.hid (show∀m e,m<k+1->nodes[m]?=some e->e.uid≠uid from fun m e hm he=>by
     by_cases h:m<k
     ·exact G.out.2.2.2 m e h he
     ·have e1:m=k:=by omega
      subst e1
      rw[G.out.2.2.1]at he
      injection he with he
      rw[<-he];exact hu)
    clear hu
    go_wp2_with (go_at_call 73;refine cc.mono ?_;rintro e w2 ⟨rfl,k2⟩)
    go_roundg (nodes.length-(k+1))
    case rel=>exact⟨k+1,by omega,by go_num,Nat.le_refl _,G.out.2.1.trans k2,F.out⟩
    case measure=>have:=G.out.1;omega
  ·have e1:k=nodes.length:=by omega
   subst e1
   have F:=Lib.hid (And.intro (XT hno) hkp)
   clear hno hkp
   go_wp2_with fail
   go_ret
   exact⟨fG F.out.1.symm,F.out.2⟩
theorem nN (j:Jb)(a:Array Value)(uid:ByteArray)(w:World)(h:gI w a j):Calls Tryz.prog 42 #[.agg a, .string uid] w (Gives w (.int .i64 (aP j.nodes uid))):=by
 obtain⟨v,rfl,hn,hp⟩:=h
 obtain⟨na,cap,rfl,h1,h2,h3⟩:=hn.at
 have kA:Kept none' w ((w.alloc (.cells #[.int .i64 j.par, .slice na j.nodes.length cap] 24)).alloc (.cells #[.string uid] 9)):=((Kept.refl _ _).alloc _).alloc _
 have hB:((w.alloc (.cells #[.int .i64 j.par, .slice na j.nodes.length cap] 24)).alloc (.cells #[.string uid] 9)).cell? ⟨w.heap.size+1,0,none⟩=some (.string uid):=by simp
 have cc:=UR j.nodes _ uid (w.heap.size+1) _ (hn.pure kA) hB
 have K:=Lib.hid kA
 clear h3 hn hp kA hB h2
 go_enter Tryz.func42,Tryz.ntmps42
 go_wp2_with fail
 refine cc.mono ?_
 rintro e w2 ⟨rfl,k2⟩
 go_wp2_with fail
 go_ret
 exact⟨rfl,K.out.trans k2⟩
theorem lG (kind n:Int)(c:Cell):bQ kind n c=false↔(kind=6/\0<c.2.length)\/(kind=7/\(c.1≠0\/c.2.length<1\/n<=(c.2.length:Int))):=by
 unfold bQ
 rw[Bool.and_eq_false_iff,Bool.not_eq_false',Bool.not_eq_false',Bool.and_eq_true,Bool.and_eq_true,Bool.or_eq_true,Bool.or_eq_true]
 simp only[decide_eq_true_eq,or_assoc]
theorem yJ {kind n:Int}{T:Tab}{p:Int×Cell}(hp:p∈T)(h:bQ kind n p.2=false):eY kind n T=false:=by
 unfold eY
 rw[Bool.and_eq_false_iff]
 right
 rw[List.all_eq_false]
 exact⟨p,hp,by rw[h];simp⟩
theorem UO {kind n:Int}{T:Tab}(hs:stateful kind=true)(h: ∀(m:Nat)(p:Int×Cell),m<T.length->T[m]?=some p->bQ kind n p.2=true):eY kind n T=true:=by
 unfold eY
 rw[hs,Bool.true_and,List.all_eq_true]
 intro p hp
 obtain⟨m,hm⟩:=List.getElem?_of_mem hp
 exact h m p (List.getElem?_eq_some_iff.1 hm).1 hm
theorem GK {kind n:Int}{T:Tab}{k:Nat}{q:Int×Cell}(hy: ∀(m:Nat)(p:Int×Cell),m<k->T[m]?=some p->bQ kind n p.2=true)(hq:T[k]?=some q)(h:bQ kind n q.2=true):
 ∀(m:Nat)(p:Int×Cell),m<k+1->T[m]?=some p->bQ kind n p.2=true:=by
 intro m p hm hp
 by_cases hmk:m<k
 ·exact hy m p hmk hp
 ·have e1:m=k:=by omega
  subst e1
  rw[hq]at hp
  injection hp with hp
  rw[<-hp];exact h
theorem Ns {k:Int}(h:stateful k=true):k=6\/k=7:=by
 unfold stateful at h
 simpa using h
theorem Oi {T:Tab}(hT:bT T){m:Nat}{p:Int×Cell}(h:T[m]?=some p):eP T p.1=some p.2:=(jU hT).2 (List.mem_of_getElem? h)
theorem fits_any (d:JN)(a:Array Value)(B:Nat->Prop)(b m:Nat)(T:Tab)(w:World)(h:mV w a d)(hT:TabAt w B b m T):
 Calls Tryz.prog 53 #[.agg a, .pointer (some ⟨b,0,none⟩)] w (Gives w (.bool (eY d.kind d.n T))):=by
 obtain⟨pi,ci,p,cap,rfl,_,_,_,hk0,hk1,hn,_⟩:=h
 obtain⟨hn1,hn2⟩:=hn
 have kA:Kept none' w (w.alloc (.cells (bF d pi ci p cap) 97)):=(Kept.refl _ _).alloc _
 have tA:=hT.pure kA
 have hbB:(w.alloc (.cells (bF d pi ci p cap) 97)).heap[w.heap.size]?=some (.cells (bF d pi ci p cap) 97 (0,0)):=heap_alloc_new _ _
 have c1:(w.alloc (.cells (bF d pi ci p cap) 97)).cell? ⟨w.heap.size,1,none⟩=some (.int .u8 d.kind):=cells_at hbB rfl
 obtain⟨W1,hW1⟩: ∃W1,w.alloc (.cells (bF d pi ci p cap) 97)=W1:=⟨_,rfl⟩
 have cs:=uN d.kind W1
 have ck:=lQ B b m T W1 (hW1▸tA)
 rw[hW1]at kA tA hbB c1
 have H:=Lib.hid (And.intro kA (And.intro tA hbB))
 have HW:=Lib.hid hW1
 clear hW1 kA hbB hT tA
 go_enter Tryz.func53,Tryz.ntmps53
 cases hs:stateful d.kind with
 |false=>
  rw[hs]at cs
  have F:=Lib.hid (show eY d.kind d.n T=false by unfold eY;rw[hs];rfl)
  clear hs
  go_wp2_with fail
  rw[HW.out]
  refine cs.mono ?_
  rintro e w' ⟨rfl,rfl⟩
  go_wp2_with fail
  go_ret
  exact⟨dF F.out.symm,H.out.1⟩
 |true=>
  rw[hs]at cs
  have HS:=Lib.hid hs
  clear hs
  go_wp2_with fail
  rw[HW.out]
  refine cs.mono ?_
  rintro e w' ⟨rfl,rfl⟩
  go_wp2_with fail
  refine ck.mono ?_
  rintro e W2 ⟨v,rfl,hown,-,k2⟩
  obtain⟨va,vc,rfl⟩:=ay hown
  have abd:T.length<=9223372036854775807:=by
   obtain⟨_,_,e1,e2,e3,_⟩:=(Reads.cO hown).at
   unfold maxLen at e3
   unfold aO at e2
   rw[List.length_map]at e2
   omega
  have hkl:(aO T).length=T.length:=by unfold aO;rw[List.length_map]
  rw[hkl]at hown
  have K2:=Lib.hid (And.intro (H.out.1.trans k2) (And.intro (H.out.2.1.pure k2) (And.intro (k2.heap H.out.2.2 (fun h=>h)) hown)))
  rw[hkl]
  clear hown k2 H c1
  go_wp2_with fail
  go_loopg [21] T.length (fun g vi wr=> ∃k:Nat,k<=T.length/\vi= .int .i64 (k:Int)/\T.length-k<=g/\Kept none' W2 wr/\ ∀(m:Nat)(p:Int×Cell),m<k->T[m]?=some p->bQ d.kind d.n p.2=true)
  case atStart=>exact⟨0,by omega,rfl,by omega,Kept.refl _ _,fun m e hm=>by omega⟩
  case round=>
   obtain⟨k,hk,rfl,hg,hkp,hyes⟩:=hrel
   by_cases hlt:k<T.length
   ·obtain⟨q,hq⟩: ∃q,T[k]?=some q:=⟨_,List.getElem?_eq_getElem hlt⟩
    obtain⟨pa,pc,pe,_,_,hcell⟩:=((Reads.cO K2.out.2.2.2).pure hkp).at
    injection pe with pe1 Yp TQ
    subst pe1 TQ
    clear Yp
    obtain⟨bi,WS,rfl,hcell2⟩:=hcell.resolve_left (fun h=>by rw[h]at hkl;simp at hkl;omega)
    have y0:=hcell2 k q.1 (by unfold aO;rw[List.getElem?_map,hq];rfl)
    clear hcell hcell2
    have cg:=get_any B b m T q.1 wr (K2.out.2.1.pure hkp)
    have hget:=Oi K2.out.2.1.ok.rises hq
    unfold EP at cg
    rw[hget]at cg
    simp only[Option.getD_some,Option.isSome_some]at cg
    obtain⟨key,acc,L⟩:=q
    have LC:=K2.out.2.1.ok.cell _ (List.mem_of_getElem? hq)
    have aeH:L.length<=16:=LC.2.2
    obtain⟨ha1,ha2⟩:aK acc:=LC.1
    have XD:=Ns HS.out
    have hB1:=hkp.heap K2.out.2.2.1 (fun h=>h)
    have HQ:=Lib.hid hq
    have ach:=Lib.hid hyes
    have G:=Lib.hid (And.intro hg (And.intro hkp (And.intro hget hB1)))
    clear hq hyes hg hkp hget LC hB1 hk0 hk1
    simp only at cg y0
    clear hkl cs ck
    obtain⟨uid,kind,ins,x,n⟩:=d
    rcases(show kind=6\/kind=7 from XD)with k6|k6
    ·subst k6
     clear XD
     by_cases b1:0<L.length
     ·skip
      have F:=Lib.hid (yJ (List.mem_of_getElem? HQ.out) (show bQ 6 n (acc,L)=false from(lG _ _ _).2 (.inl ⟨rfl,b1⟩)))
      go_wp2_with (go_at_call 74;refine cg.mono ?_;rintro e w3 ⟨lv,n',rfl,hl1,rfl,k3⟩;obtain⟨la,lc,rfl⟩:=ay hl1;have z1:w3.cell? ⟨w.heap.size,1,none⟩=some (.int .u8 6):=cells_at (k3.heap G.out.2.2.2 (fun h=>h)) rfl;have z4:w3.cell? ⟨w.heap.size,6,none⟩=some (.int .i64 n):=cells_at (k3.heap G.out.2.2.2 (fun h=>h)) rfl;have QZ:w.heap.size<w3.heap.size:=block_lt_of_cell z1;have Q8:=((Kept.refl none' w3).alloc (.cells #[.int .i64 acc, .slice la L.length lc] 124)).cell (fun h=>h) z1;have Q7:=((Kept.refl none' w3).alloc (.cells #[.int .i64 acc, .slice la L.length lc] 124)).cell (fun h=>h) z4;clear hl1)
      go_ret
      exact⟨dF F.out.symm,K2.out.1.trans (G.out.2.1.trans (k3.trans ((Kept.refl _ _).alloc _)))⟩
     ·skip
      have F:=Lib.hid (GK ach.out HQ.out (show bQ 6 n (acc,L)=true by
       cases h:bQ 6 n (acc,L)with
       |true=>rfl
       |false=>
        have h2:=(lG _ _ _).1 h
        simp only at h2
        omega))
      go_wp2_with (go_at_call 74;refine cg.mono ?_;rintro e w3 ⟨lv,n',rfl,hl1,rfl,k3⟩;obtain⟨la,lc,rfl⟩:=ay hl1;have z1:w3.cell? ⟨w.heap.size,1,none⟩=some (.int .u8 6):=cells_at (k3.heap G.out.2.2.2 (fun h=>h)) rfl;have z4:w3.cell? ⟨w.heap.size,6,none⟩=some (.int .i64 n):=cells_at (k3.heap G.out.2.2.2 (fun h=>h)) rfl;have QZ:w.heap.size<w3.heap.size:=block_lt_of_cell z1;have Q8:=((Kept.refl none' w3).alloc (.cells #[.int .i64 acc, .slice la L.length lc] 124)).cell (fun h=>h) z1;have Q7:=((Kept.refl none' w3).alloc (.cells #[.int .i64 acc, .slice la L.length lc] 124)).cell (fun h=>h) z4;clear hl1)
      go_roundg (T.length-(k+1))
      case rel=>exact⟨k+1,by omega,by go_num,Nat.le_refl _,G.out.2.1.trans (k3.trans ((Kept.refl _ _).alloc _)),F.out⟩
      case measure=>have:=G.out.1;omega
    ·subst k6
     clear XD
     by_cases b1:acc=0
     ·by_cases b2:L.length<1
      ·skip
       have F:=Lib.hid (yJ (List.mem_of_getElem? HQ.out) (show bQ 7 n (acc,L)=false from(lG _ _ _).2 (.inr ⟨rfl, .inr (.inl b2)⟩)))
       go_wp2_with (go_at_call 74;refine cg.mono ?_;rintro e w3 ⟨lv,n',rfl,hl1,rfl,k3⟩;obtain⟨la,lc,rfl⟩:=ay hl1;have z1:w3.cell? ⟨w.heap.size,1,none⟩=some (.int .u8 7):=cells_at (k3.heap G.out.2.2.2 (fun h=>h)) rfl;have z4:w3.cell? ⟨w.heap.size,6,none⟩=some (.int .i64 n):=cells_at (k3.heap G.out.2.2.2 (fun h=>h)) rfl;have QZ:w.heap.size<w3.heap.size:=block_lt_of_cell z1;have Q8:=((Kept.refl none' w3).alloc (.cells #[.int .i64 acc, .slice la L.length lc] 124)).cell (fun h=>h) z1;have Q7:=((Kept.refl none' w3).alloc (.cells #[.int .i64 acc, .slice la L.length lc] 124)).cell (fun h=>h) z4;clear hl1)
       go_ret
       exact⟨dF F.out.symm,K2.out.1.trans (G.out.2.1.trans (k3.trans ((Kept.refl _ _).alloc _)))⟩
      ·by_cases b3:n<=(L.length:Int)
       ·skip
        have F:=Lib.hid (yJ (List.mem_of_getElem? HQ.out) (show bQ 7 n (acc,L)=false from(lG _ _ _).2 (.inr ⟨rfl, .inr (.inr b3)⟩)))
        go_wp2_with (go_at_call 74;refine cg.mono ?_;rintro e w3 ⟨lv,n',rfl,hl1,rfl,k3⟩;obtain⟨la,lc,rfl⟩:=ay hl1;have z1:w3.cell? ⟨w.heap.size,1,none⟩=some (.int .u8 7):=cells_at (k3.heap G.out.2.2.2 (fun h=>h)) rfl;have z4:w3.cell? ⟨w.heap.size,6,none⟩=some (.int .i64 n):=cells_at (k3.heap G.out.2.2.2 (fun h=>h)) rfl;have QZ:w.heap.size<w3.heap.size:=block_lt_of_cell z1;have Q8:=((Kept.refl none' w3).alloc (.cells #[.int .i64 acc, .slice la L.length lc] 124)).cell (fun h=>h) z1;have Q7:=((Kept.refl none' w3).alloc (.cells #[.int .i64 acc, .slice la L.length lc] 124)).cell (fun h=>h) z4;clear hl1)
        go_ret
        exact⟨dF F.out.symm,K2.out.1.trans (G.out.2.1.trans (k3.trans ((Kept.refl _ _).alloc _)))⟩
       ·skip
        have F:=Lib.hid (GK ach.out HQ.out (show bQ 7 n (acc,L)=true by
         cases h:bQ 7 n (acc,L)with
         |true=>rfl
         |false=>
          have h2:=(lG _ _ _).1 h
          simp only at h2
          omega))
        go_wp2_with (go_at_call 74;refine cg.mono ?_;rintro e w3 ⟨lv,n',rfl,hl1,rfl,k3⟩;obtain⟨la,lc,rfl⟩:=ay hl1;have z1:w3.cell? ⟨w.heap.size,1,none⟩=some (.int .u8 7):=cells_at (k3.heap G.out.2.2.2 (fun h=>h)) rfl;have z4:w3.cell? ⟨w.heap.size,6,none⟩=some (.int .i64 n):=cells_at (k3.heap G.out.2.2.2 (fun h=>h)) rfl;have QZ:w.heap.size<w3.heap.size:=block_lt_of_cell z1;have Q8:=((Kept.refl none' w3).alloc (.cells #[.int .i64 acc, .slice la L.length lc] 124)).cell (fun h=>h) z1;have Q7:=((Kept.refl none' w3).alloc (.cells #[.int .i64 acc, .slice la L.length lc] 124)).cell (fun h=>h) z4;clear hl1)
        go_roundg (T.length-(k+1))
        case rel=>exact⟨k+1,by omega,by go_num,Nat.le_refl _,G.out.2.1.trans (k3.trans ((Kept.refl _ _).alloc _)),F.out⟩
        case measure=>have:=G.out.1;omega
     ·skip
      have F:=Lib.hid (yJ (List.mem_of_getElem? HQ.out) (show bQ 7 n (acc,L)=false from(lG _ _ _).2 (.inr ⟨rfl, .inl b1⟩)))
      go_wp2_with (go_at_call 74;refine cg.mono ?_;rintro e w3 ⟨lv,n',rfl,hl1,rfl,k3⟩;obtain⟨la,lc,rfl⟩:=ay hl1;have z1:w3.cell? ⟨w.heap.size,1,none⟩=some (.int .u8 7):=cells_at (k3.heap G.out.2.2.2 (fun h=>h)) rfl;have z4:w3.cell? ⟨w.heap.size,6,none⟩=some (.int .i64 n):=cells_at (k3.heap G.out.2.2.2 (fun h=>h)) rfl;have QZ:w.heap.size<w3.heap.size:=block_lt_of_cell z1;have Q8:=((Kept.refl none' w3).alloc (.cells #[.int .i64 acc, .slice la L.length lc] 124)).cell (fun h=>h) z1;have Q7:=((Kept.refl none' w3).alloc (.cells #[.int .i64 acc, .slice la L.length lc] 124)).cell (fun h=>h) z4;clear hl1)
      go_ret
      exact⟨dF F.out.symm,K2.out.1.trans (G.out.2.1.trans (k3.trans ((Kept.refl _ _).alloc _)))⟩
   ·have e1:k=T.length:=by omega
    subst e1
    have F:=Lib.hid (And.intro (UO HS.out hyes) hkp)
    clear hyes hkp
    go_wp2_with fail
    go_ret
    exact⟨dF F.out.1.symm,K2.out.1.trans F.out.2⟩
end Go.Proofs.YtopeleenlcnkkaaGreatDoor
