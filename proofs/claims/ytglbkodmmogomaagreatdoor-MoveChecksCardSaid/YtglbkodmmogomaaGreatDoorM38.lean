/- The document's Fits; Fits of no table. -/
import Derived.Test.YtglbkodmmogomaaGreatDoorM37
set_option linter.unusedVariables false
set_option linter.unusedSimpArgs false
set_option maxHeartbeats 2000000
set_option maxRecDepth 100000
namespace Go.Proofs.YtglbkodmmogomaaGreatDoor
section
open Go Go.RowKit
attribute [local irreducible] bH
theorem qH (k:Int)(w:World):Calls Tryz.prog 61 #[.int .u8 k] w fun e w'=>e= .returned (.bool (stateful k))/\w=w':=by
 have e:stateful k=(k==6||k==7):=rfl
 rw[e]
 clear e
 by_cases h6:k=6
 ·subst h6
  go_enter Tryz.func61,Tryz.ntmps61
  go_wp2_with fail
  go_ret
  exact⟨rfl,rfl⟩
 ·have h1:(k==6)=false:=by simp[h6]
  rw[h1,Bool.false_or]
  go_enter Tryz.func61,Tryz.ntmps61
  go_wp2_with fail
  go_ret
  exact⟨rfl,rfl⟩
theorem CY (d:JN)(a:Array Value)(b:Nat)(T:Tab)(w:World)(h:lV w a d)(hT:RTabAt w b T):
 Calls Tryz.prog 19 #[.agg a, .pointer (some ⟨b,0,none⟩)] w (Gives w (.bool (dD d.kind d.n T))):=by
 obtain⟨pi,ci,p,cap,rfl,_,_,_,hk0,hk1,hn,_⟩:=h
 obtain⟨hn1,hn2⟩:=hn
 have kA:Kept none' w (w.alloc (.cells (aZ d pi ci p cap) 42)):=(Kept.refl _ _).alloc _
 have tA:=hT.pure kA
 have hbB:(w.alloc (.cells (aZ d pi ci p cap) 42)).heap[w.heap.size]?=some (.cells (aZ d pi ci p cap) 42 (0,0)):=heap_alloc_new _ _
 obtain⟨W1,hW1⟩: ∃W1,w.alloc (.cells (aZ d pi ci p cap) 42)=W1:=⟨_,rfl⟩
 rw[hW1]at kA tA hbB
 obtain⟨⟨v,rX,hrt⟩,hok⟩:=tA
 obtain⟨pa,zl,rfl,hc1,hc2,hcl⟩:=hrt.parts
 have hT320:=hok.len
 unfold maxLen at hc2
 have HC:=Lib.hid (And.intro hcl (And.intro hok (And.intro kA (And.intro rX hbB))))
 have HW:=Lib.hid hW1
 clear rX hrt hcl hok kA hbB hT hW1
 go_enter Tryz.func19,Tryz.ntmps19
 go_wp2_with fail
 rw[HW.out]
 go_wp2_with fail
 go_loopg [5] T.length (fun g vi wr=> ∃k:Nat,k<=T.length/\vi= .int .i64 (k:Int)/\T.length-k<=g/\Kept none' W1 wr/\ ∀(m:Nat)(p:Int×Cell),m<k->T[m]?=some p->aT d.kind d.n p.2=true)
 case atStart=>exact⟨0,by omega,rfl,by omega,Kept.refl _ _,fun m e hm=>by omega⟩
 case round=>
  obtain⟨k,hk,rfl,hg,hkp,hyes⟩:=hrel
  have c0:wr.cell? ⟨b,0,none⟩=some (.slice pa T.length zl):=cells_at (hkp.heap HC.out.2.2.2.1 (fun h=>h)) rfl
  have z1:wr.cell? ⟨w.heap.size,1,none⟩=some (.int .u8 d.kind):=cells_at (hkp.heap HC.out.2.2.2.2 (fun h=>h)) rfl
  have z4:wr.cell? ⟨w.heap.size,6,none⟩=some (.int .i64 d.n):=cells_at (hkp.heap HC.out.2.2.2.2 (fun h=>h)) rfl
  have IL:w.heap.size<wr.heap.size:=block_lt_of_cell z1
  by_cases hlt:k<T.length
  ·obtain⟨q,hq⟩: ∃q,T[k]?=some q:=⟨_,List.getElem?_eq_getElem hlt⟩
   obtain⟨rb,ro,rfl,hr⟩:=HC.out.1.resolve_left (fun h=>by rw[h]at hq;cases hq)
   obtain⟨x0,x1,lv,x2,x3⟩:=(hr k q hq).pure hkp
   obtain⟨key,acc,L⟩:=q
   have zu:=HC.out.2.1.cell _ (List.mem_of_getElem? hq)
   have Ut:L.length<=16:=zu.2.2
   obtain⟨ha1,ha2⟩:bF acc:=zu.1
   obtain⟨la,lc,rfl,hlc,_⟩:=x3.at
   have HQ:=Lib.hid hq
   have Cb:=Lib.hid hyes
   have G:=Lib.hid (And.intro hg hkp)
   clear hq hyes hg hkp hr zu x0 x3 hlc
   simp only at x1 x2
   obtain⟨uid,kind,ins,x,n⟩:=d
   simp only at z1 z4 hn1 hn2 hk0 hk1
   have KA:=Lib.hid (show Kept none' wr (wr.alloc (.cells #[.int .i64 acc, .slice la L.length lc] 109))from(Kept.refl _ _).alloc _)
   have y1:=KA.out.cell (fun h=>h) z1
   have y4:=KA.out.cell (fun h=>h) z4
   by_cases k6:kind=6
   ·subst k6
    by_cases b1:0<L.length
    ·have F:=Lib.hid (lQ (List.mem_of_getElem? HQ.out) (show aT 6 n (acc,L)=false from(bM _ _ _).2 (.inl ⟨rfl,b1⟩)))
     go_wp2_with fail
     go_ret
     exact⟨aX F.out.symm,HC.out.2.2.1.trans (G.out.2.trans ((Kept.refl _ _).alloc _))⟩
    ·have F:=Lib.hid (qY Cb.out HQ.out (show aT 6 n (acc,L)=true by
      cases h:aT 6 n (acc,L)with
      |true=>rfl
      |false=>
       have h2:=(bM _ _ _).1 h
       simp only at h2
       omega))
     go_wp2_with fail
     go_roundg (T.length-(k+1))
     case rel=>exact⟨k+1,by omega,by go_num,Nat.le_refl _,G.out.2.trans ((Kept.refl _ _).alloc _),F.out⟩
     case measure=>have:=G.out.1;omega
   ·by_cases k7:kind=7
    ·subst k7
     by_cases b1:acc=0
     ·by_cases b2:L.length<1
      ·have F:=Lib.hid (lQ (List.mem_of_getElem? HQ.out) (show aT 7 n (acc,L)=false from(bM _ _ _).2 (.inr ⟨rfl, .inr (.inl b2)⟩)))
       go_wp2_with fail
       go_ret
       exact⟨aX F.out.symm,HC.out.2.2.1.trans (G.out.2.trans ((Kept.refl _ _).alloc _))⟩
      ·by_cases b3:n<=(L.length:Int)
       ·have F:=Lib.hid (lQ (List.mem_of_getElem? HQ.out) (show aT 7 n (acc,L)=false from(bM _ _ _).2 (.inr ⟨rfl, .inr (.inr b3)⟩)))
        go_wp2_with fail
        go_ret
        exact⟨aX F.out.symm,HC.out.2.2.1.trans (G.out.2.trans ((Kept.refl _ _).alloc _))⟩
       ·have F:=Lib.hid (qY Cb.out HQ.out (show aT 7 n (acc,L)=true by
         cases h:aT 7 n (acc,L)with
         |true=>rfl
         |false=>
          have h2:=(bM _ _ _).1 h
          simp only at h2
          omega))
        go_wp2_with fail
        go_roundg (T.length-(k+1))
        case rel=>exact⟨k+1,by omega,by go_num,Nat.le_refl _,G.out.2.trans ((Kept.refl _ _).alloc _),F.out⟩
        case measure=>have:=G.out.1;omega
     ·have F:=Lib.hid (lQ (List.mem_of_getElem? HQ.out) (show aT 7 n (acc,L)=false from(bM _ _ _).2 (.inr ⟨rfl, .inl b1⟩)))
      go_wp2_with fail
      go_ret
      exact⟨aX F.out.symm,HC.out.2.2.1.trans (G.out.2.trans ((Kept.refl _ _).alloc _))⟩
    ·have F:=Lib.hid (qY Cb.out HQ.out (show aT kind n (acc,L)=true by
      cases h:aT kind n (acc,L)with
      |true=>rfl
      |false=>
       have h2:=(bM _ _ _).1 h
       simp only at h2
       omega))
     go_wp2_with fail
     go_roundg (T.length-(k+1))
     case rel=>exact⟨k+1,by omega,by go_num,Nat.le_refl _,G.out.2.trans ((Kept.refl _ _).alloc _),F.out⟩
     case measure=>have:=G.out.1;omega
  ·have e1:k=T.length:=by omega
   subst e1
   have cs:=qH d.kind wr
   have F:=Lib.hid (And.intro hyes hkp)
   clear hyes hkp
   go_wp2_with fail
   refine cs.mono ?_
   rintro e w' ⟨rfl,rfl⟩
   go_wp2_with fail
   go_ret
   refine⟨aX ?_,HC.out.2.2.1.trans F.out.2⟩
   cases hs:stateful d.kind with
   |false=>unfold dD;rw[hs];rfl
   |true=>exact(DJ hs F.out.1).symm
section
variable {P:Program}
theorem wp_append_run {w w':World}{o:Oper}{a:Act}{K:Act->World->Prop}{Q:Exit->Act->World->Prop}(s x:Operand)(t:TypeId)
 (ho:o.op= .call {callee:= .builtin .append,args:= #[s,x],argTypes:= #[t,t]}) (v u v':Value) (hs:a.eval s=v) (hx:a.eval x=u) (hr:(Builtin.append_ #[t,t] o.type #[v,u]).run P w= .ok v' w')
 (h:K (a.put o.dst v') w'):o.wp P a w K Q:=by
 unfold Oper.wp execOp
 simp only[ho,resolve,invoke,builtin,Sem.run_bind,Sem.run_pure,Result.andThen_ok,List.map_toArray,List.map_cons,List.map_nil,hs,hx,hr]
 exact h
end
theorem eH.nil (w:World):eH w [] []:=⟨rfl,fun i p h=>by cases h⟩
theorem eH.append {w:World}{cs ds:List Value}{T U:Tab}(h:eH w cs T)(k:eH w ds U):eH w (cs++ds) (T++U):=by
 refine⟨by rw[List.length_append,List.length_append,h.1,k.1,Nat.add_mul],fun i p hp=>?_⟩
 rw[List.getElem?_append]at hp
 split at hp
 ·rename_i hlt
  obtain⟨a,b,lv,c,d⟩:=h.2 i p hp
  have hl:=h.1
  exact⟨by rw[List.getElem?_append_left (by omega)];exact a,by rw[List.getElem?_append_left (by omega)];exact b,lv,by rw[List.getElem?_append_left (by omega)];exact c,d⟩
 ·rename_i hge
  obtain⟨a,b,lv,c,d⟩:=k.2 (i-T.length) p hp
  have hl:=h.1
  have e0:i*3-cs.length=(i-T.length)*3:=by omega
  have e1:i*3+1-cs.length=(i-T.length)*3+1:=by omega
  have e2:i*3+2-cs.length=(i-T.length)*3+2:=by omega
  exact⟨by rw[List.getElem?_append_right (by omega),e0];exact a,by rw[List.getElem?_append_right (by omega),e1];exact b,lv,by rw[List.getElem?_append_right (by omega),e2];exact c,d⟩
theorem eH.take {w:World}{cs:List Value}{T:Tab}(h:eH w cs T)(k:Nat):eH w (cs.take (k*3)) (T.take k):=by
 refine⟨by rw[List.length_take,List.length_take,h.1];omega,fun i p hp=>?_⟩
 rw[List.getElem?_take]at hp
 split at hp
 ·obtain⟨a,b,lv,c,d⟩:=h.2 i p hp
  exact⟨by rw[List.getElem?_take,if_pos (by omega)];exact a,by rw[List.getElem?_take,if_pos (by omega)];exact b,lv,by rw[List.getElem?_take,if_pos (by omega)];exact c,d⟩
 ·cases hp
theorem eH.drop {w:World}{cs:List Value}{T:Tab}(h:eH w cs T)(k:Nat):eH w (cs.drop (k*3)) (T.drop k):=by
 refine⟨by rw[List.length_drop,List.length_drop,h.1,Nat.sub_mul],fun i p hp=>?_⟩
 rw[List.getElem?_drop]at hp
 obtain⟨a,b,lv,c,d⟩:=h.2 (k+i) p hp
 refine⟨?_,?_,lv,?_,d⟩
 ·rw[List.getElem?_drop,<-a];congr 1;omega
 ·rw[List.getElem?_drop,<-b];congr 1;omega
 ·rw[List.getElem?_drop,<-c];congr 1;omega
theorem eH.one {w:World}{k acc:Int}{lv:Value}{l:List Int}(h:Reads w 1 lv (ints l)):eH w [.int .i64 k, .int .i64 acc,lv] [(k,(acc,l))]:=by
 refine⟨rfl,fun i p hp=>?_⟩
 match i,hp with
 |0,hp=>cases hp;exact⟨rfl,rfl,lv,rfl,h⟩
theorem eH.cells {w:World}{cs:List Value}{T:Tab}(h:eH w cs T): ∀x∈cs,x.oneCell'=true:=by
 intro x hx
 obtain⟨j,hj,rfl⟩:=List.mem_iff_getElem.1 hx
 have hl:=h.1
 obtain⟨p,hp⟩: ∃p,T[j/3]?=some p:=⟨_,List.getElem?_eq_getElem (by omega)⟩
 obtain⟨a,b,lv,c,d⟩:=h.2 (j/3) p hp
 have hm:j%3=0\/j%3=1\/j%3=2:=by omega
 have e:cs[j]?=some cs[j]:=List.getElem?_eq_getElem hj
 rcases hm with hm|hm|hm
 ·rw[show j/3*3=j by omega,e]at a;injection a with a;rw[a];rfl
 ·rw[show j/3*3+1=j by omega,e]at b;injection b with b;rw[b];rfl
 ·rw[show j/3*3+2=j by omega,e]at c;injection c with c;rw[c]
  obtain⟨q,m,cap,rfl,_⟩:=d
  rfl
theorem Tryz.info122: ∃i z,Tryz.prog.info? 122=some i/\i.zero=some z/\i.size=3/\i.bytes=40/\z.cells.size=3:=by
 have h:(Tryz.prog.info? 122).map (fun i=>(i.zero,i.size,i.bytes))=some (some (.agg #[.int .i64 0, .int .i64 0, .slice none 0 0]),3,40):=by kernel_rfl
 obtain⟨i,h1,h2,h3,h4⟩:=info_parts h
 exact⟨i,_,h1,h2,h3,h4,rfl⟩
end
section
open Go Go.RowKit
attribute [local irreducible] bH
theorem eH.first {w:World}{cs:List Value}{T:Tab}(h:eH w cs T): ∀y,cs[0]?=some y-> ∃q m,y= .int q m:=by
 intro y hy
 cases T with
 |nil=>
  have h1:=h.1
  simp at h1
  subst h1
  cases hy
 |cons p r=>
  have h1:=(h.2 0 p rfl).1
  rw[Nat.zero_mul,hy]at h1
  cases h1
  exact⟨_,_,rfl⟩
end
end Go.Proofs.YtglbkodmmogomaaGreatDoor
