/- A part of a table (plain). -/
import Derived.Test.YtopeleenlcnkkaaGreatDoorM47
set_option linter.unusedVariables false
set_option linter.unusedSimpArgs false
set_option maxHeartbeats 2000000
set_option maxRecDepth 100000
namespace Go.Proofs.YtopeleenlcnkkaaGreatDoor
section
open Go Go.RowKit
theorem dB.filter {T:Tab}(h:dB T)(f:Int×Cell->Bool):dB (T.filter f):=
 ⟨h.rises.sublist List.filter_sublist,fun p hp=>h.key p (List.mem_filter.1 hp).1,fun p hp=>h.cell p (List.mem_filter.1 hp).1,fun g=>Nat.le_trans (List.Sublist.countP_le List.filter_sublist) (h.many g)⟩
theorem Nk {T:Tab}(h:bT T){k:Int}{c:Cell}(hk:(k,c)∈T)(f f':Int×Cell->Bool)(hf: ∀p∈T,f' p=(f p||p.1==k)):fK k c (T.filter f)=T.filter f':=by
 have hs:bT (T.filter f):=h.sublist List.filter_sublist
 refine bT.ext hs.fK (h.sublist List.filter_sublist) fun p=>?_
 rw[iq hs,List.mem_filter,List.mem_filter]
 constructor
 ·rintro(rfl|⟨⟨h1,h2⟩,h3⟩)
  ·exact⟨hk,by rw[hf _ hk];simp⟩
  ·exact⟨h1,by rw[hf _ h1,h2];rfl⟩
 ·rintro⟨h1,h2⟩
  by_cases e:p.1=k
  ·left
   have e1:=(jU h (k:=p.1) (c:=p.2)).2 h1
   have e2:=(jU h).2 hk
   rw[e,e2]at e1
   injection e1 with e1
   exact Prod.ext e e1.symm
  ·right
   refine⟨⟨h1,?_⟩,e⟩
   rw[hf _ h1]at h2
   simpa[e]using h2
def rest (left:List (Int×Value))(p:Int×Cell):Bool:=!(left.map (·.1)).contains p.1
def aeY (w:World)(T:Tab)(e:Ending)(w':World):Prop:=
 ∃b m,e= .returned (.pointer (some ⟨b,0,none⟩))/\TabAt w' (up w.heap.size) b m T/\Kept none' w w'
theorem rest_start {l:List (Int×Value)}{T:Tab}(h:(l.map (·.1)).Perm (aO T)):T.filter (rest l)=[]:=by
 rw[List.filter_eq_nil_iff]
 intro p hp
 have:p.1∈l.map (·.1):=h.mem_iff.2 (List.mem_map.2 ⟨p,hp,rfl⟩)
 unfold rest
 rw[List.contains_iff_mem.2 this]
 decide
theorem rest_end {T:Tab}:T.filter (rest [])=T:=by
 rw[List.filter_eq_self]
 intro p hp
 rfl
theorem TK {left left':List (Int×Value)}{p:Int×Value}{T:Tab}(hT:bT T){c:Cell}(hc:(p.1,c)∈T)(hp:left.Perm (p::left'))(hnd:(left.map (·.1)).Nodup):fK p.1 c (T.filter (rest left))=T.filter (rest left'):=by
 refine Nk hT hc _ _ fun q hq=>?_
 have h1:(p.1::left'.map (·.1)).Nodup:=by have:=(hp.map (·.1)).nodup_iff.1 hnd;simpa using this
 have h2: ∀x,x∈left.map (·.1)↔x=p.1\/x∈left'.map (·.1):=fun x=>by rw[(hp.map (·.1)).mem_iff];simp
 unfold rest
 by_cases e:q.1=p.1
 ·have h3:q.1∉left'.map (·.1):=by rw[e];exact(List.nodup_cons.1 h1).1
  have h4:(left'.map (·.1)).contains q.1=false:=by rw[Bool.eq_false_iff];intro h;exact h3 (List.contains_iff_mem.1 h)
  rw[h4,e];simp
 ·have h5:(left.map (·.1)).contains q.1=(left'.map (·.1)).contains q.1:=Bool.eq_iff_iff.2 (by rw[List.contains_iff_mem,List.contains_iff_mem,h2];simp[e])
  rw[h5,show(q.1==p.1)=false from beq_eq_false_iff_ne.2 e,Bool.or_false]
structure Nb (w wr:World)(R m b2 m2:Nat)(T:Tab)(l left:List (Int×Value)):Prop where
 it:bJ wr R m l left
 tab:TabAt wr (up w.heap.size) b2 m2 (T.filter (rest left))
 kept:Kept none' w wr
 hR:w.heap.size<=R
 ne:R≠m2
theorem X7 (B:Nat->Prop)(b m:Nat)(T:Tab)(w:World)(h:TabAt w B b m T):Calls Tryz.prog 55 #[.pointer (some ⟨b,0,none⟩)] w (aeY w T):=by
 have hcell:=h.cell
 obtain⟨l,hl,hperm,hcs⟩:=h.map
 have HM:=Lib.hid (And.intro hl (And.intro hperm hcs))
 have HT:=Lib.hid h
 clear hl hperm hcs h
 go_enter Tryz.func55,Tryz.ntmps55
 go_wp2_with fail
 refine(new_any _).mono ?_
 rintro e w2 ⟨b2,m2,rfl,t2,k2⟩
 have c2:=k2.cell (p:=⟨b,0,none⟩) (fun h=>h) hcell
 obtain⟨w3,hrun,hit,hk3,hs3⟩:=(HM.out.1.kept k2 (fun h=>h)).range (P:=Tryz.prog) Tryz.underlying127
 have hm2:m2<w2.heap.size:=by obtain⟨l2,hl2,_⟩:=t2.map;exact hl2.lt
 have I0:Nb w w3 w2.heap.size m b2 m2 T l l:=⟨hit,by rw[rest_start HM.out.2.1];exact t2.pure hk3,k2.trans hk3,k2.size,by omega⟩
 have II:=Lib.hid I0
 obtain⟨R,hR⟩: ∃R,w2.heap.size=R:=⟨_,rfl⟩
 rw[hR]at II hrun
 clear hit hk3 hs3 I0 t2 k2
 go_wp2_with fail
 go_loopg [4] l.length (fun k i wr=> ∃left,Nb w wr R m b2 m2 T l left/\left.length=k)
 case atStart=>exact⟨l,II.out,rfl⟩
 case round=>
  obtain⟨left,hi,hlen⟩:=hrel
  have HI:=Lib.hid (And.intro hi hlen)
  have hit:=hi.it
  clear hi hlen
  rcases hit.next (P:=Tryz.prog) 0 with⟨rfl,hrun⟩|⟨p,left',w4,hp,hrun,hit2,hk2,hs2,hen⟩
  ·clear hit
   go_wp2_with fail
   go_ret
   exact⟨b2,m2,rfl,by have:=HI.out.1.tab;rw[rest_end]at this;exact this,HI.out.1.kept⟩
  ·have hnd:=hit.nodup
   have hRm:=hit.ne
   clear hit
   obtain⟨c,hcT,lv,hp2,hlv,_⟩:=HM.out.2.2 p (hnd.2 p (hp.mem_iff.2 List.mem_cons_self))
   obtain⟨p1,p2⟩:=p
   subst hp2
   obtain⟨la,ln,lc,rfl,_⟩:=hlv.slice
   have hk4:Kept none' w w4:=HI.out.1.kept.new hk2 (fun i hi e=>by have:=HI.out.1.hR;unfold one at e;omega)
   have Z9:TabAt w4 (up w.heap.size) b2 m2 (T.filter (rest left)):=HI.out.1.tab.kept hk2 (.iter HI.out.1.it _) (fun e=>HI.out.1.ne e.symm)
   obtain⟨WA,ug⟩: ∃WA,w4.alloc (.cells #[.int .i64 c.1, .slice la ln lc] 124)=WA:=⟨_,rfl⟩
   have kA:Kept none' w4 WA:=by rw[<-ug];exact(Kept.refl _ _).alloc _
   have x0:WA.cell? ⟨w4.heap.size,0,none⟩=some (.int .i64 c.1):=by rw[<-ug];simp
   have x1:WA.cell? ⟨w4.heap.size,1,none⟩=some (.slice la ln lc):=by rw[<-ug];simp
   have V5:=Z9.pure kA
   have x2:=V5.cell
   rw[hs2]at x0 x1
   have Q:=Lib.hid (And.intro hnd (And.intro hcT (And.intro hlv (And.intro hk4 (And.intro V5 (And.intro kA (And.intro hit2 hp)))))))
   clear hk4 Z9 V5 kA hnd hcT hlv hit2 hp hk2
   go_wp2_with fail
   clear ug
   have LC:=HT.out.ok.cell _ Q.out.2.1
   have hkok:=HT.out.ok.key _ Q.out.2.1
   refine ak [0,1,2,3,4,5,6,7] (fun W=>Kept none' WA W) (by kernel_rfl) (by kernel_rfl) rfl (Kept.refl _ _).drew ?_
   simp only[List.map_cons,List.map_nil,List.getElem?_toArray,List.getElem?_cons_zero,List.getElem?_cons_succ,Option.getD_some]
   iterate 6 (apply aj rfl rfl;(intro W hW;have z0:=hW.cell (fun h=>h) x0;have z1:=hW.cell (fun h=>h) x1;have z2:=hW.cell (fun h=>h) x2;go_simp;rfl);go_frame)
   apply aA rfl rfl
   intro K hK
   go_wp2_with fail
   refine(xA _ _ (ints c.2) _ (Q.out.2.2.1.pure (Q.out.2.2.2.1.trans (Q.out.2.2.2.2.2.1.trans (Kept.refl _ _).drew))) (o9 _) (by have:=LC.2.2;simp;omega)).mono ?_
   rintro e w5 ⟨v',n',rfl,g1,g2,g3⟩
   have k5:Kept none' WA w5:=g3.bI
   have V6:=Q.out.2.2.2.2.1.pure k5
   obtain⟨l5,hl5,oM,zN⟩:=V6.map
   obtain⟨w6,hup,aa9,k6,hs6⟩:=hl5.update (P:=Tryz.prog) Tryz.underlying127 Tryz.underlying2 p1 (.agg #[.int .i64 c.1,v'])
   have hci:CellIs w5 (up w.heap.size) (.agg #[.int .i64 c.1,v']) c:=xR.MC (w:=WA.drew) g1 (fun k hk=>Nat.le_trans (Q.out.2.2.2.1.trans Q.out.2.2.2.2.2.1).size hk)
   have htp:=TK HT.out.ok.rises Q.out.2.1 Q.out.2.2.2.2.2.2.2 Q.out.1.1
   have tab6:TabAt w6 (up w.heap.size) b2 m2 (T.filter (rest left')):=by
    rw[<-htp]
    exact V6.put hl5 oM zN aa9 k6 (hci.kept k6 (.map hl5 _)) (by rw[htp];exact HT.out.ok.filter _)
   have F:=Lib.hid (show Nb w w6 R m b2 m2 T l left' from⟨(Q.out.2.2.2.2.2.2.1.kept (Q.out.2.2.2.2.2.1.trans k5) (fun h=>h) (fun h=>h)).kept k6 (fun e=>by have h0:=HM.out.1.lt;have h:=Q.out.2.2.2.2.1.hm;unfold up at h;unfold one at e;omega) HI.out.1.ne,tab6,(Q.out.2.2.2.1.trans (Q.out.2.2.2.2.2.1.trans k5)).new k6 (fun i hi e=>by have h:=Q.out.2.2.2.2.1.hm;unfold up at h;unfold one at e;omega),HI.out.1.hR,HI.out.1.ne⟩)
   have HL:=Lib.hid (show left'.length<left.length by have h1:=Q.out.2.2.2.2.2.2.2.length_eq;simp at h1;omega)
   clear V6 hl5 oM zN aa9 k6 hs6 hci htp tab6 g1 g2 g3
   go_wp2_with fail
   refine hK _ _ (fun _=>k5) ?_
   clear hK
   apply aA rfl rfl
   intro K2 hK2
   go_wp2_with fail
   refine hK2 _ _ (fun h=>absurd rfl h) (gY (by kernel_rfl) ?_)
   clear hK2
   go_wp2_with fail
   go_roundg left'.length
   case rel=>exact⟨left',F.out,rfl⟩
   case measure=>have h1:=HL.out;have h2:=HI.out.2;omega
end
section
open Go Go.RowKit
attribute [local irreducible] bU
def oD (left:List (Int×Value))(Ts:Tabs):Tabs:=Ts.mapIdx fun i t=>if(left.map (·.1)).contains (i:Int)then none else t
theorem ql (left:List (Int×Value))(Ts:Tabs):(oD left Ts).length=Ts.length:=by unfold oD;simp
theorem qm {left:List (Int×Value)}{Ts:Tabs}{i:Nat}{t:Option Tab}(h:Ts[i]?=some t):(oD left Ts)[i]?=some (if(left.map (·.1)).contains (i:Int)then none else t):=by
 unfold oD;rw[List.getElem?_mapIdx,h];rfl
theorem FW (Ts:Tabs):oD [] Ts=Ts:=by
 apply List.ext_getElem?
 intro i
 cases h:Ts[i]? with
 |none=>rw[List.getElem?_eq_none (by rw[ql];exact List.getElem?_eq_none_iff.1 h)]
 |some t=>rw[qm h];simp
theorem Vf {left:List (Int×Value)}{Ts:Tabs}{nodes:List JN}(hl:Ts.length=nodes.length)(h: ∀(i:Nat)(T:Tab),Ts[i]?=some (some T)->((i:Int))∈left.map (·.1)):oD left Ts=bV nodes:=by
 apply List.ext_getElem?
 intro i
 unfold bV
 rw[List.getElem?_replicate]
 by_cases hi:i<nodes.length
 ·obtain⟨t,ht⟩: ∃t,Ts[i]?=some t:=⟨_,List.getElem?_eq_getElem (by omega)⟩
  rw[qm ht,if_pos hi]
  cases t with
  |none=>simp
  |some T=>rw[List.contains_iff_mem.2 (h i T ht)];rfl
 ·rw[if_neg hi,List.getElem?_eq_none (by rw[ql];omega)]
theorem QI {left left':List (Int×Value)}{p:Int×Value}{Ts:Tabs}{i:Nat}{T:Tab}(hp:left.Perm (p::left'))(hnd:(left.map (·.1)).Nodup)(hpi:p.1=(i:Int))(hT:Ts[i]?=some (some T)):
 (oD left Ts).getD i none=none/\oD left' Ts=(oD left Ts).set i (some T):=by
 have h1:(p.1::left'.map (·.1)).Nodup:=by have:=(hp.map (·.1)).nodup_iff.1 hnd;simpa using this
 have h2: ∀x,x∈left.map (·.1)↔x=p.1\/x∈left'.map (·.1):=fun x=>by rw[(hp.map (·.1)).mem_iff];simp
 have hil:i<Ts.length:=(List.getElem?_eq_some_iff.1 hT).1
 have hin:(left.map (·.1)).contains ((i:Nat):Int)=true:=List.contains_iff_mem.2 ((h2 _).2 (.inl hpi.symm))
 refine⟨by rw[List.getD_eq_getElem?_getD,qm hT,hin];rfl,?_⟩
 apply List.ext_getElem?
 intro k
 by_cases hk:i=k
 ·subst hk
  rw[List.getElem?_set_self (by rw[ql];exact hil),qm hT]
  have:(left'.map (·.1)).contains ((i:Nat):Int)=false:=by
   rw[Bool.eq_false_iff]
   intro h
   exact(List.nodup_cons.1 h1).1 (by rw[hpi];exact List.contains_iff_mem.1 h)
  rw[this];rfl
 ·rw[List.getElem?_set_ne hk]
  cases h:Ts[k]? with
  |none=>rw[List.getElem?_eq_none (by rw[ql];exact List.getElem?_eq_none_iff.1 h),List.getElem?_eq_none (by rw[ql];exact List.getElem?_eq_none_iff.1 h)]
  |some t=>
   rw[qm h,qm h]
   have:(left.map (·.1)).contains ((k:Nat):Int)=(left'.map (·.1)).contains ((k:Nat):Int):=Bool.eq_iff_iff.2 (by
    rw[List.contains_iff_mem,List.contains_iff_mem,h2]
    constructor
    ·rintro(e|e)
     ·rw[hpi]at e;omega
     ·exact e
    ·exact .inr)
   rw[this]
theorem look_in {l:List (Int×Value)}{k:Int}{v:Value}(hnd:(l.map (·.1)).Nodup)(h:(k,v)∈l):look l k=some v:=by
 induction l with
 |nil=>cases h
 |cons p l ih=>
  simp only[List.map_cons,List.nodup_cons]at hnd
  unfold look
  by_cases e:k=p.1
  ·rcases List.mem_cons.1 h with rfl|h
   ·simp
   ·exact absurd (List.mem_map.2 ⟨_,h,e⟩) hnd.1
  ·rw[List.find?_cons_of_neg (by simpa using e)]
   rcases List.mem_cons.1 h with rfl|h
   ·exact absurd rfl e
   ·exact ih hnd.2 h
theorem PN {Ts:Tabs}{pm:Nat->Nat×Nat}{l:List (Int×Value)}(hnd:(l.map (·.1)).Nodup)(h2: ∀i:Nat,i<Ts.length->look l (i:Int)=iG pm i (Ts.getD i none))(h3: ∀key:Int,(key<0\/(Ts.length:Int)<=key)->look l key=none)
 {p:Int×Value} (hp:p∈l): ∃(i:Nat)(T:Tab),p=((i:Int), .pointer (some ⟨(pm i).1,0,none⟩))/\Ts[i]?=some (some T):=by
 obtain⟨k,v⟩:=p
 have hl:=look_in hnd hp
 by_cases hk:k<0\/(Ts.length:Int)<=k
 ·rw[h3 k hk]at hl;cases hl
 ·obtain⟨i,rfl⟩:=Int.eq_ofNat_of_zero_le (show 0<=k by omega)
  have hi:i<Ts.length:=by omega
  have:=h2 i hi
  rw[show((i:Nat):Int)=(i:Int)from rfl,hl]at this
  rw[List.getD_eq_getElem?_getD]at this
  obtain⟨t,ht⟩: ∃t,Ts[i]?=some t:=⟨_,List.getElem?_eq_getElem hi⟩
  rw[ht]at this
  cases t with
  |none=>cases this
  |some T=>exact⟨i,T,by simp[iG]at this;rw[this],ht⟩
theorem V3 {Ts:Tabs}{pm:Nat->Nat×Nat}{l:List (Int×Value)}(h2: ∀i:Nat,i<Ts.length->look l (i:Int)=iG pm i (Ts.getD i none)){i:Nat}{T:Tab}(hT:Ts[i]?=some (some T)):(i:Int)∈l.map (·.1):=by
 have:=h2 i (List.getElem?_eq_some_iff.1 hT).1
 rw[List.getD_eq_getElem?_getD,hT]at this
 exact List.mem_map.2 ⟨_,BP this,rfl⟩
def acV (w:World)(j:Jb)(Ts:Tabs)(e:Ending)(w':World):Prop:= ∃b m pm,e= .returned (.pointer (some ⟨b,0,none⟩))/\bK w' b m j Ts pm/\w.heap.size<=m/\mP w.heap.size Ts pm/\Kept none' w w'
structure Na (w wr:World)(R m b2 m2:Nat)(v:Value)(j:Jb)(Ts:Tabs)(l left:List (Int×Value))(oG:Nat->Nat×Nat):Prop where
 it:bJ wr R m l left
 obj:wr.heap[b2]?=some (.cells #[.int .i64 j.par,v, .map (some m2)] 101 (0,0))
 tab:aY wr m2 (oD left Ts) oG
 new:mP w.heap.size (oD left Ts) oG
 kept:Kept none' w wr
theorem Vm (j:Jb)(b m:Nat)(Ts:Tabs)(pm:Nat->Nat×Nat)(w:World)(h:bK w b m j Ts pm)(hT:bY j.nodes Ts):Calls Tryz.prog 29 #[.pointer (some ⟨b,0,none⟩)] w (acV w j Ts):=by
 obtain⟨⟨v,hob,hn⟩,hpar,htb⟩:=h
 obtain⟨na,cap,rfl,n1,n2,n3⟩:=hn.at
 obtain⟨l,hl,hlk,hlo⟩:=htb.map
 have x0:=cells_at hob (j:=0) (v:= .int .i64 j.par) rfl
 have x1:=cells_at hob (j:=1) (v:= .slice na j.nodes.length cap) rfl
 have x2:=cells_at hob (j:=2) (v:= .map (some m)) rfl
 have hbl:b<w.heap.size:=(Array.getElem?_eq_some_iff.1 hob).1
 have kA:Kept none' w ((w.alloc (.map #[] 0)).alloc (.cells #[.int .i64 j.par, .slice na j.nodes.length cap, .map (some w.heap.size)] 101)):=((Kept.refl _ _).alloc _).alloc _
 have tb0:aY ((w.alloc (.map #[] 0)).alloc (.cells #[.int .i64 j.par, .slice na j.nodes.length cap, .map (some w.heap.size)] 101)) w.heap.size (bV j.nodes) pm:=(aY.made w j.nodes pm).pure ((Kept.refl none' _).alloc _)
 have ob0:((w.alloc (.map #[] 0)).alloc (.cells #[.int .i64 j.par, .slice na j.nodes.length cap, .map (some w.heap.size)] 101)).heap[w.heap.size+1]?=some (.cells #[.int .i64 j.par, .slice na j.nodes.length cap, .map (some w.heap.size)] 101 (0,0)):=by
  have:=heap_alloc_new (w.alloc (.map #[] 0)) (.cells #[.int .i64 j.par, .slice na j.nodes.length cap, .map (some w.heap.size)] 101)
  rwa[World.size_alloc]at this
 obtain⟨w3,hrun,hit,hk3,hs3⟩:=(hl.kept kA (fun h=>h)).range (P:=Tryz.prog) Tryz.underlying99
 have hdl:oD l Ts=bV j.nodes:=Vf hT.len (fun i T zS=>V3 hlk zS)
 have hszA:((w.alloc (.map #[] 0)).alloc (.cells #[.int .i64 j.par, .slice na j.nodes.length cap, .map (some w.heap.size)] 101)).heap.size=w.heap.size+1+1:=by simp
 rw[hszA]at hrun hit
 have I0:Na w w3 (w.heap.size+1+1) m (w.heap.size+1) w.heap.size (.slice na j.nodes.length cap) j Ts l l pm:=
  ⟨hit,hk3.heap ob0 (fun h=>h),by rw[hdl];exact tb0.pure hk3,by rw[hdl];exact mP.none _ _ _,kA.trans hk3⟩
 have HI:=Lib.hid I0
 have H:=Lib.hid (And.intro hn (And.intro hpar (And.intro htb (And.intro hl.nodup (And.intro hlk (And.intro hlo (And.intro hT hl.lt)))))))
 have hmm:= @run_makeMap Tryz.prog
 clear hob hn hpar htb hl hlk hlo hT kA tb0 ob0 hit hk3 hs3 hdl hszA I0 n3
 go_enter Tryz.func29,Tryz.ntmps29
 go_wp2_with fail
 clear hmm hrun x0 x1 x2
 go_loopg [4] l.length (fun k i wr=> ∃left oG,Na w wr (w.heap.size+1+1) m (w.heap.size+1) w.heap.size (.slice na j.nodes.length cap) j Ts l left oG/\left.length=k)
 case atStart=>exact⟨l,pm,HI.out,rfl⟩
 case round=>
  obtain⟨left,oG,hi,hlen⟩:=hrel
  have G:=Lib.hid (And.intro hi hlen)
  have hit:=hi.it
  clear hi hlen
  rcases hit.next (P:=Tryz.prog) 0 with⟨rfl,hrun⟩|⟨p,left',w4,hp,hrun,hit2,hk2,hs2,hen⟩
  ·clear hit
   go_wp2_with fail
   go_ret
   exact⟨_,_,oG,rfl,⟨⟨_,G.out.1.obj,H.out.1.pure G.out.1.kept⟩,H.out.2.1,by have:=G.out.1.tab;rwa[FW]at this⟩,Nat.le_refl _,by have:=G.out.1.new;rwa[FW]at this,G.out.1.kept⟩
  ·have hnd:=hit.nodup
   have hRm:=hit.ne
   obtain⟨i,T,hpe,zS⟩:=PN H.out.2.2.2.1 H.out.2.2.2.2.1 H.out.2.2.2.2.2.1 (hnd.2 p (hp.mem_iff.2 List.mem_cons_self))
   subst hpe
   have hil:i<Ts.length:=(List.getElem?_eq_some_iff.1 zS).1
   have hm2:=G.out.1.tab.lt
   have hRl:w.heap.size+1+1<wr.heap.size:=hit.lt
   have kR:Kept (one (w.heap.size+1+1)) wr w4:=hk2
   have FT:Kept none' w w4:=G.out.1.kept.new kR (fun q hq e=>by unfold one at e;omega)
   have ob4:=kR.heap G.out.1.obj (fun e=>by unfold one at e;omega)
   have tb4:aY w4 w.heap.size (oD left Ts) oG:=G.out.1.tab.gU kR (fun q hq=>by
    unfold one at hq;subst hq
    intro c E f e
    obtain⟨L',clock,seen,_,_,h3,_⟩:=hit
    rw[e]at h3;cases h3) (fun e=>by unfold one at e;omega) (fun q U hU e=>by
    unfold one at e
    obtain⟨l2,hl2,_⟩:=(G.out.1.tab.tab q U hU).1.map
    obtain⟨L',clock,seen,_,_,h3,_⟩:=hit
    obtain⟨L2,cl2,h5,_⟩:=hl2
    have h6:=h5.heap
    rw[e,h3]at h6;cases h6)
   obtain⟨hdn,abx⟩:=QI hp hnd.1 rfl zS
   have y2:=cells_at ob4 (j:=2) (v:= .map (some w.heap.size)) rfl
   have Z7:=((H.out.2.2.1.tab i T zS).1).pure FT
   have Q:=Lib.hid (And.intro FT (And.intro ob4 (And.intro tb4 (And.intro hdn (And.intro abx (And.intro Z7 (And.intro hit2 (And.intro hp (And.intro hs2 (And.intro hil H.out.2.2.2.2.2.2))))))))))
   have hb1:w.heap.size+1<w4.heap.size:=by rw[hs2];omega
   clear hit hit2 hp hnd hRm kR FT ob4 tb4 hdn abx Z7 hk2 hs2 zS
   go_wp2_with fail
   refine ak [0,1,2,3,4,5,6,7] (fun W=>Kept none' w4 W) (by kernel_rfl) (by kernel_rfl) rfl (Kept.refl _ _).drew ?_
   simp only[List.map_cons,List.map_nil,List.getElem?_toArray,List.getElem?_cons_zero,List.getElem?_cons_succ,Option.getD_some]
   iterate 6 (apply aj rfl rfl;(intro W hW;have z2:=hW.cell (p:=⟨w.heap.size+1,2,none⟩) (fun h=>h) y2;go_simp;rfl);go_frame)
   apply aA rfl rfl
   intro K hK
   go_wp2_with fail
   (with_reducible refine(X7 wX (pm i).1 (pm i).2 T _ (Q.out.2.2.2.2.2.1.pure (Kept.refl none' w4).drew)).mono ?_)
   rintro e w5 ⟨b5,m5,rfl,t5,k5⟩
   have oH:Kept none' w4 w5:=(Kept.refl none' w4).drew.trans k5
   go_wp2_with fail
   refine hK _ _ (fun _=>oH) ?_
   clear hK
   have hds:w4.drew.heap.size=w4.heap.size:=rfl
   have hm5:w4.heap.size<=m5:=by have h:=t5.hm;unfold up at h;omega
   have hfr:=Q.out.2.2.1.fresh hm5
   obtain⟨w6,hup,u2,u3,u4⟩:=(Q.out.2.2.1.pure oH).update (i:=i) (by rw[ql];exact Q.out.2.2.2.2.2.2.2.2.2.1) Q.out.2.2.2.1 t5.any hfr.1 hfr.2
   have F:=Lib.hid (show Na w w6 (w.heap.size+1+1) m (w.heap.size+1) w.heap.size (.slice na j.nodes.length cap) j Ts l left' (fun k=>if k=i then(b5,m5)else oG k)from
    ⟨(Q.out.2.2.2.2.2.2.1.kept oH (fun h=>h) (fun h=>h)).kept u3 (fun e=>by have:=Q.out.2.2.2.2.2.2.2.2.2.2.2;unfold one at e;omega) (fun e=>by unfold one at e;omega),
      u3.heap (oH.heap Q.out.2.1 (fun h=>h)) (fun e=>by unfold one at e;omega),by rw[Q.out.2.2.2.2.1];exact u2,
      by rw[Q.out.2.2.2.2.1];exact G.out.1.new.set (Nat.le_trans Q.out.1.size hm5),
      (Q.out.1.trans oH).new u3 (fun q hq e=>by unfold one at e;omega)⟩)
   have HL:=Lib.hid (show left'.length<left.length by have h1:=Q.out.2.2.2.2.2.2.2.1.length_eq;simp at h1;omega)
   clear u2 u3 u4 hfr t5 k5 oH y2 hds hm5
   apply aA rfl rfl
   intro K2 hK2
   go_wp2_with fail
   refine hK2 _ _ (fun h=>absurd rfl h) (gY (by kernel_rfl) ?_)
   clear hK2
   go_wp2_with fail
   go_roundg left'.length
   case rel=>exact⟨left',_,F.out,rfl⟩
   case measure=>have h1:=HL.out;have h2:=G.out.2;omega
end
end Go.Proofs.YtopeleenlcnkkaaGreatDoor
