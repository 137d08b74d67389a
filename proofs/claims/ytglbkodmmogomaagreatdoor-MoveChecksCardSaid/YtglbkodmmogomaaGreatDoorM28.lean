/- IDEALS IN MEMORY: a map from nodes' places to tables, whose own maps are all unlike. -/
import Derived.Test.YtglbkodmmogomaaGreatDoorM27
import Derived.Test.YtglbkodmmogomaaGreatDoorM11
set_option linter.unusedVariables false
set_option linter.unusedSimpArgs false
set_option maxHeartbeats 2000000
set_option maxRecDepth 100000
namespace Go.Proofs.YtglbkodmmogomaaGreatDoor
section
open Go Go.RowKit
theorem zn (key:Int)(v:Value)(k:Int): ∀l:List (Int×Value),look (upd key v l) k=if k=key then some v else look l k
 |[]=>by
  unfold upd look
  by_cases h:k=key
  ·simp[h]
  ·simp[h]
 |p::r=>by
  have ih:=zn key v k r
  unfold look at ih⊢
  unfold upd
  by_cases hp:key=p.1
  ·rw[if_pos (by simpa using hp)]
   by_cases h:k=key
   ·simp[h]
   ·have: ¬k=p.1:=fun e=>h (e.trans hp.symm)
    simp[h,this]
  ·rw[if_neg (by simpa using hp)]
   by_cases h:k=p.1
   ·have: ¬k=key:=fun e=>hp (e.symm.trans h)
    simp[h,this]
    intro e;exact absurd e.symm hp
   ·rw[List.find?_cons_of_neg (by simpa using h),List.find?_cons_of_neg (by simpa using h)]
    exact ih
def l9 (pm:Nat->Nat×Nat)(i:Nat):Option Tab->Option Value:=fun t=>t.map fun _=> .pointer (some ⟨(pm i).1,0,none⟩)
structure cO (w:World)(m:Nat)(Ts:Tabs)(pm:Nat->Nat×Nat):Prop where
 map: ∃l,dh w m l/\(∀i:Nat,i<Ts.length->look l (i:Int)=l9 pm i (Ts.getD i none))/\ ∀key:Int,(key<0\/(Ts.length:Int)<=key)->look l key=none
 tab: ∀(i:Nat)(T:Tab),Ts[i]?=some (some T)->TabAt w xU (pm i).1 (pm i).2 T/\(pm i).2≠m
 dist: ∀(i k:Nat)(T U:Tab),i≠k->Ts[i]?=some (some T)->Ts[k]?=some (some U)->(pm i).2≠(pm k).2
theorem cO.lt {w:World}{m:Nat}{Ts:Tabs}{pm:Nat->Nat×Nat}(h:cO w m Ts pm):m<w.heap.size:=by
 obtain⟨l,h1,_⟩:=h.map
 exact h1.lt
theorem cO.pure {w w':World}{m:Nat}{Ts:Tabs}{pm:Nat->Nat×Nat}(h:cO w m Ts pm)(hk:Kept none' w w'):cO w' m Ts pm:=by
 obtain⟨⟨l,h1,h2,h3⟩,h4,h5⟩:=h
 exact⟨⟨l,h1.kept hk (fun h=>h),h2,h3⟩,fun i T hT=>⟨(h4 i T hT).1.pure hk,(h4 i T hT).2⟩,h5⟩
theorem cO.made (w:World)(nodes:List JN)(pm:Nat->Nat×Nat):cO (w.alloc (.map #[] 0)) w.heap.size (bf nodes) pm:=by
 refine⟨⟨[],dh.made w,fun i hi=>?_,fun _ _=>rfl⟩,fun i T hT=>?_,fun i k T U _ hT=>?_⟩
 ·have:(bf nodes).getD i none=none:=by
   unfold bf
   rw[List.getD_eq_getElem?_getD,List.getElem?_replicate]
   split<;>rfl
  rw[this];rfl
 all_goals
  unfold bf at hT
  rw[List.getElem?_replicate]at hT
  split at hT<;>simp at hT
theorem cO.lookup {w:World}{m:Nat}{Ts:Tabs}{pm:Nat->Nat×Nat}(h:cO w m Ts pm)(i:Nat)(hi:i<Ts.length):
 (Instr.lookup 138 (.map (some m)) (.int .i64 (i:Int)) true).run Tryz.prog w= .ok (.tuple #[(l9 pm i (Ts.getD i none)).getD (.pointer none), .bool (Ts.getD i none).isSome]) w:=by
 obtain⟨⟨l,h1,h2,_⟩,_,_⟩:=h
 have:=h1.lookup (P:=Tryz.prog) Tryz.underlying138 Tryz.underlying3 (i:Int) (Tryz.zeroValue43 w)
 rw[h2 i hi]at this
 rw[this]
 unfold l9
 cases Ts.getD i none<;>rfl
theorem cO.BL {w:World}{m:Nat}{Ts:Tabs}{pm:Nat->Nat×Nat}(h:cO w m Ts pm)(i:Nat)(hi:i<Ts.length):
 (Instr.lookup 138 (.map (some m)) (.int .i64 (i:Int)) false).run Tryz.prog w= .ok ((l9 pm i (Ts.getD i none)).getD (.pointer none)) w:=by
 obtain⟨⟨l,h1,h2,_⟩,_,_⟩:=h
 have:=h1.BL (P:=Tryz.prog) Tryz.underlying138 Tryz.underlying3 (i:Int) (Tryz.zeroValue43 w)
 rwa[h2 i hi]at this
theorem cO.MX {w:World}{m:Nat}{Ts:Tabs}{pm:Nat->Nat×Nat}(h:cO w m Ts pm)(key:Int)(hi:key<0\/(Ts.length:Int)<=key):
 (Instr.lookup 138 (.map (some m)) (.int .i64 key) true).run Tryz.prog w= .ok (.tuple #[.pointer none, .bool false]) w:=by
 obtain⟨⟨l,h1,_,h3⟩,_,_⟩:=h
 have:=h1.lookup (P:=Tryz.prog) Tryz.underlying138 Tryz.underlying3 key (Tryz.zeroValue43 w)
 rwa[h3 key hi]at this
theorem cO.lay {w w':World}{m:Nat}{Ts:Tabs}{pm:Nat->Nat×Nat}(h:cO w m Ts pm){i:Nat}(hi:i<Ts.length)(hno:Ts.getD i none=none){b tm:Nat}{T:Tab}(ht:TabAt w xU b tm T)(hm:tm≠m)
 (hd: ∀(k:Nat)(U:Tab),Ts[k]?=some (some U)->(pm k).2≠tm) {l':List (Int×Value)} (hl: ∀l,dh w m l->l'=upd (i:Int) (.pointer (some ⟨b,0,none⟩)) l->dh w' m l') (hk:Kept (one m) w w')
 (he: ∃l,dh w m l/\(∀i:Nat,i<Ts.length->look l (i:Int)=l9 pm i (Ts.getD i none))/\(∀key:Int,(key<0\/(Ts.length:Int)<=key)->look l key=none)/\l'=upd (i:Int) (.pointer (some ⟨b,0,none⟩)) l):
 cO w' m (Ts.set i (some T)) (fun k=>if k=i then(b,tm)else pm k):=by
 obtain⟨l,h1,h2,h3,rfl⟩:=he
 have hmn:iP w (one m) xU:=iP.map h1 _
 have hset: ∀(k:Nat)(U:Tab),k≠i->(Ts.set i (some T))[k]?=some (some U)->Ts[k]?=some (some U):=fun k U hki h=>by
  rwa[List.getElem?_set_ne (fun e=>hki e.symm)]at h
 obtain⟨_,h4,h5⟩:=h
 refine⟨⟨_,hl l h1 rfl,fun k hkl=>?_,fun key hkey=>?_⟩,fun k U hU=>?_,fun k n U V hkn hU hV=>?_⟩
 ·have hkl':k<Ts.length:=by simpa using hkl
  rw[zn]
  by_cases hki:k=i
  ·subst hki
   rw[if_pos rfl,List.getD_eq_getElem?_getD,List.getElem?_set_self hi]
   simp[l9]
  ·rw[if_neg (by omega),h2 k hkl',List.getD_eq_getElem?_getD,List.getD_eq_getElem?_getD,List.getElem?_set_ne (fun e=>hki e.symm)]
   simp[l9,hki]
 ·have hkey':key<0\/(Ts.length:Int)<=key:=by simpa using hkey
  rw[zn,if_neg (by omega)]
  exact h3 key hkey'
 ·by_cases hki:k=i
  ·subst hki
   rw[List.getElem?_set_self hi]at hU
   injection hU with hU
   injection hU with hU
   subst hU
   simp only[if_true]
   exact⟨ht.kept hk hmn (fun e=>hm e),hm⟩
  ·simp only[if_neg hki]
   have Jr:=hset k U hki hU
   exact⟨(h4 k U Jr).1.kept hk hmn (fun e=>(h4 k U Jr).2 e),(h4 k U Jr).2⟩
 ·by_cases hki:k=i
  ·have hni: ¬n=i:=fun e=>hkn (hki.trans e.symm)
   simp only[if_pos hki,if_neg hni]
   exact fun e=>hd n V (hset n V hni hV) e.symm
  ·simp only[if_neg hki]
   have Jr:=hset k U hki hU
   by_cases hni:n=i
   ·simp only[if_pos hni]
    exact hd k U Jr
   ·simp only[if_neg hni]
    exact h5 k n U V hkn Jr (hset n V hni hV)
theorem cO.update {w:World}{m:Nat}{Ts:Tabs}{pm:Nat->Nat×Nat}(h:cO w m Ts pm){i:Nat}(hi:i<Ts.length)(hno:Ts.getD i none=none){b tm:Nat}{T:Tab}(ht:TabAt w xU b tm T)(hm:tm≠m)
 (hd: ∀(k:Nat)(U:Tab),Ts[k]?=some (some U)->(pm k).2≠tm):
 ∃w',(Instr.mapUpdate 138 (.map (some m)) (.int .i64 (i:Int)) (.pointer (some ⟨b,0,none⟩))).run Tryz.prog w= .ok () w'/\cO w' m (Ts.set i (some T)) (fun k=>if k=i then(b,tm)else pm k)/\Kept (one m) w w'/\w'.heap.size=w.heap.size:=by
 obtain⟨l,h1,h2,h3⟩:=h.map
 obtain⟨w',u1,u2,u3,u4⟩:=h1.update (P:=Tryz.prog) Tryz.underlying138 Tryz.underlying3 (i:Int) (.pointer (some ⟨b,0,none⟩))
 exact⟨w',u1,h.lay hi hno ht hm hd (l':=upd (i:Int) (.pointer (some ⟨b,0,none⟩)) l) (fun l0 _ e=>e▸(by rw[<-e];exact u2)) u3 ⟨l,h1,h2,h3,rfl⟩,u3,u4⟩
theorem cO.fresh {w:World}{m:Nat}{Ts:Tabs}{pm:Nat->Nat×Nat}(h:cO w m Ts pm){tm:Nat}(TW:w.heap.size<=tm):tm≠m/\ ∀(k:Nat)(U:Tab),Ts[k]?=some (some U)->(pm k).2≠tm:=by
 refine⟨fun e=>?_,fun k U hU e=>?_⟩
 ·have:=h.lt;omega
 ·have:=(h.tab k U hU).1.lt.1;omega
structure tC (w:World)(b m:Nat)(j:Jb)(Ts:Tabs)(pm:Nat->Nat×Nat):Prop where
 obj: ∃v,w.heap[b]?=some (.cells #[.int .i64 j.par,v, .map (some m)] 140 (0,0))/\fG w v j.nodes
 par:bF j.par
 tabs:cO w m Ts pm
theorem tC.pure {w w':World}{b m:Nat}{j:Jb}{Ts:Tabs}{pm:Nat->Nat×Nat}(h:tC w b m j Ts pm)(hk:Kept none' w w'):tC w' b m j Ts pm:=by
 obtain⟨⟨v,h1,h2⟩,h3,h4⟩:=h
 exact⟨⟨v,hk.heap h1 (fun h=>h),h2.pure hk⟩,h3,h4.pure hk⟩
structure dZ (w:World)(M:Nat->Prop)(m:Nat)(Ts:Tabs)(pm:Nat->Nat×Nat):Prop where
 at_:cO w m Ts pm
 out: ∀(i:Nat)(T:Tab),Ts[i]?=some (some T)->TabAt w M (pm i).1 (pm i).2 T
theorem dZ.of {w:World}{M:Nat->Prop}{mb m:Nat}{Ts:Tabs}{pm:Nat->Nat×Nat}(h:dZ w M m Ts pm)(hmb:w.heap.size<=mb):dZ w (fun k=>(M k\/w.heap.size<=k)/\k≠mb) m Ts pm:=
 ⟨h.at_,fun i T hT=>(h.out i T hT).mono (fun k hM hk=>⟨.inl hM,by omega⟩)⟩
theorem dZ.any {w:World}{m:Nat}{Ts:Tabs}{pm:Nat->Nat×Nat}(h:cO w m Ts pm):dZ w xU m Ts pm:=⟨h,fun i T hT=>(h.tab i T hT).1⟩
theorem dZ.mono {w:World}{M M':Nat->Prop}{m:Nat}{Ts:Tabs}{pm:Nat->Nat×Nat}(h:dZ w M m Ts pm)(hM: ∀k,M k->k<w.heap.size->M' k):dZ w M' m Ts pm:=
 ⟨h.at_,fun i T hT=>(h.out i T hT).mono hM⟩
theorem dZ.pure {w w':World}{M:Nat->Prop}{m:Nat}{Ts:Tabs}{pm:Nat->Nat×Nat}(h:dZ w M m Ts pm)(hk:Kept none' w w'):dZ w' M m Ts pm:=
 ⟨h.at_.pure hk,fun i T hT=>(h.out i T hT).pure hk⟩
theorem dZ.Vw {S:Nat->Prop}{w w':World}{M:Nat->Prop}{m:Nat}{Ts:Tabs}{pm:Nat->Nat×Nat}(h:dZ w M m Ts pm)(hM: ∀k,S k-> ¬M k)(hm: ¬S m)(hk:Kept S w w'):dZ w' M m Ts pm:=by
 have hnc:iP w S M:=fun k h1 h2=>absurd h2 (hM k h1)
 have ho: ∀(i:Nat)(T:Tab),Ts[i]?=some (some T)->TabAt w' M (pm i).1 (pm i).2 T:=fun i T hT=>(h.out i T hT).kept hk hnc (fun e=>hM _ e (h.out i T hT).hm)
 refine⟨⟨?_,fun i T hT=>⟨(ho i T hT).any,(h.at_.tab i T hT).2⟩,h.at_.dist⟩,ho⟩
 obtain⟨l,h1,h2,h3⟩:=h.at_.map
 exact⟨l,h1.kept hk hm,h2,h3⟩
theorem dZ.store {w w':World}{M:Nat->Prop}{mb m:Nat}{Ts:Tabs}{pm:Nat->Nat×Nat}(h:dZ w M m Ts pm)(hM: ¬M mb)(hm:m≠mb)(hk:Kept (one mb) w w'):dZ w' M m Ts pm:=
 h.Vw (S:=one mb) (fun q (e:q=mb)=>by rw[e];exact hM) hm hk
theorem dZ.update {w:World}{M:Nat->Prop}{m:Nat}{Ts:Tabs}{pm:Nat->Nat×Nat}(h:dZ w M m Ts pm){i:Nat}(hi:i<Ts.length)(hno:Ts.getD i none=none){b tm:Nat}{T:Tab}(ht:TabAt w M b tm T)(hm:tm≠m)
 (hd: ∀(k:Nat)(U:Tab),Ts[k]?=some (some U)->(pm k).2≠tm):
 ∃w',(Instr.mapUpdate 138 (.map (some m)) (.int .i64 (i:Int)) (.pointer (some ⟨b,0,none⟩))).run Tryz.prog w= .ok () w'/\dZ w' M m (Ts.set i (some T)) (fun k=>if k=i then(b,tm)else pm k)/\Kept (one m) w w'/\w'.heap.size=w.heap.size:=by
 obtain⟨w',u1,u2,u3,u4⟩:=h.at_.update hi hno ht.any hm hd
 obtain⟨l,h1,_⟩:=h.at_.map
 refine⟨w',u1,⟨u2,fun k U hU=>?_⟩,u3,u4⟩
 by_cases hki:k=i
 ·subst hki
  rw[List.getElem?_set_self hi]at hU
  cases hU
  simp only[if_true]
  exact ht.kept u3 (iP.map h1 _) (fun e=>hm e)
 ·simp only[if_neg hki]
  rw[List.getElem?_set_ne (fun e=>hki e.symm)]at hU
  exact(h.out k U hU).kept u3 (iP.map h1 _) (fun e=>(h.at_.tab k U hU).2 e)
theorem dZ.made (w:World)(M:Nat->Prop)(nodes:List JN)(pm:Nat->Nat×Nat):dZ (w.alloc (.map #[] 0)) M w.heap.size (bf nodes) pm:=
 ⟨cO.made w nodes pm,fun i T hT=>by
   unfold bf at hT
   rw[List.getElem?_replicate]at hT
   split at hT<;>simp at hT⟩
end
section
open Go Go.RowKit
attribute [local irreducible] bH
theorem bM (kind n:Int)(c:Cell):aT kind n c=false↔(kind=6/\0<c.2.length)\/(kind=7/\(c.1≠0\/c.2.length<1\/n<=(c.2.length:Int))):=by
 unfold aT
 rw[Bool.and_eq_false_iff,Bool.not_eq_false',Bool.not_eq_false',Bool.and_eq_true,Bool.and_eq_true,Bool.or_eq_true,Bool.or_eq_true]
 simp only[decide_eq_true_eq,or_assoc]
theorem lQ {kind n:Int}{T:Tab}{p:Int×Cell}(hp:p∈T)(h:aT kind n p.2=false):dD kind n T=false:=by
 unfold dD
 rw[Bool.and_eq_false_iff]
 right
 rw[List.all_eq_false]
 exact⟨p,hp,by rw[h];simp⟩
theorem DJ {kind n:Int}{T:Tab}(hs:stateful kind=true)(h: ∀(m:Nat)(p:Int×Cell),m<T.length->T[m]?=some p->aT kind n p.2=true):dD kind n T=true:=by
 unfold dD
 rw[hs,Bool.true_and,List.all_eq_true]
 intro p hp
 obtain⟨m,hm⟩:=List.getElem?_of_mem hp
 exact h m p (List.getElem?_eq_some_iff.1 hm).1 hm
theorem qY {kind n:Int}{T:Tab}{k:Nat}{q:Int×Cell}(hy: ∀(m:Nat)(p:Int×Cell),m<k->T[m]?=some p->aT kind n p.2=true)(hq:T[k]?=some q)(h:aT kind n q.2=true):
 ∀(m:Nat)(p:Int×Cell),m<k+1->T[m]?=some p->aT kind n p.2=true:=by
 intro m p hm hp
 by_cases hmk:m<k
 ·exact hy m p hmk hp
 ·have e1:m=k:=by omega
  subst e1
  rw[hq]at hp
  injection hp with hp
  rw[<-hp];exact h
theorem Hy {k:Int}(h:stateful k=true):k=6\/k=7:=by
 unfold stateful at h
 simpa using h
theorem IU {T:Tab}(hT:cu T){m:Nat}{p:Int×Cell}(h:T[m]?=some p):iQ T p.1=some p.2:=(sQ hT).2 (List.mem_of_getElem? h)
theorem fits_any (d:JN)(a:Array Value)(B:Nat->Prop)(b m:Nat)(T:Tab)(w:World)(h:lV w a d)(hT:TabAt w B b m T):
 Calls Tryz.prog 18 #[.agg a, .pointer (some ⟨b,0,none⟩)] w (Gives w (.bool (dD d.kind d.n T))):=by
 obtain⟨pi,ci,p,cap,rfl,_,_,_,hk0,hk1,hn,_⟩:=h
 obtain⟨hn1,hn2⟩:=hn
 have kA:Kept none' w (w.alloc (.cells (aZ d pi ci p cap) 42)):=(Kept.refl _ _).alloc _
 have tA:=hT.pure kA
 have hbB:(w.alloc (.cells (aZ d pi ci p cap) 42)).heap[w.heap.size]?=some (.cells (aZ d pi ci p cap) 42 (0,0)):=heap_alloc_new _ _
 have c1:(w.alloc (.cells (aZ d pi ci p cap) 42)).cell? ⟨w.heap.size,1,none⟩=some (.int .u8 d.kind):=cells_at hbB rfl
 obtain⟨W1,hW1⟩: ∃W1,w.alloc (.cells (aZ d pi ci p cap) 42)=W1:=⟨_,rfl⟩
 have cs:=rE d.kind W1
 have ck:=rP B b m T W1 (hW1▸tA)
 rw[hW1]at kA tA hbB c1
 have H:=Lib.hid (And.intro kA (And.intro tA hbB))
 have HW:=Lib.hid hW1
 clear hW1 kA hbB hT tA
 go_enter Tryz.func18,Tryz.ntmps18
 cases hs:stateful d.kind with
 |false=>
  rw[hs]at cs
  have F:=Lib.hid (show dD d.kind d.n T=false by unfold dD;rw[hs];rfl)
  clear hs
  go_wp2_with fail
  rw[HW.out]
  refine cs.mono ?_
  rintro e w' ⟨rfl,rfl⟩
  go_wp2_with fail
  go_ret
  exact⟨aX F.out.symm,H.out.1⟩
 |true=>
  rw[hs]at cs
  have HS:=Lib.hid hs
  clear hs
  go_wp2_with fail
  rw[HW.out]
  refine cs.mono ?_
  rintro e w' ⟨rfl,rfl⟩
  go_wp2_with fail
  refine ck.mono ?_
  rintro e W2 ⟨v,rfl,hown,-,k2⟩
  obtain⟨va,vc,rfl⟩:=ay hown
  have Uo:T.length<=9223372036854775807:=by
   obtain⟨_,_,e1,e2,e3,_⟩:=(Reads.bQ hown).at
   unfold maxLen at e3
   unfold aQ at e2
   rw[List.length_map]at e2
   omega
  have hkl:(aQ T).length=T.length:=by unfold aQ;rw[List.length_map]
  rw[hkl]at hown
  have K2:=Lib.hid (And.intro (H.out.1.trans k2) (And.intro (H.out.2.1.pure k2) (And.intro (k2.heap H.out.2.2 (fun h=>h)) hown)))
  rw[hkl]
  clear hown k2 H c1
  go_wp2_with fail
  go_loopg [21] T.length (fun g vi wr=> ∃k:Nat,k<=T.length/\vi= .int .i64 (k:Int)/\T.length-k<=g/\Kept none' W2 wr/\ ∀(m:Nat)(p:Int×Cell),m<k->T[m]?=some p->aT d.kind d.n p.2=true)
  case atStart=>exact⟨0,by omega,rfl,by omega,Kept.refl _ _,fun m e hm=>by omega⟩
  case round=>
   obtain⟨k,hk,rfl,hg,hkp,hyes⟩:=hrel
   by_cases hlt:k<T.length
   ·obtain⟨q,hq⟩: ∃q,T[k]?=some q:=⟨_,List.getElem?_eq_getElem hlt⟩
    obtain⟨pa,pc,pe,_,_,hcell⟩:=((Reads.bQ K2.out.2.2.2).pure hkp).at
    injection pe with pe1 yI wW
    subst pe1 wW
    clear yI
    obtain⟨bi,rJ,rfl,hcell2⟩:=hcell.resolve_left (fun h=>by rw[h]at hkl;simp at hkl;omega)
    have y0:=hcell2 k q.1 (by unfold aQ;rw[List.getElem?_map,hq];rfl)
    clear hcell hcell2
    have cg:=get_any B b m T q.1 wr (K2.out.2.1.pure hkp)
    have hget:=IU K2.out.2.1.ok.rises hq
    unfold Ho at cg
    rw[hget]at cg
    simp only[Option.getD_some,Option.isSome_some]at cg
    obtain⟨key,acc,L⟩:=q
    have zu:=K2.out.2.1.ok.cell _ (List.mem_of_getElem? hq)
    have Ut:L.length<=16:=zu.2.2
    obtain⟨ha1,ha2⟩:bF acc:=zu.1
    have P9:=Hy HS.out
    have hB1:=hkp.heap K2.out.2.2.1 (fun h=>h)
    have HQ:=Lib.hid hq
    have Cb:=Lib.hid hyes
    have G:=Lib.hid (And.intro hg (And.intro hkp (And.intro hget hB1)))
    clear hq hyes hg hkp hget zu hB1 hk0 hk1
    simp only at cg y0
    clear hkl cs ck
    obtain⟨uid,kind,ins,x,n⟩:=d
    rcases(show kind=6\/kind=7 from P9)with k6|k6
    ·subst k6
     clear P9
     by_cases b1:0<L.length
     ·skip
      have F:=Lib.hid (lQ (List.mem_of_getElem? HQ.out) (show aT 6 n (acc,L)=false from(bM _ _ _).2 (.inl ⟨rfl,b1⟩)))
      go_wp2_with (go_at_call 60;refine cg.mono ?_;rintro e w3 ⟨lv,n',rfl,hl1,rfl,k3⟩;obtain⟨la,lc,rfl⟩:=ay hl1;have z1:w3.cell? ⟨w.heap.size,1,none⟩=some (.int .u8 6):=cells_at (k3.heap G.out.2.2.2 (fun h=>h)) rfl;have z4:w3.cell? ⟨w.heap.size,6,none⟩=some (.int .i64 n):=cells_at (k3.heap G.out.2.2.2 (fun h=>h)) rfl;have IL:w.heap.size<w3.heap.size:=block_lt_of_cell z1;have LM:=((Kept.refl none' w3).alloc (.cells #[.int .i64 acc, .slice la L.length lc] 109)).cell (fun h=>h) z1;have LK:=((Kept.refl none' w3).alloc (.cells #[.int .i64 acc, .slice la L.length lc] 109)).cell (fun h=>h) z4;clear hl1)
      go_ret
      exact⟨aX F.out.symm,K2.out.1.trans (G.out.2.1.trans (k3.trans ((Kept.refl _ _).alloc _)))⟩
     ·skip
      have F:=Lib.hid (qY Cb.out HQ.out (show aT 6 n (acc,L)=true by
       cases h:aT 6 n (acc,L)with
       |true=>rfl
       |false=>
        have h2:=(bM _ _ _).1 h
        simp only at h2
        omega))
      go_wp2_with (go_at_call 60;refine cg.mono ?_;rintro e w3 ⟨lv,n',rfl,hl1,rfl,k3⟩;obtain⟨la,lc,rfl⟩:=ay hl1;have z1:w3.cell? ⟨w.heap.size,1,none⟩=some (.int .u8 6):=cells_at (k3.heap G.out.2.2.2 (fun h=>h)) rfl;have z4:w3.cell? ⟨w.heap.size,6,none⟩=some (.int .i64 n):=cells_at (k3.heap G.out.2.2.2 (fun h=>h)) rfl;have IL:w.heap.size<w3.heap.size:=block_lt_of_cell z1;have LM:=((Kept.refl none' w3).alloc (.cells #[.int .i64 acc, .slice la L.length lc] 109)).cell (fun h=>h) z1;have LK:=((Kept.refl none' w3).alloc (.cells #[.int .i64 acc, .slice la L.length lc] 109)).cell (fun h=>h) z4;clear hl1)
      go_roundg (T.length-(k+1))
      case rel=>exact⟨k+1,by omega,by go_num,Nat.le_refl _,G.out.2.1.trans (k3.trans ((Kept.refl _ _).alloc _)),F.out⟩
      case measure=>have:=G.out.1;omega
    ·subst k6
     clear P9
     by_cases b1:acc=0
     ·by_cases b2:L.length<1
      ·skip
       have F:=Lib.hid (lQ (List.mem_of_getElem? HQ.out) (show aT 7 n (acc,L)=false from(bM _ _ _).2 (.inr ⟨rfl, .inr (.inl b2)⟩)))
       go_wp2_with (go_at_call 60;refine cg.mono ?_;rintro e w3 ⟨lv,n',rfl,hl1,rfl,k3⟩;obtain⟨la,lc,rfl⟩:=ay hl1;have z1:w3.cell? ⟨w.heap.size,1,none⟩=some (.int .u8 7):=cells_at (k3.heap G.out.2.2.2 (fun h=>h)) rfl;have z4:w3.cell? ⟨w.heap.size,6,none⟩=some (.int .i64 n):=cells_at (k3.heap G.out.2.2.2 (fun h=>h)) rfl;have IL:w.heap.size<w3.heap.size:=block_lt_of_cell z1;have LM:=((Kept.refl none' w3).alloc (.cells #[.int .i64 acc, .slice la L.length lc] 109)).cell (fun h=>h) z1;have LK:=((Kept.refl none' w3).alloc (.cells #[.int .i64 acc, .slice la L.length lc] 109)).cell (fun h=>h) z4;clear hl1)
       go_ret
       exact⟨aX F.out.symm,K2.out.1.trans (G.out.2.1.trans (k3.trans ((Kept.refl _ _).alloc _)))⟩
      ·by_cases b3:n<=(L.length:Int)
       ·skip
        have F:=Lib.hid (lQ (List.mem_of_getElem? HQ.out) (show aT 7 n (acc,L)=false from(bM _ _ _).2 (.inr ⟨rfl, .inr (.inr b3)⟩)))
        go_wp2_with (go_at_call 60;refine cg.mono ?_;rintro e w3 ⟨lv,n',rfl,hl1,rfl,k3⟩;obtain⟨la,lc,rfl⟩:=ay hl1;have z1:w3.cell? ⟨w.heap.size,1,none⟩=some (.int .u8 7):=cells_at (k3.heap G.out.2.2.2 (fun h=>h)) rfl;have z4:w3.cell? ⟨w.heap.size,6,none⟩=some (.int .i64 n):=cells_at (k3.heap G.out.2.2.2 (fun h=>h)) rfl;have IL:w.heap.size<w3.heap.size:=block_lt_of_cell z1;have LM:=((Kept.refl none' w3).alloc (.cells #[.int .i64 acc, .slice la L.length lc] 109)).cell (fun h=>h) z1;have LK:=((Kept.refl none' w3).alloc (.cells #[.int .i64 acc, .slice la L.length lc] 109)).cell (fun h=>h) z4;clear hl1)
        go_ret
        exact⟨aX F.out.symm,K2.out.1.trans (G.out.2.1.trans (k3.trans ((Kept.refl _ _).alloc _)))⟩
       ·skip
        have F:=Lib.hid (qY Cb.out HQ.out (show aT 7 n (acc,L)=true by
         cases h:aT 7 n (acc,L)with
         |true=>rfl
         |false=>
          have h2:=(bM _ _ _).1 h
          simp only at h2
          omega))
        go_wp2_with (go_at_call 60;refine cg.mono ?_;rintro e w3 ⟨lv,n',rfl,hl1,rfl,k3⟩;obtain⟨la,lc,rfl⟩:=ay hl1;have z1:w3.cell? ⟨w.heap.size,1,none⟩=some (.int .u8 7):=cells_at (k3.heap G.out.2.2.2 (fun h=>h)) rfl;have z4:w3.cell? ⟨w.heap.size,6,none⟩=some (.int .i64 n):=cells_at (k3.heap G.out.2.2.2 (fun h=>h)) rfl;have IL:w.heap.size<w3.heap.size:=block_lt_of_cell z1;have LM:=((Kept.refl none' w3).alloc (.cells #[.int .i64 acc, .slice la L.length lc] 109)).cell (fun h=>h) z1;have LK:=((Kept.refl none' w3).alloc (.cells #[.int .i64 acc, .slice la L.length lc] 109)).cell (fun h=>h) z4;clear hl1)
        go_roundg (T.length-(k+1))
        case rel=>exact⟨k+1,by omega,by go_num,Nat.le_refl _,G.out.2.1.trans (k3.trans ((Kept.refl _ _).alloc _)),F.out⟩
        case measure=>have:=G.out.1;omega
     ·skip
      have F:=Lib.hid (lQ (List.mem_of_getElem? HQ.out) (show aT 7 n (acc,L)=false from(bM _ _ _).2 (.inr ⟨rfl, .inl b1⟩)))
      go_wp2_with (go_at_call 60;refine cg.mono ?_;rintro e w3 ⟨lv,n',rfl,hl1,rfl,k3⟩;obtain⟨la,lc,rfl⟩:=ay hl1;have z1:w3.cell? ⟨w.heap.size,1,none⟩=some (.int .u8 7):=cells_at (k3.heap G.out.2.2.2 (fun h=>h)) rfl;have z4:w3.cell? ⟨w.heap.size,6,none⟩=some (.int .i64 n):=cells_at (k3.heap G.out.2.2.2 (fun h=>h)) rfl;have IL:w.heap.size<w3.heap.size:=block_lt_of_cell z1;have LM:=((Kept.refl none' w3).alloc (.cells #[.int .i64 acc, .slice la L.length lc] 109)).cell (fun h=>h) z1;have LK:=((Kept.refl none' w3).alloc (.cells #[.int .i64 acc, .slice la L.length lc] 109)).cell (fun h=>h) z4;clear hl1)
      go_ret
      exact⟨aX F.out.symm,K2.out.1.trans (G.out.2.1.trans (k3.trans ((Kept.refl _ _).alloc _)))⟩
   ·have e1:k=T.length:=by omega
    subst e1
    have F:=Lib.hid (And.intro (DJ HS.out hyes) hkp)
    clear hyes hkp
    go_wp2_with fail
    go_ret
    exact⟨aX F.out.1.symm,K2.out.1.trans F.out.2⟩
end
end Go.Proofs.YtglbkodmmogomaaGreatDoor
