/- IDEALS IN MEMORY: a map from nodes' places to tables, whose own maps are all unlike. -/
import Derived.Test.YtglbkodmmogomaaGreatDoorI27
set_option linter.unusedVariables false
set_option linter.unusedSimpArgs false
set_option maxHeartbeats 2000000
set_option maxRecDepth 100000
namespace Go.Proofs.YtglbkodmmogomaaGreatDoor
section
open Go Go.RowKit
theorem EL (key:Int)(v:Value)(k:Int): ∀l:List (Int×Value),look (upd key v l) k=if k=key then some v else look l k
 |[]=>by
  unfold upd look;by_cases h:k=key
  ·simp[h]
  ·simp[h]
 |p::r=>by
  have ih:=EL key v k r;unfold look at ih⊢;unfold upd;by_cases hp:key=p.1
  ·rw[if_pos (by simpa using hp)]
   by_cases h:k=key
   ·simp[h]
   ·have: ¬k=p.1:=fun e=>h (e.trans hp.symm)
    simp[h,this]
  ·rw[if_neg (by simpa using hp)]
   by_cases h:k=p.1
   ·have: ¬k=key:=fun e=>hp (e.symm.trans h)
    simp[h,this];intro e;exact absurd e.symm hp
   ·rw[List.find?_cons_of_neg (by simpa using h),List.find?_cons_of_neg (by simpa using h)]
    exact ih
def l7 (pm:Nat->Nat×Nat)(i:Nat):Option Tab->Option Value:=fun t=>t.map fun _=> .pointer (some ⟨(pm i).1,0,none⟩)
structure dL (w:World)(m:Nat)(Ts:Tabs)(pm:Nat->Nat×Nat):Prop where
 map: ∃l,dQ w m l/\(∀i:Nat,i<Ts.length->look l (i:Int)=l7 pm i (Ts.getD i none))/\ ∀key:Int,(key<0\/(Ts.length:Int)<=key)->look l key=none
 tab: ∀(i:Nat)(T:Tab),Ts[i]?=some (some T)->TabAt w yU (pm i).1 (pm i).2 T/\(pm i).2≠m
 dist: ∀(i k:Nat)(T U:Tab),i≠k->Ts[i]?=some (some T)->Ts[k]?=some (some U)->(pm i).2≠(pm k).2
theorem dL.lt {w:World}{m:Nat}{Ts:Tabs}{pm:Nat->Nat×Nat}(h:dL w m Ts pm):m<w.heap.size:=by obtain⟨l,h1,_⟩:=h.map;exact h1.lt
theorem dL.pure {w w':World}{m:Nat}{Ts:Tabs}{pm:Nat->Nat×Nat}(h:dL w m Ts pm)(hk:ε η w w'):dL w' m Ts pm:=by obtain⟨⟨l,h1,h2,h3⟩,h4,h5⟩:=h;exact⟨⟨l,h1.kept hk id,h2,h3⟩,fun i T hT=>⟨(h4 i T hT).1.pure hk,(h4 i T hT).2⟩,h5⟩
theorem dL.made (w:World)(nodes:List JN)(pm:Nat->Nat×Nat):dL (w.alloc (.map #[] 0)) w.heap.size (dU nodes) pm:=by
 refine⟨⟨[],dQ.made w,fun i hi=>?_,fun _ _=>rfl⟩,fun i T hT=>?_,fun i k T U _ hT=>?_⟩
 ·have:(dU nodes).getD i none=none:=by
   unfold dU;rw[σ,List.getElem?_replicate];split<;>rfl
  rw[this];rfl
 all_goals
  unfold dU at hT;rw[List.getElem?_replicate]at hT;split at hT<;>simp at hT
theorem dL.lookup {w:World}{m:Nat}{Ts:Tabs}{pm:Nat->Nat×Nat}(h:dL w m Ts pm)(i:Nat)(hi:i<Ts.length):
 (Instr.lookup 138 (.map (some m)) (.int .i64 (i:Int)) true).run Tryz.prog w= .ok (.tuple #[(l7 pm i (Ts.getD i none)).getD (.pointer none),.bool (Ts.getD i none).isSome]) w:=by
 obtain⟨⟨l,h1,h2,_⟩,_,_⟩:=h;have:=h1.lookup (P:=Tryz.prog) Tryz.underlying138 Tryz.underlying3 (i:Int) (Tryz.zeroValue43 w);rw[h2 i hi]at this;rw[this];unfold l7;cases Ts.getD i none<;>rfl
theorem dL.Yv {w:World}{m:Nat}{Ts:Tabs}{pm:Nat->Nat×Nat}(h:dL w m Ts pm)(key:Int)(hi:key<0\/(Ts.length:Int)<=key):
 (Instr.lookup 138 (.map (some m)) (.int .i64 key) true).run Tryz.prog w= .ok (.tuple #[.pointer none,.bool false]) w:=by
 obtain⟨⟨l,h1,_,h3⟩,_,_⟩:=h;have:=h1.lookup (P:=Tryz.prog) Tryz.underlying138 Tryz.underlying3 key (Tryz.zeroValue43 w);rwa[h3 key hi]at this
theorem dL.turn {w w':World}{m:Nat}{Ts:Tabs}{pm:Nat->Nat×Nat}(h:dL w m Ts pm){i:Nat}{T T':Tab}(hT:Ts[i]?=some (some T))(hk:ε (one (pm i).2) w w')(ht:TabAt w' yU (pm i).1 (pm i).2 T'):
 dL w' m (Ts.set i (some T')) pm:=by
 have hnot:=(h.tab i T hT).1.jT;have hne:=(h.tab i T hT).2;have hlen:i<Ts.length:=(μ.1 hT).1;have hget: ∀(k:Nat)(U:Tab),k≠i->(Ts.set i (some T'))[k]?=some (some U)->Ts[k]?=some (some U):=fun k U hki h=>(by rwa[List.getElem?_set_ne (fun e=>hki e.symm)]at h);obtain⟨⟨l,h1,h2,h3⟩,h4,h5⟩:=h;refine⟨⟨l,h1.kept hk (fun e=>hne e.symm),fun k hkl=>?_,fun key hkey=>h3 key (by simpa using hkey)⟩,fun k U hU=>?_,fun k n U V hkn hU hV=>?_⟩
 ·have hkl':k<Ts.length:=by simpa using hkl
  rw[h2 k hkl'];by_cases hki:k=i
  ·subst hki
   rw[σ,σ,List.getElem?_set_self hlen,hT];rfl
  ·rw[σ,σ,List.getElem?_set_ne (fun e=>hki e.symm)]
 ·by_cases hki:k=i
  ·subst hki
   rw[List.getElem?_set_self hlen]at hU
   injection hU with hU
   injection hU with hU
   subst hU;exact⟨ht,hne⟩
  ·have xG:=hget k U hki hU
   refine⟨(h4 k U xG).1.kept hk (fun q hq _ _ c E f e=>?_) (fun e=>h5 k i U T hki xG hT e),(h4 k U xG).2⟩;cases hq;exact hnot c E f e
 ·by_cases hki:k=i
  ·subst hki
   have hV':=hget n V (fun e=>hkn e.symm) hV;exact h5 k n T V hkn hT hV'
  ·have xG:=hget k U hki hU
   by_cases hni:n=i
   ·subst hni
    exact h5 k n U T hkn xG hT
   ·exact h5 k n U V hkn xG (hget n V hni hV)
theorem dL.lay {w w':World}{m:Nat}{Ts:Tabs}{pm:Nat->Nat×Nat}(h:dL w m Ts pm){i:Nat}(hi:i<Ts.length)(hno:Ts.getD i none=none){b tm:Nat}{T:Tab}(ht:TabAt w yU b tm T)(hm:tm≠m)
 (hd: ∀(k:Nat)(U:Tab),Ts[k]?=some (some U)->(pm k).2≠tm) {l':List (Int×Value)} (hl: ∀l,dQ w m l->l'=upd (i:Int) (.pointer (some ⟨b,0,none⟩)) l->dQ w' m l') (hk:ε (one m) w w')
 (he: ∃l,dQ w m l/\(∀i:Nat,i<Ts.length->look l (i:Int)=l7 pm i (Ts.getD i none))/\(∀key:Int,(key<0\/(Ts.length:Int)<=key)->look l key=none)/\l'=upd (i:Int) (.pointer (some ⟨b,0,none⟩)) l):
 dL w' m (Ts.set i (some T)) (fun k=>if k=i then(b,tm)else pm k):=by
 obtain⟨l,h1,h2,h3,rfl⟩:=he;have hmn:lS w (one m) yU:=lS.map h1 _;have hset: ∀(k:Nat)(U:Tab),k≠i->(Ts.set i (some T))[k]?=some (some U)->Ts[k]?=some (some U):=fun k U hki h=>(by rwa[List.getElem?_set_ne (fun e=>hki e.symm)]at h);obtain⟨_,h4,h5⟩:=h;refine⟨⟨_,hl l h1 rfl,fun k hkl=>?_,fun key hkey=>?_⟩,fun k U hU=>?_,fun k n U V hkn hU hV=>?_⟩
 ·have hkl':k<Ts.length:=by simpa using hkl
  rw[EL];by_cases hki:k=i
  ·subst hki
   rw[if_pos rfl,σ,List.getElem?_set_self hi];simp[l7]
  ·rw[if_neg (by omega),h2 k hkl',σ,σ,List.getElem?_set_ne (fun e=>hki e.symm)]
   simp[l7,hki]
 ·have hkey':key<0\/(Ts.length:Int)<=key:=by simpa using hkey
  rw[EL,if_neg (by omega)];exact h3 key hkey'
 ·by_cases hki:k=i
  ·subst hki
   rw[List.getElem?_set_self hi]at hU
   injection hU with hU
   injection hU with hU
   subst hU;simp only[if_true];exact⟨ht.kept hk hmn (fun e=>hm e),hm⟩
  ·simp only[if_neg hki]
   have xG:=hset k U hki hU;exact⟨(h4 k U xG).1.kept hk hmn (fun e=>(h4 k U xG).2 e),(h4 k U xG).2⟩
 ·by_cases hki:k=i
  ·have hni: ¬n=i:=fun e=>hkn (hki.trans e.symm)
   simp only[if_pos hki,if_neg hni];exact fun e=>hd n V (hset n V hni hV) e.symm
  ·simp only[if_neg hki]
   have xG:=hset k U hki hU;by_cases hni:n=i
   ·simp only[if_pos hni]
    exact hd k U xG
   ·simp only[if_neg hni]
    exact h5 k n U V hkn xG (hset n V hni hV)
theorem dL.update {w:World}{m:Nat}{Ts:Tabs}{pm:Nat->Nat×Nat}(h:dL w m Ts pm){i:Nat}(hi:i<Ts.length)(hno:Ts.getD i none=none){b tm:Nat}{T:Tab}(ht:TabAt w yU b tm T)(hm:tm≠m)
 (hd: ∀(k:Nat)(U:Tab),Ts[k]?=some (some U)->(pm k).2≠tm):
 ∃w',(Instr.mapUpdate 138 (.map (some m)) (.int .i64 (i:Int)) (.pointer (some ⟨b,0,none⟩))).run Tryz.prog w= .ok () w'/\dL w' m (Ts.set i (some T)) (fun k=>if k=i then(b,tm)else pm k)/\ε (one m) w w'/\w'.heap.size=w.heap.size:=by
 obtain⟨l,h1,h2,h3⟩:=h.map;obtain⟨w',u1,u2,u3,u4⟩:=h1.update (P:=Tryz.prog) Tryz.underlying138 Tryz.underlying3 (i:Int) (.pointer (some ⟨b,0,none⟩));exact⟨w',u1,h.lay hi hno ht hm hd (l':=upd (i:Int) (.pointer (some ⟨b,0,none⟩)) l) (fun l0 _ e=>e▸(by rw[<-e];exact u2)) u3 ⟨l,h1,h2,h3,rfl⟩,u3,u4⟩
theorem dL.fresh {w:World}{m:Nat}{Ts:Tabs}{pm:Nat->Nat×Nat}(h:dL w m Ts pm){tm:Nat}(htm:w.heap.size<=tm):tm≠m/\ ∀(k:Nat)(U:Tab),Ts[k]?=some (some U)->(pm k).2≠tm:=by
 refine⟨fun e=>?_,fun k U hU e=>?_⟩
 ·have:=h.lt;omega
 ·have:=(h.tab k U hU).1.lt.1;omega
structure vM (w:World)(b m:Nat)(j:Jb)(Ts:Tabs)(pm:Nat->Nat×Nat):Prop where
 obj: ∃v,w.heap[b]?=some (.cells #[.int .i64 j.par,v,.map (some m)] 140 (0,0))/\gI w v j.nodes
 par:aH j.par
 tabs:dL w m Ts pm
theorem vM.pure {w w':World}{b m:Nat}{j:Jb}{Ts:Tabs}{pm:Nat->Nat×Nat}(h:vM w b m j Ts pm)(hk:ε η w w'):vM w' b m j Ts pm:=by obtain⟨⟨v,h1,h2⟩,h3,h4⟩:=h;exact⟨⟨v,hk.heap h1 id,h2.pure hk⟩,h3,h4.pure hk⟩
structure dN (w:World)(M:Nat->Prop)(m:Nat)(Ts:Tabs)(pm:Nat->Nat×Nat):Prop where
 at_:dL w m Ts pm
 out: ∀(i:Nat)(T:Tab),Ts[i]?=some (some T)->TabAt w M (pm i).1 (pm i).2 T
theorem dN.of {w:World}{M:Nat->Prop}{mb m:Nat}{Ts:Tabs}{pm:Nat->Nat×Nat}(h:dN w M m Ts pm)(hmb:w.heap.size<=mb):dN w (fun k=>(M k\/w.heap.size<=k)/\k≠mb) m Ts pm:=
 ⟨h.at_,fun i T hT=>(h.out i T hT).mono (fun k hM hk=>⟨.inl hM,by omega⟩)⟩
theorem dN.any {w:World}{m:Nat}{Ts:Tabs}{pm:Nat->Nat×Nat}(h:dL w m Ts pm):dN w yU m Ts pm:=⟨h,fun i T hT=>(h.tab i T hT).1⟩
theorem dN.mono {w:World}{M M':Nat->Prop}{m:Nat}{Ts:Tabs}{pm:Nat->Nat×Nat}(h:dN w M m Ts pm)(hM: ∀k,M k->k<w.heap.size->M' k):dN w M' m Ts pm:=
 ⟨h.at_,fun i T hT=>(h.out i T hT).mono hM⟩
theorem dN.pure {w w':World}{M:Nat->Prop}{m:Nat}{Ts:Tabs}{pm:Nat->Nat×Nat}(h:dN w M m Ts pm)(hk:ε η w w'):dN w' M m Ts pm:=
 ⟨h.at_.pure hk,fun i T hT=>(h.out i T hT).pure hk⟩
theorem dN.abN {S:Nat->Prop}{w w':World}{M:Nat->Prop}{m:Nat}{Ts:Tabs}{pm:Nat->Nat×Nat}(h:dN w M m Ts pm)(hM: ∀k,S k-> ¬M k)(hm: ¬S m)(hk:ε S w w'):dN w' M m Ts pm:=by have hnc:lS w S M:=fun k h1 h2=>absurd h2 (hM k h1);have ho: ∀(i:Nat)(T:Tab),Ts[i]?=some (some T)->TabAt w' M (pm i).1 (pm i).2 T:=fun i T hT=>(h.out i T hT).kept hk hnc (fun e=>hM _ e (h.out i T hT).hm);refine⟨⟨?_,fun i T hT=>⟨(ho i T hT).any,(h.at_.tab i T hT).2⟩,h.at_.dist⟩,ho⟩;obtain⟨l,h1,h2,h3⟩:=h.at_.map;exact⟨l,h1.kept hk hm,h2,h3⟩
theorem dN.store {w w':World}{M:Nat->Prop}{mb m:Nat}{Ts:Tabs}{pm:Nat->Nat×Nat}(h:dN w M m Ts pm)(hM: ¬M mb)(hm:m≠mb)(hk:ε (one mb) w w'):dN w' M m Ts pm:=
 h.abN (S:=one mb) (fun q (e:q=mb)=>by rw[e];exact hM) hm hk
theorem dN.turn {w w':World}{M:Nat->Prop}{m:Nat}{Ts:Tabs}{pm:Nat->Nat×Nat}(h:dN w M m Ts pm){i:Nat}{T T':Tab}(hT:Ts[i]?=some (some T))(hk:ε (one (pm i).2) w w')
 (ht:TabAt w' M (pm i).1 (pm i).2 T'):dN w' M m (Ts.set i (some T')) pm:=by
 refine⟨h.at_.turn hT hk ht.any,fun k U hU=>?_⟩;have hlen:i<Ts.length:=(μ.1 hT).1;by_cases hki:k=i
 ·subst hki
  rw[List.getElem?_set_self hlen]at hU
  injection hU with hU
  injection hU with hU
  subst hU;exact ht
 ·rw[List.getElem?_set_ne (fun e=>hki e.symm)]at hU
  obtain⟨l,h1,_⟩:=(h.at_.tab i T hT).1.map;exact(h.out k U hU).kept hk (lS.map h1 _) (h.at_.dist k i U T hki hU hT)
theorem dN.update {w:World}{M:Nat->Prop}{m:Nat}{Ts:Tabs}{pm:Nat->Nat×Nat}(h:dN w M m Ts pm){i:Nat}(hi:i<Ts.length)(hno:Ts.getD i none=none){b tm:Nat}{T:Tab}(ht:TabAt w M b tm T)(hm:tm≠m)
 (hd: ∀(k:Nat)(U:Tab),Ts[k]?=some (some U)->(pm k).2≠tm):
 ∃w',(Instr.mapUpdate 138 (.map (some m)) (.int .i64 (i:Int)) (.pointer (some ⟨b,0,none⟩))).run Tryz.prog w= .ok () w'/\dN w' M m (Ts.set i (some T)) (fun k=>if k=i then(b,tm)else pm k)/\ε (one m) w w'/\w'.heap.size=w.heap.size:=by
 obtain⟨w',u1,u2,u3,u4⟩:=h.at_.update hi hno ht.any hm hd;obtain⟨l,h1,_⟩:=h.at_.map;refine⟨w',u1,⟨u2,fun k U hU=>?_⟩,u3,u4⟩;by_cases hki:k=i
 ·subst hki
  rw[List.getElem?_set_self hi]at hU;cases hU;simp only[if_true];exact ht.kept u3 (lS.map h1 _) (fun e=>hm e)
 ·simp only[if_neg hki]
  rw[List.getElem?_set_ne (fun e=>hki e.symm)]at hU;exact(h.out k U hU).kept u3 (lS.map h1 _) (fun e=>(h.at_.tab k U hU).2 e)
theorem dN.made (w:World)(M:Nat->Prop)(nodes:List JN)(pm:Nat->Nat×Nat):dN (w.alloc (.map #[] 0)) M w.heap.size (dU nodes) pm:=
 ⟨dL.made w nodes pm,fun i T hT=>by
   unfold dU at hT;rw[List.getElem?_replicate]at hT
   split at hT<;>simp at hT⟩
end
section
open Go Go.RowKit
attribute [local irreducible] cZ
theorem eG (kind n:Int)(c:Cell):bC kind n c=false↔(kind=6/\0<c.2.length)\/(kind=7/\(c.1≠0\/c.2.length<1\/n<=(c.2.length:Int))):=by unfold bC;rw[Bool.and_eq_false_iff,Bool.not_eq_false',Bool.not_eq_false',Φ,Φ,Bool.or_eq_true,Bool.or_eq_true];simp only[decide_eq_true_eq,or_assoc]
theorem qc {kind n:Int}{T:Tab}{p:Int×Cell}(hp:p∈T)(h:bC kind n p.2=false):fD kind n T=false:=by unfold fD;rw[Bool.and_eq_false_iff];right;rw[List.all_eq_false];exact⟨p,hp,by rw[h];simp⟩
theorem JA {kind n:Int}{T:Tab}(hs:stateful kind=true)(h: ∀(m:Nat)(p:Int×Cell),m<T.length->T[m]?=some p->bC kind n p.2=true):fD kind n T=true:=by unfold fD;rw[hs,Bool.true_and,List.all_eq_true];intro p hp;obtain⟨m,hm⟩:=List.getElem?_of_mem hp;exact h m p (μ.1 hm).1 hm
theorem wP {kind n:Int}{T:Tab}{k:Nat}{q:Int×Cell}(hy: ∀(m:Nat)(p:Int×Cell),m<k->T[m]?=some p->bC kind n p.2=true)(hq:T[k]?=some q)(h:bC kind n q.2=true):
 ∀(m:Nat)(p:Int×Cell),m<k+1->T[m]?=some p->bC kind n p.2=true:=by
 intro m p hm hp;by_cases hmk:m<k
 ·exact hy m p hmk hp
 ·have e1:m=k:=by omega
  subst e1;rw[hq]at hp
  injection hp with hp
  rw[<-hp];exact h
theorem DF {k:Int}(h:stateful k=true):k=6\/k=7:=by unfold stateful at h;simpa using h
theorem acM {T:Tab}(hT:dJ T){m:Nat}{p:Int×Cell}(h:T[m]?=some p):bY T p.1=some p.2:=(nS hT).2 (ς h)
theorem fits_any (d:JN)(a:Array Value)(B:Nat->Prop)(b m:Nat)(T:Tab)(w:World)(h:nO w a d)(hT:TabAt w B b m T):
 Calls Tryz.prog 18 #[.agg a,.pointer (some ⟨b,0,none⟩)] w (Gives w (.bool (fD d.kind d.n T))):=by
 obtain⟨pi,ci,p,cap,rfl,_,_,_,hk0,hk1,hn,_⟩:=h;obtain⟨hn1,hn2⟩:=hn;have kA:ε η w (w.alloc (.cells (bG d pi ci p cap) 42)):=δ.alloc _;have tA:=hT.pure kA;have hbB:(w.alloc (.cells (bG d pi ci p cap) 42)).heap[w.heap.size]?=some (.cells (bG d pi ci p cap) 42 (0,0)):=heap_alloc_new _ _;have c1:(w.alloc (.cells (bG d pi ci p cap) 42)).cell? ⟨w.heap.size,1,none⟩=some (.int .u8 d.kind):=ζ hbB rfl;obtain⟨W1,hW1⟩:=acf (w.alloc (.cells (bG d pi ci p cap) 42));have cs:=wV d.kind W1;have ck:=Py B b m T W1 (hW1▸tA);rw[hW1]at kA tA hbB c1;have H:=γ (θ kA (θ tA hbB));have HW:=γ hW1;clear hW1 kA hbB hT tA;go_enter Tryz.func18,Tryz.ntmps18
 cases hs:stateful d.kind with
 |false=>rw[hs]at cs;have F:=γ (show fD d.kind d.n T=false by unfold fD;rw[hs];rfl);clear hs;go_wp2_with fail;rw[HW.o];refine cs.mono ?_;rintro e w' ⟨rfl,rfl⟩;go_wp2_with fail;go_ret;exact⟨bK F.o.symm,H.o.1⟩
 |true=>
  rw[hs]at cs;have HS:=γ hs;clear hs;go_wp2_with fail;rw[HW.o];refine cs.mono ?_;rintro e w' ⟨rfl,rfl⟩;go_wp2_with fail;refine ck.mono ?_;rintro e W2 ⟨v,rfl,hown,-,k2⟩;obtain⟨va,vc,rfl⟩:=au hown;have hlen63:T.length<=9223372036854775807:=(by obtain⟨_,_,e1,e2,e3,_⟩:=(Reads.aN hown).at;unfold maxLen at e3;unfold bT at e2;rw[List.length_map]at e2;omega);have hkl:(bT T).length=T.length:=(by unfold bT;rw[List.length_map]);rw[hkl]at hown;have K2:=γ (θ (H.o.1.trans k2) (θ (H.o.2.1.pure k2) (θ (k2.heap H.o.2.2 id) hown)));rw[hkl];clear hown k2 H c1;go_wp2_with fail;go_loopg [21] T.length (fun g vi wr=> ∃k:Nat,k<=T.length/\vi= .int .i64 (k:Int)/\T.length-k<=g/\ε η W2 wr/\ ∀(m:Nat)(p:Int×Cell),m<k->T[m]?=some p->bC d.kind d.n p.2=true)
  case atStart=>exact⟨0,by omega,rfl,by omega,ε.refl _ _,fun m e hm=>by omega⟩
  case round=>
   obtain⟨k,hk,rfl,hg,hkp,hyes⟩:=hrel;by_cases hlt:k<T.length
   ·obtain⟨q,hq⟩: ∃q,T[k]?=some q:=⟨_,ι hlt⟩
    obtain⟨pa,pc,pe,_,_,hcell⟩:=((Reads.aN K2.o.2.2.2).pure hkp).at
    injection pe with pe1 DU BJ
    subst pe1 BJ;clear DU;obtain⟨bi,bV,rfl,hcell2⟩:=hcell.resolve_left (fun h=>by rw[h]at hkl;simp at hkl;omega);have y0:=hcell2 k q.1 (by unfold bT;rw[abJ,hq];rfl);clear hcell hcell2;have cg:=get_any B b m T q.1 wr (K2.o.2.1.pure hkp);have hget:=acM K2.o.2.1.ok.rises hq;unfold Q7 at cg;rw[hget]at cg;simp only[Δ,Option.isSome_some]at cg;obtain⟨key,acc,L⟩:=q;have EP:=K2.o.2.1.ok.cell _ (ς hq);have ahS:L.length<=16:=EP.2.2;obtain⟨ha1,ha2⟩:aH acc:=EP.1;have P8:=DF HS.o;have hB1:=hkp.heap K2.o.2.2.1 id;have HQ:=γ hq;have Iu:=γ hyes;have G:=γ (θ hg (θ hkp (θ hget hB1)));clear hq hyes hg hkp hget EP hB1 hk0 hk1;simp only at cg y0;clear hkl cs ck;obtain⟨uid,kind,ins,x,n⟩:=d
    rcases(show kind=6\/kind=7 from P8)with k6|k6
    ·subst k6
     clear P8;by_cases b1:0<L.length
     ·skip
      have F:=γ (qc (ς HQ.o) (show bC 6 n (acc,L)=false from(eG _ _ _).2 (.inl ⟨rfl,b1⟩)));go_wp2_with (go_at_call 60;refine cg.mono ?_;rintro e w3 ⟨lv,n',rfl,hl1,rfl,k3⟩;obtain⟨la,lc,rfl⟩:=au hl1;have z1:w3.cell? ⟨w.heap.size,1,none⟩=some (.int .u8 6):=ζ (k3.heap G.o.2.2.2 id) rfl;have z4:w3.cell? ⟨w.heap.size,6,none⟩=some (.int .i64 n):=ζ (k3.heap G.o.2.2.2 id) rfl;have SX:w.heap.size<w3.heap.size:=block_lt_of_cell z1;have V7:=((ε.refl η w3).alloc (.cells #[.int .i64 acc,.slice la L.length lc] 109)).cell id z1;have V6:=((ε.refl η w3).alloc (.cells #[.int .i64 acc,.slice la L.length lc] 109)).cell id z4;clear hl1);go_ret;exact⟨bK F.o.symm,K2.o.1.trans (G.o.2.1.trans (k3.trans (δ.alloc _)))⟩
     ·skip
      have F:=γ (wP Iu.o HQ.o (show bC 6 n (acc,L)=true by
       cases h:bC 6 n (acc,L)with
       |true=>rfl
       |false=>
        have h2:=(eG _ _ _).1 h;simp only at h2
        omega))
      go_wp2_with (go_at_call 60;refine cg.mono ?_;rintro e w3 ⟨lv,n',rfl,hl1,rfl,k3⟩;obtain⟨la,lc,rfl⟩:=au hl1;have z1:w3.cell? ⟨w.heap.size,1,none⟩=some (.int .u8 6):=ζ (k3.heap G.o.2.2.2 id) rfl;have z4:w3.cell? ⟨w.heap.size,6,none⟩=some (.int .i64 n):=ζ (k3.heap G.o.2.2.2 id) rfl;have SX:w.heap.size<w3.heap.size:=block_lt_of_cell z1;have V7:=((ε.refl η w3).alloc (.cells #[.int .i64 acc,.slice la L.length lc] 109)).cell id z1;have V6:=((ε.refl η w3).alloc (.cells #[.int .i64 acc,.slice la L.length lc] 109)).cell id z4;clear hl1);go_roundg (T.length-(k+1))
      case rel=>exact⟨k+1,by omega,by go_num,ξ _,G.o.2.1.trans (k3.trans (δ.alloc _)),F.o⟩
      case measure=>have:=G.o.1;omega
    ·subst k6
     clear P8;by_cases b1:acc=0
     ·by_cases b2:L.length<1
      ·skip
       have F:=γ (qc (ς HQ.o) (show bC 7 n (acc,L)=false from(eG _ _ _).2 (.inr ⟨rfl,.inr (.inl b2)⟩)));go_wp2_with (go_at_call 60;refine cg.mono ?_;rintro e w3 ⟨lv,n',rfl,hl1,rfl,k3⟩;obtain⟨la,lc,rfl⟩:=au hl1;have z1:w3.cell? ⟨w.heap.size,1,none⟩=some (.int .u8 7):=ζ (k3.heap G.o.2.2.2 id) rfl;have z4:w3.cell? ⟨w.heap.size,6,none⟩=some (.int .i64 n):=ζ (k3.heap G.o.2.2.2 id) rfl;have SX:w.heap.size<w3.heap.size:=block_lt_of_cell z1;have V7:=((ε.refl η w3).alloc (.cells #[.int .i64 acc,.slice la L.length lc] 109)).cell id z1;have V6:=((ε.refl η w3).alloc (.cells #[.int .i64 acc,.slice la L.length lc] 109)).cell id z4;clear hl1);go_ret;exact⟨bK F.o.symm,K2.o.1.trans (G.o.2.1.trans (k3.trans (δ.alloc _)))⟩
      ·by_cases b3:n<=(L.length:Int)
       ·skip
        have F:=γ (qc (ς HQ.o) (show bC 7 n (acc,L)=false from(eG _ _ _).2 (.inr ⟨rfl,.inr (.inr b3)⟩)));go_wp2_with (go_at_call 60;refine cg.mono ?_;rintro e w3 ⟨lv,n',rfl,hl1,rfl,k3⟩;obtain⟨la,lc,rfl⟩:=au hl1;have z1:w3.cell? ⟨w.heap.size,1,none⟩=some (.int .u8 7):=ζ (k3.heap G.o.2.2.2 id) rfl;have z4:w3.cell? ⟨w.heap.size,6,none⟩=some (.int .i64 n):=ζ (k3.heap G.o.2.2.2 id) rfl;have SX:w.heap.size<w3.heap.size:=block_lt_of_cell z1;have V7:=((ε.refl η w3).alloc (.cells #[.int .i64 acc,.slice la L.length lc] 109)).cell id z1;have V6:=((ε.refl η w3).alloc (.cells #[.int .i64 acc,.slice la L.length lc] 109)).cell id z4;clear hl1);go_ret;exact⟨bK F.o.symm,K2.o.1.trans (G.o.2.1.trans (k3.trans (δ.alloc _)))⟩
       ·skip
        have F:=γ (wP Iu.o HQ.o (show bC 7 n (acc,L)=true by
         cases h:bC 7 n (acc,L)with
         |true=>rfl
         |false=>
          have h2:=(eG _ _ _).1 h;simp only at h2
          omega))
        go_wp2_with (go_at_call 60;refine cg.mono ?_;rintro e w3 ⟨lv,n',rfl,hl1,rfl,k3⟩;obtain⟨la,lc,rfl⟩:=au hl1;have z1:w3.cell? ⟨w.heap.size,1,none⟩=some (.int .u8 7):=ζ (k3.heap G.o.2.2.2 id) rfl;have z4:w3.cell? ⟨w.heap.size,6,none⟩=some (.int .i64 n):=ζ (k3.heap G.o.2.2.2 id) rfl;have SX:w.heap.size<w3.heap.size:=block_lt_of_cell z1;have V7:=((ε.refl η w3).alloc (.cells #[.int .i64 acc,.slice la L.length lc] 109)).cell id z1;have V6:=((ε.refl η w3).alloc (.cells #[.int .i64 acc,.slice la L.length lc] 109)).cell id z4;clear hl1);go_roundg (T.length-(k+1))
        case rel=>exact⟨k+1,by omega,by go_num,ξ _,G.o.2.1.trans (k3.trans (δ.alloc _)),F.o⟩
        case measure=>have:=G.o.1;omega
     ·skip
      have F:=γ (qc (ς HQ.o) (show bC 7 n (acc,L)=false from(eG _ _ _).2 (.inr ⟨rfl,.inl b1⟩)));go_wp2_with (go_at_call 60;refine cg.mono ?_;rintro e w3 ⟨lv,n',rfl,hl1,rfl,k3⟩;obtain⟨la,lc,rfl⟩:=au hl1;have z1:w3.cell? ⟨w.heap.size,1,none⟩=some (.int .u8 7):=ζ (k3.heap G.o.2.2.2 id) rfl;have z4:w3.cell? ⟨w.heap.size,6,none⟩=some (.int .i64 n):=ζ (k3.heap G.o.2.2.2 id) rfl;have SX:w.heap.size<w3.heap.size:=block_lt_of_cell z1;have V7:=((ε.refl η w3).alloc (.cells #[.int .i64 acc,.slice la L.length lc] 109)).cell id z1;have V6:=((ε.refl η w3).alloc (.cells #[.int .i64 acc,.slice la L.length lc] 109)).cell id z4;clear hl1);go_ret;exact⟨bK F.o.symm,K2.o.1.trans (G.o.2.1.trans (k3.trans (δ.alloc _)))⟩
   ·have e1:k=T.length:=by omega
    subst e1;have F:=γ (θ (JA HS.o hyes) hkp);clear hyes hkp;go_wp2_with fail;go_ret;exact⟨bK F.o.1.symm,K2.o.1.trans F.o.2⟩
end
