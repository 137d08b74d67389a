/- IDEALS IN PLAIN WORDS: what is loaded, which states there are; what was told may be loaded. -/
import Derived.Test.YtopeleenlcnkkaaGreatDoorM27
import Derived.Test.YtopeleenlcnkkaaGreatDoorM22
set_option linter.unusedVariables false
set_option linter.unusedSimpArgs false
namespace Go.Proofs.YtopeleenlcnkkaaGreatDoor
open Go Go.RowKit
def nodeAt (nodes:List JN)(i:Int):JN:=nodes.getD i.toNat default
def dI (nodes:List JN):List St->Tabs->Except Int Tabs
 |[],Ts=> .ok Ts
 |s::l,Ts=>
  if aP nodes s.1<0\/stateful (nodeAt nodes (aP nodes s.1)).kind=false\/(Ts.getD (aP nodes s.1).toNat none).isSome=true then .error 180
  else match jE s.2.data.toList with
   | .err e=> .error e
   | .ok T _=>if eY (nodeAt nodes (aP nodes s.1)).kind (nodeAt nodes (aP nodes s.1)).n T=true then dI nodes l (Ts.set (aP nodes s.1).toNat (some T))else .error 181
def bV (nodes:List JN):Tabs:=List.replicate nodes.length none
def dH (j:Jb)(l:List St):Except Int Tabs:=
 if dw j=true then(match dI j.nodes l (bV j.nodes)with| .ok Ts=> .ok (kF j.nodes Ts)| .error e=> .error e)else .error 2
def uG (p:JN×Option Tab):Option St:=p.2.map fun T=>(p.1.uid,strOf (aV (lq T)))
def aB (nodes:List JN)(Ts:Tabs):List St:=(nodes.zip Ts).filterMap uG
structure bY (nodes:List JN)(Ts:Tabs):Prop where
 len:Ts.length=nodes.length
 has: ∀(i:Nat)(d:JN),nodes[i]?=some d->stateful d.kind=true-> ∃T,Ts[i]?=some (some T)/\dB T/\eY d.kind d.n T=true
 not: ∀(i:Nat)(d:JN),nodes[i]?=some d->stateful d.kind=false->Ts[i]?=some none
structure oO (nodes:List JN)(Ts:Tabs):Prop where
 len:Ts.length=nodes.length
 has: ∀(i:Nat)(d:JN)(T:Tab),nodes[i]?=some d->Ts[i]?=some (some T)->stateful d.kind=true/\dB T/\eY d.kind d.n T=true
theorem kU (nodes:List JN)(uid:ByteArray):(aP nodes uid= -1/\ ∀d∈nodes,d.uid≠uid)\/
 ∃i d,aP nodes uid=((i:Nat):Int)/\nodes[i]?=some d/\d.uid=uid/\nodeAt nodes (aP nodes uid)=d/\ ∀(k:Nat)(e:JN),k<i->nodes[k]?=some e->e.uid≠uid:=by
 unfold aP
 cases h:nodes.findIdx? (fun d=>decide (d.uid=uid))with
 |none=>
  left
  rw[List.findIdx?_eq_none_iff]at h
  exact⟨rfl,fun d hd=>by simpa using h d hd⟩
 |some i=>
  right
  obtain⟨hi,h1,h2⟩:=List.findIdx?_eq_some_iff_getElem.1 h
  refine⟨i,nodes[i],rfl,List.getElem?_eq_getElem hi,by simpa using h1,?_,fun k e hk he=>?_⟩
  ·unfold nodeAt;simp[List.getD_eq_getElem?_getD,hi]
  ·obtain⟨hk',rfl⟩:=List.getElem?_eq_some_iff.1 he
   simpa using h2 k hk
theorem zx (nodes:List JN):oO nodes (bV nodes):=⟨by simp[bV],fun i d T _ h=>by
 unfold bV at h
 rw[List.getElem?_replicate]at h
 split at h<;>simp at h⟩
theorem oO.set {nodes:List JN}{Ts:Tabs}(h:oO nodes Ts){i:Nat}{d:JN}{T:Tab}(hd:nodes[i]?=some d)(hs:stateful d.kind=true)(hT:dB T)(hf:eY d.kind d.n T=true):oO nodes (Ts.set i (some T)):=by
 refine⟨by simpa using h.len,fun k e U he hU=>?_⟩
 rw[List.getElem?_set]at hU
 split at hU
 ·rename_i hik
  subst hik
  split at hU
  ·injection hU with hU;injection hU with hU;subst hU
   rw[hd]at he;injection he with he;subst he
   exact⟨hs,hT,hf⟩
  ·cases hU
 ·exact h.has k e U he hU
theorem BQ {nodes:List JN}: ∀{l:List St}{Ts Us:Tabs},oO nodes Ts->dI nodes l Ts= .ok Us->oO nodes Us
 |[],Ts,Us,h,e=>by injection e with e;subst e;exact h
 |s::l,Ts,Us,h,e=>by
  unfold dI at e
  split at e
  ·cases e
  ·rename_i hno
   simp only[not_or,Bool.not_eq_false,Bool.not_eq_true]at hno
   obtain⟨h1,h2,h3⟩:=hno
   rcases kU nodes s.1 with⟨h4,_⟩|⟨i,d,h4,h5,_,h6,_⟩
   ·omega
   rw[h6]at h2 e
   split at e
   ·cases e
   ·rename_i T r ht
    split at e
    ·rename_i hf
     refine BQ (h.set (i:=(aP nodes s.1).toNat) (d:=d) ?_ h2 (VY ht).1 hf) e
     rw[h4];exact h5
    ·cases e
theorem qj (nodes:List JN)(Ts:Tabs)(i:Nat){d:JN}{t:Option Tab}(hd:nodes[i]?=some d)(ht:Ts[i]?=some t):(kF nodes Ts)[i]?=some (if t.isNone&&stateful d.kind then some []else t):=by
 unfold kF
 rw[List.getElem?_zipWith,hd,ht]
theorem zX (nodes:List JN)(Ts:Tabs)(h:Ts.length=nodes.length):(kF nodes Ts).length=nodes.length:=by unfold kF;simp[h]
theorem XR {kind n:Int}(h:stateful kind=true):eY kind n []=true:=by unfold eY;simp[h]
theorem oO.fill {nodes:List JN}{Ts:Tabs}(h:oO nodes Ts):bY nodes (kF nodes Ts):=by
 have get: ∀(i:Nat)(d:JN),nodes[i]?=some d-> ∃t,Ts[i]?=some t:=fun i d hd=>by
  have:=(List.getElem?_eq_some_iff.1 hd).1
  exact⟨_,List.getElem?_eq_getElem (by rw[h.len];exact this)⟩
 refine⟨zX _ _ h.len,fun i d hd hs=>?_,fun i d hd hs=>?_⟩
 ·obtain⟨t,ht⟩:=get i d hd
  rw[qj nodes Ts i hd ht,hs]
  cases t with
  |none=>exact⟨[],rfl,dB.nil,XR hs⟩
  |some T=>exact⟨T,rfl,(h.has i d T hd ht).2⟩
 ·obtain⟨t,ht⟩:=get i d hd
  rw[qj nodes Ts i hd ht,hs]
  cases t with
  |none=>rfl
  |some T=>have:=(h.has i d T hd ht).1;rw[hs]at this;cases this
theorem xH {j:Jb}{l:List St}{Ts:Tabs}(h:dH j l= .ok Ts):dw j=true/\bY j.nodes Ts:=by
 unfold dH at h
 split at h
 ·rename_i hj
  cases e:dI j.nodes l (bV j.nodes)with
  |error f=>rw[e]at h;cases h
  |ok Us=>rw[e]at h;injection h with h;subst h;exact⟨hj,(BQ (zx _) e).fill⟩
 ·cases h
theorem qB {j:Jb}(h:dw j=true){i:Nat}{d:JN}(hd:j.nodes[i]?=some d):aP j.nodes d.uid=(i:Int):=by
 rcases kU j.nodes d.uid with⟨_,h2⟩|⟨k,e,h1,h2,h3,_,h4⟩
 ·exact absurd rfl (h2 d (List.mem_of_getElem? hd))
 ·by_cases hik:k=i
  ·rw[h1,hik]
  ·have key: ∀(a b:Nat)(x y:JN),a<b->j.nodes[a]?=some x->j.nodes[b]?=some y->x.uid≠y.uid:=by
    intro a b x y hab ha hb he
    have:=((lK h).2 b y hb).2.1
    unfold jS at this
    rw[decide_eq_false_iff_not]at this
    refine this (List.mem_map.2 ⟨x,?_,he⟩)
    rw[List.mem_iff_getElem?]
    exact⟨a,by rw[List.getElem?_take,if_pos hab];exact ha⟩
   rcases Nat.lt_or_gt_of_ne hik with hlt|hlt
   ·exact absurd h3 (key k i e d hlt h2 hd)
   ·exact absurd rfl (h4 i d hlt hd)
theorem uM (d:JN)(nodes:List JN)(t:Option Tab)(Ts:Tabs):aB (d::nodes) (t::Ts)=(match t with|some T=>[(d.uid,strOf (aV (lq T)))]|none=>[])++aB nodes Ts:=by
 unfold aB
 rw[List.zip_cons_cons,List.filterMap_cons]
 cases t<;>simp[uG]
theorem mF (l:List UInt8):(strOf l).data.toList=l:=rfl
theorem wP {j:Jb}{Ts:Tabs}(hj:dw j=true)(h:bY j.nodes Ts):dH j (aB j.nodes Ts)= .ok Ts:=by
 have go: ∀(m k:Nat),k+m=j.nodes.length->dI j.nodes (aB (j.nodes.drop k) (Ts.drop k)) (Ts.take k++List.replicate m none)= .ok Ts:=by
  intro m
  induction m with
  |zero=>
   intro k hk
   rw[List.drop_eq_nil_of_le (by omega),List.take_of_length_le (by have:=h.len;omega)]
   simp[aB,dI]
  |succ m ih=>
   intro k hk
   have hkn:k<j.nodes.length:=by omega
   have hkt:k<Ts.length:=by rw[h.len];exact hkn
   rw[List.drop_eq_getElem_cons hkn,List.drop_eq_getElem_cons hkt,uM]
   have hd:j.nodes[k]?=some j.nodes[k]:=List.getElem?_eq_getElem hkn
   have step:Ts.take (k+1)++List.replicate m none=(Ts.take k++List.replicate (m+1) none).set k (Ts[k]):=by
    rw[List.take_add_one,List.getElem?_eq_getElem hkt,List.set_append_right _ _ (by rw[List.length_take];omega),List.length_take]
    rw[show k-min k Ts.length=0 by omega,List.replicate_succ,List.set_cons_zero,List.append_assoc]
    rfl
   cases ht:Ts[k]with
   |none=>
    simp only[List.nil_append]
    have:=ih (k+1) (by omega)
    rw[step,ht]at this
    have e:(Ts.take k++List.replicate (m+1) none).set k (none:Option Tab)=Ts.take k++List.replicate (m+1) none:=by
     rw[List.set_append_right _ _ (by rw[List.length_take];omega),List.length_take,show k-min k Ts.length=0 by omega,List.replicate_succ,List.set_cons_zero]
    rw[e]at this
    exact this
   |some T=>
    have hs:stateful (j.nodes[k]).kind=true:=by
     cases hs:stateful (j.nodes[k]).kind with
     |true=>rfl
     |false=>have:=h.not k _ hd hs;rw[List.getElem?_eq_getElem hkt,ht]at this;cases this
    obtain⟨U,hU,hT,hf⟩:=h.has k _ hd hs
    rw[List.getElem?_eq_getElem hkt,ht]at hU
    injection hU with hU;injection hU with hU;subst hU
    have hfind:=qB hj hd
    simp only[List.cons_append,List.nil_append]
    rw[dI]
    simp only[hfind]
    have aZ:nodeAt j.nodes ((k:Nat):Int)=j.nodes[k]:=by unfold nodeAt;simp[List.getD_eq_getElem?_getD,hkn]
    rw[aZ]
    have hnone:((Ts.take k++List.replicate (m+1) none).getD (((k:Nat):Int).toNat) none).isSome=false:=by
     rw[Int.toNat_natCast,List.getD_eq_getElem?_getD,List.getElem?_append_right (by rw[List.length_take];omega),List.length_take,show k-min k Ts.length=0 by omega]
     simp[List.replicate_succ]
    rw[if_neg (by rw[hs,hnone];simp),mF,pU hT]
    simp only[hf,if_true,Int.toNat_natCast]
    have:=ih (k+1) (by omega)
    rw[step,ht]at this
    exact this
 have:=go j.nodes.length 0 (by omega)
 simp only[List.drop_zero,List.take_zero,List.nil_append]at this
 unfold dH bV
 rw[if_pos hj,this]
 simp only
 congr 1
 apply List.ext_getElem?
 intro i
 by_cases hi:i<j.nodes.length
 ·have hd:j.nodes[i]?=some j.nodes[i]:=List.getElem?_eq_getElem hi
  obtain⟨t,ht⟩: ∃t,Ts[i]?=some t:=⟨_,List.getElem?_eq_getElem (by rw[h.len];exact hi)⟩
  rw[qj j.nodes Ts i hd ht,ht]
  cases hs:stateful (j.nodes[i]).kind with
  |false=>simp
  |true=>
   obtain⟨T,hT,_⟩:=h.has i _ hd hs
   rw[hT]at ht;injection ht with ht;subst ht;simp
 ·rw[List.getElem?_eq_none (by rw[zX _ _ h.len];omega),List.getElem?_eq_none (by rw[h.len];omega)]
theorem BO (key:Int)(v:Value)(k:Int): ∀l:List (Int×Value),look (upd key v l) k=if k=key then some v else look l k
 |[]=>by
  unfold upd look
  by_cases h:k=key
  ·simp[h]
  ·simp[h]
 |p::r=>by
  have ih:=BO key v k r
  unfold look at ih⊢
  unfold upd
  by_cases hp:key=p.1
  ·rw[if_pos (by simpa using hp)]
   by_cases h:k=key
   ·simp[h]
   ·have: ¬k=p.1:=fun e=>h (e.trans hp.symm)
    simp[h,this]
  ·rw[if_neg (by simpa using hp)]
   by_cases h:k=p.1
   ·have: ¬k=key:=fun e=>hp (e.symm.trans h)
    simp[h,this]
    intro e;exact absurd e.symm hp
   ·rw[List.find?_cons_of_neg (by simpa using h),List.find?_cons_of_neg (by simpa using h)]
    exact ih
def iG (pm:Nat->Nat×Nat)(i:Nat):Option Tab->Option Value:=fun t=>t.map fun _=> .pointer (some ⟨(pm i).1,0,none⟩)
structure aY (w:World)(m:Nat)(Ts:Tabs)(pm:Nat->Nat×Nat):Prop where
 map: ∃l,aQ w m l/\(∀i:Nat,i<Ts.length->look l (i:Int)=iG pm i (Ts.getD i none))/\ ∀key:Int,(key<0\/(Ts.length:Int)<=key)->look l key=none
 tab: ∀(i:Nat)(T:Tab),Ts[i]?=some (some T)->TabAt w wX (pm i).1 (pm i).2 T/\(pm i).2≠m
 dist: ∀(i k:Nat)(T U:Tab),i≠k->Ts[i]?=some (some T)->Ts[k]?=some (some U)->(pm i).2≠(pm k).2
theorem aY.lt {w:World}{m:Nat}{Ts:Tabs}{pm:Nat->Nat×Nat}(h:aY w m Ts pm):m<w.heap.size:=by
 obtain⟨l,h1,_⟩:=h.map
 exact h1.lt
theorem aY.pure {w w':World}{m:Nat}{Ts:Tabs}{pm:Nat->Nat×Nat}(h:aY w m Ts pm)(hk:Kept none' w w'):aY w' m Ts pm:=by
 obtain⟨⟨l,h1,h2,h3⟩,h4,h5⟩:=h
 exact⟨⟨l,h1.kept hk (fun h=>h),h2,h3⟩,fun i T hT=>⟨(h4 i T hT).1.pure hk,(h4 i T hT).2⟩,h5⟩
theorem aY.made (w:World)(nodes:List JN)(pm:Nat->Nat×Nat):aY (w.alloc (.map #[] 0)) w.heap.size (bV nodes) pm:=by
 refine⟨⟨[],aQ.made w,fun i hi=>?_,fun _ _=>rfl⟩,fun i T hT=>?_,fun i k T U _ hT=>?_⟩
 ·have:(bV nodes).getD i none=none:=by
   unfold bV
   rw[List.getD_eq_getElem?_getD,List.getElem?_replicate]
   split<;>rfl
  rw[this];rfl
 all_goals
  unfold bV at hT
  rw[List.getElem?_replicate]at hT
  split at hT<;>simp at hT
theorem aY.lookup {w:World}{m:Nat}{Ts:Tabs}{pm:Nat->Nat×Nat}(h:aY w m Ts pm)(i:Nat)(hi:i<Ts.length):
 (Instr.lookup 99 (.map (some m)) (.int .i64 (i:Int)) true).run Tryz.prog w= .ok (.tuple #[(iG pm i (Ts.getD i none)).getD (.pointer none), .bool (Ts.getD i none).isSome]) w:=by
 obtain⟨⟨l,h1,h2,_⟩,_,_⟩:=h
 have:=h1.lookup (P:=Tryz.prog) Tryz.underlying99 Tryz.underlying3 (i:Int) (Tryz.zeroValue61 w)
 rw[h2 i hi]at this
 rw[this]
 unfold iG
 cases Ts.getD i none<;>rfl
theorem aY.xG {w:World}{m:Nat}{Ts:Tabs}{pm:Nat->Nat×Nat}(h:aY w m Ts pm)(i:Nat)(hi:i<Ts.length):
 (Instr.lookup 99 (.map (some m)) (.int .i64 (i:Int)) false).run Tryz.prog w= .ok ((iG pm i (Ts.getD i none)).getD (.pointer none)) w:=by
 obtain⟨⟨l,h1,h2,_⟩,_,_⟩:=h
 have:=h1.xG (P:=Tryz.prog) Tryz.underlying99 Tryz.underlying3 (i:Int) (Tryz.zeroValue61 w)
 rwa[h2 i hi]at this
theorem aY.Ub {w:World}{m:Nat}{Ts:Tabs}{pm:Nat->Nat×Nat}(h:aY w m Ts pm)(key:Int)(hi:key<0\/(Ts.length:Int)<=key):
 (Instr.lookup 99 (.map (some m)) (.int .i64 key) true).run Tryz.prog w= .ok (.tuple #[.pointer none, .bool false]) w:=by
 obtain⟨⟨l,h1,_,h3⟩,_,_⟩:=h
 have:=h1.lookup (P:=Tryz.prog) Tryz.underlying99 Tryz.underlying3 key (Tryz.zeroValue61 w)
 rwa[h3 key hi]at this
theorem aY.turn {w w':World}{m:Nat}{Ts:Tabs}{pm:Nat->Nat×Nat}(h:aY w m Ts pm){i:Nat}{T T':Tab}(hT:Ts[i]?=some (some T))(hk:Kept (one (pm i).2) w w')(ht:TabAt w' wX (pm i).1 (pm i).2 T'):
 aY w' m (Ts.set i (some T')) pm:=by
 have hnot:=(h.tab i T hT).1.jy
 have hne:=(h.tab i T hT).2
 have hlen:i<Ts.length:=(List.getElem?_eq_some_iff.1 hT).1
 have hget: ∀(k:Nat)(U:Tab),k≠i->(Ts.set i (some T'))[k]?=some (some U)->Ts[k]?=some (some U):=fun k U hki h=>by
  rwa[List.getElem?_set_ne (fun e=>hki e.symm)]at h
 obtain⟨⟨l,h1,h2,h3⟩,h4,h5⟩:=h
 refine⟨⟨l,h1.kept hk (fun e=>hne e.symm),fun k hkl=>?_,fun key hkey=>h3 key (by simpa using hkey)⟩,fun k U hU=>?_,fun k n U V hkn hU hV=>?_⟩
 ·have hkl':k<Ts.length:=by simpa using hkl
  rw[h2 k hkl']
  by_cases hki:k=i
  ·subst hki
   rw[List.getD_eq_getElem?_getD,List.getD_eq_getElem?_getD,List.getElem?_set_self hlen,hT]
   rfl
  ·rw[List.getD_eq_getElem?_getD,List.getD_eq_getElem?_getD,List.getElem?_set_ne (fun e=>hki e.symm)]
 ·by_cases hki:k=i
  ·subst hki
   rw[List.getElem?_set_self hlen]at hU
   injection hU with hU
   injection hU with hU
   subst hU
   exact⟨ht,hne⟩
  ·have xK:=hget k U hki hU
   refine⟨(h4 k U xK).1.kept hk (fun q hq _ _ c E f e=>?_) (fun e=>h5 k i U T hki xK hT e),(h4 k U xK).2⟩
   cases hq
   exact hnot c E f e
 ·by_cases hki:k=i
  ·subst hki
   have hV':=hget n V (fun e=>hkn e.symm) hV
   exact h5 k n T V hkn hT hV'
  ·have xK:=hget k U hki hU
   by_cases hni:n=i
   ·subst hni
    exact h5 k n U T hkn xK hT
   ·exact h5 k n U V hkn xK (hget n V hni hV)
theorem aY.lay {w w':World}{m:Nat}{Ts:Tabs}{pm:Nat->Nat×Nat}(h:aY w m Ts pm){i:Nat}(hi:i<Ts.length)(hno:Ts.getD i none=none){b tm:Nat}{T:Tab}(ht:TabAt w wX b tm T)(hm:tm≠m)
 (hd: ∀(k:Nat)(U:Tab),Ts[k]?=some (some U)->(pm k).2≠tm) {l':List (Int×Value)} (hl: ∀l,aQ w m l->l'=upd (i:Int) (.pointer (some ⟨b,0,none⟩)) l->aQ w' m l') (hk:Kept (one m) w w')
 (he: ∃l,aQ w m l/\(∀i:Nat,i<Ts.length->look l (i:Int)=iG pm i (Ts.getD i none))/\(∀key:Int,(key<0\/(Ts.length:Int)<=key)->look l key=none)/\l'=upd (i:Int) (.pointer (some ⟨b,0,none⟩)) l):
 aY w' m (Ts.set i (some T)) (fun k=>if k=i then(b,tm)else pm k):=by
 obtain⟨l,h1,h2,h3,rfl⟩:=he
 have hmn:iW w (one m) wX:=iW.map h1 _
 have hset: ∀(k:Nat)(U:Tab),k≠i->(Ts.set i (some T))[k]?=some (some U)->Ts[k]?=some (some U):=fun k U hki h=>by
  rwa[List.getElem?_set_ne (fun e=>hki e.symm)]at h
 obtain⟨_,h4,h5⟩:=h
 refine⟨⟨_,hl l h1 rfl,fun k hkl=>?_,fun key hkey=>?_⟩,fun k U hU=>?_,fun k n U V hkn hU hV=>?_⟩
 ·have hkl':k<Ts.length:=by simpa using hkl
  rw[BO]
  by_cases hki:k=i
  ·subst hki
   rw[if_pos rfl,List.getD_eq_getElem?_getD,List.getElem?_set_self hi]
   simp[iG]
  ·rw[if_neg (by omega),h2 k hkl',List.getD_eq_getElem?_getD,List.getD_eq_getElem?_getD,List.getElem?_set_ne (fun e=>hki e.symm)]
   simp[iG,hki]
 ·have hkey':key<0\/(Ts.length:Int)<=key:=by simpa using hkey
  rw[BO,if_neg (by omega)]
  exact h3 key hkey'
 ·by_cases hki:k=i
  ·subst hki
   rw[List.getElem?_set_self hi]at hU
   injection hU with hU
   injection hU with hU
   subst hU
   simp only[if_true]
   exact⟨ht.kept hk hmn (fun e=>hm e),hm⟩
  ·simp only[if_neg hki]
   have xK:=hset k U hki hU
   exact⟨(h4 k U xK).1.kept hk hmn (fun e=>(h4 k U xK).2 e),(h4 k U xK).2⟩
 ·by_cases hki:k=i
  ·have hni: ¬n=i:=fun e=>hkn (hki.trans e.symm)
   simp only[if_pos hki,if_neg hni]
   exact fun e=>hd n V (hset n V hni hV) e.symm
  ·simp only[if_neg hki]
   have xK:=hset k U hki hU
   by_cases hni:n=i
   ·simp only[if_pos hni]
    exact hd k U xK
   ·simp only[if_neg hni]
    exact h5 k n U V hkn xK (hset n V hni hV)
theorem aY.update {w:World}{m:Nat}{Ts:Tabs}{pm:Nat->Nat×Nat}(h:aY w m Ts pm){i:Nat}(hi:i<Ts.length)(hno:Ts.getD i none=none){b tm:Nat}{T:Tab}(ht:TabAt w wX b tm T)(hm:tm≠m)
 (hd: ∀(k:Nat)(U:Tab),Ts[k]?=some (some U)->(pm k).2≠tm):
 ∃w',(Instr.mapUpdate 99 (.map (some m)) (.int .i64 (i:Int)) (.pointer (some ⟨b,0,none⟩))).run Tryz.prog w= .ok () w'/\aY w' m (Ts.set i (some T)) (fun k=>if k=i then(b,tm)else pm k)/\Kept (one m) w w'/\w'.heap.size=w.heap.size:=by
 obtain⟨l,h1,h2,h3⟩:=h.map
 obtain⟨w',u1,u2,u3,u4⟩:=h1.update (P:=Tryz.prog) Tryz.underlying99 Tryz.underlying3 (i:Int) (.pointer (some ⟨b,0,none⟩))
 exact⟨w',u1,h.lay hi hno ht hm hd (l':=upd (i:Int) (.pointer (some ⟨b,0,none⟩)) l) (fun l0 _ e=>e▸(by rw[<-e];exact u2)) u3 ⟨l,h1,h2,h3,rfl⟩,u3,u4⟩
theorem aY.fresh {w:World}{m:Nat}{Ts:Tabs}{pm:Nat->Nat×Nat}(h:aY w m Ts pm){tm:Nat}(htm:w.heap.size<=tm):tm≠m/\ ∀(k:Nat)(U:Tab),Ts[k]?=some (some U)->(pm k).2≠tm:=by
 refine⟨fun e=>?_,fun k U hU e=>?_⟩
 ·have:=h.lt;omega
 ·have:=(h.tab k U hU).1.lt.1;omega
structure bK (w:World)(b m:Nat)(j:Jb)(Ts:Tabs)(pm:Nat->Nat×Nat):Prop where
 obj: ∃v,w.heap[b]?=some (.cells #[.int .i64 j.par,v, .map (some m)] 101 (0,0))/\dV w v j.nodes
 par:aK j.par
 tabs:aY w m Ts pm
theorem bK.pure {w w':World}{b m:Nat}{j:Jb}{Ts:Tabs}{pm:Nat->Nat×Nat}(h:bK w b m j Ts pm)(hk:Kept none' w w'):bK w' b m j Ts pm:=by
 obtain⟨⟨v,h1,h2⟩,h3,h4⟩:=h
 exact⟨⟨v,hk.heap h1 (fun h=>h),h2.pure hk⟩,h3,h4.pure hk⟩
structure bZ (w:World)(M:Nat->Prop)(m:Nat)(Ts:Tabs)(pm:Nat->Nat×Nat):Prop where
 at_:aY w m Ts pm
 out: ∀(i:Nat)(T:Tab),Ts[i]?=some (some T)->TabAt w M (pm i).1 (pm i).2 T
theorem bZ.of {w:World}{M:Nat->Prop}{mb m:Nat}{Ts:Tabs}{pm:Nat->Nat×Nat}(h:bZ w M m Ts pm)(hmb:w.heap.size<=mb):bZ w (fun k=>(M k\/w.heap.size<=k)/\k≠mb) m Ts pm:=
 ⟨h.at_,fun i T hT=>(h.out i T hT).mono (fun k hM hk=>⟨.inl hM,by omega⟩)⟩
theorem bZ.any {w:World}{m:Nat}{Ts:Tabs}{pm:Nat->Nat×Nat}(h:aY w m Ts pm):bZ w wX m Ts pm:=⟨h,fun i T hT=>(h.tab i T hT).1⟩
theorem bZ.mono {w:World}{M M':Nat->Prop}{m:Nat}{Ts:Tabs}{pm:Nat->Nat×Nat}(h:bZ w M m Ts pm)(hM: ∀k,M k->k<w.heap.size->M' k):bZ w M' m Ts pm:=
 ⟨h.at_,fun i T hT=>(h.out i T hT).mono hM⟩
theorem bZ.pure {w w':World}{M:Nat->Prop}{m:Nat}{Ts:Tabs}{pm:Nat->Nat×Nat}(h:bZ w M m Ts pm)(hk:Kept none' w w'):bZ w' M m Ts pm:=
 ⟨h.at_.pure hk,fun i T hT=>(h.out i T hT).pure hk⟩
theorem bZ.acE {S:Nat->Prop}{w w':World}{M:Nat->Prop}{m:Nat}{Ts:Tabs}{pm:Nat->Nat×Nat}(h:bZ w M m Ts pm)(hM: ∀k,S k-> ¬M k)(hm: ¬S m)(hk:Kept S w w'):bZ w' M m Ts pm:=by
 have hnc:iW w S M:=fun k h1 h2=>absurd h2 (hM k h1)
 have ho: ∀(i:Nat)(T:Tab),Ts[i]?=some (some T)->TabAt w' M (pm i).1 (pm i).2 T:=fun i T hT=>(h.out i T hT).kept hk hnc (fun e=>hM _ e (h.out i T hT).hm)
 refine⟨⟨?_,fun i T hT=>⟨(ho i T hT).any,(h.at_.tab i T hT).2⟩,h.at_.dist⟩,ho⟩
 obtain⟨l,h1,h2,h3⟩:=h.at_.map
 exact⟨l,h1.kept hk hm,h2,h3⟩
theorem bZ.store {w w':World}{M:Nat->Prop}{mb m:Nat}{Ts:Tabs}{pm:Nat->Nat×Nat}(h:bZ w M m Ts pm)(hM: ¬M mb)(hm:m≠mb)(hk:Kept (one mb) w w'):bZ w' M m Ts pm:=
 h.acE (S:=one mb) (fun q (e:q=mb)=>by rw[e];exact hM) hm hk
theorem bZ.turn {w w':World}{M:Nat->Prop}{m:Nat}{Ts:Tabs}{pm:Nat->Nat×Nat}(h:bZ w M m Ts pm){i:Nat}{T T':Tab}(hT:Ts[i]?=some (some T))(hk:Kept (one (pm i).2) w w')
 (ht:TabAt w' M (pm i).1 (pm i).2 T'):bZ w' M m (Ts.set i (some T')) pm:=by
 refine⟨h.at_.turn hT hk ht.any,fun k U hU=>?_⟩
 have hlen:i<Ts.length:=(List.getElem?_eq_some_iff.1 hT).1
 by_cases hki:k=i
 ·subst hki
  rw[List.getElem?_set_self hlen]at hU
  injection hU with hU
  injection hU with hU
  subst hU
  exact ht
 ·rw[List.getElem?_set_ne (fun e=>hki e.symm)]at hU
  obtain⟨l,h1,_⟩:=(h.at_.tab i T hT).1.map
  exact(h.out k U hU).kept hk (iW.map h1 _) (h.at_.dist k i U T hki hU hT)
theorem bZ.update {w:World}{M:Nat->Prop}{m:Nat}{Ts:Tabs}{pm:Nat->Nat×Nat}(h:bZ w M m Ts pm){i:Nat}(hi:i<Ts.length)(hno:Ts.getD i none=none){b tm:Nat}{T:Tab}(ht:TabAt w M b tm T)(hm:tm≠m)
 (hd: ∀(k:Nat)(U:Tab),Ts[k]?=some (some U)->(pm k).2≠tm):
 ∃w',(Instr.mapUpdate 99 (.map (some m)) (.int .i64 (i:Int)) (.pointer (some ⟨b,0,none⟩))).run Tryz.prog w= .ok () w'/\bZ w' M m (Ts.set i (some T)) (fun k=>if k=i then(b,tm)else pm k)/\Kept (one m) w w'/\w'.heap.size=w.heap.size:=by
 obtain⟨w',u1,u2,u3,u4⟩:=h.at_.update hi hno ht.any hm hd
 obtain⟨l,h1,_⟩:=h.at_.map
 refine⟨w',u1,⟨u2,fun k U hU=>?_⟩,u3,u4⟩
 by_cases hki:k=i
 ·subst hki
  rw[List.getElem?_set_self hi]at hU
  cases hU
  simp only[if_true]
  exact ht.kept u3 (iW.map h1 _) (fun e=>hm e)
 ·simp only[if_neg hki]
  rw[List.getElem?_set_ne (fun e=>hki e.symm)]at hU
  exact(h.out k U hU).kept u3 (iW.map h1 _) (fun e=>(h.at_.tab k U hU).2 e)
theorem bZ.made (w:World)(M:Nat->Prop)(nodes:List JN)(pm:Nat->Nat×Nat):bZ (w.alloc (.map #[] 0)) M w.heap.size (bV nodes) pm:=
 ⟨aY.made w nodes pm,fun i T hT=>by
   unfold bV at hT
   rw[List.getElem?_replicate]at hT
   split at hT<;>simp at hT⟩
end Go.Proofs.YtopeleenlcnkkaaGreatDoor
