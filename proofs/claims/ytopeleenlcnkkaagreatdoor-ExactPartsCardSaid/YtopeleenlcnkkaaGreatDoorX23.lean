/- IDEALS IN PLAIN WORDS: what is loaded, which states there are; what was told may be loaded. -/
import Derived.Test.YtopeleenlcnkkaaGreatDoorX22
import Derived.Test.YtopeleenlcnkkaaGreatDoorX20
set_option linter.unusedVariables false
set_option linter.unusedSimpArgs false
set_option maxHeartbeats 1000000
set_option maxRecDepth 100000
namespace Go.Proofs.YtopeleenlcnkkaaGreatDoor
section
open Go Go.RowKit
def nodeAt (nodes:List JN)(i:Int):JN:=nodes.getD i.toNat default
def eG (nodes:List JN):List St->Tabs->Except Int Tabs
 |[],Ts=> .ok Ts
 |s::l,Ts=>
  if aO nodes s.1<0\/stateful (nodeAt nodes (aO nodes s.1)).kind=false\/(Ts.getD (aO nodes s.1).toNat none).isSome=true then .error 180
  else match lG s.2.data.toList with
   | .err e=> .error e
   | .ok T _=>if fQ (nodeAt nodes (aO nodes s.1)).kind (nodeAt nodes (aO nodes s.1)).n T=true then eG nodes l (Ts.set (aO nodes s.1).toNat (some T))else .error 181
def dh (nodes:List JN):Tabs:=List.replicate nodes.length none
def bJ (j:Jb)(l:List St):Except Int Tabs:=
 if bK j=true then(match eG j.nodes l (dh j.nodes)with| .ok Ts=> .ok (iH j.nodes Ts)| .error e=> .error e)else .error 2
def uq (p:JN×Option Tab):Option St:=p.2.map fun T=>(p.1.uid,strOf (bf (pz T)))
def aS (nodes:List JN)(Ts:Tabs):List St:=(nodes.zip Ts).filterMap uq
structure dF (nodes:List JN)(Ts:Tabs):Prop where
 len:Ts.length=nodes.length
 has: ∀(i:Nat)(d:JN),nodes[i]?=some d->stateful d.kind=true-> ∃T,Ts[i]?=some (some T)/\dR T/\fQ d.kind d.n T=true
 not: ∀(i:Nat)(d:JN),nodes[i]?=some d->stateful d.kind=false->Ts[i]?=some none
structure sV (nodes:List JN)(Ts:Tabs):Prop where
 len:Ts.length=nodes.length
 has: ∀(i:Nat)(d:JN)(T:Tab),nodes[i]?=some d->Ts[i]?=some (some T)->stateful d.kind=true/\dR T/\fQ d.kind d.n T=true
theorem ng (nodes:List JN)(uid:ByteArray):(aO nodes uid= -1/\ ∀d∈nodes,d.uid≠uid)\/
 ∃i d,aO nodes uid=((i:Nat):Int)/\nodes[i]?=some d/\d.uid=uid/\nodeAt nodes (aO nodes uid)=d/\ ∀(k:Nat)(e:JN),k<i->nodes[k]?=some e->e.uid≠uid:=by
 unfold aO
 cases h:nodes.findIdx? (fun d=>decide (d.uid=uid))with
 |none=>
  left
  rw[List.findIdx?_eq_none_iff]at h
  exact⟨rfl,fun d hd=>by simpa using h d hd⟩
 |some i=>
  right
  obtain⟨hi,h1,h2⟩:=List.findIdx?_eq_some_iff_getElem.1 h
  refine⟨i,nodes[i],rfl,List.getElem?_eq_getElem hi,by simpa using h1,?_,fun k e hk he=>?_⟩
  ·unfold nodeAt;simp[List.getD_eq_getElem?_getD,hi]
  ·obtain⟨hk',rfl⟩:=List.getElem?_eq_some_iff.1 he
   simpa using h2 k hk
theorem Ve (nodes:List JN):sV nodes (dh nodes):=⟨by simp[dh],fun i d T _ h=>by
 unfold dh at h
 rw[List.getElem?_replicate]at h
 split at h<;>simp at h⟩
theorem sV.set {nodes:List JN}{Ts:Tabs}(h:sV nodes Ts){i:Nat}{d:JN}{T:Tab}(hd:nodes[i]?=some d)(hs:stateful d.kind=true)(hT:dR T)(hf:fQ d.kind d.n T=true):sV nodes (Ts.set i (some T)):=by
 refine⟨by simpa using h.len,fun k e U he hU=>?_⟩
 rw[List.getElem?_set]at hU
 split at hU
 ·rename_i hik
  subst hik
  split at hU
  ·injection hU with hU;injection hU with hU;subst hU
   rw[hd]at he;injection he with he;subst he
   exact⟨hs,hT,hf⟩
  ·cases hU
 ·exact h.has k e U he hU
theorem MI {nodes:List JN}: ∀{l:List St}{Ts Us:Tabs},sV nodes Ts->eG nodes l Ts= .ok Us->sV nodes Us
 |[],Ts,Us,h,e=>by injection e with e;subst e;exact h
 |s::l,Ts,Us,h,e=>by
  unfold eG at e
  split at e
  ·cases e
  ·rename_i hno
   simp only[not_or,Bool.not_eq_false,Bool.not_eq_true]at hno
   obtain⟨h1,h2,h3⟩:=hno
   rcases ng nodes s.1 with⟨h4,_⟩|⟨i,d,h4,h5,_,h6,_⟩
   ·omega
   rw[h6]at h2 e
   split at e
   ·cases e
   ·rename_i T r ht
    split at e
    ·rename_i hf
     refine MI (h.set (i:=(aO nodes s.1).toNat) (d:=d) ?_ h2 (Xy ht).1 hf) e
     rw[h4];exact h5
    ·cases e
theorem wH (nodes:List JN)(Ts:Tabs)(i:Nat){d:JN}{t:Option Tab}(hd:nodes[i]?=some d)(ht:Ts[i]?=some t):(iH nodes Ts)[i]?=some (if t.isNone&&stateful d.kind then some []else t):=by
 unfold iH
 rw[List.getElem?_zipWith,hd,ht]
theorem Az (nodes:List JN)(Ts:Tabs)(h:Ts.length=nodes.length):(iH nodes Ts).length=nodes.length:=by unfold iH;simp[h]
theorem YT {kind n:Int}(h:stateful kind=true):fQ kind n []=true:=by unfold fQ;simp[h]
theorem sV.fill {nodes:List JN}{Ts:Tabs}(h:sV nodes Ts):dF nodes (iH nodes Ts):=by
 have get: ∀(i:Nat)(d:JN),nodes[i]?=some d-> ∃t,Ts[i]?=some t:=fun i d hd=>by
  have:=(List.getElem?_eq_some_iff.1 hd).1
  exact⟨_,List.getElem?_eq_getElem (by rw[h.len];exact this)⟩
 refine⟨Az _ _ h.len,fun i d hd hs=>?_,fun i d hd hs=>?_⟩
 ·obtain⟨t,ht⟩:=get i d hd
  rw[wH nodes Ts i hd ht,hs]
  cases t with
  |none=>exact⟨[],rfl,dR.nil,YT hs⟩
  |some T=>exact⟨T,rfl,(h.has i d T hd ht).2⟩
 ·obtain⟨t,ht⟩:=get i d hd
  rw[wH nodes Ts i hd ht,hs]
  cases t with
  |none=>rfl
  |some T=>have:=(h.has i d T hd ht).1;rw[hs]at this;cases this
theorem xX {j:Jb}{l:List St}{Ts:Tabs}(h:bJ j l= .ok Ts):bK j=true/\dF j.nodes Ts:=by
 unfold bJ at h
 split at h
 ·rename_i hj
  cases e:eG j.nodes l (dh j.nodes)with
  |error f=>rw[e]at h;cases h
  |ok Us=>rw[e]at h;injection h with h;subst h;exact⟨hj,(MI (Ve _) e).fill⟩
 ·cases h
theorem yB {j:Jb}(h:bK j=true){i:Nat}{d:JN}(hd:j.nodes[i]?=some d):aO j.nodes d.uid=(i:Int):=by
 rcases ng j.nodes d.uid with⟨_,h2⟩|⟨k,e,h1,h2,h3,_,h4⟩
 ·exact absurd rfl (h2 d (List.mem_of_getElem? hd))
 ·by_cases hik:k=i
  ·rw[h1,hik]
  ·have key: ∀(a b:Nat)(x y:JN),a<b->j.nodes[a]?=some x->j.nodes[b]?=some y->x.uid≠y.uid:=by
    intro a b x y hab ha hb he
    have:=((kR h).2 b y hb).2.1
    unfold ku at this
    rw[decide_eq_false_iff_not]at this
    refine this (List.mem_map.2 ⟨x,?_,he⟩)
    rw[List.mem_iff_getElem?]
    exact⟨a,by rw[List.getElem?_take,if_pos hab];exact ha⟩
   rcases Nat.lt_or_gt_of_ne hik with hlt|hlt
   ·exact absurd h3 (key k i e d hlt h2 hd)
   ·exact absurd rfl (h4 i d hlt hd)
theorem zM (d:JN)(nodes:List JN)(t:Option Tab)(Ts:Tabs):aS (d::nodes) (t::Ts)=(match t with|some T=>[(d.uid,strOf (bf (pz T)))]|none=>[])++aS nodes Ts:=by
 unfold aS
 rw[List.zip_cons_cons,List.filterMap_cons]
 cases t<;>simp[uq]
theorem wO (l:List UInt8):(strOf l).data.toList=l:=rfl
theorem wY {j:Jb}{Ts:Tabs}(hj:bK j=true)(h:dF j.nodes Ts):bJ j (aS j.nodes Ts)= .ok Ts:=by
 have go: ∀(m k:Nat),k+m=j.nodes.length->eG j.nodes (aS (j.nodes.drop k) (Ts.drop k)) (Ts.take k++List.replicate m none)= .ok Ts:=by
  intro m
  induction m with
  |zero=>
   intro k hk
   rw[List.drop_eq_nil_of_le (by omega),List.take_of_length_le (by have:=h.len;omega)]
   simp[aS,eG]
  |succ m ih=>
   intro k hk
   have hkn:k<j.nodes.length:=by omega
   have hkt:k<Ts.length:=by rw[h.len];exact hkn
   rw[List.drop_eq_getElem_cons hkn,List.drop_eq_getElem_cons hkt,zM]
   have hd:j.nodes[k]?=some j.nodes[k]:=List.getElem?_eq_getElem hkn
   have step:Ts.take (k+1)++List.replicate m none=(Ts.take k++List.replicate (m+1) none).set k (Ts[k]):=by
    rw[List.take_add_one,List.getElem?_eq_getElem hkt,List.set_append_right _ _ (by rw[List.length_take];omega),List.length_take]
    rw[show k-min k Ts.length=0 by omega,List.replicate_succ,List.set_cons_zero,List.append_assoc]
    rfl
   cases ht:Ts[k]with
   |none=>
    simp only[List.nil_append]
    have:=ih (k+1) (by omega)
    rw[step,ht]at this
    have e:(Ts.take k++List.replicate (m+1) none).set k (none:Option Tab)=Ts.take k++List.replicate (m+1) none:=by
     rw[List.set_append_right _ _ (by rw[List.length_take];omega),List.length_take,show k-min k Ts.length=0 by omega,List.replicate_succ,List.set_cons_zero]
    rw[e]at this
    exact this
   |some T=>
    have hs:stateful (j.nodes[k]).kind=true:=by
     cases hs:stateful (j.nodes[k]).kind with
     |true=>rfl
     |false=>have:=h.not k _ hd hs;rw[List.getElem?_eq_getElem hkt,ht]at this;cases this
    obtain⟨U,hU,hT,hf⟩:=h.has k _ hd hs
    rw[List.getElem?_eq_getElem hkt,ht]at hU
    injection hU with hU;injection hU with hU;subst hU
    have hfind:=yB hj hd
    simp only[List.cons_append,List.nil_append]
    rw[eG]
    simp only[hfind]
    have aX:nodeAt j.nodes ((k:Nat):Int)=j.nodes[k]:=by unfold nodeAt;simp[List.getD_eq_getElem?_getD,hkn]
    rw[aX]
    have hnone:((Ts.take k++List.replicate (m+1) none).getD (((k:Nat):Int).toNat) none).isSome=false:=by
     rw[Int.toNat_natCast,List.getD_eq_getElem?_getD,List.getElem?_append_right (by rw[List.length_take];omega),List.length_take,show k-min k Ts.length=0 by omega]
     simp[List.replicate_succ]
    rw[if_neg (by rw[hs,hnone];simp),wO,zK hT]
    simp only[hf,if_true,Int.toNat_natCast]
    have:=ih (k+1) (by omega)
    rw[step,ht]at this
    exact this
 have:=go j.nodes.length 0 (by omega)
 simp only[List.drop_zero,List.take_zero,List.nil_append]at this
 unfold bJ dh
 rw[if_pos hj,this]
 simp only
 congr 1
 apply List.ext_getElem?
 intro i
 by_cases hi:i<j.nodes.length
 ·have hd:j.nodes[i]?=some j.nodes[i]:=List.getElem?_eq_getElem hi
  obtain⟨t,ht⟩: ∃t,Ts[i]?=some t:=⟨_,List.getElem?_eq_getElem (by rw[h.len];exact hi)⟩
  rw[wH j.nodes Ts i hd ht,ht]
  cases hs:stateful (j.nodes[i]).kind with
  |false=>simp
  |true=>
   obtain⟨T,hT,_⟩:=h.has i _ hd hs
   rw[hT]at ht;injection ht with ht;subst ht;simp
 ·rw[List.getElem?_eq_none (by rw[Az _ _ h.len];omega),List.getElem?_eq_none (by rw[h.len];omega)]
end
section
open Go Go.RowKit
attribute [local irreducible] bU
theorem aaB (a b:ByteArray):(a.toList==b.toList)=decide (a=b):=by rw[<-beq_toListBytes,AQ]
structure Tok where
 kind:Int
 text:ByteArray
 n:Int
 at_:Int
def jU (s:ByteArray):List Tok->Option (List Tok)
 |[]=>none
 |t::r=>if t.kind=0\/t.kind=2\/t.text≠s then none else some r
theorem xY {s:ByteArray}{t:Tok}{r:List Tok}(h:t.kind=0\/t.kind=2\/t.text≠s):jU s (t::r)=none:=if_pos h
theorem Ba {s:ByteArray}{t:Tok}{r:List Tok}(h: ¬(t.kind=0\/t.kind=2\/t.text≠s)):jU s (t::r)=some r:=if_neg h
structure H6 (w:World)(b o:Nat)(t:Tok):Prop where
 c0:w.cell? ⟨b,o,none⟩=some (.int .u8 t.kind)
 c1:w.cell? ⟨b,o+1,none⟩=some (.string t.text)
 c2:w.cell? ⟨b,o+2,none⟩=some (.int .i64 t.n)
 c3:w.cell? ⟨b,o+3,none⟩=some (.int .i64 t.at_)
structure gY (w:World)(R:Nat)(l:List Tok)(e:Int):Prop where
 obj: ∃ta cap,w.heap[R]?=some (.cells #[.slice ta l.length cap, .int .i64 e, .bool false, .int .i64 0] 258 (0,0))/\l.length<=cap/\cap<=maxLen/\
  (l=[]\/ ∃b off,ta=some ⟨b,off,none⟩/\b<R/\ ∀(i:Nat)(t:Tok),l[i]?=some t->H6 w b (off+i*4) t)
theorem H6.kept {w w':World}{S:Nat->Prop}{b o:Nat}{t:Tok}(h:H6 w b o t)(hk:Kept S w w')(hb: ¬S b):H6 w' b o t:=
 ⟨hk.cell (p:=⟨b,o,none⟩) hb h.c0,hk.cell (p:=⟨b,o+1,none⟩) hb h.c1,hk.cell (p:=⟨b,o+2,none⟩) hb h.c2,hk.cell (p:=⟨b,o+3,none⟩) hb h.c3⟩
theorem gY.pure {w w':World}{R:Nat}{l:List Tok}{e:Int}(h:gY w R l e)(hk:Kept none' w w'):gY w' R l e:=by
 obtain⟨ta,cap,h1,h2,h3,h4⟩:=h.obj
 refine⟨ta,cap,hk.heap h1 (fun h=>h),h2,h3,?_⟩
 rcases h4 with h4|⟨b,off,hb,hne,h4⟩
 ·exact .inl h4
 ·exact .inr ⟨b,off,hb,hne,fun i t ht=>(h4 i t ht).kept hk (fun h=>h)⟩
theorem gY.lt {w:World}{R:Nat}{l:List Tok}{e:Int}(h:gY w R l e):R<w.heap.size:=by
 obtain⟨ta,cap,h1,_⟩:=h.obj
 exact(Array.getElem?_eq_some_iff.1 h1).1
theorem gY.fH {w w':World}{S:Nat->Prop}{R:Nat}{l:List Tok}{e:Int}(h:gY w R l e)(hk:Kept S w w')(hS: ∀k,S k->R<k):gY w' R l e:=by
 obtain⟨ta,cap,h1,h2,h3,h4⟩:=h.obj
 refine⟨ta,cap,hk.heap h1 (fun h=>by have:=hS R h;omega),h2,h3,?_⟩
 rcases h4 with h4|⟨b,off,hb,hne,h4⟩
 ·exact .inl h4
 ·exact .inr ⟨b,off,hb,hne,fun i t ht=>(h4 i t ht).kept hk (fun h=>by have:=hS b h;omega)⟩
abbrev EW (t:Tok):Value:= .agg #[.int .u8 t.kind, .string t.text, .int .i64 t.n, .int .i64 t.at_]
def Hr (l:List Tok)(e:Int):Tok:=match l with|t::_=>t|[]=>⟨0,yN,0,e⟩
theorem next_any (R:Nat)(l:List Tok)(e:Int)(w:World)(h:gY w R l e):Calls Tryz.prog 197 #[.pointer (some ⟨R,0,none⟩)] w fun e' w'=>e'= .returned (EW (Hr l e))/\Kept none' w w':=by
 obtain⟨ta,cap,h1,h2,h3,h4⟩:=h.obj
 have x0:w.cell? ⟨R,0,none⟩=some (.slice ta l.length cap):=cells_at h1 rfl
 have x1:w.cell? ⟨R,1,none⟩=some (.int .i64 e):=cells_at h1 rfl
 have hl:=h.lt
 unfold maxLen at h3
 clear h1
 cases l with
 |nil=>
  clear h4
  go_enter Tryz.func197,Tryz.ntmps197
  go_wp2_with fail
  refine bodyPost_ret (v:=EW ⟨0,yN,0,e⟩) (by simp[results,Tryz.results197,go_sem];rfl) rfl ⟨rfl,(Kept.refl _ _).alloc _⟩
 |cons t r=>
  obtain⟨b,off,rfl,hne,hc⟩:=h4.resolve_left (by simp)
  obtain⟨c0,c1,c2,c3⟩:=hc 0 t rfl
  rw[Nat.zero_mul,Nat.add_zero]at c0 c1 c2 c3
  have hb:b<w.heap.size:=by have:=block_lt_of_cell c0;simpa using this
  have hlen: ¬((r.length:Int)+1=0):=by omega
  clear hc h4 h
  go_enter Tryz.func197,Tryz.ntmps197
  go_wp2_with fail
  refine bodyPost_ret (v:=EW t) (by simp[results,Tryz.results197,go_sem]) rfl ⟨rfl,(Kept.refl _ _).alloc _⟩
def yj (w:World)(R:Nat)(e:Int)(o:Option (List Tok))(l:List Tok)(e':Ending)(w':World):Prop:=
 Kept (one R) w w'/\match o with|some l'=>e'= .returned (.bool true)/\gY w' R l' e|none=>e'= .returned (.bool false)/\gY w' R l e
theorem qR (R:Nat)(l:List Tok)(e:Int)(s:ByteArray)(w:World)(h:gY w R l e):Calls Tryz.prog 216 #[.pointer (some ⟨R,0,none⟩), .string s] w (yj w R e (jU s l) l):=by
 have cn:=next_any R l e w h
 obtain⟨ta,cap,h1,h2,h3,h4⟩:=h.obj
 have x0:w.cell? ⟨R,0,none⟩=some (.slice ta l.length cap):=cells_at h1 rfl
 have x2:w.cell? ⟨R,2,none⟩=some (.bool false):=cells_at h1 rfl
 have f0:=free_at h1 0
 have hl:=h.lt
 unfold maxLen at h3
 have H:=Lib.hid (And.intro h h1)
 clear h h1
 cases l with
 |nil=>
  clear h4
  unfold Hr at cn
  go_enter Tryz.func216,Tryz.ntmps216
  go_wp2_with fail
  (with_reducible refine cn.mono ?_)
  clear cn
  rintro e' w2 ⟨rfl,k2⟩
  have x2:=k2.cell (p:=⟨R,2,none⟩) (fun h=>h) x2
  have hl2:R<w2.heap.size:=Nat.lt_of_lt_of_le hl k2.size
  have F:=Lib.hid (show∀w',Kept none' w2 w'->yj w R e (jU s []) [] (.returned (.bool false)) w' from fun w' hk=>⟨(k2.trans hk).pure,rfl,H.out.1.pure (k2.trans hk)⟩)
  clear k2 f0 x0
  go_wp2_with fail
  go_ret
  exact F.out _ ((Kept.refl _ _).alloc _)
 |cons t r=>
  obtain⟨b,off,rfl,hne,hc⟩:=h4.resolve_left (by simp)
  have H4:=Lib.hid hc
  clear h4 hc
  simp only[Hr,EW]at cn
  obtain⟨tk,tt,tn,ta⟩:=t
  simp only at cn
  by_cases h0:tk=0
  ·subst h0
   have e1:jU s (⟨0,tt,tn,ta⟩::r)=none:=xY (.inl rfl)
   have F:=Lib.hid (show∀w',Kept none' w w'->yj w R e (jU s (⟨0,tt,tn,ta⟩::r)) (⟨0,tt,tn,ta⟩::r) (.returned (.bool false)) w' from fun w' hk=>⟨hk.pure,by rw[e1];exact⟨rfl,H.out.1.pure hk⟩⟩)
   clear e1
   go_enter Tryz.func216,Tryz.ntmps216
   go_wp2_with fail
   (with_reducible refine cn.mono ?_)
   clear cn
   rintro e' w2 ⟨rfl,k2⟩
   have x2:=k2.cell (p:=⟨R,2,none⟩) (fun h=>h) x2
   have hl2:R<w2.heap.size:=Nat.lt_of_lt_of_le hl k2.size
   have K2:=Lib.hid k2
   clear k2 f0 x0
   go_wp2_with fail
   go_ret
   exact F.out _ (K2.out.trans ((Kept.refl _ _).alloc _))
  ·have g0:(tk==0)=false:=by simpa using h0
   by_cases h1:tk=2
   ·subst h1
    have e1:jU s (⟨2,tt,tn,ta⟩::r)=none:=xY (.inr (.inl rfl))
    have F:=Lib.hid (show∀w',Kept none' w w'->yj w R e (jU s (⟨2,tt,tn,ta⟩::r)) (⟨2,tt,tn,ta⟩::r) (.returned (.bool false)) w' from fun w' hk=>⟨hk.pure,by rw[e1];exact⟨rfl,H.out.1.pure hk⟩⟩)
    clear e1
    go_enter Tryz.func216,Tryz.ntmps216
    go_wp2_with fail
    (with_reducible refine cn.mono ?_)
    clear cn
    rintro e' w2 ⟨rfl,k2⟩
    have x2:=k2.cell (p:=⟨R,2,none⟩) (fun h=>h) x2
    have hl2:R<w2.heap.size:=Nat.lt_of_lt_of_le hl k2.size
    have K2:=Lib.hid k2
    clear k2 f0 x0
    go_wp2_with fail
    go_ret
    exact F.out _ (K2.out.trans ((Kept.refl _ _).alloc _))
   ·have g1:(tk==2)=false:=by simpa using h1
    by_cases ht:tt=s
    ·subst ht
     have e1:jU tt (⟨tk,tt,tn,ta⟩::r)=some r:=Ba (by simp[h0,h1])
     rw[e1]
     clear e1
     have HT:=Lib.hid (And.intro h0 h1)
     go_enter Tryz.func216,Tryz.ntmps216
     go_wp2_with fail
     (with_reducible refine cn.mono ?_)
     clear cn
     rintro e' w2 ⟨rfl,k2⟩
     have x2:=k2.cell (p:=⟨R,2,none⟩) (fun h=>h) x2
     have x0:=k2.cell (p:=⟨R,0,none⟩) (fun h=>h) x0
     have hl2:R<w2.heap.size:=Nat.lt_of_lt_of_le hl k2.size
     have f0:w2.frozen? ⟨R,0,none⟩=false:=free_at (k2.heap H.out.2 (fun h=>h)) 0
     have K2:=Lib.hid k2
     have hcap:1<=cap:=by simp at h2;omega
     have hn1:(1:Int)<=(r.length:Int)+1:=by omega
     clear k2
     have fin: ∀(ta':Option Addr)(cap':Nat),(r=[]\/ta'=some ⟨b,off+4,none⟩)->r.length<=cap'->cap'<=maxLen->
      yj w R e (some r) (⟨tk,tt,tn,ta⟩::r) (.returned (.bool true)) ((w2.setCell ⟨R,0,none⟩ (.slice ta' r.length cap')).alloc (.cells #[.int .u8 tk, .string tt, .int .i64 tn, .int .i64 ta] 279)):=by
      intro ta' cap' q1 q2 q3
      have ks:Kept (one R) w2 (w2.setCell ⟨R,0,none⟩ (.slice ta' r.length cap')):=Kept.setCell (p:=⟨R,0,none⟩) (Kept.refl (one R) _) (.inl rfl) _
      have ka:Kept none' (w2.setCell ⟨R,0,none⟩ (.slice ta' r.length cap')) ((w2.setCell ⟨R,0,none⟩ (.slice ta' r.length cap')).alloc (.cells #[.int .u8 tk, .string tt, .int .i64 tn, .int .i64 ta] 279)):=(Kept.refl _ _).alloc _
      refine⟨(K2.out.pure.trans ks).trans ka.pure,rfl,⟨ta',cap',?_,q2,q3,?_⟩⟩
      ·have:=aK (K2.out.heap H.out.2 (fun h=>h)) 0 (.slice ta' r.length cap')
       exact ka.heap this (fun h=>h)
      ·rcases q1 with q1|q1
       ·exact .inl q1
       ·refine .inr ⟨b,off+4,q1,hne,fun i t ht=>?_⟩
        have:=H4.out (i+1) t (by simpa using ht)
        rw[show off+(i+1)*4=off+4+i*4 by omega]at this
        exact(((this.kept K2.out (fun h=>h)).kept ks (fun h=>by unfold one at h;omega))).kept ka (fun h=>h)
     have FIN:=Lib.hid fin
     have hrl:r.length+1<=cap:=by simpa using h2
     clear fin
     by_cases hc1:cap=1
     ·subst hc1
      have hr:r=[]:=List.eq_nil_of_length_eq_zero (by omega)
      subst hr
      go_wp2_with fail
      go_ret
      exact FIN.out _ _ (.inl (by trivial)) (Nat.le_refl _) (by unfold maxLen;omega)
     ·have hc2: ¬(cap-1=0):=by omega
      go_wp2_with fail
      go_ret
      exact FIN.out _ _ (.inr rfl) (by omega) (by unfold maxLen;omega)
    ·have g2:(tt.toList==s.toList)=false:=by rw[aaB,decide_eq_false ht]
     have e1:jU s (⟨tk,tt,tn,ta⟩::r)=none:=xY (.inr (.inr ht))
     have F:=Lib.hid (show∀w',Kept none' w w'->yj w R e (jU s (⟨tk,tt,tn,ta⟩::r)) (⟨tk,tt,tn,ta⟩::r) (.returned (.bool false)) w' from fun w' hk=>⟨hk.pure,by rw[e1];exact⟨rfl,H.out.1.pure hk⟩⟩)
     clear e1
     go_enter Tryz.func216,Tryz.ntmps216
     go_wp2_with fail
     (with_reducible refine cn.mono ?_)
     clear cn
     rintro e' w2 ⟨rfl,k2⟩
     have x2:=k2.cell (p:=⟨R,2,none⟩) (fun h=>h) x2
     have hl2:R<w2.heap.size:=Nat.lt_of_lt_of_le hl k2.size
     have K2:=Lib.hid k2
     clear k2 f0 x0
     go_wp2_with fail
     go_ret
     exact F.out _ (K2.out.trans ((Kept.refl _ _).alloc _))
abbrev qc:=ByteArray×Int
def zQ (l:List qc):List Value:=l.flatMap fun s=>[.string s.1, .int .u8 s.2]
def firstT:List qc->List Tok->Nat->Option (Nat×Int×List Tok)
 |[],_,_=>none
 |s::l,ts,k=>match jU s.1 ts with|some r=>some (k,s.2,r)|none=>firstT l ts (k+1)
def adi (w:World)(sv:Value)(l:List qc):Prop:= ∃b,sv= .slice (some ⟨b,0,none⟩) l.length l.length/\ ∀(i:Nat)(s:qc),l[i]?=some s->w.cell? ⟨b,i*2,none⟩=some (.string s.1)/\w.cell? ⟨b,i*2+1,none⟩=some (.int .u8 s.2)
theorem XM (R B:Nat)(l:List Tok)(e:Int)(s:ByteArray)(op:Int)(w:World)(h:gY w R l e)(hB:w.cell? ⟨B,0,none⟩=some (.pointer (some ⟨R,0,none⟩))):
 Calls Tryz.prog 215 #[.agg #[.string s, .int .u8 op], .pointer (some ⟨B,0,none⟩)] w (yj w R e (jU s l) l):=by
 have k1:Kept none' w (w.alloc (.cells #[.string s, .int .u8 op] 285)):=(Kept.refl _ _).alloc _
 have hBl:B<w.heap.size:=by have:=block_lt_of_cell hB;simpa using this
 have ci:=qR R l e s _ (h.pure k1)
 have K1:=Lib.hid k1
 clear k1 h
 go_enter Tryz.func215,Tryz.ntmps215
 go_wp2_with fail
 (with_reducible refine ci.mono ?_)
 clear ci
 rintro e' w2 ⟨k2,h2⟩
 have K2:=Lib.hid (K1.out.pure.trans k2)
 cases hi:jU s l with
 |some l'=>
  rw[hi]at h2
  obtain⟨rfl,h2⟩:=h2
  have F:=Lib.hid (show yj w R e (jU s l) l (.returned (.bool true)) w2 from⟨K2.out,by rw[hi];exact⟨rfl,h2⟩⟩)
  clear h2 k2 hi
  go_wp2_with fail
  go_ret
  exact F.out
 |none=>
  rw[hi]at h2
  obtain⟨rfl,h2⟩:=h2
  have F:=Lib.hid (show yj w R e (jU s l) l (.returned (.bool false)) w2 from⟨K2.out,by rw[hi];exact⟨rfl,h2⟩⟩)
  clear h2 k2 hi
  go_wp2_with fail
  go_ret
  exact F.out
def Oh (w:World)(R:Nat)(e:Int)(o:Option (Nat×Int×List Tok))(l:List Tok)(e':Ending)(w':World):Prop:=
 Kept (one R) w w'/\match o with|some r=>e'= .returned (.int .i64 (r.1:Int))/\gY w' R r.2.2 e|none=>e'= .returned (.int .i64 (-1))/\gY w' R l e
theorem OZ {l:List qc}{ts:List Tok}{k:Nat}{s:qc}(h:l[k]?=some s):firstT (l.drop k) ts k=match jU s.1 ts with|some r=>some (k,s.2,r)|none=>firstT (l.drop (k+1)) ts (k+1):=by
 obtain⟨hk,e⟩:=List.getElem?_eq_some_iff.1 h
 rw[List.drop_eq_getElem_cons hk,e]
 rfl
theorem OX (R B:Nat)(l:List Tok)(e:Int)(sg:List qc)(sv:Value)(hsg:sg.length<=10)(w:World)(h:gY w R l e)(hB:w.cell? ⟨B,0,none⟩=some (.pointer (some ⟨R,0,none⟩)))(hBR:B≠R)
 (hs:adi w sv sg) (hsR: ∀b,sv= .slice (some ⟨b,0,none⟩) sg.length sg.length->b≠R):
 Calls Tryz.prog 214 #[sv, .func (.func 215) #[] #[.pointer (some ⟨B,0,none⟩)]] w (Oh w R e (firstT sg l 0) l):=by
 obtain⟨sb,rfl,hsc⟩:=hs
 have hsb:sb≠R:=hsR sb rfl
 have H:=Lib.hid (And.intro h (And.intro hB hsc))
 clear h hB hsc hsR
 go_enter Tryz.func214,Tryz.ntmps214
 go_wp2_with fail
 go_loopg [8] sg.length (fun g vi wr=> ∃k:Nat,k<=sg.length/\vi= .int .i64 (k:Int)/\sg.length-k<=g/\firstT sg l 0=firstT (sg.drop k) l k/\gY wr R l e/\Kept (one R) w wr)
 case atStart=>exact⟨0,by omega,rfl,by omega,rfl,H.out.1,Kept.refl _ _⟩
 case round=>
  obtain⟨k,hkl,rfl,hg,hf,hrd,hkp⟩:=hrel
  obtain⟨wo,rfl⟩: ∃wo:World,wo=wr:=⟨_,rfl⟩
  by_cases hlt:k<sg.length
  ·obtain⟨s,hs⟩: ∃s,sg[k]?=some s:=⟨_,List.getElem?_eq_getElem hlt⟩
   obtain⟨x0,x1⟩:=H.out.2.2 k s hs
   have x0:=hkp.cell (p:=⟨sb,k*2,none⟩) hsb x0
   have x1:=hkp.cell (p:=⟨sb,k*2+1,none⟩) hsb x1
   have xB:=hkp.cell (p:=⟨B,0,none⟩) hBR H.out.2.1
   have cr:=XM R B l e s.1 s.2 wo hrd xB
   rw[OZ hs]at hf
   have G:=Lib.hid (And.intro hg (And.intro hf hkp))
   clear hg hf hkp hs hrd
   go_wp2_with fail
   (with_reducible refine cr.mono ?_)
   clear cr
   rintro e' w2 ⟨k2,h2⟩
   have K2:=Lib.hid (G.out.2.2.trans k2)
   cases hi:jU s.1 l with
   |some l'=>
    rw[hi]at h2
    obtain⟨rfl,h2⟩:=h2
    have F:=Lib.hid (show Oh w R e (firstT sg l 0) l (.returned (.int .i64 (k:Int))) w2 from⟨K2.out,by rw[G.out.2.1,hi];exact⟨rfl,h2⟩⟩)
    clear h2 k2 hi
    go_wp2_with fail
    go_ret
    exact F.out
   |none=>
    rw[hi]at h2
    obtain⟨rfl,h2⟩:=h2
    have F:=Lib.hid (And.intro h2 (show firstT sg l 0=firstT (sg.drop (k+1)) l (k+1) by rw[G.out.2.1,hi]))
    clear h2 k2 hi
    go_wp2_with fail
    go_roundg (sg.length-(k+1))
    case rel=>exact⟨k+1,by omega,by go_num,Nat.le_refl _,F.out.2,F.out.1,K2.out⟩
    case measure=>have:=G.out.1;omega
  ·have hke:k=sg.length:=by omega
   subst hke
   rw[List.drop_of_length_le (Nat.le_refl _)]at hf
   have F:=Lib.hid (show Oh w R e (firstT sg l 0) l (.returned (.int .i64 (-1))) wo from⟨hkp,by rw[hf];exact⟨rfl,hrd⟩⟩)
   clear hkp hf hrd hg
   go_wp2_with fail
   go_ret
   exact F.out
end
end Go.Proofs.YtopeleenlcnkkaaGreatDoor
