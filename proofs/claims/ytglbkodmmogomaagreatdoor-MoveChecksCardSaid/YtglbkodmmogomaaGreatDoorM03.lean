/- append to a slice of the call's own, whatever slice is appended. -/
import Derived.Test.YtglbkodmmogomaaGreatDoorM02
import Derived.Test.YtglbkodmmogomaaGreatDoorProg
import Derived.Test.YtglbkodmmogomaaGreatDoorM01
import Derived.Deep.LoopGhost
set_option linter.unusedVariables false
set_option linter.unusedSimpArgs false
set_option maxHeartbeats 400000
set_option maxRecDepth 100000
namespace Go.Proofs.YtglbkodmmogomaaGreatDoor
section
open Go Go.RowKit
section
variable {P:Program} {w:World}
theorem bI (base:Nat)(t ty e:TypeId)(i:TypeInfo)(z:Value)(size bytes:Nat)(ht:P.underlying t=some (.slice e))(hi:P.info? e=some i)(hz:i.zero=some z)
 (hsize:i.size=size) (hby:i.bytes=bytes) (hzs:z.cells.size=size) (hsz:0<size)
 {v:Value} {n:Nat} {xs:List Value} (hown:w.ownsRow base e size v n xs) {u:Value} {cs:List Value} (hr:Reads w size u cs) (h1: ∀x∈cs,x.oneCell'=true)
 (hmax:(n*size+cs.length)*bytes<=140737488355328) (hbig:n*size+cs.length<=maxLen) (hbase:base<=w.heap.size):
 ∃v' n' w',(Builtin.append_ #[t,t] ty #[v,u]).run P w= .ok v' w'/\w'.ownsRow base e size v' n' (xs++cs)/\n'*size=n*size+cs.length/\w.grownBy w' v.ownBlock/\
  (v'= .slice none 0 0↔v= .slice none 0 0/\cs=[]):=by
 obtain⟨a,m,cap,rfl,hm1,hm2,hlen,hcells⟩:=hr
 have hnm:n+m<=n*size+cs.length:=by
  rw[hlen,<-Nat.add_mul];exact Nat.le_mul_of_pos_right _ hsz
 by_cases hc:cs=[]
 ·subst hc
  have hm:m=0:=by
   rcases Nat.eq_zero_or_pos m with h|h
   ·exact h
   ·have:=Nat.mul_pos h hsz;simp at hlen;omega
  subst hm
  have hf: ∀W,(Builtin.firstCells size 0 (.slice a 0 cap)).run P W= .ok #[] W:=fun W=>by
   cases a<;>simp[Builtin.firstCells,loadCells,loadCellsFrom]
  refine⟨v,n,w,?_,by simpa using hown,by simp,⟨rfl,rfl,rfl,Nat.le_refl _,fun _ _ _=>rfl⟩,by simp⟩
  rcases hown.2 with⟨rfl,rfl⟩|⟨g,jY,cur,rfl,hbg,hg,hnc,hcm,hcs,htake⟩
  ·subst hsize
   simp[Builtin.append_,run_underlying ht,sizeOf,typeInfo,hi,Builtin.lenOf,hf]
  ·subst hsize
   simp[Builtin.append_,run_underlying ht,sizeOf,typeInfo,hi,Builtin.lenOf,hf,hnc,storeCells]
 ·obtain⟨b,off,rfl,hcl⟩:=hcells.resolve_left hc
  have hadd: ∀j,(⟨b,off,none⟩:Addr).add j=⟨b,off+j,none⟩:=fun j=>Addr.add_lit b off j
  obtain⟨v',w',g1,g2,g3,g4⟩:=run_append_own (P:=P) w base t ty e i z size bytes ht hi hz hsize hby hzs hsz v n xs hown ⟨b,off,none⟩ m cap cs hlen
   (fun j x hx=>by rw[hadd];exact hcl j x hx) h1 (Nat.le_trans hnm hbig) (Nat.le_trans (Nat.mul_le_mul_right _ hnm) hmax) hbase
  refine⟨v',n+m,w',g1,g2,by rw[Nat.add_mul,hlen],g3,?_⟩
  rw[g4]
  constructor
  ·rintro⟨h,rfl⟩;exact⟨h,absurd (List.eq_nil_of_length_eq_zero (by simpa using hlen)) hc⟩
  ·rintro⟨h,h'⟩;exact absurd h' hc
theorem zG {o:Oper}{a:Act}{K:Act->World->Prop}{Q:Exit->Act->World->Prop}(s x:Operand)(t:TypeId)
 (ho:o.op= .call {callee:= .builtin .append,args:= #[s,x],argTypes:= #[t,t]})
 (base e:Nat) (i:TypeInfo) (z:Value) (size bytes:Nat) (ht:P.underlying t=some (.slice e)) (hi:P.info? e=some i) (hz:i.zero=some z)
 (hsize:i.size=size) (hby:i.bytes=bytes) (hzs:z.cells.size=size) (hsz:0<size)
 (v:Value) (n:Nat) (xs:List Value) (hs:a.eval s=v) (hown:w.ownsRow base e size v n xs) (u:Value) (cs:List Value) (hx:a.eval x=u) (hr:Reads w size u cs) (h1: ∀x∈cs,x.oneCell'=true)
 (hmax:(n*size+cs.length)*bytes<=140737488355328) (hbig:n*size+cs.length<=maxLen) (hbase:base<=w.heap.size)
 (h: ∀v' n' w',w'.ownsRow base e size v' n' (xs++cs)->n'*size=n*size+cs.length->w.grownBy w' v.ownBlock->(v'= .slice none 0 0↔v= .slice none 0 0/\cs=[])->K (a.put o.dst v') w'):o.wp P a w K Q:=by
 obtain⟨v',n',w',g1,g2,g3,g4,g5⟩:=bI (P:=P) base t o.type e i z size bytes ht hi hz hsize hby hzs hsz hown hr h1 hmax hbig hbase
 unfold Oper.wp execOp
 simp only[ho,resolve,invoke,builtin,Sem.run_bind,Sem.run_pure,Result.andThen_ok,List.map_toArray,List.map_cons,List.map_nil,hs,hx,g1]
 exact h v' n' w' g2 g3 g4 g5
theorem kX {ops:Array Oper}{rest:List Oper}{o:Oper}{a:Act}{Q:Exit->Act->World->Prop}(hgd:o.guard=none)(s x:Operand)(t:TypeId)
 (ho:o.op= .call {callee:= .builtin .append,args:= #[s,x],argTypes:= #[t,t]})
 (base e:Nat) (i:TypeInfo) (z:Value) (size bytes:Nat) (ht:P.underlying t=some (.slice e)) (hi:P.info? e=some i) (hz:i.zero=some z)
 (hsize:i.size=size) (hby:i.bytes=bytes) (hzs:z.cells.size=size) (hsz:0<size)
 (v:Value) (n:Nat) (xs:List Value) (hs:a.eval s=v) (hown:w.ownsRow base e size v n xs) (u:Value) (cs:List Value) (hx:a.eval x=u) (hr:Reads w size u cs) (h1: ∀x∈cs,x.oneCell'=true)
 (hmax:(n*size+cs.length)*bytes<=140737488355328) (hbig:n*size+cs.length<=maxLen) (hbase:base<=w.heap.size)
 (h: ∀v' n' w',w'.ownsRow base e size v' n' (xs++cs)->n'*size=n*size+cs.length->w.grownBy w' v.ownBlock->(v'= .slice none 0 0↔v= .slice none 0 0/\cs=[])->wpList P ops Q rest (a.put o.dst v') w'):
 wpList P ops Q (o::rest) a w:=
 wpList_plain hgd fun _ hK=>zG s x t ho base e i z size bytes ht hi hz hsize hby hzs hsz v n xs hs hown u cs hx hr h1 hmax hbig hbase (fun v' n' w' g1 g2 g3 g4=>hK _ _ (h v' n' w' g1 g2 g3 g4))
theorem Reads.slice {k:Nat}{v:Value}{cs:List Value}(h:Reads w k v cs): ∃a n cap,v= .slice a n cap/\n<=cap/\cap<=maxLen/\cs.length=n*k/\(n=0\/k=0\/ ∃b off,a=some ⟨b,off,none⟩)/\
 (∀b off,a=some ⟨b,off,none⟩-> ∀i x,cs[i]?=some x->w.cell? ⟨b,off+i,none⟩=some x):=by
 obtain⟨a,n,cap,rfl,h1,h2,h3,h4⟩:=h
 refine⟨a,n,cap,rfl,h1,h2,h3,?_,?_⟩
 ·rcases h4 with rfl|⟨b,off,rfl,h4⟩
  ·have h3':n*k=0:=by rw[<-h3];rfl
   rcases Nat.mul_eq_zero.1 h3' with h5|h5
   ·exact .inl h5
   ·exact .inr (.inl h5)
  ·exact .inr (.inr ⟨b,off,rfl⟩)
 ·rcases h4 with rfl|⟨b,off,rfl,h4⟩
  ·intro b off _ i x hx;simp at hx
  ·rintro b' off' e i x hx
   cases e
   exact h4 i x hx
end
end
section
def bF (n:Int):Prop:= -9223372036854775808<=n/\n<=9223372036854775807
def grp (k:Int):Int:=k%8
theorem U5 (k:Int):0<=grp k:=by unfold grp;omega
theorem U6 (k:Int):grp k<8:=by unfold grp;omega
abbrev Cell:=Int×List Int
abbrev Tab:=List (Int×Cell)
def bD (a b:Int):Bool:=decide (grp a<grp b)||(decide (grp a=grp b)&&decide (a<b))
theorem lJ {a b:Int}:bD a b=true↔grp a<grp b\/grp a=grp b/\a<b:=by simp[bD]
theorem dA (a:Int):bD a a=false:=by simp[bD]
theorem kU {a b c:Int}(h:bD a b=true)(k:bD b c=true):bD a c=true:=by
 rw[lJ]at*;omega
theorem kV {a b:Int}(h:a≠b):bD a b=true\/bD b a=true:=by
 rw[lJ,lJ];omega
theorem pX {a b:Int}(h:bD a b=true):bD b a=false:=by
 cases h':bD b a
 ·rfl
 ·have:=kU h h';rw[dA]at this;cases this
def cu (T:Tab):Prop:=T.Pairwise fun p q=>bD p.1 q.1=true
def iQ (T:Tab)(k:Int):Option Cell:=(T.find? fun p=>k==p.1).map (·.2)
def aO (T:Tab)(g:Int):Nat:=T.countP fun p=>grp p.1==g
def jE (k:Int)(c:Cell):Tab->Tab
 |[]=>[(k,c)]
 |p::r=>if bD p.1 k then p::jE k c r else if p.1=k then(k,c)::r else(k,c)::p::r
def pJ (k:Int)(T:Tab):Tab:=T.filter fun p=>k !=p.1
def aQ (T:Tab):List Int:=T.map (·.1)
def Hr (c:Cell):Prop:=bF c.1/\(∀x∈c.2,bF x)/\c.2.length<=16
structure iy (T:Tab):Prop where
 rises:cu T
 key: ∀p∈T,bF p.1
 cell: ∀p∈T,Hr p.2
 many: ∀g,aO T g<=40
theorem cu.nodup {T:Tab}(h:cu T):(aQ T).Nodup:=by
 unfold aQ
 rw[List.Nodup,List.pairwise_map]
 exact h.imp fun{a b} hab e=>by rw[e,dA]at hab;cases hab
theorem jF {k:Int}{c:Cell}: ∀{T:Tab},cu T-> ∀{p:Int×Cell},p∈jE k c T↔p=(k,c)\/(p∈T/\p.1≠k)
 |[],_,p=>by simp[jE]
 |q::r,h,p=>by
  obtain⟨h1,h2⟩:=List.pairwise_cons.1 h
  unfold jE
  split
  ·rename_i hl
   have hne:q.1≠k:=fun e=>by rw[e,dA]at hl;cases hl
   rw[List.mem_cons,jF h2,List.mem_cons]
   constructor
   ·rintro(rfl|h|h)
    ·exact .inr ⟨.inl rfl,hne⟩
    ·exact .inl h
    ·exact .inr ⟨.inr h.1,h.2⟩
   ·rintro(h|⟨rfl|h,h'⟩)
    ·exact .inr (.inl h)
    ·exact .inl rfl
    ·exact .inr (.inr ⟨h,h'⟩)
  ·rename_i hl
   split
   ·rename_i he
    rw[List.mem_cons,List.mem_cons]
    constructor
    ·rintro(h|h)
     ·exact .inl h
     ·refine .inr ⟨.inr h,fun e=>?_⟩
      have:=h1 p h
      rw[e,he,dA]at this;cases this
    ·rintro(h|⟨rfl|h,h'⟩)
     ·exact .inl h
     ·exact absurd he h'
     ·exact .inr h
   ·rename_i he
    have hkq:bD k q.1=true:=(kV he).resolve_left hl
    rw[List.mem_cons]
    constructor
    ·rintro(h|h)
     ·exact .inl h
     ·refine .inr ⟨h,fun e=>?_⟩
      rcases List.mem_cons.1 h with rfl|h
      ·exact he e
      ·have:=kU hkq (h1 p h)
       rw[e,dA]at this;cases this
    ·rintro(h|⟨h,_⟩)
     ·exact .inl h
     ·exact .inr h
theorem cu.jE {k:Int}{c:Cell}: ∀{T:Tab},cu T->cu (jE k c T)
 |[],_=>by simp[cu,Go.Proofs.YtglbkodmmogomaaGreatDoor.jE]
 |q::r,h=>by
  obtain⟨h1,h2⟩:=List.pairwise_cons.1 h
  unfold Go.Proofs.YtglbkodmmogomaaGreatDoor.jE
  split
  ·rename_i hl
   refine List.pairwise_cons.2 ⟨fun p hp=>?_,cu.jE h2⟩
   rcases(jF h2).1 hp with rfl|⟨hp,_⟩
   ·exact hl
   ·exact h1 p hp
  ·rename_i hl
   split
   ·rename_i he
    exact List.pairwise_cons.2 ⟨fun p hp=>by have:=h1 p hp;rw[he]at this;exact this,h2⟩
   ·rename_i he
    have hkq:bD k q.1=true:=(kV he).resolve_left hl
    refine List.pairwise_cons.2 ⟨fun p hp=>?_,h⟩
    rcases List.mem_cons.1 hp with rfl|hp
    ·exact hkq
    ·exact kU hkq (h1 p hp)
theorem sQ {T:Tab}(h:cu T){k:Int}{c:Cell}:iQ T k=some c↔(k,c)∈T:=by
 induction T with
 |nil=>simp[iQ]
 |cons q r ih=>
  obtain⟨h1,h2⟩:=List.pairwise_cons.1 h
  unfold iQ at*
  rw[List.find?_cons]
  by_cases he:k=q.1
  ·subst he
   simp
   constructor
   ·intro h;exact .inl (by rw[<-h])
   ·rintro(h|h)
    ·rw[<-h]
    ·have:=h1 _ h;simp[dA]at this
  ·have:(k==q.1)=false:=by simp[he]
   rw[this]
   simp only[List.mem_cons]
   rw[ih h2]
   constructor
   ·exact .inr
   ·rintro(h|h)
    ·rw[<-h]at he;exact absurd rfl he
    ·exact h
theorem CJ {T:Tab}{k:Int}:iQ T k=none↔k∉aQ T:=by
 unfold iQ aQ
 simp
 constructor
 ·intro h a b hc;exact h _ _ _ hc rfl
 ·intro h a b l hab e;subst e;exact h _ _ hab
theorem cu.ext: ∀{T U:Tab},cu T->cu U->(∀p,p∈T↔p∈U)->T=U
 |[],[],_,_,_=>rfl
 |[],q::r,_,_,h=>by have:=(h q).2 (by simp);cases this
 |q::r,[],_,_,h=>by have:=(h q).1 (by simp);cases this
 |p::r,q::s,hT,hU,h=>by
  obtain⟨a1,a2⟩:=List.pairwise_cons.1 hT
  obtain⟨b1,b2⟩:=List.pairwise_cons.1 hU
  have hpq:p=q:=by
   rcases List.mem_cons.1 ((h p).1 (by simp))with e|e
   ·exact e
   ·rcases List.mem_cons.1 ((h q).2 (by simp))with e'|e'
    ·exact e'.symm
    ·have h1:=b1 p e
     have h2:=a1 q e'
     rw[pX h1]at h2;cases h2
  subst hpq
  congr 1
  refine cu.ext a2 b2 fun x=>⟨fun hx=>?_,fun hx=>?_⟩
  ·rcases List.mem_cons.1 ((h x).1 (by simp[hx]))with e|e
   ·subst e;have:=a1 x hx;rw[dA]at this;cases this
   ·exact e
  ·rcases List.mem_cons.1 ((h x).2 (by simp[hx]))with e|e
   ·subst e;have:=b1 x hx;rw[dA]at this;cases this
   ·exact e
theorem qw {k:Int}{T:Tab}{p:Int×Cell}:p∈pJ k T↔p∈T/\p.1≠k:=by
 unfold pJ;simp;intro _;exact⟨fun h e=>h e.symm,fun h e=>h e.symm⟩
theorem cu.pJ {k:Int}{T:Tab}(h:cu T):cu (pJ k T):=h.sublist List.filter_sublist
end
section
open Go Go.RowKit
theorem dY {k:IntKind}{a b:Int}(h:a=b):Ending.returned (.int k a)= .returned (.int k b):=by rw[h]
theorem Qx (k:Int):k.tmod 8=if 0<=k then k%8 else-((-k)%8):=tmod_eq_if k 8
theorem xg (k:Int)(w:World):
 Calls Tryz.prog 52 #[.int .i64 k] w fun e w'=>e= .returned (.int .i64 (grp k))/\w=w':=by
 have h1:=Qx k
 have H:=Lib.hid h1
 clear h1
 go_enter Tryz.func52,Tryz.ntmps52
 go_wp2
 ·rename_i hlt
  go_ret
  refine⟨dY ?_,rfl⟩
  have e:=H.out
  unfold grp
  show wrap64 (k.tmod 8+8)=k%8
  rw[IntWalk.wrap64_in _ ⟨by split at e<;>omega,by split at e<;>omega⟩]
  split at e<;>omega
 ·rename_i hge
  go_ret
  refine⟨dY ?_,rfl⟩
  have e:=H.out
  unfold grp
  show k.tmod 8=k%8
  split at e<;>omega
def Sj (w:World)(E k:Nat)(cs:List Value)(e:Ending)(w':World):Prop:=
 ∃v' n',e= .returned v'/\w'.ownsRow w.heap.size E k v' n' cs/\n'*k=cs.length/\Kept none' w w'
theorem Tryz.info2:(Tryz.prog.info? 2).map (fun i=>(i.zero,i.size,i.bytes))=some (some (.int .i64 0),1,8):=by kernel_rfl
theorem Og (v:Value)(cs:List Value)(w:World)(hr:Reads w 1 v cs)(h1: ∀x∈cs,x.oneCell'=true)(hlen:cs.length<=17592186044416):
 Calls Tryz.prog 142 #[v] w (Sj w 2 1 cs):=by
 obtain⟨i0,hi,hz0,hz1,hz2⟩:=info_parts Tryz.info2
 obtain⟨a,n,cap,rfl,hn,hc,hl,hp,hcell⟩:=hr.slice
 have hnil:=fun(w:World) a n c=>Lib.run_eql_slice_nil (P:=Tryz.prog) w 97 2 a n c 0 0 Tryz.underlying97
 cases a with
 |none=>
  have hcs:cs=[]:=by
   rcases hp with rfl|h|⟨b,off,h⟩
   ·exact List.eq_nil_of_length_eq_zero (by simpa using hl)
   ·cases h
   ·cases h
  subst hcs
  clear hcell hp h1 hr
  go_enter Tryz.func142,Tryz.ntmps142
  go_wp2
  go_ret
  exact⟨_,0,rfl,World.ownsRow_nil _ _ _ _,rfl,Kept.refl _ _⟩
 |some ad=>
  have H:=Lib.hid hr
  have HH:=Lib.hid hl
  have HC:=Lib.hid hlen
  clear hcell hp hr hl hlen
  go_enter Tryz.func142,Tryz.ntmps142
  have hnew:(w.alloc (.cells #[] 2)).ownsRow w.heap.size 2 1 (.slice (some ⟨w.heap.size,0,none⟩) 0 0) 0 []:=World.ownsRow_made w #[] 0 (Nat.le_refl _) (Nat.zero_le _) rfl
  have hrd:=H.out.pure ((Kept.refl none' w).alloc (.cells #[] 2))
  have N1:=Lib.hid hnew
  have N2:=Lib.hid hrd
  clear hnew hrd
  have B1:Hid ((0*1+cs.length)*8<=140737488355328):=by have:=HC.out;show(0*1+cs.length)*8<=140737488355328;omega
  have B2:Hid (0*1+cs.length<=maxLen):=by have:=HC.out;show 0*1+cs.length<=maxLen;unfold maxLen;omega
  go_wp2_with (at_builtin;(refine kX rfl (.tmp 5) (.tmp 6) 97 rfl w.heap.size 2 i0 (.int .i64 0) 1 8 Tryz.underlying97 hi hz0 hz1 hz2 rfl (by decide) _ 0 [] rfl N1.out _ cs rfl N2.out h1 B1.out B2.out (by simp) ?_);intro v' n' w' g1 g2 g3 g4)
  go_ret
  refine⟨v',n',rfl,g1,by simpa using g2,?_⟩
  exact((Kept.refl none' w).alloc _).new (Kept.grown (S:=one w.heap.size) g3 (fun k hk _=>by cases hk;rfl)) (fun k hk e=>by unfold one at e;omega)
theorem lH {w:World}{base base' e size n:Nat}{v:Value}{xs:List Value}(h:w.ownsRow base e size v n xs)(hb:base'<=base):w.ownsRow base' e size v n xs:=by
 refine⟨h.1,?_⟩
 rcases h.2 with h2|⟨g,cap,cur,h1,h2,h3⟩
 ·exact .inl h2
 ·exact .inr ⟨g,cap,cur,h1,Nat.le_trans hb h2,h3⟩
theorem ay {w:World}{base e size n:Nat}{v:Value}{xs:List Value}(h:w.ownsRow base e size v n xs): ∃a cap,v= .slice a n cap:=by
 rcases h.2 with⟨rfl,rfl⟩|⟨g,cap,cur,rfl,_⟩
 ·exact⟨_,_,rfl⟩
 ·exact⟨_,_,rfl⟩
def Sm (w:World)(acc:Int)(cs:List Value)(e:Ending)(w':World):Prop:=
 ∃v' n',e= .returned (.agg #[.int .i64 acc,v'])/\w'.ownsRow w.heap.size 2 1 v' n' cs/\n'*1=cs.length/\Kept none' w w'
theorem I7 (acc:Int)(v:Value)(cs:List Value)(w:World)(hr:Reads w 1 v cs)(h1: ∀x∈cs,x.oneCell'=true)(hlen:cs.length<=17592186044416):
 Calls Tryz.prog 101 #[.agg #[.int .i64 acc,v]] w (Sm w acc cs):=by
 obtain⟨a,n,cap,rfl,hn,hc,hl,hp,hcell⟩:=hr.slice
 clear hcell hp hl
 have H:=Lib.hid hr
 clear hr
 go_enter Tryz.func101,Tryz.ntmps101
 go_wp2_with fail
 obtain⟨W0,hW0⟩: ∃W0,((w.alloc (Obj.cells #[Value.int IntKind.i64 acc,Value.slice a n cap] 109)).alloc (Obj.cells #[Value.int IntKind.i64 0,Value.slice none 0 0] 109))=W0:=⟨_,rfl⟩
 have c0:W0.cell? ⟨w.heap.size,0,none⟩=some (.int .i64 acc):=by rw[<-hW0];simp
 have c1:W0.cell? ⟨w.heap.size,1,none⟩=some (.slice a n cap):=by rw[<-hW0];simp
 have c2:W0.cell? ⟨w.heap.size+1,0,none⟩=some (.int .i64 0):=by rw[<-hW0];simp
 have c3:W0.cell? ⟨w.heap.size+1,1,none⟩=some (.slice none 0 0):=by rw[<-hW0];simp
 have f2:W0.frozen? ⟨w.heap.size+1,0,none⟩=false:=by rw[<-hW0];simp
 have f3:W0.frozen? ⟨w.heap.size+1,1,none⟩=false:=by rw[<-hW0];simp
 have hs:W0.heap.size=w.heap.size+2:=by rw[<-hW0];simp
 have hk0:Kept none' w W0:=by rw[<-hW0];exact((Kept.refl _ _).alloc _).alloc _
 rw[hW0];clear hW0
 refine ak [0,1,2,3,4,5,6] (fun W=>Kept none' W0 W) (by kernel_rfl) (by kernel_rfl) rfl (Kept.refl _ _).drew ?_
 simp only[List.map_cons,List.map_nil,List.getElem?_toArray,List.getElem?_cons_zero,List.getElem?_cons_succ,Option.getD_some]
 iterate 4 (apply aj rfl rfl;(intro W hW;have hc:=hW.cq;go_simp;rfl);go_frame)
 apply aB rfl rfl
 intro K hK
 go_wp2_with fail
 refine(Og _ cs _ (H.out.pure (hk0.drew)) h1 hlen).mono ?_
 rintro e w1 ⟨v',n',rfl,g1,g2,g3⟩
 obtain⟨a',cap',rfl⟩:=ay g1
 have k1:Kept none' W0 w1:=g3.bP
 go_wp2_with fail
 refine hK _ _ (fun _=>k1) ?_
 apply aj rfl rfl
 ·intro W hW;have hc:=hW.cq;go_simp;rfl
 go_frame
 apply aB rfl rfl
 intro K2 hK2
 have hc:=k1.cq
 have hf:=k1.fq
 go_wp2_with fail
 refine hK2 _ _ (fun h=>absurd rfl h) (nN (by kernel_rfl) ?_)
 go_wp2_with fail
 have hs1:W0.heap.size<=w1.heap.size:=k1.size
 have q0:=k1.cell (p:=⟨w.heap.size+1,0,none⟩) (fun h=>h) c2
 have q1:=k1.cell (p:=⟨w.heap.size+1,1,none⟩) (fun h=>h) c3
 refine bodyPost_ret (v:= .agg #[.int .i64 acc, .slice a' n' cap']) (by simp[results,Tryz.results101,go_sem,q0,q1]) rfl ⟨_,n',rfl,?_,g2,?_⟩
 ·refine lH (base:=W0.heap.size) ?_ (by omega)
  exact(((Kept.refl (fun k=>k<W0.heap.size) w1).setCell (p:=⟨w.heap.size+1,0,none⟩) (.inl (by simp;omega)) _).setCell (p:=⟨w.heap.size+1,1,none⟩) (.inl (by simp;omega)) _).owns g1
   (fun k hk h=>by have:=(g1.lt k hk).1;simp at this;omega)
 ·exact((hk0.trans k1).setCell (p:=⟨w.heap.size+1,0,none⟩) (.inr (by simp)) _).setCell (p:=⟨w.heap.size+1,1,none⟩) (.inr (by simp)) _
def ints (l:List Int):List Value:=l.map (Value.int .i64)
theorem rU (l:List Int): ∀x∈ints l,x.oneCell'=true:=by
 intro x hx
 obtain⟨n,_,rfl⟩:=List.mem_map.1 hx
 rfl
@[simp] theorem pY (l:List Int):(ints l).length=l.length:=by simp[ints]
abbrev up (B:Nat):Nat->Prop:=fun k=>B<=k
theorem Kept.up {S:Nat->Prop}{w w':World}(h:Kept S w w'): ∀k,w'.heap.size<=k->up w.heap.size k:=fun _ hk=>Nat.le_trans h.size hk
def CellIs (w:World)(B:Nat->Prop)(v:Value)(c:Cell):Prop:=
 ∃lv,v= .agg #[.int .i64 c.1,lv]/\Reads w 1 lv (ints c.2)/\ ∀b,Value.blk lv=some b->B b
structure TabAt (w:World)(B:Nat->Prop)(b m:Nat)(T:Tab):Prop where
 hb:B b
 hm:B m
 obj:w.heap[b]?=some (.cells #[.map (some m)] 115 (0,0))
 map: ∃l,dh w m l/\(l.map (·.1)).Perm (aQ T)/\ ∀p∈l,∃c,(p.1,c)∈T/\CellIs w B p.2 c
 ok:iy T
theorem Reads.isCells {w:World}{v:Value}{cs:List Value}{k b:Nat}(h:Reads w k v cs)(hk:0<k)(hb:Value.blk v=some b): ∃c E f,w.heap[b]?=some (.cells c E f):=by
 obtain⟨a,n,cap,rfl,h1,h2,h3,h4⟩:=h
 have hn:n≠0:=by
  intro h;subst h
  cases a<;>simp[Value.blk]at hb
 have hlen:0<cs.length:=by rw[h3];exact Nat.mul_pos (by omega) hk
 rcases h4 with rfl|⟨b',off,rfl,h4⟩
 ·simp at hlen
 ·simp[Value.blk,hn]at hb
  subst hb
  have:=h4 0 (cs[0]) (by simp)
  unfold World.cell? at this
  split at this
  ·rename_i c E f he;exact⟨c,E,f,he⟩
  ·cases this
def iP (w:World)(S:Nat->Prop)(B:Nat->Prop):Prop:= ∀k,S k->B k->k<w.heap.size-> ∀c E f,w.heap[k]?≠some (.cells c E f)
theorem iP.none (w:World)(B:Nat->Prop):iP w none' B:=fun _ h=>h.elim
theorem iP.map {w:World}{m:Nat}{l:List (Int×Value)}(h:dh w m l)(B:Nat->Prop):iP w (one m) B:=by
 intro k hk _ _ c E f e
 cases hk
 obtain⟨L,clock,h,_⟩:=h
 rw[h.heap]at e;cases e
theorem iP.iter {w:World}{r m:Nat}{l left:List (Int×Value)}(h:jD w r m l left)(B:Nat->Prop):iP w (one r) B:=by
 intro k hk _ _ c E f e
 cases hk
 obtain⟨L,clock,seen,_,_,h,_⟩:=h
 rw[h]at e;cases e
theorem CellIs.kept {w w':World}{B:Nat->Prop}{v:Value}{c:Cell}{S:Nat->Prop}(h:CellIs w B v c)(hk:Kept S w w')(hS:iP w S B):CellIs w' B v c:=by
 obtain⟨lv,h1,h2,h3⟩:=h
 refine⟨lv,h1,h2.kept hk (fun b hb hs=>?_),h3⟩
 obtain⟨c,E,f,he⟩:=h2.isCells (by decide) hb
 exact hS b hs (h3 b hb) (Array.getElem?_eq_some_iff.1 he).1 c E f he
theorem CellIs.mono {w:World}{B B':Nat->Prop}{v:Value}{c:Cell}(h:CellIs w B v c)(hB: ∀k,B k->k<w.heap.size->B' k):CellIs w B' v c:=by
 obtain⟨lv,h1,h2,h3⟩:=h
 refine⟨lv,h1,h2,fun b hb=>hB b (h3 b hb) ?_⟩
 obtain⟨c,E,f,he⟩:=h2.isCells (by decide) hb
 exact(Array.getElem?_eq_some_iff.1 he).1
theorem TabAt.kept {w w':World}{B:Nat->Prop}{b m:Nat}{T:Tab}{S:Nat->Prop}(h:TabAt w B b m T)(hk:Kept S w w')(hS:iP w S B)(hm: ¬S m):TabAt w' B b m T:=by
 obtain⟨h1,h2,h3,⟨l,h4,h5,h6⟩,h7⟩:=h
 refine⟨h1,h2,hk.heap h3 (fun hs=>hS b hs h1 (Array.getElem?_eq_some_iff.1 h3).1 _ _ _ h3),⟨l,h4.kept hk hm,h5,fun p hp=>?_⟩,h7⟩
 obtain⟨c,hc,hcc⟩:=h6 p hp
 exact⟨c,hc,hcc.kept hk hS⟩
theorem TabAt.pure {w w':World}{B:Nat->Prop}{b m:Nat}{T:Tab}(h:TabAt w B b m T)(hk:Kept none' w w'):TabAt w' B b m T:=h.kept hk (.none _ _) (fun h=>h)
theorem TabAt.mono {w:World}{B B':Nat->Prop}{b m:Nat}{T:Tab}(h:TabAt w B b m T)(hB: ∀k,B k->k<w.heap.size->B' k):TabAt w B' b m T:=by
 obtain⟨h1,h2,h3,⟨l,h4,h5,h6⟩,h7⟩:=h
 have hm:m<w.heap.size:=h4.lt
 refine⟨hB b h1 (Array.getElem?_eq_some_iff.1 h3).1,hB m h2 hm,h3,⟨l,h4,h5,fun p hp=>?_⟩,h7⟩
 obtain⟨c,hc,hcc⟩:=h6 p hp
 exact⟨c,hc,hcc.mono hB⟩
theorem TabAt.cell {w:World}{B:Nat->Prop}{b m:Nat}{T:Tab}(h:TabAt w B b m T):w.cell? ⟨b,0,none⟩=some (.map (some m)):=by
 rw[cell_of_row w b 0 _ _ _ h.obj];rfl
theorem JQ {T:Tab}{l:List Int}(h:l.Perm (aQ T))(g:Int):l.countP (fun k=>grp k==g)=aO T g:=by
 rw[h.countP_eq]
 unfold aQ aO
 rw[List.countP_map]
 rfl
def Gives (w:World)(v:Value)(e:Ending)(w':World):Prop:=e= .returned v/\Kept none' w w'
theorem Fj (B:Nat->Prop)(b m:Nat)(T:Tab)(g:Int)(w:World)(h:TabAt w B b m T):
 Calls Tryz.prog 51 #[.pointer (some ⟨b,0,none⟩), .int .i64 g] w (Gives w (.int .i64 (aO T g))):=by
 have hcell:=h.cell
 obtain⟨l,hl,hperm,hcs⟩:=h.map
 obtain⟨w0,hrun,hit,hk0,hs0⟩:=hl.range (P:=Tryz.prog) Tryz.underlying113
 have dR:=h.ok.many g
 have IT:=Lib.hid hit
 have HS:=Lib.hid hs0
 have HP:=Lib.hid (JQ hperm g)
 clear hit hs0 hperm hcs hl h
 go_enter Tryz.func51,Tryz.ntmps51
 go_wp2
 go_loopg [5] l.length (fun k i wr=> ∃left c,jD wr w.heap.size m l left/\left.length=k/\i= .int .i64 ((c:Nat):Int)/\c+(left.map (·.1)).countP (fun k=>grp k==g)=aO T g/\Kept none' w wr)
 case atStart=>exact⟨l,0,IT.out,rfl,rfl,by rw[<-HP.out];simp,hk0⟩
 case round=>
  obtain⟨left,c,hit,hlen,rfl,hsum,hk⟩:=hrel
  have hc:c<=40:=by omega
  have A:=Lib.hid (And.intro hlen hsum)
  clear hlen hsum dR
  rcases hit.next (P:=Tryz.prog) 0 with⟨rfl,hrun⟩|⟨p,left',w2,hp,hrun,hit2,hk2,hs2,hen⟩
  ·clear hit
   go_wp2
   go_ret
   exact⟨dY (by have:=A.out.2;simp at this;omega),hk⟩
  ·clear hit
   have I2:=Lib.hid hit2
   have HP:=Lib.hid hp
   clear hit2 hs2 hp
   have hk3:Kept none' w w2:=hk.new hk2 (fun k hk e=>by unfold one at e;omega)
   clear hk2
   go_wp2_with (go_at_call 52;refine(xg _ _).mono ?_;rintro e w' ⟨rfl,rfl⟩)
   ·rename_i hg
    go_roundg left'.length
    case rel=>
     refine⟨left',c+1,I2.out,rfl,by go_num,?_,hk3⟩
     have h1:=(HP.out.map (·.1)).countP_eq (fun k=>grp k==g)
     rw[List.map_cons,List.countP_cons,if_pos hg]at h1
     have h2:=A.out.2
     omega
    case measure=>
     have h1:=HP.out.length_eq
     have h2:=A.out.1
     simp at h1
     omega
   ·rename_i hg
    go_roundg left'.length
    case rel=>
     refine⟨left',c,I2.out,rfl,rfl,?_,hk3⟩
     have h1:=(HP.out.map (·.1)).countP_eq (fun k=>grp k==g)
     rw[List.map_cons,List.countP_cons,if_neg (by rw[hg];simp)]at h1
     have h2:=A.out.2
     omega
    case measure=>
     have h1:=HP.out.length_eq
     have h2:=A.out.1
     simp at h1
     omega
theorem new_any (w:World):Calls Tryz.prog 49 #[] w fun e w'=> ∃b m,e= .returned (.pointer (some ⟨b,0,none⟩))/\TabAt w' (up w.heap.size) b m []/\Kept none' w w':=by
 have hmm:= @run_makeMap Tryz.prog
 go_enter Tryz.func49,Tryz.ntmps49
 go_wp2
 go_ret
 refine⟨w.heap.size+1,w.heap.size,rfl,⟨Nat.le_succ _,Nat.le_refl _,?_,⟨[],?_,by simp[aQ],by simp⟩,⟨by simp[cu],by simp,by simp,fun g=>by simp[aO]⟩⟩,?_⟩
 ·have:=heap_alloc_new (w.alloc (.map #[] 0)) (.cells #[.map (some w.heap.size)] 115)
  rwa[World.size_alloc]at this
 ·exact(dh.made w).kept ((Kept.refl none' _).alloc _) (fun h=>h)
 ·exact((Kept.refl none' _).alloc _).alloc _
end
section
structure Rec where
 pos:Int
 key:Int
 val:Int
deriving DecidableEq
instance:Inhabited Rec:=⟨⟨0,0,0⟩⟩
end
section
open Go Go.RowKit
theorem bF.small {n:Int}(h1: -1000<=n)(h2:n<=1000):bF n:=⟨by omega,by omega⟩
inductive Ex where
 |mk (op n:Int) (args:List Ex)
instance:Inhabited Ex:=⟨.mk 0 0 []⟩
def Ex.op:Ex->Int| .mk o _ _=>o
def Ex.n:Ex->Int| .mk _ n _=>n
def Ex.args:Ex->List Ex| .mk _ _ l=>l
def arity (op:Int):Int:=if op=0\/18<op then-1 else if op<=4 then 0 else if op<=6 then 1 else if op=18 then 3 else 2
def bV:Nat->Ex->Bool
 |0,_=>false
 |f+1, .mk op n args=>decide (arity op=args.length)&&decide (0<=n)&&decide (n=0\/op=1)&&args.all (bV f)
abbrev sK:=(Int×Int×Int×Int)×Int
def lF:List sK:=
 [((1,0,0,0),1),((2,0,0,0),1),((3,0,0,0),1),((4,0,0,0),1),((5,1,0,0),1),
  ((7,1,1,0),1),((8,1,1,0),1),((9,1,1,0),1),((10,1,1,0),1),((11,1,1,0),1),((6,2,0,0),2),
  ((16,2,2,0),2),((17,2,2,0),2),((14,2,2,0),2),((15,2,2,0),2),
  ((12,1,1,0),2),((13,1,1,0),2),((14,1,1,0),2),((15,1,1,0),2),((18,2,1,1),1),((18,2,2,2),2)]
def gB (k:Int×Int×Int×Int):Int:=((lF.find? fun r=>r.1==k).map (·.2)).getD 0
def aI:Nat->Ex->Int
 |0,_=>0
 |f+1, .mk op _ args=>if(args.map (aI f)).contains 0 then 0 else gB (op,(args.map (aI f)).getD 0 0,(args.map (aI f)).getD 1 0,(args.map (aI f)).getD 2 0)
theorem J8 {k:Int×Int×Int×Int}(h:gB k≠0):(k,gB k)∈lF:=by
 unfold gB at*
 cases hf:lF.find? (fun r=>r.1==k)with
 |none=>rw[hf]at h;exact absurd rfl h
 |some r=>
  have h1:=List.find?_some hf
  have h2:=List.mem_of_find?_eq_some hf
  simp only[beq_iff_eq]at h1
  simp only[Option.map_some,Option.getD_some]
  rw[<-h1];exact h2
theorem EP {op a b c:Int}(h:gB (op,a,b,c)≠0):
 (gB (op,a,b,c)=1/\((op=1\/op=2\/op=3\/op=4)\/(op=5/\a=1)\/((op=7\/op=8\/op=9\/op=10\/op=11)/\a=1/\b=1)\/(op=18/\a=2/\b=1/\c=1)))\/
 (gB (op,a,b,c)=2/\((op=6/\a=2)\/((op=16\/op=17\/op=14\/op=15)/\a=2/\b=2)\/((op=12\/op=13\/op=14\/op=15)/\a=1/\b=1)\/(op=18/\a=2/\b=2/\c=2))):=by
 have h1:=J8 h
 clear h
 generalize gB (op,a,b,c)=t at*
 simp only[lF,List.mem_cons,List.not_mem_nil,or_false,Prod.mk.injEq]at h1
 rcases h1 with h1|h1|h1|h1|h1|h1|h1|h1|h1|h1|h1|h1|h1|h1|h1|h1|h1|h1|h1|h1|h1<;>
  (obtain⟨⟨rfl,rfl,rfl,rfl⟩,rfl⟩:=h1;decide)
theorem Lp {f:Nat}{op n:Int}{args:List Ex}(h:bV (f+1) (.mk op n args)=true):arity op=args.length/\0<=n/\(n=0\/op=1)/\ ∀a∈args,bV f a=true:=by
 simp only[bV,Bool.and_eq_true,decide_eq_true_eq,List.all_eq_true]at h
 exact⟨h.1.1.1,h.1.1.2,h.1.2,h.2⟩
theorem zL {k:Int}{c:Cell}{g:Int}: ∀{T:Tab},cu T->aO (jE k c T) g=aO T g+(if iQ T k=none/\grp k=g then 1 else 0)
 |[],_=>by simp[aO,jE,iQ,List.countP_cons]
 |q::r,h=>by
  obtain⟨h1,h2⟩:=List.pairwise_cons.1 h
  unfold jE
  split
  ·rename_i hl
   have hne:k≠q.1:=fun e=>by rw[e,dA]at hl;cases hl
   have ih:=zL (k:=k) (c:=c) (g:=g) h2
   have hg:iQ (q::r) k=iQ r k:=by
    have hf:(k==q.1)=false:=by simp[hne]
    unfold iQ;rw[List.find?_cons,hf]
   rw[hg]
   unfold aO at*
   rw[List.countP_cons,List.countP_cons,ih]
   omega
  ·rename_i hl
   split
   ·rename_i he
    have hg:iQ (q::r) k≠none:=by unfold iQ;rw[List.find?_cons];simp[he]
    rw[if_neg (fun h=>hg h.1)]
    unfold aO
    rw[List.countP_cons,List.countP_cons]
    simp only[he]
    omega
   ·rename_i he
    have hkq:bD k q.1=true:=(kV he).resolve_left hl
    have hg:iQ (q::r) k=none:=by
     rw[CJ]
     unfold aQ
     intro hm
     obtain⟨p,hp,e⟩:=List.mem_map.1 hm
     rcases List.mem_cons.1 hp with rfl|hp
     ·exact he e
     ·have:=kU hkq (h1 p hp);rw[e,dA]at this;cases this
    rw[hg]
    unfold aO
    rw[List.countP_cons]
    simp
theorem iy.jE {T:Tab}(h:iy T){k:Int}{c:Cell}(hk:bF k)(hc:Hr c)(hm:iQ T k≠none\/aO T (grp k)<40):iy (jE k c T):=by
 refine⟨h.rises.jE,fun p hp=>?_,fun p hp=>?_,fun g=>?_⟩
 ·rcases(jF h.rises).1 hp with rfl|hp
  ·exact hk
  ·exact h.key p hp.1
 ·rcases(jF h.rises).1 hp with rfl|hp
  ·exact hc
  ·exact h.cell p hp.1
 ·rw[zL h.rises]
  split
  ·rename_i hh
   obtain⟨h1,rfl⟩:=hh
   have:=hm.resolve_left (fun h=>h h1)
   omega
  ·have:=h.many g;omega
def Xz (T:Tab)(k:Int)(n:Nat):Int:=if 16<n then 2 else if iQ T k=none/\40<=aO T (grp k)then 7 else 0
theorem iy.pJ {T:Tab}(h:iy T)(k:Int):iy (pJ k T):=
 ⟨h.rises.pJ,fun p hp=>h.key p (qw.1 hp).1,fun p hp=>h.cell p (qw.1 hp).1,fun g=>Nat.le_trans (List.Sublist.countP_le List.filter_sublist) (h.many g)⟩
theorem LY (T:Tab):T.length=aO T 0+aO T 1+aO T 2+aO T 3+aO T 4+aO T 5+aO T 6+aO T 7:=by
 unfold aO
 induction T with
 |nil=>rfl
 |cons p r ih=>
  have h1:=U5 p.1
  have h2:=U6 p.1
  simp only[List.length_cons,List.countP_cons,ih]
  have h3:grp p.1=0\/grp p.1=1\/grp p.1=2\/grp p.1=3\/grp p.1=4\/grp p.1=5\/grp p.1=6\/grp p.1=7:=by omega
  rcases h3 with h|h|h|h|h|h|h|h<;>simp[h]<;>omega
theorem iy.len {T:Tab}(h:iy T):T.length<=320:=by
 have:=LY T
 have:=h.many 0;have:=h.many 1;have:=h.many 2;have:=h.many 3;have:=h.many 4;have:=h.many 5;have:=h.many 6;have:=h.many 7
 omega
structure Nod where
 kind:Int
 x:Ex
 n:Int
theorem nH:bF 0:=⟨by omega,by omega⟩
end
end Go.Proofs.YtglbkodmmogomaaGreatDoor
