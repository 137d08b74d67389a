/- append to a slice of the call's own, whatever slice is appended. -/
import Derived.Test.YtglbkodmmogomaaGreatDoorI01
import Derived.Test.YtglbkodmmogomaaGreatDoorProg
import Derived.Deep.LoopGhost
set_option linter.unusedVariables false
set_option linter.unusedSimpArgs false
set_option maxHeartbeats 400000
set_option maxRecDepth 100000
namespace Go.Proofs.YtglbkodmmogomaaGreatDoor
section
open Go Go.RowKit
section
variable {P:Program} {w:World}
theorem aW (base:Nat)(t ty e:TypeId)(i:TypeInfo)(z:Value)(size bytes:Nat)(ht:P.underlying t=some (.slice e))(hi:P.info? e=some i)(hz:i.zero=some z)
 (hsize:i.size=size) (hby:i.bytes=bytes) (hzs:z.cells.size=size) (hsz:0<size)
 {v:Value} {n:Nat} {xs:List Value} (hown:w.ownsRow base e size v n xs) {u:Value} {cs:List Value} (hr:Reads w size u cs) (h1: ∀x∈cs,x.oneCell'=true)
 (hmax:(n*size+cs.length)*bytes<=140737488355328) (hbig:n*size+cs.length<=maxLen) (hbase:base<=w.heap.size):
 ∃v' n' w',(Builtin.append_ #[t,t] ty #[v,u]).run P w= .ok v' w'/\w'.ownsRow base e size v' n' (xs++cs)/\n'*size=n*size+cs.length/\w.grownBy w' v.ownBlock/\
  (v'= .slice none 0 0↔v= .slice none 0 0/\cs=[]):=by
 obtain⟨a,m,cap,rfl,hm1,hm2,hlen,hcells⟩:=hr;have hnm:n+m<=n*size+cs.length:=(by rw[hlen,<-Nat.add_mul];exact Nat.le_mul_of_pos_right _ hsz);by_cases hc:cs=[]
 ·subst hc
  have hm:m=0:=by
   rcases Nat.eq_zero_or_pos m with h|h
   ·exact h
   ·have:=Nat.mul_pos h hsz;simp at hlen;omega
  subst hm;have hf: ∀W,(Builtin.firstCells size 0 (.slice a 0 cap)).run P W= .ok #[] W:=fun W=>(by cases a<;>simp[Builtin.firstCells,loadCells,loadCellsFrom]);refine⟨v,n,w,?_,by simpa using hown,by simp,⟨rfl,rfl,rfl,ξ _,fun _ _ _=>rfl⟩,by simp⟩
  rcases hown.2 with⟨rfl,rfl⟩|⟨g,dG,cur,rfl,hbg,hg,hnc,hcm,hcs,htake⟩
  ·subst hsize
   simp[Builtin.append_,run_underlying ht,sizeOf,typeInfo,hi,Builtin.lenOf,hf]
  ·subst hsize
   simp[Builtin.append_,run_underlying ht,sizeOf,typeInfo,hi,Builtin.lenOf,hf,hnc,storeCells]
 ·obtain⟨b,off,rfl,hcl⟩:=hcells.resolve_left hc
  have hadd: ∀j,(⟨b,off,none⟩:Addr).add j=⟨b,off+j,none⟩:=fun j=>Addr.add_lit b off j;obtain⟨v',w',g1,g2,g3,g4⟩:=run_append_own (P:=P) w base t ty e i z size bytes ht hi hz hsize hby hzs hsz v n xs hown ⟨b,off,none⟩ m cap cs hlen
   (fun j x hx=>by rw[hadd];exact hcl j x hx) h1 (ω hnm hbig) (ω (Nat.mul_le_mul_right _ hnm) hmax) hbase
  refine⟨v',n+m,w',g1,g2,by rw[Nat.add_mul,hlen],g3,?_⟩;rw[g4];constructor
  ·rintro⟨h,rfl⟩;exact⟨h,absurd (τ (by simpa using hlen)) hc⟩
  ·rintro⟨h,h'⟩;exact absurd h' hc
theorem Fa {o:Oper}{a:Act}{K:Act->World->Prop}{Q:Exit->Act->World->Prop}(s x:Operand)(t:TypeId)
 (ho:o.op= .call {callee:= .builtin .append,args:= #[s,x],argTypes:= #[t,t]})
 (base e:Nat) (i:TypeInfo) (z:Value) (size bytes:Nat) (ht:P.underlying t=some (.slice e)) (hi:P.info? e=some i) (hz:i.zero=some z)
 (hsize:i.size=size) (hby:i.bytes=bytes) (hzs:z.cells.size=size) (hsz:0<size)
 (v:Value) (n:Nat) (xs:List Value) (hs:a.eval s=v) (hown:w.ownsRow base e size v n xs) (u:Value) (cs:List Value) (hx:a.eval x=u) (hr:Reads w size u cs) (h1: ∀x∈cs,x.oneCell'=true)
 (hmax:(n*size+cs.length)*bytes<=140737488355328) (hbig:n*size+cs.length<=maxLen) (hbase:base<=w.heap.size)
 (h: ∀v' n' w',w'.ownsRow base e size v' n' (xs++cs)->n'*size=n*size+cs.length->w.grownBy w' v.ownBlock->(v'= .slice none 0 0↔v= .slice none 0 0/\cs=[])->K (a.put o.dst v') w'):o.wp P a w K Q:=by
 obtain⟨v',n',w',g1,g2,g3,g4,g5⟩:=aW (P:=P) base t o.type e i z size bytes ht hi hz hsize hby hzs hsz hown hr h1 hmax hbig hbase;unfold Oper.wp execOp;simp only[ho,resolve,invoke,builtin,Sem.run_bind,Sem.run_pure,Result.andThen_ok,List.map_toArray,Θ,Ξ,hs,hx,g1];exact h v' n' w' g2 g3 g4 g5
theorem jl {ops:Array Oper}{rest:List Oper}{o:Oper}{a:Act}{Q:Exit->Act->World->Prop}(hgd:o.guard=none)(s x:Operand)(t:TypeId)
 (ho:o.op= .call {callee:= .builtin .append,args:= #[s,x],argTypes:= #[t,t]})
 (base e:Nat) (i:TypeInfo) (z:Value) (size bytes:Nat) (ht:P.underlying t=some (.slice e)) (hi:P.info? e=some i) (hz:i.zero=some z)
 (hsize:i.size=size) (hby:i.bytes=bytes) (hzs:z.cells.size=size) (hsz:0<size)
 (v:Value) (n:Nat) (xs:List Value) (hs:a.eval s=v) (hown:w.ownsRow base e size v n xs) (u:Value) (cs:List Value) (hx:a.eval x=u) (hr:Reads w size u cs) (h1: ∀x∈cs,x.oneCell'=true)
 (hmax:(n*size+cs.length)*bytes<=140737488355328) (hbig:n*size+cs.length<=maxLen) (hbase:base<=w.heap.size)
 (h: ∀v' n' w',w'.ownsRow base e size v' n' (xs++cs)->n'*size=n*size+cs.length->w.grownBy w' v.ownBlock->(v'= .slice none 0 0↔v= .slice none 0 0/\cs=[])->wpList P ops Q rest (a.put o.dst v') w'):
 wpList P ops Q (o::rest) a w:=
 wpList_plain hgd fun _ hK=>Fa s x t ho base e i z size bytes ht hi hz hsize hby hzs hsz v n xs hs hown u cs hx hr h1 hmax hbig hbase (fun v' n' w' g1 g2 g3 g4=>hK _ _ (h v' n' w' g1 g2 g3 g4))
theorem Reads.slice {k:Nat}{v:Value}{cs:List Value}(h:Reads w k v cs): ∃a n cap,v= .slice a n cap/\n<=cap/\cap<=maxLen/\cs.length=n*k/\(n=0\/k=0\/ ∃b off,a=some ⟨b,off,none⟩)/\
 (∀b off,a=some ⟨b,off,none⟩-> ∀i x,cs[i]?=some x->w.cell? ⟨b,off+i,none⟩=some x):=by
 obtain⟨a,n,cap,rfl,h1,h2,h3,h4⟩:=h;refine⟨a,n,cap,rfl,h1,h2,h3,?_,?_⟩
 ·rcases h4 with rfl|⟨b,off,rfl,h4⟩
  ·have h3':n*k=0:=by rw[<-h3];rfl
   rcases Nat.mul_eq_zero.1 h3' with h5|h5
   ·exact .inl h5
   ·exact .inr (.inl h5)
  ·exact .inr (.inr ⟨b,off,rfl⟩)
 ·rcases h4 with rfl|⟨b,off,rfl,h4⟩
  ·intro b off _ i x hx;simp at hx
  ·rintro b' off' e i x hx
   cases e;exact h4 i x hx
end
end
section
def aH (n:Int):Prop:= -9223372036854775808<=n/\n<=9223372036854775807
def grp (k:Int):Int:=k%8
theorem ae5 (k:Int):0<=grp k:=by unfold grp;omega
theorem ae6 (k:Int):grp k<8:=by unfold grp;omega
abbrev Cell:=Int×List Int
abbrev Tab:=List (Int×Cell)
def bH (a b:Int):Bool:=decide (grp a<grp b)||(decide (grp a=grp b)&&decide (a<b))
theorem pV {a b:Int}:bH a b=true↔grp a<grp b\/grp a=grp b/\a<b:=by simp[bH]
theorem bM (a:Int):bH a a=false:=by simp[bH]
theorem iI {a b c:Int}(h:bH a b=true)(k:bH b c=true):bH a c=true:=by rw[pV]at*;omega
theorem jB {a b:Int}(h:a≠b):bH a b=true\/bH b a=true:=by rw[pV,pV];omega
theorem vH {a b:Int}(h:bH a b=true):bH b a=false:=by
 cases h':bH b a
 ·rfl
 ·have:=iI h h';rw[bM]at this;cases this
def dJ (T:Tab):Prop:=T.Pairwise fun p q=>bH p.1 q.1=true
def bY (T:Tab)(k:Int):Option Cell:=(T.find? fun p=>k==p.1).map (·.2)
def aV (T:Tab)(g:Int):Nat:=T.countP fun p=>grp p.1==g
def gQ (k:Int)(c:Cell):Tab->Tab
 |[]=>[(k,c)]
 |p::r=>if bH p.1 k then p::gQ k c r else if p.1=k then(k,c)::r else(k,c)::p::r
def dS (k:Int)(T:Tab):Tab:=T.filter fun p=>k !=p.1
def bT (T:Tab):List Int:=T.map (·.1)
def G8 (c:Cell):Prop:=aH c.1/\(∀x∈c.2,aH x)/\c.2.length<=16
structure eP (T:Tab):Prop where
 rises:dJ T
 key: ∀p∈T,aH p.1
 cell: ∀p∈T,G8 p.2
 many: ∀g,aV T g<=40
theorem dJ.nodup {T:Tab}(h:dJ T):(bT T).Nodup:=by unfold bT;rw[List.Nodup,List.pairwise_map];exact h.imp fun{a b} hab e=>by rw[e,bM]at hab;cases hab
theorem jU {k:Int}{c:Cell}: ∀{T:Tab},dJ T-> ∀{p:Int×Cell},p∈gQ k c T↔p=(k,c)\/(p∈T/\p.1≠k)
 |[],_,p=>by simp[gQ]
 |q::r,h,p=>by
  obtain⟨h1,h2⟩:=List.pairwise_cons.1 h;unfold gQ;split
  ·rename_i hl
   have hne:q.1≠k:=fun e=>(by rw[e,bM]at hl;cases hl);rw[abR,jU h2,abR];constructor
   ·rintro(rfl|h|h)
    ·exact .inr ⟨.inl rfl,hne⟩
    ·exact .inl h
    ·exact .inr ⟨.inr h.1,h.2⟩
   ·rintro(h|⟨rfl|h,h'⟩)
    ·exact .inr (.inl h)
    ·exact .inl rfl
    ·exact .inr (.inr ⟨h,h'⟩)
  ·rename_i hl
   split
   ·rename_i he
    rw[abR,abR];constructor
    ·rintro(h|h)
     ·exact .inl h
     ·refine .inr ⟨.inr h,fun e=>?_⟩
      have:=h1 p h;rw[e,he,bM]at this;cases this
    ·rintro(h|⟨rfl|h,h'⟩)
     ·exact .inl h
     ·exact absurd he h'
     ·exact .inr h
   ·rename_i he
    have hkq:bH k q.1=true:=(jB he).resolve_left hl;rw[abR];constructor
    ·rintro(h|h)
     ·exact .inl h
     ·refine .inr ⟨h,fun e=>?_⟩
      rcases abR.1 h with rfl|h
      ·exact he e
      ·have:=iI hkq (h1 p h)
       rw[e,bM]at this;cases this
    ·rintro(h|⟨h,_⟩)
     ·exact .inl h
     ·exact .inr h
theorem dJ.gQ {k:Int}{c:Cell}: ∀{T:Tab},dJ T->dJ (gQ k c T)
 |[],_=>by simp[dJ,Go.Proofs.YtglbkodmmogomaaGreatDoor.gQ]
 |q::r,h=>by
  obtain⟨h1,h2⟩:=List.pairwise_cons.1 h;unfold Go.Proofs.YtglbkodmmogomaaGreatDoor.gQ;split
  ·rename_i hl
   refine List.pairwise_cons.2 ⟨fun p hp=>?_,dJ.gQ h2⟩
   rcases(jU h2).1 hp with rfl|⟨hp,_⟩
   ·exact hl
   ·exact h1 p hp
  ·rename_i hl
   split
   ·rename_i he
    exact List.pairwise_cons.2 ⟨fun p hp=>by have:=h1 p hp;rw[he]at this;exact this,h2⟩
   ·rename_i he
    have hkq:bH k q.1=true:=(jB he).resolve_left hl;refine List.pairwise_cons.2 ⟨fun p hp=>?_,h⟩
    rcases abR.1 hp with rfl|hp
    ·exact hkq
    ·exact iI hkq (h1 p hp)
theorem nS {T:Tab}(h:dJ T){k:Int}{c:Cell}:bY T k=some c↔(k,c)∈T:=by
 induction T with
 |nil=>simp[bY]
 |cons q r ih=>
  obtain⟨h1,h2⟩:=List.pairwise_cons.1 h;unfold bY at*;rw[List.find?_cons];by_cases he:k=q.1
  ·subst he
   simp;constructor
   ·intro h;exact .inl (by rw[<-h])
   ·rintro(h|h)
    ·rw[<-h]
    ·have:=h1 _ h;simp[bM]at this
  ·have:(k==q.1)=false:=by simp[he]
   rw[this];simp only[abR];rw[ih h2];constructor
   ·exact .inr
   ·rintro(h|h)
    ·rw[<-h]at he;exact absurd rfl he
    ·exact h
theorem IE {T:Tab}{k:Int}:bY T k=none↔k∉bT T:=by
 unfold bY bT;simp;constructor
 ·intro h a b hc;exact h _ _ _ hc rfl
 ·intro h a b l hab e;subst e;exact h _ _ hab
theorem dJ.ext: ∀{T U:Tab},dJ T->dJ U->(∀p,p∈T↔p∈U)->T=U
 |[],[],_,_,_=>rfl
 |[],q::r,_,_,h=>by have:=(h q).2 (by simp);cases this
 |q::r,[],_,_,h=>by have:=(h q).1 (by simp);cases this
 |p::r,q::s,hT,hU,h=>by
  obtain⟨a1,a2⟩:=List.pairwise_cons.1 hT;obtain⟨b1,b2⟩:=List.pairwise_cons.1 hU;have hpq:p=q:=by
   rcases abR.1 ((h p).1 (by simp))with e|e
   ·exact e
   ·rcases abR.1 ((h q).2 (by simp))with e'|e'
    ·exact e'.symm
    ·have h1:=b1 p e
     have h2:=a1 q e';rw[vH h1]at h2;cases h2
  subst hpq
  congr 1
  refine dJ.ext a2 b2 fun x=>⟨fun hx=>?_,fun hx=>?_⟩
  ·rcases abR.1 ((h x).1 (by simp[hx]))with e|e
   ·subst e;have:=a1 x hx;rw[bM]at this;cases this
   ·exact e
  ·rcases abR.1 ((h x).2 (by simp[hx]))with e|e
   ·subst e;have:=b1 x hx;rw[bM]at this;cases this
   ·exact e
theorem rV {k:Int}{T:Tab}{p:Int×Cell}:p∈dS k T↔p∈T/\p.1≠k:=by unfold dS;simp;intro _;exact⟨fun h e=>h e.symm,fun h e=>h e.symm⟩
theorem dJ.dS {k:Int}{T:Tab}(h:dJ T):dJ (dS k T):=h.sublist List.filter_sublist
end
section
open Go Go.RowKit
theorem gW {k:IntKind}{a b:Int}(h:a=b):Ending.returned (.int k a)= .returned (.int k b):=by rw[h]
theorem abB (k:Int):k.tmod 8=if 0<=k then k%8 else-((-k)%8):=tmod_eq_if k 8
theorem xg (k:Int)(w:World):
 Calls Tryz.prog 52 #[.int .i64 k] w fun e w'=>e= .returned (.int .i64 (grp k))/\w=w':=by
 have h1:=abB k;have H:=γ h1;clear h1;go_enter Tryz.func52,Tryz.ntmps52;go_wp2
 ·rename_i hlt
  go_ret;refine⟨gW ?_,rfl⟩;have e:=H.o;unfold grp;show wrap64 (k.tmod 8+8)=k%8;rw[IntWalk.wrap64_in _ ⟨by split at e<;>omega,by split at e<;>omega⟩];split at e<;>omega
 ·rename_i hge
  go_ret;refine⟨gW ?_,rfl⟩;have e:=H.o;unfold grp;show k.tmod 8=k%8;split at e<;>omega
def Uk (w:World)(E k:Nat)(cs:List Value)(e:Ending)(w':World):Prop:=
 ∃v' n',e= .returned v'/\w'.ownsRow w.heap.size E k v' n' cs/\n'*k=cs.length/\ε η w w'
theorem Tryz.info2:(Tryz.prog.info? 2).map (fun i=>(i.zero,i.size,i.bytes))=some (some (.int .i64 0),1,8):=by kernel_rfl
theorem Zv (v:Value)(cs:List Value)(w:World)(hr:Reads w 1 v cs)(h1: ∀x∈cs,x.oneCell'=true)(hlen:cs.length<=17592186044416):
 Calls Tryz.prog 142 #[v] w (Uk w 2 1 cs):=by
 obtain⟨i0,hi,hz0,hz1,hz2⟩:=info_parts Tryz.info2;obtain⟨a,n,cap,rfl,hn,hc,hl,hp,hcell⟩:=hr.slice;have hnil:=fun(w:World) a n c=>Lib.run_eql_slice_nil (P:=Tryz.prog) w 97 2 a n c 0 0 Tryz.underlying97
 cases a with
 |none=>
  have hcs:cs=[]:=by
   rcases hp with rfl|h|⟨b,off,h⟩
   ·exact τ (by simpa using hl)
   ·cases h
   ·cases h
  subst hcs;clear hcell hp h1 hr;go_enter Tryz.func142,Tryz.ntmps142;go_wp2;go_ret;exact⟨_,0,rfl,World.ownsRow_nil _ _ _ _,rfl,ε.refl _ _⟩
 |some ad=>have H:=γ hr;have HH:=γ hl;have HC:=γ hlen;clear hcell hp hr hl hlen;go_enter Tryz.func142,Tryz.ntmps142;have hnew:(w.alloc (.cells #[] 2)).ownsRow w.heap.size 2 1 (.slice (some ⟨w.heap.size,0,none⟩) 0 0) 0 []:=World.ownsRow_made w #[] 0 (ξ _) (Nat.zero_le _) rfl;have hrd:=H.o.pure ((ε.refl η w).alloc (.cells #[] 2));have N1:=γ hnew;have N2:=γ hrd;clear hnew hrd;have B1:ace ((0*1+cs.length)*8<=140737488355328):=(by have:=HC.o;show(0*1+cs.length)*8<=140737488355328;omega);have B2:ace (0*1+cs.length<=maxLen):=(by have:=HC.o;show 0*1+cs.length<=maxLen;unfold maxLen;omega);go_wp2_with (at_builtin;(refine jl rfl (.tmp 5) (.tmp 6) 97 rfl w.heap.size 2 i0 (.int .i64 0) 1 8 Tryz.underlying97 hi hz0 hz1 hz2 rfl (by decide) _ 0 [] rfl N1.o _ cs rfl N2.o h1 B1.o B2.o (by simp) ?_);intro v' n' w' g1 g2 g3 g4);go_ret;refine⟨v',n',rfl,g1,by simpa using g2,?_⟩;exact((ε.refl η w).alloc _).new (ε.grown (S:=one w.heap.size) g3 (fun k hk _=>by cases hk;rfl)) (fun k hk e=>by unfold one at e;omega)
theorem jH {w:World}{base base' e size n:Nat}{v:Value}{xs:List Value}(h:w.ownsRow base e size v n xs)(hb:base'<=base):w.ownsRow base' e size v n xs:=by
 refine⟨h.1,?_⟩
 rcases h.2 with h2|⟨g,cap,cur,h1,h2,h3⟩
 ·exact .inl h2
 ·exact .inr ⟨g,cap,cur,h1,ω hb h2,h3⟩
theorem au {w:World}{base e size n:Nat}{v:Value}{xs:List Value}(h:w.ownsRow base e size v n xs): ∃a cap,v= .slice a n cap:=by
 rcases h.2 with⟨rfl,rfl⟩|⟨g,cap,cur,rfl,_⟩
 ·exact⟨_,_,rfl⟩
 ·exact⟨_,_,rfl⟩
def Dz (w:World)(acc:Int)(cs:List Value)(e:Ending)(w':World):Prop:=
 ∃v' n',e= .returned (.agg #[.int .i64 acc,v'])/\w'.ownsRow w.heap.size 2 1 v' n' cs/\n'*1=cs.length/\ε η w w'
theorem Dc (acc:Int)(v:Value)(cs:List Value)(w:World)(hr:Reads w 1 v cs)(h1: ∀x∈cs,x.oneCell'=true)(hlen:cs.length<=17592186044416):
 Calls Tryz.prog 101 #[.agg #[.int .i64 acc,v]] w (Dz w acc cs):=by
 obtain⟨a,n,cap,rfl,hn,hc,hl,hp,hcell⟩:=hr.slice;clear hcell hp hl;have H:=γ hr;clear hr;go_enter Tryz.func101,Tryz.ntmps101;go_wp2_with fail;obtain⟨W0,hW0⟩: ∃W0,((w.alloc (Obj.cells #[Value.int IntKind.i64 acc,Value.slice a n cap] 109)).alloc (Obj.cells #[Value.int IntKind.i64 0,Value.slice none 0 0] 109))=W0:=⟨_,rfl⟩;have c0:W0.cell? ⟨w.heap.size,0,none⟩=some (.int .i64 acc):=(by rw[<-hW0];simp);have c1:W0.cell? ⟨w.heap.size,1,none⟩=some (.slice a n cap):=(by rw[<-hW0];simp);have c2:W0.cell? ⟨w.heap.size+1,0,none⟩=some (.int .i64 0):=(by rw[<-hW0];simp);have c3:W0.cell? ⟨w.heap.size+1,1,none⟩=some (.slice none 0 0):=(by rw[<-hW0];simp);have f2:W0.frozen? ⟨w.heap.size+1,0,none⟩=false:=(by rw[<-hW0];simp);have f3:W0.frozen? ⟨w.heap.size+1,1,none⟩=false:=(by rw[<-hW0];simp);have hs:W0.heap.size=w.heap.size+2:=(by rw[<-hW0];simp);have hk0:ε η w W0:=(by rw[<-hW0];exact(δ.alloc _).alloc _);rw[hW0];clear hW0;refine ak [0,1,2,3,4,5,6] (fun W=>ε η W0 W) (by kernel_rfl) (by kernel_rfl) rfl δ.drew ?_;simp only[abU];iterate 4 (apply aj rfl rfl;(intro W hW;have hc:=hW.cq;go_simp;rfl);go_frame)
 apply aA rfl rfl;intro K hK;go_wp2_with fail;refine(Zv _ cs _ (H.o.pure (hk0.drew)) h1 hlen).mono ?_;rintro e w1 ⟨v',n',rfl,g1,g2,g3⟩;obtain⟨a',cap',rfl⟩:=au g1;have k1:ε η W0 w1:=g3.aZ;go_wp2_with fail;refine hK _ _ (fun _=>k1) ?_;apply aj rfl rfl
 ·intro W hW;have hc:=hW.cq;go_simp;rfl
 go_frame;apply aA rfl rfl;intro K2 hK2;have hc:=k1.cq;have hf:=k1.fq;go_wp2_with fail;refine hK2 _ _ (fun h=>absurd rfl h) (jo (by kernel_rfl) ?_);go_wp2_with fail;have hs1:W0.heap.size<=w1.heap.size:=k1.size;have q0:=k1.cell (p:=⟨w.heap.size+1,0,none⟩) id c2;have q1:=k1.cell (p:=⟨w.heap.size+1,1,none⟩) id c3;refine bodyPost_ret (v:= .agg #[.int .i64 acc,.slice a' n' cap']) (by simp[results,Tryz.results101,go_sem,q0,q1]) rfl ⟨_,n',rfl,?_,g2,?_⟩
 ·refine jH (base:=W0.heap.size) ?_ (by omega)
  exact(((ε.refl (fun k=>k<W0.heap.size) w1).setCell (p:=⟨w.heap.size+1,0,none⟩) (.inl (by simp;omega)) _).setCell (p:=⟨w.heap.size+1,1,none⟩) (.inl (by simp;omega)) _).owns g1
   (fun k hk h=>by have:=(g1.lt k hk).1;simp at this;omega)
 ·exact((hk0.trans k1).setCell (p:=⟨w.heap.size+1,0,none⟩) (.inr (by simp)) _).setCell (p:=⟨w.heap.size+1,1,none⟩) (.inr (by simp)) _
def ints (l:List Int):List Value:=l.map (Value.int .i64)
theorem mQ (l:List Int): ∀x∈ints l,x.oneCell'=true:=by intro x hx;obtain⟨n,_,rfl⟩:=abK.1 hx;rfl
@[simp] theorem vI (l:List Int):(ints l).length=l.length:=by simp[ints]
abbrev up (B:Nat):Nat->Prop:=fun k=>B<=k
def CellIs (w:World)(B:Nat->Prop)(v:Value)(c:Cell):Prop:=
 ∃lv,v= .agg #[.int .i64 c.1,lv]/\Reads w 1 lv (ints c.2)/\ ∀b,Value.blk lv=some b->B b
structure TabAt (w:World)(B:Nat->Prop)(b m:Nat)(T:Tab):Prop where
 hb:B b
 hm:B m
 obj:w.heap[b]?=some (.cells #[.map (some m)] 115 (0,0))
 map: ∃l,dQ w m l/\(l.map (·.1)).Perm (bT T)/\ ∀p∈l,∃c,(p.1,c)∈T/\CellIs w B p.2 c
 ok:eP T
theorem Reads.isCells {w:World}{v:Value}{cs:List Value}{k b:Nat}(h:Reads w k v cs)(hk:0<k)(hb:Value.blk v=some b): ∃c E f,w.heap[b]?=some (.cells c E f):=by
 obtain⟨a,n,cap,rfl,h1,h2,h3,h4⟩:=h;have hn:n≠0:=(by intro h;subst h;cases a<;>simp[Value.blk]at hb);have hlen:0<cs.length:=by rw[h3];exact Nat.mul_pos (by omega) hk
 rcases h4 with rfl|⟨b',off,rfl,h4⟩
 ·simp at hlen
 ·simp[Value.blk,hn]at hb
  subst hb;have:=h4 0 (cs[0]) (by simp);unfold World.cell? at this;split at this
  ·rename_i c E f he;exact⟨c,E,f,he⟩
  ·cases this
def lS (w:World)(S:Nat->Prop)(B:Nat->Prop):Prop:= ∀k,S k->B k->k<w.heap.size-> ∀c E f,w.heap[k]?≠some (.cells c E f)
theorem lS.none (w:World)(B:Nat->Prop):lS w η B:=fun _ h=>h.elim
theorem lS.map {w:World}{m:Nat}{l:List (Int×Value)}(h:dQ w m l)(B:Nat->Prop):lS w (one m) B:=by intro k hk _ _ c E f e;cases hk;obtain⟨L,clock,h,_⟩:=h;rw[h.heap]at e;cases e
theorem CellIs.kept {w w':World}{B:Nat->Prop}{v:Value}{c:Cell}{S:Nat->Prop}(h:CellIs w B v c)(hk:ε S w w')(hS:lS w S B):CellIs w' B v c:=by obtain⟨lv,h1,h2,h3⟩:=h;refine⟨lv,h1,h2.kept hk (fun b hb hs=>?_),h3⟩;obtain⟨c,E,f,he⟩:=h2.isCells (by decide) hb;exact hS b hs (h3 b hb) (κ.1 he).1 c E f he
theorem CellIs.mono {w:World}{B B':Nat->Prop}{v:Value}{c:Cell}(h:CellIs w B v c)(hB: ∀k,B k->k<w.heap.size->B' k):CellIs w B' v c:=by obtain⟨lv,h1,h2,h3⟩:=h;refine⟨lv,h1,h2,fun b hb=>hB b (h3 b hb) ?_⟩;obtain⟨c,E,f,he⟩:=h2.isCells (by decide) hb;exact(κ.1 he).1
theorem TabAt.kept {w w':World}{B:Nat->Prop}{b m:Nat}{T:Tab}{S:Nat->Prop}(h:TabAt w B b m T)(hk:ε S w w')(hS:lS w S B)(hm: ¬S m):TabAt w' B b m T:=by obtain⟨h1,h2,h3,⟨l,h4,h5,h6⟩,h7⟩:=h;refine⟨h1,h2,hk.heap h3 (fun hs=>hS b hs h1 (κ.1 h3).1 _ _ _ h3),⟨l,h4.kept hk hm,h5,fun p hp=>?_⟩,h7⟩;obtain⟨c,hc,hcc⟩:=h6 p hp;exact⟨c,hc,hcc.kept hk hS⟩
theorem TabAt.pure {w w':World}{B:Nat->Prop}{b m:Nat}{T:Tab}(h:TabAt w B b m T)(hk:ε η w w'):TabAt w' B b m T:=h.kept hk (.none _ _) id
theorem TabAt.mono {w:World}{B B':Nat->Prop}{b m:Nat}{T:Tab}(h:TabAt w B b m T)(hB: ∀k,B k->k<w.heap.size->B' k):TabAt w B' b m T:=by obtain⟨h1,h2,h3,⟨l,h4,h5,h6⟩,h7⟩:=h;have hm:m<w.heap.size:=h4.lt;refine⟨hB b h1 (κ.1 h3).1,hB m h2 hm,h3,⟨l,h4,h5,fun p hp=>?_⟩,h7⟩;obtain⟨c,hc,hcc⟩:=h6 p hp;exact⟨c,hc,hcc.mono hB⟩
theorem TabAt.cell {w:World}{B:Nat->Prop}{b m:Nat}{T:Tab}(h:TabAt w B b m T):w.cell? ⟨b,0,none⟩=some (.map (some m)):=by rw[cell_of_row w b 0 _ _ _ h.obj];rfl
theorem UF {T:Tab}{l:List Int}(h:l.Perm (bT T))(g:Int):l.countP (fun k=>grp k==g)=aV T g:=by rw[h.countP_eq];unfold bT aV;rw[List.countP_map];rfl
def Gives (w:World)(v:Value)(e:Ending)(w':World):Prop:=e= .returned v/\ε η w w'
theorem zV (B:Nat->Prop)(b m:Nat)(T:Tab)(g:Int)(w:World)(h:TabAt w B b m T):
 Calls Tryz.prog 51 #[.pointer (some ⟨b,0,none⟩),.int .i64 g] w (Gives w (.int .i64 (aV T g))):=by
 have hcell:=h.cell;obtain⟨l,hl,hperm,hcs⟩:=h.map;obtain⟨w0,hrun,hit,hk0,hs0⟩:=hl.range (P:=Tryz.prog) Tryz.underlying113;have fJ:=h.ok.many g;have IT:=γ hit;have HS:=γ hs0;have HP:=γ (UF hperm g);clear hit hs0 hperm hcs hl h;go_enter Tryz.func51,Tryz.ntmps51;go_wp2;go_loopg [5] l.length (fun k i wr=> ∃left c,qY wr w.heap.size m l left/\left.length=k/\i= .int .i64 ((c:Nat):Int)/\c+(left.map (·.1)).countP (fun k=>grp k==g)=aV T g/\ε η w wr)
 case atStart=>exact⟨l,0,IT.o,rfl,rfl,by rw[<-HP.o];simp,hk0⟩
 case round=>
  obtain⟨left,c,hit,hlen,rfl,hsum,hk⟩:=hrel;have hc:c<=40:=(by omega);have A:=γ (θ hlen hsum);clear hlen hsum fJ
  rcases hit.next (P:=Tryz.prog) 0 with⟨rfl,hrun⟩|⟨p,left',w2,hp,hrun,hit2,hk2,hs2,hen⟩
  ·clear hit
   go_wp2;go_ret;exact⟨gW (by have:=A.o.2;simp at this;omega),hk⟩
  ·clear hit
   have I2:=γ hit2;have HP:=γ hp;clear hit2 hs2 hp;have hk3:ε η w w2:=hk.new hk2 (fun k hk e=>by unfold one at e;omega);clear hk2;go_wp2_with (go_at_call 52;refine(xg _ _).mono ?_;rintro e w' ⟨rfl,rfl⟩)
   ·rename_i hg
    go_roundg left'.length
    case rel=>refine⟨left',c+1,I2.o,rfl,by go_num,?_,hk3⟩;have h1:=(HP.o.map (·.1)).countP_eq (fun k=>grp k==g);rw[Θ,List.countP_cons,if_pos hg]at h1;have h2:=A.o.2;omega
    case measure=>have h1:=HP.o.length_eq;have h2:=A.o.1;simp at h1;omega
   ·rename_i hg
    go_roundg left'.length
    case rel=>refine⟨left',c,I2.o,rfl,rfl,?_,hk3⟩;have h1:=(HP.o.map (·.1)).countP_eq (fun k=>grp k==g);rw[Θ,List.countP_cons,if_neg (by rw[hg];simp)]at h1;have h2:=A.o.2;omega
    case measure=>have h1:=HP.o.length_eq;have h2:=A.o.1;simp at h1;omega
theorem new_any (w:World):Calls Tryz.prog 49 #[] w fun e w'=> ∃b m,e= .returned (.pointer (some ⟨b,0,none⟩))/\TabAt w' (up w.heap.size) b m []/\ε η w w':=by
 have hmm:= @run_makeMap Tryz.prog;go_enter Tryz.func49,Tryz.ntmps49;go_wp2;go_ret;refine⟨w.heap.size+1,w.heap.size,rfl,⟨Nat.le_succ _,ξ _,?_,⟨[],?_,by simp[bT],by simp⟩,⟨by simp[dJ],by simp,by simp,fun g=>by simp[aV]⟩⟩,?_⟩
 ·have:=heap_alloc_new (w.alloc (.map #[] 0)) (.cells #[.map (some w.heap.size)] 115)
  rwa[World.size_alloc]at this
 ·exact(dQ.made w).kept ((ε.refl η _).alloc _) id
 ·exact((ε.refl η _).alloc _).alloc _
end
section
structure Rec where
 pos:Int
 key:Int
 val:Int
deriving DecidableEq
instance:Inhabited Rec:=⟨⟨0,0,0⟩⟩
def Same (L M:List Rec):Prop:= ∀p:Int,L.filter (fun r=>r.pos==p)=M.filter (fun r=>r.pos==p)
def Sorted (L:List Rec):Prop:=L.Pairwise fun a b=>a.pos<=b.pos
theorem Same.refl (L:List Rec):Same L L:=fun _=>rfl
theorem Same.symm {L M:List Rec}(h:Same L M):Same M L:=fun p=>(h p).symm
theorem Same.trans {L M N:List Rec}(h:Same L M)(k:Same M N):Same L N:=fun p=>(h p).trans (k p)
theorem Same.append {L L' M M':List Rec}(h:Same L L')(k:Same M M'):Same (L++M) (L'++M'):=fun p=>by rw[List.filter_append,List.filter_append,h p,k p]
theorem Same.mem {L M:List Rec}(h:Same L M){r:Rec}:r∈L↔r∈M:=by have e: ∀K:List Rec,r∈K↔r∈K.filter (fun x=>x.pos==r.pos):=fun K=>(by simp);rw[e L,e M,h r.pos]
theorem Same.nil {L:List Rec}(h:Same [] L):L=[]:=by
 cases L with
 |nil=>rfl
 |cons x L=>exact absurd (h.mem.2 (List.mem_cons_self (a:=x) (l:=L))) (by simp)
theorem Same.comm {A B:List Rec}(h: ∀a∈A,∀b∈B,a.pos≠b.pos):Same (A++B) (B++A):=by
 intro p;rw[List.filter_append,List.filter_append]
 cases hA:A.filter (fun r=>r.pos==p)with
 |nil=>simp
 |cons x l=>have hx:x∈A.filter (fun r=>r.pos==p):=(by rw[hA];simp);have hx1:=(List.mem_filter.1 hx).1;have hx2:x.pos=p:=(by simpa using(List.mem_filter.1 hx).2);have hB:B.filter (fun r=>r.pos==p)=[]:=(by rw[List.filter_eq_nil_iff];intro b hb e;exact h x hx1 b hb (by rw[hx2];exact(by simpa using e:b.pos=p).symm));rw[hB];simp
theorem Same.cons_inv {x:Rec}{L M:List Rec}(h:Same (x::L) (x::M)):Same L M:=by
 intro p;have:=h p;rw[List.filter_cons,List.filter_cons]at this;split at this
 ·exact List.cons.inj this|>.2
 ·exact this
theorem Sorted.unique: ∀{L M:List Rec},Sorted L->Sorted M->Same L M->L=M
 |[],M,_,_,h=>h.nil.symm
 |x::L,[],_,_,h=>by cases h.symm.nil
 |x::L,y::M,hL,hM,h=>by
  obtain⟨hx,hL'⟩:=List.pairwise_cons.1 hL;obtain⟨hy,hM'⟩:=List.pairwise_cons.1 hM;have h1:y.pos<=x.pos:=by
   rcases abR.1 (h.mem.1 (List.mem_cons_self (a:=x) (l:=L)))with e|e
   ·rw[e];exact Int.le_refl _
   ·exact hy x e
  have h2:x.pos<=y.pos:=by
   rcases abR.1 (h.mem.2 (List.mem_cons_self (a:=y) (l:=M)))with e|e
   ·rw[e];exact Int.le_refl _
   ·exact hx y e
  have he:x.pos=y.pos:=(by omega);have:=h x.pos;rw[List.filter_cons,List.filter_cons,if_pos (by simp),if_pos (by simp[he])]at this;obtain⟨rfl,_⟩:=List.cons.inj this;rw[Sorted.unique hL' hM' h.cons_inv]
theorem Same.length {L M:List Rec}(h:Same L M):L.length=M.length:=by have hp: ∀(L M:List Rec),Same L M->L.Perm M:=(by intro L M h;rw[List.perm_iff_count];intro r;have e: ∀K:List Rec,K.count r=(K.filter (fun x=>x.pos==r.pos)).count r:=fun K=>(List.count_filter (by simp)).symm;rw[e L,e M,h r.pos]);exact(hp L M h).length_eq
theorem Sorted.append {A B:List Rec}(hA:Sorted A)(hB:Sorted B)(h: ∀a∈A,∀b∈B,a.pos<=b.pos):Sorted (A++B):=List.pairwise_append.2 ⟨hA,hB,h⟩
theorem Sorted.left {A B:List Rec}(h:Sorted (A++B)):Sorted A:=(List.pairwise_append.1 h).1
theorem Sorted.right {A B:List Rec}(h:Sorted (A++B)):Sorted B:=(List.pairwise_append.1 h).2.1
theorem Sorted.le {A B:List Rec}(h:Sorted (A++B)): ∀a∈A,∀b∈B,a.pos<=b.pos:=(List.pairwise_append.1 h).2.2
def aO (L:List Rec):List Rec:=L.mergeSort fun x y=>decide (x.pos<=y.pos)
theorem qR (L:List Rec):Sorted (aO L):=by have:=List.pairwise_mergeSort (le:=fun x y:Rec=>decide (x.pos<=y.pos)) (fun a b c h k=>by simp at*;omega) (fun a b=>by simp;omega) L;exact this.imp (fun h=>by simpa using h)
theorem uZ (L:List Rec):Same L (aO L):=by intro p;have hs:(L.filter (fun r=>r.pos==p)).Sublist (aO L):=(by refine List.sublist_mergeSort (fun a b c h k=>by simp at*;omega) (fun a b=>by simp;omega) ?_ List.filter_sublist;refine List.pairwise_of_forall_mem_list (fun a ha b hb=>?_);have h1:a.pos=p:=(by simpa using(List.mem_filter.1 ha).2);have h2:b.pos=p:=(by simpa using(List.mem_filter.1 hb).2);simp;omega);have h2:=hs.filter (fun r=>r.pos==p);rw[List.filter_filter]at h2;simp only[Bool.and_self]at h2;refine h2.eq_of_length ?_;exact((List.mergeSort_perm L _).filter _).length_eq.symm
theorem AL {L M:List Rec}(h:Sorted M)(k:Same L M):M=aO L:=(Sorted.unique (qR L) h ((uZ L).symm.trans k)).symm
theorem iY (L:List Rec):(aO L).length=L.length:=(uZ L).length.symm
theorem tu {L:List Rec}{r:Rec}:r∈aO L↔r∈L:=(uZ L).mem.symm
end
section
open Go Go.RowKit
theorem aH.small {n:Int}(h1: -1000<=n)(h2:n<=1000):aH n:=⟨by omega,by omega⟩
inductive Ex where
 |mk (op n:Int) (args:List Ex)
instance:Inhabited Ex:=⟨.mk 0 0 []⟩
def Ex.op:Ex->Int| .mk o _ _=>o
def Ex.n:Ex->Int| .mk _ n _=>n
def Ex.args:Ex->List Ex| .mk _ _ l=>l
def arity (op:Int):Int:=if op=0\/18<op then-1 else if op<=4 then 0 else if op<=6 then 1 else if op=18 then 3 else 2
def aY:Nat->Ex->Bool
 |0,_=>false
 |f+1,.mk op n args=>decide (arity op=args.length)&&decide (0<=n)&&decide (n=0\/op=1)&&args.all (aY f)
abbrev xY:=(Int×Int×Int×Int)×Int
def pG:List xY:=
 [((1,0,0,0),1),((2,0,0,0),1),((3,0,0,0),1),((4,0,0,0),1),((5,1,0,0),1),
  ((7,1,1,0),1),((8,1,1,0),1),((9,1,1,0),1),((10,1,1,0),1),((11,1,1,0),1),((6,2,0,0),2),
  ((16,2,2,0),2),((17,2,2,0),2),((14,2,2,0),2),((15,2,2,0),2),
  ((12,1,1,0),2),((13,1,1,0),2),((14,1,1,0),2),((15,1,1,0),2),((18,2,1,1),1),((18,2,2,2),2)]
def iO (k:Int×Int×Int×Int):Int:=((pG.find? fun r=>r.1==k).map (·.2)).getD 0
def aB:Nat->Ex->Int
 |0,_=>0
 |f+1,.mk op _ args=>if(args.map (aB f)).contains 0 then 0 else iO (op,(args.map (aB f)).getD 0 0,(args.map (aB f)).getD 1 0,(args.map (aB f)).getD 2 0)
inductive EV where
 |num (n:Int)
 |jm (b:Bool)
def EV.ty:EV->Int| .num _=>1| .jm _=>2
def EV.n:EV->Int| .num n=>n| .jm _=>0
def EV.b:EV->Bool| .num _=>false| .jm b=>b
def fA (op:Int):EV->EV->EV
 | .num a,y=>if op=7 then .num (wrap64 (a+y.n))else if op=8 then .num (wrap64 (a-y.n))else if op=9 then .num (wrap64 (a*y.n))
   else if op=12 then .jm (decide (a<y.n))else if op=13 then .jm (decide (a<=y.n))else if op=14 then .jm (a==y.n)else if op=15 then .jm (a !=y.n)
   else if y.n=0 then .num 0 else if op=10 then .num (wrap64 (a.tdiv y.n))else .num (a.tmod y.n)
 | .jm a,y=>if op=16 then .jm (a&&y.b)else if op=17 then .jm (a||y.b)else if op=14 then .jm (a==y.b)else .jm (a !=y.b)
structure Env where
 key:Int
 val:Int
 acc:Int
def aK:Nat->Env->Ex->EV
 |0,_,_=> .num 0
 |f+1,env,.mk op n args=>
  if op=1 then .num n else if op=2 then .num env.key else if op=3 then .num env.val else if op=4 then .num env.acc
  else if op=5 then .num (wrap64 (-(aK f env (args.getD 0 default)).n))
  else if op=6 then .jm (!(aK f env (args.getD 0 default)).b)
  else if op=18 then(if(aK f env (args.getD 0 default)).b then aK f env (args.getD 1 default)else aK f env (args.getD 2 default))
  else fA op (aK f env (args.getD 0 default)) (aK f env (args.getD 1 default))
def CG (x:Ex):Bool:=aY 16 x&&aB 16 x !=0
def dA (x:Ex)(env:Env):Int:=if CG x then(aK 16 env x).n else 0
def nM (x:Ex)(env:Env):Bool:=CG x&&(aK 16 env x).b
theorem U0 {k:Int×Int×Int×Int}(h:iO k≠0):(k,iO k)∈pG:=by
 unfold iO at*
 cases hf:pG.find? (fun r=>r.1==k)with
 |none=>rw[hf]at h;exact absurd rfl h
 |some r=>have h1:=List.find?_some hf;have h2:=List.mem_of_find?_eq_some hf;simp only[beq_iff_eq]at h1;simp only[Option.map_some,Δ];rw[<-h1];exact h2
theorem pI {op a b c:Int}(h:iO (op,a,b,c)≠0):
 (iO (op,a,b,c)=1/\((op=1\/op=2\/op=3\/op=4)\/(op=5/\a=1)\/((op=7\/op=8\/op=9\/op=10\/op=11)/\a=1/\b=1)\/(op=18/\a=2/\b=1/\c=1)))\/
 (iO (op,a,b,c)=2/\((op=6/\a=2)\/((op=16\/op=17\/op=14\/op=15)/\a=2/\b=2)\/((op=12\/op=13\/op=14\/op=15)/\a=1/\b=1)\/(op=18/\a=2/\b=2/\c=2))):=by
 have h1:=U0 h;clear h;generalize iO (op,a,b,c)=t at*;simp only[pG,abR,List.not_mem_nil,or_false,Prod.mk.injEq]at h1
 rcases h1 with h1|h1|h1|h1|h1|h1|h1|h1|h1|h1|h1|h1|h1|h1|h1|h1|h1|h1|h1|h1|h1<;>
  (obtain⟨⟨rfl,rfl,rfl,rfl⟩,rfl⟩:=h1;decide)
theorem mJ (n:Int):aH (wrap64 n):=by unfold aH wrap64;omega
theorem tY {f:Nat}{op n:Int}{args:List Ex}(h:aY (f+1) (.mk op n args)=true):arity op=args.length/\0<=n/\(n=0\/op=1)/\ ∀a∈args,aY f a=true:=by simp only[aY,Φ,decide_eq_true_eq,List.all_eq_true]at h;exact⟨h.1.1.1,h.1.1.2,h.1.2,h.2⟩
theorem JF {f:Nat}{op n:Int}{args:List Ex}(h:aB (f+1) (.mk op n args)≠0):
 (∀a∈args,aB f a≠0)/\aB (f+1) (.mk op n args)=iO (op,(args.map (aB f)).getD 0 0,(args.map (aB f)).getD 1 0,(args.map (aB f)).getD 2 0):=by
 rw[aB]at h⊢;by_cases hc:(args.map (aB f)).contains 0=true
 ·rw[if_pos hc]at h;exact absurd rfl h
 ·rw[if_neg hc]
  refine⟨fun a ha e=>hc ?_,rfl⟩;simp only[List.contains_eq_mem,abK,decide_eq_true_eq];exact⟨a,ha,e⟩
theorem Fp {k:Int}{c:Cell}{g:Int}: ∀{T:Tab},dJ T->aV (gQ k c T) g=aV T g+(if bY T k=none/\grp k=g then 1 else 0)
 |[],_=>by simp[aV,gQ,bY,List.countP_cons]
 |q::r,h=>by
  obtain⟨h1,h2⟩:=List.pairwise_cons.1 h;unfold gQ;split
  ·rename_i hl
   have hne:k≠q.1:=fun e=>(by rw[e,bM]at hl;cases hl);have ih:=Fp (k:=k) (c:=c) (g:=g) h2;have hg:bY (q::r) k=bY r k:=(by have hf:(k==q.1)=false:=(by simp[hne]);unfold bY;rw[List.find?_cons,hf]);rw[hg];unfold aV at*;rw[List.countP_cons,List.countP_cons,ih];omega
  ·rename_i hl
   split
   ·rename_i he
    have hg:bY (q::r) k≠none:=(by unfold bY;rw[List.find?_cons];simp[he]);rw[if_neg (fun h=>hg h.1)];unfold aV;rw[List.countP_cons,List.countP_cons];simp only[he];omega
   ·rename_i he
    have hkq:bH k q.1=true:=(jB he).resolve_left hl;have hg:bY (q::r) k=none:=by
     rw[IE];unfold bT;intro hm;obtain⟨p,hp,e⟩:=abK.1 hm
     rcases abR.1 hp with rfl|hp
     ·exact he e
     ·have:=iI hkq (h1 p hp);rw[e,bM]at this;cases this
    rw[hg];unfold aV;rw[List.countP_cons];simp
theorem eP.gQ {T:Tab}(h:eP T){k:Int}{c:Cell}(hk:aH k)(hc:G8 c)(hm:bY T k≠none\/aV T (grp k)<40):eP (gQ k c T):=by
 refine⟨h.rises.gQ,fun p hp=>?_,fun p hp=>?_,fun g=>?_⟩
 ·rcases(jU h.rises).1 hp with rfl|hp
  ·exact hk
  ·exact h.key p hp.1
 ·rcases(jU h.rises).1 hp with rfl|hp
  ·exact hc
  ·exact h.cell p hp.1
 ·rw[Fp h.rises]
  split
  ·rename_i hh
   obtain⟨h1,rfl⟩:=hh;have:=hm.resolve_left (fun h=>h h1);omega
  ·have:=h.many g;omega
def dW (T:Tab)(k:Int)(n:Nat):Int:=if 16<n then 2 else if bY T k=none/\40<=aV T (grp k)then 7 else 0
def dH (T:Tab)(k:Int)(c:Cell):Tab:=if dW T k c.2.length=0 then gQ k c T else T
theorem eP.dS {T:Tab}(h:eP T)(k:Int):eP (dS k T):=
 ⟨h.rises.dS,fun p hp=>h.key p (rV.1 hp).1,fun p hp=>h.cell p (rV.1 hp).1,fun g=>ω (List.Sublist.countP_le List.filter_sublist) (h.many g)⟩
theorem XB (T:Tab):T.length=aV T 0+aV T 1+aV T 2+aV T 3+aV T 4+aV T 5+aV T 6+aV T 7:=by
 unfold aV
 induction T with
 |nil=>rfl
 |cons p r ih=>
  have h1:=ae5 p.1;have h2:=ae6 p.1;simp only[φ,List.countP_cons,ih];have h3:grp p.1=0\/grp p.1=1\/grp p.1=2\/grp p.1=3\/grp p.1=4\/grp p.1=5\/grp p.1=6\/grp p.1=7:=by omega
  rcases h3 with h|h|h|h|h|h|h|h<;>simp[h]<;>omega
theorem eP.len {T:Tab}(h:eP T):T.length<=320:=by have:=XB T;have:=h.many 0;have:=h.many 1;have:=h.many 2;have:=h.many 3;have:=h.many 4;have:=h.many 5;have:=h.many 6;have:=h.many 7;omega
structure dD where
 kind:Int
 x:Ex
 n:Int
def aI (r:Rec):Env:=⟨r.key,r.val,0⟩
def iR (r:Rec)(k:Nat):List Rec:=(List.range k).map fun(i:Nat)=>(⟨wrap64 (wrap64 (8*r.pos)+(i:Int)),r.key,wrap64 (r.val+(i:Int))⟩:Rec)
def jC (x:Int):Nat:=(min x 4).toNat
def sumW (l:List Int):Int:=l.foldl (fun a x=>wrap64 (a+x)) 0
def cellOf (T:Tab)(k:Int):Cell:=(bY T k).getD (0,[])
def aF (nd:dD)(T:Tab)(r:Rec):List Rec×Tab:=
 if nd.kind=2 then([{r with val:=dA nd.x (aI r)}],T)
 else if nd.kind=5 then([{r with key:=dA nd.x (aI r)}],T)
 else if nd.kind=3 then(if nM nd.x (aI r)then[r]else[],T)
 else if nd.kind=4 then(iR r (jC (dA nd.x (aI r))),T)
 else if nd.kind=6 then
  (if dW T r.key 0=0 then[{r with val:=dA nd.x {aI r with acc:=(cellOf T r.key).1}}]else[],
   dH T r.key (dA nd.x {aI r with acc:=(cellOf T r.key).1},[]))
 else if nd.kind=7 then
  (if dW T r.key ((cellOf T r.key).2.length+1)≠0\/(((cellOf T r.key).2.length+1:Nat):Int)<nd.n then([],dH T r.key ((cellOf T r.key).1,(cellOf T r.key).2++[r.val]))
   else([{r with val:=sumW ((cellOf T r.key).2++[r.val])}],dS r.key (dH T r.key ((cellOf T r.key).1,(cellOf T r.key).2++[r.val]))))
 else([r],T)
def aJ (nd:dD):Tab->List Rec->List Rec×Tab
 |T,[]=>([],T)
 |T,r::l=>((aF nd T r).1++(aJ nd (aF nd T r).2 l).1,(aJ nd (aF nd T r).2 l).2)
theorem vK (nd:dD)(r:Rec): ∀(l:List Rec)(T:Tab),aJ nd T (l++[r])=((aJ nd T l).1++(aF nd (aJ nd T l).2 r).1,(aF nd (aJ nd T l).2 r).2)
 |[],T=>by simp[aJ]
 |x::l,T=>by simp only[List.cons_append,aJ,vK nd r l];simp
structure iq (env:Env):Prop where
 key:aH env.key
 val:aH env.val
 acc:aH env.acc
theorem eX:aH 0:=⟨by omega,by omega⟩
structure bQ (r:Rec):Prop where
 pos:aH r.pos
 key:aH r.key
 val:aH r.val
theorem uN {r:Rec}(h:bQ r):iq (aI r):=⟨h.key,h.val,eX⟩
def iJ (b:Nat)(r:Rec):Rec:={r with pos:=wrap64 (wrap64 (8*r.pos)+(b:Int))}
def iK:Nat->List (List Rec)->List (List Rec)
 |_,[]=>[]
 |b,L::LL=>L.map (iJ b)::iK (b+1) LL
def ji (kind:Int)(LL:List (List Rec)):List Rec:=aO (if kind=8 then iK 0 LL else LL).flatten
theorem wS: ∀(b:Nat)(LL:List (List Rec)),(iK b LL).length=LL.length
 |_,[]=>rfl
 |b,L::LL=>by simp[iK,wS (b+1) LL]
theorem Bf: ∀(b:Nat)(LL:List (List Rec))(i:Nat),(iK b LL)[i]?=LL[i]?.map (fun L=>L.map (iJ (b+i)))
 |_,[],i=>by simp[iK]
 |b,L::LL,0=>by simp[iK]
 |b,L::LL,i+1=>by
  simp only[iK,abG,Bf (b+1) LL i]
  congr 2;funext L;congr 2;omega
theorem wF: ∀(b:Nat)(LL:List (List Rec)),(iK b LL).flatten.length=LL.flatten.length
 |_,[]=>rfl
 |b,L::LL=>by simp[iK,wF (b+1) LL]
end
