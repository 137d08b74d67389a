/- Plain laws on the world: what is kept; what a slice reads as; maps keyed by int64, at the operations. -/
import Derived.WalkSpells
import Derived.WalkLawsBesides
import Derived.Maps.RangeWalk
import Derived.Lib.Hide
import Derived.Deep.LoopGhost
import Derived.Test.YtakhobfamnjnoaaGreatDoorChecked
import Derived.ProofKit
import Derived.OpenShut
import Derived.ChangeCalls
import Derived.Deep.DeepHandedRow
import Derived.LaidMore
import Derived.Shelf.Vars
import Derived.ShutString
set_option linter.unusedVariables false
set_option linter.unusedSimpArgs false
set_option maxHeartbeats 400000
set_option maxRecDepth 100000
namespace Go.Proofs.YtakhobfamnjnoaaGreatDoor
section
open Go Go.RowKit
structure Kept (S:Nat->Prop)(w w':World):Prop where
 os:w'.os=w.os
 tape:w'.tape=w.tape
 output:w'.output=w.output
 size:w.heap.size<=w'.heap.size
 block: ∀k,k<w.heap.size-> ¬S k->w'.heap[k]?=w.heap[k]?
def none':Nat->Prop:=fun _=>False
def one (m:Nat):Nat->Prop:=fun k=>k=m
section
variable {S S':Nat->Prop} {w w' w'':World}
theorem Kept.refl (S:Nat->Prop)(w:World):Kept S w w:=⟨rfl,rfl,rfl,Nat.le_refl _,fun _ _ _=>rfl⟩
theorem Kept.trans (h:Kept S w w')(k:Kept S w' w''):Kept S w w'':=
 ⟨k.os.trans h.os,k.tape.trans h.tape,k.output.trans h.output,Nat.le_trans h.size k.size,fun i hi hn=>(k.block i (Nat.lt_of_lt_of_le hi h.size) hn).trans (h.block i hi hn)⟩
theorem Kept.mono (h:Kept S w w')(hS: ∀k,k<w.heap.size->S k->S' k):Kept S' w w':=
 ⟨h.os,h.tape,h.output,h.size,fun k hk hn=>h.block k hk (fun hs=>hn (hS k hk hs))⟩
theorem Kept.drew (h:Kept S w w'):Kept S w w'.drew:=⟨h.os,h.tape,h.output,h.size,h.block⟩
theorem Kept.kL (h:Kept S w.drew w'):Kept S w w':=⟨h.os,h.tape,h.output,h.size,h.block⟩
theorem Kept.of_below (h:Below w.heap.size w w'):Kept S w w':=⟨h.os,h.tape,h.output,h.size,fun k hk _=>h.block k hk⟩
theorem Kept.below (h:Kept none' w w'):Below w.heap.size w w':=⟨h.os,h.tape,h.output,h.size,fun k hk=>h.block k hk (fun h=>h)⟩
theorem Kept.pure (h:Kept none' w w'):Kept S w w':=h.mono (fun _ _ h=>h.elim)
theorem Kept.alloc (h:Kept S w w')(o:Obj):Kept S w (w'.alloc o):=
 h.trans ⟨rfl,rfl,rfl,by simp,fun k hk _=>Below.heap_alloc _ _ _ hk⟩
theorem Kept.setCell (h:Kept S w w'){p:Addr}(hp:S p.block\/w.heap.size<=p.block)(u:Value):Kept S w (w'.setCell p u):=
 ⟨h.os,h.tape,h.output,by simpa using h.size,fun k hk hn=>by
   rw[Below.heap_setCell _ _ _ _ (fun e=>?_)]
   ·exact h.block k hk hn
   ·subst e
    rcases hp with hp|hp
    ·exact hn hp
    ·omega⟩
theorem Kept.new (h:Kept S w w')(k:Kept S' w' w'')(hS: ∀i,i<w.heap.size->S' i->S i):Kept S w w'':=
 ⟨k.os.trans h.os,k.tape.trans h.tape,k.output.trans h.output,Nat.le_trans h.size k.size,
  fun i hi hn=>(k.block i (Nat.lt_of_lt_of_le hi h.size) (fun hs=>hn (hS i hi hs))).trans (h.block i hi hn)⟩
theorem Kept.grown {row:Option Nat}(hg:w.grownBy w' row)(hr: ∀k,row=some k->k<w.heap.size->S k):Kept S w w':=
 ⟨hg.os,hg.tape,hg.output,hg.size,fun k hk hn=>hg.block k hk (fun e=>hn (hr k e.symm hk))⟩
theorem Kept.cell (h:Kept S w w'){p:Addr}(hp: ¬S p.block){v:Value}(hv:w.cell? p=some v):w'.cell? p=some v:=
 (World.cell?_of_block (w:=w) (h.block p.block (block_lt_of_cell hv) hp)).trans hv
theorem Kept.heap (h:Kept S w w'){k:Nat}{o:Obj}(hk:w.heap[k]?=some o)(hn: ¬S k):w'.heap[k]?=some o:=
 (h.block k (Array.getElem?_eq_some_iff.1 hk).1 hn).trans hk
theorem Kept.owns (h:Kept S w w'){base e size n:Nat}{v:Value}{xs:List Value}(ho:w.ownsRow base e size v n xs)(hn: ∀k,v.ownBlock=some k-> ¬S k):w'.ownsRow base e size v n xs:=by
 refine⟨ho.1,?_⟩
 rcases ho.2 with hn'|⟨g,cap,cur,rfl,hb,hgg,rest⟩
 ·exact .inl hn'
 ·exact .inr ⟨g,cap,cur,rfl,hb,h.heap hgg (hn g (by simp[Value.ownBlock])),rest⟩
end
def Reads (w:World)(k:Nat)(v:Value)(cs:List Value):Prop:=
 ∃a n cap,v= .slice a n cap/\n<=cap/\cap<=maxLen/\cs.length=n*k/\
  (cs=[]\/ ∃b off,a=some ⟨b,off,none⟩/\ ∀i x,cs[i]?=some x->w.cell? ⟨b,off+i,none⟩=some x)
def Value.blk:Value->Option Nat
 | .slice (some a) n _=>if n=0 then none else some a.block
 |_=>none
theorem Reads.kept {S:Nat->Prop}{w w':World}{k:Nat}{v:Value}{cs:List Value}(h:Reads w k v cs)(hk:Kept S w w')(hn: ∀b,Value.blk v=some b-> ¬S b):Reads w' k v cs:=by
 obtain⟨a,n,cap,rfl,h1,h2,h3,h4⟩:=h
 refine⟨a,n,cap,rfl,h1,h2,h3,?_⟩
 rcases h4 with h4|⟨b,off,rfl,h4⟩
 ·exact .inl h4
 ·by_cases h0:cs=[]
  ·exact .inl h0
  ·right
   refine⟨b,off,rfl,fun i x hx=>hk.cell (hn b ?_) (h4 i x hx)⟩
   have:n≠0:=by
    intro h;subst h;simp at h3;exact h0 h3
   simp[Value.blk,this]
theorem Reads.pure {w w':World}{k:Nat}{v:Value}{cs:List Value}(h:Reads w k v cs)(hk:Kept none' w w'):Reads w' k v cs:=h.kept hk (fun _ _ h=>h)
theorem Reads.EZ {w:World}{base e size n:Nat}{v:Value}{xs:List Value}(h:w.ownsRow base e size v n xs):Reads w size v xs:=by
 obtain⟨h1,h2⟩:=h
 rcases h2 with⟨rfl,rfl⟩|⟨g,cap,cur,rfl,hb,hg,hn,hc,hs,ht⟩
 ·exact⟨none,0,0,rfl,Nat.le_refl _,Nat.zero_le _,h1, .inl (List.eq_nil_of_length_eq_zero (by simpa using h1))⟩
 ·refine⟨_,n,cap,rfl,hn,hc,h1, .inr ⟨g,0,rfl,fun i x hx=>?_⟩⟩
  rw[cell_of_row w g (0+i) cur e (0,0) hg]
  rw[<-ht,List.getElem?_take]at hx
  split at hx
  ·simpa using hx
  ·cases hx
theorem Reads.nil (w:World)(k:Nat):Reads w k (.slice none 0 0) []:=⟨none,0,0,rfl,Nat.le_refl _,Nat.zero_le _,by simp, .inl rfl⟩
theorem Reads.lit (w:World)(cs:List Value)(E k n:Nat)(h:cs.length=n*k)(hn:n<=maxLen):Reads (w.alloc (.cells cs.toArray E)) k (.slice (some ⟨w.heap.size,0,none⟩) n n) cs:=
 ⟨_,n,n,rfl,Nat.le_refl _,hn,h, .inr ⟨_,0,rfl,fun i x hx=>by rw[World.cell?_alloc_new];simpa using hx⟩⟩
abbrev T3:=Int×Value×Nat
def ent (t:T3):MapEntry:={key:= .int .i64 t.1,val:=t.2.1,born:=t.2.2}
structure ag1 (w:World)(m:Nat)(L:List T3)(clock:Nat):Prop where
 heap:w.heap[m]?=some (.map (L.map ent).toArray clock)
 keys:(L.map (·.1)).Nodup
 born:(L.map (·.2.2)).Nodup
 old: ∀t∈L,t.2.2<clock
def kv (t:T3):Int×Value:=(t.1,t.2.1)
def zO (w:World)(m:Nat)(l:List (Int×Value)):Prop:= ∃L clock,ag1 w m L clock/\L.map kv=l
def look (l:List (Int×Value))(key:Int):Option Value:=(l.find? fun p=>key==p.1).map (·.2)
def del (key:Int)(l:List (Int×Value)):List (Int×Value):=l.filter fun p=>key !=p.1
section
variable {P:Program} {w:World} {m:Nat} {l:List (Int×Value)} {T K E:TypeId} {q:IntKind}
theorem IV {L:List T3}{clock:Nat}(h:w.heap[m]?=some (.map (L.map ent).toArray clock)):(getObj m).run P w= .ok (.map (L.map ent).toArray clock) w:=by
 simp[getObj,Sem.run,h]
theorem zO.len (h:zO w m l)(hT:P.underlying T=some (.map K E))(ty:TypeId):(Builtin.len_ #[T] ty #[.map (some m)]).run P w= .ok (.int .i64 l.length) w:=by
 obtain⟨L,clock,h,rfl⟩:=h
 simp[Builtin.len_,run_underlying hT,IV h.heap,goInt]
end
def World.vJ (w:World)(m:Nat)(es:Array MapEntry)(clock:Nat):World:={w with heap:=w.heap.setIfInBounds m (.map es clock)}
theorem TG {w:World}{m:Nat}{o:Obj}(h:w.heap[m]?=some o)(es:Array MapEntry)(clock:Nat):(World.vJ w m es clock).heap[m]?=some (.map es clock):=by
 have:=(Array.getElem?_eq_some_iff.1 h).1
 simp[World.vJ,this]
theorem TF (w:World)(m:Nat)(es:Array MapEntry)(clock:Nat):Kept (one m) w (World.vJ w m es clock):=
 ⟨rfl,rfl,rfl,by simp[World.vJ],fun k _ hn=>by
   have:m≠k:=fun e=>hn e.symm
   simp[World.vJ,Array.getElem?_setIfInBounds_ne this]⟩
theorem Wu {P:Program}{w:World}{m:Nat}{es es':Array MapEntry}{clock clock':Nat}(h:w.heap[m]?=some (.map es clock)):
 (setObj m (.map es' clock')).run P w= .ok () (World.vJ w m es' clock'):=by
 simp[setObj,Sem.run,h,World.vJ]
section
variable {P:Program} {w:World} {m:Nat} {l:List (Int×Value)} {T K E:TypeId} {q:IntKind}
end
def X6 (w:World)(r m:Nat)(l left:List (Int×Value)):Prop:=
 ∃L clock seen,ag1 w m L clock/\L.map kv=l/\w.heap[r]?=some (.mapIter (some m) clock seen clock)/\(L.filter (fun t=>!seen.contains t.2.2)).map kv=left
section
variable {P:Program} {w:World} {m r:Nat} {l left:List (Int×Value)} {T K E:TypeId} {q:IntKind}
theorem X6.map (h:X6 w r m l left):zO w m l:=by
 obtain⟨L,clock,seen,h1,h2,_⟩:=h
 exact⟨L,clock,h1,h2⟩
theorem zO.range (h:zO w m l)(hT:P.underlying T=some (.map K E)):
 ∃w',(Instr.range T (.map (some m))).run P w= .ok (.pointer (some ⟨w.heap.size,0,none⟩)) w'/\X6 w' w.heap.size m l l/\Kept none' w w'/\w'.heap.size=w.heap.size+1:=by
 obtain⟨L,clock,h,rfl⟩:=h
 refine⟨w.alloc (.mapIter (some m) clock #[] clock),?_,?_,(Kept.refl _ _).alloc _,by simp⟩
 ·simp[Instr.range,run_underlying hT,IV h.heap]
 ·refine⟨L,clock,#[],⟨?_,h.keys,h.born,h.old⟩,rfl,heap_alloc_new _ _,by rw[List.filter_eq_self.2 (fun _ _=>by simp)]⟩
  rw[Below.heap_alloc _ _ _ (Array.getElem?_eq_some_iff.1 h.heap).1]
  exact h.heap
theorem TD {w:World}{r k:Nat}(o:Obj)(h:r≠k):({w with heap:=w.heap.setIfInBounds r o}:World).heap[k]?=w.heap[k]?:=by
 simp[Array.getElem?_setIfInBounds_ne h]
end
end
section
open Go
section
variable {P:Program} {ops:Array Oper} {md:Region.Mode} {C:World->Prop} {bar:Bool}
def mX (Q:Act->World->Prop):Exit->Act->World->Prop
 | .normal,a,w=>Q a w
 |_,_,_=>False
theorem Oper.Pg {o:Oper}{a:Act}{w:World}{K:Act->World->Prop}{Q Q':Exit->Act->World->Prop}(h: ∀e a w,Q e a w->Q' e a w)
 (hh:o.wp P a w K Q):o.wp P a w K Q':=by
 unfold Oper.wp at*
 generalize(execOp a.eval o).run P w=r at*
 cases r with
 |ok n w'=>
  cases n<;>simp only[Oper.upon]at hh⊢ <;>
   first
    |exact hh
    |exact Calls.mono hh (fun e w'' he=>by
      cases e
      ·exact he
      ·exact h _ _ _ he
      ·obtain⟨a,w,hx⟩:=he;exact⟨a,w,h _ _ _ hx⟩)
 |halt x w'=>cases x<;>simp only[Oper.upon]at hh⊢ <;>first|exact h _ _ _ hh|exact hh
theorem AY {i:Nat}{a:Act}{w:World}{K:Act->World->Prop}{Q Q':Exit->Act->World->Prop}(h: ∀e a w,Q e a w->Q' e a w)
 (hh:wpOp P ops Q i K a w):wpOp P ops Q' i K a w:=by
 unfold wpOp at*
 split
 ·simpa[*]using hh
 ·rename_i o ho
  simp only[ho]at hh
  split
  ·rename_i hw
   simp only[hw,if_true]at hh
   rcases hh with hh|⟨h1,a,w,h2⟩
   ·exact .inl (Oper.Pg h hh)
   ·exact .inr ⟨h1,a,w,h _ _ _ h2⟩
  ·rename_i hw;simp only[hw]at hh;exact hh
def zU (P:Program)(md:Region.Mode)(ops:Array Oper)(C:World->Prop)(bar:Bool)(Q:Act->World->Prop):Nat->Array Bool->Act->World->Prop
 |0,listed,a,w=>(bar=false->C w)/\(∀(k:Nat) o,ops[k]?=some o->listed.getD k true=true)/\Q a w
 |fuel+1,listed,a,w=>C w/\(Region.ready md ops listed=[]->Q a w)/\
  ∀i∈Region.ready md ops listed,wpOp P ops (mX Q) i (zU P md ops C bar Q fuel (listed.setIfInBounds i true)) a w
theorem ready_nil {listed:Array Bool}(h: ∀(k:Nat) o,ops[k]?=some o->listed.getD k true=true):Region.ready md ops listed=[]:=by
 cases hr:Region.ready md ops listed with
 |nil=>rfl
 |cons x xs=>
  have hx:x∈Region.ready md ops listed:=by rw[hr];simp
  obtain⟨h0,o,ho,_⟩:=mem_ready.1 hx
  rw[h x o ho]at h0
  cases h0
theorem A8 {Q:Act->World->Prop}{Q':Exit->Act->World->Prop}(hQ: ∀a w,Q a w->Q' .normal a w): ∀(fuel:Nat)(listed:Array Bool)(a:Act)(w:World),
 zU P md ops C bar Q fuel listed a w->wpAny P md ops Q' fuel listed a w
 |0,_,_,_,h=>⟨ready_nil h.2.1,hQ _ _ h.2.2⟩
 |fuel+1,_,_,_,h=>⟨fun h0=>hQ _ _ (h.2.1 h0),fun i hi=>wpOp_mono (fun a w=>A8 hQ fuel _ a w)
   (AY (fun e a w h=>by cases e<;>first|exact hQ _ _ h|exact h.elim) (h.2.2 i hi))⟩
def iU (P:Program)(ops:Array Oper)(C:World->Prop)(o:Oper)(v:Value)(a:Act):Prop:=
 (Region.wanted o (yielded ops a.tmps)=true/\ ∀w,C w->(execOp a.eval o).run P w= .ok (.value v) w)\/
 (Region.wanted o (yielded ops a.tmps)=false/\v=undef)
theorem iU.wpOp {Q:Exit->Act->World->Prop}{i:Nat}{o:Oper}{v:Value}{a:Act}(hi:ops[i]?=some o)(hy:iU P ops C o v a)
 {K:Act->World->Prop} {w:World} (hw:C w) (h:K (a.put o.dst v) w):wpOp P ops Q i K a w:=by
 unfold Go.wpOp
 simp only[hi]
 rcases hy with⟨hw',hv⟩|⟨hw',rfl⟩
 ·simp only[hw',if_true,Oper.wp,hv w hw,Oper.upon];exact .inl h
 ·simp only[hw',Bool.false_eq_true,if_false];exact h
theorem iU.of_same {o:Oper}{v:Value}{a a':Act}(hy:iU P ops C o v a)(he:execOp a'.eval o=execOp a.eval o)
 (hw:Region.wanted o (yielded ops a'.tmps)=Region.wanted o (yielded ops a.tmps)):iU P ops C o v a':=by
 unfold iU at*
 rw[he,hw]
 exact hy
theorem MH {Q:Act->World->Prop}{j:Nat}{oi oj:Oper}{v:Value}(hj:ops[j]?=some oj)(hap:oi.apart ops oj=true)
 (hsi: ∀cs b,oi.op≠ .select cs b) (hsj: ∀cs b,oj.op≠ .select cs b) {K:Act->World->Prop} {a:Act} {w:World}
 (hy:iU P ops C oi v a) (h:wpOp P ops (mX Q) j K (a.put oi.dst v) w):
 wpOp P ops (mX Q) j (fun a' w'=>iU P ops C oi v a'/\K (a'.put oi.dst v) w') a w:=by
 obtain⟨h1,h2,h3⟩:=Oper.apart_spec hap
 have keep: ∀(a:Act),iU P ops C oi v a-> ∀u,iU P ops C oi v (a.put oj.dst u):=fun a hy u=>
  hy.of_same (execOp_put oi hsi a oj.dst u h3) (wanted_put oi a oj.dst u h3)
 have keepD: ∀d,iU P ops C oi v {a with defers:=d::a.defers}:=fun d=>hy.of_same rfl rfl
 unfold Go.wpOp at*
 simp only[hj]at*
 rw[wanted_put oj a oi.dst v h1]at h
 split
 ·rename_i hw
  simp only[hw,if_true]at h
  rcases h with h|⟨hasks,hlets⟩
  case inr=>exact .inr ⟨by unfold Oper.asks at*;rw[execOp_put oj hsj a oi.dst v h1]at hasks;exact hasks,hlets⟩
  refine .inl ?_
  unfold Oper.wp at*
  rw[execOp_put oj hsj a oi.dst v h1]at h
  generalize(execOp a.eval oj).run P w=r at*
  cases r with
  |ok n w'=>
   cases n<;>simp only[Oper.upon]at h⊢
   case value u=>exact⟨keep a hy u,by rw[<-Act.put_comm a v u h2];exact h⟩
   case skip=>exact⟨keep a hy _,by rw[<-Act.put_comm a v undef h2];exact h⟩
   case defer d=>
    refine⟨keep _ (keepD d) _,?_⟩
    rw[<-Act.put_comm _ v undef h2,<-Act.put_defers]
    exact h
   case enter f args=>
    refine Calls.mono h fun e w'' he=>?_
    cases e with
    |returned u=>exact⟨keep a hy u,by rw[<-Act.put_comm a v u h2];exact he⟩
    |panicked c=>exact he
    |outgrown=>exact he
   case row row args=>exact Rows.mono h fun u w'' he=>⟨keep a hy u,by rw[<-Act.put_comm a v u h2];exact he⟩
  |halt x w'=>
   cases x<;>simp only[Oper.upon]at h⊢
   case panic u=>exact h
 ·rename_i hw
  simp only[hw]at h
  exact⟨keep a hy _,by rw[<-Act.put_comm a v undef h2];exact h⟩
def Barred (md:Region.Mode)(ops:Array Oper)(bar:Bool)(listed:Array Bool):Prop:=
 bar=true-> ∃z oz,ops[z]?=some oz/\listed.getD z true=false/\ ∀l:Array Bool,z∈Region.ready md ops l-> ∀(k:Nat) o,ops[k]?=some o->k≠z->l.getD k true=true
theorem xH {Q:Act->World->Prop}{i:Nat}{oi:Oper}{v:Value}(hi:ops[i]?=some oi)(hsel: ∀(j:Nat)(o:Oper) cs b,ops[j]?=some o->o.op≠ .select cs b):
 ∀(fuel:Nat)(listed:Array Bool)(a:Act)(w:World),
  (∀j oj,ops[j]?=some oj->j≠i->listed.getD j true=false->(∀e∈oj.after,Region.binds md e=true->e.on≠i)->oi.apart ops oj=true)->
  C w->Barred md ops bar listed->
  i∈Region.ready md ops listed->iU P ops C oi v a->
  zU P md ops C bar Q fuel (listed.setIfInBounds i true) (a.put oi.dst v) w->zU P md ops C bar Q (fuel+1) listed a w:=by
 intro fuel
 induction fuel with
 |zero=>
  intro listed a w _ hC _ hr hy H
  refine⟨hC,fun h=>(by rw[h]at hr;cases hr),fun j hj=>?_⟩
  by_cases hji:j=i
  ·subst hji;exact hy.wpOp hi hC H
  ·have:=ready_mono hj hji
   rw[ready_nil H.2.1]at this
   cases this
 |succ fuel ih=>
  intro listed a w hfree hC hbar hr hy H
  refine⟨hC,fun h=>(by rw[h]at hr;cases hr),fun j hj=>?_⟩
  by_cases hji:j=i
  ·subst hji;exact hy.wpOp hi hC H
  ·have h1:=H.2.2 j (ready_mono hj hji)
   obtain⟨hjun,oj,hoj,hall⟩:=mem_ready.1 hj
   have hnot: ∀e∈oj.after,Region.binds md e=true->e.on≠i:=fun e he hb heq=>by
    have h1:=hall e he hb
    have h0:=(mem_ready.1 hr).1
    rw[heq]at h1
    rcases Nat.lt_or_ge i listed.size with h'|h'
    ·simp[h']at h0 h1;rw[h0]at h1;cases h1
    ·simp[Array.getElem?_eq_none h']at h1
   have h2:=MH hoj (hfree j oj hoj hji hjun hnot) (fun cs b=>hsel i oi cs b hi) (fun cs b=>hsel j oj cs b hoj) hy h1
   have hfree': ∀k ok,ops[k]?=some ok->k≠i->(listed.setIfInBounds j true).getD k true=false->
    (∀e∈ok.after,Region.binds md e=true->e.on≠i)->oi.apart ops ok=true:=fun k ok hk hki hun hno=>by
    refine hfree k ok hk hki ?_ hno
    by_cases hjk:j=k
    ·subst hjk;exact hjun
    ·rw[getD_set_ne true hjk]at hun;exact hun
   have XB:Barred md ops bar (listed.setIfInBounds j true):=fun hb=>by
    obtain⟨z,oz,hz,hun,hlast⟩:=hbar hb
    refine⟨z,oz,hz,?_,hlast⟩
    by_cases hjz:j=z
    ·subst hjz
     have:=hlast listed hj i oi hi (Ne.symm hji)
     rw[(mem_ready.1 hr).1]at this
     cases this
    ·rw[getD_set_ne true hjz];exact hun
   refine wpOp_mono (fun a' w' h3=>ih (listed.setIfInBounds j true) a' w' hfree' ?_ XB (ready_mono hr (Ne.symm hji)) h3.1 ?_) h2
   ·cases fuel with
    |succ f=>exact h3.2.1
    |zero=>
     cases hb:bar with
     |false=>exact h3.2.1 hb
     |true=>
      obtain⟨z,oz,hz,hun,hlast⟩:=hbar hb
      by_cases hzi:z=i
      ·subst hzi
       have:=hlast listed hr j oj hoj hji
       rw[hjun]at this;cases this
      ·by_cases hzj:z=j
       ·subst hzj
        have:=hlast listed hj i oi hi (Ne.symm hji)
        rw[(mem_ready.1 hr).1]at this;cases this
       ·have:=h3.2.2.1 z oz hz
        rw[getD_set_ne true (Ne.symm hzj),getD_set_ne true (Ne.symm hzi),hun]at this
        cases this
   ·rw[Array.setIfInBounds_comm _ _ hji]
    exact h3.2
def floats:Op->Bool
 | .move _| .assign _| .pick .. | .build .. | .load .. | .nilCheck _| .binOp .. | .unOp .. | .convert .. | .makeInterface .. | .makeFunc .. | .slice .. | .fieldAddr .. | .field .. | .indexAddr .. | .index .. | .lookup .. | .entry _| .typeAssert .. | .extract .. =>true
 | .call {callee:= .builtin b, ..}=>match b with| .len| .cap| .min| .max=>true|_=>false
 |_=>false
def Cb (ops:Array Oper)(i:Nat):Bool:=match ops[i]? with|some o=>floats o.op|none=>false
def qh (md:Region.Mode)(ops:Array Oper):List Nat->Array Bool->Bool
 |[],listed=>(List.range ops.size).all fun k=>listed.getD k true
 |k::rest,listed=>
  (if Cb ops k then(Region.ready md ops listed).contains k&&Region.free md ops listed k else Region.ready md ops listed==[k])&&
  qh md ops rest (listed.setIfInBounds k true)
def CU (ops:Array Oper):Bool:=
 match ops[ops.size-1]? with
 |some o=>!floats o.op&&(List.range (ops.size-1)).all fun k=>o.after.any fun e=>Region.binds .any e&&e.on==k
 |none=>false
def aan (ops:Array Oper)(ord:List Nat):Bool:=
 Region.noSelect ops&&(ord.getLast?==some (ops.size-1))&&ord.dropLast.all (fun k=>k !=ops.size-1)&&qh .any ops ord (Array.replicate ops.size false)
def Pj (P:Program)(ops:Array Oper)(C:World->Prop)(Q:Act->World->Prop):List Nat->Act->World->Prop
 |[],a,w=>(CU ops=false->C w)/\Q a w
 |k::rest,a,w=>
  match ops[k]? with
  |none=>False
  |some o=>
   if Region.wanted o (yielded ops a.tmps)then
    if floats o.op then∃v,(∀w',C w'->(execOp a.eval o).run P w'= .ok (.value v) w')/\Pj P ops C Q rest (a.put o.dst v) w
    else o.wp P a w (fun a' w'=>(rest≠[]->C w')/\Pj P ops C Q rest a' w') (mX Q)
   else Pj P ops C Q rest (a.put o.dst undef) w
theorem SI (hb:CU ops=true): ∀l:Array Bool,ops.size-1∈Region.ready .any ops l-> ∀(k:Nat) o,ops[k]?=some o->k≠ops.size-1->l.getD k true=true:=by
 intro l hl k o hk hne
 obtain⟨_,oz,hoz,hall⟩:=mem_ready.1 hl
 simp only[CU,hoz,Bool.and_eq_true,List.all_eq_true,List.mem_range]at hb
 have hlt:=(Array.getElem?_eq_some_iff.1 hk).1
 have h1:=hb.2 k (by omega)
 rw[Array.any_eq_true]at h1
 obtain⟨i,hi,h1⟩:=h1
 simp only[Bool.and_eq_true,beq_iff_eq]at h1
 have h2:=hall _ (Array.getElem_mem hi) h1.1
 rw[h1.2]at h2
 rcases Nat.lt_or_ge k l.size with h'|h'
 ·simp[h']at h2⊢;exact h2
 ·simp[Array.getElem?_eq_none h']at h2
theorem pz {Q:Act->World->Prop}(hs:Region.noSelect ops=true): ∀(l:List Nat)(listed:Array Bool)(a:Act)(w:World),
 (l=[]\/(l.getLast?=some (ops.size-1)/\(∀k∈l.dropLast,k≠ops.size-1)/\listed.getD (ops.size-1) true=false))->
 qh .any ops l listed=true->(l≠[]->C w)->Pj P ops C Q l a w->zU P .any ops C (CU ops) Q l.length listed a w
 |[],listed,a,w,_,hB,_,h=>by
  refine⟨h.1,fun k o hk=>?_,h.2⟩
  simp only[qh,List.all_eq_true,List.mem_range]at hB
  exact hB k (Array.getElem?_eq_some_iff.1 hk).1
 |k::rest,listed,a,w,hl,hB,hC,h=>by
  simp only[qh,Bool.and_eq_true]at hB
  obtain⟨hk,hB'⟩:=hB
  have hC':=hC (by simp)
  rcases hl with hl|⟨hl1,hl2,hl3⟩
  ·cases hl
  have hrest:rest=[]\/(rest.getLast?=some (ops.size-1)/\(∀j∈rest.dropLast,j≠ops.size-1)/\(listed.setIfInBounds k true).getD (ops.size-1) true=false):=by
   cases rest with
   |nil=>exact .inl rfl
   |cons r rs=>
    right
    refine⟨by simpa using hl1,fun j hj=>hl2 j (by simp at hj⊢;exact .inr hj),?_⟩
    have hkn:k≠ops.size-1:=hl2 k (by simp)
    rw[getD_set_ne true hkn];exact hl3
  unfold Pj at h
  cases hok:ops[k]? with
  |none=>rw[hok]at h;exact h.elim
  |some o=>
   rw[hok]at h
   simp only[Cb,hok]at hk
   have Vz:Barred .any ops (CU ops) listed:=fun hb=>by
    have hsz:0<ops.size:=Nat.lt_of_le_of_lt (Nat.zero_le _) (Array.getElem?_eq_some_iff.1 hok).1
    exact⟨ops.size-1,ops[ops.size-1]'(by omega),by simp,hl3,SI hb⟩
   by_cases hf:floats o.op=true
   ·rw[if_pos hf]at hk
    simp only[Bool.and_eq_true]at hk
    have hr:k∈Region.ready .any ops listed:=by simpa using hk.1
    by_cases hw:Region.wanted o (yielded ops a.tmps)=true
    ·simp only[hw,if_true,hf]at h
     obtain⟨v,hv,hn⟩:=h
     exact xH hok (Region.noSelect_spec hs) rest.length listed a w (Region.free_spec hok hk.2) hC' Vz hr (.inl ⟨hw,hv⟩)
      (pz hs rest _ _ w hrest hB' (fun _=>hC') hn)
    ·simp only[hw]at h
     exact xH hok (Region.noSelect_spec hs) rest.length listed a w (Region.free_spec hok hk.2) hC' Vz hr (.inr ⟨by simpa using hw,rfl⟩)
      (pz hs rest _ _ w hrest hB' (fun _=>hC') h)
   ·rw[if_neg hf]at hk
    have hr:Region.ready .any ops listed=[k]:=by simpa using hk
    refine⟨hC',fun h0=>(by rw[h0]at hr;cases hr),fun j hj=>?_⟩
    rw[hr]at hj
    obtain rfl:j=k:=by simpa using hj
    unfold wpOp
    simp only[hok]
    by_cases hw:Region.wanted o (yielded ops a.tmps)=true
    ·simp only[hw,if_true,hf]at h⊢
     exact .inl (Oper.wp_mono (fun a' w' h'=>pz hs rest _ a' w' hrest hB' h'.1 h'.2) h)
    ·simp only[hw]at h⊢
     exact pz hs rest _ _ w hrest hB' (fun _=>hC') h
def kC (P:Program)(ops:Array Oper)(C:World->Prop)(Q:Act->World->Prop):List Oper->Act->World->Prop
 |[],a,w=>(CU ops=false->C w)/\Q a w
 |o::rest,a,w=>
  if Region.wanted o (yielded ops a.tmps)then
   if floats o.op then∃v,(∀w',C w'->(execOp a.eval o).run P w'= .ok (.value v) w')/\kC P ops C Q rest (a.put o.dst v) w
   else o.wp P a w (fun a' w'=>(rest≠[]->C w')/\kC P ops C Q rest a' w') (mX Q)
  else kC P ops C Q rest (a.put o.dst undef) w
theorem AZ {Q:Act->World->Prop}: ∀(l:List Nat)(listed:Array Bool)(a:Act)(w:World),qh .any ops l listed=true->
 kC P ops C Q (l.map fun k=>(ops[k]?).getD default) a w->Pj P ops C Q l a w
 |[],_,_,_,_,h=>h
 |k::rest,listed,a,w,hB,h=>by
  simp only[qh,Bool.and_eq_true]at hB
  obtain⟨hk,hB'⟩:=hB
  have hr:k∈Region.ready .any ops listed:=by
   split at hk
   ·simp only[Bool.and_eq_true]at hk;simpa using hk.1
   ·have:Region.ready .any ops listed=[k]:=by simpa using hk
    rw[this];simp
  obtain⟨_,o,ho,_⟩:=mem_ready.1 hr
  unfold Pj
  simp only[List.map_cons,ho,Option.getD_some,kC]at h⊢
  split
  ·rename_i hw
   simp only[hw,if_true]at h
   split
   ·rename_i hf
    simp only[hf,if_true]at h
    obtain⟨v,hv,hn⟩:=h
    exact⟨v,hv,AZ rest _ _ _ hB' hn⟩
   ·rename_i hf
    rw[if_neg hf]at h
    refine Oper.wp_mono (fun a' w' h'=>⟨fun hne=>h'.1 (by simpa using hne),AZ rest _ _ _ hB' h'.2⟩) h
  ·rename_i hw
   simp only[hw]at h
   exact AZ rest _ _ _ hB' h
theorem aZ {id:Nat}{Q:Exit->Act->World->Prop}{a:Act}{w:World}(ord:List Nat)(C:World->Prop)(hm:P.follows .mixedOrders=true)(hB:aan ops ord=true)
 (hlen:ord.length=ops.size) (hC:C w.drew) (h:kC P ops C (Q .normal) (ord.map fun k=>(ops[k]?).getD default) a w.drew):(Code.region id ops true).wp P Q a w:=by
 simp only[aan,Bool.and_eq_true]at hB
 obtain⟨⟨⟨h1,h2⟩,h3⟩,h4⟩:=hB
 refine wp_region_any hm (A8 (C:=C) (bar:=CU ops) (Q:=Q .normal) (fun _ _ h=>h) _ _ _ _ ?_)
 rw[<-hlen]
 have h2':ord.getLast?=some (ops.size-1):=by simpa using h2
 have hsz:0<ops.size:=by
  rw[<-hlen]
  cases ord with
  |nil=>simp at h2'
  |cons _ _=>simp
 refine pz h1 ord _ a w.drew (.inr ⟨h2',fun k hk=>?_,?_⟩) (by rw[hlen];exact h4) (fun _=>hC) (AZ ord _ _ _ h4 h)
 ·have:=List.all_eq_true.1 h3 k hk
  simpa using this
 ·rw[hlen,Array.getD_eq_getD_getElem?,Array.getElem?_replicate,if_pos (by omega)]
  rfl
theorem dJ {Q:Act->World->Prop}{rest:List Oper}{a:Act}{w:World}{o:Oper}(hw:Region.wanted o (yielded ops a.tmps)=false)
 (h:kC P ops C Q rest (a.put o.dst undef) w):kC P ops C Q (o::rest) a w:=by
 unfold kC;simp only[hw];exact h
theorem bC {Q:Act->World->Prop}{rest:List Oper}{a:Act}{w:World}{o:Oper}{v:Value}(hw:Region.wanted o (yielded ops a.tmps)=true)(hf:floats o.op=true)
 (hv: ∀w',C w'->(execOp a.eval o).run P w'= .ok (.value v) w') (h:kC P ops C Q rest (a.put o.dst v) w):kC P ops C Q (o::rest) a w:=by
 unfold kC;simp only[hw,hf,if_true];exact⟨v,hv,h⟩
theorem iC {Q:Act->World->Prop}{rest:List Oper}{a:Act}{w:World}{o:Oper}(hw:Region.wanted o (yielded ops a.tmps)=true)(hf:floats o.op=false)
 (h: ∀K:Act->World->Prop,(∀a' w',(rest≠[]->C w')->kC P ops C Q rest a' w'->K a' w')->o.wp P a w K (mX Q)):kC P ops C Q (o::rest) a w:=by
 unfold kC;simp only[hw,hf,if_true];exact h _ fun a' w' h1 h2=>⟨h1,h2⟩
theorem fU {Q:Act->World->Prop}{a:Act}{w:World}(hb:CU ops=false->C w)(h:Q a w):kC P ops C Q [] a w:=⟨hb,h⟩
theorem adp {Q:Act->World->Prop}{a:Act}{w:World}(hb:CU ops=true)(h:Q a w):kC P ops C Q [] a w:=⟨(fun h0=>absurd (hb.symm.trans h0) (by simp)),h⟩
end
end
section
open Go Go.RowKit
section
variable {P:Program} {w:World}
theorem rH (base:Nat)(t ty e:TypeId)(i:TypeInfo)(z:Value)(size bytes:Nat)(ht:P.underlying t=some (.slice e))(hi:P.info? e=some i)(hz:i.zero=some z)
 (hsize:i.size=size) (hby:i.bytes=bytes) (hzs:z.cells.size=size) (hsz:0<size)
 {v:Value} {n:Nat} {xs:List Value} (hown:w.ownsRow base e size v n xs) {u:Value} {cs:List Value} (hr:Reads w size u cs) (h1: ∀x∈cs,x.oneCell'=true)
 (hmax:(n*size+cs.length)*bytes<=140737488355328) (hbig:n*size+cs.length<=maxLen) (hbase:base<=w.heap.size):
 ∃v' n' w',(Builtin.append_ #[t,t] ty #[v,u]).run P w= .ok v' w'/\w'.ownsRow base e size v' n' (xs++cs)/\n'*size=n*size+cs.length/\w.grownBy w' v.ownBlock/\
  (v'= .slice none 0 0↔v= .slice none 0 0/\cs=[]):=by
 obtain⟨a,m,cap,rfl,hm1,hm2,hlen,hcells⟩:=hr
 have hnm:n+m<=n*size+cs.length:=by
  rw[hlen,<-Nat.add_mul];exact Nat.le_mul_of_pos_right _ hsz
 by_cases hc:cs=[]
 ·subst hc
  have hm:m=0:=by
   rcases Nat.eq_zero_or_pos m with h|h
   ·exact h
   ·have:=Nat.mul_pos h hsz;simp at hlen;omega
  subst hm
  have hf: ∀W,(Builtin.firstCells size 0 (.slice a 0 cap)).run P W= .ok #[] W:=fun W=>by
   cases a<;>simp[Builtin.firstCells,loadCells,loadCellsFrom]
  refine⟨v,n,w,?_,by simpa using hown,by simp,⟨rfl,rfl,rfl,Nat.le_refl _,fun _ _ _=>rfl⟩,by simp⟩
  rcases hown.2 with⟨rfl,rfl⟩|⟨g,vcap,cur,rfl,hbg,hg,hnc,hcm,hcs,htake⟩
  ·subst hsize
   simp[Builtin.append_,run_underlying ht,sizeOf,typeInfo,hi,Builtin.lenOf,hf]
  ·subst hsize
   simp[Builtin.append_,run_underlying ht,sizeOf,typeInfo,hi,Builtin.lenOf,hf,hnc,storeCells]
 ·obtain⟨b,off,rfl,hcl⟩:=hcells.resolve_left hc
  have hadd: ∀j,(⟨b,off,none⟩:Addr).add j=⟨b,off+j,none⟩:=fun j=>Addr.add_lit b off j
  obtain⟨v',w',g1,g2,g3,g4⟩:=run_append_own (P:=P) w base t ty e i z size bytes ht hi hz hsize hby hzs hsz v n xs hown ⟨b,off,none⟩ m cap cs hlen
   (fun j x hx=>by rw[hadd];exact hcl j x hx) h1 (Nat.le_trans hnm hbig) (Nat.le_trans (Nat.mul_le_mul_right _ hnm) hmax) hbase
  refine⟨v',n+m,w',g1,g2,by rw[Nat.add_mul,hlen],g3,?_⟩
  rw[g4]
  constructor
  ·rintro⟨h,rfl⟩;exact⟨h,absurd (List.eq_nil_of_length_eq_zero (by simpa using hlen)) hc⟩
  ·rintro⟨h,h'⟩;exact absurd h' hc
theorem Iq {o:Oper}{a:Act}{K:Act->World->Prop}{Q:Exit->Act->World->Prop}(s x:Operand)(t:TypeId)
 (ho:o.op= .call {callee:= .builtin .append,args:= #[s,x],argTypes:= #[t,t]})
 (base e:Nat) (i:TypeInfo) (z:Value) (size bytes:Nat) (ht:P.underlying t=some (.slice e)) (hi:P.info? e=some i) (hz:i.zero=some z)
 (hsize:i.size=size) (hby:i.bytes=bytes) (hzs:z.cells.size=size) (hsz:0<size)
 (v:Value) (n:Nat) (xs:List Value) (hs:a.eval s=v) (hown:w.ownsRow base e size v n xs) (u:Value) (cs:List Value) (hx:a.eval x=u) (hr:Reads w size u cs) (h1: ∀x∈cs,x.oneCell'=true)
 (hmax:(n*size+cs.length)*bytes<=140737488355328) (hbig:n*size+cs.length<=maxLen) (hbase:base<=w.heap.size)
 (h: ∀v' n' w',w'.ownsRow base e size v' n' (xs++cs)->n'*size=n*size+cs.length->w.grownBy w' v.ownBlock->(v'= .slice none 0 0↔v= .slice none 0 0/\cs=[])->K (a.put o.dst v') w'):o.wp P a w K Q:=by
 obtain⟨v',n',w',g1,g2,g3,g4,g5⟩:=rH (P:=P) base t o.type e i z size bytes ht hi hz hsize hby hzs hsz hown hr h1 hmax hbig hbase
 unfold Oper.wp execOp
 simp only[ho,resolve,invoke,builtin,Sem.run_bind,Sem.run_pure,Result.andThen_ok,List.map_toArray,List.map_cons,List.map_nil,hs,hx,g1]
 exact h v' n' w' g2 g3 g4 g5
theorem uq {ops:Array Oper}{rest:List Oper}{o:Oper}{a:Act}{Q:Exit->Act->World->Prop}(hgd:o.guard=none)(s x:Operand)(t:TypeId)
 (ho:o.op= .call {callee:= .builtin .append,args:= #[s,x],argTypes:= #[t,t]})
 (base e:Nat) (i:TypeInfo) (z:Value) (size bytes:Nat) (ht:P.underlying t=some (.slice e)) (hi:P.info? e=some i) (hz:i.zero=some z)
 (hsize:i.size=size) (hby:i.bytes=bytes) (hzs:z.cells.size=size) (hsz:0<size)
 (v:Value) (n:Nat) (xs:List Value) (hs:a.eval s=v) (hown:w.ownsRow base e size v n xs) (u:Value) (cs:List Value) (hx:a.eval x=u) (hr:Reads w size u cs) (h1: ∀x∈cs,x.oneCell'=true)
 (hmax:(n*size+cs.length)*bytes<=140737488355328) (hbig:n*size+cs.length<=maxLen) (hbase:base<=w.heap.size)
 (h: ∀v' n' w',w'.ownsRow base e size v' n' (xs++cs)->n'*size=n*size+cs.length->w.grownBy w' v.ownBlock->(v'= .slice none 0 0↔v= .slice none 0 0/\cs=[])->wpList P ops Q rest (a.put o.dst v') w'):
 wpList P ops Q (o::rest) a w:=
 wpList_plain hgd fun _ hK=>Iq s x t ho base e i z size bytes ht hi hz hsize hby hzs hsz v n xs hs hown u cs hx hr h1 hmax hbig hbase (fun v' n' w' g1 g2 g3 g4=>hK _ _ (h v' n' w' g1 g2 g3 g4))
theorem Reads.slice {k:Nat}{v:Value}{cs:List Value}(h:Reads w k v cs): ∃a n cap,v= .slice a n cap/\n<=cap/\cap<=maxLen/\cs.length=n*k/\(n=0\/k=0\/ ∃b off,a=some ⟨b,off,none⟩)/\
 (∀b off,a=some ⟨b,off,none⟩-> ∀i x,cs[i]?=some x->w.cell? ⟨b,off+i,none⟩=some x):=by
 obtain⟨a,n,cap,rfl,h1,h2,h3,h4⟩:=h
 refine⟨a,n,cap,rfl,h1,h2,h3,?_,?_⟩
 ·rcases h4 with rfl|⟨b,off,rfl,h4⟩
  ·have h3':n*k=0:=by rw[<-h3];rfl
   rcases Nat.mul_eq_zero.1 h3' with h5|h5
   ·exact .inl h5
   ·exact .inr (.inl h5)
  ·exact .inr (.inr ⟨b,off,rfl⟩)
 ·rcases h4 with rfl|⟨b,off,rfl,h4⟩
  ·intro b off _ i x hx;simp at hx
  ·rintro b' off' e i x hx
   cases e
   exact h4 i x hx
end
end
section
def aO (n:Int):Prop:= -9223372036854775808<=n/\n<=9223372036854775807
def grp (k:Int):Int:=k%8
theorem af8 (k:Int):0<=grp k:=by unfold grp;omega
theorem af9 (k:Int):grp k<8:=by unfold grp;omega
abbrev Cell:=Int×List Int
abbrev Tab:=List (Int×Cell)
def fF (a b:Int):Bool:=decide (grp a<grp b)||(decide (grp a=grp b)&&decide (a<b))
theorem rW {a b:Int}:fF a b=true↔grp a<grp b\/grp a=grp b/\a<b:=by simp[fF]
theorem ji (a:Int):fF a a=false:=by simp[fF]
theorem qX {a b c:Int}(h:fF a b=true)(k:fF b c=true):fF a c=true:=by
 rw[rW]at*;omega
theorem oJ {a b:Int}(h:a≠b):fF a b=true\/fF b a=true:=by
 rw[rW,rW];omega
theorem zD {a b:Int}(h:fF a b=true):fF b a=false:=by
 cases h':fF b a
 ·rfl
 ·have:=qX h h';rw[ji]at this;cases this
def qJ (T:Tab):Prop:=T.Pairwise fun p q=>fF p.1 q.1=true
def vX (T:Tab)(k:Int):Option Cell:=(T.find? fun p=>k==p.1).map (·.2)
def jR (T:Tab)(g:Int):Nat:=T.countP fun p=>grp p.1==g
def qL (k:Int)(c:Cell):Tab->Tab
 |[]=>[(k,c)]
 |p::r=>if fF p.1 k then p::qL k c r else if p.1=k then(k,c)::r else(k,c)::p::r
def iK (T:Tab):List Int:=T.map (·.1)
def COk (c:Cell):Prop:=aO c.1/\(∀x∈c.2,aO x)/\c.2.length<=16
structure ED (T:Tab):Prop where
 rises:qJ T
 key: ∀p∈T,aO p.1
 cell: ∀p∈T,COk p.2
 many: ∀g,jR T g<=40
theorem qJ.nodup {T:Tab}(h:qJ T):(iK T).Nodup:=by
 unfold iK
 rw[List.Nodup,List.pairwise_map]
 exact h.imp fun{a b} hab e=>by rw[e,ji]at hab;cases hab
theorem BL {k:Int}{c:Cell}: ∀{T:Tab},qJ T-> ∀{p:Int×Cell},p∈qL k c T↔p=(k,c)\/(p∈T/\p.1≠k)
 |[],_,p=>by simp[qL]
 |q::r,h,p=>by
  obtain⟨h1,h2⟩:=List.pairwise_cons.1 h
  unfold qL
  split
  ·rename_i hl
   have hne:q.1≠k:=fun e=>by rw[e,ji]at hl;cases hl
   rw[List.mem_cons,BL h2,List.mem_cons]
   constructor
   ·rintro(rfl|h|h)
    ·exact .inr ⟨.inl rfl,hne⟩
    ·exact .inl h
    ·exact .inr ⟨.inr h.1,h.2⟩
   ·rintro(h|⟨rfl|h,h'⟩)
    ·exact .inr (.inl h)
    ·exact .inl rfl
    ·exact .inr (.inr ⟨h,h'⟩)
  ·rename_i hl
   split
   ·rename_i he
    rw[List.mem_cons,List.mem_cons]
    constructor
    ·rintro(h|h)
     ·exact .inl h
     ·refine .inr ⟨.inr h,fun e=>?_⟩
      have:=h1 p h
      rw[e,he,ji]at this;cases this
    ·rintro(h|⟨rfl|h,h'⟩)
     ·exact .inl h
     ·exact absurd he h'
     ·exact .inr h
   ·rename_i he
    have hkq:fF k q.1=true:=(oJ he).resolve_left hl
    rw[List.mem_cons]
    constructor
    ·rintro(h|h)
     ·exact .inl h
     ·refine .inr ⟨h,fun e=>?_⟩
      rcases List.mem_cons.1 h with rfl|h
      ·exact he e
      ·have:=qX hkq (h1 p h)
       rw[e,ji]at this;cases this
    ·rintro(h|⟨h,_⟩)
     ·exact .inl h
     ·exact .inr h
theorem qJ.qL {k:Int}{c:Cell}: ∀{T:Tab},qJ T->qJ (qL k c T)
 |[],_=>by simp[qJ,Go.Proofs.YtakhobfamnjnoaaGreatDoor.qL]
 |q::r,h=>by
  obtain⟨h1,h2⟩:=List.pairwise_cons.1 h
  unfold Go.Proofs.YtakhobfamnjnoaaGreatDoor.qL
  split
  ·rename_i hl
   refine List.pairwise_cons.2 ⟨fun p hp=>?_,qJ.qL h2⟩
   rcases(BL h2).1 hp with rfl|⟨hp,_⟩
   ·exact hl
   ·exact h1 p hp
  ·rename_i hl
   split
   ·rename_i he
    exact List.pairwise_cons.2 ⟨fun p hp=>by have:=h1 p hp;rw[he]at this;exact this,h2⟩
   ·rename_i he
    have hkq:fF k q.1=true:=(oJ he).resolve_left hl
    refine List.pairwise_cons.2 ⟨fun p hp=>?_,h⟩
    rcases List.mem_cons.1 hp with rfl|hp
    ·exact hkq
    ·exact qX hkq (h1 p hp)
theorem Yi {T:Tab}{k:Int}:vX T k=none↔k∉iK T:=by
 unfold vX iK
 simp
 constructor
 ·intro h a b hc;exact h _ _ _ hc rfl
 ·intro h a b l hab e;subst e;exact h _ _ hab
end
section
open Go Go.RowKit
theorem kM {k:IntKind}{a b:Int}(h:a=b):Ending.returned (.int k a)= .returned (.int k b):=by rw[h]
theorem ag9 (k:Int):k.tmod 8=if 0<=k then k%8 else-((-k)%8):=tmod_eq_if k 8
theorem Zf (k:Int)(w:World):
 Calls Tryz.prog 308 #[.int .i64 k] w fun e w'=>e= .returned (.int .i64 (grp k))/\w=w':=by
 have h1:=ag9 k
 have H:=Lib.hid h1
 clear h1
 go_enter Tryz.func308,Tryz.ntmps308
 go_wp2
 ·rename_i hlt
  go_ret
  refine⟨kM ?_,rfl⟩
  have e:=H.out
  unfold grp
  show wrap64 (k.tmod 8+8)=k%8
  rw[IntWalk.wrap64_in _ ⟨by split at e<;>omega,by split at e<;>omega⟩]
  split at e<;>omega
 ·rename_i hge
  go_ret
  refine⟨kM ?_,rfl⟩
  have e:=H.out
  unfold grp
  show k.tmod 8=k%8
  split at e<;>omega
theorem dP {w:World}{base e size n:Nat}{v:Value}{xs:List Value}(h:w.ownsRow base e size v n xs): ∃a cap,v= .slice a n cap:=by
 rcases h.2 with⟨rfl,rfl⟩|⟨g,cap,cur,rfl,_⟩
 ·exact⟨_,_,rfl⟩
 ·exact⟨_,_,rfl⟩
def ints (l:List Int):List Value:=l.map (Value.int .i64)
@[simp] theorem Ud (l:List Int):(ints l).length=l.length:=by simp[ints]
abbrev up (B:Nat):Nat->Prop:=fun k=>B<=k
theorem Reads.isCells {w:World}{v:Value}{cs:List Value}{k b:Nat}(h:Reads w k v cs)(hk:0<k)(hb:Value.blk v=some b): ∃c E f,w.heap[b]?=some (.cells c E f):=by
 obtain⟨a,n,cap,rfl,h1,h2,h3,h4⟩:=h
 have hn:n≠0:=by
  intro h;subst h
  cases a<;>simp[Value.blk]at hb
 have hlen:0<cs.length:=by rw[h3];exact Nat.mul_pos (by omega) hk
 rcases h4 with rfl|⟨b',off,rfl,h4⟩
 ·simp at hlen
 ·simp[Value.blk,hn]at hb
  subst hb
  have:=h4 0 (cs[0]) (by simp)
  unfold World.cell? at this
  split at this
  ·rename_i c E f he;exact⟨c,E,f,he⟩
  ·cases this
def Gives (w:World)(v:Value)(e:Ending)(w':World):Prop:=e= .returned v/\Kept none' w w'
end
section
open Go Go.RowKit Go.ChangeShapes Go.WideShapes Go.ChangeAt
theorem own:ownKnob Tryz.prog.godebug=none:=by kernel_rfl
theorem adq (w:World)(h:w.ShapedOpen Tryz.prog):8<=w.heap.size:=by
 have h7:((((begin Tryz.prog (fun _ _=>0) default).world.heap[7]?).bind Obj.row?).isSome)=true:=by kernel_rfl
 obtain⟨x,hx⟩:=Option.isSome_iff_exists.1 h7
 obtain⟨zero,t⟩:=x
 obtain⟨cs,hh,_⟩:=h.1 7 zero t (of_decide_eq_true (by kernel_rfl)) hx
 have:=(Array.getElem?_eq_some_iff.1 hh).1
 omega
theorem laidOut:laidOutB Tryz.prog=true:=by kernel_rfl
noncomputable def readB (ts:List TypeId):Bool:=ts.all fun t=>Tryz.prog.readableRec t&&decide (t<Tryz.prog.types.size)
theorem aaE {H:Type}{enc:TypeId×Value->H}{W W':World}(hb:Below W.heap.size W W')(ts:List TypeId): ∀{vs:List Value}{ds:List (DataW H)}{ps:List MemPlace},readB ts=true->
 DataW.TrodAll enc Tryz.prog W 0 (fun _=>true) true ts vs ds ps-> ∃ps',DataW.TrodAll enc Tryz.prog W' 0 (fun b=>decide (b<W.heap.size)) true ts vs ds ps':=by
 induction ts with
 |nil=>
  intro vs ds ps _ h
  obtain⟨rfl,rfl,rfl⟩:=trodAll_nil h
  exact⟨[],trodAll_mk0⟩
 |cons t ts ih=>
  intro vs ds ps hr h
  obtain⟨v,vs',d,ds',p,q,rfl,rfl,rfl,h0,h1⟩:=trodAll_cons h
  unfold readB at hr
  rw[List.all_cons,Bool.and_eq_true,Bool.and_eq_true]at hr
  obtain⟨ps',h2⟩:=ih hr.2 h1
  have hlt: ∀x∈p,x.block<W.heap.size:=by obtain⟨m,hm⟩:=h0;exact DataW.trod_lt m _ _ _ hm
  exact⟨_,trodAll_cons_mk (Below.trod laidOut hr.1.1 (of_decide_eq_true hr.1.2) h0 hb hlt) h2⟩
theorem TU {F:Nat}{fn:Func}{s:ChangeSpec}{laid:List (String×DataW Unit)}(hf:Tryz.prog.funcs[F]?=some fn)(hv:s.vars=[])(hvt:s.plain.varTypes Tryz.prog=[])(hr:fn.resultTypes= #[4])(hp:readB fn.params.toList=true)(hi:Tryz.prog.inits.idxOf? F=none)
 (hs: ∀(H:Type)(ds:List (DataW H)),ds.length=fn.params.toList.length->s.fn H ds={results:=[.lit (.bool true)],args:=ds})
 (walk: ∀(H:Type)(enc:TypeId×Value->H)(W:World)(base:Nat)(args:Array Value)(ds:List (DataW H))(p:List MemPlace),
   DataW.TrodAll enc Tryz.prog W 0 (fun _=>true) true fn.params.toList args.toList ds p->(∀(j:Nat) t v,fn.params[j]?=some t->args[j]?=some v->Value.okWide Tryz.prog W .any base t v)->
   (DataW.weightsEach Tryz.prog fn.params.toList ds).all (· <=reachBytes)=true->8<=W.heap.size->Calls Tryz.prog F args W (Gives W (.bool true)))
 (os:Os) (started:os.Started) (H:Type) (enc:TypeId×Value->H)
 (witness: ∃(w:World)(tape:Tape)(i:Input),w.os=os/\(w.forCall tape i).Shaped Tryz.prog/\i.vars=[]/\Input.okWide Tryz.prog (w.forCall tape i) .any w.heap.size F i/\
   (OpenSpec.ofChange s).preRow enc Tryz.prog fn [] false laid (w.forCall tape i).memory i.args/\({}:Assume).holds Tryz.prog (lone (Frame.enter Tryz.prog F i.args .normal) [] (w.forCall tape i))):
 ReturnsInHanded {} Tryz.checked os F .any ((OpenSpec.ofChange s).preRow enc Tryz.prog fn [] false laid) (s.post enc Tryz.prog fn false true false false):=by
 refine returnsInHanded_of_row (C:=Tryz.checked) (s:=OpenSpec.ofChange s) (F:=fun _ _ _=>0) own started hi hf witness ?_
 intro W base args ds gs before hval hW hcnd _ hsz _ hsh _
 have hW':=hW
 obtain⟨p,q,hA,hV,rfl,hfz,hnd⟩:=hW
 have hv':(OpenSpec.ofChange s).vars=[]:=hv
 rw[hv']at hV
 obtain⟨rfl,rfl⟩:=trodVars_none hV
 have hA':DataW.TrodAll enc Tryz.prog W 0 (fun _=>true) true fn.params.toList args.toList ds p:=hA
 have hsz':(DataW.weightsEach Tryz.prog fn.params.toList ds).all (· <=reachBytes)=true:=by
  have h1:(DataW.weightsEach Tryz.prog (fn.params.toList++s.plain.varTypes Tryz.prog) (ds++[])).all (· <=reachBytes)=true:=hsz
  rw[hvt,List.append_nil,List.append_nil]at h1
  exact h1
 refine(walk H enc W base args ds p hA' hval hsz' (adq W hsh)).mono fun e W' ⟨he,k⟩=>?_
 subst he
 have bel:=k.below
 obtain⟨ps',afZ⟩:=aaE bel fn.params.toList hp hA'
 have hlen:ds.length=fn.params.toList.length:=(trodAll_length hA').2
 have hfn:=hs H (ds++[]) (by rw[List.append_nil];exact hlen)
 refine⟨_,rfl,ds,[],_,[],ps',[],hW',?_,?_,?_,bel.frame _,fun h=>by cases h⟩
 ·rw[hr];show DataW.TrodAll _ _ _ _ _ _ _ _ (s.fn H (ds++[])).results _;rw[hfn];exact trodAll_mk1 (shut_bool Tryz.underlying4 _)
 ·show DataW.TrodAll _ _ _ _ _ _ _ _ (s.fn H (ds++[])).args _;rw[hfn,List.append_nil];exact afZ
 ·have e1:((OpenSpec.ofChange s).at fun _ _ _=>0).vars=[]:=hv
  have e2:(((OpenSpec.ofChange s).at fun _ _ _=>0).fn H (ds++[]))={results:=[.lit (.bool true)],args:=ds++[]}:=hfn
  rw[e2,e1];rfl
end
end Go.Proofs.YtakhobfamnjnoaaGreatDoor
