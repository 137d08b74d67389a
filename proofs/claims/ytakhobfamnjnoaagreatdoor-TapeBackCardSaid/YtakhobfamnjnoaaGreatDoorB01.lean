/- Plain laws on the world: what is kept; what a slice reads as; maps keyed by int64, at the operations. -/
import Derived.WalkSpells
import Derived.WalkLawsBesides
import Derived.Maps.RangeWalk
import Derived.Lib.Hide
set_option linter.unusedVariables false
set_option linter.unusedSimpArgs false
namespace Go.Proofs.YtakhobfamnjnoaaGreatDoor
open Go Go.RowKit
structure Kept (S:Nat->Prop)(w w':World):Prop where
 os:w'.os=w.os
 tape:w'.tape=w.tape
 output:w'.output=w.output
 size:w.heap.size<=w'.heap.size
 block: ∀k,k<w.heap.size-> ¬S k->w'.heap[k]?=w.heap[k]?
def none':Nat->Prop:=fun _=>False
def one (m:Nat):Nat->Prop:=fun k=>k=m
section
variable {S S':Nat->Prop} {w w' w'':World}
theorem Kept.refl (S:Nat->Prop)(w:World):Kept S w w:=⟨rfl,rfl,rfl,Nat.le_refl _,fun _ _ _=>rfl⟩
theorem Kept.trans (h:Kept S w w')(k:Kept S w' w''):Kept S w w'':=
 ⟨k.os.trans h.os,k.tape.trans h.tape,k.output.trans h.output,Nat.le_trans h.size k.size,fun i hi hn=>(k.block i (Nat.lt_of_lt_of_le hi h.size) hn).trans (h.block i hi hn)⟩
theorem Kept.mono (h:Kept S w w')(hS: ∀k,k<w.heap.size->S k->S' k):Kept S' w w':=
 ⟨h.os,h.tape,h.output,h.size,fun k hk hn=>h.block k hk (fun hs=>hn (hS k hk hs))⟩
theorem Kept.drew (h:Kept S w w'):Kept S w w'.drew:=⟨h.os,h.tape,h.output,h.size,h.block⟩
theorem Kept.rY (h:Kept S w.drew w'):Kept S w w':=⟨h.os,h.tape,h.output,h.size,h.block⟩
theorem Kept.of_below (h:Below w.heap.size w w'):Kept S w w':=⟨h.os,h.tape,h.output,h.size,fun k hk _=>h.block k hk⟩
theorem Kept.below (h:Kept none' w w'):Below w.heap.size w w':=⟨h.os,h.tape,h.output,h.size,fun k hk=>h.block k hk (fun h=>h)⟩
theorem Kept.pure (h:Kept none' w w'):Kept S w w':=h.mono (fun _ _ h=>h.elim)
theorem Kept.alloc (h:Kept S w w')(o:Obj):Kept S w (w'.alloc o):=
 h.trans ⟨rfl,rfl,rfl,by simp,fun k hk _=>Below.heap_alloc _ _ _ hk⟩
theorem Kept.setCell (h:Kept S w w'){p:Addr}(hp:S p.block\/w.heap.size<=p.block)(u:Value):Kept S w (w'.setCell p u):=
 ⟨h.os,h.tape,h.output,by simpa using h.size,fun k hk hn=>by
   rw[Below.heap_setCell _ _ _ _ (fun e=>?_)]
   ·exact h.block k hk hn
   ·subst e
    rcases hp with hp|hp
    ·exact hn hp
    ·omega⟩
theorem Kept.new (h:Kept S w w')(k:Kept S' w' w'')(hS: ∀i,i<w.heap.size->S' i->S i):Kept S w w'':=
 ⟨k.os.trans h.os,k.tape.trans h.tape,k.output.trans h.output,Nat.le_trans h.size k.size,
  fun i hi hn=>(k.block i (Nat.lt_of_lt_of_le hi h.size) (fun hs=>hn (hS i hi hs))).trans (h.block i hi hn)⟩
theorem Kept.grown {row:Option Nat}(hg:w.grownBy w' row)(hr: ∀k,row=some k->k<w.heap.size->S k):Kept S w w':=
 ⟨hg.os,hg.tape,hg.output,hg.size,fun k hk hn=>hg.block k hk (fun e=>hn (hr k e.symm hk))⟩
theorem Kept.cell (h:Kept S w w'){p:Addr}(hp: ¬S p.block){v:Value}(hv:w.cell? p=some v):w'.cell? p=some v:=
 (World.cell?_of_block (w:=w) (h.block p.block (block_lt_of_cell hv) hp)).trans hv
theorem Kept.heap (h:Kept S w w'){k:Nat}{o:Obj}(hk:w.heap[k]?=some o)(hn: ¬S k):w'.heap[k]?=some o:=
 (h.block k (Array.getElem?_eq_some_iff.1 hk).1 hn).trans hk
theorem Kept.owns (h:Kept S w w'){base e size n:Nat}{v:Value}{xs:List Value}(ho:w.ownsRow base e size v n xs)(hn: ∀k,v.ownBlock=some k-> ¬S k):w'.ownsRow base e size v n xs:=by
 refine⟨ho.1,?_⟩
 rcases ho.2 with hn'|⟨g,cap,cur,rfl,hb,hgg,rest⟩
 ·exact .inl hn'
 ·exact .inr ⟨g,cap,cur,rfl,hb,h.heap hgg (hn g (by simp[Value.ownBlock])),rest⟩
end
def Reads (w:World)(k:Nat)(v:Value)(cs:List Value):Prop:=
 ∃a n cap,v= .slice a n cap/\n<=cap/\cap<=maxLen/\cs.length=n*k/\
  (cs=[]\/ ∃b off,a=some ⟨b,off,none⟩/\ ∀i x,cs[i]?=some x->w.cell? ⟨b,off+i,none⟩=some x)
def Value.blk:Value->Option Nat
 | .slice (some a) n _=>if n=0 then none else some a.block
 |_=>none
theorem Reads.kept {S:Nat->Prop}{w w':World}{k:Nat}{v:Value}{cs:List Value}(h:Reads w k v cs)(hk:Kept S w w')(hn: ∀b,Value.blk v=some b-> ¬S b):Reads w' k v cs:=by
 obtain⟨a,n,cap,rfl,h1,h2,h3,h4⟩:=h
 refine⟨a,n,cap,rfl,h1,h2,h3,?_⟩
 rcases h4 with h4|⟨b,off,rfl,h4⟩
 ·exact .inl h4
 ·by_cases h0:cs=[]
  ·exact .inl h0
  ·right
   refine⟨b,off,rfl,fun i x hx=>hk.cell (hn b ?_) (h4 i x hx)⟩
   have:n≠0:=by
    intro h;subst h;simp at h3;exact h0 h3
   simp[Value.blk,this]
theorem Reads.pure {w w':World}{k:Nat}{v:Value}{cs:List Value}(h:Reads w k v cs)(hk:Kept none' w w'):Reads w' k v cs:=h.kept hk (fun _ _ h=>h)
theorem Reads.aae {w:World}{base e size n:Nat}{v:Value}{xs:List Value}(h:w.ownsRow base e size v n xs):Reads w size v xs:=by
 obtain⟨h1,h2⟩:=h
 rcases h2 with⟨rfl,rfl⟩|⟨g,cap,cur,rfl,hb,hg,hn,hc,hs,ht⟩
 ·exact⟨none,0,0,rfl,Nat.le_refl _,Nat.zero_le _,h1, .inl (List.eq_nil_of_length_eq_zero (by simpa using h1))⟩
 ·refine⟨_,n,cap,rfl,hn,hc,h1, .inr ⟨g,0,rfl,fun i x hx=>?_⟩⟩
  rw[cell_of_row w g (0+i) cur e (0,0) hg]
  rw[<-ht,List.getElem?_take]at hx
  split at hx
  ·simpa using hx
  ·cases hx
theorem Reads.nil (w:World)(k:Nat):Reads w k (.slice none 0 0) []:=⟨none,0,0,rfl,Nat.le_refl _,Nat.zero_le _,by simp, .inl rfl⟩
theorem Reads.lit (w:World)(cs:List Value)(E k n:Nat)(h:cs.length=n*k)(hn:n<=maxLen):Reads (w.alloc (.cells cs.toArray E)) k (.slice (some ⟨w.heap.size,0,none⟩) n n) cs:=
 ⟨_,n,n,rfl,Nat.le_refl _,hn,h, .inr ⟨_,0,rfl,fun i x hx=>by rw[World.cell?_alloc_new];simpa using hx⟩⟩
abbrev T3:=Int×Value×Nat
def ent (t:T3):MapEntry:={key:= .int .i64 t.1,val:=t.2.1,born:=t.2.2}
structure Ov (w:World)(m:Nat)(L:List T3)(clock:Nat):Prop where
 heap:w.heap[m]?=some (.map (L.map ent).toArray clock)
 keys:(L.map (·.1)).Nodup
 born:(L.map (·.2.2)).Nodup
 old: ∀t∈L,t.2.2<clock
def kv (t:T3):Int×Value:=(t.1,t.2.1)
def iY (w:World)(m:Nat)(l:List (Int×Value)):Prop:= ∃L clock,Ov w m L clock/\L.map kv=l
def wB (key:Int):List T3->Nat->Option (Nat×Value)
 |[],_=>none
 |t::r,i=>if key==t.1 then some (i,t.2.1)else wB key r (i+1)
def look (l:List (Int×Value))(key:Int):Option Value:=(l.find? fun p=>key==p.1).map (·.2)
def upd (key:Int)(v:Value):List (Int×Value)->List (Int×Value)
 |[]=>[(key,v)]
 |p::r=>if key==p.1 then(key,v)::r else p::upd key v r
def del (key:Int)(l:List (Int×Value)):List (Int×Value):=l.filter fun p=>key !=p.1
theorem F5 (q:IntKind)(key:Int): ∀(L:List T3)(i:Nat),Instr.findNow (.int q) (.int .i64 key) (L.map ent) i=some (wB key L i)
 |[],_=>rfl
 |t::r,i=>by
  simp only[List.map_cons,Instr.findNow,ent,Instr.sameNow,wB,if_true]
  cases h:key==t.1
  ·exact F5 q key r (i+1)
  ·rfl
theorem DV (key:Int): ∀(L:List T3)(i:Nat),(wB key L i).map (·.2)=look (L.map kv) key
 |[],_=>rfl
 |t::r,i=>by
  simp only[wB,List.map_cons,look,List.find?_cons,kv]
  cases h:key==t.1
  ·have:=DV key r (i+1);simpa[look,kv]using this
  ·rfl
section
variable {P:Program} {w:World} {m:Nat} {l:List (Int×Value)} {T K E:TypeId} {q:IntKind}
theorem run_findKey (hK:P.underlying K=some (.int q))(key:Int)(L:List T3):(Instr.findKey K (.int .i64 key) (L.map ent)).run P w= .ok (wB key L 0) w:=by
 simp[Instr.findKey,run_underlying hK,F5]
theorem JO (hK:P.underlying K=some (.int q))(key:Int)(b:Bool)(n:Nat):(Instr.checkKey b (n+1) K (.int .i64 key)).run P w= .ok () w:=by
 unfold Instr.checkKey
 simp[run_underlying hK]
theorem run_checkKey (hK:P.underlying K=some (.int q))(key:Int)(b:Bool):(Instr.checkKey b 10000 K (.int .i64 key)).run P w= .ok () w:=JO hK key b 9999
theorem gW {L:List T3}{clock:Nat}(h:w.heap[m]?=some (.map (L.map ent).toArray clock)):(getObj m).run P w= .ok (.map (L.map ent).toArray clock) w:=by
 simp[getObj,Sem.run,h]
theorem iY.lookup (h:iY w m l)(hT:P.underlying T=some (.map K E))(hK:P.underlying K=some (.int q))(key:Int){z:Value}(hz:(zeroValue E).run P w= .ok z w):
 (Instr.lookup T (.map (some m)) (.int .i64 key) true).run P w= .ok (.tuple #[(look l key).getD z, .bool (look l key).isSome]) w:=by
 obtain⟨L,clock,h,rfl⟩:=h
 have h1:=DV key L 0
 simp[Instr.lookup,run_underlying hT,gW h.heap,run_checkKey hK,run_findKey hK]
 cases hf:wB key L 0 with
 |none=>rw[hf]at h1;simp[hz,<-h1]
 |some x=>rw[hf]at h1;simp[<-h1]
theorem iY.len (h:iY w m l)(hT:P.underlying T=some (.map K E))(ty:TypeId):(Builtin.len_ #[T] ty #[.map (some m)]).run P w= .ok (.int .i64 l.length) w:=by
 obtain⟨L,clock,h,rfl⟩:=h
 simp[Builtin.len_,run_underlying hT,gW h.heap,goInt]
end
def Ri (key:Int)(v:Value):List T3->List T3
 |[]=>[]
 |t::r=>if key==t.1 then(key,v,t.2.2)::r else t::Ri key v r
theorem DU {key:Int}: ∀{L:List T3}{i:Nat},wB key L i=none-> ∀t∈L,t.1≠key
 |[],_,_,_,ht=>by cases ht
 |t::r,i,h,u,hu=>by
  simp only[wB]at h
  split at h
  ·cases h
  ·rename_i hne
   rcases List.mem_cons.1 hu with rfl|hu
   ·intro e;apply hne;simp[e]
   ·exact DU h u hu
theorem ND {key:Int}{v:Value}: ∀{L:List T3}{i j:Nat}{x:Value},wB key L i=some (j,x)->
 i<=j/\(L.map ent).modify (j-i) (fun e=>{e with key:= .int .i64 key,val:=v})=(Ri key v L).map ent/\((L.map ent)[j-i]?).map (·.key)=some (.int .i64 key)/\
 (L.map ent).eraseIdx (j-i)=(L.eraseP (fun t=>key==t.1)).map ent
 |[],_,_,_,h=>by cases h
 |t::r,i,j,x,h=>by
  simp only[wB]at h
  split at h
  ·rename_i he
   have he':key=t.1:=by simpa using he
   simp at h
   obtain⟨rfl,rfl⟩:=h
   refine⟨Nat.le_refl _,?_,?_,?_⟩
   ·simp[Ri,he',ent]
   ·simp[ent,he']
   ·simp[he']
  ·rename_i hne
   obtain⟨h1,h2,h3,h4⟩:=ND (v:=v) h
   have e1:j-i=(j-(i+1))+1:=by omega
   refine⟨by omega,?_,?_,?_⟩
   ·rw[e1];simp[Ri,hne,h2]
   ·rw[e1];simpa using h3
   ·rw[e1];simp[hne,h4]
theorem Pm {key:Int}{v:Value}: ∀{l:List (Int×Value)},(∀p∈l,p.1≠key)->upd key v l=l++[(key,v)]
 |[],_=>rfl
 |p::r,h=>by
  have h1:(key==p.1)=false:=by simp;exact fun e=>h p (by simp) e.symm
  simp[upd,h1,Pm (l:=r) (fun q hq=>h q (by simp[hq]))]
def World.iy (w:World)(m:Nat)(es:Array MapEntry)(clock:Nat):World:={w with heap:=w.heap.setIfInBounds m (.map es clock)}
theorem nY {w:World}{m:Nat}{o:Obj}(h:w.heap[m]?=some o)(es:Array MapEntry)(clock:Nat):(World.iy w m es clock).heap[m]?=some (.map es clock):=by
 have:=(Array.getElem?_eq_some_iff.1 h).1
 simp[World.iy,this]
theorem nX (w:World)(m:Nat)(es:Array MapEntry)(clock:Nat):Kept (one m) w (World.iy w m es clock):=
 ⟨rfl,rfl,rfl,by simp[World.iy],fun k _ hn=>by
   have:m≠k:=fun e=>hn e.symm
   simp[World.iy,Array.getElem?_setIfInBounds_ne this]⟩
theorem pI {P:Program}{w:World}{m:Nat}{es es':Array MapEntry}{clock clock':Nat}(h:w.heap[m]?=some (.map es clock)):
 (setObj m (.map es' clock')).run P w= .ok () (World.iy w m es' clock'):=by
 simp[setObj,Sem.run,h,World.iy]
section
variable {P:Program} {w:World} {m:Nat} {l:List (Int×Value)} {T K E:TypeId} {q:IntKind}
theorem Ar {key:Int}: ∀{L:List T3},(L.map (·.1)).Nodup->(L.eraseP (fun t=>key==t.1)).map kv=del key (L.map kv)
 |[],_=>rfl
 |t::r,h=>by
  simp only[List.map_cons,List.nodup_cons]at h
  by_cases he:key=t.1
  ·have: ∀p∈r.map kv,(key !=p.1)=true:=by
    intro p hp
    obtain⟨u,hu,rfl⟩:=List.mem_map.1 hp
    simp[kv]
    intro e
    exact h.1 (List.mem_map.2 ⟨u,hu,by rw[<-e,he]⟩)
   simp only[List.map_cons,List.eraseP_cons,he,beq_self_eq_true,cond_true,del,List.filter_cons,kv,bne_self_eq_false,Bool.false_eq_true,if_false]
   exact(List.filter_eq_self.2 (fun p hp=>by rw[<-he];exact this p hp)).symm
  ·have:=Ar (key:=key) h.2
   simp[he,del,kv]at this⊢
   exact this
theorem Ov.delete {L:List T3}{clock:Nat}(h:Ov w m L clock)(hT:P.underlying T=some (.map K E))(hK:P.underlying K=some (.int q))(key:Int):
 ∃w',(∀(ty k:TypeId),(Builtin.delete_ #[T,k] ty #[.map (some m), .int .i64 key]).run P w= .ok (.tuple #[]) w')/\Ov w' m (L.eraseP (fun t=>key==t.1)) clock/\Kept (one m) w w'/\w'.heap.size=w.heap.size:=by
 cases hf:wB key L 0 with
 |none=>
  have hno:=DU hf
  have he:L.eraseP (fun t=>key==t.1)=L:=List.eraseP_of_forall_not (fun t ht=>by simp;exact fun e=>hno t ht e.symm)
  refine⟨World.iy w m ((L.map ent).toArray) clock,fun ty k=>?_,⟨by rw[he];exact nY h.heap _ _,by rw[he];exact h.keys,by rw[he];exact h.born,by rw[he];exact h.old⟩,nX _ _ _ _,by simp[World.iy]⟩
  simp[Builtin.delete_,run_underlying hT,gW h.heap,run_checkKey hK,run_findKey hK,hf,pI h.heap]
 |some x=>
  obtain⟨j,y⟩:=x
  obtain⟨_,_,h3,h4⟩:=ND (v:= .nilFunc) hf
  simp only[Nat.sub_zero]at h3 h4
  refine⟨World.iy w m (((L.eraseP (fun t=>key==t.1)).map ent).toArray) clock,fun ty k=>?_,⟨nY h.heap _ _,?_,?_,?_⟩,nX _ _ _ _,by simp[World.iy]⟩
  ·have hj:j<(L.map ent).length:=by
    cases hg:(L.map ent)[j]? with
    |none=>rw[hg]at h3;cases h3
    |some _=>exact(List.getElem?_eq_some_iff.1 hg).1
   simp[Builtin.delete_,run_underlying hT,gW h.heap,run_checkKey hK,run_findKey hK,hf,pI h.heap,h4]
  ·exact h.keys.sublist ((List.eraseP_sublist ..).map _)
  ·exact h.born.sublist ((List.eraseP_sublist ..).map _)
  ·exact fun t ht=>h.old t (List.mem_of_mem_eraseP ht)
theorem iY.delete (h:iY w m l)(hT:P.underlying T=some (.map K E))(hK:P.underlying K=some (.int q))(key:Int):
 ∃w',(∀(ty k:TypeId),(Builtin.delete_ #[T,k] ty #[.map (some m), .int .i64 key]).run P w= .ok (.tuple #[]) w')/\iY w' m (del key l)/\Kept (one m) w w'/\w'.heap.size=w.heap.size:=by
 obtain⟨L,clock,h,rfl⟩:=h
 obtain⟨w',h1,h2,h3,h4⟩:=h.delete (P:=P) hT hK key
 exact⟨w',h1,⟨_,_,h2,Ar h.keys⟩,h3,h4⟩
theorem iY.kept {S:Nat->Prop}{w':World}(h:iY w m l)(hk:Kept S w w')(hn: ¬S m):iY w' m l:=by
 obtain⟨L,clock,h,rfl⟩:=h
 exact⟨L,clock,⟨hk.heap h.heap hn,h.keys,h.born,h.old⟩,rfl⟩
theorem iY.lt (h:iY w m l):m<w.heap.size:=by
 obtain⟨L,clock,h,rfl⟩:=h
 exact(Array.getElem?_eq_some_iff.1 h.heap).1
theorem iY.nodup (h:iY w m l):(l.map (·.1)).Nodup:=by
 obtain⟨L,clock,h,rfl⟩:=h
 have:=h.keys
 simpa[kv,Function.comp_def]using this
end
def jE (w:World)(r m:Nat)(l left:List (Int×Value)):Prop:=
 ∃L clock seen,Ov w m L clock/\L.map kv=l/\w.heap[r]?=some (.mapIter (some m) clock seen clock)/\(L.filter (fun t=>!seen.contains t.2.2)).map kv=left
section
variable {P:Program} {w:World} {m r:Nat} {l left:List (Int×Value)} {T K E:TypeId} {q:IntKind}
theorem jE.map (h:jE w r m l left):iY w m l:=by
 obtain⟨L,clock,seen,h1,h2,_⟩:=h
 exact⟨L,clock,h1,h2⟩
theorem jE.kept {S:Nat->Prop}{w':World}(h:jE w r m l left)(hk:Kept S w w')(hm: ¬S m)(hr: ¬S r):jE w' r m l left:=by
 obtain⟨L,clock,seen,h1,h2,h3,h4⟩:=h
 exact⟨L,clock,seen,⟨hk.heap h1.heap hm,h1.keys,h1.born,h1.old⟩,h2,hk.heap h3 hr,h4⟩
theorem jE.lt (h:jE w r m l left):r<w.heap.size:=by
 obtain⟨L,clock,seen,h1,h2,h3,h4⟩:=h
 exact(Array.getElem?_eq_some_iff.1 h3).1
theorem jE.ne (h:jE w r m l left):r≠m:=by
 obtain⟨L,clock,seen,h1,h2,h3,h4⟩:=h
 intro e
 have:=h1.heap
 rw[<-e,h3]at this
 cases this
theorem jE.nodup (h:jE w r m l left):(left.map (·.1)).Nodup/\ ∀p∈left,p∈l:=by
 obtain⟨L,clock,seen,h1,rfl,h3,rfl⟩:=h
 refine⟨?_,?_⟩
 ·have:=h1.keys.sublist ((List.filter_sublist (p:=fun t:T3=>!seen.contains t.2.2) (l:=L)).map (·.1))
  simpa[kv,Function.comp_def]using this
 ·intro p hp
  obtain⟨t,ht,rfl⟩:=List.mem_map.1 hp
  exact List.mem_map.2 ⟨t,(List.mem_filter.1 ht).1,rfl⟩
theorem iY.range (h:iY w m l)(hT:P.underlying T=some (.map K E)):
 ∃w',(Instr.range T (.map (some m))).run P w= .ok (.pointer (some ⟨w.heap.size,0,none⟩)) w'/\jE w' w.heap.size m l l/\Kept none' w w'/\w'.heap.size=w.heap.size+1:=by
 obtain⟨L,clock,h,rfl⟩:=h
 refine⟨w.alloc (.mapIter (some m) clock #[] clock),?_,?_,(Kept.refl _ _).alloc _,by simp⟩
 ·simp[Instr.range,run_underlying hT,gW h.heap]
 ·refine⟨L,clock,#[],⟨?_,h.keys,h.born,h.old⟩,rfl,heap_alloc_new _ _,by rw[List.filter_eq_self.2 (fun _ _=>by simp)]⟩
  rw[Below.heap_alloc _ _ _ (Array.getElem?_eq_some_iff.1 h.heap).1]
  exact h.heap
theorem ru {w:World}{r k:Nat}(o:Obj)(h:r≠k):({w with heap:=w.heap.setIfInBounds r o}:World).heap[k]?=w.heap[k]?:=by
 simp[Array.getElem?_setIfInBounds_ne h]
theorem Du {L:List T3}(hb:(L.map (·.2.2)).Nodup){t:T3}(ht:t∈L):L.Perm (t::L.filter (fun u=>u.2.2 !=t.2.2)):=by
 induction L with
 |nil=>cases ht
 |cons u r ih=>
  simp only[List.map_cons,List.nodup_cons]at hb
  rcases List.mem_cons.1 ht with rfl|ht
  ·have:r.filter (fun v=>v.2.2 !=t.2.2)=r:=List.filter_eq_self.2 (fun v hv=>by
    simp
    intro e
    exact hb.1 (List.mem_map.2 ⟨v,hv,e⟩))
   simp[this]
  ·have hne:u.2.2≠t.2.2:=fun e=>hb.1 (List.mem_map.2 ⟨t,ht,e.symm⟩)
   have h2:(u.2.2 !=t.2.2)=true:=by simp[hne]
   rw[List.filter_cons,if_pos h2]
   exact((ih hb.2 ht).cons u).trans (List.Perm.swap ..)
theorem Cm {clock:Nat}{seen:Array Nat}(h:w.heap[r]?=some (.mapIter (some m) clock seen clock)):(getObj r).run P w= .ok (.mapIter (some m) clock seen clock) w:=by
 simp[getObj,Sem.run,h]
theorem jE.next (h:jE w r m l left)(ty:TypeId):
 (left=[]/\(Instr.next (.pointer (some ⟨r,0,none⟩)) false ty).run P w= .ok (.tuple #[.bool false]) w)\/
 ∃p left' w',left.Perm (p::left')/\(Instr.next (.pointer (some ⟨r,0,none⟩)) false ty).run P w= .ok (.tuple #[.bool true, .int .i64 p.1,p.2]) w'/\jE w' r m l left'/\Kept (one r) w w'/\w'.heap.size=w.heap.size/\
  (Instr.entry (.pointer (some ⟨r,0,none⟩))).run P w'= .ok (.tuple #[.int .i64 p.1,p.2]) w':=by
 have hrm:=h.ne
 obtain⟨L,clock,seen,h1,rfl,h3,rfl⟩:=h
 have hall:((!seen.isEmpty&&!(L.map ent).toArray.isEmpty&&(L.map ent).toArray.all (fun e=>decide (e.born>=clock))):Bool)=false:=by
  cases L with
  |nil=>simp
  |cons t rest=>
   have:=h1.old t (by simp)
   simp[ent]
   intro _ hge
   omega
 have hold:((L.map ent).toArray.filter (fun e=>!seen.contains e.born)).filter (fun e=>decide (e.born<clock))=((L.filter (fun t=>!seen.contains t.2.2)).map ent).toArray:=by
  rw[List.filter_toArray,List.filter_toArray]
  congr 1
  rw[List.filter_map,List.filter_map,List.filter_filter]
  congr 1
  apply List.filter_congr
  intro t ht
  have:=h1.old t ht
  show(decide (t.2.2<clock)&&!seen.contains t.2.2)=!seen.contains t.2.2
  rw[decide_eq_true this,Bool.true_and]
 have hnew:((L.map ent).toArray.filter (fun e=>!seen.contains e.born)).filter (fun e=>decide (e.born>=clock))= #[]:=by
  rw[List.filter_toArray,List.filter_toArray]
  congr 1
  rw[List.filter_eq_nil_iff]
  intro e he
  obtain⟨he1,_⟩:=List.mem_filter.1 he
  obtain⟨t,ht,rfl⟩:=List.mem_map.1 he1
  have:=h1.old t ht
  simp[ent]
  exact this
 have hrun: ∀cont:Nat->Sem Value,True:=fun _=>trivial
 cases hl:(L.filter (fun t=>!seen.contains t.2.2))with
 |nil=>
  left
  refine⟨rfl,?_⟩
  rw[hl]at hold
  simp only[Instr.next,Sem.run_bind,Cm h3,Result.andThen_ok,gW h1.heap,hall,hold,hnew]
  simp[Question.forced]
 |cons t0 rest=>
  right
  have hne:(((L.filter (fun t=>!seen.contains t.2.2)).map ent).toArray.isEmpty)=false:=by rw[hl];rfl
  obtain⟨n,hn,w1,hw1,Tv⟩: ∃n,n<(L.filter (fun t=>!seen.contains t.2.2)).length/\ ∃w1:World,w1.heap=w.heap/\w1.os=w.os/\w1.tape=w.tape/\w1.output=w.output/\
   (choose (.mapNext (L.filter (fun t=>!seen.contains t.2.2)).length)).run P w= .ok n w1:=by
   rw[hl]
   by_cases hf:(rest.length+1)<=1
   ·exact⟨0,by simp,w,rfl,rfl,rfl,rfl,by simp[Question.forced,hf]⟩
   ·refine⟨_,Nat.mod_lt (w.tape w.drawn (.mapNext (rest.length+1))) (by simp),w.drew,rfl,rfl,rfl,rfl,?_⟩
    simp[Question.forced,hf,Question.cut]
  obtain⟨hos,htape,hout,Tv⟩:=Tv
  have hget:((L.filter (fun t=>!seen.contains t.2.2)))[n]?=some ((L.filter (fun t=>!seen.contains t.2.2))[n]):=by simp
  generalize ht:(L.filter (fun t=>!seen.contains t.2.2))[n]=t at hget
  have htl:t∈L.filter (fun t=>!seen.contains t.2.2):=List.mem_of_getElem? hget
  have htL:t∈L:=(List.mem_filter.1 htl).1
  have hns:seen.contains t.2.2=false:=by have:=(List.mem_filter.1 htl).2;simpa using this
  have ab3:r<w1.heap.size:=by rw[hw1];exact(Array.getElem?_eq_some_iff.1 h3).1
  have h3':w1.heap[r]?=some (.mapIter (some m) clock seen clock):=by rw[hw1];exact h3
  refine⟨kv t,((L.filter (fun t=>!seen.contains t.2.2)).filter (fun u=>u.2.2 !=t.2.2)).map kv,{w1 with heap:=w1.heap.setIfInBounds r (.mapIter (some m) clock (seen.push t.2.2) clock)},?_,?_,?_,?_,?_,?_⟩
  ·have hb:=h1.born.sublist ((List.filter_sublist (p:=fun t:T3=>!seen.contains t.2.2) (l:=L)).map (·.2.2))
   rw[<-hl]
   exact(Du hb htl).map kv
  ·have hsz:(((L.filter (fun t=>!seen.contains t.2.2)).map ent).toArray.map some).size=(L.filter (fun t=>!seen.contains t.2.2)).length:=by simp
   have hat:(((L.filter (fun t=>!seen.contains t.2.2)).map ent).toArray.map some)[n]?=some (some (ent t)):=by
    simp only[List.map_toArray,List.getElem?_toArray,List.getElem?_map,hget,Option.map_some]
   simp only[Instr.next,Sem.run_bind,Cm h3,Result.andThen_ok,gW h1.heap,hall,hold,hnew,hne,Bool.false_eq_true,if_false,Array.append_empty,Array.empty_append,hsz,Tv,hat]
   simp[setObj,Sem.run,h3',ent,kv]
  ·refine⟨L,clock,seen.push t.2.2,⟨?_,h1.keys,h1.born,h1.old⟩,rfl,?_,?_⟩
   ·rw[ru _ hrm,hw1];exact h1.heap
   ·simp[ab3]
   ·congr 1
    rw[List.filter_filter]
    apply List.filter_congr
    intro u _
    simp[Bool.and_comm,bne]
    by_cases e:u.2.2=t.2.2<;>simp[e]
  ·refine⟨hos,htape,hout,by simp[hw1],fun k _ hk=>?_⟩
   rw[ru _ (fun e=>hk e.symm),hw1]
  ·simp[hw1]
  ·have g1:(getObj r).run P ({w1 with heap:=w1.heap.setIfInBounds r (.mapIter (some m) clock (seen.push t.2.2) clock)}:World)= .ok (.mapIter (some m) clock (seen.push t.2.2) clock) {w1 with heap:=w1.heap.setIfInBounds r (.mapIter (some m) clock (seen.push t.2.2) clock)}:=by
    simp[getObj,Sem.run,ab3]
   have g2:(getObj m).run P ({w1 with heap:=w1.heap.setIfInBounds r (.mapIter (some m) clock (seen.push t.2.2) clock)}:World)= .ok (.map (L.map ent).toArray clock) {w1 with heap:=w1.heap.setIfInBounds r (.mapIter (some m) clock (seen.push t.2.2) clock)}:=by
    have:({w1 with heap:=w1.heap.setIfInBounds r (.mapIter (some m) clock (seen.push t.2.2) clock)}:World).heap[m]?=some (.map (L.map ent).toArray clock):=by
     rw[ru _ hrm,hw1];exact h1.heap
    exact gW this
   have hfind:(L.map ent).toArray.find? (fun e=>e.born==t.2.2)=some (ent t):=by
    rw[List.find?_toArray,List.find?_map]
    have:L.find? ((fun e:MapEntry=>e.born==t.2.2)∘ent)=some t:=by
     have key: ∀(M:List T3),(M.map (·.2.2)).Nodup->t∈M->M.find? ((fun e:MapEntry=>e.born==t.2.2)∘ent)=some t:=by
      intro M
      induction M with
      |nil=>intro _ h;cases h
      |cons u M ih=>
       intro hnd hmem
       simp only[List.map_cons,List.nodup_cons]at hnd
       rw[List.find?_cons]
       rcases List.mem_cons.1 hmem with rfl|hmem
       ·simp[ent]
       ·have hne:u.2.2≠t.2.2:=fun e=>hnd.1 (List.mem_map.2 ⟨t,hmem,e.symm⟩)
        have:((fun e:MapEntry=>e.born==t.2.2)∘ent) u=false:=by simp[ent,hne]
        rw[this]
        exact ih hnd.2 hmem
     exact key L h1.born htL
    rw[this];rfl
   simp only[Instr.entry,Sem.run_bind,g1,g2,Result.andThen_ok,Array.back?_push,hfind]
   simp[ent,kv]
theorem uX {key:Int}: ∀{L:List T3},(L.map (·.1)).Nodup->L.eraseP (fun t=>key==t.1)=L.filter (fun t=>key !=t.1)
 |[],_=>rfl
 |t::r,h=>by
  simp only[List.map_cons,List.nodup_cons]at h
  by_cases he:key=t.1
  ·have:r.filter (fun t=>key !=t.1)=r:=List.filter_eq_self.2 (fun u hu=>by
    simp
    intro e
    exact h.1 (List.mem_map.2 ⟨u,hu,by rw[<-e,he]⟩))
   simp only[he]at this
   simp[he,this]
  ·have:=uX (key:=key) h.2
   simp[he,this]
theorem jE.delete (h:jE w r m l left)(hT:P.underlying T=some (.map K E))(hK:P.underlying K=some (.int q))(key:Int):
 ∃w',(∀(ty k:TypeId),(Builtin.delete_ #[T,k] ty #[.map (some m), .int .i64 key]).run P w= .ok (.tuple #[]) w')/\jE w' r m (del key l) (del key left)/\Kept (one m) w w'/\w'.heap.size=w.heap.size:=by
 have hrm:=h.ne
 obtain⟨L,clock,seen,h1,rfl,h3,rfl⟩:=h
 obtain⟨w',g1,g2,g3,g4⟩:=h1.delete (P:=P) hT hK key
 refine⟨w',g1,⟨_,clock,seen,g2,Ar h1.keys,g3.heap h3 hrm,?_⟩,g3,g4⟩
 rw[uX h1.keys,List.filter_filter,del,List.filter_map,List.filter_filter]
 congr 1
 apply List.filter_congr
 intro u _
 simp[kv,Bool.and_comm]
end
end Go.Proofs.YtakhobfamnjnoaaGreatDoor
