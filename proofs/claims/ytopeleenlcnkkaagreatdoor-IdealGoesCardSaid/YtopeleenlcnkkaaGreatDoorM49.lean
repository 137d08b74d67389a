/- MAPS KEYED BY STRINGS: as those keyed by numbers (Base), in a namespace of their own. -/
import Derived.Test.YtopeleenlcnkkaaGreatDoorM48
set_option linter.unusedVariables false
set_option linter.unusedSimpArgs false
namespace Go.Proofs.YtopeleenlcnkkaaGreatDoor
section
namespace MS
open Go Go.RowKit
instance ael:LawfulBEq ByteArray where
 eq_of_beq {a b} h:=by rw[vI]at h;simpa using h
 rfl {a}:=by rw[vI];simp
abbrev T3:=ByteArray×Value×Nat
def ent (t:T3):MapEntry:={key:= .string t.1,val:=t.2.1,born:=t.2.2}
structure vN (w:World)(m:Nat)(L:List T3)(clock:Nat):Prop where
 heap:w.heap[m]?=some (.map (L.map ent).toArray clock)
 keys:(L.map (·.1)).Nodup
 born:(L.map (·.2.2)).Nodup
 old: ∀t∈L,t.2.2<clock
def kv (t:T3):ByteArray×Value:=(t.1,t.2.1)
def aQ (w:World)(m:Nat)(l:List (ByteArray×Value)):Prop:= ∃L clock,vN w m L clock/\L.map kv=l
def iO (key:ByteArray):List T3->Nat->Option (Nat×Value)
 |[],_=>none
 |t::r,i=>if key==t.1 then some (i,t.2.1)else iO key r (i+1)
def look (l:List (ByteArray×Value))(key:ByteArray):Option Value:=(l.find? fun p=>key==p.1).map (·.2)
def upd (key:ByteArray)(v:Value):List (ByteArray×Value)->List (ByteArray×Value)
 |[]=>[(key,v)]
 |p::r=>if key==p.1 then(key,v)::r else p::upd key v r
def del (key:ByteArray)(l:List (ByteArray×Value)):List (ByteArray×Value):=l.filter fun p=>key !=p.1
theorem qO (key:ByteArray): ∀(L:List T3)(i:Nat),Instr.findNow .string (.string key) (L.map ent) i=some (iO key L i)
 |[],_=>rfl
 |t::r,i=>by
  simp only[List.map_cons,Instr.findNow,ent,Instr.sameNow,iO,if_true]
  cases h:key==t.1
  ·exact qO key r (i+1)
  ·rfl
theorem nM (key:ByteArray): ∀(L:List T3)(i:Nat),(iO key L i).map (·.2)=look (L.map kv) key
 |[],_=>rfl
 |t::r,i=>by
  simp only[iO,List.map_cons,look,List.find?_cons,kv]
  cases h:key==t.1
  ·have:=nM key r (i+1);simpa[look,kv]using this
  ·rfl
section
variable {P:Program} {w:World} {m:Nat} {l:List (ByteArray×Value)} {T K E:TypeId}
theorem run_findKey (hK:P.underlying K=some .string)(key:ByteArray)(L:List T3):(Instr.findKey K (.string key) (L.map ent)).run P w= .ok (iO key L 0) w:=by
 simp[Instr.findKey,run_underlying hK,qO]
theorem tX (hK:P.underlying K=some .string)(key:ByteArray)(b:Bool)(n:Nat):(Instr.checkKey b (n+1) K (.string key)).run P w= .ok () w:=by
 unfold Instr.checkKey
 simp[run_underlying hK]
theorem run_checkKey (hK:P.underlying K=some .string)(key:ByteArray)(b:Bool):(Instr.checkKey b 10000 K (.string key)).run P w= .ok () w:=tX hK key b 9999
theorem aU {L:List T3}{clock:Nat}(h:w.heap[m]?=some (.map (L.map ent).toArray clock)):(getObj m).run P w= .ok (.map (L.map ent).toArray clock) w:=by
 simp[getObj,Sem.run,h]
theorem aQ.lookup (h:aQ w m l)(hT:P.underlying T=some (.map K E))(hK:P.underlying K=some .string)(key:ByteArray){z:Value}(hz:(zeroValue E).run P w= .ok z w):
 (Instr.lookup T (.map (some m)) (.string key) true).run P w= .ok (.tuple #[(look l key).getD z, .bool (look l key).isSome]) w:=by
 obtain⟨L,clock,h,rfl⟩:=h
 have h1:=nM key L 0
 simp[Instr.lookup,run_underlying hT,aU h.heap,run_checkKey hK,run_findKey hK]
 cases hf:iO key L 0 with
 |none=>rw[hf]at h1;simp[hz,<-h1]
 |some x=>rw[hf]at h1;simp[<-h1]
theorem aQ.xG (h:aQ w m l)(hT:P.underlying T=some (.map K E))(hK:P.underlying K=some .string)(key:ByteArray){z:Value}(hz:(zeroValue E).run P w= .ok z w):
 (Instr.lookup T (.map (some m)) (.string key) false).run P w= .ok ((look l key).getD z) w:=by
 obtain⟨L,clock,h,rfl⟩:=h
 have h1:=nM key L 0
 simp[Instr.lookup,run_underlying hT,aU h.heap,run_checkKey hK,run_findKey hK]
 cases hf:iO key L 0 with
 |none=>rw[hf]at h1;simp[hz,<-h1]
 |some x=>rw[hf]at h1;simp[<-h1]
theorem aQ.len (h:aQ w m l)(hT:P.underlying T=some (.map K E))(ty:TypeId):(Builtin.len_ #[T] ty #[.map (some m)]).run P w= .ok (.int .i64 l.length) w:=by
 obtain⟨L,clock,h,rfl⟩:=h
 simp[Builtin.len_,run_underlying hT,aU h.heap,goInt]
end
def fQ (key:ByteArray)(v:Value):List T3->List T3
 |[]=>[]
 |t::r=>if key==t.1 then(key,v,t.2.2)::r else t::fQ key v r
theorem nK {key:ByteArray}: ∀{L:List T3}{i:Nat},iO key L i=none-> ∀t∈L,t.1≠key
 |[],_,_,_,ht=>by cases ht
 |t::r,i,h,u,hu=>by
  simp only[iO]at h
  split at h
  ·cases h
  ·rename_i hne
   rcases List.mem_cons.1 hu with rfl|hu
   ·intro e;apply hne;simp[e]
   ·exact nK h u hu
theorem pF {key:ByteArray}{v:Value}: ∀{L:List T3}{i j:Nat}{x:Value},iO key L i=some (j,x)->
 i<=j/\(L.map ent).modify (j-i) (fun e=>{e with key:= .string key,val:=v})=(fQ key v L).map ent/\((L.map ent)[j-i]?).map (·.key)=some (.string key)/\
 (L.map ent).eraseIdx (j-i)=(L.eraseP (fun t=>key==t.1)).map ent
 |[],_,_,_,h=>by cases h
 |t::r,i,j,x,h=>by
  simp only[iO]at h
  split at h
  ·rename_i he
   have he':key=t.1:=by simpa using he
   simp at h
   obtain⟨rfl,rfl⟩:=h
   refine⟨Nat.le_refl _,?_,?_,?_⟩
   ·simp[fQ,he',ent]
   ·simp[ent,he']
   ·simp[he']
  ·rename_i hne
   obtain⟨h1,h2,h3,h4⟩:=pF (v:=v) h
   have e1:j-i=(j-(i+1))+1:=by omega
   refine⟨by omega,?_,?_,?_⟩
   ·rw[e1];simp[fQ,hne,h2]
   ·rw[e1];simpa using h3
   ·rw[e1];simp[hne,h4]
theorem xI {key:ByteArray}{v:Value}: ∀{L:List T3}{i:Nat},(iO key L i).isSome=true->(fQ key v L).map kv=upd key v (L.map kv)
 |[],_,h=>by cases h
 |t::r,i,h=>by
  simp only[iO]at h
  simp only[fQ,List.map_cons,upd,kv]
  split
  ·rfl
  ·rename_i hne
   rw[if_neg hne]at h
   have:=xI (v:=v) h
   simp[kv]at this⊢
   exact this
theorem qX {key:ByteArray}{v:Value}: ∀{l:List (ByteArray×Value)},(∀p∈l,p.1≠key)->upd key v l=l++[(key,v)]
 |[],_=>rfl
 |p::r,h=>by
  have h1:(key==p.1)=false:=by simp;exact fun e=>h p (by simp) e.symm
  simp[upd,h1,qX (l:=r) (fun q hq=>h q (by simp[hq]))]
theorem sW {key:ByteArray}{v:Value}: ∀(L:List T3),(fQ key v L).map (·.1)=L.map (·.1)
 |[]=>rfl
 |t::r=>by
  simp only[fQ]
  split
  ·rename_i h;simp at h;simp[h]
  ·simp[sW r]
theorem nP {key:ByteArray}{v:Value}: ∀(L:List T3),(fQ key v L).map (·.2.2)=L.map (·.2.2)
 |[]=>rfl
 |t::r=>by
  simp only[fQ]
  split
  ·simp
  ·simp[nP r]
theorem BL {key:ByteArray}{v:Value}{t:T3}{L:List T3}(h:t∈fQ key v L): ∃u∈L,u.2.2=t.2.2:=by
 have:t.2.2∈(fQ key v L).map (·.2.2):=List.mem_map.2 ⟨t,h,rfl⟩
 rw[nP]at this
 obtain⟨u,hu,he⟩:=List.mem_map.1 this
 exact⟨u,hu,he⟩
section
variable {P:Program} {w:World} {m:Nat} {l:List (ByteArray×Value)} {T K E:TypeId}
theorem aQ.update (h:aQ w m l)(hT:P.underlying T=some (.map K E))(hK:P.underlying K=some .string)(key:ByteArray)(v:Value):
 ∃w',(Instr.mapUpdate T (.map (some m)) (.string key) v).run P w= .ok () w'/\aQ w' m (upd key v l)/\Kept (one m) w w'/\w'.heap.size=w.heap.size:=by
 obtain⟨L,clock,h,rfl⟩:=h
 cases hf:iO key L 0 with
 |none=>
  have hno:=nK hf
  refine⟨World.cZ w m (((L++[(key,v,clock)]).map ent).toArray) (clock+1),?_,⟨L++[(key,v,clock)],clock+1,⟨fB h.heap _ _,?_,?_,?_⟩,?_⟩,fA _ _ _ _,by simp[World.cZ]⟩
  ·simp[Instr.mapUpdate,run_underlying hT,aU h.heap,run_checkKey hK,run_findKey hK,hf,fV h.heap,ent]
  ·rw[List.map_append,List.nodup_append]
   refine⟨h.keys,by simp,?_⟩
   intro a ha b hb
   obtain⟨t,ht,rfl⟩:=List.mem_map.1 ha
   simp at hb
   subst hb
   exact hno t ht
  ·rw[List.map_append,List.nodup_append]
   refine⟨h.born,by simp,?_⟩
   intro a ha b hb
   obtain⟨t,ht,rfl⟩:=List.mem_map.1 ha
   simp at hb
   subst hb
   exact Nat.ne_of_lt (h.old t ht)
  ·intro t ht
   rcases List.mem_append.1 ht with ht|ht
   ·exact Nat.lt_succ_of_lt (h.old t ht)
   ·simp at ht;subst ht;exact Nat.lt_succ_self _
  ·rw[List.map_append,qX]
   ·rfl
   ·intro p hp
    obtain⟨t,ht,rfl⟩:=List.mem_map.1 hp
    exact hno t ht
 |some x=>
  obtain⟨j,y⟩:=x
  obtain⟨_,h2,h3,_⟩:=pF (v:=v) hf
  simp only[Nat.sub_zero]at h2 h3
  refine⟨World.cZ w m (((fQ key v L).map ent).toArray) clock,?_,⟨fQ key v L,clock,⟨fB h.heap _ _,?_,?_,?_⟩,xI (i:=0) (by rw[hf];rfl)⟩,fA _ _ _ _,by simp[World.cZ]⟩
  ·have hk:((L.map ent)[j]?.map fun x=>x.key).getD (.string key)= .string key:=by rw[h3];rfl
   have hsame:(Instr.keyThatStays (.string key) (.string key)).run P w= .ok (.string key) w:=by
    simp[Instr.keyThatStays,Instr.sameBits]
   simp only[Instr.mapUpdate,Sem.run_bind,run_underlying hT,Result.andThen_ok,aU h.heap,run_checkKey hK,run_findKey hK,hf,List.getElem?_toArray,hk,hsame]
   rw[List.modify_toArray,h2,fV h.heap]
  ·rw[sW];exact h.keys
  ·rw[nP];exact h.born
  ·intro t ht
   obtain⟨u,hu,he⟩:=BL ht
   rw[<-he];exact h.old u hu
theorem nI {key:ByteArray}: ∀{L:List T3},(L.map (·.1)).Nodup->(L.eraseP (fun t=>key==t.1)).map kv=del key (L.map kv)
 |[],_=>rfl
 |t::r,h=>by
  simp only[List.map_cons,List.nodup_cons]at h
  by_cases he:key=t.1
  ·have: ∀p∈r.map kv,(key !=p.1)=true:=by
    intro p hp
    obtain⟨u,hu,rfl⟩:=List.mem_map.1 hp
    simp[kv]
    intro e
    exact h.1 (List.mem_map.2 ⟨u,hu,by rw[<-e,he]⟩)
   simp only[List.map_cons,List.eraseP_cons,he,beq_self_eq_true,cond_true,del,List.filter_cons,kv,bne_self_eq_false,Bool.false_eq_true,if_false]
   exact(List.filter_eq_self.2 (fun p hp=>by rw[<-he];exact this p hp)).symm
  ·have:=nI (key:=key) h.2
   simp[he,del,kv]at this⊢
   exact this
theorem vN.delete {L:List T3}{clock:Nat}(h:vN w m L clock)(hT:P.underlying T=some (.map K E))(hK:P.underlying K=some .string)(key:ByteArray):
 ∃w',(∀(ty k:TypeId),(Builtin.delete_ #[T,k] ty #[.map (some m), .string key]).run P w= .ok (.tuple #[]) w')/\vN w' m (L.eraseP (fun t=>key==t.1)) clock/\Kept (one m) w w'/\w'.heap.size=w.heap.size:=by
 cases hf:iO key L 0 with
 |none=>
  have hno:=nK hf
  have he:L.eraseP (fun t=>key==t.1)=L:=List.eraseP_of_forall_not (fun t ht=>by simp;exact fun e=>hno t ht e.symm)
  refine⟨World.cZ w m ((L.map ent).toArray) clock,fun ty k=>?_,⟨by rw[he];exact fB h.heap _ _,by rw[he];exact h.keys,by rw[he];exact h.born,by rw[he];exact h.old⟩,fA _ _ _ _,by simp[World.cZ]⟩
  simp[Builtin.delete_,run_underlying hT,aU h.heap,run_checkKey hK,run_findKey hK,hf,fV h.heap]
 |some x=>
  obtain⟨j,y⟩:=x
  obtain⟨_,_,h3,h4⟩:=pF (v:= .nilFunc) hf
  simp only[Nat.sub_zero]at h3 h4
  refine⟨World.cZ w m (((L.eraseP (fun t=>key==t.1)).map ent).toArray) clock,fun ty k=>?_,⟨fB h.heap _ _,?_,?_,?_⟩,fA _ _ _ _,by simp[World.cZ]⟩
  ·have hj:j<(L.map ent).length:=by
    cases hg:(L.map ent)[j]? with
    |none=>rw[hg]at h3;cases h3
    |some _=>exact(List.getElem?_eq_some_iff.1 hg).1
   simp[Builtin.delete_,run_underlying hT,aU h.heap,run_checkKey hK,run_findKey hK,hf,fV h.heap,h4]
  ·exact h.keys.sublist ((List.eraseP_sublist ..).map _)
  ·exact h.born.sublist ((List.eraseP_sublist ..).map _)
  ·exact fun t ht=>h.old t (List.mem_of_mem_eraseP ht)
theorem aQ.delete (h:aQ w m l)(hT:P.underlying T=some (.map K E))(hK:P.underlying K=some .string)(key:ByteArray):
 ∃w',(∀(ty k:TypeId),(Builtin.delete_ #[T,k] ty #[.map (some m), .string key]).run P w= .ok (.tuple #[]) w')/\aQ w' m (del key l)/\Kept (one m) w w'/\w'.heap.size=w.heap.size:=by
 obtain⟨L,clock,h,rfl⟩:=h
 obtain⟨w',h1,h2,h3,h4⟩:=h.delete (P:=P) hT hK key
 exact⟨w',h1,⟨_,_,h2,nI h.keys⟩,h3,h4⟩
theorem aQ.made (w:World):aQ (w.alloc (.map #[] 0)) w.heap.size []:=
 ⟨[],0,⟨by simpa using heap_alloc_new w (.map #[] 0),by simp,by simp,by simp⟩,rfl⟩
theorem aQ.kept {S:Nat->Prop}{w':World}(h:aQ w m l)(hk:Kept S w w')(hn: ¬S m):aQ w' m l:=by
 obtain⟨L,clock,h,rfl⟩:=h
 exact⟨L,clock,⟨hk.heap h.heap hn,h.keys,h.born,h.old⟩,rfl⟩
theorem aQ.lt (h:aQ w m l):m<w.heap.size:=by
 obtain⟨L,clock,h,rfl⟩:=h
 exact(Array.getElem?_eq_some_iff.1 h.heap).1
theorem aQ.nodup (h:aQ w m l):(l.map (·.1)).Nodup:=by
 obtain⟨L,clock,h,rfl⟩:=h
 have:=h.keys
 simpa[kv,Function.comp_def]using this
end
def bJ (w:World)(r m:Nat)(l left:List (ByteArray×Value)):Prop:=
 ∃L clock seen,vN w m L clock/\L.map kv=l/\w.heap[r]?=some (.mapIter (some m) clock seen clock)/\(L.filter (fun t=>!seen.contains t.2.2)).map kv=left
section
variable {P:Program} {w:World} {m r:Nat} {l left:List (ByteArray×Value)} {T K E:TypeId}
theorem bJ.map (h:bJ w r m l left):aQ w m l:=by
 obtain⟨L,clock,seen,h1,h2,_⟩:=h
 exact⟨L,clock,h1,h2⟩
theorem bJ.kept {S:Nat->Prop}{w':World}(h:bJ w r m l left)(hk:Kept S w w')(hm: ¬S m)(hr: ¬S r):bJ w' r m l left:=by
 obtain⟨L,clock,seen,h1,h2,h3,h4⟩:=h
 exact⟨L,clock,seen,⟨hk.heap h1.heap hm,h1.keys,h1.born,h1.old⟩,h2,hk.heap h3 hr,h4⟩
theorem bJ.lt (h:bJ w r m l left):r<w.heap.size:=by
 obtain⟨L,clock,seen,h1,h2,h3,h4⟩:=h
 exact(Array.getElem?_eq_some_iff.1 h3).1
theorem bJ.ne (h:bJ w r m l left):r≠m:=by
 obtain⟨L,clock,seen,h1,h2,h3,h4⟩:=h
 intro e
 have:=h1.heap
 rw[<-e,h3]at this
 cases this
theorem bJ.nodup (h:bJ w r m l left):(left.map (·.1)).Nodup/\ ∀p∈left,p∈l:=by
 obtain⟨L,clock,seen,h1,rfl,h3,rfl⟩:=h
 refine⟨?_,?_⟩
 ·have:=h1.keys.sublist ((List.filter_sublist (p:=fun t:T3=>!seen.contains t.2.2) (l:=L)).map (·.1))
  simpa[kv,Function.comp_def]using this
 ·intro p hp
  obtain⟨t,ht,rfl⟩:=List.mem_map.1 hp
  exact List.mem_map.2 ⟨t,(List.mem_filter.1 ht).1,rfl⟩
theorem aQ.range (h:aQ w m l)(hT:P.underlying T=some (.map K E)):
 ∃w',(Instr.range T (.map (some m))).run P w= .ok (.pointer (some ⟨w.heap.size,0,none⟩)) w'/\bJ w' w.heap.size m l l/\Kept none' w w'/\w'.heap.size=w.heap.size+1:=by
 obtain⟨L,clock,h,rfl⟩:=h
 refine⟨w.alloc (.mapIter (some m) clock #[] clock),?_,?_,(Kept.refl _ _).alloc _,by simp⟩
 ·simp[Instr.range,run_underlying hT,aU h.heap]
 ·refine⟨L,clock,#[],⟨?_,h.keys,h.born,h.old⟩,rfl,heap_alloc_new _ _,by rw[List.filter_eq_self.2 (fun _ _=>by simp)]⟩
  rw[Below.heap_alloc _ _ _ (Array.getElem?_eq_some_iff.1 h.heap).1]
  exact h.heap
theorem o8 {L:List T3}(hb:(L.map (·.2.2)).Nodup){t:T3}(ht:t∈L):L.Perm (t::L.filter (fun u=>u.2.2 !=t.2.2)):=by
 induction L with
 |nil=>cases ht
 |cons u r ih=>
  simp only[List.map_cons,List.nodup_cons]at hb
  rcases List.mem_cons.1 ht with rfl|ht
  ·have:r.filter (fun v=>v.2.2 !=t.2.2)=r:=List.filter_eq_self.2 (fun v hv=>by
    simp
    intro e
    exact hb.1 (List.mem_map.2 ⟨v,hv,e⟩))
   simp[this]
  ·have hne:u.2.2≠t.2.2:=fun e=>hb.1 (List.mem_map.2 ⟨t,ht,e.symm⟩)
   have h2:(u.2.2 !=t.2.2)=true:=by simp[hne]
   rw[List.filter_cons,if_pos h2]
   exact((ih hb.2 ht).cons u).trans (List.Perm.swap ..)
theorem bJ.next (h:bJ w r m l left)(ty:TypeId):
 (left=[]/\(Instr.next (.pointer (some ⟨r,0,none⟩)) false ty).run P w= .ok (.tuple #[.bool false]) w)\/
 ∃p left' w',left.Perm (p::left')/\(Instr.next (.pointer (some ⟨r,0,none⟩)) false ty).run P w= .ok (.tuple #[.bool true, .string p.1,p.2]) w'/\bJ w' r m l left'/\Kept (one r) w w'/\w'.heap.size=w.heap.size/\
  (Instr.entry (.pointer (some ⟨r,0,none⟩))).run P w'= .ok (.tuple #[.string p.1,p.2]) w':=by
 have hrm:=h.ne
 obtain⟨L,clock,seen,h1,rfl,h3,rfl⟩:=h
 have hall:((!seen.isEmpty&&!(L.map ent).toArray.isEmpty&&(L.map ent).toArray.all (fun e=>decide (e.born>=clock))):Bool)=false:=by
  cases L with
  |nil=>simp
  |cons t rest=>
   have:=h1.old t (by simp)
   simp[ent]
   intro _ hge
   omega
 have hold:((L.map ent).toArray.filter (fun e=>!seen.contains e.born)).filter (fun e=>decide (e.born<clock))=((L.filter (fun t=>!seen.contains t.2.2)).map ent).toArray:=by
  rw[List.filter_toArray,List.filter_toArray]
  congr 1
  rw[List.filter_map,List.filter_map,List.filter_filter]
  congr 1
  apply List.filter_congr
  intro t ht
  have:=h1.old t ht
  show(decide (t.2.2<clock)&&!seen.contains t.2.2)=!seen.contains t.2.2
  rw[decide_eq_true this,Bool.true_and]
 have hnew:((L.map ent).toArray.filter (fun e=>!seen.contains e.born)).filter (fun e=>decide (e.born>=clock))= #[]:=by
  rw[List.filter_toArray,List.filter_toArray]
  congr 1
  rw[List.filter_eq_nil_iff]
  intro e he
  obtain⟨he1,_⟩:=List.mem_filter.1 he
  obtain⟨t,ht,rfl⟩:=List.mem_map.1 he1
  have:=h1.old t ht
  simp[ent]
  exact this
 have hrun: ∀cont:Nat->Sem Value,True:=fun _=>trivial
 cases hl:(L.filter (fun t=>!seen.contains t.2.2))with
 |nil=>
  left
  refine⟨rfl,?_⟩
  rw[hl]at hold
  simp only[Instr.next,Sem.run_bind,rX h3,Result.andThen_ok,aU h1.heap,hall,hold,hnew]
  simp[Question.forced]
 |cons t0 rest=>
  right
  have hne:(((L.filter (fun t=>!seen.contains t.2.2)).map ent).toArray.isEmpty)=false:=by rw[hl];rfl
  obtain⟨n,hn,w1,hw1,yH⟩: ∃n,n<(L.filter (fun t=>!seen.contains t.2.2)).length/\ ∃w1:World,w1.heap=w.heap/\w1.os=w.os/\w1.tape=w.tape/\w1.output=w.output/\
   (choose (.mapNext (L.filter (fun t=>!seen.contains t.2.2)).length)).run P w= .ok n w1:=by
   rw[hl]
   by_cases hf:(rest.length+1)<=1
   ·exact⟨0,by simp,w,rfl,rfl,rfl,rfl,by simp[Question.forced,hf]⟩
   ·refine⟨_,Nat.mod_lt (w.tape w.drawn (.mapNext (rest.length+1))) (by simp),w.drew,rfl,rfl,rfl,rfl,?_⟩
    simp[Question.forced,hf,Question.cut]
  obtain⟨hos,htape,hout,yH⟩:=yH
  have hget:((L.filter (fun t=>!seen.contains t.2.2)))[n]?=some ((L.filter (fun t=>!seen.contains t.2.2))[n]):=by simp
  generalize ht:(L.filter (fun t=>!seen.contains t.2.2))[n]=t at hget
  have htl:t∈L.filter (fun t=>!seen.contains t.2.2):=List.mem_of_getElem? hget
  have htL:t∈L:=(List.mem_filter.1 htl).1
  have hns:seen.contains t.2.2=false:=by have:=(List.mem_filter.1 htl).2;simpa using this
  have Lh:r<w1.heap.size:=by rw[hw1];exact(Array.getElem?_eq_some_iff.1 h3).1
  have h3':w1.heap[r]?=some (.mapIter (some m) clock seen clock):=by rw[hw1];exact h3
  refine⟨kv t,((L.filter (fun t=>!seen.contains t.2.2)).filter (fun u=>u.2.2 !=t.2.2)).map kv,{w1 with heap:=w1.heap.setIfInBounds r (.mapIter (some m) clock (seen.push t.2.2) clock)},?_,?_,?_,?_,?_,?_⟩
  ·have hb:=h1.born.sublist ((List.filter_sublist (p:=fun t:T3=>!seen.contains t.2.2) (l:=L)).map (·.2.2))
   rw[<-hl]
   exact(o8 hb htl).map kv
  ·have hsz:(((L.filter (fun t=>!seen.contains t.2.2)).map ent).toArray.map some).size=(L.filter (fun t=>!seen.contains t.2.2)).length:=by simp
   have hat:(((L.filter (fun t=>!seen.contains t.2.2)).map ent).toArray.map some)[n]?=some (some (ent t)):=by
    simp only[List.map_toArray,List.getElem?_toArray,List.getElem?_map,hget,Option.map_some]
   simp only[Instr.next,Sem.run_bind,rX h3,Result.andThen_ok,aU h1.heap,hall,hold,hnew,hne,Bool.false_eq_true,if_false,Array.append_empty,Array.empty_append,hsz,yH,hat]
   simp[setObj,Sem.run,h3',ent,kv]
  ·refine⟨L,clock,seen.push t.2.2,⟨?_,h1.keys,h1.born,h1.old⟩,rfl,?_,?_⟩
   ·rw[kL _ hrm,hw1];exact h1.heap
   ·simp[Lh]
   ·congr 1
    rw[List.filter_filter]
    apply List.filter_congr
    intro u _
    simp[Bool.and_comm,bne]
    by_cases e:u.2.2=t.2.2<;>simp[e]
  ·refine⟨hos,htape,hout,by simp[hw1],fun k _ hk=>?_⟩
   rw[kL _ (fun e=>hk e.symm),hw1]
  ·simp[hw1]
  ·have g1:(getObj r).run P ({w1 with heap:=w1.heap.setIfInBounds r (.mapIter (some m) clock (seen.push t.2.2) clock)}:World)= .ok (.mapIter (some m) clock (seen.push t.2.2) clock) {w1 with heap:=w1.heap.setIfInBounds r (.mapIter (some m) clock (seen.push t.2.2) clock)}:=by
    simp[getObj,Sem.run,Lh]
   have g2:(getObj m).run P ({w1 with heap:=w1.heap.setIfInBounds r (.mapIter (some m) clock (seen.push t.2.2) clock)}:World)= .ok (.map (L.map ent).toArray clock) {w1 with heap:=w1.heap.setIfInBounds r (.mapIter (some m) clock (seen.push t.2.2) clock)}:=by
    have:({w1 with heap:=w1.heap.setIfInBounds r (.mapIter (some m) clock (seen.push t.2.2) clock)}:World).heap[m]?=some (.map (L.map ent).toArray clock):=by
     rw[kL _ hrm,hw1];exact h1.heap
    exact aU this
   have hfind:(L.map ent).toArray.find? (fun e=>e.born==t.2.2)=some (ent t):=by
    rw[List.find?_toArray,List.find?_map]
    have:L.find? ((fun e:MapEntry=>e.born==t.2.2)∘ent)=some t:=by
     have key: ∀(M:List T3),(M.map (·.2.2)).Nodup->t∈M->M.find? ((fun e:MapEntry=>e.born==t.2.2)∘ent)=some t:=by
      intro M
      induction M with
      |nil=>intro _ h;cases h
      |cons u M ih=>
       intro hnd hmem
       simp only[List.map_cons,List.nodup_cons]at hnd
       rw[List.find?_cons]
       rcases List.mem_cons.1 hmem with rfl|hmem
       ·simp[ent]
       ·have hne:u.2.2≠t.2.2:=fun e=>hnd.1 (List.mem_map.2 ⟨t,hmem,e.symm⟩)
        have:((fun e:MapEntry=>e.born==t.2.2)∘ent) u=false:=by simp[ent,hne]
        rw[this]
        exact ih hnd.2 hmem
     exact key L h1.born htL
    rw[this];rfl
   simp only[Instr.entry,Sem.run_bind,g1,g2,Result.andThen_ok,Array.back?_push,hfind]
   simp[ent,kv]
theorem jC {key:ByteArray}: ∀{L:List T3},(L.map (·.1)).Nodup->L.eraseP (fun t=>key==t.1)=L.filter (fun t=>key !=t.1)
 |[],_=>rfl
 |t::r,h=>by
  simp only[List.map_cons,List.nodup_cons]at h
  by_cases he:key=t.1
  ·have:r.filter (fun t=>key !=t.1)=r:=List.filter_eq_self.2 (fun u hu=>by
    simp
    intro e
    exact h.1 (List.mem_map.2 ⟨u,hu,by rw[<-e,he]⟩))
   simp only[he]at this
   simp[he,this]
  ·have:=jC (key:=key) h.2
   simp[he,this]
theorem bJ.delete (h:bJ w r m l left)(hT:P.underlying T=some (.map K E))(hK:P.underlying K=some .string)(key:ByteArray):
 ∃w',(∀(ty k:TypeId),(Builtin.delete_ #[T,k] ty #[.map (some m), .string key]).run P w= .ok (.tuple #[]) w')/\bJ w' r m (del key l) (del key left)/\Kept (one m) w w'/\w'.heap.size=w.heap.size:=by
 have hrm:=h.ne
 obtain⟨L,clock,seen,h1,rfl,h3,rfl⟩:=h
 obtain⟨w',g1,g2,g3,g4⟩:=h1.delete (P:=P) hT hK key
 refine⟨w',g1,⟨_,clock,seen,g2,nI h1.keys,g3.heap h3 hrm,?_⟩,g3,g4⟩
 rw[jC h1.keys,List.filter_filter,del,List.filter_map,List.filter_filter]
 congr 1
 apply List.filter_congr
 intro u _
 simp[kv,Bool.and_comm]
end
end MS
end
section
open Go Go.RowKit
def uD (S:List St)(k:Nat)(L:List (ByteArray×Value)):Prop:= ∀u v,(u,v)∈L↔ ∃(i:Nat)(s:St),i<k/\S[i]?=some s/\s.1=u/\v= .int .i64 (i:Int)
def qR (S x:List St)(k:Nat)(L:List (ByteArray×Value)):Prop:= ∀u v,(u,v)∈L↔(∃(i:Nat)(s:St),S[i]?=some s/\s.1=u/\v= .int .i64 (i:Int))/\ ∀t∈x.take k,t.1≠u
theorem uD.none (S:List St):uD S 0 []:=fun u v=>by simp
theorem BJ {S:List St}(h:(S.map (·.1)).Nodup){i k:Nat}{s t:St}(hi:S[i]?=some s)(hk:S[k]?=some t)(e:s.1=t.1):i=k:=by
 have h1:(S.map (·.1))[i]?=some s.1:=by rw[List.getElem?_map,hi];rfl
 have h2:(S.map (·.1))[k]?=some s.1:=by rw[List.getElem?_map,hk,e];rfl
 obtain⟨l1,e1⟩:=List.getElem?_eq_some_iff.1 h1
 obtain⟨l2,e2⟩:=List.getElem?_eq_some_iff.1 h2
 rcases Nat.lt_trichotomy i k with hlt|rfl|hlt
 ·exact absurd (e1.trans e2.symm) (List.pairwise_iff_getElem.1 h i k l1 l2 hlt)
 ·rfl
 ·exact absurd (e2.trans e1.symm) (List.pairwise_iff_getElem.1 h k i l2 l1 hlt)
theorem uD.step {S:List St}(hnd:(S.map (·.1)).Nodup){k:Nat}{s:St}(hs:S[k]?=some s){L:List (ByteArray×Value)}(h:uD S k L):uD S (k+1) (MS.upd s.1 (.int .i64 (k:Int)) L):=by
 have hno: ∀p∈L,p.1≠s.1:=by
  rintro⟨u,v⟩ hp e
  obtain⟨i,t,hik,ht,htu,_⟩:=(h u v).1 hp
  have:=BJ hnd ht hs (htu.trans e)
  omega
 rw[MS.qX hno]
 intro u v
 rw[List.mem_append,List.mem_singleton]
 constructor
 ·rintro(hp|hp)
  ·obtain⟨i,t,hik,ht,htu,hv⟩:=(h u v).1 hp
   exact⟨i,t,by omega,ht,htu,hv⟩
  ·injection hp with hp1 hp2
   exact⟨k,s,by omega,hs,hp1.symm,hp2⟩
 ·rintro⟨i,t,hik,ht,htu,hv⟩
  by_cases e:i=k
  ·subst e
   rw[hs]at ht;injection ht with ht;subst ht
   exact .inr (by rw[htu,hv])
  ·exact .inl ((h u v).2 ⟨i,t,by omega,ht,htu,hv⟩)
theorem uD.left {S x:List St}{L:List (ByteArray×Value)}(h:uD S S.length L):qR S x 0 L:=fun u v=>by
 rw[h u v]
 constructor
 ·rintro⟨i,s,_,h1,h2,h3⟩
  exact⟨⟨i,s,h1,h2,h3⟩,by simp⟩
 ·rintro⟨⟨i,s,h1,h2,h3⟩,_⟩
  exact⟨i,s,(List.getElem?_eq_some_iff.1 h1).1,h1,h2,h3⟩
theorem qR.step {S x:List St}{k:Nat}{t:St}(ht:x[k]?=some t){L:List (ByteArray×Value)}(h:qR S x k L):qR S x (k+1) (MS.del t.1 L):=fun u v=>by
 unfold MS.del
 rw[List.mem_filter,h u v,List.take_add_one,ht]
 simp only[Option.toList_some,List.mem_append,List.mem_singleton,bne_iff_ne,ne_eq]
 constructor
 ·rintro⟨⟨h1,h2⟩,h3⟩
  refine⟨h1,fun q hq=>?_⟩
  rcases hq with hq|rfl
  ·exact h2 q hq
  ·exact h3
 ·rintro⟨h1,h2⟩
  exact⟨⟨h1,fun q hq=>h2 q (.inl hq)⟩,h2 t (.inr rfl)⟩
theorem Ud {L:List (ByteArray×Value)}{u:ByteArray}{v:Value}(h:MS.look L u=some v):(u,v)∈L:=by
 unfold MS.look at h
 cases e:L.find? fun p=>u==p.1 with
 |none=>rw[e]at h;cases h
 |some p=>
  rw[e]at h
  injection h with h
  have h1:=List.find?_some e
  have h2:=List.mem_of_find?_eq_some e
  have:u=p.1:=by simpa using h1
  rw[this,<-h]
  exact h2
theorem W9 {L:List (ByteArray×Value)}{u:ByteArray}(h:MS.look L u=none)(v:Value):(u,v)∉L:=by
 unfold MS.look at h
 intro hm
 rw[Option.map_eq_none_iff,List.find?_eq_none]at h
 have:=h _ hm
 simp at this
theorem qR.found {S x:List St}{k:Nat}{t:St}{L:List (ByteArray×Value)}(h:qR S x k L)(hnd:(S.map (·.1)).Nodup)(hk: ∀s:St,fC s.2≠[]->(s∈x↔s∈S))(ht:x[k]?=some t){v:Value}(hl:MS.look L t.1=some v):
 ∃(i:Nat)(s:St),S[i]?=some s/\v= .int .i64 (i:Int)/\(fC t.2≠[]->s.2=t.2):=by
 obtain⟨⟨i,s,h1,h2,h3⟩,_⟩:=(h _ _).1 (Ud hl)
 refine⟨i,s,h1,h3,fun hT=>?_⟩
 obtain⟨m,hm⟩:=List.mem_iff_getElem?.1 ((hk t hT).1 (List.mem_of_getElem? ht))
 have:=BJ hnd h1 hm h2
 subst this
 rw[h1]at hm;injection hm with hm;rw[hm]
theorem qR.lost {S x:List St}{k:Nat}{t:St}{L:List (ByteArray×Value)}(h:qR S x k L)(Qx:(x.map (·.1)).Nodup)(hk: ∀s:St,fC s.2≠[]->(s∈x↔s∈S))(ht:x[k]?=some t)(hl:MS.look L t.1=none):fC t.2=[]:=by
 apply Classical.byContradiction
 intro hT
 obtain⟨m,hm⟩:=List.mem_iff_getElem?.1 ((hk t hT).1 (List.mem_of_getElem? ht))
 refine W9 hl (.int .i64 (m:Int)) ((h _ _).2 ⟨⟨m,t,hm,rfl,rfl⟩,fun q hq e=>?_⟩)
 obtain⟨i,hi⟩:=List.mem_iff_getElem?.1 hq
 rw[List.getElem?_take]at hi
 split at hi
 ·have:=BJ Qx hi ht e
  omega
 ·cases hi
theorem qR.rest {S x:List St}{L:List (ByteArray×Value)}(h:qR S x x.length L)(hk: ∀s:St,fC s.2≠[]->(s∈x↔s∈S)){p:ByteArray×Value}(hp:p∈L): ∃(i:Nat)(s:St),S[i]?=some s/\p.2= .int .i64 (i:Int)/\fC s.2=[]:=by
 obtain⟨u,v⟩:=p
 obtain⟨⟨i,s,h1,h2,h3⟩,h4⟩:=(h u v).1 hp
 refine⟨i,s,h1,h3,?_⟩
 apply Classical.byContradiction
 intro hT
 have:=(hk s hT).2 (List.mem_of_getElem? h1)
 rw[List.take_length]at h4
 exact h4 s this h2
end
section
open Go Go.RowKit
attribute [local irreducible] bU dW H2.dG
end
section
open Go Go.RowKit
theorem zT {j:Jb}(hj:dw j=true)(hR:JR j.nodes): ∀(l:List (Int×Int))(Ts:Tabs),bY j.nodes Ts->(∀y∈l,aK y.1/\aK y.2)->bY j.nodes (jA j.nodes Ts l).2/\(∀q∈(jA j.nodes Ts l).1,bg q)/\(jA j.nodes Ts l).1.length<=64*l.length
 |[],Ts,h,_=>⟨h,by simp[jA],by simp[jA]⟩
 |y::l,Ts,h,hy=>by
  obtain⟨k1,k2⟩:=hy y (by simp)
  obtain⟨f1,f2,_,f4⟩:=pI hj hR h k1 k2
  obtain⟨g1,g2,g3⟩:=zT hj hR l _ f1 (fun z hz=>hy z (by simp[hz]))
  refine⟨g1,fun q hq=>?_,?_⟩
  ·simp only[jA]at hq
   rcases List.mem_append.1 hq with hq|hq
   ·exact f2 q hq
   ·exact g2 q hq
  ·simp only[jA,List.length_append,List.length_cons]
   omega
end
section
open Go Go.RowKit
attribute [local irreducible] bU dW H2.dG
def jl (r:Rec):Int×Int:=(r.key,r.val)
theorem yA {L:List Rec}(h: ∀r∈L,bg r)(k:Nat): ∀y∈(L.take k).map jl,aK y.1/\aK y.2:=fun y hy=>by
 obtain⟨r,hr,rfl⟩:=List.mem_map.1 hy
 have:=h r (List.mem_of_mem_take hr)
 exact⟨this.key,this.val⟩
theorem gI.nodes {w:World}{par:Int}{v:Value}{j:Jb}(h:gI w #[.int .i64 par,v] j):dV w v j.nodes:=by
 obtain⟨v',e,hn,_⟩:=h
 injection e with e
 injection e with _ e
 injection e with e
 subst e
 exact hn
theorem DL (nodes:List JN): ∀(l m:List (Int×Int))(Ts:Tabs),jA nodes Ts (l++m)=((jA nodes Ts l).1++(jA nodes (jA nodes Ts l).2 m).1,(jA nodes (jA nodes Ts l).2 m).2)
 |[],m,Ts=>by simp[jA]
 |y::l,m,Ts=>by simp only[List.cons_append,jA,DL nodes l m,List.append_assoc]
theorem LK (nodes:List JN)(Ts:Tabs){L:List Rec}{k:Nat}{r:Rec}(h:L[k]?=some r):
 jA nodes Ts ((L.take (k+1)).map jl)=((jA nodes Ts ((L.take k).map jl)).1++(iU nodes (jA nodes Ts ((L.take k).map jl)).2 r.key r.val).1,(iU nodes (jA nodes Ts ((L.take k).map jl)).2 r.key r.val).2):=by
 rw[List.take_add_one,h,Option.toList_some,List.map_append,DL]
 simp[jA,jl]
end
end Go.Proofs.YtopeleenlcnkkaaGreatDoor
