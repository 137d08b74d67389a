/- The machine's operations: structs and rows that are built, append, copy. -/
import Derived.Test.YtakhobfamnjnoaaGreatDoorB36
set_option linter.unusedVariables false
set_option linter.unusedSimpArgs false
namespace Go.Proofs.YtakhobfamnjnoaaGreatDoor
namespace bC
open Go Go.RowKit
section
variable {P:Program} {g:Nat} {w0:World} {ρ:Ren} {h:Hp} {nx:Nat} {w:World}
noncomputable def F6 (place:Nat->Option (Nat×Nat))(parts:List (Nat×AV)):List CV->(List CV->Bool)->Bool:=
 List.rec (motive:=fun _=>List CV->(List CV->Bool)->Bool) (fun cs k=>k cs) (fun p _ ih cs k=>au (place p.1) fun os=>au (BA p.2.rv) fun l=>iff (Nat.beq (llen l) os.2) (iff (Nat.ble (Nat.add os.1 os.2) (llen cs)) (SA l cs os.1 fun cs=>ih cs k))) parts
theorem AU (xs:List Value): ∀(cells:Array Value)(off k:Nat),((xs.zipIdx k).foldl (fun cs (c,j)=>cs.setIfInBounds (off+j) c) cells).toList=dW xs cells.toList (off+k):=by
 induction xs with
 |nil=>intro cells off k;rfl
 |cons x xs ih=>
  intro cells off k
  simp only[List.zipIdx_cons,List.foldl_cons,dW]
  rw[ih]
  simp[Nat.add_assoc]
theorem Ia {l:List CV}{xs:List Value}(hx:F2 (G ρ) l xs): ∀{cs:List CV}{ys:List Value}(_:F2 (G ρ) cs ys)(n:Nat),F2 (G ρ) (dW l cs n) (dW xs ys n):=by
 induction hx with
 |nil=>intro cs ys hy n;exact hy
 |cons a _ ih=>intro cs ys hy n;exact ih (xU hy a n) _
theorem zi {place:Nat->Option (Nat×Nat)}{parts:List (Nat×AV)}{pv:List (Nat×Value)}(hp:F2 (fun a b=>a.1=b.1/\GA ρ a.2 b.2) parts pv): ∀{cs:List CV}{ys:List Value}{k:List CV->Bool},F2 (G ρ) cs ys->F6 place parts cs k=true->
 ∃cs' ys',k cs'=true/\F2 (G ρ) cs' ys'/\Instr.fill place ys.toArray pv=some ys'.toArray/\ys'.length=ys.length:=by
 induction hp with
 |nil=>intro cs ys k hy hk;exact⟨cs,ys,hk,hy,rfl,rfl⟩
 | @cons p q _ _ hpq _ ih=>
   intro cs ys k hy hk
   obtain⟨i,a⟩:=p
   obtain⟨j,v⟩:=q
   obtain⟨rfl,hav⟩:=hpq
   obtain⟨⟨off,sz⟩,hos,hk⟩:=ah hk
   obtain⟨l,hl,hk⟩:=ah hk
   obtain⟨hlen,hk⟩:=aj hk
   have hlen:l.length=sz:=by rw[<-aG];exact aJ hlen
   obtain⟨hb,hk⟩:=aj hk
   have hb:off+sz<=cs.length:=by rw[<-aG];exact aK hb
   obtain⟨hfit,hk⟩:=ML hk
   obtain⟨xs,h1,hx⟩:=yG hl hav.rv
   obtain⟨cs',ys',hk,h3,h4,h5⟩:=ih (Ia hx hy off) hk
   refine⟨cs',ys',hk,h3,?_,by rw[h5,nZ]⟩
   have hxl:=bJ hx
   have hyl:=bJ hy
   have e1: ¬(v.cells.size≠sz\/off+v.cells.size>ys.toArray.size):=by
    rw[h1]
    simp only[List.size_toArray]
    rintro(e|e)
    ·exact e (by omega)
    ·omega
   have e2:(v.cells.zipIdx.foldl (fun cs (c,j)=>cs.setIfInBounds (off+j) c) ys.toArray)=(dW xs ys off).toArray:=by
    apply Array.ext'
    rw[h1]
    have:=AU xs ys.toArray off 0
    simpa using this
   show Instr.fill place ys.toArray ((i,v)::_)=_
   simp only[Instr.fill,hos]
   have e1':(decide (v.cells.size≠sz)||decide (off+v.cells.size>ys.toArray.size))=false:=by simpa using e1
   rw[if_neg (by simpa using e1),e2]
   exact h4
noncomputable def WO (P:Program)(t:TypeId)(parts:List (Nat×AV))(k:RV->Bool):Bool:=
 vI P t fun cs=>au (bQ P t) fun d=>(match d with
  | .struct fs=>au (fs.toList.mapM fun f=>(mY P f.type).map fun i=>(f.offset,i.size)) fun places=>F6 (aA places) parts cs fun cs=>k (.agg cs)
  | .array _ e=>au (pF P e) fun n=>F6 (fun i=>some (Nat.mul i n,n)) parts cs fun cs=>k (.agg cs)
  |_=>false)
theorem WM {t:TypeId}{parts:List (Nat×AV)}{pv:List (Nat×Value)}(hp:F2 (fun a b=>a.1=b.1/\GA ρ a.2 b.2) parts pv){k:RV->Bool}(hk:WO P t parts k=true):Pu P ρ k (Instr.build t pv.toArray):=by
 obtain⟨i,z,cs,hi,hz,hk,hx⟩:=qF (ρ:=ρ) hk
 obtain⟨d,hd,hk⟩:=ah hk
 try simp only[aB,aC,aO]at hd
 split at hk
 ·obtain⟨places,hpl,hk⟩:=ah hk
  simp only[aC]at hpl
  obtain⟨cs',ys',hk,h1,h2,_⟩:=zi hp hx hk
  refine⟨_,_,hk, .agg h1,fun w=>run_build w t _ _ ?_⟩
  have:aA places=fun i=>places.toArray[i]?:=by funext i;rw[aF];simp
  rw[this]at h2
  simp only[Program.built,hi,hd,hz,hpl]
  simpa using h2
 ·rename_i e _ _ _
  obtain⟨n,hn,hk⟩:=ah hk
  obtain⟨cs',ys',hk,h1,h2,_⟩:=zi hp hx hk
  refine⟨_,_,hk, .agg h1,fun w=>run_build w t _ _ ?_⟩
  unfold pF at hn
  rw[aC]at hn
  cases hie:P.info? _ with
  |none=>rw[hie]at hn;cases hn
  |some ie=>
   rw[hie]at hn
   cases hn
   simp only[Program.built,hi,hd,hz,hie]
   simpa using h2
 ·cases hk
noncomputable def jT {α:Type}(n:Nat)(l:List α):List α:=Nat.rec [] (fun _ acc=>l++acc) n
theorem lG {α:Type}(l:List α): ∀n,(jT n l).length=n*l.length
 |0=>by show([]:List α).length=_;simp
 |n+1=>by show(l++jT n l).length=_;rw[List.length_append,lG l n,Nat.succ_mul,Nat.add_comm]
theorem qc {l:List CV}{xs:List Value}(hx:F2 (G ρ) l xs): ∀n,F2 (G ρ) (jT n l) (jT n xs)
 |0=> .nil
 |n+1=>bZ hx (qc hx n)
theorem MK {α:Type}(l:List α): ∀(n j:Nat),j<n*l.length->(jT n l)[j]?=l[j%l.length]?
 |0,j,h=>by simp at h
 |n+1,j,h=>by
  show(l++jT n l)[j]?=_
  by_cases hj:j<l.length
  ·rw[List.getElem?_append_left hj,Nat.mod_eq_of_lt hj]
  ·rw[List.getElem?_append_right (by omega),MK l n (j-l.length) (by rw[Nat.succ_mul]at h;omega),<-Nat.mod_eq_sub_mod (by omega)]
theorem gG (z:Array Value)(n:Nat):madeCells z (n*z.size)=(jT n z.toList).toArray:=by
 apply Array.ext'
 apply List.ext_getElem?
 intro j
 by_cases hj:j<n*z.size
 ·have hz:0<z.size:=by
   rcases Nat.eq_zero_or_pos z.size with h|h
   ·rw[h]at hj;simp at hj
   ·exact h
  have hm:=Nat.mod_lt j hz
  have:=MK z.toList n j (by simpa using hj)
  simp only[List.toList_toArray]at*
  rw[this]
  simp[madeCells,hj,hm]
 ·rw[List.getElem?_eq_none (by simp[madeCells];omega),List.getElem?_eq_none (by rw[List.toList_toArray,lG];simpa using hj)]
noncomputable def CW (P:Program)(h:Hp)(nx:Nat)(t:TypeId)(len:Nat)(parts:List (Nat×AV))(k:RV->Hp->Nat->Bool):Bool:=
 au (bQ P t) fun d=>(match d with
  | .slice e=>vI P e fun zs=>au (pF P e) fun n=>iff (Nat.beq (llen zs) n) (iff (!Nat.beq n 0) (iff (Nat.ble (Nat.mul len n) 16777216) (fL (jT len zs) fun cs=>F6 (fun i=>some (Nat.mul i n,n)) parts cs fun cs=>
     mV h nx (.row cs e (some len)) fun id h nx=>k (.c (.sl id 0 len 0 none)) h nx)))
  |_=>false)
theorem Gn {e n:Nat}(hn:pF P e=some n):P.cellsOf e=n:=by
 unfold pF at hn
 rw[aC]at hn
 simp[Program.cellsOf,hn]
theorem Ih (H:HR P g w0 ρ h nx w){t:TypeId}{len:Nat}{parts:List (Nat×AV)}{pv:List (Nat×Value)}(hp:F2 (fun a b=>a.1=b.1/\GA ρ a.2 b.2) parts pv){k:RV->Hp->Nat->Bool}(hk:CW P h nx t len parts k=true):
 Do P g w0 ρ nx w k (Instr.buildSlice t len pv.toArray):=by
 obtain⟨d,hd,hk⟩:=ah hk
 try simp only[aB,aC,aO]at hd
 split at hk
 ·rename_i e
  obtain⟨i,z,zs,hi,hz,hk,hx⟩:=qF (ρ:=ρ) hk
  obtain⟨n,hn,hk⟩:=ah hk
  obtain⟨hzl,hk⟩:=aj hk
  obtain⟨hn0,hk⟩:=aj hk
  obtain⟨hlim,hk⟩:=aj hk
  have hzl:zs.length=n:=by rw[<-aG];exact aJ hzl
  have hn0:n≠0:=fun e=>by subst e;simp at hn0
  have hlim:len*n<=16777216:=aK hlim
  rw[eP]at hk
  obtain⟨cs',ys',hk,h1,h2,h3⟩:=zi hp (qc hx len) hk
  obtain⟨h',hkk,hh⟩:=Tr.aW hk
  have hzs:z.cells.size=n:=by have:=bJ hx;simp at this;omega
  subst hzs
  have hys:ys'.length=len*z.cells.size:=by rw[h3,lG];simp
  have hcell:=Gn hn
  have hlen:len<=maxLen:=by
   unfold maxLen
   have:len<=len*z.cells.size:=Nat.le_mul_of_pos_right _ (by omega)
   omega
  obtain⟨ρ',hle,hr,H'⟩:=H.row h1 [] e len (some len) (by simp) (by rw[hcell,hys];simp) hlen hh
  have hsl:G ρ' (.sl nx 0 len 0 none) (.slice (some ⟨w.heap.size,0,none⟩) len len):=by
   have:=G.sl (ρ:=ρ') 0 len 0 none hr (by simp) (by simpa using hlen) (by simp)
   simpa using this
  refine⟨_,_,ρ',h',nx+1,_,hkk,hle,H', .c hsl,?_⟩
  have FI:(Array.range (len*z.cells.size)).map (z.cells[· %z.cells.size]!)=(jT len z.cells.toList).toArray:=gG z.cells len
  have hbig: ¬(16777216<len*z.cells.size):=by omega
  by_cases h0:len*z.cells.size=0
  ·have hl0:len=0:=by
    rcases Nat.mul_eq_zero.1 h0 with h|h
    ·exact h
    ·exact absurd h hn0
   subst hl0
   have FN:Instr.fill (fun i=>some (i*z.cells.size,z.cells.size)) #[] pv=some ys'.toArray:=h2
   simp[Instr.buildSlice,run_underlying hd,cu hn,Array.range_zero',FN,newRow]
  ·simp[Instr.buildSlice,run_underlying hd,cu hn,hbig,h0,zeroValue,typeInfo,hi,hz,newRow]
   have AB:(Array.map (fun x=>z.cells[x%z.cells.size]!) (Array.range (len*z.cells.size)))=(jT len z.cells.toList).toArray:=FI
   rw[AB]
   simp only[Nat.mul_eq]at h2
   simp[h2]
 ·cases hk
theorem HR.newAt (H:HR P g w0 ρ h nx w)(x:Obj){r base cap:Nat}{o:AO}{h':Hp}(hr:r<nx)(hg:g<=r)(hn:ρ r=none)(hh: ∀m,h'.get m=if m=r then some o else h.get m)
 (ho: ∀ρ',ρ.le ρ'->ρ' r=some (.blk w.heap.size base cap)->Ob P ρ' r o (w.alloc x)):
 HR P g w0 (ρ.put r (.blk w.heap.size base cap)) h' nx (w.alloc x):=by
 have hle:=Ren.jq hn (.blk w.heap.size base cap)
 have hb: ∀id b,gI (ρ.put r (.blk w.heap.size base cap)) id b->(id=r/\b=w.heap.size)\/(id≠r/\gI ρ id b):=fun id b ⟨bs,cp,hb⟩=>by
  unfold Ren.put at hb
  split at hb
  ·rename_i e;cases hb;exact .inl ⟨e,rfl⟩
  ·exact .inr ⟨by assumption,_,_,hb⟩
 have hle0:w0.heap.size<=w.heap.size:=H.kept.size
 refine⟨fun id hid=>?_,H.pX,fun id p hp hid=>?_,fun i j oi oj b hi hj bi bj=>?_,fun id b hid hg=>?_,fun id b hid=>?_,?_,fun i hi=>(H.glob i hi).imp fun _ h=>hle _ _ h,fun id hid=>by rw[hh,if_neg (by omega)];exact H.hfr id hid⟩
 ·unfold Ren.put;rw[if_neg (by omega)];exact H.fresh id hid
 ·rw[hh]at hp
  split at hp
  ·rename_i e;cases hp;subst e;exact ho _ hle (Ren.dF _ _ _)
  ·rename_i hne;rw[Ren.jc hne]at hid;exact((H.objs id p hp hid).frame (fun b _ hb=>Below.heap_alloc _ _ _ hb)).mono hle
 ·rcases hb _ _ bi with⟨ei,eb⟩|⟨ni,bi⟩<;>rcases hb _ _ bj with⟨ej,eb'⟩|⟨nj,bj⟩
  ·rw[ei,ej]
  ·exact absurd (H.lt _ _ bj) (by omega)
  ·exact absurd (H.lt _ _ bi) (by omega)
  ·rw[hh,if_neg ni]at hi
   rw[hh,if_neg nj]at hj
   exact H.inj i j _ _ b hi hj bi bj
 ·rcases hb _ _ hid with⟨_,eb⟩|⟨_,hid⟩
  ·omega
  ·exact H.own id b hid hg
 ·rw[World.size_alloc]
  rcases hb _ _ hid with⟨_,eb⟩|⟨_,hid⟩
  ·omega
  ·have:=H.lt id b hid;omega
 ·exact⟨H.kept.os,H.kept.tape,H.kept.output,by rw[World.size_alloc];omega,fun k hk=>(Below.heap_alloc _ _ _ (by omega)).trans (H.kept.block k hk)⟩
noncomputable def zV (P:Program)(h:Hp)(r:Nat)(t:TypeId)(len:Nat)(parts:List (Nat×AV))(k:RV->Hp->Bool):Bool:=
 au (bQ P t) fun d=>(match d with
  | .slice e=>vI P e fun zs=>au (pF P e) fun n=>iff (Nat.beq (llen zs) n) (iff (!Nat.beq n 0) (iff (Nat.ble (Nat.mul len n) 16777216) (fL (jT len zs) fun cs=>F6 (fun i=>some (Nat.mul i n,n)) parts cs fun cs=>
     h.fU r (some (.row cs e (some len))) fun h=>k (.c (.sl r 0 len 0 none)) h)))
  |_=>false)
theorem D9 (H:HR P g w0 ρ h nx w){r:Nat}(hrn:r<nx)(hgr:g<=r)(hnr:ρ r=none){t:TypeId}{len:Nat}{parts:List (Nat×AV)}{pv:List (Nat×Value)}(hp:F2 (fun a b=>a.1=b.1/\GA ρ a.2 b.2) parts pv){k:RV->Hp->Bool}(hk:zV P h r t len parts k=true):
 ∃v x ρ' h' w',k v h'=true/\ρ.le ρ'/\(∀j,j≠r->ρ j=none->ρ' j=none)/\HR P g w0 ρ' h' nx w'/\GR ρ' v x/\(Instr.buildSlice t len pv.toArray).run P w= .ok x w':=by
 obtain⟨d,hd,hk⟩:=ah hk
 try simp only[aB,aC,aO]at hd
 split at hk
 ·rename_i e
  obtain⟨i,z,zs,hi,hz,hk,hx⟩:=qF (ρ:=ρ) hk
  obtain⟨n,hn,hk⟩:=ah hk
  obtain⟨hzl,hk⟩:=aj hk
  obtain⟨hn0,hk⟩:=aj hk
  obtain⟨hlim,hk⟩:=aj hk
  have hzl:zs.length=n:=by rw[<-aG];exact aJ hzl
  have hn0:n≠0:=fun e=>by subst e;simp at hn0
  have hlim:len*n<=16777216:=aK hlim
  rw[eP]at hk
  obtain⟨cs',ys',hk,h1,h2,h3⟩:=zi hp (qc hx len) hk
  obtain⟨h',hkk,hh⟩:=Tr.aW hk
  have hzs:z.cells.size=n:=by have:=bJ hx;simp at this;omega
  subst hzs
  have hys:ys'.length=len*z.cells.size:=by rw[h3,lG];simp
  have hcell:=Gn hn
  have hlen:len<=maxLen:=by
   unfold maxLen
   have:len<=len*z.cells.size:=Nat.le_mul_of_pos_right _ (by omega)
   omega
  have hle:=Ren.jq hnr (.blk w.heap.size 0 len)
  have hr:(ρ.put r (.blk w.heap.size 0 len)) r=some (.blk w.heap.size 0 len):=Ren.dF _ _ _
  have H':=H.newAt (.cells ys'.toArray e) (base:=0) (cap:=len) hrn hgr hnr hh fun ρ' hle hr=> .row hr (heap_alloc_new _ _) (fun j v hv=>by
   obtain⟨x,q1,q2⟩:=dQ h1 hv
   exact⟨x,q2.mono hle,by simpa using q1⟩) (fun m hm=>⟨by cases hm;rfl,fun _=>rfl⟩) (by rw[hcell];simp[hys]) hlen
  have hsl:G (ρ.put r (.blk w.heap.size 0 len)) (.sl r 0 len 0 none) (.slice (some ⟨w.heap.size,0,none⟩) len len):=by
   have:=G.sl (ρ:=ρ.put r (.blk w.heap.size 0 len)) 0 len 0 none hr (by simp) (by simpa using hlen) (by simp)
   simpa using this
  refine⟨_,_,_,h',_,hkk,hle,fun j hj hn=>by rw[Ren.jc hj];exact hn,H', .c hsl,?_⟩
  have FI:(Array.range (len*z.cells.size)).map (z.cells[· %z.cells.size]!)=(jT len z.cells.toList).toArray:=gG z.cells len
  have hbig: ¬(16777216<len*z.cells.size):=by omega
  by_cases h0:len*z.cells.size=0
  ·have hl0:len=0:=by
    rcases Nat.mul_eq_zero.1 h0 with h|h
    ·exact h
    ·exact absurd h hn0
   subst hl0
   have FN:Instr.fill (fun i=>some (i*z.cells.size,z.cells.size)) #[] pv=some ys'.toArray:=h2
   simp[Instr.buildSlice,run_underlying hd,cu hn,Array.range_zero',FN,newRow]
  ·simp[Instr.buildSlice,run_underlying hd,cu hn,hbig,h0,zeroValue,typeInfo,hi,hz,newRow]
   have AB:(Array.map (fun x=>z.cells[x%z.cells.size]!) (Array.range (len*z.cells.size)))=(jT len z.cells.toList).toArray:=FI
   rw[AB]
   simp only[Nat.mul_eq]at h2
   simp[h2]
 ·cases hk
noncomputable def Fg (P:Program)(h:Hp)(nx:Nat)(t:TypeId)(l c:RV)(k:RV->Hp->Nat->Bool):Bool:=
 au (bQ P t) fun d=>(match d with
  | .slice e=>au (nO l) fun l=>au (nO c) fun c=>iff (Nat.ble l c) (au (mY P e) fun i=>vI P e fun zs=>iff (Nat.beq (llen zs) i.size) (iff (Nat.ble c 16777216) (iff (Nat.ble (Nat.mul i.bytes c) 140737488355328) (fL (jT c zs) fun cs=>
     mV h nx (.row cs e (some c)) fun id h nx=>k (.c (.sl id 0 l 0 none)) h nx))))
  |_=>false)
theorem JQ (H:HR P g w0 ρ h nx w){t:TypeId}{l c:RV}{lv cv:Value}(hl:GR ρ l lv)(hc:GR ρ c cv){k:RV->Hp->Nat->Bool}(hk:Fg P h nx t l c k=true):Do P g w0 ρ nx w k (Instr.makeSlice t lv cv):=by
 obtain⟨d,hd,hk⟩:=ah hk
 try simp only[aB,aC,aO]at hd
 split at hk
 ·rename_i e
  obtain⟨m,hm,hk⟩:=ah hk
  obtain⟨n,hn,hk⟩:=ah hk
  obtain⟨q1,rfl⟩:=iT hm hl
  obtain⟨q2,rfl⟩:=iT hn hc
  obtain⟨hmn,hk⟩:=aj hk
  have hmn:=aK hmn
  obtain⟨i',hi',hk⟩:=ah hk
  try simp only[aB,aC,aO]at hi'
  obtain⟨i,z,zs,hi,hz,hk,hx⟩:=qF (ρ:=ρ) hk
  have ei:i'=i:=Option.some.inj (hi'.symm.trans hi)
  rw[ei]at hk
  obtain⟨hzl,hk⟩:=aj hk
  obtain⟨hlim,hk⟩:=aj hk
  obtain⟨hby,hk⟩:=aj hk
  have hzl:zs.length=i.size:=by rw[<-aG];exact aJ hzl
  have hlim:n<=16777216:=aK hlim
  have hby:i.bytes*n<=140737488355328:=aK hby
  rw[eP]at hk
  obtain⟨h',hk,hh⟩:=Tr.aW hk
  have hzs:z.cells.size=i.size:=by have:=bJ hx;simp at this;omega
  have hcell:P.cellsOf e=i.size:=by simp[Program.cellsOf,hi]
  have hmx:n<=maxLen:=by unfold maxLen;omega
  obtain⟨ρ',hle,hr,H'⟩:=H.row (qc hx n) [] e n (some n) (by simp) (by rw[hcell,lG,Array.length_toList,hzs];simp) hmx hh
  have hsl:G ρ' (.sl nx 0 m 0 none) (.slice (some ⟨w.heap.size,0,none⟩) m n):=by
   have:=G.sl (ρ:=ρ') 0 m 0 none hr (by simpa using hmn) (by simpa using hmx) (by simp)
   simpa using this
  refine⟨_,_,ρ',h',nx+1,_,hk,hle,H', .c hsl,?_⟩
  have y7:(i.bytes:Int)*(n:Int)<=281474976710656:=by
   have h0:=Int.ofNat_le.2 hby
   rw[Int.natCast_mul]at h0
   exact Int.le_trans h0 (by decide)
  have:=run_make (P:=P) w t e i z hd hi hz q1 q2 (m:Int) (n:Int) (by omega) (by omega) y7 (by omega)
  rw[this]
  simp only[Int.toNat_natCast]
  rw[<-hzs,gG]
  simp
 ·cases hk
end
end bC
end Go.Proofs.YtakhobfamnjnoaaGreatDoor
