/- The machine's operations: structs and rows that are built, append, copy. -/
import Derived.Test.YtakhobfamnjnoaaGreatDoorC40
set_option linter.unusedVariables false
set_option linter.unusedSimpArgs false
namespace Go.Proofs.YtakhobfamnjnoaaGreatDoor
section
namespace bU
open Go Go.RowKit
section
variable {P:Program} {g:Nat} {w0:World} {ρ:Ren} {h:Hp} {nx:Nat} {w:World}
noncomputable def J3 (place:Nat->Option (Nat×Nat))(parts:List (Nat×AV)):List CV->(List CV->Bool)->Bool:=
 List.rec (motive:=fun _=>List CV->(List CV->Bool)->Bool) (fun cs k=>k cs) (fun p _ ih cs k=>au (place p.1) fun os=>au (EN p.2.rv) fun l=>iff (Nat.beq (llen l) os.2) (iff (Nat.ble (Nat.add os.1 os.2) (llen cs)) (W9 l cs os.1 fun cs=>ih cs k))) parts
theorem En (xs:List Value): ∀(cells:Array Value)(off k:Nat),((xs.zipIdx k).foldl (fun cs (c,j)=>cs.setIfInBounds (off+j) c) cells).toList=gB xs cells.toList (off+k):=by
 induction xs with
 |nil=>intro cells off k;rfl
 |cons x xs ih=>
  intro cells off k
  simp only[List.zipIdx_cons,List.foldl_cons,gB]
  rw[ih]
  simp[Nat.add_assoc]
theorem LX {l:List CV}{xs:List Value}(hx:F2 (G ρ) l xs): ∀{cs:List CV}{ys:List Value}(_:F2 (G ρ) cs ys)(n:Nat),F2 (G ρ) (gB l cs n) (gB xs ys n):=by
 induction hx with
 |nil=>intro cs ys hy n;exact hy
 |cons a _ ih=>intro cs ys hy n;exact ih (Aq hy a n) _
theorem Ci {place:Nat->Option (Nat×Nat)}{parts:List (Nat×AV)}{pv:List (Nat×Value)}(hp:F2 (fun a b=>a.1=b.1/\GA ρ a.2 b.2) parts pv): ∀{cs:List CV}{ys:List Value}{k:List CV->Bool},F2 (G ρ) cs ys->J3 place parts cs k=true->
 ∃cs' ys',k cs'=true/\F2 (G ρ) cs' ys'/\Instr.fill place ys.toArray pv=some ys'.toArray/\ys'.length=ys.length:=by
 induction hp with
 |nil=>intro cs ys k hy hk;exact⟨cs,ys,hk,hy,rfl,rfl⟩
 | @cons p q _ _ hpq _ ih=>
   intro cs ys k hy hk
   obtain⟨i,a⟩:=p
   obtain⟨j,v⟩:=q
   obtain⟨rfl,hav⟩:=hpq
   obtain⟨⟨off,sz⟩,hos,hk⟩:=ah hk
   obtain⟨l,hl,hk⟩:=ah hk
   obtain⟨hlen,hk⟩:=aj hk
   have hlen:l.length=sz:=by rw[<-aI];exact aQ hlen
   obtain⟨hb,hk⟩:=aj hk
   have hb:off+sz<=cs.length:=by rw[<-aI];exact aT hb
   obtain⟨hfit,hk⟩:=QM hk
   obtain⟨xs,h1,hx⟩:=Bh hl hav.rv
   obtain⟨cs',ys',hk,h3,h4,h5⟩:=ih (LX hx hy off) hk
   refine⟨cs',ys',hk,h3,?_,by rw[h5,qW]⟩
   have hxl:=dw hx
   have hyl:=dw hy
   have e1: ¬(v.cells.size≠sz\/off+v.cells.size>ys.toArray.size):=by
    rw[h1]
    simp only[List.size_toArray]
    rintro(e|e)
    ·exact e (by omega)
    ·omega
   have e2:(v.cells.zipIdx.foldl (fun cs (c,j)=>cs.setIfInBounds (off+j) c) ys.toArray)=(gB xs ys off).toArray:=by
    apply Array.ext'
    rw[h1]
    have:=En xs ys.toArray off 0
    simpa using this
   show Instr.fill place ys.toArray ((i,v)::_)=_
   simp only[Instr.fill,hos]
   have e1':(decide (v.cells.size≠sz)||decide (off+v.cells.size>ys.toArray.size))=false:=by simpa using e1
   rw[if_neg (by simpa using e1),e2]
   exact h4
noncomputable def aar (P:Program)(t:TypeId)(parts:List (Nat×AV))(k:RV->Bool):Bool:=
 yS P t fun cs=>au (dL P t) fun d=>(match d with
  | .struct fs=>au (fs.toList.mapM fun f=>(pX P f.type).map fun i=>(f.offset,i.size)) fun places=>J3 (aF places) parts cs fun cs=>k (.agg cs)
  | .array _ e=>au (sQ P e) fun n=>J3 (fun i=>some (Nat.mul i n,n)) parts cs fun cs=>k (.agg cs)
  |_=>false)
theorem aaq {t:TypeId}{parts:List (Nat×AV)}{pv:List (Nat×Value)}(hp:F2 (fun a b=>a.1=b.1/\GA ρ a.2 b.2) parts pv){k:RV->Bool}(hk:aar P t parts k=true):Pu P ρ k (Instr.build t pv.toArray):=by
 obtain⟨i,z,cs,hi,hz,hk,hx⟩:=uz (ρ:=ρ) hk
 obtain⟨d,hd,hk⟩:=ah hk
 try simp only[aG,aH,aW]at hd
 split at hk
 ·obtain⟨places,hpl,hk⟩:=ah hk
  simp only[aH]at hpl
  obtain⟨cs',ys',hk,h1,h2,_⟩:=Ci hp hx hk
  refine⟨_,_,hk, .agg h1,fun w=>run_build w t _ _ ?_⟩
  have:aF places=fun i=>places.toArray[i]?:=by funext i;rw[aJ];simp
  rw[this]at h2
  simp only[Program.built,hi,hd,hz,hpl]
  simpa using h2
 ·rename_i e _ _ _
  obtain⟨n,hn,hk⟩:=ah hk
  obtain⟨cs',ys',hk,h1,h2,_⟩:=Ci hp hx hk
  refine⟨_,_,hk, .agg h1,fun w=>run_build w t _ _ ?_⟩
  unfold sQ at hn
  rw[aH]at hn
  cases hie:P.info? _ with
  |none=>rw[hie]at hn;cases hn
  |some ie=>
   rw[hie]at hn
   cases hn
   simp only[Program.built,hi,hd,hz,hie]
   simpa using h2
 ·cases hk
noncomputable def mM {α:Type}(n:Nat)(l:List α):List α:=Nat.rec [] (fun _ acc=>l++acc) n
theorem nX {α:Type}(l:List α): ∀n,(mM n l).length=n*l.length
 |0=>by show([]:List α).length=_;simp
 |n+1=>by show(l++mM n l).length=_;rw[List.length_append,nX l n,Nat.succ_mul,Nat.add_comm]
theorem tY {l:List CV}{xs:List Value}(hx:F2 (G ρ) l xs): ∀n,F2 (G ρ) (mM n l) (mM n xs)
 |0=> .nil
 |n+1=>dR hx (tY hx n)
theorem QL {α:Type}(l:List α): ∀(n j:Nat),j<n*l.length->(mM n l)[j]?=l[j%l.length]?
 |0,j,h=>by simp at h
 |n+1,j,h=>by
  show(l++mM n l)[j]?=_
  by_cases hj:j<l.length
  ·rw[List.getElem?_append_left hj,Nat.mod_eq_of_lt hj]
  ·rw[List.getElem?_append_right (by omega),QL l n (j-l.length) (by rw[Nat.succ_mul]at h;omega),<-Nat.mod_eq_sub_mod (by omega)]
theorem jq (z:Array Value)(n:Nat):madeCells z (n*z.size)=(mM n z.toList).toArray:=by
 apply Array.ext'
 apply List.ext_getElem?
 intro j
 by_cases hj:j<n*z.size
 ·have hz:0<z.size:=by
   rcases Nat.eq_zero_or_pos z.size with h|h
   ·rw[h]at hj;simp at hj
   ·exact h
  have hm:=Nat.mod_lt j hz
  have:=QL z.toList n j (by simpa using hj)
  simp only[List.toList_toArray]at*
  rw[this]
  simp[madeCells,hj,hm]
 ·rw[List.getElem?_eq_none (by simp[madeCells];omega),List.getElem?_eq_none (by rw[List.toList_toArray,nX];simpa using hj)]
noncomputable def Gt (P:Program)(h:Hp)(nx:Nat)(t:TypeId)(len:Nat)(parts:List (Nat×AV))(k:RV->Hp->Nat->Bool):Bool:=
 au (dL P t) fun d=>(match d with
  | .slice e=>yS P e fun zs=>au (sQ P e) fun n=>iff (Nat.beq (llen zs) n) (iff (!Nat.beq n 0) (iff (Nat.ble (Nat.mul len n) 16777216) (fL (mM len zs) fun cs=>J3 (fun i=>some (Nat.mul i n,n)) parts cs fun cs=>
     pU h nx (.row cs e (some len)) fun id h nx=>k (.c (.sl id 0 len 0 none)) h nx)))
  |_=>false)
theorem Ku {e n:Nat}(hn:sQ P e=some n):P.cellsOf e=n:=by
 unfold sQ at hn
 rw[aH]at hn
 simp[Program.cellsOf,hn]
theorem Mc (H:HR P g w0 ρ h nx w){t:TypeId}{len:Nat}{parts:List (Nat×AV)}{pv:List (Nat×Value)}(hp:F2 (fun a b=>a.1=b.1/\GA ρ a.2 b.2) parts pv){k:RV->Hp->Nat->Bool}(hk:Gt P h nx t len parts k=true):
 Do P g w0 ρ nx w k (Instr.buildSlice t len pv.toArray):=by
 obtain⟨d,hd,hk⟩:=ah hk
 try simp only[aG,aH,aW]at hd
 split at hk
 ·rename_i e
  obtain⟨i,z,zs,hi,hz,hk,hx⟩:=uz (ρ:=ρ) hk
  obtain⟨n,hn,hk⟩:=ah hk
  obtain⟨hzl,hk⟩:=aj hk
  obtain⟨hn0,hk⟩:=aj hk
  obtain⟨hlim,hk⟩:=aj hk
  have hzl:zs.length=n:=by rw[<-aI];exact aQ hzl
  have hn0:n≠0:=fun e=>by subst e;simp at hn0
  have hlim:len*n<=16777216:=aT hlim
  rw[iF]at hk
  obtain⟨cs',ys',hk,h1,h2,h3⟩:=Ci hp (tY hx len) hk
  obtain⟨h',hkk,hh⟩:=Tr.bJ hk
  have hzs:z.cells.size=n:=by have:=dw hx;simp at this;omega
  subst hzs
  have hys:ys'.length=len*z.cells.size:=by rw[h3,nX];simp
  have hcell:=Ku hn
  have hlen:len<=maxLen:=by
   unfold maxLen
   have:len<=len*z.cells.size:=Nat.le_mul_of_pos_right _ (by omega)
   omega
  obtain⟨ρ',hle,hr,H'⟩:=H.row h1 [] e len (some len) (by simp) (by rw[hcell,hys];simp) hlen hh
  have hsl:G ρ' (.sl nx 0 len 0 none) (.slice (some ⟨w.heap.size,0,none⟩) len len):=by
   have:=G.sl (ρ:=ρ') 0 len 0 none hr (by simp) (by simpa using hlen) (by simp)
   simpa using this
  refine⟨_,_,ρ',h',nx+1,_,hkk,hle,H', .c hsl,?_⟩
  have JI:(Array.range (len*z.cells.size)).map (z.cells[· %z.cells.size]!)=(mM len z.cells.toList).toArray:=jq z.cells len
  have hbig: ¬(16777216<len*z.cells.size):=by omega
  by_cases h0:len*z.cells.size=0
  ·have hl0:len=0:=by
    rcases Nat.mul_eq_zero.1 h0 with h|h
    ·exact h
    ·exact absurd h hn0
   subst hl0
   have JK:Instr.fill (fun i=>some (i*z.cells.size,z.cells.size)) #[] pv=some ys'.toArray:=h2
   simp[Instr.buildSlice,run_underlying hd,dW hn,Array.range_zero',JK,newRow]
  ·simp[Instr.buildSlice,run_underlying hd,dW hn,hbig,h0,zeroValue,typeInfo,hi,hz,newRow]
   have Ee:(Array.map (fun x=>z.cells[x%z.cells.size]!) (Array.range (len*z.cells.size)))=(mM len z.cells.toList).toArray:=JI
   rw[Ee]
   simp only[Nat.mul_eq]at h2
   simp[h2]
 ·cases hk
theorem HR.newAt (H:HR P g w0 ρ h nx w)(x:Obj){r base cap:Nat}{o:AO}{h':Hp}(hr:r<nx)(hg:g<=r)(hn:ρ r=none)(hh: ∀m,h'.get m=if m=r then some o else h.get m)
 (ho: ∀ρ',ρ.le ρ'->ρ' r=some (.blk w.heap.size base cap)->Ob P ρ' r o (w.alloc x)):
 HR P g w0 (ρ.put r (.blk w.heap.size base cap)) h' nx (w.alloc x):=by
 have hle:=Ren.kT hn (.blk w.heap.size base cap)
 have hb: ∀id b,jw (ρ.put r (.blk w.heap.size base cap)) id b->(id=r/\b=w.heap.size)\/(id≠r/\jw ρ id b):=fun id b ⟨bs,cp,hb⟩=>by
  unfold Ren.put at hb
  split at hb
  ·rename_i e;cases hb;exact .inl ⟨e,rfl⟩
  ·exact .inr ⟨by assumption,_,_,hb⟩
 have hle0:w0.heap.size<=w.heap.size:=H.kept.size
 refine⟨fun id hid=>?_,H.tV,fun id p hp hid=>?_,fun i j oi oj b hi hj bi bj=>?_,fun id b hid hg=>?_,fun id b hid=>?_,?_,fun i hi=>(H.glob i hi).imp fun _ h=>hle _ _ h,fun id hid=>by rw[hh,if_neg (by omega)];exact H.hfr id hid⟩
 ·unfold Ren.put;rw[if_neg (by omega)];exact H.fresh id hid
 ·rw[hh]at hp
  split at hp
  ·rename_i e;cases hp;subst e;exact ho _ hle (Ren.fA _ _ _)
  ·rename_i hne;rw[Ren.kD hne]at hid;exact((H.objs id p hp hid).frame (fun b _ hb=>Below.heap_alloc _ _ _ hb)).mono hle
 ·rcases hb _ _ bi with⟨ei,eb⟩|⟨ni,bi⟩<;>rcases hb _ _ bj with⟨ej,eb'⟩|⟨nj,bj⟩
  ·rw[ei,ej]
  ·exact absurd (H.lt _ _ bj) (by omega)
  ·exact absurd (H.lt _ _ bi) (by omega)
  ·rw[hh,if_neg ni]at hi
   rw[hh,if_neg nj]at hj
   exact H.inj i j _ _ b hi hj bi bj
 ·rcases hb _ _ hid with⟨_,eb⟩|⟨_,hid⟩
  ·omega
  ·exact H.own id b hid hg
 ·rw[World.size_alloc]
  rcases hb _ _ hid with⟨_,eb⟩|⟨_,hid⟩
  ·omega
  ·have:=H.lt id b hid;omega
 ·exact⟨H.kept.os,H.kept.tape,H.kept.output,by rw[World.size_alloc];omega,fun k hk=>(Below.heap_alloc _ _ _ (by omega)).trans (H.kept.block k hk)⟩
noncomputable def Dt (P:Program)(h:Hp)(r:Nat)(t:TypeId)(len:Nat)(parts:List (Nat×AV))(k:RV->Hp->Bool):Bool:=
 au (dL P t) fun d=>(match d with
  | .slice e=>yS P e fun zs=>au (sQ P e) fun n=>iff (Nat.beq (llen zs) n) (iff (!Nat.beq n 0) (iff (Nat.ble (Nat.mul len n) 16777216) (fL (mM len zs) fun cs=>J3 (fun i=>some (Nat.mul i n,n)) parts cs fun cs=>
     h.iZ r (some (.row cs e (some len))) fun h=>k (.c (.sl r 0 len 0 none)) h)))
  |_=>false)
theorem Ii (H:HR P g w0 ρ h nx w){r:Nat}(hrn:r<nx)(hgr:g<=r)(hnr:ρ r=none){t:TypeId}{len:Nat}{parts:List (Nat×AV)}{pv:List (Nat×Value)}(hp:F2 (fun a b=>a.1=b.1/\GA ρ a.2 b.2) parts pv){k:RV->Hp->Bool}(hk:Dt P h r t len parts k=true):
 ∃v x ρ' h' w',k v h'=true/\ρ.le ρ'/\(∀j,j≠r->ρ j=none->ρ' j=none)/\HR P g w0 ρ' h' nx w'/\GR ρ' v x/\(Instr.buildSlice t len pv.toArray).run P w= .ok x w':=by
 obtain⟨d,hd,hk⟩:=ah hk
 try simp only[aG,aH,aW]at hd
 split at hk
 ·rename_i e
  obtain⟨i,z,zs,hi,hz,hk,hx⟩:=uz (ρ:=ρ) hk
  obtain⟨n,hn,hk⟩:=ah hk
  obtain⟨hzl,hk⟩:=aj hk
  obtain⟨hn0,hk⟩:=aj hk
  obtain⟨hlim,hk⟩:=aj hk
  have hzl:zs.length=n:=by rw[<-aI];exact aQ hzl
  have hn0:n≠0:=fun e=>by subst e;simp at hn0
  have hlim:len*n<=16777216:=aT hlim
  rw[iF]at hk
  obtain⟨cs',ys',hk,h1,h2,h3⟩:=Ci hp (tY hx len) hk
  obtain⟨h',hkk,hh⟩:=Tr.bJ hk
  have hzs:z.cells.size=n:=by have:=dw hx;simp at this;omega
  subst hzs
  have hys:ys'.length=len*z.cells.size:=by rw[h3,nX];simp
  have hcell:=Ku hn
  have hlen:len<=maxLen:=by
   unfold maxLen
   have:len<=len*z.cells.size:=Nat.le_mul_of_pos_right _ (by omega)
   omega
  have hle:=Ren.kT hnr (.blk w.heap.size 0 len)
  have hr:(ρ.put r (.blk w.heap.size 0 len)) r=some (.blk w.heap.size 0 len):=Ren.fA _ _ _
  have H':=H.newAt (.cells ys'.toArray e) (base:=0) (cap:=len) hrn hgr hnr hh fun ρ' hle hr=> .row hr (heap_alloc_new _ _) (fun j v hv=>by
   obtain⟨x,q1,q2⟩:=fO h1 hv
   exact⟨x,q2.mono hle,by simpa using q1⟩) (fun m hm=>⟨by cases hm;rfl,fun _=>rfl⟩) (by rw[hcell];simp[hys]) hlen
  have hsl:G (ρ.put r (.blk w.heap.size 0 len)) (.sl r 0 len 0 none) (.slice (some ⟨w.heap.size,0,none⟩) len len):=by
   have:=G.sl (ρ:=ρ.put r (.blk w.heap.size 0 len)) 0 len 0 none hr (by simp) (by simpa using hlen) (by simp)
   simpa using this
  refine⟨_,_,_,h',_,hkk,hle,fun j hj hn=>by rw[Ren.kD hj];exact hn,H', .c hsl,?_⟩
  have JI:(Array.range (len*z.cells.size)).map (z.cells[· %z.cells.size]!)=(mM len z.cells.toList).toArray:=jq z.cells len
  have hbig: ¬(16777216<len*z.cells.size):=by omega
  by_cases h0:len*z.cells.size=0
  ·have hl0:len=0:=by
    rcases Nat.mul_eq_zero.1 h0 with h|h
    ·exact h
    ·exact absurd h hn0
   subst hl0
   have JK:Instr.fill (fun i=>some (i*z.cells.size,z.cells.size)) #[] pv=some ys'.toArray:=h2
   simp[Instr.buildSlice,run_underlying hd,dW hn,Array.range_zero',JK,newRow]
  ·simp[Instr.buildSlice,run_underlying hd,dW hn,hbig,h0,zeroValue,typeInfo,hi,hz,newRow]
   have Ee:(Array.map (fun x=>z.cells[x%z.cells.size]!) (Array.range (len*z.cells.size)))=(mM len z.cells.toList).toArray:=JI
   rw[Ee]
   simp only[Nat.mul_eq]at h2
   simp[h2]
 ·cases hk
noncomputable def Jw (P:Program)(h:Hp)(nx:Nat)(t:TypeId)(l c:RV)(k:RV->Hp->Nat->Bool):Bool:=
 au (dL P t) fun d=>(match d with
  | .slice e=>au (qB l) fun l=>au (qB c) fun c=>iff (Nat.ble l c) (au (pX P e) fun i=>yS P e fun zs=>iff (Nat.beq (llen zs) i.size) (iff (Nat.ble c 16777216) (iff (Nat.ble (Nat.mul i.bytes c) 140737488355328) (fL (mM c zs) fun cs=>
     pU h nx (.row cs e (some c)) fun id h nx=>k (.c (.sl id 0 l 0 none)) h nx))))
  |_=>false)
theorem OA (H:HR P g w0 ρ h nx w){t:TypeId}{l c:RV}{lv cv:Value}(hl:GR ρ l lv)(hc:GR ρ c cv){k:RV->Hp->Nat->Bool}(hk:Jw P h nx t l c k=true):Do P g w0 ρ nx w k (Instr.makeSlice t lv cv):=by
 obtain⟨d,hd,hk⟩:=ah hk
 try simp only[aG,aH,aW]at hd
 split at hk
 ·rename_i e
  obtain⟨m,hm,hk⟩:=ah hk
  obtain⟨n,hn,hk⟩:=ah hk
  obtain⟨q1,rfl⟩:=jZ hm hl
  obtain⟨q2,rfl⟩:=jZ hn hc
  obtain⟨hmn,hk⟩:=aj hk
  have hmn:=aT hmn
  obtain⟨i',hi',hk⟩:=ah hk
  try simp only[aG,aH,aW]at hi'
  obtain⟨i,z,zs,hi,hz,hk,hx⟩:=uz (ρ:=ρ) hk
  have ei:i'=i:=Option.some.inj (hi'.symm.trans hi)
  rw[ei]at hk
  obtain⟨hzl,hk⟩:=aj hk
  obtain⟨hlim,hk⟩:=aj hk
  obtain⟨hby,hk⟩:=aj hk
  have hzl:zs.length=i.size:=by rw[<-aI];exact aQ hzl
  have hlim:n<=16777216:=aT hlim
  have hby:i.bytes*n<=140737488355328:=aT hby
  rw[iF]at hk
  obtain⟨h',hk,hh⟩:=Tr.bJ hk
  have hzs:z.cells.size=i.size:=by have:=dw hx;simp at this;omega
  have hcell:P.cellsOf e=i.size:=by simp[Program.cellsOf,hi]
  have hmx:n<=maxLen:=by unfold maxLen;omega
  obtain⟨ρ',hle,hr,H'⟩:=H.row (tY hx n) [] e n (some n) (by simp) (by rw[hcell,nX,Array.length_toList,hzs];simp) hmx hh
  have hsl:G ρ' (.sl nx 0 m 0 none) (.slice (some ⟨w.heap.size,0,none⟩) m n):=by
   have:=G.sl (ρ:=ρ') 0 m 0 none hr (by simpa using hmn) (by simpa using hmx) (by simp)
   simpa using this
  refine⟨_,_,ρ',h',nx+1,_,hk,hle,H', .c hsl,?_⟩
  have BX:(i.bytes:Int)*(n:Int)<=281474976710656:=by
   have h0:=Int.ofNat_le.2 hby
   rw[Int.natCast_mul]at h0
   exact Int.le_trans h0 (by decide)
  have:=run_make (P:=P) w t e i z hd hi hz q1 q2 (m:Int) (n:Int) (by omega) (by omega) BX (by omega)
  rw[this]
  simp only[Int.toNat_natCast]
  rw[<-hzs,jq]
  simp
 ·cases hk
end
end bU
end
section
namespace bU
open Go Go.RowKit
section
variable {P:Program} {g:Nat} {w0:World} {ρ:Ren} {h:Hp} {nx:Nat} {w:World}
def Src (P:Program)(w:World)(t2 e:TypeId)(size n:Nat)(x:Value)(news:List Value):Prop:=
 (((∃e2,P.underlying t2=some (.slice e2))\/P.underlying t2=some .string)/\(Builtin.lenOf x).run P w= .ok n w/\(Builtin.firstCells size n x).run P w= .ok news.toArray w/\(Builtin.firstCells size n x).run P w.drew= .ok news.toArray w.drew)\/
 (∃q q' i z,P.underlying t2=some (.int q)/\x= .int q' (n:Int)/\n<=1099511627776/\P.info? e=some i/\i.zero=some z/\n*i.bytes<=140737488355328/\z.cells.size=size/\news=mM n z.cells.toList)
theorem jV (z:Array Value)(n:Nat):Builtin.zeroCells z n=(mM n z.toList).toArray:=jq z n
theorem mY {t t2 ty e:TypeId}{i:TypeInfo}(ht:P.underlying t=some (.slice e))(hi:P.info? e=some i){b o sLen sCap n:Nat}{x:Value}{news:List Value}(hs:Src P w t2 e i.size n x news)
 (hroom:sLen+n<=sCap) {w':World} (hst:(storeCells ⟨b,o+sLen*i.size,none⟩ news).run P w= .ok () w'):
 (Builtin.append_ #[t,t2] ty #[.slice (some ⟨b,o,none⟩) sLen sCap,x]).run P w= .ok (.slice (some ⟨b,o,none⟩) (sLen+n) sCap) w':=by
 rcases hs with⟨⟨e2,h2⟩|h2,hl,hf,_⟩|⟨q,q',i',z,h2,rfl,hn,hi',hz,hby,hsz,rfl⟩
 ·simp[Builtin.append_,run_underlying ht,run_underlying h2,sizeOf,typeInfo,hi,hl,hroom,hf,Addr.add_lit,hst]
 ·simp[Builtin.append_,run_underlying ht,run_underlying h2,sizeOf,typeInfo,hi,hl,hroom,hf,Addr.add_lit,hst]
 ·rw[hi]at hi';cases hi'
  have hw:IntKind.i64.wrap (n:Int)=n:=by rw[IntKind.wrap_i64];omega
  have hn0: ¬((n:Int)<0):=by omega
  have BX: ¬(281474976710656<(n:Int)*(i.bytes:Int)):=by
   have h0:=Int.ofNat_le.2 hby
   rw[Int.natCast_mul]at h0
   intro hh
   have:=Int.lt_of_lt_of_le hh h0
   revert this;decide
  by_cases h0:n*i.size=0
  ·have hnil:mM n z.cells.toList=[]:=List.eq_nil_of_length_eq_zero (by rw[nX];simpa[hsz]using h0)
   rw[hnil]at hst
   have hst':w'=w:=by simp[storeCells]at hst;exact hst.symm
   subst hst'
   simp[Builtin.append_,run_underlying ht,run_underlying h2,sizeOf,typeInfo,hi,asInt,asIntOf,hw,hn0,BX,hroom,h0,storeCells]
  ·simp[Builtin.append_,run_underlying ht,run_underlying h2,sizeOf,typeInfo,hi,asInt,asIntOf,hw,hn0,BX,hroom,h0,zeroValue,hz,jV,Addr.add_lit,hst]
theorem xR {t t2 ty e:TypeId}{i:TypeInfo}{z:Value}(ht:P.underlying t=some (.slice e))(hi:P.info? e=some i)(hz:i.zero=some z){a:Option Addr}{sLen sCap n:Nat}{x:Value}{news olds:List Value}(hs:Src P w t2 e i.size n x news)
 (ho:(Builtin.firstCells i.size sLen (.slice a sLen sCap)).run P w.drew= .ok olds.toArray w.drew) (hg:sCap<sLen+n) (h63:sLen+n<=1099511627776) (Eh:(sLen+n)*i.bytes<=140737488355328):
 (Builtin.append_ #[t,t2] ty #[.slice a sLen sCap,x]).run P w= .ok (.slice (some ⟨w.heap.size,0,none⟩) (sLen+n) (grownCap w (sLen+n) sCap e))
   (w.drew.alloc (.cells ((olds++news)++mM (grownCap w (sLen+n) sCap e-(sLen+n)) z.cells.toList).toArray e)):=by
 have hroom: ¬(sLen+n<=sCap):=by omega
 have hfit: ¬(281474976710656<Builtin.nextslicecap (sLen+n) sCap*i.bytes):=by
  have:=growslice_fits hg Eh
  omega
 rcases hs with⟨⟨e2,h2⟩|h2,hl,_,hf⟩|⟨q,q',i',z',h2,rfl,hn,hi',hz',hby,hsz,rfl⟩
 ·have h63': ¬(9223372036854775807<((sLen:Int)+(n:Int))):=by omega
  simp[Builtin.append_,run_underlying ht,run_underlying h2,sizeOf,typeInfo,hi,hl,hroom,h63',hfit,Question.forced,ho,hf,zeroValue,hz,newRow,grownCap,jV]
 ·have h63': ¬(9223372036854775807<((sLen:Int)+(n:Int))):=by omega
  simp[Builtin.append_,run_underlying ht,run_underlying h2,sizeOf,typeInfo,hi,hl,hroom,h63',hfit,Question.forced,ho,hf,zeroValue,hz,newRow,grownCap,jV]
 ·rw[hi]at hi';cases hi'
  rw[hz]at hz';cases hz'
  have h63': ¬(9223372036854775807<((sLen:Int)+(n:Int))):=by omega
  have hw:IntKind.i64.wrap (n:Int)=n:=by rw[IntKind.wrap_i64];omega
  have hn0: ¬((n:Int)<0):=by omega
  have BX: ¬(281474976710656<(n:Int)*(i.bytes:Int)):=by
   have h0:=Int.ofNat_le.2 hby
   rw[Int.natCast_mul]at h0
   intro hh
   have:=Int.lt_of_lt_of_le hh h0
   revert this;decide
  by_cases h0:n*i.size=0
  ·have hnil:mM n z.cells.toList=[]:=List.eq_nil_of_length_eq_zero (by rw[nX];simpa[hsz]using h0)
   simp[Builtin.append_,run_underlying ht,run_underlying h2,sizeOf,typeInfo,hi,asInt,asIntOf,hw,hn0,BX,hroom,h0,h63',hfit,Question.forced,ho,zeroValue,hz,newRow,grownCap,jV,hnil]
  ·simp[Builtin.append_,run_underlying ht,run_underlying h2,sizeOf,typeInfo,hi,asInt,asIntOf,hw,hn0,BX,hroom,h0,h63',hfit,Question.forced,ho,zeroValue,hz,newRow,grownCap,jV]
noncomputable def FM (s:List Nat):List CV:=List.rec (motive:=fun _=>List CV) [] (fun b _ ih=> .int .u8 (Int.ofNat b)::ih) s
noncomputable def La (h:Hp)(sz:Nat)(x:RV)(k:Nat->List CV->Bool):Bool:=match x with
 | .c .bZ=>k 0 []
 | .c (.AA _)=>k 0 []
 | .c (.sl id off len _ _)=>au (h.get id) fun o=>au (rowOf o) fun cells=>fL ((cells.drop off).take (Nat.mul len sz)) fun l=>iff (Nat.beq (llen l) (Nat.mul len sz)) (k len l)
 | .c (.str s)=>iff (Nat.beq sz 1) (fL (FM s) fun l=>k (llen s) l)
 |_=>false
theorem Ob.drew {id:Nat}{o:AO}(h:Ob P ρ id o w):Ob P ρ id o w.drew:=h.frame fun _ _ _=>rfl
theorem Kv {s:List Nat}(hs:small s):F2 (G ρ) (FM s) ((ba s).data.toList.map fun b=> .int .u8 b.toNat):=by
 have e:(ba s).data.toList=s.map UInt8.ofNat:=by simp[ba]
 rw[e,List.map_map]
 induction s with
 |nil=>exact .nil
 |cons b s ih=>
  have hb:=hs b (by simp)
  have:((fun b:UInt8=>Value.int .u8 b.toNat)∘UInt8.ofNat) b= .int .u8 (Int.ofNat b):=by simp[UInt8.toNat_ofNat',Nat.mod_eq_of_lt hb]
  show F2 (G ρ) (CV.int .u8 (Int.ofNat b)::FM s) (((fun b:UInt8=>Value.int .u8 b.toNat)∘UInt8.ofNat) b::s.map _)
  rw[this]
  exact .cons (.int _ _) (ih (fun x hx=>hs x (by simp[hx])) (by simp[ba]))
theorem Uz (H:HR P g w0 ρ h nx w){sz:Nat}{x:RV}{v:Value}(hx:GR ρ x v){k:Nat->List CV->Bool}(hk:La h sz x k=true):
 ∃n l xs,k n l=true/\F2 (G ρ) l xs/\xs.length=n*sz/\(Builtin.lenOf v).run P w= .ok n w/\(Builtin.firstCells sz n v).run P w= .ok xs.toArray w/\(Builtin.firstCells sz n v).run P w.drew= .ok xs.toArray w.drew:=by
 unfold La at hk
 split at hk
 ·cases hx with
  |c hx=>cases hx;exact⟨0,[],[],hk, .nil,by simp,by simp[Builtin.lenOf],by simp[Builtin.firstCells],by simp[Builtin.firstCells]⟩
 ·cases hx with
  |c hx=>cases hx with
   |AA=>exact⟨0,[],[],hk, .nil,by simp,by simp[Builtin.lenOf],by simp[Builtin.firstCells,loadCells,loadCellsFrom],by simp[Builtin.firstCells,loadCells,loadCellsFrom]⟩
 ·rename_i id off len _ _
  obtain⟨o,ho,hk⟩:=ah hk
  obtain⟨cells,hrow,hk⟩:=ah hk
  rw[iF]at hk
  obtain⟨hl,hk⟩:=aj hk
  have hl:((cells.drop off).take (Nat.mul len sz)).length=len*sz:=by rw[<-aI];exact aQ hl
  cases hx with
  |c hx=>cases hx with
   |sl _ _ _ _ hr h1 h2 h3=>
    have hob:=H.ob ho hr
    obtain⟨xs,hxs,hc⟩:=hob.cells hrow hr off (Nat.mul len sz)
    obtain⟨ys,hys,hc'⟩:=hob.drew.cells hrow hr off (Nat.mul len sz)
    have:=J5 hxs hys
    subst this
    have hlen:xs.length=len*sz:=by rw[<-dw hxs,hl]
    exact⟨len,_,xs,hk,hxs,hlen,by simp[Builtin.lenOf],run_firstCells_some w sz len _ len _ xs hlen hc,run_firstCells_some w.drew sz len _ len _ xs hlen hc'⟩
 ·rename_i s
  obtain⟨h1,hk⟩:=aj hk
  have h1:=aQ h1
  rw[iF,aI]at hk
  cases hx with
  |c hx=>cases hx with
   |str _ hs=>
    have he:(ba s).extract 0 s.length=ba s:=by rw[SN];simp
    refine⟨s.length,_,_,hk,Kv hs,by simp[h1,ba],by simp[Builtin.lenOf,lQ],?_,?_⟩<;>
    ·simp[Builtin.firstCells,he]
     simp[ba]
 ·cases hk
theorem HR.moved (H:HR P g w0 ρ h nx w){id b base cap:Nat}{o o':AO}(hid:h.get id=some o)(hg:g<=id)(hr:ρ id=some (.blk b base cap)){w':World}(hs:w'.heap.size=w.heap.size)(hos:w'.os=w.os)(ht:w'.tape=w.tape)(hout:w'.output=w.output)
 (hk: ∀k,k≠b->w'.heap[k]?=w.heap[k]?) {h1 h2:Hp} (hh1: ∀m,h1.get m=if m=id then none else h.get m) (hh2: ∀m,h2.get m=if m=nx then some o' else h1.get m) {base' cap':Nat}
 (ho: ∀ρ':Ren,ρ.le ρ'->ρ' nx=some (.blk b base' cap')->Ob P ρ' nx o' w'): ∃ρ',Ext nx (nx+1) ρ ρ'/\ρ' nx=some (.blk b base' cap')/\HR P g w0 ρ' h2 (nx+1) w':=by
 have hle:=Ren.kT (H.fresh nx (Nat.le_refl _)) (.blk b base' cap')
 have hlow:=H.own id b ⟨_,_,hr⟩ hg
 have hlt:=H.lt id b ⟨_,_,hr⟩
 have hb: ∀i c,jw (ρ.put nx (.blk b base' cap')) i c->(i=nx/\c=b)\/(i≠nx/\jw ρ i c):=fun i c ⟨bs,cp,hb⟩=>by
  unfold Ren.put at hb
  split at hb
  ·rename_i e;cases hb;exact .inl ⟨e,rfl⟩
  ·exact .inr ⟨by assumption,_,_,hb⟩
 have live: ∀i oi,i≠nx->h2.get i=some oi->i≠id/\h.get i=some oi:=fun i oi hi hoi=>by
  rw[hh2,if_neg hi,hh1]at hoi
  split at hoi
  ·cases hoi
  ·exact⟨by assumption,hoi⟩
 refine⟨_,Ext.put (H.fresh nx (Nat.le_refl _)) _,Ren.fA _ _ _,⟨fun i hi=>?_,by have:=H.tV;omega,fun i p hp hn=>?_,fun i j oi oj c hi hj bi bj=>?_,fun i c hc hgi=>?_,fun i c hc=>?_,⟨hos.trans H.kept.os,ht.trans H.kept.tape,hout.trans H.kept.output,by rw[hs];exact H.kept.size,fun k hk'=>(hk k (by omega)).trans (H.kept.block k hk')⟩,fun i hi=>(H.glob i hi).imp fun _ h=>hle _ _ h,fun i hi=>by rw[hh2,if_neg (by omega),hh1];split;rfl;exact H.hfr i (by omega)⟩⟩
 ·unfold Ren.put;rw[if_neg (by omega)];exact H.fresh i (by omega)
 ·by_cases hi:i=nx
  ·subst hi
   rw[hh2,if_pos rfl]at hp
   cases hp
   exact ho _ hle (Ren.fA _ _ _)
  ·obtain⟨hne,hp⟩:=live i p hi hp
   rw[Ren.kD hi]at hn
   refine((H.objs i p hp hn).frame (fun c hc _=>hk c (fun e=>hne ?_))).mono hle
   subst e
   exact H.inj i id _ _ c hp hid hc ⟨_,_,hr⟩
 ·rcases hb _ _ bi with⟨ei,eb⟩|⟨ni,bi2⟩<;>rcases hb _ _ bj with⟨ej,eb'⟩|⟨nj,bj2⟩
  ·rw[ei,ej]
  ·obtain⟨hne,hj⟩:=live j oj nj hj
   rw[eb]at bj2
   exact absurd (H.inj j id _ _ b hj hid bj2 ⟨_,_,hr⟩) hne
  ·obtain⟨hne,hi⟩:=live i oi ni hi
   rw[eb']at bi2
   exact absurd (H.inj i id _ _ b hi hid bi2 ⟨_,_,hr⟩) hne
  ·exact H.inj i j _ _ c (live i oi ni hi).2 (live j oj nj hj).2 bi2 bj2
 ·rcases hb _ _ hc with⟨_,eb⟩|⟨_,hc⟩
  ·omega
  ·exact H.own i c hc hgi
 ·rw[hs]
  rcases hb _ _ hc with⟨_,eb⟩|⟨_,hc⟩
  ·omega
  ·exact H.lt i c hc
theorem xQ {t t2 ty e:TypeId}{i:TypeInfo}(ht:P.underlying t=some (.slice e))(hi:P.info? e=some i){x:Value}{news:List Value}(hs:Src P w t2 e i.size 0 x news)(hn:news=[]):
 (Builtin.append_ #[t,t2] ty #[.slice none 0 0,x]).run P w= .ok (.slice none 0 0) w:=by
 subst hn
 rcases hs with⟨⟨e2,h2⟩|h2,hl,hf,_⟩|⟨q,q',i',z,h2,rfl,hn,hi',hz,hby,hsz,_⟩
 ·simp[Builtin.append_,run_underlying ht,run_underlying h2,sizeOf,typeInfo,hi,hl,hf]
 ·simp[Builtin.append_,run_underlying ht,run_underlying h2,sizeOf,typeInfo,hi,hl,hf]
 ·have hw:IntKind.i64.wrap 0=0:=rfl
  simp[Builtin.append_,run_underlying ht,run_underlying h2,sizeOf,typeInfo,hi,asInt,asIntOf,hw]
noncomputable def tN (h:Hp)(nx:Nat)(e:TypeId)(len n:Nat)(cells:List CV)(k:RV->Hp->Nat->Bool):Bool:=
 fL cells fun cells=>pU h nx (.row cells e none) fun id h nx=>fN (Nat.add len n) fun m=>k (.c (.sl id 0 m 0 none)) h nx
noncomputable def Md (g:Nat)(h:Hp)(nx:Nat)(e:TypeId)(sz:Nat)(s:RV)(n:Nat)(news:List CV)(k:RV->Hp->Nat->Bool):Bool:=match s with
 | .c .bZ=>Nat.casesOn n (k s h nx) fun m=>tN h nx e 0 (Nat.succ m) news k
 | .c (.AA _)=>Nat.casesOn n (k s h nx) fun _=>false
 | .c (.sl id off len cut lim)=>Nat.casesOn n (k s h nx) fun m=>au (h.get id) fun o=>(match o with
   | .row cells e' _=>fL ((cells.drop off).take (Nat.mul len sz)) fun olds=>iff (Nat.beq (llen olds) (Nat.mul len sz)) (match roomOf h id cut lim with
     |some c=>Bool.casesOn (Nat.ble (Nat.add len (Nat.succ m)) c) (tN h nx e len (Nat.succ m) (olds++news) k) (EO g h id (Nat.add off (Nat.mul len sz)) news fun h=>fN (Nat.add len (Nat.succ m)) fun l=>k (.c (.sl id off l cut lim)) h nx)
     |none=>iff (Nat.beq e' e) (iff (Nat.beq off (Nat.mul cut sz)) (iff (Nat.ble g id) (h.iZ id none fun h=>tN h nx e len (Nat.succ m) (olds++news) k))))
   |_=>false)
 |_=>false
noncomputable def uZ (s:RV):Nat:=match s with| .c (.sl _ _ len _ _)=>len|_=>0
theorem VR (H:HR P g w0 ρ h nx w){t t2 ty e:TypeId}{i:TypeInfo}{z:Value}(ht:P.underlying t=some (.slice e))(hi:P.info? e=some i)(hz:i.zero=some z)(hzs:z.cells.size=i.size){n:Nat}{s:RV}{sv x:Value}{news:List CV}{xs:List Value}(hsv:GR ρ s sv)
 (hs:Src P w t2 e i.size n x xs) (hx:F2 (G ρ) news xs) (hlen:xs.length=n*i.size) (hb1:n+uZ s<=1099511627776) (hb2:(uZ s+n)*i.bytes<=140737488355328)
 {k:RV->Hp->Nat->Bool} (hk:Md g h nx e i.size s n news k=true):Do P g w0 ρ nx w k (Builtin.append_ #[t,t2] ty #[sv,x]):=by
 have hcell:P.cellsOf e=i.size:=by simp[Program.cellsOf,hi]
 have grow: ∀{h1:Hp}{a:Option Addr}{sLen sCap:Nat}{oc:List CV}{olds:List Value},HR P g w0 ρ h1 nx w->F2 (G ρ) oc olds->olds.length=sLen*i.size->(Builtin.firstCells i.size sLen (.slice a sLen sCap)).run P w.drew= .ok olds.toArray w.drew->sCap<sLen+n->
  sLen+n<=1099511627776->(sLen+n)*i.bytes<=140737488355328->tN h1 nx e sLen n (oc++news) k=true->Do P g w0 ρ nx w k (Builtin.append_ #[t,t2] ty #[.slice a sLen sCap,x]):=fun{h1 a sLen sCap oc olds} H1 hoc hol hfc hgr h63 hby hk=>by
  unfold tN at hk
  rw[iF]at hk
  obtain⟨h',hk,hh⟩:=Tr.bJ hk
  dsimp only at hk
  rw[gW]at hk
  have hcap:=grownCap_le_maxLen w (sLen+n) sCap e (by unfold maxLen;omega)
  have hge:=grownCap_ge w (sLen+n) sCap e
  obtain⟨ρ',hle,hr,H'⟩:=H1.drew.row (dR hoc hx) (mM (grownCap w (sLen+n) sCap e-(sLen+n)) z.cells.toList) e (grownCap w (sLen+n) sCap e) none (by simp)
   (by rw[hcell,nX,List.length_append,hol,hlen,Array.length_toList,hzs,<-Nat.add_mul,<-Nat.add_mul];exact Nat.mul_le_mul_right _ (by omega)) hcap hh
  have hsl:G ρ' (.sl nx 0 (sLen+n) 0 none) (.slice (some ⟨w.heap.size,0,none⟩) (sLen+n) (grownCap w (sLen+n) sCap e)):=by
   have:=G.sl (ρ:=ρ') 0 (sLen+n) 0 none hr (by simpa using hge) (by simpa using hcap) (by simp)
   simpa using this
  exact⟨_,_,ρ',h',nx+1,_,hk,hle,H', .c hsl,xR ht hi hz hs hfc hgr h63 hby⟩
 have none0:n=0->xs=[]:=fun e=>List.eq_nil_of_length_eq_zero (by rw[hlen,e];simp)
 unfold Md at hk
 split at hk
 ·cases hsv with
  |c hsv=>cases hsv with
   |bZ=>
    cases n with
    |zero=>
     have hk0:k (.c .bZ) h nx=true:=hk
     exact⟨_,_,ρ,h,nx,w,hk0,Ext.refl _ _,H, .c .bZ,xQ ht hi hs (none0 rfl)⟩
    |succ m=>exact grow (olds:=[]) H .nil (by simp) (run_firstCells_none w.drew _ _ _ _) (Nat.lt_of_lt_of_le (Nat.succ_pos m) (Nat.le_add_left _ _)) (by rw[Nat.zero_add];exact hb1) hb2 hk
 ·rename_i eid
  cases hsv with
  |c hsv=>cases hsv with
   | @AA _ b o cap hr hm=>
     cases n with
     |zero=>
      have hk0:k (.c (.AA eid)) h nx=true:=hk
      have hst:(storeCells ⟨b,o+0*i.size,none⟩ xs).run P w= .ok () w:=by rw[none0 rfl];rfl
      exact⟨_,_,ρ,h,nx,w,hk0,Ext.refl _ _,H, .c (.AA hr hm),mY ht hi hs (by omega) hst⟩
     |succ m=>cases hk
 ·rename_i id off len cut lim
  cases hsv with
  |c hsv=>cases hsv with
   | @sl _ b base cap _ _ _ _ hr h1 h2 h3=>
     cases n with
     |zero=>
      have hk0:k (.c (.sl id off len cut lim)) h nx=true:=hk
      have hst:(storeCells ⟨b,base+off+len*i.size,none⟩ xs).run P w= .ok () w:=by rw[none0 rfl];rfl
      exact⟨_,_,ρ,h,nx,w,hk0,Ext.refl _ _,H, .c (.sl _ _ _ _ hr h1 h2 h3),mY ht hi hs (by omega) hst⟩
     |succ m=>
      obtain⟨o,ho,hk1⟩:=ah hk
      clear hk
      cases o<;>try(cases hk1;done)
      rename_i cells e' cp
      dsimp only at hk1
      rw[iF]at hk1
      obtain⟨hol,hk2⟩:=aj hk1
      clear hk1
      have hol:((cells.drop off).take (Nat.mul len i.size)).length=len*i.size:=by rw[<-aI];exact aQ hol
      have hob:=H.ob ho hr
      obtain⟨os,hos,hoc⟩:=hob.drew.cells rfl hr off (Nat.mul len i.size)
      have abP:os.length=len*i.size:=by rw[<-dw hos,hol]
      have hfc: ∀C,(Builtin.firstCells i.size len (.slice (some ⟨b,base+off,none⟩) len C)).run P w.drew= .ok os.toArray w.drew:=fun C=>run_firstCells_some w.drew i.size len _ len C os abP hoc
      split at hk2
      ·rename_i c hc
       have hC:=DJ H hr hc
       rw[hC]at h1 h2⊢
       cases hbl:Nat.ble (Nat.add len (Nat.succ m)) c with
       |false=>
        rw[hbl]at hk2
        exact grow H hos abP (hfc c) (by
         have: ¬len+(m+1)<=c:=fun hh=>by have h2:Nat.ble (Nat.add len (Nat.succ m)) c=true:=Ag hh;rw[h2]at hbl;cases hbl
         omega) (by rw[Nat.add_comm];exact hb1) hb2 hk2
       |true=>
        rw[hbl]at hk2
        have hfit:len+(m+1)<=c:=aT hbl
        obtain⟨h',w',hk3,hst,H'⟩:=Bl H hr hx hk2
        rw[gW]at hk3
        refine⟨_,_,ρ,h',nx,w',hk3,Ext.refl _ _,H',?_,mY ht hi hs hfit (by rw[<-hst];simp[Nat.add_assoc])⟩
        have:=G.sl (ρ:=ρ) off (len+(m+1)) cut lim hr (by rw[hC];exact hfit) (by rw[hC];exact h2) h3
        rw[hC]at this
        exact .c this
      ·rename_i hc
       obtain⟨he,hk3⟩:=aj hk2
       obtain⟨hoff,hk4⟩:=aj hk3
       obtain⟨abS,hk5⟩:=aj hk4
       clear hk2 hk3 hk4
       have he:e'=e:=aQ he
       have hoff:off=cut*i.size:=aQ hoff
       have abS:=aT abS
       have hlim:lim=none:=by
        cases lim with
        |none=>rfl
        |some c=>simp[roomOf]at hc
       obtain⟨hd,hk6,hhd⟩:=Tr.bJ hk5
       obtain⟨C,hC⟩: ∃C,lim.getD (cap-cut)=C:=⟨_,rfl⟩
       rw[hC]at h1 h2⊢
       rw[hlim,Option.getD_none]at hC
       by_cases hfit:len+(m+1)<=C
       ·cases hob with
        | @row _ b' base' cap' _ _ _ cs hr' hh hcl hcap hsz hm=>
          rw[hr]at hr';cases hr'
          rw[he,hcell]at hsz
          have Ed:base+off+len*i.size+xs.length<=cs.size:=by
           have e1:off+(len+(m+1))*i.size<=cap*i.size:=by
            rw[hoff,<-Nat.add_mul]
            exact Nat.mul_le_mul_right _ (by omega)
           rw[Nat.add_mul]at e1
           rw[hlen]
           omega
          have hrun:=run_storeCells_at P b (base+off+len*i.size) e xs 0 cs w (by rw[<-he];exact hh) (by simpa using Ed) (Af hx)
          simp only[Nat.add_zero]at hrun
          unfold tN at hk6
          rw[iF]at hk6
          obtain⟨h',JJ,hh'⟩:=Tr.bJ hk6
          dsimp only at JJ
          rw[gW]at JJ
          have hcsz:(cs.toList.take (base+off+len*i.size)++xs++cs.toList.drop (base+off+len*i.size+xs.length)).toArray.size=cs.size:=by
           simp;omega
          obtain⟨ρ',hle,hr2,H'⟩:=H.moved (w':=w.setRow b (cs.toList.take (base+off+len*i.size)++xs++cs.toList.drop (base+off+len*i.size+xs.length)).toArray) (base':=base+off) (cap':=C)
           ho abS hr (by simp[World.setRow]) rfl rfl rfl (fun k hk=>by simp only[World.setRow];rw[Array.getElem?_modify,if_neg (fun e=>hk e.symm)]) hhd hh' (fun ρ' hle hr2=>by
            refine .row hr2 (setRow_heap w b cs _ e (0,0) (by rw[<-he];exact hh)) (fun j v hv=>?_) (by simp) ?_ h2
            ·rw[List.getElem?_toArray,Ae xs cs.toList (base+off+len*i.size) (base+off+j) (by simpa using Ed)]
             by_cases hj:j<len*i.size
             ·rw[List.getElem?_append_left (by omega),List.getElem?_take,if_pos (by simpa using hj),List.getElem?_drop]at hv
              obtain⟨y,h4,h5⟩:=hcl _ _ hv
              rw[if_neg (by omega)]
              exact⟨y,h4.mono hle,by simpa[Nat.add_assoc]using h5⟩
             ·rw[List.getElem?_append_right (by omega),hol]at hv
              obtain⟨y,h4,h5⟩:=fO hx hv
              have:=(List.getElem?_eq_some_iff.1 h4).1
              rw[if_pos (by omega),show base+off+j-(base+off+len*i.size)=j-len*i.size by omega]
              exact⟨y,h5.mono hle,h4⟩
            ·rw[hcsz,hcell]
             have e1:off+C*i.size<=cap*i.size:=by
              rw[hoff,<-Nat.add_mul]
              exact Nat.mul_le_mul_right _ (by omega)
             omega)
          refine⟨_,_,ρ',h',nx+1,_,JJ,hle,H',?_,mY ht hi hs hfit hrun⟩
          have:=G.sl (ρ:=ρ') 0 (len+(m+1)) 0 none hr2 (by simpa using hfit) (by simpa using h2) (by simp)
          exact .c (by simpa using this)
       ·exact grow (H.drop hhd) hos abP (hfc C) (by omega) (by rw[Nat.add_comm];exact hb1) hb2 hk6
 ·cases hk
noncomputable def VQ (P:Program)(g:Nat)(h:Hp)(nx:Nat)(t t2:TypeId)(s x:RV)(k:RV->Hp->Nat->Bool):Bool:=
 au (dL P t) fun d=>(match d with
  | .slice e=>au (pX P e) fun i=>yS P e fun zs=>iff (Nat.beq (llen zs) i.size) (au (dL P t2) fun d2=>
     (match d2 with
       | .int _=>au (qB x) fun n=>iff (Nat.ble n 1099511627776) (iff (Nat.ble (Nat.mul n i.bytes) 140737488355328) (fL (mM n zs) fun l=>iff (Nat.ble (Nat.add n (uZ s)) 1099511627776) (iff (Nat.ble (Nat.mul (Nat.add (uZ s) n) i.bytes) 140737488355328) (Md g h nx e i.size s n l k))))
       | .slice _=>La h i.size x fun n l=>iff (Nat.ble (Nat.add n (uZ s)) 1099511627776) (iff (Nat.ble (Nat.mul (Nat.add (uZ s) n) i.bytes) 140737488355328) (Md g h nx e i.size s n l k))
       | .string=>La h i.size x fun n l=>iff (Nat.ble (Nat.add n (uZ s)) 1099511627776) (iff (Nat.ble (Nat.mul (Nat.add (uZ s) n) i.bytes) 140737488355328) (Md g h nx e i.size s n l k))
       |_=>false))
  |_=>false)
theorem XZ (H:HR P g w0 ρ h nx w){t t2 ty:TypeId}{s x:RV}{sv xv:Value}(hs:GR ρ s sv)(hx:GR ρ x xv){k:RV->Hp->Nat->Bool}(hk:VQ P g h nx t t2 s x k=true):
 Do P g w0 ρ nx w k (Builtin.append_ #[t,t2] ty #[sv,xv]):=by
 obtain⟨d,hd,hk⟩:=ah hk
 try simp only[aG,aH,aW]at hd
 split at hk
 ·rename_i e
  obtain⟨i',hi',hk⟩:=ah hk
  try simp only[aG,aH,aW]at hi'
  obtain⟨i,z,zs,hi,hz,hk,hzx⟩:=uz (ρ:=ρ) hk
  have ei:i'=i:=Option.some.inj (hi'.symm.trans hi)
  rw[ei]at hk
  obtain⟨hzl,hk⟩:=aj hk
  have hzl:zs.length=i.size:=by rw[<-aI];exact aQ hzl
  have hzs:z.cells.size=i.size:=by have:=dw hzx;simp at this;omega
  obtain⟨d2,hd2,hk⟩:=ah hk
  try simp only[aG,aH,aW]at hd2
  have UA:((∃e2,P.underlying t2=some (.slice e2))\/P.underlying t2=some .string)->La h i.size x (fun n l=>iff (Nat.ble (Nat.add n (uZ s)) 1099511627776) (iff (Nat.ble (Nat.mul (Nat.add (uZ s) n) i.bytes) 140737488355328) (Md g h nx e i.size s n l k)))=true->
   Do P g w0 ρ nx w k (Builtin.append_ #[t,t2] ty #[sv,xv]):=fun h2 hk=>by
   obtain⟨n,l,xs,hk,hxs,hlen,hl1,hl2,hl3⟩:=Uz H hx hk
   obtain⟨hb1,hk⟩:=aj hk
   obtain⟨hb2,hk⟩:=aj hk
   exact VR H hd hi hz hzs hs (.inl ⟨h2,hl1,hl2,hl3⟩) hxs hlen (aT hb1) (aT hb2) hk
  split at hk
  ·rename_i q
   obtain⟨n,hn,hk⟩:=ah hk
   obtain⟨q',rfl⟩:=jZ hn hx
   obtain⟨hn1,hk⟩:=aj hk
   obtain⟨hn2,hk⟩:=aj hk
   rw[iF]at hk
   obtain⟨hb1,hk⟩:=aj hk
   obtain⟨hb2,hk⟩:=aj hk
   exact VR H hd hi hz hzs hs (.inr ⟨q,q',i,z,hd2,rfl,aT hn1,hi,hz,aT hn2,hzs,rfl⟩) (tY hzx n) (by rw[nX];simp[hzs]) (aT hb1) (aT hb2) hk
  ·exact UA (.inl ⟨_,hd2⟩) hk
  ·exact UA (.inr hd2) hk
  ·cases hk
 ·cases hk
end
end bU
end
end Go.Proofs.YtakhobfamnjnoaaGreatDoor
