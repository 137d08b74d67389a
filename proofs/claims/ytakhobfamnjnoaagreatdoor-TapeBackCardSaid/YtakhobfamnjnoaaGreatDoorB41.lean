/- The machine's operations: a map's entries; what an interface holds. -/
import Derived.Test.YtakhobfamnjnoaaGreatDoorB40
set_option linter.unusedVariables false
set_option linter.unusedSimpArgs false
namespace Go.Proofs.YtakhobfamnjnoaaGreatDoor
namespace bC
open Go Go.RowKit
section
variable {P:Program} {g:Nat} {w0:World} {ρ:Ren} {h:Hp} {nx:Nat} {w:World}
noncomputable def SL (l:List Nat):Option Nat:=List.rec (motive:=fun _=>Option Nat) none (fun a _ ih=>Option.casesOn ih (some a) some) l
theorem X9 (l:List Nat):SL l=l.getLast?:=by
 induction l with
 |nil=>rfl
 |cons a l ih=>
  show(Option.casesOn (SL l) (some a) some:Option Nat)=_
  rw[ih,List.getLast?_cons]
  cases l.getLast?<;>rfl
noncomputable def TI (s:Nat)(es:List ME):Option ME:=List.rec (motive:=fun _=>Option ME) none (fun e _ ih=>Bool.casesOn (Nat.beq e.born s) ih (some e)) es
theorem Yy {s:Nat}{es:List ME}{xs:List MapEntry}(hx:F2 (GE ρ) es xs): ∀{e:ME},TI s es=some e-> ∃x,xs.find? (fun x=>x.born==s)=some x/\GE ρ e x:=by
 induction hx with
 |nil=>intro e h;cases h
 | @cons a b _ _ hab _ ih=>
   intro e h
   change(Bool.casesOn (Nat.beq a.born s) (TI s _) (some a):Option ME)=some e at h
   cases hb:Nat.beq a.born s with
   |true=>
    rw[hb]at h;cases h
    exact⟨b,by rw[List.find?_cons];simp[hab.2.2,aJ hb],hab⟩
   |false=>
    rw[hb]at h
    obtain⟨x,h1,h2⟩:=ih h
    refine⟨x,?_,h2⟩
    rw[List.find?_cons]
    have:(b.born==s)=false:=by rw[hab.2.2];simpa using nN hb
    rw[this]
    exact h1
noncomputable def NW (h:Hp)(x:RV)(k:RV->List Nat->Bool):Bool:=match x with
 | .c (.ptr id 0)=>au (h.get id) fun o=>(match o with
   | .dN m _ seen stepped=>au (SL seen) fun s=>au (h.get m) fun om=>(match om with
     | .map es clock=>iff (Nat.beq clock stepped) (au (TI s es) fun e=>k (.aN [e.key,e.val]) [id,m])
     |_=>false)
   |_=>false)
 |_=>false
theorem WG (H:HR P g w0 ρ h nx w){x:RV}{v:Value}(hx:GR ρ x v){k:RV->List Nat->Bool}(hk:NW h x k=true):Rd P ρ h k (Instr.entry v):=by
 unfold NW at hk
 split at hk
 ·rename_i id
  replace hk:=ah hk
  obtain⟨o,ho,hk⟩:=hk
  cases o<;>try(cases hk;done)
  rename_i m since seen stepped
  dsimp only at hk
  replace hk:=ah hk
  obtain⟨s,hs,hk⟩:=hk
  replace hk:=ah hk
  obtain⟨om,QF,hk⟩:=hk
  cases om<;>try(cases hk;done)
  rename_i es clock
  dsimp only at hk
  replace hk:=aj hk
  obtain⟨hc,hk⟩:=hk
  have hc:=aJ hc
  replace hk:=ah hk
  obtain⟨e,he,hk⟩:=hk
  rw[X9]at hs
  cases hx with
  |c hx=>cases hx with
   | @ptr _ b base cap _ hr=>
     have core: ∀w',Ob P ρ id (.dN m since seen stepped) w'->(∀bm bs cp,ρ m=some (.blk bm bs cp)->Ob P ρ m (.map es clock) w')-> ∃y:MapEntry,GE ρ e y/\base=0/\ρ m≠none/\(Instr.entry (.pointer (some ⟨b,base+0,none⟩))).run P w'= .ok (.tuple #[y.key,y.val]) w':=fun w' h1 h2=>by
      cases h1 with
      | @dN _ b' _ bm x' y' _ _ _ hr' hm hh=>
        rw[hr]at hr';cases hr'
        obtain⟨xs,hhm,hxs⟩:=(h2 _ _ _ hm).jB hm
        obtain⟨y,h3,h4⟩:=Yy hxs he
        refine⟨y,h4,rfl,by rw[hm];simp,?_⟩
        have hget:=aP (P:=P) hh (fun _ _ _=>by simp)
        have hgm:=aP (P:=P) hhm (fun _ _ _=>by simp)
        simp[Instr.entry,hget,hgm,hs,hc,h3]
     obtain⟨y,hy,hb,hmn,hrun⟩:=core w (H.ob ho hr) (fun _ _ _ hm=>H.ob QF hm)
     refine⟨_,_,_,hk, .aN (.cons hy.1 (.cons hy.2.1 .nil)),fun i hi=>?_,fun w' hw'=>?_⟩
     ·rcases List.mem_cons.1 hi with rfl|hi
      ·rw[hr];simp
      ·have:=List.mem_singleton.1 hi;subst this;exact hmn
     ·obtain⟨y',hy',_,_,hrun'⟩:=core w' (hw' id (by simp) _ ho) (fun _ _ _ _=>hw' m (by simp) _ QF)
      rw[GA.CQ hy.1 hy'.1,GA.CQ hy.2.1 hy'.2.1]
      exact hrun'
 ·cases hk
noncomputable def wI (P:Program)(h:Hp)(x:RV)(t:TypeId)(ok:Bool)(k:RV->List Nat->Bool):Bool:=match x with
 | .c (.eF id)=>au (h.get id) fun o=>(match o with
   | .eF t' v=>au (bQ P t) fun d=>(match d with
     | .interface _=>false
     |_=>Bool.casesOn (Nat.beq t' t) (iff ok (zeroV P t fun z=>k (.aN [z, .c (.bool false)]) [id])) (k (Bool.casesOn ok v.rv (.aN [v, .c (.bool true)])) [id]))
   |_=>false)
 |_=>false
theorem GL (H:HR P g w0 ρ h nx w){x:RV}{v:Value}(hx:GR ρ x v){t xt:TypeId}{ok:Bool}{k:RV->List Nat->Bool}(hk:wI P h x t ok k=true):Rd P ρ h k (Instr.typeAssert v xt t ok):=by
 unfold wI at hk
 split at hk
 ·rename_i id
  replace hk:=ah hk
  obtain⟨o,ho,hk⟩:=hk
  cases o<;>try(cases hk;done)
  rename_i t' av
  dsimp only at hk
  replace hk:=ah hk
  obtain⟨d,hd,hk⟩:=hk
  try simp only[aB,aC,aO]at hd
  have key:(∀l,d≠ .interface l)->t'=t->k (Bool.casesOn ok av.rv (.aN [av, .c (.bool true)])) [id]=true->Rd P ρ h k (Instr.typeAssert v xt t ok):=fun hni e hk2=>by
   subst e
   cases hx with
   |c hx=>cases hx with
    | @eF _ t2 y hr=>
      cases H.ob ho hr with
      |eF hr' hy=>
       rw[hr]at hr';cases hr'
       refine⟨_,if ok then .tuple #[y, .bool true]else y,_,hk2,?_,fun i hi=>by have:=List.mem_singleton.1 hi;subst this;rw[hr];simp,fun w' _=>?_⟩
       ·cases ok with
        |false=>exact hy.rv
        |true=>exact .aN (.cons hy (.cons (.c (.bool _)) .nil))
       ·cases d<;>first|exact absurd rfl (hni _)|(simp[Instr.typeAssert,run_underlying hd])
  split at hk
  ·cases hk
  ·rename_i hni
   cases he:Nat.beq t' t with
   |true=>rw[he]at hk;exact key (fun l e=>hni l e) (aJ he) hk
   |false=>
    rw[he]at hk
    have hne:=nN he
    replace hk:=aj hk
    obtain⟨hok,hk⟩:=hk
    subst hok
    replace hk:=uq (ρ:=ρ) hk
    obtain⟨z,zv,hk,hz,FH⟩:=hk
    cases hx with
    |c hx=>cases hx with
     | @eF _ t2 y hr=>
       cases H.ob ho hr with
       |eF hr' hy=>
        rw[hr]at hr';cases hr'
        refine⟨_,_,_,hk, .aN (.cons hz (.cons (.c (.bool _)) .nil)),fun i hi=>by have:=List.mem_singleton.1 hi;subst this;rw[hr];simp,fun w' _=>?_⟩
        cases d<;>first|exact absurd rfl (hni _)|(simp[Instr.typeAssert,run_underlying hd,hne,FH])
 ·cases hk
noncomputable def Jh (P:Program)(g:Nat)(h:Hp)(t:TypeId)(m key:RV)(k:RV->Hp->Bool):Bool:=
 au (bQ P t) fun d=>(match d with
  | .map kt et=>au (bQ P kt) fun dk=>xu key fun key=>iff (wu P dk key) (match m with
    | .c (.mp id)=>iff (Nat.ble g id) (au (h.get id) fun o=>(match o with
      | .map es clock=>au (pY P dk kt key es 0) fun r=>(match r with
        |some iv=>(match key with
         | .c _=>au (aA es iv.1) fun e=>k (.aN [iv.2, .c (.int .i64 (Int.ofNat e.born))]) h
         |_=>false)
        |none=>zeroV P et fun z=>fL (es++[⟨key,z,clock⟩]) fun es=>h.fU id (some (.map es (Nat.succ clock))) fun h=>k (.aN [z, .c (.int .i64 (Int.ofNat clock))]) h)
      |_=>false))
    |_=>false)
  |_=>false)
theorem MB (H:HR P g w0 ρ h nx w){t:TypeId}{m key:RV}{mv kv:Value}(hm:GR ρ m mv)(hkey:GR ρ key kv){k:RV->Hp->Nat->Bool}(hk:Jh P g h t m key (fun r h=>k r h nx)=true):Do P g w0 ρ nx w k (Instr.mapEntry t mv kv):=by
 replace hk:=ah hk
 obtain⟨d,hd,hk⟩:=hk
 try simp only[aB,aC,aO]at hd
 cases d<;>try(cases hk;done)
 rename_i kt et
 replace hk:=ah hk
 obtain⟨dk,hdk,hk⟩:=hk
 try simp only[aB,aC,aO]at hdk
 replace hk:=lN hkey hk
 obtain⟨ka,hk,hka⟩:=hk
 replace hk:=aj hk
 obtain⟨hok,hk⟩:=hk
 have jF:=fun b w=>zu hdk hka hok b w
 split at hk
 ·rename_i id
  replace hk:=aj hk
  obtain⟨hg,hk⟩:=hk
  replace hk:=ah hk
  obtain⟨o,ho,hk⟩:=hk
  cases o<;>try(cases hk;done)
  rename_i es clock
  replace hk:=ah hk
  obtain⟨r,hr,hk⟩:=hk
  cases hm with
  |c hm=>cases hm with
   | @mp _ bm _ _ fJ=>
     have hob:=H.ob ho fJ
     obtain⟨xs,hh,hxs⟩:=hob.jB fJ
     obtain⟨r',h1,h2⟩:=zh hdk hka hxs hok hr
     have hrb:ρ id=some (.blk bm 0 0):=by
      cases hob with
      |map hr' hh' hx'=>rw[fJ]at hr';cases hr';exact fJ
     cases h2 with
     |none=>
      dsimp only at hk
      replace hk:=uq (ρ:=ρ) hk
      obtain⟨z,zv,hk,hz,FH⟩:=hk
      rw[eP]at hk
      replace hk:=Tr.aW hk
      obtain⟨h',hk,hh'⟩:=hk
      refine⟨_,_,ρ,h',nx,_,hk,Ext.refl _ _,H.bV (x:=Obj.map (xs++[({key:=kv,val:=zv,born:=clock}:MapEntry)]).toArray (clock+1)) ho (aK hg) ⟨_,_,fJ⟩ (fun w' hw'=> .map hrb hw' (bZ hxs (.cons ⟨hka,hz,rfl⟩ .nil))) hh', .aN (.cons hz (.cons (.c (.int _ _)) .nil)),?_⟩
      have hset:=dL (P:=P) (x:=Obj.map (xs++[({key:=kv,val:=zv,born:=clock}:MapEntry)]).toArray (clock+1)) hh (fun _ _ _=>by simp)
      simp[Instr.mapEntry,run_underlying hd,aP hh (fun _ _ _=>by simp),jF,h1,FH,goInt,hset]
     | @some i va' xa' Np=>
       dsimp only at hk
       split at hk
       ·rename_i c
        replace hk:=ah hk
        obtain⟨e,he,hk⟩:=hk
        rw[aF]at he
        obtain⟨_,e2,he2,hkeq,_⟩:=AY hr
        simp only[Nat.sub_zero]at he2
        rw[he]at he2
        cases he2
        obtain⟨hkk,hsame⟩:=EC (ρ:=ρ) hkeq
        obtain⟨xe,hxe,hge⟩:=dQ hxs he
        have hkx:xe.key=kv:=by
         have:=hge.1
         rw[hkk]at this
         exact GA.CQ this hka
        have hsb:Instr.sameBits 10000 kv kv=true:=by
         cases hka with
         |c hka=>exact hsame hka
        have hmod:xs.modify i (fun e=>{e with key:=kv})=xs:=by
         apply List.ext_getElem?
         intro j
         rw[List.getElem?_modify]
         by_cases hij:i=j
         ·subst hij
          rw[hxe]
          simp[<-hkx]
         ·cases hxj:xs[j]?<;>simp[hij]
        refine⟨_,_,ρ,h,nx,_,hk,Ext.refl _ _,H.bV (x:=Obj.map xs.toArray clock) ho (aK hg) ⟨_,_,fJ⟩ (fun w' hw'=> .map hrb hw' hxs) (fun m=>by split;(rename_i e;subst e;exact ho);rfl), .aN (.cons Np (.cons (.c (.int _ _)) .nil)),?_⟩
        have hset:=dL (P:=P) (x:=Obj.map xs.toArray clock) hh (fun _ _ _=>by simp)
        simp[Instr.mapEntry,run_underlying hd,aP hh (fun _ _ _=>by simp),jF,h1,hxe,hkx,Instr.keyThatStays,hsb,hmod,hset,goInt,hge.2.2]
       ·cases hk
 ·cases hk
noncomputable def Kq (s:Nat)(es:List ME):Option Nat:=List.rec (motive:=fun _=>Option Nat) none (fun e _ ih=>Bool.casesOn (Nat.beq e.born s) (Option.casesOn ih none fun i=>some (Nat.succ i)) (some 0)) es
theorem Yx {s:Nat}{es:List ME}{xs:List MapEntry}(hx:F2 (GE ρ) es xs): ∀{i:Nat},Kq s es=some i->xs.findIdx? (fun e=>(e.born:Int)==(s:Int))=some i:=by
 induction hx with
 |nil=>intro i h;cases h
 | @cons a b l m hab _ ih=>
   intro i h
   change(Bool.casesOn (Nat.beq a.born s) (Option.casesOn (Kq s l) none fun i=>some (Nat.succ i)) (some 0):Option Nat)=some i at h
   rw[List.findIdx?_cons]
   cases hb:Nat.beq a.born s with
   |true=>
    rw[hb]at h;cases h
    have:b.born=s:=by rw[hab.2.2];exact aJ hb
    simp[this]
   |false=>
    rw[hb]at h
    have hne: ¬b.born=s:=by rw[hab.2.2];exact nN hb
    cases hf:Kq s l with
    |none=>rw[hf]at h;cases h
    |some j=>
     rw[hf]at h;cases h
     have hne': ¬(b.born:Int)=(s:Int):=by omega
     simp[hne',ih hf]
noncomputable def wU (g:Nat)(h:Hp)(m s v:RV)(k:Hp->Bool):Bool:=match m,s with
 | .c (.mp id), .c (.int .i64 (.ofNat s))=>xu v fun v=>iff (Nat.ble g id) (au (h.get id) fun o=>(match o with
   | .map es clock=>au (Kq s es) fun i=>au (aA es i) fun e=>J6 es i ⟨e.key,v,e.born⟩ fun es=>h.fU id (some (.map es clock)) k
   |_=>false))
 |_,_=>false
theorem Ic (H:HR P g w0 ρ h nx w){t:TypeId}{m s v:RV}{mv sv x:Value}(hm:GR ρ m mv)(hs:GR ρ s sv)(hv:GR ρ v x){k:Hp->Nat->Bool}(hk:wU g h m s v (fun h=>k h nx)=true):CY P g w0 ρ nx w k (Instr.entryStore t mv sv x):=by
 unfold wU at hk
 split at hk
 ·rename_i id st
  replace hk:=lN hv hk
  obtain⟨va,hk,hva⟩:=hk
  replace hk:=aj hk
  obtain⟨hg,hk⟩:=hk
  replace hk:=ah hk
  obtain⟨o,ho,hk⟩:=hk
  cases o<;>try(cases hk;done)
  rename_i es clock
  dsimp only at hk
  replace hk:=ah hk
  obtain⟨i,hi,hk⟩:=hk
  try simp only[aB,aC,aO]at hi
  replace hk:=ah hk
  obtain⟨e,he,hk⟩:=hk
  rw[aF]at he
  replace hk:=DJ hk
  obtain⟨hlt,hk⟩:=hk
  replace hk:=Tr.aW hk
  obtain⟨h',hk,hh'⟩:=hk
  cases hs with
  |c hs=>cases hs with
   |int=>
    cases hm with
    |c hm=>cases hm with
     | @mp _ bm _ _ fJ=>
       have hob:=H.ob ho fJ
       obtain⟨xs,hh,hxs⟩:=hob.jB fJ
       have hrb:ρ id=some (.blk bm 0 0):=by
        cases hob with
        |map hr' hh' hx'=>rw[fJ]at hr';cases hr';exact fJ
       obtain⟨xe,hxe,hge⟩:=dQ hxs he
       have hf:=Yx hxs hi
       have hmod:xs.modify i (fun e=>{e with val:=x})=xs.set i {key:=xe.key,val:=x,born:=xe.born}:=by
        apply List.ext_getElem?
        intro j
        rw[List.getElem?_modify,List.getElem?_set]
        by_cases hij:i=j
        ·subst hij
         simp[hxe,(List.getElem?_eq_some_iff.1 hxe).1,(List.getElem?_eq_some_iff.1 hxe).2]
        ·simp[hij]
       refine⟨ρ,h',nx,_,hk,Ext.refl _ _,H.bV (x:=Obj.map (xs.set i ({key:=xe.key,val:=x,born:=xe.born}:MapEntry)).toArray clock) ho (aK hg) ⟨_,_,fJ⟩ (fun w' hw'=> .map hrb hw' (xU hxs (show GE ρ ⟨e.key,va,e.born⟩ ⟨xe.key,x,xe.born⟩from⟨hge.1,hva,hge.2.2⟩) i)) hh',?_⟩
       have hset:=dL (P:=P) (x:=Obj.map (xs.set i ({key:=xe.key,val:=x,born:=xe.born}:MapEntry)).toArray clock) hh (fun _ _ _=>by simp)
       have hf':(xs.findIdx? fun e=>(e.born:Int)==Int.ofNat st)=some i:=hf
       simp only[Instr.entryStore,Sem.run_bind,aP hh (fun _ _ _=>by simp),Result.andThen_ok,asInt,asIntOf,Sem.run_pure,List.findIdx?_toArray,hf',List.modify_toArray,hmod,hset]
 ·cases hk
noncomputable def QS (P:Program)(g:Nat)(h:Hp)(t:TypeId)(m key:RV)(k:Hp->Bool):Bool:=
 au (bQ P t) fun d=>(match d with
  | .map kt _=>au (bQ P kt) fun dk=>xu key fun key=>iff (wu P dk key) (match m with
    | .c (.mp id)=>iff (Nat.ble g id) (au (h.get id) fun o=>(match o with
      | .map es clock=>au (pY P dk kt key es 0) fun r=>(match r with
        |some iv=>fL (es.take iv.1++es.drop (Nat.succ iv.1)) fun es=>h.fU id (some (.map es clock)) k
        |none=>k h)
      |_=>false))
    |_=>false)
  |_=>false)
theorem TS (H:HR P g w0 ρ h nx w){t t2 ty:TypeId}{m key:RV}{mv kv:Value}(hm:GR ρ m mv)(hkey:GR ρ key kv){k:RV->Hp->Nat->Bool}(hk:QS P g h t m key (fun h=>k .undef h nx)=true):Do P g w0 ρ nx w k (Builtin.delete_ #[t,t2] ty #[mv,kv]):=by
 replace hk:=ah hk
 obtain⟨d,hd,hk⟩:=hk
 try simp only[aB,aC,aO]at hd
 cases d<;>try(cases hk;done)
 rename_i kt et
 replace hk:=ah hk
 obtain⟨dk,hdk,hk⟩:=hk
 try simp only[aB,aC,aO]at hdk
 replace hk:=lN hkey hk
 obtain⟨ka,hk,hka⟩:=hk
 replace hk:=aj hk
 obtain⟨hok,hk⟩:=hk
 have jF:=fun b w=>zu hdk hka hok b w
 split at hk
 ·rename_i id
  replace hk:=aj hk
  obtain⟨hg,hk⟩:=hk
  replace hk:=ah hk
  obtain⟨o,ho,hk⟩:=hk
  cases o<;>try(cases hk;done)
  rename_i es clock
  replace hk:=ah hk
  obtain⟨r,hr,hk⟩:=hk
  cases hm with
  |c hm=>cases hm with
   | @mp _ bm _ _ fJ=>
     have hob:=H.ob ho fJ
     obtain⟨xs,hh,hxs⟩:=hob.jB fJ
     obtain⟨r',h1,h2⟩:=zh hdk hka hxs hok hr
     have hrb:ρ id=some (.blk bm 0 0):=by
      cases hob with
      |map hr' hh' hx'=>rw[fJ]at hr';cases hr';exact fJ
     cases h2 with
     |none=>
      have hset:=dL (P:=P) (x:=Obj.map xs.toArray clock) hh (fun _ _ _=>by simp)
      refine⟨_,_,ρ,h,nx,_,hk,Ext.refl _ _,H.bV (x:=Obj.map xs.toArray clock) ho (aK hg) ⟨_,_,fJ⟩ (fun w' hw'=> .map hrb hw' hxs) (fun m=>by split;(rename_i e;subst e;exact ho);rfl), .undef,?_⟩
      simp[Builtin.delete_,run_underlying hd,aP hh (fun _ _ _=>by simp),jF,h1,hset,Go.undef]
     | @some i va' xa' Np=>
       dsimp only at hk
       rw[eP]at hk
       replace hk:=Tr.aW hk
       obtain⟨h',hk,hh'⟩:=hk
       have hset:=dL (P:=P) (x:=Obj.map (xs.eraseIdx i).toArray clock) hh (fun _ _ _=>by simp)
       refine⟨_,_,ρ,h',nx,_,hk,Ext.refl _ _,H.bV (x:=Obj.map (xs.eraseIdx i).toArray clock) ho (aK hg) ⟨_,_,fJ⟩ (fun w' hw'=> .map hrb hw' (by rw[List.eraseIdx_eq_take_drop_succ];exact bZ (uj hxs i) (um hxs (i+1)))) hh', .undef,?_⟩
       simp[Builtin.delete_,run_underlying hd,aP hh (fun _ _ _=>by simp),jF,h1,hset,Go.undef]
 ·cases hk
end
end bC
end Go.Proofs.YtakhobfamnjnoaaGreatDoor
