/- The machine's operations: maps that turn, iterators, function values, copy. -/
import Derived.Test.YtakhobfamnjnoaaGreatDoorC42
set_option linter.unusedVariables false
set_option linter.unusedSimpArgs false
namespace Go.Proofs.YtakhobfamnjnoaaGreatDoor
section
namespace bU
open Go Go.RowKit
section
variable {P:Program} {g:Nat} {w0:World} {ρ:Ren} {h:Hp} {nx:Nat} {w:World}
def dO (w:World)(b:Nat)(x:Obj):World:={w with heap:=w.heap.setIfInBounds b x}
theorem fH {b:Nat}{o x:Obj}(hh:w.heap[b]?=some o)(hc: ∀c e f,o≠ .cells c e f):(setObj b x).run P w= .ok () (dO w b x):=by
 cases o<;>simp[setObj,Sem.run,hh,dO]
 exact absurd rfl (hc _ _ _)
theorem HR.dO (H:HR P g w0 ρ h nx w){id b:Nat}{o o':AO}(ho:h.get id=some o)(hg:g<=id)(hb:jw ρ id b){x:Obj}(hx: ∀w':World,w'.heap[b]?=some x->Ob P ρ id o' w'){h':Hp}(hh: ∀m,h'.get m=if m=id then some o' else h.get m):
 HR P g w0 ρ h' nx (dO w b x):=by
 have hlt:=H.lt id b hb
 refine H.turn (w':=bU.dO w b x) ho hg hb (by simp[bU.dO]) rfl rfl rfl (fun k hk=>?_) hh (hx _ ?_)
 ·simp only[bU.dO];rw[Array.getElem?_setIfInBounds_ne (Ne.symm hk)]
 ·simp only[bU.dO];simp[hlt]
theorem Ep {d:TypeDesc}{kt:TypeId}{key:AV}: ∀{es:List ME}{i j:Nat}{v:AV},tX P d kt key es i=some (some (j,v))->i<=j/\ ∃e,es[j-i]?=some e/\oZ P d kt key e.key=some true/\e.val=v
 |[],i,j,v,h=>by cases h
 |e::es,i,j,v,h=>by
  change(match oZ P d kt key e.key with|some true=>some (some (i,e.val))|some false=>tX P d kt key es (i+1)|none=>none)=some (some (j,v))at h
  split at h
  ·rename_i hb
   cases h
   exact⟨Nat.le_refl _,e,by simp,hb,rfl⟩
  ·obtain⟨h1,e',h2,h3⟩:=Ep h
   refine⟨by omega,e',?_,h3⟩
   rw[show j-i=(j-(i+1))+1 by omega]
   simpa using h2
  ·cases h
theorem IQ {d:TypeDesc}{kt:TypeId}{c:CV}{b:AV}(h:oZ P d kt (.c c) b=some true):b= .c c/\ ∀{x:Value},G ρ c x->Instr.sameBits 10000 x x=true:=by
 have hb:b= .c c:=by unfold oZ at h;split at h<;>simp_all[qg,Ai]
 refine⟨hb,fun{x} hx=>?_⟩
 subst hb
 cases hx<;>first|(simp[Instr.sameBits];done)|(simp[Instr.sameBits,beq_toListBytes];done)|(unfold oZ at h;split at h<;>simp_all)
noncomputable def LK (P:Program)(g:Nat)(h:Hp)(t:TypeId)(m key v:RV)(k:Hp->Bool):Bool:=
 au (dL P t) fun d=>(match d with
  | .map kt _=>au (dL P kt) fun dk=>zW key fun key=>iff (zf P dk key) (zW v fun v=>(match m with
    | .c (.mp id)=>iff (Nat.ble g id) (au (h.get id) fun o=>(match o with
      | .map es clock=>au (tX P dk kt key es 0) fun r=>(match r with
        |some iv=>(match key with
         | .c _=>au (aF es iv.1) fun e=>OQ es iv.1 ⟨key,v,e.born⟩ fun es=>h.iZ id (some (.map es clock)) k
         |_=>false)
        |none=>fL (es++[⟨key,v,clock⟩]) fun es=>h.iZ id (some (.map es (Nat.succ clock))) k)
      |_=>false))
    |_=>false))
  |_=>false)
theorem Jv (H:HR P g w0 ρ h nx w){t:TypeId}{m key v:RV}{mv kv x:Value}(hm:GR ρ m mv)(hkey:GR ρ key kv)(hv:GR ρ v x){k:Hp->Nat->Bool}(hk:LK P g h t m key v (fun h=>k h nx)=true):Gx P g w0 ρ nx w k (Instr.mapUpdate t mv kv x):=by
 replace hk:=ah hk
 obtain⟨d,hd,hk⟩:=hk
 try simp only[aG,aH,aW]at hd
 cases d<;>try(cases hk;done)
 rename_i kt et
 replace hk:=ah hk
 obtain⟨dk,hdk,hk⟩:=hk
 try simp only[aG,aH,aW]at hdk
 replace hk:=oC hkey hk
 obtain⟨ka,hk,hka⟩:=hk
 replace hk:=aj hk
 obtain⟨hok,hk⟩:=hk
 replace hk:=oC hv hk
 obtain⟨va,hk,hva⟩:=hk
 have lI:=fun b w=>CP hdk hka hok b w
 split at hk
 ·rename_i id
  replace hk:=aj hk
  obtain⟨hg,hk⟩:=hk
  replace hk:=ah hk
  obtain⟨o,ho,hk⟩:=hk
  cases o<;>try(cases hk;done)
  rename_i es clock
  replace hk:=ah hk
  obtain⟨r,hr,hk⟩:=hk
  cases hm with
  |c hm=>cases hm with
   | @mp _ bm _ _ iP=>
     have hob:=H.ob ho iP
     obtain⟨xs,hh,hxs⟩:=hob.lD iP
     obtain⟨r',h1,h2⟩:=Ce hdk hka hxs hok hr
     have hrb:ρ id=some (.blk bm 0 0):=by
      cases hob with
      |map hr' hh' hx'=>rw[iP]at hr';cases hr';exact iP
     cases h2 with
     |none=>
      dsimp only at hk
      rw[iF]at hk
      replace hk:=Tr.bJ hk
      obtain⟨h',hk,hh'⟩:=hk
      refine⟨ρ,h',nx,_,hk,Ext.refl _ _,H.dO (x:=Obj.map (xs++[({key:=kv,val:=x,born:=clock}:MapEntry)]).toArray (clock+1)) ho (aT hg) ⟨_,_,iP⟩ (fun w' hw'=> .map hrb hw' (dR hxs (.cons ⟨hka,hva,rfl⟩ .nil))) hh',?_⟩
      simp[Instr.mapUpdate,run_underlying hd,aY hh (fun _ _ _=>by simp),lI,h1]
      exact fH hh (fun _ _ _=>by simp)
     | @some i va' xa' Rl=>
       dsimp only at hk
       split at hk
       ·rename_i c
        replace hk:=ah hk
        obtain⟨e,he,hk⟩:=hk
        rw[aJ]at he
        replace hk:=Ht hk
        obtain⟨hi,hk⟩:=hk
        replace hk:=Tr.bJ hk
        obtain⟨h',hk,hh'⟩:=hk
        obtain⟨_,e2,he2,hkeq,_⟩:=Ep hr
        simp only[Nat.sub_zero]at he2
        rw[he]at he2
        cases he2
        obtain⟨hkk,hsame⟩:=IQ (ρ:=ρ) hkeq
        obtain⟨xe,hxe,hge⟩:=fO hxs he
        have hkx:xe.key=kv:=by
         have:=hge.1
         rw[hkk]at this
         exact GA.Gn this hka
        have hsb:Instr.sameBits 10000 kv kv=true:=by
         cases hka with
         |c hka=>exact hsame hka
        have hmod:xs.toArray.modify i (fun e=>{e with key:=kv,val:=x})=(xs.set i {key:=kv,val:=x,born:=xe.born}).toArray:=by
         apply Array.ext'
         apply List.ext_getElem?
         intro j
         simp only[List.modify_toArray,List.getElem?_modify,List.getElem?_set]
         by_cases hij:i=j
         ·subst hij;simp[hxe,(List.getElem?_eq_some_iff.1 hxe).1,(List.getElem?_eq_some_iff.1 hxe).2]
         ·simp[hij]
        refine⟨ρ,h',nx,_,hk,Ext.refl _ _,H.dO (x:=Obj.map (xs.set i ({key:=kv,val:=x,born:=xe.born}:MapEntry)).toArray clock) ho (aT hg) ⟨_,_,iP⟩ (fun w' hw'=> .map hrb hw' (Aq hxs (show GE ρ ⟨.c c,va,e.born⟩ ⟨kv,x,xe.born⟩from⟨hka,hva,hge.2.2⟩) i)) hh',?_⟩
        simp[Instr.mapUpdate,run_underlying hd,aY hh (fun _ _ _=>by simp),lI,h1,hxe,hkx,Instr.keyThatStays,hsb]
        have ahp:(xs.modify i (fun e=>{e with key:=kv,val:=x})).toArray=(xs.set i {key:=kv,val:=x,born:=xe.born}).toArray:=by simpa using hmod
        rw[ahp]
        exact fH hh (fun _ _ _=>by simp)
       ·cases hk
 ·cases hk
noncomputable def QG (P:Program)(h:Hp)(nx:Nat)(t:TypeId)(r:Option RV)(k:RV->Hp->Nat->Bool):Bool:=
 match r with
 |none=>pU h nx (.map [] 0) fun id h nx=>k (.c (.mp id)) h nx
 |some r=>au (dL P t) fun d=>(match d with
  | .map _ _=>au (qB r) fun _=>pU h nx (.map [] 0) fun id h nx=>k (.c (.mp id)) h nx
  |_=>false)
theorem TS (H:HR P g w0 ρ h nx w){t:TypeId}{r:Option RV}{rv:Option Value}(hr:Option.Rel (GR ρ) r rv){k:RV->Hp->Nat->Bool}(hk:QG P h nx t r k=true):Do P g w0 ρ nx w k (Instr.makeMap t rv):=by
 have core:pU h nx (.map [] 0) (fun id h nx=>k (.c (.mp id)) h nx)=true->(Instr.makeMap t rv).run P w= .ok (.map (some w.heap.size)) (w.alloc (.map #[] 0))->Do P g w0 ρ nx w k (Instr.makeMap t rv):=fun hk hrun=>by
  replace hk:=Tr.bJ hk
  obtain⟨h',hk,hh⟩:=hk
  obtain⟨ρ',hle,hr',H'⟩:=H.new (.map #[] 0) (base:=0) (cap:=0) hh fun ρ' _ hr'=> .map hr' (xs:=[]) (heap_alloc_new _ _) .nil
  exact⟨_,_,ρ',h',nx+1,_,hk,hle,H', .c (.mp hr'),hrun⟩
 cases hr with
 |none=>exact core hk (by simp[Instr.makeMap])
 |some hr=>
  replace hk:=ah hk
  obtain⟨d,hd,hk⟩:=hk
  try simp only[aG,aH,aW]at hd
  cases d<;>try(cases hk;done)
  replace hk:=ah hk
  obtain⟨n,hn,hk⟩:=hk
  obtain⟨q,rfl⟩:=jZ hn hr
  exact core hk (by simp[Instr.makeMap,run_underlying hd,asInt,asIntOf])
end
end bU
end
section
namespace bU
open Go Go.RowKit
section
variable {P:Program} {g:Nat} {w0:World} {ρ:Ren} {h:Hp} {nx:Nat} {w:World}
noncomputable def YV (P:Program)(h:Hp)(nx:Nat)(t:TypeId)(x:RV)(k:RV->Hp->Nat->Bool):Bool:=
 au (dL P t) fun d=>(match d,x with
  | .string, .c (.str s)=>pU h nx (.sit s 0) fun id h nx=>k (.c (.ptr id 0)) h nx
  | .map _ _, .c (.mp id)=>au (h.get id) fun o=>(match o with
    | .map _ clock=>pU h nx (.fJ id clock [] clock) fun id h nx=>k (.c (.ptr id 0)) h nx
    |_=>false)
  |_,_=>false)
theorem YU (H:HR P g w0 ρ h nx w){t:TypeId}{x:RV}{v:Value}(hx:GR ρ x v){k:RV->Hp->Nat->Bool}(hk:YV P h nx t x k=true):Do P g w0 ρ nx w k (Instr.range t v):=by
 replace hk:=ah hk
 obtain⟨d,hd,hk⟩:=hk
 try simp only[aG,aH,aW]at hd
 split at hk
 ·cases hx with
  |c hx=>cases hx with
   |str _ hs=>
    replace hk:=Tr.bJ hk
    obtain⟨h',hk,hh⟩:=hk
    obtain⟨ρ',hle,hr',H'⟩:=H.new (.stringIter (ba _) 0) (base:=0) (cap:=0) hh fun ρ' _ hr'=> .sit hr' (heap_alloc_new _ _) hs
    exact⟨_,_,ρ',h',nx+1,_,hk,hle,H', .c (.ptr 0 hr'),by simp[Instr.range,run_underlying hd]⟩
 ·replace hk:=ah hk
  obtain⟨o,ho,hk⟩:=hk
  cases o<;>try(cases hk;done)
  cases hx with
  |c hx=>cases hx with
   | @mp _ bm _ _ hr=>
     replace hk:=Tr.bJ hk
     obtain⟨h',hk,hh⟩:=hk
     obtain⟨xs,hm,hxs⟩:=(H.ob ho hr).lD hr
     obtain⟨ρ',hle,hr',H'⟩:=H.new (.mapIter (some bm) _ #[] _) (base:=0) (cap:=0) hh fun ρ' hle hr'=> .fJ (seen:=[]) hr' (hle _ _ hr) (heap_alloc_new _ _)
     exact⟨_,_,ρ',h',nx+1,_,hk,hle,H', .c (.ptr 0 hr'),run_range_map w t _ _ bm _ _ hd hm⟩
 ·cases hk
noncomputable def nextK (g:Nat)(h:Hp)(x:RV)(isS:Bool)(k:RV->Hp->Bool):Bool:=match x with
 | .c (.ptr id off)=>iff (Nat.beq off 0) (iff (Nat.ble g id) (au (h.get id) fun o=>(match o with
   | .sit s pos=>iff isS (match aF s pos with
     |none=>iff (Nat.ble (llen s) pos) (k (.aK [.c (.bool false)]) h)
     |some b=>iff (Nat.ble (Nat.succ b) 128) (fN (Nat.succ pos) fun p=>h.iZ id (some (.sit s p)) fun h=>k (.aK [.c (.bool true), .c (.int .i64 (Int.ofNat pos)), .c (.int .i32 (Int.ofNat b))]) h))
   | .fJ m since seen stepped=>iff (!isS) (au (h.get m) fun o=>(match o with
     | .map es clock=>(match seen with
       |[]=>(match es with
        |[]=>k (.aK [.c (.bool false)]) h
        |[e]=>iff (Nat.ble (Nat.succ e.born) since) (h.iZ id (some (.fJ m since [e.born] clock)) fun h=>k (.aK [.c (.bool true),e.key,e.val]) h)
        |_=>false)
       |[b]=>(match es with
        |[]=>k (.aK [.c (.bool false)]) h
        |[e]=>iff (Nat.beq e.born b) (iff (Nat.ble (Nat.succ e.born) stepped) (k (.aK [.c (.bool false)]) h))
        |_=>false)
       |_=>false)
     |_=>false))
   |_=>false)))
 |_=>false
theorem abo (H:HR P g w0 ρ h nx w){x:RV}{v:Value}{ty:TypeId}(hx:GR ρ x v){isS:Bool}{k:RV->Hp->Nat->Bool}(hk:nextK g h x isS (fun r h=>k r h nx)=true):Do P g w0 ρ nx w k (Instr.next v isS ty):=by
 unfold nextK at hk
 split at hk
 ·rename_i id off
  replace hk:=aj hk
  obtain⟨h0,hk⟩:=hk
  have h0:=aQ h0
  subst h0
  replace hk:=aj hk
  obtain⟨hg,hk⟩:=hk
  have hg:=aT hg
  replace hk:=ah hk
  obtain⟨o,ho,hk⟩:=hk
  cases hx with
  |c hx=>cases hx with
   | @ptr _ b base cap _ hr=>
     cases o<;>try(cases hk;done)
     ·rename_i s pos
      dsimp only at hk
      replace hk:=aj hk
      obtain⟨hi,hk⟩:=hk
      subst hi
      cases H.ob ho hr with
      | @sit _ b' _ _ hr' hh hs=>
        rw[hr]at hr';cases hr'
        have hget:=aY (P:=P) hh (fun _ _ _=>by simp)
        split at hk
        ·replace hk:=aj hk
         obtain⟨hl,hk⟩:=hk
         have hl:=aT hl
         rw[aI]at hl
         refine⟨_,_,ρ,h,nx,w,hk,Ext.refl _ _,H, .aK (.cons (.c (.bool _)) .nil),?_⟩
         have: ¬pos<(ba s).size:=by rw[lQ];omega
         simp[Instr.next,hget,this]
        ·rename_i bb hbb
         rw[aJ]at hbb
         replace hk:=aj hk
         obtain⟨ha,hk⟩:=hk
         have ha:bb<128:=aT ha
         rw[gW]at hk
         replace hk:=Tr.bJ hk
         obtain⟨h',hk,hh'⟩:=hk
         have hlt:=(List.getElem?_eq_some_iff.1 hbb).1
         have hlt':pos<(ba s).size:=by rw[lQ];exact hlt
         obtain⟨e1,e2⟩:=aax hs hbb
         have e3:(ba s)[pos]=UInt8.ofNat bb:=by
          have:=e1
          rw[getElem?_pos (ba s) pos hlt']at this
          exact Option.some.inj this
         refine⟨_,_,ρ,h',nx,_,hk,Ext.refl _ _,H.dO (x:= .stringIter (ba s) (pos+1)) ho hg ⟨_,_,hr⟩ (fun w' hw'=> .sit hr hw' hs) hh', .aK (.cons (.c (.bool _)) (.cons (.c (.int _ _)) (.cons (.c (.int _ _)) .nil))),?_⟩
         have hdec:Utf8.decode (ba s) pos=(((ba s)[pos]).toNat,1):=decode_ascii (ba s) pos hlt' (by rw[e3,e2];exact ha)
         simp only[Instr.next,hget,Sem.run_bind,Result.andThen_ok,hlt',if_true,hdec]
         rw[fH hh (fun _ _ _=>by simp)]
         simp[e3,e2,goInt]
     ·rename_i m since seen stepped
      dsimp only at hk
      replace hk:=aj hk
      obtain⟨hi,hk⟩:=hk
      have hi:isS=false:=by simpa using hi
      subst hi
      replace hk:=ah hk
      obtain⟨om,Vw,hk⟩:=hk
      cases om<;>try(cases hk;done)
      rename_i es clock
      dsimp only at hk
      cases H.ob ho hr with
      | @fJ _ b' _ bm _ _ _ _ _ hr' hm hh=>
        rw[hr]at hr';cases hr'
        have hget:=aY (P:=P) hh (fun _ _ _=>by simp)
        obtain⟨xs,hhm,hxs⟩:=(H.ob Vw hm).lD hm
        have hgm:=aY (P:=P) hhm (fun _ _ _=>by simp)
        split at hk
        ·split at hk
         ·cases hxs
          exact⟨_,_,ρ,h,nx,w,hk,Ext.refl _ _,H, .aK (.cons (.c (.bool _)) .nil),by simp[Instr.next,hget,hgm,Question.forced]⟩
         ·rename_i e
          replace hk:=aj hk
          obtain⟨hb,hk⟩:=hk
          have hb:e.born<since:=aT hb
          replace hk:=Tr.bJ hk
          obtain⟨h',hk,hh'⟩:=hk
          cases hxs with
          | @cons _ xe _ _ hge t=>
            cases t
            have hbx:xe.born<since:=by rw[hge.2.2];exact hb
            refine⟨_,_,ρ,h',nx,_,hk,Ext.refl _ _,H.dO (x:= .mapIter (some bm) since [xe.born].toArray clock) ho hg ⟨_,_,hr⟩ (fun w' hw'=>by rw[hge.2.2]at hw';exact .fJ hr hm hw') hh', .aK (.cons (.c (.bool _)) (.cons hge.1 (.cons hge.2.1 .nil))),?_⟩
            have aiu: ¬since<=xe.born:=by omega
            simp[Instr.next,hget,hgm,Question.forced,hbx,aiu]
            rw[fH hh (fun _ _ _=>by simp)]
            simp
         ·cases hk
        ·rename_i b0
         split at hk
         ·cases hxs
          exact⟨_,_,ρ,h,nx,w,hk,Ext.refl _ _,H, .aK (.cons (.c (.bool _)) .nil),by simp[Instr.next,hget,hgm,Question.forced]⟩
         ·rename_i e
          replace hk:=aj hk
          obtain⟨hb,hk⟩:=hk
          have hb:=aQ hb
          replace hk:=aj hk
          obtain⟨hst,hk⟩:=hk
          have hst:e.born<stepped:=aT hst
          cases hxs with
          | @cons _ xe _ _ hge t=>
            cases t
            have hbx:xe.born=b0:=by rw[hge.2.2];exact hb
            have hst': ¬stepped<=b0:=by rw[<-hb];omega
            refine⟨_,_,ρ,h,nx,w,hk,Ext.refl _ _,H, .aK (.cons (.c (.bool _)) .nil),?_⟩
            simp[Instr.next,hget,hgm,Question.forced,hbx,hst']
         ·cases hk
        ·cases hk
 ·cases hk
theorem HR.Vq (H:HR P g w0 ρ h nx w){o:AO}{h':Hp}(hh: ∀m,h'.get m=if m=nx then some o else h.get m): ∀m o,h.get m=some o->h'.get m=some o:=fun m o hm=>by
 rw[hh]
 split
 ·rename_i e
  rw[e,H.hfr nx (Nat.le_refl _)]at hm
  cases hm
 ·exact hm
noncomputable def NM (h:Hp)(nx:Nat)(fn:Fn)(first caps:List AV)(k:RV->Hp->Nat->Bool):Bool:=match fn with
 | .func f=>pU h nx (.clo f first caps) fun id h nx=>k (.c (.clo id)) h nx
 |_=>false
theorem QI {fn:Fn}{first caps:List AV}{xs ys:List Value}(hx:F2 (GA ρ) first xs)(hy:F2 (GA ρ) caps ys)(H:HR P g w0 ρ h nx w){k:RV->Hp->Nat->Bool}(hk:NM h nx fn first caps k=true):
 Pf P g w0 ρ h nx k (Instr.makeFunc fn xs.toArray ys.toArray):=by
 cases fn<;>try(cases hk;done)
 rename_i f
 replace hk:=Tr.bJ hk
 obtain⟨h',hk,hh⟩:=hk
 have hle:=Ren.kT (H.fresh nx (Nat.le_refl _)) (.fnv f xs.toArray ys.toArray)
 refine⟨_,_,ρ.put nx (.fnv f xs.toArray ys.toArray),h',nx+1,hk,Ext.put (H.fresh nx (Nat.le_refl _)) _, .c (.clo (Ren.fA _ _ _)),H.Vq hh,fun w' H'=>(H'.name (fun _ _ _ e=>by cases e) hh ?_).2,fun w=>by simp[Instr.makeFunc]⟩
 exact .clo (Ren.fA _ _ _) (yQ.mono hle hx) (yQ.mono hle hy)
noncomputable def QH (P:Program)(h:Hp)(nx:Nat)(t:TypeId)(x:RV)(k:RV->Hp->Nat->Bool):Bool:=
 iff (P.concrete t) (zW x fun a=>pU h nx (.gY t a) fun id h nx=>k (.c (.gY id)) h nx)
theorem TT {t:TypeId}{x:RV}{v:Value}(hx:GR ρ x v)(H:HR P g w0 ρ h nx w){k:RV->Hp->Nat->Bool}(hk:QH P h nx t x k=true):Pf P g w0 ρ h nx k (Instr.makeInterface t v):=by
 replace hk:=aj hk
 obtain⟨hc,hk⟩:=hk
 replace hk:=oC hx hk
 obtain⟨a,hk,ha⟩:=hk
 replace hk:=Tr.bJ hk
 obtain⟨h',hk,hh⟩:=hk
 have hle:=Ren.kT (H.fresh nx (Nat.le_refl _)) (.ifv t v)
 refine⟨_,_,ρ.put nx (.ifv t v),h',nx+1,hk,Ext.put (H.fresh nx (Nat.le_refl _)) _, .c (.gY (Ren.fA _ _ _)),H.Vq hh,fun w' H'=>(H'.name (fun _ _ _ e=>by cases e) hh ?_).2,fun w=>run_makeInterface w t v hc⟩
 exact .gY (Ren.fA _ _ _) (ha.mono hle)
noncomputable def U9 (mx:Bool)(l:List AV)(k:RV->Bool):Bool:=match l with
 |[.c (.int q a), .c (.int _ b)]=>Bool.casesOn mx (Bool.casesOn (Jy b a) (k (.c (.int q a))) (k (.c (.int q b)))) (Bool.casesOn (Jy a b) (k (.c (.int q a))) (k (.c (.int q b))))
 |_=>false
theorem afs {l:List AV}{xs:List Value}(hx:F2 (GA ρ) l xs){ts:Array TypeId}{t:TypeId}{k:RV->Bool}(hk:U9 false l k=true):Pu P ρ k (Builtin.min_ ts t xs.toArray):=by
 unfold U9 at hk
 split at hk
 ·rename_i q a q' b
  cases hx with
  |cons h1 t1=>cases t1 with
   |cons h2 t2=>cases t2;cases h1 with
    |c h1=>cases h1;cases h2 with
     |c h2=>
      cases h2
      dsimp only at hk
      cases hb:Jy b a with
      |true=>
       rw[hb]at hk
       have:b<a:=by rw[vM]at hb;simpa using hb
       exact⟨_,_,hk, .c (.int _ _),fun w=>by simp[Builtin.min_,Builtin.min2,this]⟩
      |false=>
       rw[hb]at hk
       have: ¬b<a:=by rw[vM]at hb;simpa using hb
       exact⟨_,_,hk, .c (.int _ _),fun w=>by simp[Builtin.min_,Builtin.min2,this]⟩
 ·cases hk
theorem afv {l:List AV}{xs:List Value}(hx:F2 (GA ρ) l xs){ts:Array TypeId}{t:TypeId}{k:RV->Bool}(hk:U9 true l k=true):Pu P ρ k (Builtin.max_ ts t xs.toArray):=by
 unfold U9 at hk
 split at hk
 ·rename_i q a q' b
  cases hx with
  |cons h1 t1=>cases t1 with
   |cons h2 t2=>cases t2;cases h1 with
    |c h1=>cases h1;cases h2 with
     |c h2=>
      cases h2
      dsimp only at hk
      cases hb:Jy a b with
      |true=>
       rw[hb]at hk
       have:b>a:=by rw[vM]at hb;simpa using hb
       exact⟨_,_,hk, .c (.int _ _),fun w=>by simp[Builtin.max_,Builtin.max2,this]⟩
      |false=>
       rw[hb]at hk
       have: ¬b>a:=by rw[vM]at hb;simpa using hb
       exact⟨_,_,hk, .c (.int _ _),fun w=>by simp[Builtin.max_,Builtin.max2,this]⟩
 ·cases hk
noncomputable def agv (P:Program)(h:Hp)(nx:Nat)(src dst:TypeId)(x:RV)(k:RV->Hp->Nat->Bool):Bool:=
 au (dL P src) fun ds=>au (dL P dst) fun dd=>(match ds,dd,x with
  | .string, .slice e, .c (.str s)=>au (dL P e) fun de=>(match de with
    | .int .u8=>fL (FM s) fun l=>fN (llen s) fun n=>iff (Nat.ble n 1099511627776) (pU h nx (.ro l) fun id h nx=>k (.c (.sl id 0 n 0 none)) h nx)
    |_=>false)
  |_,_,_=>false)
theorem aeb (H:HR P g w0 ρ h nx w){src dst:TypeId}{x:RV}{v:Value}(hx:GR ρ x v){k:RV->Hp->Nat->Bool}(hk:agv P h nx src dst x k=true):Do P g w0 ρ nx w k (convert src dst v):=by
 replace hk:=ah hk
 obtain⟨ds,hds,hk⟩:=hk
 try simp only[aG,aH,aW]at hds
 replace hk:=ah hk
 obtain⟨dd,hdd,hk⟩:=hk
 try simp only[aG,aH,aW]at hdd
 split at hk
 ·rename_i e s
  replace hk:=ah hk
  obtain⟨de,hde,hk⟩:=hk
  try simp only[aG,aH,aW]at hde
  split at hk
  ·rw[iF,gW,aI]at hk
   replace hk:=aj hk
   obtain⟨hn,hk⟩:=hk
   have hn:=aT hn
   cases hx with
   |c hx=>cases hx with
    |str _ hs=>
     replace hk:=Tr.bJ hk
     obtain⟨h',hk,hh⟩:=hk
     have hrun:=run_bytes_of_string (P:=P) w src dst e (ba s) hds hdd hde
     have hge:=grownCap_ge w (ba s).size 0 e
     have hcap:=grownCap_le_maxLen w (ba s).size 0 e (by rw[lQ];unfold maxLen;omega)
     obtain⟨ρ',hle,hr,H'⟩:=H.drew.new _ (base:=0) (cap:=grownCap w (ba s).size 0 e) hh fun ρ' hle hr=> .ro hr (heap_alloc_new _ (.cells (bytesRow (ba s) (grownCap w (ba s).size 0 e)) e ((bytesRow (ba s) (grownCap w (ba s).size 0 e)).size,(bytesRow (ba s) (grownCap w (ba s).size 0 e)).size+1))) (fun j c hc=>by
      obtain⟨y,h1,h2⟩:=fO (Kv (ρ:=ρ') hs) hc
      have hlt:=(List.getElem?_eq_some_iff.1 h1).1
      refine⟨y,h2,?_⟩
      unfold bytesRow
      rw[Nat.zero_add,Array.getElem?_append_left (by simpa using hlt)]
      simpa using h1)
     have hsl:G ρ' (.sl nx 0 s.length 0 none) (.slice (some ⟨w.heap.size,0,none⟩) (ba s).size (grownCap w (ba s).size 0 e)):=by
      have:=G.sl (ρ:=ρ') 0 s.length 0 none hr (by rw[<-lQ];simpa using hge) (by simpa using hcap) (by simp)
      rw[lQ]at this⊢
      simpa using this
     exact⟨_,_,ρ',h',nx+1,_,hk,hle,H', .c hsl,hrun⟩
  ·cases hk
 ·cases hk
end
end bU
end
section
namespace bU
open Go Go.RowKit
section
variable {P:Program} {g:Nat} {w0:World} {ρ:Ren} {h:Hp} {nx:Nat} {w:World}
noncomputable def Xf (l:List Nat):Option Nat:=List.rec (motive:=fun _=>Option Nat) none (fun a _ ih=>Option.casesOn ih (some a) some) l
theorem abx (l:List Nat):Xf l=l.getLast?:=by
 induction l with
 |nil=>rfl
 |cons a l ih=>
  show(Option.casesOn (Xf l) (some a) some:Option Nat)=_
  rw[ih,List.getLast?_cons]
  cases l.getLast?<;>rfl
noncomputable def XE (s:Nat)(es:List ME):Option ME:=List.rec (motive:=fun _=>Option ME) none (fun e _ ih=>Bool.casesOn (Nat.beq e.born s) ih (some e)) es
theorem abZ {s:Nat}{es:List ME}{xs:List MapEntry}(hx:F2 (GE ρ) es xs): ∀{e:ME},XE s es=some e-> ∃x,xs.find? (fun x=>x.born==s)=some x/\GE ρ e x:=by
 induction hx with
 |nil=>intro e h;cases h
 | @cons a b _ _ hab _ ih=>
   intro e h
   change(Bool.casesOn (Nat.beq a.born s) (XE s _) (some a):Option ME)=some e at h
   cases hb:Nat.beq a.born s with
   |true=>
    rw[hb]at h;cases h
    exact⟨b,by rw[List.find?_cons];simp[hab.2.2,aQ hb],hab⟩
   |false=>
    rw[hb]at h
    obtain⟨x,h1,h2⟩:=ih h
    refine⟨x,?_,h2⟩
    rw[List.find?_cons]
    have:(b.born==s)=false:=by rw[hab.2.2];simpa using qA hb
    rw[this]
    exact h1
noncomputable def Si (h:Hp)(x:RV)(k:RV->List Nat->Bool):Bool:=match x with
 | .c (.ptr id 0)=>au (h.get id) fun o=>(match o with
   | .fJ m _ seen stepped=>au (Xf seen) fun s=>au (h.get m) fun om=>(match om with
     | .map es clock=>iff (Nat.beq clock stepped) (au (XE s es) fun e=>k (.aK [e.key,e.val]) [id,m])
     |_=>false)
   |_=>false)
 |_=>false
theorem aam (H:HR P g w0 ρ h nx w){x:RV}{v:Value}(hx:GR ρ x v){k:RV->List Nat->Bool}(hk:Si h x k=true):Rd P ρ h k (Instr.entry v):=by
 unfold Si at hk
 split at hk
 ·rename_i id
  replace hk:=ah hk
  obtain⟨o,ho,hk⟩:=hk
  cases o<;>try(cases hk;done)
  rename_i m since seen stepped
  dsimp only at hk
  replace hk:=ah hk
  obtain⟨s,hs,hk⟩:=hk
  replace hk:=ah hk
  obtain⟨om,Vw,hk⟩:=hk
  cases om<;>try(cases hk;done)
  rename_i es clock
  dsimp only at hk
  replace hk:=aj hk
  obtain⟨hc,hk⟩:=hk
  have hc:=aQ hc
  replace hk:=ah hk
  obtain⟨e,he,hk⟩:=hk
  rw[abx]at hs
  cases hx with
  |c hx=>cases hx with
   | @ptr _ b base cap _ hr=>
     have core: ∀w',Ob P ρ id (.fJ m since seen stepped) w'->(∀bm bs cp,ρ m=some (.blk bm bs cp)->Ob P ρ m (.map es clock) w')-> ∃y:MapEntry,GE ρ e y/\base=0/\ρ m≠none/\(Instr.entry (.pointer (some ⟨b,base+0,none⟩))).run P w'= .ok (.tuple #[y.key,y.val]) w':=fun w' h1 h2=>by
      cases h1 with
      | @fJ _ b' _ bm x' y' _ _ _ hr' hm hh=>
        rw[hr]at hr';cases hr'
        obtain⟨xs,hhm,hxs⟩:=(h2 _ _ _ hm).lD hm
        obtain⟨y,h3,h4⟩:=abZ hxs he
        refine⟨y,h4,rfl,by rw[hm];simp,?_⟩
        have hget:=aY (P:=P) hh (fun _ _ _=>by simp)
        have hgm:=aY (P:=P) hhm (fun _ _ _=>by simp)
        simp[Instr.entry,hget,hgm,hs,hc,h3]
     obtain⟨y,hy,hb,hmn,hrun⟩:=core w (H.ob ho hr) (fun _ _ _ hm=>H.ob Vw hm)
     refine⟨_,_,_,hk, .aK (.cons hy.1 (.cons hy.2.1 .nil)),fun i hi=>?_,fun w' hw'=>?_⟩
     ·rcases List.mem_cons.1 hi with rfl|hi
      ·rw[hr];simp
      ·have:=List.mem_singleton.1 hi;subst this;exact hmn
     ·obtain⟨y',hy',_,_,hrun'⟩:=core w' (hw' id (by simp) _ ho) (fun _ _ _ _=>hw' m (by simp) _ Vw)
      rw[GA.Gn hy.1 hy'.1,GA.Gn hy.2.1 hy'.2.1]
      exact hrun'
 ·cases hk
noncomputable def zu (P:Program)(h:Hp)(x:RV)(t:TypeId)(ok:Bool)(k:RV->List Nat->Bool):Bool:=match x with
 | .c (.gY id)=>au (h.get id) fun o=>(match o with
   | .gY t' v=>au (dL P t) fun d=>(match d with
     | .interface _=>false
     |_=>Bool.casesOn (Nat.beq t' t) (iff ok (zeroV P t fun z=>k (.aK [z, .c (.bool false)]) [id])) (k (Bool.casesOn ok v.rv (.aK [v, .c (.bool true)])) [id]))
   |_=>false)
 |_=>false
theorem KP (H:HR P g w0 ρ h nx w){x:RV}{v:Value}(hx:GR ρ x v){t xt:TypeId}{ok:Bool}{k:RV->List Nat->Bool}(hk:zu P h x t ok k=true):Rd P ρ h k (Instr.typeAssert v xt t ok):=by
 unfold zu at hk
 split at hk
 ·rename_i id
  replace hk:=ah hk
  obtain⟨o,ho,hk⟩:=hk
  cases o<;>try(cases hk;done)
  rename_i t' av
  dsimp only at hk
  replace hk:=ah hk
  obtain⟨d,hd,hk⟩:=hk
  try simp only[aG,aH,aW]at hd
  have key:(∀l,d≠ .interface l)->t'=t->k (Bool.casesOn ok av.rv (.aK [av, .c (.bool true)])) [id]=true->Rd P ρ h k (Instr.typeAssert v xt t ok):=fun hni e hk2=>by
   subst e
   cases hx with
   |c hx=>cases hx with
    | @gY _ t2 y hr=>
      cases H.ob ho hr with
      |gY hr' hy=>
       rw[hr]at hr';cases hr'
       refine⟨_,if ok then .tuple #[y, .bool true]else y,_,hk2,?_,fun i hi=>by have:=List.mem_singleton.1 hi;subst this;rw[hr];simp,fun w' _=>?_⟩
       ·cases ok with
        |false=>exact hy.rv
        |true=>exact .aK (.cons hy (.cons (.c (.bool _)) .nil))
       ·cases d<;>first|exact absurd rfl (hni _)|(simp[Instr.typeAssert,run_underlying hd])
  split at hk
  ·cases hk
  ·rename_i hni
   cases he:Nat.beq t' t with
   |true=>rw[he]at hk;exact key (fun l e=>hni l e) (aQ he) hk
   |false=>
    rw[he]at hk
    have hne:=qA he
    replace hk:=aj hk
    obtain⟨hok,hk⟩:=hk
    subst hok
    replace hk:=xE (ρ:=ρ) hk
    obtain⟨z,zv,hk,hz,JH⟩:=hk
    cases hx with
    |c hx=>cases hx with
     | @gY _ t2 y hr=>
       cases H.ob ho hr with
       |gY hr' hy=>
        rw[hr]at hr';cases hr'
        refine⟨_,_,_,hk, .aK (.cons hz (.cons (.c (.bool _)) .nil)),fun i hi=>by have:=List.mem_singleton.1 hi;subst this;rw[hr];simp,fun w' _=>?_⟩
        cases d<;>first|exact absurd rfl (hni _)|(simp[Instr.typeAssert,run_underlying hd,hne,JH])
 ·cases hk
noncomputable def NJ (P:Program)(g:Nat)(h:Hp)(t:TypeId)(m key:RV)(k:RV->Hp->Bool):Bool:=
 au (dL P t) fun d=>(match d with
  | .map kt et=>au (dL P kt) fun dk=>zW key fun key=>iff (zf P dk key) (match m with
    | .c (.mp id)=>iff (Nat.ble g id) (au (h.get id) fun o=>(match o with
      | .map es clock=>au (tX P dk kt key es 0) fun r=>(match r with
        |some iv=>(match key with
         | .c _=>au (aF es iv.1) fun e=>k (.aK [iv.2, .c (.int .i64 (Int.ofNat e.born))]) h
         |_=>false)
        |none=>zeroV P et fun z=>fL (es++[⟨key,z,clock⟩]) fun es=>h.iZ id (some (.map es (Nat.succ clock))) fun h=>k (.aK [z, .c (.int .i64 (Int.ofNat clock))]) h)
      |_=>false))
    |_=>false)
  |_=>false)
theorem QE (H:HR P g w0 ρ h nx w){t:TypeId}{m key:RV}{mv kv:Value}(hm:GR ρ m mv)(hkey:GR ρ key kv){k:RV->Hp->Nat->Bool}(hk:NJ P g h t m key (fun r h=>k r h nx)=true):Do P g w0 ρ nx w k (Instr.mapEntry t mv kv):=by
 replace hk:=ah hk
 obtain⟨d,hd,hk⟩:=hk
 try simp only[aG,aH,aW]at hd
 cases d<;>try(cases hk;done)
 rename_i kt et
 replace hk:=ah hk
 obtain⟨dk,hdk,hk⟩:=hk
 try simp only[aG,aH,aW]at hdk
 replace hk:=oC hkey hk
 obtain⟨ka,hk,hka⟩:=hk
 replace hk:=aj hk
 obtain⟨hok,hk⟩:=hk
 have lI:=fun b w=>CP hdk hka hok b w
 split at hk
 ·rename_i id
  replace hk:=aj hk
  obtain⟨hg,hk⟩:=hk
  replace hk:=ah hk
  obtain⟨o,ho,hk⟩:=hk
  cases o<;>try(cases hk;done)
  rename_i es clock
  replace hk:=ah hk
  obtain⟨r,hr,hk⟩:=hk
  cases hm with
  |c hm=>cases hm with
   | @mp _ bm _ _ iP=>
     have hob:=H.ob ho iP
     obtain⟨xs,hh,hxs⟩:=hob.lD iP
     obtain⟨r',h1,h2⟩:=Ce hdk hka hxs hok hr
     have hrb:ρ id=some (.blk bm 0 0):=by
      cases hob with
      |map hr' hh' hx'=>rw[iP]at hr';cases hr';exact iP
     cases h2 with
     |none=>
      dsimp only at hk
      replace hk:=xE (ρ:=ρ) hk
      obtain⟨z,zv,hk,hz,JH⟩:=hk
      rw[iF]at hk
      replace hk:=Tr.bJ hk
      obtain⟨h',hk,hh'⟩:=hk
      refine⟨_,_,ρ,h',nx,_,hk,Ext.refl _ _,H.dO (x:=Obj.map (xs++[({key:=kv,val:=zv,born:=clock}:MapEntry)]).toArray (clock+1)) ho (aT hg) ⟨_,_,iP⟩ (fun w' hw'=> .map hrb hw' (dR hxs (.cons ⟨hka,hz,rfl⟩ .nil))) hh', .aK (.cons hz (.cons (.c (.int _ _)) .nil)),?_⟩
      have hset:=fH (P:=P) (x:=Obj.map (xs++[({key:=kv,val:=zv,born:=clock}:MapEntry)]).toArray (clock+1)) hh (fun _ _ _=>by simp)
      simp[Instr.mapEntry,run_underlying hd,aY hh (fun _ _ _=>by simp),lI,h1,JH,goInt,hset]
     | @some i va' xa' Rl=>
       dsimp only at hk
       split at hk
       ·rename_i c
        replace hk:=ah hk
        obtain⟨e,he,hk⟩:=hk
        rw[aJ]at he
        obtain⟨_,e2,he2,hkeq,_⟩:=Ep hr
        simp only[Nat.sub_zero]at he2
        rw[he]at he2
        cases he2
        obtain⟨hkk,hsame⟩:=IQ (ρ:=ρ) hkeq
        obtain⟨xe,hxe,hge⟩:=fO hxs he
        have hkx:xe.key=kv:=by
         have:=hge.1
         rw[hkk]at this
         exact GA.Gn this hka
        have hsb:Instr.sameBits 10000 kv kv=true:=by
         cases hka with
         |c hka=>exact hsame hka
        have hmod:xs.modify i (fun e=>{e with key:=kv})=xs:=by
         apply List.ext_getElem?
         intro j
         rw[List.getElem?_modify]
         by_cases hij:i=j
         ·subst hij
          rw[hxe]
          simp[<-hkx]
         ·cases hxj:xs[j]?<;>simp[hij]
        refine⟨_,_,ρ,h,nx,_,hk,Ext.refl _ _,H.dO (x:=Obj.map xs.toArray clock) ho (aT hg) ⟨_,_,iP⟩ (fun w' hw'=> .map hrb hw' hxs) (fun m=>by split;(rename_i e;subst e;exact ho);rfl), .aK (.cons Rl (.cons (.c (.int _ _)) .nil)),?_⟩
        have hset:=fH (P:=P) (x:=Obj.map xs.toArray clock) hh (fun _ _ _=>by simp)
        simp[Instr.mapEntry,run_underlying hd,aY hh (fun _ _ _=>by simp),lI,h1,hxe,hkx,Instr.keyThatStays,hsb,hmod,hset,goInt,hge.2.2]
       ·cases hk
 ·cases hk
noncomputable def OX (s:Nat)(es:List ME):Option Nat:=List.rec (motive:=fun _=>Option Nat) none (fun e _ ih=>Bool.casesOn (Nat.beq e.born s) (Option.casesOn ih none fun i=>some (Nat.succ i)) (some 0)) es
theorem abY {s:Nat}{es:List ME}{xs:List MapEntry}(hx:F2 (GE ρ) es xs): ∀{i:Nat},OX s es=some i->xs.findIdx? (fun e=>(e.born:Int)==(s:Int))=some i:=by
 induction hx with
 |nil=>intro i h;cases h
 | @cons a b l m hab _ ih=>
   intro i h
   change(Bool.casesOn (Nat.beq a.born s) (Option.casesOn (OX s l) none fun i=>some (Nat.succ i)) (some 0):Option Nat)=some i at h
   rw[List.findIdx?_cons]
   cases hb:Nat.beq a.born s with
   |true=>
    rw[hb]at h;cases h
    have:b.born=s:=by rw[hab.2.2];exact aQ hb
    simp[this]
   |false=>
    rw[hb]at h
    have hne: ¬b.born=s:=by rw[hab.2.2];exact qA hb
    cases hf:OX s l with
    |none=>rw[hf]at h;cases h
    |some j=>
     rw[hf]at h;cases h
     have hne': ¬(b.born:Int)=(s:Int):=by omega
     simp[hne',ih hf]
noncomputable def zI (g:Nat)(h:Hp)(m s v:RV)(k:Hp->Bool):Bool:=match m,s with
 | .c (.mp id), .c (.int .i64 (.ofNat s))=>zW v fun v=>iff (Nat.ble g id) (au (h.get id) fun o=>(match o with
   | .map es clock=>au (OX s es) fun i=>au (aF es i) fun e=>OQ es i ⟨e.key,v,e.born⟩ fun es=>h.iZ id (some (.map es clock)) k
   |_=>false))
 |_,_=>false
theorem LZ (H:HR P g w0 ρ h nx w){t:TypeId}{m s v:RV}{mv sv x:Value}(hm:GR ρ m mv)(hs:GR ρ s sv)(hv:GR ρ v x){k:Hp->Nat->Bool}(hk:zI g h m s v (fun h=>k h nx)=true):Gx P g w0 ρ nx w k (Instr.entryStore t mv sv x):=by
 unfold zI at hk
 split at hk
 ·rename_i id st
  replace hk:=oC hv hk
  obtain⟨va,hk,hva⟩:=hk
  replace hk:=aj hk
  obtain⟨hg,hk⟩:=hk
  replace hk:=ah hk
  obtain⟨o,ho,hk⟩:=hk
  cases o<;>try(cases hk;done)
  rename_i es clock
  dsimp only at hk
  replace hk:=ah hk
  obtain⟨i,hi,hk⟩:=hk
  try simp only[aG,aH,aW]at hi
  replace hk:=ah hk
  obtain⟨e,he,hk⟩:=hk
  rw[aJ]at he
  replace hk:=Ht hk
  obtain⟨hlt,hk⟩:=hk
  replace hk:=Tr.bJ hk
  obtain⟨h',hk,hh'⟩:=hk
  cases hs with
  |c hs=>cases hs with
   |int=>
    cases hm with
    |c hm=>cases hm with
     | @mp _ bm _ _ iP=>
       have hob:=H.ob ho iP
       obtain⟨xs,hh,hxs⟩:=hob.lD iP
       have hrb:ρ id=some (.blk bm 0 0):=by
        cases hob with
        |map hr' hh' hx'=>rw[iP]at hr';cases hr';exact iP
       obtain⟨xe,hxe,hge⟩:=fO hxs he
       have hf:=abY hxs hi
       have hmod:xs.modify i (fun e=>{e with val:=x})=xs.set i {key:=xe.key,val:=x,born:=xe.born}:=by
        apply List.ext_getElem?
        intro j
        rw[List.getElem?_modify,List.getElem?_set]
        by_cases hij:i=j
        ·subst hij
         simp[hxe,(List.getElem?_eq_some_iff.1 hxe).1,(List.getElem?_eq_some_iff.1 hxe).2]
        ·simp[hij]
       refine⟨ρ,h',nx,_,hk,Ext.refl _ _,H.dO (x:=Obj.map (xs.set i ({key:=xe.key,val:=x,born:=xe.born}:MapEntry)).toArray clock) ho (aT hg) ⟨_,_,iP⟩ (fun w' hw'=> .map hrb hw' (Aq hxs (show GE ρ ⟨e.key,va,e.born⟩ ⟨xe.key,x,xe.born⟩from⟨hge.1,hva,hge.2.2⟩) i)) hh',?_⟩
       have hset:=fH (P:=P) (x:=Obj.map (xs.set i ({key:=xe.key,val:=x,born:=xe.born}:MapEntry)).toArray clock) hh (fun _ _ _=>by simp)
       have hf':(xs.findIdx? fun e=>(e.born:Int)==Int.ofNat st)=some i:=hf
       simp only[Instr.entryStore,Sem.run_bind,aY hh (fun _ _ _=>by simp),Result.andThen_ok,asInt,asIntOf,Sem.run_pure,List.findIdx?_toArray,hf',List.modify_toArray,hmod,hset]
 ·cases hk
noncomputable def VJ (P:Program)(g:Nat)(h:Hp)(t:TypeId)(m key:RV)(k:Hp->Bool):Bool:=
 au (dL P t) fun d=>(match d with
  | .map kt _=>au (dL P kt) fun dk=>zW key fun key=>iff (zf P dk key) (match m with
    | .c (.mp id)=>iff (Nat.ble g id) (au (h.get id) fun o=>(match o with
      | .map es clock=>au (tX P dk kt key es 0) fun r=>(match r with
        |some iv=>fL (es.take iv.1++es.drop (Nat.succ iv.1)) fun es=>h.iZ id (some (.map es clock)) k
        |none=>k h)
      |_=>false))
    |_=>false)
  |_=>false)
theorem XO (H:HR P g w0 ρ h nx w){t t2 ty:TypeId}{m key:RV}{mv kv:Value}(hm:GR ρ m mv)(hkey:GR ρ key kv){k:RV->Hp->Nat->Bool}(hk:VJ P g h t m key (fun h=>k .undef h nx)=true):Do P g w0 ρ nx w k (Builtin.delete_ #[t,t2] ty #[mv,kv]):=by
 replace hk:=ah hk
 obtain⟨d,hd,hk⟩:=hk
 try simp only[aG,aH,aW]at hd
 cases d<;>try(cases hk;done)
 rename_i kt et
 replace hk:=ah hk
 obtain⟨dk,hdk,hk⟩:=hk
 try simp only[aG,aH,aW]at hdk
 replace hk:=oC hkey hk
 obtain⟨ka,hk,hka⟩:=hk
 replace hk:=aj hk
 obtain⟨hok,hk⟩:=hk
 have lI:=fun b w=>CP hdk hka hok b w
 split at hk
 ·rename_i id
  replace hk:=aj hk
  obtain⟨hg,hk⟩:=hk
  replace hk:=ah hk
  obtain⟨o,ho,hk⟩:=hk
  cases o<;>try(cases hk;done)
  rename_i es clock
  replace hk:=ah hk
  obtain⟨r,hr,hk⟩:=hk
  cases hm with
  |c hm=>cases hm with
   | @mp _ bm _ _ iP=>
     have hob:=H.ob ho iP
     obtain⟨xs,hh,hxs⟩:=hob.lD iP
     obtain⟨r',h1,h2⟩:=Ce hdk hka hxs hok hr
     have hrb:ρ id=some (.blk bm 0 0):=by
      cases hob with
      |map hr' hh' hx'=>rw[iP]at hr';cases hr';exact iP
     cases h2 with
     |none=>
      have hset:=fH (P:=P) (x:=Obj.map xs.toArray clock) hh (fun _ _ _=>by simp)
      refine⟨_,_,ρ,h,nx,_,hk,Ext.refl _ _,H.dO (x:=Obj.map xs.toArray clock) ho (aT hg) ⟨_,_,iP⟩ (fun w' hw'=> .map hrb hw' hxs) (fun m=>by split;(rename_i e;subst e;exact ho);rfl), .undef,?_⟩
      simp[Builtin.delete_,run_underlying hd,aY hh (fun _ _ _=>by simp),lI,h1,hset,Go.undef]
     | @some i va' xa' Rl=>
       dsimp only at hk
       rw[iF]at hk
       replace hk:=Tr.bJ hk
       obtain⟨h',hk,hh'⟩:=hk
       have hset:=fH (P:=P) (x:=Obj.map (xs.eraseIdx i).toArray clock) hh (fun _ _ _=>by simp)
       refine⟨_,_,ρ,h',nx,_,hk,Ext.refl _ _,H.dO (x:=Obj.map (xs.eraseIdx i).toArray clock) ho (aT hg) ⟨_,_,iP⟩ (fun w' hw'=> .map hrb hw' (by rw[List.eraseIdx_eq_take_drop_succ];exact dR (xB hxs i) (xC hxs (i+1)))) hh', .undef,?_⟩
       simp[Builtin.delete_,run_underlying hd,aY hh (fun _ _ _=>by simp),lI,h1,hset,Go.undef]
 ·cases hk
end
end bU
end
end Go.Proofs.YtakhobfamnjnoaaGreatDoor
