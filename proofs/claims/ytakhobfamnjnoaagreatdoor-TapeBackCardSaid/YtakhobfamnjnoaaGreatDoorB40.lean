/- The machine's operations: maps that turn, iterators, function values, copy. -/
import Derived.Test.YtakhobfamnjnoaaGreatDoorB39
set_option linter.unusedVariables false
set_option linter.unusedSimpArgs false
namespace Go.Proofs.YtakhobfamnjnoaaGreatDoor
section
namespace bC
open Go Go.RowKit
section
variable {P:Program} {g:Nat} {w0:World} {ρ:Ren} {h:Hp} {nx:Nat} {w:World}
def bV (w:World)(b:Nat)(x:Obj):World:={w with heap:=w.heap.setIfInBounds b x}
theorem dL {b:Nat}{o x:Obj}(hh:w.heap[b]?=some o)(hc: ∀c e f,o≠ .cells c e f):(setObj b x).run P w= .ok () (bV w b x):=by
 cases o<;>simp[setObj,Sem.run,hh,bV]
 exact absurd rfl (hc _ _ _)
theorem HR.bV (H:HR P g w0 ρ h nx w){id b:Nat}{o o':AO}(ho:h.get id=some o)(hg:g<=id)(hb:gI ρ id b){x:Obj}(hx: ∀w':World,w'.heap[b]?=some x->Ob P ρ id o' w'){h':Hp}(hh: ∀m,h'.get m=if m=id then some o' else h.get m):
 HR P g w0 ρ h' nx (bV w b x):=by
 have hlt:=H.lt id b hb
 refine H.turn (w':=bC.bV w b x) ho hg hb (by simp[bC.bV]) rfl rfl rfl (fun k hk=>?_) hh (hx _ ?_)
 ·simp only[bC.bV];rw[Array.getElem?_setIfInBounds_ne (Ne.symm hk)]
 ·simp only[bC.bV];simp[hlt]
theorem AY {d:TypeDesc}{kt:TypeId}{key:AV}: ∀{es:List ME}{i j:Nat}{v:AV},pY P d kt key es i=some (some (j,v))->i<=j/\ ∃e,es[j-i]?=some e/\mF P d kt key e.key=some true/\e.val=v
 |[],i,j,v,h=>by cases h
 |e::es,i,j,v,h=>by
  change(match mF P d kt key e.key with|some true=>some (some (i,e.val))|some false=>pY P d kt key es (i+1)|none=>none)=some (some (j,v))at h
  split at h
  ·rename_i hb
   cases h
   exact⟨Nat.le_refl _,e,by simp,hb,rfl⟩
  ·obtain⟨h1,e',h2,h3⟩:=AY h
   refine⟨by omega,e',?_,h3⟩
   rw[show j-i=(j-(i+1))+1 by omega]
   simpa using h2
  ·cases h
theorem EC {d:TypeDesc}{kt:TypeId}{c:CV}{b:AV}(h:mF P d kt (.c c) b=some true):b= .c c/\ ∀{x:Value},G ρ c x->Instr.sameBits 10000 x x=true:=by
 have hb:b= .c c:=by unfold mF at h;split at h<;>simp_all[ny,xK]
 refine⟨hb,fun{x} hx=>?_⟩
 subst hb
 cases hx<;>first|(simp[Instr.sameBits];done)|(simp[Instr.sameBits,beq_toListBytes];done)|(unfold mF at h;split at h<;>simp_all)
noncomputable def Hu (P:Program)(g:Nat)(h:Hp)(t:TypeId)(m key v:RV)(k:Hp->Bool):Bool:=
 au (bQ P t) fun d=>(match d with
  | .map kt _=>au (bQ P kt) fun dk=>xu key fun key=>iff (wu P dk key) (xu v fun v=>(match m with
    | .c (.mp id)=>iff (Nat.ble g id) (au (h.get id) fun o=>(match o with
      | .map es clock=>au (pY P dk kt key es 0) fun r=>(match r with
        |some iv=>(match key with
         | .c _=>au (aA es iv.1) fun e=>J6 es iv.1 ⟨key,v,e.born⟩ fun es=>h.fU id (some (.map es clock)) k
         |_=>false)
        |none=>fL (es++[⟨key,v,clock⟩]) fun es=>h.fU id (some (.map es (Nat.succ clock))) k)
      |_=>false))
    |_=>false))
  |_=>false)
theorem Fe (H:HR P g w0 ρ h nx w){t:TypeId}{m key v:RV}{mv kv x:Value}(hm:GR ρ m mv)(hkey:GR ρ key kv)(hv:GR ρ v x){k:Hp->Nat->Bool}(hk:Hu P g h t m key v (fun h=>k h nx)=true):CY P g w0 ρ nx w k (Instr.mapUpdate t mv kv x):=by
 replace hk:=ah hk
 obtain⟨d,hd,hk⟩:=hk
 try simp only[aB,aC,aO]at hd
 cases d<;>try(cases hk;done)
 rename_i kt et
 replace hk:=ah hk
 obtain⟨dk,hdk,hk⟩:=hk
 try simp only[aB,aC,aO]at hdk
 replace hk:=lN hkey hk
 obtain⟨ka,hk,hka⟩:=hk
 replace hk:=aj hk
 obtain⟨hok,hk⟩:=hk
 replace hk:=lN hv hk
 obtain⟨va,hk,hva⟩:=hk
 have jF:=fun b w=>zu hdk hka hok b w
 split at hk
 ·rename_i id
  replace hk:=aj hk
  obtain⟨hg,hk⟩:=hk
  replace hk:=ah hk
  obtain⟨o,ho,hk⟩:=hk
  cases o<;>try(cases hk;done)
  rename_i es clock
  replace hk:=ah hk
  obtain⟨r,hr,hk⟩:=hk
  cases hm with
  |c hm=>cases hm with
   | @mp _ bm _ _ fJ=>
     have hob:=H.ob ho fJ
     obtain⟨xs,hh,hxs⟩:=hob.jB fJ
     obtain⟨r',h1,h2⟩:=zh hdk hka hxs hok hr
     have hrb:ρ id=some (.blk bm 0 0):=by
      cases hob with
      |map hr' hh' hx'=>rw[fJ]at hr';cases hr';exact fJ
     cases h2 with
     |none=>
      dsimp only at hk
      rw[eP]at hk
      replace hk:=Tr.aW hk
      obtain⟨h',hk,hh'⟩:=hk
      refine⟨ρ,h',nx,_,hk,Ext.refl _ _,H.bV (x:=Obj.map (xs++[({key:=kv,val:=x,born:=clock}:MapEntry)]).toArray (clock+1)) ho (aK hg) ⟨_,_,fJ⟩ (fun w' hw'=> .map hrb hw' (bZ hxs (.cons ⟨hka,hva,rfl⟩ .nil))) hh',?_⟩
      simp[Instr.mapUpdate,run_underlying hd,aP hh (fun _ _ _=>by simp),jF,h1]
      exact dL hh (fun _ _ _=>by simp)
     | @some i va' xa' Np=>
       dsimp only at hk
       split at hk
       ·rename_i c
        replace hk:=ah hk
        obtain⟨e,he,hk⟩:=hk
        rw[aF]at he
        replace hk:=DJ hk
        obtain⟨hi,hk⟩:=hk
        replace hk:=Tr.aW hk
        obtain⟨h',hk,hh'⟩:=hk
        obtain⟨_,e2,he2,hkeq,_⟩:=AY hr
        simp only[Nat.sub_zero]at he2
        rw[he]at he2
        cases he2
        obtain⟨hkk,hsame⟩:=EC (ρ:=ρ) hkeq
        obtain⟨xe,hxe,hge⟩:=dQ hxs he
        have hkx:xe.key=kv:=by
         have:=hge.1
         rw[hkk]at this
         exact GA.CQ this hka
        have hsb:Instr.sameBits 10000 kv kv=true:=by
         cases hka with
         |c hka=>exact hsame hka
        have hmod:xs.toArray.modify i (fun e=>{e with key:=kv,val:=x})=(xs.set i {key:=kv,val:=x,born:=xe.born}).toArray:=by
         apply Array.ext'
         apply List.ext_getElem?
         intro j
         simp only[List.modify_toArray,List.getElem?_modify,List.getElem?_set]
         by_cases hij:i=j
         ·subst hij;simp[hxe,(List.getElem?_eq_some_iff.1 hxe).1,(List.getElem?_eq_some_iff.1 hxe).2]
         ·simp[hij]
        refine⟨ρ,h',nx,_,hk,Ext.refl _ _,H.bV (x:=Obj.map (xs.set i ({key:=kv,val:=x,born:=xe.born}:MapEntry)).toArray clock) ho (aK hg) ⟨_,_,fJ⟩ (fun w' hw'=> .map hrb hw' (xU hxs (show GE ρ ⟨.c c,va,e.born⟩ ⟨kv,x,xe.born⟩from⟨hka,hva,hge.2.2⟩) i)) hh',?_⟩
        simp[Instr.mapUpdate,run_underlying hd,aP hh (fun _ _ _=>by simp),jF,h1,hxe,hkx,Instr.keyThatStays,hsb]
        have adI:(xs.modify i (fun e=>{e with key:=kv,val:=x})).toArray=(xs.set i {key:=kv,val:=x,born:=xe.born}).toArray:=by simpa using hmod
        rw[adI]
        exact dL hh (fun _ _ _=>by simp)
       ·cases hk
 ·cases hk
noncomputable def MF (P:Program)(h:Hp)(nx:Nat)(t:TypeId)(r:Option RV)(k:RV->Hp->Nat->Bool):Bool:=
 match r with
 |none=>mV h nx (.map [] 0) fun id h nx=>k (.c (.mp id)) h nx
 |some r=>au (bQ P t) fun d=>(match d with
  | .map _ _=>au (nO r) fun _=>mV h nx (.map [] 0) fun id h nx=>k (.c (.mp id)) h nx
  |_=>false)
theorem OM (H:HR P g w0 ρ h nx w){t:TypeId}{r:Option RV}{rv:Option Value}(hr:Option.Rel (GR ρ) r rv){k:RV->Hp->Nat->Bool}(hk:MF P h nx t r k=true):Do P g w0 ρ nx w k (Instr.makeMap t rv):=by
 have core:mV h nx (.map [] 0) (fun id h nx=>k (.c (.mp id)) h nx)=true->(Instr.makeMap t rv).run P w= .ok (.map (some w.heap.size)) (w.alloc (.map #[] 0))->Do P g w0 ρ nx w k (Instr.makeMap t rv):=fun hk hrun=>by
  replace hk:=Tr.aW hk
  obtain⟨h',hk,hh⟩:=hk
  obtain⟨ρ',hle,hr',H'⟩:=H.new (.map #[] 0) (base:=0) (cap:=0) hh fun ρ' _ hr'=> .map hr' (xs:=[]) (heap_alloc_new _ _) .nil
  exact⟨_,_,ρ',h',nx+1,_,hk,hle,H', .c (.mp hr'),hrun⟩
 cases hr with
 |none=>exact core hk (by simp[Instr.makeMap])
 |some hr=>
  replace hk:=ah hk
  obtain⟨d,hd,hk⟩:=hk
  try simp only[aB,aC,aO]at hd
  cases d<;>try(cases hk;done)
  replace hk:=ah hk
  obtain⟨n,hn,hk⟩:=hk
  obtain⟨q,rfl⟩:=iT hn hr
  exact core hk (by simp[Instr.makeMap,run_underlying hd,asInt,asIntOf])
end
end bC
end
section
namespace bC
open Go Go.RowKit
section
variable {P:Program} {g:Nat} {w0:World} {ρ:Ren} {h:Hp} {nx:Nat} {w:World}
noncomputable def U5 (P:Program)(h:Hp)(nx:Nat)(t:TypeId)(x:RV)(k:RV->Hp->Nat->Bool):Bool:=
 au (bQ P t) fun d=>(match d,x with
  | .string, .c (.str s)=>mV h nx (.sit s 0) fun id h nx=>k (.c (.ptr id 0)) h nx
  | .map _ _, .c (.mp id)=>au (h.get id) fun o=>(match o with
    | .map _ clock=>mV h nx (.dN id clock [] clock) fun id h nx=>k (.c (.ptr id 0)) h nx
    |_=>false)
  |_,_=>false)
theorem U4 (H:HR P g w0 ρ h nx w){t:TypeId}{x:RV}{v:Value}(hx:GR ρ x v){k:RV->Hp->Nat->Bool}(hk:U5 P h nx t x k=true):Do P g w0 ρ nx w k (Instr.range t v):=by
 replace hk:=ah hk
 obtain⟨d,hd,hk⟩:=hk
 try simp only[aB,aC,aO]at hd
 split at hk
 ·cases hx with
  |c hx=>cases hx with
   |str _ hs=>
    replace hk:=Tr.aW hk
    obtain⟨h',hk,hh⟩:=hk
    obtain⟨ρ',hle,hr',H'⟩:=H.new (.stringIter (ba _) 0) (base:=0) (cap:=0) hh fun ρ' _ hr'=> .sit hr' (heap_alloc_new _ _) hs
    exact⟨_,_,ρ',h',nx+1,_,hk,hle,H', .c (.ptr 0 hr'),by simp[Instr.range,run_underlying hd]⟩
 ·replace hk:=ah hk
  obtain⟨o,ho,hk⟩:=hk
  cases o<;>try(cases hk;done)
  cases hx with
  |c hx=>cases hx with
   | @mp _ bm _ _ hr=>
     replace hk:=Tr.aW hk
     obtain⟨h',hk,hh⟩:=hk
     obtain⟨xs,hm,hxs⟩:=(H.ob ho hr).jB hr
     obtain⟨ρ',hle,hr',H'⟩:=H.new (.mapIter (some bm) _ #[] _) (base:=0) (cap:=0) hh fun ρ' hle hr'=> .dN (seen:=[]) hr' (hle _ _ hr) (heap_alloc_new _ _)
     exact⟨_,_,ρ',h',nx+1,_,hk,hle,H', .c (.ptr 0 hr'),run_range_map w t _ _ bm _ _ hd hm⟩
 ·cases hk
noncomputable def nextK (g:Nat)(h:Hp)(x:RV)(isS:Bool)(k:RV->Hp->Bool):Bool:=match x with
 | .c (.ptr id off)=>iff (Nat.beq off 0) (iff (Nat.ble g id) (au (h.get id) fun o=>(match o with
   | .sit s pos=>iff isS (match aA s pos with
     |none=>iff (Nat.ble (llen s) pos) (k (.aN [.c (.bool false)]) h)
     |some b=>iff (Nat.ble (Nat.succ b) 128) (fN (Nat.succ pos) fun p=>h.fU id (some (.sit s p)) fun h=>k (.aN [.c (.bool true), .c (.int .i64 (Int.ofNat pos)), .c (.int .i32 (Int.ofNat b))]) h))
   | .dN m since seen stepped=>iff (!isS) (au (h.get m) fun o=>(match o with
     | .map es clock=>(match seen with
       |[]=>(match es with
        |[]=>k (.aN [.c (.bool false)]) h
        |[e]=>iff (Nat.ble (Nat.succ e.born) since) (h.fU id (some (.dN m since [e.born] clock)) fun h=>k (.aN [.c (.bool true),e.key,e.val]) h)
        |_=>false)
       |[b]=>(match es with
        |[]=>k (.aN [.c (.bool false)]) h
        |[e]=>iff (Nat.beq e.born b) (iff (Nat.ble (Nat.succ e.born) stepped) (k (.aN [.c (.bool false)]) h))
        |_=>false)
       |_=>false)
     |_=>false))
   |_=>false)))
 |_=>false
theorem XW (H:HR P g w0 ρ h nx w){x:RV}{v:Value}{ty:TypeId}(hx:GR ρ x v){isS:Bool}{k:RV->Hp->Nat->Bool}(hk:nextK g h x isS (fun r h=>k r h nx)=true):Do P g w0 ρ nx w k (Instr.next v isS ty):=by
 unfold nextK at hk
 split at hk
 ·rename_i id off
  replace hk:=aj hk
  obtain⟨h0,hk⟩:=hk
  have h0:=aJ h0
  subst h0
  replace hk:=aj hk
  obtain⟨hg,hk⟩:=hk
  have hg:=aK hg
  replace hk:=ah hk
  obtain⟨o,ho,hk⟩:=hk
  cases hx with
  |c hx=>cases hx with
   | @ptr _ b base cap _ hr=>
     cases o<;>try(cases hk;done)
     ·rename_i s pos
      dsimp only at hk
      replace hk:=aj hk
      obtain⟨hi,hk⟩:=hk
      subst hi
      cases H.ob ho hr with
      | @sit _ b' _ _ hr' hh hs=>
        rw[hr]at hr';cases hr'
        have hget:=aP (P:=P) hh (fun _ _ _=>by simp)
        split at hk
        ·replace hk:=aj hk
         obtain⟨hl,hk⟩:=hk
         have hl:=aK hl
         rw[aG]at hl
         refine⟨_,_,ρ,h,nx,w,hk,Ext.refl _ _,H, .aN (.cons (.c (.bool _)) .nil),?_⟩
         have: ¬pos<(ba s).size:=by rw[jH];omega
         simp[Instr.next,hget,this]
        ·rename_i bb hbb
         rw[aF]at hbb
         replace hk:=aj hk
         obtain⟨ha,hk⟩:=hk
         have ha:bb<128:=aK ha
         rw[dY]at hk
         replace hk:=Tr.aW hk
         obtain⟨h',hk,hh'⟩:=hk
         have hlt:=(List.getElem?_eq_some_iff.1 hbb).1
         have hlt':pos<(ba s).size:=by rw[jH];exact hlt
         obtain⟨e1,e2⟩:=WV hs hbb
         have e3:(ba s)[pos]=UInt8.ofNat bb:=by
          have:=e1
          rw[getElem?_pos (ba s) pos hlt']at this
          exact Option.some.inj this
         refine⟨_,_,ρ,h',nx,_,hk,Ext.refl _ _,H.bV (x:= .stringIter (ba s) (pos+1)) ho hg ⟨_,_,hr⟩ (fun w' hw'=> .sit hr hw' hs) hh', .aN (.cons (.c (.bool _)) (.cons (.c (.int _ _)) (.cons (.c (.int _ _)) .nil))),?_⟩
         have hdec:Utf8.decode (ba s) pos=(((ba s)[pos]).toNat,1):=decode_ascii (ba s) pos hlt' (by rw[e3,e2];exact ha)
         simp only[Instr.next,hget,Sem.run_bind,Result.andThen_ok,hlt',if_true,hdec]
         rw[dL hh (fun _ _ _=>by simp)]
         simp[e3,e2,goInt]
     ·rename_i m since seen stepped
      dsimp only at hk
      replace hk:=aj hk
      obtain⟨hi,hk⟩:=hk
      have hi:isS=false:=by simpa using hi
      subst hi
      replace hk:=ah hk
      obtain⟨om,QF,hk⟩:=hk
      cases om<;>try(cases hk;done)
      rename_i es clock
      dsimp only at hk
      cases H.ob ho hr with
      | @dN _ b' _ bm _ _ _ _ _ hr' hm hh=>
        rw[hr]at hr';cases hr'
        have hget:=aP (P:=P) hh (fun _ _ _=>by simp)
        obtain⟨xs,hhm,hxs⟩:=(H.ob QF hm).jB hm
        have hgm:=aP (P:=P) hhm (fun _ _ _=>by simp)
        split at hk
        ·split at hk
         ·cases hxs
          exact⟨_,_,ρ,h,nx,w,hk,Ext.refl _ _,H, .aN (.cons (.c (.bool _)) .nil),by simp[Instr.next,hget,hgm,Question.forced]⟩
         ·rename_i e
          replace hk:=aj hk
          obtain⟨hb,hk⟩:=hk
          have hb:e.born<since:=aK hb
          replace hk:=Tr.aW hk
          obtain⟨h',hk,hh'⟩:=hk
          cases hxs with
          | @cons _ xe _ _ hge t=>
            cases t
            have hbx:xe.born<since:=by rw[hge.2.2];exact hb
            refine⟨_,_,ρ,h',nx,_,hk,Ext.refl _ _,H.bV (x:= .mapIter (some bm) since [xe.born].toArray clock) ho hg ⟨_,_,hr⟩ (fun w' hw'=>by rw[hge.2.2]at hw';exact .dN hr hm hw') hh', .aN (.cons (.c (.bool _)) (.cons hge.1 (.cons hge.2.1 .nil))),?_⟩
            have aeP: ¬since<=xe.born:=by omega
            simp[Instr.next,hget,hgm,Question.forced,hbx,aeP]
            rw[dL hh (fun _ _ _=>by simp)]
            simp
         ·cases hk
        ·rename_i b0
         split at hk
         ·cases hxs
          exact⟨_,_,ρ,h,nx,w,hk,Ext.refl _ _,H, .aN (.cons (.c (.bool _)) .nil),by simp[Instr.next,hget,hgm,Question.forced]⟩
         ·rename_i e
          replace hk:=aj hk
          obtain⟨hb,hk⟩:=hk
          have hb:=aJ hb
          replace hk:=aj hk
          obtain⟨hst,hk⟩:=hk
          have hst:e.born<stepped:=aK hst
          cases hxs with
          | @cons _ xe _ _ hge t=>
            cases t
            have hbx:xe.born=b0:=by rw[hge.2.2];exact hb
            have hst': ¬stepped<=b0:=by rw[<-hb];omega
            refine⟨_,_,ρ,h,nx,w,hk,Ext.refl _ _,H, .aN (.cons (.c (.bool _)) .nil),?_⟩
            simp[Instr.next,hget,hgm,Question.forced,hbx,hst']
         ·cases hk
        ·cases hk
 ·cases hk
theorem HR.QA (H:HR P g w0 ρ h nx w){o:AO}{h':Hp}(hh: ∀m,h'.get m=if m=nx then some o else h.get m): ∀m o,h.get m=some o->h'.get m=some o:=fun m o hm=>by
 rw[hh]
 split
 ·rename_i e
  rw[e,H.hfr nx (Nat.le_refl _)]at hm
  cases hm
 ·exact hm
noncomputable def Ji (h:Hp)(nx:Nat)(fn:Fn)(first caps:List AV)(k:RV->Hp->Nat->Bool):Bool:=match fn with
 | .func f=>mV h nx (.clo f first caps) fun id h nx=>k (.c (.clo id)) h nx
 |_=>false
theorem MH {fn:Fn}{first caps:List AV}{xs ys:List Value}(hx:F2 (GA ρ) first xs)(hy:F2 (GA ρ) caps ys)(H:HR P g w0 ρ h nx w){k:RV->Hp->Nat->Bool}(hk:Ji h nx fn first caps k=true):
 Pf P g w0 ρ h nx k (Instr.makeFunc fn xs.toArray ys.toArray):=by
 cases fn<;>try(cases hk;done)
 rename_i f
 replace hk:=Tr.aW hk
 obtain⟨h',hk,hh⟩:=hk
 have hle:=Ren.jq (H.fresh nx (Nat.le_refl _)) (.fnv f xs.toArray ys.toArray)
 refine⟨_,_,ρ.put nx (.fnv f xs.toArray ys.toArray),h',nx+1,hk,Ext.put (H.fresh nx (Nat.le_refl _)) _, .c (.clo (Ren.dF _ _ _)),H.QA hh,fun w' H'=>(H'.name (fun _ _ _ e=>by cases e) hh ?_).2,fun w=>by simp[Instr.makeFunc]⟩
 exact .clo (Ren.dF _ _ _) (vG.mono hle hx) (vG.mono hle hy)
noncomputable def MG (P:Program)(h:Hp)(nx:Nat)(t:TypeId)(x:RV)(k:RV->Hp->Nat->Bool):Bool:=
 iff (P.concrete t) (xu x fun a=>mV h nx (.eF t a) fun id h nx=>k (.c (.eF id)) h nx)
theorem OO {t:TypeId}{x:RV}{v:Value}(hx:GR ρ x v)(H:HR P g w0 ρ h nx w){k:RV->Hp->Nat->Bool}(hk:MG P h nx t x k=true):Pf P g w0 ρ h nx k (Instr.makeInterface t v):=by
 replace hk:=aj hk
 obtain⟨hc,hk⟩:=hk
 replace hk:=lN hx hk
 obtain⟨a,hk,ha⟩:=hk
 replace hk:=Tr.aW hk
 obtain⟨h',hk,hh⟩:=hk
 have hle:=Ren.jq (H.fresh nx (Nat.le_refl _)) (.Zl t v)
 refine⟨_,_,ρ.put nx (.Zl t v),h',nx+1,hk,Ext.put (H.fresh nx (Nat.le_refl _)) _, .c (.eF (Ren.dF _ _ _)),H.QA hh,fun w' H'=>(H'.name (fun _ _ _ e=>by cases e) hh ?_).2,fun w=>run_makeInterface w t v hc⟩
 exact .eF (Ren.dF _ _ _) (ha.mono hle)
noncomputable def Qj (mx:Bool)(l:List AV)(k:RV->Bool):Bool:=match l with
 |[.c (.int q a), .c (.int _ b)]=>Bool.casesOn mx (Bool.casesOn (Fh b a) (k (.c (.int q a))) (k (.c (.int q b)))) (Bool.casesOn (Fh a b) (k (.c (.int q a))) (k (.c (.int q b))))
 |_=>false
theorem abM {l:List AV}{xs:List Value}(hx:F2 (GA ρ) l xs){ts:Array TypeId}{t:TypeId}{k:RV->Bool}(hk:Qj false l k=true):Pu P ρ k (Builtin.min_ ts t xs.toArray):=by
 unfold Qj at hk
 split at hk
 ·rename_i q a q' b
  cases hx with
  |cons h1 t1=>cases t1 with
   |cons h2 t2=>cases t2;cases h1 with
    |c h1=>cases h1;cases h2 with
     |c h2=>
      cases h2
      dsimp only at hk
      cases hb:Fh b a with
      |true=>
       rw[hb]at hk
       have:b<a:=by rw[rU]at hb;simpa using hb
       exact⟨_,_,hk, .c (.int _ _),fun w=>by simp[Builtin.min_,Builtin.min2,this]⟩
      |false=>
       rw[hb]at hk
       have: ¬b<a:=by rw[rU]at hb;simpa using hb
       exact⟨_,_,hk, .c (.int _ _),fun w=>by simp[Builtin.min_,Builtin.min2,this]⟩
 ·cases hk
theorem abN {l:List AV}{xs:List Value}(hx:F2 (GA ρ) l xs){ts:Array TypeId}{t:TypeId}{k:RV->Bool}(hk:Qj true l k=true):Pu P ρ k (Builtin.max_ ts t xs.toArray):=by
 unfold Qj at hk
 split at hk
 ·rename_i q a q' b
  cases hx with
  |cons h1 t1=>cases t1 with
   |cons h2 t2=>cases t2;cases h1 with
    |c h1=>cases h1;cases h2 with
     |c h2=>
      cases h2
      dsimp only at hk
      cases hb:Fh a b with
      |true=>
       rw[hb]at hk
       have:b>a:=by rw[rU]at hb;simpa using hb
       exact⟨_,_,hk, .c (.int _ _),fun w=>by simp[Builtin.max_,Builtin.max2,this]⟩
      |false=>
       rw[hb]at hk
       have: ¬b>a:=by rw[rU]at hb;simpa using hb
       exact⟨_,_,hk, .c (.int _ _),fun w=>by simp[Builtin.max_,Builtin.max2,this]⟩
 ·cases hk
noncomputable def acR (P:Program)(h:Hp)(nx:Nat)(src dst:TypeId)(x:RV)(k:RV->Hp->Nat->Bool):Bool:=
 au (bQ P src) fun ds=>au (bQ P dst) fun dd=>(match ds,dd,x with
  | .string, .slice e, .c (.str s)=>au (bQ P e) fun de=>(match de with
    | .int .u8=>fL (Cb s) fun l=>fN (llen s) fun n=>iff (Nat.ble n 1099511627776) (mV h nx (.ro l) fun id h nx=>k (.c (.sl id 0 n 0 none)) h nx)
    |_=>false)
  |_,_,_=>false)
theorem aaC (H:HR P g w0 ρ h nx w){src dst:TypeId}{x:RV}{v:Value}(hx:GR ρ x v){k:RV->Hp->Nat->Bool}(hk:acR P h nx src dst x k=true):Do P g w0 ρ nx w k (convert src dst v):=by
 replace hk:=ah hk
 obtain⟨ds,hds,hk⟩:=hk
 try simp only[aB,aC,aO]at hds
 replace hk:=ah hk
 obtain⟨dd,hdd,hk⟩:=hk
 try simp only[aB,aC,aO]at hdd
 split at hk
 ·rename_i e s
  replace hk:=ah hk
  obtain⟨de,hde,hk⟩:=hk
  try simp only[aB,aC,aO]at hde
  split at hk
  ·rw[eP,dY,aG]at hk
   replace hk:=aj hk
   obtain⟨hn,hk⟩:=hk
   have hn:=aK hn
   cases hx with
   |c hx=>cases hx with
    |str _ hs=>
     replace hk:=Tr.aW hk
     obtain⟨h',hk,hh⟩:=hk
     have hrun:=run_bytes_of_string (P:=P) w src dst e (ba s) hds hdd hde
     have hge:=grownCap_ge w (ba s).size 0 e
     have hcap:=grownCap_le_maxLen w (ba s).size 0 e (by rw[jH];unfold maxLen;omega)
     obtain⟨ρ',hle,hr,H'⟩:=H.drew.new _ (base:=0) (cap:=grownCap w (ba s).size 0 e) hh fun ρ' hle hr=> .ro hr (heap_alloc_new _ (.cells (bytesRow (ba s) (grownCap w (ba s).size 0 e)) e ((bytesRow (ba s) (grownCap w (ba s).size 0 e)).size,(bytesRow (ba s) (grownCap w (ba s).size 0 e)).size+1))) (fun j c hc=>by
      obtain⟨y,h1,h2⟩:=dQ (Gp (ρ:=ρ') hs) hc
      have hlt:=(List.getElem?_eq_some_iff.1 h1).1
      refine⟨y,h2,?_⟩
      unfold bytesRow
      rw[Nat.zero_add,Array.getElem?_append_left (by simpa using hlt)]
      simpa using h1)
     have hsl:G ρ' (.sl nx 0 s.length 0 none) (.slice (some ⟨w.heap.size,0,none⟩) (ba s).size (grownCap w (ba s).size 0 e)):=by
      have:=G.sl (ρ:=ρ') 0 s.length 0 none hr (by rw[<-jH];simpa using hge) (by simpa using hcap) (by simp)
      rw[jH]at this⊢
      simpa using this
     exact⟨_,_,ρ',h',nx+1,_,hk,hle,H', .c hsl,hrun⟩
  ·cases hk
 ·cases hk
end
end bC
end
end Go.Proofs.YtakhobfamnjnoaaGreatDoor
