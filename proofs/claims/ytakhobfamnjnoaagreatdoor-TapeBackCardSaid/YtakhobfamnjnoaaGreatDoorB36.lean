/- The machine's operations at addresses, slices, lengths; conversions. -/
import Derived.Test.YtakhobfamnjnoaaGreatDoorB35
set_option linter.unusedVariables false
set_option linter.unusedSimpArgs false
namespace Go.Proofs.YtakhobfamnjnoaaGreatDoor
namespace bC
open Go Go.RowKit
section
variable {P:Program} {g:Nat} {w0:World} {ρ:Ren} {h:Hp} {nx:Nat} {w:World}
noncomputable def zk (P:Program)(t:TypeId)(f:Nat)(x:RV)(k:RV->Bool):Bool:=
 match x with
 | .c (.ptr id off)=>au (bQ P t) fun d=>(match d with
   | .struct fs=>au (aA fs.toList f) fun fd=>au (pF P fd.type) fun n=>iff (!Nat.beq n 0) (fN (Nat.add off fd.offset) fun o=>k (.c (.ptr id o)))
   |_=>false)
 |_=>false
theorem JV {t:TypeId}{f:Nat}{x:RV}{v:Value}{k:RV->Bool}(hx:GR ρ x v)(hk:zk P t f x k=true):Pu P ρ k (Instr.fieldAt t v f):=by
 unfold zk at hk
 split at hk
 ·rename_i id off
  obtain⟨d,hd,hk⟩:=ah hk
  try simp only[aB,aC,aO]at hd
  cases d<;>try(cases hk;done)
  rename_i fs
  obtain⟨fd,hf,hk⟩:=ah hk
  try simp only[aB,aC,aO]at hf
  obtain⟨n,hn,hk⟩:=ah hk
  obtain⟨h0,hk⟩:=aj hk
  rw[dY]at hk
  rw[aF]at hf
  have h0: ¬n=0:=fun e=>by subst e;simp at h0
  cases hx with
  |c hx=>cases hx with
   | @ptr _ b base cap _ hr=>
     refine⟨_,_,hk, .c (.ptr _ hr),fun w=>?_⟩
     have hf':fs[f]?=some fd:=by simpa using hf
     simp[Instr.fieldAt,run_underlying hd,hf',Instr.sureAddr,fieldPlace,cu hn,h0,Addr.add_lit,Nat.add_assoc]
 ·cases hk
noncomputable def nO (x:RV):Option Nat:=match x with
 | .c (.int _ n)=>Int.casesOn n some fun _=>none
 |_=>none
theorem iT {x:RV}{v:Value}{n:Nat}(h:nO x=some n)(hx:GR ρ x v): ∃q,v= .int q (n:Int):=by
 cases hx with
 |c hx=>cases hx<;>try(cases h;done)
        rename_i q m
        cases m with
        |ofNat m=>cases h;exact⟨q,rfl⟩
        |negSucc m=>cases h
 |agg=>cases h
 |aN=>cases h
noncomputable def FD (P:Program)(t:TypeId)(x ix:RV)(k:RV->Bool):Bool:=
 au (nO ix) fun i=>au (bQ P t) fun d=>(match d,x with
  | .slice e, .c (.sl id off len _ _)=>iff (Nat.ble (Nat.succ i) len) (au (pF P e) fun n=>fN (Nat.add off (Nat.mul i n)) fun o=>k (.c (.ptr id o)))
  | .array len e, .c (.ptr id off)=>iff (Nat.ble (Nat.succ i) len) (au (pF P e) fun n=>fN (Nat.add off (Nat.mul i n)) fun o=>k (.c (.ptr id o)))
  |_,_=>false)
theorem JR {t:TypeId}{x ix:RV}{v i:Value}{k:RV->Bool}(hx:GR ρ x v)(hi:GR ρ ix i)(hk:FD P t x ix k=true):Pu P ρ k (Instr.indexAt t v i):=by
 obtain⟨m,hm,hk⟩:=ah hk
 obtain⟨q,rfl⟩:=iT hm hi
 obtain⟨d,hd,hk⟩:=ah hk
 try simp only[aB,aC,aO]at hd
 split at hk
 ·rename_i e id off len cut lim _ _
  obtain⟨hl,hk⟩:=aj hk
  have hl:m<len:=aK hl
  obtain⟨n,hn,hk⟩:=ah hk
  rw[dY]at hk
  cases hx with
  |c hx=>cases hx with
   |sl _ _ _ _ hr h1 h2 h3=>
    refine⟨_,_,hk, .c (.ptr _ hr),fun w=>?_⟩
    simp[Instr.indexAt,asIntOf,run_underlying hd,cu hn,hl,Addr.add_lit,Nat.add_assoc]
 ·rename_i len e id off _ _
  obtain⟨hl,hk⟩:=aj hk
  have hl:m<len:=aK hl
  obtain⟨n,hn,hk⟩:=ah hk
  rw[dY]at hk
  cases hx with
  |c hx=>cases hx with
   |ptr _ hr=>
    refine⟨_,_,hk, .c (.ptr _ hr),fun w=>?_⟩
    simp[Instr.indexAt,asIntOf,run_underlying hd,cu hn,hl,Instr.sureAddr,Addr.add_lit,Nat.add_assoc]
 ·cases hk
theorem PZ {t:TypeId}{cells:List CV}{xs:List Value}(hx:F2 (G ρ) cells xs){off:Nat}{k:RV->Bool}(hk:ET P t cells off k=true):Pu P ρ k (part t xs.toArray off):=by
 obtain⟨ag,ha,hk⟩:=ah hk
 cases ag with
 |false=>
  obtain⟨c,hc,hk⟩:=ah hk
  rw[aF]at hc
  obtain⟨x,h1,h2⟩:=dQ hx hc
  exact⟨_,_,hk, .c h2,fun w=>by simp[part,vP ha,h1]⟩
 |true=>
  obtain⟨n,hn,hk⟩:=ah hk
  rw[eP]at hk
  obtain⟨_,hk⟩:=aj hk
  refine⟨_,_,hk, .agg (uj (um hx off) n),fun w=>?_⟩
  have:xs.toArray.extract off (off+n)=((xs.drop off).take n).toArray:=by
   simp[List.extract_toArray,List.extract_eq_take_drop]
  simp[part,vP ha,cu hn,this]
noncomputable def NI (P:Program)(t:TypeId)(f:Nat)(x:RV)(k:RV->Bool):Bool:=
 match x with
 | .agg l=>au (bQ P t) fun d=>(match d with
   | .struct fs=>au (aA fs.toList f) fun fd=>ET P fd.type l fd.offset k
   |_=>false)
 |_=>false
theorem Wj {t:TypeId}{f:Nat}{x:RV}{v:Value}{k:RV->Bool}(hx:GR ρ x v)(hk:NI P t f x k=true):Pu P ρ k (Instr.field t v f):=by
 unfold NI at hk
 split at hk
 ·obtain⟨d,hd,hk⟩:=ah hk
  try simp only[aB,aC,aO]at hd
  cases d<;>try(cases hk;done)
  rename_i fs
  obtain⟨fd,hf,hk⟩:=ah hk
  try simp only[aB,aC,aO]at hf
  rw[aF]at hf
  cases hx with
  |agg hx=>
   obtain⟨r,x,h1,h2,h3⟩:=PZ hx hk
   have hf':fs[f]?=some fd:=by simpa using hf
   exact⟨r,x,h1,h2,fun w=>by simp[Instr.field,run_underlying hd,hf',asAgg,h3]⟩
 ·cases hk
noncomputable def VW (P:Program)(t:TypeId)(x ix:RV)(k:RV->Bool):Bool:=
 au (nO ix) fun i=>au (bQ P t) fun d=>(match d,x with
  | .string, .c (.str s)=>au (aA s i) fun b=>k (.c (.int .u8 (Int.ofNat b)))
  | .array len e, .agg l=>iff (Nat.ble (Nat.succ i) len) (au (pF P e) fun n=>ET P e l (Nat.mul i n) k)
  |_,_=>false)
theorem WV {s:List Nat}(hs:small s){i b:Nat}(h:s[i]?=some b):(ba s)[i]?=some (UInt8.ofNat b)/\(UInt8.ofNat b).toNat=b:=by
 have hb:b<256:=hs b (List.mem_of_getElem? h)
 have hlt:=(List.getElem?_eq_some_iff.1 h).1
 refine⟨?_,by simp[UInt8.toNat_ofNat',Nat.mod_eq_of_lt hb]⟩
 have hi:i<(ba s).size:=by rw[jH];exact hlt
 rw[getElem?_pos (ba s) i hi]
 congr 1
 have:=(List.getElem?_eq_some_iff.1 h).2
 show(ba s).data[i]=_
 simp[ba,this]
theorem VU {t:TypeId}{x ix:RV}{v i:Value}{k:RV->Bool}(hx:GR ρ x v)(hi:GR ρ ix i)(hk:VW P t x ix k=true):Pu P ρ k (Instr.index t v i):=by
 obtain⟨m,hm,hk⟩:=ah hk
 obtain⟨q,rfl⟩:=iT hm hi
 obtain⟨d,hd,hk⟩:=ah hk
 try simp only[aB,aC,aO]at hd
 split at hk
 ·rename_i s _ _
  obtain⟨b,hb,hk⟩:=ah hk
  rw[aF]at hb
  cases hx with
  |c hx=>cases hx with
   |str _ hs=>
    obtain⟨h1,h2⟩:=WV hs hb
    refine⟨_,_,hk, .c (.int _ _),fun w=>?_⟩
    simp only[Instr.index,asIntOf,run_underlying hd,Sem.run_bind,Sem.run_pure,Result.andThen_ok]
    simp[h1,h2]
 ·rename_i len e l _ _
  obtain⟨hl,hk⟩:=aj hk
  have hl:m<len:=aK hl
  obtain⟨n,hn,hk⟩:=ah hk
  cases hx with
  |agg hx=>
   obtain⟨r,x,h1,h2,h3⟩:=PZ hx hk
   refine⟨r,x,h1,h2,fun w=>?_⟩
   have h3:=h3 w
   simp only[Nat.mul_eq]at h3
   simp[Instr.index,asIntOf,run_underlying hd,hl,cu hn,h3]
 ·cases hk
noncomputable def roomOf (h:Hp)(id cut:Nat)(lim:Option Nat):Option Nat:=match lim with
 |some c=>some c
 |none=>(match h.get id with|some (.row _ _ (some m))=>some (Nat.sub m cut)|_=>none)
theorem Ad (H:HR P g w0 ρ h nx w){id cut c:Nat}{lim:Option Nat}{b base cap:Nat}(hr:ρ id=some (.blk b base cap))(hc:roomOf h id cut lim=some c):lim.getD (cap-cut)=c:=by
 unfold roomOf at hc
 split at hc
 ·cases hc;rfl
 ·split at hc
  ·rename_i cells e m ho
   cases hc
   have:=H.ob ho hr
   cases this with
   |row hr' hh hcl hcap hsz hm=>
    rw[hr]at hr';cases hr'
    have:=(hcap m rfl).1
    subst this
    rfl
  ·cases hc
noncomputable def Dv (o:Option RV)(d:Nat):Option Nat:=match o with
 |none=>some d
 |some r=>nO r
theorem ug {o:Option RV}{ov:Option Value}(hov:Option.Rel (GR ρ) o ov){d n:Nat}(hn:Dv o d=some n):(ov=none/\n=d)\/ ∃q,ov=some (.int q (n:Int)):=by
 cases hov with
 |none=>cases hn;exact .inl ⟨rfl,rfl⟩
 |some hv=>obtain⟨q,rfl⟩:=iT hn hv;exact .inr ⟨q,rfl⟩
theorem jK {isS:Bool}{len cap l h m:Nat}{low high max:Option Value}{w:World}(hl:(low=none/\l=0)\/ ∃q,low=some (.int q (l:Int)))(hh:(high=none/\h=len/\max=none)\/ ∃q,high=some (.int q (h:Int)))
 (hm:(max=none/\m=cap)\/ ∃q,max=some (.int q (m:Int))) (h1:l<=h) (h2:h<=m) (h3:m<=cap):(Instr.sliceBounds isS len cap low high max).run P w= .ok (l,h,m) w:=by
 rcases hl with⟨rfl,rfl⟩|⟨q1,rfl⟩<;>rcases hm with⟨rfl,rfl⟩|⟨q2,rfl⟩<;>rcases hh with⟨rfl,rfl,hx⟩|⟨q3,rfl⟩<;>
  first
  |(cases hx;done)
  |simp[Instr.sliceBounds,Instr.sliceBound,asIntOf,h1,h2,h3]
def Pf (P:Program)(g:Nat)(w0:World)(ρ:Ren)(h:Hp)(nx:Nat)(k:RV->Hp->Nat->Bool)(s:Sem Value):Prop:=
 ∃r x ρ' h' nx',k r h' nx'=true/\Ext nx nx' ρ ρ'/\GR ρ' r x/\(∀m o,h.get m=some o->h'.get m=some o)/\(∀w,HR P g w0 ρ h nx w->HR P g w0 ρ' h' nx' w)/\ ∀w,s.run P w= .ok x w
theorem Pu.pf {k:RV->Hp->Nat->Bool}{s:Sem Value}(hp:Pu P ρ (fun r=>k r h nx) s):Pf P g w0 ρ h nx k s:=by
 obtain⟨r,x,h1,h2,h3⟩:=hp
 exact⟨r,x,ρ,h,nx,h1,Ext.refl _ _,h2,fun _ _ h=>h,fun _ H=>H,h3⟩
theorem HR.adB (H:HR P g w0 ρ h nx w){x:RI}(hx: ∀b base cap,x≠ .blk b base cap):HR P g w0 (ρ.put nx x) h (nx+1) w:=by
 have hle:=Ren.jq (H.fresh nx (Nat.le_refl _)) x
 have hb: ∀id b,gI (ρ.put nx x) id b->gI ρ id b:=fun id b ⟨base,cap,hb⟩=>by
  unfold Ren.put at hb
  split at hb
  ·cases hb;exact absurd rfl (hx _ _ _)
  ·exact⟨_,_,hb⟩
 refine⟨fun id hid=>?_,by have:=H.pX;omega,fun id p hp hn=>(H.objs id p hp (by
  have hne:id≠nx:=fun e=>by rw[e,H.hfr nx (Nat.le_refl _)]at hp;cases hp
  rwa[Ren.jc hne]at hn)).mono hle,fun i j oi oj b hi hj bi bj=>H.inj i j oi oj b hi hj (hb _ _ bi) (hb _ _ bj),fun id b hid=>H.own id b (hb _ _ hid),fun id b hid=>H.lt id b (hb _ _ hid),H.kept,fun i hi=>(H.glob i hi).imp fun _ h=>hle _ _ h,fun i hi=>H.hfr i (by omega)⟩
 unfold Ren.put;rw[if_neg (by omega)];exact H.fresh id (by omega)
def Pn (P:Program)(g:Nat)(w0:World)(ρ:Ren)(h:Hp)(nx:Nat)(k:RV->Nat->Bool)(s:Sem Value):Prop:=
 ∃r x ρ' nx',k r nx'=true/\Ext nx nx' ρ ρ'/\GR ρ' r x/\(∀w,HR P g w0 ρ h nx w->HR P g w0 ρ' h nx' w)/\ ∀w,s.run P w= .ok x w
theorem Pn.pf {k:RV->Hp->Nat->Bool}{s:Sem Value}(hp:Pn P g w0 ρ h nx (fun r nx=>k r h nx) s):Pf P g w0 ρ h nx k s:=by
 obtain⟨r,x,ρ',nx',h1,h2,h3,h4,h5⟩:=hp
 exact⟨r,x,ρ',h,nx',h1,h2,h3,fun _ _ h=>h,h4,h5⟩
noncomputable def slL (P:Program)(h:Hp)(nx:Nat)(e:TypeId)(id off len cut:Nat)(lim:Option Nat)(l:Nat)(hi mx:Option RV)(k:RV->Nat->Bool):Bool:=
 au (Dv hi len) fun u=>iff (Nat.ble l u) (au (pF P e) fun n=>(match mx with
  |some mx=>au (nO mx) fun m=>iff hi.isSome (iff (Nat.ble u m) (iff (match roomOf h id cut lim with|some c=>Nat.ble m c|none=>Nat.ble m len)
    (Bool.casesOn (Nat.beq m l) (fN (Nat.add off (Nat.mul l n)) fun o=>fN (Nat.sub u l) fun len=>fN (Nat.sub m l) fun c=>k (.c (.sl id o len 0 (some c))) nx) (k (.c (.sl id off 0 0 (some 0))) nx))))
  |none=>(match roomOf h id cut lim with
   |some c=>iff (Nat.ble u c) (Bool.casesOn (Nat.beq c l) (fN (Nat.add off (Nat.mul l n)) fun o=>fN (Nat.sub u l) fun len=>(match lim with
     |some _=>fN (Nat.sub c l) fun c=>k (.c (.sl id o len 0 (some c))) nx
     |none=>fN (Nat.add cut l) fun ct=>k (.c (.sl id o len ct none)) nx)) (k (.c (.sl id off 0 0 (some 0))) nx))
   |none=>iff (Nat.ble u len) (Bool.casesOn (Nat.ble (Nat.succ l) len) (k (.c (.xZ nx)) (Nat.succ nx)) (fN (Nat.add off (Nat.mul l n)) fun o=>fN (Nat.sub u l) fun ln=>fN (Nat.add cut l) fun ct=>k (.c (.sl id o ln ct none)) nx)))))
theorem aa7 (H:HR P g w0 ρ h nx w){t e:TypeId}(hd:P.underlying t=some (.slice e)){id off len cut l:Nat}{lim:Option Nat}{v:Value}(hx:G ρ (.sl id off len cut lim) v){lo hi mx:Option RV}{lv hv mv:Option Value}
 (hl:(lv=none/\l=0)\/ ∃q,lv=some (.int q (l:Int))) (hhi:Option.Rel (GR ρ) hi hv) (hmx:Option.Rel (GR ρ) mx mv) {k:RV->Nat->Bool} (hk:slL P h nx e id off len cut lim l hi mx k=true):
 Pn P g w0 ρ h nx k (Instr.sliceAt t v lv hv mv):=by
 obtain⟨u,hu,hk⟩:=ah hk
 try simp only[aB,aC,aO]at hu
 obtain⟨hlu,hk⟩:=aj hk
 have hlu:=aK hlu
 obtain⟨n,hn,hk⟩:=ah hk
 cases hx with
 | @sl _ b base cap _ _ _ _ hr h1 h2 h3=>
   obtain⟨C,hC⟩: ∃C,lim.getD (cap-cut)=C:=⟨_,rfl⟩
   have room:=fun c (hc:roomOf h id cut lim=some c)=>(Ad H hr hc).symm.trans hC
   rw[hC]at h1 h2⊢
   have hbase: ∀m,(mv=none/\m=C\/ ∃q,mv=some (.int q (m:Int)))->u<=m->m<=C->(hv=none->mv=none)-> ∀w,(Instr.sliceAt t (.slice (some ⟨b,base+off,none⟩) len C) lv hv mv).run P w=
    .ok (.slice (if m=l then some ⟨b,base+off,none⟩else some ⟨b,base+(off+l*n),none⟩) (u-l) (m-l)) w:=fun m hm V3 hmC hhm w=>by
    have hh:(hv=none/\u=len/\mv=none)\/ ∃q,hv=some (.int q (u:Int)):=by
     rcases ug hhi hu with⟨e1,e2⟩|e
     ·exact .inl ⟨e1,e2,hhm e1⟩
     ·exact .inr e
    have hb:=jK (isS:=true) (w:=w) (P:=P) hl hh hm hlu V3 hmC
    simp only[Instr.sliceAt,Sem.run_bind,run_underlying hd,Result.andThen_ok,Instr.slice,hb,cu hn,Sem.run_pure,Option.map_some,Addr.add_lit,Nat.add_assoc]
   cases hmx with
   |some hmr=>
    obtain⟨m,hm,hk⟩:=ah hk
    obtain⟨hs,hk⟩:=aj hk
    obtain⟨V3,hk⟩:=aj hk
    have V3:=aK V3
    obtain⟨hroom,hk⟩:=aj hk
    have hmC:m<=C:=by
     split at hroom
     ·rename_i c hc
      have:=room c hc
      have:=aK hroom
      omega
     ·have:=aK hroom
      omega
    have hrun:=hbase m (.inr (by obtain⟨q,rfl⟩:=iT hm hmr;exact⟨q,rfl⟩)) V3 hmC (fun e=>by subst e;cases hhi;cases hs)
    cases hml:Nat.beq m l with
    |true=>
     have hml':=aJ hml
     rw[hml]at hk
     refine⟨_,_,ρ,nx,hk,Ext.refl _ _, .c (.sl off 0 0 (some 0) hr (by simp) (by simp) (by simp)),fun _ H=>H,fun w=>?_⟩
     rw[hrun w,if_pos hml',show u-l=0 by omega,show m-l=0 by omega];rfl
    |false=>
     have hml':=nN hml
     rw[hml]at hk
     simp only[dY]at hk
     refine⟨_,_,ρ,nx,hk,Ext.refl _ _, .c (.sl _ _ 0 (some (m-l)) hr (by simp;omega) (by simp;omega) (by simp;omega)),fun _ H=>H,fun w=>?_⟩
     rw[hrun w,if_neg hml'];rfl
   |none=>
    have hrun:=hbase C (.inl ⟨rfl,rfl⟩)
    dsimp only at hk
    split at hk
    ·rename_i c hc
     have hcC:=room c hc
     subst hcC
     obtain⟨huc,hk⟩:=aj hk
     have huc:=aK huc
     have hrun:=hrun huc (Nat.le_refl _) (fun _=>rfl)
     cases hml:Nat.beq c l with
     |true=>
      have hml':=aJ hml
      rw[hml]at hk
      refine⟨_,_,ρ,nx,hk,Ext.refl _ _, .c (.sl off 0 0 (some 0) hr (by simp) (by simp) (by simp)),fun _ H=>H,fun w=>?_⟩
      rw[hrun w,if_pos hml',show u-l=0 by omega,show c-l=0 by omega];rfl
     |false=>
      have hml':=nN hml
      rw[hml]at hk
      simp only[dY]at hk
      split at hk
      ·refine⟨_,_,ρ,nx,hk,Ext.refl _ _, .c (.sl _ _ 0 (some (c-l)) hr (by simp;omega) (by simp;omega) (by simp;omega)),fun _ H=>H,fun w=>?_⟩
       rw[hrun w,if_neg hml'];rfl
      ·simp only[Option.getD_none]at hC
       refine⟨_,_,ρ,nx,hk,Ext.refl _ _, .c (.sl _ _ (cut+l) none hr (by simp;omega) (by simp;omega) (by simp)),fun _ H=>H,fun w=>?_⟩
       rw[hrun w,if_neg hml']
       have:(none:Option Nat).getD (cap-(cut+l))=c-l:=by simp;omega
       rw[this];rfl
    ·rename_i hc
     obtain⟨hul,hk⟩:=aj hk
     have hul:=aK hul
     have hlim:lim=none:=by
      cases lim with
      |none=>rfl
      |some c=>simp[roomOf]at hc
     rw[hlim,Option.getD_none]at hC
     have hrun:=hrun (by omega) (Nat.le_refl _) (fun _=>rfl)
     cases hll:Nat.ble (Nat.succ l) len with
     |true=>
      have aeM:l<len:=aK hll
      rw[hll]at hk
      simp only[dY]at hk
      refine⟨_,_,ρ,nx,hk,Ext.refl _ _, .c (.sl _ _ (cut+l) none hr (by simp;omega) (by simp;omega) (by simp)),fun _ H=>H,fun w=>?_⟩
      rw[hrun w,if_neg (by omega)]
      have:(none:Option Nat).getD (cap-(cut+l))=C-l:=by simp;omega
      rw[this];rfl
     |false=>
      have aeM: ¬l<len:=fun hh=>by rw[xI hh]at hll;cases hll
      rw[hll]at hk
      obtain⟨a,ha⟩: ∃a,(if C=l then some (⟨b,base+off,none⟩:Addr)else some ⟨b,base+(off+l*n),none⟩)=some ⟨b,a,none⟩:=by split<;>exact⟨_,rfl⟩
      refine⟨_,_,ρ.put nx (.slv b a (C-l)),nx+1,hk,Ext.put (H.fresh nx (Nat.le_refl _)) _, .c (.xZ (Ren.dF _ _ _) (by omega)),fun _ H=>H.adB (fun _ _ _ h=>by cases h),fun w=>?_⟩
      rw[hrun w,ha,show u-l=0 by omega]
noncomputable def UO (P:Program)(h:Hp)(nx:Nat)(t:TypeId)(x:RV)(lo hi mx:Option RV)(k:RV->Nat->Bool):Bool:=
 au (bQ P t) fun d=>au (Dv lo 0) fun l=>(match d,x with
  | .string, .c (.str s)=>(match mx with
    |none=>au (Dv hi (llen s)) fun e=>iff (Nat.ble l e) (iff (Nat.ble e (llen s)) (fL ((s.take e).drop l) fun s=>k (.c (.str s)) nx))
    |some _=>false)
  | .slice el, .c .bW=>(match mx with
    |none=>au (Dv hi 0) fun e=>iff (Nat.beq l 0) (iff (Nat.beq e 0) (au (pF P el) fun _=>k (.c .bW) nx))
    |some mx=>au (nO mx) fun m=>iff hi.isSome (iff (Nat.beq m 0) (au (Dv hi 0) fun e=>iff (Nat.beq l 0) (iff (Nat.beq e 0) (au (pF P el) fun _=>k (.c .bW) nx)))))
  | .slice e, .c (.sl id off len cut lim)=>slL P h nx e id off len cut lim l hi mx k
  | .array len e, .c (.ptr id off)=>(match mx with
    |none=>au (Dv hi len) fun u=>iff (Nat.ble l u) (iff (Nat.ble u len) (iff (Nat.ble len 1099511627776) (au (pF P e) fun n=>Bool.casesOn (Nat.beq len l) (fN (Nat.add off (Nat.mul l n)) fun o=>fN (Nat.sub u l) fun ln=>fN (Nat.sub len l) fun c=>k (.c (.sl id o ln 0 (some c))) nx) (k (.c (.sl id off 0 0 (some 0))) nx))))
    |some _=>false)
  |_,_=>false)
theorem Ol (s:List Nat)(l e:Nat):(ba s).extract l e=ba ((s.take e).drop l):=by
 apply ByteArray.ext
 apply Array.ext'
 simp[ba,ByteArray.data_extract,List.extract_eq_take_drop,List.drop_take,List.map_take,List.map_drop]
theorem UN (H:HR P g w0 ρ h nx w){t:TypeId}{x:RV}{v:Value}(hx:GR ρ x v){lo hi mx:Option RV}{lv hv mv:Option Value}
 (hlo:Option.Rel (GR ρ) lo lv) (hhi:Option.Rel (GR ρ) hi hv) (hmx:Option.Rel (GR ρ) mx mv) {k:RV->Nat->Bool} (hk:UO P h nx t x lo hi mx k=true):
 Pn P g w0 ρ h nx k (Instr.sliceAt t v lv hv mv):=by
 obtain⟨d,hd,hk⟩:=ah hk
 try simp only[aB,aC,aO]at hd
 obtain⟨l,hl,hk⟩:=ah hk
 have hl:=ug hlo hl
 split at hk
 ·rename_i s _ _
  cases hmx with
  |some=>cases hk
  |none=>
   obtain⟨e,he,hk⟩:=ah hk
   obtain⟨h1,hk⟩:=aj hk
   obtain⟨h2,hk⟩:=aj hk
   have h1:=aK h1
   have h2:=aK h2
   rw[eP]at hk
   rw[aG]at h2 he
   cases hx with
   |c hx=>cases hx with
    |str _ hs=>
     refine⟨_,_,ρ,nx,hk,Ext.refl _ _, .c (.str _ fun b hb=>hs b (List.mem_of_mem_take (List.mem_of_mem_drop hb))),fun _ H=>H,fun w=>?_⟩
     have hh:(hv=none/\e=(ba s).size/\(none:Option Value)=none)\/ ∃q,hv=some (.int q (e:Int)):=by
      rcases ug hhi he with⟨e1,e2⟩|e'
      ·exact .inl ⟨e1,by rw[jH];exact e2,rfl⟩
      ·exact .inr e'
     have hb:=jK (isS:=false) (w:=w) (P:=P) (max:=none) hl hh (.inl ⟨rfl,rfl⟩) h1 (m:=(ba s).size) (cap:=(ba s).size) (by rw[jH];exact h2) (Nat.le_refl _)
     simp[Instr.sliceAt,run_underlying hd,Instr.slice,hb,Ol]
 ·cases hmx with
  |some hmr=>
   obtain⟨m,hm,hk⟩:=ah hk
   obtain⟨hsm,hk⟩:=aj hk
   obtain⟨h0,hk⟩:=aj hk
   have h0:=aJ h0
   subst h0
   obtain⟨e,he,hk⟩:=ah hk
   obtain⟨h1,hk⟩:=aj hk
   obtain⟨h2,hk⟩:=aj hk
   have h1:=aJ h1
   have h2:=aJ h2
   subst h1 h2
   obtain⟨n,hn,hk⟩:=ah hk
   cases hx with
   |c hx=>cases hx with
    |bW=>
     refine⟨_,_,ρ,nx,hk,Ext.refl _ _, .c .bW,fun _ H=>H,fun w=>?_⟩
     obtain⟨q,hq⟩: ∃q,hv=some (.int q ((0:Nat):Int)):=by
      rcases ug hhi he with⟨e1,e2⟩|e'
      ·subst e1;cases hhi;cases hsm
      ·exact e'
     obtain⟨qm,rfl⟩:=iT hm hmr
     have hb:=jK (isS:=true) (w:=w) (P:=P) (len:=0) hl (.inr ⟨q,hq⟩) (.inr ⟨qm,rfl⟩) (Nat.le_refl 0) (m:=0) (cap:=0) (Nat.le_refl _) (Nat.le_refl _)
     simp only[Instr.sliceAt,Sem.run_bind,run_underlying hd,Result.andThen_ok,Instr.slice,hb,cu hn,Sem.run_pure]
     rfl
  |none=>
   obtain⟨e,he,hk⟩:=ah hk
   obtain⟨h1,hk⟩:=aj hk
   obtain⟨h2,hk⟩:=aj hk
   have h1:=aJ h1
   have h2:=aJ h2
   subst h1 h2
   obtain⟨n,hn,hk⟩:=ah hk
   cases hx with
   |c hx=>cases hx with
    |bW=>
     refine⟨_,_,ρ,nx,hk,Ext.refl _ _, .c .bW,fun _ H=>H,fun w=>?_⟩
     have hh:(hv=none/\0=0/\(none:Option Value)=none)\/ ∃q,hv=some (.int q ((0:Nat):Int)):=by
      rcases ug hhi he with⟨e1,e2⟩|e'
      ·exact .inl ⟨e1,rfl,rfl⟩
      ·exact .inr e'
     have hb:=jK (isS:=true) (w:=w) (P:=P) (max:=none) hl hh (.inl ⟨rfl,rfl⟩) (Nat.le_refl 0) (m:=0) (cap:=0) (Nat.le_refl _) (Nat.le_refl _)
     simp[Instr.sliceAt,run_underlying hd,Instr.slice,hb,cu hn]
 ·cases hx with
  |c hx=>exact aa7 (lo:=lo) H hd hx hl hhi hmx hk
 ·rename_i len e id off _ _
  cases hmx with
  |some=>cases hk
  |none=>
   obtain⟨u,hu,hk⟩:=ah hk
   try simp only[aB,aC,aO]at hu
   obtain⟨h1,hk⟩:=aj hk
   obtain⟨h2,hk⟩:=aj hk
   obtain⟨h3,hk⟩:=aj hk
   have h1:=aK h1
   have h2:=aK h2
   have h3:=aK h3
   obtain⟨n,hn,hk⟩:=ah hk
   cases hx with
   |c hx=>cases hx with
    | @ptr _ b base cap _ hr=>
      have hh:(hv=none/\u=len/\(none:Option Value)=none)\/ ∃q,hv=some (.int q (u:Int)):=by
       rcases ug hhi hu with⟨e1,e2⟩|e'
       ·exact .inl ⟨e1,e2,rfl⟩
       ·exact .inr e'
      have hb:=fun w=>jK (isS:=false) (w:=w) (P:=P) (max:=none) hl hh (.inl ⟨rfl,rfl⟩) h1 (m:=len) (cap:=len) h2 (Nat.le_refl _)
      have hrun: ∀w,(Instr.sliceAt t (.pointer (some ⟨b,base+off,none⟩)) lv hv none).run P w= .ok (.slice (some (if len=l then⟨b,base+off,none⟩else⟨b,base+(off+l*n),none⟩)) (u-l) (len-l)) w:=fun w=>by
       simp only[Instr.sliceAt,Sem.run_bind,run_underlying hd,Result.andThen_ok,Instr.sureAddr,Sem.run_pure,hb,cu hn,Addr.add_lit,Nat.add_assoc]
      have hmax:(1099511627776:Nat)<=maxLen:=by unfold maxLen;omega
      cases hml:Nat.beq len l with
      |true=>
       have hml':=aJ hml
       rw[hml]at hk
       refine⟨_,_,ρ,nx,hk,Ext.refl _ _, .c (.sl off 0 0 (some 0) hr (by simp) (by simp) (by simp)),fun _ H=>H,fun w=>?_⟩
       rw[hrun w,if_pos hml',show u-l=0 by omega,show len-l=0 by omega];rfl
      |false=>
       have hml':=nN hml
       rw[hml]at hk
       simp only[dY]at hk
       refine⟨_,_,ρ,nx,hk,Ext.refl _ _, .c (.sl _ _ 0 (some (len-l)) hr (by simp;omega) (by simp;omega) (by simp;omega)),fun _ H=>H,fun w=>?_⟩
       rw[hrun w,if_neg hml'];rfl
 ·cases hk
end
end bC
end Go.Proofs.YtakhobfamnjnoaaGreatDoor
