/- The machine's operations: lengths, conversions, maps, iterators, functions, copy. -/
import Derived.Test.YtakhobfamnjnoaaGreatDoorC41
set_option linter.unusedVariables false
set_option linter.unusedSimpArgs false
namespace Go.Proofs.YtakhobfamnjnoaaGreatDoor
section
namespace bU
open Go Go.RowKit
section
variable {P:Program} {g:Nat} {w0:World} {ρ:Ren} {h:Hp} {nx:Nat} {w:World}
def Fl (P:Program)(g:Nat)(w0:World)(ρ:Ren)(h:Hp)(nx:Nat)(k:RV->Hp->Nat->List Nat->Bool)(s:Sem Value):Prop:=
 ∃r x ρ' h' nx' ids,k r h' nx' ids=true/\Ext nx nx' ρ ρ'/\GR ρ' r x/\(∀id∈ids,ρ id≠none)/\(∀m o,h.get m=some o->h'.get m=some o)/\(∀w,HR P g w0 ρ h nx w->HR P g w0 ρ' h' nx' w)/\ ∀w,(∀id∈ids,∀o,h.get id=some o->Ob P ρ id o w)->s.run P w= .ok x w
def Rd (P:Program)(ρ:Ren)(h:Hp)(k:RV->List Nat->Bool)(s:Sem Value):Prop:=
 ∃r x ids,k r ids=true/\GR ρ r x/\(∀id∈ids,ρ id≠none)/\ ∀w,(∀id∈ids,∀o,h.get id=some o->Ob P ρ id o w)->s.run P w= .ok x w
theorem Rd.fl {k:RV->Hp->Nat->List Nat->Bool}{s:Sem Value}(hp:Rd P ρ h (fun r ids=>k r h nx ids) s):Fl P g w0 ρ h nx k s:=by
 obtain⟨r,x,ids,h1,h2,hn,h3⟩:=hp
 exact⟨r,x,ρ,h,nx,ids,h1,Ext.refl _ _,h2,hn,fun _ _ h=>h,fun _ H=>H,h3⟩
theorem Pu.rd {k:RV->List Nat->Bool}{s:Sem Value}(hp:Pu P ρ (fun r=>k r []) s):Rd P ρ h k s:=by
 obtain⟨r,x,h1,h2,h3⟩:=hp
 exact⟨r,x,[],h1,h2,fun _ h=>(by cases h),fun w _=>h3 w⟩
theorem Pf.fl {k:RV->Hp->Nat->List Nat->Bool}{s:Sem Value}(hp:Pf P g w0 ρ h nx (fun r h nx=>k r h nx []) s):Fl P g w0 ρ h nx k s:=by
 obtain⟨r,x,ρ',h',nx',h1,h2,h3,h6,h4,h5⟩:=hp
 exact⟨r,x,ρ',h',nx',[],h1,h2,h3,fun _ h=>(by cases h),h6,h4,fun w _=>h5 w⟩
theorem Pu.fl {k:RV->Hp->Nat->List Nat->Bool}{s:Sem Value}(hp:Pu P ρ (fun r=>k r h nx []) s):Fl P g w0 ρ h nx k s:=Pf.fl (Pu.pf (k:=fun r h nx=>k r h nx []) hp)
theorem QO (H:HR P g w0 ρ h nx w){t:TypeId}{p:RV}{v:Value}(hp:GR ρ p v){k:RV->List Nat->Bool}(hk:OU P h t p k=true):Rd P ρ h k (Instr.loadAt t v):=by
 unfold OU at hk
 split at hk
 ·rename_i id off
  obtain⟨o,ho,hk⟩:=ah hk
  obtain⟨cells,hrow,hk⟩:=ah hk
  cases hp with
  |c hp=>cases hp with
   |ptr _ hr=>
    obtain⟨r,x,h1,h2,h3⟩:=WQ hrow hr hk (H.ob ho hr)
    refine⟨r,x,[id],h1,h2,fun id hid=>by have e:id=_:=List.mem_singleton.1 hid;rw[e,hr];simp,fun w hw=>?_⟩
    simp[Instr.loadAt,Instr.sureAddr,h3 w (hw id (by simp) _ ho)]
 ·cases hk
noncomputable def unK (op:UnOp)(x:RV)(k:RV->Bool):Bool:=match op,x with
 | .neg, .c (.int q n)=>kI q k (zS q (Int.sub 0 n))
 | .not, .c (.bool b)=>kB k (!b)
 | .xor, .c (.int q n)=>kI q k (zS q (Int.ofNat (Nat.xor (uN (mB q) (if q.signed then-1 else q.max)) (uN (mB q) n))))
 |_,_=>false
theorem aeA {op:UnOp}{x:RV}{v:Value}{k:RV->Bool}(hx:GR ρ x v)(hk:unK op x k=true):Pu P ρ k (Op.unary op v):=by
 unfold unK at hk
 split at hk
 ·cases hx with
  |c hx=>cases hx;exact eH hk fun w=>by simp only[Op.unary,Op.intArith,ou,Sem.run_pure];rfl
 ·cases hx with
  |c hx=>cases hx;exact dF hk fun w=>by simp[Op.unary]
 ·cases hx with
  |c hx=>cases hx;exact eH hk fun w=>by simp only[Op.unary,Op.intBits,ou,Iz];simp only[BitVec.toNat_xor];rfl
 ·cases hk
noncomputable def zl (l:List CV):Option (List Nat):=List.rec (motive:=fun _=>Option (List Nat)) (some []) (fun c _ ih=>match c with
 | .int .u8 n=>Int.casesOn n (fun m=>Bool.casesOn (Nat.ble 256 m) (Option.casesOn ih none fun l=>some (m::l)) none) fun _=>none
 |_=>none) l
theorem Sr {l:List CV}{xs:List Value}(hx:F2 (G ρ) l xs): ∀{s:List Nat},zl l=some s->small s/\xs=(s.map Int.ofNat).map (Value.int .u8):=by
 induction hx with
 |nil=>intro s h;cases h;exact⟨fun b hb=>(by cases hb),rfl⟩
 | @cons c x l xs hc _ ih=>
   intro s h
   cases c<;>try(cases h;done)
   rename_i q n
   cases q<;>try(cases h;done)
   cases n with
   |negSucc=>cases h
   |ofNat m=>
    change Bool.casesOn (motive:=fun _=>Option (List Nat)) (Nat.ble 256 m) (Option.casesOn (motive:=fun _=>Option (List Nat)) (zl l) none fun l=>some (m::l)) none=some s at h
    cases hb:Nat.ble 256 m with
    |true=>rw[hb]at h;cases h
    |false=>
     rw[hb]at h
     have hm:m<256:=by
      rcases Nat.lt_or_ge m 256 with h|h
      ·exact h
      ·rw[Ag h]at hb;cases hb
     cases hl:zl l with
     |none=>rw[hl]at h;cases h
     |some s'=>
      rw[hl]at h
      cases h
      obtain⟨h1,h2⟩:=ih hl
      cases hc
      refine⟨fun b hb=>?_,by rw[h2];rfl⟩
      cases hb with
      |head=>exact hm
      |tail _ hb=>exact h1 b hb
noncomputable def ada (P:Program)(h:Hp)(src dst:TypeId)(x:RV)(k:RV->List Nat->Bool):Bool:=
 au (dL P src) fun ds=>au (dL P dst) fun dd=>(match ds,dd,x with
  |_, .int q, .c (.int _ n)=>kI q (fun r=>k r []) (zS q n)
  |_, .string, .c (.str s)=>k (.c (.str s)) []
  | .int _, .string, .c (.int _ (.ofNat n))=>iff (Nat.ble (Nat.succ n) 128) (k (.c (.str [n])) [])
  | .slice e, .string, .c .bZ=>au (dL P e) fun de=>(match de with| .int .u8=>k (.c (.str [])) []|_=>false)
  | .slice e, .string, .c (.sl id off len _ _)=>au (dL P e) fun de=>(match de with
    | .int .u8=>au (h.get id) fun o=>au (rowOf o) fun cells=>iff (Nat.ble (Nat.add off len) (llen cells)) (au (zl ((cells.drop off).take len)) fun s=>Z8 s fun s=>k (.c (.str s)) [id])
    |_=>false)
  |_,_,_=>false)
theorem Gj: ∀(s:List Nat)(acc:List Nat),(s.map Int.ofNat).foldl (fun(r:ByteArray) (n:Int)=>r.push (UInt8.ofNat n.toNat)) (ba acc)=ba (acc++s)
 |[],acc=>by simp
 |b::s,acc=>by
  have:(ba acc).push (UInt8.ofNat (Int.ofNat b).toNat)=ba (acc++[b]):=by
   apply ByteArray.ext
   simp[ba,ByteArray.push]
  simp only[List.map_cons,List.foldl_cons]
  rw[this,Gj s]
  simp
theorem ab6 (H:HR P g w0 ρ h nx w){src dst:TypeId}{x:RV}{v:Value}(hx:GR ρ x v){k:RV->List Nat->Bool}(hk:ada P h src dst x k=true):Rd P ρ h k (convert src dst v):=by
 obtain⟨ds,hds,hk1⟩:=ah hk
 try simp only[aG,aH,aW]at hds
 clear hk
 obtain⟨dd,hdd,hk⟩:=ah hk1
 try simp only[aG,aH,aW]at hdd
 clear hk1
 split at hk
 ·cases hx with
  |c hx=>cases hx;exact(eH (k:=fun r=>k r []) hk fun w=>by simp[convert,run_underlying hds,run_underlying hdd,Conv.intToInt,ou]).rd
 ·cases hx with
  |c hx=>cases hx with
   |str _ hs=>exact Pu.rd ⟨_,_,hk, .c (.str _ hs),fun w=>by cases ds<;>simp[convert,run_underlying hds,run_underlying hdd]⟩
 ·rename_i n
  obtain⟨hn,hk⟩:=aj hk
  have hn:n<128:=aT hn
  cases hx with
  |c hx=>
   cases hx
   refine Pu.rd ⟨_,_,hk, .c (.str [n] fun b hb=>by have:=List.mem_singleton.1 hb;omega),fun w=>?_⟩
   have hv:Utf8.valid (Int.ofNat n)=true:=by
    have:(Int.ofNat n)<0xD800:=by show(n:Int)<55296;omega
    simp[Utf8.valid];omega
   have he:Utf8.encode (Int.ofNat n)=ba [n]:=by
    simp only[Utf8.encode,hv,if_true]
    have:(Int.ofNat n).toNat=n:=rfl
    rw[this,if_pos (by omega)]
    rfl
   simp only[convert,run_underlying hds,run_underlying hdd,Sem.run_bind,Result.andThen_ok,Conv.intToString,he,Sem.run_pure]
 ·obtain⟨de,hde,hk⟩:=ah hk
  try simp only[aG,aH,aW]at hde
  split at hk
  ·cases hx with
   |c hx=>cases hx;exact Pu.rd ⟨_,_,hk, .c (.str [] fun b hb=>(by cases hb)),fun w=>by
     rw[run_convert_bytes_string w src dst _ _ _ _ hds hde hdd]
     simp[Conv.bytesToString];rfl⟩
  ·cases hk
 ·rename_i e id off len _ _
  obtain⟨de,hde,hk⟩:=ah hk
  try simp only[aG,aH,aW]at hde
  split at hk
  ·obtain⟨o,ho,hk⟩:=ah hk
   obtain⟨cells,hrow,hk⟩:=ah hk
   obtain⟨hfit,hk⟩:=aj hk
   have hfit:off+len<=cells.length:=by rw[<-aI];exact aT hfit
   obtain⟨s,hs,hk⟩:=ah hk
   rw[RQ]at hk
   cases hx with
   |c hx=>cases hx with
    |sl _ _ _ _ hr h1 h2 h3=>
     obtain⟨xs,hxs,_⟩:=(H.ob ho hr).cells hrow hr off len
     obtain⟨hsm,hxe⟩:=Sr hxs hs
     have hlen:xs.length=len:=by rw[<-dw hxs];simp;omega
     refine⟨_,_,_,hk, .c (.str s hsm),fun id hid=>by have e:id=_:=List.mem_singleton.1 hid;rw[e,hr];simp,fun w hw=>?_⟩
     obtain⟨ys,hys,hc⟩:=(hw _ (by simp) _ ho).cells hrow hr off len
     have:=J5 hxs hys
     subst this
     have hl:=run_loadCells_list (P:=P) w _ xs hc
     rw[hlen,hxe]at hl
     rw[run_convert_bytes_string w src dst _ _ _ _ hds hde hdd,run_bytesToString w _ len _ (s.map Int.ofNat) hl]
     have:=Gj s []
     simp only[List.nil_append]at this
     rw[<-this];rfl
  ·cases hk
 ·cases hk
noncomputable def afy (P:Program)(h:Hp)(t:TypeId)(x:RV)(k:RV->List Nat->Bool):Bool:=
 au (dL P t) fun d=>(match d,x with
  | .string, .c (.str s)=>k (.c (.int .i64 (Int.ofNat (llen s)))) []
  | .array n _,_=>k (.c (.int .i64 (Int.ofNat n))) []
  | .slice _, .c .bZ=>k (.c (.int .i64 (Int.ofNat 0))) []
  | .slice _, .c (.AA _)=>k (.c (.int .i64 (Int.ofNat 0))) []
  | .slice _, .c (.sl _ _ n _ _)=>k (.c (.int .i64 (Int.ofNat n))) []
  | .map .., .c .nV=>k (.c (.int .i64 (Int.ofNat 0))) []
  | .map .., .c (.mp id)=>au (h.get id) fun o=>(match o with| .map es _=>fN (llen es) fun n=>k (.c (.int .i64 (Int.ofNat n))) [id]|_=>false)
  | .chan .., .c (.ch id)=>au (h.get id) fun o=>(match o with| .chan _ buf _ _=>fN (llen buf) fun n=>k (.c (.int .i64 (Int.ofNat n))) [id]|_=>false)
  |_,_=>false)
theorem Ob.lD {id:Nat}{es:List ME}{clock:Nat}(ho:Ob P ρ id (.map es clock) w){b x y:Nat}(hr:ρ id=some (.blk b x y)): ∃xs,w.heap[b]?=some (.map xs.toArray clock)/\F2 (GE ρ) es xs:=by
 cases ho with
 |map hr' hh hx=>rw[hr]at hr';cases hr';exact⟨_,hh,hx⟩
theorem aY {b:Nat}{o:Obj}(hh:w.heap[b]?=some o)(hc: ∀c e f,o≠ .cells c e f):(getObj b).run P w= .ok o w:=by
 cases o<;>simp[getObj,Sem.run,hh]
 exact absurd rfl (hc _ _ _)
theorem adZ (H:HR P g w0 ρ h nx w){t ty:TypeId}{x:RV}{v:Value}(hx:GR ρ x v){k:RV->List Nat->Bool}(hk:afy P h t x k=true):Rd P ρ h k (Builtin.len_ #[t] ty #[v]):=by
 obtain⟨d,hd,hk1⟩:=ah hk
 try simp only[aG,aH,aW]at hd
 clear hk
 split at hk1
 ·cases hx with
  |c hx=>cases hx;exact Pu.rd ⟨_,_,hk1, .c (.int _ _),fun w=>by simp[Builtin.len_,run_underlying hd,lQ,aI,goInt]⟩
 ·exact Pu.rd ⟨_,_,hk1, .c (.int _ _),fun w=>by simp[Builtin.len_,run_underlying hd,goInt]⟩
 ·cases hx with
  |c hx=>cases hx;exact Pu.rd ⟨_,_,hk1, .c (.int _ _),fun w=>by simp[Builtin.len_,run_underlying hd,goInt]⟩
 ·cases hx with
  |c hx=>cases hx;exact Pu.rd ⟨_,_,hk1, .c (.int _ _),fun w=>by simp[Builtin.len_,run_underlying hd,goInt]⟩
 ·cases hx with
  |c hx=>cases hx;exact Pu.rd ⟨_,_,hk1, .c (.int _ _),fun w=>by simp[Builtin.len_,run_underlying hd,goInt]⟩
 ·cases hx with
  |c hx=>cases hx;exact Pu.rd ⟨_,_,hk1, .c (.int _ _),fun w=>by simp[Builtin.len_,run_underlying hd,goInt]⟩
 ·obtain⟨o,ho,hk⟩:=ah hk1
  cases o<;>try(cases hk;done)
  dsimp only at hk
  rw[gW]at hk
  cases hx with
  |c hx=>cases hx with
   |mp hr=>
    refine⟨_,_,_,hk, .c (.int _ _),fun id hid=>by have e:id=_:=List.mem_singleton.1 hid;rw[e,hr];simp,fun w hw=>?_⟩
    obtain⟨xs,hh,hxs⟩:=(hw _ (by simp) _ ho).lD hr
    simp[Builtin.len_,run_underlying hd,goInt,aY hh (fun _ _ _=>by simp),aI,dw hxs]
 ·obtain⟨o,ho,hk⟩:=ah hk1
  cases o<;>try(cases hk;done)
  dsimp only at hk
  rw[gW]at hk
  cases hx with
  |c hx=>cases hx with
   |ch hr=>
    refine⟨_,_,_,hk, .c (.int _ _),fun id hid=>by have e:id=_:=List.mem_singleton.1 hid;rw[e,hr];simp,fun w hw=>?_⟩
    cases hw _ (by simp) _ ho with
    |chan hr' hh hxs=>
     rw[hr]at hr';cases hr'
     simp[Builtin.len_,run_underlying hd,goInt,aY hh (fun _ _ _=>by simp),aI,dw hxs]
 ·cases hk1
noncomputable def agy (P:Program)(h:Hp)(t:TypeId)(x:RV)(k:RV->List Nat->Bool):Bool:=
 au (dL P t) fun d=>(match d,x with
  | .slice _, .c .bZ=>k (.c (.int .i64 (Int.ofNat 0))) []
  | .slice _, .c (.sl id _ _ cut lim)=>au (roomOf h id cut lim) fun n=>fN n fun n=>k (.c (.int .i64 (Int.ofNat n))) []
  | .chan .., .c (.ch id)=>au (h.get id) fun o=>(match o with| .chan n _ _ _=>k (.c (.int .i64 (Int.ofNat n))) [id]|_=>false)
  |_,_=>false)
theorem aej (H:HR P g w0 ρ h nx w){t ty:TypeId}{x:RV}{v:Value}(hx:GR ρ x v){k:RV->List Nat->Bool}(hk:agy P h t x k=true):Rd P ρ h k (Builtin.cap_ #[t] ty #[v]):=by
 obtain⟨d,hd,hk1⟩:=ah hk
 try simp only[aG,aH,aW]at hd
 clear hk
 split at hk1
 ·cases hx with
  |c hx=>cases hx;exact Pu.rd ⟨_,_,hk1, .c (.int _ _),fun w=>by simp[Builtin.cap_,run_underlying hd,goInt]⟩
 ·obtain⟨n,hn,hk⟩:=ah hk1
  rw[gW]at hk
  cases hx with
  |c hx=>cases hx with
   |sl _ _ _ _ hr h1 h2 h3=>
    have:=DJ H hr hn
    exact Pu.rd ⟨_,_,hk, .c (.int _ _),fun w=>by simp[Builtin.cap_,run_underlying hd,goInt,this]⟩
 ·obtain⟨o,ho,hk⟩:=ah hk1
  cases o<;>try(cases hk;done)
  dsimp only at hk
  cases hx with
  |c hx=>cases hx with
   |ch hr=>
    refine⟨_,_,_,hk, .c (.int _ _),fun id hid=>by have e:id=_:=List.mem_singleton.1 hid;rw[e,hr];simp,fun w hw=>?_⟩
    cases hw _ (by simp) _ ho with
    |chan hr' hh hxs=>
     rw[hr]at hr';cases hr'
     simp[Builtin.cap_,run_underlying hd,goInt,aY hh (fun _ _ _=>by simp)]
 ·cases hk1
end
end bU
end
section
namespace bU
open Go Go.RowKit
section
variable {P:Program} {g:Nat} {w0:World} {ρ:Ren} {h:Hp} {nx:Nat} {w:World}
theorem GA.Gn {a:AV}{x y:Value}(hx:GA ρ a x)(hy:GA ρ a y):x=y:=by
 cases hx with
 |c hx=>cases hy with
  |c hy=>exact G.Gn hx hy
 |agg hx=>cases hy with
  |agg hy=>rw[J5 hx hy]
noncomputable def oZ (P:Program)(d:TypeDesc)(kt:TypeId)(a b:AV):Option Bool:=match d,a,b with
 | .int _, .c (.int q x), .c (.int q' y)=>if q=q' then some (uy x y)else none
 | .string, .c (.str x), .c (.str y)=>some (Ea x y)
 | .bool, .c (.bool x), .c (.bool y)=>some (x==y)
 | .struct fs, .agg x, .agg y=>if P.stoodInHeld kt then none else CG P x y fs.toList
 |_,_,_=>none
noncomputable def zf (P:Program)(d:TypeDesc)(a:AV):Bool:=match d,a with
 | .int _, .c (.int _ _)=>true
 | .string, .c (.str _)=>true
 | .bool, .c (.bool _)=>true
 | .struct fs, .agg x=>(match CG P x x fs.toList with|some true=>true|_=>false)
 |_,_=>false
noncomputable def tX (P:Program)(d:TypeDesc)(kt:TypeId)(key:AV)(es:List ME):Nat->Option (Option (Nat×AV)):=
 List.rec (motive:=fun _=>Nat->Option (Option (Nat×AV))) (fun _=>some none) (fun e _ ih i=>match oZ P d kt key e.key with
  |some true=>some (some (i,e.val))
  |some false=>ih (Nat.succ i)
  |none=>none) es
inductive Tn (ρ:Ren):Option (Nat×AV)->Option (Nat×Value)->Prop where
 |none:Tn ρ none none
 |some {i:Nat} {v:AV} {x:Value} (h:GA ρ v x):Tn ρ (some (i,v)) (some (i,x))
theorem Z5 {d:TypeDesc}{kt:TypeId}{key:AV}{kx:Value}(hd:(∃q,d= .int q)\/d= .string\/d= .bool)(hk:GA ρ key kx){es:List ME}{xs:List MapEntry}(hx:F2 (GE ρ) es xs): ∀{i:Nat}{r:Option (Nat×AV)},tX P d kt key es i=some r->
 ∃r',Instr.findNow d kx xs i=some r'/\Tn ρ r r':=by
 induction hx with
 |nil=>intro i r h;cases h;exact⟨_,rfl, .none⟩
 | @cons e x _ _ he _ ih=>
   intro i r h
   have same: ∀{b:Bool},oZ P d kt key e.key=some b->Instr.sameNow d kx x.key=some b:=fun{b} hb=>by
    unfold oZ at hb
    have he1:=he.1
    generalize x.key=xk at he1⊢
    split at hb
    ·rename_i q q' a q'' a' _ e2
     split at hb
     ·rename_i hq
      cases hb
      rw[e2]at he1
      cases hk with
      |c hk=>cases hk;cases he1 with
       |c he1=>cases he1;simp[Instr.sameNow,hq,qg];try rfl
     ·cases hb
    ·rename_i a a' _ e2
     cases hb
     rw[e2]at he1
     cases hk with
     |c hk=>cases hk with
      |str _ s1=>cases he1 with
       |c he1=>cases he1 with
        |str _ s2=>simp[Instr.sameNow,Dy s1 s2,Ai]
    ·rename_i a a' _ e2
     cases hb
     rw[e2]at he1
     cases hk with
     |c hk=>cases hk;cases he1 with
      |c he1=>cases he1;simp[Instr.sameNow]
    ·rcases hd with⟨q,hd⟩|hd|hd<;>cases hd
    ·cases hb
   change(match oZ P d kt key e.key with|some true=>some (some (i,e.val))|some false=>tX P d kt key _ (i+1)|none=>none)=some r at h
   split at h
   ·rename_i hb
    cases h
    exact⟨_,by simp only[Instr.findNow,same hb], .some he.2.1⟩
   ·rename_i hb
    obtain⟨r',h1,h2⟩:=ih h
    exact⟨r',by simp only[Instr.findNow,same hb];exact h1,h2⟩
   ·cases h
theorem RJ {fs:Array Field}{kt:TypeId}(hd:P.underlying kt=some (.struct fs)){key:AV}{kx:Value}(hk:GA ρ key kx){es:List ME}{xs:List MapEntry}(hx:F2 (GE ρ) es xs): ∀{i:Nat}{r:Option (Nat×AV)},tX P (.struct fs) kt key es i=some r->
 ∃r',(∀w,(Instr.findAsking kt kx xs i).run P w= .ok r' w)/\Tn ρ r r':=by
 induction hx with
 |nil=>intro i r h;cases h;exact⟨_,fun w=>by simp[Instr.findAsking], .none⟩
 | @cons e x _ _ he _ ih=>
   intro i r h
   have same: ∀{b:Bool},oZ P (.struct fs) kt key e.key=some b-> ∀w,(Op.equal kt kx x.key).run P w= .ok b w:=fun{b} hb w=>by
    have he1:=he.1
    generalize x.key=xk at he1⊢
    generalize e.key=ek at he1 hb
    cases key with
    |c v=>cases v<;>simp[oZ]at hb
    |agg a=>
     cases ek with
     |c v=>simp[oZ]at hb
     |agg a'=>
      simp only[oZ]at hb
      split at hb
      ·cases hb
      ·rename_i hp
       cases hk with
       |agg hk=>cases he1 with
        |agg he1=>
         have hf:P.fieldsOf kt=fs:=by simp[Program.fieldsOf,hd]
         show(Op.equalIn 10000 kt _ _).run P w=_
         rw[run_equalIn_struct w 9999 kt _ _ (by rw[hf];exact hd) (by simpa using hp),hf]
         exact LY hk he1 9997 w hb
   change(match oZ P (.struct fs) kt key e.key with|some true=>some (some (i,e.val))|some false=>tX P (.struct fs) kt key _ (i+1)|none=>none)=some r at h
   split at h
   ·rename_i hb
    cases h
    exact⟨_,fun w=>by simp[Instr.findAsking,same hb w], .some he.2.1⟩
   ·rename_i hb
    obtain⟨r',h1,h2⟩:=ih h
    exact⟨r',fun w=>by simp only[Instr.findAsking,Sem.run_bind,same hb w,Result.andThen_ok,Bool.false_eq_true,if_false];exact h1 w,h2⟩
   ·cases h
theorem Ce {d:TypeDesc}{kt:TypeId}(hd:P.underlying kt=some d){key:AV}{kx:Value}(hk:GA ρ key kx){es:List ME}{xs:List MapEntry}(hx:F2 (GE ρ) es xs){r:Option (Nat×AV)}(hok:zf P d key=true)(h:tX P d kt key es 0=some r):
 ∃r',(∀w,(Instr.findKey kt kx xs).run P w= .ok r' w)/\Tn ρ r r':=by
 have now:((∃q,d= .int q)\/d= .string\/d= .bool)-> ∃r',(∀w,(Instr.findKey kt kx xs).run P w= .ok r' w)/\Tn ρ r r':=fun hdd=>by
  obtain⟨r',h1,h2⟩:=Z5 hdd hk hx h
  exact⟨r',fun w=>by simp[Instr.findKey,run_underlying hd,h1],h2⟩
 unfold zf at hok
 split at hok
 ·exact now (.inl ⟨_,rfl⟩)
 ·exact now (.inr (.inl rfl))
 ·exact now (.inr (.inr rfl))
 ·rename_i fs x
  cases hx with
  |nil=>cases h;exact⟨_,fun w=>by simp[Instr.findKey,run_underlying hd,Instr.findNow], .none⟩
  | @cons e y l m he t=>
    obtain⟨r',h1,h2⟩:=RJ hd hk (.cons he t) h
    refine⟨r',fun w=>?_,h2⟩
    have:Instr.findNow (.struct fs) kx (y::m) 0=none:=by
     cases hk;simp only[Instr.findNow,Instr.sameNow]
    simp only[Instr.findKey,Sem.run_bind,run_underlying hd,Result.andThen_ok,this]
    exact h1 w
 ·cases hok
theorem agx {t e:TypeId}{q:IntKind}{n off:Nat}{j:TypeInfo}(hu:P.underlying t=some (.array n e))(he:P.underlying e=some (.int q))(hj:P.info? e=some j)(hs1:j.size=1){x:List CV}{xs:List Value}(hx:F2 (G ρ) x xs)(hr:Ia x x off (List.range n)=some true)(b:Bool)(m:Nat)(w:World):
 (Instr.checkKey b (m+2) t (.agg (xs.toArray.extract off (off+n)))).run P w= .ok () w:=by
 rw[show m+2=(m+1)+1 from rfl,Instr.checkKey]
 have hsz: ∀w,(sizeOf e).run P w= .ok 1 w:=fun w=>by simp[sizeOf,typeInfo,hj,hs1]
 simp only[Sem.run_bind,run_underlying hu,Result.andThen_ok]
 simp only[Std.Legacy.Range.forIn_eq_forIn_range',Std.Legacy.Range.size,Nat.sub_zero,Nat.add_one_sub_one,Nat.div_one,<-List.range_eq_range']
 have key: ∀is:List Nat,(∀i∈is,i<n)->Ia x x off is=some true->(forIn is PUnit.unit (fun i _=>do
  Instr.checkKey b (m+1) e (<-part e (xs.toArray.extract off (off+n)) (i*(<-sizeOf e)))
  pure (ForInStep.yield PUnit.unit):Nat->PUnit->Sem (ForInStep PUnit))).run P w= .ok PUnit.unit w:=by
  intro is
  induction is with
  |nil=>intro _ _;simp
  |cons i is ih=>
   intro hall h
   change(match aF x (Nat.add off i),aF x (Nat.add off i)with|some (.int q x'),some (.int q' y)=>if q=q' then Bool.casesOn (uy x' y) (some false) (Ia x x off is)else none|_,_=>none)=some true at h
   split at h
   ·rename_i q1 a q2 a' e1 e2
    rw[e1]at e2;cases e2
    have hself:uy a a=true:=by rw[qg];simp
    simp only[if_true,hself]at h
    have p1:=Ij he hx (hall i (by simp)) e1 w
    have p2:(Instr.checkKey b (m+1) e (.int q1 a)).run P w= .ok () w:=by unfold Instr.checkKey;simp[run_underlying he]
    simp only[List.forIn_cons,Sem.run_bind,hsz,Result.andThen_ok,Nat.mul_one,p1,p2,Sem.run_pure]
    exact ih (fun i hi=>hall i (by simp[hi])) h
   ·cases h
 have:=key (List.range n) (fun i hi=>List.mem_range.1 hi) hr
 simp at this⊢
 rw[this]
 rfl
theorem CP {d:TypeDesc}{kt:TypeId}(hd:P.underlying kt=some d){key:AV}{kx:Value}(hk:GA ρ key kx)(hok:zf P d key=true)(b:Bool)(w:World):(Instr.checkKey b 10000 kt kx).run P w= .ok () w:=by
 have plain: ∀(n:Nat)(t:TypeId)(d:TypeDesc)(x:Value)(w:World),P.underlying t=some d->((∃q,d= .int q)\/d= .string\/d= .bool)->(Instr.checkKey b (n+1) t x).run P w= .ok () w:=fun n t d x w hd h=>by
  rcases h with⟨q,rfl⟩|rfl|rfl<;>(unfold Instr.checkKey;simp[run_underlying hd])
 unfold zf at hok
 split at hok
 ·exact plain 9999 _ _ _ _ hd (.inl ⟨_,rfl⟩)
 ·exact plain 9999 _ _ _ _ hd (.inr (.inl rfl))
 ·exact plain 9999 _ _ _ _ hd (.inr (.inr rfl))
 ·rename_i fs x
  cases hk with
  | @agg _ xs hk=>
    have hfs:CG P x x fs.toList=some true:=by
     split at hok
     ·assumption
     ·cases hok
    show(Instr.checkKey b (9999+1) kt (.agg xs.toArray)).run P w=_
    unfold Instr.checkKey
    simp only[Sem.run_bind,run_underlying hd,Result.andThen_ok]
    rw[<-Array.forIn_toList]
    clear hok hd
    generalize fs.toList=l at hfs
    induction l generalizing w with
    |nil=>simp
    |cons f l ih=>
     change(if f.name≠ "_" then _ else none)=some true at hfs
     split at hfs
     ·rename_i hn
      have y7: ∀{v:CV}{d:TypeDesc},aF x f.offset=some v->P.underlying f.type=some d->((∃q,d= .int q)\/d= .string\/d= .bool)-> ∃z,∀w,(part f.type xs.toArray f.offset).run P w= .ok z w:=fun{v d} hv hd hs=>by
       rw[aJ]at hv
       obtain⟨z,h1,h2⟩:=fO hk hv
       refine⟨z,fun w=>?_⟩
       rcases hs with⟨q,rfl⟩|rfl|rfl<;>simp[part,isAgg,run_underlying hd,h1]
      have fin: ∀{v:CV}{d:TypeDesc},aF x f.offset=some v->P.underlying f.type=some d->((∃q,d= .int q)\/d= .string\/d= .bool)->CG P x x l=some true-> ∃z,(∀w,(part f.type xs.toArray f.offset).run P w= .ok z w)/\(∀w,(Instr.checkKey b 9999 f.type z).run P w= .ok () w)/\CG P x x l=some true:=fun hv hd hs hr=>by
       obtain⟨z,hz⟩:=y7 hv hd hs
       exact⟨z,hz,fun w=>plain 9998 f.type _ z w hd hs,hr⟩
      obtain⟨z,hz,hc,hrest⟩: ∃z,(∀w,(part f.type xs.toArray f.offset).run P w= .ok z w)/\(∀w,(Instr.checkKey b 9999 f.type z).run P w= .ok () w)/\CG P x x l=some true:=by
       split at hfs
       ·rename_i q a q' a' q'' e1 e2 e3
        rw[aG]at e3
        rw[e1]at e2
        cases e2
        simp only[if_true]at hfs
        have:uy a a=true:=by rw[qg];simp
        rw[this]at hfs
        exact fin e1 e3 (.inl ⟨_,rfl⟩) hfs
       ·rename_i a a' e1 e2 e3
        rw[aG]at e3
        rw[e1]at e2
        cases e2
        have:Ea a a=true:=by rw[Ai];simp
        rw[this]at hfs
        exact fin e1 e3 (.inr (.inl rfl)) hfs
       ·rename_i a a' e1 e2 e3
        rw[aG]at e3
        rw[e1]at e2
        cases e2
        have:(a==a)=true:=by simp
        rw[this]at hfs
        exact fin e1 e3 (.inr (.inr rfl)) hfs
       ·split at hfs
        ·rename_i m hm
         obtain⟨e,q,i,j,hu,he,hi,hs,hj,hs1⟩:=SQ hm
         split at hfs
         ·rename_i hr
          exact⟨_,fun w=>yI hu hi hs _ _ w,fun w=>agx hu he hj hs1 hk hr b 9997 w,hfs⟩
         ·cases hfs
         ·cases hfs
        ·cases hfs
      simp only[List.forIn_cons,Sem.run_bind,if_pos hn,hz w,Result.andThen_ok,hc,Sem.run_pure]
      exact ih w hrest
     ·cases hfs
 ·cases hok
noncomputable def zeroV (P:Program)(t:TypeId)(k:AV->Bool):Bool:=au (pX P t) fun i=>au i.zero fun z=>abh z fun r=>(match r with| .c v=>k (.c v)| .agg l=>k (.agg l)| .aK _=>false)
theorem xE {t:TypeId}{k:AV->Bool}(hk:zeroV P t k=true): ∃a z,k a=true/\GA ρ a z/\ ∀w,(zeroValue t).run P w= .ok z w:=by
 replace hk:=ah hk
 obtain⟨i,hi,hk⟩:=hk
 try simp only[aG,aH,aW]at hi
 replace hk:=ah hk
 obtain⟨z,hz,hk⟩:=hk
 replace hk:=U1 (ρ:=ρ) hk
 obtain⟨r,hk,hr⟩:=hk
 have hrun: ∀w,(zeroValue t).run P w= .ok z w:=fun w=>by simp[zeroValue,typeInfo,hi,hz]
 cases hr with
 |c hr=>exact⟨_,z,hk, .c hr,hrun⟩
 |agg hr=>exact⟨_,_,hk, .agg hr,hrun⟩
 |aK=>cases hk
noncomputable def OT (ok:Bool)(a:AV)(is:Bool):RV:=Bool.casesOn ok a.rv (.aK [a, .c (.bool is)])
theorem Hu {ok is:Bool}{a:AV}{x:Value}(h:GA ρ a x):GR ρ (OT ok a is) (if ok then .tuple #[x, .bool is]else x):=by
 cases ok with
 |false=>exact h.rv
 |true=>exact .aK (.cons h (.cons (.c (.bool _)) .nil))
noncomputable def zW (r:RV)(k:AV->Bool):Bool:=match r with| .c v=>k (.c v)| .agg l=>k (.agg l)| .aK _=>false
theorem oC {r:RV}{x:Value}{k:AV->Bool}(hx:GR ρ r x)(hk:zW r k=true): ∃a,k a=true/\GA ρ a x:=by
 cases hx with
 |c hx=>exact⟨_,hk, .c hx⟩
 |agg hx=>exact⟨_,hk, .agg hx⟩
 |aK=>cases hk
noncomputable def Vg (P:Program)(h:Hp)(t:TypeId)(x key:RV)(ok:Bool)(k:RV->List Nat->Bool):Bool:=
 au (dL P t) fun d=>(match d with
  | .map kt et=>au (dL P kt) fun dk=>zW key fun key=>iff (zf P dk key) (match x with
    | .c .nV=>zeroV P et fun z=>k (OT ok z false) []
    | .c (.mp id)=>au (h.get id) fun o=>(match o with
      | .map es _=>au (tX P dk kt key es 0) fun r=>(match r with
        |some iv=>k (OT ok iv.2 true) [id]
        |none=>zeroV P et fun z=>k (OT ok z false) [id])
      |_=>false)
    |_=>false)
  |_=>false)
theorem Xa {t:TypeId}{x key:RV}{v kv:Value}(hx:GR ρ x v)(hkey:GR ρ key kv){ok:Bool}{k:RV->List Nat->Bool}(H:HR P g w0 ρ h nx w)(hk:Vg P h t x key ok k=true):Rd P ρ h k (Instr.lookup t v kv ok):=by
 replace hk:=ah hk
 obtain⟨d,hd,hk⟩:=hk
 try simp only[aG,aH,aW]at hd
 cases d<;>try(cases hk;done)
 rename_i kt et
 replace hk:=ah hk
 obtain⟨dk,hdk,hk⟩:=hk
 try simp only[aG,aH,aW]at hdk
 replace hk:=oC hkey hk
 obtain⟨ka,hk,hka⟩:=hk
 replace hk:=aj hk
 obtain⟨hok,hk⟩:=hk
 have lI:=fun b w=>CP hdk hka hok b w
 split at hk
 ·cases hx with
  |c hx=>
   cases hx
   replace hk:=xE (ρ:=ρ) hk
   obtain⟨a,z,hk,ha,hz⟩:=hk
   have hf: ∀w,(Instr.findKey kt kv []).run P w= .ok none w:=fun w=>by simp[Instr.findKey,run_underlying hdk,Instr.findNow]
   exact Pu.rd ⟨_,_,hk,Hu ha,fun w=>by simp[Instr.lookup,run_underlying hd,lI,hf,hz]⟩
 ·rename_i id
  replace hk:=ah hk
  obtain⟨o,ho,hk⟩:=hk
  cases o<;>try(cases hk;done)
  rename_i es clock
  replace hk:=ah hk
  obtain⟨r,hr,hk⟩:=hk
  cases hx with
  |c hx=>cases hx with
   | @mp _ bm _ _ iP=>
     have core: ∀w',Ob P ρ id (AO.map es clock) w'-> ∃xs r',w'.heap[bm]?=some (Obj.map xs.toArray clock)/\(∀w,(Instr.findKey kt kv xs).run P w= .ok r' w)/\Tn ρ r r':=fun w' h'=>by
      obtain⟨xs,hh,hxs⟩:=h'.lD iP
      obtain⟨r',h1,h2⟩:=Ce hdk hka hxs hok hr
      exact⟨xs,r',hh,h1,h2⟩
     obtain⟨_,r0,_,_,hf0⟩:=core w (H.ob ho iP)
     cases hf0 with
     |none=>
      replace hk:=xE (ρ:=ρ) hk
      obtain⟨a,z,hk,ha,hz⟩:=hk
      refine⟨_,_,_,hk,Hu ha,fun id hid=>by have e:id=_:=List.mem_singleton.1 hid;rw[e,iP];simp,fun w' hw'=>?_⟩
      obtain⟨xs,r',hh,h1,h2⟩:=core w' (hw' _ (by simp) _ ho)
      cases h2
      simp[Instr.lookup,run_underlying hd,aY hh (fun _ _ _=>by simp),lI,h1,hz]
     | @some i va xa hva=>
       refine⟨_,_,_,hk,Hu hva,fun id hid=>by have e:id=_:=List.mem_singleton.1 hid;rw[e,iP];simp,fun w' hw'=>?_⟩
       obtain⟨xs,r',hh,h1,h2⟩:=core w' (hw' _ (by simp) _ ho)
       cases h2 with
       |some Rl=>
        have:xa=_:=GA.Gn hva Rl
        subst this
        simp[Instr.lookup,run_underlying hd,aY hh (fun _ _ _=>by simp),lI,h1]
 ·cases hk
end
end bU
end
end Go.Proofs.YtakhobfamnjnoaaGreatDoor
