/- The machine's operations: a channel is made. -/
import Derived.Test.YtakhobfamnjnoaaGreatDoorC43
import Derived.Conc.SmallLaws
import Derived.Test.YtakhobfamnjnoaaGreatDoorC13
set_option linter.unusedVariables false
set_option linter.unusedSimpArgs false
namespace Go.Proofs.YtakhobfamnjnoaaGreatDoor
section
namespace bU
open Go Go.RowKit
section
variable {P:Program} {g:Nat} {w0:World} {ρ:Ren} {h:Hp} {nx:Nat} {w:World}
noncomputable def NP (P:Program)(h:Hp)(nx:Nat)(t:TypeId)(r:RV)(k:RV->Hp->Nat->Bool):Bool:=
 au (dL P t) fun d=>(match d with
  | .chan _ e=>au (pX P e) fun i=>au (qB r) fun n=>iff (Nat.ble n 4096) (iff (Nat.ble i.bytes 1048576) (fN n fun n=>pU h nx (.chan n [] 0 0) fun id h nx=>k (.c (.ch id)) h nx))
  |_=>false)
theorem QJ (H:HR P g w0 ρ h nx w){t:TypeId}{r:RV}{v:Value}(hr:GR ρ r v){k:RV->Hp->Nat->Bool}(hk:NP P h nx t r k=true):Do P g w0 ρ nx w k (Instr.makeChan t v):=by
 replace hk:=ah hk
 obtain⟨d,hd,hk⟩:=hk
 try simp only[aG,aH,aW]at hd
 cases d<;>try(cases hk;done)
 rename_i dir e
 replace hk:=ah hk
 obtain⟨i,hi,hk⟩:=hk
 try simp only[aG,aH,aW]at hi
 replace hk:=ah hk
 obtain⟨n,hn,hk⟩:=hk
 replace hk:=aj hk
 obtain⟨hn1,hk⟩:=hk
 replace hk:=aj hk
 obtain⟨hb1,hk⟩:=hk
 have hn1:=aT hn1
 have hb1:=aT hb1
 rw[gW]at hk
 obtain⟨q,rfl⟩:=jZ hn hr
 replace hk:=Tr.bJ hk
 obtain⟨h',hk,hh⟩:=hk
 obtain⟨ρ',hle,hr',H'⟩:=H.new (.chan n #[] false 0 0 false) (base:=0) (cap:=0) hh fun ρ' _ hr'=> .chan hr' (xs:=[]) (heap_alloc_new _ _) .nil
 have hm:i.bytes*n<=1048576*4096:=Nat.mul_le_mul hb1 hn1
 have hb2:(i.bytes:Int)*(n:Int)<=281474976710544:=by
  have h1:((i.bytes*n:Nat):Int)<=((1048576*4096:Nat):Int):=Int.ofNat_le.2 hm
  rw[Int.natCast_mul]at h1
  omega
 exact⟨_,_,ρ',h',nx+1,_,hk,hle,H', .c (.ch hr'),Go.Conc.run_makeChan hd hi q n (by omega) hb2⟩
end
end bU
end
section
namespace bU
open Go Go.RowKit
theorem Xd {P:Program}{e:TypeId}(hc:P.cellsOf e=1)(count off n:Nat)(hn:off+n<=count):liesAt P P.depth e count off e n=true:=by
 have hd:P.depth=(2*(P.types.size+Made.depth)+1)+1:=rfl
 rw[hd]
 simp only[liesAt,Bool.or_eq_true]
 left
 rw[hd]
 simp[rowAt,hc,hn,sameLayout]
 exact .inl (Nat.mod_one off)
theorem Bj {P:Program}{w:World}(pt it ty e:TypeId)(hp:P.underlying pt=some (.pointer e))(hc:P.cellsOf e=1)(g off cells:Nat)(hsh:w.shape? g=some (e,cells))(l:List UInt8)(h0:l≠[])(hn:off+l.length<=cells)(h63:l.length<=9223372036854775807)(q:IntKind)
 (hcell: ∀j x,l[j]?=some x->w.cell? ((⟨g,off,none⟩:Addr).add j)=some (.int .u8 x.toNat)):
 (Builtin.unsafeString_ #[pt,it] ty #[.pointer (some ⟨g,off,none⟩), .int q l.length]).run P w= .ok (.string ⟨l.toArray⟩) (w.freeze ⟨g,off,none⟩ l.length):=by
 have hl:l.length≠0:=by simpa using h0
 have hlb:=Lib.run_loadBytes (P:=P) w l ⟨g,off,none⟩ .empty hcell
 have hlies:=Xd (P:=P) hc (cells/P.cellsOf e) off l.length (by rw[hc];simpa using hn)
 have h63': ¬(9223372036854775807:Int)<(l.length:Int):=by omega
 have hdef:Builtin.unsafeString_ #[pt,it] ty #[.pointer (some ⟨g,off,none⟩), .int q l.length]=
  (do
    let n<-asInt (.int q l.length)
    if n<0 then runtimePanic (.error "unsafe.String: len out of range")
    if n>IntKind.i64.max then unsupported (.unsafePointer "String: a length above the largest int")
    if n=0 then pure (.string .empty)
    else if<-variablesAt ⟨g,off,none⟩ (<-elemOf pt) n.toNat then do
     let s<-loadBytes ⟨g,off,none⟩ .empty n.toNat
     freeze ⟨g,off,none⟩ n.toNat
     pure (.string s)
    else unsupported (.unsafePointer "String: not so many bytes at ptr")):=rfl
 rw[hdef]
 have hmax:IntKind.i64.max=9223372036854775807:=rfl
 have hneg: ¬(l.length:Int)<0:=by omega
 simp[asInt,asIntOf,hmax,h63',hneg,hl,variablesAt,hsh,elemOf,run_underlying hp,hlies,hlb]
section
variable {P:Program} {g:Nat} {w0:World} {ρ:Ren} {h:Hp} {nx:Nat} {w:World}
noncomputable def SA (l:List CV):(List Nat->Bool)->Bool:=
 List.rec (motive:=fun _=>(List Nat->Bool)->Bool) (fun k=>k []) (fun v _ ih k=>match v with
  | .int .u8 (.ofNat n)=>iff (Nat.ble (Nat.succ n) 256) (ih fun t=>k (n::t))
  |_=>false) l
theorem Om: ∀{l:List CV}{k:List Nat->Bool},SA l k=true-> ∃s,k s=true/\small s/\l=s.map fun n=> .int .u8 (.ofNat n)
 |[],k,hk=>⟨[],hk,fun _ h=>(by cases h),rfl⟩
 |v::l,k,hk=>by
  cases v<;>try(cases hk;done)
  rename_i q z
  cases q<;>try(cases hk;done)
  cases z<;>try(cases hk;done)
  rename_i n
  have hk0:iff (Nat.ble (Nat.succ n) 256) (SA l fun t=>k (n::t))=true:=hk
  obtain⟨hn,hk1⟩:=aj hk0
  have hn:n<256:=aT hn
  obtain⟨s,hk2,hs,e⟩:=Om (l:=l) (k:=fun t=>k (n::t)) hk1
  exact⟨n::s,hk2,fun b hb=>by
   rcases List.mem_cons.1 hb with rfl|hb
   ·exact hn
   ·exact hs b hb,by rw[e];rfl⟩
noncomputable def KO (r:RV)(k:RV->Bool):Bool:=match r with
 | .c .bZ=>k (.c .nU)
 | .c (.sl id off len _ _)=>iff (Nat.ble 1 len) (k (.c (.ptr id off)))
 |_=>false
theorem V4 {ts:Array TypeId}{ty:TypeId}{r:RV}{v:Value}(hr:GR ρ r v){k:RV->Bool}(hk:KO r k=true): ∃q x,k q=true/\GR ρ q x/\ ∀w,(Builtin.unsafeSliceData_ ts ty #[v]).run P w= .ok x w:=by
 unfold KO at hk
 split at hk
 ·cases hr with
  |c hr=>cases hr;exact⟨_,_,hk, .c .nU,fun w=>Lib.run_unsafeSliceData_nil (P:=P) w ts ty 0 0⟩
 ·rename_i id off len cut lim
  cases hr with
  |c hr=>cases hr with
   | @sl _ b base cap _ _ _ _ hb h1 h2 h3=>
     obtain⟨hl,hk⟩:=aj hk
     have hl:=aT hl
     exact⟨_,_,hk, .c (.ptr off hb),fun w=>Lib.run_unsafeSliceData_row (P:=P) w ts ty _ _ _ (by omega)⟩
 ·cases hk
noncomputable def Po (P:Program)(g:Nat)(h:Hp)(pt:TypeId)(p n:RV)(k:RV->Hp->Bool):Bool:=match p with
 | .c .nU=>au (qB n) fun m=>iff (Nat.beq m 0) (k (.c (.str [])) h)
 | .c (.ptr id off)=>au (qB n) fun m=>Bool.casesOn (Nat.beq m 0)
    (iff (Nat.ble g id) (au (h.get id) fun o=>(match o with
      | .row cells e _=>au (dL P pt) fun d=>(match d with
        | .pointer e'=>iff (Nat.beq e e') (iff (Nat.beq (P.cellsOf e) 1) (iff (Nat.ble m 16777216) (fL (List.take m (List.drop off cells)) fun cs=>iff (Nat.beq (llen cs) m) (SA cs fun s=>h.iZ id (some (.ro cells)) fun h=>k (.c (.str s)) h))))
        |_=>false)
      |_=>false)))
    (k (.c (.str [])) h)
 |_=>false
theorem Yc (H:HR P g w0 ρ h nx w){pt it ty:TypeId}{p n:RV}{pv nv:Value}(hp:GR ρ p pv)(hn:GR ρ n nv){k:RV->Hp->Nat->Bool}(hk:Po P g h pt p n (fun r h=>k r h nx)=true):Do P g w0 ρ nx w k (Builtin.unsafeString_ #[pt,it] ty #[pv,nv]):=by
 have nil: ∀(x:Option Addr)(q:IntKind),(Builtin.unsafeString_ #[pt,it] ty #[.pointer x, .int q ((0:Nat):Int)]).run P w= .ok (.string .empty) w:=fun x q=>by
  have hmax:IntKind.i64.max=9223372036854775807:=rfl
  cases x with
  |none=>
   have hdef:Builtin.unsafeString_ #[pt,it] ty #[.pointer none, .int q ((0:Nat):Int)]=(do
    let n<-asInt (.int q ((0:Nat):Int))
    if n<0 then runtimePanic (.error "unsafe.String: len out of range")
    if n>IntKind.i64.max then unsupported (.unsafePointer "String: a length above the largest int")
    if n=0 then pure (.string .empty)
    else runtimePanic (.error "unsafe.String: ptr is nil and len is not zero")):=rfl
   rw[hdef]
   simp[asInt,asIntOf,hmax]
  |some a=>
   have hdef:Builtin.unsafeString_ #[pt,it] ty #[.pointer (some a), .int q ((0:Nat):Int)]=(do
    let n<-asInt (.int q ((0:Nat):Int))
    if n<0 then runtimePanic (.error "unsafe.String: len out of range")
    if n>IntKind.i64.max then unsupported (.unsafePointer "String: a length above the largest int")
    if n=0 then pure (.string .empty)
    else if<-variablesAt a (<-elemOf pt) n.toNat then do
     let s<-loadBytes a .empty n.toNat
     freeze a n.toNat
     pure (.string s)
    else unsupported (.unsafePointer "String: not so many bytes at ptr")):=rfl
   rw[hdef]
   simp[asInt,asIntOf,hmax]
 unfold Po at hk
 split at hk
 ·obtain⟨m,hm,hk⟩:=ah hk
  obtain⟨h0,hk⟩:=aj hk
  have h0:=aQ h0
  subst h0
  obtain⟨q,rfl⟩:=jZ hm hn
  cases hp with
  |c hp=>cases hp;exact⟨_,_,ρ,h,nx,w,hk,Ext.refl _ _,H, .c (.str [] (fun _ h=>by cases h)),nil _ _⟩
 ·rename_i id off
  obtain⟨m,hm,hk⟩:=ah hk
  obtain⟨q,rfl⟩:=jZ hm hn
  cases hp with
  |c hp=>cases hp with
   | @ptr _ b base cap _ hb=>
     cases h0:Nat.beq m 0 with
     |true=>
      rw[h0]at hk
      have h0:=aQ h0
      subst h0
      exact⟨_,_,ρ,h,nx,w,hk,Ext.refl _ _,H, .c (.str [] (fun _ h=>by cases h)),nil _ _⟩
     |false=>
      rw[h0]at hk
      have h0:=qA h0
      obtain⟨hg,hk1⟩:=aj hk
      have hg:=aT hg
      obtain⟨o,ho,hk2⟩:=ah hk1
      cases o<;>try(cases hk2;done)
      rename_i cells e cp
      dsimp only at hk2
      obtain⟨d,hd,hk3⟩:=ah hk2
      try simp only[aG,aH,aW]at hd
      cases d<;>try(cases hk3;done)
      rename_i e'
      dsimp only at hk3
      obtain⟨he,hk4⟩:=aj hk3
      have he:=aQ he
      subst he
      obtain⟨hc1,hk5⟩:=aj hk4
      have hc1:=aQ hc1
      obtain⟨hm1,hk6⟩:=aj hk5
      have hm1:=aT hm1
      rw[iF]at hk6
      obtain⟨hl,JJ⟩:=aj hk6
      have hl:=aQ hl
      rw[aI]at hl
      obtain⟨s,hk8,hs,hcs⟩:=Om JJ
      obtain⟨h',hk9,hh'⟩:=Tr.bJ hk8
      have hsl:s.length=m:=by rw[<-hl,hcs];simp
      cases H.ob ho hb with
      | @row _ _ _ _ _ _ _ xs hr' hh hcl hcap hsz hmx=>
        rw[hb]at hr';cases hr'
        have hcell: ∀(j n:Nat),s[j]?=some n->xs[base+(off+j)]?=some (.int .u8 (n:Int)):=fun j n hj=>by
         have h1:(List.take m (List.drop off cells))[j]?=some (.int .u8 (.ofNat n)):=by rw[hcs];simp[hj]
         have h2:cells[off+j]?=some (.int .u8 (.ofNat n)):=by
          rw[List.getElem?_take]at h1
          split at h1
          ·rwa[List.getElem?_drop]at h1
          ·cases h1
         obtain⟨x,g1,g2⟩:=hcl _ _ h2
         cases g1
         exact g2
        have hbig:base+off+m<=xs.size:=by
         have hlast:s[m-1]?=some (s[m-1]'(by omega)):=by simp
         have:=(Array.getElem?_eq_some_iff.1 (hcell (m-1) _ hlast)).1
         omega
        have hlen:(s.map UInt8.ofNat).length=m:=by simp[hsl]
        have hrun:=Bj (P:=P) (w:=w) pt it ty e hd hc1 b (base+off) xs.size (by simp[World.shape?,hh]) (s.map UInt8.ofNat) (by
         intro e;rw[e]at hlen;exact h0 hlen.symm) (by rw[hlen];exact hbig) (by rw[hlen];omega) q (fun j x hj=>by
          rw[List.getElem?_map]at hj
          obtain⟨n,hn,rfl⟩:=Option.map_eq_some_iff.1 hj
          have hlt:n<256:=hs n (List.mem_of_getElem? hn)
          have:=hcell j n hn
          have e1:((⟨b,base+off,none⟩:Addr).add j)=⟨b,base+off+j,none⟩:=by
           unfold Addr.add
           by_cases hj0:j=0
           ·subst hj0;simp
           ·simp[hj0]
          rw[e1]
          simp only[World.cell?,hh]
          rw[Nat.add_assoc,this]
          simp[UInt8.toNat_ofNat',Nat.mod_eq_of_lt hlt])
        rw[hlen]at hrun
        refine⟨_,_,ρ,h',nx,w.freeze ⟨b,base+off,none⟩ m,hk9,Ext.refl _ _,?_, .c (.str s hs),hrun⟩
        obtain⟨F,hfz,hF⟩: ∃F:Obj->Obj,w.freeze ⟨b,base+off,none⟩ m={w with heap:=w.heap.modify b F}/\F (.cells xs e (0,0))= .cells xs e (base+off,base+off+m):=⟨_,by unfold World.freeze;rw[if_neg h0],rfl⟩
        have hb':(w.freeze ⟨b,base+off,none⟩ m).heap[b]?=some (.cells xs e (base+off,base+off+m)):=by rw[hfz];simp[Array.getElem?_modify,hh,hF]
        refine H.turn (id:=id) (b:=b) (o':= .ro cells) ho hg ⟨_,_,hb⟩ (by rw[hfz];simp) (by rw[hfz]) (by rw[hfz]) (by rw[hfz]) (fun k hk=>by rw[hfz];simp[Array.getElem?_modify,Ne.symm hk]) hh' (.ro hb hb' hcl)
 ·cases hk
end
end bU
end
section
namespace bU
open Go Go.RowKit
theorem Xc {P:Program}{e:TypeId}(hc:P.cellsOf e≠0)(count:Nat)(hn:1<=count):liesAt P P.depth e count 0 e 1=true:=by
 have hd:P.depth=(2*(P.types.size+Made.depth)+1)+1:=rfl
 rw[hd]
 simp only[liesAt,Bool.or_eq_true]
 left
 rw[hd]
 simp[rowAt,hc,hn,sameLayout]
section
variable {P:Program} {g:Nat} {w0:World} {ρ:Ren} {h:Hp} {nx:Nat} {w:World}
noncomputable def Sl (P:Program)(h:Hp)(src dst:TypeId)(x:RV)(k:RV->List Nat->Bool):Bool:=
 au (dL P src) fun ds=>au (dL P dst) fun dd=>(match ds,dd,x with
  | .pointer t, .unsafePointer, .c (.ptr id off)=>au (pX P t) fun j=>iff (!Nat.beq j.size 0) (au (h.get id) fun o=>au (rowOf o) fun cells=>iff (Nat.ble (Nat.succ off) (llen cells)) (k (.c (.ptr id off)) [id]))
  | .unsafePointer, .pointer u, .c (.ptr id off)=>au (pX P u) fun _=>iff (Nat.beq off 0) (au (h.get id) fun o=>(match o with
    | .row cells e (some 0)=>iff (Nat.beq e u) (iff (!Nat.beq (P.cellsOf u) 0) (iff (Nat.ble (P.cellsOf u) (llen cells)) (k (.c (.ptr id 0)) [id])))
    |_=>false))
  |_,_,_=>ada P h src dst x k)
theorem YH {id:Nat}{o:AO}(ho:Ob P ρ id o w){cells:List CV}(hrow:rowOf o=some cells){b base cap:Nat}(hr:ρ id=some (.blk b base cap)): ∃e n,w.shape? b=some (e,n)/\ ∀j,j<cells.length->base+j<n:=by
 have key: ∀{cs:Array Value}{e:TypeId}{fr:Nat×Nat},w.heap[b]?=some (.cells cs e fr)->(∀j v,cells[j]?=some v-> ∃x,G ρ v x/\cs[base+j]?=some x)-> ∃e n,w.shape? b=some (e,n)/\ ∀j,j<cells.length->base+j<n:=fun{cs e fr} hh hc=>
  ⟨e,cs.size,by simp[World.shape?,hh],fun j hj=>by
    obtain⟨x,_,h2⟩:=hc j cells[j] (by simp[hj])
    exact(Array.getElem?_eq_some_iff.1 h2).1⟩
 cases ho with
 |row hr' hh hc hcap hsz hm=>cases hrow;rw[hr]at hr';cases hr';exact key hh hc
 |ro hr' hh hc=>cases hrow;rw[hr]at hr';cases hr';exact key hh hc
 |map=>cases hrow
 |chan=>cases hrow
 |sit=>cases hrow
 |fJ=>cases hrow
 |clo=>cases hrow
 |gY=>cases hrow
 |kE=>cases hrow
 |any=>cases hrow
 |loop=>cases hrow
theorem aap (H:HR P g w0 ρ h nx w){src dst:TypeId}{x:RV}{v:Value}(hx:GR ρ x v){k:RV->List Nat->Bool}(hk:Sl P h src dst x k=true):Rd P ρ h k (convert src dst v):=by
 unfold Sl at hk
 obtain⟨ds,hds,hk1⟩:=ah hk
 try simp only[aG,aH,aW]at hds
 obtain⟨dd,hdd,hk2⟩:=ah hk1
 try simp only[aG,aH,aW]at hdd
 split at hk2
 ·rename_i t id off
  obtain⟨j,hj,hk3⟩:=ah hk2
  try simp only[aG,aH,aW]at hj
  obtain⟨hj0,hk4⟩:=aj hk3
  have hj0:j.size≠0:=by
   intro e;rw[e]at hj0;cases hj0
  obtain⟨o,ho,hk5⟩:=ah hk4
  obtain⟨cells,hrow,hk6⟩:=ah hk5
  obtain⟨hlt,JJ⟩:=aj hk6
  have hlt:off<cells.length:=by rw[<-aI];exact aT hlt
  cases hx with
  |c hx=>cases hx with
   | @ptr _ b base cap _ hr=>
     refine⟨_,_,_,JJ, .c (.ptr off hr),fun i hi=>by rw[List.mem_singleton.1 hi,hr];simp,fun u hu=>?_⟩
     obtain⟨e,n,hsh,hn⟩:=YH (hu id (by simp) o ho) hrow hr
     exact Lib.run_to_unsafe u ⟨b,base+off,none⟩ hds hdd hj hj0 hsh (hn off hlt)
 ·rename_i u id off
  obtain⟨j,hj,hk3⟩:=ah hk2
  try simp only[aG,aH,aW]at hj
  obtain⟨h0,hk4⟩:=aj hk3
  have h0:=aQ h0
  subst h0
  obtain⟨o,ho,hk5⟩:=ah hk4
  split at hk5
  case h_2=>cases hk5
  rename_i cells e
  obtain⟨he,hk6⟩:=aj hk5
  have he:=aQ he
  subst he
  obtain⟨hc0,JJ⟩:=aj hk6
  have hc0:P.cellsOf e≠0:=by
   intro q;rw[q]at hc0;cases hc0
  obtain⟨hle,hk8⟩:=aj JJ
  have hle:P.cellsOf e<=cells.length:=by rw[<-aI];exact aT hle
  cases hx with
  |c hx=>cases hx with
   | @ptr _ b base cap _ hr=>
     refine⟨_,_,_,hk8, .c (.ptr 0 hr),fun i hi=>by rw[List.mem_singleton.1 hi,hr];simp,fun u hu=>?_⟩
     cases hu id (by simp) _ ho with
     | @row _ _ _ _ _ _ _ cs hr' hh hcl hcap hsz hm=>
       rw[hr]at hr';cases hr'
       have hb0:=(hcap 0 rfl).2 rfl
       subst hb0
       have hlast:cells[P.cellsOf e-1]?=some (cells[P.cellsOf e-1]'(by omega)):=by simp
       obtain⟨x,_,h2⟩:=hcl _ _ hlast
       have hsz2:=(Array.getElem?_eq_some_iff.1 h2).1
       refine Lib.run_from_unsafe u ⟨b,0+0,none⟩ hds hdd hj (by simp[World.shape?,hh]:u.shape? b=some (e,cs.size)) (Xc hc0 _ ?_)
       exact(Nat.le_div_iff_mul_le (Nat.pos_of_ne_zero hc0)).2 (by omega)
 ·exact ab6 H hx hk2
end
end bU
end
section
namespace bU
open Go Go.RowKit
section
variable {P:Program} {g:Nat} {w0:World} {ρ:Ren} {h:Hp} {nx:Nat} {w:World}
noncomputable def Ze (op:BinOp)(r:Bool)(k:RV->Bool):Bool:=match op with
 | .eql=>kB k r
 | .neq=>kB k (!r)
 |_=>false
noncomputable def ZL (P:Program)(h:Hp)(op:BinOp)(t:TypeId)(i j:Nat)(k:RV->Bool):Bool:=
 au (h.get i) fun o=>au (h.get j) fun o'=>(match o,o' with
  | .gY t1 (.c (.int q m)), .gY t2 (.c (.int q' n))=>au (dL P t) fun d=>(match d with
    | .interface _=>Bool.casesOn (Nat.beq t1 t2) (Ze op false k) (au (pX P t1) fun inf=>iff inf.comparable (au (dL P t1) fun d1=>(match d1 with
      | .int _=>iff (decide (q=q')) (Ze op (uy m n) k)
      |_=>false)))
    |_=>false)
  |_,_=>false)
noncomputable def XU (P:Program)(h:Hp)(op:BinOp)(t:TypeId)(con:Bool)(x y:RV)(k:RV->List Nat->Bool):Bool:=match x,y with
 | .c (.gY i), .c (.gY j)=>ZL P h op t i j fun r=>k r []
 |x,y=>ab9 P op t con x y fun r=>k r []
theorem afe {op:BinOp}{t:TypeId}{r:Bool}{k:RV->Bool}{s:Sem Value}{x y:Value}(hk:Ze op r k=true)(he: ∀w,(Op.equal t x y).run P w= .ok r w)(h1:(binOp .eql t x y)=(do pure (.bool (<-Op.equal t x y))))(h2:(binOp .neq t x y)=(do pure (.bool (!(<-Op.equal t x y)))))(hs: ∀w,s.run P w=(binOp op t x y).run P w):Pu P ρ k s:=by
 unfold Ze at hk
 split at hk
 ·exact dF hk fun w=>by rw[hs,h1];simp[he]
 ·exact dF hk fun w=>by rw[hs,h2];simp[he]
 ·cases hk
theorem ZK (H:HR P g w0 ρ h nx w){op:BinOp}{t:TypeId}{xo yo:Operand}{i j:Nat}{vx vy:Value}{k:RV->Bool}(hx:G ρ (.gY i) vx)(hy:G ρ (.gY j) vy)(hk:ZL P h op t i j k=true):
 Pu P ρ k (do eqGuard op t xo yo vx vy;binOp op t vx vy):=by
 replace hk:=ah hk
 obtain⟨o,ho,hk⟩:=hk
 replace hk:=ah hk
 obtain⟨o',ho',hk⟩:=hk
 split at hk
 case h_2=>cases hk
 rename_i t1 q m t2 q' n
 replace hk:=ah hk
 obtain⟨d,hd,hk⟩:=hk
 try simp only[aG,aH,aW]at hd
 split at hk
 case h_2=>cases hk
 rename_i ms
 cases hx with
 | @gY _ _ x hr=>
   cases hy with
   | @gY _ _ y hr'=>
     cases H.ob ho hr with
     |gY hq hv=>
      rw[hr]at hq;cases hq
      cases hv with
      |c hv=>
       cases hv
       cases H.ob ho' hr' with
       |gY hq' hv'=>
        rw[hr']at hq';cases hq'
        cases hv' with
        |c hv'=>
         cases hv'
         have hg: ∀w,(eqGuard op t xo yo (.iface t1 (.int q m)) (.iface t2 (.int q' n))).run P w= .ok () w:=fun w=>by cases op<;>rfl
         have fin: ∀r,(∀w,(Op.equal t (.iface t1 (.int q m)) (.iface t2 (.int q' n))).run P w= .ok r w)->Ze op r k=true->Pu P ρ k (do eqGuard op t xo yo (.iface t1 (.int q m)) (.iface t2 (.int q' n));binOp op t (.iface t1 (.int q m)) (.iface t2 (.int q' n))):=fun r he hk=>
          afe (x:= .iface t1 (.int q m)) (y:= .iface t2 (.int q' n)) hk he rfl rfl fun w=>by simp only[Sem.run_bind,hg,Result.andThen_ok]
         cases hb:Nat.beq t1 t2 with
         |false=>
          rw[hb]at hk
          have hne:=qA hb
          have he: ∀(N:Nat)(w:World),(Op.equalIn (N+1) t (.iface t1 (.int q m)) (.iface t2 (.int q' n))).run P w= .ok false w:=fun N w=>by simp[Op.equalIn,run_underlying hd,hne]
          exact fin false (fun w=>he 9999 w) hk
         |true=>
          rw[hb]at hk
          have e:=aQ hb
          subst e
          obtain⟨inf,hi,hk1⟩:=ah hk
          try simp only[aG,aH,aW]at hi
          obtain⟨hcmp,hk2⟩:=aj hk1
          obtain⟨d1,hd1,hk3⟩:=ah hk2
          try simp only[aG,aH,aW]at hd1
          split at hk3
          case h_2=>cases hk3
          obtain⟨hqq,hk4⟩:=aj hk3
          have hqq:=of_decide_eq_true hqq
          subst hqq
          have he: ∀(N:Nat)(w:World),(Op.equalIn (N+1+1) t (.iface t1 (.int q m)) (.iface t1 (.int q n))).run P w= .ok (uy m n) w:=fun N w=>by
           simp[Op.equalIn,run_underlying hd,run_underlying hd1,typeInfo,hi,hcmp,qg]
           by_cases e:m=n<;>simp[e]
          exact fin (uy m n) (fun w=>he 9998 w) hk4
theorem ace (H:HR P g w0 ρ h nx w){op:BinOp}{t:TypeId}{xo yo:Operand}{x y:RV}{vx vy:Value}{k:RV->List Nat->Bool}(hx:GR ρ x vx)(hy:GR ρ y vy)(hk:XU P h op t (jH xo||jH yo) x y k=true):
 Rd P ρ h k (do eqGuard op t xo yo vx vy;binOp op t vx vy):=by
 have fin:Pu P ρ (fun r=>k r []) (do eqGuard op t xo yo vx vy;binOp op t vx vy):=by
  unfold XU at hk
  split at hk
  ·cases hx with
   |c hx=>cases hy with
    |c hy=>exact ZK H hx hy hk
  ·exact aem hx hy hk
 obtain⟨r,v,h1,h2,h3⟩:=fin
 exact⟨r,v,[],h1,h2,fun _ h=>(by cases h),fun w _=>h3 w⟩
noncomputable def agw (P:Program)(g:Nat)(h:Hp)(t:TypeId)(d s:RV)(k:RV->Hp->Bool):Bool:=
 au (dL P t) fun dd=>(match dd with
  | .slice e=>au (sQ P e) fun sz=>(match d with
    | .c (.sl id off len _ _)=>La h sz s fun n l=>iff (Nat.ble n len) (EO g h id off l fun h=>fN n fun n=>k (.c (.int .i64 (Int.ofNat n))) h)
    |_=>false)
  |_=>false)
theorem aec (H:HR P g w0 ρ h nx w){t t2 ty:TypeId}{d s:RV}{dv sv:Value}(hd:GR ρ d dv)(hs:GR ρ s sv){k:RV->Hp->Nat->Bool}(hk:agw P g h t d s (fun r h=>k r h nx)=true):Do P g w0 ρ nx w k (Builtin.copy_ #[t,t2] ty #[dv,sv]):=by
 obtain⟨dd,hdd,hk⟩:=ah hk
 try simp only[aG,aH,aW]at hdd
 split at hk
 case h_2=>cases hk
 rename_i e
 obtain⟨sz,hsz,hk⟩:=ah hk
 split at hk
 case h_2=>cases hk
 rename_i id off len cut lim _ _
 obtain⟨n,l,xs,hk,hxs,hlen,h1,h2,_⟩:=Uz H hs hk
 obtain⟨hn,hk⟩:=aj hk
 have hn:=aT hn
 cases hd with
 |c hd=>cases hd with
  | @sl _ b base cap _ _ _ _ hr q1 q2 q3=>
    obtain⟨h',w',hk,hst,H'⟩:=Bl H hr hxs hk
    rw[gW]at hk
    refine⟨_, .int .i64 (n:Int),ρ,h',nx,w',hk,Ext.refl _ _,H', .c (.int _ _),?_⟩
    have hmin:Nat.min n len=n:=Nat.min_eq_left hn
    have hst':(storeCells ⟨b,base+off,none⟩ xs).run P w= .ok () w':=hst
    simp only[Builtin.copy_,Sem.run_bind,run_underlying hdd,Result.andThen_ok,h1,hmin,dW hsz,h2,List.toList_toArray,hst',Sem.run_pure,List.getElem?_toArray,List.getElem?_cons_zero,List.getElem?_cons_succ]
    rfl
end
end bU
end
section
namespace bU
open Go Go.RowKit
inductive Ex where
 |normal
 |exit (id:Nat)
 |goto (l:Nat)
 |ret
def Ex.to:Ex->Exit
 | .normal=> .normal
 | .exit id=> .exit id
 | .goto l=> .goto l
 | .ret=> .ret
abbrev KX:=Ex->Env->Hp->Nat->Bool
abbrev KV:=RV->Hp->Nat->Bool
abbrev KF:=RV->Hp->Nat->List Nat->Bool
abbrev Run:=Code->Nat->Env->Hp->Nat->KX->Bool
structure Fr (D:List Deferred)(ρ:Ren)(N:Nat)(env:Env)(a:Act):Prop where
 er:ER ρ env a.tmps
 size:a.tmps.size=N
 kE:a.defers=D
theorem ER.mono {ρ ρ':Ren}(hρ:ρ.le ρ'){env:Env}{t:Array Value}(h:ER ρ env t):ER ρ' env t:=fun i v hv=>let⟨x,h1,h2⟩:=h i v hv;⟨x,h1,h2.mono hρ⟩
theorem Fr.mono {D:List Deferred}{ρ ρ':Ren}(hρ:ρ.le ρ'){N:Nat}{env:Env}{a:Act}(h:Fr D ρ N env a):Fr D ρ' N env a:=⟨h.er.mono hρ,h.size,h.kE⟩
noncomputable def oP (N:Nat)(env:Env)(d:Option Tmp)(v:RV)(k:Env->Bool):Bool:=match d with
 |none=>k env
 |some d=>iff (Nat.ble (Nat.succ d) N) (env.iZ d (some v) k)
theorem Lr {D:List Deferred}{ρ:Ren}{N:Nat}{env:Env}{d:Option Tmp}{v:RV}{k:Env->Bool}{a:Act}{x:Value}(hF:Fr D ρ N env a)(hx:GR ρ v x)(hk:oP N env d v k=true): ∃env',k env'=true/\Fr D ρ N env' (a.put d x):=by
 cases d with
 |none=>exact⟨env,hk,hF⟩
 |some d=>
  obtain⟨hd,hk⟩:=aj hk
  have hd:d<N:=aT hd
  obtain⟨env',hk,hh⟩:=Tr.bJ hk
  refine⟨env',hk,⟨fun i r hr=>?_,by simp[Act.put,hF.size],hF.kE⟩⟩
  rw[hh]at hr
  split at hr
  ·rename_i e
   cases hr;subst e
   exact⟨x,by simp[Act.put,hF.size,hd],hx⟩
  ·rename_i hne
   obtain⟨y,h1,h2⟩:=hF.er i r hr
   exact⟨y,by simp only[Act.put];rw[Array.getElem?_setIfInBounds_ne (Ne.symm hne)];exact h1,h2⟩
noncomputable def yC (all:List Oper)(o:Oper)(env:Env)(k:Bool->Bool):Bool:=match o.guard with
 |none=>k true
 |some (j,want)=>au (aF all j) fun oj=>au oj.dst fun d=>au (env.get d) fun v=>(match v with
  | .c (.bool b)=>fB (b==want) k
  | .aK []=>k false
  |_=>false)
theorem Ei {D:List Deferred}{ρ:Ren}{N:Nat}{ops:Array Oper}{o:Oper}{env:Env}{a:Act}(hF:Fr D ρ N env a){k:Bool->Bool}(hk:yC ops.toList o env k=true):k (Region.wanted o (yielded ops a.tmps))=true:=by
 unfold yC at hk
 unfold Region.wanted
 cases hg:o.guard with
 |none=>rw[hg]at hk;exact hk
 |some p=>
  obtain⟨j,want⟩:=p
  rw[hg]at hk
  obtain⟨oj,hj,hk⟩:=ah hk
  try simp only[aG,aH,aW]at hj
  obtain⟨d,hd,hk⟩:=ah hk
  try simp only[aG,aH,aW]at hd
  obtain⟨v,hv,hk⟩:=ah hk
  rw[aJ]at hj
  have hj':ops[j]?=some oj:=by simpa using hj
  obtain⟨x,h1,h2⟩:=hF.er d v hv
  have hy:yielded ops a.tmps j=match x with| .bool b=>some b|_=>none:=by unfold yielded;rw[hj'];simp only[Option.bind_some,hd,h1];cases x<;>rfl
  show k (yielded ops a.tmps j==some want)=true
  rw[hy]
  split at hk
  ·rename_i b
   rw[XH]at hk
   cases h2 with
   |c h2=>cases h2;simpa using hk
  ·cases h2 with
   |aK h2=>cases h2;simpa using hk
  ·cases hk
section
variable {P:Program} {g:Nat} {w0:World} {ρ:Ren} {h:Hp} {nx:Nat} {w:World} {N:Nat} {env:Env} {a:Act} {D:List Deferred}
noncomputable def Es (g:Nat)(env:Env)(l:List Operand):(List AV->Bool)->Bool:=
 List.rec (motive:=fun _=>(List AV->Bool)->Bool) (fun k=>k []) (fun x _ ih k=>dN g env x fun r=>zW r fun a=>ih fun l=>k (a::l)) l
theorem uV (H:HR P g w0 ρ h nx w)(hF:Fr D ρ N env a){l:List Operand}: ∀{k:List AV->Bool},Es g env l k=true-> ∃vs,k vs=true/\F2 (GA ρ) vs (l.map a.eval):=by
 induction l with
 |nil=>intro k hk;exact⟨[],hk, .nil⟩
 |cons x l ih=>
  intro k hk
  obtain⟨r,hk,hr⟩:=uf H.glob hF.er hk
  obtain⟨v,hk,hv⟩:=oC hr hk
  obtain⟨vs,hk,hvs⟩:=ih (k:=fun l=>k (v::l)) hk
  exact⟨_,hk, .cons hv hvs⟩
noncomputable def Jj (g:Nat)(env:Env)(l:List (Nat×Operand)):(List (Nat×AV)->Bool)->Bool:=
 List.rec (motive:=fun _=>(List (Nat×AV)->Bool)->Bool) (fun k=>k []) (fun x _ ih k=>dN g env x.2 fun r=>zW r fun a=>ih fun l=>k ((x.1,a)::l)) l
theorem DW (H:HR P g w0 ρ h nx w)(hF:Fr D ρ N env a){l:List (Nat×Operand)}: ∀{k:List (Nat×AV)->Bool},Jj g env l k=true-> ∃vs,k vs=true/\F2 (fun a b=>a.1=b.1/\GA ρ a.2 b.2) vs (l.map fun p=>(p.1,a.eval p.2)):=by
 induction l with
 |nil=>intro k hk;exact⟨[],hk, .nil⟩
 |cons x l ih=>
  intro k hk
  obtain⟨r,hk,hr⟩:=uf H.glob hF.er hk
  obtain⟨v,hk,hv⟩:=oC hr hk
  obtain⟨vs,hk,hvs⟩:=ih (k:=fun l=>k ((x.1,v)::l)) hk
  exact⟨_,hk, .cons ⟨rfl,hv⟩ hvs⟩
noncomputable def RX (g:Nat)(env:Env)(o:Option Operand)(k:Option RV->Bool):Bool:=match o with
 |none=>k none
 |some x=>dN g env x fun r=>k (some r)
theorem Fq (H:HR P g w0 ρ h nx w)(hF:Fr D ρ N env a){o:Option Operand}{k:Option RV->Bool}(hk:RX g env o k=true): ∃r,k r=true/\Option.Rel (GR ρ) r (o.map a.eval):=by
 cases o with
 |none=>exact⟨none,hk, .none⟩
 |some x=>
  obtain⟨r,hk,hr⟩:=uf H.glob hF.er hk
  exact⟨some r,hk, .some hr⟩
noncomputable def Hl (r:RV)(k:RV->Bool):Bool:=match r with
 | .c .nU=>false
 | .c .qN=>false
 | .c .oQ=>false
 |r=>k r
noncomputable def Qq (P:Program)(g:Nat)(op:Op)(env:Env)(h:Hp)(nx:Nat)(k:KF):Bool:=match op with
 | .move x=>dN g env x fun r=>k r h nx []
 | .assign x=>dN g env x fun r=>k r h nx []
 | .pick c x y=>dN g env c fun c=>(match c with| .c (.bool b)=>Bool.casesOn b (dN g env y fun r=>k r h nx []) (dN g env x fun r=>k r h nx [])|_=>false)
 | .build t parts=>Jj g env parts.toList fun ps=>aar P t ps fun r=>k r h nx []
 | .load t x=>dN g env x fun p=>OU P h t p fun r ids=>k r h nx ids
 | .nilCheck x=>dN g env x fun r=>Hl r fun r=>k r h nx []
 | .binOp op t x y _=>dN g env x fun r=>dN g env y fun s=>XU P h op t (jH x||jH y) r s fun r ids=>k r h nx ids
 | .unOp op _ x=>dN g env x fun r=>unK op r fun r=>k r h nx []
 | .convert s d x=>dN g env x fun r=>Sl P h s d r fun r ids=>k r h nx ids
 | .makeInterface t x=>dN g env x fun r=>QH P h nx t r fun r h nx=>k r h nx []
 | .makeFunc fn first caps=>Es g env first.toList fun f=>Es g env caps.toList fun c=>NM h nx fn f c fun r h nx=>k r h nx []
 | .slice t x lo hi mx=>dN g env x fun r=>RX g env lo fun lo=>RX g env hi fun hi=>RX g env mx fun mx=>Yw P h nx t r lo hi mx fun r nx=>k r h nx []
 | .fieldAddr t x f=>dN g env x fun r=>Cj P t f r fun r=>k r h nx []
 | .field t x f=>dN g env x fun r=>RN P t f r fun r=>k r h nx []
 | .indexAddr t x i=>dN g env x fun r=>dN g env i fun i=>JG P t r i fun r=>k r h nx []
 | .index t x i=>dN g env x fun r=>dN g env i fun i=>ZJ P t r i fun r=>k r h nx []
 | .lookup t x i ok=>dN g env x fun r=>dN g env i fun i=>Vg P h t r i ok fun r ids=>k r h nx ids
 | .entry x=>dN g env x fun r=>Si h r fun r ids=>k r h nx ids
 | .typeAssert x _ t ok=>dN g env x fun r=>zu P h r t ok fun r ids=>k r h nx ids
 | .extract x i=>dN g env x fun r=>(match r with| .aK l=>au (aF l i) fun a=>k a.rv h nx []|_=>false)
 | .call c=>(match c.callee with
   | .builtin .len=>(match c.argTypes.toList,c.args.toList with|[t],[x]=>dN g env x fun r=>afy P h t r fun r ids=>k r h nx ids|_,_=>false)
   | .builtin .cap=>(match c.argTypes.toList,c.args.toList with|[t],[x]=>dN g env x fun r=>agy P h t r fun r ids=>k r h nx ids|_,_=>false)
   | .builtin .min=>Es g env c.args.toList fun l=>U9 false l fun r=>k r h nx []
   | .builtin .max=>Es g env c.args.toList fun l=>U9 true l fun r=>k r h nx []
   |_=>false)
 |_=>false
def FlN (P:Program)(g:Nat)(w0:World)(ρ:Ren)(h:Hp)(nx:Nat)(k:KF)(s:Sem Next):Prop:=
 ∃r x ρ' h' nx' ids,k r h' nx' ids=true/\Ext nx nx' ρ ρ'/\GR ρ' r x/\(∀id∈ids,ρ id≠none)/\(∀m o,h.get m=some o->h'.get m=some o)/\(∀w,HR P g w0 ρ h nx w->HR P g w0 ρ' h' nx' w)/\ ∀w,(∀id∈ids,∀o,h.get id=some o->Ob P ρ id o w)->s.run P w= .ok (.value x) w
theorem Fl.n {k:KF}{s:Sem Value}{s':Sem Next}(hf:Fl P g w0 ρ h nx k s)(hs:s'=do pure (.value (<-s))):FlN P g w0 ρ h nx k s':=by
 obtain⟨r,x,ρ',h',nx',ids,h1,h2,h3,hn,h6,h4,h5⟩:=hf
 exact⟨r,x,ρ',h',nx',ids,h1,h2,h3,hn,h6,h4,fun w hw=>by subst hs;simp[h5 w hw]⟩
theorem Zd (H:HR P g w0 ρ h nx w)(hF:Fr D ρ N env a){o:Oper}{k:KF}(hk:Qq P g o.op env h nx k=true):FlN P g w0 ρ h nx k (execOp a.eval o):=by
 obtain⟨dst,op,type,pos,after,guard⟩:=o
 have ev: ∀{x:Operand}{k:RV->Bool},dN g env x k=true-> ∃r,k r=true/\GR ρ r (a.eval x):=fun hk=>uf H.glob hF.er hk
 have nS: ∀{r:RV}{x:Value}{s:Sem Next},k r h nx []=true->GR ρ r x->(∀w,s.run P w= .ok (.value x) w)->FlN P g w0 ρ h nx k s:=fun hk hr hs=>⟨_,_,ρ,h,nx,[],hk,Ext.refl _ _,hr,fun _ h=>(by cases h),fun _ _ h=>h,fun _ H=>H,fun w _=>hs w⟩
 cases op<;>simp only[Qq]at hk<;>(try(cases hk;done))
 case move x=>obtain⟨r,hk,hr⟩:=ev hk;exact nS hk hr fun w=>by simp[execOp]
 case assign x=>obtain⟨r,hk,hr⟩:=ev hk;exact nS hk hr fun w=>by simp[execOp]
 case pick c x y=>
  obtain⟨r,hk,hr⟩:=ev hk
  split at hk
  ·rename_i b
   have hb:a.eval c= .bool b:=by
    generalize a.eval c=X at hr
    cases hr with
    |c hr=>cases hr;rfl
   cases b with
   |false=>obtain⟨r,hk,hr⟩:=ev hk;exact nS hk hr fun w=>by simp[execOp,hb,asBool]
   |true=>obtain⟨r,hk,hr⟩:=ev hk;exact nS hk hr fun w=>by simp[execOp,hb,asBool]
  ·cases hk
 case build t parts=>
  obtain⟨ps,hk,hps⟩:=DW H hF hk
  refine(aaq hps hk).fl.n ?_
  have e1:(List.map (fun p=>(p.1,a.eval p.2)) parts.toList).toArray=parts.map fun p=>(p.1,a.eval p.2):=by apply Array.ext';simp
  simp only[execOp,e1]
 case load t x=>
  obtain⟨r,hk,hr⟩:=ev hk
  exact(Rd.fl (k:=k) (QO H hr hk)).n rfl
 case nilCheck x=>
  obtain⟨r,hk,hr⟩:=ev hk
  have core: ∀{X:Value},GR ρ r X->Hl r (fun r=>k r h nx [])=true->k r h nx []=true/\X≠ .pointer none/\X≠ .nilIface/\X≠ .nilFunc/\ ∀n f c,X≠ .func (.method n) f c:=fun hr hk=>by
   unfold Hl at hk
   split at hk<;>(try cases hk)
   rename_i h1 h2 h3
   refine⟨hk,?_,?_,?_,?_⟩
   ·intro e;cases hr with
    |c hr=>cases hr<;>first|(cases e;done)|exact h1 rfl
    |agg=>cases e
    |aK=>cases e
   ·intro e;cases hr with
    |c hr=>cases hr<;>first|(cases e;done)|exact h2 rfl
    |agg=>cases e
    |aK=>cases e
   ·intro e;cases hr with
    |c hr=>cases hr<;>first|(cases e;done)|exact h3 rfl
    |agg=>cases e
    |aK=>cases e
   ·intro n f c e;cases hr with
    |c hr=>cases hr<;>cases e
    |agg=>cases e
    |aK=>cases e
  obtain⟨hk,h1,h2,h3,h4⟩:=core hr hk
  refine nS hk hr fun w=>?_
  generalize hX:a.eval x=X at h1 h2 h3 h4
  simp only[execOp,hX]
  rfl
 case binOp op t x y yt=>
  obtain⟨r,hk,hr⟩:=ev hk
  obtain⟨s,hk,hs⟩:=ev hk
  exact(Rd.fl (k:=k) (ace H hr hs hk)).n rfl
 case unOp op t x=>obtain⟨r,hk,hr⟩:=ev hk;exact(aeA hr hk).fl.n rfl
 case convert s d x=>obtain⟨r,hk,hr⟩:=ev hk;exact(Rd.fl (k:=k) (aap H hr hk)).n rfl
 case makeInterface t x=>obtain⟨r,hk,hr⟩:=ev hk;exact(TT hr H hk).fl.n rfl
 case makeFunc fn first caps=>
  obtain⟨f,hk,hf⟩:=uV H hF hk
  obtain⟨c,hk,hc⟩:=uV H hF hk
  refine(QI hf hc H hk).fl.n ?_
  have e1: ∀l:Array Operand,(List.map a.eval l.toList).toArray=l.map a.eval:=fun l=>by apply Array.ext';simp
  simp only[execOp,e1]
 case slice t x lo hi mx=>
  obtain⟨r,hk,hr⟩:=ev hk
  obtain⟨l,hk,hl⟩:=Fq H hF hk
  obtain⟨u,hk,hu⟩:=Fq H hF hk
  obtain⟨m,hk,hm⟩:=Fq H hF hk
  exact(Pf.fl (Pn.pf (k:=fun r h nx=>k r h nx []) (Yv H hr hl hu hm hk))).n rfl
 case fieldAddr t x f=>obtain⟨r,hk,hr⟩:=ev hk;exact(OE hr hk).fl.n rfl
 case field t x f=>obtain⟨r,hk,hr⟩:=ev hk;exact(Z7 hr hk).fl.n rfl
 case indexAddr t x i=>obtain⟨r,hk,hr⟩:=ev hk;obtain⟨s,hk,hs⟩:=ev hk;exact(OB hr hs hk).fl.n rfl
 case index t x i=>obtain⟨r,hk,hr⟩:=ev hk;obtain⟨s,hk,hs⟩:=ev hk;exact(ZI hr hs hk).fl.n rfl
 case lookup t x i ok=>obtain⟨r,hk,hr⟩:=ev hk;obtain⟨s,hk,hs⟩:=ev hk;exact(Rd.fl (k:=k) (Xa hr hs H hk)).n rfl
 case entry x=>obtain⟨r,hk,hr⟩:=ev hk;exact(Rd.fl (k:=k) (aam H hr hk)).n rfl
 case typeAssert x xt t ok=>obtain⟨r,hk,hr⟩:=ev hk;exact(Rd.fl (k:=k) (KP H (xt:=xt) hr hk)).n rfl
 case extract x i=>
  obtain⟨r,hk,hr⟩:=ev hk
  split at hk
  ·rename_i l
   obtain⟨v,hv,hk⟩:=ah hk
   rw[aJ]at hv
   generalize hx:a.eval x=X at hr
   cases hr with
   |aK hr=>
    obtain⟨y,h1,h2⟩:=fO hr hv
    exact nS hk h2.rv fun w=>by simp[execOp,hx,Instr.extract,h1]
  ·cases hk
 case call c=>
  obtain⟨callee,args,argTypes⟩:=c
  simp only at hk
  split at hk
  ·split at hk
   ·rename_i t x e1 e2
    obtain⟨r,hk,hr⟩:=ev hk
    have e1:argTypes= #[t]:=by apply Array.ext';simpa using e1
    have e2:args= #[x]:=by apply Array.ext';simpa using e2
    subst e1 e2
    exact(Rd.fl (k:=k) (adZ H (ty:=type) hr hk)).n (by simp[execOp,resolve,invoke,builtin])
   ·cases hk
  ·split at hk
   ·rename_i t x e1 e2
    obtain⟨r,hk,hr⟩:=ev hk
    have e1:argTypes= #[t]:=by apply Array.ext';simpa using e1
    have e2:args= #[x]:=by apply Array.ext';simpa using e2
    subst e1 e2
    exact(Rd.fl (k:=k) (aej H (ty:=type) hr hk)).n (by simp[execOp,resolve,invoke,builtin])
   ·cases hk
  ·obtain⟨l,hk,hl⟩:=uV H hF hk
   have e1:(List.map a.eval args.toList).toArray=args.map a.eval:=by apply Array.ext';simp
   refine((afs (ts:=argTypes) (t:=type) hl hk).fl).n ?_
   rw[e1]
   simp[execOp,resolve,invoke,builtin]
  ·obtain⟨l,hk,hl⟩:=uV H hF hk
   have e1:(List.map a.eval args.toList).toArray=args.map a.eval:=by apply Array.ext';simp
   refine((afv (ts:=argTypes) (t:=type) hl hk).fl).n ?_
   rw[e1]
   simp[execOp,resolve,invoke,builtin]
  ·cases hk
end
end bU
end
end Go.Proofs.YtakhobfamnjnoaaGreatDoor
