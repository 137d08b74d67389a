/- The machine's append and copy. -/
import Derived.Test.YtakhobfamnjnoaaGreatDoorB37
set_option linter.unusedVariables false
set_option linter.unusedSimpArgs false
namespace Go.Proofs.YtakhobfamnjnoaaGreatDoor
namespace bC
open Go Go.RowKit
section
variable {P:Program} {g:Nat} {w0:World} {ρ:Ren} {h:Hp} {nx:Nat} {w:World}
def Src (P:Program)(w:World)(t2 e:TypeId)(size n:Nat)(x:Value)(news:List Value):Prop:=
 (((∃e2,P.underlying t2=some (.slice e2))\/P.underlying t2=some .string)/\(Builtin.lenOf x).run P w= .ok n w/\(Builtin.firstCells size n x).run P w= .ok news.toArray w/\(Builtin.firstCells size n x).run P w.drew= .ok news.toArray w.drew)\/
 (∃q q' i z,P.underlying t2=some (.int q)/\x= .int q' (n:Int)/\n<=1099511627776/\P.info? e=some i/\i.zero=some z/\n*i.bytes<=140737488355328/\z.cells.size=size/\news=jT n z.cells.toList)
theorem iP (z:Array Value)(n:Nat):Builtin.zeroCells z n=(jT n z.toList).toArray:=gG z n
theorem kE {t t2 ty e:TypeId}{i:TypeInfo}(ht:P.underlying t=some (.slice e))(hi:P.info? e=some i){b o sLen sCap n:Nat}{x:Value}{news:List Value}(hs:Src P w t2 e i.size n x news)
 (hroom:sLen+n<=sCap) {w':World} (hst:(storeCells ⟨b,o+sLen*i.size,none⟩ news).run P w= .ok () w'):
 (Builtin.append_ #[t,t2] ty #[.slice (some ⟨b,o,none⟩) sLen sCap,x]).run P w= .ok (.slice (some ⟨b,o,none⟩) (sLen+n) sCap) w':=by
 rcases hs with⟨⟨e2,h2⟩|h2,hl,hf,_⟩|⟨q,q',i',z,h2,rfl,hn,hi',hz,hby,hsz,rfl⟩
 ·simp[Builtin.append_,run_underlying ht,run_underlying h2,sizeOf,typeInfo,hi,hl,hroom,hf,Addr.add_lit,hst]
 ·simp[Builtin.append_,run_underlying ht,run_underlying h2,sizeOf,typeInfo,hi,hl,hroom,hf,Addr.add_lit,hst]
 ·rw[hi]at hi';cases hi'
  have hw:IntKind.i64.wrap (n:Int)=n:=by rw[IntKind.wrap_i64];omega
  have hn0: ¬((n:Int)<0):=by omega
  have y7: ¬(281474976710656<(n:Int)*(i.bytes:Int)):=by
   have h0:=Int.ofNat_le.2 hby
   rw[Int.natCast_mul]at h0
   intro hh
   have:=Int.lt_of_lt_of_le hh h0
   revert this;decide
  by_cases h0:n*i.size=0
  ·have hnil:jT n z.cells.toList=[]:=List.eq_nil_of_length_eq_zero (by rw[lG];simpa[hsz]using h0)
   rw[hnil]at hst
   have hst':w'=w:=by simp[storeCells]at hst;exact hst.symm
   subst hst'
   simp[Builtin.append_,run_underlying ht,run_underlying h2,sizeOf,typeInfo,hi,asInt,asIntOf,hw,hn0,y7,hroom,h0,storeCells]
  ·simp[Builtin.append_,run_underlying ht,run_underlying h2,sizeOf,typeInfo,hi,asInt,asIntOf,hw,hn0,y7,hroom,h0,zeroValue,hz,iP,Addr.add_lit,hst]
theorem uI {t t2 ty e:TypeId}{i:TypeInfo}{z:Value}(ht:P.underlying t=some (.slice e))(hi:P.info? e=some i)(hz:i.zero=some z){a:Option Addr}{sLen sCap n:Nat}{x:Value}{news olds:List Value}(hs:Src P w t2 e i.size n x news)
 (ho:(Builtin.firstCells i.size sLen (.slice a sLen sCap)).run P w.drew= .ok olds.toArray w.drew) (hg:sCap<sLen+n) (h63:sLen+n<=1099511627776) (Nv:(sLen+n)*i.bytes<=140737488355328):
 (Builtin.append_ #[t,t2] ty #[.slice a sLen sCap,x]).run P w= .ok (.slice (some ⟨w.heap.size,0,none⟩) (sLen+n) (grownCap w (sLen+n) sCap e))
   (w.drew.alloc (.cells ((olds++news)++jT (grownCap w (sLen+n) sCap e-(sLen+n)) z.cells.toList).toArray e)):=by
 have hroom: ¬(sLen+n<=sCap):=by omega
 have hfit: ¬(281474976710656<Builtin.nextslicecap (sLen+n) sCap*i.bytes):=by
  have:=growslice_fits hg Nv
  omega
 rcases hs with⟨⟨e2,h2⟩|h2,hl,_,hf⟩|⟨q,q',i',z',h2,rfl,hn,hi',hz',hby,hsz,rfl⟩
 ·have h63': ¬(9223372036854775807<((sLen:Int)+(n:Int))):=by omega
  simp[Builtin.append_,run_underlying ht,run_underlying h2,sizeOf,typeInfo,hi,hl,hroom,h63',hfit,Question.forced,ho,hf,zeroValue,hz,newRow,grownCap,iP]
 ·have h63': ¬(9223372036854775807<((sLen:Int)+(n:Int))):=by omega
  simp[Builtin.append_,run_underlying ht,run_underlying h2,sizeOf,typeInfo,hi,hl,hroom,h63',hfit,Question.forced,ho,hf,zeroValue,hz,newRow,grownCap,iP]
 ·rw[hi]at hi';cases hi'
  rw[hz]at hz';cases hz'
  have h63': ¬(9223372036854775807<((sLen:Int)+(n:Int))):=by omega
  have hw:IntKind.i64.wrap (n:Int)=n:=by rw[IntKind.wrap_i64];omega
  have hn0: ¬((n:Int)<0):=by omega
  have y7: ¬(281474976710656<(n:Int)*(i.bytes:Int)):=by
   have h0:=Int.ofNat_le.2 hby
   rw[Int.natCast_mul]at h0
   intro hh
   have:=Int.lt_of_lt_of_le hh h0
   revert this;decide
  by_cases h0:n*i.size=0
  ·have hnil:jT n z.cells.toList=[]:=List.eq_nil_of_length_eq_zero (by rw[lG];simpa[hsz]using h0)
   simp[Builtin.append_,run_underlying ht,run_underlying h2,sizeOf,typeInfo,hi,asInt,asIntOf,hw,hn0,y7,hroom,h0,h63',hfit,Question.forced,ho,zeroValue,hz,newRow,grownCap,iP,hnil]
  ·simp[Builtin.append_,run_underlying ht,run_underlying h2,sizeOf,typeInfo,hi,asInt,asIntOf,hw,hn0,y7,hroom,h0,h63',hfit,Question.forced,ho,zeroValue,hz,newRow,grownCap,iP]
noncomputable def Cb (s:List Nat):List CV:=List.rec (motive:=fun _=>List CV) [] (fun b _ ih=> .int .u8 (Int.ofNat b)::ih) s
noncomputable def GX (h:Hp)(sz:Nat)(x:RV)(k:Nat->List CV->Bool):Bool:=match x with
 | .c .bW=>k 0 []
 | .c (.xZ _)=>k 0 []
 | .c (.sl id off len _ _)=>au (h.get id) fun o=>au (rowOf o) fun cells=>fL ((cells.drop off).take (Nat.mul len sz)) fun l=>iff (Nat.beq (llen l) (Nat.mul len sz)) (k len l)
 | .c (.str s)=>iff (Nat.beq sz 1) (fL (Cb s) fun l=>k (llen s) l)
 |_=>false
theorem Ob.drew {id:Nat}{o:AO}(h:Ob P ρ id o w):Ob P ρ id o w.drew:=h.frame fun _ _ _=>rfl
theorem Gp {s:List Nat}(hs:small s):F2 (G ρ) (Cb s) ((ba s).data.toList.map fun b=> .int .u8 b.toNat):=by
 have e:(ba s).data.toList=s.map UInt8.ofNat:=by simp[ba]
 rw[e,List.map_map]
 induction s with
 |nil=>exact .nil
 |cons b s ih=>
  have hb:=hs b (by simp)
  have:((fun b:UInt8=>Value.int .u8 b.toNat)∘UInt8.ofNat) b= .int .u8 (Int.ofNat b):=by simp[UInt8.toNat_ofNat',Nat.mod_eq_of_lt hb]
  show F2 (G ρ) (CV.int .u8 (Int.ofNat b)::Cb s) (((fun b:UInt8=>Value.int .u8 b.toNat)∘UInt8.ofNat) b::s.map _)
  rw[this]
  exact .cons (.int _ _) (ih (fun x hx=>hs x (by simp[hx])) (by simp[ba]))
theorem Pz (H:HR P g w0 ρ h nx w){sz:Nat}{x:RV}{v:Value}(hx:GR ρ x v){k:Nat->List CV->Bool}(hk:GX h sz x k=true):
 ∃n l xs,k n l=true/\F2 (G ρ) l xs/\xs.length=n*sz/\(Builtin.lenOf v).run P w= .ok n w/\(Builtin.firstCells sz n v).run P w= .ok xs.toArray w/\(Builtin.firstCells sz n v).run P w.drew= .ok xs.toArray w.drew:=by
 unfold GX at hk
 split at hk
 ·cases hx with
  |c hx=>cases hx;exact⟨0,[],[],hk, .nil,by simp,by simp[Builtin.lenOf],by simp[Builtin.firstCells],by simp[Builtin.firstCells]⟩
 ·cases hx with
  |c hx=>cases hx with
   |xZ=>exact⟨0,[],[],hk, .nil,by simp,by simp[Builtin.lenOf],by simp[Builtin.firstCells,loadCells,loadCellsFrom],by simp[Builtin.firstCells,loadCells,loadCellsFrom]⟩
 ·rename_i id off len _ _
  obtain⟨o,ho,hk⟩:=ah hk
  obtain⟨cells,hrow,hk⟩:=ah hk
  rw[eP]at hk
  obtain⟨hl,hk⟩:=aj hk
  have hl:((cells.drop off).take (Nat.mul len sz)).length=len*sz:=by rw[<-aG];exact aJ hl
  cases hx with
  |c hx=>cases hx with
   |sl _ _ _ _ hr h1 h2 h3=>
    have hob:=H.ob ho hr
    obtain⟨xs,hxs,hc⟩:=hob.cells hrow hr off (Nat.mul len sz)
    obtain⟨ys,hys,hc'⟩:=hob.drew.cells hrow hr off (Nat.mul len sz)
    have:=F8 hxs hys
    subst this
    have hlen:xs.length=len*sz:=by rw[<-bJ hxs,hl]
    exact⟨len,_,xs,hk,hxs,hlen,by simp[Builtin.lenOf],run_firstCells_some w sz len _ len _ xs hlen hc,run_firstCells_some w.drew sz len _ len _ xs hlen hc'⟩
 ·rename_i s
  obtain⟨h1,hk⟩:=aj hk
  have h1:=aJ h1
  rw[eP,aG]at hk
  cases hx with
  |c hx=>cases hx with
   |str _ hs=>
    have he:(ba s).extract 0 s.length=ba s:=by rw[Ol];simp
    refine⟨s.length,_,_,hk,Gp hs,by simp[h1,ba],by simp[Builtin.lenOf,jH],?_,?_⟩<;>
    ·simp[Builtin.firstCells,he]
     simp[ba]
 ·cases hk
theorem HR.moved (H:HR P g w0 ρ h nx w){id b base cap:Nat}{o o':AO}(hid:h.get id=some o)(hg:g<=id)(hr:ρ id=some (.blk b base cap)){w':World}(hs:w'.heap.size=w.heap.size)(hos:w'.os=w.os)(ht:w'.tape=w.tape)(hout:w'.output=w.output)
 (hk: ∀k,k≠b->w'.heap[k]?=w.heap[k]?) {h1 h2:Hp} (hh1: ∀m,h1.get m=if m=id then none else h.get m) (hh2: ∀m,h2.get m=if m=nx then some o' else h1.get m) {base' cap':Nat}
 (ho: ∀ρ':Ren,ρ.le ρ'->ρ' nx=some (.blk b base' cap')->Ob P ρ' nx o' w'): ∃ρ',Ext nx (nx+1) ρ ρ'/\ρ' nx=some (.blk b base' cap')/\HR P g w0 ρ' h2 (nx+1) w':=by
 have hle:=Ren.jq (H.fresh nx (Nat.le_refl _)) (.blk b base' cap')
 have hlow:=H.own id b ⟨_,_,hr⟩ hg
 have hlt:=H.lt id b ⟨_,_,hr⟩
 have hb: ∀i c,gI (ρ.put nx (.blk b base' cap')) i c->(i=nx/\c=b)\/(i≠nx/\gI ρ i c):=fun i c ⟨bs,cp,hb⟩=>by
  unfold Ren.put at hb
  split at hb
  ·rename_i e;cases hb;exact .inl ⟨e,rfl⟩
  ·exact .inr ⟨by assumption,_,_,hb⟩
 have live: ∀i oi,i≠nx->h2.get i=some oi->i≠id/\h.get i=some oi:=fun i oi hi hoi=>by
  rw[hh2,if_neg hi,hh1]at hoi
  split at hoi
  ·cases hoi
  ·exact⟨by assumption,hoi⟩
 refine⟨_,Ext.put (H.fresh nx (Nat.le_refl _)) _,Ren.dF _ _ _,⟨fun i hi=>?_,by have:=H.pX;omega,fun i p hp hn=>?_,fun i j oi oj c hi hj bi bj=>?_,fun i c hc hgi=>?_,fun i c hc=>?_,⟨hos.trans H.kept.os,ht.trans H.kept.tape,hout.trans H.kept.output,by rw[hs];exact H.kept.size,fun k hk'=>(hk k (by omega)).trans (H.kept.block k hk')⟩,fun i hi=>(H.glob i hi).imp fun _ h=>hle _ _ h,fun i hi=>by rw[hh2,if_neg (by omega),hh1];split;rfl;exact H.hfr i (by omega)⟩⟩
 ·unfold Ren.put;rw[if_neg (by omega)];exact H.fresh i (by omega)
 ·by_cases hi:i=nx
  ·subst hi
   rw[hh2,if_pos rfl]at hp
   cases hp
   exact ho _ hle (Ren.dF _ _ _)
  ·obtain⟨hne,hp⟩:=live i p hi hp
   rw[Ren.jc hi]at hn
   refine((H.objs i p hp hn).frame (fun c hc _=>hk c (fun e=>hne ?_))).mono hle
   subst e
   exact H.inj i id _ _ c hp hid hc ⟨_,_,hr⟩
 ·rcases hb _ _ bi with⟨ei,eb⟩|⟨ni,bi2⟩<;>rcases hb _ _ bj with⟨ej,eb'⟩|⟨nj,bj2⟩
  ·rw[ei,ej]
  ·obtain⟨hne,hj⟩:=live j oj nj hj
   rw[eb]at bj2
   exact absurd (H.inj j id _ _ b hj hid bj2 ⟨_,_,hr⟩) hne
  ·obtain⟨hne,hi⟩:=live i oi ni hi
   rw[eb']at bi2
   exact absurd (H.inj i id _ _ b hi hid bi2 ⟨_,_,hr⟩) hne
  ·exact H.inj i j _ _ c (live i oi ni hi).2 (live j oj nj hj).2 bi2 bj2
 ·rcases hb _ _ hc with⟨_,eb⟩|⟨_,hc⟩
  ·omega
  ·exact H.own i c hc hgi
 ·rw[hs]
  rcases hb _ _ hc with⟨_,eb⟩|⟨_,hc⟩
  ·omega
  ·exact H.lt i c hc
theorem uH {t t2 ty e:TypeId}{i:TypeInfo}(ht:P.underlying t=some (.slice e))(hi:P.info? e=some i){x:Value}{news:List Value}(hs:Src P w t2 e i.size 0 x news)(hn:news=[]):
 (Builtin.append_ #[t,t2] ty #[.slice none 0 0,x]).run P w= .ok (.slice none 0 0) w:=by
 subst hn
 rcases hs with⟨⟨e2,h2⟩|h2,hl,hf,_⟩|⟨q,q',i',z,h2,rfl,hn,hi',hz,hby,hsz,_⟩
 ·simp[Builtin.append_,run_underlying ht,run_underlying h2,sizeOf,typeInfo,hi,hl,hf]
 ·simp[Builtin.append_,run_underlying ht,run_underlying h2,sizeOf,typeInfo,hi,hl,hf]
 ·have hw:IntKind.i64.wrap 0=0:=rfl
  simp[Builtin.append_,run_underlying ht,run_underlying h2,sizeOf,typeInfo,hi,asInt,asIntOf,hw]
noncomputable def pW (h:Hp)(nx:Nat)(e:TypeId)(len n:Nat)(cells:List CV)(k:RV->Hp->Nat->Bool):Bool:=
 fL cells fun cells=>mV h nx (.row cells e none) fun id h nx=>fN (Nat.add len n) fun m=>k (.c (.sl id 0 m 0 none)) h nx
noncomputable def Ij (g:Nat)(h:Hp)(nx:Nat)(e:TypeId)(sz:Nat)(s:RV)(n:Nat)(news:List CV)(k:RV->Hp->Nat->Bool):Bool:=match s with
 | .c .bW=>Nat.casesOn n (k s h nx) fun m=>pW h nx e 0 (Nat.succ m) news k
 | .c (.xZ _)=>Nat.casesOn n (k s h nx) fun _=>false
 | .c (.sl id off len cut lim)=>Nat.casesOn n (k s h nx) fun m=>au (h.get id) fun o=>(match o with
   | .row cells e' _=>fL ((cells.drop off).take (Nat.mul len sz)) fun olds=>iff (Nat.beq (llen olds) (Nat.mul len sz)) (match roomOf h id cut lim with
     |some c=>Bool.casesOn (Nat.ble (Nat.add len (Nat.succ m)) c) (pW h nx e len (Nat.succ m) (olds++news) k) (BD g h id (Nat.add off (Nat.mul len sz)) news fun h=>fN (Nat.add len (Nat.succ m)) fun l=>k (.c (.sl id off l cut lim)) h nx)
     |none=>iff (Nat.beq e' e) (iff (Nat.beq off (Nat.mul cut sz)) (iff (Nat.ble g id) (h.fU id none fun h=>pW h nx e len (Nat.succ m) (olds++news) k))))
   |_=>false)
 |_=>false
noncomputable def qZ (s:RV):Nat:=match s with| .c (.sl _ _ len _ _)=>len|_=>0
theorem QX (H:HR P g w0 ρ h nx w){t t2 ty e:TypeId}{i:TypeInfo}{z:Value}(ht:P.underlying t=some (.slice e))(hi:P.info? e=some i)(hz:i.zero=some z)(hzs:z.cells.size=i.size){n:Nat}{s:RV}{sv x:Value}{news:List CV}{xs:List Value}(hsv:GR ρ s sv)
 (hs:Src P w t2 e i.size n x xs) (hx:F2 (G ρ) news xs) (hlen:xs.length=n*i.size) (hb1:n+qZ s<=1099511627776) (hb2:(qZ s+n)*i.bytes<=140737488355328)
 {k:RV->Hp->Nat->Bool} (hk:Ij g h nx e i.size s n news k=true):Do P g w0 ρ nx w k (Builtin.append_ #[t,t2] ty #[sv,x]):=by
 have hcell:P.cellsOf e=i.size:=by simp[Program.cellsOf,hi]
 have grow: ∀{h1:Hp}{a:Option Addr}{sLen sCap:Nat}{oc:List CV}{olds:List Value},HR P g w0 ρ h1 nx w->F2 (G ρ) oc olds->olds.length=sLen*i.size->(Builtin.firstCells i.size sLen (.slice a sLen sCap)).run P w.drew= .ok olds.toArray w.drew->sCap<sLen+n->
  sLen+n<=1099511627776->(sLen+n)*i.bytes<=140737488355328->pW h1 nx e sLen n (oc++news) k=true->Do P g w0 ρ nx w k (Builtin.append_ #[t,t2] ty #[.slice a sLen sCap,x]):=fun{h1 a sLen sCap oc olds} H1 hoc hol hfc hgr h63 hby hk=>by
  unfold pW at hk
  rw[eP]at hk
  obtain⟨h',hk,hh⟩:=Tr.aW hk
  dsimp only at hk
  rw[dY]at hk
  have hcap:=grownCap_le_maxLen w (sLen+n) sCap e (by unfold maxLen;omega)
  have hge:=grownCap_ge w (sLen+n) sCap e
  obtain⟨ρ',hle,hr,H'⟩:=H1.drew.row (bZ hoc hx) (jT (grownCap w (sLen+n) sCap e-(sLen+n)) z.cells.toList) e (grownCap w (sLen+n) sCap e) none (by simp)
   (by rw[hcell,lG,List.length_append,hol,hlen,Array.length_toList,hzs,<-Nat.add_mul,<-Nat.add_mul];exact Nat.mul_le_mul_right _ (by omega)) hcap hh
  have hsl:G ρ' (.sl nx 0 (sLen+n) 0 none) (.slice (some ⟨w.heap.size,0,none⟩) (sLen+n) (grownCap w (sLen+n) sCap e)):=by
   have:=G.sl (ρ:=ρ') 0 (sLen+n) 0 none hr (by simpa using hge) (by simpa using hcap) (by simp)
   simpa using this
  exact⟨_,_,ρ',h',nx+1,_,hk,hle,H', .c hsl,uI ht hi hz hs hfc hgr h63 hby⟩
 have none0:n=0->xs=[]:=fun e=>List.eq_nil_of_length_eq_zero (by rw[hlen,e];simp)
 unfold Ij at hk
 split at hk
 ·cases hsv with
  |c hsv=>cases hsv with
   |bW=>
    cases n with
    |zero=>
     have hk0:k (.c .bW) h nx=true:=hk
     exact⟨_,_,ρ,h,nx,w,hk0,Ext.refl _ _,H, .c .bW,uH ht hi hs (none0 rfl)⟩
    |succ m=>exact grow (olds:=[]) H .nil (by simp) (run_firstCells_none w.drew _ _ _ _) (Nat.lt_of_lt_of_le (Nat.succ_pos m) (Nat.le_add_left _ _)) (by rw[Nat.zero_add];exact hb1) hb2 hk
 ·rename_i eid
  cases hsv with
  |c hsv=>cases hsv with
   | @xZ _ b o cap hr hm=>
     cases n with
     |zero=>
      have hk0:k (.c (.xZ eid)) h nx=true:=hk
      have hst:(storeCells ⟨b,o+0*i.size,none⟩ xs).run P w= .ok () w:=by rw[none0 rfl];rfl
      exact⟨_,_,ρ,h,nx,w,hk0,Ext.refl _ _,H, .c (.xZ hr hm),kE ht hi hs (by omega) hst⟩
     |succ m=>cases hk
 ·rename_i id off len cut lim
  cases hsv with
  |c hsv=>cases hsv with
   | @sl _ b base cap _ _ _ _ hr h1 h2 h3=>
     cases n with
     |zero=>
      have hk0:k (.c (.sl id off len cut lim)) h nx=true:=hk
      have hst:(storeCells ⟨b,base+off+len*i.size,none⟩ xs).run P w= .ok () w:=by rw[none0 rfl];rfl
      exact⟨_,_,ρ,h,nx,w,hk0,Ext.refl _ _,H, .c (.sl _ _ _ _ hr h1 h2 h3),kE ht hi hs (by omega) hst⟩
     |succ m=>
      obtain⟨o,ho,hk1⟩:=ah hk
      clear hk
      cases o<;>try(cases hk1;done)
      rename_i cells e' cp
      dsimp only at hk1
      rw[eP]at hk1
      obtain⟨hol,hk2⟩:=aj hk1
      clear hk1
      have hol:((cells.drop off).take (Nat.mul len i.size)).length=len*i.size:=by rw[<-aG];exact aJ hol
      have hob:=H.ob ho hr
      obtain⟨os,hos,hoc⟩:=hob.drew.cells rfl hr off (Nat.mul len i.size)
      have Yo:os.length=len*i.size:=by rw[<-bJ hos,hol]
      have hfc: ∀C,(Builtin.firstCells i.size len (.slice (some ⟨b,base+off,none⟩) len C)).run P w.drew= .ok os.toArray w.drew:=fun C=>run_firstCells_some w.drew i.size len _ len C os Yo hoc
      split at hk2
      ·rename_i c hc
       have hC:=Ad H hr hc
       rw[hC]at h1 h2⊢
       cases hbl:Nat.ble (Nat.add len (Nat.succ m)) c with
       |false=>
        rw[hbl]at hk2
        exact grow H hos Yo (hfc c) (by
         have: ¬len+(m+1)<=c:=fun hh=>by have h2:Nat.ble (Nat.add len (Nat.succ m)) c=true:=xI hh;rw[h2]at hbl;cases hbl
         omega) (by rw[Nat.add_comm];exact hb1) hb2 hk2
       |true=>
        rw[hbl]at hk2
        have hfit:len+(m+1)<=c:=aK hbl
        obtain⟨h',w',hk3,hst,H'⟩:=yI H hr hx hk2
        rw[dY]at hk3
        refine⟨_,_,ρ,h',nx,w',hk3,Ext.refl _ _,H',?_,kE ht hi hs hfit (by rw[<-hst];simp[Nat.add_assoc])⟩
        have:=G.sl (ρ:=ρ) off (len+(m+1)) cut lim hr (by rw[hC];exact hfit) (by rw[hC];exact h2) h3
        rw[hC]at this
        exact .c this
      ·rename_i hc
       obtain⟨he,hk3⟩:=aj hk2
       obtain⟨hoff,hk4⟩:=aj hk3
       obtain⟨Yr,hk5⟩:=aj hk4
       clear hk2 hk3 hk4
       have he:e'=e:=aJ he
       have hoff:off=cut*i.size:=aJ hoff
       have Yr:=aK Yr
       have hlim:lim=none:=by
        cases lim with
        |none=>rfl
        |some c=>simp[roomOf]at hc
       obtain⟨hd,hk6,hhd⟩:=Tr.aW hk5
       obtain⟨C,hC⟩: ∃C,lim.getD (cap-cut)=C:=⟨_,rfl⟩
       rw[hC]at h1 h2⊢
       rw[hlim,Option.getD_none]at hC
       by_cases hfit:len+(m+1)<=C
       ·cases hob with
        | @row _ b' base' cap' _ _ _ cs hr' hh hcl hcap hsz hm=>
          rw[hr]at hr';cases hr'
          rw[he,hcell]at hsz
          have AA:base+off+len*i.size+xs.length<=cs.size:=by
           have e1:off+(len+(m+1))*i.size<=cap*i.size:=by
            rw[hoff,<-Nat.add_mul]
            exact Nat.mul_le_mul_right _ (by omega)
           rw[Nat.add_mul]at e1
           rw[hlen]
           omega
          have hrun:=run_storeCells_at P b (base+off+len*i.size) e xs 0 cs w (by rw[<-he];exact hh) (by simpa using AA) (xH hx)
          simp only[Nat.add_zero]at hrun
          unfold pW at hk6
          rw[eP]at hk6
          obtain⟨h',FM,hh'⟩:=Tr.aW hk6
          dsimp only at FM
          rw[dY]at FM
          have hcsz:(cs.toList.take (base+off+len*i.size)++xs++cs.toList.drop (base+off+len*i.size+xs.length)).toArray.size=cs.size:=by
           simp;omega
          obtain⟨ρ',hle,hr2,H'⟩:=H.moved (w':=w.setRow b (cs.toList.take (base+off+len*i.size)++xs++cs.toList.drop (base+off+len*i.size+xs.length)).toArray) (base':=base+off) (cap':=C)
           ho Yr hr (by simp[World.setRow]) rfl rfl rfl (fun k hk=>by simp only[World.setRow];rw[Array.getElem?_modify,if_neg (fun e=>hk e.symm)]) hhd hh' (fun ρ' hle hr2=>by
            refine .row hr2 (setRow_heap w b cs _ e (0,0) (by rw[<-he];exact hh)) (fun j v hv=>?_) (by simp) ?_ h2
            ·rw[List.getElem?_toArray,xG xs cs.toList (base+off+len*i.size) (base+off+j) (by simpa using AA)]
             by_cases hj:j<len*i.size
             ·rw[List.getElem?_append_left (by omega),List.getElem?_take,if_pos (by simpa using hj),List.getElem?_drop]at hv
              obtain⟨y,h4,h5⟩:=hcl _ _ hv
              rw[if_neg (by omega)]
              exact⟨y,h4.mono hle,by simpa[Nat.add_assoc]using h5⟩
             ·rw[List.getElem?_append_right (by omega),hol]at hv
              obtain⟨y,h4,h5⟩:=dQ hx hv
              have:=(List.getElem?_eq_some_iff.1 h4).1
              rw[if_pos (by omega),show base+off+j-(base+off+len*i.size)=j-len*i.size by omega]
              exact⟨y,h5.mono hle,h4⟩
            ·rw[hcsz,hcell]
             have e1:off+C*i.size<=cap*i.size:=by
              rw[hoff,<-Nat.add_mul]
              exact Nat.mul_le_mul_right _ (by omega)
             omega)
          refine⟨_,_,ρ',h',nx+1,_,FM,hle,H',?_,kE ht hi hs hfit hrun⟩
          have:=G.sl (ρ:=ρ') 0 (len+(m+1)) 0 none hr2 (by simpa using hfit) (by simpa using h2) (by simp)
          exact .c (by simpa using this)
       ·exact grow (H.drop hhd) hos Yo (hfc C) (by omega) (by rw[Nat.add_comm];exact hb1) hb2 hk6
 ·cases hk
noncomputable def QW (P:Program)(g:Nat)(h:Hp)(nx:Nat)(t t2:TypeId)(s x:RV)(k:RV->Hp->Nat->Bool):Bool:=
 au (bQ P t) fun d=>(match d with
  | .slice e=>au (mY P e) fun i=>vI P e fun zs=>iff (Nat.beq (llen zs) i.size) (au (bQ P t2) fun d2=>
     (match d2 with
       | .int _=>au (nO x) fun n=>iff (Nat.ble n 1099511627776) (iff (Nat.ble (Nat.mul n i.bytes) 140737488355328) (fL (jT n zs) fun l=>iff (Nat.ble (Nat.add n (qZ s)) 1099511627776) (iff (Nat.ble (Nat.mul (Nat.add (qZ s) n) i.bytes) 140737488355328) (Ij g h nx e i.size s n l k))))
       | .slice _=>GX h i.size x fun n l=>iff (Nat.ble (Nat.add n (qZ s)) 1099511627776) (iff (Nat.ble (Nat.mul (Nat.add (qZ s) n) i.bytes) 140737488355328) (Ij g h nx e i.size s n l k))
       | .string=>GX h i.size x fun n l=>iff (Nat.ble (Nat.add n (qZ s)) 1099511627776) (iff (Nat.ble (Nat.mul (Nat.add (qZ s) n) i.bytes) 140737488355328) (Ij g h nx e i.size s n l k))
       |_=>false))
  |_=>false)
theorem Ud (H:HR P g w0 ρ h nx w){t t2 ty:TypeId}{s x:RV}{sv xv:Value}(hs:GR ρ s sv)(hx:GR ρ x xv){k:RV->Hp->Nat->Bool}(hk:QW P g h nx t t2 s x k=true):
 Do P g w0 ρ nx w k (Builtin.append_ #[t,t2] ty #[sv,xv]):=by
 obtain⟨d,hd,hk⟩:=ah hk
 try simp only[aB,aC,aO]at hd
 split at hk
 ·rename_i e
  obtain⟨i',hi',hk⟩:=ah hk
  try simp only[aB,aC,aO]at hi'
  obtain⟨i,z,zs,hi,hz,hk,hzx⟩:=qF (ρ:=ρ) hk
  have ei:i'=i:=Option.some.inj (hi'.symm.trans hi)
  rw[ei]at hk
  obtain⟨hzl,hk⟩:=aj hk
  have hzl:zs.length=i.size:=by rw[<-aG];exact aJ hzl
  have hzs:z.cells.size=i.size:=by have:=bJ hzx;simp at this;omega
  obtain⟨d2,hd2,hk⟩:=ah hk
  try simp only[aB,aC,aO]at hd2
  have PD:((∃e2,P.underlying t2=some (.slice e2))\/P.underlying t2=some .string)->GX h i.size x (fun n l=>iff (Nat.ble (Nat.add n (qZ s)) 1099511627776) (iff (Nat.ble (Nat.mul (Nat.add (qZ s) n) i.bytes) 140737488355328) (Ij g h nx e i.size s n l k)))=true->
   Do P g w0 ρ nx w k (Builtin.append_ #[t,t2] ty #[sv,xv]):=fun h2 hk=>by
   obtain⟨n,l,xs,hk,hxs,hlen,hl1,hl2,hl3⟩:=Pz H hx hk
   obtain⟨hb1,hk⟩:=aj hk
   obtain⟨hb2,hk⟩:=aj hk
   exact QX H hd hi hz hzs hs (.inl ⟨h2,hl1,hl2,hl3⟩) hxs hlen (aK hb1) (aK hb2) hk
  split at hk
  ·rename_i q
   obtain⟨n,hn,hk⟩:=ah hk
   obtain⟨q',rfl⟩:=iT hn hx
   obtain⟨hn1,hk⟩:=aj hk
   obtain⟨hn2,hk⟩:=aj hk
   rw[eP]at hk
   obtain⟨hb1,hk⟩:=aj hk
   obtain⟨hb2,hk⟩:=aj hk
   exact QX H hd hi hz hzs hs (.inr ⟨q,q',i,z,hd2,rfl,aK hn1,hi,hz,aK hn2,hzs,rfl⟩) (qc hzx n) (by rw[lG];simp[hzs]) (aK hb1) (aK hb2) hk
  ·exact PD (.inl ⟨_,hd2⟩) hk
  ·exact PD (.inr hd2) hk
  ·cases hk
 ·cases hk
end
end bC
end Go.Proofs.YtakhobfamnjnoaaGreatDoor
