/- The machine's operations at addresses and structs; loads, stores, new blocks. -/
import Derived.Test.YtakhobfamnjnoaaGreatDoorC39
set_option linter.unusedVariables false
set_option linter.unusedSimpArgs false
namespace Go.Proofs.YtakhobfamnjnoaaGreatDoor
section
namespace bU
open Go Go.RowKit
section
variable {P:Program} {g:Nat} {w0:World} {ρ:Ren} {h:Hp} {nx:Nat} {w:World}
def Do (P:Program)(g:Nat)(w0:World)(ρ:Ren)(nx:Nat)(w:World)(k:RV->Hp->Nat->Bool)(s:Sem Value):Prop:=
 ∃r x ρ' h' nx' w',k r h' nx'=true/\Ext nx nx' ρ ρ'/\HR P g w0 ρ' h' nx' w'/\GR ρ' r x/\s.run P w= .ok x w'
def Gx (P:Program)(g:Nat)(w0:World)(ρ:Ren)(nx:Nat)(w:World)(k:Hp->Nat->Bool)(s:Sem Unit):Prop:=
 ∃ρ' h' nx' w',k h' nx'=true/\Ext nx nx' ρ ρ'/\HR P g w0 ρ' h' nx' w'/\s.run P w= .ok () w'
theorem G.Gn {v:CV}{x y:Value}(hx:G ρ v x)(hy:G ρ v y):x=y:=by cases hx<;>cases hy<;>simp_all
theorem J5 {l:List CV}{xs ys:List Value}(hx:F2 (G ρ) l xs)(hy:F2 (G ρ) l ys):xs=ys:=by
 induction hx generalizing ys with
 |nil=>cases hy;rfl
 |cons a _ ih=>
  cases hy with
  |cons b hy=>rw[ih hy,G.Gn a b]
theorem Fj {l:List CV}{f:Nat->Option Value}(hl: ∀j v,l[j]?=some v-> ∃x,G ρ v x/\f j=some x): ∃xs,F2 (G ρ) l xs/\ ∀j x,xs[j]?=some x->f j=some x:=by
 induction l generalizing f with
 |nil=>exact⟨[], .nil,fun j x hx=>by simp at hx⟩
 |cons a l ih=>
  obtain⟨x,hx,hf⟩:=hl 0 a rfl
  obtain⟨xs,h1,h2⟩:=ih (f:=fun j=>f (j+1)) fun j v hv=>hl (j+1) v (by simpa using hv)
  refine⟨x::xs, .cons hx h1,fun j y hy=>?_⟩
  cases j with
  |zero=>simp at hy;subst hy;exact hf
  |succ j=>exact h2 j y (by simpa using hy)
theorem rQ {w:World}{b o:Nat}{cs:Array Value}{e:TypeId}{fr:Nat×Nat}(hh:w.heap[b]?=some (.cells cs e fr)):w.cell? ⟨b,o,none⟩=cs[o]?:=by simp[World.cell?,hh]
noncomputable def rowOf (o:AO):Option (List CV):=match o with
 | .row cells _ _=>some cells
 | .ro cells=>some cells
 |_=>none
theorem Ob.ca {w:World}{id:Nat}{o:AO}(ho:Ob P ρ id o w){cells:List CV}(hrow:rowOf o=some cells){b base cap:Nat}(hr:ρ id=some (.blk b base cap)):
 ∀j v,cells[j]?=some v-> ∃x,G ρ v x/\w.cell? ⟨b,base+j,none⟩=some x:=fun j v hv=>by
 cases ho with
 |row hr' hh hc hcap hsz hm=>
  cases hrow
  rw[hr]at hr';cases hr'
  obtain⟨x,h1,h2⟩:=hc _ _ hv
  exact⟨x,h1,by rw[rQ hh];exact h2⟩
 |ro hr' hh hc=>
  cases hrow
  rw[hr]at hr';cases hr'
  obtain⟨x,h1,h2⟩:=hc _ _ hv
  exact⟨x,h1,by rw[rQ hh];exact h2⟩
 |map=>cases hrow
 |chan=>cases hrow
 |sit=>cases hrow
 |fJ=>cases hrow
 |clo=>cases hrow
 |gY=>cases hrow
 |kE=>cases hrow
 |any=>cases hrow
 |loop=>cases hrow
theorem Ob.cells {w:World}{id:Nat}{o:AO}(ho:Ob P ρ id o w){cells:List CV}(hrow:rowOf o=some cells){b base cap:Nat}(hr:ρ id=some (.blk b base cap))(off n:Nat):
 ∃xs,F2 (G ρ) ((cells.drop off).take n) xs/\ ∀j x,xs[j]?=some x->w.cell? ((⟨b,base+off,none⟩:Addr).add j)=some x:=by
 refine Fj fun j v hv=>?_
 rw[List.getElem?_take]at hv
 split at hv
 ·rw[List.getElem?_drop]at hv
  obtain⟨x,h1,h2⟩:=ho.ca hrow hr _ _ hv
  exact⟨x,h1,by rw[Addr.add_lit,Nat.add_assoc];exact h2⟩
 ·cases hv
theorem Ob.cell {w:World}{id:Nat}{o:AO}(ho:Ob P ρ id o w){cells:List CV}(hrow:rowOf o=some cells){b base cap:Nat}(hr:ρ id=some (.blk b base cap)){off:Nat}{v:CV}(hv:cells[off]?=some v):
 ∃x,G ρ v x/\w.cell? ⟨b,base+off,none⟩=some x:=ho.ca hrow hr off v hv
noncomputable def acj (P:Program)(t:TypeId):Option Bool:=match dL P t with
 |some (.struct _)=>some true
 |some (.array ..)=>some true
 |some _=>some false
 |none=>none
theorem yX {t:TypeId}{b:Bool}(ht:acj P t=some b)(w:World):(isAgg t).run P w= .ok b w:=by
 unfold acj at ht
 rw[aG]at ht
 cases hd:P.underlying t with
 |none=>rw[hd]at ht;cases ht
 |some d=>
  rw[hd]at ht
  cases d<;>(simp at ht;subst ht;simp[isAgg,run_underlying hd])
noncomputable def sQ (P:Program)(t:TypeId):Option Nat:=(pX P t).map (·.size)
theorem dW {t n:Nat}(ht:sQ P t=some n)(w:World):(sizeOf t).run P w= .ok n w:=by
 unfold sQ at ht
 rw[aH]at ht
 cases hi:P.info? t with
 |none=>rw[hi]at ht;cases ht
 |some i=>rw[hi]at ht;simp at ht;subst ht;simp[sizeOf,typeInfo,hi]
noncomputable def Jk (P:Program)(t:TypeId)(cells:List CV)(off:Nat)(k:RV->Bool):Bool:=
 au (acj P t) fun b=>Bool.casesOn b (au (aF cells off) fun c=>k (.c c)) (au (sQ P t) fun n=>fL ((cells.drop off).take n) fun l=>iff (Nat.beq (llen l) n) (k (.agg l)))
noncomputable def OU (P:Program)(h:Hp)(t:TypeId)(x:RV)(k:RV->List Nat->Bool):Bool:=
 match x with
 | .c (.ptr id off)=>au (h.get id) fun o=>au (rowOf o) fun cells=>Jk P t cells off fun r=>k r [id]
 |_=>false
theorem WQ {t:TypeId}{cells:List CV}{off id:Nat}{o:AO}(hrow:rowOf o=some cells){k:RV->Bool}{b base cap:Nat}(hr:ρ id=some (.blk b base cap))(hk:Jk P t cells off k=true)(H0:Ob P ρ id o w):
 ∃r x,k r=true/\GR ρ r x/\ ∀w',Ob P ρ id o w'->(loadVar t ⟨b,base+off,none⟩).run P w'= .ok x w':=by
 obtain⟨ag,ha,hk⟩:=ah hk
 cases ag with
 |false=>
  obtain⟨c,hc,hk⟩:=ah hk
  rw[aJ]at hc
  obtain⟨x,hx,_⟩:=H0.cell hrow hr hc
  refine⟨_,x,hk, .c hx,fun w' H'=>?_⟩
  obtain⟨y,hy,hcell⟩:=H'.cell hrow hr hc
  have:x=y:=by cases hx<;>cases hy<;>simp_all
  subst this
  simp[loadVar,yX ha,hcell]
 |true=>
  obtain⟨n,hn,hk⟩:=ah hk
  rw[iF]at hk
  obtain⟨hl,hk⟩:=aj hk
  have hl:((cells.drop off).take n).length=n:=by rw[<-aI];exact aQ hl
  obtain⟨xs,hx,_⟩:=H0.cells hrow hr off n
  refine⟨_,_,hk, .agg hx,fun w' H'=>?_⟩
  obtain⟨ys,hy,hcell⟩:=H'.cells hrow hr off n
  have same:xs=ys:=J5 hx hy
  subst same
  have hlen:xs.length=n:=by rw[<-dw hy,hl]
  have:=run_loadCells_list (P:=P) w' _ xs hcell
  rw[hlen]at this
  simp[loadVar,yX ha,dW hn,this]
noncomputable def EN (r:RV):Option (List CV):=match r with
 | .c v=>some [v]
 | .agg l=>some l
 | .aK _=>none
theorem Bh {r:RV}{x:Value}{l:List CV}(hr:EN r=some l)(hx:GR ρ r x): ∃xs:List Value,x.cells=xs.toArray/\F2 (G ρ) l xs:=by
 cases hx with
 |c hx=>cases hr;exact⟨[_],hx.cells, .cons hx .nil⟩
 |agg hx=>cases hr;exact⟨_,rfl,hx⟩
 |aK=>cases hr
theorem Af {l:List CV}{xs:List Value}(hx:F2 (G ρ) l xs): ∀v∈xs,v.oneCell'=true:=fun v hv=>by
 obtain⟨a,_,hr⟩:=J4 hx v hv
 exact hr.one
theorem HR.row (H:HR P g w0 ρ h nx w){cells:List CV}{xs:List Value}(hx:F2 (G ρ) cells xs)(rest:List Value)(e:TypeId)(cap:Nat)(cp:Option Nat)(hcp: ∀m,cp=some m->cap=m)
 (hsz:cap*P.cellsOf e<=xs.length+rest.length) (hm:cap<=maxLen) {h':Hp} (hh: ∀m,h'.get m=if m=nx then some (.row cells e cp)else h.get m):
 ∃ρ',Ext nx (nx+1) ρ ρ'/\ρ' nx=some (.blk w.heap.size 0 cap)/\HR P g w0 ρ' h' (nx+1) (w.alloc (.cells (xs++rest).toArray e)):=by
 refine H.new _ hh fun ρ' hle hr=> .row hr (heap_alloc_new _ _) (fun j v hv=>?_) (fun m hm=>⟨hcp m hm,fun _=>rfl⟩) (by simpa using hsz) hm
 obtain⟨x,h1,h2⟩:=fO hx hv
 refine⟨x,h2.mono hle,?_⟩
 have hlt:=(List.getElem?_eq_some_iff.1 h1).1
 simp[List.getElem?_append_left hlt,h1]
noncomputable def pU (h:Hp)(nx:Nat)(o:AO)(k:Nat->Hp->Nat->Bool):Bool:=h.iZ nx (some o) fun h'=>k nx h' (Nat.succ nx)
noncomputable def yS (P:Program)(t:TypeId)(k:List CV->Bool):Bool:=au (pX P t) fun i=>au i.zero fun z=>OM z.cells.toList k
theorem uz {t:TypeId}{k:List CV->Bool}(hk:yS P t k=true): ∃i z cs,P.info? t=some i/\i.zero=some z/\k cs=true/\F2 (G ρ) cs z.cells.toList:=by
 obtain⟨i,hi,hk⟩:=ah hk
 try simp only[aG,aH,aW]at hi
 obtain⟨z,hz,hk⟩:=ah hk
 obtain⟨cs,hk,hx⟩:=Qw (ρ:=ρ) hk
 exact⟨i,z,cs,hi,hz,hk,hx⟩
noncomputable def aaD (P:Program)(h:Hp)(nx:Nat)(t:TypeId)(k:RV->Hp->Nat->Bool):Bool:=
 yS P t fun cs=>pU h nx (.row cs t (some 0)) fun id h nx=>k (.c (.ptr id 0)) h nx
theorem aaC (H:HR P g w0 ρ h nx w){t:TypeId}{k:RV->Hp->Nat->Bool}(hk:aaD P h nx t k=true):Do P g w0 ρ nx w k (Instr.alloc t true (.tuple #[])):=by
 obtain⟨i,z,cs,hi,hz,hk,hx⟩:=uz (ρ:=ρ) hk
 obtain⟨h',hk,hh⟩:=Tr.bJ hk
 obtain⟨ρ',hle,hr,H'⟩:=H.row hx [] t 0 (some 0) (by simp) (by simp) (by simp) hh
 refine⟨_,_,ρ',h',nx+1,_,hk,hle,H', .c (.ptr 0 hr),?_⟩
 simp[Instr.alloc,zeroValue,typeInfo,hi,hz,newVar,newRow]
noncomputable def agF (h:Hp)(nx:Nat)(t:TypeId)(v:RV)(k:RV->Hp->Nat->Bool):Bool:=
 au (EN v) fun cs=>pU h nx (.row cs t (some 0)) fun id h nx=>k (.c (.ptr id 0)) h nx
theorem ael (H:HR P g w0 ρ h nx w){t:TypeId}{v:RV}{x:Value}(hv:GR ρ v x){k:RV->Hp->Nat->Bool}(hk:agF h nx t v k=true):Do P g w0 ρ nx w k (Instr.box t x):=by
 obtain⟨cs,hc,hk⟩:=ah hk
 obtain⟨xs,h1,hx⟩:=Bh hc hv
 obtain⟨h',hk,hh⟩:=Tr.bJ hk
 obtain⟨ρ',hle,hr,H'⟩:=H.row hx [] t 0 (some 0) (by simp) (by simp) (by simp) hh
 refine⟨_,_,ρ',h',nx+1,_,hk,hle,H', .c (.ptr 0 hr),?_⟩
 simp[Instr.box,newVar,newRow,h1]
theorem yj {α:Type}: ∀(xs l:List α)(n j:Nat),(xs=[]\/n+xs.length<=l.length)->(gB xs l n)[j]?=if n<=j/\j<n+xs.length then xs[j-n]? else l[j]?
 |[],l,n,j,_=>by rw[gB,if_neg (by simp<;>omega)]
 |x::xs,l,n,j,hn=>by
  have hn:n+(xs.length+1)<=l.length:=by rcases hn with h|h;cases h;simpa using h
  rw[gB,yj xs (l.set n x) (n+1) j (by right;simp;omega)]
  by_cases h1:j=n
  ·subst h1
   rw[if_neg (by omega),if_pos ⟨Nat.le_refl _,by simp⟩]
   have:j<l.length:=by omega
   simp[this]
  ·by_cases h2:n+1<=j/\j<n+1+xs.length
   ·rw[if_pos h2,if_pos ⟨by omega,by simp only[List.length_cons];omega⟩]
    rw[show j-n=(j-(n+1))+1 by omega]
    simp
   ·rw[if_neg h2,if_neg (by simp only[List.length_cons];omega),List.getElem?_set_ne (by omega)]
theorem Ae {α:Type}(xs l:List α)(n j:Nat)(hn:n+xs.length<=l.length):(l.take n++xs++l.drop (n+xs.length))[j]?=if n<=j/\j<n+xs.length then xs[j-n]? else l[j]?:=by
 have ht:(l.take n).length=n:=by simp;omega
 by_cases h1:j<n
 ·rw[if_neg (by omega),List.append_assoc,List.getElem?_append_left (by omega),List.getElem?_take,if_pos h1]
 ·by_cases h2:j<n+xs.length
  ·rw[if_pos ⟨by omega,h2⟩,List.append_assoc,List.getElem?_append_right (by omega),ht,List.getElem?_append_left (by omega)]
  ·rw[if_neg (by omega),List.getElem?_append_right (by simp[ht];omega),List.getElem?_drop]
   congr 1
   simp[ht];omega
theorem HR.put (H:HR P g w0 ρ h nx w){id b base cap:Nat}{cells:List CV}{e:TypeId}{cp:Option Nat}(hid:h.get id=some (.row cells e cp))(hg:g<=id)(hr:ρ id=some (.blk b base cap)){l:List CV}{xs:List Value}(hx:F2 (G ρ) l xs)
 {off:Nat} (hoff:l=[]\/off+l.length<=cells.length) {h':Hp} (hh: ∀m,h'.get m=if m=id then some (.row (gB l cells off) e cp)else h.get m):
 ∃w',(storeCells ⟨b,base+off,none⟩ xs).run P w= .ok () w'/\HR P g w0 ρ h' nx w':=by
 have ho:=H.ob hid hr
 have ho':=ho
 cases ho' with
 | @row _ b' base' cap' _ _ _ cs hr' hh' hc hcap hsz hm=>
   rw[hr]at hr';cases hr'
   have hlen:=dw hx
   rcases hoff with rfl|hoff
   ·cases hx
    refine⟨w,rfl,?_⟩
    have: ∀m,h'.get m=h.get m:=fun m=>by
     rw[hh]
     split
     ·rename_i e;subst e;exact hid.symm
     ·rfl
    exact⟨H.fresh,H.tV,fun i p hp hn=>H.objs i p (by rw[<-this];exact hp) hn,fun i j oi oj c hi hj=>H.inj i j oi oj c (by rw[<-this];exact hi) (by rw[<-this];exact hj),H.own,H.lt,H.kept,H.glob,fun i hi=>by rw[this];exact H.hfr i hi⟩
   ·by_cases hl0:l=[]
    ·subst hl0
     cases hx
     refine⟨w,rfl,?_⟩
     have: ∀m,h'.get m=h.get m:=fun m=>by
      rw[hh]
      split
      ·rename_i e;subst e;exact hid.symm
      ·rfl
     exact⟨H.fresh,H.tV,fun i p hp hn=>H.objs i p (by rw[<-this];exact hp) hn,fun i j oi oj c hi hj=>H.inj i j oi oj c (by rw[<-this];exact hi) (by rw[<-this];exact hj),H.own,H.lt,H.kept,H.glob,fun i hi=>by rw[this];exact H.hfr i hi⟩
    ·
     have hpos:0<l.length:=List.length_pos_iff.2 hl0
     have hfit:base+off+xs.length<=cs.size:=by
      have hlast:off+l.length-1<cells.length:=by omega
      obtain⟨x,_,h2⟩:=hc (off+l.length-1) cells[off+l.length-1] (by simp[hlast])
      have:=(Array.getElem?_eq_some_iff.1 h2).1
      omega
     have hrun:=run_storeCells_at P b (base+off) e xs 0 cs w hh' (by simpa using hfit) (Af hx)
     simp only[Nat.add_zero]at hrun
     refine⟨_,hrun,H.turn (w':=w.setRow b (cs.toList.take (base+off)++xs++cs.toList.drop (base+off+xs.length)).toArray) hid hg ⟨_,_,hr⟩ (by simp[World.setRow]) rfl rfl rfl (fun k hk=>?_) hh ?_⟩
     ·simp only[World.setRow]
      rw[Array.getElem?_modify,if_neg (fun e=>hk e.symm)]
     ·refine .row hr (setRow_heap w b cs _ e (0,0) hh') (fun j v hv=>?_) hcap ?_ hm
      ·rw[yj _ _ _ _ (.inr hoff)]at hv
       have hput:((cs.toList.take (base+off)++xs++cs.toList.drop (base+off+xs.length)).toArray)[base+j]?=if base+off<=base+j/\base+j<base+off+xs.length then xs[base+j-(base+off)]? else cs.toList[base+j]?:=by
        rw[List.getElem?_toArray];exact Ae xs cs.toList (base+off) (base+j) (by simpa using hfit)
       rw[hput]
       by_cases hin:off<=j/\j<off+l.length
       ·rw[if_pos hin]at hv
        obtain⟨x,h1,h2⟩:=fO hx hv
        rw[if_pos (by omega),show base+j-(base+off)=j-off by omega]
        exact⟨x,h2,h1⟩
       ·rw[if_neg hin]at hv
        obtain⟨x,h1,h2⟩:=hc j v hv
        rw[if_neg (by omega)]
        exact⟨x,h1,by simpa using h2⟩
      ·have:(cs.toList.take (base+off)++xs++cs.toList.drop (base+off+xs.length)).toArray.size=cs.size:=by
        simp;omega
       rw[this];exact hsz
noncomputable def EO (g:Nat)(h:Hp)(id off:Nat)(l:List CV)(k:Hp->Bool):Bool:=
 iff (Nat.ble g id) (au (h.get id) fun o=>(match o with| .row cells e cp=>W9 l cells off fun cells=>h.iZ id (some (.row cells e cp)) k|_=>false))
theorem Bl (H:HR P g w0 ρ h nx w){id off b base cap:Nat}{l:List CV}{xs:List Value}(hr:ρ id=some (.blk b base cap))(hx:F2 (G ρ) l xs){k:Hp->Bool}(hk:EO g h id off l k=true):
 ∃h' w',k h'=true/\(storeCells ⟨b,base+off,none⟩ xs).run P w= .ok () w'/\HR P g w0 ρ h' nx w':=by
 obtain⟨hg,hk⟩:=aj hk
 obtain⟨o,ho,hk⟩:=ah hk
 cases o<;>try(cases hk;done)
 rename_i cells e cp
 obtain⟨hoff,hk⟩:=QM hk
 obtain⟨h',hk,hh⟩:=Tr.bJ hk
 obtain⟨w',h1,h2⟩:=H.put ho (aT hg) hr hx hoff hh
 exact⟨h',w',hk,h1,h2⟩
noncomputable def PN (P:Program)(g:Nat)(h:Hp)(t:TypeId)(p v:RV)(k:Hp->Bool):Bool:=
 match p with
 | .c (.ptr id off)=>au (EN v) fun l=>au (sQ P t) fun n=>iff (Nat.beq (llen l) n) (EO g h id off l k)
 |_=>false
theorem Yp (H:HR P g w0 ρ h nx w){t:TypeId}{p v:RV}{x y:Value}(hp:GR ρ p x)(hv:GR ρ v y){k:Hp->Nat->Bool}(hk:PN P g h t p v (fun h=>k h nx)=true):Gx P g w0 ρ nx w k (Instr.storeAt t x y):=by
 unfold PN at hk
 split at hk
 ·rename_i id off
  obtain⟨l,hl,hk⟩:=ah hk
  obtain⟨n,hn,hk⟩:=ah hk
  obtain⟨hlen,hk⟩:=aj hk
  have hlen:l.length=n:=by rw[<-aI];exact aQ hlen
  obtain⟨xs,h1,hx⟩:=Bh hl hv
  cases hp with
  |c hp=>
   cases hp with
   |ptr _ hr=>
    obtain⟨h',w',hk,h2,H'⟩:=Bl H hr hx hk
    refine⟨ρ,h',nx,w',hk,Ext.refl _ _,H',?_⟩
    have hs:y.cells.size=n:=by rw[h1];simp[<-dw hx,hlen]
    simp[Instr.storeAt,Instr.sureAddr,storeVar,dW hn,hs]
    rw[h1];exact h2
 ·cases hk
end
end bU
end
section
namespace bU
open Go Go.RowKit
section
variable {P:Program} {g:Nat} {w0:World} {ρ:Ren} {h:Hp} {nx:Nat} {w:World}
noncomputable def Cj (P:Program)(t:TypeId)(f:Nat)(x:RV)(k:RV->Bool):Bool:=
 match x with
 | .c (.ptr id off)=>au (dL P t) fun d=>(match d with
   | .struct fs=>au (aF fs.toList f) fun fd=>au (sQ P fd.type) fun n=>iff (!Nat.beq n 0) (fN (Nat.add off fd.offset) fun o=>k (.c (.ptr id o)))
   |_=>false)
 |_=>false
theorem OE {t:TypeId}{f:Nat}{x:RV}{v:Value}{k:RV->Bool}(hx:GR ρ x v)(hk:Cj P t f x k=true):Pu P ρ k (Instr.fieldAt t v f):=by
 unfold Cj at hk
 split at hk
 ·rename_i id off
  obtain⟨d,hd,hk⟩:=ah hk
  try simp only[aG,aH,aW]at hd
  cases d<;>try(cases hk;done)
  rename_i fs
  obtain⟨fd,hf,hk⟩:=ah hk
  try simp only[aG,aH,aW]at hf
  obtain⟨n,hn,hk⟩:=ah hk
  obtain⟨h0,hk⟩:=aj hk
  rw[gW]at hk
  rw[aJ]at hf
  have h0: ¬n=0:=fun e=>by subst e;simp at h0
  cases hx with
  |c hx=>cases hx with
   | @ptr _ b base cap _ hr=>
     refine⟨_,_,hk, .c (.ptr _ hr),fun w=>?_⟩
     have hf':fs[f]?=some fd:=by simpa using hf
     simp[Instr.fieldAt,run_underlying hd,hf',Instr.sureAddr,fieldPlace,dW hn,h0,Addr.add_lit,Nat.add_assoc]
 ·cases hk
noncomputable def qB (x:RV):Option Nat:=match x with
 | .c (.int _ n)=>Int.casesOn n some fun _=>none
 |_=>none
theorem jZ {x:RV}{v:Value}{n:Nat}(h:qB x=some n)(hx:GR ρ x v): ∃q,v= .int q (n:Int):=by
 cases hx with
 |c hx=>cases hx<;>try(cases h;done)
        rename_i q m
        cases m with
        |ofNat m=>cases h;exact⟨q,rfl⟩
        |negSucc m=>cases h
 |agg=>cases h
 |aK=>cases h
noncomputable def JG (P:Program)(t:TypeId)(x ix:RV)(k:RV->Bool):Bool:=
 au (qB ix) fun i=>au (dL P t) fun d=>(match d,x with
  | .slice e, .c (.sl id off len _ _)=>iff (Nat.ble (Nat.succ i) len) (au (sQ P e) fun n=>fN (Nat.add off (Nat.mul i n)) fun o=>k (.c (.ptr id o)))
  | .array len e, .c (.ptr id off)=>iff (Nat.ble (Nat.succ i) len) (au (sQ P e) fun n=>fN (Nat.add off (Nat.mul i n)) fun o=>k (.c (.ptr id o)))
  |_,_=>false)
theorem OB {t:TypeId}{x ix:RV}{v i:Value}{k:RV->Bool}(hx:GR ρ x v)(hi:GR ρ ix i)(hk:JG P t x ix k=true):Pu P ρ k (Instr.indexAt t v i):=by
 obtain⟨m,hm,hk⟩:=ah hk
 obtain⟨q,rfl⟩:=jZ hm hi
 obtain⟨d,hd,hk⟩:=ah hk
 try simp only[aG,aH,aW]at hd
 split at hk
 ·rename_i e id off len cut lim _ _
  obtain⟨hl,hk⟩:=aj hk
  have hl:m<len:=aT hl
  obtain⟨n,hn,hk⟩:=ah hk
  rw[gW]at hk
  cases hx with
  |c hx=>cases hx with
   |sl _ _ _ _ hr h1 h2 h3=>
    refine⟨_,_,hk, .c (.ptr _ hr),fun w=>?_⟩
    simp[Instr.indexAt,asIntOf,run_underlying hd,dW hn,hl,Addr.add_lit,Nat.add_assoc]
 ·rename_i len e id off _ _
  obtain⟨hl,hk⟩:=aj hk
  have hl:m<len:=aT hl
  obtain⟨n,hn,hk⟩:=ah hk
  rw[gW]at hk
  cases hx with
  |c hx=>cases hx with
   |ptr _ hr=>
    refine⟨_,_,hk, .c (.ptr _ hr),fun w=>?_⟩
    simp[Instr.indexAt,asIntOf,run_underlying hd,dW hn,hl,Instr.sureAddr,Addr.add_lit,Nat.add_assoc]
 ·cases hk
theorem UR {t:TypeId}{cells:List CV}{xs:List Value}(hx:F2 (G ρ) cells xs){off:Nat}{k:RV->Bool}(hk:Jk P t cells off k=true):Pu P ρ k (part t xs.toArray off):=by
 obtain⟨ag,ha,hk⟩:=ah hk
 cases ag with
 |false=>
  obtain⟨c,hc,hk⟩:=ah hk
  rw[aJ]at hc
  obtain⟨x,h1,h2⟩:=fO hx hc
  exact⟨_,_,hk, .c h2,fun w=>by simp[part,yX ha,h1]⟩
 |true=>
  obtain⟨n,hn,hk⟩:=ah hk
  rw[iF]at hk
  obtain⟨_,hk⟩:=aj hk
  refine⟨_,_,hk, .agg (xB (xC hx off) n),fun w=>?_⟩
  have:xs.toArray.extract off (off+n)=((xs.drop off).take n).toArray:=by
   simp[List.extract_toArray,List.extract_eq_take_drop]
  simp[part,yX ha,dW hn,this]
noncomputable def RN (P:Program)(t:TypeId)(f:Nat)(x:RV)(k:RV->Bool):Bool:=
 match x with
 | .agg l=>au (dL P t) fun d=>(match d with
   | .struct fs=>au (aF fs.toList f) fun fd=>Jk P fd.type l fd.offset k
   |_=>false)
 |_=>false
theorem Z7 {t:TypeId}{f:Nat}{x:RV}{v:Value}{k:RV->Bool}(hx:GR ρ x v)(hk:RN P t f x k=true):Pu P ρ k (Instr.field t v f):=by
 unfold RN at hk
 split at hk
 ·obtain⟨d,hd,hk⟩:=ah hk
  try simp only[aG,aH,aW]at hd
  cases d<;>try(cases hk;done)
  rename_i fs
  obtain⟨fd,hf,hk⟩:=ah hk
  try simp only[aG,aH,aW]at hf
  rw[aJ]at hf
  cases hx with
  |agg hx=>
   obtain⟨r,x,h1,h2,h3⟩:=UR hx hk
   have hf':fs[f]?=some fd:=by simpa using hf
   exact⟨r,x,h1,h2,fun w=>by simp[Instr.field,run_underlying hd,hf',asAgg,h3]⟩
 ·cases hk
noncomputable def ZJ (P:Program)(t:TypeId)(x ix:RV)(k:RV->Bool):Bool:=
 au (qB ix) fun i=>au (dL P t) fun d=>(match d,x with
  | .string, .c (.str s)=>au (aF s i) fun b=>k (.c (.int .u8 (Int.ofNat b)))
  | .array len e, .agg l=>iff (Nat.ble (Nat.succ i) len) (au (sQ P e) fun n=>Jk P e l (Nat.mul i n) k)
  |_,_=>false)
theorem aax {s:List Nat}(hs:small s){i b:Nat}(h:s[i]?=some b):(ba s)[i]?=some (UInt8.ofNat b)/\(UInt8.ofNat b).toNat=b:=by
 have hb:b<256:=hs b (List.mem_of_getElem? h)
 have hlt:=(List.getElem?_eq_some_iff.1 h).1
 refine⟨?_,by simp[UInt8.toNat_ofNat',Nat.mod_eq_of_lt hb]⟩
 have hi:i<(ba s).size:=by rw[lQ];exact hlt
 rw[getElem?_pos (ba s) i hi]
 congr 1
 have:=(List.getElem?_eq_some_iff.1 h).2
 show(ba s).data[i]=_
 simp[ba,this]
theorem ZI {t:TypeId}{x ix:RV}{v i:Value}{k:RV->Bool}(hx:GR ρ x v)(hi:GR ρ ix i)(hk:ZJ P t x ix k=true):Pu P ρ k (Instr.index t v i):=by
 obtain⟨m,hm,hk⟩:=ah hk
 obtain⟨q,rfl⟩:=jZ hm hi
 obtain⟨d,hd,hk⟩:=ah hk
 try simp only[aG,aH,aW]at hd
 split at hk
 ·rename_i s _ _
  obtain⟨b,hb,hk⟩:=ah hk
  rw[aJ]at hb
  cases hx with
  |c hx=>cases hx with
   |str _ hs=>
    obtain⟨h1,h2⟩:=aax hs hb
    refine⟨_,_,hk, .c (.int _ _),fun w=>?_⟩
    simp only[Instr.index,asIntOf,run_underlying hd,Sem.run_bind,Sem.run_pure,Result.andThen_ok]
    simp[h1,h2]
 ·rename_i len e l _ _
  obtain⟨hl,hk⟩:=aj hk
  have hl:m<len:=aT hl
  obtain⟨n,hn,hk⟩:=ah hk
  cases hx with
  |agg hx=>
   obtain⟨r,x,h1,h2,h3⟩:=UR hx hk
   refine⟨r,x,h1,h2,fun w=>?_⟩
   have h3:=h3 w
   simp only[Nat.mul_eq]at h3
   simp[Instr.index,asIntOf,run_underlying hd,hl,dW hn,h3]
 ·cases hk
noncomputable def roomOf (h:Hp)(id cut:Nat)(lim:Option Nat):Option Nat:=match lim with
 |some c=>some c
 |none=>(match h.get id with|some (.row _ _ (some m))=>some (Nat.sub m cut)|_=>none)
theorem DJ (H:HR P g w0 ρ h nx w){id cut c:Nat}{lim:Option Nat}{b base cap:Nat}(hr:ρ id=some (.blk b base cap))(hc:roomOf h id cut lim=some c):lim.getD (cap-cut)=c:=by
 unfold roomOf at hc
 split at hc
 ·cases hc;rfl
 ·split at hc
  ·rename_i cells e m ho
   cases hc
   have:=H.ob ho hr
   cases this with
   |row hr' hh hcl hcap hsz hm=>
    rw[hr]at hr';cases hr'
    have:=(hcap m rfl).1
    subst this
    rfl
  ·cases hc
noncomputable def He (o:Option RV)(d:Nat):Option Nat:=match o with
 |none=>some d
 |some r=>qB r
theorem xw {o:Option RV}{ov:Option Value}(hov:Option.Rel (GR ρ) o ov){d n:Nat}(hn:He o d=some n):(ov=none/\n=d)\/ ∃q,ov=some (.int q (n:Int)):=by
 cases hov with
 |none=>cases hn;exact .inl ⟨rfl,rfl⟩
 |some hv=>obtain⟨q,rfl⟩:=jZ hn hv;exact .inr ⟨q,rfl⟩
theorem lW {isS:Bool}{len cap l h m:Nat}{low high max:Option Value}{w:World}(hl:(low=none/\l=0)\/ ∃q,low=some (.int q (l:Int)))(hh:(high=none/\h=len/\max=none)\/ ∃q,high=some (.int q (h:Int)))
 (hm:(max=none/\m=cap)\/ ∃q,max=some (.int q (m:Int))) (h1:l<=h) (h2:h<=m) (h3:m<=cap):(Instr.sliceBounds isS len cap low high max).run P w= .ok (l,h,m) w:=by
 rcases hl with⟨rfl,rfl⟩|⟨q1,rfl⟩<;>rcases hm with⟨rfl,rfl⟩|⟨q2,rfl⟩<;>rcases hh with⟨rfl,rfl,hx⟩|⟨q3,rfl⟩<;>
  first
  |(cases hx;done)
  |simp[Instr.sliceBounds,Instr.sliceBound,asIntOf,h1,h2,h3]
def Pf (P:Program)(g:Nat)(w0:World)(ρ:Ren)(h:Hp)(nx:Nat)(k:RV->Hp->Nat->Bool)(s:Sem Value):Prop:=
 ∃r x ρ' h' nx',k r h' nx'=true/\Ext nx nx' ρ ρ'/\GR ρ' r x/\(∀m o,h.get m=some o->h'.get m=some o)/\(∀w,HR P g w0 ρ h nx w->HR P g w0 ρ' h' nx' w)/\ ∀w,s.run P w= .ok x w
theorem Pu.pf {k:RV->Hp->Nat->Bool}{s:Sem Value}(hp:Pu P ρ (fun r=>k r h nx) s):Pf P g w0 ρ h nx k s:=by
 obtain⟨r,x,h1,h2,h3⟩:=hp
 exact⟨r,x,ρ,h,nx,h1,Ext.refl _ _,h2,fun _ _ h=>h,fun _ H=>H,h3⟩
theorem HR.ahj (H:HR P g w0 ρ h nx w){x:RI}(hx: ∀b base cap,x≠ .blk b base cap):HR P g w0 (ρ.put nx x) h (nx+1) w:=by
 have hle:=Ren.kT (H.fresh nx (Nat.le_refl _)) x
 have hb: ∀id b,jw (ρ.put nx x) id b->jw ρ id b:=fun id b ⟨base,cap,hb⟩=>by
  unfold Ren.put at hb
  split at hb
  ·cases hb;exact absurd rfl (hx _ _ _)
  ·exact⟨_,_,hb⟩
 refine⟨fun id hid=>?_,by have:=H.tV;omega,fun id p hp hn=>(H.objs id p hp (by
  have hne:id≠nx:=fun e=>by rw[e,H.hfr nx (Nat.le_refl _)]at hp;cases hp
  rwa[Ren.kD hne]at hn)).mono hle,fun i j oi oj b hi hj bi bj=>H.inj i j oi oj b hi hj (hb _ _ bi) (hb _ _ bj),fun id b hid=>H.own id b (hb _ _ hid),fun id b hid=>H.lt id b (hb _ _ hid),H.kept,fun i hi=>(H.glob i hi).imp fun _ h=>hle _ _ h,fun i hi=>H.hfr i (by omega)⟩
 unfold Ren.put;rw[if_neg (by omega)];exact H.fresh id (by omega)
def Pn (P:Program)(g:Nat)(w0:World)(ρ:Ren)(h:Hp)(nx:Nat)(k:RV->Nat->Bool)(s:Sem Value):Prop:=
 ∃r x ρ' nx',k r nx'=true/\Ext nx nx' ρ ρ'/\GR ρ' r x/\(∀w,HR P g w0 ρ h nx w->HR P g w0 ρ' h nx' w)/\ ∀w,s.run P w= .ok x w
theorem Pn.pf {k:RV->Hp->Nat->Bool}{s:Sem Value}(hp:Pn P g w0 ρ h nx (fun r nx=>k r h nx) s):Pf P g w0 ρ h nx k s:=by
 obtain⟨r,x,ρ',nx',h1,h2,h3,h4,h5⟩:=hp
 exact⟨r,x,ρ',h,nx',h1,h2,h3,fun _ _ h=>h,h4,h5⟩
noncomputable def slL (P:Program)(h:Hp)(nx:Nat)(e:TypeId)(id off len cut:Nat)(lim:Option Nat)(l:Nat)(hi mx:Option RV)(k:RV->Nat->Bool):Bool:=
 au (He hi len) fun u=>iff (Nat.ble l u) (au (sQ P e) fun n=>(match mx with
  |some mx=>au (qB mx) fun m=>iff hi.isSome (iff (Nat.ble u m) (iff (match roomOf h id cut lim with|some c=>Nat.ble m c|none=>Nat.ble m len)
    (Bool.casesOn (Nat.beq m l) (fN (Nat.add off (Nat.mul l n)) fun o=>fN (Nat.sub u l) fun len=>fN (Nat.sub m l) fun c=>k (.c (.sl id o len 0 (some c))) nx) (k (.c (.sl id off 0 0 (some 0))) nx))))
  |none=>(match roomOf h id cut lim with
   |some c=>iff (Nat.ble u c) (Bool.casesOn (Nat.beq c l) (fN (Nat.add off (Nat.mul l n)) fun o=>fN (Nat.sub u l) fun len=>(match lim with
     |some _=>fN (Nat.sub c l) fun c=>k (.c (.sl id o len 0 (some c))) nx
     |none=>fN (Nat.add cut l) fun ct=>k (.c (.sl id o len ct none)) nx)) (k (.c (.sl id off 0 0 (some 0))) nx))
   |none=>iff (Nat.ble u len) (Bool.casesOn (Nat.ble (Nat.succ l) len) (k (.c (.AA nx)) (Nat.succ nx)) (fN (Nat.add off (Nat.mul l n)) fun o=>fN (Nat.sub u l) fun ln=>fN (Nat.add cut l) fun ct=>k (.c (.sl id o ln ct none)) nx)))))
theorem aeL (H:HR P g w0 ρ h nx w){t e:TypeId}(hd:P.underlying t=some (.slice e)){id off len cut l:Nat}{lim:Option Nat}{v:Value}(hx:G ρ (.sl id off len cut lim) v){lo hi mx:Option RV}{lv hv mv:Option Value}
 (hl:(lv=none/\l=0)\/ ∃q,lv=some (.int q (l:Int))) (hhi:Option.Rel (GR ρ) hi hv) (hmx:Option.Rel (GR ρ) mx mv) {k:RV->Nat->Bool} (hk:slL P h nx e id off len cut lim l hi mx k=true):
 Pn P g w0 ρ h nx k (Instr.sliceAt t v lv hv mv):=by
 obtain⟨u,hu,hk⟩:=ah hk
 try simp only[aG,aH,aW]at hu
 obtain⟨hlu,hk⟩:=aj hk
 have hlu:=aT hlu
 obtain⟨n,hn,hk⟩:=ah hk
 cases hx with
 | @sl _ b base cap _ _ _ _ hr h1 h2 h3=>
   obtain⟨C,hC⟩: ∃C,lim.getD (cap-cut)=C:=⟨_,rfl⟩
   have room:=fun c (hc:roomOf h id cut lim=some c)=>(DJ H hr hc).symm.trans hC
   rw[hC]at h1 h2⊢
   have hbase: ∀m,(mv=none/\m=C\/ ∃q,mv=some (.int q (m:Int)))->u<=m->m<=C->(hv=none->mv=none)-> ∀w,(Instr.sliceAt t (.slice (some ⟨b,base+off,none⟩) len C) lv hv mv).run P w=
    .ok (.slice (if m=l then some ⟨b,base+off,none⟩else some ⟨b,base+(off+l*n),none⟩) (u-l) (m-l)) w:=fun m hm ZP hmC hhm w=>by
    have hh:(hv=none/\u=len/\mv=none)\/ ∃q,hv=some (.int q (u:Int)):=by
     rcases xw hhi hu with⟨e1,e2⟩|e
     ·exact .inl ⟨e1,e2,hhm e1⟩
     ·exact .inr e
    have hb:=lW (isS:=true) (w:=w) (P:=P) hl hh hm hlu ZP hmC
    simp only[Instr.sliceAt,Sem.run_bind,run_underlying hd,Result.andThen_ok,Instr.slice,hb,dW hn,Sem.run_pure,Option.map_some,Addr.add_lit,Nat.add_assoc]
   cases hmx with
   |some hmr=>
    obtain⟨m,hm,hk⟩:=ah hk
    obtain⟨hs,hk⟩:=aj hk
    obtain⟨ZP,hk⟩:=aj hk
    have ZP:=aT ZP
    obtain⟨hroom,hk⟩:=aj hk
    have hmC:m<=C:=by
     split at hroom
     ·rename_i c hc
      have:=room c hc
      have:=aT hroom
      omega
     ·have:=aT hroom
      omega
    have hrun:=hbase m (.inr (by obtain⟨q,rfl⟩:=jZ hm hmr;exact⟨q,rfl⟩)) ZP hmC (fun e=>by subst e;cases hhi;cases hs)
    cases hml:Nat.beq m l with
    |true=>
     have hml':=aQ hml
     rw[hml]at hk
     refine⟨_,_,ρ,nx,hk,Ext.refl _ _, .c (.sl off 0 0 (some 0) hr (by simp) (by simp) (by simp)),fun _ H=>H,fun w=>?_⟩
     rw[hrun w,if_pos hml',show u-l=0 by omega,show m-l=0 by omega];rfl
    |false=>
     have hml':=qA hml
     rw[hml]at hk
     simp only[gW]at hk
     refine⟨_,_,ρ,nx,hk,Ext.refl _ _, .c (.sl _ _ 0 (some (m-l)) hr (by simp;omega) (by simp;omega) (by simp;omega)),fun _ H=>H,fun w=>?_⟩
     rw[hrun w,if_neg hml'];rfl
   |none=>
    have hrun:=hbase C (.inl ⟨rfl,rfl⟩)
    dsimp only at hk
    split at hk
    ·rename_i c hc
     have hcC:=room c hc
     subst hcC
     obtain⟨huc,hk⟩:=aj hk
     have huc:=aT huc
     have hrun:=hrun huc (Nat.le_refl _) (fun _=>rfl)
     cases hml:Nat.beq c l with
     |true=>
      have hml':=aQ hml
      rw[hml]at hk
      refine⟨_,_,ρ,nx,hk,Ext.refl _ _, .c (.sl off 0 0 (some 0) hr (by simp) (by simp) (by simp)),fun _ H=>H,fun w=>?_⟩
      rw[hrun w,if_pos hml',show u-l=0 by omega,show c-l=0 by omega];rfl
     |false=>
      have hml':=qA hml
      rw[hml]at hk
      simp only[gW]at hk
      split at hk
      ·refine⟨_,_,ρ,nx,hk,Ext.refl _ _, .c (.sl _ _ 0 (some (c-l)) hr (by simp;omega) (by simp;omega) (by simp;omega)),fun _ H=>H,fun w=>?_⟩
       rw[hrun w,if_neg hml'];rfl
      ·simp only[Option.getD_none]at hC
       refine⟨_,_,ρ,nx,hk,Ext.refl _ _, .c (.sl _ _ (cut+l) none hr (by simp;omega) (by simp;omega) (by simp)),fun _ H=>H,fun w=>?_⟩
       rw[hrun w,if_neg hml']
       have:(none:Option Nat).getD (cap-(cut+l))=c-l:=by simp;omega
       rw[this];rfl
    ·rename_i hc
     obtain⟨hul,hk⟩:=aj hk
     have hul:=aT hul
     have hlim:lim=none:=by
      cases lim with
      |none=>rfl
      |some c=>simp[roomOf]at hc
     rw[hlim,Option.getD_none]at hC
     have hrun:=hrun (by omega) (Nat.le_refl _) (fun _=>rfl)
     cases hll:Nat.ble (Nat.succ l) len with
     |true=>
      have aiq:l<len:=aT hll
      rw[hll]at hk
      simp only[gW]at hk
      refine⟨_,_,ρ,nx,hk,Ext.refl _ _, .c (.sl _ _ (cut+l) none hr (by simp;omega) (by simp;omega) (by simp)),fun _ H=>H,fun w=>?_⟩
      rw[hrun w,if_neg (by omega)]
      have:(none:Option Nat).getD (cap-(cut+l))=C-l:=by simp;omega
      rw[this];rfl
     |false=>
      have aiq: ¬l<len:=fun hh=>by rw[Ag hh]at hll;cases hll
      rw[hll]at hk
      obtain⟨a,ha⟩: ∃a,(if C=l then some (⟨b,base+off,none⟩:Addr)else some ⟨b,base+(off+l*n),none⟩)=some ⟨b,a,none⟩:=by split<;>exact⟨_,rfl⟩
      refine⟨_,_,ρ.put nx (.slv b a (C-l)),nx+1,hk,Ext.put (H.fresh nx (Nat.le_refl _)) _, .c (.AA (Ren.fA _ _ _) (by omega)),fun _ H=>H.ahj (fun _ _ _ h=>by cases h),fun w=>?_⟩
      rw[hrun w,ha,show u-l=0 by omega]
noncomputable def Yw (P:Program)(h:Hp)(nx:Nat)(t:TypeId)(x:RV)(lo hi mx:Option RV)(k:RV->Nat->Bool):Bool:=
 au (dL P t) fun d=>au (He lo 0) fun l=>(match d,x with
  | .string, .c (.str s)=>(match mx with
    |none=>au (He hi (llen s)) fun e=>iff (Nat.ble l e) (iff (Nat.ble e (llen s)) (fL ((s.take e).drop l) fun s=>k (.c (.str s)) nx))
    |some _=>false)
  | .slice el, .c .bZ=>(match mx with
    |none=>au (He hi 0) fun e=>iff (Nat.beq l 0) (iff (Nat.beq e 0) (au (sQ P el) fun _=>k (.c .bZ) nx))
    |some mx=>au (qB mx) fun m=>iff hi.isSome (iff (Nat.beq m 0) (au (He hi 0) fun e=>iff (Nat.beq l 0) (iff (Nat.beq e 0) (au (sQ P el) fun _=>k (.c .bZ) nx)))))
  | .slice e, .c (.sl id off len cut lim)=>slL P h nx e id off len cut lim l hi mx k
  | .array len e, .c (.ptr id off)=>(match mx with
    |none=>au (He hi len) fun u=>iff (Nat.ble l u) (iff (Nat.ble u len) (iff (Nat.ble len 1099511627776) (au (sQ P e) fun n=>Bool.casesOn (Nat.beq len l) (fN (Nat.add off (Nat.mul l n)) fun o=>fN (Nat.sub u l) fun ln=>fN (Nat.sub len l) fun c=>k (.c (.sl id o ln 0 (some c))) nx) (k (.c (.sl id off 0 0 (some 0))) nx))))
    |some _=>false)
  |_,_=>false)
theorem SN (s:List Nat)(l e:Nat):(ba s).extract l e=ba ((s.take e).drop l):=by
 apply ByteArray.ext
 apply Array.ext'
 simp[ba,ByteArray.data_extract,List.extract_eq_take_drop,List.drop_take,List.map_take,List.map_drop]
theorem Yv (H:HR P g w0 ρ h nx w){t:TypeId}{x:RV}{v:Value}(hx:GR ρ x v){lo hi mx:Option RV}{lv hv mv:Option Value}
 (hlo:Option.Rel (GR ρ) lo lv) (hhi:Option.Rel (GR ρ) hi hv) (hmx:Option.Rel (GR ρ) mx mv) {k:RV->Nat->Bool} (hk:Yw P h nx t x lo hi mx k=true):
 Pn P g w0 ρ h nx k (Instr.sliceAt t v lv hv mv):=by
 obtain⟨d,hd,hk⟩:=ah hk
 try simp only[aG,aH,aW]at hd
 obtain⟨l,hl,hk⟩:=ah hk
 have hl:=xw hlo hl
 split at hk
 ·rename_i s _ _
  cases hmx with
  |some=>cases hk
  |none=>
   obtain⟨e,he,hk⟩:=ah hk
   obtain⟨h1,hk⟩:=aj hk
   obtain⟨h2,hk⟩:=aj hk
   have h1:=aT h1
   have h2:=aT h2
   rw[iF]at hk
   rw[aI]at h2 he
   cases hx with
   |c hx=>cases hx with
    |str _ hs=>
     refine⟨_,_,ρ,nx,hk,Ext.refl _ _, .c (.str _ fun b hb=>hs b (List.mem_of_mem_take (List.mem_of_mem_drop hb))),fun _ H=>H,fun w=>?_⟩
     have hh:(hv=none/\e=(ba s).size/\(none:Option Value)=none)\/ ∃q,hv=some (.int q (e:Int)):=by
      rcases xw hhi he with⟨e1,e2⟩|e'
      ·exact .inl ⟨e1,by rw[lQ];exact e2,rfl⟩
      ·exact .inr e'
     have hb:=lW (isS:=false) (w:=w) (P:=P) (max:=none) hl hh (.inl ⟨rfl,rfl⟩) h1 (m:=(ba s).size) (cap:=(ba s).size) (by rw[lQ];exact h2) (Nat.le_refl _)
     simp[Instr.sliceAt,run_underlying hd,Instr.slice,hb,SN]
 ·cases hmx with
  |some hmr=>
   obtain⟨m,hm,hk⟩:=ah hk
   obtain⟨hsm,hk⟩:=aj hk
   obtain⟨h0,hk⟩:=aj hk
   have h0:=aQ h0
   subst h0
   obtain⟨e,he,hk⟩:=ah hk
   obtain⟨h1,hk⟩:=aj hk
   obtain⟨h2,hk⟩:=aj hk
   have h1:=aQ h1
   have h2:=aQ h2
   subst h1 h2
   obtain⟨n,hn,hk⟩:=ah hk
   cases hx with
   |c hx=>cases hx with
    |bZ=>
     refine⟨_,_,ρ,nx,hk,Ext.refl _ _, .c .bZ,fun _ H=>H,fun w=>?_⟩
     obtain⟨q,hq⟩: ∃q,hv=some (.int q ((0:Nat):Int)):=by
      rcases xw hhi he with⟨e1,e2⟩|e'
      ·subst e1;cases hhi;cases hsm
      ·exact e'
     obtain⟨qm,rfl⟩:=jZ hm hmr
     have hb:=lW (isS:=true) (w:=w) (P:=P) (len:=0) hl (.inr ⟨q,hq⟩) (.inr ⟨qm,rfl⟩) (Nat.le_refl 0) (m:=0) (cap:=0) (Nat.le_refl _) (Nat.le_refl _)
     simp only[Instr.sliceAt,Sem.run_bind,run_underlying hd,Result.andThen_ok,Instr.slice,hb,dW hn,Sem.run_pure]
     rfl
  |none=>
   obtain⟨e,he,hk⟩:=ah hk
   obtain⟨h1,hk⟩:=aj hk
   obtain⟨h2,hk⟩:=aj hk
   have h1:=aQ h1
   have h2:=aQ h2
   subst h1 h2
   obtain⟨n,hn,hk⟩:=ah hk
   cases hx with
   |c hx=>cases hx with
    |bZ=>
     refine⟨_,_,ρ,nx,hk,Ext.refl _ _, .c .bZ,fun _ H=>H,fun w=>?_⟩
     have hh:(hv=none/\0=0/\(none:Option Value)=none)\/ ∃q,hv=some (.int q ((0:Nat):Int)):=by
      rcases xw hhi he with⟨e1,e2⟩|e'
      ·exact .inl ⟨e1,rfl,rfl⟩
      ·exact .inr e'
     have hb:=lW (isS:=true) (w:=w) (P:=P) (max:=none) hl hh (.inl ⟨rfl,rfl⟩) (Nat.le_refl 0) (m:=0) (cap:=0) (Nat.le_refl _) (Nat.le_refl _)
     simp[Instr.sliceAt,run_underlying hd,Instr.slice,hb,dW hn]
 ·cases hx with
  |c hx=>exact aeL (lo:=lo) H hd hx hl hhi hmx hk
 ·rename_i len e id off _ _
  cases hmx with
  |some=>cases hk
  |none=>
   obtain⟨u,hu,hk⟩:=ah hk
   try simp only[aG,aH,aW]at hu
   obtain⟨h1,hk⟩:=aj hk
   obtain⟨h2,hk⟩:=aj hk
   obtain⟨h3,hk⟩:=aj hk
   have h1:=aT h1
   have h2:=aT h2
   have h3:=aT h3
   obtain⟨n,hn,hk⟩:=ah hk
   cases hx with
   |c hx=>cases hx with
    | @ptr _ b base cap _ hr=>
      have hh:(hv=none/\u=len/\(none:Option Value)=none)\/ ∃q,hv=some (.int q (u:Int)):=by
       rcases xw hhi hu with⟨e1,e2⟩|e'
       ·exact .inl ⟨e1,e2,rfl⟩
       ·exact .inr e'
      have hb:=fun w=>lW (isS:=false) (w:=w) (P:=P) (max:=none) hl hh (.inl ⟨rfl,rfl⟩) h1 (m:=len) (cap:=len) h2 (Nat.le_refl _)
      have hrun: ∀w,(Instr.sliceAt t (.pointer (some ⟨b,base+off,none⟩)) lv hv none).run P w= .ok (.slice (some (if len=l then⟨b,base+off,none⟩else⟨b,base+(off+l*n),none⟩)) (u-l) (len-l)) w:=fun w=>by
       simp only[Instr.sliceAt,Sem.run_bind,run_underlying hd,Result.andThen_ok,Instr.sureAddr,Sem.run_pure,hb,dW hn,Addr.add_lit,Nat.add_assoc]
      have hmax:(1099511627776:Nat)<=maxLen:=by unfold maxLen;omega
      cases hml:Nat.beq len l with
      |true=>
       have hml':=aQ hml
       rw[hml]at hk
       refine⟨_,_,ρ,nx,hk,Ext.refl _ _, .c (.sl off 0 0 (some 0) hr (by simp) (by simp) (by simp)),fun _ H=>H,fun w=>?_⟩
       rw[hrun w,if_pos hml',show u-l=0 by omega,show len-l=0 by omega];rfl
      |false=>
       have hml':=qA hml
       rw[hml]at hk
       simp only[gW]at hk
       refine⟨_,_,ρ,nx,hk,Ext.refl _ _, .c (.sl _ _ 0 (some (len-l)) hr (by simp;omega) (by simp;omega) (by simp;omega)),fun _ H=>H,fun w=>?_⟩
       rw[hrun w,if_neg hml'];rfl
 ·cases hk
end
end bU
end
end Go.Proofs.YtakhobfamnjnoaaGreatDoor
