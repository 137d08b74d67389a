/- The machine's operations at addresses and structs; loads, stores, new blocks. -/
import Derived.Test.YtakhobfamnjnoaaGreatDoorB34
set_option linter.unusedVariables false
set_option linter.unusedSimpArgs false
namespace Go.Proofs.YtakhobfamnjnoaaGreatDoor
namespace bC
open Go Go.RowKit
section
variable {P:Program} {g:Nat} {w0:World} {ρ:Ren} {h:Hp} {nx:Nat} {w:World}
def Do (P:Program)(g:Nat)(w0:World)(ρ:Ren)(nx:Nat)(w:World)(k:RV->Hp->Nat->Bool)(s:Sem Value):Prop:=
 ∃r x ρ' h' nx' w',k r h' nx'=true/\Ext nx nx' ρ ρ'/\HR P g w0 ρ' h' nx' w'/\GR ρ' r x/\s.run P w= .ok x w'
def CY (P:Program)(g:Nat)(w0:World)(ρ:Ren)(nx:Nat)(w:World)(k:Hp->Nat->Bool)(s:Sem Unit):Prop:=
 ∃ρ' h' nx' w',k h' nx'=true/\Ext nx nx' ρ ρ'/\HR P g w0 ρ' h' nx' w'/\s.run P w= .ok () w'
theorem Pu.do (H:HR P g w0 ρ h nx w){k:RV->Hp->Nat->Bool}{s:Sem Value}(hp:Pu P ρ (fun r=>k r h nx) s):Do P g w0 ρ nx w k s:=by
 obtain⟨r,x,h1,h2,h3⟩:=hp
 exact⟨r,x,ρ,h,nx,w,h1,Ext.refl _ _,H,h2,h3 w⟩
theorem G.CQ {v:CV}{x y:Value}(hx:G ρ v x)(hy:G ρ v y):x=y:=by cases hx<;>cases hy<;>simp_all
theorem F8 {l:List CV}{xs ys:List Value}(hx:F2 (G ρ) l xs)(hy:F2 (G ρ) l ys):xs=ys:=by
 induction hx generalizing ys with
 |nil=>cases hy;rfl
 |cons a _ ih=>
  cases hy with
  |cons b hy=>rw[ih hy,G.CQ a b]
theorem BN {l:List CV}{f:Nat->Option Value}(hl: ∀j v,l[j]?=some v-> ∃x,G ρ v x/\f j=some x): ∃xs,F2 (G ρ) l xs/\ ∀j x,xs[j]?=some x->f j=some x:=by
 induction l generalizing f with
 |nil=>exact⟨[], .nil,fun j x hx=>by simp at hx⟩
 |cons a l ih=>
  obtain⟨x,hx,hf⟩:=hl 0 a rfl
  obtain⟨xs,h1,h2⟩:=ih (f:=fun j=>f (j+1)) fun j v hv=>hl (j+1) v (by simpa using hv)
  refine⟨x::xs, .cons hx h1,fun j y hy=>?_⟩
  cases j with
  |zero=>simp at hy;subst hy;exact hf
  |succ j=>exact h2 j y (by simpa using hy)
theorem oJ {w:World}{b o:Nat}{cs:Array Value}{e:TypeId}{fr:Nat×Nat}(hh:w.heap[b]?=some (.cells cs e fr)):w.cell? ⟨b,o,none⟩=cs[o]?:=by simp[World.cell?,hh]
noncomputable def rowOf (o:AO):Option (List CV):=match o with
 | .row cells _ _=>some cells
 | .ro cells=>some cells
 |_=>none
theorem Ob.ca {w:World}{id:Nat}{o:AO}(ho:Ob P ρ id o w){cells:List CV}(hrow:rowOf o=some cells){b base cap:Nat}(hr:ρ id=some (.blk b base cap)):
 ∀j v,cells[j]?=some v-> ∃x,G ρ v x/\w.cell? ⟨b,base+j,none⟩=some x:=fun j v hv=>by
 cases ho with
 |row hr' hh hc hcap hsz hm=>
  cases hrow
  rw[hr]at hr';cases hr'
  obtain⟨x,h1,h2⟩:=hc _ _ hv
  exact⟨x,h1,by rw[oJ hh];exact h2⟩
 |ro hr' hh hc=>
  cases hrow
  rw[hr]at hr';cases hr'
  obtain⟨x,h1,h2⟩:=hc _ _ hv
  exact⟨x,h1,by rw[oJ hh];exact h2⟩
 |map=>cases hrow
 |chan=>cases hrow
 |sit=>cases hrow
 |dN=>cases hrow
 |clo=>cases hrow
 |eF=>cases hrow
 |jd=>cases hrow
 |any=>cases hrow
 |loop=>cases hrow
theorem Ob.cells {w:World}{id:Nat}{o:AO}(ho:Ob P ρ id o w){cells:List CV}(hrow:rowOf o=some cells){b base cap:Nat}(hr:ρ id=some (.blk b base cap))(off n:Nat):
 ∃xs,F2 (G ρ) ((cells.drop off).take n) xs/\ ∀j x,xs[j]?=some x->w.cell? ((⟨b,base+off,none⟩:Addr).add j)=some x:=by
 refine BN fun j v hv=>?_
 rw[List.getElem?_take]at hv
 split at hv
 ·rw[List.getElem?_drop]at hv
  obtain⟨x,h1,h2⟩:=ho.ca hrow hr _ _ hv
  exact⟨x,h1,by rw[Addr.add_lit,Nat.add_assoc];exact h2⟩
 ·cases hv
theorem Ob.cell {w:World}{id:Nat}{o:AO}(ho:Ob P ρ id o w){cells:List CV}(hrow:rowOf o=some cells){b base cap:Nat}(hr:ρ id=some (.blk b base cap)){off:Nat}{v:CV}(hv:cells[off]?=some v):
 ∃x,G ρ v x/\w.cell? ⟨b,base+off,none⟩=some x:=ho.ca hrow hr off v hv
noncomputable def YQ (P:Program)(t:TypeId):Option Bool:=match bQ P t with
 |some (.struct _)=>some true
 |some (.array ..)=>some true
 |some _=>some false
 |none=>none
theorem vP {t:TypeId}{b:Bool}(ht:YQ P t=some b)(w:World):(isAgg t).run P w= .ok b w:=by
 unfold YQ at ht
 rw[aB]at ht
 cases hd:P.underlying t with
 |none=>rw[hd]at ht;cases ht
 |some d=>
  rw[hd]at ht
  cases d<;>(simp at ht;subst ht;simp[isAgg,run_underlying hd])
noncomputable def pF (P:Program)(t:TypeId):Option Nat:=(mY P t).map (·.size)
theorem cu {t n:Nat}(ht:pF P t=some n)(w:World):(sizeOf t).run P w= .ok n w:=by
 unfold pF at ht
 rw[aC]at ht
 cases hi:P.info? t with
 |none=>rw[hi]at ht;cases ht
 |some i=>rw[hi]at ht;simp at ht;subst ht;simp[sizeOf,typeInfo,hi]
noncomputable def ET (P:Program)(t:TypeId)(cells:List CV)(off:Nat)(k:RV->Bool):Bool:=
 au (YQ P t) fun b=>Bool.casesOn b (au (aA cells off) fun c=>k (.c c)) (au (pF P t) fun n=>fL ((cells.drop off).take n) fun l=>iff (Nat.beq (llen l) n) (k (.agg l)))
noncomputable def J8 (P:Program)(h:Hp)(t:TypeId)(x:RV)(k:RV->List Nat->Bool):Bool:=
 match x with
 | .c (.ptr id off)=>au (h.get id) fun o=>au (rowOf o) fun cells=>ET P t cells off fun r=>k r [id]
 |_=>false
theorem RZ {t:TypeId}{cells:List CV}{off id:Nat}{o:AO}(hrow:rowOf o=some cells){k:RV->Bool}{b base cap:Nat}(hr:ρ id=some (.blk b base cap))(hk:ET P t cells off k=true)(H0:Ob P ρ id o w):
 ∃r x,k r=true/\GR ρ r x/\ ∀w',Ob P ρ id o w'->(loadVar t ⟨b,base+off,none⟩).run P w'= .ok x w':=by
 obtain⟨ag,ha,hk⟩:=ah hk
 cases ag with
 |false=>
  obtain⟨c,hc,hk⟩:=ah hk
  rw[aF]at hc
  obtain⟨x,hx,_⟩:=H0.cell hrow hr hc
  refine⟨_,x,hk, .c hx,fun w' H'=>?_⟩
  obtain⟨y,hy,hcell⟩:=H'.cell hrow hr hc
  have:x=y:=by cases hx<;>cases hy<;>simp_all
  subst this
  simp[loadVar,vP ha,hcell]
 |true=>
  obtain⟨n,hn,hk⟩:=ah hk
  rw[eP]at hk
  obtain⟨hl,hk⟩:=aj hk
  have hl:((cells.drop off).take n).length=n:=by rw[<-aG];exact aJ hl
  obtain⟨xs,hx,_⟩:=H0.cells hrow hr off n
  refine⟨_,_,hk, .agg hx,fun w' H'=>?_⟩
  obtain⟨ys,hy,hcell⟩:=H'.cells hrow hr off n
  have same:xs=ys:=F8 hx hy
  subst same
  have hlen:xs.length=n:=by rw[<-bJ hy,hl]
  have:=run_loadCells_list (P:=P) w' _ xs hcell
  rw[hlen]at this
  simp[loadVar,vP ha,cu hn,this]
noncomputable def BA (r:RV):Option (List CV):=match r with
 | .c v=>some [v]
 | .agg l=>some l
 | .aN _=>none
theorem yG {r:RV}{x:Value}{l:List CV}(hr:BA r=some l)(hx:GR ρ r x): ∃xs:List Value,x.cells=xs.toArray/\F2 (G ρ) l xs:=by
 cases hx with
 |c hx=>cases hr;exact⟨[_],hx.cells, .cons hx .nil⟩
 |agg hx=>cases hr;exact⟨_,rfl,hx⟩
 |aN=>cases hr
theorem xH {l:List CV}{xs:List Value}(hx:F2 (G ρ) l xs): ∀v∈xs,v.oneCell'=true:=fun v hv=>by
 obtain⟨a,_,hr⟩:=F7 hx v hv
 exact hr.one
theorem HR.row (H:HR P g w0 ρ h nx w){cells:List CV}{xs:List Value}(hx:F2 (G ρ) cells xs)(rest:List Value)(e:TypeId)(cap:Nat)(cp:Option Nat)(hcp: ∀m,cp=some m->cap=m)
 (hsz:cap*P.cellsOf e<=xs.length+rest.length) (hm:cap<=maxLen) {h':Hp} (hh: ∀m,h'.get m=if m=nx then some (.row cells e cp)else h.get m):
 ∃ρ',Ext nx (nx+1) ρ ρ'/\ρ' nx=some (.blk w.heap.size 0 cap)/\HR P g w0 ρ' h' (nx+1) (w.alloc (.cells (xs++rest).toArray e)):=by
 refine H.new _ hh fun ρ' hle hr=> .row hr (heap_alloc_new _ _) (fun j v hv=>?_) (fun m hm=>⟨hcp m hm,fun _=>rfl⟩) (by simpa using hsz) hm
 obtain⟨x,h1,h2⟩:=dQ hx hv
 refine⟨x,h2.mono hle,?_⟩
 have hlt:=(List.getElem?_eq_some_iff.1 h1).1
 simp[List.getElem?_append_left hlt,h1]
noncomputable def mV (h:Hp)(nx:Nat)(o:AO)(k:Nat->Hp->Nat->Bool):Bool:=h.fU nx (some o) fun h'=>k nx h' (Nat.succ nx)
noncomputable def vI (P:Program)(t:TypeId)(k:List CV->Bool):Bool:=au (mY P t) fun i=>au i.zero fun z=>J4 z.cells.toList k
theorem qF {t:TypeId}{k:List CV->Bool}(hk:vI P t k=true): ∃i z cs,P.info? t=some i/\i.zero=some z/\k cs=true/\F2 (G ρ) cs z.cells.toList:=by
 obtain⟨i,hi,hk⟩:=ah hk
 try simp only[aB,aC,aO]at hi
 obtain⟨z,hz,hk⟩:=ah hk
 obtain⟨cs,hk,hx⟩:=LY (ρ:=ρ) hk
 exact⟨i,z,cs,hi,hz,hk,hx⟩
noncomputable def W9 (P:Program)(h:Hp)(nx:Nat)(t:TypeId)(k:RV->Hp->Nat->Bool):Bool:=
 vI P t fun cs=>mV h nx (.row cs t (some 0)) fun id h nx=>k (.c (.ptr id 0)) h nx
theorem WZ (H:HR P g w0 ρ h nx w){t:TypeId}{k:RV->Hp->Nat->Bool}(hk:W9 P h nx t k=true):Do P g w0 ρ nx w k (Instr.alloc t true (.tuple #[])):=by
 obtain⟨i,z,cs,hi,hz,hk,hx⟩:=qF (ρ:=ρ) hk
 obtain⟨h',hk,hh⟩:=Tr.aW hk
 obtain⟨ρ',hle,hr,H'⟩:=H.row hx [] t 0 (some 0) (by simp) (by simp) (by simp) hh
 refine⟨_,_,ρ',h',nx+1,_,hk,hle,H', .c (.ptr 0 hr),?_⟩
 simp[Instr.alloc,zeroValue,typeInfo,hi,hz,newVar,newRow]
noncomputable def ac0 (h:Hp)(nx:Nat)(t:TypeId)(v:RV)(k:RV->Hp->Nat->Bool):Bool:=
 au (BA v) fun cs=>mV h nx (.row cs t (some 0)) fun id h nx=>k (.c (.ptr id 0)) h nx
theorem aaM (H:HR P g w0 ρ h nx w){t:TypeId}{v:RV}{x:Value}(hv:GR ρ v x){k:RV->Hp->Nat->Bool}(hk:ac0 h nx t v k=true):Do P g w0 ρ nx w k (Instr.box t x):=by
 obtain⟨cs,hc,hk⟩:=ah hk
 obtain⟨xs,h1,hx⟩:=yG hc hv
 obtain⟨h',hk,hh⟩:=Tr.aW hk
 obtain⟨ρ',hle,hr,H'⟩:=H.row hx [] t 0 (some 0) (by simp) (by simp) (by simp) hh
 refine⟨_,_,ρ',h',nx+1,_,hk,hle,H', .c (.ptr 0 hr),?_⟩
 simp[Instr.box,newVar,newRow,h1]
theorem uM {α:Type}: ∀(xs l:List α)(n j:Nat),(xs=[]\/n+xs.length<=l.length)->(dW xs l n)[j]?=if n<=j/\j<n+xs.length then xs[j-n]? else l[j]?
 |[],l,n,j,_=>by rw[dW,if_neg (by simp<;>omega)]
 |x::xs,l,n,j,hn=>by
  have hn:n+(xs.length+1)<=l.length:=by rcases hn with h|h;cases h;simpa using h
  rw[dW,uM xs (l.set n x) (n+1) j (by right;simp;omega)]
  by_cases h1:j=n
  ·subst h1
   rw[if_neg (by omega),if_pos ⟨Nat.le_refl _,by simp⟩]
   have:j<l.length:=by omega
   simp[this]
  ·by_cases h2:n+1<=j/\j<n+1+xs.length
   ·rw[if_pos h2,if_pos ⟨by omega,by simp only[List.length_cons];omega⟩]
    rw[show j-n=(j-(n+1))+1 by omega]
    simp
   ·rw[if_neg h2,if_neg (by simp only[List.length_cons];omega),List.getElem?_set_ne (by omega)]
theorem xG {α:Type}(xs l:List α)(n j:Nat)(hn:n+xs.length<=l.length):(l.take n++xs++l.drop (n+xs.length))[j]?=if n<=j/\j<n+xs.length then xs[j-n]? else l[j]?:=by
 have ht:(l.take n).length=n:=by simp;omega
 by_cases h1:j<n
 ·rw[if_neg (by omega),List.append_assoc,List.getElem?_append_left (by omega),List.getElem?_take,if_pos h1]
 ·by_cases h2:j<n+xs.length
  ·rw[if_pos ⟨by omega,h2⟩,List.append_assoc,List.getElem?_append_right (by omega),ht,List.getElem?_append_left (by omega)]
  ·rw[if_neg (by omega),List.getElem?_append_right (by simp[ht];omega),List.getElem?_drop]
   congr 1
   simp[ht];omega
theorem HR.put (H:HR P g w0 ρ h nx w){id b base cap:Nat}{cells:List CV}{e:TypeId}{cp:Option Nat}(hid:h.get id=some (.row cells e cp))(hg:g<=id)(hr:ρ id=some (.blk b base cap)){l:List CV}{xs:List Value}(hx:F2 (G ρ) l xs)
 {off:Nat} (hoff:l=[]\/off+l.length<=cells.length) {h':Hp} (hh: ∀m,h'.get m=if m=id then some (.row (dW l cells off) e cp)else h.get m):
 ∃w',(storeCells ⟨b,base+off,none⟩ xs).run P w= .ok () w'/\HR P g w0 ρ h' nx w':=by
 have ho:=H.ob hid hr
 have ho':=ho
 cases ho' with
 | @row _ b' base' cap' _ _ _ cs hr' hh' hc hcap hsz hm=>
   rw[hr]at hr';cases hr'
   have hlen:=bJ hx
   rcases hoff with rfl|hoff
   ·cases hx
    refine⟨w,rfl,?_⟩
    have: ∀m,h'.get m=h.get m:=fun m=>by
     rw[hh]
     split
     ·rename_i e;subst e;exact hid.symm
     ·rfl
    exact⟨H.fresh,H.pX,fun i p hp hn=>H.objs i p (by rw[<-this];exact hp) hn,fun i j oi oj c hi hj=>H.inj i j oi oj c (by rw[<-this];exact hi) (by rw[<-this];exact hj),H.own,H.lt,H.kept,H.glob,fun i hi=>by rw[this];exact H.hfr i hi⟩
   ·by_cases hl0:l=[]
    ·subst hl0
     cases hx
     refine⟨w,rfl,?_⟩
     have: ∀m,h'.get m=h.get m:=fun m=>by
      rw[hh]
      split
      ·rename_i e;subst e;exact hid.symm
      ·rfl
     exact⟨H.fresh,H.pX,fun i p hp hn=>H.objs i p (by rw[<-this];exact hp) hn,fun i j oi oj c hi hj=>H.inj i j oi oj c (by rw[<-this];exact hi) (by rw[<-this];exact hj),H.own,H.lt,H.kept,H.glob,fun i hi=>by rw[this];exact H.hfr i hi⟩
    ·
     have hpos:0<l.length:=List.length_pos_iff.2 hl0
     have hfit:base+off+xs.length<=cs.size:=by
      have hlast:off+l.length-1<cells.length:=by omega
      obtain⟨x,_,h2⟩:=hc (off+l.length-1) cells[off+l.length-1] (by simp[hlast])
      have:=(Array.getElem?_eq_some_iff.1 h2).1
      omega
     have hrun:=run_storeCells_at P b (base+off) e xs 0 cs w hh' (by simpa using hfit) (xH hx)
     simp only[Nat.add_zero]at hrun
     refine⟨_,hrun,H.turn (w':=w.setRow b (cs.toList.take (base+off)++xs++cs.toList.drop (base+off+xs.length)).toArray) hid hg ⟨_,_,hr⟩ (by simp[World.setRow]) rfl rfl rfl (fun k hk=>?_) hh ?_⟩
     ·simp only[World.setRow]
      rw[Array.getElem?_modify,if_neg (fun e=>hk e.symm)]
     ·refine .row hr (setRow_heap w b cs _ e (0,0) hh') (fun j v hv=>?_) hcap ?_ hm
      ·rw[uM _ _ _ _ (.inr hoff)]at hv
       have hput:((cs.toList.take (base+off)++xs++cs.toList.drop (base+off+xs.length)).toArray)[base+j]?=if base+off<=base+j/\base+j<base+off+xs.length then xs[base+j-(base+off)]? else cs.toList[base+j]?:=by
        rw[List.getElem?_toArray];exact xG xs cs.toList (base+off) (base+j) (by simpa using hfit)
       rw[hput]
       by_cases hin:off<=j/\j<off+l.length
       ·rw[if_pos hin]at hv
        obtain⟨x,h1,h2⟩:=dQ hx hv
        rw[if_pos (by omega),show base+j-(base+off)=j-off by omega]
        exact⟨x,h2,h1⟩
       ·rw[if_neg hin]at hv
        obtain⟨x,h1,h2⟩:=hc j v hv
        rw[if_neg (by omega)]
        exact⟨x,h1,by simpa using h2⟩
      ·have:(cs.toList.take (base+off)++xs++cs.toList.drop (base+off+xs.length)).toArray.size=cs.size:=by
        simp;omega
       rw[this];exact hsz
noncomputable def BD (g:Nat)(h:Hp)(id off:Nat)(l:List CV)(k:Hp->Bool):Bool:=
 iff (Nat.ble g id) (au (h.get id) fun o=>(match o with| .row cells e cp=>SA l cells off fun cells=>h.fU id (some (.row cells e cp)) k|_=>false))
theorem yI (H:HR P g w0 ρ h nx w){id off b base cap:Nat}{l:List CV}{xs:List Value}(hr:ρ id=some (.blk b base cap))(hx:F2 (G ρ) l xs){k:Hp->Bool}(hk:BD g h id off l k=true):
 ∃h' w',k h'=true/\(storeCells ⟨b,base+off,none⟩ xs).run P w= .ok () w'/\HR P g w0 ρ h' nx w':=by
 obtain⟨hg,hk⟩:=aj hk
 obtain⟨o,ho,hk⟩:=ah hk
 cases o<;>try(cases hk;done)
 rename_i cells e cp
 obtain⟨hoff,hk⟩:=ML hk
 obtain⟨h',hk,hh⟩:=Tr.aW hk
 obtain⟨w',h1,h2⟩:=H.put ho (aK hg) hr hx hoff hh
 exact⟨h',w',hk,h1,h2⟩
noncomputable def KZ (P:Program)(g:Nat)(h:Hp)(t:TypeId)(p v:RV)(k:Hp->Bool):Bool:=
 match p with
 | .c (.ptr id off)=>au (BA v) fun l=>au (pF P t) fun n=>iff (Nat.beq (llen l) n) (BD g h id off l k)
 |_=>false
theorem UH (H:HR P g w0 ρ h nx w){t:TypeId}{p v:RV}{x y:Value}(hp:GR ρ p x)(hv:GR ρ v y){k:Hp->Nat->Bool}(hk:KZ P g h t p v (fun h=>k h nx)=true):CY P g w0 ρ nx w k (Instr.storeAt t x y):=by
 unfold KZ at hk
 split at hk
 ·rename_i id off
  obtain⟨l,hl,hk⟩:=ah hk
  obtain⟨n,hn,hk⟩:=ah hk
  obtain⟨hlen,hk⟩:=aj hk
  have hlen:l.length=n:=by rw[<-aG];exact aJ hlen
  obtain⟨xs,h1,hx⟩:=yG hl hv
  cases hp with
  |c hp=>
   cases hp with
   |ptr _ hr=>
    obtain⟨h',w',hk,h2,H'⟩:=yI H hr hx hk
    refine⟨ρ,h',nx,w',hk,Ext.refl _ _,H',?_⟩
    have hs:y.cells.size=n:=by rw[h1];simp[<-bJ hx,hlen]
    simp[Instr.storeAt,Instr.sureAddr,storeVar,cu hn,hs]
    rw[h1];exact h2
 ·cases hk
end
end bC
end Go.Proofs.YtakhobfamnjnoaaGreatDoor
