/- Symbolic runs: what turns the memory tells the truth: rows, stores, append. -/
import Derived.Test.YtakhobfamnjnoaaGreatDoorC08
set_option linter.unusedVariables false
set_option linter.unusedSimpArgs false
namespace Go.Proofs.YtakhobfamnjnoaaGreatDoor
section
namespace Sx
open Go Go.RowKit
abbrev KL:=List Nat->RV->Hp->Prop
def yR (P:Program)(ρ:Ren)(h:Hp)(O:Own)(w:World)(k:KL)(s:Sem Value):Prop:=
 ∃T r x ρ' h' O' w',k T r h'/\ρ.le ρ'/\Fm ρ.fz O w ρ'.fz O' w'/\HR P ρ' h' O' w'/\h.length<=h'.length/\Un T O w O' w'/\GR ρ' r x/\s.run P w= .ok x w'
def Gx (P:Program)(ρ:Ren)(h:Hp)(O:Own)(w:World)(k:KL)(s:Sem Unit):Prop:=
 ∃T h' w',k T .undef h'/\Fm ρ.fz O w ρ.fz O w'/\HR P ρ h' O w'/\h.length<=h'.length/\Un T O w O w'/\s.run P w= .ok () w'
theorem AP (h:Hp)(c:gU):app h [c]=h++[c]:=jP _ _
section
variable {P:Program} {T:jE} [lN P T] {ρ:Ren} {h:Hp} {O:Own} {w:World} {N:Nat} {e:bK} {a:Act}
theorem HR.new' (H:HR P ρ h O w)(x:Obj)(base cap:Nat)(o:AO)(ho: ∀ρ' B,ρ.le ρ'->ρ'.nm h.length 0=some (.blk w.heap.size base cap)->(∀q,B q↔q=w.heap.size)->Ob P ρ' h.length 0 o B (w.alloc x)):
 ∃ρ' O',ρ.le ρ'/\ρ'.nm h.length 0=some (.blk w.heap.size base cap)/\Fm ρ.fz O w ρ'.fz O' (w.alloc x)/\HR P ρ' (h++[.one o]) O' (w.alloc x)/\Un [] O w O' (w.alloc x):=by
 obtain⟨ρ',O',h1,h2,h3,h4⟩:=H.new x base cap o ho
 refine⟨ρ',O',h1,h2,h3,h4,fun i k q _ hq=>?_⟩
 have hlt:=H.lt i k q hq
 refine⟨?_,Below.heap_alloc _ _ _ hlt⟩
 obtain⟨p,hp⟩:=H.live i k q hq
 exact(H.ob i k p hp).same (h4.ob i k p (by rw[pY (cZ hp)];exact hp)) h1 hq
theorem HR.row (H:HR P ρ h O w){o:AO}{cells:List SV}{t:TypeId}(hro:o= .row cells t\/ ∃l,o= .bH l t/\cells=l.map .p){xs:List Value}(hx:F2 (G ρ) cells xs)(rest:List Value)(cap:Nat)(hsz:cap*P.cellsOf t<=xs.length+rest.length):
 ∃ρ' O',ρ.le ρ'/\ρ'.nm h.length 0=some (.blk w.heap.size 0 cap)/\Fm ρ.fz O w ρ'.fz O' (w.alloc (.cells (xs++rest).toArray t))/\HR P ρ' (h++[.one o]) O' (w.alloc (.cells (xs++rest).toArray t))/\Un [] O w O' (w.alloc (.cells (xs++rest).toArray t)):=by
 refine H.new' _ 0 cap o fun ρ' B hle hr hB=> .row (cells:=cells) hro hr hB (heap_alloc_new _ _) (fun j v hv=>?_) (by simpa using hsz)
 obtain⟨x,h1,h2⟩:=fO hx hv
 refine⟨x,h2.mono hle,?_⟩
 have hlt:=(List.getElem?_eq_some_iff.1 h1).1
 simp[List.getElem?_append_left hlt,h1]
theorem ahD (H:HR P ρ h O w){t:TypeId}{z:List SV}(hz:rC T t=some z){k:KL}(hk:newC h (.row z t) fun i h=>k [] (.a (.c (.ptr i 0 0))) h):yR P ρ h O w k (Instr.alloc t true (.tuple #[])):=by
 obtain⟨i,zv,hi,hzv,hx⟩:=xG (P:=P) (ρ:=ρ) hz
 obtain⟨ρ',O',hle,hr,hF,H',hU⟩:=H.row (.inl rfl) hx [] 0 (by simp)
 unfold newC at hk
 rw[aI,AP]at hk
 refine⟨[],_,_,ρ',_,O',_,hk,hle,hF,H',by simp,hU, .a (.c (.ptr 0 hr)),?_⟩
 simp[Instr.alloc,zeroValue,typeInfo,hi,hzv,newVar,newRow]
theorem agE (H:HR P ρ h O w){t:TypeId}{v:RV}{c:List SV}{x:Value}(hc:Uy v=some c)(hv:GR ρ v x){k:KL}(hk:newC h (.row c t) fun i h=>k [] (.a (.c (.ptr i 0 0))) h):yR P ρ h O w k (Instr.box t x):=by
 obtain⟨xs,h1,hx⟩:=PI hc hv
 obtain⟨ρ',O',hle,hr,hF,H',hU⟩:=H.row (.inl rfl) hx [] 0 (by simp)
 unfold newC at hk
 rw[aI,AP]at hk
 refine⟨[],_,_,ρ',_,O',_,hk,hle,hF,H',by simp,hU, .a (.c (.ptr 0 hr)),?_⟩
 simp[Instr.box,newVar,newRow,h1]
theorem Yn {t n:Nat}(hn:zV T t=some n):P.cellsOf t=n:=by
 unfold zV at hn
 split at hn
 ·rename_i i hi
  cases hn
  simp[Program.cellsOf,qY (P:=P) hi]
 ·cases hn
theorem Ad {α:Type}(l:List α): ∀n,(rep n l).length=n*l.length
 |0=>by simp[rep]
 |n+1=>by simp[rep,jP,Ad l n,Nat.succ_mul,Nat.add_comm]
theorem tY {α β:Type}{R:α->β->Prop}{l:List α}{xs:List β}(hx:F2 R l xs): ∀n,F2 R (rep n l) (rep n xs)
 |0=> .nil
 |n+1=>by simp only[rep,jP];exact dR hx (tY hx n)
theorem UL {α:Type}(l:List α): ∀(n j:Nat),j<n*l.length->(rep n l)[j]?=l[j%l.length]?
 |0,j,h=>by simp at h
 |n+1,j,h=>by
  simp only[rep,jP]
  by_cases hj:j<l.length
  ·rw[List.getElem?_append_left hj,Nat.mod_eq_of_lt hj]
  ·rw[List.getElem?_append_right (by omega),UL l n (j-l.length) (by rw[Nat.succ_mul]at h;omega),<-Nat.mod_eq_sub_mod (by omega)]
theorem jq (z:Array Value)(n:Nat):madeCells z (n*z.size)=(rep n z.toList).toArray:=by
 apply Array.ext'
 apply List.ext_getElem?
 intro j
 by_cases hj:j<n*z.size
 ·have hz:0<z.size:=by
   rcases Nat.eq_zero_or_pos z.size with h|h
   ·rw[h]at hj;simp at hj
   ·exact h
  have hm:=Nat.mod_lt j hz
  have:=UL z.toList n j (by simpa using hj)
  simp only[List.toList_toArray]at*
  rw[this]
  simp[madeCells,hj,hm]
 ·rw[List.getElem?_eq_none (by simp[madeCells];omega),List.getElem?_eq_none (by rw[List.toList_toArray,Ad];simpa using hj)]
theorem agB (H:HR P ρ h O w)(hF:Fr ρ N e a){t el:TypeId}(hd:P.underlying t=some (.slice el)){len n:Nat}(hn:zV T el=some n){z:List SV}(hz:rC T el=some z)(hn0:n≠0)(hlim:len*n<=16777216)(hzl:z.length=n){qs:Array (Nat×Operand)}{l:List SV}(hl:fills e (WW n qs.toList) (rep len z)=some l)
 {k:KL} (hk:newC h (.row l el) fun i h=>k [] (.a (.c (.sl i 0 0 len))) h):yR P ρ h O w k (Instr.buildSlice t len (qs.map fun p=>(p.1,a.eval p.2))):=by
 obtain⟨i,zv,hi,hzv,hx⟩:=xG (P:=P) (ρ:=ρ) hz
 obtain⟨ls,h1,h2,h3⟩:=H6 hF (U8 n qs.toList) hl (tY hx len)
 have hzs:zv.cells.size=n:=by have:=dw hx;simp at this;omega
 subst hzs
 have hys:ls.length=len*zv.cells.size:=by rw[h3,Ad];simp
 have hcell:=Yn (P:=P) hn
 have hlen:len<=maxLen:=by
  unfold maxLen
  have:len<=len*zv.cells.size:=Nat.le_mul_of_pos_right _ (by omega)
  omega
 obtain⟨ρ',O',hle,hr,hF',H',hU⟩:=H.row (o:= .row l el) (.inl rfl) h1 [] len (by rw[hcell,hys];simp)
 have hsl:G ρ' (.sl h.length 0 0 len) (.slice (some ⟨w.heap.size,0,none⟩) len len):=by
  have:=G.sl (ρ:=ρ') 0 len len hr (Nat.le_refl _) hlen (fun _=>rfl)
  simpa using this
 unfold newC at hk
 rw[aI,AP]at hk
 have e1:(List.map (fun p=>(p.1,a.eval p.2)) qs.toList).toArray=qs.map fun p=>(p.1,a.eval p.2):=by apply Array.ext';simp
 refine⟨[],_,_,ρ',_,O',_,hk,hle,hF',H',by simp,hU, .a (.c hsl),?_⟩
 rw[<-e1]
 have JI:(Array.range (len*zv.cells.size)).map (zv.cells[· %zv.cells.size]!)=(rep len zv.cells.toList).toArray:=jq zv.cells len
 have hbig: ¬(16777216<len*zv.cells.size):=by omega
 have hn':=fun w=>rU (P:=P) hn w
 by_cases h0:len*zv.cells.size=0
 ·have hl0:len=0:=by
   rcases Nat.mul_eq_zero.1 h0 with h|h
   ·exact h
   ·exact absurd h hn0
  subst hl0
  have JK:Instr.fill (fun i=>some (i*zv.cells.size,zv.cells.size)) #[] (List.map (fun p=>(p.1,a.eval p.2)) qs.toList)=some ls.toArray:=h2
  simp[Instr.buildSlice,run_underlying hd,hn',Array.range_zero',JK,newRow]
 ·simp[Instr.buildSlice,run_underlying hd,hn',hbig,h0,zeroValue,typeInfo,hi,hzv,newRow]
  have Ee:(Array.map (fun x=>zv.cells[x%zv.cells.size]!) (Array.range (len*zv.cells.size)))=(rep len zv.cells.toList).toArray:=JI
  rw[Ee]
  simp[h2]
theorem yj {α:Type}: ∀(xs l:List α)(n j:Nat),(xs=[]\/n+xs.length<=l.length)->(gB xs l n)[j]?=if n<=j/\j<n+xs.length then xs[j-n]? else l[j]?
 |[],l,n,j,_=>by rw[gB,if_neg (by simp<;>omega)]
 |x::xs,l,n,j,hn=>by
  have hn:n+(xs.length+1)<=l.length:=by rcases hn with h|h;cases h;simpa using h
  rw[gB,yj xs (l.set n x) (n+1) j (by right;simp;omega)]
  by_cases h1:j=n
  ·subst h1
   rw[if_neg (by omega),if_pos ⟨Nat.le_refl _,by simp⟩]
   have:j<l.length:=by omega
   simp[this]
  ·by_cases h2:n+1<=j/\j<n+1+xs.length
   ·rw[if_pos h2,if_pos ⟨by omega,by simp only[List.length_cons];omega⟩]
    rw[show j-n=(j-(n+1))+1 by omega]
    simp
   ·rw[if_neg h2,if_neg (by simp only[List.length_cons];omega),List.getElem?_set_ne (by omega)]
theorem Ae {α:Type}(xs l:List α)(n j:Nat)(hn:n+xs.length<=l.length):(l.take n++xs++l.drop (n+xs.length))[j]?=if n<=j/\j<n+xs.length then xs[j-n]? else l[j]?:=by
 have ht:(l.take n).length=n:=by simp;omega
 by_cases h1:j<n
 ·rw[if_neg (by omega),List.append_assoc,List.getElem?_append_left (by omega),List.getElem?_take,if_pos h1]
 ·by_cases h2:j<n+xs.length
  ·rw[if_pos ⟨by omega,h2⟩,List.append_assoc,List.getElem?_append_right (by omega),ht,List.getElem?_append_left (by omega)]
  ·rw[if_neg (by omega),List.getElem?_append_right (by simp[ht];omega),List.getElem?_drop]
   congr 1
   simp[ht];omega
theorem UJ (H:HR P ρ h O w){i j:Nat}{o o':AO}(ho:bI h i j=some o){cells:List SV}{t:TypeId}(hro:o= .row cells t\/ ∃l,o= .bH l t/\cells=l.map .p){b base cap:Nat}(hr:ρ.nm i j=some (.blk b base cap)){l:List SV}{xs:List Value}(hx:F2 (G ρ) l xs)
 {off:Nat} (hoff:off+l.length<=cells.length) (BR:o'= .row (gB l cells off) t\/ ∃l',o'= .bH l' t/\gB l cells off=l'.map .p):
 ∃w',(storeCells ⟨b,base+off,none⟩ xs).run P w= .ok () w'/\Fm ρ.fz O w ρ.fz O w'/\HR P ρ (nR h i j o') O w'/\Un [i] O w O w':=by
 have ob:=H.ob i j o ho
 have key: ∀{cs:Array Value}{B:Nat->Prop},B=O i j->(∀q,B q↔q=b)->w.heap[b]?=some (.cells cs t (0,0))->(∀j v,cells[j]?=some v-> ∃x,G ρ v x/\cs[base+j]?=some x)->base+cap*P.cellsOf t<=cs.size->
  ∃w',(storeCells ⟨b,base+off,none⟩ xs).run P w= .ok () w'/\Fm ρ.fz O w ρ.fz O w'/\HR P ρ (nR h i j o') O w'/\Un [i] O w O w':=fun{cs B} eB hB hh hc hsz=>by
  subst eB
  have hlen:=dw hx
  have un: ∀{w':World},(∀q,q≠b->w'.heap[q]?=w.heap[q]?)->Un [i] O w O w':=fun hk u v q hn hq=>⟨hq,hk q fun e=>by
   subst e
   have:=(H.dj u v i j q hq ((hB q).2 rfl)).1
   exact hn (by simp[this])⟩
  by_cases hl0:l=[]
  ·subst hl0
   cases hx
   have hb:w.heap.size=w.heap.size:=rfl
   have hT:=H.turn (o':=o') ho (w':=w) rfl rfl rfl rfl (fun _ _=>rfl) (.row (cells:=cells) (e:=t) (by simpa[gB]using BR) hr hB hh hc hsz)
   exact⟨w,rfl,hT.1,hT.2,un fun _ _=>rfl⟩
  ·have hpos:0<l.length:=List.length_pos_iff.2 hl0
   have hfit:base+off+xs.length<=cs.size:=by
    have hlast:off+l.length-1<cells.length:=by omega
    obtain⟨x,_,h2⟩:=hc (off+l.length-1) cells[off+l.length-1] (by simp[hlast])
    have:=(Array.getElem?_eq_some_iff.1 h2).1
    omega
   have hrun:=run_storeCells_at P b (base+off) t xs 0 cs w hh (by simpa using hfit) (Af hx)
   simp only[Nat.add_zero]at hrun
   have hne: ∀q,q≠b->(w.setRow b (cs.toList.take (base+off)++xs++cs.toList.drop (base+off+xs.length)).toArray).heap[q]?=w.heap[q]?:=fun q hq=>by
    simp only[World.setRow]
    rw[Array.getElem?_modify,if_neg (fun e=>hq e.symm)]
   have hT:=H.turn (o':=o') ho (w':=w.setRow b (cs.toList.take (base+off)++xs++cs.toList.drop (base+off+xs.length)).toArray) (by simp[World.setRow]) rfl rfl rfl (fun q hq=>hne q fun e=>hq ((hB q).2 e)) (by
    refine .row (cells:=gB l cells off) (e:=t) BR hr hB (setRow_heap w b cs _ t (0,0) hh) (fun j v hv=>?_) ?_
    ·rw[yj _ _ _ _ (.inr hoff)]at hv
     have hput:((cs.toList.take (base+off)++xs++cs.toList.drop (base+off+xs.length)).toArray)[base+j]?=if base+off<=base+j/\base+j<base+off+xs.length then xs[base+j-(base+off)]? else cs.toList[base+j]?:=by
      rw[List.getElem?_toArray];exact Ae xs cs.toList (base+off) (base+j) (by simpa using hfit)
     rw[hput]
     by_cases hin:off<=j/\j<off+l.length
     ·rw[if_pos hin]at hv
      obtain⟨x,h1,h2⟩:=fO hx hv
      rw[if_pos (by omega),show base+j-(base+off)=j-off by omega]
      exact⟨x,h2,h1⟩
     ·rw[if_neg hin]at hv
      obtain⟨x,h1,h2⟩:=hc j v hv
      rw[if_neg (by omega)]
      exact⟨x,h1,by simpa using h2⟩
    ·have:(cs.toList.take (base+off)++xs++cs.toList.drop (base+off+xs.length)).toArray.size=cs.size:=by
      simp;omega
     rw[this];exact hsz)
   exact⟨_,hrun,hT.1,hT.2,un hne⟩
 generalize hB0:O i j=B at ob
 cases ob with
 |row ho' hr' hB hh hc hsz=>
  rw[hr]at hr';cases hr'
  rcases hro with rfl|⟨l1,rfl,rfl⟩
  ·rcases ho' with h1|⟨l2,h1,_⟩
   ·cases h1;exact key hB0.symm hB hh hc hsz
   ·cases h1
  ·rcases ho' with h1|⟨l2,h1,rfl⟩
   ·cases h1
   ·cases h1;exact key hB0.symm hB hh hc hsz
 |eG ho' hr' hB=>rw[hr]at hr';cases hr'
 |map hr' hB hh hx=>rcases hro with h1|⟨l,h1,_⟩<;>cases h1
 |chan hr' hB hh hx=>rcases hro with h1|⟨l,h1,_⟩<;>cases h1
 |clo hr' hB hx hy=>rcases hro with h1|⟨l,h1,_⟩<;>cases h1
 |fJ hr'=>rcases hro with h1|⟨l,h1,_⟩<;>cases h1
 |sit hr'=>rcases hro with h1|⟨l,h1,_⟩<;>cases h1
theorem QD {α β:Type}(f:α->β): ∀(xs l:List α)(n:Nat),gB (xs.map f) (l.map f) n=(gB xs l n).map f
 |[],_,_=>rfl
 |x::xs,l,n=>by
  simp only[List.map_cons,gB]
  rw[<-List.map_set,QD f xs]
end
end Sx
end
section
namespace Sx
open Go Go.RowKit
section
variable {P:Program} {T:jE} [lN P T] {ρ:Ren} {h:Hp} {O:Own} {w:World} {N:Nat} {e:bK} {a:Act}
theorem afl (H:HR P ρ h O w){t el:TypeId}(hd:P.underlying t=some (.slice el)){i:TypeInfo}(hi:inf T el=some i){z:List SV}(hz:rC T el=some z)(hzl:z.length=i.size)(hby:i.bytes<=8388608){zp:List PV}(hzp:wu z=some zp){q:IntKind}{n:Nat}(hn:n<=16777216)
 {k:KL} (hk:newC h (.bH (rep n zp) el) fun i h=>k [] (.a (.c (.sl i 0 0 n))) h):yR P ρ h O w k (Instr.makeSlice t (.int q (n:Int)) (.int q (n:Int))):=by
 have hii:=qY (P:=P) hi
 obtain⟨i',zv,hi',hzv,hx⟩:=xG (P:=P) (ρ:=ρ) hz
 rw[hii]at hi';cases hi'
 have hzs:zv.cells.size=i.size:=by have:=dw hx;simp at this;omega
 have hcell:P.cellsOf el=i.size:=by simp[Program.cellsOf,hii]
 have hmx:n<=maxLen:=by unfold maxLen;omega
 have e0:rep n z=(rep n zp).map SV.p:=by
  rw[AU hzp]
  clear hk
  induction n with
  |zero=>rfl
  |succ n ih=>simp only[rep,jP,List.map_append];rw[ih (by omega) (by omega)]
 obtain⟨ρ',O',hle,hr,hF',H',hU⟩:=H.row (o:= .bH (rep n zp) el) (cells:=rep n z) (.inr ⟨_,rfl,e0⟩) (tY hx n) [] n (by rw[hcell,Ad,Array.length_toList,hzs];simp)
 have hsl:G ρ' (.sl h.length 0 0 n) (.slice (some ⟨w.heap.size,0,none⟩) n n):=by
  have:=G.sl (ρ:=ρ') 0 n n hr (Nat.le_refl _) hmx (fun _=>rfl)
  simpa using this
 unfold newC at hk
 rw[aI,AP]at hk
 refine⟨[],_,_,ρ',_,O',_,hk,hle,hF',H',by simp,hU, .a (.c hsl),?_⟩
 have hb:i.bytes*n<=140737488355328:=Nat.le_trans (Nat.mul_le_mul hby hn) (by omega)
 have BX:(i.bytes:Int)*(n:Int)<=281474976710656:=by
  have h0:=Int.ofNat_le.2 hb
  rw[Int.natCast_mul]at h0
  exact Int.le_trans h0 (by decide)
 have:=run_make (P:=P) w t el i zv hd hii hzv q q (n:Int) (n:Int) (by omega) (by omega) BX (by omega)
 rw[this]
 simp only[Int.toNat_natCast]
 rw[<-hzs,jq]
 simp
theorem xQ {t t2 ty el e2:TypeId}{i:TypeInfo}(ht:P.underlying t=some (.slice el))(h2:P.underlying t2=some (.slice e2))(hi:P.info? el=some i){x:Value}(hl:(Builtin.lenOf x).run P w= .ok 0 w)(hf:(Builtin.firstCells i.size 0 x).run P w= .ok #[] w):
 (Builtin.append_ #[t,t2] ty #[.slice none 0 0,x]).run P w= .ok (.slice none 0 0) w:=by
 simp[Builtin.append_,run_underlying ht,run_underlying h2,sizeOf,typeInfo,hi,hl,hf]
theorem mY {t t2 ty el e2:TypeId}{i:TypeInfo}(ht:P.underlying t=some (.slice el))(h2:P.underlying t2=some (.slice e2))(hi:P.info? el=some i){b o sLen sCap n:Nat}{x:Value}{news:List Value}
 (hl:(Builtin.lenOf x).run P w= .ok n w) (hf:(Builtin.firstCells i.size n x).run P w= .ok news.toArray w) (hroom:sLen+n<=sCap) {w':World} (hst:(storeCells ⟨b,o+sLen*i.size,none⟩ news).run P w= .ok () w'):
 (Builtin.append_ #[t,t2] ty #[.slice (some ⟨b,o,none⟩) sLen sCap,x]).run P w= .ok (.slice (some ⟨b,o,none⟩) (sLen+n) sCap) w':=by
 simp[Builtin.append_,run_underlying ht,run_underlying h2,sizeOf,typeInfo,hi,hl,hroom,hf,Addr.add_lit,hst]
theorem jV (z:Array Value)(n:Nat):Builtin.zeroCells z n=(rep n z.toList).toArray:=jq z n
theorem xR {t t2 ty el e2:TypeId}{i:TypeInfo}{z:Value}(ht:P.underlying t=some (.slice el))(h2:P.underlying t2=some (.slice e2))(hi:P.info? el=some i)(hz:i.zero=some z){a:Option Addr}{sLen sCap n:Nat}{x:Value}{news olds:List Value}
 (hl:(Builtin.lenOf x).run P w= .ok n w) (hf:(Builtin.firstCells i.size n x).run P w.drew= .ok news.toArray w.drew)
 (ho:(Builtin.firstCells i.size sLen (.slice a sLen sCap)).run P w.drew= .ok olds.toArray w.drew) (hg:sCap<sLen+n) (h63:sLen+n<=1099511627776) (Eh:(sLen+n)*i.bytes<=140737488355328):
 (Builtin.append_ #[t,t2] ty #[.slice a sLen sCap,x]).run P w= .ok (.slice (some ⟨w.heap.size,0,none⟩) (sLen+n) (grownCap w (sLen+n) sCap el))
   (w.drew.alloc (.cells ((olds++news)++rep (grownCap w (sLen+n) sCap el-(sLen+n)) z.cells.toList).toArray el)):=by
 have hroom: ¬(sLen+n<=sCap):=by omega
 have hfit: ¬(281474976710656<Builtin.nextslicecap (sLen+n) sCap*i.bytes):=by
  have:=growslice_fits hg Eh
  omega
 have h63': ¬(9223372036854775807<((sLen:Int)+(n:Int))):=by omega
 simp[Builtin.append_,run_underlying ht,run_underlying h2,sizeOf,typeInfo,hi,hl,hroom,h63',hfit,Question.forced,ho,hf,zeroValue,hz,newRow,grownCap,jV]
theorem HR.drew (H:HR P ρ h O w):HR P ρ h O w.drew:=
 ⟨fun i k o ho=>(H.ob i k o ho).frame fun _ _ _=>rfl,H.dj,H.lt,H.live,H.fr,H.on,H.sg,H.of,H.fz,H.sz⟩
theorem Fm.Kt {F F':Fz}{O O':Own}{w w':World}(h:Fm F O w.drew F' O' w'):Fm F O w F' O' w':=⟨h.os,h.tape,h.output,h.size,h.block,h.own,h.fz⟩
theorem Un.Kt {T:List Nat}{O O':Own}{w w':World}(h:Un T O w.drew O' w'):Un T O w O' w':=h
structure MB (P:Program)(w:World)(sz n:Nat)(x:Value)(xs:List Value):Prop where
 len:(Builtin.lenOf x).run P w= .ok n w
 now:(Builtin.firstCells sz n x).run P w= .ok xs.toArray w
 drew:(Builtin.firstCells sz n x).run P w.drew= .ok xs.toArray w.drew
 all:xs.length=n*sz
def l7:Option (List SV)->List PV->List SV
 |some m,_=>m
 |none,p=>p.map .p
theorem Jq (m:Option (List SV))(p:List PV):(l7 m p).length=mO m p:=by cases m<;>simp[l7,mO]
theorem EC {b base n sz:Nat}{cells:List SV}{cs:Array Value}{t:TypeId}{fr:Nat×Nat}(hh:w.heap[b]?=some (.cells cs t fr))(hc: ∀j v,cells[j]?=some v-> ∃x,G ρ v x/\cs[base+j]?=some x)(hl:cells.length=n*sz)(len cap:Nat)(hn:n=len):
 ∃xs,F2 (G ρ) cells xs/\MB P w sz n (.slice (some ⟨b,base,none⟩) len cap) xs/\ ∀C,(Builtin.firstCells sz len (.slice (some ⟨b,base,none⟩) len C)).run P w.drew= .ok xs.toArray w.drew:=by
 subst hn
 obtain⟨xs,h1,h2⟩:=Fj (R:=G ρ) (l:=cells) (f:=fun j=>cs[base+j]?) hc
 have hlx:xs.length=n*sz:=by rw[<-dw h1,hl]
 have hcell: ∀(w':World),w'.heap[b]?=some (.cells cs t fr)-> ∀j x,xs[j]?=some x->w'.cell? ((⟨b,base,none⟩:Addr).add j)=some x:=fun w' hw j x hj=>by rw[Addr.add_lit,rQ hw];exact h2 j x hj
 exact⟨xs,h1,⟨by simp[Builtin.lenOf],run_firstCells_some w sz n _ n cap xs hlx (hcell w hh),run_firstCells_some w.drew sz n _ n cap xs hlx (hcell w.drew hh),hlx⟩,fun C=>run_firstCells_some w.drew sz n _ n C xs hlx (hcell w.drew hh)⟩
theorem adx (H:HR P ρ h O w){x:RV}{v:Value}(hx:GR ρ x v){k:Nat->Option (List SV)->List PV->Prop}(hk:aaT I0 h x k):
 ∃n m p,k n m p/\ ∀sz,mO m p=n*sz-> ∃xs,F2 (G ρ) (l7 m p) xs/\MB P w sz n v xs:=by
 have nil: ∀{n:Nat}{c:List SV}{ad:Option Addr}{cap:Nat},n=0->c=[]-> ∀sz,c.length=n*sz-> ∃xs,F2 (G ρ) c xs/\MB P w sz n (.slice none 0 0) xs:=fun{n c ad cap} h0 hc sz _=>by
  subst h0 hc
  exact⟨[], .nil,by simp[Builtin.lenOf],by simp[Builtin.firstCells],by simp[Builtin.firstCells],by simp⟩
 unfold aaT at hk
 split at hk
 ·cases hx with|a hx=>cases hx with|c hx=>cases hx with|p hx=>
   cases hx
   exact⟨0,some [],[],hk,fun sz _=>nil (ad:=none) (cap:=0) rfl rfl sz (by simp[l7])⟩
 ·rename_i n l
  cases hx with|a hx=>cases hx with|c hx=>cases hx with|p hx=>
   obtain⟨ad,cap,rfl,h1,h2,h3⟩:=hx
   refine⟨n,none,l,hk,fun sz hl=>?_⟩
   rcases h3 with⟨rfl,rfl⟩|⟨b,o,cs,rfl,hb,hg⟩
   ·refine⟨[], .nil,by simp[Builtin.lenOf],?_,?_,by simp⟩<;>cases ad<;>simp[Builtin.firstCells,loadCells,loadCellsFrom]
   ·obtain⟨⟨ty,fr,hh⟩,_⟩:=H.fz _ _ hb
    obtain⟨xs,h1,h2,_⟩:=EC (P:=P) (sz:=sz) (n:=n) (cells:=l.map SV.p) (ρ:=ρ) hh (fun j v hv=>by
     rw[List.getElem?_map]at hv
     cases hp:l[j]? with
     |none=>rw[hp]at hv;cases hv
     |some p=>
      rw[hp]at hv;cases hv
      obtain⟨y,h1,h2⟩:=hg.get hp
      exact⟨y, .p h2,h1⟩) (by simpa[mO]using hl) n cap rfl
    exact⟨xs,h1,h2⟩
 ·rename_i i j n
  obtain⟨o,ho,hk⟩:=jQ hk
  have row: ∀{cells:List SV}{ty:TypeId},(o= .row cells ty\/ ∃l,o= .bH l ty/\cells=l.map .p)-> ∀sz,cells.length=n*sz-> ∃xs,F2 (G ρ) cells xs/\MB P w sz n v xs:=fun{cells ty} hro sz hl=>by
   cases hx with|a hx=>cases hx with|c hx=>cases hx with
    |sl _ _ cap hr h1 h2 h3=>
     obtain⟨cs,ty,hh,_,hc⟩:=rowAt H ho hro hr
     obtain⟨xs,h1,h2,_⟩:=EC (P:=P) (sz:=sz) (n:=n) hh hc hl n cap rfl
     exact⟨xs,h1,by simpa using h2⟩
    |eG hr h0=>
     subst h0
     exact nil (ad:=none) (cap:=0) rfl (List.eq_nil_of_length_eq_zero (by simpa using hl)) sz hl
  split at hk
  ·exact⟨n,some _,[],hk,fun sz hl=>row (.inl rfl) sz (by simpa[mO]using hl)⟩
  ·exact⟨n,none,_,hk,fun sz hl=>row (.inr ⟨_,rfl,rfl⟩) sz (by simpa[mO]using hl)⟩
  ·exact hk.elim
 ·exact hk.elim
theorem adP {F:Fz}{a:PV}{v:Value}(hg:GP F a v):GP F (pR a) v:=by
 unfold pR
 split
 ·exact hg
 ·exact hg
 ·exact hg
 ·cases hg;exact⟨none,0,rfl,Nat.le_refl _,by unfold maxLen;omega, .inl ⟨rfl,rfl⟩⟩
 ·exact hg
theorem U4 {ρ:Ren}: ∀{m:List PV}{xs:List Value},F2 (G ρ) (m.map .p) xs->F2 (G ρ) ((nC m).map .p) xs
 |[],_,h=>h
 |a::m,_,h=>by
  cases h with|cons h1 h2=>cases h1 with|p h1=>exact .cons (.p (adP h1)) (U4 h2)
theorem Qz: ∀m:List PV,(nC m).length=m.length
 |[]=>rfl
 |a::m=>by simp[nC,Qz m]
theorem aei {t:TypeId}{o o':AO}{m:Option (List SV)}{p:List PV}(h:ab8 I0 t o m p=some o'): ∃oc N,(o= .row oc t\/ ∃l,o= .bH l t/\oc=l.map .p)/\(o'= .row (oc++N) t\/ ∃l,o'= .bH l t/\oc++N=l.map .p)/\oc.length=pW o/\N.length=(l7 m p).length/\ ∀{ρ:Ren}{xs:List Value},F2 (G ρ) (l7 m p) xs->F2 (G ρ) N xs:=by
 unfold ab8 at h
 split at h
 ·split at h
  ·rename_i he
   cases h
   have he:=aQ he
   subst he
   exact⟨_,l7 (some _) p, .inl rfl, .inl (by rw[jP];rfl),rfl,rfl,id⟩
  ·cases h
 ·split at h
  ·rename_i l he hl
   cases h
   have he:=aQ he
   subst he
   have:=AU hl
   subst this
   exact⟨_,l7 none p, .inl rfl, .inr ⟨_,rfl,by simp[l7,I0]⟩,rfl,rfl,id⟩
  ·cases h
 ·split at h
  ·rename_i he
   cases h
   have he:=aQ he
   subst he
   exact⟨_,l7 none p, .inr ⟨_,rfl,rfl⟩, .inr ⟨_,rfl,by simp[l7,I0]⟩,by simp[pW],rfl,id⟩
  ·cases h
 ·split at h
  ·rename_i l he hl
   cases h
   have he:=aQ he
   subst he
   have:=AU hl
   subst this
   exact⟨_,(nC _).map .p, .inr ⟨_,rfl,rfl⟩, .inr ⟨_,rfl,by simp[I0]⟩,by simp[pW],by simp[l7,Qz],fun h=>U4 h⟩
  ·cases h
 ·cases h
end
end Sx
end
section
namespace Sx
open Go Go.RowKit
section
variable {P:Program} {T:jE} [lN P T] {ρ:Ren} {h:Hp} {O:Own} {w:World} {N:Nat} {e:bK} {a:Act}
theorem jk {h:Hp}{i:Nat}(hi:i<h.length):(iV h i).length=h.length:=jG _ _ _ _ hi
theorem HR.moved (H:HR P ρ h O w){i b:Nat}{o o':AO}(hi:bI h i 0=some o)(hB: ∀q,O i 0 q↔q=b){w':World}(hs:w'.heap.size=w.heap.size)(hos:w'.os=w.os)(ht:w'.tape=w.tape)(hout:w'.output=w.output)(hk: ∀q,q≠b->w'.heap[q]?=w.heap[q]?)(x:RI)
 (ho: ∀ρ':Ren,ρ.le ρ'->ρ'.nm h.length 0=some x-> ∀B,(∀q,B q↔q=b)->Ob P ρ' h.length 0 o' B w'): ∃ρ' O',ρ.le ρ'/\ρ'.nm h.length 0=some x/\Fm ρ.fz O w ρ'.fz O' w'/\HR P ρ' (iV h i++[.one o']) O' w'/\Un [i] O w O' w':=by
 have hlt:=cZ hi
 have hlen:=jk hlt
 have hle:=Ren.kT (H.fr h.length 0 (Nat.le_refl _)) x
 have hb:O i 0 b:=(hB b).2 rfl
 have hblt:=H.lt i 0 b hb
 have none: ∀j l,h.length<=j-> ∀q,¬O j l q:=fun j l hj q hq=>by obtain⟨o,h1⟩:=H.live j l q hq;rw[Em hj]at h1;cases h1
 have nb: ∀j l q,O j l q->j≠i->q≠b:=fun j l q hq hj e=>by subst e;exact hj (H.dj j l i 0 q hq hb).1
 refine⟨_,fun j l q=>(O j l q/\j≠i)\/(j=h.length/\l=0/\q=b),hle,Ren.fA _ _ _ _,⟨hos,ht,hout,by omega,fun q _ hn=>hk q fun e=>hn ⟨i,0,by rw[e];exact hb⟩,fun q _ ⟨j,l,hq⟩=>?_,fun _ _ h _=> .inl h⟩,⟨fun j l p hp=>?_,fun j l u v q hj hu=>?_,fun j l q hq=>?_,fun j l q hq=>?_,fun j l hj=>?_,fun j l hj hl=>?_,fun j p hj=>?_,fun j hj=>by simp[hlen]at hj;simp[Ren.put,show j≠h.length by omega,H.of j (by omega)],fun q cs hq=>?_,by rw[hs];exact H.sz⟩,fun j l q hn hq=>?_⟩
 ·rcases hq with hq|⟨_,_,rfl⟩
  ·exact⟨j,l,hq.1⟩
  ·exact⟨i,0,hb⟩
 ·rcases Nat.lt_or_ge j h.length with hj|hj
  ·rw[pY (by rw[hlen];exact hj),mg hlt]at hp
   split at hp
   ·cases hp
   ·rename_i hne
    have:=((H.ob j l p hp).frame (w':=w') fun q hq _=>hk q (nb j l q hq hne)).mono hle
    have e:(fun q=>(O j l q/\j≠i)\/(j=h.length/\l=0/\q=b))=O j l:=by funext q;simp[hne];intro e;omega
    rw[e];exact this
  ·have hj:j=h.length:=by
    have:=cZ hp
    simp[hlen]at this
    omega
   subst hj
   rw[<-hlen,BZ]at hp
   split at hp
   ·rename_i hl
    subst hl
    cases hp
    refine ho _ hle (Ren.fA _ _ _ _) _ fun q=>?_
    simp
    exact fun hq=>absurd hq (none _ _ (Nat.le_refl _) q)
   ·cases hp
 ·rcases hj with⟨hj,_⟩|⟨rfl,rfl,e1⟩<;>rcases hu with⟨hu,hne⟩|⟨rfl,rfl,e2⟩
  ·exact H.dj j l u v q hj hu
  ·rename_i hne;exact absurd e2 (nb j l q hj hne)
  ·exact absurd e1 (nb u v q hu hne)
  ·exact⟨rfl,rfl⟩
 ·rw[hs]
  rcases hq with hq|⟨_,_,rfl⟩
  ·exact H.lt j l q hq.1
  ·exact hblt
 ·rcases hq with⟨hq,hne⟩|⟨rfl,rfl,_⟩
  ·obtain⟨p,hp⟩:=H.live j l q hq
   exact⟨p,by rw[pY (by rw[hlen];exact cZ hp),mg hlt,if_neg hne];exact hp⟩
  ·exact⟨o',by rw[<-hlen,BZ,if_pos rfl]⟩
 ·simp[hlen]at hj
  rw[Ren.kD (by omega)]
  exact H.fr j l (by omega)
 ·rw[Ren.kD (by omega)]
  by_cases hjh:j=h.length
  ·exact H.fr j l (by omega)
  ·exact H.on j l (by simpa[Ren.put,hjh]using hj) hl
 ·by_cases hjh:j=h.length
  ·simp[Ren.put,hjh]
  ·rw[aJ]at hj
   have hj2:j<(iV h i).length:=by
    have:=(List.getElem?_eq_some_iff.1 hj).1
    simp[hlen]at this
    omega
   rw[List.getElem?_append_left hj2,<-aJ]at hj
   simp[Ren.put,hjh,H.sg j _ (EM hlt hj)]
 ·obtain⟨⟨ty,fr,h1⟩,h2⟩:=H.fz q cs hq
  have hne:q≠b:=fun e=>by subst e;exact h2 i 0 hb
  refine⟨⟨ty,fr,by rw[hk q hne];exact h1⟩,fun j l hj=>?_⟩
  rcases hj with hj|⟨_,_,e⟩
  ·exact h2 j l hj.1
  ·exact hne e
 ·have hne:j≠i:=by simpa using hn
  exact⟨.inl ⟨hq,hne⟩,hk q (nb j l q hq hne)⟩
theorem HR.drop' (H:HR P ρ h O w){i:Nat}(hi:i<h.length): ∃O',Fm ρ.fz O w ρ.fz O' w/\HR P ρ (iV h i) O' w/\Un [i] O w O' w:=by
 refine⟨fun j l b=>O j l b/\j≠i,⟨rfl,rfl,rfl,Nat.le_refl _,fun _ _ _=>rfl,fun b _ ⟨j,l,hb⟩=>⟨j,l,hb.1⟩,fun _ _ h _=> .inl h⟩,⟨fun j l p hp=>?_,fun a b c d e h1 h2=>H.dj a b c d e h1.1 h2.1,fun j l b hb=>H.lt j l b hb.1,fun j l b hb=>?_,fun j l hj=>H.fr j l (by rw[jk hi]at hj;exact hj),H.on,fun j o hj=>H.sg j o (EM hi hj),fun j hj=>H.of j (by rw[jk hi]at hj;exact hj),fun b cs hb=>⟨(H.fz b cs hb).1,fun j l hj=>(H.fz b cs hb).2 j l hj.1⟩,H.sz⟩,fun j l q hn hq=>⟨⟨hq,by simpa using hn⟩,rfl⟩⟩
 ·rw[mg hi]at hp
  split at hp
  ·cases hp
  ·rename_i hne
   have e:(fun b=>O j l b/\j≠i)=O j l:=by funext b;simp[hne]
   rw[e];exact H.ob j l p hp
 ·rw[mg hi,if_neg hb.2]
  exact H.live j l b hb.1
theorem Un.trans {T:List Nat}{O O' EF:Own}{w w' w'':World}(h:Un T O w O' w')(k:Un [] O' w' EF w''):Un T O w EF w'':=fun i j q hn hq=>by
 obtain⟨h1,h2⟩:=h i j q hn hq
 obtain⟨h3,h4⟩:=k i j q (by simp) h1
 exact⟨h3,h4.trans h2⟩
theorem LV {h1:Hp}{O1:Own}{T:List Nat}(H1:HR P ρ h1 O1 w)(hF:Fm ρ.fz O w ρ.fz O1 w)(hU:Un T O w O1 w)(hl1:h1.length=h.length){t t2 ty el e2:TypeId}{i:TypeInfo}{z:Value}(ht:P.underlying t=some (.slice el))(h2:P.underlying t2=some (.slice e2))(hi:P.info? el=some i)(hz:i.zero=some z)(hzs:z.cells.size=i.size)
 {ad:Option Addr} {sLen sCap n:Nat} {oc nc:List SV} {olds news:List Value} {xv:Value} {o':AO} (hro:o'= .row (oc++nc) el\/ ∃l,o'= .bH l el/\oc++nc=l.map .p) (hoc:F2 (G ρ) oc olds) (hnc:F2 (G ρ) nc news) (hol:olds.length=sLen*i.size) (hsr:MB P w i.size n xv news)
 (hfc:(Builtin.firstCells i.size sLen (.slice ad sLen sCap)).run P w.drew= .ok olds.toArray w.drew) (hgr:sCap<sLen+n) (hlim:sLen+n<=16777216) (hby:i.bytes<=8388608) {k:KL} (hk:k T (.a (.c (.sl h.length 0 0 (sLen+n)))) (h1++[.one o'])):
 yR P ρ h O w k (Builtin.append_ #[t,t2] ty #[.slice ad sLen sCap,xv]):=by
 have hcell:P.cellsOf el=i.size:=by simp[Program.cellsOf,hi]
 have hcap:=grownCap_le_maxLen w (sLen+n) sCap el (by unfold maxLen;omega)
 have hge:=grownCap_ge w (sLen+n) sCap el
 obtain⟨ρ',O',hle,hr,hF',H',ZU⟩:=H1.drew.row (o:=o') hro (dR hoc hnc) (rep (grownCap w (sLen+n) sCap el-(sLen+n)) z.cells.toList) (grownCap w (sLen+n) sCap el)
  (by rw[hcell,Ad,List.length_append,hol,hsr.all,Array.length_toList,hzs,<-Nat.add_mul,<-Nat.add_mul];exact Nat.mul_le_mul_right _ (by omega))
 have hsl:G ρ' (.sl h.length 0 0 (sLen+n)) (.slice (some ⟨w.heap.size,0,none⟩) (sLen+n) (grownCap w (sLen+n) sCap el)):=by
  have:=G.sl (ρ:=ρ') 0 (sLen+n) _ hr hge hcap (fun _=>rfl)
  rw[hl1]at this
  simpa using this
 have Eh:(sLen+n)*i.bytes<=140737488355328:=Nat.le_trans (Nat.mul_le_mul hlim hby) (by omega)
 exact⟨T,_,_,ρ',_,O',_,hk,hle,hF.trans hF'.Kt,H',by simp;omega,hU.trans ZU, .a (.c hsl),xR ht h2 hi hz hsr.len hsr.drew hfc hgr (by omega) Eh⟩
theorem U6 {h1:Hp}{O1:Own}{T:List Nat}(H1:HR P ρ h1 O1 w)(hF:Fm ρ.fz O w ρ.fz O1 w)(hU:Un T O w O1 w)(hl1:h1.length=h.length){t t2 ty el e2:TypeId}{i:TypeInfo}(ht:P.underlying t=some (.slice el))(h2:P.underlying t2=some (.slice e2))(hi:P.info? el=some i){cells:List SV}{xv:Value}{o':AO}
 (hro:o'= .row cells el\/ ∃l,o'= .bH l el/\cells=l.map .p) (hc:cells=[]) {news:List Value} (hsr:MB P w i.size 0 xv news) {m:Nat} (hm:m=0) {k:KL} (hk:k T (.a (.c (.sl h.length 0 0 m))) (h1++[.one o'])):
 yR P ρ h O w k (Builtin.append_ #[t,t2] ty #[.slice none 0 0,xv]):=by
 subst hc
 obtain⟨ρ',O',hle,hr,hF',H'⟩:=H1.name .eG o' fun ρ' B _ hr hB=> .eG (e:=el) (by
  rcases hro with rfl|⟨l,rfl,hl⟩
  ·exact .inl rfl
  ·cases l with
   |nil=>exact .inr rfl
   |cons=>cases hl) hr hB
 have hn:news=[]:=List.eq_nil_of_length_eq_zero (by rw[hsr.all];simp)
 subst hn
 have ZU:Un [] O1 w O' w:=fun j l q _ hq=>⟨by
  obtain⟨p,hp⟩:=H1.live j l q hq
  exact(H1.ob j l p hp).same (H'.ob j l p (by rw[pY (cZ hp)];exact hp)) hle hq,rfl⟩
 exact⟨T,_,_,ρ',_,O',_,hk,hle,hF.trans hF',H',by simp;omega,hU.trans ZU, .a (.c (.eG (by rw[<-hl1];exact hr) hm)),xQ ht h2 hi hsr.len hsr.now⟩
theorem uM {h:Hp}{o:AO}{k:Nat->Hp->Prop}(hk:newC h o k):k h.length (h++[.one o]):=by
 unfold newC at hk
 rwa[aI,AP]at hk
theorem agV (H:HR P ρ h O w){t t2 ty el e2:TypeId}(ht:P.underlying t=some (.slice el))(h2:P.underlying t2=some (.slice e2)){i:TypeInfo}(hi:inf T el=some i){zs:List SV}(hz:rC T el=some zs)(hzl:zs.length=i.size)(hby:i.bytes<=8388608){so xo:Operand}{sv xv:Value}(hs:GR ρ (ev e so) sv)(hx:GR ρ (ev e xo) xv)
 {k:KL} (hk:qc I0 P (.apd el i.size so xo) e h k):yR P ρ h O w k (Builtin.append_ #[t,t2] ty #[sv,xv]):=by
 simp only[qc]at hk
 have hii:=qY (P:=P) hi
 obtain⟨i',z,hi',hzv,hzx⟩:=xG (P:=P) (ρ:=ρ) hz
 rw[hii]at hi';cases hi'
 have hzs:z.cells.size=i.size:=by have:=dw hzx;simp at this;omega
 have hcell:P.cellsOf el=i.size:=by simp[Program.cellsOf,hii]
 obtain⟨n,m,p,hk,hsr⟩:=adx H hx hk
 split at hk
 ·rename_i h1
  rw[h1]at hs
  cases hs with|a hs=>cases hs with|c hs=>cases hs with|p hs=>
   cases hs
   obtain⟨h0,hk⟩:=hk
   simp only[Bool.and_eq_true,decide_eq_true_eq]at h0
   obtain⟨xs,hxs,hsr⟩:=hsr _ h0.1
   have fin: ∀o',(o'= .row (l7 m p) el\/ ∃l,o'= .bH l el/\l7 m p=l.map .p)->k [] (.a (.c (.sl h.length 0 0 n))) (h++[.one o'])->yR P ρ h O w k (Builtin.append_ #[t,t2] ty #[.slice none 0 0,xv]):=fun o' hro hk=>by
    rcases Nat.eq_zero_or_pos n with hn|hn
    ·subst hn
     exact U6 (h:=h) H (Fm.refl _ _ _) (fun _ _ _ _ h=>⟨h,rfl⟩) rfl ht h2 hii hro (List.eq_nil_of_length_eq_zero (by rw[Jq,h0.1];simp)) hsr rfl hk
    ·exact LV (h:=h) (oc:=[]) (olds:=[]) (sLen:=0) (sCap:=0) (T:=[]) H (Fm.refl _ _ _) (fun _ _ _ _ h=>⟨h,rfl⟩) rfl ht h2 hii hzv hzs hro .nil hxs (by simp) hsr (run_firstCells_none w.drew _ _ _ _) (by omega) (by omega) hby (by rw[Nat.zero_add];exact hk)
   split at hk
   ·exact fin _ (.inl rfl) (uM hk)
   ·exact fin _ (.inr ⟨_,rfl,rfl⟩) (uM hk)
 ·rename_i j len h1
  rw[h1]at hs
  obtain⟨o,ho,⟨h0,hk⟩⟩:=jQ hk
  simp only[Bool.and_eq_true,decide_eq_true_eq]at h0
  obtain⟨⟨h01,h02⟩,h03⟩:=h0
  obtain⟨o',ho',hk⟩:=ah hk
  obtain⟨oc,N,hro,BR,hol,hNl,hN⟩:=aei ho'
  obtain⟨xs,hxs,hsr⟩:=hsr _ h01
  replace hxs:=hN hxs
  have hlt:=cZ ho
  have hk:k [j] (.a (.c (.sl h.length 0 0 (len+n)))) (iV h j++[.one o']):=by
   have:=uM hk
   rwa[jk hlt]at this
  obtain⟨O1,hF1,H1,hU1⟩:=H.drop' hlt
  cases hs with|a hs=>cases hs with|c hs=>cases hs with
   |eG hr h00=>
    subst h00
    have aip:oc=[]:=List.eq_nil_of_length_eq_zero (by rw[hol,h02];simp)
    subst aip
    rcases Nat.eq_zero_or_pos n with hn|hn
    ·subst hn
     exact U6 (h:=h) H1 hF1 hU1 (jk hlt) ht h2 hii BR (List.eq_nil_of_length_eq_zero (by rw[List.nil_append,hNl,Jq,h01];simp)) hsr rfl hk
    ·exact LV (h:=h) (oc:=[]) (olds:=[]) (sLen:=0) (sCap:=0) (T:=[j]) H1 hF1 hU1 (jk hlt) ht h2 hii hzv hzs BR .nil hxs (by simp) hsr (run_firstCells_none w.drew _ _ _ _) (by omega) (by omega) hby hk
   |sl _ _ cap hr h1 h2' h3=>
    rename_i b base cp
    have:=h3 rfl
    subst this
    have ob:=H.ob j 0 o ho
    have key: ∀{cs:Array Value},(∀q,O j 0 q↔q=b)->w.heap[b]?=some (.cells cs el (0,0))->(∀u v,oc[u]?=some v-> ∃x,G ρ v x/\cs[base+u]?=some x)->base+cap*P.cellsOf el<=cs.size->yR P ρ h O w k (Builtin.append_ #[t,t2] ty #[.slice (some ⟨b,base+0,none⟩) len cap,xv]):=fun{cs} hB hh hc hsz=>by
     rw[Nat.add_zero]
     have abQ:oc.length=len*i.size:=by rw[hol,h02]
     obtain⟨olds,hoo,_,hfc⟩:=EC (P:=P) (sz:=i.size) (n:=len) hh hc abQ len cap rfl
     have aio:olds.length=len*i.size:=by rw[<-dw hoo,abQ]
     by_cases hfit:len+n<=cap
     ·rw[hcell]at hsz
      have Ed:base+len*i.size+xs.length<=cs.size:=by
       have e1:(len+n)*i.size<=cap*i.size:=Nat.mul_le_mul_right _ hfit
       rw[Nat.add_mul]at e1
       rw[hsr.all]
       omega
      have hrun:=run_storeCells_at P b (base+len*i.size) el xs 0 cs w hh (by simpa using Ed) (Af hxs)
      simp only[Nat.add_zero]at hrun
      obtain⟨ρ',O',hle,hr2,hF',H',ZU⟩:=H.moved (o':=o') ho hB (w':=w.setRow b (cs.toList.take (base+len*i.size)++xs++cs.toList.drop (base+len*i.size+xs.length)).toArray) (by simp[World.setRow]) rfl rfl rfl
       (fun q hq=>by simp only[World.setRow];rw[Array.getElem?_modify,if_neg (fun e=>hq e.symm)]) (.blk b base cap) (fun ρ' hle hr2 B hB=>by
         refine .row (cells:=oc++N) (e:=el) BR hr2 hB (setRow_heap w b cs _ el (0,0) hh) (fun u v hv=>?_) ?_
         ·rw[List.getElem?_toArray,Ae xs cs.toList (base+len*i.size) (base+u) (by simpa using Ed)]
          by_cases hu:u<len*i.size
          ·rw[List.getElem?_append_left (by omega)]at hv
           obtain⟨y,h4,h5⟩:=hc _ _ hv
           rw[if_neg (by omega)]
           exact⟨y,h4.mono hle,by simpa using h5⟩
          ·rw[List.getElem?_append_right (by omega),abQ]at hv
           obtain⟨y,h4,h5⟩:=fO hxs hv
           have:=(List.getElem?_eq_some_iff.1 h4).1
           rw[if_pos (by omega),show base+u-(base+len*i.size)=u-len*i.size by omega]
           exact⟨y,h5.mono hle,h4⟩
         ·have:(cs.toList.take (base+len*i.size)++xs++cs.toList.drop (base+len*i.size+xs.length)).toArray.size=cs.size:=by
           simp;omega
          rw[this,hcell];exact hsz)
      refine⟨[j],_,_,ρ',_,O',_,hk,hle,hF',H',by simp[jk hlt],ZU, .a (.c ?_),mY ht h2 hii hsr.len hsr.now hfit hrun⟩
      have:=G.sl (ρ:=ρ') 0 (len+n) cap hr2 hfit h2' (fun _=>rfl)
      simpa using this
     ·exact LV (h:=h) (T:=[j]) H1 hF1 hU1 (jk hlt) ht h2 hii hzv hzs BR hoo hxs aio hsr (hfc cap) (by omega) (by omega) hby hk
    cases ob with
    |row ho2 hr2 hB2 hh2 hc2 hsz2=>
     rw[hr]at hr2;cases hr2
     rcases hro with rfl|⟨l,rfl,rfl⟩
     ·rcases ho2 with h1|⟨l,h1,_⟩
      ·cases h1;exact key hB2 hh2 hc2 hsz2
      ·cases h1
     ·rcases ho2 with h1|⟨l',h1,rfl⟩
      ·cases h1
      ·cases h1;exact key hB2 hh2 hc2 hsz2
    |eG ho2 hr2=>rw[hr]at hr2;cases hr2
    |map hr2=>rcases hro with h1|⟨l,h1,_⟩<;>cases h1
    |chan hr2=>rcases hro with h1|⟨l,h1,_⟩<;>cases h1
    |clo hr2=>rcases hro with h1|⟨l,h1,_⟩<;>cases h1
    |fJ hr2=>rcases hro with h1|⟨l,h1,_⟩<;>cases h1
    |sit hr2=>rcases hro with h1|⟨l,h1,_⟩<;>cases h1
 ·exact hk.elim
end
end Sx
end
end Go.Proofs.YtakhobfamnjnoaaGreatDoor
