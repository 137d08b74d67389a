/- script.line: the first line of a job; a line of a node. -/
import Derived.Test.YtglbkodmmogomaaGreatDoorS11
import Derived.Great.BuildSlice
set_option linter.unusedVariables false
set_option linter.unusedSimpArgs false
set_option maxHeartbeats 2000000
set_option maxRecDepth 100000
namespace Go.Proofs.YtglbkodmmogomaaGreatDoor
open List Go.Proofs.Tryz
section
open Go Go.RowKit
attribute [local irreducible] dI iO H2.eX
theorem Tryz.info42: ∃i z,Tryz.prog.info? 42=some i/\i.zero=some z/\i.size=7/\i.bytes=96/\z.cells.size=7:=by have h:(prog.info? 42).map (fun i=>(i.zero,i.size,i.bytes))=some (some (.agg #[.string ByteArray.empty,.int .u8 0,.slice none 0 0,.int .u8 0,.int .i64 0,.slice none 0 0,.int .i64 0]),7,96):=(by kernel_rfl);obtain⟨i,hi,h⟩:=acg.1 h;simp only[Prod.mk.injEq]at h;exact⟨i,_,hi,h.1,h.2.1,h.2.2,by rfl⟩
theorem JH {w:World}{base n:Nat}{va:Value}{cs:List Value}(h:w.ownsRow base 42 7 va n cs)(news:List Value)(hl:news.length=7)(h1: ∀x∈news,x.oneCell'=true)(hb:base<=w.heap.size)(hn:n<=100000):
 ∃iC w',(Builtin.append_ #[22,22] 22 #[va,.slice (some ⟨w.heap.size,0,none⟩) 1 1]).run prog (w.alloc (.cells news.toArray 42))= .ok iC w'/\w'.ownsRow base 42 7 iC (n+1) (cs++news)/\
  ε (fun q=>va.ownBlock=some q) w w'/\ ∀q,iC.ownBlock=some q->va.ownBlock=some q\/w.heap.size<=q:=by
 obtain⟨i,z,hi,hz,hs,hby,hzs⟩:=Tryz.info42;have kA:ε η w (w.alloc (.cells news.toArray 42)):=δ.alloc _;have hr:=Reads.lit w news 42 7 1 (by omega) (by unfold maxLen;omega);have hA:=kA.owns h (fun _ _ h=>h);have hcl:cs.length=n*7:=h.1;obtain⟨v',n',w',b1,b2,b3,b4,_⟩:=aZ (P:=prog) base 22 22 42 i z 7 96 underlying22 hi hz hs hby hzs (by omega) hA hr h1
  (by rw[hl];omega) (by rw[hl];unfold maxLen;omega) (by have:=kA.size;omega)
 have hn':n'=n+1:=(by rw[hl]at b3;omega);subst hn';refine⟨v',w',b1,b2,kA.pure.trans (ε.grown b4 (fun k hk _=>hk)),fun q hq=>?_⟩;have hsz:(w.alloc (.cells news.toArray 42)).heap.size=w.heap.size+1:=(by simp);have hnews: ∀j v,news[j]?=some v->(w.alloc (.cells news.toArray 42)).cell? ((⟨w.heap.size,0,none⟩:Addr).add j)=some v:=fun j v hj=>by rw[Addr.add_lit,World.cell?_alloc_new];simpa using hj
 rcases h.2 with⟨rfl,rfl⟩|⟨g,cap,cur,rfl,hbg,hg,hnc,hcm,hcs,htake⟩
 ·have hr:=run_append_nil (P:=prog) (w.alloc (.cells news.toArray 42)) 22 22 42 i z underlying22 hi hz ⟨w.heap.size,0,none⟩ 1 1 news (by rw[hs];omega) hnews (by omega) (by omega) (by omega)
  rw[b1]at hr
  injection hr with e1 e2
  rw[e1]at hq;right;have:(w.alloc (.cells news.toArray 42)).heap.size=q:=(by simpa[Value.ownBlock]using hq);omega
 ·by_cases hroom:n+1<=cap
  ·obtain⟨w2,hr,_⟩:=run_append_fits (P:=prog) (w.alloc (.cells news.toArray 42)) base 22 22 42 i 7 underlying22 hi hs g n cap cs hA ⟨w.heap.size,0,none⟩ 1 1 news (by omega) hnews h1 hroom
   rw[b1]at hr
   injection hr with e1 e2
   rw[e1]at hq;left;exact hq
  ·have holds: ∀j u,cs[j]?=some u->(w.alloc (.cells news.toArray 42)).cell? ((⟨g,0,none⟩:Addr).add j)=some u:=hA.cells (g:=g) rfl
   have hr:=run_append_grow (P:=prog) (w.alloc (.cells news.toArray 42)) 22 22 42 i z underlying22 hi hz ⟨g,0,none⟩ n cap cs (by rw[hs];exact hcl) holds ⟨w.heap.size,0,none⟩ 1 1 news (by rw[hs];omega) hnews (by omega) (by omega) (growslice_fits (by omega) (by rw[hby];omega));rw[b1]at hr
   injection hr with e1 e2
   rw[e1]at hq;right;have:(w.alloc (.cells news.toArray 42)).heap.size=q:=(by simpa[Value.ownBlock]using hq);omega
structure mQ (w:World)(J lo:Nat)(par:Int)(L:List JN)(v:Value)(D:Nat->Prop):Prop where
 obj:w.heap[J]?=some (.cells #[.int .i64 par,v] 24 (0,0))
 row: ∃cs,w.ownsRow lo 42 7 v L.length cs/\ ∀(i:Nat)(d:JN),L[i]?=some d->nS w D ((cs.drop (i*7)).take 7).toArray d
 dd: ∀k,D k->lo<=k/\k<w.heap.size/\v.ownBlock≠some k
 lt:J<lo
 le:lo<=w.heap.size
 par:aJ par
theorem mQ.iT {w w':World}{S:Nat->Prop}{J lo:Nat}{par:Int}{L:List JN}{v:Value}{D:Nat->Prop}(h:mQ w J lo par L v D)(hk:ε S w w')(hS: ∀k,S k->k≠J/\v.ownBlock≠some k/\ ¬D k):mQ w' J lo par L v D:=by obtain⟨h1,⟨cs,h2,h4⟩,h3,h5,h6,h7⟩:=h;exact⟨hk.heap h1 (fun h=>(hS J h).1 rfl),⟨cs,hk.owns h2 (fun k hk2 hs=>(hS k hs).2.1 hk2),fun i d hd=>(h4 i d hd).kept hk (fun k hk2 hs=>(hS k hs).2.2 hk2)⟩,fun k hk2=>⟨(h3 k hk2).1,Pe (h3 k hk2).2.1 hk.size,(h3 k hk2).2.2⟩,h5,ω h6 hk.size,h7⟩
theorem mQ.pure {w w':World}{J lo:Nat}{par:Int}{L:List JN}{v:Value}{D:Nat->Prop}(h:mQ w J lo par L v D)(hk:ε η w w'):mQ w' J lo par L v D:=h.iT hk (fun _ h=>h.elim)
theorem mQ.job {w:World}{J lo:Nat}{par:Int}{L:List JN}{v:Value}{D:Nat->Prop}(h:mQ w J lo par L v D):oh w #[.int .i64 par,v] ⟨par,L⟩:=by obtain⟨h1,⟨cs,h2,h4⟩,h3,h5,h6,h7⟩:=h;exact⟨v,rfl,⟨cs,Reads.aN h2,h2.1,fun i d hd=>(h4 i d hd).at⟩,h7⟩
theorem mQ.push {w w':World}{J lo:Nat}{par:Int}{L:List JN}{v v':Value}{cs:List Value}{D E:Nat->Prop}{d:JN}{pi p:Option Addr}{ci c:Nat}(h1:w.heap[J]?=some (.cells #[.int .i64 par,v] 24 (0,0)))(h2:w.ownsRow lo 42 7 v L.length cs)
 (h3: ∀k,D k->lo<=k/\k<w.heap.size/\v.ownBlock≠some k) (h4: ∀(i:Nat)(d:JN),L[i]?=some d->nS w D ((cs.drop (i*7)).take 7).toArray d) (h5:J<lo) (h6:lo<=w.heap.size) (h7:aJ par)
 (hd:nS w E (bQ d pi ci p c) d) (hE: ∀k,E k->lo<=k/\k<w.heap.size/\v.ownBlock≠some k) (g2:w'.ownsRow lo 42 7 v' (L.length+1) (cs++(bQ d pi ci p c).toList)) (g3:ε (fun q=>v.ownBlock=some q) w w')
 (g4: ∀q,v'.ownBlock=some q->v.ownBlock=some q\/w.heap.size<=q):
 mQ (w'.setCell ⟨J,1,none⟩ v') J lo par (L++[d]) v' (fun k=>D k\/E k)/\ε (fun q=>q=J\/v.ownBlock=some q) w (w'.setCell ⟨J,1,none⟩ v'):=by
 have hJ:w'.heap[J]?=some (.cells #[.int .i64 par,v] 24 (0,0)):=g3.heap h1 (fun h=>by have:=(h2.lt J h).1;omega);have hset:=aU hJ 1 v';have ks:ε (one J) w' (w'.setCell ⟨J,1,none⟩ v'):=ε.setCell (p:=⟨J,1,none⟩) (ε.refl (one J) _) (.inl rfl) _;have hsz:=g3.size;have hss:=ks.size;have hcl:cs.length=L.length*7:=h2.1;have hk1: ∀k,(D k\/E k)-> ¬(fun q=>v.ownBlock=some q) k:=fun k hk hs=>by
  rcases hk with hk|hk
  ·exact(h3 k hk).2.2 hs
  ·exact(hE k hk).2.2 hs
 have hk2: ∀k,(D k\/E k)-> ¬one J k:=fun k hk hs=>by
  unfold one at hs
  rcases hk with hk|hk
  ·have:=(h3 k hk).1;omega
  ·have:=(hE k hk).1;omega
 refine⟨⟨by simpa using hset,⟨cs++(bQ d pi ci p c).toList,by rw[ν];exact ks.owns g2 (fun k hk hs=>by have:=(g2.lt k hk).1;unfold one at hs;omega),fun i u hu=>?_⟩,fun k hk=>?_,h5,by omega,h7⟩,
  (g3.mono (S':=fun q=>q=J\/v.ownBlock=some q) (fun k _ hs=> .inr hs)).new ks (fun i hi hs=> .inl hs)⟩
 ·by_cases hi:i<L.length
  ·rw[Ω hi]at hu
   have hcut:((cs++(bQ d pi ci p c).toList).drop (i*7)).take 7=(cs.drop (i*7)).take 7:=(by rw[drop_append_of_le_length (by omega),take_append_of_le_length (by rw[length_drop];omega)]);rw[hcut];have h0:nS w (fun k=>D k\/E k) ((cs.drop (i*7)).take 7).toArray u:=fun S w2 hk hS=>h4 i u hu S w2 hk (fun k hk=>hS k (.inl hk));exact(h0.kept g3 hk1).kept ks hk2
  ·have hie:i=L.length:=by have:=(μ.1 hu).1;simp at this;omega
   subst hie;rw[Ψ (ξ _),Nat.sub_self]at hu;cases hu;have hcut:((cs++(bQ d pi ci p c).toList).drop (L.length*7)).take 7=(bQ d pi ci p c).toList:=(by rw[<-hcl,drop_left];rfl);rw[hcut];have h0:nS w (fun k=>D k\/E k) (bQ d pi ci p c) d:=fun S w2 hk hS=>hd S w2 hk (fun k hk=>hS k (.inr hk));exact(h0.kept g3 hk1).kept ks hk2
 ·have hq:lo<=k/\k<w.heap.size/\v.ownBlock≠some k:=by rcases hk with hk|hk;exact h3 k hk;exact hE k hk
  refine⟨hq.1,by omega,fun e=>?_⟩
  rcases g4 k e with e|e
  ·exact hq.2.2 e
  ·omega
theorem rZ {P:Program}{w w':World}{o:Oper}{a:Act}{K:Act->World->Prop}{Q:Exit->Act->World->Prop}(s x:Operand)(t:TypeId)
 (ho:o.op= .call {callee:= .builtin .append,args:= #[s,x],argTypes:= #[t,t]}) (v u v':Value) (hs:a.eval s=v) (hx:a.eval x=u) (hr:(Builtin.append_ #[t,t] o.type #[v,u]).run P w= .ok v' w')
 (h:K (a.put o.dst v') w'):o.wp P a w K Q:=by
 unfold Oper.wp execOp;simp only[ho,resolve,invoke,builtin,Sem.run_bind,Sem.run_pure,Result.andThen_ok,map_toArray,Θ,Ξ,hs,hx,hr];exact h
def A8 (w:World)(J lo:Nat)(par:Int)(L:List JN)(v:Value)(D:Nat->Prop)(e:Ending)(w':World):Prop:=e= .returned (.int .i64 0)/\ ∃(v':Value)(D':Nat->Prop),mQ w' J lo par L v' D'/\
 (∀q,v'.ownBlock=some q->v.ownBlock=some q\/w.heap.size<=q)/\(∀q,D' q->D q\/w.heap.size<=q)/\ε (fun q=>q=J\/v.ownBlock=some q) w w'
abbrev IL:ByteArray:=⟨#[112,97,114]⟩
theorem Y4 (s ah bh d:ByteArray)(n:Int)(J lo:Nat)(w:World)(hp:jU s=(ah,bh,false))(hw:zB ah=some [IL,d])(hn:PW d 1=some n)(nN:aJ n)(hs:s.size<=maxLen)(v0:Value)(D0:Nat->Prop)(h:mQ w J lo 0 [] v0 D0):
 Calls prog 124 #[.pointer (some ⟨J,0,none⟩),.string s,.bool true] w (A8 w J lo n [] v0 D0):=by
 have c1:=zZ s hs w;rw[hp]at c1;simp only at c1;have HS:=γ h;have HW:=γ hw;have HN:=γ hn;clear hp hw hn h;go_enter func124,ntmps124;go_wp2_with fail;refine c1.mono ?_;clear c1;rintro e w1 ⟨rfl,k1⟩;have c2:=BD ah _ HW.o w1;go_wp2_with fail;refine c2.mono ?_;clear c2;rintro e w2 ⟨v,rfl,hown,k2⟩;have hrd:=Reads.aN hown;obtain⟨pa,ca,rfl,a1,a2,a3⟩:=hrd.Rx;obtain⟨lb,Cm,rfl,hl⟩:=a3.resolve_left (by simp);have l0:=hl 0 _ rfl;have l1:=hl 1 _ rfl;rw[Nat.add_zero]at l0;have CQ:=k1.trans k2;have st2:=HS.o.pure CQ;have hj:=st2.obj;have c3:Calls prog 157 #[.string d,.int .i64 1] w2 (Gives w2 (.tuple #[.int .i64 n,.bool true])):=Tn d 1 (by omega) n HN.o w2;unfold maxLen at a2;have Hb:=γ (θ CQ st2);clear hown hrd hl a3 k1 k2 CQ st2 hj;have hpar:(IL.toList==IL.toList)=true:=(by simp);have hlen:[IL,d].length=2:=rfl;have hlb:lb<w2.heap.size:=(by have:=block_lt_of_cell l0;simpa using this);go_wp2_with fail;refine c3.mono ?_;clear c3;rintro e w3 ⟨rfl,k3⟩;have wC:=Hb.o.2.pure k3;have hj:=wC.obj;have j0:=ζ hj (j:=0) rfl;have jf:=free_at hj 0;have hJ3:J<w3.heap.size:=(κ.1 hj).1;have hset:=aU hj 0 (.int .i64 n);have ks:ε (one J) w3 (w3.setCell ⟨J,0,none⟩ (.int .i64 n)):=ε.setCell (p:=⟨J,0,none⟩) (ε.refl (one J) _) (.inl rfl) _
 have F:=γ (show A8 w J lo n [] v0 D0 (.returned (.int .i64 0)) (w3.setCell ⟨J,0,none⟩ (.int .i64 n)) by
  refine⟨rfl,v0,D0,?_,fun q hq=> .inl hq,fun q hq=> .inl hq,((Hb.o.1.trans k3).pure).new ks (fun i hi hs=> .inl hs)⟩;obtain⟨h1,⟨cs,h2,h4⟩,h3,h5,h6,h7⟩:=wC;have hset:=aU h1 0 (.int .i64 n);have hss:=ks.size
  exact⟨by simpa using hset,⟨cs,ks.owns h2 (fun k hk hs=>by have:=(h2.lt k hk).1;unfold one at hs;omega),fun i d hd=>by simp at hd⟩,fun k hk=>⟨(h3 k hk).1,by have:=(h3 k hk).2.1;omega,(h3 k hk).2.2⟩,h5,by omega,nN⟩)
 clear wC hj hset ks k3;go_wp2;go_ret;exact F.o
theorem nS.agd {w:World}{D E:Nat->Prop}{uid:ByteArray}{k n:Int}{is:List Int}{x0 y:Ex}{pi p0 p:Option Addr}{ci c0 c:Nat}(hd:nS w D (bQ ⟨uid,k,is,x0,n⟩ pi ci p0 c0) ⟨uid,k,is,x0,n⟩)(hx:mJ w E (jw y p c).toArray y):
 nS w (fun q=>D q\/E q) (bQ ⟨uid,k,is,y,n⟩ pi ci p c) ⟨uid,k,is,y,n⟩:=fun S w' hk hS=>by
 obtain⟨pi',ci',p',c',e,_,hr,h64,k0,k1,n64,us⟩:=hd S w' hk (fun q hq=>hS q (.inl hq));have e2:=congrArg (fun a=>a[2]?) e;simp at e2;obtain⟨rfl,rfl⟩:=e2;exact⟨pi,ci,p,c,rfl,hx S w' hk (fun q hq=>hS q (.inr hq)),hr,h64,k0,k1,n64,us⟩
theorem aaK {w:World}{b E:Nat}{x0 x1 x2 x3 x4 x5 x6:Value}(h:w.heap[b]?=some (.cells #[x0,x1,x2,x3,x4,x5,x6] E (0,0)))(y3 y4 y5:Value):
 (((w.setCell ⟨b,3,none⟩ y3).setCell ⟨b,4,none⟩ y4).setCell ⟨b,5,none⟩ y5).heap[b]?=some (.cells #[x0,x1,x2,y3,y4,y5,x6] E (0,0))/\ε (one b) w (((w.setCell ⟨b,3,none⟩ y3).setCell ⟨b,4,none⟩ y4).setCell ⟨b,5,none⟩ y5):=by
 refine⟨?_,?_⟩
 ·have:=aU (aU (aU h 3 y3) 4 y4) 5 y5
  simpa using this
 ·have k3:ε (one b) w (w.setCell ⟨b,3,none⟩ y3):=ε.setCell (p:=⟨b,3,none⟩) (ε.refl (one b) w) (.inl rfl) y3
  have k4:=k3.setCell (p:=⟨b,4,none⟩) (.inl rfl) y4;exact k4.setCell (p:=⟨b,5,none⟩) (.inl rfl) y5
structure vZ (nodes:List JN)(s uid kw:ByteArray)(ins:List ByteArray)(k:Nat)(x:Option Ex):Prop where
 words:zB (jU s).1=some (uid::kw::ins)
 kind:oU[k]?=some kw
 k1:1<=k
 k7:k≠7
 found: ∀i∈ins,0<=bJ nodes i
 colon:(jU s).2.2=x.isSome
 hasx:x.isSome=(decide (2<=k)&&decide (k<=6))
 size:s.size<=400
 expr: ∀y,x=some y-> ∃t,Lib.trimLeftS (jU s).2.1.data.toList [32,9]=t/\(⟨t.toArray⟩:ByteArray).size<=400/\(∀p∈runes ⟨t.toArray⟩,kY p.2)/\WJ ⟨t.toArray⟩=some y/\vX 16 y
def nV (nodes:List JN)(uid:ByteArray)(ins:List ByteArray)(k:Nat)(x:Option Ex):JN:=⟨uid,(k:Int),ins.map (bJ nodes),x.getD (.mk 0 0 []),0⟩
theorem Y3 (s uid kw:ByteArray)(ins:List ByteArray)(k:Nat)(J lo:Nat)(par:Int)(L:List JN)(w:World)(hl:vZ L s uid kw ins k none)(jv:Value)(D0:Nat->Prop)(h:mQ w J lo par L jv D0)(hu:uid.size<=maxLen)(hil:ins.length<=1000)(hnl:L.length<=1000):
 Calls prog 124 #[.pointer (some ⟨J,0,none⟩),.string s,.bool false] w (A8 w J lo par (L++[nV L uid ins k none]) jv D0):=by
 obtain⟨hw,hk,hk1,Ew,hf,hco,hhx,hsz,hex⟩:=hl;have hk9:k<=9:=(by have:=(μ.1 hk).1;have h10:oU.length=10:=rfl;omega);have c1:=zZ s (by unfold maxLen;omega) w;rw[hco]at c1;obtain⟨ah,hah⟩:=acu ((jU s).1);obtain⟨bh,QK⟩:=acu ((jU s).2.1);rw[hah,QK]at c1;rw[hah]at hw;rw[QK]at hex;simp only[Option.isSome_some,Option.isSome_none]at c1 hhx;have HS:=γ (θ h (θ hw (θ hk (θ hf (θ hex hhx)))));clear h hw hk hf hex hco hah QK hhx;go_enter func124,ntmps124;go_wp2_with fail;refine c1.mono ?_;clear c1;rintro e w1 ⟨rfl,k1⟩;have c2:=BD ah _ HS.o.2.1 w1;go_wp2_with fail;refine c2.mono ?_;clear c2;rintro e w2 ⟨v,rfl,hown,k2⟩;have hrd:=Reads.aN hown;obtain⟨pa,ca,rfl⟩:=au hown;have CQ:=k1.trans k2;have st2:=HS.o.1.pure CQ;have hj:=st2.obj;have hjb:=st2.job;have j0:=ζ hj (j:=0) rfl;have j1:=ζ hj (j:=1) rfl;have c3:Calls prog 158 #[.agg #[.int .i64 par,jv],.slice pa (ins.length+1+1) ca] w2 (AZ w2 ⟨uid,(k:Int),ins.map (bJ L),.mk 0 0 [],0⟩):=PX ⟨par,L⟩ #[.int .i64 par,jv] uid kw ins k _ w2 hjb hrd HS.o.2.2.1 hk1 Ew HS.o.2.2.2.1 hu hil hnl;have hJ2:J<w2.heap.size:=(κ.1 hj).1;have Hb:=γ (θ CQ st2);clear hown hrd k1 k2 CQ st2 hj hjb;go_wp2_with fail;refine c3.mono ?_;clear c3;rintro e w3 ⟨pi,ci,p0,yR,D,rfl,hd,hD,k3⟩;have hcells:bQ ⟨uid,(k:Int),ins.map (bJ L),.mk 0 0 [],0⟩ pi ci p0 yR= #[.string uid,.int .u8 (k:Int),.slice pi ins.length ci,.int .u8 0,.int .i64 0,.slice p0 0 yR,.int .i64 0]:=(by simp[bQ,Ex.op,Ex.n,Ex.args]);rw[hcells]at hd⊢;have wC:=Hb.o.2.pure k3;obtain⟨W4,iW⟩:=acu (w3.alloc (.cells #[.string uid,.int .u8 (k:Int),.slice pi ins.length ci,.int .u8 0,.int .i64 0,.slice p0 0 yR,.int .i64 0] 42));have k34:ε η w3 W4:=(by rw[<-iW];exact δ.alloc _);have x4:W4.heap[w3.heap.size]?=some (.cells #[.string uid,.int .u8 (k:Int),.slice pi ins.length ci,.int .u8 0,.int .i64 0,.slice p0 0 yR,.int .i64 0] 42 (0,0)):=(by rw[<-iW];exact heap_alloc_new _ _);have aeK:W4.heap.size=w3.heap.size+1:=(by rw[<-iW];simp);have ch:=UH (k:Int) W4;have hhk:(decide (2<=(k:Int))&&decide ((k:Int)<=6))=false:=(by have:=HS.o.2.2.2.2.2;rw[show decide (2<=(k:Int))=decide (2<=k)from decide_eq_decide.2 (by omega),show decide ((k:Int)<=6)=decide (k<=6)from decide_eq_decide.2 (by omega),<-this]);rw[hhk]at ch;have H3:=γ (θ (k3.trans k34) (θ (hd.kept k34 (fun _ _ h=>h)) (θ hD (θ ((Hb.o.1.trans k3).trans k34) (θ x4 k3.size)))));have HW4:=γ iW;have b1:=ζ x4 (j:=1) rfl;have b3:=ζ x4 (j:=3) rfl;have b4:=ζ x4 (j:=4) rfl;have b5:=ζ x4 (j:=5) rfl;have g3:=free_at x4 3;have g4:=free_at x4 4;have g5:=free_at x4 5;have UJ:w3.heap.size<W4.heap.size:=(by omega);rw[<-iW]at b1 UJ;clear hd hD k3 wC hhk iW k34 x4;go_wp2_with fail;rw[HW4.o]at b1 UJ⊢;refine ch.mono ?_;clear ch;rintro e w5 ⟨rfl,rfl⟩;clear b1;clear b3 b4 b5 g3 g4 g5;have D5h: ∀q,D q->w2.heap.size<=q/\q<w3.heap.size:=H3.o.2.2.1;have hdj:nS W4 D (bQ ⟨uid,(k:Int),ins.map (bJ L),.mk 0 0 [],0⟩ pi ci p0 yR) ⟨uid,(k:Int),ins.map (bJ L),.mk 0 0 [],0⟩:=(by rw[hcells];exact H3.o.2.1);go_wp2_with fail;have kD:ε η W4 W4.drew:=δ.drew;have xY:ε η w2 W4.drew:=(H3.o.1).trans kD;obtain⟨h1,⟨cs,h2,h4⟩,h3,h5,h6,h7⟩:=Hb.o.2;obtain⟨va,vc,rfl⟩:=au h2;have hown2: ∀q,(Value.slice va L.length vc).ownBlock=some q->lo<=q/\q<w2.heap.size:=fun q hq=>h2.lt q hq;have FH:=xY.size;have hdd:=(hdj).kept kD (fun _ _ h=>h);have aip:w3.heap.size<W4.heap.size:=(κ.1 H3.o.2.2.2.2.1).1;have aeG:w2.heap.size<=w3.heap.size:=H3.o.2.2.2.2.2;have hEE: ∀q,D q->lo<=q/\q<W4.drew.heap.size/\(Value.slice va L.length vc).ownBlock≠some q:=fun q hq=>(by have hb:=D5h q hq;have hd0:W4.drew.heap.size=W4.heap.size:=rfl;exact⟨by omega,by omega,fun e=>by have:=(hown2 q e).2;omega⟩);obtain⟨v',w6,g1,g2,g3,g4⟩:=JH (w:=W4.drew) (xY.owns h2 (fun _ _ h=>h)) (bQ ⟨uid,(k:Int),ins.map (bJ L),.mk 0 0 [],0⟩ pi ci p0 yR).toList rfl (by intro z hz;simp[bQ]at hz;rcases hz with rfl|rfl|rfl|rfl|rfl|rfl|rfl<;>rfl) (ω h6 FH) (by omega);have hP:=mQ.push (xY.heap h1 id) (xY.owns h2 (fun _ _ h=>h)) (fun q hq=>⟨(h3 q hq).1,Pe (h3 q hq).2.1 FH,(h3 q hq).2.2⟩) (fun i d hd=>(h4 i d hd).kept xY (fun _ _ h=>h)) h5 (ω h6 FH) h7 hdd hEE g2 g3 g4;obtain⟨iC,Xk,rfl⟩:=au g2;have o1:=ζ (((H3.o.1)).heap h1 id) (j:=1) rfl;have hjn:J≠w3.heap.size:=(by omega);have hJw:J<W4.heap.size:=(by have:=(κ.1 h1).1;have:W4.drew.heap.size=W4.heap.size:=rfl;omega);have aio:=Hb.o.1.size;have F:A8 w J lo par (L++[nV L uid ins k none]) (.slice va L.length vc) D0 (.returned (.int .i64 0)) (w6.setCell ⟨J,1,none⟩ (.slice iC (L.length+1) Xk)):=⟨rfl,_,_,hP.1,fun q hq=>(g4 q hq).imp id (fun h=>by have:W4.drew.heap.size=W4.heap.size:=rfl;omega),fun q hq=>hq.imp id (fun h=>by have:=D5h q h;omega),((H3.o.2.2.2.1).trans kD).pure.new hP.2 (fun i hi hs=>hs)⟩;have G6:=g3.heap (xY.heap h1 id) (fun h=>by have:=hown2 J h;omega);have j61:=ζ G6 (j:=1) rfl;have jf6:=free_at G6 1;have hJ6:J<w6.heap.size:=(κ.1 G6).1;have HJ:bQ ⟨uid,(k:Int),ins.map (bJ L),.mk 0 0 [],0⟩ pi ci p0 yR= #[.string uid,.int .u8 (k:Int),.slice pi ins.length ci,.int .u8 0,.int .i64 0,.slice p0 0 yR,.int .i64 0]:=(by exact hcells);rw[HJ]at g1;have Ja: ∀o,W4.drew.alloc o=(W4.alloc o).drew:=fun o=>rfl;have QI:W4.drew.heap.size=W4.heap.size:=rfl;rw[Ja,QI]at g1;have Z:=γ (θ g1 (θ F (θ g3 (θ H3.o.2.2.2.2.1 (θ o1 hown2)))));have KD:=γ kD;clear g1 g2 g3 g4 hP F h1 h2 h3 h4 hdd hEE xY kD o1 hown2 G6 HJ;refine H2.fJ [0,1,2,3,4,5,6,7,8,9,10] (fun W=>ε (fun q=>(Value.slice va L.length vc).ownBlock=some q) W4 W) (by kernel_rfl) (by kernel_rfl) rfl KD.o.pure ?_;simp only[aco];iterate 6 (first|(apply H2.dZ rfl rfl;(intro W;go_simp;rfl);go_frame)|(apply H2.lJ rfl rfl rfl;(intro W hW;have oW:=hW.cell (p:=⟨J,1,none⟩) (fun h=>by have:=Z.o.2.2.2.2.2 J h;omega) Z.o.2.2.2.2.1;have xW:=hW.heap Z.o.2.2.2.1 (fun h=>by have:=Z.o.2.2.2.2.2 _ h;omega);have m0:=ζ xW (j:=0) rfl;have m1:=ζ xW (j:=1) rfl;have m2:=ζ xW (j:=2) rfl;have m3:=ζ xW (j:=3) rfl;have m4:=ζ xW (j:=4) rfl;have m5:=ζ xW (j:=5) rfl;have m6:=ζ xW (j:=6) rfl;clear xW;go_simp;rfl);go_frame))
 apply H2.iZ rfl rfl rfl;intro K hK;go_wp2;refine hK _ _ (fun _=>KD.o.pure.alloc _) ?_;clear hK;apply H2.iZ rfl rfl rfl;intro K hK;have ZG:=Z.o.1;have he1: ∀(b:Act),b.tmps[89]?=some (Value.slice va L.length vc)->b.eval (.tmp 89)=Value.slice va L.length vc:=fun b hb=>(by simp[Act.eval,Array.getD_eq_getD_getElem?,hb]);have he2: ∀(b:Act),b.tmps[91]?=some (Value.slice (some ⟨W4.heap.size,0,none⟩) 1 1)->b.eval (.tmp 91)=Value.slice (some ⟨W4.heap.size,0,none⟩) 1 1:=fun b hb=>(by simp[Act.eval,Array.getD_eq_getD_getElem?,hb]);refine rZ (.tmp 89) (.tmp 91) 22 rfl (.slice va L.length vc) (.slice (some ⟨W4.heap.size,0,none⟩) 1 1) (.slice iC (L.length+1) Xk) (he1 _ (by simp)) (he2 _ (by simp)) ZG ?_;refine hK _ _ (fun _=>KD.o.pure.trans Z.o.2.2.1) ?_;clear hK;go_frame;iterate 2 (apply H2.dZ rfl rfl;(intro W;go_simp;rfl);go_frame)
 apply H2.jH rfl rfl rfl;intro K2 hK2;go_wp2_with fail;apply H2.nT;go_wp2;go_ret;exact Z.o.2.1
theorem Y2 (s uid kw:ByteArray)(ins:List ByteArray)(k:Nat)(y:Ex)(J lo:Nat)(par:Int)(L:List JN)(w:World)(hl:vZ L s uid kw ins k (some y))(jv:Value)(D0:Nat->Prop)(h:mQ w J lo par L jv D0)(hu:uid.size<=maxLen)(hil:ins.length<=1000)(hnl:L.length<=1000):
 Calls prog 124 #[.pointer (some ⟨J,0,none⟩),.string s,.bool false] w (A8 w J lo par (L++[nV L uid ins k (some y)]) jv D0):=by
 obtain⟨hw,hk,hk1,Ew,hf,hco,hhx,hsz,hex⟩:=hl;have hk9:k<=9:=(by have:=(μ.1 hk).1;have h10:oU.length=10:=rfl;omega);have c1:=zZ s (by unfold maxLen;omega) w;rw[hco]at c1;obtain⟨ah,hah⟩:=acu ((jU s).1);obtain⟨bh,QK⟩:=acu ((jU s).2.1);rw[hah,QK]at c1;rw[hah]at hw;rw[QK]at hex;simp only[Option.isSome_some,Option.isSome_none]at c1 hhx;have HS:=γ (θ h (θ hw (θ hk (θ hf (θ hex hhx)))));clear h hw hk hf hex hco hah QK hhx;go_enter func124,ntmps124;go_wp2_with fail;refine c1.mono ?_;clear c1;rintro e w1 ⟨rfl,k1⟩;have c2:=BD ah _ HS.o.2.1 w1;go_wp2_with fail;refine c2.mono ?_;clear c2;rintro e w2 ⟨v,rfl,hown,k2⟩;have hrd:=Reads.aN hown;obtain⟨pa,ca,rfl⟩:=au hown;have CQ:=k1.trans k2;have st2:=HS.o.1.pure CQ;have hj:=st2.obj;have hjb:=st2.job;have j0:=ζ hj (j:=0) rfl;have j1:=ζ hj (j:=1) rfl;have c3:Calls prog 158 #[.agg #[.int .i64 par,jv],.slice pa (ins.length+1+1) ca] w2 (AZ w2 ⟨uid,(k:Int),ins.map (bJ L),.mk 0 0 [],0⟩):=PX ⟨par,L⟩ #[.int .i64 par,jv] uid kw ins k _ w2 hjb hrd HS.o.2.2.1 hk1 Ew HS.o.2.2.2.1 hu hil hnl;have hJ2:J<w2.heap.size:=(κ.1 hj).1;have Hb:=γ (θ CQ st2);clear hown hrd k1 k2 CQ st2 hj hjb;go_wp2_with fail;refine c3.mono ?_;clear c3;rintro e w3 ⟨pi,ci,p0,yR,D,rfl,hd,hD,k3⟩;have hcells:bQ ⟨uid,(k:Int),ins.map (bJ L),.mk 0 0 [],0⟩ pi ci p0 yR= #[.string uid,.int .u8 (k:Int),.slice pi ins.length ci,.int .u8 0,.int .i64 0,.slice p0 0 yR,.int .i64 0]:=(by simp[bQ,Ex.op,Ex.n,Ex.args]);rw[hcells]at hd⊢;have wC:=Hb.o.2.pure k3;obtain⟨W4,iW⟩:=acu (w3.alloc (.cells #[.string uid,.int .u8 (k:Int),.slice pi ins.length ci,.int .u8 0,.int .i64 0,.slice p0 0 yR,.int .i64 0] 42));have k34:ε η w3 W4:=(by rw[<-iW];exact δ.alloc _);have x4:W4.heap[w3.heap.size]?=some (.cells #[.string uid,.int .u8 (k:Int),.slice pi ins.length ci,.int .u8 0,.int .i64 0,.slice p0 0 yR,.int .i64 0] 42 (0,0)):=(by rw[<-iW];exact heap_alloc_new _ _);have aeK:W4.heap.size=w3.heap.size+1:=(by rw[<-iW];simp);have ch:=UH (k:Int) W4;have hhk:(decide (2<=(k:Int))&&decide ((k:Int)<=6))=true:=by have:=HS.o.2.2.2.2.2;rw[show decide (2<=(k:Int))=decide (2<=k)from decide_eq_decide.2 (by omega),show decide ((k:Int)<=6)=decide (k<=6)from decide_eq_decide.2 (by omega),<-this]
 rw[hhk]at ch;have H3:=γ (θ (k3.trans k34) (θ (hd.kept k34 (fun _ _ h=>h)) (θ hD (θ ((Hb.o.1.trans k3).trans k34) (θ x4 k3.size)))));have HW4:=γ iW;have b1:=ζ x4 (j:=1) rfl;have b3:=ζ x4 (j:=3) rfl;have b4:=ζ x4 (j:=4) rfl;have b5:=ζ x4 (j:=5) rfl;have g3:=free_at x4 3;have g4:=free_at x4 4;have g5:=free_at x4 5;have UJ:w3.heap.size<W4.heap.size:=(by omega);rw[<-iW]at b1 UJ;clear hd hD k3 wC hhk iW k34 x4;go_wp2_with fail;rw[HW4.o]at b1 UJ⊢;refine ch.mono ?_;clear ch;rintro e w5 ⟨rfl,rfl⟩;clear b1;obtain⟨tl,htl,hts,htg,htx,htd⟩:=HS.o.2.2.2.2.1 y rfl;have ct:Calls prog 161 #[.string bh,.string ⟨#[32,9]⟩] W4 fun e w'=>e= .returned (.string ⟨(Lib.trimLeftS bh.data.toList [32,9]).toArray⟩)/\Below W4.heap.size W4 w':=
  Any.strings_TrimLeft_laid trimLeftL (by kernel_rfl) bh ⟨#[32,9]⟩ W4 (by decide) (ascii_of_all (by decide))
 rw[htl]at ct;clear b3 b4 b5 g3 g4 g5;go_wp2_with fail;refine ct.mono ?_;clear ct;rintro e w5 ⟨rfl,kb⟩;have k5:ε η W4 w5:= .of_below kb;have ce:=abM ⟨tl.toArray⟩ hts htg y htx htd w5;have K5:=γ k5;clear k5 kb htl hts htg htx htd;go_wp2_with fail;refine ce.mono ?_;clear ce;rintro e w6 ⟨p,c,Dx,rfl,hx,hDx,k6⟩;have Zf:=K5.o.trans k6;have x6:=Zf.heap H3.o.2.2.2.2.1 id;have b3:=ζ x6 (j:=3) rfl;have b4:=ζ x6 (j:=4) rfl;have b5:=ζ x6 (j:=5) rfl;have g3:=free_at x6 3;have g4:=free_at x6 4;have g5:=free_at x6 5;have hX6:w3.heap.size<w6.heap.size:=(κ.1 x6).1;have hdj:nS w6 D (bQ ⟨uid,(k:Int),ins.map (bJ L),.mk 0 0 [],0⟩ pi ci p0 yR) ⟨uid,(k:Int),ins.map (bJ L),.mk 0 0 [],0⟩:=(by rw[hcells];exact H3.o.2.1.kept Zf (fun _ _ h=>h));have hjx:=hdj.agd hx;obtain⟨s7,k7⟩:=aaK x6 (.int .u8 y.op) (.int .i64 y.n) (.slice p y.args.length c);obtain⟨W7,hW7⟩:=acu (((w6.setCell ⟨w3.heap.size,3,none⟩ (.int .u8 y.op)).setCell ⟨w3.heap.size,4,none⟩ (.int .i64 y.n)).setCell ⟨w3.heap.size,5,none⟩ (.slice p y.args.length c));rw[hW7]at s7 k7;have hs5:=K5.o.size;have hs7:=k7.size;have hs6:=k6.size;have aeG:w2.heap.size<=w3.heap.size:=H3.o.2.2.2.2.2
 have ae5:=hjx.kept k7 (fun q hq hs=>by
  unfold one at hs
  rcases hq with hq|hq
  ·have:=H3.o.2.2.1 q hq;omega
  ·have:=hDx q hq;omega)
 have k27:ε η w2 W7:=(H3.o.1.trans Zf).new k7 (fun i hi hs=>by unfold one at hs;omega);have kw7:ε η w W7:=(H3.o.2.2.2.1.trans Zf).new k7 (fun i hi hs=>by unfold one at hs;have:=(H3.o.2.2.2.1).size;have:=Hb.o.1.size;omega);have D5h: ∀q,(D q\/Dx q)->w2.heap.size<=q/\q<W7.heap.size:=fun q hq=>by
  rcases hq with hq|hq
  ·have:=H3.o.2.2.1 q hq;omega
  ·have:=hDx q hq;omega
 have HH:=γ (θ ae5 (θ k27 (θ kw7 (θ s7 D5h))));have HW7:=γ hW7;have hJ6:J<w6.heap.size:=(by omega);clear hjx hdj hx hDx k6 Zf x6 ae5 k27 kw7 s7 D5h k7 hW7;go_wp2_with fail;rw[HW7.o];have aiq:bQ ⟨uid,(k:Int),ins.map (bJ L),y,0⟩ pi ci p c= #[.string uid,.int .u8 (k:Int),.slice pi ins.length ci,.int .u8 y.op,.int .i64 y.n,.slice p y.args.length c,.int .i64 0]:=(by simp[bQ]);have hxs:W7.heap[w3.heap.size]?=some (.cells #[.string uid,.int .u8 (k:Int),.slice pi ins.length ci,.int .u8 y.op,.int .i64 y.n,.slice p y.args.length c,.int .i64 0] 42 (0,0)):=HH.o.2.2.2.1;have kD:ε η W7 W7.drew:=δ.drew;have xY:ε η w2 W7.drew:=(HH.o.2.1).trans kD;obtain⟨h1,⟨cs,h2,h4⟩,h3,h5,h6,h7⟩:=Hb.o.2;obtain⟨va,vc,rfl⟩:=au h2;have hown2: ∀q,(Value.slice va L.length vc).ownBlock=some q->lo<=q/\q<w2.heap.size:=fun q hq=>h2.lt q hq;have FH:=xY.size;have hdd:=(HH.o.1).kept kD (fun _ _ h=>h);have aip:w3.heap.size<W7.heap.size:=(κ.1 hxs).1;have aeG:w2.heap.size<=w3.heap.size:=H3.o.2.2.2.2.2;have hEE: ∀q,(D q\/Dx q)->lo<=q/\q<W7.drew.heap.size/\(Value.slice va L.length vc).ownBlock≠some q:=fun q hq=>(by have hb:=HH.o.2.2.2.2 q hq;have hd0:W7.drew.heap.size=W7.heap.size:=rfl;exact⟨by omega,by omega,fun e=>by have:=(hown2 q e).2;omega⟩);obtain⟨v',w6,g1,g2,g3,g4⟩:=JH (w:=W7.drew) (xY.owns h2 (fun _ _ h=>h)) (bQ ⟨uid,(k:Int),ins.map (bJ L),y,0⟩ pi ci p c).toList rfl (by intro z hz;simp[bQ]at hz;rcases hz with rfl|rfl|rfl|rfl|rfl|rfl|rfl<;>rfl) (ω h6 FH) (by omega);have hP:=mQ.push (xY.heap h1 id) (xY.owns h2 (fun _ _ h=>h)) (fun q hq=>⟨(h3 q hq).1,Pe (h3 q hq).2.1 FH,(h3 q hq).2.2⟩) (fun i d hd=>(h4 i d hd).kept xY (fun _ _ h=>h)) h5 (ω h6 FH) h7 hdd hEE g2 g3 g4;obtain⟨iC,Xk,rfl⟩:=au g2;have o1:=ζ (((HH.o.2.1)).heap h1 id) (j:=1) rfl;have hjn:J≠w3.heap.size:=(by omega);have hJw:J<W7.heap.size:=(by have:=(κ.1 h1).1;have:W7.drew.heap.size=W7.heap.size:=rfl;omega);have aio:=Hb.o.1.size;have F:A8 w J lo par (L++[nV L uid ins k (some y)]) (.slice va L.length vc) D0 (.returned (.int .i64 0)) (w6.setCell ⟨J,1,none⟩ (.slice iC (L.length+1) Xk)):=⟨rfl,_,_,hP.1,fun q hq=>(g4 q hq).imp id (fun h=>by have:W7.drew.heap.size=W7.heap.size:=rfl;omega),fun q hq=>hq.imp id (fun h=>by have:=HH.o.2.2.2.2 q h;omega),((HH.o.2.2.1).trans kD).pure.new hP.2 (fun i hi hs=>hs)⟩;have G6:=g3.heap (xY.heap h1 id) (fun h=>by have:=hown2 J h;omega);have j61:=ζ G6 (j:=1) rfl;have jf6:=free_at G6 1;have hJ6:J<w6.heap.size:=(κ.1 G6).1;have HJ:bQ ⟨uid,(k:Int),ins.map (bJ L),y,0⟩ pi ci p c= #[.string uid,.int .u8 (k:Int),.slice pi ins.length ci,.int .u8 y.op,.int .i64 y.n,.slice p y.args.length c,.int .i64 0]:=(by exact aiq);rw[HJ]at g1;have Ja: ∀o,W7.drew.alloc o=(W7.alloc o).drew:=fun o=>rfl;have QI:W7.drew.heap.size=W7.heap.size:=rfl;rw[Ja,QI]at g1;have Z:=γ (θ g1 (θ F (θ g3 (θ hxs (θ o1 hown2)))));have KD:=γ kD;clear g1 g2 g3 g4 hP F h1 h2 h3 h4 hdd hEE xY kD o1 hown2 G6 HJ;refine H2.fJ [0,1,2,3,4,5,6,7,8,9,10] (fun W=>ε (fun q=>(Value.slice va L.length vc).ownBlock=some q) W7 W) (by kernel_rfl) (by kernel_rfl) rfl KD.o.pure ?_;simp only[aco];iterate 6 (first|(apply H2.dZ rfl rfl;(intro W;go_simp;rfl);go_frame)|(apply H2.lJ rfl rfl rfl;(intro W hW;have oW:=hW.cell (p:=⟨J,1,none⟩) (fun h=>by have:=Z.o.2.2.2.2.2 J h;omega) Z.o.2.2.2.2.1;have xW:=hW.heap Z.o.2.2.2.1 (fun h=>by have:=Z.o.2.2.2.2.2 _ h;omega);have m0:=ζ xW (j:=0) rfl;have m1:=ζ xW (j:=1) rfl;have m2:=ζ xW (j:=2) rfl;have m3:=ζ xW (j:=3) rfl;have m4:=ζ xW (j:=4) rfl;have m5:=ζ xW (j:=5) rfl;have m6:=ζ xW (j:=6) rfl;clear xW;go_simp;rfl);go_frame))
 apply H2.iZ rfl rfl rfl;intro K hK;go_wp2;refine hK _ _ (fun _=>KD.o.pure.alloc _) ?_;clear hK;apply H2.iZ rfl rfl rfl;intro K hK;have ZG:=Z.o.1;have he1: ∀(b:Act),b.tmps[89]?=some (Value.slice va L.length vc)->b.eval (.tmp 89)=Value.slice va L.length vc:=fun b hb=>(by simp[Act.eval,Array.getD_eq_getD_getElem?,hb]);have he2: ∀(b:Act),b.tmps[91]?=some (Value.slice (some ⟨W7.heap.size,0,none⟩) 1 1)->b.eval (.tmp 91)=Value.slice (some ⟨W7.heap.size,0,none⟩) 1 1:=fun b hb=>(by simp[Act.eval,Array.getD_eq_getD_getElem?,hb]);refine rZ (.tmp 89) (.tmp 91) 22 rfl (.slice va L.length vc) (.slice (some ⟨W7.heap.size,0,none⟩) 1 1) (.slice iC (L.length+1) Xk) (he1 _ (by simp)) (he2 _ (by simp)) ZG ?_;refine hK _ _ (fun _=>KD.o.pure.trans Z.o.2.2.1) ?_;clear hK;go_frame;iterate 2 (apply H2.dZ rfl rfl;(intro W;go_simp;rfl);go_frame)
 apply H2.jH rfl rfl rfl;intro K2 hK2;go_wp2_with fail;apply H2.nT;go_wp2;go_ret;exact Z.o.2.1
end
section
open Go Go.RowKit
attribute [local irreducible] dI
theorem U7 (v:Value)(l:List ByteArray)(w:World)(h:Reads w 1 v (strs l)):Calls prog 87 #[v] w (fun e w'=>e= .returned (.bool (!decide l.Nodup))/\w=w'):=by
 have hR:=h;obtain⟨pa,ca,rfl,a1,a2,a3⟩:=h.Rx;have A3:=γ (θ a3 hR);clear a3 hR;have hlen:l.length<=9223372036854775807:=(by unfold maxLen at a2;omega);go_enter func87,ntmps87;go_wp2;go_loopg [7] l.length (fun m vk wr=> ∃k:Nat,k<=l.length/\m=l.length-k/\vk= .int .i64 (k:Int)/\(l.take k).Nodup/\wr=w)
 case atStart=>exact⟨0,Nat.zero_le _,rfl,rfl,by simp,rfl⟩
 case round=>
  obtain⟨k,hk,hm,rfl,ht,rfl⟩:=hrel;have HT:=γ (θ ht hm);clear ht hm;by_cases hlt:k<l.length
  ·obtain⟨y,hy⟩: ∃y,l[k]?=some y:=⟨_,ι hlt⟩
   obtain⟨b,off,rfl,hc⟩:=A3.o.1.resolve_left (fun h=>by rw[h]at hlt;simp at hlt);have y0:=hc k y hy;have hsl:=BO (P:=prog) (w:=wr) (a:=some ⟨b,off,none⟩) (n:=l.length) (cap:=ca) (i:=k) underlying163 (agh wr) (by omega) a1;have hrd:=Reads.take A3.o.2 (i:=k) (by omega);have Qs:Reads wr 1 (.slice (some ⟨b,off,none⟩) k ca) (strs (l.take k)):=(by have:(strs l).take (k*1)=strs (l.take k):=(by rw[Nat.mul_one];unfold strs;rw[map_take]);rwa[this]at hrd);have cc:=Ld _ (l.take k) y wr Qs;have HY:=γ hy;clear hc hy A3 hrd Qs;by_cases hm:y∈l.take k
   ·have e1:decide (y∈l.take k)=true:=decide_eq_true hm
    rw[e1]at cc;have F:=γ (JL HY.o hm);clear hm e1;go_wp2_with (go_at_call 133;refine cc.mono ?_;rintro e w' ⟨rfl,rfl⟩);go_ret;exact⟨dw (by rw[decide_eq_false F.o];rfl),rfl⟩
   ·have e1:decide (y∈l.take k)=false:=decide_eq_false hm
    rw[e1]at cc;have F:=γ ((Gu HY.o).2 ⟨HT.o.1,hm⟩);clear hm e1;go_wp2_with (go_at_call 133;refine cc.mono ?_;rintro e w' ⟨rfl,rfl⟩);go_roundg (l.length-(k+1))
    case rel=>exact⟨k+1,by omega,rfl,by go_num,F.o,rfl⟩
    case measure=>have:=HT.o.2;omega
  ·have e1:k=l.length:=by omega
   subst e1;have F:=γ (show l.Nodup by have:=HT.o.1;rwa[take_length]at this);clear HT;go_wp2;go_ret;exact⟨dw (by rw[decide_eq_true F.o];rfl),rfl⟩
theorem abf (i n:Int)(B:Nat)(w:World)(hc:w.cell? ⟨B,0,none⟩=some (.int .i64 n)):Calls prog 130 #[.int .i64 i,.pointer (some ⟨B,0,none⟩)] w (fun e w'=>e= .returned (.bool (!(decide (0<=i)&&decide (i<n))))/\w=w'):=by
 by_cases h0:i<0
 ·have e1:(!(decide (0<=i)&&decide (i<n)))=true:=by rw[decide_eq_false (by omega)];rfl
  rw[e1];go_enter func130,ntmps130;go_wp2;go_ret;exact⟨rfl,rfl⟩
 ·have e1:(!(decide (0<=i)&&decide (i<n)))=decide (n<=i):=by
   rw[decide_eq_true (by omega),Bool.true_and,<-decide_not];exact decide_eq_decide.2 (by omega)
  rw[e1];go_enter func130,ntmps130;go_wp2;go_ret;exact⟨rfl,rfl⟩
def uT (n:Int)(i:Int):Bool:=!(decide (0<=i)&&decide (i<n))
theorem I8 (v:Value)(l:List Int)(n:Int)(B:Nat)(w:World)(h:Reads w 1 v (ints l))(hc:w.cell? ⟨B,0,none⟩=some (.int .i64 n)):
 Calls prog 164 #[v,.func (.func 130) #[] #[.pointer (some ⟨B,0,none⟩)]] w (fun e w'=> ∃r:Int,e= .returned (.int .i64 r)/\(decide (0<=r)=l.any (uT n))/\w=w'):=by
 obtain⟨pa,ca,rfl,a1,a2,a3⟩:=h.at;unfold maxLen at a2;have A3:=γ a3;have HC:=γ hc;clear h a3 hc;go_enter func164,ntmps164;go_wp2_with fail
 go_loopw [8] (fun i wr=> ∃k:Nat,k<=l.length/\i= .int .i64 (k:Int)/\(l.take k).any (uT n)=false/\wr=w) (fun i _=>l.length-(intOf i).toNat)
 case atStart=>exact⟨0,by omega,rfl,by simp,rfl⟩
 case round=>
  obtain⟨k,hk,rfl,ht,rfl⟩:=hrel;have HT:=γ ht;clear ht;by_cases hlt:k<l.length
  ·obtain⟨y,hy⟩: ∃y,l[k]?=some y:=⟨_,ι hlt⟩
   obtain⟨b,off,rfl,hcc⟩:=A3.o.resolve_left (fun h=>by rw[h]at hlt;simp at hlt);have y0:=hcc k y hy;have HY:=γ hy;have cc:=abf y n B wr HC.o;change Calls prog 130 #[.int .i64 y,.pointer (some ⟨B,0,none⟩)] wr (fun e w'=>e= .returned (.bool (uT n y))/\wr=w')at cc;clear hcc hy A3
   cases ho:uT n y with
   |true=>rw[ho]at cc;have F:=γ (show l.any (uT n)=true by rw[any_eq_true];exact⟨y,ς HY.o,ho⟩);clear ho;go_wp2_with (go_at_call 130;refine cc.mono ?_;rintro e w' ⟨rfl,rfl⟩);go_ret;exact⟨k,rfl,by rw[F.o,decide_eq_true (by omega)],rfl⟩
   |false=>
    rw[ho]at cc;have F:=γ (zq HY.o HT.o ho);clear ho;go_wp2_with (go_at_call 130;refine cc.mono ?_;rintro e w' ⟨rfl,rfl⟩)
    go_roundw
    case rel=>exact⟨k+1,by omega,by go_num,F.o,by first|trivial|rfl⟩
    case measure=>simp[intOf];omega
  ·have F:=γ (show l.any (uT n)=false by have:=HT.o;rwa[χ (by omega)]at this)
   have e1:k=l.length:=(by omega);subst e1;go_wp2;go_ret;exact⟨-1,rfl,by rw[F.o];rfl,rfl⟩
theorem wX (v:Value)(l:List Int)(n:Int)(B:Nat)(w:World)(h:Reads w 1 v (ints l))(hc:w.cell? ⟨B,0,none⟩=some (.int .i64 n)):
 Calls prog 129 #[v,.func (.func 130) #[] #[.pointer (some ⟨B,0,none⟩)]] w (fun e w'=>e= .returned (.bool (l.any (uT n)))/\w=w'):=by
 have c:=I8 v l n B w h hc;obtain⟨pa,ca,rfl,a1,a2,a3⟩:=h.at;clear h a3 hc;go_enter func129,ntmps129;go_wp2_with fail;refine c.mono ?_;rintro e w2 ⟨r,rfl,hn,rfl⟩;have F:=γ hn;clear hn;go_wp2;go_ret;exact⟨dw (by rw[<-F.o]),rfl⟩
theorem ZY (x:Ex):lT x=(x.op==0&&x.n==0&&decide (x.args.length=0)):=by unfold lT;cases x.args<;>simp
theorem Rj (p:Option Addr)(n cap:Nat)(w:World):Calls prog 165 #[.slice p n cap,.slice none 0 0,.func (.func 131) #[] #[]] w (fun e w'=>e= .returned (.bool (decide (n=0)))/\w=w'):=by
 go_enter func165,ntmps165;by_cases h:n=0
 ·subst h
  go_wp2;go_loopg [17] 1 (fun g vi wr=>vi= .int .i64 0/\wr=w)
  case atStart=>exact⟨rfl,rfl⟩
  case round=>obtain⟨rfl,rfl⟩:=hrel;go_wp2;go_ret;exact⟨rfl,rfl⟩
 ·have e:((n:Int) !=0)=true:=by simp;omega
  rw[decide_eq_false h];clear h;go_wp2;go_ret;exact⟨rfl,rfl⟩
theorem Jv (x:Ex)(a:Array Value)(w:World)(h:aF w a x):Calls prog 131 #[.agg a,.agg #[.int .u8 0,.int .i64 0,.slice none 0 0]] w (Gives w (.bool (lT x))):=by
 obtain⟨p,cap,rfl,h0,h1,h2,h3,h4,h5⟩:=h.parts;have HX:=γ (ZY x);unfold maxLen at h4;clear h h5;go_enter func131,ntmps131;by_cases b1:x.op=0
 ·have c1:(x.op==0)=true:=by simp[b1]
  rw[c1]at HX;by_cases b2:x.n=0
  ·have c2:(x.n==0)=true:=by simp[b2]
   rw[c2]at HX;by_cases b3:x.args.length=0
   ·have c3:decide (x.args.length=0)=true:=by simp[b3]
    rw[c3]at HX;have cc:=fun w=>Rj p x.args.length cap w;rw[c3]at cc;clear b1 b2 b3 c3;go_wp2_with fail;refine(cc _).mono ?_;rintro e w2 ⟨rfl,rfl⟩;go_wp2;go_ret;exact⟨aP (by rw[HX.o];rfl),(δ.alloc _).alloc _⟩
   ·have c3:decide (x.args.length=0)=false:=by simp[b3]
    rw[c3]at HX;have cc:=fun w=>Rj p x.args.length cap w;rw[c3]at cc;clear b1 b2 b3 c3;go_wp2_with fail;refine(cc _).mono ?_;rintro e w2 ⟨rfl,rfl⟩;go_wp2;go_ret;exact⟨aP (by rw[HX.o];rfl),(δ.alloc _).alloc _⟩
  ·have c2:(x.n==0)=false:=by simp[b2]
   rw[c2]at HX;clear b1 b2;go_wp2;go_ret;exact⟨aP (by rw[HX.o];rfl),(δ.alloc _).alloc _⟩
 ·have c1:(x.op==0)=false:=by simp[b1]
  rw[c1]at HX;clear b1;go_wp2;go_ret;exact⟨aP (by rw[HX.o];rfl),(δ.alloc _).alloc _⟩
end
section
open Go Go.RowKit
def jM (a b t:Int)(c:Bool)(n:Int):List Value:=[.int .i64 a,.int .i64 b,.int .u8 t,.bool c,.int .i64 n]
def sJ:Array Value:=(jM 0 0 0 false 0++jM 0 0 0 false 0++jM 1 1 1 false 0++jM 1 1 2 false 0++jM 1 1 1 false 0++jM 1 1 1 false 0++jM 1 1 1 true 0++jM 1 1 0 false 16++jM 2 3 0 false 0++jM 1 1 0 false 0).toArray
theorem VR (w:World):Calls prog 127 #[] w (fun e w'=>e= .returned (.agg sJ)/\ε η w w'/\w'.heap.size=w.heap.size+1):=by go_enter func127,ntmps127;apply wp_seq_k;intro K0 hK0;have RZ:=γ hK0;clear hK0;go_wp2_with fail;refine RZ.o _ _ ?_;clear RZ;obtain⟨W0,hW0⟩:=acu ((w.alloc (.cells #[.int .i64 0,.int .i64 0,.int .u8 0,.bool false,.int .i64 0,.int .i64 0,.int .i64 0,.int .u8 0,.bool false,.int .i64 0,.int .i64 0,.int .i64 0,.int .u8 0,.bool false,.int .i64 0,.int .i64 0,.int .i64 0,.int .u8 0,.bool false,.int .i64 0,.int .i64 0,.int .i64 0,.int .u8 0,.bool false,.int .i64 0,.int .i64 0,.int .i64 0,.int .u8 0,.bool false,.int .i64 0,.int .i64 0,.int .i64 0,.int .u8 0,.bool false,.int .i64 0,.int .i64 0,.int .i64 0,.int .u8 0,.bool false,.int .i64 0,.int .i64 0,.int .i64 0,.int .u8 0,.bool false,.int .i64 0,.int .i64 0,.int .i64 0,.int .u8 0,.bool false,.int .i64 0] 202)));have hB: ∃old,W0.heap[w.heap.size]?=some (.cells old 202 (0,0))/\old.size=50:=(by rw[<-hW0];exact⟨_,heap_alloc_new _ _,rfl⟩);have hk:ε η w W0/\W0.heap.size=w.heap.size+1:=(by rw[<-hW0];exact⟨δ.alloc _,by simp⟩);rw[hW0];clear hW0;obtain⟨old,hB,hold⟩:=hB;apply wp_seq_k;intro K1 hK1;apply wp_region_lit;refine wpList_buildTo rfl 201 _ rfl (some 1) rfl (jM 0 0 0 false 0).toArray (by kernel_rfl) ?_;refine wpList_buildTo rfl 201 _ rfl (some 2) rfl (jM 1 1 1 false 0).toArray (by kernel_rfl) ?_;refine wpList_buildTo rfl 201 _ rfl (some 3) rfl (jM 1 1 2 false 0).toArray (by kernel_rfl) ?_;refine wpList_buildTo rfl 201 _ rfl (some 4) rfl (jM 1 1 1 false 0).toArray (by kernel_rfl) ?_;refine wpList_buildTo rfl 201 _ rfl (some 5) rfl (jM 1 1 1 false 0).toArray (by kernel_rfl) ?_;refine wpList_buildTo rfl 201 _ rfl (some 6) rfl (jM 1 1 1 true 0).toArray (by kernel_rfl) ?_;refine wpList_buildTo rfl 201 _ rfl (some 7) rfl (jM 1 1 0 false 16).toArray (by kernel_rfl) ?_;refine wpList_buildTo rfl 201 _ rfl (some 8) rfl (jM 2 3 0 false 0).toArray (by kernel_rfl) ?_;refine wpList_buildTo rfl 201 _ rfl (some 9) rfl (jM 1 1 0 false 0).toArray (by kernel_rfl) ?_;refine wpList_buildTo rfl 202 _ rfl (some 10) rfl sJ (by kernel_rfl) ?_;refine wpList_store_rowTo rfl 202 _ _ rfl rfl w.heap.size sJ (by as_aux_lemma=>kernel_rfl) (by as_aux_lemma=>kernel_rfl) 202 old hB (by kernel_rfl) hold (by kernel_rfl) ?_;apply wpList_nil;refine hK1 _ _ ?_;have hset:=setRow_heap W0 w.heap.size old sJ 202 (0,0) hB;have hks:ε η w (W0.setRow w.heap.size sJ)/\(W0.setRow w.heap.size sJ).heap.size=w.heap.size+1:=(by unfold World.setRow;refine⟨⟨hk.1.os,hk.1.tape,hk.1.output,by simp[hk.2],fun k hkk hn=>?_⟩,by simp[hk.2]⟩;rw[<-hk.1.block k hkk hn];simp only[Array.getElem?_modify];rw[if_neg (by omega)]);have HS:=γ (θ hset hks);clear hset hks hk hB;apply wp_ret;refine bodyPost_ret (results_cell_row (p:=0) (ty:=202) rfl _ _ w.heap.size 202 sJ (0,0) _ (by as_aux_lemma=>kernel_rfl) HS.o.1 underlying202 rfl (by kernel_rfl)) rfl ⟨rfl,HS.o.2⟩
end
section
open Go Go.RowKit
attribute [local irreducible] dI iO
theorem ady (k:Int)(h1:1<=k)(h2:k<=9)(w:World):(Instr.index 202 (.agg sJ) (.int .u8 k)).run prog w= .ok (.agg (jM (jW k) (jB k) (wH k) (uh k) (jN k)).toArray) w:=by
 have hk:k=1\/k=2\/k=3\/k=4\/k=5\/k=6\/k=7\/k=8\/k=9:=by omega
 rcases hk with h|h|h|h|h|h|h|h|h
 all_goals(subst h;clear h1 h2;apply Eq.symm;apply Eq.symm;kernel_rfl)
structure yS (w:World)(B:Nat)(L M:Int)(t:Int)(c:Bool)(N:Int):Prop where
 r0:w.cell? ⟨B,0,none⟩=some (.int .i64 L)
 r1:w.cell? ⟨B,1,none⟩=some (.int .i64 M)
 r2:w.cell? ⟨B,2,none⟩=some (.int .u8 t)
 r3:w.cell? ⟨B,3,none⟩=some (.bool c)
 r4:w.cell? ⟨B,4,none⟩=some (.int .i64 N)
theorem yS.of {w:World}{B E:Nat}{L M t N:Int}{c:Bool}(h:w.heap[B]?=some (.cells #[.int .i64 L,.int .i64 M,.int .u8 t,.bool c,.int .i64 N] E (0,0))):yS w B L M t c N:=
 ⟨ζ h rfl,ζ h rfl,ζ h rfl,ζ h rfl,ζ h rfl⟩
theorem aii {w:World}{B E:Nat}{a b c d e a' b' c' d' e':Value}(h:w.heap[B]?=some (.cells #[a,b,c,d,e] E (0,0))):
 (((((w.setCell ⟨B,0,none⟩ a').setCell ⟨B,1,none⟩ b').setCell ⟨B,2,none⟩ c').setCell ⟨B,3,none⟩ d').setCell ⟨B,4,none⟩ e').heap[B]?=some (.cells #[a',b',c',d',e'] E (0,0)):=by
 have h1:=aU h 0 a';have h2:=aU h1 1 b';have h3:=aU h2 2 c';have h4:=aU h3 3 d';have h5:=aU h4 4 e';simpa using h5
theorem agp {w0 w:World}{B:Nat}{a b c d e:Value}(h:ε η w0 w)(hB:w0.heap.size<=B):
 ε η w0 (((((w.setCell ⟨B,0,none⟩ a).setCell ⟨B,1,none⟩ b).setCell ⟨B,2,none⟩ c).setCell ⟨B,3,none⟩ d).setCell ⟨B,4,none⟩ e):=
 ((((h.setCell (p:=⟨B,0,none⟩) (.inr hB) _).setCell (p:=⟨B,1,none⟩) (.inr hB) _).setCell (p:=⟨B,2,none⟩) (.inr hB) _).setCell (p:=⟨B,3,none⟩) (.inr hB) _).setCell (p:=⟨B,4,none⟩) (.inr hB) _
theorem abg (d:JN)(a:Array Value)(at_:Nat)(w:World)(h:oq w a d)(hat:at_<=1000):Calls prog 86 #[.agg a,.int .i64 (at_:Int)] w (Gives w (.bool (bf at_ d))):=by
 have h0:=h;obtain⟨pi,ci,p,cap,rfl,h1,h2,h3,h4,h5,h6,h7⟩:=h0;have H:=γ (θ h1 (θ h2 h7));clear h1 h2 h3 h h7;go_enter func86,ntmps86;go_wp2_with fail;obtain⟨W0,hW0⟩:=acu ((w.alloc (.cells (bQ d pi ci p cap) 42)).alloc (.cells #[.int .i64 (at_:Int)] 3));have k0:ε η w W0:=(by rw[<-hW0];exact(δ.alloc _).alloc _);have kA:ε η (w.alloc (.cells (bQ d pi ci p cap) 42)) W0:=(by rw[<-hW0];exact δ.alloc _);have c0:W0.cell? ⟨w.heap.size,0,none⟩=some (.string d.uid):=kA.cell id (by simp);have c1:W0.cell? ⟨w.heap.size,1,none⟩=some (.int .u8 d.kind):=kA.cell id (by simp);have c2:W0.cell? ⟨w.heap.size,2,none⟩=some (.slice pi d.ins.length ci):=kA.cell id (by simp);have c3:W0.cell? ⟨w.heap.size,3,none⟩=some (.int .u8 d.x.op):=kA.cell id (by simp);have c4:W0.cell? ⟨w.heap.size,4,none⟩=some (.int .i64 d.x.n):=kA.cell id (by simp);have c5:W0.cell? ⟨w.heap.size,5,none⟩=some (.slice p d.x.args.length cap):=kA.cell id (by simp);have c6:W0.cell? ⟨w.heap.size,6,none⟩=some (.int .i64 d.n):=kA.cell id (by simp);have e0:W0.cell? ⟨w.heap.size+1,0,none⟩=some (.int .i64 (at_:Int)):=(by rw[<-hW0];simp);rw[hW0];have K0:=γ k0;clear hW0 k0 kA;refine(name_any d.uid H.o.2.2 W0).mono ?_;rintro e W1 ⟨rfl,k1⟩;have c0:=k1.cell (p:=⟨w.heap.size,0,none⟩) id c0;have c1:=k1.cell (p:=⟨w.heap.size,1,none⟩) id c1;have c2:=k1.cell (p:=⟨w.heap.size,2,none⟩) id c2;have c3:=k1.cell (p:=⟨w.heap.size,3,none⟩) id c3;have c4:=k1.cell (p:=⟨w.heap.size,4,none⟩) id c4;have c5:=k1.cell (p:=⟨w.heap.size,5,none⟩) id c5;have c6:=k1.cell (p:=⟨w.heap.size,6,none⟩) id c6;have e0:=k1.cell (p:=⟨w.heap.size+1,0,none⟩) id e0;have K1:=γ (K0.o.trans k1);clear k1;have HM:=γ (show bf at_ d=Ag (fM d.uid) d.kind d.ins.length (fU d.ins at_) (lT d.x) (fun acc ty=>nP d.x acc ty) d.n from rfl)
 cases hn:fM d.uid with
 |false=>rw[hn]at HM;clear hn;go_wp2;go_ret;exact⟨aP (by rw[HM.o];rfl),K1.o⟩
 |true=>
  rw[hn]at HM;clear hn;by_cases hk:d.kind<1\/9<d.kind
  ·have F:=γ (show bf at_ d=false by rw[HM.o];unfold Ag;rw[if_pos (.inr hk)])
   rcases hk with hk|hk
   ·go_wp2
    go_ret;exact⟨aP (by rw[F.o]),K1.o⟩
   ·go_wp2
    go_ret;exact⟨aP (by rw[F.o]),K1.o⟩
  ·have hk1:1<=d.kind:=by omega
   have hk2:d.kind<=9:=(by omega);have hidx:=fun W=>ady d.kind hk1 hk2 W;clear hk;have hrv:(jM (jW d.kind) (jB d.kind) (wH d.kind) (uh d.kind) (jN d.kind)).toArray= #[.int .i64 (jW d.kind:Int),.int .i64 (jB d.kind:Int),.int .u8 (wH d.kind),.bool (uh d.kind),.int .i64 (jN d.kind)]:=rfl;rw[hrv]at hidx;have hjr:=fun W=>VR W;go_wp2_with fail;refine qJ (fun W=>ε η W1 W) (by kernel_rfl) (by kernel_rfl) δ.drew ?_;refine bG (k:=1) (by kernel_rfl) rfl rfl (fun W hW=>by go_simp;rfl) ?_;go_frame;refine bG (k:=2) (by kernel_rfl) rfl rfl (fun W hW=>by have z1:=hW.cell id c1;go_simp;rfl) ?_;go_frame;refine uJ (i:=0) (k:=4) (by kernel_rfl) (by kernel_rfl) rfl rfl rfl rfl ?_ ?_
   ·intro K hK
    go_wp2_with fail;refine(hjr _).mono ?_;rintro e W2 ⟨rfl,k2,s2⟩;go_wp2;refine hK _ _ k2.aW ?_;clear hK;refine bG (k:=3) (by kernel_rfl) rfl rfl (fun W hW=>by go_simp;rfl) ?_;go_frame;refine dX (k:=4) (by kernel_rfl) (by kernel_rfl) rfl rfl ?_;intro K hK;go_wp2;refine hK _ _ (k2.aW.alloc _) ?_;clear hK;refine dX (k:=5) (by kernel_rfl) (by kernel_rfl) rfl rfl ?_;intro K hK;go_wp2_with fail;have kW:ε η W1 (W2.alloc (.cells #[.int .i64 (jW d.kind:Int),.int .i64 (jB d.kind:Int),.int .u8 (wH d.kind),.bool (uh d.kind),.int .i64 (jN d.kind)] 201)):=k2.aW.alloc _;have hR:=yS.of (heap_alloc_new W2 (.cells #[.int .i64 (jW d.kind:Int),.int .i64 (jB d.kind:Int),.int .u8 (wH d.kind),.bool (uh d.kind),.int .i64 (jN d.kind)] 201));have hs2:W2.heap.size=W1.heap.size+1:=s2;rw[hs2]at hR;refine hK _ _ kW ?_;clear hK;refine uK (by kernel_rfl) kW ?_;generalize(W2.alloc (.cells #[.int .i64 (jW d.kind:Int),.int .i64 (jB d.kind:Int),.int .u8 (wH d.kind),.bool (uh d.kind),.int .i64 (jN d.kind)] 201))=W3 at*;generalize W1.heap.size+1=B at*;have K3:=γ (K1.o.trans kW);have c0:=kW.cell (p:=⟨w.heap.size,0,none⟩) id c0;have c1:=kW.cell (p:=⟨w.heap.size,1,none⟩) id c1;have c2:=kW.cell (p:=⟨w.heap.size,2,none⟩) id c2;have c3:=kW.cell (p:=⟨w.heap.size,3,none⟩) id c3;have c4:=kW.cell (p:=⟨w.heap.size,4,none⟩) id c4;have c5:=kW.cell (p:=⟨w.heap.size,5,none⟩) id c5;have c6:=kW.cell (p:=⟨w.heap.size,6,none⟩) id c6;have e0:=kW.cell (p:=⟨w.heap.size+1,0,none⟩) id e0;have l7:bf at_ d=(if d.ins.length<jW d.kind\/jB d.kind<d.ins.length\/fU d.ins at_=false then false else if d.n<min (jN d.kind) 1\/jN d.kind<d.n then false else if wH d.kind=0 then lT d.x else nP d.x (uh d.kind) (wH d.kind)):=(by rw[HM.o];unfold Ag;rw[if_neg (by simp;omega)]);have l7:=γ l7;generalize jW d.kind=L at*;generalize jB d.kind=M at*;generalize wH d.kind=ty at*;generalize uh d.kind=ac at*;generalize jN d.kind=N at*;obtain⟨r0,r1,r2,r3,r4⟩:=hR;clear kW hidx hrv hjr HM k2 s2;by_cases b1:d.ins.length<L
    ·have F:=γ (show bf at_ d=false by rw[l7.o,if_pos (.inl b1)])
     clear l7;go_wp2;go_ret;exact⟨aP (by rw[F.o]),K3.o⟩
    ·by_cases b2:M<d.ins.length
     ·have F:=γ (show bf at_ d=false by rw[l7.o,if_pos (.inr (.inl b2))])
      clear l7;go_wp2;go_ret;exact⟨aP (by rw[F.o]),K3.o⟩
     ·have ct:=FY _ d.ins W3 (H.o.2.1.pure K3.o)
      have cf:=wX _ d.ins (at_:Int) (w.heap.size+1) W3 (H.o.2.1.pure K3.o) e0;have hg:fU d.ins at_=(decide d.ins.Nodup&&!(d.ins.any (uT (at_:Int)))):=by
       unfold fU;rw[not_any_eq_all_not]
       congr 2
       funext k
       unfold uT;simp
      have HG:=γ hg;clear hg;generalize decide d.ins.Nodup=bn at*;generalize d.ins.any (uT (at_:Int))=bo at*
      cases bn with
      |false=>have F:=γ (show bf at_ d=false by rw[l7.o,if_pos (.inr (.inr (by rw[HG.o];rfl)))]);clear l7;go_wp2_with (go_at_call 128;refine ct.mono ?_;rintro e w' ⟨rfl,rfl⟩);go_ret;exact⟨aP (by rw[F.o]),K3.o⟩
      |true=>
       cases bo with
       |true=>have F:=γ (show bf at_ d=false by rw[l7.o,if_pos (.inr (.inr (by rw[HG.o];rfl)))]);clear l7;go_wp2_with (first|(go_at_call 128;refine ct.mono ?_;rintro e w' ⟨rfl,rfl⟩)|(go_at_call 129;refine cf.mono ?_;rintro e w' ⟨rfl,rfl⟩));go_ret;exact⟨aP (by rw[F.o]),K3.o⟩
       |false=>
        have wP:=γ (show bf at_ d=(if d.n<min N 1\/N<d.n then false else if ty=0 then lT d.x else nP d.x ac ty) by
         rw[l7.o,if_neg (by rw[HG.o];simp;omega)])
        clear l7 HG;by_cases b3:d.n<min N 1
        ·have F:=γ (show bf at_ d=false by rw[wP.o,if_pos (.inl b3)])
         clear wP;go_wp2_with (first|(go_at_call 128;refine ct.mono ?_;rintro e w' ⟨rfl,rfl⟩)|(go_at_call 129;refine cf.mono ?_;rintro e w' ⟨rfl,rfl⟩));go_ret;exact⟨aP (by rw[F.o]),K3.o⟩
        ·by_cases b4:N<d.n
         ·have F:=γ (show bf at_ d=false by rw[wP.o,if_pos (.inr b4)])
          clear wP;go_wp2_with (first|(go_at_call 128;refine ct.mono ?_;rintro e w' ⟨rfl,rfl⟩)|(go_at_call 129;refine cf.mono ?_;rintro e w' ⟨rfl,rfl⟩));go_ret;exact⟨aP (by rw[F.o]),K3.o⟩
         ·by_cases b5:ty=0
          ·subst b5
           have F:=γ (show bf at_ d=lT d.x by rw[wP.o,if_neg (by omega),if_pos rfl]);have cs:=Jv d.x _ W3 (aF.pure K3.o H.o.1);clear wP;go_wp2_with (first|(go_at_call 128;refine ct.mono ?_;rintro e w' ⟨rfl,rfl⟩)|(go_at_call 129;refine cf.mono ?_;rintro e w' ⟨rfl,rfl⟩));refine cs.mono ?_;rintro e W4 ⟨rfl,k4⟩;have K4:=γ (K3.o.trans k4);clear k4;go_wp2;go_ret;exact⟨aP (by rw[F.o]),K4.o⟩
          ·have F:=γ (show bf at_ d=nP d.x ac ty by rw[wP.o,if_neg (by omega),if_neg b5])
           have ci:=Zh d.x ac ty _ W3 (aF.pure K3.o H.o.1);have hb:(ty==0)=false:=(by simp[b5]);clear wP;go_wp2_with (first|(go_at_call 128;refine ct.mono ?_;rintro e w' ⟨rfl,rfl⟩)|(go_at_call 129;refine cf.mono ?_;rintro e w' ⟨rfl,rfl⟩));refine ci.mono ?_;rintro e W4 ⟨rfl,k4⟩;have K4:=γ (K3.o.trans k4);clear k4;go_wp2;go_ret;exact⟨aP (by rw[F.o]),K4.o⟩
   ·intro K hK
    go_wp2;refine hK _ _ (δ.drew.alloc _) ?_;clear hK;refine dX (k:=0) (by kernel_rfl) (by kernel_rfl) rfl rfl ?_;intro K hK;go_wp2_with fail;refine(hjr _).mono ?_;rintro e W2 ⟨rfl,k2,s2⟩;go_wp2;refine hK _ _ ((δ.drew.alloc _).trans k2) ?_;clear hK;refine bG (k:=3) (by kernel_rfl) rfl rfl (fun W hW=>by go_simp;rfl) ?_;go_frame;have hB:W2.heap[W1.heap.size]?=some (.cells #[.int .i64 0,.int .i64 0,.int .u8 0,.bool false,.int .i64 0] 201 (0,0)):=k2.heap (heap_alloc_new W1.drew (.cells #[.int .i64 0,.int .i64 0,.int .u8 0,.bool false,.int .i64 0] 201)) id;have z0:W2.cell? ⟨W1.heap.size,0,none⟩=some (.int .i64 0):=ζ hB rfl;have z1:W2.cell? ⟨W1.heap.size,1,none⟩=some (.int .i64 0):=ζ hB rfl;have z2:W2.cell? ⟨W1.heap.size,2,none⟩=some (.int .u8 0):=ζ hB rfl;have z3:W2.cell? ⟨W1.heap.size,3,none⟩=some (.bool false):=ζ hB rfl;have z4:W2.cell? ⟨W1.heap.size,4,none⟩=some (.int .i64 0):=ζ hB rfl;have f0:=free_at hB 0;have f1:=free_at hB 1;have f2:=free_at hB 2;have f3:=free_at hB 3;have f4:=free_at hB 4;have kW:=agp (a:= .int .i64 (jW d.kind:Int)) (b:= .int .i64 (jB d.kind:Int)) (c:= .int .u8 (wH d.kind)) (d:= .bool (uh d.kind)) (e:= .int .i64 (jN d.kind)) (((ε.refl η W1).drew.alloc (.cells #[.int .i64 0,.int .i64 0,.int .u8 0,.bool false,.int .i64 0] 201)).trans k2) (ξ _);have hR:=yS.of (aii (a':= .int .i64 (jW d.kind:Int)) (b':= .int .i64 (jB d.kind:Int)) (c':= .int .u8 (wH d.kind)) (d':= .bool (uh d.kind)) (e':= .int .i64 (jN d.kind)) hB);have KW:=γ kW;have HR:=γ hR;clear kW hR hB;refine dX (k:=5) (by kernel_rfl) (by kernel_rfl) rfl rfl ?_;intro K hK;go_wp2;refine hK _ _ KW.o ?_;clear hK;refine uK (by kernel_rfl) KW.o ?_;have kW:=KW.o;have hR:=HR.o;clear KW HR z0 z1 z2 z3 z4 f0 f1 f2 f3 f4;generalize(((((W2.setCell ⟨W1.heap.size,0,none⟩ (.int .i64 (jW d.kind:Int))).setCell ⟨W1.heap.size,1,none⟩ (.int .i64 (jB d.kind:Int))).setCell ⟨W1.heap.size,2,none⟩ (.int .u8 (wH d.kind))).setCell ⟨W1.heap.size,3,none⟩ (.bool (uh d.kind))).setCell ⟨W1.heap.size,4,none⟩ (.int .i64 (jN d.kind)))=W3 at*;have K3:=γ (K1.o.trans kW);have c0:=kW.cell (p:=⟨w.heap.size,0,none⟩) id c0;have c1:=kW.cell (p:=⟨w.heap.size,1,none⟩) id c1;have c2:=kW.cell (p:=⟨w.heap.size,2,none⟩) id c2;have c3:=kW.cell (p:=⟨w.heap.size,3,none⟩) id c3;have c4:=kW.cell (p:=⟨w.heap.size,4,none⟩) id c4;have c5:=kW.cell (p:=⟨w.heap.size,5,none⟩) id c5;have c6:=kW.cell (p:=⟨w.heap.size,6,none⟩) id c6;have e0:=kW.cell (p:=⟨w.heap.size+1,0,none⟩) id e0;have l7:bf at_ d=(if d.ins.length<jW d.kind\/jB d.kind<d.ins.length\/fU d.ins at_=false then false else if d.n<min (jN d.kind) 1\/jN d.kind<d.n then false else if wH d.kind=0 then lT d.x else nP d.x (uh d.kind) (wH d.kind)):=(by rw[HM.o];unfold Ag;rw[if_neg (by simp;omega)]);have l7:=γ l7;generalize jW d.kind=L at*;generalize jB d.kind=M at*;generalize wH d.kind=ty at*;generalize uh d.kind=ac at*;generalize jN d.kind=N at*;obtain⟨r0,r1,r2,r3,r4⟩:=hR;clear kW hidx hrv hjr HM k2 s2;by_cases b1:d.ins.length<L
    ·have F:=γ (show bf at_ d=false by rw[l7.o,if_pos (.inl b1)])
     clear l7;go_wp2;go_ret;exact⟨aP (by rw[F.o]),K3.o⟩
    ·by_cases b2:M<d.ins.length
     ·have F:=γ (show bf at_ d=false by rw[l7.o,if_pos (.inr (.inl b2))])
      clear l7;go_wp2;go_ret;exact⟨aP (by rw[F.o]),K3.o⟩
     ·have ct:=FY _ d.ins W3 (H.o.2.1.pure K3.o)
      have cf:=wX _ d.ins (at_:Int) (w.heap.size+1) W3 (H.o.2.1.pure K3.o) e0;have hg:fU d.ins at_=(decide d.ins.Nodup&&!(d.ins.any (uT (at_:Int)))):=by
       unfold fU;rw[not_any_eq_all_not]
       congr 2
       funext k
       unfold uT;simp
      have HG:=γ hg;clear hg;generalize decide d.ins.Nodup=bn at*;generalize d.ins.any (uT (at_:Int))=bo at*
      cases bn with
      |false=>have F:=γ (show bf at_ d=false by rw[l7.o,if_pos (.inr (.inr (by rw[HG.o];rfl)))]);clear l7;go_wp2_with (go_at_call 128;refine ct.mono ?_;rintro e w' ⟨rfl,rfl⟩);go_ret;exact⟨aP (by rw[F.o]),K3.o⟩
      |true=>
       cases bo with
       |true=>have F:=γ (show bf at_ d=false by rw[l7.o,if_pos (.inr (.inr (by rw[HG.o];rfl)))]);clear l7;go_wp2_with (first|(go_at_call 128;refine ct.mono ?_;rintro e w' ⟨rfl,rfl⟩)|(go_at_call 129;refine cf.mono ?_;rintro e w' ⟨rfl,rfl⟩));go_ret;exact⟨aP (by rw[F.o]),K3.o⟩
       |false=>
        have wP:=γ (show bf at_ d=(if d.n<min N 1\/N<d.n then false else if ty=0 then lT d.x else nP d.x ac ty) by
         rw[l7.o,if_neg (by rw[HG.o];simp;omega)])
        clear l7 HG;by_cases b3:d.n<min N 1
        ·have F:=γ (show bf at_ d=false by rw[wP.o,if_pos (.inl b3)])
         clear wP;go_wp2_with (first|(go_at_call 128;refine ct.mono ?_;rintro e w' ⟨rfl,rfl⟩)|(go_at_call 129;refine cf.mono ?_;rintro e w' ⟨rfl,rfl⟩));go_ret;exact⟨aP (by rw[F.o]),K3.o⟩
        ·by_cases b4:N<d.n
         ·have F:=γ (show bf at_ d=false by rw[wP.o,if_pos (.inr b4)])
          clear wP;go_wp2_with (first|(go_at_call 128;refine ct.mono ?_;rintro e w' ⟨rfl,rfl⟩)|(go_at_call 129;refine cf.mono ?_;rintro e w' ⟨rfl,rfl⟩));go_ret;exact⟨aP (by rw[F.o]),K3.o⟩
         ·by_cases b5:ty=0
          ·subst b5
           have F:=γ (show bf at_ d=lT d.x by rw[wP.o,if_neg (by omega),if_pos rfl]);have cs:=Jv d.x _ W3 (aF.pure K3.o H.o.1);clear wP;go_wp2_with (first|(go_at_call 128;refine ct.mono ?_;rintro e w' ⟨rfl,rfl⟩)|(go_at_call 129;refine cf.mono ?_;rintro e w' ⟨rfl,rfl⟩));refine cs.mono ?_;rintro e W4 ⟨rfl,k4⟩;have K4:=γ (K3.o.trans k4);clear k4;go_wp2;go_ret;exact⟨aP (by rw[F.o]),K4.o⟩
          ·have F:=γ (show bf at_ d=nP d.x ac ty by rw[wP.o,if_neg (by omega),if_neg b5])
           have ci:=Zh d.x ac ty _ W3 (aF.pure K3.o H.o.1);have hb:(ty==0)=false:=(by simp[b5]);clear wP;go_wp2_with (first|(go_at_call 128;refine ct.mono ?_;rintro e w' ⟨rfl,rfl⟩)|(go_at_call 129;refine cf.mono ?_;rintro e w' ⟨rfl,rfl⟩));refine ci.mono ?_;rintro e W4 ⟨rfl,k4⟩;have K4:=γ (K3.o.trans k4);clear k4;go_wp2;go_ret;exact⟨aP (by rw[F.o]),K4.o⟩
end
section
open Go Go.RowKit
def U0 (x:Ex):Prop:= ∀env,iK env->aJ (dF x env)
def wid (kind:Int):Nat:=if kind=4 then 4 else 1
def zh (kind p:Int):Int:=if kind=4 then 8*p else p
theorem QZ (x:Int):jP x<=4:=by unfold jP;omega
theorem Lc (r:Rec)(k:Nat):(jk r k).length=k:=by simp[jk]
theorem Yi (nd:dG)(T:Tab)(r:Rec):(aG nd T r).1.length<=wid nd.kind:=by
 unfold aG wid;have:=QZ (dF nd.x (aH r))
 repeat' split
 all_goals first|(simp only[Lc];omega)|(simp only[φ,Γ];omega)
theorem Ig (nd:dG): ∀(L:List Rec)(T:Tab),(aI nd T L).1.length<=wid nd.kind*L.length
 |[],T=>by simp[aI]
 |r::l,T=>by have h1:=Yi nd T r;have h2:=Ig nd l (aG nd T r).2;simp only[aI,ν,φ,Nat.mul_add,Nat.mul_one];omega
theorem zx {n:Int}(h:aJ n):wrap64 n=n:=by unfold aJ at h;unfold wrap64;omega
theorem Yf (l:List Int):aJ (sumW l):=by
 unfold sumW;have: ∀(l:List Int)(a:Int),aJ a->aJ (l.foldl (fun a x=>wrap64 (a+x)) a):=by
  intro l
  induction l with
  |nil=>exact fun a h=>h
  |cons x l ih=>exact fun a _=>ih _ (nH _)
 exact this l 0 fF
theorem Ii {T:Tab}(h:fC T)(k:Int):KO (cellOf T k):=by
 unfold cellOf
 cases e:bZ T k with
 |none=>exact⟨fF,by simp,by simp⟩
 |some c=>exact h.cell _ ((qc h.rises).1 e)
theorem YJ {T:Tab}{k:Int}{n:Nat}(h:eP T k n=0):n<=16/\(bZ T k≠none\/aX T (grp k)<40):=by
 unfold eP at h;split at h
 ·cases h
 ·split at h
  ·cases h
  ·rename_i h1 h2
   refine⟨by omega,?_⟩;by_cases hn:bZ T k=none
   ·right
    exact Nat.lt_of_not_le (fun h3=>h2 ⟨hn,h3⟩)
   ·exact .inl hn
theorem fC.dL {T:Tab}(h:fC T){k:Int}{c:Cell}(hk:aJ k)(h1:aJ c.1)(h2: ∀x∈c.2,aJ x):fC (dL T k c):=by
 unfold Go.Proofs.YtglbkodmmogomaaGreatDoor.dL;split
 ·rename_i he
  obtain⟨h3,h4⟩:=YJ he;exact h.iq hk ⟨h1,h2,h3⟩ h4
 ·exact h
theorem abe {T:Tab}(h:dO T){k:Int}{c:Cell}{p:Int×Cell}(hp:p∈dL T k c):p=(k,c)\/p∈T:=by
 unfold dL at hp;split at hp
 ·rcases(kL h).1 hp with hp|hp
  ·exact .inl hp
  ·exact .inr hp.1
 ·exact .inr hp
theorem O8 {nd:dG}{T:Tab}{r:Rec}(hx:U0 nd.x)(hT:fC T)(hr:bF r):fC (aG nd T r).2:=by
 have hc:=Ii hT r.key;have hl: ∀x∈(cellOf T r.key).2++[r.val],aJ x:=fun x hx=>by
  rcases aax.1 hx with hx|hx
  ·exact hc.2.1 x hx
  ·rw[ach.1 hx];exact hr.val
 have h7:=hT.dL (c:=((cellOf T r.key).1,(cellOf T r.key).2++[r.val])) hr.key hc.1 hl;have h6:=hT.dL (c:=(dF nd.x {aH r with acc:=(cellOf T r.key).1},[])) hr.key (hx _ ⟨hr.key,hr.val,hc.1⟩) (by simp);unfold aG
 repeat' split
 all_goals first|exact hT|exact h6|exact h7|exact h7.eu _
theorem C9 {n acc:Int}{l:List Int}:bD 7 n (acc,l)=true↔acc=0/\1<=l.length/\(l.length:Int)<n:=by
 have e:bD 7 n (acc,l)=!((!decide (acc=0))||decide (l.length<1)||decide (n<=(l.length:Int))):=(by unfold bD;rw[show decide ((7:Int)=6)=false from rfl,show decide ((7:Int)=7)=true from rfl];simp);rw[e];by_cases h1:acc=0
 ·by_cases h2:l.length<1
  ·rw[decide_eq_true h1,decide_eq_true h2]
   exact⟨fun h=>(by cases h),fun h=>by omega⟩
  ·by_cases h3:n<=(l.length:Int)
   ·rw[decide_eq_true h1,decide_eq_false h2,decide_eq_true h3]
    exact⟨fun h=>(by cases h),fun h=>by omega⟩
   ·rw[decide_eq_true h1,decide_eq_false h2,decide_eq_false h3]
    exact⟨fun _=>by omega,fun _=>rfl⟩
 ·rw[decide_eq_false h1]
  exact⟨fun h=>(by cases h),fun h=>absurd h.1 h1⟩
theorem Q5 {n acc:Int}{l:List Int}:bD 6 n (acc,l)=true↔l=[]:=by unfold bD;simp
theorem fits_all {kind n:Int}{T:Tab}(h:fP kind n T=true):stateful kind=true/\ ∀p∈T,bD kind n p.2=true:=by unfold fP at h;rw[Φ,all_eq_true]at h;exact h
theorem Jd {kind n:Int}{T:Tab}(h1:stateful kind=true)(h2: ∀p∈T,bD kind n p.2=true):fP kind n T=true:=by unfold fP;rw[Φ,all_eq_true];exact⟨h1,h2⟩
theorem Yk {nd:dG}{T:Tab}{r:Rec}(hT:fC T)(hf:fP nd.kind nd.n T=true):fP nd.kind nd.n (aG nd T r).2=true:=by
 obtain⟨h1,h2⟩:=fits_all hf;unfold aG;by_cases h6:nd.kind=6
 ·rw[if_neg (by omega),if_neg (by omega),if_neg (by omega),if_neg (by omega),if_pos h6]
  refine Jd h1 fun p hp=>?_
  rcases abe hT.rises hp with rfl|hp
  ·rw[h6];exact Q5.2 rfl
  ·exact h2 p hp
 ·have h7:nd.kind=7:=by
   unfold stateful at h1;simp at h1;omega
  rw[if_neg (by omega),if_neg (by omega),if_neg (by omega),if_neg (by omega),if_neg h6,if_pos h7];have hacc:(cellOf T r.key).1=0:=by
   unfold cellOf
   cases e:bZ T r.key with
   |none=>rfl
   |some c=>have:=h2 _ ((qc hT.rises).1 e);rw[h7]at this;obtain⟨a,l⟩:=c;exact(C9.1 this).1
  have key: ∀p∈dL T r.key ((cellOf T r.key).1,(cellOf T r.key).2++[r.val]),p.1≠r.key\/eP T r.key ((cellOf T r.key).2.length+1)≠0\/(((cellOf T r.key).2.length+1:Nat):Int)<nd.n->bD nd.kind nd.n p.2=true:=by
   intro p hp hh;by_cases hE:eP T r.key ((cellOf T r.key).2.length+1)=0
   ·unfold dL at hp
    rw[if_pos (by simpa using hE)]at hp
    rcases(kL hT.rises).1 hp with rfl|⟨hp,_⟩
    ·rw[h7]
     refine C9.2 ⟨hacc,by simp,?_⟩
     rcases hh with hh|hh|hh
     ·exact absurd rfl hh
     ·exact absurd hE hh
     ·simpa using hh
    ·exact h2 p hp
   ·unfold dL at hp
    rw[if_neg (by simpa using hE)]at hp;exact h2 p hp
  split
  ·rename_i hh
   exact Jd h1 fun p hp=>key p hp (.inr hh)
  ·exact Jd h1 fun p hp=>by obtain⟨hp,hne⟩:=sF.1 hp;exact key p hp (.inl hne)
theorem Yh {nd:dG}{T:Tab}{r:Rec}(hx:U0 nd.x)(hT:fC T)(hr:bF r): ∀q∈(aG nd T r).1,bF q:=by
 have e1:=hx _ (uY hr);have e2:=hx {aH r with acc:=(cellOf T r.key).1} ⟨hr.key,hr.val,(Ii hT r.key).1⟩;have one: ∀(q x:Rec),x∈[q]->bF q->bF x:=fun q x h k=>(by rw[ach.1 h];exact k);intro q hq;unfold aG at hq
 repeat' split at hq
 all_goals first
  |exact one _ _ hq ⟨hr.pos,hr.key,e1⟩
  |exact one _ _ hq ⟨hr.pos,e1,hr.val⟩
  |exact one _ _ hq hr
  |exact one _ _ hq ⟨hr.pos,hr.key,e2⟩
  |exact one _ _ hq ⟨hr.pos,hr.key,Yf _⟩
  |(unfold jk at hq;obtain⟨i,_,rfl⟩:=aaw.1 hq;exact⟨nH _,hr.key,nH _⟩)
  |(cases hq)
theorem EJ {nd:dG}(hx:U0 nd.x): ∀(L:List Rec)(T:Tab),fC T->(∀r∈L,bF r)->fC (aI nd T L).2/\ ∀q∈(aI nd T L).1,bF q
 |[],T,hT,_=>⟨hT,by simp[aI]⟩
 |r::l,T,hT,hL=>by
  have hr:=hL r (by simp);have ih:=EJ hx l _ (O8 hx hT hr) (fun q hq=>hL q (by simp[hq]));refine⟨ih.1,fun q hq=>?_⟩;simp only[aI]at hq
  rcases aax.1 hq with hq|hq
  ·exact Yh hx hT hr q hq
  ·exact ih.2 q hq
theorem EK {nd:dG}(hx:U0 nd.x): ∀(L:List Rec)(T:Tab),fC T->(∀r∈L,bF r)->fP nd.kind nd.n T=true->fP nd.kind nd.n (aI nd T L).2=true
 |[],T,_,_,hf=>hf
 |r::l,T,hT,hL,hf=>EK hx l _ (O8 hx hT (hL r (by simp))) (fun q hq=>hL q (by simp[hq])) (Yk hT hf)
def pq (C:Int)(L:List Rec):Prop:=L.Pairwise (fun a b=>a.pos<b.pos)/\ ∀r∈L,1<=r.pos/\r.pos<C
theorem flat_get {r:Rec}{k:Nat}:jk r k=(range k).map fun(i:Nat)=>(⟨wrap64 (wrap64 (8*r.pos)+(i:Int)),r.key,wrap64 (r.val+(i:Int))⟩:Rec):=rfl
theorem Yg {nd:dG}{T:Tab}{r:Rec}(h0:1<=r.pos)(h1:r.pos<1125899906842624):
 (aG nd T r).1.Pairwise (fun a b=>a.pos<b.pos)/\ ∀q∈(aG nd T r).1,zh nd.kind r.pos<=q.pos/\q.pos<zh nd.kind r.pos+wid nd.kind:=by
 by_cases h4:nd.kind=4
 ·have e:(aG nd T r).1=jk r (jP (dF nd.x (aH r))):=by
   unfold aG;rw[if_neg (by omega),if_neg (by omega),if_neg (by omega),if_pos h4]
  have hk:=QZ (dF nd.x (aH r));have pos: ∀i:Nat,i<4->wrap64 (wrap64 (8*r.pos)+(i:Int))=8*r.pos+i:=fun i hi=>(by rw[zx (n:=8*r.pos) ⟨by omega,by omega⟩,zx ⟨by omega,by omega⟩]);rw[e,flat_get];refine⟨?_,fun q hq=>?_⟩
  ·rw[pairwise_map]
   refine Pairwise.imp_of_mem ?_ (pairwise_lt_range (n:=jP (dF nd.x (aH r))));intro a b ha hb hab;have ha:=mem_range.1 ha;have hb:=mem_range.1 hb;simp only[pos a (by omega),pos b (by omega)];omega
  ·obtain⟨i,hi,rfl⟩:=aaw.1 hq
   have hi:=mem_range.1 hi;simp only[pos i (by omega)];unfold zh wid;rw[if_pos h4,if_pos h4];omega
 ·have key:(aG nd T r).1=[]\/ ∃q,(aG nd T r).1=[q]/\q.pos=r.pos:=by
   unfold aG
   repeat' split
   all_goals first|exact .inl rfl|exact .inr ⟨_,rfl,rfl⟩|(exact absurd (by assumption) h4)
  unfold zh wid;rw[if_neg h4,if_neg h4]
  rcases key with e|⟨q,e,hq⟩
  ·rw[e];exact⟨.nil,by simp⟩
  ·rw[e]
   refine⟨by simp,fun x hx=>?_⟩;rw[ach.1 hx,hq];omega
theorem EI {nd:dG}{C:Int}(hC:C<=1125899906842624): ∀(L:List Rec)(T:Tab),pq C L->
 (aI nd T L).1.Pairwise (fun a b=>a.pos<b.pos)/\ ∀q∈(aI nd T L).1,∃r∈L,zh nd.kind r.pos<=q.pos/\q.pos<zh nd.kind r.pos+wid nd.kind
 |[],T,_=>⟨by simp[aI],by simp[aI]⟩
 |r::l,T,⟨hp,hb⟩=>by
  obtain⟨hp1,hp2⟩:=pairwise_cons.1 hp;obtain⟨i1,i2⟩:=EI (nd:=nd) hC l (aG nd T r).2 ⟨hp2,fun q hq=>hb q (by simp[hq])⟩;have hr:=hb r (by simp);obtain⟨s1,s2⟩:=Yg (nd:=nd) (T:=T) hr.1 (by omega);have hw: ∀q∈l,zh nd.kind r.pos+wid nd.kind<=zh nd.kind q.pos:=fun q hq=>(by have:=hp1 q hq;unfold zh wid;split<;>omega);simp only[aI];refine⟨pairwise_append.2 ⟨s1,i1,fun a ha b hbb=>?_⟩,fun q hq=>?_⟩
  ·have ha:=s2 a ha
   obtain⟨x,hx,hx1,_⟩:=i2 b hbb;have:=hw x hx;omega
  ·rcases aax.1 hq with hq|hq
   ·exact⟨r,by simp,s2 q hq⟩
   ·obtain⟨x,hx,hh⟩:=i2 q hq
    exact⟨x,by simp[hx],hh⟩
theorem Yw {nd:dG}{C:Int}{L:List Rec}{T:Tab}(hC:C<=1125899906842624)(h:pq C L):pq (if nd.kind=4 then 8*C else C) (aI nd T L).1:=by
 obtain⟨h1,h2⟩:=EI (nd:=nd) hC L T h;refine⟨h1,fun q hq=>?_⟩;obtain⟨r,hr,h3,h4⟩:=h2 q hq;have:=h.2 r hr;unfold zh at h3 h4;unfold wid at h4;by_cases hk:nd.kind=4
 ·rw[if_pos hk]at h3 h4⊢;rw[if_pos hk]at h4;omega
 ·rw[if_neg hk]at h3 h4⊢;rw[if_neg hk]at h4;omega
theorem yZ {L:List Rec}(h:(L.map (·.pos)).Nodup):(aO L).Pairwise (fun a b=>a.pos<b.pos):=by have hs:=rH L;have hp:(aO L).Perm L:=mergeSort_perm L _;have hn:((aO L).map (·.pos)).Nodup:=(hp.map (·.pos)).nodup_iff.2 h;unfold Sorted at hs;rw[Nodup,pairwise_map]at hn;exact hs.imp₂ (fun a b h1 h2=>by omega) hn
theorem ET {b:Nat}{r:Rec}{C:Int}(hb:b<8)(h1:1<=r.pos)(h2:r.pos<C)(hC:C<=1125899906842624):(jc b r).pos=8*r.pos+b:=by unfold jc;simp only;rw[zx (n:=8*r.pos) ⟨by omega,by omega⟩,zx ⟨by omega,by omega⟩]
theorem FW {C:Int}(hC:C<=1125899906842624): ∀(LL:List (List Rec))(b:Nat),b+LL.length<=8->(∀L∈LL,pq C L)->
 (((jd b LL).flatten).map (·.pos)).Nodup/\ ∀q∈(jd b LL).flatten,8<=q.pos/\q.pos<8*C/\(b:Int)<=q.pos%8
 |[],b,_,_=>by simp[jd]
 |L::LL,b,hb,h=>by
  rw[φ]at hb;have ih:=FW hC LL (b+1) (by omega) (fun M hM=>h M (by simp[hM]));have hL:=h L (by simp);have hpos: ∀q∈L.map (jc b),∃r∈L,q.pos=8*r.pos+b:=fun q hq=>(by obtain⟨r,hr,rfl⟩:=aaw.1 hq;exact⟨r,hr,ET (by omega) (hL.2 r hr).1 (hL.2 r hr).2 hC⟩);have e:jd b (L::LL)=L.map (jc b)::jd (b+1) LL:=rfl;rw[e,flatten_cons,aay];refine⟨nodup_append.2 ⟨?_,ih.1,fun x hx y hy=>?_⟩,fun q hq=>?_⟩
  ·rw[Nodup,map_map,pairwise_map]
   refine Pairwise.imp_of_mem ?_ hL.1;intro a c ha hc hac;simp only[Function.comp];rw[ET (by omega) (hL.2 a ha).1 (hL.2 a ha).2 hC,ET (by omega) (hL.2 c hc).1 (hL.2 c hc).2 hC];omega
  ·obtain⟨q,hq,rfl⟩:=aaw.1 hx
   obtain⟨q',hq',rfl⟩:=aaw.1 hy;obtain⟨r,hr,hrp⟩:=hpos q hq;have:=(ih.2 q' hq').2.2;intro e;omega
  ·rcases aax.1 hq with hq|hq
   ·obtain⟨r,hr,hrp⟩:=hpos q hq
    have:=hL.2 r hr;omega
   ·have:=ih.2 q hq
    omega
theorem SX {kind C:Int}{LL:List (List Rec)}(hC:C<=1125899906842624)(h: ∀L∈LL,pq C L)(hn:kind=8/\LL.length<=3\/kind≠8/\LL.length<=1):pq (if kind=8 then 8*C else C) (jC kind LL):=by
 unfold jC
 rcases hn with⟨hk,hl⟩|⟨hk,hl⟩
 ·rw[if_pos hk,if_pos hk]
  obtain⟨h1,h2⟩:=FW hC LL 0 (by omega) h;refine⟨yZ h1,fun q hq=>?_⟩;have:=h2 q (tZ.1 hq);omega
 ·rw[if_neg hk,if_neg hk]
  have hr:pq C LL.flatten:=by
   match LL,hl with
   |[],_=>exact⟨.nil,by simp⟩
   |[L],_=>simpa using h L (by simp)
  refine⟨yZ ?_,fun q hq=>hr.2 q (tZ.1 hq)⟩;rw[Nodup,pairwise_map];exact hr.1.imp fun h=>by omega
theorem Pj {α:Type}{p:List α->Prop}(h0:p [])(h1: ∀l a,p l->p (l++[a]))(l:List α):p l:=by
 rw[<-reverse_reverse l]
 induction l.reverse with
 |nil=>exact h0
 |cons a l ih=>rw[reverse_cons];exact h1 _ _ ih
theorem wZ (l:List JN)(d:JN):bK (l++[d])=bK l++[vG (bK l) d]:=by unfold bK;rw[foldl_append];rfl
theorem Xh (l:List JN): ∀m:List JN,∃t,bK (l++m)=bK l++t:=by
 refine Pj ⟨[],by simp⟩ fun m d ih=>?_
 ·obtain⟨t,ht⟩:=ih
  refine⟨t++[vG (bK (l++m)) d],?_⟩;rw[<-append_assoc,wZ,ht,append_assoc]
theorem pX (l:List JN):(bK l).length=l.length:=by refine Pj (p:=fun l=>(bK l).length=l.length) rfl (fun l d ih=>?_) l;rw[wZ,ν,ν,ih];rfl
theorem Xg (nodes:List JN)(k:Nat): ∃t,bK nodes=bK (nodes.take k)++t:=by have:=Xh (nodes.take k) (nodes.drop k);rwa[take_append_drop]at this
theorem LJ {nodes:List JN}{k i:Nat}(hk:k<=nodes.length)(hi:i<k):(bK (nodes.take k)).getD i 0=(bK nodes).getD i 0:=by obtain⟨t,ht⟩:=Xg nodes k;rw[ht,σ,σ,Ω (by rw[pX,υ];omega)]
theorem EU {nodes:List JN}{k:Nat}{d:JN}(hd:nodes[k]?=some d):(bK nodes).getD k 0=vG (bK (nodes.take k)) d:=by have hk:=(μ.1 hd).1;have e:=LJ (nodes:=nodes) (k:=k+1) (i:=k) (by omega) (by omega);rw[<-e,ψ,hd];show(bK (nodes.take k++[d])).getD k 0=_;rw[wZ,σ,Ψ (by rw[pX,υ];omega),pX,υ];rw[show k-min k nodes.length=0 by omega];rfl
structure ad1 (nodes:List JN)(k:Nat)(d:JN):Prop where
 kind:1<=d.kind/\d.kind<=9
 name:fM d.uid=true
 ins:d.ins.length<=3
 one:d.kind≠8->d.ins.length<=1
 some:d.kind≠1->1<=d.ins.length
 src:d.kind=1↔k=0
 snk:d.kind=9↔k+1=nodes.length
 low: ∀x∈d.ins,0<=x/\x<(k:Int)
 nodup:d.ins.Nodup
 ways:(bK nodes).getD k 0<=64
 n:0<=d.n/\d.n<=16
theorem qR {j:Jb}(h:iD j=true){k:Nat}{d:JN}(hd:j.nodes[k]?=some d):ad1 j.nodes k d:=by
 obtain⟨h1,_,h3⟩:=(qB h).2 k d hd;unfold bf Ag at h1;split at h1
 ·cases h1
 rename_i ha;split at h1
 ·cases h1
 rename_i hb;split at h1
 ·cases h1
 rename_i hc;unfold aS at h3;simp only[Bool.or_eq_false_iff,bne_eq_false_iff_eq,decide_eq_false_iff_not,decide_eq_decide]at h3;obtain⟨⟨⟨⟨⟨g1,g2⟩,g3⟩,g4⟩,g5⟩,g6⟩:=h3;unfold jN at hc;have hgood:fU d.ins k=true:=by
  cases e:fU d.ins k with
  |true=>rfl
  |false=>exact absurd (.inr (.inr e)) hb
 have b1:jW d.kind<=d.ins.length:=Nat.le_of_not_lt fun h=>hb (.inl h);have b2:d.ins.length<=jB d.kind:=Nat.le_of_not_lt fun h=>hb (.inr (.inl h));unfold fU at hgood;rw[Φ,all_eq_true,decide_eq_true_eq]at hgood;refine⟨by omega,?_,?_,?_,?_,g1,g2,fun x hx=>by simpa using hgood.2 x hx,hgood.1,by omega,?_⟩
 ·cases e:fM d.uid with
  |true=>rfl
  |false=>exact absurd (.inl e) ha
 ·have:jB d.kind<=3:=by unfold jB;split;omega;split<;>omega
  omega
 ·intro e8
  have:jB d.kind<=1:=(by unfold jB;rw[if_neg e8];split<;>omega);omega
 ·intro e1
  have:1<=jW d.kind:=(by unfold jW;rw[if_neg e1];split<;>omega);omega
 ·split at hc<;>omega
def JR (nodes:List JN):Prop:= ∀d∈nodes,U0 d.x
structure ac7 (nodes:List JN)(i:Nat)(L:List Rec):Prop where
 recs: ∀q∈L,bF q
 rise:pq ((8^(i+1):Nat):Int) L
 few:(L.length:Int)<=(bK nodes).getD i 0
structure D7 (nodes:List JN)(k:Nat)(st:List (List Rec)×Tabs):Prop where
 len:st.1.length=k
 tabs:iI nodes st.2
 rows: ∀(i:Nat)(L:List Rec),st.1[i]?=some L->ac7 nodes i L
theorem Eh {C D:Int}{L:List Rec}(h:pq C L)(hCD:C<=D):pq D L:=⟨h.1,fun r hr=>by have:=h.2 r hr;omega⟩
theorem O6: ∀(LL:List (List Rec)),(LL.flatten.length:Int)=(LL.map fun L=>(L.length:Int)).sum
 |[]=>rfl
 |L::LL=>by rw[flatten_cons,ν,Θ,sum_cons,<-O6 LL];omega
theorem Ye: ∀{α:Type}(l:List α)(f g:α->Int),(∀x∈l,f x<=g x)->(l.map f).sum<=(l.map g).sum
 |_,[],_,_,_=>by simp
 |_,x::l,f,g,h=>by rw[Θ,Θ,sum_cons,sum_cons];have:=h x (by simp);have:=Ye l f g (fun y hy=>h y (by simp[hy]));omega
theorem CZ (kind:Int)(LL:List (List Rec)):(jC kind LL).length=LL.flatten.length:=by
 unfold jC;rw[jq];split
 ·exact wY 0 LL
 ·rfl
def insOf (d:JN)(M:List (List Rec)):List (List Rec):=d.ins.map fun x=>M.getD x.toNat []
def fO (r:Rec)(d:JN)(k:Nat)(M:List (List Rec)):List Rec:=if k=0 then[r]else jC d.kind (insOf d M)
theorem zi {nodes:List JN}{k:Nat}{d:JN}(hd:nodes[k]?=some d)(r:Rec)(st:List (List Rec)×Tabs):AB nodes r st k=
 (st.1++[(aI d.iL ((st.2.getD k none).getD []) (fO r d k st.1)).1],st.2.set k ((st.2.getD k none).map fun _=>(aI d.iL ((st.2.getD k none).getD []) (fO r d k st.1)).2)):=by
 have e:nodes.getD k default=d:=(by rw[σ,hd];rfl);unfold AB fO insOf;rw[e]
theorem IK {k:Nat}(hk:k<=12):8^(k+1)<=1125899906842624:=by have:8^(k+1)<=8^13:=Nat.pow_le_pow_right (by omega) (by omega);omega
theorem aaC {b:Nat}{r:Rec}(h:bF r):bF (jc b r):=⟨nH _,h.key,h.val⟩
theorem LH: ∀(LL:List (List Rec))(b:Nat),(∀L∈LL,∀q∈L,bF q)-> ∀L∈jd b LL,∀q∈L,bF q
 |[],_,_,_,hL,_,_=>by cases hL
 |M::LL,b,h,L,hL,q,hq=>by
  have e:jd b (M::LL)=M.map (jc b)::jd (b+1) LL:=rfl;rw[e]at hL
  rcases aci.1 hL with rfl|hL
  ·obtain⟨r,hr,rfl⟩:=aaw.1 hq
   exact aaC (h M (by simp) r hr)
  ·exact LH LL (b+1) (fun L' h'=>h L' (by simp[h'])) L hL q hq
theorem abK {kind:Int}{LL:List (List Rec)}(h: ∀L∈LL,∀q∈L,bF q): ∀q∈jC kind LL,bF q:=by
 intro q hq;unfold jC at hq;have hq:=tZ.1 hq;obtain⟨L,hL,hqL⟩:=mem_flatten.1 hq;split at hL
 ·exact LH LL 0 h L hL q hqL
 ·exact h L hL q hqL
theorem Xi {W:List Int}{d:JN}(h:d.kind≠1):vG W d=(d.ins.map fun k=>W.getD k.toNat 0).sum*(wid d.kind:Int):=by unfold vG wid;rw[if_neg h];split<;>rfl
theorem Qk {j:Jb}(hj:iD j=true){r:Rec}(hr:bF r)(hp:r.pos=1){k:Nat}{d:JN}(hd:j.nodes[k]?=some d){st:List (List Rec)×Tabs}(h:D7 j.nodes k st):
 (∀q∈fO r d k st.1,bF q)/\pq (if k=0 then 8 else if d.kind=8 then 8*((8^k:Nat):Int)else((8^k:Nat):Int)) (fO r d k st.1)/\((fO r d k st.1).length:Int)*(wid d.kind:Int)<=(bK j.nodes).getD k 0/\(fO r d k st.1).length<=64/\
 (k≠0->(insOf d st.1).flatten.length<=64/\(insOf d st.1).length<=3):=by
 have hm:=qR hj hd;have hlen:k<j.nodes.length:=(μ.1 hd).1;have h12:j.nodes.length<=12:=(by have:=(qB hj).1;unfold fE at this;simp only[Bool.or_eq_false_iff,decide_eq_false_iff_not]at this;omega);have hW:=EU hd;unfold fO;by_cases hk:k=0
 ·subst hk
  have h1:=hm.src.2 rfl;rw[if_pos rfl,if_pos rfl];refine⟨fun q hq=>by rw[ach.1 hq];exact hr,⟨by simp,fun q hq=>by rw[ach.1 hq,hp];omega⟩,?_,by simp,fun h=>absurd rfl h⟩;rw[hW];unfold vG wid;rw[if_pos h1,if_neg (by omega)];simp
 ·rw[if_neg hk,if_neg hk]
  have h1:d.kind≠1:=fun e=>hk (hm.src.1 e);have hrow: ∀x∈d.ins,∃L,st.1[x.toNat]?=some L/\st.1.getD x.toNat []=L/\x.toNat<k:=(by intro x hx;have hx':=hm.low x hx;have hlt:x.toNat<st.1.length:=(by rw[h.len];omega);exact⟨st.1[x.toNat],ι hlt,by simp[σ,hlt],by omega⟩);have hins: ∀L∈insOf d st.1,∃i,i<k/\ac7 j.nodes i L:=(by intro L hL;obtain⟨x,hx,rfl⟩:=aaw.1 hL;obtain⟨L,e1,e2,e3⟩:=hrow x hx;rw[e2];exact⟨_,e3,h.rows _ _ e1⟩);have hC:((8^k:Nat):Int)<=1125899906842624:=(by have:8^k<=8^(k+1):=Nat.pow_le_pow_right (by omega) (by omega);have:=IK (k:=k) (by omega);omega);have agv:((insOf d st.1).flatten.length:Int)<=(d.ins.map fun x=>(bK (j.nodes.take k)).getD x.toNat 0).sum:=(by rw[O6];unfold insOf;rw[map_map];refine Ye _ _ _ fun x hx=>?_;obtain⟨L,e1,e2,e3⟩:=hrow x hx;simp only[Function.comp];rw[e2,LJ (by omega) e3];exact(h.rows _ _ e1).few);have agr:((insOf d st.1).flatten.length:Int)*(wid d.kind:Int)<=(bK j.nodes).getD k 0:=(by rw[hW,Xi h1];exact Int.mul_le_mul_of_nonneg_right agv (by omega));have h64:(insOf d st.1).flatten.length<=64:=(by have hw:=hm.ways;have:1<=wid d.kind:=(by unfold wid;split<;>omega);have h2:((insOf d st.1).flatten.length:Int)*1<=((insOf d st.1).flatten.length:Int)*(wid d.kind:Int):=Int.mul_le_mul_of_nonneg_left (by omega) (by omega);omega);have hl3:(insOf d st.1).length<=3:=(by unfold insOf;rw[length_map];exact hm.ins);refine⟨abK fun L hL q hq=>?_,SX hC (fun L hL=>?_) ?_,by rw[CZ];exact agr,by rw[CZ];exact h64,fun _=>⟨h64,hl3⟩⟩
  ·obtain⟨i,_,ho⟩:=hins L hL
   exact ho.recs q hq
  ·obtain⟨i,hi,ho⟩:=hins L hL
   refine Eh ho.rise ?_;have:8^(i+1)<=8^k:=Nat.pow_le_pow_right (by omega) (by omega);omega
  ·by_cases e8:d.kind=8
   ·exact .inl ⟨e8,hl3⟩
   ·right;refine⟨e8,?_⟩;unfold insOf;rw[length_map];exact hm.one e8
theorem D7.step {j:Jb}(hj:iD j=true)(hR:JR j.nodes){r:Rec}(hr:bF r)(hp:r.pos=1){k:Nat}{d:JN}(hd:j.nodes[k]?=some d){st:List (List Rec)×Tabs}(h:D7 j.nodes k st):D7 j.nodes (k+1) (AB j.nodes r st k):=by
 have hm:=qR hj hd;have hlen:k<j.nodes.length:=(μ.1 hd).1;have h12:j.nodes.length<=12:=(by have:=(qB hj).1;unfold fE at this;simp only[Bool.or_eq_false_iff,decide_eq_false_iff_not]at this;omega);have hx:U0 d.iL.x:=hR d (ς hd);obtain⟨i1,i2,i3,i4,_⟩:=Qk hj hr hp hd h;have hkt:k<st.2.length:=(by rw[h.tabs.len];exact hlen);obtain⟨t,ht⟩: ∃t,st.2[k]?=some t:=⟨_,ι hkt⟩;have htk:st.2.getD k none=t:=(by rw[σ,ht];rfl);have htok:fC (t.getD []):=by
  cases hs:stateful d.kind with
  |true=>obtain⟨T,hT,h1,_⟩:=h.tabs.has k d hd hs;rw[ht]at hT;injection hT with hT;subst hT;exact h1
  |false=>have:=h.tabs.not k d hd hs;rw[ht]at this;injection this with this;subst this;exact fC.nil
 rw[zi hd,htk];obtain⟨g1,g2⟩:=EJ hx (fO r d k st.1) (t.getD []) htok i1;refine⟨by simp[h.len],⟨by simpa using h.tabs.len,fun i e he hs=>?_,fun i e he hs=>?_⟩,fun i L hL=>?_⟩
 ·rw[getElem?_set]
  split
  ·rename_i hik
   subst hik
   rw[hd]at he;injection he with he;subst he
   obtain⟨T,hT,h1,h2⟩:=h.tabs.has k d hd hs
   rw[ht]at hT;injection hT with hT;subst hT
   exact⟨_,rfl,g1,EK hx _ _ htok i1 h2⟩
  ·exact h.tabs.has i e he hs
 ·rw[getElem?_set]
  split
  ·rename_i hik
   subst hik
   rw[hd]at he;injection he with he;subst he
   have:=h.tabs.not k d hd hs
   rw[ht]at this;injection this with this;subst this
   rfl
  ·exact h.tabs.not i e he hs
 ·by_cases hi:i<k
  ·rw[Ω (by rw[h.len];exact hi)]at hL
   exact h.rows i L hL
  ·have hik:i=k:=by
    have:=(μ.1 hL).1;simp[h.len]at this;omega
   subst hik;rw[Ψ (by rw[h.len];exact ξ _),h.len,Nat.sub_self]at hL
   injection hL with hL
   subst hL;refine⟨g2,?_,?_⟩
   ·have hC:((if i=0 then 8 else if d.kind=8 then 8*((8^i:Nat):Int)else((8^i:Nat):Int)):Int)<=1125899906842624:=by
     have h1:8^(i+1)=8*8^i:=(by rw[Nat.pow_succ];omega);have:=IK (k:=i) (by omega);split
     ·omega
     ·split<;>omega
    refine Eh (Yw (nd:=d.iL) (T:=t.getD []) hC i2) ?_;have h1:8^(i+1)=8*8^i:=(by rw[Nat.pow_succ];omega);have e:d.iL.kind=d.kind:=rfl;rw[e];by_cases h0:i=0
    ·subst h0
     have:=hm.src.2 rfl;rw[if_neg (by omega),if_pos rfl];decide
    ·rw[if_neg h0]
     by_cases h4:d.kind=4
     ·rw[if_pos h4,if_neg (by omega)];omega
     ·rw[if_neg h4]
      split<;>omega
   ·have h1:=Ig d.iL (fO r d i st.1) (t.getD [])
    have e:d.iL.kind=d.kind:=rfl;rw[e]at h1;have h2:(((aI d.iL (t.getD []) (fO r d i st.1)).1.length:Nat):Int)<=((wid d.kind*(fO r d i st.1).length:Nat):Int):=(by omega);rw[Int.natCast_mul,Int.mul_comm]at h2;omega
theorem Ls {j:Jb}(hj:iD j=true)(hR:JR j.nodes){Ts:Tabs}(hT:iI j.nodes Ts){r:Rec}(hr:bF r)(hp:r.pos=1): ∀k,k<=j.nodes.length->D7 j.nodes k (iE j.nodes r Ts k)
 |0,_=>⟨rfl,hT,fun i L h=>by simp[iE]at h⟩
 |k+1,hk=>D7.step hj hR hr hp (ι (by omega)) (Ls hj hR hT hr hp k (by omega))
theorem yD {j:Jb}(hj:iD j=true)(hR:JR j.nodes){Ts:Tabs}(hT:iI j.nodes Ts){key val:Int}(hk:aJ key)(hv:aJ val):
 iI j.nodes (gW j.nodes Ts key val).2/\(∀q∈(gW j.nodes Ts key val).1,bF q)/\pq 1125899906842624 (gW j.nodes Ts key val).1/\(gW j.nodes Ts key val).1.length<=64:=by
 have hr:bF ⟨1,key,val⟩:=⟨.small (by simp) (by simp),hk,hv⟩;have h:=Ls hj hR hT hr rfl j.nodes.length (ξ _);have hh:=(qB hj).1;unfold fE at hh;simp only[Bool.or_eq_false_iff,decide_eq_false_iff_not]at hh;have hn:j.nodes.length-1<(iE j.nodes ⟨1,key,val⟩ Ts j.nodes.length).1.length:=(by rw[h.len];omega);obtain⟨L,hL⟩: ∃L,(iE j.nodes ⟨1,key,val⟩ Ts j.nodes.length).1[j.nodes.length-1]?=some L:=⟨_,ι hn⟩;have ho:=h.rows _ _ hL;have e:(gW j.nodes Ts key val).1=aO L:=(by unfold gW;simp only;rw[σ,hL];rfl);have hw:=(qR hj (k:=j.nodes.length-1) (ι (by omega))).ways;refine⟨h.tabs,?_,?_,?_⟩
 ·rw[e];exact fun q hq=>ho.recs q (tZ.1 hq)
 ·rw[e]
  refine⟨yZ ?_,fun q hq=>?_⟩
  ·rw[Nodup,pairwise_map]
   exact ho.rise.1.imp fun h=>by omega
  ·have h1:=ho.rise.2 q (tZ.1 hq)
   have:=IK (k:=j.nodes.length-1) (by omega);omega
 ·rw[e,jq]
  have:=ho.few;omega
def lW (nodes:List JN)(i:Nat):Int:=if bf i (nodes.getD i default)=false then 120 else if jR nodes i (nodes.getD i default)=true then 121 else 0
def iw (j:Jb):Int×Int:=
 if fE j=true then(0,2)else
 match(range j.nodes.length).find? (fun i=>lW j.nodes i !=0)with
 |some i=>((i:Int),lW j.nodes i)
 |none=>match(range j.nodes.length).find? (fun i=>aS j.nodes i (j.nodes.getD i default))with
  |some i=>((i:Int),122)
  |none=>(0,0)
theorem Cj {j:Jb}(h:fE j=true):iw j=(0,2):=by unfold iw;rw[if_pos h]
theorem Ah {j:Jb}(h0:fE j=false){k:Nat}(hk:k<j.nodes.length)(hp: ∀m,m<k->lW j.nodes m=0){e:Int}(he:lW j.nodes k=e)(hne:e≠0):iw j=((k:Int),e):=by have hf:(range j.nodes.length).find? (fun i=>lW j.nodes i !=0)=some k:=(by rw[find?_range_eq_some];refine⟨by rw[he];simp[hne],by simp[hk],fun m hm=>by rw[hp m hm];rfl⟩);unfold iw;rw[if_neg (by rw[h0];simp),hf];show((k:Int),lW j.nodes k)=_;rw[he]
theorem xu {j:Jb}(hp: ∀m,m<j.nodes.length->lW j.nodes m=0):(range j.nodes.length).find? (fun i=>lW j.nodes i !=0)=none:=by rw[find?_range_eq_none];intro m hm;rw[hp m hm];rfl
theorem qN {j:Jb}(h0:fE j=false)(h1: ∀m,m<j.nodes.length->lW j.nodes m=0){k:Nat}{d:JN}(hd:j.nodes[k]?=some d)(hp: ∀m e,m<k->j.nodes[m]?=some e->aS j.nodes m e=false)(hs:aS j.nodes k d=true):iw j=((k:Int),122):=by have hk:k<j.nodes.length:=(μ.1 hd).1;have hf:(range j.nodes.length).find? (fun i=>aS j.nodes i (j.nodes.getD i default))=some k:=(by rw[find?_range_eq_some];refine⟨by rw[σ,hd];exact hs,by simp[hk],fun m hm=>?_⟩;have hm':m<j.nodes.length:=(by omega);rw[σ,ι hm'];show(!aS j.nodes m j.nodes[m])=true;rw[hp m _ hm (ι hm')];rfl);unfold iw;rw[if_neg (by rw[h0];simp),xu h1,hf]
theorem IX {j:Jb}(h0:fE j=false)(h1: ∀m,m<j.nodes.length->lW j.nodes m=0)(hp: ∀m e,m<j.nodes.length->j.nodes[m]?=some e->aS j.nodes m e=false):iw j=(0,0):=by have hf:(range j.nodes.length).find? (fun i=>aS j.nodes i (j.nodes.getD i default))=none:=(by rw[find?_range_eq_none];intro m hm;rw[σ,ι hm];show(!aS j.nodes m j.nodes[m])=true;rw[hp m _ hm (ι hm)];rfl);unfold iw;rw[if_neg (by rw[h0];simp),xu h1,hf]
theorem sQ {nodes:List JN}{k:Nat}{d:JN}(hd:nodes[k]?=some d):lW nodes k=0↔bf k d=true/\jR nodes k d=false:=by unfold lW;rw[σ,hd];show(if bf k d=false then(120:Int)else if jR nodes k d=true then 121 else 0)=0↔_;cases bf k d<;>cases jR nodes k d<;>simp
theorem Rw {nodes:List JN}{k:Nat}{d:JN}(hd:nodes[k]?=some d)(h:bf k d=false):lW nodes k=120:=by unfold lW;rw[σ,hd];show(if bf k d=false then(120:Int)else if jR nodes k d=true then 121 else 0)=_;rw[if_pos h]
theorem Ru {nodes:List JN}{k:Nat}{d:JN}(hd:nodes[k]?=some d)(h:bf k d=true)(h2:jR nodes k d=true):lW nodes k=121:=by unfold lW;rw[σ,hd];show(if bf k d=false then(120:Int)else if jR nodes k d=true then 121 else 0)=_;rw[if_neg (by rw[h];simp),if_pos h2]
theorem Ak (j:Jb):iD j=decide ((iw j).2=0):=by
 have:= @xu j
 cases h0:fE j with
 |true=>rw[Cj h0];unfold iD;rw[h0];rfl
 |false=>
  cases h:iD j with
  |true=>obtain⟨_,h2⟩:=qB h;rw[IX h0 (fun m hm=>(sQ (ι hm)).2 ⟨(h2 m _ (ι hm)).1,(h2 m _ (ι hm)).2.1⟩) (fun m e _ he=>(h2 m e he).2.2)];rfl
  |false=>
   refine(decide_eq_false fun hz=>?_).symm;have:iD j=true:=by
    have h1: ∀m,m<j.nodes.length->lW j.nodes m=0:=by
     intro m hm
     cases hf:(range j.nodes.length).find? (fun i=>lW j.nodes i !=0)with
     |none=>rw[find?_range_eq_none]at hf;simpa using hf m hm
     |some i=>unfold iw at hz;rw[if_neg (by rw[h0];simp),hf]at hz;have:=find?_some hf;rw[show lW j.nodes i=0 from hz]at this;cases this
    refine abm h0 fun i d hd=>?_;have hi:i<j.nodes.length:=(μ.1 hd).1;have h3:=(sQ hd).1 (h1 i hi);refine⟨h3.1,h3.2,?_⟩
    cases hf:(range j.nodes.length).find? (fun i=>aS j.nodes i (j.nodes.getD i default))with
    |none=>rw[find?_range_eq_none]at hf;have:=hf i hi;rw[σ,hd]at this;simpa using this
    |some i=>unfold iw at hz;rw[if_neg (by rw[h0];simp),xu h1,hf]at hz;cases hz
   rw[h]at this;cases this
theorem PY {k:Nat}{d:JN}(h1:bf k d=true):d.ins.length<=3/\ ∀x∈d.ins,0<=x/\x<(k:Int):=by
 unfold bf Ag at h1;split at h1
 ·cases h1
 split at h1
 ·cases h1
 rename_i hb;have hgood:fU d.ins k=true:=by
  cases e:fU d.ins k with
  |true=>rfl
  |false=>exact absurd (.inr (.inr e)) hb
 have b2:d.ins.length<=jB d.kind:=Nat.le_of_not_lt fun h=>hb (.inr (.inl h));unfold fU at hgood;rw[Φ,all_eq_true,decide_eq_true_eq]at hgood;refine⟨?_,fun x hx=>by simpa using hgood.2 x hx⟩;have:jB d.kind<=3:=(by unfold jB;split;omega;split<;>omega);omega
def iU (W ins:List Int)(m:Nat):Int:=((ins.take m).map fun k=>W.getD k.toNat 0).sum
theorem BJ {W ins:List Int}{m:Nat}{x:Int}(h:ins[m]?=some x):iU W ins (m+1)=iU W ins m+W.getD x.toNat 0:=by unfold iU;rw[ψ,h];simp
theorem H7 {W:List Int}(h: ∀x∈W,0<=x/\x<=64)(i:Nat):0<=W.getD i 0/\W.getD i 0<=64:=by
 rw[σ]
 cases e:W[i]? with
 |none=>simp
 |some x=>exact h x (ς e)
theorem xk {W ins:List Int}(h: ∀x∈W,0<=x/\x<=64): ∀m,0<=iU W ins m/\iU W ins m<=64*(m:Int)
 |0=>by simp[iU]
 |m+1=>by
  have ih:=xk (ins:=ins) h m
  cases e:ins[m]? with
  |none=>have:iU W ins (m+1)=iU W ins m:=(by unfold iU;rw[ψ,e];simp);rw[this];omega
  |some x=>have:=H7 h x.toNat;rw[BJ e];omega
theorem Jk (W:List Int)(d:JN):vG W d=if d.kind=1 then 1 else iU W d.ins d.ins.length*(if d.kind=4 then 4 else 1):=by unfold vG iU;rw[take_length]
theorem row_ne {w:World}{base n B T E:Nat}{v:Value}{xs:List Value}{cs:Array Value}{f:Nat×Nat}(h:w.ownsRow base E 1 v n xs)(hB:w.heap[B]?=some (.cells cs T f))(hTE:T≠E):v.ownBlock≠some B:=by
 intro e
 rcases h.2 with⟨e1,_⟩|⟨g,cap,cur,e1,_,hg,_⟩
 ·rw[e1]at e;cases e
 ·rw[e1]at e
  have:g=B:=(by simpa[Value.ownBlock]using e);subst this;rw[hg]at hB
  injection hB with hB
  injection hB with _ h2 _
  exact hTE h2.symm
theorem lK {T E bytes:Nat}{z x:Value}{i:TypeInfo}(hT:prog.underlying T=some (.slice E))(hi:prog.info? E=some i)(hz:i.zero=some z)(hs:i.size=1)(hb:i.bytes=bytes)(hzc:z.cells.size=1)(hx:x.oneCell'=true)
 {wr:World} {base m:Nat} {v:Value} {xs:List Value} (hown:wr.ownsRow base E 1 v m xs) (hm:m<=100000) (hbb:bytes<=1000) (hbase:base<=wr.heap.size) (ty:TypeId):
 ∃g cap w',(Builtin.append_ #[T,T] ty #[v,.slice (some ⟨wr.heap.size,0,none⟩) 1 1]).run prog (wr.alloc (.cells #[x] E))= .ok (.slice (some ⟨g,0,none⟩) (m+1) cap) w'/\w'.ownsRow base E 1 (.slice (some ⟨g,0,none⟩) (m+1) cap) (m+1) (xs++[x])/\ε (fun k=>v.ownBlock=some k) wr w':=by
 have kA:ε η wr (wr.alloc (.cells #[x] E)):=δ.alloc _;have hr:=Reads.lit wr [x] E 1 1 rfl (by unfold maxLen;omega);obtain⟨v',n',w',b1,b2,b3,b4,_⟩:=aZ (P:=prog) base T ty E i z 1 bytes hT hi hz hs hb hzc (by omega) (kA.owns hown (fun _ _ h=>h)) hr (by intro y hy;rw[ach.1 hy];exact hx)
  (by
    simp only[length_singleton,Nat.mul_one]
    calc(m+1)*bytes<=100001*1000:=Nat.mul_le_mul (by omega) hbb
     _<=140737488355328:=by decide) (by simp;unfold maxLen;omega) (by have:=kA.size;omega)
 have hn:n'=m+1:=(by simpa using b3);subst hn;have hg: ∃g cap,v'= .slice (some ⟨g,0,none⟩) (m+1) cap:=by
  rcases b2.2 with⟨e1,_⟩|⟨g,cap,cur,e1,_⟩
  ·have:=b2.1
   have h2:=b2.2
   rcases h2 with⟨_,e2⟩|⟨g,cap,cur,e1',_⟩
   ·omega
   ·rw[e1]at e1';cases e1'
  ·exact⟨g,cap,e1⟩
 obtain⟨g,cap,rfl⟩:=hg;exact⟨g,cap,w',b1,b2,kA.pure.trans (ε.grown b4 (fun k hk _=>hk))⟩
end
