/- script.line: the first line of a job; a line of a node. -/
import Derived.Test.YtglbkodmmogomaaGreatDoorM19
import Derived.Test.YtglbkodmmogomaaGreatDoorM20
set_option linter.unusedVariables false
set_option linter.unusedSimpArgs false
set_option maxHeartbeats 2000000
set_option maxRecDepth 100000
namespace Go.Proofs.YtglbkodmmogomaaGreatDoor
open Go Go.RowKit
attribute [local irreducible] bH dP H2.bW
theorem Tryz.info42: ∃i z,Tryz.prog.info? 42=some i/\i.zero=some z/\i.size=7/\i.bytes=96/\z.cells.size=7:=by
 have h:(Tryz.prog.info? 42).map (fun i=>(i.zero,i.size,i.bytes))=some (some (.agg #[.string ByteArray.empty, .int .u8 0, .slice none 0 0, .int .u8 0, .int .i64 0, .slice none 0 0, .int .i64 0]),7,96):=by kernel_rfl
 obtain⟨i,hi,h⟩:=Option.map_eq_some_iff.1 h
 simp only[Prod.mk.injEq]at h
 exact⟨i,_,hi,h.1,h.2.1,h.2.2,by rfl⟩
theorem Dh {w:World}{base n:Nat}{va:Value}{cs:List Value}(h:w.ownsRow base 42 7 va n cs)(news:List Value)(hl:news.length=7)(h1: ∀x∈news,x.oneCell'=true)(hb:base<=w.heap.size)(hn:n<=100000):
 ∃iH w',(Builtin.append_ #[22,22] 22 #[va, .slice (some ⟨w.heap.size,0,none⟩) 1 1]).run Tryz.prog (w.alloc (.cells news.toArray 42))= .ok iH w'/\w'.ownsRow base 42 7 iH (n+1) (cs++news)/\
  Kept (fun q=>va.ownBlock=some q) w w'/\ ∀q,iH.ownBlock=some q->va.ownBlock=some q\/w.heap.size<=q:=by
 obtain⟨i,z,hi,hz,hs,hby,hzs⟩:=Tryz.info42
 have kA:Kept none' w (w.alloc (.cells news.toArray 42)):=(Kept.refl _ _).alloc _
 have hr:=Reads.lit w news 42 7 1 (by omega) (by unfold maxLen;omega)
 have hA:=kA.owns h (fun _ _ h=>h)
 have hcl:cs.length=n*7:=h.1
 obtain⟨v',n',w',b1,b2,b3,b4,_⟩:=bI (P:=Tryz.prog) base 22 22 42 i z 7 96 Tryz.underlying22 hi hz hs hby hzs (by omega) hA hr h1
  (by rw[hl];omega) (by rw[hl];unfold maxLen;omega) (by have:=kA.size;omega)
 have hn':n'=n+1:=by rw[hl]at b3;omega
 subst hn'
 refine⟨v',w',b1,b2,kA.pure.trans (Kept.grown b4 (fun k hk _=>hk)),fun q hq=>?_⟩
 have hsz:(w.alloc (.cells news.toArray 42)).heap.size=w.heap.size+1:=by simp
 have hnews: ∀j v,news[j]?=some v->(w.alloc (.cells news.toArray 42)).cell? ((⟨w.heap.size,0,none⟩:Addr).add j)=some v:=fun j v hj=>by
  rw[Addr.add_lit,World.cell?_alloc_new];simpa using hj
 rcases h.2 with⟨rfl,rfl⟩|⟨g,cap,cur,rfl,hbg,hg,hnc,hcm,hcs,htake⟩
 ·have hr:=run_append_nil (P:=Tryz.prog) (w.alloc (.cells news.toArray 42)) 22 22 42 i z Tryz.underlying22 hi hz ⟨w.heap.size,0,none⟩ 1 1 news (by rw[hs];omega) hnews (by omega) (by omega) (by omega)
  rw[b1]at hr
  injection hr with e1 e2
  rw[e1]at hq
  right
  have:(w.alloc (.cells news.toArray 42)).heap.size=q:=by simpa[Value.ownBlock]using hq
  omega
 ·by_cases hroom:n+1<=cap
  ·obtain⟨w2,hr,_⟩:=run_append_fits (P:=Tryz.prog) (w.alloc (.cells news.toArray 42)) base 22 22 42 i 7 Tryz.underlying22 hi hs g n cap cs hA ⟨w.heap.size,0,none⟩ 1 1 news (by omega) hnews h1 hroom
   rw[b1]at hr
   injection hr with e1 e2
   rw[e1]at hq
   left
   exact hq
  ·have holds: ∀j u,cs[j]?=some u->(w.alloc (.cells news.toArray 42)).cell? ((⟨g,0,none⟩:Addr).add j)=some u:=hA.cells (g:=g) rfl
   have hr:=run_append_grow (P:=Tryz.prog) (w.alloc (.cells news.toArray 42)) 22 22 42 i z Tryz.underlying22 hi hz ⟨g,0,none⟩ n cap cs (by rw[hs];exact hcl) holds ⟨w.heap.size,0,none⟩ 1 1 news (by rw[hs];omega) hnews (by omega) (by omega) (growslice_fits (by omega) (by rw[hby];omega))
   rw[b1]at hr
   injection hr with e1 e2
   rw[e1]at hq
   right
   have:(w.alloc (.cells news.toArray 42)).heap.size=q:=by simpa[Value.ownBlock]using hq
   omega
structure jk (w:World)(J lo:Nat)(par:Int)(L:List JN)(v:Value)(D:Nat->Prop):Prop where
 obj:w.heap[J]?=some (.cells #[.int .i64 par,v] 24 (0,0))
 row: ∃cs,w.ownsRow lo 42 7 v L.length cs/\ ∀(i:Nat)(d:JN),L[i]?=some d->jM w D ((cs.drop (i*7)).take 7).toArray d
 dd: ∀k,D k->lo<=k/\k<w.heap.size/\v.ownBlock≠some k
 lt:J<lo
 le:lo<=w.heap.size
 par:bF par
theorem jk.jL {w w':World}{S:Nat->Prop}{J lo:Nat}{par:Int}{L:List JN}{v:Value}{D:Nat->Prop}(h:jk w J lo par L v D)(hk:Kept S w w')(hS: ∀k,S k->k≠J/\v.ownBlock≠some k/\ ¬D k):jk w' J lo par L v D:=by
 obtain⟨h1,⟨cs,h2,h4⟩,h3,h5,h6,h7⟩:=h
 exact⟨hk.heap h1 (fun h=>(hS J h).1 rfl),⟨cs,hk.owns h2 (fun k hk2 hs=>(hS k hs).2.1 hk2),fun i d hd=>(h4 i d hd).kept hk (fun k hk2 hs=>(hS k hs).2.2 hk2)⟩,fun k hk2=>⟨(h3 k hk2).1,Nat.lt_of_lt_of_le (h3 k hk2).2.1 hk.size,(h3 k hk2).2.2⟩,h5,Nat.le_trans h6 hk.size,h7⟩
theorem jk.pure {w w':World}{J lo:Nat}{par:Int}{L:List JN}{v:Value}{D:Nat->Prop}(h:jk w J lo par L v D)(hk:Kept none' w w'):jk w' J lo par L v D:=h.jL hk (fun _ h=>h.elim)
theorem jk.job {w:World}{J lo:Nat}{par:Int}{L:List JN}{v:Value}{D:Nat->Prop}(h:jk w J lo par L v D):fA w #[.int .i64 par,v] ⟨par,L⟩:=by
 obtain⟨h1,⟨cs,h2,h4⟩,h3,h5,h6,h7⟩:=h
 exact⟨v,rfl,⟨cs,Reads.bQ h2,h2.1,fun i d hd=>(h4 i d hd).at⟩,h7⟩
theorem jk.push {w w':World}{J lo:Nat}{par:Int}{L:List JN}{v v':Value}{cs:List Value}{D E:Nat->Prop}{d:JN}{pi p:Option Addr}{ci c:Nat}(h1:w.heap[J]?=some (.cells #[.int .i64 par,v] 24 (0,0)))(h2:w.ownsRow lo 42 7 v L.length cs)
 (h3: ∀k,D k->lo<=k/\k<w.heap.size/\v.ownBlock≠some k) (h4: ∀(i:Nat)(d:JN),L[i]?=some d->jM w D ((cs.drop (i*7)).take 7).toArray d) (h5:J<lo) (h6:lo<=w.heap.size) (h7:bF par)
 (hd:jM w E (aZ d pi ci p c) d) (hE: ∀k,E k->lo<=k/\k<w.heap.size/\v.ownBlock≠some k) (g2:w'.ownsRow lo 42 7 v' (L.length+1) (cs++(aZ d pi ci p c).toList)) (g3:Kept (fun q=>v.ownBlock=some q) w w')
 (g4: ∀q,v'.ownBlock=some q->v.ownBlock=some q\/w.heap.size<=q):
 jk (w'.setCell ⟨J,1,none⟩ v') J lo par (L++[d]) v' (fun k=>D k\/E k)/\Kept (fun q=>q=J\/v.ownBlock=some q) w (w'.setCell ⟨J,1,none⟩ v'):=by
 have hJ:w'.heap[J]?=some (.cells #[.int .i64 par,v] 24 (0,0)):=g3.heap h1 (fun h=>by have:=(h2.lt J h).1;omega)
 have hset:=aS hJ 1 v'
 have ks:Kept (one J) w' (w'.setCell ⟨J,1,none⟩ v'):=Kept.setCell (p:=⟨J,1,none⟩) (Kept.refl (one J) _) (.inl rfl) _
 have hsz:=g3.size
 have hss:=ks.size
 have hcl:cs.length=L.length*7:=h2.1
 have hk1: ∀k,(D k\/E k)-> ¬(fun q=>v.ownBlock=some q) k:=fun k hk hs=>by
  rcases hk with hk|hk
  ·exact(h3 k hk).2.2 hs
  ·exact(hE k hk).2.2 hs
 have hk2: ∀k,(D k\/E k)-> ¬one J k:=fun k hk hs=>by
  unfold one at hs
  rcases hk with hk|hk
  ·have:=(h3 k hk).1;omega
  ·have:=(hE k hk).1;omega
 refine⟨⟨by simpa using hset,⟨cs++(aZ d pi ci p c).toList,by rw[List.length_append];exact ks.owns g2 (fun k hk hs=>by have:=(g2.lt k hk).1;unfold one at hs;omega),fun i u hu=>?_⟩,fun k hk=>?_,h5,by omega,h7⟩,
  (g3.mono (S':=fun q=>q=J\/v.ownBlock=some q) (fun k _ hs=> .inr hs)).new ks (fun i hi hs=> .inl hs)⟩
 ·by_cases hi:i<L.length
  ·rw[List.getElem?_append_left hi]at hu
   have hcut:((cs++(aZ d pi ci p c).toList).drop (i*7)).take 7=(cs.drop (i*7)).take 7:=by
    rw[List.drop_append_of_le_length (by omega),List.take_append_of_le_length (by rw[List.length_drop];omega)]
   rw[hcut]
   have h0:jM w (fun k=>D k\/E k) ((cs.drop (i*7)).take 7).toArray u:=fun S w2 hk hS=>h4 i u hu S w2 hk (fun k hk=>hS k (.inl hk))
   exact(h0.kept g3 hk1).kept ks hk2
  ·have hie:i=L.length:=by have:=(List.getElem?_eq_some_iff.1 hu).1;simp at this;omega
   subst hie
   rw[List.getElem?_append_right (Nat.le_refl _),Nat.sub_self]at hu
   cases hu
   have hcut:((cs++(aZ d pi ci p c).toList).drop (L.length*7)).take 7=(aZ d pi ci p c).toList:=by
    rw[<-hcl,List.drop_left];rfl
   rw[hcut]
   have h0:jM w (fun k=>D k\/E k) (aZ d pi ci p c) d:=fun S w2 hk hS=>hd S w2 hk (fun k hk=>hS k (.inr hk))
   exact(h0.kept g3 hk1).kept ks hk2
 ·have hq:lo<=k/\k<w.heap.size/\v.ownBlock≠some k:=by rcases hk with hk|hk;exact h3 k hk;exact hE k hk
  refine⟨hq.1,by omega,fun e=>?_⟩
  rcases g4 k e with e|e
  ·exact hq.2.2 e
  ·omega
theorem xX {P:Program}{w w':World}{o:Oper}{a:Act}{K:Act->World->Prop}{Q:Exit->Act->World->Prop}(s x:Operand)(t:TypeId)
 (ho:o.op= .call {callee:= .builtin .append,args:= #[s,x],argTypes:= #[t,t]}) (v u v':Value) (hs:a.eval s=v) (hx:a.eval x=u) (hr:(Builtin.append_ #[t,t] o.type #[v,u]).run P w= .ok v' w')
 (h:K (a.put o.dst v') w'):o.wp P a w K Q:=by
 unfold Oper.wp execOp
 simp only[ho,resolve,invoke,builtin,Sem.run_bind,Sem.run_pure,Result.andThen_ok,List.map_toArray,List.map_cons,List.map_nil,hs,hx,hr]
 exact h
def vX (w:World)(J lo:Nat)(par:Int)(L:List JN)(v:Value)(D:Nat->Prop)(e:Ending)(w':World):Prop:=e= .returned (.int .i64 0)/\ ∃(v':Value)(D':Nat->Prop),jk w' J lo par L v' D'/\
 (∀q,v'.ownBlock=some q->v.ownBlock=some q\/w.heap.size<=q)/\(∀q,D' q->D q\/w.heap.size<=q)/\Kept (fun q=>q=J\/v.ownBlock=some q) w w'
abbrev BD:ByteArray:=⟨#[112,97,114]⟩
theorem Nh (s ah bh d:ByteArray)(n:Int)(J lo:Nat)(w:World)(hp:ig s=(ah,bh,false))(hw:uy ah=some [BD,d])(hn:Fa d 1=some n)(Lc:bF n)(hs:s.size<=maxLen)(v0:Value)(D0:Nat->Prop)(h:jk w J lo 0 [] v0 D0):
 Calls Tryz.prog 124 #[.pointer (some ⟨J,0,none⟩), .string s, .bool true] w (vX w J lo n [] v0 D0):=by
 have c1:=uX s hs w
 rw[hp]at c1
 simp only at c1
 have HS:=Lib.hid h
 have HW:=Lib.hid hw
 have HN:=Lib.hid hn
 clear hp hw hn h
 go_enter Tryz.func124,Tryz.ntmps124
 go_wp2_with fail
 (with_reducible refine c1.mono ?_)
 clear c1
 rintro e w1 ⟨rfl,k1⟩
 have c2:=wI ah _ HW.out w1
 go_wp2_with fail
 (with_reducible refine c2.mono ?_)
 clear c2
 rintro e w2 ⟨v,rfl,hown,k2⟩
 have hrd:=Reads.bQ hown
 obtain⟨pa,ca,rfl,a1,a2,a3⟩:=hrd.GZ
 obtain⟨lb,BM,rfl,hl⟩:=a3.resolve_left (by simp)
 have l0:=hl 0 _ rfl
 have l1:=hl 1 _ rfl
 rw[Nat.add_zero]at l0
 have xE:=k1.trans k2
 have st2:=HS.out.pure xE
 have hj:=st2.obj
 have c3:Calls Tryz.prog 157 #[.string d, .int .i64 1] w2 (Gives w2 (.tuple #[.int .i64 n, .bool true])):=Ii d 1 (by omega) n HN.out w2
 unfold maxLen at a2
 have Hb:=Lib.hid (And.intro xE st2)
 clear hown hrd hl a3 k1 k2 xE st2 hj
 have hpar:(BD.toList==BD.toList)=true:=by simp
 have hlen:[BD,d].length=2:=rfl
 have hlb:lb<w2.heap.size:=by have:=block_lt_of_cell l0;simpa using this
 go_wp2_with fail
 (with_reducible refine c3.mono ?_)
 clear c3
 rintro e w3 ⟨rfl,k3⟩
 have qo:=Hb.out.2.pure k3
 have hj:=qo.obj
 have j0:=cells_at hj (j:=0) rfl
 have jf:=free_at hj 0
 have hJ3:J<w3.heap.size:=(Array.getElem?_eq_some_iff.1 hj).1
 have hset:=aS hj 0 (.int .i64 n)
 have ks:Kept (one J) w3 (w3.setCell ⟨J,0,none⟩ (.int .i64 n)):=Kept.setCell (p:=⟨J,0,none⟩) (Kept.refl (one J) _) (.inl rfl) _
 have F:=Lib.hid (show vX w J lo n [] v0 D0 (.returned (.int .i64 0)) (w3.setCell ⟨J,0,none⟩ (.int .i64 n)) by
  refine⟨rfl,v0,D0,?_,fun q hq=> .inl hq,fun q hq=> .inl hq,((Hb.out.1.trans k3).pure).new ks (fun i hi hs=> .inl hs)⟩
  obtain⟨h1,⟨cs,h2,h4⟩,h3,h5,h6,h7⟩:=qo
  have hset:=aS h1 0 (.int .i64 n)
  have hss:=ks.size
  exact⟨by simpa using hset,⟨cs,ks.owns h2 (fun k hk hs=>by have:=(h2.lt k hk).1;unfold one at hs;omega),fun i d hd=>by simp at hd⟩,fun k hk=>⟨(h3 k hk).1,by have:=(h3 k hk).2.1;omega,(h3 k hk).2.2⟩,h5,by omega,Lc⟩)
 clear qo hj hset ks k3
 go_wp2_with fail
 go_ret
 exact F.out
theorem jM.Vq {w:World}{D E:Nat->Prop}{uid:ByteArray}{k n:Int}{is:List Int}{x0 y:Ex}{pi p0 p:Option Addr}{ci c0 c:Nat}(hd:jM w D (aZ ⟨uid,k,is,x0,n⟩ pi ci p0 c0) ⟨uid,k,is,x0,n⟩)(hx:jg w E (gu y p c).toArray y):
 jM w (fun q=>D q\/E q) (aZ ⟨uid,k,is,y,n⟩ pi ci p c) ⟨uid,k,is,y,n⟩:=fun S w' hk hS=>by
 obtain⟨pi',ci',p',c',e,_,hr,h64,k0,k1,n64,us⟩:=hd S w' hk (fun q hq=>hS q (.inl hq))
 have e2:=congrArg (fun a=>a[2]?) e
 simp at e2
 obtain⟨rfl,rfl⟩:=e2
 exact⟨pi,ci,p,c,rfl,hx S w' hk (fun q hq=>hS q (.inr hq)),hr,h64,k0,k1,n64,us⟩
theorem OM {w:World}{b E:Nat}{x0 x1 x2 x3 x4 x5 x6:Value}(h:w.heap[b]?=some (.cells #[x0,x1,x2,x3,x4,x5,x6] E (0,0)))(y3 y4 y5:Value):
 (((w.setCell ⟨b,3,none⟩ y3).setCell ⟨b,4,none⟩ y4).setCell ⟨b,5,none⟩ y5).heap[b]?=some (.cells #[x0,x1,x2,y3,y4,y5,x6] E (0,0))/\Kept (one b) w (((w.setCell ⟨b,3,none⟩ y3).setCell ⟨b,4,none⟩ y4).setCell ⟨b,5,none⟩ y5):=by
 refine⟨?_,?_⟩
 ·have:=aS (aS (aS h 3 y3) 4 y4) 5 y5
  simpa using this
 ·have k3:Kept (one b) w (w.setCell ⟨b,3,none⟩ y3):=Kept.setCell (p:=⟨b,3,none⟩) (Kept.refl (one b) w) (.inl rfl) y3
  have k4:=k3.setCell (p:=⟨b,4,none⟩) (.inl rfl) y4
  exact k4.setCell (p:=⟨b,5,none⟩) (.inl rfl) y5
structure qg (nodes:List JN)(s uid kw:ByteArray)(ins:List ByteArray)(k:Nat)(x:Option Ex):Prop where
 words:uy (ig s).1=some (uid::kw::ins)
 kind:kH[k]?=some kw
 k1:1<=k
 k7:k≠7
 found: ∀i∈ins,0<=aA nodes i
 colon:(ig s).2.2=x.isSome
 hasx:x.isSome=(decide (2<=k)&&decide (k<=6))
 size:s.size<=400
 expr: ∀y,x=some y-> ∃t,Lib.trimLeftS (ig s).2.1.data.toList [32,9]=t/\(⟨t.toArray⟩:ByteArray).size<=400/\(∀p∈runes ⟨t.toArray⟩,iJ p.2)/\Lm ⟨t.toArray⟩=some y/\qc 16 y
def jP (nodes:List JN)(uid:ByteArray)(ins:List ByteArray)(k:Nat)(x:Option Ex):JN:=⟨uid,(k:Int),ins.map (aA nodes),x.getD (.mk 0 0 []),0⟩
theorem Nc (s uid kw:ByteArray)(ins:List ByteArray)(k:Nat)(J lo:Nat)(par:Int)(L:List JN)(w:World)(hl:qg L s uid kw ins k none)(jv:Value)(D0:Nat->Prop)(h:jk w J lo par L jv D0)(hu:uid.size<=maxLen)(hil:ins.length<=1000)(hnl:L.length<=1000):
 Calls Tryz.prog 124 #[.pointer (some ⟨J,0,none⟩), .string s, .bool false] w (vX w J lo par (L++[jP L uid ins k none]) jv D0):=by
 obtain⟨hw,hk,hk1,QT,hf,hco,hhx,hsz,hex⟩:=hl
 have hk9:k<=9:=by
  have:=(List.getElem?_eq_some_iff.1 hk).1
  have h10:kH.length=10:=rfl
  omega
 have c1:=uX s (by unfold maxLen;omega) w
 rw[hco]at c1
 obtain⟨ah,hah⟩: ∃ah,(ig s).1=ah:=⟨_,rfl⟩
 obtain⟨bh,Gm⟩: ∃bh,(ig s).2.1=bh:=⟨_,rfl⟩
 rw[hah,Gm]at c1
 rw[hah]at hw
 rw[Gm]at hex
 simp only[Option.isSome_some,Option.isSome_none]at c1 hhx
 have HS:=Lib.hid (And.intro h (And.intro hw (And.intro hk (And.intro hf (And.intro hex hhx)))))
 clear h hw hk hf hex hco hah Gm hhx
 go_enter Tryz.func124,Tryz.ntmps124
 go_wp2_with fail
 (with_reducible refine c1.mono ?_)
 clear c1
 rintro e w1 ⟨rfl,k1⟩
 have c2:=wI ah _ HS.out.2.1 w1
 go_wp2_with fail
 (with_reducible refine c2.mono ?_)
 clear c2
 rintro e w2 ⟨v,rfl,hown,k2⟩
 have hrd:=Reads.bQ hown
 obtain⟨pa,ca,rfl⟩:=ay hown
 have xE:=k1.trans k2
 have st2:=HS.out.1.pure xE
 have hj:=st2.obj
 have hjb:=st2.job
 have j0:=cells_at hj (j:=0) rfl
 have j1:=cells_at hj (j:=1) rfl
 have c3:Calls Tryz.prog 158 #[.agg #[.int .i64 par,jv], .slice pa (ins.length+1+1) ca] w2 (vW w2 ⟨uid,(k:Int),ins.map (aA L), .mk 0 0 [],0⟩):=Fe ⟨par,L⟩ #[.int .i64 par,jv] uid kw ins k _ w2 hjb hrd HS.out.2.2.1 hk1 QT HS.out.2.2.2.1 hu hil hnl
 have hJ2:J<w2.heap.size:=(Array.getElem?_eq_some_iff.1 hj).1
 have Hb:=Lib.hid (And.intro xE st2)
 clear hown hrd k1 k2 xE st2 hj hjb
 go_wp2_with fail
 (with_reducible refine c3.mono ?_)
 clear c3
 rintro e w3 ⟨pi,ci,p0,tq,D,rfl,hd,hD,k3⟩
 have hcells:aZ ⟨uid,(k:Int),ins.map (aA L), .mk 0 0 [],0⟩ pi ci p0 tq= #[.string uid, .int .u8 (k:Int), .slice pi ins.length ci, .int .u8 0, .int .i64 0, .slice p0 0 tq, .int .i64 0]:=by simp[aZ,Ex.op,Ex.n,Ex.args]
 rw[hcells]at hd⊢
 have qo:=Hb.out.2.pure k3
 obtain⟨W4,gJ⟩: ∃W4,w3.alloc (.cells #[.string uid, .int .u8 (k:Int), .slice pi ins.length ci, .int .u8 0, .int .i64 0, .slice p0 0 tq, .int .i64 0] 42)=W4:=⟨_,rfl⟩
 have k34:Kept none' w3 W4:=by rw[<-gJ];exact(Kept.refl _ _).alloc _
 have x4:W4.heap[w3.heap.size]?=some (.cells #[.string uid, .int .u8 (k:Int), .slice pi ins.length ci, .int .u8 0, .int .i64 0, .slice p0 0 tq, .int .i64 0] 42 (0,0)):=by rw[<-gJ];exact heap_alloc_new _ _
 have TY:W4.heap.size=w3.heap.size+1:=by rw[<-gJ];simp
 have ch:=Jp (k:Int) W4
 have hhk:(decide (2<=(k:Int))&&decide ((k:Int)<=6))=false:=by
  have:=HS.out.2.2.2.2.2
  rw[show decide (2<=(k:Int))=decide (2<=k)from decide_eq_decide.2 (by omega),show decide ((k:Int)<=6)=decide (k<=6)from decide_eq_decide.2 (by omega),<-this]
 rw[hhk]at ch
 have H3:=Lib.hid (And.intro (k3.trans k34) (And.intro (hd.kept k34 (fun _ _ h=>h)) (And.intro hD (And.intro ((Hb.out.1.trans k3).trans k34) (And.intro x4 k3.size)))))
 have Vk:=Lib.hid gJ
 have b1:=cells_at x4 (j:=1) rfl
 have b3:=cells_at x4 (j:=3) rfl
 have b4:=cells_at x4 (j:=4) rfl
 have b5:=cells_at x4 (j:=5) rfl
 have g3:=free_at x4 3
 have g4:=free_at x4 4
 have g5:=free_at x4 5
 have Jq:w3.heap.size<W4.heap.size:=by omega
 rw[<-gJ]at b1 Jq
 clear hd hD k3 qo hhk gJ k34 x4
 go_wp2_with fail
 rw[Vk.out]at b1 Jq⊢
 (with_reducible refine ch.mono ?_)
 clear ch
 rintro e w5 ⟨rfl,rfl⟩
 clear b1
 clear b3 b4 b5 g3 g4 g5
 have OC: ∀q,D q->w2.heap.size<=q/\q<w3.heap.size:=H3.out.2.2.1
 have hdj:jM W4 D (aZ ⟨uid,(k:Int),ins.map (aA L), .mk 0 0 [],0⟩ pi ci p0 tq) ⟨uid,(k:Int),ins.map (aA L), .mk 0 0 [],0⟩:=by rw[hcells];exact H3.out.2.1
 go_wp2_with fail
 have kD:Kept none' W4 W4.drew:=(Kept.refl _ _).drew
 have rQ:Kept none' w2 W4.drew:=(H3.out.1).trans kD
 obtain⟨h1,⟨cs,h2,h4⟩,h3,h5,h6,h7⟩:=Hb.out.2
 obtain⟨va,vc,rfl⟩:=ay h2
 have hown2: ∀q,(Value.slice va L.length vc).ownBlock=some q->lo<=q/\q<w2.heap.size:=fun q hq=>h2.lt q hq
 have zq:=rQ.size
 have hdd:=(hdj).kept kD (fun _ _ h=>h)
 have XI:w3.heap.size<W4.heap.size:=(Array.getElem?_eq_some_iff.1 H3.out.2.2.2.2.1).1
 have TV:w2.heap.size<=w3.heap.size:=H3.out.2.2.2.2.2
 have hEE: ∀q,D q->lo<=q/\q<W4.drew.heap.size/\(Value.slice va L.length vc).ownBlock≠some q:=fun q hq=>by
  have hb:=OC q hq
  have hd0:W4.drew.heap.size=W4.heap.size:=rfl
  exact⟨by omega,by omega,fun e=>by have:=(hown2 q e).2;omega⟩
 obtain⟨v',w6,g1,g2,g3,g4⟩:=Dh (w:=W4.drew) (rQ.owns h2 (fun _ _ h=>h)) (aZ ⟨uid,(k:Int),ins.map (aA L), .mk 0 0 [],0⟩ pi ci p0 tq).toList rfl (by intro z hz;simp[aZ]at hz;rcases hz with rfl|rfl|rfl|rfl|rfl|rfl|rfl<;>rfl) (Nat.le_trans h6 zq) (by omega)
 have hP:=jk.push (rQ.heap h1 (fun h=>h)) (rQ.owns h2 (fun _ _ h=>h)) (fun q hq=>⟨(h3 q hq).1,Nat.lt_of_lt_of_le (h3 q hq).2.1 zq,(h3 q hq).2.2⟩) (fun i d hd=>(h4 i d hd).kept rQ (fun _ _ h=>h)) h5 (Nat.le_trans h6 zq) h7 hdd hEE g2 g3 g4
 obtain⟨iH,LU,rfl⟩:=ay g2
 have o1:=cells_at (((H3.out.1)).heap h1 (fun h=>h)) (j:=1) rfl
 have hjn:J≠w3.heap.size:=by omega
 have Xa:J<W4.heap.size:=by have:=(Array.getElem?_eq_some_iff.1 h1).1;have:W4.drew.heap.size=W4.heap.size:=rfl;omega
 have XH:=Hb.out.1.size
 have F:vX w J lo par (L++[jP L uid ins k none]) (.slice va L.length vc) D0 (.returned (.int .i64 0)) (w6.setCell ⟨J,1,none⟩ (.slice iH (L.length+1) LU)):=⟨rfl,_,_,hP.1,fun q hq=>(g4 q hq).imp id (fun h=>by have:W4.drew.heap.size=W4.heap.size:=rfl;omega),fun q hq=>hq.imp id (fun h=>by have:=OC q h;omega),((H3.out.2.2.2.1).trans kD).pure.new hP.2 (fun i hi hs=>hs)⟩
 have Ap:=g3.heap (rQ.heap h1 (fun h=>h)) (fun h=>by have:=hown2 J h;omega)
 have j61:=cells_at Ap (j:=1) rfl
 have jf6:=free_at Ap 1
 have Xb:J<w6.heap.size:=(Array.getElem?_eq_some_iff.1 Ap).1
 have HJ:aZ ⟨uid,(k:Int),ins.map (aA L), .mk 0 0 [],0⟩ pi ci p0 tq= #[.string uid, .int .u8 (k:Int), .slice pi ins.length ci, .int .u8 0, .int .i64 0, .slice p0 0 tq, .int .i64 0]:=by exact hcells
 rw[HJ]at g1
 have Qc: ∀o,W4.drew.alloc o=(W4.alloc o).drew:=fun o=>rfl
 have Qb:W4.drew.heap.size=W4.heap.size:=rfl
 rw[Qc,Qb]at g1
 have Z:=Lib.hid (And.intro g1 (And.intro F (And.intro g3 (And.intro H3.out.2.2.2.2.1 (And.intro o1 hown2)))))
 have KD:=Lib.hid kD
 clear g1 g2 g3 g4 hP F h1 h2 h3 h4 hdd hEE rQ kD o1 hown2 Ap HJ
 refine H2.kG [0,1,2,3,4,5,6,7,8,9,10] (fun W=>Kept (fun q=>(Value.slice va L.length vc).ownBlock=some q) W4 W) (by kernel_rfl) (by kernel_rfl) rfl KD.out.pure ?_
 simp only[List.map_cons,List.map_nil,List.getElem?_toArray,List.getElem?_cons_zero,List.getElem?_cons_succ,Option.getD_some]
 iterate 6 (first|(apply H2.jW rfl rfl;(intro W;go_simp;rfl);go_frame)|(apply H2.rC rfl rfl rfl;(intro W hW;have oW:=hW.cell (p:=⟨J,1,none⟩) (fun h=>by have:=Z.out.2.2.2.2.2 J h;omega) Z.out.2.2.2.2.1;have xW:=hW.heap Z.out.2.2.2.1 (fun h=>by have:=Z.out.2.2.2.2.2 _ h;omega);have m0:=cells_at xW (j:=0) rfl;have m1:=cells_at xW (j:=1) rfl;have m2:=cells_at xW (j:=2) rfl;have m3:=cells_at xW (j:=3) rfl;have m4:=cells_at xW (j:=4) rfl;have m5:=cells_at xW (j:=5) rfl;have m6:=cells_at xW (j:=6) rfl;clear xW;go_simp;rfl);go_frame))
 apply H2.jX rfl rfl rfl
 intro K hK
 go_wp2_with fail
 refine hK _ _ (fun _=>KD.out.pure.alloc _) ?_
 clear hK
 apply H2.jX rfl rfl rfl
 intro K hK
 have ZG:=Z.out.1
 have he1: ∀(b:Act),b.tmps[89]?=some (Value.slice va L.length vc)->b.eval (.tmp 89)=Value.slice va L.length vc:=fun b hb=>by simp[Act.eval,Array.getD_eq_getD_getElem?,hb]
 have he2: ∀(b:Act),b.tmps[91]?=some (Value.slice (some ⟨W4.heap.size,0,none⟩) 1 1)->b.eval (.tmp 91)=Value.slice (some ⟨W4.heap.size,0,none⟩) 1 1:=fun b hb=>by simp[Act.eval,Array.getD_eq_getD_getElem?,hb]
 refine xX (.tmp 89) (.tmp 91) 22 rfl (.slice va L.length vc) (.slice (some ⟨W4.heap.size,0,none⟩) 1 1) (.slice iH (L.length+1) LU) (he1 _ (by simp)) (he2 _ (by simp)) ZG ?_
 refine hK _ _ (fun _=>KD.out.pure.trans Z.out.2.2.1) ?_
 clear hK
 go_frame
 iterate 2 (apply H2.jW rfl rfl;(intro W;go_simp;rfl);go_frame)
 apply H2.uo rfl rfl rfl
 intro K2 hK2
 go_wp2_with fail
 apply H2.uq
 go_wp2_with fail
 go_ret
 exact Z.out.2.1
theorem Nb (s uid kw:ByteArray)(ins:List ByteArray)(k:Nat)(y:Ex)(J lo:Nat)(par:Int)(L:List JN)(w:World)(hl:qg L s uid kw ins k (some y))(jv:Value)(D0:Nat->Prop)(h:jk w J lo par L jv D0)(hu:uid.size<=maxLen)(hil:ins.length<=1000)(hnl:L.length<=1000):
 Calls Tryz.prog 124 #[.pointer (some ⟨J,0,none⟩), .string s, .bool false] w (vX w J lo par (L++[jP L uid ins k (some y)]) jv D0):=by
 obtain⟨hw,hk,hk1,QT,hf,hco,hhx,hsz,hex⟩:=hl
 have hk9:k<=9:=by
  have:=(List.getElem?_eq_some_iff.1 hk).1
  have h10:kH.length=10:=rfl
  omega
 have c1:=uX s (by unfold maxLen;omega) w
 rw[hco]at c1
 obtain⟨ah,hah⟩: ∃ah,(ig s).1=ah:=⟨_,rfl⟩
 obtain⟨bh,Gm⟩: ∃bh,(ig s).2.1=bh:=⟨_,rfl⟩
 rw[hah,Gm]at c1
 rw[hah]at hw
 rw[Gm]at hex
 simp only[Option.isSome_some,Option.isSome_none]at c1 hhx
 have HS:=Lib.hid (And.intro h (And.intro hw (And.intro hk (And.intro hf (And.intro hex hhx)))))
 clear h hw hk hf hex hco hah Gm hhx
 go_enter Tryz.func124,Tryz.ntmps124
 go_wp2_with fail
 (with_reducible refine c1.mono ?_)
 clear c1
 rintro e w1 ⟨rfl,k1⟩
 have c2:=wI ah _ HS.out.2.1 w1
 go_wp2_with fail
 (with_reducible refine c2.mono ?_)
 clear c2
 rintro e w2 ⟨v,rfl,hown,k2⟩
 have hrd:=Reads.bQ hown
 obtain⟨pa,ca,rfl⟩:=ay hown
 have xE:=k1.trans k2
 have st2:=HS.out.1.pure xE
 have hj:=st2.obj
 have hjb:=st2.job
 have j0:=cells_at hj (j:=0) rfl
 have j1:=cells_at hj (j:=1) rfl
 have c3:Calls Tryz.prog 158 #[.agg #[.int .i64 par,jv], .slice pa (ins.length+1+1) ca] w2 (vW w2 ⟨uid,(k:Int),ins.map (aA L), .mk 0 0 [],0⟩):=Fe ⟨par,L⟩ #[.int .i64 par,jv] uid kw ins k _ w2 hjb hrd HS.out.2.2.1 hk1 QT HS.out.2.2.2.1 hu hil hnl
 have hJ2:J<w2.heap.size:=(Array.getElem?_eq_some_iff.1 hj).1
 have Hb:=Lib.hid (And.intro xE st2)
 clear hown hrd k1 k2 xE st2 hj hjb
 go_wp2_with fail
 (with_reducible refine c3.mono ?_)
 clear c3
 rintro e w3 ⟨pi,ci,p0,tq,D,rfl,hd,hD,k3⟩
 have hcells:aZ ⟨uid,(k:Int),ins.map (aA L), .mk 0 0 [],0⟩ pi ci p0 tq= #[.string uid, .int .u8 (k:Int), .slice pi ins.length ci, .int .u8 0, .int .i64 0, .slice p0 0 tq, .int .i64 0]:=by simp[aZ,Ex.op,Ex.n,Ex.args]
 rw[hcells]at hd⊢
 have qo:=Hb.out.2.pure k3
 obtain⟨W4,gJ⟩: ∃W4,w3.alloc (.cells #[.string uid, .int .u8 (k:Int), .slice pi ins.length ci, .int .u8 0, .int .i64 0, .slice p0 0 tq, .int .i64 0] 42)=W4:=⟨_,rfl⟩
 have k34:Kept none' w3 W4:=by rw[<-gJ];exact(Kept.refl _ _).alloc _
 have x4:W4.heap[w3.heap.size]?=some (.cells #[.string uid, .int .u8 (k:Int), .slice pi ins.length ci, .int .u8 0, .int .i64 0, .slice p0 0 tq, .int .i64 0] 42 (0,0)):=by rw[<-gJ];exact heap_alloc_new _ _
 have TY:W4.heap.size=w3.heap.size+1:=by rw[<-gJ];simp
 have ch:=Jp (k:Int) W4
 have hhk:(decide (2<=(k:Int))&&decide ((k:Int)<=6))=true:=by
  have:=HS.out.2.2.2.2.2
  rw[show decide (2<=(k:Int))=decide (2<=k)from decide_eq_decide.2 (by omega),show decide ((k:Int)<=6)=decide (k<=6)from decide_eq_decide.2 (by omega),<-this]
 rw[hhk]at ch
 have H3:=Lib.hid (And.intro (k3.trans k34) (And.intro (hd.kept k34 (fun _ _ h=>h)) (And.intro hD (And.intro ((Hb.out.1.trans k3).trans k34) (And.intro x4 k3.size)))))
 have Vk:=Lib.hid gJ
 have b1:=cells_at x4 (j:=1) rfl
 have b3:=cells_at x4 (j:=3) rfl
 have b4:=cells_at x4 (j:=4) rfl
 have b5:=cells_at x4 (j:=5) rfl
 have g3:=free_at x4 3
 have g4:=free_at x4 4
 have g5:=free_at x4 5
 have Jq:w3.heap.size<W4.heap.size:=by omega
 rw[<-gJ]at b1 Jq
 clear hd hD k3 qo hhk gJ k34 x4
 go_wp2_with fail
 rw[Vk.out]at b1 Jq⊢
 (with_reducible refine ch.mono ?_)
 clear ch
 rintro e w5 ⟨rfl,rfl⟩
 clear b1
 obtain⟨tl,htl,hts,WO,htx,htd⟩:=HS.out.2.2.2.2.1 y rfl
 have ct:Calls Tryz.prog 161 #[.string bh, .string ⟨#[32,9]⟩] W4 fun e w'=>e= .returned (.string ⟨(Lib.trimLeftS bh.data.toList [32,9]).toArray⟩)/\Below W4.heap.size W4 w':=
  Any.strings_TrimLeft_laid Tryz.trimLeftL (by kernel_rfl) bh ⟨#[32,9]⟩ W4 (by decide) (ascii_of_all (by decide))
 rw[htl]at ct
 clear b3 b4 b5 g3 g4 g5
 go_wp2_with fail
 (with_reducible refine ct.mono ?_)
 clear ct
 rintro e w5 ⟨rfl,kb⟩
 have k5:Kept none' W4 w5:= .of_below kb
 have ce:=Qj ⟨tl.toArray⟩ hts WO y htx htd w5
 have K5:=Lib.hid k5
 clear k5 kb htl hts WO htx htd
 go_wp2_with fail
 (with_reducible refine ce.mono ?_)
 clear ce
 rintro e w6 ⟨p,c,Dx,rfl,hx,UW,k6⟩
 have sV:=K5.out.trans k6
 have x6:=sV.heap H3.out.2.2.2.2.1 (fun h=>h)
 have b3:=cells_at x6 (j:=3) rfl
 have b4:=cells_at x6 (j:=4) rfl
 have b5:=cells_at x6 (j:=5) rfl
 have g3:=free_at x6 3
 have g4:=free_at x6 4
 have g5:=free_at x6 5
 have UH:w3.heap.size<w6.heap.size:=(Array.getElem?_eq_some_iff.1 x6).1
 have hdj:jM w6 D (aZ ⟨uid,(k:Int),ins.map (aA L), .mk 0 0 [],0⟩ pi ci p0 tq) ⟨uid,(k:Int),ins.map (aA L), .mk 0 0 [],0⟩:=by rw[hcells];exact H3.out.2.1.kept sV (fun _ _ h=>h)
 have WT:=hdj.Vq hx
 obtain⟨s7,k7⟩:=OM x6 (.int .u8 y.op) (.int .i64 y.n) (.slice p y.args.length c)
 obtain⟨W7,UM⟩: ∃W7,((w6.setCell ⟨w3.heap.size,3,none⟩ (.int .u8 y.op)).setCell ⟨w3.heap.size,4,none⟩ (.int .i64 y.n)).setCell ⟨w3.heap.size,5,none⟩ (.slice p y.args.length c)=W7:=⟨_,rfl⟩
 rw[UM]at s7 k7
 have hs5:=K5.out.size
 have hs7:=k7.size
 have hs6:=k6.size
 have TV:w2.heap.size<=w3.heap.size:=H3.out.2.2.2.2.2
 have Uw:=WT.kept k7 (fun q hq hs=>by
  unfold one at hs
  rcases hq with hq|hq
  ·have:=H3.out.2.2.1 q hq;omega
  ·have:=UW q hq;omega)
 have k27:Kept none' w2 W7:=(H3.out.1.trans sV).new k7 (fun i hi hs=>by unfold one at hs;omega)
 have mP:Kept none' w W7:=(H3.out.2.2.2.1.trans sV).new k7 (fun i hi hs=>by unfold one at hs;have:=(H3.out.2.2.2.1).size;have:=Hb.out.1.size;omega)
 have OC: ∀q,(D q\/Dx q)->w2.heap.size<=q/\q<W7.heap.size:=fun q hq=>by
  rcases hq with hq|hq
  ·have:=H3.out.2.2.1 q hq;omega
  ·have:=UW q hq;omega
 have HH:=Lib.hid (And.intro Uw (And.intro k27 (And.intro mP (And.intro s7 OC))))
 have HW7:=Lib.hid UM
 have Xb:J<w6.heap.size:=by omega
 clear WT hdj hx UW k6 sV x6 Uw k27 mP s7 OC k7 UM
 go_wp2_with fail
 rw[HW7.out]
 have XJ:aZ ⟨uid,(k:Int),ins.map (aA L),y,0⟩ pi ci p c= #[.string uid, .int .u8 (k:Int), .slice pi ins.length ci, .int .u8 y.op, .int .i64 y.n, .slice p y.args.length c, .int .i64 0]:=by simp[aZ]
 have hxs:W7.heap[w3.heap.size]?=some (.cells #[.string uid, .int .u8 (k:Int), .slice pi ins.length ci, .int .u8 y.op, .int .i64 y.n, .slice p y.args.length c, .int .i64 0] 42 (0,0)):=HH.out.2.2.2.1
 have kD:Kept none' W7 W7.drew:=(Kept.refl _ _).drew
 have rQ:Kept none' w2 W7.drew:=(HH.out.2.1).trans kD
 obtain⟨h1,⟨cs,h2,h4⟩,h3,h5,h6,h7⟩:=Hb.out.2
 obtain⟨va,vc,rfl⟩:=ay h2
 have hown2: ∀q,(Value.slice va L.length vc).ownBlock=some q->lo<=q/\q<w2.heap.size:=fun q hq=>h2.lt q hq
 have zq:=rQ.size
 have hdd:=(HH.out.1).kept kD (fun _ _ h=>h)
 have XI:w3.heap.size<W7.heap.size:=(Array.getElem?_eq_some_iff.1 hxs).1
 have TV:w2.heap.size<=w3.heap.size:=H3.out.2.2.2.2.2
 have hEE: ∀q,(D q\/Dx q)->lo<=q/\q<W7.drew.heap.size/\(Value.slice va L.length vc).ownBlock≠some q:=fun q hq=>by
  have hb:=HH.out.2.2.2.2 q hq
  have hd0:W7.drew.heap.size=W7.heap.size:=rfl
  exact⟨by omega,by omega,fun e=>by have:=(hown2 q e).2;omega⟩
 obtain⟨v',w6,g1,g2,g3,g4⟩:=Dh (w:=W7.drew) (rQ.owns h2 (fun _ _ h=>h)) (aZ ⟨uid,(k:Int),ins.map (aA L),y,0⟩ pi ci p c).toList rfl (by intro z hz;simp[aZ]at hz;rcases hz with rfl|rfl|rfl|rfl|rfl|rfl|rfl<;>rfl) (Nat.le_trans h6 zq) (by omega)
 have hP:=jk.push (rQ.heap h1 (fun h=>h)) (rQ.owns h2 (fun _ _ h=>h)) (fun q hq=>⟨(h3 q hq).1,Nat.lt_of_lt_of_le (h3 q hq).2.1 zq,(h3 q hq).2.2⟩) (fun i d hd=>(h4 i d hd).kept rQ (fun _ _ h=>h)) h5 (Nat.le_trans h6 zq) h7 hdd hEE g2 g3 g4
 obtain⟨iH,LU,rfl⟩:=ay g2
 have o1:=cells_at (((HH.out.2.1)).heap h1 (fun h=>h)) (j:=1) rfl
 have hjn:J≠w3.heap.size:=by omega
 have Xa:J<W7.heap.size:=by have:=(Array.getElem?_eq_some_iff.1 h1).1;have:W7.drew.heap.size=W7.heap.size:=rfl;omega
 have XH:=Hb.out.1.size
 have F:vX w J lo par (L++[jP L uid ins k (some y)]) (.slice va L.length vc) D0 (.returned (.int .i64 0)) (w6.setCell ⟨J,1,none⟩ (.slice iH (L.length+1) LU)):=⟨rfl,_,_,hP.1,fun q hq=>(g4 q hq).imp id (fun h=>by have:W7.drew.heap.size=W7.heap.size:=rfl;omega),fun q hq=>hq.imp id (fun h=>by have:=HH.out.2.2.2.2 q h;omega),((HH.out.2.2.1).trans kD).pure.new hP.2 (fun i hi hs=>hs)⟩
 have Ap:=g3.heap (rQ.heap h1 (fun h=>h)) (fun h=>by have:=hown2 J h;omega)
 have j61:=cells_at Ap (j:=1) rfl
 have jf6:=free_at Ap 1
 have Xb:J<w6.heap.size:=(Array.getElem?_eq_some_iff.1 Ap).1
 have HJ:aZ ⟨uid,(k:Int),ins.map (aA L),y,0⟩ pi ci p c= #[.string uid, .int .u8 (k:Int), .slice pi ins.length ci, .int .u8 y.op, .int .i64 y.n, .slice p y.args.length c, .int .i64 0]:=by exact XJ
 rw[HJ]at g1
 have Qc: ∀o,W7.drew.alloc o=(W7.alloc o).drew:=fun o=>rfl
 have Qb:W7.drew.heap.size=W7.heap.size:=rfl
 rw[Qc,Qb]at g1
 have Z:=Lib.hid (And.intro g1 (And.intro F (And.intro g3 (And.intro hxs (And.intro o1 hown2)))))
 have KD:=Lib.hid kD
 clear g1 g2 g3 g4 hP F h1 h2 h3 h4 hdd hEE rQ kD o1 hown2 Ap HJ
 refine H2.kG [0,1,2,3,4,5,6,7,8,9,10] (fun W=>Kept (fun q=>(Value.slice va L.length vc).ownBlock=some q) W7 W) (by kernel_rfl) (by kernel_rfl) rfl KD.out.pure ?_
 simp only[List.map_cons,List.map_nil,List.getElem?_toArray,List.getElem?_cons_zero,List.getElem?_cons_succ,Option.getD_some]
 iterate 6 (first|(apply H2.jW rfl rfl;(intro W;go_simp;rfl);go_frame)|(apply H2.rC rfl rfl rfl;(intro W hW;have oW:=hW.cell (p:=⟨J,1,none⟩) (fun h=>by have:=Z.out.2.2.2.2.2 J h;omega) Z.out.2.2.2.2.1;have xW:=hW.heap Z.out.2.2.2.1 (fun h=>by have:=Z.out.2.2.2.2.2 _ h;omega);have m0:=cells_at xW (j:=0) rfl;have m1:=cells_at xW (j:=1) rfl;have m2:=cells_at xW (j:=2) rfl;have m3:=cells_at xW (j:=3) rfl;have m4:=cells_at xW (j:=4) rfl;have m5:=cells_at xW (j:=5) rfl;have m6:=cells_at xW (j:=6) rfl;clear xW;go_simp;rfl);go_frame))
 apply H2.jX rfl rfl rfl
 intro K hK
 go_wp2_with fail
 refine hK _ _ (fun _=>KD.out.pure.alloc _) ?_
 clear hK
 apply H2.jX rfl rfl rfl
 intro K hK
 have ZG:=Z.out.1
 have he1: ∀(b:Act),b.tmps[89]?=some (Value.slice va L.length vc)->b.eval (.tmp 89)=Value.slice va L.length vc:=fun b hb=>by simp[Act.eval,Array.getD_eq_getD_getElem?,hb]
 have he2: ∀(b:Act),b.tmps[91]?=some (Value.slice (some ⟨W7.heap.size,0,none⟩) 1 1)->b.eval (.tmp 91)=Value.slice (some ⟨W7.heap.size,0,none⟩) 1 1:=fun b hb=>by simp[Act.eval,Array.getD_eq_getD_getElem?,hb]
 refine xX (.tmp 89) (.tmp 91) 22 rfl (.slice va L.length vc) (.slice (some ⟨W7.heap.size,0,none⟩) 1 1) (.slice iH (L.length+1) LU) (he1 _ (by simp)) (he2 _ (by simp)) ZG ?_
 refine hK _ _ (fun _=>KD.out.pure.trans Z.out.2.2.1) ?_
 clear hK
 go_frame
 iterate 2 (apply H2.jW rfl rfl;(intro W;go_simp;rfl);go_frame)
 apply H2.uo rfl rfl rfl
 intro K2 hK2
 go_wp2_with fail
 apply H2.uq
 go_wp2_with fail
 go_ret
 exact Z.out.2.1
end Go.Proofs.YtglbkodmmogomaaGreatDoor
